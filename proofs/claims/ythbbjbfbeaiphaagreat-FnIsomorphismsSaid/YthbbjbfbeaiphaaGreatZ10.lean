/- Several texts of this session as one, less what the claim does not need. -/
import Derived.Test.YthbbjbfbeaiphaaGreatZ9
import Derived.Test.YthbbjbfbeaiphaaGreatFC
import Derived.Test.YthbbjbfbeaiphaaGreatCb
import Derived.Test.YthbbjbfbeaiphaaGreatZ8
import Derived.Test.YthbbjbfbeaiphaaGreatZ7
import Derived.Test.YthbbjbfbeaiphaaGreatG1
section
/- Bytes as a law's argument, and as abstract values. -/
namespace Go.Kv
open Go.ChangeShapes
set_option linter.unusedVariables false
set_option linter.unusedSimpArgs false
/-- Bytes. -/
def u8s (l : List Int) : List PV := l.map (PV.int .u8)
@[simp] theorem u8s_length (l : List Int) : (u8s l).length = l.length := by simp [u8s]
attribute [go_sem] u8s_length
theorem u8s_get {l : List Int} {i : Nat} {x : PV} (h : (u8s l)[i]? = some x) : ∃ z, l[i]? = some z ∧ x = .int .u8 z := by
  simp only [u8s, List.getElem?_map, Option.map_eq_some_iff] at h
  obtain ⟨y, hy, rfl⟩ := h
  exact ⟨y, hy, rfl⟩
instance (l : List Int) : Still (.list (u8s l)) := Still.list fun x hx => by
  obtain ⟨m, _, rfl⟩ := List.mem_map.1 hx
  refine ⟨⟨(Plain.int _ _).up, (Plain.int _ _).rn⟩, fun c hc => ?_⟩
  simp only [PV.cs, List.mem_singleton] at hc
  subst hc
  exact (Plain.int _ _).up
variable {H : Type} {enc : TypeId × Value → H} {P : Program} {W : World} {sp : Nat → Bool} {held : Bool}
theorem rel_bytes {t e : TypeId} {fuel : Nat} {cs : List Value} {x : DataW H × List MemPlace} (ht : P.underlying t = some (.slice e)) (he : P.underlying e = some (.int .u8)) (hc : P.cellsOf e = 1)
    (h : DataW.trod enc P W 0 sp held fuel t cs = some x) : ∃ (v : Value) (l : List Int), cs = [v] ∧ Rel (allFrz W) [] (.list (u8s l)) v ∧ l.length ≤ maxLen ∧ ∀ z ∈ l, 0 ≤ z ∧ z ≤ 255 := by
  rcases DataW.trod_slice ht h with ⟨rfl, _⟩ | ⟨a, len, cap, elems, rest, n, _, rfl, _, _, hlc, hcm, hel, hget, _, _⟩
  · exact ⟨_, [], rfl, .listn, by simp, by simp⟩
  · obtain ⟨l, hll, hq⟩ := choose_list (0 : Int) (fun i z => (0 ≤ z ∧ z ≤ 255) ∧ W.cell? (a.add (i * 1 + 0)) = some (.int .u8 z)) len (fun i hi => by
      have hg := hget i hi
      rw [List.getElem?_eq_getElem (by omega), hc, Option.bind_eq_some_iff] at hg
      obtain ⟨cs', hcs, htr⟩ := hg
      obtain ⟨z, hz, _, hw⟩ := DataW.trod_int he htr
      refine ⟨z, ?_, ?_⟩
      · simp only [Lit.wf, Bool.and_eq_true, decide_eq_true_eq] at hw
        exact hw
      · have := (World.cells?_some hcs).2.2 0 (by omega)
        rw [hz] at this
        rw [Addr.add_add] at this
        exact this)
    refine ⟨_, l, rfl, ?_, by omega, fun z hz => ?_⟩
    · have := list_rel (W := W) (a := a) (cap := cap) (esz := 1) (xs := u8s l) (by rw [u8s_length, hll]; exact hlc) (by omega) (fun x hx => by
        simp only [u8s, List.mem_map] at hx
        obtain ⟨y, _, rfl⟩ := hx
        exact ⟨rfl, rfl⟩) (fun i x j c hx hcj => by
        obtain ⟨y, hy, rfl⟩ := u8s_get hx
        have hj : j = 0 ∧ c = .int .u8 y := by
          cases j with
          | zero => simp [PV.cs] at hcj; exact ⟨rfl, hcj.symm⟩
          | succ j => simp [PV.cs] at hcj
        obtain ⟨rfl, rfl⟩ := hj
        have hi := (List.getElem?_eq_some_iff.1 hy).1
        have h2 := (hq i (by omega)).2
        rw [List.getD_eq_getElem?_getD, hy] at h2
        exact ⟨.int .u8 y, h2, .int _ _⟩)
      rw [u8s_length, hll] at this
      exact this
    · obtain ⟨i, hi⟩ := List.getElem?_of_mem hz
      have hlt := (List.getElem?_eq_some_iff.1 hi).1
      have := (hq i (by omega)).1
      rw [List.getD_eq_getElem?_getD, hi] at this
      exact this
theorem arg_bytes {r : Reach} {b : Nat} {t e : TypeId} {v : Value} {d : DataW H} {ps : List MemPlace} (ht : P.underlying t = some (.slice e)) (he : P.underlying e = some (.int .u8)) (hc : P.cellsOf e = 1)
    (hv : Value.okWide P W r b t v) (h : DataW.Trod enc P W 0 sp held t v d ps) : ∃ l : List Int, Rel (allFrz W) [] (.list (u8s l)) v ∧ l.length ≤ maxLen ∧ ∀ z ∈ l, 0 ≤ z ∧ z ≤ 255 := by
  obtain ⟨fuel, h⟩ := h
  rw [arg_slice ht hv] at h
  obtain ⟨u, l, hu, h1, h2, h3⟩ := rel_bytes ht he hc h
  cases hu
  exact ⟨l, h1, h2, h3⟩
end Go.Kv
end
section
/- A call that works on one object of its own, while all else is lent. A framework of this session's own: nothing here speaks of a program. -/
namespace Go.Kv
set_option linter.unusedVariables false
def AObj.plain : AObj → Prop
  | .dead => True
  | .box cs => ∀ c ∈ cs, Plain c
  | .arr _ _ _ xs => ∀ c ∈ flat xs, Plain c
theorem Plain.rel {c : PV} (h : Plain c) {φ φ' : Frz} {ι ι' : List KLoc} {v : Value} (hr : Rel φ ι c v) : Rel φ' ι' c v := by
  have h1 := h.up _ _ _ hr
  have h2 := h.fr φ φ' _ _ h1
  exact h2.mono (.refl _) (fun id l hl => by simp at hl)
theorem RelL.plain {cs : List PV} (h : ∀ c ∈ cs, Plain c) {φ φ' : Frz} {ι ι' : List KLoc} {vs : List Value} (hr : RelL φ ι cs vs) : RelL φ' ι' cs vs :=
  ⟨hr.1, fun i c v hc hv => (h c (List.mem_of_getElem? hc)).rel (hr.2 i c v hc hv)⟩
theorem ObjOK.plain {φ φ' : Frz} {ι ι' : List KLoc} {w : World} {o : AObj} {l : KLoc} (hp : o.plain) (h : ObjOK φ ι w o l) : ObjOK φ' ι' w o l := by
  cases o with
  | dead => cases l <;> simp [ObjOK]
  | box cs =>
    cases l <;> simp only [ObjOK] at h ⊢
    obtain ⟨C, e, h1, h2, h3⟩ := h
    exact ⟨C, e, h1, h2.plain hp, h3⟩
  | arr v e s xs =>
    cases l <;> simp only [ObjOK] at h ⊢
    obtain ⟨h1, h2, h2', h3, ys, h4, h5, h6⟩ := h
    exact ⟨h1, h2, h2', h3, ys, h4, h5.plain hp, h6⟩
end Go.Kv
end
section
/- One slice is frozen ahead of a loop, while the others stay one's own. A framework of this session's own: nothing here speaks of a program. -/
namespace Go.Kv
set_option linter.unusedVariables false
/-- What becomes of a value as object id is frozen. -/
def Gv (σ : Heap) (id : Nat) (c d : PV) : Prop := Imm (solo σ id) c d ∨ (c = d ∧ ∃ j ver off len, j ≠ id ∧ c = .ref j ver off len)
theorem give_trN (n : Nat) {φ : Frz} {ι : List KLoc} {σ : Heap} {w : World} (ho : HOK φ ι σ w) {id ver esz : Nat} {e : TypeId} {xs : List PV} (hid : σ[id]? = some (.arr ver e esz xs)) :
    ∃ φ1 ι1, HOK φ1 ι1 (σ.set id .dead) w ∧ Tr n φ ι w φ1 ι1 w ∧ ∀ c d v, Gv σ id c d → Rel φ ι c v → Rel φ1 ι1 d v := by
  have hlt := (List.getElem?_eq_some_iff.1 hid).1
  have hltι : id < ι.length := by rw [ho.len]; exact hlt
  have hl : ι[id]? = some ι[id] := List.getElem?_eq_getElem hltι
  have hobj := ho.obj id _ _ hid hl
  obtain ⟨k, e', s, u, hu⟩ : ∃ k e' s u, ι[id] = KLoc.arr k e' s u := by
    cases hx : ι[id] with
    | dead => rw [hx] at hobj; exact hobj.elim
    | box b => rw [hx] at hobj; exact hobj.elim
    | arr k e' s u => exact ⟨k, e', s, u, rfl⟩
  rw [hu] at hl
  obtain ⟨ho1, hLe⟩ := ho.upd (w' := w) (l' := .arr (k + 1) e' s (.slice none 0 0)) (o := .dead) hl (by simp [KLoc.le]) (Nat.le_refl _) (fun _ _ _ => rfl) (fun b hb => by simp [KLoc.block, Value.ownBlock] at hb) (fun b hb => by simp [KLoc.block, Value.ownBlock] at hb) trivial
  let φ1 : Frz := fun b => if u.ownBlock = some b then allFrz w b else φ b
  have hle : FLe φ φ1 := fun b C hb => by
    show (if u.ownBlock = some b then allFrz w b else φ b) = some C
    split
    · rename_i hb2
      have := ho.nf id _ b hl hb2
      rw [this] at hb; cases hb
    · exact hb
  have hin : ∀ (j : Nat) (x : KLoc) (b : Nat), (ι.set id (.arr (k + 1) e' s (.slice none 0 0)))[j]? = some x → x.block = some b → id ≠ j ∧ ι[j]? = some x := fun j x b hx hb => by
    by_cases ej : id = j
    · subst ej; rw [List.getElem?_set_self hltι] at hx; cases hx
      simp [KLoc.block, Value.ownBlock] at hb
    · rw [List.getElem?_set_ne ej] at hx; exact ⟨ej, hx⟩
  have ho2 : HOK φ1 (ι.set id (.arr (k + 1) e' s (.slice none 0 0))) (σ.set id .dead) w := by
    refine ⟨ho1.len, fun b C hb => ?_, fun j x b hx hb => ?_, ho1.dis, ho1.lt, fun j o x h1 h2 => (ho1.obj j o x h1 h2).keep hle (.refl _) (fun _ _ => rfl)⟩
    · replace hb : (if u.ownBlock = some b then allFrz w b else φ b) = some C := hb
      split at hb
      · exact (allFrz_hok w).fz b C hb
      · exact ho.fz b C hb
    · obtain ⟨hj, hx'⟩ := hin j x b hx hb
      show (if u.ownBlock = some b then allFrz w b else φ b) = none
      rw [if_neg fun hb2 : u.ownBlock = some b => hj (ho.dis id j _ x b hl hx' hb2 hb)]
      exact ho.nf j x b hx' hb
  have ht0 : Tr n φ ι w φ1 (ι.set id (.arr (k + 1) e' s (.slice none 0 0))) w := ⟨hle, hLe.of_take _, fun _ _ _ => rfl, Nat.le_refl _, fun b ⟨j, x, hx, hb⟩ => .inl ⟨j, x, (hin j x b hx hb).2, hb⟩, rfl, rfl, rfl, fun b C hb => by
    replace hb : (if u.ownBlock = some b then allFrz w b else φ b) = some C := hb
    split at hb
    · rename_i hb2; exact .inr (.inl ⟨id, _, hl, hb2⟩)
    · exact .inl hb⟩
  refine ⟨φ1, _, ho2, ht0, fun c d v hg hr => ?_⟩
  rcases hg with hi | ⟨rfl, j, vj, off, len, hj, rfl⟩
  · have := hi.rel (ho.solo id) hle (fun j o l' b C e f h1 h2 h3 h4 h5 => ?_) hr
    · exact this.mono (.refl _) (by simpa using LLe.append [] (ι.set id (KLoc.arr (k + 1) e' s (.slice none 0 0))))
    · by_cases ej : id = j
      · subst ej; rw [hl] at h3; cases h3
        show (if u.ownBlock = some b then allFrz w b else φ b) = some C
        rw [if_pos (show u.ownBlock = some b from h4)]; exact allFrz_own h5
      · exact absurd (solo_ne ej h1) h2
  · cases hr with
    | ref _ _ _ _ _ k e esz u hh ho' hk' hv' =>
      exact .ref j vj off len v k e esz u (by rw [List.getElem?_set_ne (Ne.symm hj)]; exact hh) ho' hk' hv'
/-- One slice is frozen ahead of a loop. -/
theorem KL_freezeAt {C : Cfg} {b : KC} {Q : Exit → Env → Heap → Prop} {env env0 env' : Env} {σ : Heap} (live : List Nat) (hn : C.n0 = 0) (hE : keep live env = env0) {id ver esz : Nat} {e : TypeId} {xs : List PV} (hid : σ[id]? = some (.arr ver e esz xs))
    (he : ∀ t, Gv σ id (Kv.look env0 t) (Kv.look env' t)) (h : KL C b Q env' (σ.set id .dead)) : KL C b Q env σ := by
  refine KL_keep live ?_
  rw [hE]
  intro c hc φ ι a w h1 h2
  obtain ⟨φ1, ι1, hok, htr, hrel⟩ := give_trN 0 h1 hid
  have := h c hc φ1 ι1 a w hok ⟨⟨h2.1.sz, h2.1.df, fun t => hrel _ _ _ (he t) (h2.1.rel t)⟩, by simp [hn]⟩
  refine this.mono fun e a' w' ⟨φ', ι', env', σ', g1, g2, g3, g4⟩ => ⟨φ', ι', env', σ', ?_, g2, g3, g4⟩
  rw [hn] at g1 ⊢
  exact htr.trans g1
/-- One slice is frozen as it is handed back, while all else stays one's own. -/
theorem Fin.giveAt {n0 : Nat} {K : PV → Heap → Prop} {v v' : PV} {σ : Heap} {id ver esz : Nat} {e : TypeId} {xs : List PV} (hid : σ[id]? = some (.arr ver e esz xs)) (hg : Gv σ id v v') (h : K v' (σ.set id .dead)) : Fin n0 K v σ :=
  ⟨v', σ.set id .dead, fun φ ι w x _ ho hr => by
    obtain ⟨φ1, ι1, h1, h2, h3⟩ := give_trN n0 ho hid
    exact ⟨φ1, ι1, h2, h1, h3 _ _ _ hg hr⟩, h⟩
end Go.Kv
end
section
/- The source of the draws: numbers. -/
namespace Go.Proofs.YthbbjbfbeaiphaaGreat
open Go.Kv
set_option maxRecDepth 100000
def k5 : KC := (.seq (.ops [oP 2 (.mv (.c (.bool false)))])
  (.seq (.ops [mV 3 0, oP 4 (.len false (.t 3)), oP 5 (.bin .gtr (.t 4) (iC 4096)), mV 2 5])
  .ret))
theorem e5 : Ent 5 6 [] [.t 2] k5 := ent Tryz.func5 (by kernel_rfl) (by kernel_rfl) (by kernel_rfl) (fun _ => by kernel_rfl) (by kernel_rfl)
def k55_b0 : KC := (.seq (.seq (.ops [mV 12 4, mV 13 0, oP 14 (.len false (.t 13)), oP 15 (.bin .lss (.t 12) (.t 14)), mV 16 15, ⟨(some 17), some (16, true), .mv (.t 4)⟩, ⟨(some 18), some (16, true), .bin .lss (.t 17) (iC 4096)⟩, oP 19 (.pick (.t 16) (.t 18) (.c (.bool false)))])
  (.cond (.t 19) .skip (.exit 0)))
  (.seq (.block 1 (.draw [mV 22 3, mV 23 3, oP 24 (.nilck (.t 23)), oP 25 (.fieldA 2 (.t 24)), oP 26 (.load false 1 (.t 25)), oP 27 (.bin .mul (.t 26) (.c (.int .u64 1099511628211))), mV 28 0, mV 29 4, oP 30 (.idxS 1 (.t 28) (.t 29)), oP 31 (.load false 1 (.t 30)), oP 32 (.conv .u64 (.t 31)), oP 33 (.bin .add (.t 27) (.t 32)), oP 34 (.bin .add (.t 33) (.c (.int .u64 181))), oP 35 (.nilck (.t 22)), oP 36 (.fieldA 2 (.t 35)), ⟨none, none, .store 1 (.t 36) (.t 34)⟩]))
  (.ops [mV 20 4, oP 21 (.bin .add (.t 20) (iC 1)), mV 4 21])))
def k55 : KC := (.seq (.ops [oP 2 (.mv (.c (.nilptr)))])
  (.seq (.ops [mV 5 0, mV 6 0, oP 7 (.len false (.t 6)), oP 8 (.conv .u64 (.t 7)), oP 9 (.bin .add (.c (.int .u64 13591)) (.t 8)), oP 10 (.build [.nils, .int .i64 0, .int .u64 0] [(0, 1, (.t 5)), (2, 1, (.t 9))]), oP 11 (.box false (.t 10)), mV 3 11])
  (.seq (.seq (.ops [oP 4 (.mv (iC 0))])
  (.block 0 (.loop k55_b0)))
  (.seq (.ops [mV 37 3, mV 2 37])
  .ret))))
theorem e55 : Ent 55 38 [] [.t 2] k55 := ent Tryz.func55 (by kernel_rfl) (by kernel_rfl) (by kernel_rfl) (fun _ => by kernel_rfl) (by kernel_rfl)
def k56 : KC := (.seq (.ops [oP 4 (.mv (iC 0))])
  (.seq (.seq (.ops [mV 6 1, oP 7 (.bin .lss (.t 6) (iC 1))])
  (.cond (.t 7) (.seq (.ops [oP 4 (.mv (iC 0))])
  .ret) .skip))
  (.seq (.ops [mV 8 0, mV 9 0, oP 10 (.nilck (.t 9)), oP 11 (.fieldA 2 (.t 10)), oP 12 (.load false 1 (.t 11)), oP 13 (.bin .mul (.t 12) (.c (.int .u64 6364136223846793005))), oP 14 (.bin .add (.t 13) (.c (.int .u64 1442695040888963407))), oP 15 (.nilck (.t 8)), oP 16 (.fieldA 2 (.t 15)), ⟨none, none, .store 1 (.t 16) (.t 14)⟩])
  (.seq (.ops [mV 17 0, oP 18 (.nilck (.t 17)), oP 19 (.fieldA 2 (.t 18)), oP 20 (.load false 1 (.t 19)), oP 21 (.bin .shr (.t 20) (.c (.int .u64 33))), oP 22 (.bin .and (.t 21) (.c (.int .u64 16777215))), oP 23 (.conv .i64 (.t 22)), mV 5 23])
  (.seq (.seq (.draw [mV 24 0, oP 25 (.nilck (.t 24)), oP 26 (.fieldA 1 (.t 25)), oP 27 (.load false 1 (.t 26)), mV 28 0, oP 29 (.nilck (.t 28)), oP 30 (.fieldA 0 (.t 29)), oP 31 (.load false 1 (.t 30)), oP 32 (.len false (.t 31)), oP 33 (.bin .lss (.t 27) (.t 32))])
  (.cond (.t 33) (.seq (.draw [mV 34 5, mV 35 0, oP 36 (.nilck (.t 35)), oP 37 (.fieldA 0 (.t 36)), oP 38 (.load false 1 (.t 37)), mV 39 0, oP 40 (.nilck (.t 39)), oP 41 (.fieldA 1 (.t 40)), oP 42 (.load false 1 (.t 41)), oP 43 (.idxS 1 (.t 38) (.t 42)), oP 44 (.load false 1 (.t 43)), oP 45 (.conv .i64 (.t 44)), oP 46 (.bin .add (.t 34) (.t 45)), mV 5 46])
  (.ops [mV 47 0, mV 48 0, oP 49 (.nilck (.t 48)), oP 50 (.fieldA 1 (.t 49)), oP 51 (.load false 1 (.t 50)), oP 52 (.bin .add (.t 51) (iC 1)), oP 53 (.nilck (.t 47)), oP 54 (.fieldA 1 (.t 53)), ⟨none, none, .store 1 (.t 54) (.t 52)⟩])) .skip))
  (.seq (.ops [mV 55 5, mV 56 1, oP 57 (.bin .rem (.t 55) (.t 56)), mV 4 57])
  .ret))))))
theorem e56 : Ent 56 58 [] [.t 4] k56 := ent Tryz.func56 (by kernel_rfl) (by kernel_rfl) (by kernel_rfl) (fun _ => by kernel_rfl) (by kernel_rfl)
def k58 : KC := (.seq (.ops [oP 4 (.mv (iC 0))])
  (.seq (.ops [mV 5 1, mV 6 0, mV 7 1, oP 8 (.len false (.t 7)), oP 9 (.call (fC 56) [(.t 6), (.t 8)]), oP 10 (.idxS 1 (.t 5) (.t 9)), oP 11 (.load false 1 (.t 10)), mV 4 11])
  .ret))
theorem e58 : Ent 58 12 [] [.t 4] k58 := ent Tryz.func58 (by kernel_rfl) (by kernel_rfl) (by kernel_rfl) (fun _ => by kernel_rfl) (by kernel_rfl)
end Go.Proofs.YthbbjbfbeaiphaaGreat
namespace Go.Proofs.YthbbjbfbeaiphaaGreat
open Go.Kv
set_option linter.unusedVariables false
set_option linter.unusedSimpArgs false
attribute [local irreducible] ACall PCall KL
/-- The source, in the heap. -/
def srcO (l : List Int) (p : Nat) (h : Int) : AObj := .box [.list (u8s l), .int .i64 p, .int .u64 h]
def Src (σ : Heap) (b : Nat) (l : List Int) : Prop := ∃ (p : Nat) (h : Int), σ[b]? = some (srcO l p h) ∧ p ≤ l.length
/-- All else is kept. -/
def Kept (σ σ' : Heap) (b : Nat) : Prop := σ.length ≤ σ'.length ∧ ∀ j, j < σ.length → j ≠ b → σ'[j]? = σ[j]?
/-- Bytes, not too many. -/
def Byt (l : List Int) : Prop := l.length ≤ 4096 ∧ ∀ z ∈ l, 0 ≤ z ∧ z ≤ 255
theorem Kept.refl (σ : Heap) (b : Nat) : Kept σ σ b := ⟨Nat.le_refl _, fun _ _ _ => rfl⟩
theorem Kept.trans {σ τ ρ : Heap} {b : Nat} (h : Kept σ τ b) (h' : Kept τ ρ b) : Kept σ ρ b :=
  ⟨Nat.le_trans h.1 h'.1, fun j hj hb => (h'.2 j (Nat.lt_of_lt_of_le hj h.1) hb).trans (h.2 j hj hb)⟩
theorem Src.lt {σ : Heap} {b : Nat} {l : List Int} (h : Src σ b l) : b < σ.length := by
  obtain ⟨p, x, h, _⟩ := h
  exact (List.getElem?_eq_some_iff.1 h).1
theorem Kept.set {σ : Heap} {b : Nat} (o : AObj) : Kept σ (σ.set b o) b := ⟨by simp, fun j _ hb => List.getElem?_set_ne (Ne.symm hb)⟩
theorem Kept.app (σ τ : Heap) (b : Nat) : Kept σ (σ ++ τ) b := ⟨by simp, fun j hj _ => List.getElem?_append_left hj⟩
theorem Src.app {σ : Heap} {b : Nat} {l : List Int} (h : Src σ b l) (τ : Heap) : Src (σ ++ τ) b l := by
  have := h.lt
  obtain ⟨p, x, h, h2⟩ := h
  exact ⟨p, x, (List.getElem?_append_left this).trans h, h2⟩
theorem p5 (l : List Int) (hl : l.length ≤ 9223372036854775807) : Pure Tryz.prog 5 [.list (u8s l)] (.bool (decide (4096 < (l.length : Int)))) := by
  refine e5 (by simp) fun _ _ => ?_
  simp only [k5, argEnv, take6, List.drop_zero, Int.cast_ofNat_Int, go_sem, ↓reduceIte, Nat.reduceEqDiff, Nat.reduceAdd, Nat.reduceMul, Nat.reduceLeDiff, Nat.reduceLT, Int.reduceLE, Int.reduceLT, reduceCtorEq]
  exact Kv.Fin.still ⟨rfl, rfl⟩
theorem put3 (a b c d : PV) : putC [a, b, c] 2 [d] = [a, b, d] := by unfold putC; first | rfl | (split <;> rfl) | simp
theorem put31 (a b c d : PV) : putC [a, b, c] 1 [d] = [a, d, c] := by unfold putC; first | rfl | (split <;> rfl) | simp
/-- The low 24 bits. -/
def andV (a : Int) : Nat := (BitVec.ofInt 64 a &&& BitVec.ofInt 64 16777215).toNat
theorem andV_le (a : Int) : andV a ≤ 16777215 := by
  unfold andV
  rw [BitVec.toNat_and]
  exact Nat.le_trans Nat.and_le_right (by decide)
theorem wrapU64 {n : Nat} (h : n < 18446744073709551616) : IntKind.u64.wrap (n : Int) = n := by
  have : IntKind.u64.wrap (n : Int) = (n : Int) % 18446744073709551616 := by simp [IntKind.wrap, IntKind.bits, IntKind.signed]
  rw [this]; omega
theorem aInt_and24 (a : Int) (K : PV → Prop) : aInt .and .u64 a 16777215 K = K (.int .u64 (andV a)) := by
  have h := andV_le a
  have : IntKind.u64.wrap ((BitVec.ofInt 64 a &&& BitVec.ofInt 64 16777215).toNat : Int) = ((andV a : Nat) : Int) := wrapU64 (by omega)
  show K (.int .u64 (IntKind.u64.wrap ((BitVec.ofInt 64 a &&& BitVec.ofInt 64 16777215).toNat : Int))) = _
  rw [this]
theorem aInt_shrU (a b : Int) (K : PV → Prop) : aInt .shr .u64 a b K = ((0 ≤ b ∧ b ≤ (64 : Nat)) ∧ K (.int .u64 (a.fdiv (2 ^ b.toNat)))) := Eq.trans rfl rfl
theorem aWrapU (n : Int) (K : PV → Prop) : aWrap .u64 n K = K (.int .u64 (IntKind.u64.wrap n)) := Eq.trans rfl rfl
theorem u8s_getD {l : List Int} {i : Nat} (h : i < l.length) : (u8s l)[i]? = some (.int .u8 l[i]) := by simp [u8s, h]
theorem p56 {l : List Int} (hl : Byt l) {σ : Heap} {b : Nat} (hS : Src σ b l) (n : Int) {K : PV → Heap → Prop}
    (hK : ∀ (r : Int) σ', 0 ≤ r → (1 ≤ n → r < n) → Src σ' b l → Kept σ σ' b → σ'.length = σ.length → K (.int .i64 r) σ') : ACall Tryz.prog 56 [.ptr b 0, .int .i64 n] σ K := by
  have hlt := hS.lt
  obtain ⟨p, x, hb, hp⟩ := hS
  have hself : ∀ o, (σ.set b o)[b]? = some o := fun o => List.getElem?_set_self hlt
  have hset : ∀ o o', (σ.set b o).set b o' = σ.set b o' := fun o o' => List.set_set ..
  unfold srcO at hb
  refine e56 (by simp) fun _ _ => ?_
  simp only [k56, argEnv, take6, List.drop_zero, Int.cast_ofNat_Int, go_sem, ↓reduceIte, Nat.reduceEqDiff, Nat.reduceAdd, Nat.reduceMul, Nat.reduceLeDiff, Nat.reduceLT, Int.reduceLE, Int.reduceLT, reduceCtorEq]
  try simp only [OpK_eq, HKv, hb, hself, hset, put3, put31, aWrapU, aInt_and24, aInt_shrU, take6, List.drop_zero, Int.cast_ofNat_Int, go_sem, ↓reduceIte, Nat.reduceEqDiff, Nat.reduceAdd, Nat.reduceMul, Nat.reduceLeDiff, Nat.reduceLT, Int.reduceLE, Int.reduceLT, reduceCtorEq]
  generalize hV : andV _ = V
  have hV1 : V ≤ 16777215 := by rw [← hV]; exact andV_le _
  clear hV
  generalize IntKind.u64.wrap _ = x1
  refine ⟨fun h => ?_, fun h1 => ?_⟩
  · exact Kv.Fin.now (hK 0 σ (by omega) (fun h' => by omega) ⟨p, x, hb, hp⟩ (Kept.refl _ _) rfl)
  refine ⟨by omega, fun h2 => ⟨h2, fun y hy => ?_⟩, fun h2 => ?_⟩
  · have hpl : p < l.length := by omega
    rw [u8s_getD hpl] at hy; cases hy
    have hbt := hl.2 _ (List.getElem_mem hpl)
    have hcs : (PV.int .u8 l[p]).cs = [.int .u8 l[p]] := rfl
    rw [hcs]
    refine ⟨rfl, by simp, fun c hc => ?_⟩
    simp only [List.getElem?_cons_zero, Option.some.injEq] at hc
    subst hc
    have hpl2 := hl.1
    try simp only [OpK_eq, HKv, hself, hset, put3, put31, take6, List.drop_zero, Int.cast_ofNat_Int, go_sem, ↓reduceIte, Nat.reduceEqDiff, Nat.reduceAdd, Nat.reduceMul, Nat.reduceLeDiff, Nat.reduceLT, Int.reduceLE, Int.reduceLT, reduceCtorEq]
    iterate 6 (try refine ⟨by omega, ?_⟩)
    exact Kv.Fin.now (hK _ _ (Int.emod_nonneg _ (by omega)) (fun h' => Int.emod_lt_of_pos _ (by omega)) ⟨p + 1, x1, hself _, by omega⟩ (Kept.set _) (by simp))
  · try simp only [OpK_eq, HKv, hself, hset, take6, List.drop_zero, Int.cast_ofNat_Int, go_sem, ↓reduceIte, Nat.reduceEqDiff, Nat.reduceAdd, Nat.reduceMul, Nat.reduceLeDiff, Nat.reduceLT, Int.reduceLE, Int.reduceLT, reduceCtorEq]
    iterate 6 (try refine ⟨by omega, ?_⟩)
    exact Kv.Fin.now (hK _ _ (Int.emod_nonneg _ (by omega)) (fun h' => Int.emod_lt_of_pos _ (by omega)) ⟨p, x1, hself _, hp⟩ (Kept.set _) (by simp))
theorem getD_memD {l : List Int} {i : Nat} (h : i < l.length) : l.getD i 0 ∈ l := by
  rw [List.getD_eq_getElem?_getD, List.getElem?_eq_getElem h]; exact List.getElem_mem _
theorem p58 {l : List Int} (hl : Byt l) {σ : Heap} {b : Nat} (hS : Src σ b l) (L : List Int) (h0 : 1 ≤ L.length ∧ L.length ≤ 1000) {id ver : Nat} {e : TypeId} (hid : σ[id]? = some (.arr ver e 1 (ints L))) (hne : id ≠ b) (k : Nat) (hk : k = L.length) {K : PV → Heap → Prop}
    (hK : ∀ (r : Int) σ', r ∈ L → Src σ' b l → Kept σ σ' b → σ'.length = σ.length → K (.int .i64 r) σ') : ACall Tryz.prog 58 [.ptr b 0, .ref id ver 0 k] σ K := by
  subst hk
  refine e58 (by simp) fun _ _ => ?_
  simp only [k58, argEnv, take6, List.drop_zero, Int.cast_ofNat_Int, go_sem, ↓reduceIte, Nat.reduceEqDiff, Nat.reduceAdd, Nat.reduceMul, Nat.reduceLeDiff, Nat.reduceLT, Int.reduceLE, Int.reduceLT, reduceCtorEq]
  try simp only [OpK_eq, HKv, hid, take6, List.drop_zero, Int.cast_ofNat_Int, go_sem, ↓reduceIte, Nat.reduceEqDiff, Nat.reduceAdd, Nat.reduceMul, Nat.reduceLeDiff, Nat.reduceLT, Int.reduceLE, Int.reduceLT, reduceCtorEq]
  refine p56 hl hS _ fun r σ' h1 h2 h3 h4 h5 => ?_
  have hid2 := (h4.2 id (List.getElem?_eq_some_iff.1 hid).1 hne).trans hid
  have hrl := h2 (by omega)
  try simp only [OpK_eq, HKv, hid2, take6, List.drop_zero, Int.cast_ofNat_Int, go_sem, ↓reduceIte, Nat.reduceEqDiff, Nat.reduceAdd, Nat.reduceMul, Nat.reduceLeDiff, Nat.reduceLT, Int.reduceLE, Int.reduceLT, reduceCtorEq]
  exact ⟨by omega, by omega, fun _ => Kv.Fin.now (hK _ σ' (getD_memD (by omega)) h3 h4 h5)⟩
theorem p55 {l : List Int} (hl : Byt l) {K : PV → Heap → Prop} (hK : ∀ h, K (.ptr 0 0) [srcO l 0 h]) : ACall Tryz.prog 55 [.list (u8s l)] [] K := by
  have hll := hl.1
  refine e55 (by simp) fun _ _ => ?_
  simp only [k55, argEnv, aWrapU, take6, List.drop_zero, Int.cast_ofNat_Int, go_sem, ↓reduceIte, Nat.reduceEqDiff, Nat.reduceAdd, Nat.reduceMul, Nat.reduceLeDiff, Nat.reduceLT, Int.reduceLE, Int.reduceLT, reduceCtorEq]
  generalize IntKind.u64.wrap _ = h0
  refine KL_ind k55_b0.eq_1 (fun y : Nat × Int × PV × PV => [(0, .list (u8s l)), (3, .ptr 0 0), (4, .int .i64 y.1), (17, y.2.2.1), (18, y.2.2.2)]) (fun y => [srcO l 0 y.2.1]) (fun y => y.1 ≤ l.length) (fun y => l.length - y.1) [0, 3, 4, 17, 18] (0, h0, .undef, .undef) (by simp [keep]) (by rfl) (Nat.zero_le _) fun ⟨k, h, v1, v2⟩ hk ih => ?_
  simp only at hk
  have hb : ∀ h, [srcO l 0 h][0]? = some (.box [.list (u8s l), .int .i64 (0 : Nat), .int .u64 h]) := fun h => rfl
  have hset : ∀ o o' : AObj, [o].set 0 o' = [o'] := fun o o' => rfl
  try simp only [OpK_eq, HKv, hb, hset, put3, aWrapU, take6, List.drop_zero, Int.cast_ofNat_Int, go_sem, ↓reduceIte, Nat.reduceEqDiff, Nat.reduceAdd, Nat.reduceMul, Nat.reduceLeDiff, Nat.reduceLT, Int.reduceLE, Int.reduceLT, reduceCtorEq]
  refine ⟨fun h1 => ⟨fun h2 => ⟨h1, fun y hy => ?_⟩, fun h2 => Kv.Fin.now (hK h)⟩, fun h1 => Kv.Fin.now (hK h)⟩
  have hkl : k < l.length := by omega
  rw [u8s_getD hkl] at hy; cases hy
  have hcs : (PV.int .u8 l[k]).cs = [.int .u8 l[k]] := rfl
  rw [hcs]
  refine ⟨rfl, by simp, fun c hc => ?_⟩
  simp only [List.getElem?_cons_zero, Option.some.injEq] at hc
  subst hc
  try simp only [OpK_eq, HKv, hb, hset, put3, aWrapU, take6, List.drop_zero, Int.cast_ofNat_Int, go_sem, ↓reduceIte, Nat.reduceEqDiff, Nat.reduceAdd, Nat.reduceMul, Nat.reduceLeDiff, Nat.reduceLT, Int.reduceLE, Int.reduceLT, reduceCtorEq]
  iterate 4 (try refine ⟨by omega, ?_⟩)
  exact ih (k + 1, _, _, _) (by show k + 1 ≤ l.length; omega) (by show l.length - (k + 1) < l.length - k; omega) _ _ (by simp [keep]; exact ⟨rfl, rfl⟩) rfl
end Go.Proofs.YthbbjbfbeaiphaaGreat
end
section
/- The draws of maps. -/
namespace Go.Proofs.YthbbjbfbeaiphaaGreat
open Go.Kv
set_option maxRecDepth 100000
def k57_b0 : KC := (.seq (.seq (.ops [mV 9 6, mV 10 1, oP 11 (.bin .lss (.t 9) (.t 10))])
  (.cond (.t 11) .skip (.exit 0)))
  (.seq (.block 1 (.seq (.ops [mV 14 0, mV 15 6, oP 16 (.bin .add (.t 15) (iC 1)), oP 17 (.call (fC 56) [(.t 14), (.t 16)]), mV 7 17])
  (.tree (.op (mV 18 5) (.op (mV 19 7) (.op (mV 22 6) (.op (mV 25 5) (.op (mV 26 7) (.alt (.op (oP 20 (.sls 1 (.t 18) none (some (.t 19)))) (.alt (.op (oP 21 (.call (fC 105) [(.t 20)])) (.alt (.op (oP 23 (.bsl true 2 1 [(.t 22)])) (.alt (.op (oP 24 (.app (.t 21) (.t 23) 2 1)) (.op (oP 27 (.sls 1 (.t 25) (some (.t 26)) none)) (.op (oP 28 (.app (.t 24) (.t 27) 2 1)) (.op (mV 5 28) .fin)))) (.op (oP 27 (.sls 1 (.t 25) (some (.t 26)) none)) (.op (oP 24 (.app (.t 21) (.t 23) 2 1)) (.op (oP 28 (.app (.t 24) (.t 27) 2 1)) (.op (mV 5 28) .fin)))))) (.op (oP 27 (.sls 1 (.t 25) (some (.t 26)) none)) (.op (oP 23 (.bsl true 2 1 [(.t 22)])) (.op (oP 24 (.app (.t 21) (.t 23) 2 1)) (.op (oP 28 (.app (.t 24) (.t 27) 2 1)) (.op (mV 5 28) .fin))))))) (.alt (.op (oP 23 (.bsl true 2 1 [(.t 22)])) (.alt (.op (oP 21 (.call (fC 105) [(.t 20)])) (.alt (.op (oP 24 (.app (.t 21) (.t 23) 2 1)) (.op (oP 27 (.sls 1 (.t 25) (some (.t 26)) none)) (.op (oP 28 (.app (.t 24) (.t 27) 2 1)) (.op (mV 5 28) .fin)))) (.op (oP 27 (.sls 1 (.t 25) (some (.t 26)) none)) (.op (oP 24 (.app (.t 21) (.t 23) 2 1)) (.op (oP 28 (.app (.t 24) (.t 27) 2 1)) (.op (mV 5 28) .fin)))))) (.op (oP 27 (.sls 1 (.t 25) (some (.t 26)) none)) (.op (oP 21 (.call (fC 105) [(.t 20)])) (.op (oP 24 (.app (.t 21) (.t 23) 2 1)) (.op (oP 28 (.app (.t 24) (.t 27) 2 1)) (.op (mV 5 28) .fin))))))) (.op (oP 27 (.sls 1 (.t 25) (some (.t 26)) none)) (.alt (.op (oP 21 (.call (fC 105) [(.t 20)])) (.op (oP 23 (.bsl true 2 1 [(.t 22)])) (.op (oP 24 (.app (.t 21) (.t 23) 2 1)) (.op (oP 28 (.app (.t 24) (.t 27) 2 1)) (.op (mV 5 28) .fin))))) (.op (oP 23 (.bsl true 2 1 [(.t 22)])) (.op (oP 21 (.call (fC 105) [(.t 20)])) (.op (oP 24 (.app (.t 21) (.t 23) 2 1)) (.op (oP 28 (.app (.t 24) (.t 27) 2 1)) (.op (mV 5 28) .fin)))))))))) (.alt (.op (oP 23 (.bsl true 2 1 [(.t 22)])) (.alt (.op (oP 20 (.sls 1 (.t 18) none (some (.t 19)))) (.alt (.op (oP 21 (.call (fC 105) [(.t 20)])) (.alt (.op (oP 24 (.app (.t 21) (.t 23) 2 1)) (.op (oP 27 (.sls 1 (.t 25) (some (.t 26)) none)) (.op (oP 28 (.app (.t 24) (.t 27) 2 1)) (.op (mV 5 28) .fin)))) (.op (oP 27 (.sls 1 (.t 25) (some (.t 26)) none)) (.op (oP 24 (.app (.t 21) (.t 23) 2 1)) (.op (oP 28 (.app (.t 24) (.t 27) 2 1)) (.op (mV 5 28) .fin)))))) (.op (oP 27 (.sls 1 (.t 25) (some (.t 26)) none)) (.op (oP 21 (.call (fC 105) [(.t 20)])) (.op (oP 24 (.app (.t 21) (.t 23) 2 1)) (.op (oP 28 (.app (.t 24) (.t 27) 2 1)) (.op (mV 5 28) .fin))))))) (.op (oP 27 (.sls 1 (.t 25) (some (.t 26)) none)) (.op (oP 20 (.sls 1 (.t 18) none (some (.t 19)))) (.op (oP 21 (.call (fC 105) [(.t 20)])) (.op (oP 24 (.app (.t 21) (.t 23) 2 1)) (.op (oP 28 (.app (.t 24) (.t 27) 2 1)) (.op (mV 5 28) .fin)))))))) (.op (oP 27 (.sls 1 (.t 25) (some (.t 26)) none)) (.alt (.op (oP 20 (.sls 1 (.t 18) none (some (.t 19)))) (.alt (.op (oP 21 (.call (fC 105) [(.t 20)])) (.op (oP 23 (.bsl true 2 1 [(.t 22)])) (.op (oP 24 (.app (.t 21) (.t 23) 2 1)) (.op (oP 28 (.app (.t 24) (.t 27) 2 1)) (.op (mV 5 28) .fin))))) (.op (oP 23 (.bsl true 2 1 [(.t 22)])) (.op (oP 21 (.call (fC 105) [(.t 20)])) (.op (oP 24 (.app (.t 21) (.t 23) 2 1)) (.op (oP 28 (.app (.t 24) (.t 27) 2 1)) (.op (mV 5 28) .fin))))))) (.op (oP 23 (.bsl true 2 1 [(.t 22)])) (.op (oP 20 (.sls 1 (.t 18) none (some (.t 19)))) (.op (oP 21 (.call (fC 105) [(.t 20)])) (.op (oP 24 (.app (.t 21) (.t 23) 2 1)) (.op (oP 28 (.app (.t 24) (.t 27) 2 1)) (.op (mV 5 28) .fin))))))))))))))))))
  (.ops [mV 12 6, oP 13 (.bin .add (.t 12) (iC 1)), mV 6 13])))
def k57 : KC := (.seq (.ops [oP 4 (.mv (.c (.nils)))])
  (.seq (.ops [oP 8 (.bsl false 2 1 []), mV 5 8])
  (.seq (.seq (.ops [oP 6 (.mv (iC 0))])
  (.block 0 (.loop k57_b0)))
  (.seq (.ops [mV 29 5, mV 4 29])
  .ret))))
theorem e57 : Ent 57 30 [23] [.t 4] k57 := ent Tryz.func57 (by kernel_rfl) (by kernel_rfl) (by kernel_rfl) (fun _ => by kernel_rfl) (by kernel_rfl)
end Go.Proofs.YthbbjbfbeaiphaaGreat
namespace Go.Proofs.YthbbjbfbeaiphaaGreat
open Go.Kv
set_option linter.unusedVariables false
set_option linter.unusedSimpArgs false
attribute [local irreducible] ACall PCall KL
theorem Src.keep {σ σ' : Heap} {b : Nat} {l : List Int} (h : Src σ b l) (hk : σ'[b]? = σ[b]?) : Src σ' b l := by
  obtain ⟨p, x, h, h2⟩ := h
  exact ⟨p, x, hk.trans h, h2⟩
theorem p57S {l : List Int} (hl : Byt l) {σ : Heap} {b : Nat} (hS : Src σ b l) (n : Nat) (hn : n ≤ 1000) {K : PV → Heap → Prop}
    (hK : ∀ (L : List Int) id ver σ', L.length = n → ((∀ x ∈ L, 0 ≤ x ∧ x < n) ∧ L.Nodup) → Src σ' b l → Kept σ σ' b → σ.length ≤ id → σ'[id]? = some (.arr ver 2 1 (ints L)) → K (.ref id ver 0 n) σ') : ACall Tryz.prog 57 [.ptr b 0, .int .i64 n] σ K := by
  have hlt := hS.lt
  refine e57 (by simp) fun _ _ => ?_
  simp only [k57, argEnv, take6, List.drop_zero, Int.cast_ofNat_Int, go_sem, ↓reduceIte, Nat.reduceEqDiff, Nat.reduceAdd, Nat.reduceMul, Nat.reduceLeDiff, Nat.reduceLT, Int.reduceLE, Int.reduceLT, reduceCtorEq]
  refine KL_ind k57_b0.eq_1 (fun y : Nat × List Int × Nat × Nat × Heap => [(0, .ptr b 0), (1, .int .i64 n), (5, .ref y.2.2.1 y.2.2.2.1 0 y.1), (6, .int .i64 y.1)]) (fun y => y.2.2.2.2) (fun y => y.1 ≤ n ∧ y.2.1.length = y.1 ∧ ((∀ x ∈ y.2.1, 0 ≤ x ∧ x < y.1) ∧ y.2.1.Nodup) ∧ Src y.2.2.2.2 b l ∧ Kept σ y.2.2.2.2 b ∧ σ.length ≤ y.2.2.1 ∧ y.2.2.2.2[y.2.2.1]? = some (.arr y.2.2.2.1 2 1 (ints y.2.1))) (fun y => n - y.1) [0, 1, 5, 6] (0, [], σ.length, 0, σ ++ [.arr 0 2 1 []]) (by simp [keep]) rfl ⟨Nat.zero_le _, rfl, ⟨by simp, by simp⟩, hS.app _, Kept.app _ _ _, Nat.le_refl _, by simp; rfl⟩ fun ⟨k, L, id, ver, τ⟩ ⟨hk, hLl, ⟨hLx, hLn⟩, hS1, hKp, hid1, hid⟩ ih => ?_
  simp only at hk hLl hLx hLn hS1 hKp hid1 hid
  try simp only [OpK_eq, HKv, take6, List.drop_zero, Int.cast_ofNat_Int, go_sem, ↓reduceIte, Nat.reduceEqDiff, Nat.reduceAdd, Nat.reduceMul, Nat.reduceLeDiff, Nat.reduceLT, Int.reduceLE, Int.reduceLT, reduceCtorEq]
  refine ⟨fun h1 => ⟨by omega, ?_⟩, fun h1 => ?_⟩
  · refine p56 hl hS1 _ fun r τ' h2 h3 h4 h5 h6 => ?_
    have h3 := h3 (by omega)
    have hne : id ≠ b := by omega
    have hid2 := (h5.2 id (List.getElem?_eq_some_iff.1 hid).1 hne).trans hid
    have hlt2 := (List.getElem?_eq_some_iff.1 hid2).1
    have hap : ∀ X, (τ' ++ X)[id]? = some (.arr ver 2 1 (ints L)) := fun X => (List.getElem?_append_left hlt2).trans hid2
    try simp only [OpK_eq, HKv, hid2, hap, take6, List.drop_zero, Int.cast_ofNat_Int, go_sem, ↓reduceIte, Nat.reduceEqDiff, Nat.reduceAdd, Nat.reduceMul, Nat.reduceLeDiff, Nat.reduceLT, Int.reduceLE, Int.reduceLT, reduceCtorEq]
    have hr0 : ((k : Int) + 1) = ((k + 1 : Nat) : Int) := by omega
    have hrk : r.toNat ≤ k := by omega
    have hri : (r.toNat : Int) = r := by omega
    have hLk : L.length = k := hLl
    have htl : (L.take r.toNat).length = r.toNat := by rw [List.length_take]; omega
    have himm : Imm τ' (.ref id ver 0 (r.toNat - 0)) (.list (ints (L.take r.toNat))) := by
      refine Imm.refp (pre := []) (l := L.take r.toNat) (post := L.drop r.toNat) (by rw [List.nil_append, List.take_append_drop]; exact hid2) (by rw [htl]; rfl) rfl
    have hs0 : ∀ (x y : AObj), (τ' ++ [x]).set τ'.length y = τ' ++ [y] := fun x y => by
      rw [List.set_append_right _ _ (Nat.le_refl _)]; simp
    have ht0 : ∀ (x : AObj), (τ' ++ [x])[τ'.length]? = some x := fun x => by simp
    have e1 : List.take (r.toNat + 1) (List.take r.toNat (List.take r.toNat L) ++ [(k : Int)]) = L.take r.toNat ++ [(k : Int)] := by
      rw [List.take_take, Nat.min_self, List.take_of_length_le (by rw [List.length_append, htl]; exact Nat.le_refl _)]
    have e2 : List.take (k - r.toNat) (List.drop r.toNat L) = L.drop r.toNat := List.take_of_length_le (by rw [List.length_drop]; omega)
    have e3 : (L.take r.toNat ++ [(k : Int)]) ++ L.drop r.toNat = L.take r.toNat ++ (k : Int) :: L.drop r.toNat := by simp
    have e4 : r.toNat + 1 + (L.drop r.toNat).length = k + 1 := by rw [List.length_drop]; omega
    have hx2 : ∀ x ∈ L.take r.toNat ++ (k : Int) :: L.drop r.toNat, 0 ≤ x ∧ x < (k + 1 : Nat) := fun x hx => by
      rcases List.mem_append.1 hx with hx | hx
      · have := hLx x (List.mem_of_mem_take hx); omega
      · rcases List.mem_cons.1 hx with rfl | hx
        · omega
        · have := hLx x (List.mem_of_mem_drop hx); omega
    have hnd2 : (L.take r.toNat ++ (k : Int) :: L.drop r.toNat).Nodup := by
      refine List.perm_middle.nodup_iff.2 (List.nodup_cons.2 ⟨fun h => ?_, by rw [List.take_append_drop]; exact hLn⟩)
      rw [List.take_append_drop] at h
      have := hLx _ h; omega
    repeat' (first
      | omega
      | (rw [vT_alt]; refine ⟨?_, ?_⟩)
      | (refine ACall.lend (p105 (L.take r.toNat) (by rw [htl]; omega)) (.cons himm (.nil _)) fun v s hv => ?_
         obtain ⟨rfl, rfl⟩ := hv
         refine ⟨⟨free_ref _ _ _ _, Free.ints _ _ _ _⟩, ?_⟩)
      | (with_reducible refine And.intro ?_ ?_)
      | (simp only [OpK_eq, HKv, hid2, hap, hs0, ht0, htl, ren_ref, ren_arr, ren_ints, Nat.zero_add, List.map_cons, List.map_nil, take6, List.drop_zero, Int.cast_ofNat_Int, go_sem, ↓reduceIte, Nat.reduceEqDiff, Nat.reduceAdd, Nat.reduceMul, Nat.reduceLeDiff, Nat.reduceLT, Int.reduceLE, Int.reduceLT, reduceCtorEq]))
    all_goals (try (first | (show _ ≤ _; simp only [List.length_take, List.length_drop, List.length_append, List.length_singleton]; omega)))
    all_goals (rw [e1, e2, e3, e4])
    all_goals exact ih (k + 1, L.take r.toNat ++ (k : Int) :: L.drop r.toNat, τ'.length, 3, _) ⟨by show k + 1 ≤ n; omega, by show (L.take r.toNat ++ (k : Int) :: L.drop r.toNat).length = k + 1; rw [List.length_append, List.length_cons, List.length_drop, htl]; omega, ⟨hx2, hnd2⟩, h4.app _, (hKp.trans h5).trans (Kept.app _ _ _), by show σ.length ≤ τ'.length; have := hKp.1; omega, ht0 _⟩ (by show n - (k + 1) < n - k; omega) _ _ (by simp [keep]) rfl
  · obtain rfl : k = n := by omega
    exact Kv.Fin.now (hK L id ver τ hLl ⟨hLx, hLn⟩ hS1 hKp hid1 hid)
theorem p57 {l : List Int} (hl : Byt l) {σ : Heap} {b : Nat} (hS : Src σ b l) (n : Nat) (hn : n ≤ 5) {K : PV → Heap → Prop}
    (hK : ∀ (L : List Int) id ver σ', L.length = n → (∀ x ∈ L, 0 ≤ x ∧ x < n) → Src σ' b l → Kept σ σ' b → σ.length ≤ id → σ'[id]? = some (.arr ver 2 1 (ints L)) → K (.ref id ver 0 n) σ') : ACall Tryz.prog 57 [.ptr b 0, .int .i64 n] σ K :=
  p57S hl hS n (by omega) fun L id ver σ' h1 h2 h3 h4 h5 h6 => hK L id ver σ' h1 h2.1 h3 h4 h5 h6
end Go.Proofs.YthbbjbfbeaiphaaGreat
end
section
/- The draws of maps. -/
namespace Go.Proofs.YthbbjbfbeaiphaaGreat
open Go.Kv
set_option maxRecDepth 100000
def k135_b0 : KC := (.seq (.seq (.ops [mV 29 7, mV 30 1, oP 31 (.bin .lss (.t 29) (.t 30))])
  (.cond (.t 31) .skip (.exit 1)))
  (.seq (.block 2 (.seq (.ops [mV 34 0, oP 35 (.call (fC 56) [(.t 34), (iC 2)]), oP 36 (.bin .eql (.t 35) (iC 0))])
  (.cond (.t 36) (.ops [mV 37 7, mV 38 6, oP 39 (.fieldA 1 (.t 5)), oP 40 (.idxA 5 1 (.t 39) (.t 37)), ⟨none, none, .store 1 (.t 40) (.t 38)⟩]) .skip)))
  (.ops [mV 32 7, oP 33 (.bin .add (.t 32) (iC 1)), mV 7 33])))
def k135_b1 : KC := (.seq (.seq (.ops [mV 54 10, mV 55 1, oP 56 (.bin .lss (.t 54) (.t 55))])
  (.cond (.t 56) .skip (.exit 3)))
  (.seq (.block 4 (.ops [mV 59 10, mV 60 0, mV 61 8, mV 62 9, oP 63 (.bsl false 2 1 [(.t 61), (.t 62)]), oP 64 (.call (fC 58) [(.t 60), (.t 63)]), oP 65 (.fieldA 1 (.t 5)), oP 66 (.idxA 5 1 (.t 65) (.t 59)), ⟨none, none, .store 1 (.t 66) (.t 64)⟩]))
  (.ops [mV 57 10, oP 58 (.bin .add (.t 57) (iC 1)), mV 10 58])))
def k135_b2 : KC := (.seq (.seq (.ops [mV 68 11, mV 69 1, oP 70 (.bin .lss (.t 68) (.t 69))])
  (.cond (.t 70) .skip (.exit 5)))
  (.seq (.block 6 (.ops [mV 73 11, mV 74 0, mV 75 1, oP 76 (.call (fC 56) [(.t 74), (.t 75)]), oP 77 (.fieldA 1 (.t 5)), oP 78 (.idxA 5 1 (.t 77) (.t 73)), ⟨none, none, .store 1 (.t 78) (.t 76)⟩]))
  (.ops [mV 71 11, oP 72 (.bin .add (.t 71) (iC 1)), mV 11 72])))
def k135 : KC := (.seq (.ops [oP 4 (.alloc [.int .i64 0, .int .i64 0, .int .i64 0, .int .i64 0, .int .i64 0, .int .i64 0])])
  (.seq (.ops [mV 12 1, oP 13 (.build [.int .i64 0, .int .i64 0, .int .i64 0, .int .i64 0, .int .i64 0, .int .i64 0] [(0, 1, (.t 12))]), oP 5 (.alloc [.int .i64 0, .int .i64 0, .int .i64 0, .int .i64 0, .int .i64 0, .int .i64 0]), ⟨none, none, .store 6 (.t 5) (.t 13)⟩])
  (.seq (.seq (.ops [mV 14 0, oP 15 (.call (fC 56) [(.t 14), (iC 6)])])
  (.block 0 (.seq (.ops [oP 17 (.bin .eql (.t 15) (iC 0)), mV 16 17])
  (.cond (.t 16) (.seq (.ops [mV 18 0, mV 19 1, oP 20 (.call (fC 57) [(.t 18), (.t 19)]), oP 21 (.call (fC 169) [(.t 20)]), ⟨none, none, .store 6 (.t 4) (.t 21)⟩])
  .ret) (.seq (.ops [oP 23 (.bin .eql (.t 15) (iC 1)), mV 22 23])
  (.cond (.t 22) (.seq (.ops [mV 24 1, oP 25 (.call (fC 75) [(.t 24)]), ⟨none, none, .store 6 (.t 5) (.t 25)⟩])
  (.seq (.ops [mV 26 0, mV 27 1, oP 28 (.call (fC 56) [(.t 26), (.t 27)]), mV 6 28])
  (.seq (.seq (.ops [oP 7 (.mv (iC 0))])
  (.block 1 (.loop k135_b0)))
  (.seq (.ops [mV 41 6, mV 42 6, oP 43 (.fieldA 1 (.t 5)), oP 44 (.idxA 5 1 (.t 43) (.t 41)), ⟨none, none, .store 1 (.t 44) (.t 42)⟩])
  (.seq (.ops [oP 45 (.load true 6 (.t 5)), ⟨none, none, .store 6 (.t 4) (.t 45)⟩])
  .ret))))) (.seq (.ops [oP 47 (.bin .eql (.t 15) (iC 2)), mV 46 47])
  (.cond (.t 46) (.seq (.ops [mV 48 0, mV 49 1, oP 50 (.call (fC 56) [(.t 48), (.t 49)]), mV 51 0, mV 52 1, oP 53 (.call (fC 56) [(.t 51), (.t 52)]), mV 8 50, mV 9 53])
  (.seq (.seq (.ops [oP 10 (.mv (iC 0))])
  (.block 3 (.loop k135_b1)))
  (.seq (.ops [oP 67 (.load true 6 (.t 5)), ⟨none, none, .store 6 (.t 4) (.t 67)⟩])
  .ret))) .skip))))))))
  (.seq (.seq (.ops [oP 11 (.mv (iC 0))])
  (.block 5 (.loop k135_b2)))
  (.seq (.ops [oP 79 (.load true 6 (.t 5)), ⟨none, none, .store 6 (.t 4) (.t 79)⟩])
  .ret)))))
theorem e135 : Ent 135 80 [] [.cell 4 true 6] k135 := ent Tryz.func135 (by kernel_rfl) (by kernel_rfl) (by kernel_rfl) (fun _ => by kernel_rfl) (by kernel_rfl)
end Go.Proofs.YthbbjbfbeaiphaaGreat
namespace Go.Proofs.YthbbjbfbeaiphaaGreat
open Go.Kv
set_option linter.unusedVariables false
set_option linter.unusedSimpArgs false
attribute [local irreducible] ACall PCall KL
/-- A map that is being drawn: two boxes behind the caller's heap. -/
structure DI (n : Nat) (σ τ : Heap) (b : Nat) (l m : List Int) : Prop where
  src : Src τ b l
  kept : Kept σ τ b
  a : τ[σ.length]? = some (.box [PV.int .i64 0, PV.int .i64 0, PV.int .i64 0, PV.int .i64 0, PV.int .i64 0, PV.int .i64 0])
  c : τ[σ.length + 1]? = some (.box (ints m))
  len : m.length = 6
  pt : ∃ f, Ok f n ∧ m = mp f
  lt : b < σ.length
theorem DI.step {n : Nat} {σ τ τ' : Heap} {b : Nat} {l m : List Int} (h : DI n σ τ b l m) (hS : Src τ' b l) (hK : Kept τ τ' b) : DI n σ τ' b l m :=
  have h1 := (List.getElem?_eq_some_iff.1 h.a).1
  have h2 := (List.getElem?_eq_some_iff.1 h.c).1
  have h3 := h.lt
  ⟨hS, h.kept.trans hK, (hK.2 _ h1 (by omega)).trans h.a, (hK.2 _ h2 (by omega)).trans h.c, h.len, h.pt, h.lt⟩
theorem DI.app {n : Nat} {σ τ : Heap} {b : Nat} {l m : List Int} (h : DI n σ τ b l m) (X : Heap) : DI n σ (τ ++ X) b l m := h.step (h.src.app X) (Kept.app _ _ _)
theorem DI.set {n : Nat} {σ τ : Heap} {b : Nat} {l m : List Int} (h : DI n σ τ b l m) {m' : List Int} (h6 : m'.length = 6) (hp : ∃ f, Ok f n ∧ m' = mp f) : DI n σ (τ.set (σ.length + 1) (.box (ints m'))) b l m' :=
  have h2 := (List.getElem?_eq_some_iff.1 h.c).1
  have h3 := h.lt
  ⟨h.src.keep (List.getElem?_set_ne (by omega)), ⟨by rw [List.length_set]; exact h.kept.1, fun j hj hb => (List.getElem?_set_ne (by omega)).trans (h.kept.2 j hj hb)⟩, (List.getElem?_set_ne (by omega)).trans h.a, List.getElem?_set_self h2, h6, hp, h.lt⟩
theorem DI.fin {n : Nat} {σ τ : Heap} {b : Nat} {l m : List Int} (h : DI n σ τ b l m) (o : AObj) : Src (τ.set σ.length o) b l ∧ Kept σ (τ.set σ.length o) b :=
  have h3 := h.lt
  ⟨h.src.keep (List.getElem?_set_ne (by omega)), by rw [List.length_set]; exact h.kept.1, fun j hj hb => (List.getElem?_set_ne (by omega)).trans (h.kept.2 j hj hb)⟩
theorem set_pt {n : Nat} {m : List Int} {k : Nat} {v : Int} (h : ∃ f, Ok f n ∧ m = mp f) (hk : k < n) (hv : 0 ≤ v ∧ v < n) : ∃ f, Ok f n ∧ m.set (k + 1) v = mp f := by
  obtain ⟨f, hf, rfl⟩ := h
  have hvn : v.toNat < n := by omega
  have hkl : k < f.length := by rw [hf.len]; exact hk
  refine ⟨f.set k v.toNat, ⟨by rw [List.length_set, hf.len], hf.pos, hf.le, fun x hx => ?_⟩, ?_⟩
  · rcases List.mem_or_eq_of_mem_set hx with h | h
    · exact hf.lt x h
    · omega
  · have hv2 : ((v.toNat : Nat) : Int) = v := by omega
    have := mpN_set (n := (f.length : Int)) (l := f) (i := k) (v := v.toNat) hkl
    rw [hv2] at this
    rw [mp, mp, List.length_set, this]
theorem ints_set1 (m : List Int) (o : Nat) (v : Int) : (ints m).set o (.int .i64 v) = ints (m.set o v) := by simp [ints, List.map_set]
theorem p135S {l : List Int} (hl : Byt l) {σ : Heap} {b : Nat} (hS : Src σ b l) (n : Nat) (hn1 : 1 ≤ n) (hn : n ≤ 5) {K : PV → Heap → Prop}
    (hK : ∀ (m : List Int) σ', m.length = 6 → (∃ f, Ok f n ∧ m = mp f) → Src σ' b l → Kept σ σ' b → K (.agg (ints m)) σ') : ACall Tryz.prog 135 [.ptr b 0, .int .i64 n] σ K := by
  have hlt := hS.lt
  have hg1 : ∀ a c : AObj, (σ ++ [a] ++ [c])[σ.length + 1]? = some c := fun a c => by
    rw [List.getElem?_append_right (by simp)]; simp
  have hs1 : ∀ a c d : AObj, (σ ++ [a] ++ [c]).set (σ.length + 1) d = σ ++ [a] ++ [d] := fun a c d => by
    rw [List.set_append_right _ _ (by simp)]; simp
  have hg0 : ∀ a c : AObj, (σ ++ [a] ++ [c])[σ.length]? = some a := fun a c => by
    rw [List.getElem?_append_left (by simp)]; simp
  refine e135 (by simp) fun _ _ => ?_
  simp only [k135, argEnv, take6, List.drop_zero, Int.cast_ofNat_Int, go_sem, ↓reduceIte, Nat.reduceEqDiff, Nat.reduceAdd, Nat.reduceMul, Nat.reduceLeDiff, Nat.reduceLT, Int.reduceLE, Int.reduceLT, reduceCtorEq]
  try simp only [OpK_eq, HKv, hg1, hs1, take6, List.drop_zero, Int.cast_ofNat_Int, go_sem, ↓reduceIte, Nat.reduceEqDiff, Nat.reduceAdd, Nat.reduceMul, Nat.reduceLeDiff, Nat.reduceLT, Int.reduceLE, Int.reduceLT, reduceCtorEq]
  have hD0 : ∀ (a : AObj), DI n σ (σ ++ [AObj.box [PV.int .i64 0, PV.int .i64 0, PV.int .i64 0, PV.int .i64 0, PV.int .i64 0, PV.int .i64 0]] ++ [.box (ints [(n : Int), 0, 0, 0, 0, 0])]) b l [(n : Int), 0, 0, 0, 0, 0] := fun _ => ⟨(hS.app _).app _, (Kept.app _ _ _).trans (Kept.app _ _ _), hg0 _ _, hg1 _ _, rfl, ⟨List.replicate n 0, ⟨by simp, hn1, hn, fun x hx => by rw [List.eq_of_mem_replicate hx]; omega⟩, by rw [mp, List.length_replicate, mpN_rep hn]⟩, hlt⟩
  have hD0 := hD0 .dead
  refine p56 hl hD0.src _ fun r τ h2 h3 h4 h5 h6 => ?_
  have hD := hD0.step h4 h5
  clear h4 h5 h6 hD0 hg1 hs1 hg0
  generalize hm0 : [(n : Int), 0, 0, 0, 0, 0] = m0 at hD
  clear hm0
  have hA := hD.a
  have hC := hD.c
  try simp only [OpK_eq, HKv, take6, List.drop_zero, Int.cast_ofNat_Int, go_sem, ↓reduceIte, Nat.reduceEqDiff, Nat.reduceAdd, Nat.reduceMul, Nat.reduceLeDiff, Nat.reduceLT, Int.reduceLE, Int.reduceLT, reduceCtorEq]
  have hself : ∀ (ρ : Heap) (m : List Int) (o : AObj), DI n σ ρ b l m → (ρ.set σ.length o)[σ.length]? = some o := fun ρ m o h => List.getElem?_set_self (List.getElem?_eq_some_iff.1 h.a).1
  have hself5 : ∀ (ρ : Heap) (m : List Int) (o : AObj), DI n σ ρ b l m → (ρ.set (σ.length + 1) o)[σ.length + 1]? = some o := fun ρ m o h => List.getElem?_set_self (List.getElem?_eq_some_iff.1 h.c).1
  refine ⟨fun _ => ?_, fun hr0 => ⟨fun _ => ?_, fun hr1 => ⟨fun _ => ?_, fun hr2 => ?_⟩⟩⟩
  · refine p57 hl hD.src n hn fun L id ver τ' q1 q2 q3 q4 q5 q6 => ?_
    have hX := hD.step q3 q4
    have eL : (L.map Int.toNat).map (fun x : Nat => (x : Int)) = L := by
      rw [List.map_map]
      conv => rhs; rw [← List.map_id L]
      exact List.map_congr_left fun x hx => by have := (q2 x hx).1; simp only [Function.comp_apply, id_eq]; omega
    have hM := p169 (L.map Int.toNat) (by rw [List.length_map]; omega)
    rw [eL] at hM
    have h62 : (mp (L.map Int.toNat)).length = 6 := mpN_length (by rw [List.length_map]; omega)
    have hpt : ∃ f, Ok f n ∧ mp (L.map Int.toNat) = mp f := ⟨_, ⟨by rw [List.length_map, q1], hn1, hn, fun x hx => by
      obtain ⟨y, hy, rfl⟩ := List.mem_map.1 hx
      have := q2 y hy; omega⟩, rfl⟩
    try simp only [OpK_eq, HKv, take6, List.drop_zero, Int.cast_ofNat_Int, go_sem, ↓reduceIte, Nat.reduceEqDiff, Nat.reduceAdd, Nat.reduceMul, Nat.reduceLeDiff, Nat.reduceLT, Int.reduceLE, Int.reduceLT, reduceCtorEq]
    refine hM.use (Plain.aggi _) (.cons (Imm.refn q6 q1.symm) (.nil _)) ?_
    have hA2 := hX.a
    have hs2 := fun o => hself _ _ o hX
    generalize mp (L.map Int.toNat) = m at *
    have hil : (ints m).length = 6 := by rw [ints_length, h62]
    try simp only [OpK_eq, HKv, hA2, hs2, hil, h62, take6, List.drop_zero, Int.cast_ofNat_Int, go_sem, ↓reduceIte, Nat.reduceEqDiff, Nat.reduceAdd, Nat.reduceMul, Nat.reduceLeDiff, Nat.reduceLT, Int.reduceLE, Int.reduceLT, reduceCtorEq]
    exact Kv.Fin.now (hK _ _ h62 hpt (hX.fin _).1 (hX.fin _).2)
  · refine (p75 n hn1 hn).go ?_
    have h6m : (mp (List.range n)).length = 6 := mpN_length (by rw [List.length_range]; omega)
    have hpt : ∃ f, Ok f n ∧ mp (List.range n) = mp f := ⟨_, ⟨by simp, hn1, hn, fun x hx => List.mem_range.1 hx⟩, rfl⟩
    generalize mp (List.range n) = m1 at *
    have hil1 : (ints m1).length = 6 := by rw [ints_length, h6m]
    have hil0 : (ints m0).length = 6 := by rw [ints_length, hD.len]
    try simp only [OpK_eq, HKv, hC, hil1, hil0, take6, List.drop_zero, Int.cast_ofNat_Int, go_sem, ↓reduceIte, Nat.reduceEqDiff, Nat.reduceAdd, Nat.reduceMul, Nat.reduceLeDiff, Nat.reduceLT, Int.reduceLE, Int.reduceLT, reduceCtorEq]
    have hD1 := hD.set h6m hpt
    refine p56 hl hD1.src _ fun r1 τ1 h2 h3 h4 h5 h6 => ?_
    have h3 := h3 (by omega)
    have hD2 := hD1.step h4 h5
    have hr1b : 0 ≤ r1 ∧ r1 < n := ⟨h2, h3⟩
    clear h4 h5 h6 hD1 hA hC hD
    try simp only [OpK_eq, HKv, take6, List.drop_zero, Int.cast_ofNat_Int, go_sem, ↓reduceIte, Nat.reduceEqDiff, Nat.reduceAdd, Nat.reduceMul, Nat.reduceLeDiff, Nat.reduceLT, Int.reduceLE, Int.reduceLT, reduceCtorEq]
    refine KL_ind k135_b0.eq_1 (fun y : Nat × List Int × Heap => [(0, .ptr b 0), (1, .int .i64 n), (4, .ptr σ.length 0), (5, .ptr (σ.length + 1) 0), (6, .int .i64 r1), (7, .int .i64 y.1)]) (fun y => y.2.2) (fun y => y.1 ≤ n ∧ DI n σ y.2.2 b l y.2.1) (fun y => n - y.1) [0, 1, 4, 5, 6, 7] (0, m1, τ1) (by simp [keep]) rfl ⟨Nat.zero_le _, hD2⟩ fun ⟨k, m, ρ⟩ ⟨hk, hX⟩ ih => ?_
    simp only at hk hX
    try simp only [OpK_eq, HKv, take6, List.drop_zero, Int.cast_ofNat_Int, go_sem, ↓reduceIte, Nat.reduceEqDiff, Nat.reduceAdd, Nat.reduceMul, Nat.reduceLeDiff, Nat.reduceLT, Int.reduceLE, Int.reduceLT, reduceCtorEq]
    refine ⟨fun g1 => ?_, fun g1 => ?_⟩
    · refine p56 hl hX.src _ fun r2 ρ' h2 h3' h4 h5 h6 => ?_
      have hY := hX.step h4 h5
      have hC2 := hY.c
      have hil : (ints m).length = 6 := by rw [ints_length, hY.len]
      try simp only [OpK_eq, HKv, hC2, hil, ints_set1, take6, List.drop_zero, Int.cast_ofNat_Int, go_sem, ↓reduceIte, Nat.reduceEqDiff, Nat.reduceAdd, Nat.reduceMul, Nat.reduceLeDiff, Nat.reduceLT, Int.reduceLE, Int.reduceLT, reduceCtorEq]
      refine ⟨fun _ => ⟨by omega, by omega, by omega, ih (k + 1, m.set (k + 1) r1, _) ⟨by show k + 1 ≤ n; omega, hY.set (by rw [List.length_set]; exact hY.len) (set_pt hY.pt (by omega) hr1b)⟩ (by show n - (k + 1) < n - k; omega) _ _ (by simp [keep]) rfl⟩, fun _ => ⟨by omega, ih (k + 1, m, _) ⟨by show k + 1 ≤ n; omega, hY⟩ (by show n - (k + 1) < n - k; omega) _ _ (by simp [keep]) rfl⟩⟩
    · obtain rfl : k = n := by omega
      have hC2 := hX.c
      have h62 := hX.len
      have hil : (ints m).length = 6 := by rw [ints_length, h62]
      have hZ := hX.set (m' := m.set (r1.toNat + 1) r1) (by rw [List.length_set]; exact h62) (set_pt hX.pt (by omega) hr1b)
      have hA3 := hZ.a
      have hC3 := hZ.c
      have h63 := hZ.len
      have hs2 := fun o => hself _ _ o hZ
      have hil3 : (ints (m.set (r1.toNat + 1) r1)).length = 6 := by rw [ints_length, h63]
      try simp only [OpK_eq, HKv, hC2, hil, ints_set1, hA3, hC3, hs2, hil3, h63, take6, List.drop_zero, Int.cast_ofNat_Int, go_sem, ↓reduceIte, Nat.reduceEqDiff, Nat.reduceAdd, Nat.reduceMul, Nat.reduceLeDiff, Nat.reduceLT, Int.reduceLE, Int.reduceLT, reduceCtorEq]
      refine ⟨by omega, by omega, Kv.Fin.now (hK _ _ h63 hZ.pt (hZ.fin _).1 (hZ.fin _).2)⟩
  · refine p56 hl hD.src _ fun ra τ1 h2 h3 h4 h5 h6 => ?_
    have hD1 := hD.step h4 h5
    clear h4 h5 h6 hA hC hD
    try simp only [OpK_eq, HKv, take6, List.drop_zero, Int.cast_ofNat_Int, go_sem, ↓reduceIte, Nat.reduceEqDiff, Nat.reduceAdd, Nat.reduceMul, Nat.reduceLeDiff, Nat.reduceLT, Int.reduceLE, Int.reduceLT, reduceCtorEq]
    refine p56 hl hD1.src _ fun rb τ2 h2' h3' h4 h5 h6 => ?_
    have hD2 := hD1.step h4 h5
    have hra : 0 ≤ ra ∧ ra < n := ⟨h2, h3 (by omega)⟩
    have hrb : 0 ≤ rb ∧ rb < n := ⟨h2', h3' (by omega)⟩
    clear h4 h5 h6 hD1
    try simp only [OpK_eq, HKv, take6, List.drop_zero, Int.cast_ofNat_Int, go_sem, ↓reduceIte, Nat.reduceEqDiff, Nat.reduceAdd, Nat.reduceMul, Nat.reduceLeDiff, Nat.reduceLT, Int.reduceLE, Int.reduceLT, reduceCtorEq]
    refine KL_ind k135_b1.eq_1 (fun y : Nat × List Int × Heap => [(0, .ptr b 0), (1, .int .i64 n), (4, .ptr σ.length 0), (5, .ptr (σ.length + 1) 0), (8, .int .i64 ra), (9, .int .i64 rb), (10, .int .i64 y.1)]) (fun y => y.2.2) (fun y => y.1 ≤ n ∧ DI n σ y.2.2 b l y.2.1) (fun y => n - y.1) [0, 1, 4, 5, 8, 9, 10] (0, m0, τ2) (by simp [keep]) rfl ⟨Nat.zero_le _, hD2⟩ fun ⟨k, m, ρ⟩ ⟨hk, hX⟩ ih => ?_
    simp only at hk hX
    try simp only [OpK_eq, HKv, take6, List.drop_zero, Int.cast_ofNat_Int, go_sem, ↓reduceIte, Nat.reduceEqDiff, Nat.reduceAdd, Nat.reduceMul, Nat.reduceLeDiff, Nat.reduceLT, Int.reduceLE, Int.reduceLT, reduceCtorEq]
    refine ⟨fun g1 => ?_, fun g1 => ?_⟩
    · have hX1 := hX.app [.arr 0 2 1 (ints [ra, rb])]
      refine p58 hl hX1.src [ra, rb] (by simp) (id := ρ.length) (by simp; rfl) (by have := hX.src.lt; omega) 2 rfl fun r2 ρ' h2 h4 h5 h6 => ?_
      have hY := hX1.step h4 h5
      have hC2 := hY.c
      have hil : (ints m).length = 6 := by rw [ints_length, hY.len]
      try simp only [OpK_eq, HKv, hC2, hil, ints_set1, take6, List.drop_zero, Int.cast_ofNat_Int, go_sem, ↓reduceIte, Nat.reduceEqDiff, Nat.reduceAdd, Nat.reduceMul, Nat.reduceLeDiff, Nat.reduceLT, Int.reduceLE, Int.reduceLT, reduceCtorEq]
      have hr2b : 0 ≤ r2 ∧ r2 < n := by
        simp only [List.mem_cons, List.not_mem_nil, or_false] at h2
        rcases h2 with rfl | rfl
        · exact hra
        · exact hrb
      exact ⟨by omega, by omega, by omega, ih (k + 1, m.set (k + 1) r2, _) ⟨by show k + 1 ≤ n; omega, hY.set (by rw [List.length_set]; exact hY.len) (set_pt hY.pt (by omega) hr2b)⟩ (by show n - (k + 1) < n - k; omega) _ _ (by simp [keep]) rfl⟩
    · obtain rfl : k = n := by omega
      have hA2 := hX.a
      have hC2 := hX.c
      have h62 := hX.len
      have hs2 := fun o => hself _ _ o hX
      have hil : (ints m).length = 6 := by rw [ints_length, h62]
      try simp only [OpK_eq, HKv, hA2, hC2, hs2, hil, h62, take6, List.drop_zero, Int.cast_ofNat_Int, go_sem, ↓reduceIte, Nat.reduceEqDiff, Nat.reduceAdd, Nat.reduceMul, Nat.reduceLeDiff, Nat.reduceLT, Int.reduceLE, Int.reduceLT, reduceCtorEq]
      exact Kv.Fin.now (hK _ _ h62 hX.pt (hX.fin _).1 (hX.fin _).2)
  · refine KL_ind k135_b2.eq_1 (fun y : Nat × List Int × Heap => [(0, .ptr b 0), (1, .int .i64 n), (4, .ptr σ.length 0), (5, .ptr (σ.length + 1) 0), (11, .int .i64 y.1)]) (fun y => y.2.2) (fun y => y.1 ≤ n ∧ DI n σ y.2.2 b l y.2.1) (fun y => n - y.1) [0, 1, 4, 5, 11] (0, m0, τ) (by simp [keep]) rfl ⟨Nat.zero_le _, hD⟩ fun ⟨k, m, ρ⟩ ⟨hk, hX⟩ ih => ?_
    simp only at hk hX
    try simp only [OpK_eq, HKv, take6, List.drop_zero, Int.cast_ofNat_Int, go_sem, ↓reduceIte, Nat.reduceEqDiff, Nat.reduceAdd, Nat.reduceMul, Nat.reduceLeDiff, Nat.reduceLT, Int.reduceLE, Int.reduceLT, reduceCtorEq]
    refine ⟨fun g1 => ?_, fun g1 => ?_⟩
    · refine p56 hl hX.src _ fun r2 ρ' h2 h3 h4 h5 h6 => ?_
      have hY := hX.step h4 h5
      have hC2 := hY.c
      have hil : (ints m).length = 6 := by rw [ints_length, hY.len]
      try simp only [OpK_eq, HKv, hC2, hil, ints_set1, take6, List.drop_zero, Int.cast_ofNat_Int, go_sem, ↓reduceIte, Nat.reduceEqDiff, Nat.reduceAdd, Nat.reduceMul, Nat.reduceLeDiff, Nat.reduceLT, Int.reduceLE, Int.reduceLT, reduceCtorEq]
      have hr2b : 0 ≤ r2 ∧ r2 < n := ⟨h2, h3 (by omega)⟩
      exact ⟨by omega, by omega, by omega, ih (k + 1, m.set (k + 1) r2, _) ⟨by show k + 1 ≤ n; omega, hY.set (by rw [List.length_set]; exact hY.len) (set_pt hY.pt (by omega) hr2b)⟩ (by show n - (k + 1) < n - k; omega) _ _ (by simp [keep]) rfl⟩
    · obtain rfl : k = n := by omega
      have hA2 := hX.a
      have hC2 := hX.c
      have h62 := hX.len
      have hs2 := fun o => hself _ _ o hX
      have hil : (ints m).length = 6 := by rw [ints_length, h62]
      try simp only [OpK_eq, HKv, hA2, hC2, hs2, hil, h62, take6, List.drop_zero, Int.cast_ofNat_Int, go_sem, ↓reduceIte, Nat.reduceEqDiff, Nat.reduceAdd, Nat.reduceMul, Nat.reduceLeDiff, Nat.reduceLT, Int.reduceLE, Int.reduceLT, reduceCtorEq]
      exact Kv.Fin.now (hK _ _ h62 hX.pt (hX.fin _).1 (hX.fin _).2)
theorem p135 {l : List Int} (hl : Byt l) {σ : Heap} {b : Nat} (hS : Src σ b l) (n : Nat) (hn1 : 1 ≤ n) (hn : n ≤ 5) {K : PV → Heap → Prop}
    (hK : ∀ (m : List Int) σ', m.length = 6 → (0 ≤ m.getD 0 0 ∧ m.getD 0 0 ≤ 5) → Src σ' b l → Kept σ σ' b → K (.agg (ints m)) σ') : ACall Tryz.prog 135 [.ptr b 0, .int .i64 n] σ K :=
  p135S hl hS n hn1 hn fun m σ' h1 h2 h3 h4 => hK m σ' h1 (by
    obtain ⟨f, hf, rfl⟩ := h2
    have : (mp f).getD 0 0 = (f.length : Int) := rfl
    rw [this, hf.len]; omega) h3 h4
end Go.Proofs.YthbbjbfbeaiphaaGreat
end
section
/- The draws of one map, and of what is none. -/
namespace Go.Proofs.YthbbjbfbeaiphaaGreat
open Go.Kv
set_option maxRecDepth 100000
def k168 : KC := (.seq (.ops [oP 2 (.alloc [.int .i64 0, .int .i64 0, .int .i64 0, .int .i64 0, .int .i64 0, .int .i64 0])])
  (.seq (.ops [mV 3 0, mV 4 0, oP 5 (.bsl false 2 1 [(iC 1), (iC 2), (iC 3), (iC 3), (iC 4), (iC 4), (iC 5), (iC 5)]), oP 6 (.call (fC 58) [(.t 4), (.t 5)]), oP 7 (.call (fC 135) [(.t 3), (.t 6)]), ⟨none, none, .store 6 (.t 2) (.t 7)⟩])
  .ret))
theorem e168 : Ent 168 8 [] [.cell 2 true 6] k168 := ent Tryz.func168 (by kernel_rfl) (by kernel_rfl) (by kernel_rfl) (fun _ => by kernel_rfl) (by kernel_rfl)
def k134 : KC := (.seq (.ops [oP 3 (.box false (.t 1)), oP 4 (.alloc [.int .i64 0, .int .i64 0, .int .i64 0, .int .i64 0, .int .i64 0, .int .i64 0])])
  (.seq (.seq (.ops [mV 5 0, oP 6 (.call (fC 56) [(.t 5), (iC 40)])])
  (.block 0 (.seq (.ops [oP 8 (.bin .eql (.t 6) (iC 0)), mV 7 8])
  (.cond (.t 7) (.ops [mV 9 0, oP 10 (.fieldA 0 (.t 3)), oP 11 (.load false 1 (.t 10)), oP 12 (.bin .add (.t 11) (iC 1)), oP 13 (.bsl false 2 1 [(iC 0), (iC 6), (iC (-1)), (.t 12)]), oP 14 (.call (fC 58) [(.t 9), (.t 13)]), oP 15 (.fieldA 0 (.t 3)), ⟨none, none, .store 1 (.t 15) (.t 14)⟩]) (.seq (.ops [oP 17 (.bin .eql (.t 6) (iC 1)), mV 16 17])
  (.cond (.t 16) (.tree (.op (mV 18 0) (.op (mV 20 0) (.alt (.op (oP 19 (.call (fC 56) [(.t 18), (iC 5)])) (.alt (.op (oP 21 (.fieldA 0 (.t 3))) (.alt (.op (oP 22 (.load false 1 (.t 21))) (.alt (.op (oP 23 (.bsl false 2 1 [(iC (-1)), (.t 22), (iC 1099511627776)])) (.alt (.op (oP 24 (.call (fC 58) [(.t 20), (.t 23)])) (.op (oP 25 (.fieldA 1 (.t 3))) (.op (oP 26 (.idxA 5 1 (.t 25) (.t 19))) (.op ⟨none, none, .store 1 (.t 26) (.t 24)⟩ .fin)))) (.op (oP 25 (.fieldA 1 (.t 3))) (.op (oP 24 (.call (fC 58) [(.t 20), (.t 23)])) (.op (oP 26 (.idxA 5 1 (.t 25) (.t 19))) (.op ⟨none, none, .store 1 (.t 26) (.t 24)⟩ .fin)))))) (.op (oP 25 (.fieldA 1 (.t 3))) (.op (oP 23 (.bsl false 2 1 [(iC (-1)), (.t 22), (iC 1099511627776)])) (.op (oP 24 (.call (fC 58) [(.t 20), (.t 23)])) (.op (oP 26 (.idxA 5 1 (.t 25) (.t 19))) (.op ⟨none, none, .store 1 (.t 26) (.t 24)⟩ .fin))))))) (.op (oP 25 (.fieldA 1 (.t 3))) (.op (oP 22 (.load false 1 (.t 21))) (.op (oP 23 (.bsl false 2 1 [(iC (-1)), (.t 22), (iC 1099511627776)])) (.op (oP 24 (.call (fC 58) [(.t 20), (.t 23)])) (.op (oP 26 (.idxA 5 1 (.t 25) (.t 19))) (.op ⟨none, none, .store 1 (.t 26) (.t 24)⟩ .fin)))))))) (.op (oP 25 (.fieldA 1 (.t 3))) (.op (oP 21 (.fieldA 0 (.t 3))) (.op (oP 22 (.load false 1 (.t 21))) (.op (oP 23 (.bsl false 2 1 [(iC (-1)), (.t 22), (iC 1099511627776)])) (.op (oP 24 (.call (fC 58) [(.t 20), (.t 23)])) (.op (oP 26 (.idxA 5 1 (.t 25) (.t 19))) (.op ⟨none, none, .store 1 (.t 26) (.t 24)⟩ .fin))))))))) (.alt (.op (oP 21 (.fieldA 0 (.t 3))) (.alt (.op (oP 19 (.call (fC 56) [(.t 18), (iC 5)])) (.alt (.op (oP 22 (.load false 1 (.t 21))) (.alt (.op (oP 23 (.bsl false 2 1 [(iC (-1)), (.t 22), (iC 1099511627776)])) (.alt (.op (oP 24 (.call (fC 58) [(.t 20), (.t 23)])) (.op (oP 25 (.fieldA 1 (.t 3))) (.op (oP 26 (.idxA 5 1 (.t 25) (.t 19))) (.op ⟨none, none, .store 1 (.t 26) (.t 24)⟩ .fin)))) (.op (oP 25 (.fieldA 1 (.t 3))) (.op (oP 24 (.call (fC 58) [(.t 20), (.t 23)])) (.op (oP 26 (.idxA 5 1 (.t 25) (.t 19))) (.op ⟨none, none, .store 1 (.t 26) (.t 24)⟩ .fin)))))) (.op (oP 25 (.fieldA 1 (.t 3))) (.op (oP 23 (.bsl false 2 1 [(iC (-1)), (.t 22), (iC 1099511627776)])) (.op (oP 24 (.call (fC 58) [(.t 20), (.t 23)])) (.op (oP 26 (.idxA 5 1 (.t 25) (.t 19))) (.op ⟨none, none, .store 1 (.t 26) (.t 24)⟩ .fin))))))) (.op (oP 25 (.fieldA 1 (.t 3))) (.op (oP 22 (.load false 1 (.t 21))) (.op (oP 23 (.bsl false 2 1 [(iC (-1)), (.t 22), (iC 1099511627776)])) (.op (oP 24 (.call (fC 58) [(.t 20), (.t 23)])) (.op (oP 26 (.idxA 5 1 (.t 25) (.t 19))) (.op ⟨none, none, .store 1 (.t 26) (.t 24)⟩ .fin)))))))) (.alt (.op (oP 22 (.load false 1 (.t 21))) (.alt (.op (oP 19 (.call (fC 56) [(.t 18), (iC 5)])) (.alt (.op (oP 23 (.bsl false 2 1 [(iC (-1)), (.t 22), (iC 1099511627776)])) (.alt (.op (oP 24 (.call (fC 58) [(.t 20), (.t 23)])) (.op (oP 25 (.fieldA 1 (.t 3))) (.op (oP 26 (.idxA 5 1 (.t 25) (.t 19))) (.op ⟨none, none, .store 1 (.t 26) (.t 24)⟩ .fin)))) (.op (oP 25 (.fieldA 1 (.t 3))) (.op (oP 24 (.call (fC 58) [(.t 20), (.t 23)])) (.op (oP 26 (.idxA 5 1 (.t 25) (.t 19))) (.op ⟨none, none, .store 1 (.t 26) (.t 24)⟩ .fin)))))) (.op (oP 25 (.fieldA 1 (.t 3))) (.op (oP 23 (.bsl false 2 1 [(iC (-1)), (.t 22), (iC 1099511627776)])) (.op (oP 24 (.call (fC 58) [(.t 20), (.t 23)])) (.op (oP 26 (.idxA 5 1 (.t 25) (.t 19))) (.op ⟨none, none, .store 1 (.t 26) (.t 24)⟩ .fin))))))) (.alt (.op (oP 23 (.bsl false 2 1 [(iC (-1)), (.t 22), (iC 1099511627776)])) (.alt (.op (oP 19 (.call (fC 56) [(.t 18), (iC 5)])) (.alt (.op (oP 24 (.call (fC 58) [(.t 20), (.t 23)])) (.op (oP 25 (.fieldA 1 (.t 3))) (.op (oP 26 (.idxA 5 1 (.t 25) (.t 19))) (.op ⟨none, none, .store 1 (.t 26) (.t 24)⟩ .fin)))) (.op (oP 25 (.fieldA 1 (.t 3))) (.op (oP 24 (.call (fC 58) [(.t 20), (.t 23)])) (.op (oP 26 (.idxA 5 1 (.t 25) (.t 19))) (.op ⟨none, none, .store 1 (.t 26) (.t 24)⟩ .fin)))))) (.op (oP 25 (.fieldA 1 (.t 3))) (.op (oP 19 (.call (fC 56) [(.t 18), (iC 5)])) (.op (oP 24 (.call (fC 58) [(.t 20), (.t 23)])) (.op (oP 26 (.idxA 5 1 (.t 25) (.t 19))) (.op ⟨none, none, .store 1 (.t 26) (.t 24)⟩ .fin))))))) (.op (oP 25 (.fieldA 1 (.t 3))) (.alt (.op (oP 19 (.call (fC 56) [(.t 18), (iC 5)])) (.op (oP 23 (.bsl false 2 1 [(iC (-1)), (.t 22), (iC 1099511627776)])) (.op (oP 24 (.call (fC 58) [(.t 20), (.t 23)])) (.op (oP 26 (.idxA 5 1 (.t 25) (.t 19))) (.op ⟨none, none, .store 1 (.t 26) (.t 24)⟩ .fin))))) (.op (oP 23 (.bsl false 2 1 [(iC (-1)), (.t 22), (iC 1099511627776)])) (.op (oP 19 (.call (fC 56) [(.t 18), (iC 5)])) (.op (oP 24 (.call (fC 58) [(.t 20), (.t 23)])) (.op (oP 26 (.idxA 5 1 (.t 25) (.t 19))) (.op ⟨none, none, .store 1 (.t 26) (.t 24)⟩ .fin)))))))))) (.op (oP 25 (.fieldA 1 (.t 3))) (.alt (.op (oP 19 (.call (fC 56) [(.t 18), (iC 5)])) (.op (oP 22 (.load false 1 (.t 21))) (.op (oP 23 (.bsl false 2 1 [(iC (-1)), (.t 22), (iC 1099511627776)])) (.op (oP 24 (.call (fC 58) [(.t 20), (.t 23)])) (.op (oP 26 (.idxA 5 1 (.t 25) (.t 19))) (.op ⟨none, none, .store 1 (.t 26) (.t 24)⟩ .fin)))))) (.op (oP 22 (.load false 1 (.t 21))) (.alt (.op (oP 19 (.call (fC 56) [(.t 18), (iC 5)])) (.op (oP 23 (.bsl false 2 1 [(iC (-1)), (.t 22), (iC 1099511627776)])) (.op (oP 24 (.call (fC 58) [(.t 20), (.t 23)])) (.op (oP 26 (.idxA 5 1 (.t 25) (.t 19))) (.op ⟨none, none, .store 1 (.t 26) (.t 24)⟩ .fin))))) (.op (oP 23 (.bsl false 2 1 [(iC (-1)), (.t 22), (iC 1099511627776)])) (.op (oP 19 (.call (fC 56) [(.t 18), (iC 5)])) (.op (oP 24 (.call (fC 58) [(.t 20), (.t 23)])) (.op (oP 26 (.idxA 5 1 (.t 25) (.t 19))) (.op ⟨none, none, .store 1 (.t 26) (.t 24)⟩ .fin)))))))))))) (.op (oP 25 (.fieldA 1 (.t 3))) (.alt (.op (oP 19 (.call (fC 56) [(.t 18), (iC 5)])) (.op (oP 21 (.fieldA 0 (.t 3))) (.op (oP 22 (.load false 1 (.t 21))) (.op (oP 23 (.bsl false 2 1 [(iC (-1)), (.t 22), (iC 1099511627776)])) (.op (oP 24 (.call (fC 58) [(.t 20), (.t 23)])) (.op (oP 26 (.idxA 5 1 (.t 25) (.t 19))) (.op ⟨none, none, .store 1 (.t 26) (.t 24)⟩ .fin))))))) (.op (oP 21 (.fieldA 0 (.t 3))) (.alt (.op (oP 19 (.call (fC 56) [(.t 18), (iC 5)])) (.op (oP 22 (.load false 1 (.t 21))) (.op (oP 23 (.bsl false 2 1 [(iC (-1)), (.t 22), (iC 1099511627776)])) (.op (oP 24 (.call (fC 58) [(.t 20), (.t 23)])) (.op (oP 26 (.idxA 5 1 (.t 25) (.t 19))) (.op ⟨none, none, .store 1 (.t 26) (.t 24)⟩ .fin)))))) (.op (oP 22 (.load false 1 (.t 21))) (.alt (.op (oP 19 (.call (fC 56) [(.t 18), (iC 5)])) (.op (oP 23 (.bsl false 2 1 [(iC (-1)), (.t 22), (iC 1099511627776)])) (.op (oP 24 (.call (fC 58) [(.t 20), (.t 23)])) (.op (oP 26 (.idxA 5 1 (.t 25) (.t 19))) (.op ⟨none, none, .store 1 (.t 26) (.t 24)⟩ .fin))))) (.op (oP 23 (.bsl false 2 1 [(iC (-1)), (.t 22), (iC 1099511627776)])) (.op (oP 19 (.call (fC 56) [(.t 18), (iC 5)])) (.op (oP 24 (.call (fC 58) [(.t 20), (.t 23)])) (.op (oP 26 (.idxA 5 1 (.t 25) (.t 19))) (.op ⟨none, none, .store 1 (.t 26) (.t 24)⟩ .fin)))))))))))))))) .skip))))))
  (.seq (.ops [oP 27 (.load true 6 (.t 3)), ⟨none, none, .store 6 (.t 4) (.t 27)⟩])
  .ret)))
theorem e134 : Ent 134 28 [] [.cell 4 true 6] k134 := ent Tryz.func134 (by kernel_rfl) (by kernel_rfl) (by kernel_rfl) (fun _ => by kernel_rfl) (by kernel_rfl)
def k133 : KC := (.seq (.ops [oP 2 (.alloc [.int .i64 0, .int .i64 0, .int .i64 0, .int .i64 0, .int .i64 0, .int .i64 0])])
  (.seq (.ops [mV 3 0, mV 4 0, oP 5 (.call (fC 168) [(.t 4)]), oP 6 (.call (fC 134) [(.t 3), (.t 5)]), ⟨none, none, .store 6 (.t 2) (.t 6)⟩])
  .ret))
theorem e133 : Ent 133 7 [] [.cell 2 true 6] k133 := ent Tryz.func133 (by kernel_rfl) (by kernel_rfl) (by kernel_rfl) (fun _ => by kernel_rfl) (by kernel_rfl)
end Go.Proofs.YthbbjbfbeaiphaaGreat
namespace Go.Proofs.YthbbjbfbeaiphaaGreat
open Go.Kv
set_option linter.unusedVariables false
set_option linter.unusedSimpArgs false
attribute [local irreducible] ACall PCall KL
theorem p168S {l : List Int} (hl : Byt l) {σ : Heap} {b : Nat} (hS : Src σ b l) {K : PV → Heap → Prop}
    (hK : ∀ (m : List Int) σ', m.length = 6 → (∃ f n, Ok f n ∧ m = mp f) → Src σ' b l → Kept σ σ' b → K (.agg (ints m)) σ') : ACall Tryz.prog 168 [.ptr b 0] σ K := by
  have hlt := hS.lt
  refine e168 (by simp) fun _ _ => ?_
  simp only [k168, argEnv, take6, List.drop_zero, Int.cast_ofNat_Int, go_sem, ↓reduceIte, Nat.reduceEqDiff, Nat.reduceAdd, Nat.reduceMul, Nat.reduceLeDiff, Nat.reduceLT, Int.reduceLE, Int.reduceLT, reduceCtorEq]
  try simp only [OpK_eq, HKv, take6, List.drop_zero, Int.cast_ofNat_Int, go_sem, ↓reduceIte, Nat.reduceEqDiff, Nat.reduceAdd, Nat.reduceMul, Nat.reduceLeDiff, Nat.reduceLT, Int.reduceLE, Int.reduceLT, reduceCtorEq]
  generalize hz : AObj.box [PV.int .i64 0, PV.int .i64 0, PV.int .i64 0, PV.int .i64 0, PV.int .i64 0, PV.int .i64 0] = z
  refine p58 hl ((hS.app _).app _) [1, 2, 3, 3, 4, 4, 5, 5] (by simp) (id := σ.length + 1) (ver := 0) (e := 2) (by rw [List.getElem?_append_right (by simp)]; simp [ints]) (by omega) 8 rfl fun r τ h2 h4 h5 h6 => ?_
  have hr : ∃ n : Nat, r = n ∧ 1 ≤ n ∧ n ≤ 5 := by
    simp only [List.mem_cons, List.not_mem_nil, or_false] at h2
    exact ⟨r.toNat, by omega, by omega, by omega⟩
  obtain ⟨n, rfl, hn1, hn5⟩ := hr
  have hz1 : τ[σ.length]? = some z := by
    rw [h5.2 _ (by simp) (by omega), List.getElem?_append_left (by simp)]; simp
  have hk1 : Kept σ τ b := ((Kept.app _ _ _).trans (Kept.app _ _ _)).trans h5
  clear h5 h6
  try simp only [OpK_eq, HKv, take6, List.drop_zero, Int.cast_ofNat_Int, go_sem, ↓reduceIte, Nat.reduceEqDiff, Nat.reduceAdd, Nat.reduceMul, Nat.reduceLeDiff, Nat.reduceLT, Int.reduceLE, Int.reduceLT, reduceCtorEq]
  refine p135S hl h4 n hn1 hn5 fun m ρ q1 q2' q3 q4 => ?_
  have q2 : ∃ f n, Ok f n ∧ m = mp f := by obtain ⟨f, h1, h2⟩ := q2'; exact ⟨f, n, h1, h2⟩
  have hzl := (List.getElem?_eq_some_iff.1 hz1).1
  have hz2 : ρ[σ.length]? = some z := (q4.2 _ hzl (by omega)).trans hz1
  have hself : ∀ o, (ρ.set σ.length o)[σ.length]? = some o := fun o => List.getElem?_set_self (List.getElem?_eq_some_iff.1 hz2).1
  have hil : (ints m).length = 6 := by rw [ints_length, q1]
  subst hz
  try simp only [OpK_eq, HKv, hz2, hself, hil, take6, List.drop_zero, Int.cast_ofNat_Int, go_sem, ↓reduceIte, Nat.reduceEqDiff, Nat.reduceAdd, Nat.reduceMul, Nat.reduceLeDiff, Nat.reduceLT, Int.reduceLE, Int.reduceLT, reduceCtorEq]
  have hk2 := hk1.trans q4
  exact Kv.Fin.now (hK m _ q1 q2 (q3.keep (List.getElem?_set_ne (by omega))) ⟨by rw [List.length_set]; exact hk2.1, fun j hj hb => (List.getElem?_set_ne (by omega)).trans (hk2.2 j hj hb)⟩)
theorem p168 {l : List Int} (hl : Byt l) {σ : Heap} {b : Nat} (hS : Src σ b l) {K : PV → Heap → Prop}
    (hK : ∀ (m : List Int) σ', m.length = 6 → (0 ≤ m.getD 0 0 ∧ m.getD 0 0 ≤ 5) → Src σ' b l → Kept σ σ' b → K (.agg (ints m)) σ') : ACall Tryz.prog 168 [.ptr b 0] σ K :=
  p168S hl hS fun m σ' h1 h2 h3 h4 => hK m σ' h1 (by
    obtain ⟨f, n, hf, rfl⟩ := h2
    have : (mp f).getD 0 0 = (f.length : Int) := rfl
    have := hf.le
    have := hf.len
    omega) h3 h4
/-- A map that is being spoilt. -/
structure BI (σ τ : Heap) (b : Nat) (l m : List Int) : Prop where
  src : Src τ b l
  kept : Kept σ τ b
  a : τ[σ.length + 1]? = some (.box [PV.int .i64 0, PV.int .i64 0, PV.int .i64 0, PV.int .i64 0, PV.int .i64 0, PV.int .i64 0])
  c : τ[σ.length]? = some (.box (ints m))
  len : m.length = 6
  lt : b < σ.length
theorem BI.step {σ τ τ' : Heap} {b : Nat} {l m : List Int} (h : BI σ τ b l m) (hS : Src τ' b l) (hK : Kept τ τ' b) : BI σ τ' b l m :=
  have h1 := (List.getElem?_eq_some_iff.1 h.a).1
  have h2 := (List.getElem?_eq_some_iff.1 h.c).1
  have h3 := h.lt
  ⟨hS, h.kept.trans hK, (hK.2 _ h1 (by omega)).trans h.a, (hK.2 _ h2 (by omega)).trans h.c, h.len, h.lt⟩
theorem BI.app {σ τ : Heap} {b : Nat} {l m : List Int} (h : BI σ τ b l m) (X : Heap) : BI σ (τ ++ X) b l m := h.step (h.src.app X) (Kept.app _ _ _)
theorem BI.set {σ τ : Heap} {b : Nat} {l m : List Int} (h : BI σ τ b l m) {m' : List Int} (h6 : m'.length = 6) : BI σ (τ.set σ.length (.box (ints m'))) b l m' :=
  have h2 := (List.getElem?_eq_some_iff.1 h.c).1
  have h3 := h.lt
  ⟨h.src.keep (List.getElem?_set_ne (by omega)), ⟨by rw [List.length_set]; exact h.kept.1, fun j hj hb => (List.getElem?_set_ne (by omega)).trans (h.kept.2 j hj hb)⟩, (List.getElem?_set_ne (by omega)).trans h.a, List.getElem?_set_self h2, h6, h.lt⟩
theorem BI.fin {σ τ : Heap} {b : Nat} {l m : List Int} (h : BI σ τ b l m) (o : AObj) : Src (τ.set (σ.length + 1) o) b l ∧ Kept σ (τ.set (σ.length + 1) o) b :=
  have h3 := h.lt
  ⟨h.src.keep (List.getElem?_set_ne (by omega)), by rw [List.length_set]; exact h.kept.1, fun j hj hb => (List.getElem?_set_ne (by omega)).trans (h.kept.2 j hj hb)⟩
theorem BI.self {σ τ : Heap} {b : Nat} {l m : List Int} (h : BI σ τ b l m) (o : AObj) : (τ.set (σ.length + 1) o)[σ.length + 1]? = some o := List.getElem?_set_self (List.getElem?_eq_some_iff.1 h.a).1
/-- The same, with a list of numbers beside it. -/
structure BJ (σ τ : Heap) (b : Nat) (l m : List Int) (id : Nat) (L : List Int) : Prop where
  bi : BI σ τ b l m
  arr : τ[id]? = some (.arr 0 2 1 (ints L))
  ne : id ≠ b
theorem BI.bj {σ τ : Heap} {b : Nat} {l m : List Int} (h : BI σ τ b l m) (L : List Int) : BJ σ (τ ++ [.arr 0 2 1 (ints L)]) b l m τ.length L :=
  ⟨h.app _, by simp, by have := h.src.lt; omega⟩
theorem BJ.step {σ τ τ' : Heap} {b : Nat} {l m : List Int} {id : Nat} {L : List Int} (h : BJ σ τ b l m id L) (hS : Src τ' b l) (hK : Kept τ τ' b) : BJ σ τ' b l m id L :=
  ⟨h.bi.step hS hK, (hK.2 _ (List.getElem?_eq_some_iff.1 h.arr).1 h.ne).trans h.arr, h.ne⟩
theorem nextI {l : List Int} (hl : Byt l) {σ ρ : Heap} {b : Nat} {m : List Int} (h : BI σ ρ b l m) (n : Int) {K : PV → Heap → Prop} (hK : ∀ (r : Int) ρ', 0 ≤ r → (1 ≤ n → r < n) → BI σ ρ' b l m → K (.int .i64 r) ρ') : ACall Tryz.prog 56 [.ptr b 0, .int .i64 n] ρ K :=
  p56 hl h.src n fun r ρ' h1 h2 h3 h4 _ => hK r ρ' h1 h2 (h.step h3 h4)
theorem nextJ {l : List Int} (hl : Byt l) {σ ρ : Heap} {b : Nat} {m : List Int} {id : Nat} {L : List Int} (h : BJ σ ρ b l m id L) (n : Int) {K : PV → Heap → Prop} (hK : ∀ (r : Int) ρ', 0 ≤ r → (1 ≤ n → r < n) → BJ σ ρ' b l m id L → K (.int .i64 r) ρ') : ACall Tryz.prog 56 [.ptr b 0, .int .i64 n] ρ K :=
  p56 hl h.bi.src n fun r ρ' h1 h2 h3 h4 _ => hK r ρ' h1 h2 (h.step h3 h4)
theorem pickJ {l : List Int} (hl : Byt l) {σ ρ : Heap} {b : Nat} {m : List Int} {id : Nat} {L : List Int} (h : BJ σ ρ b l m id L) (h0 : 1 ≤ L.length ∧ L.length ≤ 1000) (k : Nat) (hk : k = L.length) {K : PV → Heap → Prop} (hK : ∀ (r : Int) ρ', r ∈ L → BI σ ρ' b l m → K (.int .i64 r) ρ') : ACall Tryz.prog 58 [.ptr b 0, .ref id 0 0 k] ρ K :=
  p58 hl h.bi.src L h0 h.arr h.ne k hk fun r ρ' h1 h2 h3 _ => hK r ρ' h1 (h.bi.step h2 h3)
theorem p134 {l : List Int} (hl : Byt l) {σ : Heap} {b : Nat} (hS : Src σ b l) (f : List Int) (h6 : f.length = 6) (hp : 0 ≤ f.getD 0 0 ∧ f.getD 0 0 ≤ 5) {K : PV → Heap → Prop}
    (hK : ∀ (m : List Int) σ', m.length = 6 → Src σ' b l → Kept σ σ' b → K (.agg (ints m)) σ') : ACall Tryz.prog 134 [.ptr b 0, .agg (ints f)] σ K := by
  have hlt := hS.lt
  have hil : (ints f).length = 6 := by rw [ints_length, h6]
  refine e134 (by simp) fun _ _ => ?_
  simp only [k134, argEnv, take6, List.drop_zero, Int.cast_ofNat_Int, go_sem, ↓reduceIte, Nat.reduceEqDiff, Nat.reduceAdd, Nat.reduceMul, Nat.reduceLeDiff, Nat.reduceLT, Int.reduceLE, Int.reduceLT, reduceCtorEq]
  try simp only [OpK_eq, HKv, hil, take6, List.drop_zero, Int.cast_ofNat_Int, go_sem, ↓reduceIte, Nat.reduceEqDiff, Nat.reduceAdd, Nat.reduceMul, Nat.reduceLeDiff, Nat.reduceLT, Int.reduceLE, Int.reduceLT, reduceCtorEq]
  have hB0 : BI σ (σ ++ [AObj.box (ints f)] ++ [AObj.box [PV.int .i64 0, PV.int .i64 0, PV.int .i64 0, PV.int .i64 0, PV.int .i64 0, PV.int .i64 0]]) b l f := by
    refine ⟨(hS.app _).app _, (Kept.app _ _ _).trans (Kept.app _ _ _), ?_, ?_, h6, hlt⟩
    · rw [List.getElem?_append_right (by simp)]; simp
    · rw [List.getElem?_append_left (by simp)]; simp
  refine nextI hl hB0 _ fun r τ h2 h3 hB => ?_
  clear hB0
  have hend : ∀ (m : List Int) (ρ : Heap), BI σ ρ b l m → K (.agg (ints m)) (ρ.set (σ.length + 1) (.box (ints m))) := fun m ρ h => hK m _ h.len (h.fin _).1 (h.fin _).2
  have hC := hB.c
  have hA := hB.a
  have hs := hB.self
  try simp only [OpK_eq, HKv, hC, hA, hs, hil, h6, take6, List.drop_zero, Int.cast_ofNat_Int, go_sem, ↓reduceIte, Nat.reduceEqDiff, Nat.reduceAdd, Nat.reduceMul, Nat.reduceLeDiff, Nat.reduceLT, Int.reduceLE, Int.reduceLT, reduceCtorEq]
  have fin : ∀ (m : List Int) (ρ : Heap), BI σ ρ b l m → ∀ o, (ρ.set σ.length o)[σ.length]? = some o := fun m ρ h o => List.getElem?_set_self (List.getElem?_eq_some_iff.1 h.c).1
  refine ⟨fun _ => ?_, fun _ => ⟨fun _ => ?_, fun _ => ?_⟩⟩
  · refine ⟨by omega, ?_⟩
    refine pickJ hl (hB.bj [0, 6, -1, f.getD 0 0 + 1]) (by simp) 4 rfl fun r2 ρ h4 hB2 => ?_
    have h7 : (f.set 0 r2).length = 6 := by rw [List.length_set]; exact h6
    have hB3 := hB2.set h7
    have hC2 := hB2.c
    have hC3 := hB3.c
    have hA3 := hB3.a
    have hs3 := hB3.self
    have hil3 : (ints (f.set 0 r2)).length = 6 := by rw [ints_length, h7]
    try simp only [OpK_eq, HKv, hC2, ints_set1, hil, hC3, hA3, hs3, hil3, h7, take6, List.drop_zero, Int.cast_ofNat_Int, go_sem, ↓reduceIte, Nat.reduceEqDiff, Nat.reduceAdd, Nat.reduceMul, Nat.reduceLeDiff, Nat.reduceLT, Int.reduceLE, Int.reduceLT, reduceCtorEq]
    exact Kv.Fin.now (hend _ _ hB3)
  · have hcI : ∀ ρ, BI σ ρ b l f → ρ[σ.length]? = some (.box (ints f)) := fun ρ h => h.c
    clear hC hA hs
    have g1 : ∀ ρ k v, BI σ ρ b l f → (ρ.set σ.length (.box (ints (f.set k v))))[σ.length]? = some (.box (ints (f.set k v))) := fun ρ k v h => fin f ρ h _
    have g2 : ∀ ρ k v, BI σ ρ b l f → (ρ.set σ.length (.box (ints (f.set k v))))[σ.length + 1]? = some (.box [PV.int .i64 0, PV.int .i64 0, PV.int .i64 0, PV.int .i64 0, PV.int .i64 0, PV.int .i64 0]) := fun ρ k v h => (h.set (m' := f.set k v) (by rw [List.length_set]; exact h6)).a
    have g3 : ∀ ρ k v o, BI σ ρ b l f → ((ρ.set σ.length (.box (ints (f.set k v)))).set (σ.length + 1) o)[σ.length + 1]? = some o := fun ρ k v o h => (h.set (m' := f.set k v) (by rw [List.length_set]; exact h6)).self o
    have g5 : ∀ ρ k v, BI σ ρ b l f → K (.agg (ints (f.set k v))) ((ρ.set σ.length (.box (ints (f.set k v)))).set (σ.length + 1) (.box (ints (f.set k v)))) := fun ρ k v h => hend _ _ (h.set (by rw [List.length_set]; exact h6))
    have g6 : ∀ k v, List.take 6 (f.set k v) = f.set k v := fun k v => take6 (by rw [List.length_set, h6])
    have g7 : ∀ k v, subC (ints (f.set k v)) 0 6 = ints (f.set k v) := fun k v => sub6 (by rw [ints_length, List.length_set, h6])
    have g8 : ∀ k v, putC [PV.int .i64 0, PV.int .i64 0, PV.int .i64 0, PV.int .i64 0, PV.int .i64 0, PV.int .i64 0] 0 (ints (f.set k v)) = ints (f.set k v) := fun k v => put6 (by rw [ints_length, List.length_set, h6]) rfl
    have g9 : ∀ k v, (f.set k v).length = 6 := fun k v => by rw [List.length_set, h6]
    have g4 : ∀ k v, (ints (f.set k v)).length = 6 := fun k v => by rw [ints_length, List.length_set, h6]
    repeat' (first
      | omega
      | (rw [vT_alt]; refine ⟨?_, ?_⟩)
      | (refine nextJ hl (σ := σ) (m := f) (L := [-1, f.getD 0 0, 1099511627776]) (by assumption) _ fun r2 ρ h4 h5 hB2 => ?_)
      | (refine nextJ hl (σ := σ) (m := f) (L := [-1, f.getD 0 0, 1099511627776]) (BI.bj (by assumption) [-1, f.getD 0 0, 1099511627776]) _ fun r2 ρ h4 h5 hB2 => ?_)
      | (refine nextI hl (σ := σ) (m := f) (by assumption) _ fun r2 ρ h4 h5 hB2 => ?_)
      | (refine pickJ hl (σ := σ) (m := f) (L := [-1, f.getD 0 0, 1099511627776]) (by assumption) (by simp) 3 rfl fun r3 ρ3 h4 hB3 => ?_)
      | (refine pickJ hl (σ := σ) (m := f) (L := [-1, f.getD 0 0, 1099511627776]) (BI.bj (by assumption) [-1, f.getD 0 0, 1099511627776]) (by simp) 3 rfl fun r3 ρ3 h4 hB3 => ?_)
      | (with_reducible refine And.intro ?_ ?_)
      | (with_reducible intro _)
      | (simp (disch := assumption) only [hcI, OpK_eq, HKv, hil, ints_set1, take6, List.drop_zero, Int.cast_ofNat_Int, go_sem, ↓reduceIte, Nat.reduceEqDiff, Nat.reduceAdd, Nat.reduceMul, Nat.reduceLeDiff, Nat.reduceLT, Int.reduceLE, Int.reduceLT, reduceCtorEq]))
    all_goals (simp (disch := assumption) only [g1, g2, g3, g4, g6, g7, g8, g9, OpK_eq, HKv, hil, ints_set1, take6, List.drop_zero, Int.cast_ofNat_Int, go_sem, ↓reduceIte, Nat.reduceEqDiff, Nat.reduceAdd, Nat.reduceMul, Nat.reduceLeDiff, Nat.reduceLT, Int.reduceLE, Int.reduceLT, reduceCtorEq])
    all_goals exact Kv.Fin.now (g5 _ _ _ (by assumption))
  · exact Kv.Fin.now (hend f τ hB)
theorem p133 {l : List Int} (hl : Byt l) {σ : Heap} {b : Nat} (hS : Src σ b l) {K : PV → Heap → Prop}
    (hK : ∀ (m : List Int) σ', m.length = 6 → Src σ' b l → Kept σ σ' b → K (.agg (ints m)) σ') : ACall Tryz.prog 133 [.ptr b 0] σ K := by
  have hlt := hS.lt
  refine e133 (by simp) fun _ _ => ?_
  simp only [k133, argEnv, take6, List.drop_zero, Int.cast_ofNat_Int, go_sem, ↓reduceIte, Nat.reduceEqDiff, Nat.reduceAdd, Nat.reduceMul, Nat.reduceLeDiff, Nat.reduceLT, Int.reduceLE, Int.reduceLT, reduceCtorEq]
  try simp only [OpK_eq, HKv, take6, List.drop_zero, Int.cast_ofNat_Int, go_sem, ↓reduceIte, Nat.reduceEqDiff, Nat.reduceAdd, Nat.reduceMul, Nat.reduceLeDiff, Nat.reduceLT, Int.reduceLE, Int.reduceLT, reduceCtorEq]
  generalize hz : AObj.box [PV.int .i64 0, PV.int .i64 0, PV.int .i64 0, PV.int .i64 0, PV.int .i64 0, PV.int .i64 0] = z
  refine p168 hl (hS.app _) fun m τ q1 q2 q3 q4 => ?_
  have hk1 : Kept σ τ b := (Kept.app _ _ _).trans q4
  have hz1 : τ[σ.length]? = some z := by
    rw [q4.2 _ (by simp) (by omega)]; simp
  try simp only [OpK_eq, HKv, take6, List.drop_zero, Int.cast_ofNat_Int, go_sem, ↓reduceIte, Nat.reduceEqDiff, Nat.reduceAdd, Nat.reduceMul, Nat.reduceLeDiff, Nat.reduceLT, Int.reduceLE, Int.reduceLT, reduceCtorEq]
  refine p134 hl q3 m q1 q2 fun m2 ρ q5 q6 q7 => ?_
  have hzl := (List.getElem?_eq_some_iff.1 hz1).1
  have hz2 : ρ[σ.length]? = some z := (q7.2 _ hzl (by omega)).trans hz1
  have hself : ∀ o, (ρ.set σ.length o)[σ.length]? = some o := fun o => List.getElem?_set_self (List.getElem?_eq_some_iff.1 hz2).1
  have hil : (ints m2).length = 6 := by rw [ints_length, q5]
  subst hz
  try simp only [OpK_eq, HKv, hz2, hself, hil, take6, List.drop_zero, Int.cast_ofNat_Int, go_sem, ↓reduceIte, Nat.reduceEqDiff, Nat.reduceAdd, Nat.reduceMul, Nat.reduceLeDiff, Nat.reduceLT, Int.reduceLE, Int.reduceLT, reduceCtorEq]
  have hk2 := hk1.trans q7
  exact Kv.Fin.now (hK m2 _ q5 (q6.keep (List.getElem?_set_ne (by omega))) ⟨by rw [List.length_set]; exact hk2.1, fun j hj hb => (List.getElem?_set_ne (by omega)).trans (hk2.2 j hj hb)⟩)
end Go.Proofs.YthbbjbfbeaiphaaGreat
end
section
/- Lists of maps that grow; what is copied into an array. -/
namespace Go.Proofs.YthbbjbfbeaiphaaGreat
open Go.Kv
set_option linter.unusedVariables false
set_option linter.unusedSimpArgs false
variable {e : TypeId} {σ : Heap} {lo hi : Nat} {v : PV} {l : List (List Int)}
theorem OwnA.append (h : OwnA e σ 0 σ.length v l) (τ : Heap) : OwnA e (σ ++ τ) 0 (σ ++ τ).length v l := by
  cases h with
  | nil => exact .nil
  | own id ver l post h h6 h1 => exact .own id ver l post ((List.getElem?_append_left h1.2).trans h) h6 ⟨h1.1, by rw [List.length_append]; omega⟩
theorem Free.boxI (m : List Int) : Free [.box (ints m)] := fun o ho => by
  simp only [List.mem_singleton] at ho; subst ho
  intro c hc
  exact (Plain.ints m c hc).fr
theorem Free.set {σ : Heap} (h : Free σ) (i : Nat) {o : AObj} (ho : AObj.free o) : Free (σ.set i o) := fun p hp => by
  rcases List.mem_or_eq_of_mem_set hp with hp | rfl
  · exact h p hp
  · exact ho
theorem OwnA.push (h : OwnA e σ 0 σ.length v l) (hf : Free σ) (m : List Int) (hm : m.length = 6) (hn : l.length < 4294967296) {K : PV → Heap → Prop}
    (hK : ∀ v' σ', OwnA e σ' 0 σ'.length v' (l ++ [m]) → Free σ' → K v' σ') : aApp e 6 v (.list [.agg (ints m)]) σ K := by
  have hok : okL 6 [.agg (ints m)] = True := by
    have := okL_aggs 6 [m]
    simp only [List.mem_singleton, forall_eq, hm] at this
    simpa [aggs] using this
  cases h with
  | nil =>
    simp only [aApp_nils, aNews_list, hok, true_and, AppN_def]
    refine ⟨by simp, hK _ _ ?_ (hf.append (Free.aggs 0 e 6 [m]))⟩
    have := OwnA.own (e := e) (σ := σ ++ [AObj.arr 0 e 6 (aggs [m])]) (lo := 0) (hi := (σ ++ [AObj.arr 0 e 6 (aggs [m])]).length) σ.length 0 [m] [] (by simp) (by simpa using hm) ⟨Nat.zero_le _, by simp⟩
    exact this
  | own id ver l post h h6 h1 =>
    simp only [aApp_ref, h, AppR_arr, aNews_list, hok, true_and, AppM_def]
    have e1 : (aggs (l ++ post)).take l.length ++ [PV.agg (ints m)] = aggs (l ++ [m]) := by
      rw [aggs_take, List.take_left']
      · simp [aggs]
      · rfl
    rw [e1]
    refine ⟨⟨by simp [aggs_length], by simp; omega⟩, hK _ _ ?_ (Free.set hf id (free_aggs _))⟩
    have := OwnA.own (e := e) (σ := σ.set id (AObj.arr (ver + 1) e 6 (aggs (l ++ [m])))) (lo := 0) (hi := (σ.set id (AObj.arr (ver + 1) e 6 (aggs (l ++ [m])))).length) id (ver + 1) (l ++ [m]) [] (by rw [List.append_nil]; exact List.getElem?_set_self h1.2) (fun r hr => by
      rcases List.mem_append.1 hr with hr | hr
      · exact h6 r hr
      · simp only [List.mem_singleton] at hr; rw [hr]; exact hm) ⟨Nat.zero_le _, by simpa using h1.2⟩
    simpa using this
end Go.Proofs.YthbbjbfbeaiphaaGreat
end
