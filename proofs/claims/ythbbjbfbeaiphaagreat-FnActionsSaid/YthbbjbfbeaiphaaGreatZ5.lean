/- Several texts of this session as one, less what the claim does not need. -/
import Derived.Test.YthbbjbfbeaiphaaGreatFC
import Derived.OpenShut
import Derived.DataElems
import Derived.Test.YthbbjbfbeaiphaaGreatCb
section
namespace Go.Kv
open Go.ChangeShapes
set_option linter.unusedVariables false
set_option linter.unusedSimpArgs false
variable {H : Type} {enc : TypeId × Value → H} {P : Program} {W : World} {sp : Nat → Bool} {held : Bool}
end Go.Kv
end
section
namespace Go.Kv
open Go.ChangeShapes
set_option linter.unusedVariables false
set_option linter.unusedSimpArgs false
def u8s (l : List Int) : List PV := l.map (PV.int .u8)
@[simp] theorem u8s_length (l : List Int) : (u8s l).length = l.length := by simp [u8s]
attribute [go_sem] u8s_length
theorem u8s_get {l : List Int} {i : Nat} {x : PV} (h : (u8s l)[i]? = some x) : ∃ z, l[i]? = some z ∧ x = .int .u8 z := by
 simp only [u8s, List.getElem?_map, Option.map_eq_some_iff] at h
 obtain ⟨y, hy, rfl⟩ := h
 exact ⟨y, hy, rfl⟩
instance (l : List Int) : Still (.list (u8s l)) := Still.list fun x hx => by
 obtain ⟨m, _, rfl⟩ := List.mem_map.1 hx
 refine ⟨⟨(Plain.int _ _).up, (Plain.int _ _).rn⟩, fun c hc => ?_⟩
 simp only [PV.cs, List.mem_singleton] at hc
 subst hc
 exact (Plain.int _ _).up
variable {H : Type} {enc : TypeId × Value → H} {P : Program} {W : World} {sp : Nat → Bool} {held : Bool}
theorem rel_bytes {t e : TypeId} {fuel : Nat} {cs : List Value} {x : DataW H × List MemPlace} (ht : P.underlying t = some (.slice e)) (he : P.underlying e = some (.int .u8)) (hc : P.cellsOf e = 1)
  (h : DataW.trod enc P W 0 sp held fuel t cs = some x) : ∃ (v : Value) (l : List Int), cs = [v] ∧ Rel (allFrz W) [] (.list (u8s l)) v ∧ l.length ≤ maxLen ∧ ∀ z ∈ l, 0 ≤ z ∧ z ≤ 255 := by
 rcases DataW.trod_slice ht h with ⟨rfl, _⟩ | ⟨a, len, cap, elems, rest, n, _, rfl, _, _, hlc, hcm, hel, hget, _, _⟩
 ·exact ⟨_, [], rfl, .listn, by simp, by simp⟩
 ·obtain ⟨l, hll, hq⟩ := choose_list (0 : Int) (fun i z => (0 ≤ z ∧ z ≤ 255) ∧ W.cell? (a.add (i * 1 + 0)) = some (.int .u8 z)) len (fun i hi => by
   have hg := hget i hi
   rw [List.getElem?_eq_getElem (by omega), hc, Option.bind_eq_some_iff] at hg
   obtain ⟨cs', hcs, htr⟩ := hg
   obtain ⟨z, hz, _, hw⟩ := DataW.trod_int he htr
   refine ⟨z, ?_, ?_⟩
   ·simp only [Lit.wf, Bool.and_eq_true, decide_eq_true_eq] at hw
    exact hw
   ·have := (World.cells?_some hcs).2.2 0 (by omega)
    rw [hz] at this
    rw [Addr.add_add] at this
    exact this)
  refine ⟨_, l, rfl, ?_, by omega, fun z hz => ?_⟩
  ·have := list_rel (W := W) (a := a) (cap := cap) (esz := 1) (xs := u8s l) (by rw [u8s_length, hll]; exact hlc) (by omega) (fun x hx => by
    simp only [u8s, List.mem_map] at hx
    obtain ⟨y, _, rfl⟩ := hx
    exact ⟨rfl, rfl⟩) (fun i x j c hx hcj => by
    obtain ⟨y, hy, rfl⟩ := u8s_get hx
    have hj : j = 0 ∧ c = .int .u8 y := by
     cases j with
     | zero => simp [PV.cs] at hcj; exact ⟨rfl, hcj.symm⟩
     | succ j => simp [PV.cs] at hcj
    obtain ⟨rfl, rfl⟩ := hj
    have hi := (List.getElem?_eq_some_iff.1 hy).1
    have h2 := (hq i (by omega)).2
    rw [List.getD_eq_getElem?_getD, hy] at h2
    exact ⟨.int .u8 y, h2, .int _ _⟩)
   rw [u8s_length, hll] at this
   exact this
  ·obtain ⟨i, hi⟩ := List.getElem?_of_mem hz
   have hlt := (List.getElem?_eq_some_iff.1 hi).1
   have := (hq i (by omega)).1
   rw [List.getD_eq_getElem?_getD, hi] at this
   exact this
theorem arg_bytes {r : Reach} {b : Nat} {t e : TypeId} {v : Value} {d : DataW H} {ps : List MemPlace} (ht : P.underlying t = some (.slice e)) (he : P.underlying e = some (.int .u8)) (hc : P.cellsOf e = 1)
  (hv : Value.okWide P W r b t v) (h : DataW.Trod enc P W 0 sp held t v d ps) : ∃ l : List Int, Rel (allFrz W) [] (.list (u8s l)) v ∧ l.length ≤ maxLen ∧ ∀ z ∈ l, 0 ≤ z ∧ z ≤ 255 := by
 obtain ⟨fuel, h⟩ := h
 rw [arg_slice ht hv] at h
 obtain ⟨u, l, hu, h1, h2, h3⟩ := rel_bytes ht he hc h
 cases hu
 exact ⟨l, h1, h2, h3⟩
end Go.Kv
end
section
namespace Go.Kv
set_option linter.unusedVariables false
def AObj.plain : AObj → Prop
 | .dead => True
 | .box cs => ∀ c ∈ cs, Plain c
 | .arr _ _ _ xs => ∀ c ∈ flat xs, Plain c
theorem Plain.rel {c : PV} (h : Plain c) {φ φ' : Frz} {ι ι' : List KLoc} {v : Value} (hr : Rel φ ι c v) : Rel φ' ι' c v := by
 have h1 := h.up _ _ _ hr
 have h2 := h.fr φ φ' _ _ h1
 exact h2.mono (.refl _) (fun id l hl => by simp at hl)
theorem RelL.plain {cs : List PV} (h : ∀ c ∈ cs, Plain c) {φ φ' : Frz} {ι ι' : List KLoc} {vs : List Value} (hr : RelL φ ι cs vs) : RelL φ' ι' cs vs :=
 ⟨hr.1, fun i c v hc hv => (h c (List.mem_of_getElem? hc)).rel (hr.2 i c v hc hv)⟩
theorem ObjOK.plain {φ φ' : Frz} {ι ι' : List KLoc} {w : World} {o : AObj} {l : KLoc} (hp : o.plain) (h : ObjOK φ ι w o l) : ObjOK φ' ι' w o l := by
 cases o with
 | dead => cases l <;> simp [ObjOK]
 | box cs =>
  cases l <;> simp only [ObjOK] at h ⊢
  obtain ⟨C, e, h1, h2, h3⟩ := h
  exact ⟨C, e, h1, h2.plain hp, h3⟩
 | arr v e s xs =>
  cases l <;> simp only [ObjOK] at h ⊢
  obtain ⟨h1, h2, h2', h3, ys, h4, h5, h6⟩ := h
  exact ⟨h1, h2, h2', h3, ys, h4, h5.plain hp, h6⟩
def sh1 (id n : Nat) : Nat → Nat
 | 0 => id
 | j + 1 => n + j
theorem ACall.lendOn {P : Program} {f : FuncId} {args args' : List PV} {σ : Heap} {K K' : PV → Heap → Prop} {id : Nat} {o : AObj} (hid : σ[id]? = some o) (hpl : o.plain) (h : ACall P f args' [o] K') (hlen : args.length = args'.length)
  (ha : ∀ (i : Nat) (c d : PV), args[i]? = some c → args'[i]? = some d → Imm (σ.set id .dead) c d ∨ ∃ ver off len, c = .ref id ver off len ∧ d = .ref 0 ver off len)
  (hk : ∀ v s, K' v s → ∃ o1 s1, s = o1 :: s1 ∧ (v.free ∧ ∀ x ∈ s, AObj.free x) ∧ K (v.ren (sh1 id σ.length)) (σ.set id (o1.ren (sh1 id σ.length)) ++ s1.map (AObj.ren (sh1 id σ.length)))) : ACall P f args σ K := by
 refine ⟨h.1, fun φ ι w vs hr ho => ?_⟩
 have hlt := (List.getElem?_eq_some_iff.1 hid).1
 have hltι : id < ι.length := by rw [ho.len]; exact hlt
 obtain ⟨l, hl⟩ : ∃ l, ι[id]? = some l := ⟨_, List.getElem?_eq_getElem hltι⟩
 let φ1 : Frz := fun b => if l.block = some b then none else allFrz w b
 have hφ1 : ∀ b, φ1 b = if l.block = some b then none else allFrz w b := fun b => rfl
 have hlφ : ∀ b, l.block = some b → φ b = none := fun b hb => ho.nf id l b hl hb
 have hle : FLe φ φ1 := fun b C hb => by
  rw [hφ1, if_neg (fun hb2 => by rw [hlφ b hb2] at hb; cases hb)]
  exact allFrz_le ho b C hb
 have hd : HOK φ ι (σ.set id .dead) w := ⟨by simp [ho.len], ho.fz, ho.nf, ho.dis, ho.lt, fun j o' l' h1 h2 => by
  by_cases e : id = j
  ·subst e; rw [List.getElem?_set_self hlt] at h1; cases h1; trivial
  ·rw [List.getElem?_set_ne e] at h1; exact ho.obj j o' l' h1 h2⟩
 have ho1 : HOK φ1 [l] [o] w := by
  refine ⟨rfl, fun b C hb => ?_, fun j l' b h1 h2 => ?_, fun j j' l1 l2 b h1 h2 _ _ => ?_, fun j l' b h1 h2 => ?_, fun j o' l' h1 h2 => ?_⟩
  ·rw [hφ1] at hb
   split at hb
   ·cases hb
   ·exact (allFrz_hok w).fz b C hb
  ·cases j with
   | zero => simp only [List.getElem?_cons_zero, Option.some.injEq] at h1; subst h1; rw [hφ1, if_pos h2]
   | succ j => simp at h1
  ·have h1 := (List.getElem?_eq_some_iff.1 h1).1
   have h2 := (List.getElem?_eq_some_iff.1 h2).1
   simp at h1 h2; omega
  ·cases j with
   | zero => simp only [List.getElem?_cons_zero, Option.some.injEq] at h1; subst h1; exact ho.lt id _ b hl h2
   | succ j => simp at h1
  ·cases j with
   | zero =>
    simp only [List.getElem?_cons_zero, Option.some.injEq] at h1 h2
    subst h1; subst h2
    exact (ho.obj id _ _ hid hl).plain hpl
   | succ j => simp at h1
 have hr1 : RelL φ1 [l] args' vs := ⟨by rw [← hlen]; exact hr.1, fun i d v hd' hv => by
  obtain ⟨c, hc⟩ := other hlen hd'
  rcases ha i c d hc hd' with hi | ⟨ver, off, len, rfl, rfl⟩
  ·have := hi.rel hd hle (fun j o' l' b C e f h1 h2 h3 h4 h5 => ?_) (hr.2 i c v hc hv)
   ·exact this.mono (.refl _) (fun j l' h => by simp at h)
   ·have hj : id ≠ j := fun e => by
     subst e; rw [List.getElem?_set_self hlt] at h1; cases h1; exact h2 rfl
    rw [hφ1, if_neg (fun hb => hj (ho.dis id j l l' b hl h3 hb h4))]
    exact allFrz_own h5
  ·have hR := hr.2 i _ v hc hv
   cases hR with
   | ref _ _ _ _ _ k e esz u hh ho' hk' hv' =>
    rw [hl] at hh
    exact .ref 0 ver off len v k e esz u (by simpa using hh) ho' hk' hv'⟩
 refine (h.2 φ1 [l] w vs hr1 ho1).mono fun e w' ⟨v, v', φ', ι', s, h1, h2, h3, h4, h5⟩ => ?_
 obtain ⟨o1, s1, rfl, ⟨hvf, hsf⟩, hK⟩ := hk v s h5
 obtain ⟨l1, ι1, rfl⟩ : ∃ l1 ι1, ι' = l1 :: ι1 := by
  have hll := h4.len
  cases ι' with
  | nil => simp at hll
  | cons a b => exact ⟨a, b, rfl⟩
 have hll1 : l.le l1 := by
  obtain ⟨l', h6, h7⟩ := h3.l 0 l (by simp)
  simp only [List.getElem?_cons_zero, Option.some.injEq] at h6
  subst h6; exact h7
 have hkeep : ∀ b, b < w.heap.size → l.block ≠ some b → w'.heap[b]? = w.heap[b]? := fun b hb hn => h3.fr b hb (fun ⟨j, l', h6, h7⟩ => by
  cases j with
  | zero => simp only [List.getElem?_cons_zero, Option.some.injEq] at h6; subst h6; exact hn h7
  | succ j => simp at h6)
 have hnew : ∀ (j : Nat) (l' : KLoc) (b : Nat), (l1 :: ι1)[j]? = some l' → l'.block = some b → l.block = some b ∨ w.heap.size ≤ b := fun j l' b h6 h7 => by
  rcases h3.ow b ⟨j, l', h6, h7⟩ with ⟨i, l2, h8, h9⟩ | h8
  ·cases i with
   | zero => simp only [List.getElem?_cons_zero, Option.some.injEq] at h8; subst h8; exact .inl h9
   | succ i => simp at h8
  ·exact .inr h8
 have hnφ : ∀ (j : Nat) (l' : KLoc) (b : Nat), (l1 :: ι1)[j]? = some l' → l'.block = some b → φ b = none := fun j l' b h6 h7 => by
  rcases hnew j l' b h6 h7 with h8 | h8
  ·exact hlφ b h8
  ·cases hp : φ b with
   | none => rfl
   | some C =>
    obtain ⟨e, f, g⟩ := ho.fz b C hp
    have := heap_lt g; omega
 have hlen1 : s1.length = ι1.length := by have := h4.len; simpa using this.symm
 have hcase : ∀ (j : Nat) (l' : KLoc), (ι.set id l1 ++ ι1)[j]? = some l' → (j ≠ id ∧ j < ι.length ∧ ι[j]? = some l') ∨ (∃ i, (l1 :: ι1)[i]? = some l' ∧ j = sh1 id σ.length i) := fun j l' h6 => by
  rw [List.getElem?_append] at h6
  split at h6
  ·rename_i hj
   rw [List.length_set] at hj
   by_cases e : id = j
   ·subst e; rw [List.getElem?_set_self hltι] at h6; cases h6
    exact .inr ⟨0, rfl, rfl⟩
   ·rw [List.getElem?_set_ne e] at h6; exact .inl ⟨fun e' => e e'.symm, hj, h6⟩
  ·rename_i hj
   rw [List.length_set] at h6 hj
   exact .inr ⟨j - ι.length + 1, by simpa using h6, by show j = σ.length + (j - ι.length); rw [← ho.len]; omega⟩
 have hι2 : ∀ (i : Nat) (l' : KLoc), (l1 :: ι1)[i]? = some l' → (ι.set id l1 ++ ι1)[sh1 id σ.length i]? = some l' := fun i l' h6 => by
  cases i with
  | zero =>
   simp only [List.getElem?_cons_zero, Option.some.injEq] at h6; subst h6
   show (ι.set id l1 ++ ι1)[id]? = _
   rw [List.getElem?_append_left (by simpa using hltι), List.getElem?_set_self hltι]
  | succ i =>
   show (ι.set id l1 ++ ι1)[σ.length + i]? = _
   rw [List.getElem?_append_right (by rw [List.length_set, ho.len]; omega), List.length_set, ho.len, Nat.add_sub_cancel_left]
   simpa using h6
 have hLe : LLe ι (ι.set id l1 ++ ι1) := fun j l' h6 => by
  have hj := (List.getElem?_eq_some_iff.1 h6).1
  rw [List.getElem?_append_left (by simpa using hj)]
  by_cases e : id = j
  ·subst e; rw [hl] at h6; cases h6
   exact ⟨l1, List.getElem?_set_self hltι, hll1⟩
  ·exact ⟨l', by rw [List.getElem?_set_ne e]; exact h6, l'.le_refl⟩
 have hdisO : ∀ (j : Nat) (l' : KLoc) (i : Nat) (l2 : KLoc) (b : Nat), j ≠ id → ι[j]? = some l' → l'.block = some b → (l1 :: ι1)[i]? = some l2 → l2.block = some b → False := fun j l' i l2 b hj h6 h7 h8 h9 => by
  rcases hnew i l2 b h8 h9 with h10 | h10
  ·exact hj (ho.dis j id l' l b h6 hl h7 h10)
  ·have := ho.lt j l' b h6 h7; omega
 refine ⟨v.ren (sh1 id σ.length), v', φ, ι.set id l1 ++ ι1, _, h1, (hvf _ _ _ _ h2).ren hι2, ⟨.refl _, hLe.of_take _, fun b hb hn => hkeep b hb (fun hb2 => hn ⟨id, l, hl, hb2⟩), h3.sz, fun b ⟨j, l', h6, h7⟩ => ?_, h3.os, h3.tp, h3.out, fun _ _ h => .inl h⟩, ⟨?_, fun b C hb => ?_, fun j l' b h6 h7 => ?_, fun j j' l2 l3 b h6 h7 h8 h9 => ?_, fun j l' b h6 h7 => ?_, fun j o' l' h6 h7 => ?_⟩, hK⟩
 ·rcases hcase j l' h6 with ⟨_, _, h8⟩ | ⟨i, h8, _⟩
  ·exact .inl ⟨j, l', h8, h7⟩
  ·rcases hnew i l' b h8 h7 with h9 | h9
   ·exact .inl ⟨id, l, hl, h9⟩
   ·exact .inr h9
 ·simp [ho.len, hlen1]
 ·obtain ⟨e, f, g⟩ := ho.fz b C hb
  exact ⟨e, f, (hkeep b (heap_lt g) (fun hb2 => by rw [hlφ b hb2] at hb; cases hb)).trans g⟩
 ·rcases hcase j l' h6 with ⟨_, _, h8⟩ | ⟨i, h8, _⟩
  ·exact ho.nf j l' b h8 h7
  ·exact hnφ i l' b h8 h7
 ·rcases hcase j l2 h6 with ⟨q1, _, q2⟩ | ⟨i, q2, q3⟩ <;> rcases hcase j' l3 h7 with ⟨q4, _, q5⟩ | ⟨i', q5, q6⟩
  ·exact ho.dis j j' l2 l3 b q2 q5 h8 h9
  ·exact (hdisO j l2 i' l3 b q1 q2 h8 q5 h9).elim
  ·exact (hdisO j' l3 i l2 b q4 q5 h9 q2 h8).elim
  ·have := h4.dis i i' l2 l3 b q2 q5 h8 h9
   rw [q3, q6, this]
 ·rcases hcase j l' h6 with ⟨_, _, h8⟩ | ⟨i, h8, _⟩
  ·exact Nat.lt_of_lt_of_le (ho.lt j l' b h8 h7) h3.sz
  ·exact h4.lt i l' b h8 h7
 ·rcases hcase j l' h7 with ⟨q1, q2, q3⟩ | ⟨i, q2, rfl⟩
  ·rw [List.getElem?_append_left (by rw [List.length_set, ← ho.len]; exact q2), List.getElem?_set_ne (fun e => q1 e.symm)] at h6
   exact (ho.obj j o' l' h6 q3).keep (.refl _) hLe (fun b hb => hkeep b (ho.lt j l' b q3 hb) (fun hb2 => q1 (ho.dis j id l' l b q3 hl hb hb2)))
  ·have hs : ∀ x, (o1 :: s1)[i]? = some x → ObjOK φ (ι.set id l1 ++ ι1) w' (x.ren (sh1 id σ.length)) l' := fun x hx =>
    ((h4.obj i x l' hx q2).free (hsf x (List.mem_of_getElem? hx))).ren hι2
   cases i with
   | zero =>
    have h6 : (σ.set id (o1.ren (sh1 id σ.length)) ++ s1.map (AObj.ren (sh1 id σ.length)))[id]? = some o' := h6
    rw [List.getElem?_append_left (by simpa using hlt), List.getElem?_set_self hlt] at h6
    cases h6
    exact hs o1 rfl
   | succ i =>
    have h6 : (σ.set id (o1.ren (sh1 id σ.length)) ++ s1.map (AObj.ren (sh1 id σ.length)))[σ.length + i]? = some o' := h6
    rw [List.getElem?_append_right (by rw [List.length_set]; omega), List.length_set, Nat.add_sub_cancel_left, List.getElem?_map, Option.map_eq_some_iff] at h6
    obtain ⟨x, hx, rfl⟩ := h6
    exact hs x (by simpa using hx)
end Go.Kv
end
section
namespace Go.Kv
set_option linter.unusedVariables false
def Gv (σ : Heap) (id : Nat) (c d : PV) : Prop := Imm (solo σ id) c d ∨ (c = d ∧ ∃ j ver off len, j ≠ id ∧ c = .ref j ver off len)
theorem give_trN (n : Nat) {φ : Frz} {ι : List KLoc} {σ : Heap} {w : World} (ho : HOK φ ι σ w) {id ver esz : Nat} {e : TypeId} {xs : List PV} (hid : σ[id]? = some (.arr ver e esz xs)) :
  ∃ φ1 ι1, HOK φ1 ι1 (σ.set id .dead) w ∧ Tr n φ ι w φ1 ι1 w ∧ ∀ c d v, Gv σ id c d → Rel φ ι c v → Rel φ1 ι1 d v := by
 have hlt := (List.getElem?_eq_some_iff.1 hid).1
 have hltι : id < ι.length := by rw [ho.len]; exact hlt
 have hl : ι[id]? = some ι[id] := List.getElem?_eq_getElem hltι
 have hobj := ho.obj id _ _ hid hl
 obtain ⟨k, e', s, u, hu⟩ : ∃ k e' s u, ι[id] = KLoc.arr k e' s u := by
  cases hx : ι[id] with
  | dead => rw [hx] at hobj; exact hobj.elim
  | box b => rw [hx] at hobj; exact hobj.elim
  | arr k e' s u => exact ⟨k, e', s, u, rfl⟩
 rw [hu] at hl
 obtain ⟨ho1, hLe⟩ := ho.upd (w' := w) (l' := .arr (k + 1) e' s (.slice none 0 0)) (o := .dead) hl (by simp [KLoc.le]) (Nat.le_refl _) (fun _ _ _ => rfl) (fun b hb => by simp [KLoc.block, Value.ownBlock] at hb) (fun b hb => by simp [KLoc.block, Value.ownBlock] at hb) trivial
 let φ1 : Frz := fun b => if u.ownBlock = some b then allFrz w b else φ b
 have hle : FLe φ φ1 := fun b C hb => by
  show (if u.ownBlock = some b then allFrz w b else φ b) = some C
  split
  ·rename_i hb2
   have := ho.nf id _ b hl hb2
   rw [this] at hb; cases hb
  ·exact hb
 have hin : ∀ (j : Nat) (x : KLoc) (b : Nat), (ι.set id (.arr (k + 1) e' s (.slice none 0 0)))[j]? = some x → x.block = some b → id ≠ j ∧ ι[j]? = some x := fun j x b hx hb => by
  by_cases ej : id = j
  ·subst ej; rw [List.getElem?_set_self hltι] at hx; cases hx
   simp [KLoc.block, Value.ownBlock] at hb
  ·rw [List.getElem?_set_ne ej] at hx; exact ⟨ej, hx⟩
 have ho2 : HOK φ1 (ι.set id (.arr (k + 1) e' s (.slice none 0 0))) (σ.set id .dead) w := by
  refine ⟨ho1.len, fun b C hb => ?_, fun j x b hx hb => ?_, ho1.dis, ho1.lt, fun j o x h1 h2 => (ho1.obj j o x h1 h2).keep hle (.refl _) (fun _ _ => rfl)⟩
  ·replace hb : (if u.ownBlock = some b then allFrz w b else φ b) = some C := hb
   split at hb
   ·exact (allFrz_hok w).fz b C hb
   ·exact ho.fz b C hb
  ·obtain ⟨hj, hx'⟩ := hin j x b hx hb
   show (if u.ownBlock = some b then allFrz w b else φ b) = none
   rw [if_neg fun hb2 : u.ownBlock = some b => hj (ho.dis id j _ x b hl hx' hb2 hb)]
   exact ho.nf j x b hx' hb
 have ht0 : Tr n φ ι w φ1 (ι.set id (.arr (k + 1) e' s (.slice none 0 0))) w := ⟨hle, hLe.of_take _, fun _ _ _ => rfl, Nat.le_refl _, fun b ⟨j, x, hx, hb⟩ => .inl ⟨j, x, (hin j x b hx hb).2, hb⟩, rfl, rfl, rfl, fun b C hb => by
  replace hb : (if u.ownBlock = some b then allFrz w b else φ b) = some C := hb
  split at hb
  ·rename_i hb2; exact .inr (.inl ⟨id, _, hl, hb2⟩)
  ·exact .inl hb⟩
 refine ⟨φ1, _, ho2, ht0, fun c d v hg hr => ?_⟩
 rcases hg with hi | ⟨rfl, j, vj, off, len, hj, rfl⟩
 ·have := hi.rel (ho.solo id) hle (fun j o l' b C e f h1 h2 h3 h4 h5 => ?_) hr
  ·exact this.mono (.refl _) (by simpa using LLe.append [] (ι.set id (KLoc.arr (k + 1) e' s (.slice none 0 0))))
  ·by_cases ej : id = j
   ·subst ej; rw [hl] at h3; cases h3
    show (if u.ownBlock = some b then allFrz w b else φ b) = some C
    rw [if_pos (show u.ownBlock = some b from h4)]; exact allFrz_own h5
   ·exact absurd (solo_ne ej h1) h2
 ·cases hr with
  | ref _ _ _ _ _ k e esz u hh ho' hk' hv' =>
   exact .ref j vj off len v k e esz u (by rw [List.getElem?_set_ne (Ne.symm hj)]; exact hh) ho' hk' hv'
theorem KL_freezeAt {C : Cfg} {b : KC} {Q : Exit → Env → Heap → Prop} {env env0 env' : Env} {σ : Heap} (live : List Nat) (hn : C.n0 = 0) (hE : keep live env = env0) {id ver esz : Nat} {e : TypeId} {xs : List PV} (hid : σ[id]? = some (.arr ver e esz xs))
  (he : ∀ t, Gv σ id (Kv.look env0 t) (Kv.look env' t)) (h : KL C b Q env' (σ.set id .dead)) : KL C b Q env σ := by
 refine KL_keep live ?_
 rw [hE]
 intro c hc φ ι a w h1 h2
 obtain ⟨φ1, ι1, hok, htr, hrel⟩ := give_trN 0 h1 hid
 have := h c hc φ1 ι1 a w hok ⟨⟨h2.1.sz, h2.1.df, fun t => hrel _ _ _ (he t) (h2.1.rel t)⟩, by simp [hn]⟩
 refine this.mono fun e a' w' ⟨φ', ι', env', σ', g1, g2, g3, g4⟩ => ⟨φ', ι', env', σ', ?_, g2, g3, g4⟩
 rw [hn] at g1 ⊢
 exact htr.trans g1
theorem Fin.giveAt {n0 : Nat} {K : PV → Heap → Prop} {v v' : PV} {σ : Heap} {id ver esz : Nat} {e : TypeId} {xs : List PV} (hid : σ[id]? = some (.arr ver e esz xs)) (hg : Gv σ id v v') (h : K v' (σ.set id .dead)) : Fin n0 K v σ :=
 ⟨v', σ.set id .dead, fun φ ι w x _ ho hr => by
  obtain ⟨φ1, ι1, h1, h2, h3⟩ := give_trN n0 ho hid
  exact ⟨φ1, ι1, h2, h1, h3 _ _ _ hg hr⟩, h⟩
end Go.Kv
end
section
section
namespace Go.Kv
set_option linter.unusedVariables false
set_option linter.unusedSimpArgs false
def mpN (n : Int) (l : List Nat) : List Int := n :: (l.map (fun x : Nat => (x : Int)) ++ List.replicate (5 - l.length) 0)
def mp (f : List Nat) : List Int := mpN f.length f
theorem mpN_length {n : Int} {l : List Nat} (h : l.length ≤ 5) : (mpN n l).length = 6 := by simp [mpN]; omega
theorem mpN_get0 (n : Int) (l : List Nat) : (mpN n l).getD 0 0 = n := rfl
theorem mpN_get {n : Int} {l : List Nat} (i : Nat) : (mpN n l).getD (i + 1) 0 = (l.getD i 0 : Int) := by
 simp only [mpN, List.getD_cons_succ]
 rw [List.getD_eq_getElem?_getD, List.getD_eq_getElem?_getD, List.getElem?_append]
 split
 ·rename_i h
  simp only [List.length_map] at h
  simp [h]
 ·rename_i h
  simp only [List.length_map] at h
  rw [List.getElem?_eq_none (l := l) (by omega)]
  simp only [List.getElem?_replicate, List.length_map]
  split <;> rfl
theorem mp_get0 (f : List Nat) : (mp f).getD 0 0 = f.length := rfl
theorem mp_get {l : List Nat} (i : Nat) : (mp l).getD (i + 1) 0 = (l.getD i 0 : Int) := mpN_get i
attribute [go_sem] mpN_get mpN_get0 mp_get mp_get0
theorem mpN_set {n : Int} {l : List Nat} {i v : Nat} (h : i < l.length) : (mpN n l).set (i + 1) (v : Int) = mpN n (l.set i v) := by
 simp [mpN, List.set_append, h, List.map_set]
theorem mpN_push {n : Int} {l : List Nat} {v : Nat} (h : l.length < 5) : (mpN n l).set (l.length + 1) (v : Int) = mpN n (l ++ [v]) := by
 have e : 5 - l.length = (5 - (l.length + 1)) + 1 := by omega
 simp only [mpN, List.set_cons_succ]
 rw [List.set_append_right _ _ (by simp), e, List.replicate_succ]
 simp
theorem mpN_pushI {n : Int} {l : List Nat} {v : Nat} {i : Nat} (hi : i = l.length) (h : l.length < 5) : (mpN n l).set (i + 1) (v : Int) = mpN n (l ++ [v]) := by subst hi; exact mpN_push h
theorem mpN_rep {m : Int} {n : Nat} (h : n ≤ 5) : mpN m (List.replicate n 0) = [m, 0, 0, 0, 0, 0] := by
 have : n = 0 ∨ n = 1 ∨ n = 2 ∨ n = 3 ∨ n = 4 ∨ n = 5 := by omega
 rcases this with rfl | rfl | rfl | rfl | rfl | rfl <;> rfl
structure Ok (f : List Nat) (n : Nat) : Prop where
 len : f.length = n
 pos : 1 ≤ n
 le : n ≤ 5
 lt : ∀ x ∈ f, x < n
theorem Ok.get {f : List Nat} {n i : Nat} (h : Ok f n) (hi : i < n) : f.getD i 0 < n := by
 rw [List.getD_eq_getElem?_getD, List.getElem?_eq_getElem (by rw [h.len]; exact hi)]
 exact h.lt _ (List.getElem_mem _)
theorem Ok.get' {f : List Nat} {n : Nat} (h : Ok f n) (i : Nat) : f.getD i 0 < n := by
 by_cases hi : i < n
 ·exact h.get hi
 ·rw [List.getD_eq_getElem?_getD, List.getElem?_eq_none (by rw [h.len]; omega)]
  exact h.pos
theorem Ok.mp_eq {f : List Nat} {n : Nat} (h : Ok f n) : mp f = mpN n f := by rw [mp, h.len]
theorem Ok.mp_len {f : List Nat} {n : Nat} (h : Ok f n) : (mp f).length = 6 := mpN_length (by rw [h.len]; exact h.le)
def mul (f g : List Nat) : List Nat := f.map fun x => g.getD x 0
@[simp] theorem mul_length (f g : List Nat) : (mul f g).length = f.length := by simp [mul]
theorem mul_get {f g : List Nat} {i : Nat} (h : i < f.length) : (mul f g).getD i 0 = g.getD (f.getD i 0) 0 := by
 simp [mul, List.getD_eq_getElem?_getD, h]
theorem Ok.mul {f g : List Nat} {n : Nat} (hf : Ok f n) (hg : Ok g n) : Ok (mul f g) n := ⟨by rw [mul_length, hf.len], hf.pos, hf.le, fun x hx => by
 simp only [Kv.mul, List.mem_map] at hx
 obtain ⟨y, hy, rfl⟩ := hx
 exact hg.get (hf.lt y hy)⟩
theorem ext_getD {f g : List Nat} (hl : f.length = g.length) (h : ∀ i, i < f.length → f.getD i 0 = g.getD i 0) : f = g := by
 apply List.ext_getElem hl
 intro i h1 h2
 have := h i h1
 simpa [List.getD_eq_getElem?_getD, h1, h2] using this
theorem range_getD {n i : Nat} (h : i < n) : (List.range n).getD i 0 = i := by simp [List.getD_eq_getElem?_getD, h]
theorem mul_assoc {f g h : List Nat} {n : Nat} (hf : Ok f n) (hg : Ok g n) (hh : Ok h n) : mul (mul f g) h = mul f (mul g h) := by
 refine ext_getD (by simp) fun i hi => ?_
 simp only [mul_length] at hi
 rw [mul_get (by simpa using hi), mul_get hi, mul_get hi, mul_get (by rw [hg.len]; exact hf.get' i)]
theorem mul_one {f : List Nat} {n : Nat} (hf : Ok f n) : mul f (List.range n) = f := by
 refine ext_getD (by simp) fun i hi => ?_
 simp only [mul_length] at hi
 rw [mul_get hi, range_getD (hf.get' i)]
theorem one_mul {f : List Nat} {n : Nat} (hf : Ok f n) : mul (List.range n) f = f := by
 refine ext_getD (by simp [hf.len]) fun i hi => ?_
 simp only [mul_length, List.length_range] at hi
 rw [mul_get (by simpa using hi), range_getD hi]
def um (m : List Int) : List Nat := ((m.drop 1).take (m.getD 0 0).toNat).map Int.toNat
theorem um_mp (f : List Nat) : um (mp f) = f := by
 have h1 : (f.map fun x : Nat => (x : Int)).length = f.length := by simp
 simp only [um, mp_get0, Int.toNat_natCast]
 simp only [mp, mpN, List.drop_succ_cons, List.drop_zero]
 rw [← h1, List.take_left, List.map_map]
 conv => rhs; rw [← List.map_id f]
 exact List.map_congr_left fun x _ => by simp
def okP (m : List Int) (i : Nat) : Bool := if (i : Int) < m.getD 0 0 then decide (0 ≤ m.getD (i + 1) 0 ∧ m.getD (i + 1) 0 ≤ m.getD 0 0 - 1) else decide (m.getD (i + 1) 0 = 0)
def isM (m : List Int) : Bool := decide (1 ≤ m.getD 0 0 ∧ m.getD 0 0 ≤ 5) && (List.range 5).all (okP m)
theorem isM_ok {m : List Int} (hl : m.length = 6) (h : isM m = true) : ∃ f n, Ok f n ∧ m = mp f := by
 obtain ⟨a, b, c, d, e, g, rfl⟩ : ∃ a b c d e g, m = [a, b, c, d, e, g] := by
  match m, hl with
  | [a, b, c, d, e, g], _ => exact ⟨a, b, c, d, e, g, rfl⟩
 simp only [isM, okP, Bool.and_eq_true, decide_eq_true_eq, List.all_eq_true, List.mem_range] at h
 obtain ⟨h0, h1⟩ := h
 have g0 := h1 0 (by omega)
 have g1 := h1 1 (by omega)
 have g2 := h1 2 (by omega)
 have g3 := h1 3 (by omega)
 have g4 := h1 4 (by omega)
 simp only [List.getD_cons_zero, List.getD_cons_succ] at h0 g0 g1 g2 g3 g4
 have hn : a = 1 ∨ a = 2 ∨ a = 3 ∨ a = 4 ∨ a = 5 := by omega
 rcases hn with rfl | rfl | rfl | rfl | rfl <;> simp at g0 g1 g2 g3 g4
 ·refine ⟨[b.toNat], 1, ⟨rfl, by omega, by omega, by simp; try omega⟩, ?_⟩
  simp [mp, mpN, List.replicate]; first | omega | skip
 ·refine ⟨[b.toNat, c.toNat], 2, ⟨rfl, by omega, by omega, by simp; try omega⟩, ?_⟩
  simp [mp, mpN, List.replicate]; first | omega | skip
 ·refine ⟨[b.toNat, c.toNat, d.toNat], 3, ⟨rfl, by omega, by omega, by simp; try omega⟩, ?_⟩
  simp [mp, mpN, List.replicate]; first | omega | skip
 ·refine ⟨[b.toNat, c.toNat, d.toNat, e.toNat], 4, ⟨rfl, by omega, by omega, by simp; try omega⟩, ?_⟩
  simp [mp, mpN, List.replicate]; first | omega | skip
 ·refine ⟨[b.toNat, c.toNat, d.toNat, e.toNat, g.toNat], 5, ⟨rfl, by omega, by omega, by simp; try omega⟩, ?_⟩
  simp [mp, mpN, List.replicate]; first | omega | skip
theorem isM_mp {f : List Nat} {n : Nat} (h : Ok f n) : isM (mp f) = true := by
 simp only [isM, okP, Bool.and_eq_true, decide_eq_true_eq, List.all_eq_true, List.mem_range, h.mp_eq, mpN_get0, mpN_get]
 refine ⟨by have := h.pos; have := h.le; omega, fun i hi => ?_⟩
 split
 ·have := h.get' i
  simp only [decide_eq_true_eq]; omega
 ·rw [List.getD_eq_getElem?_getD, List.getElem?_eq_none (by rw [h.len]; omega)]; simp
end Go.Kv
end
section
namespace Go.Proofs.YthbbjbfbeaiphaaGreat
open Go.Kv
set_option linter.unusedVariables false
set_option linter.unusedSimpArgs false
attribute [local irreducible] ACall PCall KL
theorem all_take_succ {α : Type} (p : α → Bool) {l : List α} {x : Nat} (h : x < l.length) : (l.take (x + 1)).all p = ((l.take x).all p && p l[x]) := by
 rw [List.take_succ_eq_append_getElem h, List.all_append]; simp
theorem getD_eq {α : Type} {l : List α} {x : Nat} (h : x < l.length) (d : α) : l.getD x d = l[x] := by
 rw [List.getD_eq_getElem?_getD, List.getElem?_eq_getElem h]; rfl
def idx {α : Type} (p : α → Bool) (l : List α) : Int := match l.findIdx? p with | some i => i | none => -1
theorem idx_none {α : Type} {p : α → Bool} {l : List α} (h : l.any p = false) : idx p l = -1 := by
 have : l.findIdx? p = none := by
  rw [List.findIdx?_eq_none_iff]
  intro x hx
  rw [List.any_eq_false] at h
  simpa using h x hx
 simp [idx, this]
theorem idx_some {α : Type} {p : α → Bool} {l : List α} {x : Nat} (h : x < l.length) (h0 : (l.take x).any p = false) (h1 : p l[x] = true) : idx p l = x := by
 have : l.findIdx? p = some x := by
  rw [List.findIdx?_eq_some_iff_getElem]
  refine ⟨h, h1, fun j hj => ?_⟩
  rw [List.any_eq_false] at h0
  have := h0 l[j] (List.mem_take_iff_getElem.2 ⟨j, by omega, rfl⟩)
  simpa using this
 simp [idx, this]
theorem any_take_succ {α : Type} (p : α → Bool) {l : List α} {x : Nat} (h : x < l.length) : (l.take (x + 1)).any p = ((l.take x).any p || p l[x]) := by
 rw [List.take_succ_eq_append_getElem h, List.any_append]; simp
theorem idx_nonneg {α : Type} (p : α → Bool) (l : List α) : decide (0 ≤ idx p l) = l.any p := by
 cases h : l.any p with
 | false => rw [idx_none h]; rfl
 | true =>
  unfold idx
  cases hf : l.findIdx? p with
  | none =>
   rw [List.findIdx?_eq_none_iff] at hf
   rw [List.any_eq_true] at h
   obtain ⟨x, hx, hp⟩ := h
   have := hf x hx
   simp [hp] at this
  | some i => simp
theorem any_split {α : Type} {p : α → Bool} : ∀ {l : List α}, l.any p = true → ∃ i, ∃ h : i < l.length, (l.take i).any p = false ∧ p l[i] = true
 | a :: l, h => by
  cases hp : p a with
  | true => exact ⟨0, by simp, by simp, by simpa using hp⟩
  | false =>
   simp only [List.any_cons, hp, Bool.false_or] at h
   obtain ⟨i, hi, h1, h2⟩ := any_split h
   exact ⟨i + 1, by simpa using hi, by simp [hp, h1], by simpa using h2⟩
theorem filter_take_succ {α : Type} {p : α → Bool} {l : List α} {x : Nat} (h : x < l.length) : (l.take (x + 1)).filter p = (l.take x).filter p ++ (if p l[x] = true then [l[x]] else []) := by
 rw [List.take_succ_eq_append_getElem h, List.filter_append]
 congr 1
 by_cases hp : p l[x] = true <;> simp [hp]
theorem filter_none {α : Type} {p : α → Bool} {l : List α} (h : l.any p = false) : l.filter (fun x => !p x) = l := by
 rw [List.filter_eq_self]
 intro a ha
 rw [List.any_eq_false] at h
 simpa using h a ha
end Go.Proofs.YthbbjbfbeaiphaaGreat
end
section
namespace Go.Kv
set_option linter.unusedVariables false
set_option linter.unusedSimpArgs false
structure Rw where
 nil : Bool
 id : Nat
 ver : Nat
 pre : List Int
 post : List Int
def Rw.pv (r : Rw) (l : List Int) : PV := if r.nil = true then .nils else .ref r.id r.ver r.pre.length l.length
structure Rw.at (e1 : TypeId) (σ : Heap) (r : Rw) (l : List Int) : Prop where
 nl : r.nil = true → l = []
 ow : r.nil = false → σ[r.id]? = some (.arr r.ver e1 1 (ints (r.pre ++ l ++ r.post)))
def pvs (rs : List Rw) (t : List (List Int)) : List PV := List.zipWith Rw.pv rs t
theorem pvs_length {rs : List Rw} {t : List (List Int)} (h : rs.length = t.length) : (pvs rs t).length = t.length := by simp [pvs, h]
theorem pvs_get {rs : List Rw} {t : List (List Int)} {i : Nat} {x : PV} (h : (pvs rs t)[i]? = some x) : ∃ r l, rs[i]? = some r ∧ t[i]? = some l ∧ x = r.pv l := by
 simp only [pvs, List.getElem?_zipWith] at h
 cases hr : rs[i]? with
 | none => simp [hr] at h
 | some r =>
  cases hl : t[i]? with
  | none => simp [hr, hl] at h
  | some l => simp [hr, hl] at h; exact ⟨r, l, rfl, rfl, h.symm⟩
theorem pvs_snoc {rs : List Rw} {t : List (List Int)} (h : rs.length = t.length) (r : Rw) (l : List Int) : pvs (rs ++ [r]) (t ++ [l]) = pvs rs t ++ [r.pv l] := by
 simp [pvs, List.zipWith_append h]
theorem pv_cases (r : Rw) (l : List Int) : r.pv l = .nils ∨ ∃ a b c d, r.pv l = .ref a b c d := by
 unfold Rw.pv; split
 ·exact .inl rfl
 ·exact .inr ⟨_, _, _, _, rfl⟩
structure TabG (e2 e1 : TypeId) (σ : Heap) (id ver : Nat) (rs : List Rw) (t : List (List Int)) : Prop where
 out : ∃ junk, σ[id]? = some (.arr ver e2 1 (pvs rs t ++ junk))
 len : rs.length = t.length
 row : ∀ (i : Nat) (r : Rw) (l : List Int), rs[i]? = some r → t[i]? = some l → r.at e1 σ l
 nd : ∀ (i j : Nat) (r q : Rw), rs[i]? = some r → rs[j]? = some q → r.nil = false → q.nil = false → r.id = q.id → i = j
 ni : ∀ r ∈ rs, r.nil = false → r.id ≠ id
variable {e2 e1 : TypeId} {σ : Heap} {id ver : Nat} {rs : List Rw} {t : List (List Int)}
theorem Rw.at.imm {r : Rw} {l : List Int} (h : r.at e1 σ l) : Imm σ (r.pv l) (.list (ints l)) := by
 unfold Rw.pv
 split
 ·rename_i hn; rw [h.nl hn]; exact .nils
 ·rename_i hn; exact .refp (h.ow (by simpa using hn)) rfl rfl
theorem TabG.imm (h : TabG e2 e1 σ id ver rs t) {n : Nat} (hn : n = t.length) : Imm σ (.ref id ver 0 n) (.list (rows t)) := by
 subst hn
 obtain ⟨junk, ho⟩ := h.out
 have hpl := pvs_length h.len
 refine .ref id ver 0 t.length e2 1 (pvs rs t ++ junk) (rows t) ho (by simp [hpl]) (rows_length t) (fun i x d hx hd => ?_) (fun i x d j c c' hx hd hc hc' => ?_)
 all_goals rw [Nat.zero_add] at hx
 all_goals have hi := (List.getElem?_eq_some_iff.1 hd).1
 all_goals rw [rows_length] at hi
 all_goals rw [List.getElem?_append_left (by rw [hpl]; exact hi)] at hx
 all_goals obtain ⟨r, l, hr, hl, rfl⟩ := pvs_get hx
 all_goals obtain ⟨y, hy, rfl⟩ := rows_get hd
 ·rcases pv_cases r l with e | ⟨a, b, c, d, e⟩ <;> rw [e] <;> exact ⟨rfl, rfl⟩
 ·rw [hl] at hy; cases hy
  have h2 := List.mem_of_getElem? hc'
  simp only [PV.cs, List.mem_singleton] at h2; subst h2
  have h1 : c = r.pv l := by
   have h1 := List.mem_of_getElem? hc
   rcases pv_cases r l with e | ⟨a, b, cc, d, e⟩ <;> rw [e] at h1 ⊢ <;> simpa [PV.cs] using h1
  subst h1
  exact (h.row i r l hr hl).imm
theorem Rw.at.keep {r : Rw} {l : List Int} {σ' : Heap} (h : r.at e1 σ l) (hs : r.nil = false → σ'[r.id]? = σ[r.id]?) : r.at e1 σ' l := ⟨h.nl, fun hn => (hs hn).trans (h.ow hn)⟩
theorem TabG.keep (h : TabG e2 e1 σ id ver rs t) {σ' : Heap} (h1 : σ'[id]? = σ[id]?) (h2 : ∀ r ∈ rs, r.nil = false → σ'[r.id]? = σ[r.id]?) : TabG e2 e1 σ' id ver rs t where
 out := by obtain ⟨junk, ho⟩ := h.out; exact ⟨junk, h1.trans ho⟩
 len := h.len
 row := fun i r l hr hl => (h.row i r l hr hl).keep (h2 r (List.mem_of_getElem? hr))
 nd := h.nd
 ni := h.ni
theorem TabG.lt (h : TabG e2 e1 σ id ver rs t) : id < σ.length ∧ ∀ r ∈ rs, r.nil = false → r.id < σ.length := by
 obtain ⟨junk, ho⟩ := h.out
 refine ⟨(List.getElem?_eq_some_iff.1 ho).1, fun r hr hn => ?_⟩
 obtain ⟨i, hi⟩ := List.getElem?_of_mem hr
 have hlt := (List.getElem?_eq_some_iff.1 hi).1
 have := h.row i r (t[i]'(h.len ▸ hlt)) hi (List.getElem?_eq_getElem (h.len ▸ hlt))
 exact (List.getElem?_eq_some_iff.1 (this.ow hn)).1
theorem TabG.append (h : TabG e2 e1 σ id ver rs t) (τ : Heap) : TabG e2 e1 (σ ++ τ) id ver rs t :=
 h.keep (List.getElem?_append_left h.lt.1) fun r hr hn => List.getElem?_append_left (h.lt.2 r hr hn)
def Rw.sh (n : Nat) (r : Rw) : Rw := { r with id := r.id + n }
theorem pv_ren (n : Nat) (r : Rw) (l : List Int) : (r.pv l).ren (Kv.sh n) = (r.sh n).pv l := by
 unfold Rw.pv Rw.sh
 simp only
 split
 ·simp [PV.ren]
 ·simp only [ren_ref, sh_def]
theorem TabG.shift (h : TabG e2 e1 σ id ver rs t) (τ : Heap) : TabG e2 e1 (τ ++ σ.map (AObj.ren (Kv.sh τ.length))) (id + τ.length) ver (rs.map (Rw.sh τ.length)) t where
 out := by
  obtain ⟨junk, ho⟩ := h.out
  refine ⟨junk.map (PV.ren (Kv.sh τ.length)), ?_⟩
  rw [List.getElem?_append_right (by omega), Nat.add_sub_cancel, List.getElem?_map, ho]
  simp only [Option.map_some, ren_arr, Option.some.injEq, AObj.arr.injEq, true_and, List.map_append]
  congr 1
  simp only [pvs, List.map_zipWith, List.zipWith_map_left, pv_ren]
 len := by simp [h.len]
 row := fun i r l hr hl => by
  simp only [List.getElem?_map, Option.map_eq_some_iff] at hr
  obtain ⟨q, hq, rfl⟩ := hr
  have := h.row i q l hq hl
  refine ⟨this.nl, fun hn => ?_⟩
  simp only [Rw.sh]
  rw [List.getElem?_append_right (by omega), Nat.add_sub_cancel, List.getElem?_map, this.ow hn]
  simp only [Option.map_some, ren_arr, ren_ints]
 nd := fun i j r q hr hq h1 h2 h3 => by
  simp only [List.getElem?_map, Option.map_eq_some_iff] at hr hq
  obtain ⟨r', hr', rfl⟩ := hr
  obtain ⟨q', hq', rfl⟩ := hq
  simp only [Rw.sh] at h1 h2 h3
  exact h.nd i j r' q' hr' hq' h1 h2 (by omega)
 ni := fun r hr hn => by
  obtain ⟨q, hq, rfl⟩ := List.mem_map.1 hr
  have := h.ni q hq hn
  simp only [Rw.sh]; omega
theorem TabG.set (h : TabG e2 e1 σ id ver rs t) {i : Nat} {r : Rw} (hr : rs[i]? = some r) (hn : r.nil = false) {l m : List Int} (hl : t[i]? = some l) (hm : m.length = l.length) :
  TabG e2 e1 (σ.set r.id (.arr r.ver e1 1 (ints (r.pre ++ m ++ r.post)))) id ver rs (t.set i m) := by
 have hit := (List.getElem?_eq_some_iff.1 hl).1
 have hrl := h.lt.2 r (List.mem_of_getElem? hr) hn
 have hpv : ∀ (q : Rw), q.pv m = q.pv l := fun q => by simp [Rw.pv, hm]
 refine ⟨?_, by simp [h.len], fun j q n hq hj => ?_, h.nd, h.ni⟩
 ·obtain ⟨junk, ho⟩ := h.out
  refine ⟨junk, ?_⟩
  rw [List.getElem?_set_ne (h.ni r (List.mem_of_getElem? hr) hn), ho]
  congr 3
  apply List.ext_getElem?; intro j
  simp only [pvs, List.getElem?_zipWith, List.getElem?_set]
  by_cases e : i = j
  ·subst e
   simp only [if_pos hit, if_true, hr, hl, hpv]
  ·rw [if_neg e]
 ·by_cases e : i = j
  ·subst e
   rw [hr] at hq; cases hq
   rw [List.getElem?_set_self hit] at hj; cases hj
   exact ⟨fun h => absurd h (by simp [hn]), fun _ => List.getElem?_set_self hrl⟩
  ·rw [List.getElem?_set_ne e] at hj
   exact (h.row j q n hq hj).keep fun hqn => List.getElem?_set_ne fun e2 => e (h.nd i j r q hr hq hn hqn e2)
theorem TabG.free (h : ∀ o ∈ σ, AObj.free o) : True := trivial
inductive TabN (e2 e1 : TypeId) (σ : Heap) : PV → List (List Int) → Prop
 | nil : TabN e2 e1 σ .nils []
 | tab (id ver : Nat) (rs : List Rw) (t : List (List Int)) (h : TabG e2 e1 σ id ver rs t) : TabN e2 e1 σ (.ref id ver 0 t.length) t
theorem TabN.imm {v : PV} (h : TabN e2 e1 σ v t) : Imm σ v (.list (rows t)) := by
 cases h with
 | nil => exact .nils
 | tab id ver rs t h => exact h.imm rfl
theorem TabN.append {v : PV} (h : TabN e2 e1 σ v t) (τ : Heap) : TabN e2 e1 (σ ++ τ) v t := by
 cases h with
 | nil => exact .nil
 | tab id ver rs t h => exact .tab id ver rs t (h.append τ)
theorem TabN.shift {v : PV} (h : TabN e2 e1 σ v t) (τ : Heap) : TabN e2 e1 (τ ++ σ.map (AObj.ren (Kv.sh τ.length))) (v.ren (Kv.sh τ.length)) t := by
 cases h with
 | nil => simp only [ren_nils]; exact .nil
 | tab id ver rs t h => simp only [ren_ref, sh_def]; exact .tab _ _ _ t (h.shift τ)
theorem TabN.push {v : PV} (h : TabN e2 e1 σ v t) {τ : Heap} {l : List Int} {r : Rw} (hr : r.at e1 (σ ++ τ) l) (hge : r.nil = false → σ.length ≤ r.id) (hn : t.length < 4294967296) {K : PV → Heap → Prop}
  (hK : ∀ v' σ', TabN e2 e1 σ' v' (t ++ [l]) → (∀ o ∈ σ', o ∈ σ ++ τ ∨ ∃ ver rs, o = .arr ver e2 1 (pvs rs (t ++ [l]))) → K v' σ') : aApp e2 1 v (.list [r.pv l]) (σ ++ τ) K := by
 have hok : okL 1 [r.pv l] := by
  rcases pv_cases r l with e | ⟨a, b, c, d, e⟩ <;> rw [e] <;> simp [okL, PV.cs, PV.ok]
 cases h with
 | nil =>
  rw [aApp_nils, aNews_list, AppN_def]
  refine ⟨hok, by simp, ?_⟩
  refine hK _ _ (.tab (σ ++ τ).length 0 [r] [l] ⟨⟨[], by simp [pvs]⟩, rfl, fun i q m hq hm => ?_, fun i j q p hq hp _ _ _ => ?_, fun q hq hqn => ?_⟩) (fun o ho => ?_)
  ·cases i with
   | zero =>
    simp at hq hm; subst hq; subst hm
    exact hr.keep fun hrn => List.getElem?_append_left (List.getElem?_eq_some_iff.1 (hr.ow hrn)).1
   | succ i => simp at hq
  ·have h1 := (List.getElem?_eq_some_iff.1 hq).1
   have h2 := (List.getElem?_eq_some_iff.1 hp).1
   simp at h1 h2; omega
  ·simp at hq; subst hq
   have := (List.getElem?_eq_some_iff.1 (hr.ow hqn)).1
   omega
  ·rcases List.mem_append.1 ho with ho | ho
   ·exact .inl ho
   ·simp at ho; subst ho; exact .inr ⟨0, [r], by simp [pvs]⟩
 | tab id ver rs t h =>
  obtain ⟨junk, ho⟩ := (h.append τ).out
  have hpl := pvs_length h.len
  have hlt := h.lt
  have hid : id < (σ ++ τ).length := by simp; omega
  rw [aApp_ref, ho, AppR_arr, aNews_list, AppM_def]
  refine ⟨hok, ⟨rfl, rfl, rfl, rfl, by simp [hpl], by simp; omega⟩, ?_⟩
  have hself : ∀ o, ((σ ++ τ).set id o)[id]? = some o := fun o => List.getElem?_set_self hid
  have ht : t.length + [r.pv l].length = (t ++ [l]).length := by simp
  have htk : (pvs rs t ++ junk).take t.length ++ [r.pv l] = pvs (rs ++ [r]) (t ++ [l]) := by
   rw [pvs_snoc h.len, ← hpl, List.take_left]
  rw [ht, htk]
  refine hK _ _ (.tab id (ver + 1) (rs ++ [r]) (t ++ [l]) ⟨⟨[], ?_⟩, by simp [h.len], fun i q m hq hm => ?_, fun i j q p hq hp h1 h2 h3 => ?_, fun q hq hqn => ?_⟩) (fun o ho => ?_)
  ·rw [hself, List.append_nil]
  ·rw [List.getElem?_append] at hq hm
   split at hq
   ·rename_i hi
    rw [if_pos (by rw [← h.len]; exact hi)] at hm
    exact ((h.append τ).row i q m hq hm).keep fun hqn => List.getElem?_set_ne (Ne.symm (h.ni q (List.mem_of_getElem? hq) hqn))
   ·rename_i hi
    rw [if_neg (by rw [← h.len]; exact hi)] at hm
    have e1 := List.mem_of_getElem? hq
    have e2 := List.mem_of_getElem? hm
    simp at e1 e2; subst e1; subst e2
    exact hr.keep fun hrn => List.getElem?_set_ne (by have := hge hrn; omega)
  ·rw [List.getElem?_append] at hq hp
   have hlast : ∀ (k : Nat) (x : Rw), ¬ k < rs.length → [r][k - rs.length]? = some x → x = r ∧ k = rs.length := fun k x hk hx => by
    have h5 := (List.getElem?_eq_some_iff.1 hx).1
    have h4 := List.mem_of_getElem? hx
    simp at h4 h5
    exact ⟨h4, by omega⟩
   split at hq <;> split at hp
   ·exact h.nd i j q p hq hp h1 h2 h3
   ·rename_i hj
    obtain ⟨rfl, _⟩ := hlast j p hj hp
    have := hlt.2 q (List.mem_of_getElem? hq) h1
    have := hge h2
    omega
   ·rename_i hi _
    obtain ⟨rfl, _⟩ := hlast i q hi hq
    have := hlt.2 p (List.mem_of_getElem? hp) h2
    have := hge h1
    omega
   ·rename_i hi hj
    obtain ⟨_, rfl⟩ := hlast i q hi hq
    obtain ⟨_, rfl⟩ := hlast j p hj hp
    rfl
  ·rcases List.mem_append.1 hq with hq | hq
   ·exact h.ni q hq hqn
   ·simp at hq; subst hq
    have := hge hqn
    omega
  ·rcases List.mem_or_eq_of_mem_set ho with ho | rfl
   ·exact .inl ho
   ·exact .inr ⟨_, _, rfl⟩
theorem TabN.empty : TabN e2 e1 [.arr 0 e2 1 []] (.ref 0 0 0 0) [] := .tab 0 0 [] [] ⟨⟨[], rfl⟩, rfl, fun i r l h => by simp at h, fun i j r q h => by simp at h, fun r h => by simp at h⟩
def Free (σ : Heap) : Prop := ∀ o ∈ σ, AObj.free o
theorem Free.nil : Free [] := fun o h => by simp at h
theorem Free.append {σ τ : Heap} (h : Free σ) (h' : Free τ) : Free (σ ++ τ) := fun o ho => by
 rcases List.mem_append.1 ho with ho | ho
 ·exact h o ho
 ·exact h' o ho
theorem free_ints {v : Nat} {e : TypeId} {s : Nat} (l : List Int) : AObj.free (.arr v e s (ints l)) := fun c hc => by
 rw [flat_ints] at hc; exact (Plain.ints _ c hc).fr
theorem Free.ints (v : Nat) (e : TypeId) (s : Nat) (l : List Int) : Free [.arr v e s (Kv.ints l)] := fun o ho => by
 simp at ho; subst ho; exact free_ints l
theorem Free.empty (v : Nat) (e : TypeId) (s : Nat) : Free [.arr v e s []] := fun o ho => by
 simp at ho; subst ho; intro c hc; simp [flat] at hc
theorem free_pvs {v : Nat} {e : TypeId} {s : Nat} (rs : List Rw) (t : List (List Int)) : AObj.free (.arr v e s (pvs rs t)) := fun c hc => by
 obtain ⟨x, hx, hcx⟩ := List.mem_flatMap.1 hc
 obtain ⟨i, hi⟩ := List.getElem?_of_mem hx
 obtain ⟨r, l, _, _, rfl⟩ := pvs_get hi
 rcases pv_cases r l with e | ⟨a, b, cc, d, e⟩ <;> rw [e] at hcx <;> simp [PV.cs] at hcx <;> subst hcx
 ·exact Plain.nils.fr
 ·exact free_ref _ _ _ _
theorem TabN.pushNew {v : PV} (h : TabN e2 e1 σ v t) (hf : Free σ) {l pre post : List Int} {vr n o : Nat} (hl : n = l.length) (ho : o = pre.length) (hn : t.length < 4294967296) {K : PV → Heap → Prop}
  (hK : ∀ v' σ', TabN e2 e1 σ' v' (t ++ [l]) → Free σ' → K v' σ') : aApp e2 1 v (.list [.ref σ.length vr o n]) (σ ++ [.arr vr e1 1 (ints (pre ++ l ++ post))]) K := by
 subst hl; subst ho
 refine h.push (r := ⟨false, σ.length, vr, pre, post⟩) (l := l) ⟨fun h => (by cases h), fun _ => (by simp)⟩ (fun _ => Nat.le_refl _) hn (fun v' σ' h1 h2 => hK v' σ' h1 fun o ho => ?_)
 rcases h2 o ho with ho | ⟨ver, rs, rfl⟩
 ·exact (hf.append (.ints _ _ _ _)) o ho
 ·exact free_pvs rs _
theorem ACall.ret {P : Program} {f : FuncId} {args : List PV} {K K' : PV → Heap → Prop} (h : ACall P f args [] K) (hk : ∀ v s, K v s → Fin 0 K' v s) : ACall P f args [] K' :=
 ⟨h.1, fun φ ι w vs hr ho => (h.2 φ ι w vs hr ho).mono fun e w' ⟨v, v', φ', ι', σ', h1, h2, h3, h4, h5⟩ => by
  obtain ⟨u, s, hret, hK⟩ := hk v σ' h5
  obtain ⟨φ2, ι2, g1, g2, g3⟩ := hret φ' ι' w' v' (Nat.zero_le _) h4 h2
  exact ⟨u, v', φ2, ι2, s, h1, g3, h3.trans g1, g2, hK⟩⟩
def NewTN (P : Program) (f : FuncId) (args : List PV) (e2 e1 : TypeId) (T : List (List Int)) (r : Int) : Prop :=
 ACall P f args [] fun v s => ∃ x, v = .tup [x, .int .i64 r] ∧ TabN e2 e1 s x T ∧ Free s
theorem TabN.up {v : PV} (h : TabN e2 e1 σ v t) : v.free := by
 cases h with
 | nil => exact Plain.nils.fr
 | tab id ver rs t h => exact free_ref _ _ _ _
theorem NewTN.call {P : Program} {f : FuncId} {args : List PV} {T : List (List Int)} {r : Int} (h : NewTN P f args e2 e1 T r) {σ : Heap} {K : PV → Heap → Prop} [ha : StillL args]
  (hk : ∀ (x : PV) (s : Heap), (∀ τ, TabN e2 e1 (σ ++ s ++ τ) x T) → (x = .nils ∨ ∃ id ver rs, x = .ref id ver 0 T.length ∧ σ.length ≤ id ∧ (∀ r ∈ rs, r.nil = false → σ.length ≤ r.id) ∧ TabG e2 e1 (σ ++ s) id ver rs T) → K (.tup [x, .int .i64 r]) (σ ++ s)) : ACall P f args σ K := by
 refine ACall.frame h ha.up fun v s ⟨x, hv, hT, _⟩ => ?_
 subst hv
 have h1 := hT.shift σ
 have := hk (x.ren (Kv.sh σ.length)) (s.map (AObj.ren (Kv.sh σ.length))) (fun τ => h1.append τ) (by
  cases hT with
  | nil => exact .inl (by simp only [ren_nils])
  | tab id ver rs t h =>
   refine .inr ⟨id + σ.length, ver, rs.map (Rw.sh σ.length), by simp only [ren_ref, sh_def], by omega, fun r hr hn => ?_, h.shift σ⟩
   obtain ⟨q, _, rfl⟩ := List.mem_map.1 hr
   simp [Rw.sh])
 simpa only [ren_tup, ren_int, List.map_cons, List.map_nil] using this
theorem NewTN.lend {P : Program} {f : FuncId} {args args' : List PV} {T : List (List Int)} {r : Int} (h : NewTN P f args' e2 e1 T r) {σ : Heap} {K : PV → Heap → Prop} (ha : ImmL σ args args')
  (hk : ∀ (x : PV) (s : Heap), (∀ τ, TabN e2 e1 (σ ++ s ++ τ) x T) → (x = .nils ∨ ∃ id ver rs, x = .ref id ver 0 T.length ∧ σ.length ≤ id ∧ (∀ r ∈ rs, r.nil = false → σ.length ≤ r.id) ∧ TabG e2 e1 (σ ++ s) id ver rs T) → K (.tup [x, .int .i64 r]) (σ ++ s)) : ACall P f args σ K := by
 refine ACall.lend h ha fun v s ⟨x, hv, hT, hf⟩ => ?_
 subst hv
 refine ⟨⟨free_tup fun c hc => ?_, hf⟩, ?_⟩
 ·simp only [List.mem_cons, List.not_mem_nil, or_false] at hc
  rcases hc with rfl | rfl
  ·exact hT.up
  ·exact (Plain.int _ _).fr
 ·have h1 := hT.shift σ
  have := hk (x.ren (Kv.sh σ.length)) (s.map (AObj.ren (Kv.sh σ.length))) (fun τ => h1.append τ) (by
   cases hT with
   | nil => exact .inl (by simp only [ren_nils])
   | tab id ver rs t h =>
    refine .inr ⟨id + σ.length, ver, rs.map (Rw.sh σ.length), by simp only [ren_ref, sh_def], by omega, fun r hr hn => ?_, h.shift σ⟩
    obtain ⟨q, _, rfl⟩ := List.mem_map.1 hr
    simp [Rw.sh])
  simpa only [ren_tup, ren_int, List.map_cons, List.map_nil] using this
end Go.Kv
end
section
namespace Go.Proofs.YthbbjbfbeaiphaaGreat
open Go.Kv
set_option maxRecDepth 100000
def k126 : KC := (.seq (.ops [oP 6 (.mv (.c (.bool false)))])
 (.seq (.ops [mV 7 0, mV 8 1, oP 9 (.bin .geq (.t 7) (.t 8)), mV 10 9, ⟨(some 11), some (10, true), .mv (.t 0)⟩, ⟨(some 12), some (10, true), .mv (.t 2)⟩, ⟨(some 13), some (10, true), .bin .leq (.t 11) (.t 12)⟩, oP 14 (.pick (.t 10) (.t 13) (.c (.bool false))), mV 6 14])
 .ret))
theorem e126 : Ent 126 15 [] [.t 6] k126 := ent Tryz.func126 (by kernel_rfl) (by kernel_rfl) (by kernel_rfl) (fun _ => by kernel_rfl) (by kernel_rfl)
def k120 : KC := (.seq (.ops [oP 6 (.mv (.c (.bool false)))])
 (.seq (.ops [mV 7 0, mV 8 1, oP 9 (.bin .geq (.t 7) (.t 8)), mV 10 9, ⟨(some 11), some (10, true), .mv (.t 0)⟩, ⟨(some 12), some (10, true), .mv (.t 2)⟩, ⟨(some 13), some (10, true), .bin .leq (.t 11) (.t 12)⟩, oP 14 (.pick (.t 10) (.t 13) (.c (.bool false))), mV 6 14])
 .ret))
theorem e120 : Ent 120 15 [] [.t 6] k120 := ent Tryz.func120 (by kernel_rfl) (by kernel_rfl) (by kernel_rfl) (fun _ => by kernel_rfl) (by kernel_rfl)
end Go.Proofs.YthbbjbfbeaiphaaGreat
namespace Go.Proofs.YthbbjbfbeaiphaaGreat
open Go.Kv
set_option linter.unusedVariables false
set_option linter.unusedSimpArgs false
attribute [local irreducible] ACall PCall KL
theorem p126 (a b c : Int) : Pure Tryz.prog 126 [.int .i64 a, .int .i64 b, .int .i64 c] (.bool (decide (b ≤ a ∧ a ≤ c))) := by
 refine e126 (by simp) fun _ _ => ?_
 simp only [k126, argEnv, go_sem, ↓reduceIte, Nat.reduceEqDiff, Nat.reduceAdd, reduceCtorEq]
 by_cases h : b ≤ a <;> simp only [h, true_and, false_and, decide_false, true_implies, not_true_eq_false, false_implies, and_true, not_false_eq_true] <;> exact Kv.Fin.now ⟨rfl, rfl⟩
theorem p120 (a b c : Int) : Pure Tryz.prog 120 [.int .i64 a, .int .i64 b, .int .i64 c] (.bool (decide (b ≤ a ∧ a ≤ c))) := by
 refine e120 (by simp) fun _ _ => ?_
 simp only [k120, argEnv, go_sem, ↓reduceIte, Nat.reduceEqDiff, Nat.reduceAdd, reduceCtorEq]
 by_cases h : b ≤ a <;> simp only [h, true_and, false_and, decide_false, true_implies, not_true_eq_false, false_implies, and_true, not_false_eq_true] <;> exact Kv.Fin.now ⟨rfl, rfl⟩
end Go.Proofs.YthbbjbfbeaiphaaGreat
end
section
namespace Go.Kv
def mk (m : Nat) (f : Nat → Int) : List Int := (List.range m).map f
@[go_sem, simp] theorem mk_length (m : Nat) (f : Nat → Int) : (mk m f).length = m := by simp [mk]
theorem mk_succ (m : Nat) (f : Nat → Int) : mk (m + 1) f = mk m f ++ [f m] := by simp [mk, List.range_succ]
@[go_sem] theorem get_last (σ : Heap) (a : AObj) : (σ ++ [a])[σ.length]? = some a := by simp
@[go_sem] theorem set_last (σ : Heap) (a b : AObj) : (σ ++ [a]).set σ.length b = σ ++ [b] := by simp
theorem all_range_succ (p : Nat → Bool) (n : Nat) : (List.range (n + 1)).all p = ((List.range n).all p && p n) := by simp [List.range_succ, List.all_append]
theorem not_range {p : Nat → Bool} {n x : Nat} (h : x < n) (hp : p x = false) : (List.range n).all p = false := by
 rw [List.all_eq_false]; exact ⟨x, by simpa using h, by simp [hp]⟩
end Go.Kv
end
section
namespace Go.Proofs.YthbbjbfbeaiphaaGreat
open Go.Kv
set_option maxRecDepth 100000
def k137_b0 : KC := (.seq (.seq (.ops [mV 8 3, oP 9 (.bin .lss (.t 8) (iC 5))])
 (.cond (.t 9) .skip (.exit 0)))
 (.seq (.block 1 (.seq (.draw [mV 12 3, oP 13 (.fieldA 0 (.t 1)), oP 14 (.load false 1 (.t 13)), oP 15 (.bin .lss (.t 12) (.t 14)), mV 16 15, ⟨(some 17), some (16, true), .mv (.t 3)⟩, ⟨(some 18), some (16, true), .fieldA 1 (.t 1)⟩, ⟨(some 19), some (16, true), .idxA 5 1 (.t 18) (.t 17)⟩, ⟨(some 20), some (16, true), .load false 1 (.t 19)⟩, ⟨(some 21), some (16, true), .fieldA 0 (.t 1)⟩, ⟨(some 22), some (16, true), .load false 1 (.t 21)⟩, ⟨(some 23), some (16, true), .bin .sub (.t 22) (iC 1)⟩, ⟨(some 24), some (16, true), .pcall (fC 126) [(.t 20), (iC 0), (.t 23)]⟩, ⟨(some 25), some (16, true), .not (.t 24)⟩, oP 26 (.pick (.t 16) (.t 25) (.c (.bool false))), mV 27 26, ⟨(some 28), some (27, false), .mv (.t 3)⟩, ⟨(some 29), some (27, false), .fieldA 0 (.t 1)⟩, ⟨(some 30), some (27, false), .load false 1 (.t 29)⟩, ⟨(some 31), some (27, false), .bin .geq (.t 28) (.t 30)⟩, ⟨(some 32), some (27, false), .mv (.t 31)⟩, ⟨(some 33), some (32, true), .mv (.t 3)⟩, ⟨(some 34), some (32, true), .fieldA 1 (.t 1)⟩, ⟨(some 35), some (32, true), .idxA 5 1 (.t 34) (.t 33)⟩, ⟨(some 36), some (32, true), .load false 1 (.t 35)⟩, ⟨(some 37), some (32, true), .bin .neq (.t 36) (iC 0)⟩, ⟨(some 38), some (27, false), .pick (.t 32) (.t 37) (.c (.bool false))⟩, oP 39 (.pick (.t 27) (.c (.bool true)) (.t 38))])
 (.cond (.t 39) (.seq (.ops [oP 2 (.mv (.c (.bool false)))])
 .ret) .skip)))
 (.ops [mV 10 3, oP 11 (.bin .add (.t 10) (iC 1)), mV 3 11])))
def k137 : KC := (.seq (.ops [oP 1 (.box true (.t 0)), oP 2 (.mv (.c (.bool false)))])
 (.seq (.seq (.ops [oP 4 (.fieldA 0 (.t 1)), oP 5 (.load false 1 (.t 4)), oP 6 (.call (fC 126) [(.t 5), (iC 1), (iC 5)]), oP 7 (.not (.t 6))])
 (.cond (.t 7) (.seq (.ops [oP 2 (.mv (.c (.bool false)))])
 .ret) .skip))
 (.seq (.seq (.ops [oP 3 (.mv (iC 0))])
 (.block 0 (.loop k137_b0)))
 (.seq (.ops [oP 2 (.mv (.c (.bool true)))])
 .ret))))
theorem e137 : Ent 137 40 [1] [.t 2] k137 := ent Tryz.func137 (by kernel_rfl) (by kernel_rfl) (by kernel_rfl) (fun _ => by kernel_rfl) (by kernel_rfl)
def k71_b0 : KC := (.seq (.ops [oP 12 (.bin .lss (.t 11) (iC 5))])
 (.seq (.cond (.t 12) .skip (.exit 0))
 (.seq (.block 1 (.seq (.ops [mV 13 11, oP 14 (.idxV 5 1 false (.t 10) (.t 11)), mV 3 13, mV 4 14])
 (.seq (.ops [mV 15 3, oP 16 (.fieldA 0 (.t 1)), oP 17 (.load false 1 (.t 16)), oP 18 (.bin .lss (.t 15) (.t 17)), mV 19 18, ⟨(some 20), some (19, true), .mv (.t 4)⟩, ⟨(some 21), some (19, true), .fieldA 0 (.t 1)⟩, ⟨(some 22), some (19, true), .load false 1 (.t 21)⟩, ⟨(some 23), some (19, true), .bin .sub (.t 22) (iC 1)⟩, ⟨(some 24), some (19, true), .call (fC 120) [(.t 20), (iC 0), (.t 23)]⟩, ⟨(some 25), some (19, true), .not (.t 24)⟩, oP 26 (.pick (.t 19) (.t 25) (.c (.bool false))), mV 27 26, ⟨(some 28), some (27, false), .mv (.t 3)⟩, ⟨(some 29), some (27, false), .fieldA 0 (.t 1)⟩, ⟨(some 30), some (27, false), .load false 1 (.t 29)⟩, ⟨(some 31), some (27, false), .bin .geq (.t 28) (.t 30)⟩, ⟨(some 32), some (27, false), .mv (.t 31)⟩, ⟨(some 33), some (32, true), .mv (.t 4)⟩, ⟨(some 34), some (32, true), .bin .neq (.t 33) (iC 0)⟩, ⟨(some 35), some (27, false), .pick (.t 32) (.t 34) (.c (.bool false))⟩, oP 36 (.pick (.t 27) (.c (.bool true)) (.t 35))])
 (.cond (.t 36) (.seq (.ops [oP 2 (.mv (.c (.bool false)))])
 .ret) .skip))))
 (.ops [oP 37 (.bin .add (.t 11) (iC 1)), mV 11 37]))))
def k71 : KC := (.seq (.ops [oP 1 (.box true (.t 0)), oP 2 (.mv (.c (.bool false)))])
 (.seq (.seq (.ops [oP 5 (.fieldA 0 (.t 1)), oP 6 (.load false 1 (.t 5)), oP 7 (.call (fC 120) [(.t 6), (iC 1), (iC 5)]), oP 8 (.not (.t 7))])
 (.cond (.t 8) (.seq (.ops [oP 2 (.mv (.c (.bool false)))])
 .ret) .skip))
 (.seq (.seq (.ops [oP 9 (.fieldA 1 (.t 1)), oP 10 (.load true 5 (.t 9)), oP 11 (.mv (iC 0))])
 (.block 0 (.loop k71_b0)))
 (.seq (.ops [oP 2 (.mv (.c (.bool true)))])
 .ret))))
theorem e71 : Ent 71 38 [1] [.t 2] k71 := ent Tryz.func71 (by kernel_rfl) (by kernel_rfl) (by kernel_rfl) (fun _ => by kernel_rfl) (by kernel_rfl)
def k75_b0 : KC := (.seq (.seq (.ops [mV 7 4, mV 8 0, oP 9 (.bin .lss (.t 7) (.t 8))])
 (.cond (.t 9) .skip (.exit 0)))
 (.seq (.block 1 (.ops [mV 12 4, mV 13 4, oP 14 (.fieldA 1 (.t 3)), oP 15 (.idxA 5 1 (.t 14) (.t 12)), ⟨none, none, .store 1 (.t 15) (.t 13)⟩]))
 (.ops [mV 10 4, oP 11 (.bin .add (.t 10) (iC 1)), mV 4 11])))
def k75 : KC := (.seq (.ops [oP 2 (.alloc [.int .i64 0, .int .i64 0, .int .i64 0, .int .i64 0, .int .i64 0, .int .i64 0])])
 (.seq (.ops [mV 5 0, oP 6 (.build [.int .i64 0, .int .i64 0, .int .i64 0, .int .i64 0, .int .i64 0, .int .i64 0] [(0, 1, (.t 5))]), oP 3 (.alloc [.int .i64 0, .int .i64 0, .int .i64 0, .int .i64 0, .int .i64 0, .int .i64 0]), ⟨none, none, .store 6 (.t 3) (.t 6)⟩])
 (.seq (.seq (.ops [oP 4 (.mv (iC 0))])
 (.block 0 (.loop k75_b0)))
 (.seq (.ops [oP 16 (.load true 6 (.t 3)), ⟨none, none, .store 6 (.t 2) (.t 16)⟩])
 .ret))))
theorem e75 : Ent 75 17 [] [.cell 2 true 6] k75 := ent Tryz.func75 (by kernel_rfl) (by kernel_rfl) (by kernel_rfl) (fun _ => by kernel_rfl) (by kernel_rfl)
def k157_b0 : KC := (.seq (.ops [oP 9 (.bin .lss (.t 8) (.t 7))])
 (.seq (.cond (.t 9) .skip (.exit 0))
 (.seq (.block 1 (.seq (.ops [mV 10 8, mV 5 10])
 (.ops [mV 11 5, mV 12 5, oP 13 (.fieldA 1 (.t 2)), oP 14 (.idxA 5 1 (.t 13) (.t 12)), oP 15 (.load false 1 (.t 14)), oP 16 (.fieldA 1 (.t 3)), oP 17 (.idxA 5 1 (.t 16) (.t 15)), oP 18 (.load false 1 (.t 17)), oP 19 (.fieldA 1 (.t 2)), oP 20 (.idxA 5 1 (.t 19) (.t 11)), ⟨none, none, .store 1 (.t 20) (.t 18)⟩])))
 (.ops [oP 21 (.bin .add (.t 8) (iC 1)), mV 8 21]))))
def k157 : KC := (.seq (.ops [oP 2 (.box false (.t 0)), oP 3 (.box true (.t 1)), oP 4 (.alloc [.int .i64 0, .int .i64 0, .int .i64 0, .int .i64 0, .int .i64 0, .int .i64 0])])
 (.seq (.seq (.ops [oP 6 (.fieldA 0 (.t 2)), oP 7 (.load false 1 (.t 6)), oP 8 (.mv (iC 0))])
 (.block 0 (.loop k157_b0)))
 (.seq (.ops [oP 22 (.load true 6 (.t 2)), ⟨none, none, .store 6 (.t 4) (.t 22)⟩])
 .ret)))
theorem e157 : Ent 157 23 [3] [.cell 4 true 6] k157 := ent Tryz.func157 (by kernel_rfl) (by kernel_rfl) (by kernel_rfl) (fun _ => by kernel_rfl) (by kernel_rfl)
end Go.Proofs.YthbbjbfbeaiphaaGreat
namespace Go.Proofs.YthbbjbfbeaiphaaGreat
open Go.Kv
set_option linter.unusedVariables false
set_option linter.unusedSimpArgs false
attribute [local irreducible] ACall PCall KL
theorem p75 (n : Nat) (h1 : 1 ≤ n) (h5 : n ≤ 5) : Pure Tryz.prog 75 [.int .i64 n] (.agg (ints (mp (List.range n)))) := by
 refine e75 (by simp) fun _ _ => ?_
 simp only [k75, argEnv, go_sem]
 refine KL_ind k75_b0.eq_1 (fun x : Nat => [(0, .int .i64 n), (2, .ptr 0 0), (3, .ptr 1 0), (4, .int .i64 x)]) (fun x => [.box (ints [0, 0, 0, 0, 0, 0]), .box (ints (mpN n (List.range x)))]) (fun x => x ≤ n) (fun x => n - x) [0, 2, 3, 4] 0 (by simp [keep]) (by rfl) (Nat.zero_le _) fun x hi ih => ?_
 have hl : (mpN n (List.range x)).length = 6 := mpN_length (by simp; omega)
 try simp only [hl, go_sem]
 refine ⟨fun h => ?_, fun h => ?_⟩
 ·repeat' (first | refine And.intro ?_ ?_ | intro _)
  all_goals (try omega)
  refine ih (x + 1) (by omega) (by omega) _ _ (by rfl) ?_
  rw [mpN_pushI (by simp) (by simp; omega), ← List.range_succ]
 ·obtain rfl : x = n := by omega
  refine Kv.Fin.still ⟨?_, rfl⟩
  simp [mp]
theorem mul_step {f g : List Nat} {n x : Nat} (hf : Ok f n) (h : x < n) : ((mul f g).take x ++ f.drop x).set x (g.getD (f.getD x 0) 0) = (mul f g).take (x + 1) ++ f.drop (x + 1) := by
 have hl := hf.len
 rw [List.set_append_right _ _ (by simp; omega), List.length_take, mul_length, Nat.min_eq_left (by omega), Nat.sub_self, List.drop_eq_getElem_cons (by omega), List.set_cons_zero, List.take_succ_eq_append_getElem (by simp; omega), List.append_assoc]
 simp [mul, List.getD_eq_getElem?_getD, hl, h]
theorem mul_mid {f g : List Nat} {n x : Nat} (hf : Ok f n) (h : x < n) : ((mul f g).take x ++ f.drop x).getD x 0 = f.getD x 0 := by
 have hl := hf.len
 rw [List.getD_eq_getElem?_getD, List.getElem?_append_right (by simp; omega), List.length_take, mul_length, Nat.min_eq_left (by omega), Nat.sub_self]
 simp [List.getD_eq_getElem?_getD]
theorem p157 (f g : List Nat) (n : Nat) (hf : Ok f n) (hg : Ok g n) : Pure Tryz.prog 157 [.agg (ints (mp f)), .agg (ints (mp g))] (.agg (ints (mp (mul f g)))) := by
 rw [hf.mp_eq, hg.mp_eq, (hf.mul hg).mp_eq]
 have hlg := hg.mp_eq ▸ hg.mp_len
 have hlf := hf.mp_eq ▸ hf.mp_len
 have hll := hf.len
 have h5 := hf.le
 refine e157 (by simp) fun _ _ => ?_
 simp only [k157, argEnv, hlf, hlg, go_sem]
 refine KL_ind k157_b0.eq_1 (fun x : Nat => [(2, .ptr 0 0), (3, .fptr (ints (mpN n g)) 0), (4, .ptr 1 0), (7, .int .i64 n), (8, .int .i64 x)]) (fun x => [.box (ints (mpN n ((mul f g).take x ++ f.drop x))), .box (ints [0, 0, 0, 0, 0, 0])]) (fun x => x ≤ n) (fun x => n - x) [2, 3, 4, 7, 8] 0 (by rfl) (by simp [ints]) (Nat.zero_le _) fun x hi ih => ?_
 have hl : (mpN n ((mul f g).take x ++ f.drop x)).length = 6 := mpN_length (by simp; omega)
 try simp only [hl, hlg, go_sem]
 refine ⟨fun h => ?_, fun h => ?_⟩
 ·have hx : x < n := by omega
  rw [mul_mid hf hx]
  have := hf.get hx
  repeat' (first | refine And.intro ?_ ?_ | intro _)
  all_goals (try omega)
  refine ih (x + 1) (by omega) (by omega) _ _ (by rfl) ?_
  rw [mpN_set (by simp; omega), mul_step hf hx]
 ·obtain rfl : x = n := by omega
  refine Kv.Fin.still ⟨?_, rfl⟩
  rw [List.take_of_length_le (by simp; omega), List.drop_of_length_le (by omega), List.append_nil]
theorem p71 (m : List Int) (h : m.length = 6) : Pure Tryz.prog 71 [.agg (ints m)] (.bool (isM m)) := by
 refine e71 (by simp) fun _ _ => ?_
 simp only [k71, argEnv, h, go_sem]
 refine (p120 _ _ _).go ?_
 try simp only [go_sem]
 refine ⟨fun h1 => Kv.Fin.now ⟨by simp only [isM]; rw [decide_eq_false h1]; rfl, rfl⟩, fun h1 => ?_⟩
 refine ⟨by omega, ?_⟩
 have h2 : 1 ≤ m.getD 0 0 ∧ m.getD 0 0 ≤ 5 := by simpa using h1
 have hd : decide (1 ≤ m.getD 0 0 ∧ m.getD 0 0 ≤ 5) = true := by simpa using h2
 refine KL_ind k71_b0.eq_1 (fun x : Nat => [(1, .fptr (ints m) 0), (10, .agg (ints ((m.drop 1).take 5))), (11, .int .i64 x)]) (fun x => []) (fun x => x ≤ 5 ∧ (List.range x).all (okP m) = true) (fun x => 5 - x) [1, 10, 11] 0 (by rfl) (by rfl) ⟨Nat.zero_le _, rfl⟩ fun x ⟨hx, hall⟩ ih => ?_
 have ht : ((m.drop 1).take 5).length = 5 := by simp [h]
 have hg : x < 5 → ((m.drop 1).take 5).getD x 0 = m.getD (x + 1) 0 := fun hx => by
  simp [List.getD_eq_getElem?_getD, List.getElem?_take, hx, Nat.add_comm]
 have hs : okP m x = true → (List.range (x + 1)).all (okP m) = true := fun hp => by rw [all_range_succ, hall, hp]; rfl
 have hb : x < 5 → okP m x = false → isM m = false := fun hx hp => by rw [isM, not_range hx hp, Bool.and_false]
 by_cases hc : (x : Int) < m.getD 0 0
 ·try simp only [h, hc, ht, go_sem]
  refine ⟨fun h3 => ?_, fun h3 => by omega⟩
  rw [hg (by omega)]
  refine ⟨by omega, by omega, fun _ => ⟨by omega, ?_⟩⟩
  refine (p120 _ _ _).go ?_
  try simp only [go_sem]
  have he : okP m x = decide (0 ≤ m.getD (x + 1) 0 ∧ m.getD (x + 1) 0 ≤ m.getD 0 0 - 1) := by rw [okP, if_pos hc]
  refine ⟨fun h4 => ?_, fun h4 => ?_⟩
  ·have hc3 : ¬ m.getD 0 0 ≤ x := by omega
   try simp only [hc3, go_sem]
   repeat' (first | refine And.intro ?_ ?_ | intro _)
   all_goals (try omega)
   exact ih (x + 1) ⟨by omega, hs (by rw [he]; exact decide_eq_true h4)⟩ (by omega) _ _ (by rfl) rfl
  ·exact Kv.Fin.now ⟨by rw [hb (by omega) (by rw [he]; exact decide_eq_false h4)], rfl⟩
 ·have hc2 : m.getD 0 0 ≤ x := by omega
  have he : okP m x = decide (m.getD (x + 1) 0 = 0) := by rw [okP, if_neg hc]
  try simp only [h, hc, hc2, ht, go_sem]
  refine ⟨fun h3 => ?_, fun h3 => ?_⟩
  ·rw [hg (by omega)]
   refine ⟨by omega, by omega, fun _ => ⟨fun h4 => ?_, fun h4 => ?_⟩⟩
   ·exact Kv.Fin.now ⟨by rw [hb (by omega) (by rw [he]; exact decide_eq_false h4)], rfl⟩
   ·repeat' (first | refine And.intro ?_ ?_ | intro _)
    all_goals (try omega)
    exact ih (x + 1) ⟨by omega, hs (by rw [he]; exact decide_eq_true h4)⟩ (by omega) _ _ (by rfl) rfl
  ·obtain rfl : x = 5 := by omega
   exact Kv.Fin.now ⟨by rw [isM, hd, hall]; rfl, rfl⟩
theorem p137 (m : List Int) (h : m.length = 6) : Pure Tryz.prog 137 [.agg (ints m)] (.bool (isM m)) := by
 refine e137 (by simp) fun _ _ => ?_
 simp only [k137, argEnv, h, go_sem]
 refine (p126 _ _ _).go ?_
 try simp only [go_sem]
 refine ⟨fun h1 => Kv.Fin.now ⟨by simp only [isM]; rw [decide_eq_false h1]; rfl, rfl⟩, fun h1 => ?_⟩
 have h2 : 1 ≤ m.getD 0 0 ∧ m.getD 0 0 ≤ 5 := by simpa using h1
 have hd : decide (1 ≤ m.getD 0 0 ∧ m.getD 0 0 ≤ 5) = true := by simpa using h2
 refine KL_ind k137_b0.eq_1 (fun x : Nat => [(1, .fptr (ints m) 0), (3, .int .i64 x)]) (fun x => []) (fun x => x ≤ 5 ∧ (List.range x).all (okP m) = true) (fun x => 5 - x) [1, 3] 0 (by rfl) (by rfl) ⟨Nat.zero_le _, rfl⟩ fun x ⟨hx, hall⟩ ih => ?_
 have hs : okP m x = true → (List.range (x + 1)).all (okP m) = true := fun hp => by rw [all_range_succ, hall, hp]; rfl
 have hb : x < 5 → okP m x = false → isM m = false := fun hx hp => by rw [isM, not_range hx hp, Bool.and_false]
 by_cases hc : (x : Int) < m.getD 0 0
 ·try simp only [h, hc, go_sem]
  refine ⟨fun h3 => ?_, fun h3 => by omega⟩
  refine ⟨by omega, by omega, fun _ => ⟨by omega, ?_⟩⟩
  refine (p126 _ _ _).pgo ?_
  try simp only [go_sem]
  have he : okP m x = decide (0 ≤ m.getD (x + 1) 0 ∧ m.getD (x + 1) 0 ≤ m.getD 0 0 - 1) := by rw [okP, if_pos hc]
  refine ⟨fun h4 => ?_, fun h4 => ?_⟩
  ·have hc3 : ¬ m.getD 0 0 ≤ x := by omega
   try simp only [hc3, go_sem]
   repeat' (first | refine And.intro ?_ ?_ | intro _)
   all_goals (try omega)
   exact ih (x + 1) ⟨by omega, hs (by rw [he]; exact decide_eq_true h4)⟩ (by omega) _ _ (by rfl) rfl
  ·exact Kv.Fin.now ⟨by rw [hb (by omega) (by rw [he]; exact decide_eq_false h4)], rfl⟩
 ·have hc2 : m.getD 0 0 ≤ x := by omega
  have he : okP m x = decide (m.getD (x + 1) 0 = 0) := by rw [okP, if_neg hc]
  try simp only [h, hc, hc2, go_sem]
  refine ⟨fun h3 => ?_, fun h3 => ?_⟩
  ·refine ⟨by omega, by omega, fun _ => ⟨fun h4 => ?_, fun h4 => ?_⟩⟩
   ·exact Kv.Fin.now ⟨by rw [hb (by omega) (by rw [he]; exact decide_eq_false h4)], rfl⟩
   ·repeat' (first | refine And.intro ?_ ?_ | intro _)
    all_goals (try omega)
    exact ih (x + 1) ⟨by omega, hs (by rw [he]; exact decide_eq_true h4)⟩ (by omega) _ _ (by rfl) rfl
  ·obtain rfl : x = 5 := by omega
   exact Kv.Fin.now ⟨by rw [isM, hd, hall]; rfl, rfl⟩
end Go.Proofs.YthbbjbfbeaiphaaGreat
end
end
