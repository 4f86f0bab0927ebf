/- Several texts of this session as one, less what the claim does not need. -/
import Derived.Test.YthbbjbfbeaiphaaGreatZ8
import Derived.Test.YthbbjbfbeaiphaaGreatCb
import Derived.Test.YthbbjbfbeaiphaaGreatFC
import Derived.Test.YthbbjbfbeaiphaaGreatZ7
import Derived.OpenShut
import Derived.DataElems
section
/- slices.AppendSeq over slices.Values of a slice of numbers: over abstract values. -/
namespace Go.Proofs.YthbbjbfbeaiphaaGreat
open Go.Kv
set_option linter.unusedVariables false
set_option linter.unusedSimpArgs false
attribute [local irreducible] ACall PCall KL
theorem flat_intsE (l : List Int) : flat (ints l) = ints l := by
  induction l with
  | nil => rfl
  | cons a l ih => show _ :: flat (ints l) = _; rw [ih]; rfl
theorem callOwn1 {P : Program} {f : FuncId} {args : List PV} {σ : Heap} {K : PV → Heap → Prop} (he : EnterOK P f) {e : TypeId} {l : List Int}
    (h : ∀ φ ι w vs, RelL φ ι args vs → HOK φ ι σ w → Calls P f vs.toArray w fun en w' => ∃ v, en = .returned v ∧ w'.ownsRow w.heap.size e 1 v l.length (l.map (Value.int .i64)) ∧ Go.RowKit.Below w.heap.size w w')
    (ver : Nat) (hk : K (.ref σ.length ver 0 l.length) (σ ++ [.arr ver e 1 (ints l)])) : ACall P f args σ K := by
  unfold ACall
  refine ⟨he, fun φ ι w vs hr ho => (h φ ι w vs hr ho).mono ?_⟩
  rintro en w' ⟨v, rfl, hrow, hb⟩
  have hw : ∀ b, b < w.heap.size → w'.heap[b]? = w.heap[b]? := fun b hb' => hb.block b hb'
  have hblk : ∀ b, (KLoc.arr ver e 1 v).block = some b → w.heap.size ≤ b ∧ b < w'.heap.size := fun b hbb => by
    rcases hrow.2 with ⟨rfl, _⟩ | ⟨g, cap, cur, rfl, hg, hgb, _⟩
    · simp [KLoc.block, Value.ownBlock] at hbb
    · simp only [KLoc.block, Value.ownBlock, Option.some.injEq] at hbb
      subst hbb; exact ⟨hg, heap_lt hgb⟩
  have hflat := flat_intsE l
  refine ⟨.ref σ.length ver 0 l.length, v, φ, ι ++ [.arr ver e 1 v], _, rfl, ?_, Tr.push _ hw hb.size hb.os hb.tape hb.output (fun b h => (hblk b h).1), ho.push (o := .arr ver e 1 (ints l)) (l := .arr ver e 1 v) hw hb.size hblk ⟨rfl, rfl, rfl, by decide, l.map (Value.int .i64), ?_, ?_, ?_, ?_⟩, hk⟩
  · refine .ref _ ver 0 l.length v ver e 1 v ?_ ?_ (Nat.le_refl _) fun _ => ?_
    · rw [← ho.len]; simp
    · rcases hrow.2 with ⟨rfl, _⟩ | ⟨g, cap, cur, rfl, _⟩ <;> rfl
    · rcases hrow.2 with ⟨rfl, hz⟩ | ⟨g, cap, cur, rfl, _, _, hcap, _⟩
      · exact .inr ⟨rfl, rfl, hz, rfl⟩
      · exact .inl ⟨g, l.length, cap, 0, rfl, by omega, by simp, fun _ => by simp, fun _ => rfl⟩
  · rw [show (ints l).length = l.length by simp [ints]]
    refine ⟨hrow.1, ?_⟩
    rcases hrow.2 with hn | ⟨g, cap, cur, rfl, hg, rest⟩
    · exact .inl hn
    · exact .inr ⟨g, cap, cur, rfl, Nat.zero_le _, rest⟩
  · rw [hflat]
    refine ⟨by simp [ints], fun i c v hc hv => ?_⟩
    obtain ⟨x, hx, rfl⟩ := ints_get hc
    rw [List.getElem?_map, hx] at hv
    simp only [Option.map_some, Option.some.injEq] at hv
    subst hv; exact .int _ _
  · rw [hflat]; simp [ints, PV.ok]
  · intro x hx
    simp only [ints, List.mem_map] at hx
    obtain ⟨y, _, rfl⟩ := hx; rfl
theorem fptr1_inv {φ : Frz} {ι : List KLoc} {c : PV} {v : Value} (h : Rel φ ι (.fptr [c] 0) v) : ∃ b o C u, φ b = some C ∧ v = .pointer (some ⟨b, o, none⟩) ∧ C[o]? = some u ∧ Rel φ ι c u := by
  cases h with
  | fptr _ _ b o C hb hok g hg h => exact ⟨b, o, C, g 0, hb, rfl, by simpa using hg 0 c rfl, h 0 c rfl⟩
theorem rel_intsAt {φ : Frz} {ι : List KLoc} {σ : Heap} {w : World} (ho : HOK φ ι σ w) {l : List Int} {v : Value} (h : Rel φ ι (.list (ints l)) v) : IntsAt w.heap.size w v l := by
  generalize hx : ints l = xs at h
  cases h with
  | list0 cap a => exact .inl ⟨by cases l with | nil => rfl | cons => simp [ints] at hx, _, _, rfl⟩
  | listn => exact .inl ⟨by cases l with | nil => rfl | cons => simp [ints] at hx, _, _, rfl⟩
  | list _ esz b o len cap C hl hc hb hsz g hg h =>
    subst hx
    have hl : len = l.length := by rw [← hl]; simp [ints]
    subst hl
    obtain ⟨e, f, hw⟩ := ho.fz b C hb
    refine .inr ⟨b, o, cap, rfl, heap_lt hw, fun j hj => ?_⟩
    have hj' : (ints l)[j]? = some (.int .i64 l[j]) := by simp [ints, hj]
    have he : esz = 1 := (hsz j _ hj').1.symm
    subst he
    have h1 := hg j _ 0 (.int .i64 l[j]) hj' rfl
    have h2 := (h j _ 0 (.int .i64 l[j]) hj' rfl).int_inv
    rw [h2] at h1
    simp only [World.cell?, hw]
    simpa [hj] using h1
theorem p165 (l : List Int) (hl : l.length ≤ 1048576) (σ : Heap) (K : PV → Heap → Prop) (hK : K (.ref σ.length 0 0 l.length) (σ ++ [.arr 0 2 1 (ints l)])) :
    ACall Tryz.prog 165 [.nils, .fn (.func 130) [] [.fptr [.list (ints l)] 0]] σ K := by
  refine callOwn1 ⟨Tryz.f165, Tryz.func165, by kernel_rfl, by kernel_rfl⟩ (fun φ ι w vs hr ho => ?_) 0 hK
  obtain ⟨v0, h0, r0⟩ := hr.get (i := 0) rfl
  obtain ⟨v1, h1, r1⟩ := hr.get (i := 1) rfl
  obtain ⟨x, y, rfl, hx, hy⟩ := r1.fn_inv
  obtain ⟨u, hu, ru⟩ := hy.get (i := 0) rfl
  obtain ⟨b, o, C, sv, hb, rfl, hC, rs⟩ := fptr1_inv ru
  have e0 := r0.nils_inv
  subst e0
  have ex : x = [] := List.eq_nil_of_length_eq_zero hx.1.symm
  subst ex
  have ey : y = [.pointer (some ⟨b, o, none⟩)] := by
    have hyl := hy.1
    match y, hyl, hu with
    | [a], _, hu => simpa using hu
  subst ey
  have ev : vs = [.slice none 0 0, .func (.func 130) #[] #[.pointer (some ⟨b, o, none⟩)]] := by
    have hvl := hr.1
    match vs, hvl, h0, h1 with
    | [a, c], _, h0, h1 => simp only [List.getElem?_cons_zero, Option.some.injEq] at h0; simp only [List.getElem?_cons_succ, List.getElem?_cons_zero, Option.some.injEq] at h1; rw [h0, h1]
  subst ev
  obtain ⟨e, f, hw⟩ := ho.fz b C hb
  have hml : (1048576 : Nat) ≤ maxLen := by decide
  exact (callsIn_wide (n := 3)).1 (apSeq_in Fence.wide 3 trivial trivial rfl (by decide) b o sv l (by omega) (by omega) w (heap_lt hw) (by simp only [World.cell?, hw]; simpa using hC) (rel_intsAt ho rs))
end Go.Proofs.YthbbjbfbeaiphaaGreat
end
section
/- Several texts of this session as one. -/
section
/- Orbits: both sides. -/
namespace Go.Proofs.YthbbjbfbeaiphaaGreat
open Go.Kv
set_option maxRecDepth 100000
def k61 : KC := (.seq (.ops [oP 1 (.box true (.t 0)), oP 2 (.mv (.c (.nilf)))])
  (.seq (.ops [oP 3 (.mkfn (.func 130) [] [(.t 1)]), mV 2 3])
  .ret))
theorem e61 : Ent 61 4 [1] [.t 2] k61 := ent Tryz.func61 (by kernel_rfl) (by kernel_rfl) (by kernel_rfl) (fun _ => by kernel_rfl) (by kernel_rfl)
def k128 : KC := (.seq (.ops [oP 2 (.mv (.c (.nils)))])
  (.seq (.ops [mV 3 0, oP 4 (.call (fC 165) [(.c (.nils)), (.t 3)]), mV 2 4])
  .ret))
theorem e128 : Ent 128 5 [] [.t 2] k128 := ent Tryz.func128 (by kernel_rfl) (by kernel_rfl) (by kernel_rfl) (fun _ => by kernel_rfl) (by kernel_rfl)
def k60 : KC := (.seq (.ops [oP 2 (.mv (.c (.nils)))])
  (.seq (.ops [mV 4 0, oP 5 (.call (fC 128) [(.t 4)]), mV 3 5])
  (.seq (.ops [mV 6 3, oP 7 (.call (fC 129) [(.t 6)])])
  (.seq (.ops [mV 8 3, mV 2 8])
  .ret))))
theorem e60 : Ent 60 9 [] [.t 2] k60 := ent Tryz.func60 (by kernel_rfl) (by kernel_rfl) (by kernel_rfl) (fun _ => by kernel_rfl) (by kernel_rfl)
end Go.Proofs.YthbbjbfbeaiphaaGreat
namespace Go.Proofs.YthbbjbfbeaiphaaGreat
open Go.Kv
set_option linter.unusedVariables false
set_option linter.unusedSimpArgs false
attribute [local irreducible] ACall PCall KL
theorem p61 (l : List Int) : Pure Tryz.prog 61 [.list (ints l)] (.fn (.func 130) [] [.fptr [.list (ints l)] 0]) := by
  refine e61 (by simp) fun _ _ => ?_
  simp only [k61, argEnv, take6, List.drop_zero, Int.cast_ofNat_Int, go_sem, ↓reduceIte, Nat.reduceEqDiff, Nat.reduceAdd, Nat.reduceMul, Nat.reduceLeDiff, Nat.reduceLT, Int.reduceLE, Int.reduceLT, reduceCtorEq]
  try simp only [OpK_eq, HKv, take6, List.drop_zero, Int.cast_ofNat_Int, go_sem, ↓reduceIte, Nat.reduceEqDiff, Nat.reduceAdd, Nat.reduceMul, Nat.reduceLeDiff, Nat.reduceLT, Int.reduceLE, Int.reduceLT, reduceCtorEq]
  exact Kv.Fin.now ⟨rfl, rfl⟩
theorem p128 (l : List Int) (hl : l.length ≤ 1048576) (σ : Heap) (K : PV → Heap → Prop) (hK : K (.ref σ.length 0 0 l.length) (σ ++ [.arr 0 2 1 (ints l)])) :
    ACall Tryz.prog 128 [.fn (.func 130) [] [.fptr [.list (ints l)] 0]] σ K := by
  refine e128 (by simp) fun _ _ => ?_
  simp only [k128, argEnv, take6, List.drop_zero, Int.cast_ofNat_Int, go_sem, ↓reduceIte, Nat.reduceEqDiff, Nat.reduceAdd, Nat.reduceMul, Nat.reduceLeDiff, Nat.reduceLT, Int.reduceLE, Int.reduceLT, reduceCtorEq]
  refine p165 l hl σ _ ?_
  try simp only [OpK_eq, HKv, take6, List.drop_zero, Int.cast_ofNat_Int, go_sem, ↓reduceIte, Nat.reduceEqDiff, Nat.reduceAdd, Nat.reduceMul, Nat.reduceLeDiff, Nat.reduceLT, Int.reduceLE, Int.reduceLT, reduceCtorEq]
  exact Kv.Fin.now hK
end Go.Proofs.YthbbjbfbeaiphaaGreat
end
end
section
/- slices.Sort and slices.Sorted of numbers at whatever length, over abstract values. -/
namespace Go.Proofs.YthbbjbfbeaiphaaGreat
open Go.Kv
set_option linter.unusedVariables false
set_option linter.unusedSimpArgs false
attribute [local irreducible] ACall PCall KL
theorem sort_any {σ : Heap} {id ver : Nat} {e : TypeId} {l : List Int} (hid : σ[id]? = some (.arr ver e 1 (ints l))) (hn : l.length ≤ 4294967296) {K : PV → Heap → Prop} (hK : ∀ r : List Int, r.Perm l → r.Pairwise (· ≤ ·) → K (.tup []) (σ.set id (.arr ver e 1 (ints r)))) :
    ACall Tryz.prog 129 [.ref id ver 0 l.length] σ K := by
  unfold ACall
  refine ⟨⟨Tryz.f129, Tryz.func129, by kernel_rfl, by kernel_rfl⟩, fun φ ι w vs hr ho => ?_⟩
  have hlt := (List.getElem?_eq_some_iff.1 hid).1
  have hltι : id < ι.length := by rw [ho.len]; exact hlt
  obtain ⟨l', hl⟩ : ∃ l, ι[id]? = some l := ⟨_, List.getElem?_eq_getElem hltι⟩
  have hobj := ho.obj id _ l' hid hl
  have hil : (ints l).length = l.length := by simp [ints]
  cases l' with
  | dead => exact hobj.elim
  | box b => exact hobj.elim
  | arr ver' e' esz u =>
    simp only [ObjOK] at hobj
    obtain ⟨rfl, rfl, rfl, _, ys, hrow, hrel, hok, hcl⟩ := hobj
    rw [flat_intsE] at hrel hok
    have hys : ys = l.map (Value.int .i64) := by
      apply List.ext_getElem?
      intro i
      rw [List.getElem?_map]
      by_cases h : i < l.length
      · have h1 : (ints l)[i]? = some (.int .i64 l[i]) := by simp [ints, h]
        obtain ⟨v, hv, hR⟩ := hrel.get h1
        rw [hv, hR.int_inv]; simp [h]
      · have := hrel.1
        rw [List.getElem?_eq_none (by rw [← this]; simpa [ints] using h), List.getElem?_eq_none (by omega)]; rfl
    subst hys
    rw [hil] at hrow
    obtain ⟨v0, hv0, r0⟩ := hr.get (i := 0) rfl
    have hset : ∀ u', u' = u → ι.set id (.arr ver e 1 u') = ι := fun u' hu => by
      subst hu
      have := (List.getElem?_eq_some_iff.1 hl).2
      rw [← this]; exact List.set_getElem_self _
    have ev : vs = [v0] := by
      have hvl := hr.1
      match vs, hvl, hv0 with
      | [a], _, h0 => simp only [List.getElem?_cons_zero, Option.some.injEq] at h0; rw [h0]
    subst ev
    cases r0 with
    | ref _ _ _ _ _ k e2 esz2 u2 hh ho' hk' hv' =>
      rw [hl] at hh
      cases hh
      rcases hv' rfl with ⟨g, n, cap, o, rfl, q1, q2, q3, q4⟩ | ⟨rfl, _, hz, q2⟩
      · rcases hrow.2 with ⟨hnil, _⟩ | ⟨g2, cap2, cur, heq, hg, hgb, c1, c2, c3, c4⟩
        · cases hnil
        cases heq
        obtain rfl := q4 rfl
        rw [Nat.sub_zero] at q2
        subst q2
        refine (sortI_world (cap := cap) hgb l hn (by simpa using c4)).mono ?_
        rintro en w' ⟨rfl, r, hp, hpw, ⟨cur', d1, d2, d3⟩, hoth, hsz, e1, e2, e3⟩
        have hrl := hp.length_eq
        have hw : ∀ b, b < w.heap.size → (KLoc.arr ver e 1 (.slice (some ⟨g, 0, none⟩) l.length cap)).block ≠ some b → w'.heap[b]? = w.heap[b]? := fun b hb hne => hoth b hb (fun e => hne (by rw [e]; rfl))
        have hob2 : ObjOK φ (ι.set id (.arr ver e 1 (.slice (some ⟨g, 0, none⟩) l.length cap))) w' (.arr ver e 1 (ints r)) (.arr ver e 1 (.slice (some ⟨g, 0, none⟩) l.length cap)) := by
          rw [hset _ rfl]
          refine ⟨rfl, rfl, rfl, by decide, r.map (Value.int .i64), ⟨by simp [ints], .inr ⟨g, cap, cur', by simp [ints, hrl], Nat.zero_le _, d1, by simpa [ints, hrl] using c1, c2, by rw [d2]; exact c3, by simpa [ints, hrl] using d3⟩⟩, ?_, ?_, fun x hx => ?_⟩
          · rw [flat_intsE]
            refine ⟨by simp [ints], fun i c v hc hv => ?_⟩
            obtain ⟨x, hx, rfl⟩ := ints_get hc
            rw [List.getElem?_map, hx] at hv
            simp only [Option.map_some, Option.some.injEq] at hv
            subst hv; exact .int _ _
          · rw [flat_intsE]; simp [ints, PV.ok]
          · simp only [ints, List.mem_map] at hx
            obtain ⟨y, _, rfl⟩ := hx; rfl
        obtain ⟨j1, j2⟩ := ho.upd hl (KLoc.le_refl _) hsz hw (fun b hb => .inl hb) (fun b hb => Nat.lt_of_lt_of_le (ho.lt id _ b hl hb) hsz) hob2
        exact ⟨.tup [], .tuple #[], φ, _, _, rfl, .tup [] [] rfl (by simp), Tr.upd _ hl j2 hsz hw (fun b hb => .inl hb) e1 e2 e3, j1, hK r hp hpw⟩
      · subst q2
        have h0 : l = [] := List.eq_nil_of_length_eq_zero hz
        subst h0
        have hcon := Go.Proofs.AnyM.slices_Sort_int_none sortInts none 0 w
        change Calls Tryz.prog 129 _ _ _ at hcon
        refine hcon.mono ?_
        rintro en w' ⟨rfl, rfl⟩
        have := hK [] (.refl _) .nil
        rw [hp_same hid] at this
        exact ⟨.tup [], .tuple #[], φ, ι, σ, rfl, .tup [] [] rfl (by simp), Tr.refl _ _ _ _, ho, this⟩
theorem sorted_any (l : List Int) (hl : l.length ≤ 1048576) (σ : Heap) (K : PV → Heap → Prop) (hK : ∀ r : List Int, r.Perm l → r.Pairwise (· ≤ ·) → K (.ref σ.length 0 0 l.length) (σ ++ [.arr 0 2 1 (ints r)])) :
    ACall Tryz.prog 60 [.fn (.func 130) [] [.fptr [.list (ints l)] 0]] σ K := by
  refine e60 (by simp) fun _ _ => ?_
  simp only [k60, argEnv, take6, List.drop_zero, Int.cast_ofNat_Int, go_sem, ↓reduceIte, Nat.reduceEqDiff, Nat.reduceAdd, Nat.reduceMul, Nat.reduceLeDiff, Nat.reduceLT, Int.reduceLE, Int.reduceLT, reduceCtorEq]
  refine p128 l hl σ _ ?_
  try simp only [OpK_eq, HKv, take6, List.drop_zero, Int.cast_ofNat_Int, go_sem, ↓reduceIte, Nat.reduceEqDiff, Nat.reduceAdd, Nat.reduceMul, Nat.reduceLeDiff, Nat.reduceLT, Int.reduceLE, Int.reduceLT, reduceCtorEq]
  refine sort_any (id := σ.length) (ver := 0) (e := 2) (l := l) (by simp) (by omega) fun r h1 h2 => ?_
  rw [List.set_append_right _ _ (Nat.le_refl _), Nat.sub_self]
  try simp only [OpK_eq, HKv, take6, List.drop_zero, Int.cast_ofNat_Int, go_sem, ↓reduceIte, Nat.reduceEqDiff, Nat.reduceAdd, Nat.reduceMul, Nat.reduceLeDiff, Nat.reduceLT, Int.reduceLE, Int.reduceLT, reduceCtorEq]
  exact Kv.Fin.now (hK r h1 h2)
end Go.Proofs.YthbbjbfbeaiphaaGreat
end
section
/- IsIsomorphism: both sides. -/
namespace Go.Proofs.YthbbjbfbeaiphaaGreat
open Go.Kv
set_option maxRecDepth 100000
def k11_b0 : KC := (.seq (.ops [oP 43 (.bin .lss (.t 42) (.t 41))])
  (.seq (.cond (.t 43) .skip (.exit 2))
  (.seq (.block 3 (.seq (.ops [mV 44 42, mV 9 44])
  (.seq (.draw [mV 45 2, mV 46 0, mV 47 8, oP 48 (.idxS 1 (.t 46) (.t 47)), oP 49 (.load false 1 (.t 48)), mV 50 9, oP 51 (.idxS 1 (.t 49) (.t 50)), oP 52 (.load false 1 (.t 51)), oP 53 (.idxS 1 (.t 45) (.t 52)), oP 54 (.load false 1 (.t 53)), mV 55 1, mV 56 2, mV 57 8, oP 58 (.idxS 1 (.t 56) (.t 57)), oP 59 (.load false 1 (.t 58)), oP 60 (.idxS 1 (.t 55) (.t 59)), oP 61 (.load false 1 (.t 60)), mV 62 2, mV 63 9, oP 64 (.idxS 1 (.t 62) (.t 63)), oP 65 (.load false 1 (.t 64)), oP 66 (.idxS 1 (.t 61) (.t 65)), oP 67 (.load false 1 (.t 66)), oP 68 (.bin .neq (.t 54) (.t 67))])
  (.cond (.t 68) (.seq (.ops [oP 6 (.mv (.c (.bool false))), oP 7 (.mv (iC 0))])
  .ret) .skip))))
  (.ops [oP 69 (.bin .add (.t 42) (iC 1)), mV 42 69]))))
def k11_b1 : KC := (.seq (.ops [oP 38 (.bin .lss (.t 37) (.t 36))])
  (.seq (.cond (.t 38) .skip (.exit 0))
  (.seq (.block 1 (.seq (.ops [mV 39 37, mV 8 39])
  (.seq (.ops [mV 40 0, oP 41 (.len false (.t 40)), oP 42 (.mv (iC 0))])
  (.block 2 (.loop k11_b0)))))
  (.ops [oP 70 (.bin .add (.t 37) (iC 1)), mV 37 70]))))
def k11 : KC := (.seq (.ops [oP 6 (.mv (.c (.bool false))), oP 7 (.mv (iC 0))])
  (.seq (.seq (.ops [mV 10 0, oP 11 (.call (fC 49) [(.t 10)]), oP 12 (.not (.t 11)), mV 13 12, ⟨(some 14), some (13, false), .mv (.t 1)⟩, ⟨(some 15), some (13, false), .call (fC 49) [(.t 14)]⟩, ⟨(some 16), some (13, false), .not (.t 15)⟩, oP 17 (.pick (.t 13) (.c (.bool true)) (.t 16)), mV 18 17, ⟨(some 19), some (18, false), .mv (.t 0)⟩, ⟨(some 20), some (18, false), .len false (.t 19)⟩, ⟨(some 21), some (18, false), .mv (.t 1)⟩, ⟨(some 22), some (18, false), .len false (.t 21)⟩, ⟨(some 23), some (18, false), .bin .neq (.t 20) (.t 22)⟩, oP 24 (.pick (.t 18) (.c (.bool true)) (.t 23)), mV 25 24, ⟨(some 26), some (25, false), .mv (.t 2)⟩, ⟨(some 27), some (25, false), .call (fC 61) [(.t 26)]⟩, ⟨(some 28), some (25, false), .call (fC 60) [(.t 27)]⟩, ⟨(some 29), some (25, false), .mv (.t 0)⟩, ⟨(some 30), some (25, false), .len false (.t 29)⟩, ⟨(some 31), some (25, false), .call (fC 62) [(.t 30)]⟩, ⟨(some 32), some (25, false), .call (fC 59) [(.t 28), (.t 31)]⟩, ⟨(some 33), some (25, false), .not (.t 32)⟩, oP 34 (.pick (.t 25) (.c (.bool true)) (.t 33))])
  (.cond (.t 34) (.seq (.ops [oP 6 (.mv (.c (.bool false))), oP 7 (.mv (iC 2))])
  .ret) .skip))
  (.seq (.seq (.ops [mV 35 0, oP 36 (.len false (.t 35)), oP 37 (.mv (iC 0))])
  (.block 0 (.loop k11_b1)))
  (.seq (.ops [oP 6 (.mv (.c (.bool true))), oP 7 (.mv (iC 0))])
  .ret))))
theorem e11 : Ent 11 71 [] [.t 6, .t 7] k11 := ent Tryz.func11 (by kernel_rfl) (by kernel_rfl) (by kernel_rfl) (fun _ => by kernel_rfl) (by kernel_rfl)
def k12_b0 : KC := (.seq (.seq (.ops [mV 38 9, mV 39 0, oP 40 (.len false (.t 39)), oP 41 (.bin .lss (.t 38) (.t 40))])
  (.cond (.t 41) .skip (.exit 2)))
  (.seq (.block 3 (.seq (.draw [mV 44 2, mV 45 0, mV 46 8, oP 47 (.idxS 1 (.t 45) (.t 46)), oP 48 (.load false 1 (.t 47)), mV 49 9, oP 50 (.idxS 1 (.t 48) (.t 49)), oP 51 (.load false 1 (.t 50)), oP 52 (.idxS 1 (.t 44) (.t 51)), oP 53 (.load false 1 (.t 52)), mV 54 1, mV 55 2, mV 56 8, oP 57 (.idxS 1 (.t 55) (.t 56)), oP 58 (.load false 1 (.t 57)), oP 59 (.idxS 1 (.t 54) (.t 58)), oP 60 (.load false 1 (.t 59)), mV 61 2, mV 62 9, oP 63 (.idxS 1 (.t 61) (.t 62)), oP 64 (.load false 1 (.t 63)), oP 65 (.idxS 1 (.t 60) (.t 64)), oP 66 (.load false 1 (.t 65)), oP 67 (.bin .neq (.t 53) (.t 66))])
  (.cond (.t 67) (.seq (.ops [oP 6 (.mv (.c (.bool false))), oP 7 (.mv (iC 0))])
  .ret) .skip)))
  (.ops [mV 42 9, oP 43 (.bin .add (.t 42) (iC 1)), mV 9 43])))
def k12_b1 : KC := (.seq (.seq (.ops [mV 32 8, mV 33 0, oP 34 (.len false (.t 33)), oP 35 (.bin .lss (.t 32) (.t 34))])
  (.cond (.t 35) .skip (.exit 0)))
  (.seq (.block 1 (.seq (.ops [oP 9 (.mv (iC 0))])
  (.block 2 (.loop k12_b0))))
  (.ops [mV 36 8, oP 37 (.bin .add (.t 36) (iC 1)), mV 8 37])))
def k12 : KC := (.seq (.ops [oP 6 (.mv (.c (.bool false))), oP 7 (.mv (iC 0))])
  (.seq (.seq (.ops [mV 10 0, oP 11 (.call (fC 53) [(.t 10)]), oP 12 (.not (.t 11)), mV 13 12, ⟨(some 14), some (13, false), .mv (.t 1)⟩, ⟨(some 15), some (13, false), .call (fC 53) [(.t 14)]⟩, ⟨(some 16), some (13, false), .not (.t 15)⟩, oP 17 (.pick (.t 13) (.c (.bool true)) (.t 16)), mV 18 17, ⟨(some 19), some (18, false), .mv (.t 0)⟩, ⟨(some 20), some (18, false), .len false (.t 19)⟩, ⟨(some 21), some (18, false), .mv (.t 1)⟩, ⟨(some 22), some (18, false), .len false (.t 21)⟩, ⟨(some 23), some (18, false), .bin .neq (.t 20) (.t 22)⟩, oP 24 (.pick (.t 18) (.c (.bool true)) (.t 23)), mV 25 24, ⟨(some 26), some (25, false), .mv (.t 2)⟩, ⟨(some 27), some (25, false), .mv (.t 0)⟩, ⟨(some 28), some (25, false), .len false (.t 27)⟩, ⟨(some 29), some (25, false), .call (fC 63) [(.t 26), (.t 28)]⟩, ⟨(some 30), some (25, false), .not (.t 29)⟩, oP 31 (.pick (.t 25) (.c (.bool true)) (.t 30))])
  (.cond (.t 31) (.seq (.ops [oP 6 (.mv (.c (.bool false))), oP 7 (.mv (iC 2))])
  .ret) .skip))
  (.seq (.seq (.ops [oP 8 (.mv (iC 0))])
  (.block 0 (.loop k12_b1)))
  (.seq (.ops [oP 6 (.mv (.c (.bool true))), oP 7 (.mv (iC 0))])
  .ret))))
theorem e12 : Ent 12 68 [] [.t 6, .t 7] k12 := ent Tryz.func12 (by kernel_rfl) (by kernel_rfl) (by kernel_rfl) (fun _ => by kernel_rfl) (by kernel_rfl)
def k63_b0 : KC := (.seq (.seq (.ops [mV 13 6, mV 14 1, oP 15 (.bin .lss (.t 13) (.t 14))])
  (.cond (.t 15) .skip (.exit 0)))
  (.seq (.block 1 (.seq (.seq (.ops [mV 18 0, mV 19 6, oP 20 (.idxS 1 (.t 18) (.t 19)), oP 21 (.load false 1 (.t 20)), mV 22 1, oP 23 (.bin .sub (.t 22) (iC 1)), oP 24 (.call (fC 126) [(.t 21), (iC 0), (.t 23)]), oP 25 (.not (.t 24)), mV 26 25, ⟨(some 27), some (26, false), .mv (.t 5)⟩, ⟨(some 28), some (26, false), .mv (.t 0)⟩, ⟨(some 29), some (26, false), .mv (.t 6)⟩, ⟨(some 30), some (26, false), .idxS 1 (.t 28) (.t 29)⟩, ⟨(some 31), some (26, false), .load false 1 (.t 30)⟩, ⟨(some 32), some (26, false), .idxS 1 (.t 27) (.t 31)⟩, ⟨(some 33), some (26, false), .load false 1 (.t 32)⟩, oP 34 (.pick (.t 26) (.c (.bool true)) (.t 33))])
  (.cond (.t 34) (.seq (.ops [oP 4 (.mv (.c (.bool false)))])
  .ret) .skip))
  (.ops [mV 35 5, mV 36 0, mV 37 6, oP 38 (.idxS 1 (.t 36) (.t 37)), oP 39 (.load false 1 (.t 38)), oP 40 (.idxS 1 (.t 35) (.t 39)), ⟨none, none, .store 1 (.t 40) (.c (.bool true))⟩])))
  (.ops [mV 16 6, oP 17 (.bin .add (.t 16) (iC 1)), mV 6 17])))
def k63 : KC := (.seq (.ops [oP 4 (.mv (.c (.bool false)))])
  (.seq (.ops [mV 7 1, oP 8 (.mks 4 1 (.bool false) (.t 7) (.t 7)), mV 5 8])
  (.seq (.seq (.ops [mV 9 0, oP 10 (.len false (.t 9)), mV 11 1, oP 12 (.bin .neq (.t 10) (.t 11))])
  (.cond (.t 12) (.seq (.ops [oP 4 (.mv (.c (.bool false)))])
  .ret) .skip))
  (.seq (.seq (.ops [oP 6 (.mv (iC 0))])
  (.block 0 (.loop k63_b0)))
  (.seq (.ops [oP 4 (.mv (.c (.bool true)))])
  .ret)))))
theorem e63 : Ent 63 41 [] [.t 4] k63 := ent Tryz.func63 (by kernel_rfl) (by kernel_rfl) (by kernel_rfl) (fun _ => by kernel_rfl) (by kernel_rfl)
end Go.Proofs.YthbbjbfbeaiphaaGreat
namespace Go.Proofs.YthbbjbfbeaiphaaGreat
open Go.Kv
set_option linter.unusedVariables false
set_option linter.unusedSimpArgs false
attribute [local irreducible] ACall PCall KL
/-- A list has the numbers 0 to n - 1, each once. -/
def ordB (p : List Int) (n : Nat) : Bool := decide (srt p = pts n)
theorem pts_mem (n : Nat) (x : Int) : x ∈ pts n ↔ 0 ≤ x ∧ x ≤ (n : Int) - 1 := by
  unfold pts mk
  rw [List.mem_map]
  constructor
  · rintro ⟨i, hi, rfl⟩
    rw [List.mem_range] at hi
    omega
  · intro h
    exact ⟨x.toNat, List.mem_range.2 (by omega), by omega⟩
theorem pts_nodup (n : Nat) : (pts n).Nodup := by
  unfold pts mk
  rw [List.nodup_iff_pairwise_ne, List.pairwise_map]
  exact List.pairwise_lt_range.imp fun h e => by omega
theorem pts_sorted (n : Nat) : (pts n).Pairwise (· ≤ ·) := by
  unfold pts mk
  rw [List.pairwise_map]
  exact List.pairwise_lt_range.imp fun h => by omega
theorem pts_len (n : Nat) : (pts n).length = n := by simp [pts, mk]
theorem ord_perm {p : List Int} {n : Nat} (h : ordB p n = true) : p.Perm (pts n) := by
  have h := of_decide_eq_true h
  rw [← h]; exact (srt_perm p).symm
theorem ord_true {p : List Int} {n : Nat} (hl : p.length = n) (hr : ∀ x ∈ p, 0 ≤ x ∧ x ≤ (n : Int) - 1) (hd : p.Nodup) : ordB p n = true := by
  have hsub : ∀ x, x ∈ pts n → x ∈ p := fun x hx => by
    refine Classical.byContradiction fun hno => ?_
    have h1 := nodup_len n ((x :: p).map Int.toNat) ?_ ?_
    · simp at h1; omega
    · rw [List.nodup_iff_pairwise_ne, List.pairwise_map, List.pairwise_cons]
      have hx2 := (pts_mem n x).1 hx
      refine ⟨fun y hy e => hno ?_, ?_⟩
      · have := hr y hy
        have : x = y := by omega
        rw [this]; exact hy
      · exact (List.nodup_iff_pairwise_ne.1 hd).imp_of_mem fun {a b} ha hb hab e => by
          have := hr a ha; have := hr b hb
          exact hab (by omega)
    · intro y hy
      obtain ⟨z, hz, rfl⟩ := List.mem_map.1 hy
      rcases List.mem_cons.1 hz with rfl | hz
      · have := (pts_mem n z).1 hx; omega
      · have := hr z hz; omega
  have hp : p.Perm (pts n) := (List.perm_ext_iff_of_nodup hd (pts_nodup n)).2 fun x => ⟨fun hx => (pts_mem n x).2 (hr x hx), hsub x⟩
  exact decide_eq_true (sorted_uniq ((srt_perm p).trans hp) (srt_sorted p) (pts_sorted n))
theorem ord_all {p : List Int} {n : Nat} (h : ordB p n = true) : p.length = n ∧ (∀ x ∈ p, 0 ≤ x ∧ x ≤ (n : Int) - 1) ∧ p.Nodup := by
  have hp := ord_perm h
  exact ⟨by rw [hp.length_eq, pts_len], fun x hx => (pts_mem n x).1 (hp.mem_iff.1 hx), hp.nodup_iff.2 (pts_nodup n)⟩
def blz (m : List Bool) : List PV := m.map PV.bool
@[simp] theorem blz_length (m : List Bool) : (blz m).length = m.length := by simp [blz]
theorem blz_get {m : List Bool} {i : Nat} (h : i < m.length) : (blz m)[i]? = some (.bool (m.getD i false)) := by
  simp [blz, List.getD_eq_getElem?_getD, h]
theorem blz_set (m : List Bool) (i : Nat) (b : Bool) : (blz m).set i (.bool b) = blz (m.set i b) := by simp [blz, List.map_set]
/-- What has been met among the first x. -/
def mtk (p : List Int) (n x : Nat) : List Bool := (List.range n).map fun y : Nat => decide ((y : Int) ∈ p.take x)
theorem mtk_len (p : List Int) (n x : Nat) : (mtk p n x).length = n := by simp [mtk]
theorem mtk_get {p : List Int} {n x y : Nat} (h : y < n) : (mtk p n x).getD y false = decide ((y : Int) ∈ p.take x) := by
  simp [mtk, List.getD_eq_getElem?_getD, h]
theorem mtk_set {p : List Int} {n x : Nat} (h : x < p.length) (hr : 0 ≤ p[x] ∧ p[x] ≤ (n : Int) - 1) : (mtk p n x).set (p[x]).toNat true = mtk p n (x + 1) := by
  apply List.ext_getElem?
  intro i
  rw [List.getElem?_set, mtk_len]
  have hm : ∀ z i, (mtk p n z)[i]? = if i < n then some (decide ((i : Int) ∈ p.take z)) else none := fun z i => by
    unfold mtk
    rw [List.getElem?_map]
    by_cases hi : i < n
    · rw [List.getElem?_range hi, if_pos hi]; rfl
    · rw [List.getElem?_eq_none (by simpa using hi), if_neg hi]; rfl
  rw [hm, hm, List.take_succ_eq_append_getElem h]
  by_cases e : (p[x]).toNat = i
  · have hin : i < n := by omega
    have e2 : (i : Int) = p[x] := by omega
    rw [if_pos e, if_pos (by omega), if_pos hin, decide_eq_true (List.mem_append.2 (.inr (by rw [e2]; simp)))]
  · rw [if_neg e]
    by_cases hi : i < n
    · have e2 : ¬ (i : Int) = p[x] := by omega
      rw [if_pos hi, if_pos hi]
      congr 1
      exact decide_eq_decide.2 ⟨fun q => List.mem_append.2 (.inl q), fun q => by
        rcases List.mem_append.1 q with q | q
        · exact q
        · rw [List.mem_singleton] at q; exact absurd q e2⟩
    · rw [if_neg hi, if_neg hi]
theorem p63 (p : List Int) (n : Nat) (hp : p.length ≤ 1048576) (hn : n ≤ 1048576) : Pure Tryz.prog 63 [.list (ints p), .int .i64 n] (.bool (ordB p n)) := by
  refine e63 (by simp) fun _ _ => ?_
  simp only [k63, argEnv, take6, List.drop_zero, Int.cast_ofNat_Int, go_sem, ↓reduceIte, Nat.reduceEqDiff, Nat.reduceAdd, Nat.reduceMul, Nat.reduceLeDiff, Nat.reduceLT, Int.reduceLE, Int.reduceLT, reduceCtorEq]
  refine ⟨by omega, fun h1 => ?_, fun h1 => ?_⟩
  · refine Kv.Fin.still ⟨?_, rfl⟩
    cases ho : ordB p n with
    | false => rfl
    | true => have := (ord_all ho).1; omega
  · have hln : p.length = n := by omega
    have hrep : (List.replicate n (PV.bool false)) = blz (mtk p n 0) := by
      apply List.ext_getElem?
      intro i
      simp only [blz, mtk, List.take_zero, List.not_mem_nil, decide_false, List.getElem?_map, List.getElem?_replicate]
      by_cases hi : i < n
      · rw [List.getElem?_range hi, if_pos hi]; rfl
      · rw [List.getElem?_eq_none (by simpa using hi), if_neg hi]; rfl
    rw [hrep]
    refine KL_ind k63_b0.eq_1 (fun x : Nat => [(0, .list (ints p)), (1, .int .i64 n), (5, .ref 0 0 0 n), (6, .int .i64 x)]) (fun x => [.arr 0 4 1 (blz (mtk p n x))]) (fun x => x ≤ n ∧ (∀ y ∈ p.take x, 0 ≤ y ∧ y ≤ (n : Int) - 1) ∧ (p.take x).Nodup) (fun x => n - x) [0, 1, 5, 6] 0 (by simp [keep]) rfl ⟨Nat.zero_le _, by simp, by simp⟩ fun x ⟨hx, hrx, hdx⟩ ih => ?_
    try simp only [OpK_eq, HKv, take6, List.drop_zero, Int.cast_ofNat_Int, go_sem, ↓reduceIte, Nat.reduceEqDiff, Nat.reduceAdd, Nat.reduceMul, Nat.reduceLeDiff, Nat.reduceLT, Int.reduceLE, Int.reduceLT, reduceCtorEq]
    refine ⟨fun h2 => ⟨by omega, fun hxl => ⟨by omega, ?_⟩⟩, fun h2 => ?_⟩
    · rw [getD_eq hxl]
      refine (p126 _ _ _).go ?_
      by_cases hin : 0 ≤ p[x] ∧ p[x] ≤ (n : Int) - 1
      · rw [decide_eq_true hin]
        try simp only [OpK_eq, HKv, blz_length, mtk_len, getD_eq hxl, take6, List.drop_zero, Int.cast_ofNat_Int, go_sem, ↓reduceIte, Nat.reduceEqDiff, Nat.reduceAdd, Nat.reduceMul, Nat.reduceLeDiff, Nat.reduceLT, Int.reduceLE, Int.reduceLT, reduceCtorEq]
        have hput : ∀ b y, putE (.bool b) 0 y = y := fun b y => rfl
        refine ⟨by omega, fun _ => ⟨⟨by omega, by omega, Nat.le_refl _⟩, by omega, fun q hq => ?_⟩⟩
        have hgm := mtk_get (p := p) (n := n) (x := x) (y := (p[x]).toNat) (by omega)
        have hpx : (((p[x]).toNat : Nat) : Int) = p[x] := by omega
        rw [hpx] at hgm
        rw [blz_get (by rw [mtk_len]; omega), hgm] at hq; cases hq
        refine ⟨by simp [PV.cs], fun c hc => ?_⟩
        simp only [PV.cs, List.getElem?_cons_zero, Option.some.injEq] at hc
        subst hc
        try simp only [OpK_eq, HKv, blz_length, mtk_len, getD_eq hxl, take6, List.drop_zero, Int.cast_ofNat_Int, go_sem, ↓reduceIte, Nat.reduceEqDiff, Nat.reduceAdd, Nat.reduceMul, Nat.reduceLeDiff, Nat.reduceLT, Int.reduceLE, Int.reduceLT, reduceCtorEq]
        refine ⟨fun h3 => ?_, fun h3 => ⟨by omega, fun _ => ⟨⟨by omega, by omega, Nat.le_refl _⟩, by omega, fun q hq => ?_⟩⟩⟩
        · refine Kv.Fin.still ⟨?_, rfl⟩
          cases ho : ordB p n with
          | false => rfl
          | true =>
            have hd := (ord_all ho).2.2
            have hd2 : (p.take (x + 1)).Nodup := (List.take_sublist _ _).nodup hd
            rw [List.take_succ_eq_append_getElem hxl, List.nodup_append] at hd2
            exact absurd rfl (hd2.2.2 _ h3 _ (by simp))
        · rw [blz_get (by rw [mtk_len]; omega), hgm] at hq; cases hq
          rw [hput, blz_set, mtk_set hxl hin]
          refine ⟨by simp [PV.cs], ?_⟩
          try simp only [OpK_eq, HKv, take6, List.drop_zero, Int.cast_ofNat_Int, go_sem, ↓reduceIte, Nat.reduceEqDiff, Nat.reduceAdd, Nat.reduceMul, Nat.reduceLeDiff, Nat.reduceLT, Int.reduceLE, Int.reduceLT, reduceCtorEq]
          refine ⟨by omega, ih (x + 1) ⟨by omega, fun y hy => ?_, ?_⟩ (by omega) _ _ (by simp [keep]) rfl⟩
          · rw [List.take_succ_eq_append_getElem hxl] at hy
            rcases List.mem_append.1 hy with hy | hy
            · exact hrx y hy
            · rw [List.mem_singleton] at hy; subst hy; exact hin
          · rw [List.take_succ_eq_append_getElem hxl, List.nodup_append]
            refine ⟨hdx, by simp, fun a ha b hb e => ?_⟩
            rw [List.mem_singleton] at hb
            subst hb; subst e
            exact h3 ha
      · rw [decide_eq_false hin]
        try simp only [OpK_eq, HKv, take6, List.drop_zero, Int.cast_ofNat_Int, go_sem, ↓reduceIte, Nat.reduceEqDiff, Nat.reduceAdd, Nat.reduceMul, Nat.reduceLeDiff, Nat.reduceLT, Int.reduceLE, Int.reduceLT, reduceCtorEq]
        refine Kv.Fin.still ⟨?_, rfl⟩
        cases ho : ordB p n with
        | false => rfl
        | true => exact absurd ((ord_all ho).2.1 _ (List.getElem_mem hxl)) hin
    · obtain rfl : x = n := by omega
      refine Kv.Fin.still ⟨?_, rfl⟩
      rw [List.take_of_length_le (by omega)] at hrx hdx
      rw [ord_true hln hrx hdx]
/-- One agreement. -/
def isoAt (a b : List (List Int)) (p : List Int) (x y : Nat) : Bool := decide (p.getD (tat a x y).toNat 0 = tat b (p.getD x 0).toNat (p.getD y 0).toNat)
def isoR (a b : List (List Int)) (p : List Int) (x : Nat) : Bool := (List.range a.length).all (isoAt a b p x)
def isoB (a b : List (List Int)) (p : List Int) : Bool := (List.range a.length).all (isoR a b p)
def okI (a b : List (List Int)) (p : List Int) : Bool := isTab a && isTab b && decide (a.length = b.length) && ordB p a.length
theorem ra_false {f : Nat → Bool} {n x : Nat} (hx : x < n) (h : f x = false) : (List.range n).all f = false := by
  rw [List.all_eq_false]
  exact ⟨x, List.mem_range.2 hx, by simp [h]⟩
theorem ra_succ {f : Nat → Bool} {x : Nat} (h : (List.range x).all f = true) (h2 : f x = true) : (List.range (x + 1)).all f = true := by
  rw [List.range_succ, List.all_append, h]; simp [h2]
theorem p11 (a b : List (List Int)) (p : List Int) (ha : a.length ≤ 1048576) (hla : ∀ r ∈ a, r.length ≤ 1048576) (hb : b.length ≤ 1048576) (hlb : ∀ r ∈ b, r.length ≤ 1048576) (hp : p.length ≤ 1048576) :
    Pure Tryz.prog 11 [.list (rows a), .list (rows b), .list (ints p)] (.tup [.bool (okI a b p && isoB a b p), .int .i64 (if okI a b p = true then 0 else 2)]) := by
  have fl : okI a b p = false → ∀ v s, (v = PV.tup [.bool false, .int .i64 2] ∧ s = []) → (v = PV.tup [.bool (okI a b p && isoB a b p), .int .i64 (if okI a b p = true then 0 else 2)] ∧ s = ([] : Heap)) := fun h v s hv => by rw [h]; exact hv
  refine e11 (by simp) fun _ _ => ?_
  simp only [k11, argEnv, take6, List.drop_zero, Int.cast_ofNat_Int, go_sem, ↓reduceIte, Nat.reduceEqDiff, Nat.reduceAdd, Nat.reduceMul, Nat.reduceLeDiff, Nat.reduceLT, Int.reduceLE, Int.reduceLT, reduceCtorEq]
  refine (p49 a ha hla).go ?_
  cases ha' : isTab a with
  | false =>
    try simp only [OpK_eq, HKv, take6, List.drop_zero, Int.cast_ofNat_Int, go_sem, ↓reduceIte, Nat.reduceEqDiff, Nat.reduceAdd, Nat.reduceMul, Nat.reduceLeDiff, Nat.reduceLT, Int.reduceLE, Int.reduceLT, reduceCtorEq]
    exact Kv.Fin.still (fl (by rw [okI, ha']; rfl) _ _ ⟨rfl, rfl⟩)
  | true =>
    try simp only [OpK_eq, HKv, take6, List.drop_zero, Int.cast_ofNat_Int, go_sem, ↓reduceIte, Nat.reduceEqDiff, Nat.reduceAdd, Nat.reduceMul, Nat.reduceLeDiff, Nat.reduceLT, Int.reduceLE, Int.reduceLT, reduceCtorEq]
    refine (p49 b hb hlb).go ?_
    cases hb' : isTab b with
    | false =>
      try simp only [OpK_eq, HKv, take6, List.drop_zero, Int.cast_ofNat_Int, go_sem, ↓reduceIte, Nat.reduceEqDiff, Nat.reduceAdd, Nat.reduceMul, Nat.reduceLeDiff, Nat.reduceLT, Int.reduceLE, Int.reduceLT, reduceCtorEq]
      exact Kv.Fin.still (fl (by rw [okI, ha', hb']; rfl) _ _ ⟨rfl, rfl⟩)
    | true =>
      try simp only [OpK_eq, HKv, take6, List.drop_zero, Int.cast_ofNat_Int, go_sem, ↓reduceIte, Nat.reduceEqDiff, Nat.reduceAdd, Nat.reduceMul, Nat.reduceLeDiff, Nat.reduceLT, Int.reduceLE, Int.reduceLT, reduceCtorEq]
      refine ⟨fun h1 => ?_, fun h1 => ?_⟩
      · have hab : a.length = b.length := by omega
        obtain ⟨hna, hsa⟩ := tab_sq ha'
        obtain ⟨hnb, hsb⟩ := tab_sq hb'
        refine (p61 p).go ?_
        try simp only [OpK_eq, HKv, take6, List.drop_zero, Int.cast_ofNat_Int, go_sem, ↓reduceIte, Nat.reduceEqDiff, Nat.reduceAdd, Nat.reduceMul, Nat.reduceLeDiff, Nat.reduceLT, Int.reduceLE, Int.reduceLT, reduceCtorEq]
        refine sorted_any p hp [] _ fun r hr1 hr2 => ?_
        have hrs : r = srt p := sorted_uniq (hr1.trans (srt_perm p).symm) hr2 (srt_sorted p)
        subst hrs
        have hsl := (srt_perm p).length_eq
        try simp only [OpK_eq, HKv, take6, List.drop_zero, Int.cast_ofNat_Int, go_sem, ↓reduceIte, Nat.reduceEqDiff, Nat.reduceAdd, Nat.reduceMul, Nat.reduceLeDiff, Nat.reduceLT, Int.reduceLE, Int.reduceLT, reduceCtorEq]
        refine (p62 a.length (by omega)).go fun v s ⟨hv, hs⟩ => ?_
        subst hv; subst hs
        try simp only [OpK_eq, HKv, take6, List.drop_zero, Int.cast_ofNat_Int, go_sem, ↓reduceIte, Nat.reduceEqDiff, Nat.reduceAdd, Nat.reduceMul, Nat.reduceLeDiff, Nat.reduceLT, Int.reduceLE, Int.reduceLT, reduceCtorEq]
        refine (p59 (srt p) (pts a.length) (by rw [pts_len]; omega) (by omega)).lend (.cons (Imm.refn rfl hsl.symm) (.cons (Imm.refn rfl rfl) (.nil _))) ?_
        have ho : decide (srt p = pts a.length) = ordB p a.length := rfl
        rw [ho]
        cases ho' : ordB p a.length with
        | false =>
          try simp only [OpK_eq, HKv, take6, List.drop_zero, Int.cast_ofNat_Int, go_sem, ↓reduceIte, Nat.reduceEqDiff, Nat.reduceAdd, Nat.reduceMul, Nat.reduceLeDiff, Nat.reduceLT, Int.reduceLE, Int.reduceLT, reduceCtorEq]
          exact Kv.Fin.still (fl (by rw [okI, ho']; simp) _ _ ⟨rfl, rfl⟩)
        | true =>
          have hok : okI a b p = true := by rw [okI, ha', hb', ho', decide_eq_true hab]; rfl
          rw [hok]
          clear fl
          obtain ⟨hpl, hpr, _⟩ := ord_all ho'
          have hpx : ∀ i, i < a.length → 0 ≤ p.getD i 0 ∧ p.getD i 0 ≤ (a.length : Int) - 1 := fun i hi => by rw [getD_eq (by omega)]; exact hpr _ (List.getElem_mem _)
          try simp only [OpK_eq, HKv, take6, List.drop_zero, Int.cast_ofNat_Int, go_sem, ↓reduceIte, Nat.reduceEqDiff, Nat.reduceAdd, Nat.reduceMul, Nat.reduceLeDiff, Nat.reduceLT, Int.reduceLE, Int.reduceLT, reduceCtorEq]
          refine KL_freeze (env' := [(0, .list (rows a)), (1, .list (rows b)), (2, .list (ints p)), (36, .int .i64 a.length), (37, .int .i64 0)]) [0, 1, 2, 36, 37] rfl (by simp [keep]) (.cons Imm.still (.cons Imm.still (.cons Imm.still (.cons Imm.still (.cons Imm.still .nil))))) ?_
          refine KL_ind k11_b1.eq_1 (fun x : Nat => [(0, .list (rows a)), (1, .list (rows b)), (2, .list (ints p)), (36, .int .i64 a.length), (37, .int .i64 x)]) (fun _ => []) (fun x => x ≤ a.length ∧ (List.range x).all (isoR a b p) = true) (fun x => a.length - x) [0, 1, 2, 36, 37] 0 (by simp [keep]) rfl ⟨Nat.zero_le _, by simp⟩ fun x ⟨hx, hR⟩ ih => ?_
          try simp only [OpK_eq, HKv, take6, List.drop_zero, Int.cast_ofNat_Int, go_sem, ↓reduceIte, Nat.reduceEqDiff, Nat.reduceAdd, Nat.reduceMul, Nat.reduceLeDiff, Nat.reduceLT, Int.reduceLE, Int.reduceLT, reduceCtorEq]
          refine ⟨fun h2 => ?_, fun h2 => ?_⟩
          · have hxl : x < a.length := by omega
            refine KL_ind k11_b0.eq_1 (fun y : Nat => [(0, .list (rows a)), (1, .list (rows b)), (2, .list (ints p)), (8, .int .i64 x), (36, .int .i64 a.length), (37, .int .i64 x), (41, .int .i64 a.length), (42, .int .i64 y)]) (fun _ => []) (fun y => y ≤ a.length ∧ (List.range y).all (isoAt a b p x) = true) (fun y => a.length - y) [0, 1, 2, 8, 36, 37, 41, 42] 0 (by simp [keep]) rfl ⟨Nat.zero_le _, by simp⟩ fun y ⟨hy, hA⟩ ihy => ?_
            try simp only [OpK_eq, HKv, take6, List.drop_zero, Int.cast_ofNat_Int, go_sem, ↓reduceIte, Nat.reduceEqDiff, Nat.reduceAdd, Nat.reduceMul, Nat.reduceLeDiff, Nat.reduceLT, Int.reduceLE, Int.reduceLT, reduceCtorEq]
            refine ⟨fun h3 => ?_, fun h3 => ?_⟩
            · have hyl : y < a.length := by omega
              have t1 := tab_at ha' hxl hyl
              have p1 := hpx x hxl
              have p2 := hpx y hyl
              have t2 := tab_at hb' (i := (p.getD x 0).toNat) (j := (p.getD y 0).toNat) (by omega) (by omega)
              have s1 := hsa x hxl
              have s2 := hsb (p.getD x 0).toNat (by omega)
              have e1 : (a.getD x []).getD y 0 = tat a x y := rfl
              have e2 : (b.getD (p.getD x 0).toNat []).getD (p.getD y 0).toNat 0 = tat b (p.getD x 0).toNat (p.getD y 0).toNat := rfl
              have ed : isoAt a b p x y = decide (p.getD (tat a x y).toNat 0 = tat b (p.getD x 0).toNat (p.getD y 0).toNat) := rfl
              simp only [e1, e2, s1, s2]
              refine ⟨by omega, fun _ => ⟨by omega, fun _ => ⟨⟨t1.1, by omega⟩, fun _ => ⟨by omega, fun _ => ⟨⟨p1.1, by omega⟩, fun _ => ⟨by omega, fun _ => ⟨⟨p2.1, by omega⟩, fun _ => ⟨fun h4 => ?_, fun h4 => ⟨by omega, ?_⟩⟩⟩⟩⟩⟩⟩⟩⟩
              · refine Kv.Fin.still ⟨?_, rfl⟩
                have : isoB a b p = false := ra_false hxl (ra_false hyl (by rw [ed]; exact decide_eq_false h4))
                rw [this]
              · exact ihy (y + 1) ⟨by omega, ra_succ hA (by rw [ed]; exact decide_eq_true h4)⟩ (by omega) _ _ (by simp [keep]) rfl
            · obtain rfl : y = a.length := by omega
              exact ⟨by omega, ih (x + 1) ⟨by omega, ra_succ hR hA⟩ (by omega) _ _ (by simp [keep]) rfl⟩
          · obtain rfl : x = a.length := by omega
            refine Kv.Fin.still ⟨?_, rfl⟩
            rw [show isoB a b p = true from hR]
      · exact Kv.Fin.still (fl (by rw [okI, decide_eq_false (by omega : ¬ a.length = b.length)]; simp) _ _ ⟨rfl, rfl⟩)
theorem p12 (a b : List (List Int)) (p : List Int) (ha : a.length ≤ 1048576) (hla : ∀ r ∈ a, r.length ≤ 1048576) (hb : b.length ≤ 1048576) (hlb : ∀ r ∈ b, r.length ≤ 1048576) (hp : p.length ≤ 1048576) :
    Pure Tryz.prog 12 [.list (rows a), .list (rows b), .list (ints p)] (.tup [.bool (okI a b p && isoB a b p), .int .i64 (if okI a b p = true then 0 else 2)]) := by
  have fl : okI a b p = false → ∀ v s, (v = PV.tup [.bool false, .int .i64 2] ∧ s = []) → (v = PV.tup [.bool (okI a b p && isoB a b p), .int .i64 (if okI a b p = true then 0 else 2)] ∧ s = ([] : Heap)) := fun h v s hv => by rw [h]; exact hv
  refine e12 (by simp) fun _ _ => ?_
  simp only [k12, argEnv, take6, List.drop_zero, Int.cast_ofNat_Int, go_sem, ↓reduceIte, Nat.reduceEqDiff, Nat.reduceAdd, Nat.reduceMul, Nat.reduceLeDiff, Nat.reduceLT, Int.reduceLE, Int.reduceLT, reduceCtorEq]
  refine (p53 a ha hla).go ?_
  cases ha' : isTab a with
  | false =>
    try simp only [OpK_eq, HKv, take6, List.drop_zero, Int.cast_ofNat_Int, go_sem, ↓reduceIte, Nat.reduceEqDiff, Nat.reduceAdd, Nat.reduceMul, Nat.reduceLeDiff, Nat.reduceLT, Int.reduceLE, Int.reduceLT, reduceCtorEq]
    exact Kv.Fin.still (fl (by rw [okI, ha']; rfl) _ _ ⟨rfl, rfl⟩)
  | true =>
    try simp only [OpK_eq, HKv, take6, List.drop_zero, Int.cast_ofNat_Int, go_sem, ↓reduceIte, Nat.reduceEqDiff, Nat.reduceAdd, Nat.reduceMul, Nat.reduceLeDiff, Nat.reduceLT, Int.reduceLE, Int.reduceLT, reduceCtorEq]
    refine (p53 b hb hlb).go ?_
    cases hb' : isTab b with
    | false =>
      try simp only [OpK_eq, HKv, take6, List.drop_zero, Int.cast_ofNat_Int, go_sem, ↓reduceIte, Nat.reduceEqDiff, Nat.reduceAdd, Nat.reduceMul, Nat.reduceLeDiff, Nat.reduceLT, Int.reduceLE, Int.reduceLT, reduceCtorEq]
      exact Kv.Fin.still (fl (by rw [okI, ha', hb']; rfl) _ _ ⟨rfl, rfl⟩)
    | true =>
      try simp only [OpK_eq, HKv, take6, List.drop_zero, Int.cast_ofNat_Int, go_sem, ↓reduceIte, Nat.reduceEqDiff, Nat.reduceAdd, Nat.reduceMul, Nat.reduceLeDiff, Nat.reduceLT, Int.reduceLE, Int.reduceLT, reduceCtorEq]
      refine ⟨fun h1 => ?_, fun h1 => ?_⟩
      · have hab : a.length = b.length := by omega
        obtain ⟨hna, hsa⟩ := tab_sq ha'
        obtain ⟨hnb, hsb⟩ := tab_sq hb'
        refine (p63 p a.length hp (by omega)).go ?_
        cases ho' : ordB p a.length with
        | false =>
          try simp only [OpK_eq, HKv, take6, List.drop_zero, Int.cast_ofNat_Int, go_sem, ↓reduceIte, Nat.reduceEqDiff, Nat.reduceAdd, Nat.reduceMul, Nat.reduceLeDiff, Nat.reduceLT, Int.reduceLE, Int.reduceLT, reduceCtorEq]
          exact Kv.Fin.still (fl (by rw [okI, ho']; simp) _ _ ⟨rfl, rfl⟩)
        | true =>
          have hok : okI a b p = true := by rw [okI, ha', hb', ho', decide_eq_true hab]; rfl
          rw [hok]
          clear fl
          obtain ⟨hpl, hpr, _⟩ := ord_all ho'
          have hpx : ∀ i, i < a.length → 0 ≤ p.getD i 0 ∧ p.getD i 0 ≤ (a.length : Int) - 1 := fun i hi => by rw [getD_eq (by omega)]; exact hpr _ (List.getElem_mem _)
          try simp only [OpK_eq, HKv, take6, List.drop_zero, Int.cast_ofNat_Int, go_sem, ↓reduceIte, Nat.reduceEqDiff, Nat.reduceAdd, Nat.reduceMul, Nat.reduceLeDiff, Nat.reduceLT, Int.reduceLE, Int.reduceLT, reduceCtorEq]
          refine KL_ind k12_b1.eq_1 (fun x : Nat => [(0, .list (rows a)), (1, .list (rows b)), (2, .list (ints p)), (8, .int .i64 x)]) (fun _ => []) (fun x => x ≤ a.length ∧ (List.range x).all (isoR a b p) = true) (fun x => a.length - x) [0, 1, 2, 8] 0 (by simp [keep]) rfl ⟨Nat.zero_le _, by simp⟩ fun x ⟨hx, hR⟩ ih => ?_
          try simp only [OpK_eq, HKv, take6, List.drop_zero, Int.cast_ofNat_Int, go_sem, ↓reduceIte, Nat.reduceEqDiff, Nat.reduceAdd, Nat.reduceMul, Nat.reduceLeDiff, Nat.reduceLT, Int.reduceLE, Int.reduceLT, reduceCtorEq]
          refine ⟨fun h2 => ?_, fun h2 => ?_⟩
          · have hxl : x < a.length := by omega
            refine KL_ind k12_b0.eq_1 (fun y : Nat => [(0, .list (rows a)), (1, .list (rows b)), (2, .list (ints p)), (8, .int .i64 x), (9, .int .i64 y)]) (fun _ => []) (fun y => y ≤ a.length ∧ (List.range y).all (isoAt a b p x) = true) (fun y => a.length - y) [0, 1, 2, 8, 9] 0 (by simp [keep]) rfl ⟨Nat.zero_le _, by simp⟩ fun y ⟨hy, hA⟩ ihy => ?_
            try simp only [OpK_eq, HKv, take6, List.drop_zero, Int.cast_ofNat_Int, go_sem, ↓reduceIte, Nat.reduceEqDiff, Nat.reduceAdd, Nat.reduceMul, Nat.reduceLeDiff, Nat.reduceLT, Int.reduceLE, Int.reduceLT, reduceCtorEq]
            refine ⟨fun h3 => ?_, fun h3 => ?_⟩
            · have hyl : y < a.length := by omega
              have t1 := tab_at ha' hxl hyl
              have p1 := hpx x hxl
              have p2 := hpx y hyl
              have t2 := tab_at hb' (i := (p.getD x 0).toNat) (j := (p.getD y 0).toNat) (by omega) (by omega)
              have s1 := hsa x hxl
              have s2 := hsb (p.getD x 0).toNat (by omega)
              have e1 : (a.getD x []).getD y 0 = tat a x y := rfl
              have e2 : (b.getD (p.getD x 0).toNat []).getD (p.getD y 0).toNat 0 = tat b (p.getD x 0).toNat (p.getD y 0).toNat := rfl
              have ed : isoAt a b p x y = decide (p.getD (tat a x y).toNat 0 = tat b (p.getD x 0).toNat (p.getD y 0).toNat) := rfl
              simp only [e1, e2, s1, s2]
              refine ⟨by omega, fun _ => ⟨by omega, fun _ => ⟨⟨t1.1, by omega⟩, fun _ => ⟨by omega, fun _ => ⟨⟨p1.1, by omega⟩, fun _ => ⟨by omega, fun _ => ⟨⟨p2.1, by omega⟩, fun _ => ⟨fun h4 => ?_, fun h4 => ⟨by omega, ?_⟩⟩⟩⟩⟩⟩⟩⟩⟩
              · refine Kv.Fin.still ⟨?_, rfl⟩
                have : isoB a b p = false := ra_false hxl (ra_false hyl (by rw [ed]; exact decide_eq_false h4))
                rw [this]
              · exact ihy (y + 1) ⟨by omega, ra_succ hA (by rw [ed]; exact decide_eq_true h4)⟩ (by omega) _ _ (by simp [keep]) rfl
            · obtain rfl : y = a.length := by omega
              exact ⟨by omega, ih (x + 1) ⟨by omega, ra_succ hR hA⟩ (by omega) _ _ (by simp [keep]) rfl⟩
          · obtain rfl : x = a.length := by omega
            refine Kv.Fin.still ⟨?_, rfl⟩
            rw [show isoB a b p = true from hR]
      · exact Kv.Fin.still (fl (by rw [okI, decide_eq_false (by omega : ¬ a.length = b.length)]; simp) _ _ ⟨rfl, rfl⟩)
end Go.Proofs.YthbbjbfbeaiphaaGreat
end
section
/- Opposite tables: both sides. -/
namespace Go.Proofs.YthbbjbfbeaiphaaGreat
open Go.Kv
set_option linter.unusedVariables false
set_option linter.unusedSimpArgs false
attribute [local irreducible] ACall PCall KL
def colL (t : List (List Int)) (a x : Nat) : List Int := (List.range x).map fun b => tat t b a
@[simp] theorem colL_length (t : List (List Int)) (a x : Nat) : (colL t a x).length = x := by simp [colL]
def opp (t : List (List Int)) (x : Nat) : List (List Int) := (List.range x).map fun a => colL t a t.length
@[simp] theorem opp_length (t : List (List Int)) (x : Nat) : (opp t x).length = x := by simp [opp]
end Go.Proofs.YthbbjbfbeaiphaaGreat
end
section
/- Product tables: both sides. -/
namespace Go.Proofs.YthbbjbfbeaiphaaGreat
open Go.Kv
set_option maxRecDepth 100000
def k17_b0 : KC := (.seq (.ops [oP 41 (.bin .lss (.t 40) (.t 39))])
  (.seq (.cond (.t 41) .skip (.exit 3))
  (.seq (.block 4 (.seq (.ops [mV 42 40, mV 10 42])
  (.draw [mV 43 9, mV 44 6, mV 45 0, mV 46 8, mV 47 6, oP 48 (.bin .quo (.t 46) (.t 47)), oP 49 (.idxS 1 (.t 45) (.t 48)), oP 50 (.load false 1 (.t 49)), mV 51 10, mV 52 6, oP 53 (.bin .quo (.t 51) (.t 52)), oP 54 (.idxS 1 (.t 50) (.t 53)), oP 55 (.load false 1 (.t 54)), oP 56 (.bin .mul (.t 44) (.t 55)), mV 57 1, mV 58 8, mV 59 6, oP 60 (.bin .rem (.t 58) (.t 59)), oP 61 (.idxS 1 (.t 57) (.t 60)), oP 62 (.load false 1 (.t 61)), mV 63 10, mV 64 6, oP 65 (.bin .rem (.t 63) (.t 64)), oP 66 (.idxS 1 (.t 62) (.t 65)), oP 67 (.load false 1 (.t 66)), oP 68 (.bin .add (.t 56) (.t 67)), oP 69 (.bsl true 2 1 [(.t 68)]), oP 70 (.app (.t 43) (.t 69) 2 1), mV 9 70])))
  (.ops [oP 71 (.bin .add (.t 40) (iC 1)), mV 40 71]))))
def k17_b1 : KC := (.seq (.ops [oP 34 (.bin .lss (.t 33) (.t 32))])
  (.seq (.cond (.t 34) .skip (.exit 1))
  (.seq (.block 2 (.seq (.ops [mV 35 33, mV 8 35])
  (.seq (.ops [oP 9 (.mv (.c (.nils)))])
  (.seq (.seq (.ops [mV 36 0, oP 37 (.len false (.t 36)), mV 38 6, oP 39 (.bin .mul (.t 37) (.t 38)), oP 40 (.mv (iC 0))])
  (.block 3 (.loop k17_b0)))
  (.ops [mV 72 7, mV 73 9, oP 74 (.bsl true 27 1 [(.t 73)]), oP 75 (.app (.t 72) (.t 74) 27 1), mV 7 75])))))
  (.ops [oP 76 (.bin .add (.t 33) (iC 1)), mV 33 76]))))
def k17 : KC := (.seq (.ops [oP 4 (.mv (.c (.nils))), oP 5 (.mv (iC 0))])
  (.seq (.block 0 (.seq (.ops [mV 12 0, oP 13 (.call (fC 49) [(.t 12)]), oP 14 (.not (.t 13)), mV 15 14, ⟨(some 16), some (15, false), .mv (.t 1)⟩, ⟨(some 17), some (15, false), .call (fC 49) [(.t 16)]⟩, ⟨(some 18), some (15, false), .not (.t 17)⟩, oP 19 (.pick (.t 15) (.c (.bool true)) (.t 18)), mV 11 19])
  (.cond (.t 11) (.seq (.ops [oP 4 (.mv (.c (.nils))), oP 5 (.mv (iC 2))])
  .ret) (.seq (.ops [mV 21 0, oP 22 (.len false (.t 21)), mV 23 1, oP 24 (.len false (.t 23)), oP 25 (.bin .mul (.t 22) (.t 24)), oP 26 (.bin .gtr (.t 25) (iC 40)), mV 20 26])
  (.cond (.t 20) (.seq (.ops [oP 4 (.mv (.c (.nils))), oP 5 (.mv (iC 3))])
  .ret) .skip)))))
  (.seq (.ops [mV 27 1, oP 28 (.len false (.t 27)), mV 6 28])
  (.seq (.ops [oP 7 (.mv (.c (.nils)))])
  (.seq (.seq (.ops [mV 29 0, oP 30 (.len false (.t 29)), mV 31 6, oP 32 (.bin .mul (.t 30) (.t 31)), oP 33 (.mv (iC 0))])
  (.block 1 (.loop k17_b1)))
  (.seq (.ops [mV 77 7, mV 4 77, oP 5 (.mv (iC 0))])
  .ret))))))
theorem e17 : Ent 17 78 [69, 74] [.t 4, .t 5] k17 := ent Tryz.func17 (by kernel_rfl) (by kernel_rfl) (by kernel_rfl) (fun _ => by kernel_rfl) (by kernel_rfl)
def k18_b0 : KC := (.seq (.seq (.ops [mV 39 10, mV 40 0, oP 41 (.len false (.t 40)), mV 42 7, oP 43 (.bin .mul (.t 41) (.t 42)), oP 44 (.bin .lss (.t 39) (.t 43))])
  (.cond (.t 44) .skip (.exit 3)))
  (.seq (.block 4 (.draw [mV 47 9, mV 48 7, mV 49 0, mV 50 8, mV 51 7, oP 52 (.bin .quo (.t 50) (.t 51)), oP 53 (.idxS 1 (.t 49) (.t 52)), oP 54 (.load false 1 (.t 53)), mV 55 10, mV 56 7, oP 57 (.bin .quo (.t 55) (.t 56)), oP 58 (.idxS 1 (.t 54) (.t 57)), oP 59 (.load false 1 (.t 58)), oP 60 (.bin .mul (.t 48) (.t 59)), mV 61 1, mV 62 8, mV 63 7, oP 64 (.bin .rem (.t 62) (.t 63)), oP 65 (.idxS 1 (.t 61) (.t 64)), oP 66 (.load false 1 (.t 65)), mV 67 10, mV 68 7, oP 69 (.bin .rem (.t 67) (.t 68)), oP 70 (.idxS 1 (.t 66) (.t 69)), oP 71 (.load false 1 (.t 70)), oP 72 (.bin .add (.t 60) (.t 71)), oP 73 (.bsl true 2 1 [(.t 72)]), oP 74 (.app (.t 47) (.t 73) 2 1), mV 9 74]))
  (.ops [mV 45 10, oP 46 (.bin .add (.t 45) (iC 1)), mV 10 46])))
def k18_b1 : KC := (.seq (.seq (.ops [mV 30 8, mV 31 0, oP 32 (.len false (.t 31)), mV 33 7, oP 34 (.bin .mul (.t 32) (.t 33)), oP 35 (.bin .lss (.t 30) (.t 34))])
  (.cond (.t 35) .skip (.exit 1)))
  (.seq (.block 2 (.seq (.ops [oP 38 (.bsl false 2 1 []), mV 9 38])
  (.seq (.seq (.ops [oP 10 (.mv (iC 0))])
  (.block 3 (.loop k18_b0)))
  (.ops [mV 75 6, mV 76 9, oP 77 (.bsl true 27 1 [(.t 76)]), oP 78 (.app (.t 75) (.t 77) 27 1), mV 6 78]))))
  (.ops [mV 36 8, oP 37 (.bin .add (.t 36) (iC 1)), mV 8 37])))
def k18 : KC := (.seq (.ops [oP 4 (.mv (.c (.nils))), oP 5 (.mv (iC 0))])
  (.seq (.block 0 (.seq (.ops [mV 12 0, oP 13 (.call (fC 53) [(.t 12)]), oP 14 (.not (.t 13)), mV 15 14, ⟨(some 16), some (15, false), .mv (.t 1)⟩, ⟨(some 17), some (15, false), .call (fC 53) [(.t 16)]⟩, ⟨(some 18), some (15, false), .not (.t 17)⟩, oP 19 (.pick (.t 15) (.c (.bool true)) (.t 18)), mV 11 19])
  (.cond (.t 11) (.seq (.ops [oP 4 (.mv (.c (.nils))), oP 5 (.mv (iC 2))])
  .ret) (.seq (.ops [mV 21 0, oP 22 (.len false (.t 21)), mV 23 1, oP 24 (.len false (.t 23)), oP 25 (.bin .mul (.t 22) (.t 24)), oP 26 (.bin .gtr (.t 25) (iC 40)), mV 20 26])
  (.cond (.t 20) (.seq (.ops [oP 4 (.mv (.c (.nils))), oP 5 (.mv (iC 3))])
  .ret) .skip)))))
  (.seq (.ops [oP 27 (.bsl false 27 1 []), mV 28 1, oP 29 (.len false (.t 28)), mV 6 27, mV 7 29])
  (.seq (.seq (.ops [oP 8 (.mv (iC 0))])
  (.block 1 (.loop k18_b1)))
  (.seq (.ops [mV 79 6, mV 4 79, oP 5 (.mv (iC 0))])
  .ret)))))
theorem e18 : Ent 18 80 [73, 77] [.t 4, .t 5] k18 := ent Tryz.func18 (by kernel_rfl) (by kernel_rfl) (by kernel_rfl) (fun _ => by kernel_rfl) (by kernel_rfl)
end Go.Proofs.YthbbjbfbeaiphaaGreat
namespace Go.Proofs.YthbbjbfbeaiphaaGreat
open Go.Kv
set_option linter.unusedVariables false
set_option linter.unusedSimpArgs false
attribute [local irreducible] ACall PCall KL
def prw (a b : List (List Int)) (i x : Nat) : List Int := (List.range x).map fun k => (b.length : Int) * tat a (i / b.length) (k / b.length) + tat b (i % b.length) (k % b.length)
@[simp] theorem prw_length (a b : List (List Int)) (i x : Nat) : (prw a b i x).length = x := by simp [prw]
theorem prw_succ (a b : List (List Int)) (i x : Nat) : prw a b i x ++ [(b.length : Int) * tat a (i / b.length) (x / b.length) + tat b (i % b.length) (x % b.length)] = prw a b i (x + 1) := by simp [prw, List.range_succ]
def ptb (a b : List (List Int)) (x : Nat) : List (List Int) := (List.range x).map fun i => prw a b i (a.length * b.length)
@[simp] theorem ptb_length (a b : List (List Int)) (x : Nat) : (ptb a b x).length = x := by simp [ptb]
theorem ptb_succ (a b : List (List Int)) (x : Nat) : ptb a b x ++ [prw a b x (a.length * b.length)] = ptb a b (x + 1) := by simp [ptb, List.range_succ]
theorem tab_bound {t : List (List Int)} (h : isTab t = true) {i j : Nat} (hi : i < t.length) (hj : j < t.length) : 0 ≤ (t.getD i []).getD j 0 ∧ (t.getD i []).getD j 0 ≤ 39 := by
  have := tab_at h hi hj
  have h2 := (tab_sq h).1
  unfold tat at this
  omega
theorem p17_in (a b : List (List Int)) (ha : a.length ≤ 1048576) (hla : ∀ r ∈ a, r.length ≤ 1048576) (hb : b.length ≤ 1048576) (hlb : ∀ r ∈ b, r.length ≤ 1048576) (h : isTab a = true) (h' : isTab b = true) (hN : a.length * b.length ≤ 40) : NewTN Tryz.prog 17 [.list (rows a), .list (rows b)] 27 2 (ptb a b (a.length * b.length)) 0 := by
  obtain ⟨hna, hsa⟩ := tab_sq h
  obtain ⟨hnb, hsb⟩ := tab_sq h'
  have hNi : (a.length : Int) * (b.length : Int) = ((a.length * b.length : Nat) : Int) := by simp
  have hgt : ¬ (40 : Int) < ((a.length * b.length : Nat) : Int) := by omega
  have hpos : 0 < a.length * b.length := Nat.mul_pos (by omega) (by omega)
  unfold NewTN
  refine e17 (by simp) fun _ _ => ?_
  simp only [k17, argEnv, take6, List.drop_zero, Int.cast_ofNat_Int, go_sem, ↓reduceIte, Nat.reduceEqDiff, Nat.reduceAdd, Nat.reduceMul, Nat.reduceLeDiff, Nat.reduceLT, Int.reduceLE, Int.reduceLT, reduceCtorEq]
  refine (p49 a ha hla).go ?_
  rw [h]
  try simp only [take6, List.drop_zero, Int.cast_ofNat_Int, go_sem, ↓reduceIte, Nat.reduceEqDiff, Nat.reduceAdd, Nat.reduceMul, Nat.reduceLeDiff, Nat.reduceLT, Int.reduceLE, Int.reduceLT, reduceCtorEq]
  refine (p49 b hb hlb).go ?_
  rw [h']
  try simp only [hNi, hgt, take6, List.drop_zero, Int.cast_ofNat_Int, go_sem, ↓reduceIte, Nat.reduceEqDiff, Nat.reduceAdd, Nat.reduceMul, Nat.reduceLeDiff, Nat.reduceLT, Int.reduceLE, Int.reduceLT, reduceCtorEq]
  generalize hM : a.length * b.length = M at *
  have hpb : ∀ x, ptb a b x = (List.range x).map fun i => prw a b i M := fun x => by simp [ptb, hM]
  repeat' (first | refine And.intro ?_ ?_ | intro _)
  all_goals (try omega)
  refine KL_ind k17_b1.eq_1 (fun x : Nat × PV × Heap => [(0, .list (rows a)), (1, .list (rows b)), (6, .int .i64 b.length), (7, x.2.1), (32, .int .i64 M), (33, .int .i64 x.1)]) (fun x => x.2.2) (fun x => x.1 ≤ M ∧ TabN 27 2 x.2.2 x.2.1 (ptb a b x.1) ∧ Free x.2.2) (fun x => M - x.1) [0, 1, 6, 7, 32, 33] (0, .nils, []) (by rfl) (by rfl) ⟨Nat.zero_le _, .nil, .nil⟩ fun ⟨x, v, σ⟩ ⟨hx, hT, hf⟩ ih => ?_
  simp only at hx hT hf
  try simp only [hNi, take6, List.drop_zero, Int.cast_ofNat_Int, go_sem, ↓reduceIte, Nat.reduceEqDiff, Nat.reduceAdd, Nat.reduceMul, Nat.reduceLeDiff, Nat.reduceLT, Int.reduceLE, Int.reduceLT, reduceCtorEq]
  refine ⟨fun h1 => ?_, fun h1 => ?_⟩
  · refine ⟨by omega, ?_⟩
    refine KL_ind k17_b0.eq_1 (fun y : Nat => [(0, .list (rows a)), (1, .list (rows b)), (6, .int .i64 b.length), (7, v), (8, .int .i64 x), (9, nref σ.length y), (32, .int .i64 M), (33, .int .i64 x), (39, .int .i64 M), (40, .int .i64 y)]) (fun y => σ ++ nhp [.arr (y - 1) 2 1 (ints (prw a b x y))] y) (fun y => y ≤ M) (fun y => M - y) [0, 1, 6, 7, 8, 9, 32, 33, 39, 40] 0 (by rfl) (by simp [nhp]) (Nat.zero_le _) fun y hy ihy => ?_
    have hnew := hp_new (rfl : σ.length = σ.length)
    have hset := hp_setn (rfl : σ.length = σ.length)
    have d1 : (x : Int) / (b.length : Int) = ((x / b.length : Nat) : Int) := by simp
    have d2 : (y : Int) / (b.length : Int) = ((y / b.length : Nat) : Int) := by simp
    have d3 : (x : Int) % (b.length : Int) = ((x % b.length : Nat) : Int) := by simp
    have d4 : (y : Int) % (b.length : Int) = ((y % b.length : Nat) : Int) := by simp
    try simp only [d1, d2, d3, d4, List.append_nil, take6, List.drop_zero, Int.cast_ofNat_Int, go_sem, ↓reduceIte, Nat.reduceEqDiff, Nat.reduceAdd, Nat.reduceMul, Nat.reduceLeDiff, Nat.reduceLT, Int.reduceLE, Int.reduceLT, reduceCtorEq]
    refine ⟨fun h2 => ?_, fun h2 => ?_⟩
    · have q1 : x / b.length < a.length := Nat.div_lt_of_lt_mul (by rw [Nat.mul_comm, hM]; omega)
      have q2 : y / b.length < a.length := Nat.div_lt_of_lt_mul (by rw [Nat.mul_comm, hM]; omega)
      have q3 : x % b.length < b.length := Nat.mod_lt _ (by omega)
      have q4 : y % b.length < b.length := Nat.mod_lt _ (by omega)
      have s1 := hsa _ q1
      have s2 := hsb _ q3
      have b1 := tab_bound h q1 q2
      have b2 := tab_bound h' q3 q4
      have b3 : 0 ≤ (b.length : Int) * (a.getD (x / b.length) []).getD (y / b.length) 0 ∧ (b.length : Int) * (a.getD (x / b.length) []).getD (y / b.length) 0 ≤ 40 * 39 := ⟨Int.mul_nonneg (by omega) b1.1, Int.mul_le_mul (by omega) b1.2 b1.1 (by omega)⟩
      have hps := prw_succ a b x y
      unfold tat at hps
      rw [s1, s2]
      clear d1 d2 d3 d4 hNi
      generalize (b.length : Int) * (a.getD (x / b.length) []).getD (y / b.length) 0 = z at *
      generalize x / b.length = xd at *
      generalize y / b.length = yd at *
      generalize x % b.length = xm at *
      generalize y % b.length = ym at *
      refine ⟨by omega, by omega, by omega, fun _ => ⟨by omega, by omega, by omega, fun _ => ⟨by omega, by omega, by omega, fun _ => ⟨by omega, by omega, fun _ => ⟨by omega, ?_⟩⟩⟩⟩⟩
      rcases y with _ | y
      · try simp only [List.append_nil, take6, List.drop_zero, Int.cast_ofNat_Int, go_sem, ↓reduceIte, Nat.reduceEqDiff, Nat.reduceAdd, Nat.reduceMul, Nat.reduceLeDiff, Nat.reduceLT, Int.reduceLE, Int.reduceLT, reduceCtorEq]
        repeat' (first | refine And.intro ?_ ?_ | intro _)
        all_goals (try omega)
        refine ihy 1 (by omega) (by omega) _ _ (by rfl) ?_
        rw [← hps]
        rfl
      · have hl := prw_length a b x (y + 1)
        have hnw : ∀ o, (σ ++ [o])[σ.length]? = some o := hnew
        try simp only [hnew, hset, hl, take6, List.drop_zero, Int.cast_ofNat_Int, go_sem, ↓reduceIte, Nat.reduceEqDiff, Nat.reduceAdd, Nat.reduceMul, Nat.reduceLeDiff, Nat.reduceLT, Int.reduceLE, Int.reduceLT, reduceCtorEq]
        repeat' (first | refine And.intro ?_ ?_ | intro _)
        all_goals (try omega)
        refine ihy (y + 1 + 1) (by omega) (by omega) _ _ (by rfl) ?_
        rw [List.take_of_length_le (by omega), hps]
        rfl
    · obtain rfl : y = M := by omega
      rw [nref_pos (by omega), nhp_pos (by omega)]
      try simp only [OpK_eq, take6, List.drop_zero, Int.cast_ofNat_Int, go_sem, ↓reduceIte, Nat.reduceEqDiff, Nat.reduceAdd, Nat.reduceMul, Nat.reduceLeDiff, Nat.reduceLT, Int.reduceLE, Int.reduceLT, reduceCtorEq]
      refine hT.pushRow hf (prw a b x y) (by simp) (by simp; omega) fun v' σ' hT' hf' => ?_
      try simp only [OpK_eq, take6, List.drop_zero, Int.cast_ofNat_Int, go_sem, ↓reduceIte, Nat.reduceEqDiff, Nat.reduceAdd, Nat.reduceMul, Nat.reduceLeDiff, Nat.reduceLT, Int.reduceLE, Int.reduceLT, reduceCtorEq]
      repeat' (first | refine And.intro ?_ ?_ | intro _)
      all_goals (try omega)
      refine ih (x + 1, v', σ') ⟨by show x + 1 ≤ y; omega, ?_, hf'⟩ (by show y - (x + 1) < y - x; omega) _ _ (by rfl) rfl
      rw [← hM] at hT'
      rw [← ptb_succ]; exact hT'
  · obtain rfl : x = M := by omega
    try simp only [OpK_eq, take6, List.drop_zero, Int.cast_ofNat_Int, go_sem, ↓reduceIte, Nat.reduceEqDiff, Nat.reduceAdd, Nat.reduceMul, Nat.reduceLeDiff, Nat.reduceLT, Int.reduceLE, Int.reduceLT, reduceCtorEq]
    exact Kv.Fin.now ⟨v, rfl, hT, hf⟩
theorem p18_in (a b : List (List Int)) (ha : a.length ≤ 1048576) (hla : ∀ r ∈ a, r.length ≤ 1048576) (hb : b.length ≤ 1048576) (hlb : ∀ r ∈ b, r.length ≤ 1048576) (h : isTab a = true) (h' : isTab b = true) (hN : a.length * b.length ≤ 40) : Pure Tryz.prog 18 [.list (rows a), .list (rows b)] (.tup [.list (rows (ptb a b (a.length * b.length))), .int .i64 0]) := by
  obtain ⟨hna, hsa⟩ := tab_sq h
  obtain ⟨hnb, hsb⟩ := tab_sq h'
  have hNi : (a.length : Int) * (b.length : Int) = ((a.length * b.length : Nat) : Int) := by simp
  have hgt : ¬ (40 : Int) < ((a.length * b.length : Nat) : Int) := by omega
  have hpos : 0 < a.length * b.length := Nat.mul_pos (by omega) (by omega)
  refine e18 (by simp) fun _ _ => ?_
  simp only [k18, argEnv, take6, List.drop_zero, Int.cast_ofNat_Int, go_sem, ↓reduceIte, Nat.reduceEqDiff, Nat.reduceAdd, Nat.reduceMul, Nat.reduceLeDiff, Nat.reduceLT, Int.reduceLE, Int.reduceLT, reduceCtorEq]
  refine (p53 a ha hla).go ?_
  rw [h]
  try simp only [take6, List.drop_zero, Int.cast_ofNat_Int, go_sem, ↓reduceIte, Nat.reduceEqDiff, Nat.reduceAdd, Nat.reduceMul, Nat.reduceLeDiff, Nat.reduceLT, Int.reduceLE, Int.reduceLT, reduceCtorEq]
  refine (p53 b hb hlb).go ?_
  rw [h']
  try simp only [hNi, hgt, take6, List.drop_zero, Int.cast_ofNat_Int, go_sem, ↓reduceIte, Nat.reduceEqDiff, Nat.reduceAdd, Nat.reduceMul, Nat.reduceLeDiff, Nat.reduceLT, Int.reduceLE, Int.reduceLT, reduceCtorEq]
  generalize hM : a.length * b.length = M at *
  have hpb : ∀ x, ptb a b x = (List.range x).map fun i => prw a b i M := fun x => by simp [ptb, hM]
  repeat' (first | refine And.intro ?_ ?_ | intro _)
  all_goals (try omega)
  refine KL_ind k18_b1.eq_1 (fun x : Nat × PV × Heap => [(0, .list (rows a)), (1, .list (rows b)), (6, x.2.1), (7, .int .i64 b.length), (8, .int .i64 x.1)]) (fun x => x.2.2) (fun x => x.1 ≤ M ∧ TabN 27 2 x.2.2 x.2.1 (ptb a b x.1) ∧ Free x.2.2) (fun x => M - x.1) [0, 1, 6, 7, 8] (0, .ref 0 0 0 0, [.arr 0 27 1 []]) (by rfl) (by rfl) ⟨Nat.zero_le _, .empty, .empty _ _ _⟩ fun ⟨x, v, σ⟩ ⟨hx, hT, hf⟩ ih => ?_
  simp only at hx hT hf
  try simp only [hNi, take6, List.drop_zero, Int.cast_ofNat_Int, go_sem, ↓reduceIte, Nat.reduceEqDiff, Nat.reduceAdd, Nat.reduceMul, Nat.reduceLeDiff, Nat.reduceLT, Int.reduceLE, Int.reduceLT, reduceCtorEq]
  refine ⟨by omega, fun h1 => ?_, fun h1 => ?_⟩
  · refine KL_ind k18_b0.eq_1 (fun y : Nat => [(0, .list (rows a)), (1, .list (rows b)), (6, v), (7, .int .i64 b.length), (8, .int .i64 x), (9, .ref σ.length y 0 y), (10, .int .i64 y)]) (fun y => σ ++ [.arr y 2 1 (ints (prw a b x y))]) (fun y => y ≤ M) (fun y => M - y) [0, 1, 6, 7, 8, 9, 10] 0 (by rfl) (by rfl) (Nat.zero_le _) fun y hy ihy => ?_
    have hnew := hp_new (rfl : σ.length = σ.length)
    have hset := hp_setn (rfl : σ.length = σ.length)
    have d1 : (x : Int) / (b.length : Int) = ((x / b.length : Nat) : Int) := by simp
    have d2 : (y : Int) / (b.length : Int) = ((y / b.length : Nat) : Int) := by simp
    have d3 : (x : Int) % (b.length : Int) = ((x % b.length : Nat) : Int) := by simp
    have d4 : (y : Int) % (b.length : Int) = ((y % b.length : Nat) : Int) := by simp
    try simp only [d1, d2, d3, d4, hNi, hnew, take6, List.drop_zero, Int.cast_ofNat_Int, go_sem, ↓reduceIte, Nat.reduceEqDiff, Nat.reduceAdd, Nat.reduceMul, Nat.reduceLeDiff, Nat.reduceLT, Int.reduceLE, Int.reduceLT, reduceCtorEq]
    refine ⟨by omega, fun h2 => ?_, fun h2 => ?_⟩
    · have q1 : x / b.length < a.length := Nat.div_lt_of_lt_mul (by rw [Nat.mul_comm, hM]; omega)
      have q2 : y / b.length < a.length := Nat.div_lt_of_lt_mul (by rw [Nat.mul_comm, hM]; omega)
      have q3 : x % b.length < b.length := Nat.mod_lt _ (by omega)
      have q4 : y % b.length < b.length := Nat.mod_lt _ (by omega)
      have s1 := hsa _ q1
      have s2 := hsb _ q3
      have b1 := tab_bound h q1 q2
      have b2 := tab_bound h' q3 q4
      have b3 : 0 ≤ (b.length : Int) * (a.getD (x / b.length) []).getD (y / b.length) 0 ∧ (b.length : Int) * (a.getD (x / b.length) []).getD (y / b.length) 0 ≤ 40 * 39 := ⟨Int.mul_nonneg (by omega) b1.1, Int.mul_le_mul (by omega) b1.2 b1.1 (by omega)⟩
      have hps := prw_succ a b x y
      unfold tat at hps
      rw [s1, s2]
      clear d1 d2 d3 d4 hNi
      generalize (b.length : Int) * (a.getD (x / b.length) []).getD (y / b.length) 0 = z at *
      generalize x / b.length = xd at *
      generalize y / b.length = yd at *
      generalize x % b.length = xm at *
      generalize y % b.length = ym at *
      refine ⟨by omega, by omega, by omega, fun _ => ⟨by omega, by omega, by omega, fun _ => ⟨by omega, by omega, by omega, fun _ => ⟨by omega, by omega, fun _ => ⟨by omega, ?_⟩⟩⟩⟩⟩
      have hl := prw_length a b x y
      try simp only [hnew, hset, hl, take6, List.drop_zero, Int.cast_ofNat_Int, go_sem, ↓reduceIte, Nat.reduceEqDiff, Nat.reduceAdd, Nat.reduceMul, Nat.reduceLeDiff, Nat.reduceLT, Int.reduceLE, Int.reduceLT, reduceCtorEq]
      repeat' (first | refine And.intro ?_ ?_ | intro _)
      all_goals (try omega)
      refine ihy (y + 1) (by omega) (by omega) _ _ (by rfl) ?_
      rw [List.take_of_length_le (by omega), hps]
    · obtain rfl : y = M := by omega
      try simp only [OpK_eq, take6, List.drop_zero, Int.cast_ofNat_Int, go_sem, ↓reduceIte, Nat.reduceEqDiff, Nat.reduceAdd, Nat.reduceMul, Nat.reduceLeDiff, Nat.reduceLT, Int.reduceLE, Int.reduceLT, reduceCtorEq]
      refine hT.pushRow hf (prw a b x y) (by simp) (by simp; omega) fun v' σ' hT' hf' => ?_
      try simp only [OpK_eq, take6, List.drop_zero, Int.cast_ofNat_Int, go_sem, ↓reduceIte, Nat.reduceEqDiff, Nat.reduceAdd, Nat.reduceMul, Nat.reduceLeDiff, Nat.reduceLT, Int.reduceLE, Int.reduceLT, reduceCtorEq]
      repeat' (first | refine And.intro ?_ ?_ | intro _)
      all_goals (try omega)
      refine ih (x + 1, v', σ') ⟨by show x + 1 ≤ y; omega, ?_, hf'⟩ (by show y - (x + 1) < y - x; omega) _ _ (by rfl) rfl
      rw [← hM] at hT'
      rw [← ptb_succ]; exact hT'
  · obtain rfl : x = M := by omega
    try simp only [OpK_eq, take6, List.drop_zero, Int.cast_ofNat_Int, go_sem, ↓reduceIte, Nat.reduceEqDiff, Nat.reduceAdd, Nat.reduceMul, Nat.reduceLeDiff, Nat.reduceLT, Int.reduceLE, Int.reduceLT, reduceCtorEq]
    rw [← hM] at hT ⊢
    exact hT.freeze ⟨rfl, rfl⟩
theorem p17_no (a b : List (List Int)) (ha : a.length ≤ 1048576) (hla : ∀ r ∈ a, r.length ≤ 1048576) (hb : b.length ≤ 1048576) (hlb : ∀ r ∈ b, r.length ≤ 1048576) (h : isTab a = false ∨ isTab b = false) : Pure Tryz.prog 17 [.list (rows a), .list (rows b)] (.tup [.nils, .int .i64 2]) := by
  refine e17 (by simp) fun _ _ => ?_
  simp only [k17, argEnv, take6, List.drop_zero, Int.cast_ofNat_Int, go_sem, ↓reduceIte, Nat.reduceEqDiff, Nat.reduceAdd, Nat.reduceMul, Nat.reduceLeDiff, Nat.reduceLT, Int.reduceLE, Int.reduceLT, reduceCtorEq]
  refine (p49 a ha hla).go ?_
  cases ha' : isTab a with
  | false =>
    try simp only [take6, List.drop_zero, Int.cast_ofNat_Int, go_sem, ↓reduceIte, Nat.reduceEqDiff, Nat.reduceAdd, Nat.reduceMul, Nat.reduceLeDiff, Nat.reduceLT, Int.reduceLE, Int.reduceLT, reduceCtorEq]
    exact Kv.Fin.still ⟨rfl, rfl⟩
  | true =>
    have hb' : isTab b = false := by rcases h with h | h <;> simp_all
    try simp only [take6, List.drop_zero, Int.cast_ofNat_Int, go_sem, ↓reduceIte, Nat.reduceEqDiff, Nat.reduceAdd, Nat.reduceMul, Nat.reduceLeDiff, Nat.reduceLT, Int.reduceLE, Int.reduceLT, reduceCtorEq]
    refine (p49 b hb hlb).go ?_
    rw [hb']
    try simp only [take6, List.drop_zero, Int.cast_ofNat_Int, go_sem, ↓reduceIte, Nat.reduceEqDiff, Nat.reduceAdd, Nat.reduceMul, Nat.reduceLeDiff, Nat.reduceLT, Int.reduceLE, Int.reduceLT, reduceCtorEq]
    exact Kv.Fin.still ⟨rfl, rfl⟩
theorem p17_big (a b : List (List Int)) (ha : a.length ≤ 1048576) (hla : ∀ r ∈ a, r.length ≤ 1048576) (hb : b.length ≤ 1048576) (hlb : ∀ r ∈ b, r.length ≤ 1048576) (h : isTab a = true) (h' : isTab b = true) (hN : ¬ a.length * b.length ≤ 40) : Pure Tryz.prog 17 [.list (rows a), .list (rows b)] (.tup [.nils, .int .i64 3]) := by
  obtain ⟨hna, hsa⟩ := tab_sq h
  obtain ⟨hnb, hsb⟩ := tab_sq h'
  have hNi : (a.length : Int) * (b.length : Int) = ((a.length * b.length : Nat) : Int) := by simp
  have hgt : (40 : Int) < ((a.length * b.length : Nat) : Int) := by omega
  have hle : a.length * b.length ≤ 40 * 40 := Nat.mul_le_mul hna.2 hnb.2
  refine e17 (by simp) fun _ _ => ?_
  simp only [k17, argEnv, take6, List.drop_zero, Int.cast_ofNat_Int, go_sem, ↓reduceIte, Nat.reduceEqDiff, Nat.reduceAdd, Nat.reduceMul, Nat.reduceLeDiff, Nat.reduceLT, Int.reduceLE, Int.reduceLT, reduceCtorEq]
  refine (p49 a ha hla).go ?_
  rw [h]
  try simp only [take6, List.drop_zero, Int.cast_ofNat_Int, go_sem, ↓reduceIte, Nat.reduceEqDiff, Nat.reduceAdd, Nat.reduceMul, Nat.reduceLeDiff, Nat.reduceLT, Int.reduceLE, Int.reduceLT, reduceCtorEq]
  refine (p49 b hb hlb).go ?_
  rw [h']
  try simp only [hNi, hgt, take6, List.drop_zero, Int.cast_ofNat_Int, go_sem, ↓reduceIte, Nat.reduceEqDiff, Nat.reduceAdd, Nat.reduceMul, Nat.reduceLeDiff, Nat.reduceLT, Int.reduceLE, Int.reduceLT, reduceCtorEq]
  generalize a.length * b.length = M at *
  repeat' (first | refine And.intro ?_ ?_ | intro _)
  all_goals (try omega)
  exact Kv.Fin.still ⟨rfl, rfl⟩
theorem p18_no (a b : List (List Int)) (ha : a.length ≤ 1048576) (hla : ∀ r ∈ a, r.length ≤ 1048576) (hb : b.length ≤ 1048576) (hlb : ∀ r ∈ b, r.length ≤ 1048576) (h : isTab a = false ∨ isTab b = false) : Pure Tryz.prog 18 [.list (rows a), .list (rows b)] (.tup [.nils, .int .i64 2]) := by
  refine e18 (by simp) fun _ _ => ?_
  simp only [k18, argEnv, take6, List.drop_zero, Int.cast_ofNat_Int, go_sem, ↓reduceIte, Nat.reduceEqDiff, Nat.reduceAdd, Nat.reduceMul, Nat.reduceLeDiff, Nat.reduceLT, Int.reduceLE, Int.reduceLT, reduceCtorEq]
  refine (p53 a ha hla).go ?_
  cases ha' : isTab a with
  | false =>
    try simp only [take6, List.drop_zero, Int.cast_ofNat_Int, go_sem, ↓reduceIte, Nat.reduceEqDiff, Nat.reduceAdd, Nat.reduceMul, Nat.reduceLeDiff, Nat.reduceLT, Int.reduceLE, Int.reduceLT, reduceCtorEq]
    exact Kv.Fin.still ⟨rfl, rfl⟩
  | true =>
    have hb' : isTab b = false := by rcases h with h | h <;> simp_all
    try simp only [take6, List.drop_zero, Int.cast_ofNat_Int, go_sem, ↓reduceIte, Nat.reduceEqDiff, Nat.reduceAdd, Nat.reduceMul, Nat.reduceLeDiff, Nat.reduceLT, Int.reduceLE, Int.reduceLT, reduceCtorEq]
    refine (p53 b hb hlb).go ?_
    rw [hb']
    try simp only [take6, List.drop_zero, Int.cast_ofNat_Int, go_sem, ↓reduceIte, Nat.reduceEqDiff, Nat.reduceAdd, Nat.reduceMul, Nat.reduceLeDiff, Nat.reduceLT, Int.reduceLE, Int.reduceLT, reduceCtorEq]
    exact Kv.Fin.still ⟨rfl, rfl⟩
theorem p18_big (a b : List (List Int)) (ha : a.length ≤ 1048576) (hla : ∀ r ∈ a, r.length ≤ 1048576) (hb : b.length ≤ 1048576) (hlb : ∀ r ∈ b, r.length ≤ 1048576) (h : isTab a = true) (h' : isTab b = true) (hN : ¬ a.length * b.length ≤ 40) : Pure Tryz.prog 18 [.list (rows a), .list (rows b)] (.tup [.nils, .int .i64 3]) := by
  obtain ⟨hna, hsa⟩ := tab_sq h
  obtain ⟨hnb, hsb⟩ := tab_sq h'
  have hNi : (a.length : Int) * (b.length : Int) = ((a.length * b.length : Nat) : Int) := by simp
  have hgt : (40 : Int) < ((a.length * b.length : Nat) : Int) := by omega
  have hle : a.length * b.length ≤ 40 * 40 := Nat.mul_le_mul hna.2 hnb.2
  refine e18 (by simp) fun _ _ => ?_
  simp only [k18, argEnv, take6, List.drop_zero, Int.cast_ofNat_Int, go_sem, ↓reduceIte, Nat.reduceEqDiff, Nat.reduceAdd, Nat.reduceMul, Nat.reduceLeDiff, Nat.reduceLT, Int.reduceLE, Int.reduceLT, reduceCtorEq]
  refine (p53 a ha hla).go ?_
  rw [h]
  try simp only [take6, List.drop_zero, Int.cast_ofNat_Int, go_sem, ↓reduceIte, Nat.reduceEqDiff, Nat.reduceAdd, Nat.reduceMul, Nat.reduceLeDiff, Nat.reduceLT, Int.reduceLE, Int.reduceLT, reduceCtorEq]
  refine (p53 b hb hlb).go ?_
  rw [h']
  try simp only [hNi, hgt, take6, List.drop_zero, Int.cast_ofNat_Int, go_sem, ↓reduceIte, Nat.reduceEqDiff, Nat.reduceAdd, Nat.reduceMul, Nat.reduceLeDiff, Nat.reduceLT, Int.reduceLE, Int.reduceLT, reduceCtorEq]
  generalize a.length * b.length = M at *
  repeat' (first | refine And.intro ?_ ?_ | intro _)
  all_goals (try omega)
  exact Kv.Fin.still ⟨rfl, rfl⟩
end Go.Proofs.YthbbjbfbeaiphaaGreat
end
section
/- Isomorphisms and product tables: plain laws. -/
namespace Go.Proofs.YthbbjbfbeaiphaaGreat
open Go.Kv
set_option linter.unusedVariables false
set_option linter.unusedSimpArgs false
attribute [local irreducible] ACall PCall KL
theorem comps_fit {a b : List (List Int)} : ∀ (d : Nat) (p : List Nat), fitA a b p → p.Nodup → (∀ x ∈ p, x < a.length) → ∀ q ∈ comps a b d p, fitA a b q ∧ q.Nodup ∧ ∀ x ∈ q, x < a.length
  | 0, p, h1, h2, h3, q, h => by
    simp [comps] at h
    subst h
    exact ⟨h1, h2, h3⟩
  | d + 1, p, h1, h2, h3, q, h => by
    simp only [comps, List.mem_flatten, List.mem_map] at h
    obtain ⟨l, ⟨x, hx, rfl⟩, h⟩ := h
    have hx := List.mem_range.1 hx
    split at h
    · rename_i hF
      have hf : Fits a b (p ++ [x]) := Classical.byContradiction fun hn => by rw [fitsB_false hn] at hF; cases hF
      obtain ⟨g1, g2⟩ := fits_snoc.1 hf
      refine comps_fit d _ g2 ?_ (fun y hy => ?_) q h
      · rw [List.nodup_append]
        exact ⟨h2, by simp, fun u hu v hv e => by rw [List.mem_singleton] at hv; subst hv; subst e; exact g1 hu⟩
      · rcases List.mem_append.1 hy with hy | hy
        · exact h3 y hy
        · rw [List.mem_singleton] at hy; subst hy; exact hx
    · simp at h
/-- What is found is an isomorphism. -/
theorem comps_iso {a b : List (List Int)} (ha : isTab a = true) (hb : isTab b = true) (hab : a.length = b.length) {q : List Nat} (h : q ∈ comps a b a.length []) : okI a b (toI q) = true ∧ isoB a b (toI q) = true := by
  obtain ⟨h1, h2, h3⟩ := comps_fit a.length [] (fitA_nil a b) (by simp) (by simp) q h
  have hl : q.length = a.length := by have := comps_len a.length [] q h; simpa using this
  have hord : ordB (toI q) a.length = true := by
    refine ord_true (by simp [hl]) (fun x hx => ?_) ?_
    · unfold toI at hx
      obtain ⟨y, hy, rfl⟩ := List.mem_map.1 hx
      have := h3 y hy
      omega
    · unfold toI
      rw [List.nodup_iff_pairwise_ne, List.pairwise_map]
      exact (List.nodup_iff_pairwise_ne.1 h2).imp fun hne e => hne (by omega)
  refine ⟨by rw [okI, ha, hb, hord, decide_eq_true hab]; rfl, ?_⟩
  unfold isoB
  rw [List.all_eq_true]
  intro x hx
  have hx := List.mem_range.1 hx
  unfold isoR
  rw [List.all_eq_true]
  intro y hy
  have hy := List.mem_range.1 hy
  have ht := tab_at ha hx hy
  have hf := h1 x y (by omega) (by omega) (by omega)
  unfold isoAt
  rw [toI_getD, toI_getD, toI_getD]
  exact decide_eq_true (by simpa using hf)
/-- A table has at least one symmetry. -/
theorem syc_pos {t : List (List Int)} (ht : isTab t = true) : ∀ (d k : Nat), k + d = t.length → 1 ≤ syc t d (List.range k)
  | 0, k, _ => by simp [syc]
  | d + 1, k, h => by
    have ih := syc_pos ht d (k + 1) (by omega)
    rw [List.range_succ] at ih
    have hg : ∀ i, i < k + 1 → (List.range k ++ [k]).getD i 0 = i := fun i hi => by
      rw [← List.range_succ]
      simp [List.getD_eq_getElem?_getD, hi]
    have hfit : fitsB t t (List.range k ++ [k]) = true := fitsB_true (fits_snoc.2 ⟨by simp, fun i j hi hj hlt => by
      simp only [List.length_append, List.length_range, List.length_cons, List.length_nil] at hi hj hlt
      have hta := tab_at ht (i := i) (j := j) (by omega) (by omega)
      rw [hg i (by omega), hg j (by omega), hg _ (by omega)]
      omega⟩)
    have key : ∀ x, k < x → 1 ≤ sycN t d (List.range k) x := fun x => by
      induction x with
      | zero => intro hx; omega
      | succ x ihx =>
        intro hx
        rw [sycN_succ]
        by_cases e : x = k
        · subst e
          rw [if_pos hfit]; omega
        · have := ihx (by omega); omega
    exact key t.length (by omega)
theorem idn_cases (t : List (List Int)) : (idn t < 0 ∧ ∀ e, e < t.length → okE t e t.length = false) ∨ ∃ e : Nat, e < t.length ∧ okE t e t.length = true ∧ idn t = e := by
  unfold idn idx
  cases hc : (List.range t.length).findIdx? (fun e => okE t e t.length) with
  | none =>
    refine .inl ⟨by simp, fun e he => ?_⟩
    have := List.findIdx?_eq_none_iff.1 hc e (List.mem_range.2 he)
    simpa using this
  | some i =>
    obtain ⟨a, b, _⟩ := List.findIdx?_eq_some_iff_getElem.1 hc
    simp only [List.getElem_range, List.length_range] at a b
    exact .inr ⟨i, a, b, rfl⟩
theorem okE_at {t : List (List Int)} {e : Nat} (h : okE t e t.length = true) {x : Nat} (hx : x < t.length) : tat t e x = x ∧ tat t x e = x := by
  unfold okE at h
  simp only [List.all_eq_true, List.mem_range, Bool.and_eq_true, decide_eq_true_eq] at h
  exact h x hx
theorem okE_of {t : List (List Int)} {e : Nat} (h : ∀ x, x < t.length → tat t e x = x ∧ tat t x e = x) : okE t e t.length = true := by
  unfold okE
  simp only [List.all_eq_true, List.mem_range, Bool.and_eq_true, decide_eq_true_eq]
  exact h
theorem idn_of {t : List (List Int)} {e : Nat} (he : e < t.length) (h : okE t e t.length = true) : idn t = e := by
  rcases idn_cases t with ⟨_, h2⟩ | ⟨f, hf, h2, h3⟩
  · rw [h2 e he] at h; cases h
  · have a := (okE_at h hf).1
    have b := (okE_at h2 he).2
    omega
theorem dm_uniq {m A B x y : Int} (hm : 0 < m) (hB : 0 ≤ B ∧ B < m) (hy : 0 ≤ y ∧ y < m) (h : m * A + B = m * x + y) : A = x ∧ B = y := by
  have h0 : A = x := by
    apply Classical.byContradiction
    intro hne
    rcases (by omega : A + 1 ≤ x ∨ x + 1 ≤ A) with g | g
    · have := Int.mul_le_mul_of_nonneg_left g (Int.le_of_lt hm)
      rw [Int.mul_add, Int.mul_one] at this
      omega
    · have := Int.mul_le_mul_of_nonneg_left g (Int.le_of_lt hm)
      rw [Int.mul_add, Int.mul_one] at this
      omega
  subst h0
  exact ⟨rfl, by omega⟩
theorem ptb_at {a b : List (List Int)} {i j : Nat} (hi : i < a.length * b.length) (hj : j < a.length * b.length) : tat (ptb a b (a.length * b.length)) i j = (b.length : Int) * tat a (i / b.length) (j / b.length) + tat b (i % b.length) (j % b.length) := by
  have e1 : (ptb a b (a.length * b.length)).getD i [] = prw a b i (a.length * b.length) := by simp [ptb, List.getD_eq_getElem?_getD, hi]
  have e2 : (prw a b i (a.length * b.length)).getD j 0 = (b.length : Int) * tat a (i / b.length) (j / b.length) + tat b (i % b.length) (j % b.length) := by simp [prw, List.getD_eq_getElem?_getD, hj]
  rw [← e2, ← e1]; rfl
theorem dm_lt {n m x y : Nat} (hx : x < n) (hy : y < m) : x * m + y < n * m := by
  have h1 : (x + 1) * m ≤ n * m := Nat.mul_le_mul_right m hx
  rw [Nat.add_mul, Nat.one_mul] at h1
  omega
theorem dm_div {m x y : Nat} (hy : y < m) : (x * m + y) / m = x ∧ (x * m + y) % m = y := by
  refine ⟨?_, ?_⟩
  · rw [Nat.add_comm, Nat.add_mul_div_right _ _ (by omega), Nat.div_eq_of_lt hy, Nat.zero_add]
  · rw [Nat.add_comm, Nat.add_mul_mod_self_right, Nat.mod_eq_of_lt hy]
theorem dm_bk {n m z : Nat} (hz : z < n * m) : z / m < n ∧ z % m < m := by
  have hm : 0 < m := by
    apply Nat.pos_of_ne_zero
    intro e
    subst e
    simp at hz
  exact ⟨Nat.div_lt_of_lt_mul (by rw [Nat.mul_comm]; exact hz), Nat.mod_lt _ hm⟩
theorem ptb_okE {a b : List (List Int)} (ha : isTab a = true) (hb : isTab b = true) {x y : Nat} (hx : x < a.length) (hy : y < b.length) :
    okE (ptb a b (a.length * b.length)) (x * b.length + y) (ptb a b (a.length * b.length)).length = true ↔ okE a x a.length = true ∧ okE b y b.length = true := by
  have hm : 0 < (b.length : Int) := by omega
  have hxy := dm_lt (n := a.length) hx hy
  have d1 := dm_div (x := x) hy
  constructor
  · intro h
    have key : ∀ u v, u < a.length → v < b.length → (tat a x u = u ∧ tat b y v = v) ∧ tat a u x = u ∧ tat b v y = v := fun u v hu hv => by
      have huv := dm_lt (n := a.length) hu hv
      have d2 := dm_div (x := u) hv
      obtain ⟨g1, g2⟩ := okE_at h (x := u * b.length + v) (by rw [ptb_length]; exact huv)
      rw [ptb_at hxy huv, d1.1, d1.2, d2.1, d2.2] at g1
      rw [ptb_at huv hxy, d1.1, d1.2, d2.1, d2.2] at g2
      have hc : ((u * b.length + v : Nat) : Int) = (b.length : Int) * u + v := by rw [Int.natCast_add, Int.natCast_mul, Int.mul_comm]
      rw [hc] at g1 g2
      have b1 := tab_at hb hy hv
      have b2 := tab_at hb hv hy
      exact ⟨dm_uniq hm (by omega) (by omega) g1, dm_uniq hm (by omega) (by omega) g2⟩
    exact ⟨okE_of fun u hu => ⟨(key u y hu hy).1.1, (key u y hu hy).2.1⟩, okE_of fun v hv => ⟨(key x v hx hv).1.2, (key x v hx hv).2.2⟩⟩
  · rintro ⟨h1, h2⟩
    refine okE_of fun z hz => ?_
    rw [ptb_length] at hz
    obtain ⟨z1, z2⟩ := dm_bk hz
    have hc : (b.length : Int) * ((z / b.length : Nat) : Int) + ((z % b.length : Nat) : Int) = z := by
      rw [← Int.natCast_mul, ← Int.natCast_add, Nat.div_add_mod]
    rw [ptb_at hxy hz, ptb_at hz hxy, d1.1, d1.2, (okE_at h1 z1).1, (okE_at h1 z1).2, (okE_at h2 z2).1, (okE_at h2 z2).2]
    exact ⟨hc, hc⟩
/-- Products have products of identities. -/
theorem pt_id {a b : List (List Int)} (ha : isTab a = true) (hb : isTab b = true) : (0 ≤ idn (ptb a b (a.length * b.length)) ↔ 0 ≤ idn a ∧ 0 ≤ idn b) ∧ (0 ≤ idn (ptb a b (a.length * b.length)) → idn (ptb a b (a.length * b.length)) = idn a * b.length + idn b) := by
  have hback : 0 ≤ idn (ptb a b (a.length * b.length)) → ∃ x y, x < a.length ∧ y < b.length ∧ okE a x a.length = true ∧ okE b y b.length = true := fun h => by
    rcases idn_cases (ptb a b (a.length * b.length)) with ⟨h1, _⟩ | ⟨e, he, h1, _⟩
    · omega
    · rw [ptb_length] at he
      obtain ⟨z1, z2⟩ := dm_bk he
      have hc : e / b.length * b.length + e % b.length = e := by rw [Nat.mul_comm, Nat.div_add_mod]
      rw [← hc] at h1
      obtain ⟨g1, g2⟩ := (ptb_okE ha hb z1 z2).1 h1
      exact ⟨_, _, z1, z2, g1, g2⟩
  have hfor : ∀ x y, x < a.length → y < b.length → okE a x a.length = true → okE b y b.length = true → idn (ptb a b (a.length * b.length)) = idn a * b.length + idn b ∧ idn a = x ∧ idn b = y := fun x y hx hy h1 h2 => by
    have e1 := idn_of hx h1
    have e2 := idn_of hy h2
    have h3 := (ptb_okE ha hb hx hy).2 ⟨h1, h2⟩
    have e3 := idn_of (by rw [ptb_length]; exact dm_lt hx hy) h3
    rw [e3, e1, e2]
    exact ⟨by rw [Int.natCast_add, Int.natCast_mul], rfl, rfl⟩
  have hall : ∀ x y, x < a.length → y < b.length → okE a x a.length = true → okE b y b.length = true → 0 ≤ idn (ptb a b (a.length * b.length)) := fun x y hx hy h1 h2 => by
    rw [idn_of (by rw [ptb_length]; exact dm_lt hx hy) ((ptb_okE ha hb hx hy).2 ⟨h1, h2⟩)]; omega
  refine ⟨⟨fun h => ?_, fun ⟨h1, h2⟩ => ?_⟩, fun h => ?_⟩
  · obtain ⟨x, y, hx, hy, g1, g2⟩ := hback h
    obtain ⟨_, e1, e2⟩ := hfor x y hx hy g1 g2
    omega
  · rcases idn_cases a with ⟨g, _⟩ | ⟨x, hx, g1, _⟩
    · omega
    rcases idn_cases b with ⟨g, _⟩ | ⟨y, hy, g2, _⟩
    · omega
    exact hall x y hx hy g1 g2
  · obtain ⟨x, y, hx, hy, g1, g2⟩ := hback h
    exact (hfor x y hx hy g1 g2).1
/-- A product table is a table. -/
theorem ptb_isTab {a b : List (List Int)} (ha : isTab a = true) (hb : isTab b = true) (hN : a.length * b.length ≤ 40) : isTab (ptb a b (a.length * b.length)) = true := by
  obtain ⟨hna, _⟩ := tab_sq ha
  obtain ⟨hnb, _⟩ := tab_sq hb
  have hpos : 0 < a.length * b.length := Nat.mul_pos (by omega) (by omega)
  have hrow : ∀ r ∈ ptb a b (a.length * b.length), rowOk (ptb a b (a.length * b.length)).length r = true := fun r hr => by
    rw [ptb_length]
    unfold ptb at hr
    obtain ⟨i, hi, rfl⟩ := List.mem_map.1 hr
    have hi := List.mem_range.1 hi
    rw [rowOk, Bool.and_eq_true, List.all_eq_true]
    refine ⟨decide_eq_true (prw_length _ _ _ _), fun z hz => decide_eq_true ?_⟩
    unfold prw at hz
    obtain ⟨j, hj, rfl⟩ := List.mem_map.1 hz
    have hj := List.mem_range.1 hj
    obtain ⟨i1, i2⟩ := dm_bk hi
    obtain ⟨j1, j2⟩ := dm_bk hj
    have b1 := tab_at ha i1 j1
    have b2 := tab_at hb i2 j2
    have h1 := Int.mul_nonneg (by omega : (0 : Int) ≤ b.length) b1.1
    have h2 := Int.mul_le_mul_of_nonneg_left b1.2 (by omega : (0 : Int) ≤ b.length)
    rw [Int.mul_sub, Int.mul_one] at h2
    have h3 : (b.length : Int) * (a.length : Int) = ((a.length * b.length : Nat) : Int) := by rw [Int.natCast_mul, Int.mul_comm]
    rw [h3] at h2
    omega
  unfold isTab
  rw [Bool.and_eq_true, List.all_eq_true]
  exact ⟨decide_eq_true (by rw [ptb_length]; omega), hrow⟩
end Go.Proofs.YthbbjbfbeaiphaaGreat
end
section
/- The arguments of a law, as abstract values: lists of numbers, of maps; a desk. -/
namespace Go.Kv
open Go.ChangeShapes
set_option linter.unusedVariables false
set_option linter.unusedSimpArgs false
variable {H : Type} {enc : TypeId × Value → H} {P : Program} {W : World} {sp : Nat → Bool} {held : Bool}
end Go.Kv
end
