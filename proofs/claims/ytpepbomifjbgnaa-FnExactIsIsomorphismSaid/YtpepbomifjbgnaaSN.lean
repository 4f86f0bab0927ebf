/- slices.Sort and slices.Sorted of numbers at whatever length, over abstract values. -/
import Derived.Test.YtpepbomifjbgnaaSM
import Derived.Test.YtpepbomifjbgnaaG6
namespace Go.Proofs.Ytpepbomifjbgnaa
open Go.Kv
set_option linter.unusedVariables false
set_option linter.unusedSimpArgs false
attribute [local irreducible] ACall PCall KL
theorem sort_any {σ : Heap} {id ver : Nat} {e : TypeId} {l : List Int} (hid : σ[id]? = some (.arr ver e 1 (ints l))) (hn : l.length ≤ 4294967296) {K : PV → Heap → Prop} (hK : ∀ r : List Int, r.Perm l → r.Pairwise (· ≤ ·) → K (.tup []) (σ.set id (.arr ver e 1 (ints r)))) :
    ACall Try.prog 96 [.ref id ver 0 l.length] σ K := by
  unfold ACall
  refine ⟨⟨Try.f96, Try.func96, by kernel_rfl, by kernel_rfl⟩, fun φ ι w vs hr ho => ?_⟩
  have hlt := (List.getElem?_eq_some_iff.1 hid).1
  have hltι : id < ι.length := by rw [ho.len]; exact hlt
  obtain ⟨l', hl⟩ : ∃ l, ι[id]? = some l := ⟨_, List.getElem?_eq_getElem hltι⟩
  have hobj := ho.obj id _ l' hid hl
  have hil : (ints l).length = l.length := by simp [ints]
  cases l' with
  | dead => exact hobj.elim
  | box b => exact hobj.elim
  | arr ver' e' esz u =>
    simp only [ObjOK] at hobj
    obtain ⟨rfl, rfl, rfl, _, ys, hrow, hrel, hok, hcl⟩ := hobj
    rw [flat_intsE] at hrel hok
    have hys : ys = l.map (Value.int .i64) := by
      apply List.ext_getElem?
      intro i
      rw [List.getElem?_map]
      by_cases h : i < l.length
      · have h1 : (ints l)[i]? = some (.int .i64 l[i]) := by simp [ints, h]
        obtain ⟨v, hv, hR⟩ := hrel.get h1
        rw [hv, hR.int_inv]; simp [h]
      · have := hrel.1
        rw [List.getElem?_eq_none (by rw [← this]; simpa [ints] using h), List.getElem?_eq_none (by omega)]; rfl
    subst hys
    rw [hil] at hrow
    obtain ⟨v0, hv0, r0⟩ := hr.get (i := 0) rfl
    have hset : ∀ u', u' = u → ι.set id (.arr ver e 1 u') = ι := fun u' hu => by
      subst hu
      have := (List.getElem?_eq_some_iff.1 hl).2
      rw [← this]; exact List.set_getElem_self _
    have ev : vs = [v0] := by
      have hvl := hr.1
      match vs, hvl, hv0 with
      | [a], _, h0 => simp only [List.getElem?_cons_zero, Option.some.injEq] at h0; rw [h0]
    subst ev
    cases r0 with
    | ref _ _ _ _ _ k e2 esz2 u2 hh ho' hk' hv' =>
      rw [hl] at hh
      cases hh
      rcases hv' rfl with ⟨g, n, cap, o, rfl, q1, q2, q3, q4⟩ | ⟨rfl, _, hz, q2⟩
      · rcases hrow.2 with ⟨hnil, _⟩ | ⟨g2, cap2, cur, heq, hg, hgb, c1, c2, c3, c4⟩
        · cases hnil
        cases heq
        obtain rfl := q4 rfl
        rw [Nat.sub_zero] at q2
        subst q2
        refine (sortI_world (cap := cap) hgb l hn (by simpa using c4)).mono ?_
        rintro en w' ⟨rfl, r, hp, hpw, ⟨cur', d1, d2, d3⟩, hoth, hsz, e1, e2, e3⟩
        have hrl := hp.length_eq
        have hw : ∀ b, b < w.heap.size → (KLoc.arr ver e 1 (.slice (some ⟨g, 0, none⟩) l.length cap)).block ≠ some b → w'.heap[b]? = w.heap[b]? := fun b hb hne => hoth b hb (fun e => hne (by rw [e]; rfl))
        have hob2 : ObjOK φ (ι.set id (.arr ver e 1 (.slice (some ⟨g, 0, none⟩) l.length cap))) w' (.arr ver e 1 (ints r)) (.arr ver e 1 (.slice (some ⟨g, 0, none⟩) l.length cap)) := by
          rw [hset _ rfl]
          refine ⟨rfl, rfl, rfl, by decide, r.map (Value.int .i64), ⟨by simp [ints], .inr ⟨g, cap, cur', by simp [ints, hrl], Nat.zero_le _, d1, by simpa [ints, hrl] using c1, c2, by rw [d2]; exact c3, by simpa [ints, hrl] using d3⟩⟩, ?_, ?_, fun x hx => ?_⟩
          · rw [flat_intsE]
            refine ⟨by simp [ints], fun i c v hc hv => ?_⟩
            obtain ⟨x, hx, rfl⟩ := ints_get hc
            rw [List.getElem?_map, hx] at hv
            simp only [Option.map_some, Option.some.injEq] at hv
            subst hv; exact .int _ _
          · rw [flat_intsE]; simp [ints, PV.ok]
          · simp only [ints, List.mem_map] at hx
            obtain ⟨y, _, rfl⟩ := hx; rfl
        obtain ⟨j1, j2⟩ := ho.upd hl (KLoc.le_refl _) hsz hw (fun b hb => .inl hb) (fun b hb => Nat.lt_of_lt_of_le (ho.lt id _ b hl hb) hsz) hob2
        exact ⟨.tup [], .tuple #[], φ, _, _, rfl, .tup [] [] rfl (by simp), Tr.upd _ hl j2 hsz hw (fun b hb => .inl hb) e1 e2 e3, j1, hK r hp hpw⟩
      · subst q2
        have h0 : l = [] := List.eq_nil_of_length_eq_zero hz
        subst h0
        have hcon := Go.Proofs.AnyM.slices_Sort_int_none sortInts none 0 w
        change Calls Try.prog 96 _ _ _ at hcon
        refine hcon.mono ?_
        rintro en w' ⟨rfl, rfl⟩
        have := hK [] (.refl _) .nil
        rw [hp_same hid] at this
        exact ⟨.tup [], .tuple #[], φ, ι, σ, rfl, .tup [] [] rfl (by simp), Tr.refl _ _ _ _, ho, this⟩
theorem sorted_any (l : List Int) (hl : l.length ≤ 1048576) (σ : Heap) (K : PV → Heap → Prop) (hK : ∀ r : List Int, r.Perm l → r.Pairwise (· ≤ ·) → K (.ref σ.length 0 0 l.length) (σ ++ [.arr 0 2 1 (ints r)])) :
    ACall Try.prog 48 [.fn (.func 97) [] [.fptr [.list (ints l)] 0]] σ K := by
  refine e48 (by simp) fun _ _ => ?_
  simp only [k48, argEnv, take6, List.drop_zero, Int.cast_ofNat_Int, go_sem, ↓reduceIte, Nat.reduceEqDiff, Nat.reduceAdd, Nat.reduceMul, Nat.reduceLeDiff, Nat.reduceLT, Int.reduceLE, Int.reduceLT, reduceCtorEq]
  refine p95 l hl σ _ ?_
  try simp only [OpK_eq, HKv, take6, List.drop_zero, Int.cast_ofNat_Int, go_sem, ↓reduceIte, Nat.reduceEqDiff, Nat.reduceAdd, Nat.reduceMul, Nat.reduceLeDiff, Nat.reduceLT, Int.reduceLE, Int.reduceLT, reduceCtorEq]
  refine sort_any (id := σ.length) (ver := 0) (e := 2) (l := l) (by simp) (by omega) fun r h1 h2 => ?_
  rw [List.set_append_right _ _ (Nat.le_refl _), Nat.sub_self]
  try simp only [OpK_eq, HKv, take6, List.drop_zero, Int.cast_ofNat_Int, go_sem, ↓reduceIte, Nat.reduceEqDiff, Nat.reduceAdd, Nat.reduceMul, Nat.reduceLeDiff, Nat.reduceLT, Int.reduceLE, Int.reduceLT, reduceCtorEq]
  exact Kv.Fin.now (hK r h1 h2)
end Go.Proofs.Ytpepbomifjbgnaa
