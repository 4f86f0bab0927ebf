/- slices.SortFunc of maps, over abstract values. -/
import Derived.Test.YtpepbomifjbgnaaNA
import Derived.Test.YtpepbomifjbgnaaSY
import Derived.Test.YtpepbomifjbgnaaG6
namespace Go.Proofs.Ytpepbomifjbgnaa
open Go.Kv
set_option linter.unusedVariables false
set_option linter.unusedSimpArgs false
attribute [local irreducible] ACall PCall KL
theorem rel_intsV {φ : Frz} {ι : List KLoc} {L : List Int} {ys : List Value} (h : RelL φ ι (ints L) ys) : ys = L.map (Value.int .i64) := by
  apply List.ext_getElem?
  intro i
  rw [List.getElem?_map]
  by_cases hi : i < L.length
  · have h1 : (ints L)[i]? = some (.int .i64 L[i]) := by simp [ints, hi]
    obtain ⟨v, hv, hR⟩ := h.get h1
    rw [hv, hR.int_inv]; simp [hi]
  · have := h.1
    rw [List.getElem?_eq_none (by rw [← this]; simpa [ints] using hi), List.getElem?_eq_none (by omega)]; rfl
theorem intsV_rel {φ : Frz} {ι : List KLoc} (L : List Int) : RelL φ ι (ints L) (L.map (Value.int .i64)) :=
  ⟨by simp [ints], fun i c v hc hv => by
    obtain ⟨x, hx, rfl⟩ := ints_get hc
    rw [List.getElem?_map, hx] at hv
    simp only [Option.map_some, Option.some.injEq] at hv
    subst hv; exact .int _ _⟩
theorem flat_aggsI : ∀ ms : List (List Int), flat (aggs ms) = ints ms.flatten
  | [] => rfl
  | m :: ms => by
    have := flat_aggsI ms
    simp only [aggs, List.map_cons, flat_cons, PV.cs, List.flatten_cons, ints, List.map_append] at this ⊢
    rw [this]
theorem e6_flat : ∀ ds : List M6, ds.flatMap e6 = ((ds.map Subtype.val).flatten).map (Value.int .i64)
  | [] => rfl
  | d :: ds => by
    rw [List.flatMap_cons, e6_flat ds, List.map_cons, List.flatten_cons, List.map_append]; rfl
theorem m6_of : ∀ ms : List (List Int), (∀ m ∈ ms, m.length = 6) → ∃ ds : List M6, ds.map Subtype.val = ms
  | [], _ => ⟨[], rfl⟩
  | m :: ms, h => by
    obtain ⟨ds, hd⟩ := m6_of ms fun x hx => h x (List.mem_cons_of_mem _ hx)
    exact ⟨⟨m, h m (by simp)⟩ :: ds, by rw [List.map_cons, hd]⟩
theorem sort_maps {σ : Heap} {id ver : Nat} {e : TypeId} {ms : List (List Int)} (h6 : ∀ m ∈ ms, m.length = 6) (h0 : 0 < ms.length) (hn : ms.length ≤ 1000) (hid : σ[id]? = some (.arr ver e 6 (aggs ms))) {K : PV → Heap → Prop}
    (hK : ∀ r : List (List Int), r.Perm ms → r.Pairwise (fun a b => slc a b ≤ 0) → K (.tup []) (σ.set id (.arr ver e 6 (aggs r)))) :
    ACall Try.prog 148 [.ref id ver 0 ms.length, .fn (.func 149) [] []] σ K := by
  unfold ACall
  refine ⟨⟨Try.f148, Try.func148, by kernel_rfl, by kernel_rfl⟩, fun φ ι w vs hr ho => ?_⟩
  obtain ⟨ds, hds⟩ := m6_of ms h6
  have hdl : ds.length = ms.length := by rw [← hds, List.length_map]
  have hlt := (List.getElem?_eq_some_iff.1 hid).1
  have hltι : id < ι.length := by rw [ho.len]; exact hlt
  obtain ⟨l, hl⟩ : ∃ l, ι[id]? = some l := ⟨_, List.getElem?_eq_getElem hltι⟩
  have hobj := ho.obj id _ l hid hl
  have hal : (aggs ms).length = ms.length := aggs_length ms
  cases l with
  | dead => exact hobj.elim
  | box b => exact hobj.elim
  | arr ver' e' esz u =>
    simp only [ObjOK] at hobj
    obtain ⟨rfl, rfl, rfl, _, ys, hrow, hrel, hok, hcl⟩ := hobj
    rw [flat_aggsI] at hrel hok
    have hys := rel_intsV hrel
    rw [← hds, ← e6_flat] at hys
    subst hys
    rw [hal] at hrow
    obtain ⟨v0, hv0, r0⟩ := hr.get (i := 0) rfl
    obtain ⟨v1, hv1, r1⟩ := hr.get (i := 1) rfl
    obtain ⟨x, y, rfl, hx, hy⟩ := r1.fn_inv
    have ex : x = [] := List.eq_nil_of_length_eq_zero hx.1.symm
    have ey : y = [] := List.eq_nil_of_length_eq_zero hy.1.symm
    subst ex; subst ey
    have hset : ∀ u', u' = u → ι.set id (.arr ver e 6 u') = ι := fun u' hu => by
      subst hu
      have := (List.getElem?_eq_some_iff.1 hl).2
      rw [← this]; exact List.set_getElem_self _
    cases r0 with
    | ref _ _ _ _ _ k e2 esz2 u2 hh ho' hk' hv' =>
      rw [hl] at hh
      cases hh
      rcases hv' rfl with ⟨g, n, cap, o, rfl, q1, q2, q3, q4⟩ | ⟨_, _, hz, _⟩
      rotate_left
      · omega
      rcases hrow.2 with ⟨hnil, _⟩ | ⟨g2, cap2, cur, heq, hg, hgb, c1, c2, c3, c4⟩
      · cases hnil
      cases heq
      obtain rfl := q4 rfl
      rw [Nat.sub_zero] at q2
      subst q2
      have ev : vs = [.slice (some ⟨g, 0, none⟩) ms.length cap, .func (.func 149) #[] #[]] := by
        have hvl := hr.1
        match vs, hvl, hv0, hv1 with
        | [a, c], _, h0, h1 => simp only [List.getElem?_cons_zero, Option.some.injEq] at h0; simp only [List.getElem?_cons_succ, List.getElem?_cons_zero, Option.some.injEq] at h1; rw [h0, h1]
      subst ev
      have hmain := sortMaps_world (cap := cap) hgb ds (by omega) (by rw [hdl]; exact c4)
      rw [hdl] at hmain
      refine hmain.mono ?_
      rintro en w' ⟨rfl, r, hp, hpw, ⟨cur', d1, d2, d3, d4⟩, hoth, hsz, e1, e2, e3⟩
      have hrl : (r.map Subtype.val).length = ms.length := by rw [List.length_map, hp.length_eq, hdl]
      have hr6 : ∀ m ∈ r.map Subtype.val, m.length = 6 := fun m hm => by
        obtain ⟨x, _, rfl⟩ := List.mem_map.1 hm
        exact x.2
      have hw : ∀ b, b < w.heap.size → (KLoc.arr ver e 6 (.slice (some ⟨g, 0, none⟩) ms.length cap)).block ≠ some b → w'.heap[b]? = w.heap[b]? := fun b hb hne => hoth b hb (fun e => hne (by rw [e]; rfl))
      have hob2 : ObjOK φ (ι.set id (.arr ver e 6 (.slice (some ⟨g, 0, none⟩) ms.length cap))) w' (.arr ver e 6 (aggs (r.map Subtype.val))) (.arr ver e 6 (.slice (some ⟨g, 0, none⟩) ms.length cap)) := by
        rw [hset _ rfl]
        refine ⟨rfl, rfl, rfl, by decide, r.flatMap e6, ⟨?_, .inr ⟨g, cap, cur', by rw [aggs_length, hrl], Nat.zero_le _, d1, by rw [aggs_length, hrl]; exact c1, c2, by rw [d2]; exact c3, by rw [aggs_length, hrl]; exact d3⟩⟩, ?_, ?_, fun x hx => ?_⟩
        · rw [aggs_length, hrl, ← d3, List.length_take]
          have : ms.length * 6 ≤ cur'.size := by rw [d2, c3]; exact Nat.mul_le_mul_right 6 c1
          simp only [Array.length_toList]; omega
        · rw [flat_aggsI, e6_flat]
          exact intsV_rel _
        · rw [flat_aggsI]; simp [ints, PV.ok]
        · simp only [aggs, List.mem_map] at hx
          obtain ⟨y, ⟨z, _, rfl⟩, rfl⟩ := hx
          show (ints z.1).length = 6
          rw [ints_length, z.2]
      obtain ⟨j1, j2⟩ := ho.upd hl (KLoc.le_refl _) hsz hw (fun b hb => .inl hb) (fun b hb => Nat.lt_of_lt_of_le (ho.lt id _ b hl hb) hsz) hob2
      refine ⟨.tup [], .tuple #[], φ, _, _, rfl, .tup [] [] rfl (by simp), Tr.upd _ hl j2 hsz hw (fun b hb => .inl hb) e1 e2 e3, j1, hK _ ?_ ?_⟩
      · rw [← hds]; exact hp.map _
      · exact List.pairwise_map.2 hpw
end Go.Proofs.Ytpepbomifjbgnaa
