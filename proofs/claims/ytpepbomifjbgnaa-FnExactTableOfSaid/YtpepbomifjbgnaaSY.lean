/- slices.SortFunc at rows: over abstract values. -/
import Derived.Test.YtpepbomifjbgnaaSX
import Derived.Test.YtpepbomifjbgnaaCb
import Derived.Test.YtpepbomifjbgnaaFD
namespace Go.Proofs.Ytpepbomifjbgnaa
open Go.Kv
set_option linter.unusedVariables false
set_option linter.unusedSimpArgs false
attribute [local irreducible] ACall PCall KL
theorem flat_self {xs : List PV} (h : ∀ x ∈ xs, x.cs = [x]) : flat xs = xs := by
  induction xs with
  | nil => rfl
  | cons a l ih =>
    show a.cs ++ flat l = _
    rw [h a (by simp), ih fun x hx => h x (by simp [hx])]; rfl
theorem rel_row {φ : Frz} {w : World} {g : Nat} (hφ : ∀ b C, φ b = some C → b ≠ g ∧ ∃ e f, w.heap[b]? = some (.cells C e f)) {l : List Int} (h0 : l ≠ []) {v : Value} (h : Rel φ [] (.list (ints l)) v) :
    ∃ b o c, v = .slice (some ⟨b, o, none⟩) l.length c ∧ b ≠ g ∧ b < w.heap.size ∧ ∀ j, j < l.length → w.cell? ⟨b, o + j, none⟩ = some (.int .i64 (l[j]?.getD 0)) := by
  generalize hx : ints l = xs at h
  cases h with
  | list0 cap a => exact absurd (by cases l with | nil => rfl | cons => simp [ints] at hx) h0
  | listn => exact absurd (by cases l with | nil => rfl | cons => simp [ints] at hx) h0
  | list _ esz b o len cap C hl hc hb hsz g' hg h =>
    subst hx
    have hl : len = l.length := by rw [← hl]; simp [ints]
    subst hl
    obtain ⟨hbg, e, f, hw⟩ := hφ b C hb
    refine ⟨b, o, cap, rfl, hbg, heap_lt hw, fun j hj => ?_⟩
    have hj' : (ints l)[j]? = some (.int .i64 l[j]) := by simp [ints, hj]
    have he : esz = 1 := (hsz j _ hj').1.symm
    subst he
    have h1 := hg j _ 0 (.int .i64 l[j]) hj' rfl
    have h2 := (h j _ 0 (.int .i64 l[j]) hj' rfl).int_inv
    rw [h2] at h1
    simp only [World.cell?, hw]
    simpa [hj] using h1
theorem p80 {σ : Heap} {id ver : Nat} {e : TypeId} {xs jk : List PV} {ks : List (List Int)} (hid : σ[id]? = some (.arr ver e 1 (xs ++ jk))) (hln : ks.length = xs.length) (h0 : 0 < xs.length) (hn : xs.length ≤ 1000) (hcs : ∀ x ∈ xs, x.cs = [x]) (hks : ∀ k ∈ ks, k ≠ [] ∧ k.length ≤ 1000000)
    (hi : ∀ (i : Nat) x k, xs[i]? = some x → ks[i]? = some k → Imm (σ.set id .dead) x (.list (ints k))) {K : PV → Heap → Prop}
    (hK : ∀ p : List Nat, p.Perm (List.range xs.length) → p.Pairwise (fun a b => ¬ stc (ks.getD b []) (ks.getD a []) < 0) → K (.tup []) (σ.set id (.arr ver e 1 ((p.map fun i => xs.getD i .undef) ++ jk)))) :
    ACall Try.prog 80 [.ref id ver 0 xs.length, .fn (.func 81) [] []] σ K := by
  unfold ACall
  refine ⟨⟨Try.f80, Try.func80, by kernel_rfl, by kernel_rfl⟩, fun φ ι w vs hr ho => ?_⟩
  have hlt := (List.getElem?_eq_some_iff.1 hid).1
  have hltι : id < ι.length := by rw [ho.len]; exact hlt
  obtain ⟨l, hl⟩ : ∃ l, ι[id]? = some l := ⟨_, List.getElem?_eq_getElem hltι⟩
  have hobj := ho.obj id _ l hid hl
  cases l with
  | dead => exact hobj.elim
  | box b => exact hobj.elim
  | arr ver' e' esz u =>
    simp only [ObjOK] at hobj
    obtain ⟨rfl, rfl, rfl, _, ys, hrow, hrel, hok, hcl⟩ := hobj
    rw [flat_append, flat_self hcs] at hrel hok
    have hrel0 := hrel
    have hyl0 : xs.length ≤ ys.length := by have := hrel.1; rw [List.length_append] at this; omega
    replace hrel : RelL φ ι xs (ys.take xs.length) := by
      have := hrel.take xs.length
      rwa [List.take_left'] at this
      rfl
    have hrelj : RelL φ ι (flat jk) (ys.drop xs.length) := by
      have := hrel0.drop xs.length
      rwa [List.drop_left'] at this
      rfl
    have hok0 : xs.all PV.ok = true := by rw [List.all_append, Bool.and_eq_true] at hok; exact hok.1
    obtain ⟨zs, hzs⟩ : ∃ zs, zs = ys.take xs.length := ⟨_, rfl⟩
    rw [← hzs] at hrel
    obtain ⟨v0, hv0, r0⟩ := hr.get (i := 0) rfl
    obtain ⟨v1, hv1, r1⟩ := hr.get (i := 1) rfl
    obtain ⟨x, y, rfl, hx, hy⟩ := r1.fn_inv
    have ex : x = [] := List.eq_nil_of_length_eq_zero hx.1.symm
    have ey : y = [] := List.eq_nil_of_length_eq_zero hy.1.symm
    subst ex; subst ey
    cases r0 with
    | ref _ _ _ _ _ k e2 esz2 u2 hh ho' hk' hv' =>
      rw [hl] at hh
      cases hh
      rcases hv' rfl with ⟨g, n, cap, o, rfl, q1, q2, q3, q4⟩ | ⟨_, _, hz, _⟩
      rotate_left
      · omega
      rcases hrow.2 with ⟨hnil, _⟩ | ⟨g2, cap2, cur, heq, hg, hgb, c1, c2, c3, c4⟩
      · cases hnil
      cases heq
      obtain rfl := q4 rfl
      rw [Nat.sub_zero] at q2
      subst q2
      have hyl : zs.length = xs.length := hrel.1.symm
      have htot : ys.length = xs.length + jk.length := by have := hrow.1; rw [List.length_append] at this; omega
      have ev : vs = [.slice (some ⟨g, 0, none⟩) xs.length cap, .func (.func 81) #[] #[]] := by
        have hvl := hr.1
        match vs, hvl, hv0, hv1 with
        | [a, c], _, h0, h1 => simp only [List.getElem?_cons_zero, Option.some.injEq] at h0; simp only [List.getElem?_cons_succ, List.getElem?_cons_zero, Option.some.injEq] at h1; rw [h0, h1]
      subst ev
      let φ1 : Frz := fun b => if b = g then none else allFrz w b
      have hφ1 : ∀ b, φ1 b = if b = g then none else allFrz w b := fun b => rfl
      have hgφ : φ g = none := ho.nf id _ g hl rfl
      have hle : FLe φ φ1 := fun b C hb => by
        rw [hφ1, if_neg (fun hb2 => by rw [hb2, hgφ] at hb; cases hb)]
        exact allFrz_le ho b C hb
      have hd : HOK φ ι (σ.set id .dead) w := ⟨by simp [ho.len], ho.fz, ho.nf, ho.dis, ho.lt, fun j o' l' h1 h2 => by
        by_cases e : id = j
        · subst e; rw [List.getElem?_set_self hlt] at h1; cases h1; trivial
        · rw [List.getElem?_set_ne e] at h1; exact ho.obj j o' l' h1 h2⟩
      have hfr : ∀ b C, φ1 b = some C → b ≠ g ∧ ∃ e f, w.heap[b]? = some (.cells C e f) := fun b C hb => by
        rw [hφ1] at hb
        split at hb
        · cases hb
        · rename_i hbg; exact ⟨hbg, (allFrz_hok w).fz b C hb⟩
      have hel : ∀ i, i < zs.length → ∃ b o c, zs.getD i Go.undef = .slice (some ⟨b, o, none⟩) (ks.getD i []).length c ∧ b ≠ g ∧ b < w.heap.size ∧ (ks.getD i []).length ≤ 1000000 ∧ ∀ j, j < (ks.getD i []).length → w.cell? ⟨b, o + j, none⟩ = some (.int .i64 ((ks.getD i [])[j]?.getD 0)) := fun i hiy => by
        have hix : i < xs.length := by omega
        have hik : i < ks.length := by omega
        have e1 : zs.getD i Go.undef = zs[i] := by simp [List.getD_eq_getElem?_getD, hiy]
        have e2 : ks.getD i [] = ks[i] := by simp [List.getD_eq_getElem?_getD, hik]
        rw [e1, e2]
        have hR := hrel.2 i _ _ (List.getElem?_eq_getElem hix) (List.getElem?_eq_getElem hiy)
        have hI := hi i _ _ (List.getElem?_eq_getElem hix) (List.getElem?_eq_getElem hik)
        have hR2 := hI.rel hd hle (fun j o' l' b C e f h1 h2 h3 h4 h5 => by
          have hj : id ≠ j := fun e => by
            subst e; rw [List.getElem?_set_self hlt] at h1; cases h1; exact h2 rfl
          rw [hφ1, if_neg (fun hb => hj (ho.dis id j _ l' b hl h3 (by rw [hb]; rfl) h4))]
          exact allFrz_own h5) hR
        obtain ⟨hk0, hk1⟩ := hks _ (List.getElem_mem hik)
        obtain ⟨b, o, c, z1, z2, z3, z4⟩ := rel_row hfr hk0 hR2
        exact ⟨b, o, c, z1, z2, z3, hk1, z4⟩
      have hcur : cur.toList.take zs.length = zs := by
        rw [hyl, hzs, ← c4, List.take_take, List.length_append]
        congr 1; omega
      have hone : ∀ v ∈ zs, v.oneCell' = true := fun v hv => by
        obtain ⟨i, hiy, rfl⟩ := List.getElem_of_mem hv
        have hix : i < xs.length := by omega
        refine (hrel.2 i _ _ (List.getElem?_eq_getElem hix) (List.getElem?_eq_getElem hiy)).oneCell ?_
        exact List.all_eq_true.1 hok0 _ (List.getElem_mem hix)
      have hmain := sortRows_world (cap := cap) hgb zs (by omega) (by omega) hcur hone ks hel
      rw [hyl] at hmain
      refine hmain.mono ?_
      rintro en w' ⟨rfl, p, hp, hpw, ⟨cur', d1, d2, d3, d4⟩, hoth, hsz, e1, e2, e3⟩
      have hset : ι.set id (.arr ver e 1 (.slice (some ⟨g, 0, none⟩) (xs ++ jk).length cap)) = ι := by
        have := (List.getElem?_eq_some_iff.1 hl).2
        rw [← this]; exact List.set_getElem_self _
      have d3' : cur'.toList.take xs.length = p.map fun i => zs.getD i Go.undef := d3
      have d4' : cur'.toList.drop xs.length = cur.toList.drop xs.length := d4
      have hpl : p.length = xs.length := by simpa using hp.length_eq
      have hpx : ∀ i ∈ p, i < xs.length := fun i hi => by simpa using hp.mem_iff.1 hi
      have hxs' : ∀ x ∈ p.map (fun i => xs.getD i .undef), x ∈ xs := fun x hx => by
        obtain ⟨i, hi, rfl⟩ := List.mem_map.1 hx
        rw [List.getD_eq_getElem?_getD, List.getElem?_eq_getElem (hpx i hi)]
        exact List.getElem_mem _
      have hw : ∀ b, b < w.heap.size → (KLoc.arr ver e 1 (.slice (some ⟨g, 0, none⟩) (xs ++ jk).length cap)).block ≠ some b → w'.heap[b]? = w.heap[b]? := fun b hb hne => hoth b hb (fun e => hne (by rw [e]; rfl))
      have hob2 : ObjOK φ (ι.set id (.arr ver e 1 (.slice (some ⟨g, 0, none⟩) (xs ++ jk).length cap))) w' (.arr ver e 1 ((p.map fun i => xs.getD i .undef) ++ jk)) (.arr ver e 1 (.slice (some ⟨g, 0, none⟩) (xs ++ jk).length cap)) := by
        rw [hset]
        have hlen2 : ((p.map fun i => xs.getD i PV.undef) ++ jk).length = (xs ++ jk).length := by simp [hpl]
        refine ⟨rfl, rfl, rfl, by decide, (p.map fun i => zs.getD i Go.undef) ++ ys.drop xs.length, ⟨?_, .inr ⟨g, cap, cur', by rw [hlen2], Nat.zero_le _, d1, by rw [hlen2]; exact c1, c2, by rw [d2]; exact c3, ?_⟩⟩, ?_, ?_, fun x hx => ?_⟩
        · simp [hpl, htot]
        · rw [hlen2, List.length_append, Nat.mul_one, List.take_add, d3']
          congr 1
          rw [d4', ← c4, List.drop_take, List.length_append]
          congr 1; omega
        · rw [flat_append, flat_self fun x hx => hcs x (hxs' x hx)]
          refine RelL.append ⟨by simp, fun i c v hc hv => ?_⟩ hrelj
          rw [List.getElem?_map, Option.map_eq_some_iff] at hc hv
          obtain ⟨j, hj, rfl⟩ := hc
          obtain ⟨j', hj', rfl⟩ := hv
          rw [hj] at hj'; cases hj'
          have hjx := hpx j (List.mem_of_getElem? hj)
          have hjy : j < zs.length := by omega
          rw [List.getD_eq_getElem?_getD, List.getD_eq_getElem?_getD, List.getElem?_eq_getElem hjx, List.getElem?_eq_getElem hjy]
          exact hrel.2 j _ _ (List.getElem?_eq_getElem hjx) (List.getElem?_eq_getElem hjy)
        · rw [flat_append, flat_self fun x hx => hcs x (hxs' x hx), List.all_append, Bool.and_eq_true]
          rw [List.all_append, Bool.and_eq_true] at hok
          exact ⟨List.all_eq_true.2 fun x hx => List.all_eq_true.1 hok0 x (hxs' x hx), hok.2⟩
        · rcases List.mem_append.1 hx with hx | hx
          · exact hcl x (List.mem_append.2 (.inl (hxs' x hx)))
          · exact hcl x (List.mem_append.2 (.inr hx))
      obtain ⟨j1, j2⟩ := ho.upd hl (KLoc.le_refl _) hsz hw (fun b hb => .inl hb) (fun b hb => Nat.lt_of_lt_of_le (ho.lt id _ b hl hb) hsz) hob2
      exact ⟨.tup [], .tuple #[], φ, _, _, rfl, .tup [] [] rfl (by simp), Tr.upd _ hl j2 hsz hw (fun b hb => .inl hb) e1 e2 e3, j1, hK p hp hpw⟩
end Go.Proofs.Ytpepbomifjbgnaa
