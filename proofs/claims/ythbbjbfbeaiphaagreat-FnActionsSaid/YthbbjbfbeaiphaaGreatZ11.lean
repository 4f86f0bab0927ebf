/- Several texts of this session as one, less what the claim does not need. -/
import Derived.Test.YthbbjbfbeaiphaaGreatZ10
import Derived.Test.YthbbjbfbeaiphaaGreatCb
import Derived.Test.YthbbjbfbeaiphaaGreatZ5
import Derived.Test.YthbbjbfbeaiphaaGreatZ6
import Derived.Test.YthbbjbfbeaiphaaGreatZ9
import Derived.Test.YthbbjbfbeaiphaaGreatZ8
section
namespace Go.Proofs.YthbbjbfbeaiphaaGreat
open Go.Kv
set_option linter.unusedVariables false
set_option linter.unusedSimpArgs false
attribute [local irreducible] ACall PCall KL
theorem flat_self {xs : List PV} (h : ∀ x ∈ xs, x.cs = [x]) : flat xs = xs := by
 induction xs with
 | nil => rfl
 | cons a l ih =>
  show a.cs ++ flat l = _
  rw [h a (by simp), ih fun x hx => h x (by simp [hx])]; rfl
theorem rel_row {φ : Frz} {w : World} {g : Nat} (hφ : ∀ b C, φ b = some C → b ≠ g ∧ ∃ e f, w.heap[b]? = some (.cells C e f)) {l : List Int} (h0 : l ≠ []) {v : Value} (h : Rel φ [] (.list (ints l)) v) :
  ∃ b o c, v = .slice (some ⟨b, o, none⟩) l.length c ∧ b ≠ g ∧ b < w.heap.size ∧ ∀ j, j < l.length → w.cell? ⟨b, o + j, none⟩ = some (.int .i64 (l[j]?.getD 0)) := by
 generalize hx : ints l = xs at h
 cases h with
 | list0 cap a => exact absurd (by cases l with | nil => rfl | cons => simp [ints] at hx) h0
 | listn => exact absurd (by cases l with | nil => rfl | cons => simp [ints] at hx) h0
 | list _ esz b o len cap C hl hc hb hsz g' hg h =>
  subst hx
  have hl : len = l.length := by rw [← hl]; simp [ints]
  subst hl
  obtain ⟨hbg, e, f, hw⟩ := hφ b C hb
  refine ⟨b, o, cap, rfl, hbg, heap_lt hw, fun j hj => ?_⟩
  have hj' : (ints l)[j]? = some (.int .i64 l[j]) := by simp [ints, hj]
  have he : esz = 1 := (hsz j _ hj').1.symm
  subst he
  have h1 := hg j _ 0 (.int .i64 l[j]) hj' rfl
  have h2 := (h j _ 0 (.int .i64 l[j]) hj' rfl).int_inv
  rw [h2] at h1
  simp only [World.cell?, hw]
  simpa [hj] using h1
theorem p93 {σ : Heap} {id ver : Nat} {e : TypeId} {xs jk : List PV} {ks : List (List Int)} (hid : σ[id]? = some (.arr ver e 1 (xs ++ jk))) (hln : ks.length = xs.length) (h0 : 0 < xs.length) (hn : xs.length ≤ 1000) (hcs : ∀ x ∈ xs, x.cs = [x]) (hks : ∀ k ∈ ks, k ≠ [] ∧ k.length ≤ 1000000)
  (hi : ∀ (i : Nat) x k, xs[i]? = some x → ks[i]? = some k → Imm (σ.set id .dead) x (.list (ints k))) {K : PV → Heap → Prop}
  (hK : ∀ p : List Nat, p.Perm (List.range xs.length) → p.Pairwise (fun a b => ¬ stc (ks.getD b []) (ks.getD a []) < 0) → K (.tup []) (σ.set id (.arr ver e 1 ((p.map fun i => xs.getD i .undef) ++ jk)))) :
  ACall Tryz.prog 93 [.ref id ver 0 xs.length, .fn (.func 94) [] []] σ K := by
 unfold ACall
 refine ⟨⟨Tryz.f93, Tryz.func93, by kernel_rfl, by kernel_rfl⟩, fun φ ι w vs hr ho => ?_⟩
 have hlt := (List.getElem?_eq_some_iff.1 hid).1
 have hltι : id < ι.length := by rw [ho.len]; exact hlt
 obtain ⟨l, hl⟩ : ∃ l, ι[id]? = some l := ⟨_, List.getElem?_eq_getElem hltι⟩
 have hobj := ho.obj id _ l hid hl
 cases l with
 | dead => exact hobj.elim
 | box b => exact hobj.elim
 | arr ver' e' esz u =>
  simp only [ObjOK] at hobj
  obtain ⟨rfl, rfl, rfl, _, ys, hrow, hrel, hok, hcl⟩ := hobj
  rw [flat_append, flat_self hcs] at hrel hok
  have hrel0 := hrel
  have hyl0 : xs.length ≤ ys.length := by have := hrel.1; rw [List.length_append] at this; omega
  replace hrel : RelL φ ι xs (ys.take xs.length) := by
   have := hrel.take xs.length
   rwa [List.take_left'] at this
   rfl
  have hrelj : RelL φ ι (flat jk) (ys.drop xs.length) := by
   have := hrel0.drop xs.length
   rwa [List.drop_left'] at this
   rfl
  have hok0 : xs.all PV.ok = true := by rw [List.all_append, Bool.and_eq_true] at hok; exact hok.1
  obtain ⟨zs, hzs⟩ : ∃ zs, zs = ys.take xs.length := ⟨_, rfl⟩
  rw [← hzs] at hrel
  obtain ⟨v0, hv0, r0⟩ := hr.get (i := 0) rfl
  obtain ⟨v1, hv1, r1⟩ := hr.get (i := 1) rfl
  obtain ⟨x, y, rfl, hx, hy⟩ := r1.fn_inv
  have ex : x = [] := List.eq_nil_of_length_eq_zero hx.1.symm
  have ey : y = [] := List.eq_nil_of_length_eq_zero hy.1.symm
  subst ex; subst ey
  cases r0 with
  | ref _ _ _ _ _ k e2 esz2 u2 hh ho' hk' hv' =>
   rw [hl] at hh
   cases hh
   rcases hv' rfl with ⟨g, n, cap, o, rfl, q1, q2, q3, q4⟩ | ⟨_, _, hz, _⟩
   rotate_left
   ·omega
   rcases hrow.2 with ⟨hnil, _⟩ | ⟨g2, cap2, cur, heq, hg, hgb, c1, c2, c3, c4⟩
   ·cases hnil
   cases heq
   obtain rfl := q4 rfl
   rw [Nat.sub_zero] at q2
   subst q2
   have hyl : zs.length = xs.length := hrel.1.symm
   have htot : ys.length = xs.length + jk.length := by have := hrow.1; rw [List.length_append] at this; omega
   have ev : vs = [.slice (some ⟨g, 0, none⟩) xs.length cap, .func (.func 94) #[] #[]] := by
    have hvl := hr.1
    match vs, hvl, hv0, hv1 with
    | [a, c], _, h0, h1 => simp only [List.getElem?_cons_zero, Option.some.injEq] at h0; simp only [List.getElem?_cons_succ, List.getElem?_cons_zero, Option.some.injEq] at h1; rw [h0, h1]
   subst ev
   let φ1 : Frz := fun b => if b = g then none else allFrz w b
   have hφ1 : ∀ b, φ1 b = if b = g then none else allFrz w b := fun b => rfl
   have hgφ : φ g = none := ho.nf id _ g hl rfl
   have hle : FLe φ φ1 := fun b C hb => by
    rw [hφ1, if_neg (fun hb2 => by rw [hb2, hgφ] at hb; cases hb)]
    exact allFrz_le ho b C hb
   have hd : HOK φ ι (σ.set id .dead) w := ⟨by simp [ho.len], ho.fz, ho.nf, ho.dis, ho.lt, fun j o' l' h1 h2 => by
    by_cases e : id = j
    ·subst e; rw [List.getElem?_set_self hlt] at h1; cases h1; trivial
    ·rw [List.getElem?_set_ne e] at h1; exact ho.obj j o' l' h1 h2⟩
   have hfr : ∀ b C, φ1 b = some C → b ≠ g ∧ ∃ e f, w.heap[b]? = some (.cells C e f) := fun b C hb => by
    rw [hφ1] at hb
    split at hb
    ·cases hb
    ·rename_i hbg; exact ⟨hbg, (allFrz_hok w).fz b C hb⟩
   have hel : ∀ i, i < zs.length → ∃ b o c, zs.getD i Go.undef = .slice (some ⟨b, o, none⟩) (ks.getD i []).length c ∧ b ≠ g ∧ b < w.heap.size ∧ (ks.getD i []).length ≤ 1000000 ∧ ∀ j, j < (ks.getD i []).length → w.cell? ⟨b, o + j, none⟩ = some (.int .i64 ((ks.getD i [])[j]?.getD 0)) := fun i hiy => by
    have hix : i < xs.length := by omega
    have hik : i < ks.length := by omega
    have e1 : zs.getD i Go.undef = zs[i] := by simp [List.getD_eq_getElem?_getD, hiy]
    have e2 : ks.getD i [] = ks[i] := by simp [List.getD_eq_getElem?_getD, hik]
    rw [e1, e2]
    have hR := hrel.2 i _ _ (List.getElem?_eq_getElem hix) (List.getElem?_eq_getElem hiy)
    have hI := hi i _ _ (List.getElem?_eq_getElem hix) (List.getElem?_eq_getElem hik)
    have hR2 := hI.rel hd hle (fun j o' l' b C e f h1 h2 h3 h4 h5 => by
     have hj : id ≠ j := fun e => by
      subst e; rw [List.getElem?_set_self hlt] at h1; cases h1; exact h2 rfl
     rw [hφ1, if_neg (fun hb => hj (ho.dis id j _ l' b hl h3 (by rw [hb]; rfl) h4))]
     exact allFrz_own h5) hR
    obtain ⟨hk0, hk1⟩ := hks _ (List.getElem_mem hik)
    obtain ⟨b, o, c, z1, z2, z3, z4⟩ := rel_row hfr hk0 hR2
    exact ⟨b, o, c, z1, z2, z3, hk1, z4⟩
   have hcur : cur.toList.take zs.length = zs := by
    rw [hyl, hzs, ← c4, List.take_take, List.length_append]
    congr 1; omega
   have hone : ∀ v ∈ zs, v.oneCell' = true := fun v hv => by
    obtain ⟨i, hiy, rfl⟩ := List.getElem_of_mem hv
    have hix : i < xs.length := by omega
    refine (hrel.2 i _ _ (List.getElem?_eq_getElem hix) (List.getElem?_eq_getElem hiy)).oneCell ?_
    exact List.all_eq_true.1 hok0 _ (List.getElem_mem hix)
   have hmain := sortRows_world (cap := cap) hgb zs (by omega) (by omega) hcur hone ks hel
   rw [hyl] at hmain
   refine hmain.mono ?_
   rintro en w' ⟨rfl, p, hp, hpw, ⟨cur', d1, d2, d3, d4⟩, hoth, hsz, e1, e2, e3⟩
   have hset : ι.set id (.arr ver e 1 (.slice (some ⟨g, 0, none⟩) (xs ++ jk).length cap)) = ι := by
    have := (List.getElem?_eq_some_iff.1 hl).2
    rw [← this]; exact List.set_getElem_self _
   have d3' : cur'.toList.take xs.length = p.map fun i => zs.getD i Go.undef := d3
   have d4' : cur'.toList.drop xs.length = cur.toList.drop xs.length := d4
   have hpl : p.length = xs.length := by simpa using hp.length_eq
   have hpx : ∀ i ∈ p, i < xs.length := fun i hi => by simpa using hp.mem_iff.1 hi
   have hxs' : ∀ x ∈ p.map (fun i => xs.getD i .undef), x ∈ xs := fun x hx => by
    obtain ⟨i, hi, rfl⟩ := List.mem_map.1 hx
    rw [List.getD_eq_getElem?_getD, List.getElem?_eq_getElem (hpx i hi)]
    exact List.getElem_mem _
   have hw : ∀ b, b < w.heap.size → (KLoc.arr ver e 1 (.slice (some ⟨g, 0, none⟩) (xs ++ jk).length cap)).block ≠ some b → w'.heap[b]? = w.heap[b]? := fun b hb hne => hoth b hb (fun e => hne (by rw [e]; rfl))
   have hob2 : ObjOK φ (ι.set id (.arr ver e 1 (.slice (some ⟨g, 0, none⟩) (xs ++ jk).length cap))) w' (.arr ver e 1 ((p.map fun i => xs.getD i .undef) ++ jk)) (.arr ver e 1 (.slice (some ⟨g, 0, none⟩) (xs ++ jk).length cap)) := by
    rw [hset]
    have hlen2 : ((p.map fun i => xs.getD i PV.undef) ++ jk).length = (xs ++ jk).length := by simp [hpl]
    refine ⟨rfl, rfl, rfl, by decide, (p.map fun i => zs.getD i Go.undef) ++ ys.drop xs.length, ⟨?_, .inr ⟨g, cap, cur', by rw [hlen2], Nat.zero_le _, d1, by rw [hlen2]; exact c1, c2, by rw [d2]; exact c3, ?_⟩⟩, ?_, ?_, fun x hx => ?_⟩
    ·simp [hpl, htot]
    ·rw [hlen2, List.length_append, Nat.mul_one, List.take_add, d3']
     congr 1
     rw [d4', ← c4, List.drop_take, List.length_append]
     congr 1; omega
    ·rw [flat_append, flat_self fun x hx => hcs x (hxs' x hx)]
     refine RelL.append ⟨by simp, fun i c v hc hv => ?_⟩ hrelj
     rw [List.getElem?_map, Option.map_eq_some_iff] at hc hv
     obtain ⟨j, hj, rfl⟩ := hc
     obtain ⟨j', hj', rfl⟩ := hv
     rw [hj] at hj'; cases hj'
     have hjx := hpx j (List.mem_of_getElem? hj)
     have hjy : j < zs.length := by omega
     rw [List.getD_eq_getElem?_getD, List.getD_eq_getElem?_getD, List.getElem?_eq_getElem hjx, List.getElem?_eq_getElem hjy]
     exact hrel.2 j _ _ (List.getElem?_eq_getElem hjx) (List.getElem?_eq_getElem hjy)
    ·rw [flat_append, flat_self fun x hx => hcs x (hxs' x hx), List.all_append, Bool.and_eq_true]
     rw [List.all_append, Bool.and_eq_true] at hok
     exact ⟨List.all_eq_true.2 fun x hx => List.all_eq_true.1 hok0 x (hxs' x hx), hok.2⟩
    ·rcases List.mem_append.1 hx with hx | hx
     ·exact hcl x (List.mem_append.2 (.inl (hxs' x hx)))
     ·exact hcl x (List.mem_append.2 (.inr hx))
   obtain ⟨j1, j2⟩ := ho.upd hl (KLoc.le_refl _) hsz hw (fun b hb => .inl hb) (fun b hb => Nat.lt_of_lt_of_le (ho.lt id _ b hl hb) hsz) hob2
   exact ⟨.tup [], .tuple #[], φ, _, _, rfl, .tup [] [] rfl (by simp), Tr.upd _ hl j2 hsz hw (fun b hb => .inl hb) e1 e2 e3, j1, hK p hp hpw⟩
end Go.Proofs.YthbbjbfbeaiphaaGreat
end
section
namespace Go.Proofs.YthbbjbfbeaiphaaGreat
open Go.Kv
set_option linter.unusedVariables false
set_option linter.unusedSimpArgs false
attribute [local irreducible] ACall PCall KL
theorem getD_mem {α : Type} {l : List α} {i : Nat} (h : i < l.length) (d : α) : l.getD i d ∈ l := by
 rw [List.getD_eq_getElem?_getD, List.getElem?_eq_getElem h]; exact List.getElem_mem _
theorem getD_some {α : Type} {l : List α} {i : Nat} (h : i < l.length) (d : α) : l[i]? = some (l.getD i d) := by
 rw [List.getD_eq_getElem?_getD, List.getElem?_eq_getElem h]; rfl
theorem perm_map_range {α : Type} (l : List α) (d : α) {p : List Nat} (hp : p.Perm (List.range l.length)) : (p.map fun i => l.getD i d).Perm l := by
 refine (hp.map _).trans ?_
 have : (List.range l.length).map (fun i => l.getD i d) = l := by
  apply List.ext_getElem?
  intro i
  rw [List.getElem?_map]
  by_cases h : i < l.length
  ·rw [List.getElem?_range h]
   simp [h]
  ·rw [List.getElem?_eq_none (by simpa using h), List.getElem?_eq_none (by simpa using h)]; rfl
 rw [this]
theorem tab_sort {e2 e1 : TypeId} {σ : Heap} {v : PV} {t : List (List Int)} (hT : TabN e2 e1 σ v t) (hf : Free σ) (h0 : 0 < t.length) (hn : t.length ≤ 1000) (hl : ∀ l ∈ t, l ≠ [] ∧ l.length ≤ 1000000) {K : PV → Heap → Prop}
  (hK : ∀ t' s, TabN e2 e1 s v t' → t'.Perm t → t'.Pairwise (fun a b => stc a b ≤ 0) → Free s → s.length = σ.length → K (.tup []) s) : ACall Tryz.prog 93 [v, .fn (.func 94) [] []] σ K := by
 cases hT with
 | nil => simp at h0
 | tab id ver rs _ h =>
  obtain ⟨junk, ho⟩ := h.out
  have hpl := pvs_length h.len
  have hid := (List.getElem?_eq_some_iff.1 ho).1
  have hnn : ∀ (i : Nat) r l, rs[i]? = some r → t[i]? = some l → r.nil = false := fun i r l hr hl' => by
   cases hc : r.nil with
   | false => rfl
   | true => exact absurd ((h.row i r l hr hl').nl hc) (hl l (List.mem_of_getElem? hl')).1
  have hdead : ∀ j, id ≠ j → (σ.set id .dead)[j]? = σ[j]? := fun j hj => List.getElem?_set_ne hj
  rw [← hpl]
  refine p93 (ks := t) ho hpl.symm (by omega) (by omega) (fun x hx => ?_) hl (fun i x k hx hk => ?_) fun p hp hpw => ?_
  ·obtain ⟨i, hi, rfl⟩ := List.getElem_of_mem hx
   obtain ⟨r, l, hr, hl', e⟩ := pvs_get (List.getElem?_eq_getElem hi)
   rw [e, Rw.pv, if_neg (by rw [hnn i r l hr hl']; simp)]; rfl
  ·obtain ⟨r, l, hr, hl', rfl⟩ := pvs_get hx
   rw [hk] at hl'; cases hl'
   exact ((h.row i r k hr hk).keep fun hn => hdead _ (fun e => h.ni r (List.mem_of_getElem? hr) hn e.symm)).imm
  ·rw [hpl] at hp
   have hpi : ∀ i ∈ p, i < t.length := fun i hi => by simpa using hp.mem_iff.1 hi
   have hplen : p.length = t.length := by simpa using hp.length_eq
   have hnd : p.Nodup := hp.nodup_iff.2 List.nodup_range
   have ez : (p.map fun i => (pvs rs t).getD i .undef) = pvs (p.map fun i => rs.getD i ⟨true, 0, 0, [], []⟩) (p.map fun i => t.getD i []) := by
    unfold pvs
    rw [List.zipWith_map, List.zipWith_self]
    refine List.map_congr_left fun i hi => ?_
    have h1 := hpi i hi
    have h2 : i < rs.length := by rw [h.len]; exact h1
    simp [List.getD_eq_getElem?_getD, List.getElem?_zipWith, h1, h2]
   have hgr : ∀ (i : Nat) r, (p.map fun i => rs.getD i ⟨true, 0, 0, [], []⟩)[i]? = some r → ∃ j, p[i]? = some j ∧ rs[j]? = some r := fun i r hr => by
    rw [List.getElem?_map, Option.map_eq_some_iff] at hr
    obtain ⟨j, hj, rfl⟩ := hr
    exact ⟨j, hj, getD_some (by rw [h.len]; exact hpi j (List.mem_of_getElem? hj)) _⟩
   have hnew : TabG e2 e1 (σ.set id (.arr ver e2 1 ((p.map fun i => (pvs rs t).getD i .undef) ++ junk))) id ver (p.map fun i => rs.getD i ⟨true, 0, 0, [], []⟩) (p.map fun i => t.getD i []) := by
    refine ⟨⟨junk, by rw [List.getElem?_set_self hid, ez]⟩, by simp, fun i r l hr hl' => ?_, fun i j r q hr hq h1 h2 h3 => ?_, fun r hr hn => ?_⟩
    ·obtain ⟨j, hj, hr⟩ := hgr i r hr
     rw [List.getElem?_map, hj] at hl'
     simp only [Option.map_some, Option.some.injEq] at hl'
     subst hl'
     have hjt := hpi j (List.mem_of_getElem? hj)
     exact (h.row j r _ hr (getD_some hjt _)).keep fun hn => List.getElem?_set_ne (fun e => h.ni r (List.mem_of_getElem? hr) hn e.symm)
    ·obtain ⟨a, ha, hr⟩ := hgr i r hr
     obtain ⟨b, hb, hq⟩ := hgr j q hq
     have hab := h.nd a b r q hr hq h1 h2 h3
     subst hab
     have hpw2 := List.pairwise_iff_getElem.1 (List.nodup_iff_pairwise_ne.1 hnd)
     obtain ⟨hi1, hi2⟩ := List.getElem?_eq_some_iff.1 ha
     obtain ⟨hj1, hj2⟩ := List.getElem?_eq_some_iff.1 hb
     rcases Nat.lt_trichotomy i j with hlt | he | hlt
     ·exact absurd (hi2.trans hj2.symm) (hpw2 i j hi1 hj1 hlt)
     ·exact he
     ·exact absurd (hj2.trans hi2.symm) (hpw2 j i hj1 hi1 hlt)
    ·obtain ⟨i, hi⟩ := List.getElem?_of_mem hr
     obtain ⟨j, _, hr⟩ := hgr i r hi
     exact h.ni r (List.mem_of_getElem? hr) hn
   have hperm := perm_map_range t [] hp
   have hTn : TabN e2 e1 (σ.set id (.arr ver e2 1 ((p.map fun i => (pvs rs t).getD i .undef) ++ junk))) (.ref id ver 0 t.length) (p.map fun i => t.getD i []) := by
    have := TabN.tab id ver _ _ hnew
    rwa [show (p.map fun i => t.getD i []).length = t.length by rw [List.length_map, hplen]] at this
   refine hK _ _ hTn hperm ?_ (fun o ho' => ?_) (by simp)
   ·rw [List.pairwise_map]
    exact hpw.imp fun {a b} hab => by
     have := stc_anti (t.getD a []) (t.getD b [])
     omega
   ·rcases List.mem_or_eq_of_mem_set ho' with ho' | rfl
    ·exact hf o ho'
    ·have hold := hf _ (List.mem_of_getElem? ho)
     intro c hc
     refine hold c ?_
     rw [flat_append, List.mem_append] at hc ⊢
     rcases hc with hc | hc
     ·refine .inl ?_
      obtain ⟨x, hx, hcx⟩ := List.mem_flatMap.1 hc
      obtain ⟨i, hi, rfl⟩ := List.mem_map.1 hx
      exact List.mem_flatMap.2 ⟨_, getD_mem (by rw [hpl]; exact hpi i hi) _, hcx⟩
     ·exact .inr hc
end Go.Proofs.YthbbjbfbeaiphaaGreat
end
section
namespace Go.Proofs.YthbbjbfbeaiphaaGreat
open Go.Kv
set_option maxRecDepth 100000
def k150_b0 : KC := (.seq (.seq (.ops [mV 22 7, mV 23 5, oP 24 (.len false (.t 23)), oP 25 (.bin .lss (.t 22) (.t 24))])
 (.cond (.t 25) .skip (.exit 0)))
 (.seq (.block 1 (.seq (.draw [mV 28 5, mV 29 7, oP 30 (.idxS 1 (.t 28) (.t 29)), oP 31 (.load false 1 (.t 30)), mV 32 6, mV 33 7, oP 34 (.idxS 1 (.t 32) (.t 33)), oP 35 (.load false 1 (.t 34)), oP 36 (.bin .neq (.t 31) (.t 35))])
 (.cond (.t 36) (.seq (.draw [mV 37 5, mV 38 7, oP 39 (.idxS 1 (.t 37) (.t 38)), oP 40 (.load false 1 (.t 39)), mV 41 6, mV 42 7, oP 43 (.idxS 1 (.t 41) (.t 42)), oP 44 (.load false 1 (.t 43)), oP 45 (.bin .lss (.t 40) (.t 44)), mV 4 45])
 .ret) .skip)))
 (.ops [mV 26 7, oP 27 (.bin .add (.t 26) (iC 1)), mV 7 27])))
def k150 : KC := (.seq (.ops [oP 4 (.mv (.c (.bool false)))])
 (.seq (.ops [mV 8 0, oP 9 (.call (fC 83) [(.t 8)]), mV 10 1, oP 11 (.call (fC 83) [(.t 10)]), mV 5 9, mV 6 11])
 (.seq (.seq (.ops [mV 12 5, oP 13 (.len false (.t 12)), mV 14 6, oP 15 (.len false (.t 14)), oP 16 (.bin .neq (.t 13) (.t 15))])
 (.cond (.t 16) (.seq (.ops [mV 17 5, oP 18 (.len false (.t 17)), mV 19 6, oP 20 (.len false (.t 19)), oP 21 (.bin .lss (.t 18) (.t 20)), mV 4 21])
 .ret) .skip))
 (.seq (.seq (.ops [oP 7 (.mv (iC 0))])
 (.block 0 (.loop k150_b0)))
 (.seq (.ops [oP 4 (.mv (.c (.bool false)))])
 .ret)))))
theorem e150 : Ent 150 46 [] [.t 4] k150 := ent Tryz.func150 (by kernel_rfl) (by kernel_rfl) (by kernel_rfl) (fun _ => by kernel_rfl) (by kernel_rfl)
def k96_b0 : KC := (.seq (.seq (.ops [mV 9 5, oP 10 (.bin .gtr (.t 9) (iC 0)), mV 11 10, ⟨(some 12), some (11, true), .mv (.t 1)⟩, ⟨(some 13), some (11, true), .mv (.t 0)⟩, ⟨(some 14), some (11, true), .mv (.t 5)⟩, ⟨(some 15), some (11, true), .bin .sub (.t 14) (iC 1)⟩, ⟨(some 16), some (11, true), .idxS 1 (.t 13) (.t 15)⟩, ⟨(some 17), some (11, true), .load false 1 (.t 16)⟩, ⟨(some 18), some (11, true), .call (fC 150) [(.t 12), (.t 17)]⟩, oP 19 (.pick (.t 11) (.t 18) (.c (.bool false)))])
 (.cond (.t 19) .skip (.exit 0)))
 (.block 1 (.ops [mV 20 5, oP 21 (.bin .sub (.t 20) (iC 1)), mV 5 21])))
def k96 : KC := (.seq (.ops [oP 4 (.mv (.c (.nils)))])
 (.seq (.ops [mV 7 0, oP 8 (.len false (.t 7)), mV 5 8])
 (.seq (.block 0 (.loop k96_b0))
 (.seq (.seq (.ops [mV 22 5, oP 23 (.bin .gtr (.t 22) (iC 0)), mV 24 23, ⟨(some 25), some (24, true), .mv (.t 0)⟩, ⟨(some 26), some (24, true), .mv (.t 5)⟩, ⟨(some 27), some (24, true), .bin .sub (.t 26) (iC 1)⟩, ⟨(some 28), some (24, true), .idxS 1 (.t 25) (.t 27)⟩, ⟨(some 29), some (24, true), .load false 1 (.t 28)⟩, ⟨(some 30), some (24, true), .mv (.t 1)⟩, ⟨(some 31), some (24, true), .bin .eql (.t 29) (.t 30)⟩, oP 32 (.pick (.t 24) (.t 31) (.c (.bool false)))])
 (.cond (.t 32) (.seq (.ops [mV 33 0, mV 4 33])
 .ret) .skip))
 (.seq (.ops [mV 34 1, oP 35 (.bsl false 2 1 [(.t 34)]), mV 36 0, mV 37 5, oP 38 (.sls 1 (.t 36) (some (.t 37)) none), oP 39 (.app (.t 35) (.t 38) 2 1), mV 6 39])
 (.seq (.ops [mV 40 0, mV 41 5, oP 42 (.sls 1 (.t 40) none (some (.t 41))), oP 43 (.call (fC 105) [(.t 42)]), mV 44 6, oP 45 (.app (.t 43) (.t 44) 2 1), mV 4 45])
 .ret))))))
theorem e96 : Ent 96 46 [] [.t 4] k96 := ent Tryz.func96 (by kernel_rfl) (by kernel_rfl) (by kernel_rfl) (fun _ => by kernel_rfl) (by kernel_rfl)
def k97_b0 : KC := (.seq (.seq (.ops [mV 6 4, mV 7 0, oP 8 (.len false (.t 7)), oP 9 (.bin .lss (.t 6) (.t 8))])
 (.cond (.t 9) .skip (.exit 0)))
 (.seq (.block 1 (.ops [mV 12 3, mV 13 0, mV 14 4, oP 15 (.idxS 1 (.t 13) (.t 14)), oP 16 (.load false 1 (.t 15)), oP 17 (.call (fC 83) [(.t 16)]), oP 18 (.bsl true 27 1 [(.t 17)]), oP 19 (.app (.t 12) (.t 18) 27 1), mV 3 19]))
 (.ops [mV 10 4, oP 11 (.bin .add (.t 10) (iC 1)), mV 4 11])))
def k97 : KC := (.seq (.ops [oP 2 (.mv (.c (.nils)))])
 (.seq (.ops [oP 5 (.bsl false 27 1 []), mV 3 5])
 (.seq (.seq (.ops [oP 4 (.mv (iC 0))])
 (.block 0 (.loop k97_b0)))
 (.seq (.ops [mV 20 3, mV 2 20])
 .ret))))
theorem e97 : Ent 97 21 [18] [.t 2] k97 := ent Tryz.func97 (by kernel_rfl) (by kernel_rfl) (by kernel_rfl) (fun _ => by kernel_rfl) (by kernel_rfl)
end Go.Proofs.YthbbjbfbeaiphaaGreat
namespace Go.Proofs.YthbbjbfbeaiphaaGreat
open Go.Kv
set_option linter.unusedVariables false
set_option linter.unusedSimpArgs false
attribute [local irreducible] ACall PCall KL
theorem pof_lt {s n : Nat} (h : s < 2 ^ n) : sb (pof s n) = s := by
 apply Nat.eq_of_testBit_eq
 intro i
 rw [sb_test]
 by_cases hi : i < n
 ·unfold pof
  cases hb : s.testBit i with
  | true => exact decide_eq_true (List.mem_filter.2 ⟨List.mem_range.2 hi, hb⟩)
  | false => exact decide_eq_false fun hm => by rw [(List.mem_filter.1 hm).2] at hb; cases hb
 ·have hb : s.testBit i = false := Nat.testBit_lt_two_pow (Nat.lt_of_lt_of_le h (Nat.pow_le_pow_right (by omega) (by omega)))
  rw [hb]
  exact decide_eq_false fun hm => hi (List.mem_range.1 (List.mem_filter.1 hm).1)
theorem pof_ext {s n : Nat} (h : s < 2 ^ n) : ∀ k, pof s (n + k) = pof s n
 | 0 => rfl
 | k + 1 => by
  have hb : s.testBit (n + k) = false := Nat.testBit_lt_two_pow (Nat.lt_of_lt_of_le h (Nat.pow_le_pow_right (by omega) (by omega)))
  rw [show n + (k + 1) = n + k + 1 by omega, pof_succ, hb, pof_ext h k]; simp
theorem pof_asc (s n : Nat) : (pof s n).Pairwise (· < ·) := List.Pairwise.filter _ List.pairwise_lt_range
theorem pof_inj {a b n : Nat} (ha : a < 2 ^ n) (hb : b < 2 ^ n) (h : pof a n = pof b n) : a = b := by rw [← pof_lt ha, ← pof_lt hb, h]
theorem nz_inj {l m : List Nat} (h : nz l = nz m) : l = m := by
 have := congrArg (List.map Int.toNat) h
 rwa [nz, nz, toNat_map, toNat_map] at this
def bef (a b : Nat) : Bool := decide (stc (nz (pof a 62)) (nz (pof b 62)) < 0)
theorem bef_irr (a : Nat) : bef a a = false := by
 unfold bef
 have := stc_anti (nz (pof a 62)) (nz (pof a 62))
 exact decide_eq_false (by omega)
theorem bef_trans {a b c : Nat} (h1 : bef a b = true) (h2 : bef b c = true) : bef a c = true := by
 have := (stc_swo fun x : Nat => nz (pof x 62)).trans a b c h1 h2
 exact this
theorem bef_total {a b : Nat} (ha : a < 2 ^ 62) (hb : b < 2 ^ 62) (hne : a ≠ b) (h : bef a b = false) : bef b a = true := by
 unfold bef at h ⊢
 have h := of_decide_eq_false h
 refine decide_eq_true ?_
 have h1 := stc_anti (nz (pof a 62)) (nz (pof b 62))
 refine Classical.byContradiction fun hn => hne (pof_inj ha hb (nz_inj (stc_eq (by omega))))
def atB (S : List Nat) (own : Nat) : Nat → Nat
 | 0 => 0
 | k + 1 => if bef own (S.getD k 0) = true then atB S own k else k + 1
theorem atB_le (S : List Nat) (own : Nat) : ∀ k, atB S own k ≤ k
 | 0 => Nat.le_refl _
 | k + 1 => by
  unfold atB
  split
  ·have := atB_le S own k; omega
  ·exact Nat.le_refl _
theorem atB_bef (S : List Nat) (own : Nat) : ∀ k i, atB S own k ≤ i → i < k → bef own (S.getD i 0) = true
 | 0, i, _, h => by omega
 | k + 1, i, h, hi => by
  unfold atB at h
  split at h
  ·rename_i hb
   by_cases e : i = k
   ·subst e; exact hb
   ·exact atB_bef S own k i h (by omega)
  ·omega
theorem atB_not (S : List Nat) (own : Nat) : ∀ k, 0 < atB S own k → bef own (S.getD (atB S own k - 1) 0) = false
 | 0, h => by simp [atB] at h
 | k + 1, h => by
  unfold atB at h ⊢
  split
  ·rename_i hb
   rw [if_pos hb] at h
   exact atB_not S own k h
  ·rename_i hb
   simpa using hb
def putB (S : List Nat) (own : Nat) : List Nat :=
 if 0 < atB S own S.length ∧ S.getD (atB S own S.length - 1) 0 = own then S else S.take (atB S own S.length) ++ own :: S.drop (atB S own S.length)
theorem putB_mem {S : List Nat} {own x : Nat} : x ∈ putB S own ↔ x = own ∨ x ∈ S := by
 unfold putB
 split
 ·rename_i h
  have hl := atB_le S own S.length
  have : own ∈ S := by
   rw [← h.2]
   exact getD_mem (by omega) 0
  exact ⟨fun hx => .inr hx, fun hx => by rcases hx with rfl | hx <;> assumption⟩
 ·rw [List.mem_append, List.mem_cons]
  constructor
  ·rintro (h | h | h)
   ·exact .inr (List.mem_of_mem_take h)
   ·exact .inl h
   ·exact .inr (List.mem_of_mem_drop h)
  ·rintro (h | h)
   ·exact .inr (.inl h)
   ·rw [← List.take_append_drop (atB S own S.length) S, List.mem_append] at h
    rcases h with h | h
    ·exact .inl h
    ·exact .inr (.inr h)
def Srt (S : List Nat) : Prop := S.Pairwise (fun a b => bef a b = true) ∧ ∀ x ∈ S, x < 2 ^ 62
theorem putB_srt {S : List Nat} (h : Srt S) {own : Nat} (ho : own < 2 ^ 62) : Srt (putB S own) := by
 obtain ⟨hp, hl⟩ := h
 refine ⟨?_, fun x hx => ?_⟩
 ·unfold putB
  split
  ·exact hp
  ·rename_i hno
   have hle := atB_le S own S.length
   have hbef := atB_bef S own S.length
   have hnot := atB_not S own S.length
   generalize atB S own S.length = j at *
   have hget : ∀ i, (hi : i < S.length) → S.getD i 0 = S[i] := fun i hi => by simp [List.getD_eq_getElem?_getD, hi]
   have hfront : ∀ x ∈ S.take j, bef x own = true := fun x hx => by
    obtain ⟨i, hi, rfl⟩ := List.getElem_of_mem hx
    rw [List.length_take] at hi
    rw [List.getElem_take]
    have h0 : 0 < j := by omega
    have hj1 : j - 1 < S.length := by omega
    have hb := hnot h0
    rw [hget _ hj1] at hb
    have hne : S[j - 1] ≠ own := fun e => hno ⟨h0, by rw [hget _ hj1]; exact e⟩
    have hb2 := bef_total ho (hl _ (List.getElem_mem hj1)) (fun e => hne e.symm) hb
    by_cases e : i = j - 1
    ·subst e; exact hb2
    ·exact bef_trans (List.pairwise_iff_getElem.1 hp i (j - 1) (by omega) hj1 (by omega)) hb2
   have hback : ∀ x ∈ S.drop j, bef own x = true := fun x hx => by
    obtain ⟨i, hi, rfl⟩ := List.getElem_of_mem hx
    rw [List.length_drop] at hi
    rw [List.getElem_drop, ← hget _ (by omega)]
    exact hbef _ (by omega) (by omega)
   rw [List.pairwise_append, List.pairwise_cons]
   refine ⟨hp.sublist (List.take_sublist _ _), ⟨hback, hp.sublist (List.drop_sublist _ _)⟩, fun a ha b hb => ?_⟩
   rcases List.mem_cons.1 hb with rfl | hb
   ·exact hfront a ha
   ·exact bef_trans (hfront a ha) (hback b hb)
 ·rcases putB_mem.1 hx with rfl | hx
  ·exact ho
  ·exact hl x hx
theorem srt_nodup {S : List Nat} (h : Srt S) : S.Nodup := by
 rw [List.nodup_iff_pairwise_ne]
 exact h.1.imp fun {a b} hab e => by rw [e, bef_irr] at hab; cases hab
theorem putB_len {S : List Nat} (h : Srt S) (own : Nat) : (putB S own).length = if own ∈ S then S.length else S.length + 1 := by
 have hle := atB_le S own S.length
 have hbef := atB_bef S own S.length
 have hnot := atB_not S own S.length
 have hget : ∀ i, (hi : i < S.length) → S.getD i 0 = S[i] := fun i hi => by simp [List.getD_eq_getElem?_getD, hi]
 unfold putB
 split
 ·rename_i hh
  have : own ∈ S := by
   rw [← hh.2]; exact getD_mem (by omega) 0
  rw [if_pos this]
 ·rename_i hno
  have : own ∉ S := fun hm => by
   obtain ⟨i, hi, e⟩ := List.getElem_of_mem hm
   generalize atB S own S.length = j at *
   by_cases hij : j ≤ i
   ·have := hbef i hij hi
    rw [hget i hi, e, bef_irr] at this; cases this
   ·have h0 : 0 < j := by omega
    have hb := hnot h0
    rw [hget _ (by omega)] at hb
    by_cases e2 : i = j - 1
    ·exact hno ⟨h0, by rw [hget _ (by omega), ← e]; congr 1; exact e2.symm⟩
    ·have := List.pairwise_iff_getElem.1 h.1 i (j - 1) hi (by omega) (by omega)
     rw [e, hb] at this; cases this
  rw [if_neg this, List.length_append, List.length_cons, List.length_take, List.length_drop]
  omega
theorem perm_uniq {α : Type} {le : α → α → Prop} (anti : ∀ a b, le a b → le b a → a = b) : ∀ {r s : List α}, r.Perm s → r.Pairwise le → s.Pairwise le → r = s
 | [], s, h, _, _ => h.nil_eq
 | x :: r, [], h, _, _ => by have := h.length_eq; simp at this
 | x :: r, y :: s, h, hr, hs => by
  rw [List.pairwise_cons] at hr hs
  have e : x = y := by
   rcases List.mem_cons.1 (h.mem_iff.1 (List.mem_cons_self ..)) with e | hx
   ·exact e
   ·rcases List.mem_cons.1 (h.mem_iff.2 (List.mem_cons_self ..)) with e | hy
    ·exact e.symm
    ·exact anti _ _ (hr.1 y hy) (hs.1 x hx)
  subst e
  rw [perm_uniq anti h.cons_inv hr.2 hs.2]
def rowsB (S : List Nat) : List (List Int) := S.map fun b => nz (pof b 62)
theorem rowsB_uniq {S : List Nat} (hS : Srt S) {t : List (List Int)} (hd : t.Nodup) (hm : ∀ r, r ∈ t ↔ r ∈ rowsB S) (ht : t.Pairwise (fun a b => stc a b ≤ 0)) : t = rowsB S := by
 have hdS : (rowsB S).Nodup := by
  rw [rowsB, List.nodup_iff_pairwise_ne, List.pairwise_map]
  exact hS.1.imp fun {a b} hab e => by
   unfold bef at hab
   rw [e] at hab
   have h1 := of_decide_eq_true hab
   have := stc_anti (nz (pof b 62)) (nz (pof b 62))
   omega
 refine perm_uniq (le := fun a b => stc a b ≤ 0) (fun a b h1 h2 => ?_) ((List.perm_ext_iff_of_nodup hd hdS).2 hm) ht ?_
 ·have := stc_anti a b
  exact stc_eq (by omega)
 ·rw [rowsB, List.pairwise_map]
  exact hS.1.imp fun {a b} hab => by
   unfold bef at hab
   have := of_decide_eq_true hab
   omega
theorem p150 (a b : Nat) (ha : a < 2 ^ 62) (hb : b < 2 ^ 62) : Pure Tryz.prog 150 [.int .i64 a, .int .i64 b] (.bool (bef a b)) := by
 have hbf : bef a b = decide (stc (nz (pof a 62)) (nz (pof b 62)) < 0) := rfl
 have hla := pof_le a 62
 have hlb := pof_le b 62
 rw [← nz_len] at hla hlb
 refine e150 (by simp) fun _ _ => ?_
 simp only [k150, argEnv, go_sem]
 refine (p83 a ha).go ?_
 try simp only [OpK_eq, HKv, go_sem]
 refine (p83 b hb).go ?_
 have e1 : (pof a 62).map (fun x : Nat => (x : Int)) = nz (pof a 62) := rfl
 have e2 : (pof b 62).map (fun x : Nat => (x : Int)) = nz (pof b 62) := rfl
 rw [e1, e2]
 generalize nz (pof a 62) = xs at *
 generalize nz (pof b 62) = ys at *
 try simp only [OpK_eq, HKv, go_sem]
 have hcI : cI xs.length ys.length = if xs.length < ys.length then -1 else if ys.length < xs.length then 1 else 0 := by
  unfold cI
  (repeat' split) <;> omega
 refine ⟨fun h1 => ?_, fun h1 => ?_⟩
 ·refine Kv.Fin.still ⟨?_, rfl⟩
  rw [hbf]
  congr 1
  refine decide_eq_decide.2 ?_
  unfold stc orV
  rw [hcI]
  (repeat' split) <;> omega
 ·have hls : xs.length = ys.length := by omega
  have hc0 : cI xs.length ys.length = 0 := by rw [hcI, if_neg (by omega), if_neg (by omega)]
  have hsl : stc xs ys = slc xs ys := by unfold stc; rw [hc0]; rfl
  rw [hsl] at hbf
  refine KL_ind k150_b0.eq_1 (fun x : Nat => [(5, .list (ints xs)), (6, .list (ints ys)), (7, .int .i64 x)]) (fun _ => []) (fun x => x ≤ xs.length ∧ slc (xs.drop x) (ys.drop x) = slc xs ys) (fun x => xs.length - x) [5, 6, 7] 0 (by simp [keep]) rfl ⟨Nat.zero_le _, rfl⟩ fun x ⟨hx, hs⟩ ih => ?_
  try simp only [OpK_eq, HKv, go_sem]
  refine ⟨fun h2 => ?_, fun h2 => ?_⟩
  ·have hd := slc_drop (xs := xs) (ys := ys) (k := x) (by omega) (by omega)
   rw [hs, ← List.getD_eq_getElem?_getD, ← List.getD_eq_getElem?_getD] at hd
   refine ⟨by omega, fun _ => ⟨by omega, fun _ => ⟨fun h3 => ⟨by omega, fun _ => ⟨by omega, fun _ => ?_⟩⟩, fun h3 => ⟨by omega, ?_⟩⟩⟩⟩
   ·refine Kv.Fin.still ⟨?_, rfl⟩
    rw [hbf, hd]
    congr 1
    refine decide_eq_decide.2 ?_
    (repeat' split) <;> omega
   ·refine ih (x + 1) ⟨by omega, ?_⟩ (by omega) _ _ (by simp [keep]) rfl
    rw [hd, if_neg (by omega), if_neg (by omega)]
  ·obtain rfl : x = xs.length := by omega
   refine Kv.Fin.still ⟨?_, rfl⟩
   rw [hbf, ← hs, slc_end, if_neg (by omega)]; rfl
theorem nzD (S : List Nat) (i : Nat) : (nz S).getD i 0 = (S.getD i 0 : Int) := by
 unfold nz
 simp only [List.getD_eq_getElem?_getD, List.getElem?_map]
 cases S[i]? <;> rfl
theorem p96 (S : List Nat) (own : Nat) (hS : Srt S) (ho : own < 2 ^ 62) (hl : S.length ≤ 100000) : Pure Tryz.prog 96 [.list (ints (nz S)), .int .i64 own] (.list (ints (nz (putB S own)))) := by
 have hat := atB_le S own S.length
 refine e96 (by simp) fun _ _ => ?_
 simp only [k96, argEnv, nz_len, go_sem]
 refine KL_ind k96_b0.eq_1 (fun k : Nat => [(0, .list (ints (nz S))), (1, .int .i64 own), (5, .int .i64 k)]) (fun _ => []) (fun k => k ≤ S.length ∧ atB S own k = atB S own S.length) (fun k => k) [0, 1, 5] S.length (by simp [keep]) rfl ⟨Nat.le_refl _, rfl⟩ fun k ⟨hk, hke⟩ ih => ?_
 have hnz : ∀ j, nz (S.take j) = (nz S).take j := fun j => by simp [nz, List.map_take]
 have hnzd : ∀ j, nz (S.drop j) = (nz S).drop j := fun j => by simp [nz, List.map_drop]
 have hput : ¬ (0 < k ∧ S.getD (k - 1) 0 = own) → atB S own S.length = k → putB S own = S.take k ++ own :: S.drop k := fun h1 h2 => by
  unfold putB; rw [h2, if_neg h1]
 have hput2 : (0 < k ∧ S.getD (k - 1) 0 = own) → atB S own S.length = k → putB S own = S := fun h1 h2 => by
  unfold putB; rw [h2, if_pos h1]
 try simp only [OpK_eq, HKv, nz_len, nzD, go_sem]
 refine ⟨fun h1 => ⟨by omega, ⟨by omega, by omega⟩, fun h2 => ?_⟩, fun h1 => ?_⟩
 ·have hk1 : ((k : Int) - 1).toNat = k - 1 := by omega
  rw [hk1]
  have hSk : S.getD (k - 1) 0 < 2 ^ 62 := hS.2 _ (getD_mem (by omega) 0)
  refine (p150 own (S.getD (k - 1) 0) ho hSk).go ?_
  cases hb : bef own (S.getD (k - 1) 0) with
  | true =>
   try simp only [OpK_eq, HKv, go_sem]
   refine ⟨by omega, ih (k - 1) ⟨by omega, ?_⟩ (by omega) _ _ (by simp [keep]; omega) rfl⟩
   have : atB S own k = atB S own (k - 1) := by
    obtain ⟨m, rfl⟩ : ∃ m, k = m + 1 := ⟨k - 1, by omega⟩
    rw [atB, if_pos (by simpa using hb)]; rfl
   rw [← this]; exact hke
  | false =>
   have hkk : atB S own S.length = k := by
    rw [← hke]
    obtain ⟨m, rfl⟩ : ∃ m, k = m + 1 := ⟨k - 1, by omega⟩
    rw [atB, if_neg (by simpa using hb)]
   have htd : (List.drop k (nz S)).take (S.length - k) = nz (S.drop k) := by rw [hnzd, List.take_of_length_le (by rw [List.length_drop, nz_len]; omega)]
   have htk : List.take (k - 0) (nz S) = nz (S.take k) := by rw [hnz, Nat.sub_zero]
   have hld : (S.drop k).length = S.length - k := List.length_drop
   have hlt : (S.take k).length = k := by rw [List.length_take]; omega
   try simp only [OpK_eq, HKv, nz_len, nzD, hk1, htd, htk, hld, go_sem]
   refine ⟨fun _ => ⟨by omega, ⟨by omega, by omega⟩, fun _ => ⟨fun h4 => ?_, fun h4 => ⟨⟨by omega, by omega⟩, by omega, by omega, ?_⟩⟩⟩, fun h => absurd h (by omega)⟩
   ·rw [hput2 ⟨by omega, by omega⟩ hkk]
    exact Kv.Fin.still ⟨rfl, rfl⟩
   ·rw [hput (fun h => h4 (by rw [h.2])) hkk]
    refine (p105 (nz (S.take k)) (by rw [nz_len]; omega)).go fun v s ⟨hv, hs⟩ => ?_
    subst hv; subst hs
    try simp only [OpK_eq, HKv, nz_len, ren_ref, ren_arr, ren_ints, hld, hlt, go_sem]
    have e1 : (List.take 1 [PV.int .i64 (own : Int)] ++ ints (nz (S.drop k))) = ints (nz (own :: S.drop k)) := rfl
    have l1 : (ints (nz (own :: S.drop k))).length = 1 + (S.length - k) := by simp [ints, nz]; omega
    have e2 : List.take (1 + (S.length - k)) (ints (nz (own :: S.drop k))) = ints (nz (own :: S.drop k)) := List.take_of_length_le (by omega)
    have e3 : List.take k (nz (S.take k)) = nz (S.take k) := List.take_of_length_le (by rw [nz_len, hlt]; exact Nat.le_refl _)
    have e4 : ints (nz (S.take k)) ++ ints (nz (own :: S.drop k)) = ints (nz (S.take k ++ own :: S.drop k)) := by simp [ints, nz]
    have l2 : (nz (S.take k ++ own :: S.drop k)).length = k + (1 + (S.length - k)) := by rw [nz_len, List.length_append, hlt, List.length_cons, hld]; omega
    rw [e1, e2, e3, e4, l1]
    refine ⟨by simp, ⟨Nat.le_refl _, by omega⟩, Kv.Fin.freeze (Imm.refn rfl l2.symm) ⟨rfl, rfl⟩⟩
 ·obtain rfl : k = 0 := by omega
  have htd : List.take (S.length - 0) (nz S) = nz S := by rw [Nat.sub_zero, List.take_of_length_le (by rw [nz_len]; omega)]
  have hkk : atB S own S.length = 0 := by rw [← hke]; rfl
  have ht0 : List.take (0 - 0) (nz S) = nz [] := rfl
  rw [hput (fun h => absurd h.1 (by omega)) hkk]
  try simp only [OpK_eq, HKv, nz_len, nzD, htd, ht0, go_sem]
  refine ⟨by omega, by omega, ?_⟩
  refine (p105 (nz []) (by rw [nz_len]; simp)).go fun v s ⟨hv, hs⟩ => ?_
  subst hv; subst hs
  try simp only [OpK_eq, HKv, nz_len, ren_ref, ren_arr, ren_ints, go_sem]
  have e1 : (List.take 1 [PV.int .i64 (own : Int)] ++ ints (nz S)) = ints (nz (own :: S)) := rfl
  have l1 : (ints (nz (own :: S))).length = 1 + S.length := by simp [ints, nz]; omega
  have e2 : List.take (1 + S.length) (ints (nz (own :: S))) = ints (nz (own :: S)) := List.take_of_length_le (by omega)
  have e4 : ints (List.take 0 (nz [])) ++ ints (nz (own :: S)) = ints (nz (S.take 0 ++ own :: S)) := rfl
  rw [e1, e2, e4, l1]
  refine ⟨by simp, by omega, Kv.Fin.freeze (Imm.refn rfl (by rw [nz_len]; simp; omega)) ⟨rfl, rfl⟩⟩
theorem p97 (S : List Nat) (hS : ∀ x ∈ S, x < 2 ^ 62) (hl : S.length ≤ 100000) : Pure Tryz.prog 97 [.list (ints (nz S))] (.list (rows (rowsB S))) := by
 refine e97 (by simp) fun _ _ => ?_
 simp only [k97, argEnv, go_sem]
 refine KL_ind k97_b0.eq_1 (fun x : Nat => [(0, .list (ints (nz S))), (3, .ref 0 x 0 x), (4, .int .i64 x)]) (fun x => [.arr x 27 1 (rows (rowsB (S.take x)))]) (fun x => x ≤ S.length) (fun x => S.length - x) [0, 3, 4] 0 (by rfl) (by rfl) (Nat.zero_le _) fun x hx ih => ?_
 try simp only [nz_len, nzD, go_sem]
 refine ⟨fun h2 => ?_, fun h2 => ?_⟩
 ·have hxl : x < S.length := by omega
  refine ⟨by omega, fun _ => ?_⟩
  refine (p83 _ (hS _ (getD_mem hxl 0))).go ?_
  have hrl : (rowsB (S.take x)).length = x := by rw [rowsB, List.length_map, List.length_take]; omega
  have hts : rowsB (S.take (x + 1)) = rowsB (S.take x) ++ [nz (pof (S.getD x 0) 62)] := by
   rw [List.take_succ_eq_append_getElem hxl, rowsB, List.map_append, getD_eq hxl]; rfl
  try simp only [OpK_eq, HKv, hrl, go_sem]
  refine ⟨⟨Nat.le_refl _, by omega⟩, by omega, ih (x + 1) (by omega) (by omega) _ _ (by simp [keep]) ?_⟩
  rw [hts, List.take_of_length_le (by omega)]; rfl
 ·obtain rfl : x = S.length := by omega
  rw [List.take_length]
  exact Kv.Fin.freeze (Imm.refr rfl (by rw [rowsB, List.length_map])) ⟨rfl, rfl⟩
end Go.Proofs.YthbbjbfbeaiphaaGreat
end
section
namespace Go.Proofs.YthbbjbfbeaiphaaGreat
open Go.Kv
set_option maxRecDepth 100000
def k101 : KC := (.seq (.ops [oP 7 (.box true (.t 3)), oP 8 (.mv (.c (.nils))), oP 9 (.mv (iC 0))])
 (.seq (.ops [oP 10 (.alloc [.nils])])
 (.seq (.ops [oP 11 (.alloc [.bool false]), ⟨none, none, .store 1 (.t 11) (.c (.bool false))⟩])
 (.seq (.ops [mV 12 0, mV 13 1, mV 14 2, oP 15 (.mkfn (.func 152) [] [(.t 7), (.t 10), (.t 11)]), oP 16 (.call (fC 151) [(.t 12), (.t 13), (.t 14), (.t 15)])])
 (.seq (.seq (.ops [oP 17 (.load false 1 (.t 11)), oP 18 (.not (.t 17))])
 (.cond (.t 18) (.seq (.ops [oP 8 (.mv (.c (.nils))), oP 9 (.mv (iC 4))])
 .ret) .skip))
 (.seq (.ops [oP 19 (.load false 1 (.t 10)), mV 8 19, oP 9 (.mv (iC 0))])
 .ret))))))
theorem e101 : Ent 101 20 [7] [.t 8, .t 9] k101 := ent Tryz.func101 (by kernel_rfl) (by kernel_rfl) (by kernel_rfl) (fun _ => by kernel_rfl) (by kernel_rfl)
def k152 : KC := (.seq (.ops [oP 4 (.box true (.t 0)), oP 5 (.mv (.c (.bool false)))])
 (.seq (.seq (.ops [oP 6 (.load false 1 (.t 1)), oP 7 (.fieldA 0 (.t 4)), oP 8 (.load false 1 (.t 7)), oP 9 (.call (.t 6) [(.t 8)])])
 (.cond (.t 9) (.ops [oP 10 (.fieldA 1 (.t 4)), oP 11 (.load false 1 (.t 10)), ⟨none, none, .store 1 (.t 2) (.t 11)⟩, ⟨none, none, .store 1 (.t 3) (.c (.bool true))⟩]) .skip))
 (.seq (.ops [oP 12 (.load false 1 (.t 3)), oP 13 (.not (.t 12)), mV 5 13])
 .ret)))
theorem e152 : Ent 152 14 [4] [.t 5] k152 := ent Tryz.func152 (by kernel_rfl) (by kernel_rfl) (by kernel_rfl) (fun _ => by kernel_rfl) (by kernel_rfl)
end Go.Proofs.YthbbjbfbeaiphaaGreat
namespace Go.Proofs.YthbbjbfbeaiphaaGreat
open Go.Kv
set_option linter.unusedVariables false
set_option linter.unusedSimpArgs false
attribute [local irreducible] ACall PCall KL
theorem p152 (σ : Heap) (p : List Int) (w : PV) (l : List Int) (isid : FuncId) (iscaps : List PV) [hc : StillL iscaps] (b : Bool) (his : Pure Tryz.prog isid (.list (ints p) :: iscaps) (.bool b)) (h0 : σ[0]? = some (.box [.nils])) (h1 : σ[1]? = some (.box [.bool false])) (hw : Wd σ (fun id => id = 0 ∨ id = 1) w l) (K : PV → Heap → Prop)
  (hK1 : b = false → K (.bool true) σ) (hK2 : b = true → ∀ σ', σ'[0]? = some (.box [w]) → σ'[1]? = some (.box [.bool true]) → Wd σ' (fun _ => False) w l → K (.bool false) σ') :
  ACall Tryz.prog 152 (.agg [.list (ints p), w] :: [.fptr [.fn (.func isid) [] iscaps] 0, .ptr 0 0, .ptr 1 0]) σ K := by
 have hlt0 := (List.getElem?_eq_some_iff.1 h0).1
 have hlt1 := (List.getElem?_eq_some_iff.1 h1).1
 have hwok : [PV.list (ints p), w].all PV.ok = true := by rcases hw with ⟨rfl, _⟩ | ⟨_, _, rfl, _⟩ <;> simp [PV.ok]
 have hwcs := hw.cs
 have h01 : ∀ o, (σ.set 0 o)[1]? = some (.box [.bool false]) := fun o => (List.getElem?_set_ne (by decide)).trans h1
 refine e152 (by simp) fun _ _ => ?_
 simp only [k152, argEnv, go_sem]
 try simp only [OpK_eq, hwok, go_sem]
 refine ⟨hwcs.2, ?_⟩
 refine his.go ?_
 have hls : ∀ o, (σ.set 0 o).length = σ.length := fun o => List.length_set ..
 cases b with
 | false =>
  try simp only [OpK_eq, h1, go_sem]
  exact Kv.Fin.now (hK1 rfl)
 | true =>
  have hput : putC [PV.nils] 0 [w] = [w] := by unfold putC; first | rfl | (split <;> rfl) | simp
  have hputb : putC [PV.bool false] 0 [.bool true] = [.bool true] := by unfold putC; first | rfl | (split <;> rfl) | simp
  have hs0 : ∀ o o', ((σ.set 0 o).set 1 o')[1]? = some o' := fun o o' => List.getElem?_set_self (by rw [hls]; exact hlt1)
  have hs1 : ∀ o o', ((σ.set 0 o).set 1 o')[0]? = some o := fun o o' => by
   rw [List.getElem?_set_ne (by decide)]; exact List.getElem?_set_self hlt0
  have hK := fun ρ => hK2 rfl ρ
  clear hK1 hK2
  have hW2 : Wd ((σ.set 0 (.box [w])).set 1 (.box [.bool true])) (fun _ => False) w l := hw.keep fun id _ hA => by
   simp only [not_or] at hA
   exact ⟨by rw [List.getElem?_set_ne (Ne.symm hA.2), List.getElem?_set_ne (Ne.symm hA.1)], fun h => h⟩
  try simp only [OpK_eq, h0, h01, hs0, hwcs.1, hwcs.2, hput, hputb, HKv, go_sem]
  exact Kv.Fin.now (hK _ (hs1 _ _) (hs0 _ _) hW2)
theorem p101 (fs : List (List Nat)) (n : Nat) (hf : ∀ f ∈ fs, Ok f n) (hfl : fs.length ≤ 1000) (bid : FuncId) (bf : List Nat → List Int → List Int) (okp : List Int → Prop)
  (hokl : ∀ p, okp p → p.length ≤ 1000) (hokb : ∀ f ∈ fs, ∀ p, okp p → okp (bf f p))
  (hby : ∀ f ∈ fs, ∀ p, okp p → Pure Tryz.prog bid [.agg (ints (mp f)), .list (ints p)] (.list (ints (bf f p))))
  (isid : FuncId) (iscaps : List PV) [hc : StillL iscaps] (isF : List Int → Bool) (his : ∀ p, okp p → Pure Tryz.prog isid (.list (ints p) :: iscaps) (.bool (isF p)))
  (from0 : List Int) (hok0 : okp from0) (N : Nat) (hN : N ≤ 1000) (hB : ∀ i, (bq fs bf (fun _ _ => ()) ([(from0, [])], ()) i).1.length ≤ N) (K : PV → Heap → Prop)
  (hK1 : ∀ i (h : i < (bq fs bf (fun _ _ => ()) ([(from0, [])], ()) i).1.length), isF (bq fs bf (fun _ _ => ()) ([(from0, [])], ()) i).1[i].1 = true → (∀ j (h : j < (bq fs bf (fun _ _ => ()) ([(from0, [])], ()) j).1.length), j < i → isF (bq fs bf (fun _ _ => ()) ([(from0, [])], ()) j).1[j].1 = false) →
   ∀ x s, OwnI 2 s 0 s.length x (bq fs bf (fun _ _ => ()) ([(from0, [])], ()) i).1[i].2 → Free s → K (.tup [x, .int .i64 0]) s)
  (hK2 : ∀ i, i = (bq fs bf (fun _ _ => ()) ([(from0, [])], ()) i).1.length → (∀ j (h : j < (bq fs bf (fun _ _ => ()) ([(from0, [])], ()) j).1.length), j < i → isF (bq fs bf (fun _ _ => ()) ([(from0, [])], ()) j).1[j].1 = false) → K (.tup [.nils, .int .i64 4]) []) :
  ACall Tryz.prog 101 [.list (aggs (fs.map mp)), .list (ints from0), .fn (.func bid) [] [], .fn (.func isid) [] iscaps] [] K := by
 refine e101 (by simp) fun _ _ => ?_
 simp only [k101, argEnv, go_sem]
 try simp only [OpK_eq, go_sem]
 refine p151 (α := Unit) fs n hf hfl bid 152 [.fptr [.fn (.func isid) [] iscaps] 0, .ptr 0 0, .ptr 1 0] bf okp hokl hokb hby
  (fun _ σ => σ[0]? = some (.box [.nils]) ∧ σ[1]? = some (.box [.bool false])) (fun _ id => id = 0 ∨ id = 1) (fun _ _ => ()) (fun _ p => !isF p)
  (fun _ p l σ' => ∃ w, σ'[0]? = some (.box [w]) ∧ σ'[1]? = some (.box [.bool true]) ∧ Wd σ' (fun _ => False) w l)
  (fun a σ id h hu => ?_) (fun a σ σ' h hk hl => ?_) (fun a σ p w l hp hI hw K' k1 k2 => ?_) () from0 hok0 N hN hB _ ⟨rfl, rfl⟩ _ (fun i hi hgf hgo σ' hD => ?_) (fun i hi hgo σ' hI => ?_)
 ·have h1 := (List.getElem?_eq_some_iff.1 h.1).1
  have h2 := (List.getElem?_eq_some_iff.1 h.2).1
  rcases hu with rfl | rfl
  ·exact h1
  ·exact h2
 ·have k0 := hk 0 (.inl rfl)
  have k1 := hk 1 (.inr rfl)
  exact ⟨k0.trans h.1, k1.trans h.2⟩
 ·refine p152 σ p w l isid iscaps (isF p) (his p hp) hI.1 hI.2 hw K' (fun hb => ?_) (fun hb σ' q1 q2 q3 => ?_)
  ·exact k1 (by rw [hb]; rfl) σ hI (Nat.le_refl _) fun id _ hu => ⟨rfl, hu⟩
  ·exact k2 (by rw [hb]; rfl) σ' ⟨w, q1, q2, q3⟩
 ·obtain ⟨w, q1, q2, q3⟩ := hD
  have hK := hK1 i hi (by simpa using hgf) (fun j h hj => by simpa using hgo j h hj)
  clear hK1 hK2
  try simp only [OpK_eq, q1, q2, HKv, go_sem]
  rcases q3 with ⟨rfl, hl⟩ | ⟨id, ver, rfl, ho, _⟩
  ·rw [hl] at hK
   exact Kv.Fin.still (hK _ _ .nil .nil)
  ·refine Kv.Fin.oneT ho (by simp only [flat_ints]; exact Plain.ints _) 0 (hK _ _ (.own 0 ver [] _ [] (by simp) ⟨Nat.zero_le _, by simp⟩) (Free.ints _ _ _ _))
 ·have hK := hK2 i hi (fun j h hj => by simpa using hgo j h hj)
  clear hK1 hK2
  try simp only [OpK_eq, hI.2, HKv, go_sem]
  exact Kv.Fin.still hK
end Go.Proofs.YthbbjbfbeaiphaaGreat
end
section
namespace Go.Proofs.YthbbjbfbeaiphaaGreat
open Go.Kv
set_option maxRecDepth 100000
def k99 : KC := (.seq (.ops [oP 4 (.mv (iC 0))])
 (.seq (.seq (.ops [mV 6 0, oP 7 (.call (fC 72) [(.t 6), (.c (.nils))]), mV 5 7])
 (.seq (.ops [mV 8 5, oP 9 (.bin .neq (.t 8) (iC 0))])
 (.cond (.t 9) (.seq (.ops [mV 10 5, mV 4 10])
 .ret) .skip)))
 (.seq (.seq (.ops [mV 11 1, oP 12 (.len false (.t 11)), oP 13 (.bin .eql (.t 12) (iC 0)), mV 14 13, ⟨(some 15), some (14, false), .mv (.t 1)⟩, ⟨(some 16), some (14, false), .mv (.t 0)⟩, ⟨(some 17), some (14, false), .idxS 6 (.t 16) (iC 0)⟩, ⟨(some 18), some (14, false), .fieldA 0 (.t 17)⟩, ⟨(some 19), some (14, false), .load false 1 (.t 18)⟩, ⟨(some 20), some (14, false), .call (fC 100) [(.t 15), (.t 19)]⟩, ⟨(some 21), some (14, false), .not (.t 20)⟩, oP 22 (.pick (.t 14) (.c (.bool true)) (.t 21))])
 (.cond (.t 22) (.seq (.ops [oP 4 (.mv (iC 2))])
 .ret) .skip))
 (.seq (.ops [oP 4 (.mv (iC 0))])
 .ret))))
theorem e99 : Ent 99 23 [] [.t 4] k99 := ent Tryz.func99 (by kernel_rfl) (by kernel_rfl) (by kernel_rfl) (fun _ => by kernel_rfl) (by kernel_rfl)
def k36 : KC := (.seq (.ops [oP 5 (.box true (.t 2)), oP 6 (.mv (.c (.nils))), oP 7 (.mv (iC 0))])
 (.seq (.seq (.ops [mV 9 0, mV 10 1, oP 11 (.call (fC 99) [(.t 9), (.t 10)]), mV 8 11])
 (.seq (.ops [mV 12 8, oP 13 (.bin .neq (.t 12) (iC 0))])
 (.cond (.t 13) (.seq (.ops [mV 14 8, oP 6 (.mv (.c (.nils))), mV 7 14])
 .ret) .skip)))
 (.seq (.seq (.draw [oP 15 (.load false 1 (.t 5)), oP 16 (.len false (.t 15)), oP 17 (.bin .eql (.t 16) (iC 0)), mV 18 17, ⟨(some 19), some (18, false), .load false 1 (.t 5)⟩, ⟨(some 20), some (18, false), .mv (.t 0)⟩, ⟨(some 21), some (18, false), .idxS 6 (.t 20) (iC 0)⟩, ⟨(some 22), some (18, false), .fieldA 0 (.t 21)⟩, ⟨(some 23), some (18, false), .load false 1 (.t 22)⟩, ⟨(some 24), some (18, false), .pcall (fC 100) [(.t 19), (.t 23)]⟩, ⟨(some 25), some (18, false), .not (.t 24)⟩, oP 26 (.pick (.t 18) (.c (.bool true)) (.t 25))])
 (.cond (.t 26) (.seq (.ops [oP 6 (.mv (.c (.nils))), oP 7 (.mv (iC 2))])
 .ret) .skip))
 (.seq (.ops [mV 27 0, mV 28 1, oP 29 (.mkfn (.func 102) [] [(.t 5)]), oP 30 (.call (fC 101) [(.t 27), (.t 28), (fC 92), (.t 29)]), oP 31 (.extr 0 (.t 30)), oP 32 (.extr 1 (.t 30)), mV 6 31, mV 7 32])
 .ret))))
theorem e36 : Ent 36 33 [5] [.t 6, .t 7] k36 := ent Tryz.func36 (by kernel_rfl) (by kernel_rfl) (by kernel_rfl) (fun _ => by kernel_rfl) (by kernel_rfl)
def k102 : KC := (.seq (.ops [oP 3 (.mv (.c (.bool false)))])
 (.seq (.ops [mV 4 0, oP 5 (.load false 1 (.t 1)), oP 6 (.call (fC 59) [(.t 4), (.t 5)]), mV 3 6])
 .ret))
theorem e102 : Ent 102 7 [] [.t 3] k102 := ent Tryz.func102 (by kernel_rfl) (by kernel_rfl) (by kernel_rfl) (fun _ => by kernel_rfl) (by kernel_rfl)
end Go.Proofs.YthbbjbfbeaiphaaGreat
namespace Go.Proofs.YthbbjbfbeaiphaaGreat
open Go.Kv
set_option linter.unusedVariables false
set_option linter.unusedSimpArgs false
attribute [local irreducible] ACall PCall KL
def bad (P : List Int) (n : Int) : Bool := decide (P.length = 0) || !stB P n
def fsc (a : List (List Int)) (P : List Int) : Int := if lcode a [] ≠ 0 then lcode a [] else if bad P ((a.getD 0 []).getD 0 0) = true then 2 else 0
theorem p99 (a : List (List Int)) (P : List Int) (ha : a.length ≤ 1048576) (h6 : ∀ r ∈ a, r.length = 6) (hP : P.length ≤ 1048576) : Pure Tryz.prog 99 [.list (aggs a), .list (ints P)] (.int .i64 (fsc a P)) := by
 refine e99 (by simp) fun _ _ => ?_
 simp only [k99, argEnv, go_sem]
 refine (p72 _ a [] .nil ha (by simp) h6 (by simp)).go ?_
 try simp only [go_sem]
 refine ⟨fun h1 => ?_, fun h1 => ?_⟩
 ·exact Kv.Fin.still ⟨by rw [fsc, if_pos h1], rfl⟩
 ·have hv : fsc a P = if bad P ((a.getD 0 []).getD 0 0) = true then 2 else 0 := by rw [fsc, if_neg (by simp [h1])]
  obtain ⟨fs, n, rfl, hf, hl1, hl2, hn, hn1, hn5⟩ := lcode_maps h6 h1
  have h0 : 0 < fs.length := by omega
  have hk := hf _ (List.getElem_mem h0)
  have h6k := hk.mp_len
  rw [hn] at hv
  rw [map_getD h0] at hn
  try simp only [map_getD h0, h6k, hn, List.length_map, go_sem]
  refine ⟨fun h2 => ⟨by omega, fun _ => ?_⟩, fun h2 => ?_⟩
  ·refine (p100 P n hP (by omega)).go ?_
   have hb : bad P n = !stB P n := by rw [bad, decide_eq_false (by omega), Bool.false_or]
   rw [hb] at hv
   cases hs : stB P n with
   | false =>
    rw [hs] at hv
    try simp only [OpK_eq, go_sem]
    exact Kv.Fin.still ⟨by rw [hv]; rfl, rfl⟩
   | true =>
    rw [hs] at hv
    try simp only [OpK_eq, go_sem]
    exact Kv.Fin.still ⟨by rw [hv]; rfl, rfl⟩
  ·exact Kv.Fin.still ⟨by rw [hv, bad, decide_eq_true (by omega)]; rfl, rfl⟩
theorem p102 (p q : List Int) (hp : p.length ≤ 1048576) (hq : q.length ≤ 1048576) : Pure Tryz.prog 102 [.list (ints p), .fptr [.list (ints q)] 0] (.bool (decide (p = q))) := by
 refine e102 (by simp) fun _ _ => ?_
 simp only [k102, argEnv, go_sem]
 refine (p59 p q (by omega) (by omega)).go ?_
 try simp only [go_sem]
 exact Kv.Fin.still ⟨rfl, rfl⟩
noncomputable abbrev wq (fs : List (List Nat)) (p : List Int) (i : Nat) : List Met := (bq fs img (fun (_ : Unit) _ => ()) ([(p, [])], ()) i).1
theorem advN_inv {fs : List (List Nat)} {n : Nat} (hf : ∀ f ∈ fs, Ok f n) {Q : List Met} {m : Met} (hQ : ∀ x ∈ Q, asc n x.1) (hd : (Q.map Prod.fst).Nodup) (hm : asc n m.1) : ∀ k, k ≤ fs.length → (∀ x ∈ advN fs img Q m k, asc n x.1) ∧ ((advN fs img Q m k).map Prod.fst).Nodup
 | 0, _ => ⟨hQ, hd⟩
 | k + 1, hk => by
  obtain ⟨h1, h2⟩ := advN_inv hf hQ hd hm k (by omega)
  have hfk : Ok (fs.getD k []) n := by
   have : fs.getD k [] = fs[k] := by simp [List.getD_eq_getElem?_getD, show k < fs.length by omega]
   rw [this]; exact hf _ (List.getElem_mem _)
  rw [advN_succ]
  cases hany : (advN fs img Q m k).any (fun x => decide (x.1 = img (fs.getD k []) m.1)) with
  | true => rw [if_pos rfl]; exact ⟨h1, h2⟩
  | false =>
   rw [if_neg (by simp)]
   refine ⟨fun x hx => ?_, ?_⟩
   ·rcases List.mem_append.1 hx with hx | hx
    ·exact h1 x hx
    ·simp only [List.mem_singleton] at hx; subst hx
     exact img_asc hfk hm
   ·rw [List.map_append, List.nodup_append]
    refine ⟨h2, by simp, fun y hy z hz => ?_⟩
    simp only [List.map_cons, List.map_nil, List.mem_singleton] at hz
    subst hz
    obtain ⟨x, hx, rfl⟩ := List.mem_map.1 hy
    rw [List.any_eq_false] at hany
    have := hany x hx
    simpa using this
theorem wq_inv {fs : List (List Nat)} {n : Nat} (hf : ∀ f ∈ fs, Ok f n) {p : List Int} (hp : asc n p) : ∀ i, (∀ x ∈ wq fs p i, asc n x.1) ∧ ((wq fs p i).map Prod.fst).Nodup
 | 0 => ⟨fun x hx => by
   have hx : x ∈ [((p, []) : Met)] := hx
   simp only [List.mem_singleton] at hx; subst hx; exact hp, by show ([((p, []) : Met)].map Prod.fst).Nodup; simp⟩
 | i + 1 => by
  obtain ⟨h1, h2⟩ := wq_inv hf hp i
  by_cases hi : i < (wq fs p i).length
  ·have e : wq fs p (i + 1) = advN fs img (wq fs p i) (wq fs p i)[i] fs.length := congrArg Prod.fst (bq_succ hi)
   rw [e]
   exact advN_inv hf h1 h2 (h1 _ (List.getElem_mem hi)) _ (Nat.le_refl _)
  ·have e : wq fs p (i + 1) = wq fs p i := by
    show (bq fs img (fun (_ : Unit) _ => ()) ([(p, [])], ()) (i + 1)).1 = _
    rw [bq]
    have : (bq fs img (fun (_ : Unit) _ => ()) ([(p, [])], ()) i).1[i]? = none := List.getElem?_eq_none (Nat.le_of_not_lt hi)
    rw [this]
   rw [e]; exact ⟨h1, h2⟩
theorem wq_len {fs : List (List Nat)} {n : Nat} (hn : n ≤ 5) (hf : ∀ f ∈ fs, Ok f n) {p : List Int} (hp : asc n p) (i : Nat) : (wq fs p i).length ≤ 32 := by
 obtain ⟨h1, h2⟩ := wq_inv hf hp i
 have := nodup_len 32 ((wq fs p i).map fun x => bits x.1) ?_ ?_
 ·simpa using this
 ·have e : (wq fs p i).map (fun x => bits x.1) = ((wq fs p i).map Prod.fst).map bits := by rw [List.map_map]; rfl
  rw [e, List.Nodup, List.pairwise_map]
  refine List.Pairwise.imp_of_mem ?_ h2
  intro a b ha hb hab h
  obtain ⟨x, hx, rfl⟩ := List.mem_map.1 ha
  obtain ⟨y, hy, rfl⟩ := List.mem_map.1 hb
  exact hab ((bits_inj (h1 x hx) (h1 y hy)).1 h)
 ·intro x hx
  obtain ⟨y, hy, rfl⟩ := List.mem_map.1 hx
  obtain ⟨l, e, _, hl, _⟩ := h1 y hy
  rw [bits, e, toNat_map]
  exact sb_lt (n := 5) fun z hz => by have := hl z hz; omega
theorem image_asc (f : List Nat) (n : Nat) (hf : Ok f n) {p : List Int} (hp : asc n p) : Pure Tryz.prog 92 [.agg (ints (mp f)), .list (ints p)] (.list (ints (img f p))) := by
 have hl := asc_len hp
 have h5 := hf.le
 obtain ⟨l, rfl, _, h1, _⟩ := hp
 rw [List.length_map] at hl
 have := p92 f n hf l h1 (by omega) (by omega)
 unfold img
 rwa [toNat_map]
def wcd (a : List (List Int)) (P Q : List Int) : Int := if fsc a P ≠ 0 then fsc a P else if bad Q ((a.getD 0 []).getD 0 0) = true then 2 else 0
theorem fsc_zero {a : List (List Int)} {P : List Int} (h : fsc a P = 0) : lcode a [] = 0 ∧ bad P ((a.getD 0 []).getD 0 0) = false := by
 unfold fsc at h
 by_cases h1 : lcode a [] = 0
 ·rw [if_neg (by simp [h1])] at h
  refine ⟨h1, ?_⟩
  cases hb : bad P ((a.getD 0 []).getD 0 0) with
  | false => rfl
  | true => rw [hb] at h; simp at h
 ·rw [if_pos h1] at h; exact absurd h h1
theorem bad_asc {P : List Int} {n : Nat} (h : bad P n = false) : asc n P := by
 simp only [bad, Bool.or_eq_false_iff, decide_eq_false_iff_not, Bool.not_eq_false'] at h
 exact stB_asc h.2 (fun e => h.1 (by rw [e]; rfl))
theorem p36_out (a : List (List Int)) (P Q : List Int) (ha : a.length ≤ 1048576) (h6 : ∀ r ∈ a, r.length = 6) (hP : P.length ≤ 1048576) (hQ : Q.length ≤ 1048576) (hc : wcd a P Q ≠ 0) : Pure Tryz.prog 36 [.list (aggs a), .list (ints P), .list (ints Q)] (.tup [.nils, .int .i64 (wcd a P Q)]) := by
 refine e36 (by simp) fun _ _ => ?_
 simp only [k36, argEnv, go_sem]
 refine (p99 a P ha h6 hP).go ?_
 try simp only [go_sem]
 refine ⟨fun h1 => ?_, fun h1 => ?_⟩
 ·exact Kv.Fin.still ⟨by rw [wcd, if_pos h1], rfl⟩
 ·have hv : wcd a P Q = if bad Q ((a.getD 0 []).getD 0 0) = true then 2 else 0 := by rw [wcd, if_neg (by simp [h1])]
  obtain ⟨hl, _⟩ := fsc_zero h1
  obtain ⟨fs, n, rfl, hf, hl1, hl2, hn, hn1, hn5⟩ := lcode_maps h6 hl
  have h0 : 0 < fs.length := by omega
  have hk := hf _ (List.getElem_mem h0)
  have h6k := hk.mp_len
  rw [hn] at hv
  rw [map_getD h0] at hn
  have hbt : bad Q n = true := by
   cases hb : bad Q n with
   | true => rfl
   | false => rw [hb] at hv; exact absurd hv (by simpa using hc)
  rw [hbt] at hv
  try simp only [map_getD h0, h6k, hn, List.length_map, go_sem]
  refine ⟨fun h2 => ⟨by omega, fun _ => ?_⟩, fun h2 => ?_⟩
  ·refine (p100 Q n hQ (by omega)).pgo ?_
   have hs : stB Q n = false := by
    rw [bad, decide_eq_false (by omega), Bool.false_or] at hbt
    simpa using hbt
   rw [hs]
   try simp only [OpK_eq, HKv, go_sem]
   exact Kv.Fin.still ⟨by rw [hv]; rfl, rfl⟩
  ·exact Kv.Fin.still ⟨by rw [hv]; rfl, rfl⟩
theorem p36_in (fs : List (List Nat)) (n : Nat) (hf : ∀ f ∈ fs, Ok f n) (h0 : 0 < fs.length) (hfl : fs.length ≤ 6) (hl : lcode (fs.map mp) [] = 0) (P Q : List Int) (hP : bad P n = false) (hQ : bad Q n = false) (K : PV → Heap → Prop)
  (hK1 : ∀ i (h : i < (wq fs P i).length), (wq fs P i)[i].1 = Q → (∀ j (h : j < (wq fs P j).length), j < i → (wq fs P j)[j].1 ≠ Q) → ∀ x s, OwnI 2 s 0 s.length x (wq fs P i)[i].2 → Free s → K (.tup [x, .int .i64 0]) s)
  (hK2 : ∀ i, i = (wq fs P i).length → (∀ j (h : j < (wq fs P j).length), j < i → (wq fs P j)[j].1 ≠ Q) → K (.tup [.nils, .int .i64 4]) []) : ACall Tryz.prog 36 [.list (aggs (fs.map mp)), .list (ints P), .list (ints Q)] [] K := by
 have hk := hf _ (List.getElem_mem h0)
 have h6k := hk.mp_len
 have hn := hk.len
 have hn5 := hk.le
 have hn1 := hk.pos
 have haP := bad_asc hP
 have haQ := bad_asc hQ
 have hPl := asc_len haP
 have hQl := asc_len haQ
 have hst : stB Q n = true := by simp only [bad, Bool.or_eq_false_iff, Bool.not_eq_false'] at hQ; exact hQ.2
 have hc : fsc (fs.map mp) P = 0 := by
  rw [fsc, if_neg (by simp [hl]), map_getD h0]
  have : (mp fs[0]).getD 0 0 = (n : Int) := by simp [mp, mpN, hn]
  rw [this, hP]; rfl
 refine e36 (by simp) fun _ _ => ?_
 simp only [k36, argEnv, go_sem]
 refine (p99 _ P (by simp; omega) (fun r hr => by obtain ⟨f, hf', rfl⟩ := List.mem_map.1 hr; exact (hf f hf').mp_len) (by omega)).go ?_
 rw [hc]
 try simp only [map_getD h0, h6k, hn, List.length_map, go_sem]
 refine ⟨fun h2 => ⟨by omega, fun _ => ?_⟩, fun h2 => absurd h2 (by omega)⟩
 refine (p100 Q n (by omega) (by omega)).pgo ?_
 rw [hst]
 try simp only [OpK_eq, HKv, go_sem]
 refine p101 fs n hf (by omega) 92 img (asc n) (fun p hp => by have := asc_len hp; omega) (fun f hf' p hp => img_asc (hf f hf') hp) (fun f hf' p hp => image_asc f n (hf f hf') hp)
  102 [.fptr [.list (ints Q)] 0] (fun p => decide (p = Q)) (fun p hp => p102 p Q (by have := asc_len hp; omega) (by omega)) P haP 32 (by omega) (fun i => wq_len hn5 hf haP i) _ (fun i hi his hno x s hx hs => ?_) (fun i hi hno => ?_)
 ·have hK := hK1 i hi (by simpa using his) (fun j h hj => by simpa using hno j h hj) x s hx hs
  clear hK1 hK2
  try simp only [OpK_eq, HKv, go_sem]
  exact Kv.Fin.now hK
 ·have hK := hK2 i hi (fun j h hj => by simpa using hno j h hj)
  clear hK1 hK2
  try simp only [OpK_eq, HKv, go_sem]
  exact Kv.Fin.now hK
end Go.Proofs.YthbbjbfbeaiphaaGreat
end
section
namespace Go.Proofs.YthbbjbfbeaiphaaGreat
open Go.Kv
set_option maxRecDepth 100000
def k33_b0 : KC := (.seq (.seq (.draw [oP 13 (.load false 1 (.t 6)), mV 14 0, oP 15 (.idxS 6 (.t 14) (iC 0)), oP 16 (.fieldA 0 (.t 15)), oP 17 (.load false 1 (.t 16)), oP 18 (.bin .shl (iC 1) (.t 17)), oP 19 (.bin .lss (.t 13) (.t 18))])
 (.cond (.t 19) .skip (.exit 0)))
 (.seq (.block 1 (.seq (.ops [mV 22 0, oP 23 (.idxS 6 (.t 22) (iC 0)), oP 24 (.fieldA 0 (.t 23)), oP 25 (.load false 1 (.t 24)), oP 26 (.call (fC 62) [(.t 25)]), oP 27 (.mkfn (.func 88) [] [(.t 6)]), oP 28 (.call (fC 87) [(.t 26), (.t 27)]), oP 7 (.alloc [.nils]), ⟨none, none, .store 1 (.t 7) (.t 28)⟩])
 (.seq (.ops [mV 29 0, oP 30 (.mkfn (.func 90) [] [(.t 7), (.t 6)]), oP 31 (.call (fC 89) [(.t 29), (.t 30)]), oP 32 (.not (.t 31))])
 (.cond (.t 32) (.ops [mV 33 5, oP 34 (.load false 1 (.t 7)), oP 35 (.bsl true 27 1 [(.t 34)]), oP 36 (.app (.t 33) (.t 35) 27 1), mV 5 36]) .skip))))
 (.seq (.seq (.ops [oP 37 (.load false 1 (.t 6))])
 (.ops [oP 6 (.alloc [.int .i64 0]), ⟨none, none, .store 1 (.t 6) (.t 37)⟩]))
 (.ops [oP 20 (.load false 1 (.t 6)), oP 21 (.bin .add (.t 20) (iC 1)), ⟨none, none, .store 1 (.t 6) (.t 21)⟩]))))
def k33 : KC := (.seq (.ops [oP 2 (.mv (.c (.nils))), oP 3 (.mv (iC 0))])
 (.seq (.seq (.ops [mV 8 0, oP 9 (.call (fC 72) [(.t 8), (.c (.nils))]), mV 4 9])
 (.seq (.ops [mV 10 4, oP 11 (.bin .neq (.t 10) (iC 0))])
 (.cond (.t 11) (.seq (.ops [mV 12 4, oP 2 (.mv (.c (.nils))), mV 3 12])
 .ret) .skip)))
 (.seq (.ops [oP 5 (.mv (.c (.nils)))])
 (.seq (.seq (.ops [oP 6 (.alloc [.int .i64 0]), ⟨none, none, .store 1 (.t 6) (iC 1)⟩])
 (.block 0 (.loop k33_b0)))
 (.seq (.ops [mV 38 5, oP 39 (.call (fC 93) [(.t 38), (fC 94)])])
 (.seq (.ops [mV 40 5, mV 2 40, oP 3 (.mv (iC 0))])
 .ret))))))
theorem e33 : Ent 33 41 [35] [.t 2, .t 3] k33 := ent Tryz.func33 (by kernel_rfl) (by kernel_rfl) (by kernel_rfl) (fun _ => by kernel_rfl) (by kernel_rfl)
def k88 : KC := (.seq (.ops [oP 3 (.mv (.c (.bool false)))])
 (.seq (.ops [oP 4 (.load false 1 (.t 1)), mV 5 0, oP 6 (.bin .shr (.t 4) (.t 5)), oP 7 (.bin .and (.t 6) (iC 1)), oP 8 (.bin .eql (.t 7) (iC 0)), mV 3 8])
 .ret))
theorem e88 : Ent 88 9 [] [.t 3] k88 := ent Tryz.func88 (by kernel_rfl) (by kernel_rfl) (by kernel_rfl) (fun _ => by kernel_rfl) (by kernel_rfl)
def k90 : KC := (.seq (.ops [oP 3 (.box true (.t 0)), oP 4 (.mv (.c (.bool false)))])
 (.seq (.draw [oP 5 (.load true 6 (.t 3)), oP 6 (.load false 1 (.t 1)), oP 9 (.load false 1 (.t 2)), oP 7 (.pcall (fC 92) [(.t 5), (.t 6)]), oP 8 (.pcall (fC 91) [(.t 7)]), oP 10 (.bin .andNot (.t 8) (.t 9)), oP 11 (.bin .neq (.t 10) (iC 0)), mV 4 11])
 .ret))
theorem e90 : Ent 90 12 [3] [.t 4] k90 := ent Tryz.func90 (by kernel_rfl) (by kernel_rfl) (by kernel_rfl) (fun _ => by kernel_rfl) (by kernel_rfl)
def k91_b0 : KC := (.seq (.ops [oP 9 (.bin .lss (.t 8) (.t 7))])
 (.seq (.cond (.t 9) .skip (.exit 0))
 (.seq (.block 1 (.seq (.ops [oP 10 (.idxS 1 (.t 6) (.t 8)), oP 11 (.load false 1 (.t 10)), mV 5 11])
 (.ops [mV 12 3, mV 13 5, oP 14 (.bin .shl (iC 1) (.t 13)), oP 15 (.bin .or (.t 12) (.t 14)), mV 3 15])))
 (.ops [oP 16 (.bin .add (.t 8) (iC 1)), mV 8 16]))))
def k91 : KC := (.seq (.ops [oP 2 (.mv (iC 0))])
 (.seq (.ops [oP 3 (.mv (iC 0))])
 (.seq (.seq (.ops [mV 6 0, oP 7 (.len false (.t 6)), oP 8 (.mv (iC 0))])
 (.block 0 (.loop k91_b0)))
 (.seq (.ops [mV 17 3, mV 2 17])
 .ret))))
theorem e91 : Ent 91 18 [] [.t 2] k91 := ent Tryz.func91 (by kernel_rfl) (by kernel_rfl) (by kernel_rfl) (fun _ => by kernel_rfl) (by kernel_rfl)
def k89 : KC := (.seq (.ops [oP 4 (.mv (.c (.bool false)))])
 (.seq (.ops [mV 5 0, mV 6 1, oP 7 (.call (fC 143) [(.t 5), (.t 6)]), oP 8 (.bin .geq (.t 7) (iC 0)), mV 4 8])
 .ret))
theorem e89 : Ent 89 9 [] [.t 4] k89 := ent Tryz.func89 (by kernel_rfl) (by kernel_rfl) (by kernel_rfl) (fun _ => by kernel_rfl) (by kernel_rfl)
end Go.Proofs.YthbbjbfbeaiphaaGreat
namespace Go.Proofs.YthbbjbfbeaiphaaGreat
open Go.Kv
set_option linter.unusedVariables false
set_option linter.unusedSimpArgs false
attribute [local irreducible] ACall PCall KL
variable {e2 e1 : TypeId} {σ : Heap} {t : List (List Int)}
theorem tab_pushB {v : PV} (h : TabN e2 e1 σ v t) {τ : Heap} {l : List Int} {r : Rw} (hr : r.at e1 (σ ++ τ) l) (hge : r.nil = false → σ.length ≤ r.id) (hn : t.length < 4294967296) {K : PV → Heap → Prop}
  (hK : ∀ v' σ', TabN e2 e1 σ' v' (t ++ [l]) → (∀ o ∈ σ', o ∈ σ ++ τ ∨ ∃ ver rs, o = .arr ver e2 1 (pvs rs (t ++ [l]))) → (∀ (j : Nat) cs, (σ ++ τ)[j]? = some (.box cs) → σ'[j]? = some (.box cs)) → K v' σ') : aApp e2 1 v (.list [r.pv l]) (σ ++ τ) K := by
 have hok : okL 1 [r.pv l] := by
  rcases pv_cases r l with e | ⟨a, b, c, d, e⟩ <;> rw [e] <;> simp [okL, PV.cs, PV.ok]
 cases h with
 | nil =>
  rw [aApp_nils, aNews_list, AppN_def]
  refine ⟨hok, by simp, ?_⟩
  refine hK _ _ (.tab (σ ++ τ).length 0 [r] [l] ⟨⟨[], by simp [pvs]⟩, rfl, fun i q m hq hm => ?_, fun i j q p hq hp _ _ _ => ?_, fun q hq hqn => ?_⟩) (fun o ho => ?_) (fun j cs hj => by rw [List.getElem?_append_left (List.getElem?_eq_some_iff.1 hj).1]; exact hj)
  ·cases i with
   | zero =>
    simp at hq hm; subst hq; subst hm
    exact hr.keep fun hrn => List.getElem?_append_left (List.getElem?_eq_some_iff.1 (hr.ow hrn)).1
   | succ i => simp at hq
  ·have h1 := (List.getElem?_eq_some_iff.1 hq).1
   have h2 := (List.getElem?_eq_some_iff.1 hp).1
   simp at h1 h2; omega
  ·simp at hq; subst hq
   have := (List.getElem?_eq_some_iff.1 (hr.ow hqn)).1
   omega
  ·rcases List.mem_append.1 ho with ho | ho
   ·exact .inl ho
   ·simp at ho; subst ho; exact .inr ⟨0, [r], by simp [pvs]⟩
 | tab id ver rs t h =>
  obtain ⟨junk, ho⟩ := (h.append τ).out
  have hpl := pvs_length h.len
  have hlt := h.lt
  have hid : id < (σ ++ τ).length := by simp; omega
  rw [aApp_ref, ho, AppR_arr, aNews_list, AppM_def]
  refine ⟨hok, ⟨rfl, rfl, rfl, rfl, by simp [hpl], by simp; omega⟩, ?_⟩
  have hself : ∀ o, ((σ ++ τ).set id o)[id]? = some o := fun o => List.getElem?_set_self hid
  have ht : t.length + [r.pv l].length = (t ++ [l]).length := by simp
  have htk : (pvs rs t ++ junk).take t.length ++ [r.pv l] = pvs (rs ++ [r]) (t ++ [l]) := by
   rw [pvs_snoc h.len, ← hpl, List.take_left]
  rw [ht, htk]
  refine hK _ _ (.tab id (ver + 1) (rs ++ [r]) (t ++ [l]) ⟨⟨[], ?_⟩, by simp [h.len], fun i q m hq hm => ?_, fun i j q p hq hp h1 h2 h3 => ?_, fun q hq hqn => ?_⟩) (fun o ho => ?_) (fun j cs hj => by
   have hne : id ≠ j := fun e => by subst e; rw [ho] at hj; cases hj
   rw [List.getElem?_set_ne hne]; exact hj)
  ·rw [hself, List.append_nil]
  ·rw [List.getElem?_append] at hq hm
   split at hq
   ·rename_i hi
    rw [if_pos (by rw [← h.len]; exact hi)] at hm
    exact ((h.append τ).row i q m hq hm).keep fun hqn => List.getElem?_set_ne (Ne.symm (h.ni q (List.mem_of_getElem? hq) hqn))
   ·rename_i hi
    rw [if_neg (by rw [← h.len]; exact hi)] at hm
    have e1 := List.mem_of_getElem? hq
    have e2 := List.mem_of_getElem? hm
    simp at e1 e2; subst e1; subst e2
    exact hr.keep fun hrn => List.getElem?_set_ne (by have := hge hrn; omega)
  ·rw [List.getElem?_append] at hq hp
   have hlast : ∀ (k : Nat) (x : Rw), ¬ k < rs.length → [r][k - rs.length]? = some x → x = r ∧ k = rs.length := fun k x hk hx => by
    have h5 := (List.getElem?_eq_some_iff.1 hx).1
    have h4 := List.mem_of_getElem? hx
    simp at h4 h5
    exact ⟨h4, by omega⟩
   split at hq <;> split at hp
   ·exact h.nd i j q p hq hp h1 h2 h3
   ·rename_i hj
    obtain ⟨rfl, _⟩ := hlast j p hj hp
    have := hlt.2 q (List.mem_of_getElem? hq) h1
    have := hge h2
    omega
   ·rename_i hi _
    obtain ⟨rfl, _⟩ := hlast i q hi hq
    have := hlt.2 p (List.mem_of_getElem? hp) h2
    have := hge h1
    omega
   ·rename_i hi hj
    obtain ⟨_, rfl⟩ := hlast i q hi hq
    obtain ⟨_, rfl⟩ := hlast j p hj hp
    rfl
  ·rcases List.mem_append.1 hq with hq | hq
   ·exact h.ni q hq hqn
   ·simp at hq; subst hq
    have := hge hqn
    omega
  ·rcases List.mem_or_eq_of_mem_set ho with ho | rfl
   ·exact .inl ho
   ·exact .inr ⟨_, _, rfl⟩
def mvb (f : List Nat) (n x : Nat) : Nat := sb ((pof x n).map fun p => f.getD p 0)
def okS (fs : List (List Nat)) (n x : Nat) : Bool := fs.all fun f => decide (mvb f n x ||| x = x)
def goods (fs : List (List Nat)) (n x : Nat) : List Nat := (List.range x).filter fun b => decide (1 ≤ b) && okS fs n b
theorem goods_succ (fs : List (List Nat)) (n : Nat) {x : Nat} (h : 1 ≤ x) : goods fs n (x + 1) = goods fs n x ++ if okS fs n x = true then [x] else [] := by
 unfold goods
 rw [List.range_succ, List.filter_append]
 congr 1
 by_cases h2 : okS fs n x = true <;> simp [h, h2]
theorem goods_len (fs : List (List Nat)) (n x : Nat) : (goods fs n x).length ≤ x := by
 have := List.length_filter_le (fun b => decide (1 ≤ b) && okS fs n b) (List.range x)
 simpa [goods] using this
theorem goods_mem {fs : List (List Nat)} {n x b : Nat} : b ∈ goods fs n x ↔ b < x ∧ 1 ≤ b ∧ okS fs n b = true := by
 unfold goods
 rw [List.mem_filter, List.mem_range, Bool.and_eq_true, decide_eq_true_iff]
def rowsG (fs : List (List Nat)) (n x : Nat) : List (List Int) := (goods fs n x).map fun b => nz (pof b n)
theorem mvb_lt {f : List Nat} {n : Nat} (hf : Ok f n) (x : Nat) : mvb f n x < 2 ^ n := sb_lt fun y hy => by
 obtain ⟨p, _, rfl⟩ := List.mem_map.1 hy
 exact hf.get' p
theorem pw5 {n : Nat} (h : n ≤ 5) : 2 ^ n ≤ 32 := by
 have : n = 0 ∨ n = 1 ∨ n = 2 ∨ n = 3 ∨ n = 4 ∨ n = 5 := by omega
 rcases this with rfl | rfl | rfl | rfl | rfl | rfl <;> decide
theorem lt62 {n x : Nat} (h5 : n ≤ 5) (h : x < 2 ^ n) : x < 2 ^ 62 := by
 have := pw5 h5
 have : (32 : Nat) < 2 ^ 62 := by decide
 omega
theorem pof62 {n x : Nat} (h5 : n ≤ 5) (h : x < 2 ^ n) : pof x 62 = pof x n := by
 have := pof_ext h (62 - n)
 rwa [show n + (62 - n) = 62 by omega] at this
theorem pof_ne {n x : Nat} (h1 : 1 ≤ x) (h : x < 2 ^ n) : pof x n ≠ [] := fun e => by
 have := pof_lt h
 rw [e] at this
 simp [sb] at this; omega
theorem pof_mlt {n x y : Nat} (h : y ∈ pof x n) : y < n := by
 have := (List.mem_filter.1 h).1
 simpa using this
theorem asc_pof {n x : Nat} (h1 : 1 ≤ x) (h : x < 2 ^ n) : asc n (nz (pof x n)) := ⟨pof x n, rfl, pof_ne h1 h, fun y hy => pof_mlt hy, pof_asc x n⟩
theorem bits_pof {f : List Nat} {n x : Nat} (h1 : 1 ≤ x) (h : x < 2 ^ n) : bits (img f (nz (pof x n))) = mvb f n x := by
 rw [bits_img (asc_pof h1 h)]
 unfold mvb nz
 rw [toNat_map]
theorem p91 {n : Nat} (hn : n ≤ 5) {p : List Int} (hp : asc n p) : Pure Tryz.prog 91 [.list (ints p)] (.int .i64 (bits p)) := by
 have hpl := asc_len hp
 obtain ⟨l, rfl, _, hl, _⟩ := hp
 rw [List.length_map] at hpl
 have hb0 : bits (l.map fun x : Nat => (x : Int)) = sb l := by unfold bits; rw [toNat_map]
 rw [hb0]
 refine e91 (by simp) fun _ _ => ?_
 simp only [k91, argEnv, List.length_map, go_sem]
 refine KL_ind k91_b0.eq_1 (fun x : Nat => [(3, .int .i64 (sb (l.take x))), (6, .list (ints (l.map fun x : Nat => (x : Int)))), (7, .int .i64 l.length), (8, .int .i64 x)]) (fun _ => []) (fun x => x ≤ l.length) (fun x => l.length - x) [3, 6, 7, 8] 0 (by rfl) rfl (Nat.zero_le _) fun x hx ih => ?_
 have hb : sb (l.take x) < 2 ^ 62 := Nat.lt_trans (sb_lt (n := 5) fun y hy => by have := hl y (List.mem_of_mem_take hy); omega) (by decide)
 have hnat : (l.map fun x : Nat => (x : Int)).getD x 0 = (l.getD x 0 : Int) := nzD l x
 by_cases hxl : x < l.length
 ·have hp5 : l.getD x 0 < 5 := by rw [getD_eq hxl]; have := hl _ (List.getElem_mem hxl); omega
  have hb2 : 2 ^ l.getD x 0 < 2 ^ 62 := Nat.pow_lt_pow_right (by omega) (by omega)
  have hp61 : l.getD x 0 ≤ 61 := by omega
  try simp only [List.length_map, hnat, aBin_shl1 hp61, aBin_or hb hb2, go_sem]
  refine ⟨fun h1 => ⟨by omega, fun _ => ⟨by omega, ih (x + 1) (by omega) (by omega) _ _ ?_ rfl⟩⟩, fun h1 => absurd h1 (by omega)⟩
  rw [List.take_succ_eq_append_getElem hxl, sb_snoc, getD_eq hxl]
  rfl
 ·obtain rfl : x = l.length := by omega
  try simp only [List.length_map, List.take_length, go_sem]
  refine ⟨fun h => absurd h (by omega), fun _ => ?_⟩
  exact Kv.Fin.still ⟨rfl, rfl⟩
theorem p88 (q x : Nat) (hq : q ≤ 61) (hx : x < 2 ^ 62) : Pure Tryz.prog 88 [.int .i64 q, .fptr [.int .i64 x] 0] (.bool (!x.testBit q)) := by
  refine e88 (by simp) fun _ _ => ?_
  simp only [k88, argEnv, aBin_shr (show q ≤ 63 by omega), aBin_and1 (shr_le hx), go_sem]
  refine Kv.Fin.still ⟨?_, rfl⟩
  cases hb : x.testBit q with
  | true => rw [decide_eq_false]; rfl
            rw [bit_zero, hb]; simp
  | false => rw [decide_eq_true]; rfl
             rw [bit_zero, hb]
theorem aInt_andNot (a b : Int) (K : PV → Prop) : aInt .andNot .i64 a b K = K (.int .i64 (IntKind.i64.wrap ((BitVec.ofInt IntKind.i64.bits a &&& ~~~BitVec.ofInt IntKind.i64.bits b).toNat : Int))) := Eq.trans rfl rfl
theorem andNot_zero {a b : Nat} (ha : a < 2 ^ 62) (hb : b < 2 ^ 62) : ((IntKind.i64.wrap ((BitVec.ofInt IntKind.i64.bits (a : Int) &&& ~~~BitVec.ofInt IntKind.i64.bits (b : Int)).toNat : Int)) = 0) ↔ (a ||| b = b) := by
  show ((IntKind.i64.wrap ((BitVec.ofInt 64 (a : Int) &&& ~~~BitVec.ofInt 64 (b : Int)).toNat : Int)) = 0) ↔ _
  have ta : (BitVec.ofInt 64 (a : Int)).toNat = a := by rw [ofInt_nat, (Go.Kv.p62 ha)]
  have tb : (BitVec.ofInt 64 (b : Int)).toNat = b := by rw [ofInt_nat, (Go.Kv.p62 hb)]
  have key : ∀ i, (BitVec.ofInt 64 (a : Int) &&& ~~~BitVec.ofInt 64 (b : Int)).toNat.testBit i = (a.testBit i && (decide (i < 64) && !b.testBit i)) := fun i => by
    rw [BitVec.testBit_toNat, BitVec.getLsbD_and, BitVec.getLsbD_not, ← BitVec.testBit_toNat, ← BitVec.testBit_toNat, ta, tb]
  have hle : (BitVec.ofInt 64 (a : Int) &&& ~~~BitVec.ofInt 64 (b : Int)).toNat ≤ a := by
    rw [BitVec.toNat_and, ta]; exact Nat.and_le_left
  generalize (BitVec.ofInt 64 (a : Int) &&& ~~~BitVec.ofInt 64 (b : Int)).toNat = v at *
  rw [wrap_i64 (by have : (2 : Nat) ^ 62 < 9223372036854775808 := by decide
                   omega)]
  have hv : ((v : Int) = 0) ↔ v = 0 := by omega
  rw [hv]
  constructor
  · intro h0
    subst h0
    apply Nat.eq_of_testBit_eq
    intro i
    have := key i
    rw [Nat.zero_testBit] at this
    rw [Nat.testBit_or]
    by_cases hi : i < 64
    · rw [decide_eq_true hi] at this
      generalize a.testBit i = p at *
      generalize b.testBit i = q at *
      revert this
      cases p <;> cases q <;> simp
    · have : a.testBit i = false := Nat.testBit_lt_two_pow (Nat.lt_of_lt_of_le ha (Nat.pow_le_pow_right (by omega) (by omega)))
      rw [this]; rfl
  · intro h
    apply Nat.eq_of_testBit_eq
    intro i
    rw [key, Nat.zero_testBit]
    have hor : (a.testBit i || b.testBit i) = b.testBit i := by rw [← Nat.testBit_or, h]
    generalize a.testBit i = p at *
    generalize b.testBit i = q at *
    revert hor
    cases p <;> cases q <;> simp
theorem p90 (f : List Nat) (n : Nat) (hf : Ok f n) (x : Nat) (h1 : 1 ≤ x) (hx : x < 2 ^ n) : Pure Tryz.prog 90 [.agg (ints (mp f)), .fptr [.list (ints (nz (pof x n)))] 0, .fptr [.int .i64 x] 0] (.bool (!decide (mvb f n x ||| x = x))) := by
 have hlf := hf.mp_len
 have ha := asc_pof h1 hx
 have hm := mvb_lt hf x
 refine e90 (by simp) fun _ _ => ?_
 simp only [k90, argEnv, hlf, go_sem]
 refine (image_asc f n hf ha).fgo ?_
 try simp only [OpK_eq, HKv, go_sem]
 refine (p91 hf.le (img_asc hf ha)).pgo ?_
 rw [bits_pof h1 hx]
 try simp only [OpK_eq, HKv, go_sem]
 rw [aInt_andNot]
 try simp only [OpK_eq, HKv, go_sem]
 refine Kv.Fin.still ⟨?_, rfl⟩
 congr 2
 exact decide_eq_decide.2 (andNot_zero (lt62 hf.le hm) (lt62 hf.le hx))
theorem p89 (l : List (List Int)) (hm : ∀ x ∈ l, x.length = 6) (hl : l.length ≤ 4294967296) (fid : FuncId) (caps : List PV) [hc : StillL caps] (p : List Int → Bool) (hp : ∀ x ∈ l, Pure Tryz.prog fid (.agg (ints x) :: caps) (.bool (p x))) :
  Pure Tryz.prog 89 [.list (aggs l), .fn (.func fid) [] caps] (.bool (l.any p)) := by
 refine e89 (by simp) fun _ _ => ?_
 simp only [k89, argEnv, go_sem]
 refine (p143 l hm hl fid caps p hp).go ?_
 try simp only [OpK_eq, HKv, go_sem]
 refine Kv.Fin.still ⟨?_, rfl⟩
 cases hany : l.any p with
 | false => rw [idx_none hany, decide_eq_false (by omega)]
 | true =>
  obtain ⟨i0, hi0, hno, hyes⟩ := any_split hany
  rw [idx_some hi0 hno hyes, decide_eq_true (by omega)]
theorem filter_pts (x n : Nat) : (pts n).filter (fun y => !(!x.testBit y.toNat)) = nz (pof x n) := by
 unfold pts mk nz pof
 rw [List.filter_map]
 congr 1
 refine List.filter_congr fun q _ => ?_
 simp
theorem or_full {m n : Nat} (h : m < 2 ^ n) : m ||| (2 ^ n - 1) = 2 ^ n - 1 := by
 apply Nat.eq_of_testBit_eq
 intro i
 rw [Nat.testBit_or, Nat.testBit_two_pow_sub_one]
 by_cases hi : i < n
 ·simp [hi]
 ·have : m.testBit i = false := Nat.testBit_lt_two_pow (Nat.lt_of_lt_of_le h (Nat.pow_le_pow_right (by omega) (by omega)))
  simp [this, hi]
theorem full_good {fs : List (List Nat)} {n : Nat} (hf : ∀ f ∈ fs, Ok f n) (h1 : 1 ≤ n) : 2 ^ n - 1 ∈ goods fs n (2 ^ n) := by
 have : 2 ≤ 2 ^ n := by
  have := Nat.pow_le_pow_right (show 0 < 2 by omega) h1
  simpa using this
 refine goods_mem.2 ⟨by omega, by omega, ?_⟩
 unfold okS
 rw [List.all_eq_true]
 exact fun f hff => decide_eq_true (or_full (mvb_lt (hf f hff) _))
theorem rowsG_nodup (fs : List (List Nat)) {n x : Nat} (h : x ≤ 2 ^ n) : (rowsG fs n x).Nodup := by
 rw [rowsG, List.nodup_iff_pairwise_ne, List.pairwise_map]
 have hp : (goods fs n x).Pairwise (· < ·) := List.Pairwise.filter _ List.pairwise_lt_range
 refine hp.imp_of_mem fun {a b} ha hb hab e => ?_
 have h1 := (goods_mem.1 ha).1
 have h2 := (goods_mem.1 hb).1
 have := pof_inj (by omega : a < 2 ^ n) (by omega : b < 2 ^ n) (nz_inj e)
 omega
end Go.Proofs.YthbbjbfbeaiphaaGreat
end
section
namespace Go.Proofs.YthbbjbfbeaiphaaGreat
open Go.Kv
set_option linter.unusedVariables false
set_option linter.unusedSimpArgs false
attribute [local irreducible] ACall PCall KL
def insS (fs : List (List Nat)) (n : Nat) : Nat → List Nat
 | 0 => []
 | x + 1 => if 1 ≤ x ∧ okS fs n x = true then putB (insS fs n x) x else insS fs n x
theorem insS_mem (fs : List (List Nat)) (n : Nat) : ∀ x b, b ∈ insS fs n x ↔ b ∈ goods fs n x
 | 0, b => by simp [insS, goods]
 | x + 1, b => by
  have ih := insS_mem fs n x b
  unfold insS
  by_cases h : 1 ≤ x ∧ okS fs n x = true
  ·rw [if_pos h, putB_mem, ih, goods_mem, goods_mem]
   constructor
   ·rintro (rfl | ⟨h1, h2⟩)
    ·exact ⟨by omega, h⟩
    ·exact ⟨by omega, h2⟩
   ·rintro ⟨h1, h2⟩
    by_cases e : b = x
    ·exact .inl e
    ·exact .inr ⟨by omega, h2⟩
  ·rw [if_neg h, ih, goods_mem, goods_mem]
   constructor
   ·rintro ⟨h1, h2⟩; exact ⟨by omega, h2⟩
   ·rintro ⟨h1, h2⟩
    refine ⟨?_, h2⟩
    by_cases e : b = x
    ·subst e; exact absurd h2 h
    ·omega
theorem insS_srt (fs : List (List Nat)) (n : Nat) : ∀ x, x ≤ 2 ^ 62 → Srt (insS fs n x)
 | 0, _ => ⟨.nil, by simp [insS]⟩
 | x + 1, h => by
  have ih := insS_srt fs n x (by omega)
  unfold insS
  split
  ·exact putB_srt ih (by omega)
  ·exact ih
theorem insS_len (fs : List (List Nat)) (n x : Nat) (h : x ≤ 2 ^ 62) : (insS fs n x).length ≤ x := by
 have hs := insS_srt fs n x h
 have := nodup_len x (insS fs n x) (srt_nodup hs) fun b hb => ((goods_mem.1 ((insS_mem fs n x b).1 hb))).1
 exact this
theorem rows_final {fs : List (List Nat)} {n : Nat} (h5 : n ≤ 5) {t : List (List Int)} (hp : t.Perm (rowsG fs n (2 ^ n))) (hs : t.Pairwise (fun a b => stc a b ≤ 0)) : t = rowsB (insS fs n (2 ^ n)) := by
 have h32 := pw5 h5
 refine rowsB_uniq (insS_srt fs n _ (Nat.le_trans h32 (by decide))) (hp.nodup_iff.2 (rowsG_nodup fs (Nat.le_refl _))) (fun r => ?_) hs
 rw [hp.mem_iff, rowsG, rowsB, List.mem_map, List.mem_map]
 constructor
 ·rintro ⟨b, hb, rfl⟩
  exact ⟨b, (insS_mem fs n _ b).2 hb, by rw [pof62 h5 (goods_mem.1 hb).1]⟩
 ·rintro ⟨b, hb, rfl⟩
  have hb := (insS_mem fs n _ b).1 hb
  exact ⟨b, hb, by rw [pof62 h5 (goods_mem.1 hb).1]⟩
theorem p33_in (fs : List (List Nat)) (n : Nat) (hf : ∀ f ∈ fs, Ok f n) (h0 : 0 < fs.length) (hfl : fs.length ≤ 6) (hl : lcode (fs.map mp) [] = 0) : NewTO Tryz.prog 33 [.list (aggs (fs.map mp))] 27 2 (rowsB (insS fs n (2 ^ n))) 0 := by
 have hk := hf _ (List.getElem_mem h0)
 have h6k := hk.mp_len
 have h5 := hk.le
 have h1 := hk.pos
 have h32 := pw5 h5
 have hn : (mp fs[0]).getD 0 0 = (n : Int) := by simp [mp, mpN, hk.len]
 have hn61 : n ≤ 61 := by omega
 refine NewTN.own ?_
 unfold NewTN
 have hput : ∀ a v, putC [PV.int .i64 a] 0 [v] = [v] := fun a v => by unfold putC; first | rfl | (split <;> rfl) | simp
 have hput2 : ∀ v, putC [PV.nils] 0 [v] = [v] := fun v => by unfold putC; first | rfl | (split <;> rfl) | simp
 refine e33 (by simp) fun _ _ => ?_
 simp only [k33, argEnv, go_sem]
 refine (p72 _ (fs.map mp) [] .nil (by simp; omega) (by simp) (fun r hr => by obtain ⟨f, hf', rfl⟩ := List.mem_map.1 hr; exact (hf f hf').mp_len) (by simp)).go ?_
 rw [hl]
 try simp only [OpK_eq, HKv, hput, go_sem]
 refine KL_ind k33_b0.eq_1 (fun x : Nat × PV × Heap × Nat => [(0, .list (aggs (fs.map mp))), (5, x.2.1), (6, .ptr x.2.2.2 0)]) (fun x => x.2.2.1) (fun x => 1 ≤ x.1 ∧ x.1 ≤ 2 ^ n ∧ x.2.2.1[x.2.2.2]? = some (.box [.int .i64 x.1]) ∧ TabN 27 2 x.2.2.1 x.2.1 (rowsG fs n x.1) ∧ Free x.2.2.1) (fun x => 2 ^ n - x.1) [0, 5, 6] (1, .nils, [.box [.int .i64 1]], 0) (by simp [keep]) rfl ⟨Nat.le_refl _, Nat.pos_of_ne_zero (by simp), rfl, ?_, Free.boxI [1]⟩ fun ⟨x, v, σ, bid⟩ ⟨hx1, hx, hbx, hT, hfr⟩ ih => ?_
 ·have : rowsG fs n 1 = [] := by simp [rowsG, goods]
  rw [this]; exact .nil
 simp only at hx1 hx hbx hT hfr
 have hgl : (rowsG fs n x).length ≤ x := by rw [rowsG, List.length_map]; exact goods_len fs n x
 try simp only [OpK_eq, HKv, hbx, map_getD h0, h6k, hn, List.length_map, aBin_shl1 hn61, go_sem]
 refine ⟨by omega, fun _ => ⟨fun h2 => ⟨by omega, fun _ => ?_⟩, fun h2 => ?_⟩⟩
 ·have hxn : x < 2 ^ n := by omega
  have hbl := (List.getElem?_eq_some_iff.1 hbx).1
  have hpn : (pts n).length = n := by simp [pts, mk]
  have hsu : rowsG fs n (x + 1) = rowsG fs n x ++ if okS fs n x = true then [nz (pof x n)] else [] := by
   rw [rowsG, goods_succ fs n hx1, List.map_append]
   by_cases h : okS fs n x = true <;> simp [h, rowsG]
  refine (p62 n (by omega)).go fun v1 s1 ⟨hv1, hs1⟩ => ?_
  subst hv1; subst hs1
  have hself : ∀ a : AObj, (σ ++ [a])[σ.length]? = some a := fun a => by simp
  have hset : ∀ a b : AObj, (σ ++ [a]).set σ.length b = σ ++ [b] := fun a b => by simp [List.set_append_right]
  have hold : ∀ s : Heap, (σ ++ s)[bid]? = some (.box [.int .i64 x]) := fun s => by rw [List.getElem?_append_left hbl]; exact hbx
  try simp only [OpK_eq, HKv, ren_ref, ren_arr, ren_ints, go_sem]
  refine delOn (hself _) (by omega) 88 _ [.fptr [.int .i64 x] 0] (.cons (Imm.ptr1 ?_ rfl Imm.still) (.nil _)) (StillL.up inferInstance) (fun y => !x.testBit y.toNat) (fun y hy => ?_) fun post => ?_
  ·rw [hset]; exact hold _
  ·obtain ⟨z, hz', rfl⟩ := List.mem_map.1 (show y ∈ (List.range n).map (fun i : Nat => (i : Int)) from hy)
   have hz : z < n := by simpa using hz'
   exact p88 z x (by omega) (lt62 h5 hxn)
  rw [hset, filter_pts]
  have hrow := pof_ne hx1 hxn
  have hpl : (pof x n).length ≤ n := pof_le x n
  have hself2 : ∀ a b : AObj, (σ ++ [a, b])[σ.length + 1]? = some b := fun a b => by simp
  have hset2 : ∀ a b c : AObj, (σ ++ [a, b]).set (σ.length + 1) c = σ ++ [a, c] := fun a b c => by rw [List.set_append_right _ _ (by omega)]; simp
  have hsn : ∀ a b : AObj, (σ ++ [a]) ++ [b] = σ ++ [a, b] := fun a b => by simp
  try simp only [OpK_eq, HKv, hsn, hself2, hset2, hput2, List.length_append, List.length_singleton, go_sem]
  have hlen2 : ∀ a b : AObj, (σ ++ [a, b]).length = σ.length + 2 := fun a b => by simp
  have hg0 : ∀ a b : AObj, (σ ++ [a, b])[σ.length]? = some a := fun a b => by simp
  have hgb : ∀ (s : Heap) (a : AObj), (s ++ [a])[s.length]? = some a := fun s a => by simp
  have hsb : ∀ (s : Heap) (a b : AObj), (s ++ [a]).set s.length b = s ++ [b] := fun s a b => by simp [List.set_append_right]
  have hfτ : Free [AObj.arr (n - 1) 2 1 (ints (nz (pof x n) ++ post)), AObj.box [.ref σ.length (n - 1) 0 (nz (pof x n)).length]] := fun o ho => by
   simp only [List.mem_cons, List.not_mem_nil, or_false] at ho
   rcases ho with rfl | rfl
   ·exact free_ints _
   ·intro c hc
    simp only [List.mem_singleton] at hc
    subst hc; exact free_ref _ _ _ _
  have hany : (fs.map mp).any (fun m => !decide (mvb (um m) n x ||| x = x)) = !okS fs n x := by
   rw [List.any_map]
   unfold okS
   rw [List.not_all_eq_any_not]
   congr 1
   funext f
   simp [um_mp]
  refine (p89 (fs.map mp) (fun r hr => by obtain ⟨f, hf', rfl⟩ := List.mem_map.1 hr; exact (hf f hf').mp_len) (by simp; omega) 90 [.fptr [.list (ints (nz (pof x n)))] 0, .fptr [.int .i64 x] 0] (fun m => !decide (mvb (um m) n x ||| x = x)) (fun m hm => ?_)).lend (.cons Imm.still (.cons (Imm.fnc _ (.cons (.ptr _ 0 _ _ (hself2 _ _) rfl (by simp [PV.ok]) (fun i a b ha hb => ?_)) (.cons (Imm.ptr1 (hold _) rfl Imm.still) (.nil _)))) (.nil _))) ?_
  ·obtain ⟨f, hf', rfl⟩ := List.mem_map.1 hm
   rw [um_mp]
   exact p90 f n (hf f hf') x hx1 hxn
  ·cases i with
   | zero =>
    simp at ha hb; subst ha; subst hb
    exact Imm.refp (pre := []) (post := post) (hg0 _ _) rfl rfl
   | succ i => simp at ha
  rw [hany]
  have hc1 : ((x : Int) + 1) = ((x + 1 : Nat) : Int) := by omega
  cases hok : okS fs n x with
  | true =>
   rw [hok] at hsu
   try simp only [OpK_eq, HKv, hself2, go_sem]
   refine tab_pushB (τ := [AObj.arr (n - 1) 2 1 (ints (nz (pof x n) ++ post)), AObj.box [.ref σ.length (n - 1) 0 (nz (pof x n)).length]]) (l := nz (pof x n)) (r := ⟨false, σ.length, n - 1, [], post⟩) hT ⟨fun h => (by cases h), fun _ => hg0 _ _⟩ (fun _ => Nat.le_refl _) (by omega) fun v2 σ2 q1 q2 q3 => ?_
   have hb2 := q3 bid _ (hold _)
   have hbl2 := (List.getElem?_eq_some_iff.1 hb2).1
   try simp only [OpK_eq, HKv, hb2, hgb, hsb, hput, go_sem]
   refine ⟨by omega, ih (x + 1, v2, σ2 ++ [.box [.int .i64 (x + 1 : Nat)]], σ2.length) ⟨by show 1 ≤ x + 1; omega, by show x + 1 ≤ 2 ^ n; omega, hgb _ _, ?_, ?_⟩ (by show 2 ^ n - (x + 1) < 2 ^ n - x; omega) _ _ (by simp [keep]) (by rw [hc1])⟩
   ·show TabN 27 2 _ v2 (rowsG fs n (x + 1))
    rw [hsu]; exact q1.append _
   ·refine Free.append (fun o ho => ?_) (Free.boxI [((x + 1 : Nat) : Int)])
    rcases q2 o ho with ho | ⟨ver, rs, rfl⟩
    ·exact (hfr.append hfτ) o ho
    ·exact free_pvs rs _
  | false =>
   rw [hok] at hsu
   have hb2 := hold [AObj.arr (n - 1) 2 1 (ints (nz (pof x n) ++ post)), AObj.box [.ref σ.length (n - 1) 0 (nz (pof x n)).length]]
   have hTt := hT.append [AObj.arr (n - 1) 2 1 (ints (nz (pof x n) ++ post)), AObj.box [.ref σ.length (n - 1) 0 (nz (pof x n)).length]]
   have hft := hfr.append hfτ
   generalize σ ++ [AObj.arr (n - 1) 2 1 (ints (nz (pof x n) ++ post)), AObj.box [.ref σ.length (n - 1) 0 (nz (pof x n)).length]] = σ2 at *
   have hbl2 := (List.getElem?_eq_some_iff.1 hb2).1
   try simp only [OpK_eq, HKv, hb2, hgb, hsb, hput, go_sem]
   refine ⟨by omega, ih (x + 1, v, σ2 ++ [.box [.int .i64 (x + 1 : Nat)]], σ2.length) ⟨by show 1 ≤ x + 1; omega, by show x + 1 ≤ 2 ^ n; omega, hgb _ _, ?_, ?_⟩ (by show 2 ^ n - (x + 1) < 2 ^ n - x; omega) _ _ (by simp [keep]) (by rw [hc1])⟩
   ·show TabN 27 2 _ v (rowsG fs n (x + 1))
    rw [hsu]; simpa using hTt.append _
   ·exact Free.append hft (Free.boxI [((x + 1 : Nat) : Int)])
 ·obtain rfl : x = 2 ^ n := by omega
  try simp only [OpK_eq, HKv, go_sem]
  have hfull := full_good hf h1
  refine tab_sort hT hfr (List.length_pos_of_mem (List.mem_map.2 ⟨_, hfull, rfl⟩)) (by omega) (fun l hl' => ?_) fun t' s q1 q2 q3 q4 _ => ?_
  ·obtain ⟨b, hb, rfl⟩ := List.mem_map.1 hl'
   have hb := goods_mem.1 hb
   refine ⟨fun e => pof_ne hb.2.1 hb.1 (by unfold nz at e; simpa using e), ?_⟩
   have := pof_le b n
   rw [nz_len]; omega
  ·rw [rows_final h5 q2 q3] at q1
   try simp only [OpK_eq, HKv, go_sem]
   exact Kv.Fin.now ⟨v, rfl, q1, q4⟩
end Go.Proofs.YthbbjbfbeaiphaaGreat
end
