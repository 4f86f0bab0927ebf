/- InvariantSets: the implementation's loop. -/
import Derived.Test.YtpepbomifjbgnaaIS
namespace Go.Proofs.Ytpepbomifjbgnaa
open Go.Kv
set_option linter.unusedVariables false
set_option linter.unusedSimpArgs false
attribute [local irreducible] ACall PCall KL
/-- The specification's list of sets. -/
def insS (fs : List (List Nat)) (n : Nat) : Nat → List Nat
  | 0 => []
  | x + 1 => if 1 ≤ x ∧ okS fs n x = true then putB (insS fs n x) x else insS fs n x
theorem insS_mem (fs : List (List Nat)) (n : Nat) : ∀ x b, b ∈ insS fs n x ↔ b ∈ goods fs n x
  | 0, b => by simp [insS, goods]
  | x + 1, b => by
    have ih := insS_mem fs n x b
    unfold insS
    by_cases h : 1 ≤ x ∧ okS fs n x = true
    · rw [if_pos h, putB_mem, ih, goods_mem, goods_mem]
      constructor
      · rintro (rfl | ⟨h1, h2⟩)
        · exact ⟨by omega, h⟩
        · exact ⟨by omega, h2⟩
      · rintro ⟨h1, h2⟩
        by_cases e : b = x
        · exact .inl e
        · exact .inr ⟨by omega, h2⟩
    · rw [if_neg h, ih, goods_mem, goods_mem]
      constructor
      · rintro ⟨h1, h2⟩; exact ⟨by omega, h2⟩
      · rintro ⟨h1, h2⟩
        refine ⟨?_, h2⟩
        by_cases e : b = x
        · subst e; exact absurd h2 h
        · omega
theorem insS_srt (fs : List (List Nat)) (n : Nat) : ∀ x, x ≤ 2 ^ 62 → Srt (insS fs n x)
  | 0, _ => ⟨.nil, by simp [insS]⟩
  | x + 1, h => by
    have ih := insS_srt fs n x (by omega)
    unfold insS
    split
    · exact putB_srt ih (by omega)
    · exact ih
theorem insS_len (fs : List (List Nat)) (n x : Nat) (h : x ≤ 2 ^ 62) : (insS fs n x).length ≤ x := by
  have hs := insS_srt fs n x h
  have := nodup_len x (insS fs n x) (srt_nodup hs) fun b hb => ((goods_mem.1 ((insS_mem fs n x b).1 hb))).1
  exact this
theorem rows_final {fs : List (List Nat)} {n : Nat} (h5 : n ≤ 5) {t : List (List Int)} (hp : t.Perm (rowsG fs n (2 ^ n))) (hs : t.Pairwise (fun a b => stc a b ≤ 0)) : t = rowsB (insS fs n (2 ^ n)) := by
  have h32 := pw5 h5
  refine rowsB_uniq (insS_srt fs n _ (Nat.le_trans h32 (by decide))) (hp.nodup_iff.2 (rowsG_nodup fs (Nat.le_refl _))) (fun r => ?_) hs
  rw [hp.mem_iff, rowsG, rowsB, List.mem_map, List.mem_map]
  constructor
  · rintro ⟨b, hb, rfl⟩
    exact ⟨b, (insS_mem fs n _ b).2 hb, by rw [pof62 h5 (goods_mem.1 hb).1]⟩
  · rintro ⟨b, hb, rfl⟩
    have hb := (insS_mem fs n _ b).1 hb
    exact ⟨b, hb, by rw [pof62 h5 (goods_mem.1 hb).1]⟩
theorem p38_in (fs : List (List Nat)) (n : Nat) (hf : ∀ f ∈ fs, Ok f n) (h0 : 0 < fs.length) (hfl : fs.length ≤ 6) (hl : lcode (fs.map mp) [] = 0) : NewTO Try.prog 38 [.list (aggs (fs.map mp))] 23 2 (rowsB (insS fs n (2 ^ n))) 0 := by
  have hk := hf _ (List.getElem_mem h0)
  have h6k := hk.mp_len
  have h5 := hk.le
  have h1 := hk.pos
  have h32 := pw5 h5
  have hn : (mp fs[0]).getD 0 0 = (n : Int) := by simp [mp, mpN, hk.len]
  have hn61 : n ≤ 61 := by omega
  refine NewTN.own ?_
  unfold NewTN
  have hput : ∀ a v, putC [PV.int .i64 a] 0 [v] = [v] := fun a v => by unfold putC; first | rfl | (split <;> rfl) | simp
  have hput2 : ∀ v, putC [PV.nils] 0 [v] = [v] := fun v => by unfold putC; first | rfl | (split <;> rfl) | simp
  refine e38 (by simp) fun _ _ => ?_
  simp only [k38, argEnv, take6, List.drop_zero, Int.cast_ofNat_Int, go_sem, ↓reduceIte, Nat.reduceEqDiff, Nat.reduceAdd, Nat.reduceMul, Nat.reduceLeDiff, Nat.reduceLT, Int.reduceLE, Int.reduceLT, reduceCtorEq]
  refine (p54 _ (fs.map mp) [] .nil (by simp; omega) (by simp) (fun r hr => by obtain ⟨f, hf', rfl⟩ := List.mem_map.1 hr; exact (hf f hf').mp_len) (by simp)).go ?_
  rw [hl]
  try simp only [OpK_eq, HKv, hput, take6, List.drop_zero, Int.cast_ofNat_Int, go_sem, ↓reduceIte, Nat.reduceEqDiff, Nat.reduceAdd, Nat.reduceMul, Nat.reduceLeDiff, Nat.reduceLT, Int.reduceLE, Int.reduceLT, reduceCtorEq]
  refine KL_ind k38_b0.eq_1 (fun x : Nat × PV × Heap × Nat => [(0, .list (aggs (fs.map mp))), (5, x.2.1), (6, .ptr x.2.2.2 0)]) (fun x => x.2.2.1) (fun x => 1 ≤ x.1 ∧ x.1 ≤ 2 ^ n ∧ x.2.2.1[x.2.2.2]? = some (.box [.int .i64 x.1]) ∧ TabN 23 2 x.2.2.1 x.2.1 (rowsG fs n x.1) ∧ Free x.2.2.1) (fun x => 2 ^ n - x.1) [0, 5, 6] (1, .nils, [.box [.int .i64 1]], 0) (by simp [keep]) rfl ⟨Nat.le_refl _, Nat.pos_of_ne_zero (by simp), rfl, ?_, Free.boxI [1]⟩ fun ⟨x, v, σ, bid⟩ ⟨hx1, hx, hbx, hT, hfr⟩ ih => ?_
  · have : rowsG fs n 1 = [] := by simp [rowsG, goods]
    rw [this]; exact .nil
  simp only at hx1 hx hbx hT hfr
  have hgl : (rowsG fs n x).length ≤ x := by rw [rowsG, List.length_map]; exact goods_len fs n x
  try simp only [OpK_eq, HKv, hbx, map_getD h0, h6k, hn, List.length_map, aBin_shl1 hn61, take6, List.drop_zero, Int.cast_ofNat_Int, go_sem, ↓reduceIte, Nat.reduceEqDiff, Nat.reduceAdd, Nat.reduceMul, Nat.reduceLeDiff, Nat.reduceLT, Int.reduceLE, Int.reduceLT, reduceCtorEq]
  refine ⟨by omega, fun _ => ⟨fun h2 => ⟨by omega, fun _ => ?_⟩, fun h2 => ?_⟩⟩
  · have hxn : x < 2 ^ n := by omega
    have hbl := (List.getElem?_eq_some_iff.1 hbx).1
    have hpn : (pts n).length = n := by simp [pts, mk]
    have hsu : rowsG fs n (x + 1) = rowsG fs n x ++ if okS fs n x = true then [nz (pof x n)] else [] := by
      rw [rowsG, goods_succ fs n hx1, List.map_append]
      by_cases h : okS fs n x = true <;> simp [h, rowsG]
    refine (p50 n (by omega)).go fun v1 s1 ⟨hv1, hs1⟩ => ?_
    subst hv1; subst hs1
    have hself : ∀ a : AObj, (σ ++ [a])[σ.length]? = some a := fun a => by simp
    have hset : ∀ a b : AObj, (σ ++ [a]).set σ.length b = σ ++ [b] := fun a b => by simp [List.set_append_right]
    have hold : ∀ s : Heap, (σ ++ s)[bid]? = some (.box [.int .i64 x]) := fun s => by rw [List.getElem?_append_left hbl]; exact hbx
    try simp only [OpK_eq, HKv, ren_ref, ren_arr, ren_ints, take6, List.drop_zero, Int.cast_ofNat_Int, go_sem, ↓reduceIte, Nat.reduceEqDiff, Nat.reduceAdd, Nat.reduceMul, Nat.reduceLeDiff, Nat.reduceLT, Int.reduceLE, Int.reduceLT, reduceCtorEq]
    refine delOn (hself _) (by omega) 75 _ [.fptr [.int .i64 x] 0] (.cons (Imm.ptr1 ?_ rfl Imm.still) (.nil _)) (StillL.up inferInstance) (fun y => !x.testBit y.toNat) (fun y hy => ?_) fun post => ?_
    · rw [hset]; exact hold _
    · obtain ⟨z, hz', rfl⟩ := List.mem_map.1 (show y ∈ (List.range n).map (fun i : Nat => (i : Int)) from hy)
      have hz : z < n := by simpa using hz'
      exact p75 z x (by omega) (lt62 h5 hxn)
    rw [hset, filter_pts]
    have hrow := pof_ne hx1 hxn
    have hpl : (pof x n).length ≤ n := pof_le x n
    have hself2 : ∀ a b : AObj, (σ ++ [a, b])[σ.length + 1]? = some b := fun a b => by simp
    have hset2 : ∀ a b c : AObj, (σ ++ [a, b]).set (σ.length + 1) c = σ ++ [a, c] := fun a b c => by rw [List.set_append_right _ _ (by omega)]; simp
    have hsn : ∀ a b : AObj, (σ ++ [a]) ++ [b] = σ ++ [a, b] := fun a b => by simp
    try simp only [OpK_eq, HKv, hsn, hself2, hset2, hput2, List.length_append, List.length_singleton, take6, List.drop_zero, Int.cast_ofNat_Int, go_sem, ↓reduceIte, Nat.reduceEqDiff, Nat.reduceAdd, Nat.reduceMul, Nat.reduceLeDiff, Nat.reduceLT, Int.reduceLE, Int.reduceLT, reduceCtorEq]
    have hlen2 : ∀ a b : AObj, (σ ++ [a, b]).length = σ.length + 2 := fun a b => by simp
    have hg0 : ∀ a b : AObj, (σ ++ [a, b])[σ.length]? = some a := fun a b => by simp
    have hgb : ∀ (s : Heap) (a : AObj), (s ++ [a])[s.length]? = some a := fun s a => by simp
    have hsb : ∀ (s : Heap) (a b : AObj), (s ++ [a]).set s.length b = s ++ [b] := fun s a b => by simp [List.set_append_right]
    have hfτ : Free [AObj.arr (n - 1) 2 1 (ints (nz (pof x n) ++ post)), AObj.box [.ref σ.length (n - 1) 0 (nz (pof x n)).length]] := fun o ho => by
      simp only [List.mem_cons, List.not_mem_nil, or_false] at ho
      rcases ho with rfl | rfl
      · exact free_ints _
      · intro c hc
        simp only [List.mem_singleton] at hc
        subst hc; exact free_ref _ _ _ _
    have hany : (fs.map mp).any (fun m => !decide (mvb (um m) n x ||| x = x)) = !okS fs n x := by
      rw [List.any_map]
      unfold okS
      rw [List.not_all_eq_any_not]
      congr 1
      funext f
      simp [um_mp]
    refine (p76 (fs.map mp) (fun r hr => by obtain ⟨f, hf', rfl⟩ := List.mem_map.1 hr; exact (hf f hf').mp_len) (by simp; omega) 77 [.fptr [.list (ints (nz (pof x n)))] 0, .fptr [.int .i64 x] 0] (fun m => !decide (mvb (um m) n x ||| x = x)) (fun m hm => ?_)).lend (.cons Imm.still (.cons (Imm.fnc _ (.cons (.ptr _ 0 _ _ (hself2 _ _) rfl (by simp [PV.ok]) (fun i a b ha hb => ?_)) (.cons (Imm.ptr1 (hold _) rfl Imm.still) (.nil _)))) (.nil _))) ?_
    · obtain ⟨f, hf', rfl⟩ := List.mem_map.1 hm
      rw [um_mp]
      exact p77 f n (hf f hf') x hx1 hxn
    · cases i with
      | zero =>
        simp at ha hb; subst ha; subst hb
        exact Imm.refp (pre := []) (post := post) (hg0 _ _) rfl rfl
      | succ i => simp at ha
    rw [hany]
    have hc1 : ((x : Int) + 1) = ((x + 1 : Nat) : Int) := by omega
    cases hok : okS fs n x with
    | true =>
      rw [hok] at hsu
      try simp only [OpK_eq, HKv, hself2, take6, List.drop_zero, Int.cast_ofNat_Int, go_sem, ↓reduceIte, Nat.reduceEqDiff, Nat.reduceAdd, Nat.reduceMul, Nat.reduceLeDiff, Nat.reduceLT, Int.reduceLE, Int.reduceLT, reduceCtorEq]
      refine tab_pushB (τ := [AObj.arr (n - 1) 2 1 (ints (nz (pof x n) ++ post)), AObj.box [.ref σ.length (n - 1) 0 (nz (pof x n)).length]]) (l := nz (pof x n)) (r := ⟨false, σ.length, n - 1, [], post⟩) hT ⟨fun h => (by cases h), fun _ => hg0 _ _⟩ (fun _ => Nat.le_refl _) (by omega) fun v2 σ2 q1 q2 q3 => ?_
      have hb2 := q3 bid _ (hold _)
      have hbl2 := (List.getElem?_eq_some_iff.1 hb2).1
      try simp only [OpK_eq, HKv, hb2, hgb, hsb, hput, take6, List.drop_zero, Int.cast_ofNat_Int, go_sem, ↓reduceIte, Nat.reduceEqDiff, Nat.reduceAdd, Nat.reduceMul, Nat.reduceLeDiff, Nat.reduceLT, Int.reduceLE, Int.reduceLT, reduceCtorEq]
      refine ⟨by omega, ih (x + 1, v2, σ2 ++ [.box [.int .i64 (x + 1 : Nat)]], σ2.length) ⟨by show 1 ≤ x + 1; omega, by show x + 1 ≤ 2 ^ n; omega, hgb _ _, ?_, ?_⟩ (by show 2 ^ n - (x + 1) < 2 ^ n - x; omega) _ _ (by simp [keep]) (by rw [hc1])⟩
      · show TabN 23 2 _ v2 (rowsG fs n (x + 1))
        rw [hsu]; exact q1.append _
      · refine Free.append (fun o ho => ?_) (Free.boxI [((x + 1 : Nat) : Int)])
        rcases q2 o ho with ho | ⟨ver, rs, rfl⟩
        · exact (hfr.append hfτ) o ho
        · exact free_pvs rs _
    | false =>
      rw [hok] at hsu
      have hb2 := hold [AObj.arr (n - 1) 2 1 (ints (nz (pof x n) ++ post)), AObj.box [.ref σ.length (n - 1) 0 (nz (pof x n)).length]]
      have hTt := hT.append [AObj.arr (n - 1) 2 1 (ints (nz (pof x n) ++ post)), AObj.box [.ref σ.length (n - 1) 0 (nz (pof x n)).length]]
      have hft := hfr.append hfτ
      generalize σ ++ [AObj.arr (n - 1) 2 1 (ints (nz (pof x n) ++ post)), AObj.box [.ref σ.length (n - 1) 0 (nz (pof x n)).length]] = σ2 at *
      have hbl2 := (List.getElem?_eq_some_iff.1 hb2).1
      try simp only [OpK_eq, HKv, hb2, hgb, hsb, hput, take6, List.drop_zero, Int.cast_ofNat_Int, go_sem, ↓reduceIte, Nat.reduceEqDiff, Nat.reduceAdd, Nat.reduceMul, Nat.reduceLeDiff, Nat.reduceLT, Int.reduceLE, Int.reduceLT, reduceCtorEq]
      refine ⟨by omega, ih (x + 1, v, σ2 ++ [.box [.int .i64 (x + 1 : Nat)]], σ2.length) ⟨by show 1 ≤ x + 1; omega, by show x + 1 ≤ 2 ^ n; omega, hgb _ _, ?_, ?_⟩ (by show 2 ^ n - (x + 1) < 2 ^ n - x; omega) _ _ (by simp [keep]) (by rw [hc1])⟩
      · show TabN 23 2 _ v (rowsG fs n (x + 1))
        rw [hsu]; simpa using hTt.append _
      · exact Free.append hft (Free.boxI [((x + 1 : Nat) : Int)])
  · obtain rfl : x = 2 ^ n := by omega
    try simp only [OpK_eq, HKv, take6, List.drop_zero, Int.cast_ofNat_Int, go_sem, ↓reduceIte, Nat.reduceEqDiff, Nat.reduceAdd, Nat.reduceMul, Nat.reduceLeDiff, Nat.reduceLT, Int.reduceLE, Int.reduceLT, reduceCtorEq]
    have hfull := full_good hf h1
    refine tab_sort hT hfr (List.length_pos_of_mem (List.mem_map.2 ⟨_, hfull, rfl⟩)) (by omega) (fun l hl' => ?_) fun t' s q1 q2 q3 q4 _ => ?_
    · obtain ⟨b, hb, rfl⟩ := List.mem_map.1 hl'
      have hb := goods_mem.1 hb
      refine ⟨fun e => pof_ne hb.2.1 hb.1 (by unfold nz at e; simpa using e), ?_⟩
      have := pof_le b n
      rw [nz_len]; omega
    · rw [rows_final h5 q2 q3] at q1
      try simp only [OpK_eq, HKv, take6, List.drop_zero, Int.cast_ofNat_Int, go_sem, ↓reduceIte, Nat.reduceEqDiff, Nat.reduceAdd, Nat.reduceMul, Nat.reduceLeDiff, Nat.reduceLT, Int.reduceLE, Int.reduceLT, reduceCtorEq]
      exact Kv.Fin.now ⟨v, rfl, q1, q4⟩
end Go.Proofs.Ytpepbomifjbgnaa
