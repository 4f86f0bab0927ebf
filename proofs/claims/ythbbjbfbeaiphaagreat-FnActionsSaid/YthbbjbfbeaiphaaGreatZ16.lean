/- Several texts of this session as one, less what the claim does not need. -/
import Derived.Test.YthbbjbfbeaiphaaGreatCb
import Derived.Test.YthbbjbfbeaiphaaGreatZ14
import Derived.Test.YthbbjbfbeaiphaaGreatZ15
import Derived.Test.YthbbjbfbeaiphaaGreatZ6
import Derived.Test.YthbbjbfbeaiphaaGreatZ10
import Derived.Test.YthbbjbfbeaiphaaGreatZ11
import Derived.Test.YthbbjbfbeaiphaaGreatZ12
import Derived.Test.YthbbjbfbeaiphaaGreatZ13
import Derived.Test.YthbbjbfbeaiphaaGreatZ5
section
namespace Go.Proofs.YthbbjbfbeaiphaaGreat
open Go.Kv
set_option maxRecDepth 100000
def k164_b0 : KC := (.seq (.ops [oP 14 (.bin .lss (.t 13) (.t 12))])
 (.seq (.cond (.t 14) .skip (.exit 0))
 (.seq (.block 1 (.seq (.ops [mV 15 13, oP 16 (.idxS 6 (.t 11) (.t 13)), oP 17 (.load true 6 (.t 16)), oP 7 (.alloc [.int .i64 0, .int .i64 0, .int .i64 0, .int .i64 0, .int .i64 0, .int .i64 0]), mV 6 15, ⟨none, none, .store 6 (.t 7) (.t 17)⟩])
 (.seq (.ops [mV 18 1, mV 19 6, oP 20 (.call (.t 18) [(.t 19)])])
 (.cond (.t 20) (.ops [mV 21 5, oP 22 (.load true 6 (.t 7)), oP 23 (.bsl true 60 6 [(.t 22)]), oP 24 (.app (.t 21) (.t 23) 60 6), mV 5 24]) .skip))))
 (.ops [oP 25 (.bin .add (.t 13) (iC 1)), mV 13 25]))))
def k164 : KC := (.seq (.ops [oP 4 (.mv (.c (.nils)))])
 (.seq (.ops [oP 5 (.mv (.c (.nils)))])
 (.seq (.seq (.ops [mV 8 0, oP 9 (.nilck (.t 8)), oP 10 (.fieldA 0 (.t 9)), oP 11 (.load false 1 (.t 10)), oP 12 (.len false (.t 11)), oP 13 (.mv (iC 0))])
 (.block 0 (.loop k164_b0)))
 (.seq (.ops [mV 26 5, mV 4 26])
 .ret))))
theorem e164 : Ent 164 27 [23] [.t 4] k164 := ent Tryz.func164 (by kernel_rfl) (by kernel_rfl) (by kernel_rfl) (fun _ => by kernel_rfl) (by kernel_rfl)
def k117 : KC := (.seq (.ops [oP 3 (.box true (.t 1)), oP 4 (.mv (.c (.nils)))])
 (.seq (.ops [mV 5 0, oP 6 (.mkfn (.func 162) [(.t 3)] []), oP 7 (.call (fC 164) [(.t 5), (.t 6)]), mV 4 7])
 .ret))
theorem e117 : Ent 117 8 [3] [.t 4] k117 := ent Tryz.func117 (by kernel_rfl) (by kernel_rfl) (by kernel_rfl) (fun _ => by kernel_rfl) (by kernel_rfl)
end Go.Proofs.YthbbjbfbeaiphaaGreat
namespace Go.Proofs.YthbbjbfbeaiphaaGreat
open Go.Kv
set_option linter.unusedVariables false
set_option linter.unusedSimpArgs false
attribute [local irreducible] ACall PCall KL
theorem p164F (W : PV) [Still W] (P : List Int) (hP : P.length = 3125) (S : List (List Nat)) (n : Nat) (hS : ∀ f ∈ S, Ok f n) (hSl : S.length ≤ 300) (fid : FuncId) (r : PV) [hr : Still r] (p : List Nat → Bool)
  (hp : ∀ i, i < S.length → Pure Tryz.prog fid [r, .int .i64 i] (.bool (p (S.getD i [])))) : ACall Tryz.prog 164 [.fptr (moV (.list (aggs (S.map mp))) W P) 0, .fn (.func fid) [r] []] [] fun v s => OwnA 60 s 0 s.length v ((S.filter p).map mp) ∧ Free s := by
 have hml : (moV (.list (aggs (S.map mp))) W P).length = 3127 := by rw [moV, List.length_cons, List.length_cons, ints_length, hP]
 have hm0 : (moV (.list (aggs (S.map mp))) W P)[0]? = some (.list (aggs (S.map mp))) := rfl
 have hS6 : ∀ i, i < S.length → (S.map mp).getD i [] = mp (S.getD i []) ∧ Ok (S.getD i []) n := fun i h => by
  have e : S.getD i [] = S[i] := by simp [List.getD_eq_getElem?_getD, h]
  rw [e]
  exact ⟨by simp [List.getD_eq_getElem?_getD, h], hS _ (List.getElem_mem h)⟩
 refine e164 (by simp) fun _ _ => ?_
 simp only [k164, argEnv, hml, hm0, aggs_length, List.length_map, go_sem]
 refine KL_ind k164_b0.eq_1 (fun x : Nat × PV × Heap => [(1, .fn (.func fid) [r] []), (5, x.2.1), (11, .list (aggs (S.map mp))), (12, .int .i64 S.length), (13, .int .i64 x.1)]) (fun x => x.2.2) (fun x => x.1 ≤ S.length ∧ OwnA 60 x.2.2 0 x.2.2.length x.2.1 (((S.take x.1).filter p).map mp) ∧ Free x.2.2) (fun x => S.length - x.1) [1, 5, 11, 12, 13] (0, .nils, []) (by simp [keep]) rfl ⟨Nat.zero_le _, by simpa using OwnA.nil, Free.nil⟩ fun ⟨x, v, σ⟩ ⟨hx, hT, hF⟩ ih => ?_
 simp only at hx hT hF
 try simp only [OpK_eq, HKv, go_sem]
 refine ⟨fun g1 => ?_, fun g1 => ?_⟩
 ·have hxl : x < S.length := by omega
  obtain ⟨e1, o1⟩ := hS6 x hxl
  have h61 := o1.mp_len
  have hil : (ints (mp (S.getD x []))).length = 6 := by rw [ints_length, h61]
  have hself : ∀ a : AObj, (σ ++ [a])[σ.length]? = some a := fun a => by simp
  have hset : ∀ a b : AObj, (σ ++ [a]).set σ.length b = σ ++ [b] := fun a b => by simp [List.set_append_right]
  have hts : ((S.take (x + 1)).filter p) = (S.take x).filter p ++ if p (S.getD x []) = true then [S.getD x []] else [] := by
   rw [List.take_succ_eq_append_getElem hxl, List.filter_append]
   congr 1
   have e : S.getD x [] = S[x] := by simp [List.getD_eq_getElem?_getD, hxl]
   rw [e]
   by_cases h : p S[x] = true <;> simp [h]
  try simp only [OpK_eq, HKv, aggs_length, List.length_map, e1, h61, hil, hself, hset, go_sem]
  refine ⟨by omega, fun _ => ?_⟩
  refine (hp x hxl).go ?_
  try simp only [OpK_eq, HKv, aggs_length, List.length_map, e1, h61, hil, hself, hset, go_sem]
  have hlen : ((S.take x).filter p).length ≤ x := Nat.le_trans (List.length_filter_le _ _) (by rw [List.length_take]; omega)
  refine ⟨fun hpx => ?_, fun hpx => ?_⟩
  ·rw [if_pos hpx] at hts
   refine OwnA.push (OwnA.append hT _) (hF.append (Free.boxI _)) _ h61 (by rw [List.length_map]; omega) fun v' σ' hT' hf' => ?_
   try simp only [OpK_eq, HKv, go_sem]
   exact ⟨by omega, ih (x + 1, v', σ') ⟨by show x + 1 ≤ S.length; omega, by show OwnA _ σ' 0 _ v' (((S.take (x + 1)).filter p).map mp); rw [hts, List.map_append]; exact hT', hf'⟩ (by show S.length - (x + 1) < S.length - x; omega) _ _ (by simp [keep]) rfl⟩
  ·rw [if_neg (by rw [hpx]; decide), List.append_nil] at hts
   exact ⟨by omega, ih (x + 1, v, _) ⟨by show x + 1 ≤ S.length; omega, by show OwnA _ _ 0 _ v (((S.take (x + 1)).filter p).map mp); rw [hts]; exact OwnA.append hT _, hF.append (Free.boxI _)⟩ (by show S.length - (x + 1) < S.length - x; omega) _ _ (by simp [keep]) rfl⟩
 ·obtain rfl : x = S.length := by omega
  rw [List.take_length] at hT
  try simp only [OpK_eq, HKv, go_sem]
  exact Kv.Fin.now ⟨hT, hF⟩
instance {S : Nat} : StillL (wset S) := inferInstanceAs (StillL [.int .u64 (wd S 0), .int .u64 (wd S 1), .int .u64 (wd S 2), .int .u64 (wd S 3), .int .u64 (wd S 4)])
theorem lo_at {n : Nat} {S : List (List Nat)} (hM : Mnd n S) {i : Nat} (hi : i < S.length) : loM n S (S.getD i []) = i := by
 have hO : Ok S[i] n := hM.srm.1 _ (List.getElem_mem hi)
 have e : S.getD i [] = S[i] := by simp [List.getD_eq_getElem?_getD, hi]
 rw [e]
 obtain ⟨a, b⟩ := (lo_mem hM.srm hO).2 (List.getElem_mem hi)
 apply Classical.byContradiction
 intro hne
 rw [List.getD_eq_getElem?_getD, List.getElem?_eq_getElem a] at b
 simp only [Option.getD_some] at b
 rcases Nat.lt_or_gt_of_ne hne with hlt | hlt
 ·have := List.pairwise_iff_getElem.1 hM.srm.2 _ _ a hi hlt
  rw [b] at this; omega
 ·have := List.pairwise_iff_getElem.1 hM.srm.2 _ _ hi a hlt
  rw [b] at this; omega
theorem p117 (W : PV) [Still W] (P : List Int) (hP : P.length = 3125) (S : List (List Nat)) (n : Nat) (hM : Mnd n S) (hSl : S.length ≤ 300) (O : Nat) : ACall Tryz.prog 117 [.fptr (moV (.list (aggs (S.map mp))) W P) 0, .agg (wset O)] [] fun v s => OwnA 60 s 0 s.length v ((S.filter fun f => O.testBit (loM n S f)).map mp) ∧ Free s := by
 have hO := p164F W P hP S n hM.srm.1 hSl 162 (.fptr (wset O) 0) (fun f => O.testBit (loM n S f)) fun i hi => by
  have := p162 O i (by omega)
  rwa [lo_at hM hi]
 refine e117 (by simp) fun _ _ => ?_
 simp only [k117, argEnv, wset_len, go_sem]
 refine ⟨wset_ok O, ?_⟩
 refine hO.mono fun v s hv => ?_
 try simp only [OpK_eq, HKv, go_sem]
 exact Kv.Fin.now hv
end Go.Proofs.YthbbjbfbeaiphaaGreat
end
section
namespace Go.Proofs.YthbbjbfbeaiphaaGreat
open Go.Kv
set_option maxRecDepth 100000
def k45_b0 : KC := (.seq (.ops [oP 34 (.bin .lss (.t 33) (.t 32))])
 (.seq (.cond (.t 34) .skip (.exit 0))
 (.seq (.block 1 (.seq (.ops [oP 35 (.idxS 5 (.t 31) (.t 33)), oP 36 (.load true 5 (.t 35)), oP 10 (.alloc [.int .u64 0, .int .u64 0, .int .u64 0, .int .u64 0, .int .u64 0]), ⟨none, none, .store 5 (.t 10) (.t 36)⟩])
 (.ops [oP 37 (.load true 5 (.t 10)), oP 38 (.call (fC 116) [(.t 8), (.t 37)])])))
 (.ops [oP 39 (.bin .add (.t 33) (iC 1)), mV 33 39]))))
def k45 : KC := (.seq (.ops [oP 2 (.mv (.c (.nils))), oP 3 (.mv (iC 0))])
 (.seq (.ops [mV 12 0, oP 13 (.call (fC 114) [(.t 12), (.c (.nils))]), mV 11 13, oP 14 (.extr 0 (.t 11)), oP 15 (.extr 1 (.t 11)), oP 16 (.extr 2 (.t 11)), mV 4 14, mV 5 15, mV 6 16])
 (.seq (.seq (.ops [mV 17 6, oP 18 (.bin .neq (.t 17) (iC 0))])
 (.cond (.t 18) (.seq (.ops [mV 19 6, oP 2 (.mv (.c (.nils))), mV 3 19])
 .ret) .skip))
 (.seq (.ops [mV 20 4, oP 21 (.call (fC 115) [(.t 20)]), mV 7 21])
 (.seq (.ops [mV 22 7, oP 23 (.nilck (.t 22)), oP 24 (.fieldA 2 (.t 23)), oP 25 (.load false 1 (.t 24)), oP 26 (.idxS 5 (.t 25) (iC 0)), oP 27 (.load true 5 (.t 26)), oP 8 (.alloc [.int .u64 0, .int .u64 0, .int .u64 0, .int .u64 0, .int .u64 0]), ⟨none, none, .store 5 (.t 8) (.t 27)⟩])
 (.seq (.seq (.ops [mV 28 7, oP 29 (.nilck (.t 28)), oP 30 (.fieldA 2 (.t 29)), oP 31 (.load false 1 (.t 30)), oP 32 (.len false (.t 31)), oP 33 (.mv (iC 0))])
 (.block 0 (.loop k45_b0)))
 (.seq (.ops [mV 40 4, oP 41 (.load true 5 (.t 8)), oP 42 (.call (fC 117) [(.t 40), (.t 41)]), mV 2 42, oP 3 (.mv (iC 0))])
 .ret)))))))
theorem e45 : Ent 45 43 [] [.t 2, .t 3] k45 := ent Tryz.func45 (by kernel_rfl) (by kernel_rfl) (by kernel_rfl) (fun _ => by kernel_rfl) (by kernel_rfl)
end Go.Proofs.YthbbjbfbeaiphaaGreat
namespace Go.Proofs.YthbbjbfbeaiphaaGreat
open Go.Kv
set_option linter.unusedVariables false
set_option linter.unusedSimpArgs false
attribute [local irreducible] ACall PCall KL
theorem idl_bit {n : Nat} {S : List (List Nat)} (hM : Mnd n S) {i : Nat} (hi : i < S.length) : (∀ a, a < S.length → ∃ y x, y < S.length ∧ x < S.length ∧ prI S n x (prI S n a y) = i) ↔ Idl S (S.getD i []) := by
 have hg : ∀ a, (ha : a < S.length) → S.getD a [] = S[a] := fun a ha => by simp [List.getD_eq_getElem?_getD, ha]
 constructor
 ·intro h a' ha'
  obtain ⟨a, ha, rfl⟩ := List.getElem_of_mem ha'
  obtain ⟨y, x, hy, hx, e⟩ := h a ha
  obtain ⟨p1, p2, _⟩ := prI_at hM ha hy
  obtain ⟨_, q2, _⟩ := prI_at hM hx p1
  rw [e, p2, hg x hx, hg a ha, hg y hy] at q2
  exact ⟨_, List.getElem_mem hx, _, List.getElem_mem hy, q2⟩
 ·intro h a ha
  obtain ⟨x', hx', y', hy', e⟩ := h _ (List.getElem_mem ha)
  obtain ⟨x, hx, rfl⟩ := List.getElem_of_mem hx'
  obtain ⟨y, hy, rfl⟩ := List.getElem_of_mem hy'
  refine ⟨y, x, hy, hx, ?_⟩
  obtain ⟨p1, p2, _⟩ := prI_at hM ha hy
  show loM n S (mul (S.getD x []) (S.getD (prI S n a y) [])) = i
  rw [p2, hg x hx, hg a ha, hg y hy, ← e, lo_at hM hi]
open Classical in
noncomputable def lstI (S : List (List Nat)) : List (List Nat) := S.filter fun f => decide (Idl S f)
open Classical in
theorem lstI_mem {S : List (List Nat)} {f : List Nat} : f ∈ lstI S ↔ f ∈ S ∧ Idl S f := by
 unfold lstI
 rw [List.mem_filter, decide_eq_true_iff]
open Classical in
theorem lstI_bits {n : Nat} {S : List (List Nat)} (hM : Mnd n S) {O : Nat} (h : ∀ j, j < S.length → (O.testBit j = true ↔ ∀ a, a < S.length → ∃ y x, y < S.length ∧ x < S.length ∧ prI S n x (prI S n a y) = j)) : (S.filter fun f => O.testBit (loM n S f)) = lstI S := by
 unfold lstI
 refine List.filter_congr fun f hf => ?_
 obtain ⟨i, hi, rfl⟩ := List.getElem_of_mem hf
 have e : S.getD i [] = S[i] := by simp [List.getD_eq_getElem?_getD, hi]
 have h1 := lo_at hM hi
 have h2 := (h i hi).trans (idl_bit hM hi)
 rw [e] at h1 h2
 rw [h1]
 cases hc : O.testBit i with
 | true => exact (decide_eq_true (h2.1 hc)).symm
 | false => exact (decide_eq_false fun hx => by rw [h2.2 hx] at hc; cases hc).symm
set_option maxRecDepth 8000 in
theorem p45_in (fs : List (List Nat)) (n : Nat) (h1 : 1 ≤ n) (h5 : n ≤ 5) (hf : ∀ f ∈ fs, Ok f n) (h0 : 0 < fs.length) (hfl : fs.length ≤ 6) (hl : lcode (fs.map mp) [] = 0) {Q : List (List Nat)} (hR : clR fs n = some Q) :
  Pure Tryz.prog 45 [.list (aggs (fs.map mp))] (.tup [.list (aggs ((lstI (elS n Q)).map mp)), .int .i64 0]) := by
 have hM := monOk fs n h1 h5 hf (Nat.le_trans hfl (by decide))
 unfold MonOk at hM
 rw [hR] at hM
 simp only at hM
 obtain ⟨W, P, hW, hP, hM⟩ := hM
 have hMn := clR_mnd h1 h5 hf hR
 obtain ⟨c3, c4⟩ := clB_okQ h1 h5 hf _ _ hR
 obtain ⟨s1, s2, s3⟩ := elS_ok c3
 have hE := p114_of fs n hf h0 hfl hl _ _ hM
 rw [if_pos rfl] at hE
 generalize elS n Q = S at *
 have hN0 : 0 < S.length := List.length_pos_of_mem hMn.one
 refine e45 (by simp) fun _ _ => ?_
 simp only [k45, argEnv, go_sem]
 refine hE.go ?_
 try simp only [OpK_eq, HKv, go_sem]
 refine p115 hP hMn (by omega) fun σ l r b FL FR FB hI hB => ?_
 have hd := hI.d
 have hBB := hI.B
 have hlen := hI.len
 have hw5 : ∀ a, subC (wset (FB a)) 0 5 = wset (FB a) := fun a => by unfold subC; rw [if_pos ⟨rfl, wset_len _⟩]
 have hcs : ∀ a, (PV.agg (wset (FB a))).cs = wset (FB a) := fun a => rfl
 have hself : ∀ (s : Heap) (a : AObj), (s ++ [a])[s.length]? = some a := fun s a => by simp
 have hset : ∀ (s : Heap) (a b : AObj), (s ++ [a]).set s.length b = s ++ [b] := fun s a b => by simp [List.set_append_right]
 try simp only [OpK_eq, HKv, hd, hBB, go_sem]
 refine ⟨⟨by omega, by simp⟩, by simp; omega, fun x hx => ?_⟩
 rw [cells_get FB hN0] at hx; cases hx
 rw [hcs, wset_len, hw5]
 refine ⟨by omega, ?_⟩
 have hput : ∀ s, putC [.int .u64 0, .int .u64 0, .int .u64 0, .int .u64 0, .int .u64 0] 0 (wset s) = wset s := fun s => by
  unfold putC
  split
  ·rename_i h
   have := congrArg List.length h
   rw [wset_len] at this
   cases this
  ·rw [if_pos ⟨rfl, by rw [wset_len]; rfl⟩]
 have hbl := (List.getElem?_eq_some_iff.1 hBB).1
 have hd4 : ∀ X, (σ ++ [X])[3]? = some (.box [.ref l 0 0 S.length, .ref r 0 0 S.length, .ref b 0 0 S.length]) := fun X => (List.getElem?_append_left (by omega)).trans hd
 have hb4 : ∀ X, (σ ++ [X])[b]? = some (.arr 0 132 5 (cells S.length FB)) := fun X => (List.getElem?_append_left hbl).trans hBB
 try simp only [OpK_eq, HKv, hself, hset, wset_len, go_sem]
 refine ⟨wset_ok _, ?_⟩
 try simp only [OpK_eq, HKv, hd4, hb4, hput, go_sem]
 rw [hlen]
 refine KL_ind k45_b0.eq_1 (fun x : Nat × Nat × Heap => [(4, .fptr (moV (.list (aggs (S.map mp))) W P) 0), (8, .ptr 4 0), (31, .ref b 0 0 S.length), (32, .int .i64 S.length), (33, .int .i64 x.1)]) (fun x => x.2.2) (fun x => x.1 ≤ S.length ∧ x.2.2[b]? = some (.arr 0 132 5 (cells S.length FB)) ∧ x.2.2[4]? = some (.box (wset x.2.1)) ∧ ∀ j, x.2.1.testBit j = true ↔ (FB 0).testBit j = true ∧ ∀ a, a < x.1 → (FB a).testBit j = true) (fun x => S.length - x.1) [4, 8, 31, 32, 33] (0, FB 0, σ ++ [.box (wset (FB 0))]) (by simp [keep]) rfl ⟨Nat.zero_le _, hb4 _, by rw [← hlen]; exact hself _ _, fun j => by simp⟩ fun ⟨x, O, ρ⟩ ⟨hx, hb, hO, hbit⟩ ih => ?_
 simp only at hx hb hO hbit
 try simp only [OpK_eq, HKv, hb, go_sem]
 refine ⟨fun g1 => ?_, fun g1 => ?_⟩
 ·have hxN : x < S.length := by omega
  refine ⟨⟨by omega, by simp⟩, by simp; omega, fun y hy => ?_⟩
  rw [cells_get FB hxN] at hy; cases hy
  simp only [hcs, wset_len, hw5, hput]
  refine ⟨by omega, ⟨by first | rfl | trivial, wset_ok _⟩, by omega, ?_⟩
  have h4 := (List.getElem?_eq_some_iff.1 hO).1
  have hO4 : ∀ X, (ρ ++ [X])[4]? = some (.box (wset O)) := fun X => (List.getElem?_append_left h4).trans hO
  have hbb : ∀ X Y, ((ρ ++ [X]).set 4 Y)[b]? = some (.arr 0 132 5 (cells S.length FB)) := fun X Y => (List.getElem?_set_ne (by omega)).trans ((List.getElem?_append_left (by omega)).trans hb)
  refine p116 (S := O) (FB x) (hO4 _) ?_
  try simp only [OpK_eq, HKv, go_sem]
  refine ⟨by omega, ih (x + 1, O &&& FB x, _) ⟨by show x + 1 ≤ S.length; omega, hbb _ _, List.getElem?_set_self (by simp; omega), fun j => ?_⟩ (by show S.length - (x + 1) < S.length - x; omega) _ _ (by simp [keep]) rfl⟩
  show (O &&& FB x).testBit j = true ↔ _
  rw [Nat.testBit_and, Bool.and_eq_true, hbit j]
  constructor
  ·rintro ⟨⟨e1, e2⟩, e3⟩
   refine ⟨e1, fun a ha => ?_⟩
   by_cases e : a = x
   ·subst e; exact e3
   ·exact e2 a (by simp only at ha; omega)
  ·rintro ⟨e1, e2⟩
   exact ⟨⟨e1, fun a ha => e2 a (by simp only; omega)⟩, e2 x (by simp only; omega)⟩
 ·obtain rfl : x = S.length := by omega
  have hw5' : subC (wset O) 0 5 = wset O := by unfold subC; rw [if_pos ⟨rfl, wset_len _⟩]
  have hL := lstI_bits hMn (O := O) fun j hj => by
   rw [hbit j]
   constructor
   ·rintro ⟨_, e2⟩ a ha
    exact (hB a ha j).1 (e2 a ha)
   ·intro e
    exact ⟨(hB 0 hN0 j).2 (e 0 hN0), fun a ha => (hB a ha j).2 (e a ha)⟩
  try simp only [OpK_eq, HKv, hO, wset_len, hw5', go_sem]
  refine (p117 W P hP.1 S n hMn (by omega) O).go fun v s ⟨hT, hF⟩ => ?_
  rw [hL] at hT
  try simp only [OpK_eq, HKv, go_sem]
  exact Kv.Fin.freeze (Imm.tupL (.cons (hT.shift _).imm (.cons (.int _ _ _) (.nil _)))) ⟨rfl, rfl⟩
end Go.Proofs.YthbbjbfbeaiphaaGreat
end
section
namespace Go.Proofs.YthbbjbfbeaiphaaGreat
open Go.Kv
set_option maxRecDepth 100000
def k43 : KC := (.seq (.ops [oP 4 (.alloc [.int .i64 0, .int .i64 0, .int .i64 0, .int .i64 0, .int .i64 0, .int .i64 0]), oP 5 (.mv (iC 0))])
 (.seq (.seq (.ops [mV 7 0, oP 8 (.call (fC 72) [(.t 7), (.c (.nils))]), mV 6 8])
 (.seq (.ops [mV 9 6, oP 10 (.bin .neq (.t 9) (iC 0))])
 (.cond (.t 10) (.seq (.ops [oP 11 (.build [.int .i64 0, .int .i64 0, .int .i64 0, .int .i64 0, .int .i64 0, .int .i64 0] []), mV 12 6, ⟨none, none, .store 6 (.t 4) (.t 11)⟩, mV 5 12])
 .ret) .skip)))
 (.seq (.seq (.ops [mV 13 0, mV 14 1, oP 15 (.call (fC 111) [(.t 13), (.t 14), (iC 100)]), oP 16 (.not (.t 15))])
 (.cond (.t 16) (.seq (.ops [oP 17 (.build [.int .i64 0, .int .i64 0, .int .i64 0, .int .i64 0, .int .i64 0, .int .i64 0] []), ⟨none, none, .store 6 (.t 4) (.t 17)⟩, oP 5 (.mv (iC 2))])
 .ret) .skip))
 (.seq (.ops [mV 18 0, mV 19 1, oP 20 (.call (fC 112) [(.t 18), (.t 19)]), ⟨none, none, .store 6 (.t 4) (.t 20)⟩, oP 5 (.mv (iC 0))])
 .ret))))
theorem e43 : Ent 43 21 [] [.cell 4 true 6, .t 5] k43 := ent Tryz.func43 (by kernel_rfl) (by kernel_rfl) (by kernel_rfl) (fun _ => by kernel_rfl) (by kernel_rfl)
def k112_b0 : KC := (.seq (.ops [oP 16 (.bin .lss (.t 15) (.t 14))])
 (.seq (.cond (.t 16) .skip (.exit 0))
 (.seq (.block 1 (.seq (.ops [oP 17 (.idxS 1 (.t 13) (.t 15)), oP 18 (.load false 1 (.t 17)), mV 7 18])
 (.draw [oP 19 (.load true 6 (.t 5)), mV 20 0, mV 21 7, oP 22 (.idxS 6 (.t 20) (.t 21)), oP 23 (.load true 6 (.t 22)), oP 24 (.pcall (fC 157) [(.t 19), (.t 23)]), ⟨none, none, .store 6 (.t 5) (.t 24)⟩])))
 (.ops [oP 25 (.bin .add (.t 15) (iC 1)), mV 15 25]))))
def k112 : KC := (.seq (.ops [oP 4 (.alloc [.int .i64 0, .int .i64 0, .int .i64 0, .int .i64 0, .int .i64 0, .int .i64 0])])
 (.seq (.ops [mV 8 0, oP 9 (.idxS 6 (.t 8) (iC 0)), oP 10 (.fieldA 0 (.t 9)), oP 11 (.load false 1 (.t 10)), oP 12 (.call (fC 73) [(.t 11)]), oP 5 (.alloc [.int .i64 0, .int .i64 0, .int .i64 0, .int .i64 0, .int .i64 0, .int .i64 0]), ⟨none, none, .store 6 (.t 5) (.t 12)⟩])
 (.seq (.seq (.ops [mV 13 1, oP 14 (.len false (.t 13)), oP 15 (.mv (iC 0))])
 (.block 0 (.loop k112_b0)))
 (.seq (.ops [oP 26 (.load true 6 (.t 5)), ⟨none, none, .store 6 (.t 4) (.t 26)⟩])
 .ret))))
theorem e112 : Ent 112 27 [] [.cell 4 true 6] k112 := ent Tryz.func112 (by kernel_rfl) (by kernel_rfl) (by kernel_rfl) (fun _ => by kernel_rfl) (by kernel_rfl)
def k111 : KC := (.seq (.ops [oP 3 (.box true (.t 0)), oP 6 (.mv (.c (.bool false)))])
 (.seq (.ops [mV 7 1, oP 8 (.len false (.t 7)), mV 9 2, oP 10 (.bin .leq (.t 8) (.t 9)), mV 11 10, ⟨(some 12), some (11, true), .mv (.t 1)⟩, ⟨(some 13), some (11, true), .mkfn (.func 156) [] [(.t 3)]⟩, ⟨(some 14), some (11, true), .call (fC 123) [(.t 12), (.t 13)]⟩, ⟨(some 15), some (11, true), .not (.t 14)⟩, oP 16 (.pick (.t 11) (.t 15) (.c (.bool false))), mV 6 16])
 .ret))
theorem e111 : Ent 111 17 [3] [.t 6] k111 := ent Tryz.func111 (by kernel_rfl) (by kernel_rfl) (by kernel_rfl) (fun _ => by kernel_rfl) (by kernel_rfl)
def k156 : KC := (.seq (.ops [oP 3 (.mv (.c (.bool false)))])
 (.seq (.ops [mV 4 0, oP 5 (.load false 1 (.t 1)), oP 6 (.len false (.t 5)), oP 7 (.bin .sub (.t 6) (iC 1)), oP 8 (.call (fC 120) [(.t 4), (iC 0), (.t 7)]), oP 9 (.not (.t 8)), mV 3 9])
 .ret))
theorem e156 : Ent 156 10 [] [.t 3] k156 := ent Tryz.func156 (by kernel_rfl) (by kernel_rfl) (by kernel_rfl) (fun _ => by kernel_rfl) (by kernel_rfl)
def k44 : KC := (.seq (.ops [oP 2 (.box true (.t 0)), oP 4 (.mv (.c (.nils))), oP 5 (.mv (iC 0))])
 (.seq (.seq (.ops [oP 7 (.load true 6 (.t 2)), mV 8 1, oP 9 (.call (fC 113) [(.t 7), (.t 8)]), mV 6 9])
 (.seq (.ops [mV 10 6, oP 11 (.bin .neq (.t 10) (iC 0))])
 (.cond (.t 11) (.seq (.ops [mV 12 6, oP 4 (.mv (.c (.nils))), mV 5 12])
 .ret) .skip)))
 (.seq (.ops [oP 13 (.load true 6 (.t 2)), mV 14 1, oP 15 (.call (fC 92) [(.t 13), (.t 14)]), mV 4 15, oP 5 (.mv (iC 0))])
 .ret)))
theorem e44 : Ent 44 16 [2] [.t 4, .t 5] k44 := ent Tryz.func44 (by kernel_rfl) (by kernel_rfl) (by kernel_rfl) (fun _ => by kernel_rfl) (by kernel_rfl)
def k113 : KC := (.seq (.ops [oP 2 (.box true (.t 0)), oP 4 (.mv (iC 0))])
 (.seq (.block 0 (.seq (.ops [oP 6 (.load true 6 (.t 2)), oP 7 (.call (fC 71) [(.t 6)]), oP 8 (.not (.t 7)), mV 5 8])
 (.cond (.t 5) (.seq (.ops [oP 4 (.mv (iC 1))])
 .ret) (.seq (.ops [mV 10 1, oP 11 (.fieldA 0 (.t 2)), oP 12 (.load false 1 (.t 11)), oP 13 (.call (fC 100) [(.t 10), (.t 12)]), oP 14 (.not (.t 13)), mV 9 14])
 (.cond (.t 9) (.seq (.ops [oP 4 (.mv (iC 2))])
 .ret) .skip)))))
 (.seq (.ops [oP 4 (.mv (iC 0))])
 .ret)))
theorem e113 : Ent 113 15 [2] [.t 4] k113 := ent Tryz.func113 (by kernel_rfl) (by kernel_rfl) (by kernel_rfl) (fun _ => by kernel_rfl) (by kernel_rfl)
def k46 : KC := (.seq (.ops [oP 1 (.box true (.t 0)), oP 2 (.mv (iC 0)), oP 3 (.mv (iC 0))])
 (.seq (.seq (.ops [oP 4 (.load true 6 (.t 1)), oP 5 (.call (fC 71) [(.t 4)]), oP 6 (.not (.t 5))])
 (.cond (.t 6) (.seq (.ops [oP 2 (.mv (iC 0)), oP 3 (.mv (iC 1))])
 .ret) .skip))
 (.seq (.ops [oP 7 (.load true 6 (.t 1)), oP 8 (.call (fC 118) [(.t 7)]), mV 2 8, oP 3 (.mv (iC 0))])
 .ret)))
theorem e46 : Ent 46 9 [1] [.t 2, .t 3] k46 := ent Tryz.func46 (by kernel_rfl) (by kernel_rfl) (by kernel_rfl) (fun _ => by kernel_rfl) (by kernel_rfl)
end Go.Proofs.YthbbjbfbeaiphaaGreat
namespace Go.Proofs.YthbbjbfbeaiphaaGreat
open Go.Kv
set_option linter.unusedVariables false
set_option linter.unusedSimpArgs false
attribute [local irreducible] ACall PCall KL
theorem p46 (f : List Nat) (n : Nat) (hf : Ok f n) : Pure Tryz.prog 46 [.agg (ints (mp f))] (.tup [.int .i64 (rkn f n), .int .i64 0]) := by
 have h6 := hf.mp_len
 have hi : (ints (mp f)).length = 6 := by rw [ints_length, h6]
 refine e46 (by simp) fun _ _ => ?_
 simp only [k46, argEnv, h6, hi, go_sem]
 refine (p71 _ h6).go ?_
 rw [isM_mp hf]
 try simp only [OpK_eq, HKv, h6, hi, go_sem]
 refine (p118 f n hf).go ?_
 try simp only [OpK_eq, HKv, go_sem]
 exact Kv.Fin.still ⟨rfl, rfl⟩
theorem p44 (f : List Nat) (n : Nat) (hf : Ok f n) {P : List Int} (hP : asc n P) (hs : stB P n = true) : Pure Tryz.prog 44 [.agg (ints (mp f)), .list (ints P)] (.tup [.list (ints (img f P)), .int .i64 0]) := by
 have h6 := hf.mp_len
 have hi : (ints (mp f)).length = 6 := by rw [ints_length, h6]
 have h1 := hf.pos
 have h5 := hf.le
 have hl := asc_len hP
 have hn : (mp f).getD 0 0 = (n : Int) := by simp [mp, mpN, hf.len]
 have hC : Pure Tryz.prog 113 [.agg (ints (mp f)), .list (ints P)] (.int .i64 0) := by
  refine e113 (by simp) fun _ _ => ?_
  simp only [k113, argEnv, h6, hi, go_sem]
  refine (p71 _ h6).go ?_
  rw [isM_mp hf]
  try simp only [OpK_eq, HKv, h6, hi, hn, go_sem]
  refine (p100 P n (by omega) (by omega)).go ?_
  rw [hs]
  try simp only [OpK_eq, HKv, go_sem]
  exact Kv.Fin.still ⟨rfl, rfl⟩
 refine e44 (by simp) fun _ _ => ?_
 simp only [k44, argEnv, h6, hi, go_sem]
 refine hC.go ?_
 try simp only [OpK_eq, HKv, h6, hi, go_sem]
 refine (image_asc f n hf hP).go ?_
 try simp only [OpK_eq, HKv, go_sem]
 exact Kv.Fin.still ⟨rfl, rfl⟩
theorem p156 (t : List (List Int)) (ht : t.length ≤ 1000) (k : Int) : Pure Tryz.prog 156 [.int .i64 k, .fptr [.list (aggs t)] 0] (.bool (!decide (0 ≤ k ∧ k ≤ (t.length : Int) - 1))) := by
 refine e156 (by simp) fun _ _ => ?_
 simp only [k156, argEnv, aggs_length, go_sem]
 refine ⟨by omega, (p120 _ _ _).go ?_⟩
 try simp only [OpK_eq, HKv, go_sem]
 exact Kv.Fin.still ⟨rfl, rfl⟩
theorem p111 (t : List (List Int)) (ht : t.length ≤ 1000) (w : List Int) (hw : ∀ k ∈ w, 0 ≤ k ∧ k ≤ (t.length : Int) - 1) (hl : w.length ≤ 100) : Pure Tryz.prog 111 [.list (aggs t), .list (ints w), .int .i64 100] (.bool true) := by
 have hC := p123 w (by omega) 156 [.fptr [.list (aggs t)] 0] (fun c hc => by simp only [List.mem_singleton] at hc; subst hc; exact (inferInstance : Still (.fptr [.list (aggs t)] 0)).up) (fun k => !decide (0 ≤ k ∧ k ≤ (t.length : Int) - 1)) fun k _ => p156 t ht k
 have ha : (w.any fun k => !decide (0 ≤ k ∧ k ≤ (t.length : Int) - 1)) = false := by
  rw [List.any_eq_false]
  intro k hk
  simp [hw k hk]
 rw [ha] at hC
 have h1 : decide ((w.length : Int) ≤ 100) = true := decide_eq_true (by omega)
 refine e111 (by simp) fun _ _ => ?_
 simp only [k111, argEnv, h1, go_sem]
 refine hC.go ?_
 try simp only [OpK_eq, HKv, go_sem]
 exact Kv.Fin.still ⟨rfl, rfl⟩
set_option maxHeartbeats 2000000 in
theorem p112 (fs : List (List Nat)) (n : Nat) (h1 : 1 ≤ n) (h5 : n ≤ 5) (hf : ∀ f ∈ fs, Ok f n) (h0 : 0 < fs.length) (hfl : fs.length ≤ 1000) (w : List Int) (hw : ∀ k ∈ w, 0 ≤ k ∧ k ≤ (fs.length : Int) - 1) (hl : w.length ≤ 100) : Pure Tryz.prog 112 [.list (aggs (fs.map mp)), .list (ints w)] (.agg (ints (mp (mw fs (List.range n) w)))) := by
 have hk := hf _ (List.getElem_mem h0)
 have h6k := hk.mp_len
 have hn : (mp fs[0]).getD 0 0 = (n : Int) := by simp [mp, mpN, hk.len]
 have ho : ∀ x, Ok (mw fs (List.range n) (w.take x)) n := fun x => mw_ok hf _ _ (range_ok h1 h5) fun k hk => hw k (List.mem_of_mem_take hk)
 have h6w : ∀ x, (ints (mp (mw fs (List.range n) (w.take x)))).length = 6 := fun x => by rw [ints_length, (ho x).mp_len]
 have ht6 : ∀ x, (mp (mw fs (List.range n) (w.take x))).take 6 = mp (mw fs (List.range n) (w.take x)) := fun x => List.take_of_length_le (by rw [(ho x).mp_len]; exact Nat.le_refl _)
 have h60 : (ints (mp (List.range n))).length = 6 := by rw [ints_length, (range_ok h1 h5).mp_len]
 refine e112 (by simp) fun _ _ => ?_
 simp only [k112, argEnv, map_getD h0, h6k, hn, List.length_map, aggs_length, go_sem]
 refine ⟨by omega, fun _ => (p73 n h1 h5).go ?_⟩
 try simp only [OpK_eq, HKv, h60, go_sem]
 refine KL_ind k112_b0.eq_1 (fun x : Nat => [(0, .list (aggs (fs.map mp))), (4, .ptr 0 0), (5, .ptr 1 0), (13, .list (ints w)), (14, .int .i64 w.length), (15, .int .i64 x)]) (fun x => [.box [.int .i64 0, .int .i64 0, .int .i64 0, .int .i64 0, .int .i64 0, .int .i64 0], .box (ints (mp (mw fs (List.range n) (w.take x))))]) (fun x => x ≤ w.length) (fun x => w.length - x) [0, 4, 5, 13, 14, 15] 0 (by simp [keep]) rfl (Nat.zero_le _) fun x hx ih => ?_
 try simp only [OpK_eq, HKv, go_sem]
 refine ⟨fun g1 => ?_, fun g1 => ?_⟩
 ·have hxl : x < w.length := by omega
  have hwx := hw _ (List.getElem_mem hxl)
  have hgx : w.getD x 0 = w[x] := by simp [List.getD_eq_getElem?_getD, hxl]
  have hkl : (w[x]).toNat < fs.length := by omega
  have hfm : fs.getD (w[x]).toNat [] ∈ fs := by rw [List.getD_eq_getElem?_getD, List.getElem?_eq_getElem hkl]; exact List.getElem_mem _
  have hgm : (fs.map mp).getD (w[x]).toNat [] = mp (fs.getD (w[x]).toNat []) := by simp [List.getD_eq_getElem?_getD, hkl]
  have h6g := (hf _ hfm).mp_len
  have hst : mw fs (List.range n) (w.take (x + 1)) = mul (mw fs (List.range n) (w.take x)) (fs.getD (w[x]).toNat []) := by
   rw [List.take_succ_eq_append_getElem hxl]
   unfold mw
   rw [List.foldl_append]; rfl
  have h6n := h6w (x + 1)
  rw [hst] at h6n
  try simp only [OpK_eq, HKv, h6w, hgx, hgm, h6g, ht6, List.length_map, aggs_length, go_sem]
  refine ⟨by omega, fun _ => ⟨by rw [(ho x).mp_len]; omega, ⟨hwx.1, by omega⟩, fun _ => ?_⟩⟩
  refine (p157 _ _ n (ho x) (hf _ hfm)).pgo ?_
  try simp only [OpK_eq, HKv, h6w, h6n, go_sem]
  refine ⟨by omega, ih (x + 1) (by omega) (by omega) _ _ (by simp [keep]) ?_⟩
  rw [hst]
 ·obtain rfl : x = w.length := by omega
  have h6n := h6w w.length
  rw [List.take_length] at h6n
  rw [List.take_length]
  have ht6' := ht6 w.length
  rw [List.take_length] at ht6'
  try simp only [OpK_eq, HKv, h6n, ht6', go_sem]
  refine ⟨by rw [← ints_length, h6n]; omega, by rw [← ints_length, h6n], Kv.Fin.freeze .still ⟨rfl, rfl⟩⟩
theorem p43 (fs : List (List Nat)) (n : Nat) (h1 : 1 ≤ n) (h5 : n ≤ 5) (hf : ∀ f ∈ fs, Ok f n) (h0 : 0 < fs.length) (hfl : fs.length ≤ 1000) (hl : lcode (fs.map mp) [] = 0) (w : List Int) (hw : ∀ k ∈ w, 0 ≤ k ∧ k ≤ (fs.length : Int) - 1) (hwl : w.length ≤ 100) : Pure Tryz.prog 43 [.list (aggs (fs.map mp)), .list (ints w)] (.tup [.agg (ints (mp (mw fs (List.range n) w))), .int .i64 0]) := by
 have h6 : (ints (mp (mw fs (List.range n) w))).length = 6 := by rw [ints_length, (mw_ok hf w _ (range_ok h1 h5) hw).mp_len]
 have hW := p111 (fs.map mp) (by simp; omega) w (by simpa using hw) hwl
 refine e43 (by simp) fun _ _ => ?_
 simp only [k43, argEnv, go_sem]
 refine (p72 _ (fs.map mp) [] .nil (by simp; omega) (by simp) (fun r hr => by obtain ⟨f, hf', rfl⟩ := List.mem_map.1 hr; exact (hf f hf').mp_len) (by simp)).go ?_
 rw [hl]
 try simp only [OpK_eq, HKv, go_sem]
 refine hW.go ?_
 try simp only [OpK_eq, HKv, go_sem]
 refine (p112 fs n h1 h5 hf h0 hfl w hw hwl).go ?_
 try simp only [OpK_eq, HKv, h6, go_sem]
 exact Kv.Fin.freeze .still ⟨rfl, rfl⟩
end Go.Proofs.YthbbjbfbeaiphaaGreat
end
section
namespace Go.Proofs.YthbbjbfbeaiphaaGreat
open Go.Kv
set_option maxRecDepth 100000
def k80 : KC := (.seq (.ops [oP 4 (.mv (.c (.bool false)))])
 (.seq (.ops [mV 5 1, mV 6 0, oP 7 (.idxS 6 (.t 6) (iC 0)), oP 8 (.fieldA 0 (.t 7)), oP 9 (.load false 1 (.t 8)), oP 10 (.bin .sub (.t 9) (iC 1)), oP 11 (.call (fC 120) [(.t 5), (iC 0), (.t 10)]), mV 4 11])
 .ret))
theorem e80 : Ent 80 12 [] [.t 4] k80 := ent Tryz.func80 (by kernel_rfl) (by kernel_rfl) (by kernel_rfl) (fun _ => by kernel_rfl) (by kernel_rfl)
def k27 : KC := (.seq (.ops [oP 4 (.mv (.c (.nils))), oP 5 (.mv (iC 0))])
 (.seq (.seq (.ops [mV 7 0, oP 8 (.call (fC 72) [(.t 7), (.c (.nils))]), mV 6 8])
 (.seq (.ops [mV 9 6, oP 10 (.bin .neq (.t 9) (iC 0))])
 (.cond (.t 10) (.seq (.ops [mV 11 6, oP 4 (.mv (.c (.nils))), mV 5 11])
 .ret) .skip)))
 (.seq (.seq (.ops [mV 12 0, mV 13 1, oP 14 (.call (fC 80) [(.t 12), (.t 13)]), oP 15 (.not (.t 14))])
 (.cond (.t 15) (.seq (.ops [oP 4 (.mv (.c (.nils))), oP 5 (.mv (iC 2))])
 .ret) .skip))
 (.seq (.ops [mV 16 0, mV 17 1, oP 18 (.call (fC 81) [(.t 16), (.t 17)]), mV 4 18, oP 5 (.mv (iC 0))])
 .ret))))
theorem e27 : Ent 27 19 [] [.t 4, .t 5] k27 := ent Tryz.func27 (by kernel_rfl) (by kernel_rfl) (by kernel_rfl) (fun _ => by kernel_rfl) (by kernel_rfl)
def k82 : KC := (.seq (.ops [oP 4 (.mv (iC 0))])
 (.seq (.ops [mV 6 0, oP 7 (.call (fC 74) [(.t 6), (.c (.nils))]), mV 5 7])
 (.seq (.seq (.ops [mV 8 5, oP 9 (.bin .eql (.t 8) (iC 0)), mV 10 9, ⟨(some 11), some (10, true), .mv (.t 1)⟩, ⟨(some 12), some (10, true), .mv (.t 0)⟩, ⟨(some 13), some (10, true), .idxS 6 (.t 12) (iC 0)⟩, ⟨(some 14), some (10, true), .fieldA 0 (.t 13)⟩, ⟨(some 15), some (10, true), .load false 1 (.t 14)⟩, ⟨(some 16), some (10, true), .bin .sub (.t 15) (iC 1)⟩, ⟨(some 17), some (10, true), .call (fC 126) [(.t 11), (iC 0), (.t 16)]⟩, ⟨(some 18), some (10, true), .not (.t 17)⟩, oP 19 (.pick (.t 10) (.t 18) (.c (.bool false)))])
 (.cond (.t 19) (.ops [oP 5 (.mv (iC 2))]) .skip))
 (.seq (.ops [mV 20 5, mV 4 20])
 .ret))))
theorem e82 : Ent 82 21 [] [.t 4] k82 := ent Tryz.func82 (by kernel_rfl) (by kernel_rfl) (by kernel_rfl) (fun _ => by kernel_rfl) (by kernel_rfl)
def k28 : KC := (.seq (.ops [oP 4 (.mv (.c (.nils))), oP 5 (.mv (iC 0))])
 (.seq (.seq (.ops [mV 7 0, mV 8 1, oP 9 (.call (fC 82) [(.t 7), (.t 8)]), mV 6 9])
 (.seq (.ops [mV 10 6, oP 11 (.bin .neq (.t 10) (iC 0))])
 (.cond (.t 11) (.seq (.ops [mV 12 6, oP 4 (.mv (.c (.nils))), mV 5 12])
 .ret) .skip)))
 (.seq (.ops [mV 13 0, mV 14 1, oP 15 (.call (fC 84) [(.t 13), (.t 14)]), oP 16 (.call (fC 83) [(.t 15)]), mV 4 16, oP 5 (.mv (iC 0))])
 .ret)))
theorem e28 : Ent 28 17 [] [.t 4, .t 5] k28 := ent Tryz.func28 (by kernel_rfl) (by kernel_rfl) (by kernel_rfl) (fun _ => by kernel_rfl) (by kernel_rfl)
end Go.Proofs.YthbbjbfbeaiphaaGreat
namespace Go.Proofs.YthbbjbfbeaiphaaGreat
open Go.Kv
set_option linter.unusedVariables false
set_option linter.unusedSimpArgs false
attribute [local irreducible] ACall PCall KL
def ocd (a : List (List Int)) (p : Int) : Int := if lcode a [] ≠ 0 then lcode a [] else if 0 ≤ p ∧ p ≤ (a.getD 0 []).getD 0 0 - 1 then 0 else 2
theorem ocd_zero {a : List (List Int)} {p : Int} (h : ocd a p = 0) : lcode a [] = 0 ∧ 0 ≤ p ∧ p ≤ (a.getD 0 []).getD 0 0 - 1 := by
 unfold ocd at h
 split at h
 ·rename_i h1; exact absurd h h1
 ·rename_i h1
  split at h
  ·exact ⟨by simpa using h1, by assumption⟩
  ·cases h
theorem p27_out (a : List (List Int)) (p : Int) (ha : a.length ≤ 1048576) (h6 : ∀ r ∈ a, r.length = 6) (hc : ocd a p ≠ 0) : Pure Tryz.prog 27 [.list (aggs a), .int .i64 p] (.tup [.nils, .int .i64 (ocd a p)]) := by
 refine e27 (by simp) fun _ _ => ?_
 simp only [k27, argEnv, go_sem]
 refine (p72 _ a [] .nil ha (by simp) h6 (by simp)).go ?_
 try simp only [go_sem]
 refine ⟨fun h1 => ?_, fun h1 => ?_⟩
 ·exact Kv.Fin.still ⟨by rw [ocd, if_pos h1], rfl⟩
 ·have hv : ocd a p = if 0 ≤ p ∧ p ≤ (a.getD 0 []).getD 0 0 - 1 then 0 else 2 := by rw [ocd, if_neg (by simp [h1])]
  obtain ⟨fs, n, rfl, hf, hl1, hl2, hn, hn1, hn5⟩ := lcode_maps h6 h1
  have h0 : 0 < fs.length := by omega
  have hk := hf _ (List.getElem_mem h0)
  have h6k := hk.mp_len
  rw [hn] at hv
  rw [map_getD h0] at hn
  have hno : ¬ (0 ≤ p ∧ p ≤ (n : Int) - 1) := fun h => hc (by rw [hv, if_pos h])
  rw [if_neg hno] at hv
  have hip : Pure Tryz.prog 80 [.list (aggs (fs.map mp)), .int .i64 p] (.bool false) := by
   refine e80 (by simp) fun _ _ => ?_
   simp only [k80, argEnv, go_sem]
   try simp only [map_getD h0, h6k, hn, List.length_map, go_sem]
   refine ⟨by omega, fun _ => ⟨by omega, ?_⟩⟩
   refine (p120 _ _ _).go ?_
   try simp only [OpK_eq, go_sem]
   exact Kv.Fin.still ⟨by rw [decide_eq_false hno], rfl⟩
  refine hip.go ?_
  try simp only [OpK_eq, HKv, go_sem]
  exact Kv.Fin.still ⟨by rw [hv], rfl⟩
theorem p27_in (fs : List (List Nat)) (n : Nat) (hf : ∀ f ∈ fs, Ok f n) (h0 : 0 < fs.length) (hfl : fs.length ≤ 6) (hl : lcode (fs.map mp) [] = 0) (q : Nat) (hq : q < n) : NewIO Tryz.prog 27 [.list (aggs (fs.map mp)), .int .i64 q] 2 (nz (orb fs q)) 0 := by
 have hk := hf _ (List.getElem_mem h0)
 have h6k := hk.mp_len
 have hn5 := hk.le
 have hn : (mp fs[0]).getD 0 0 = (n : Int) := by simp [mp, mpN, hk.len]
 unfold NewIO
 refine e27 (by simp) fun _ _ => ?_
 simp only [k27, argEnv, go_sem]
 refine (p72 _ (fs.map mp) [] .nil (by simp; omega) (by simp) (fun r hr => by obtain ⟨f, hf', rfl⟩ := List.mem_map.1 hr; exact (hf f hf').mp_len) (by simp)).go ?_
 rw [hl]
 try simp only [go_sem]
 have hip : Pure Tryz.prog 80 [.list (aggs (fs.map mp)), .int .i64 q] (.bool true) := by
  refine e80 (by simp) fun _ _ => ?_
  simp only [k80, argEnv, go_sem]
  try simp only [map_getD h0, h6k, hn, List.length_map, go_sem]
  refine ⟨by omega, fun _ => ⟨by omega, ?_⟩⟩
  refine (p120 _ _ _).go ?_
  try simp only [OpK_eq, go_sem]
  exact Kv.Fin.still ⟨by rw [decide_eq_true (by omega)], rfl⟩
 refine hip.go ?_
 try simp only [OpK_eq, HKv, go_sem]
 refine (p81 fs n hf hn5 (by omega) q hq).go fun v s ⟨hv, hs⟩ => ?_
 subst hv; subst hs
 try simp only [OpK_eq, HKv, go_sem]
 refine Kv.Fin.now ⟨_, rfl, ?_, .ints _ _ _ _⟩
 have := OwnI.own (e := 2) (σ := [AObj.arr 0 2 1 (ints (nz (orb fs q)))]) (lo := 0) (hi := 1) 0 0 [] (nz (orb fs q)) [] (by simp) ⟨Nat.le_refl _, by omega⟩
 rw [nz_len] at this
 exact this
theorem p28_out (a : List (List Int)) (p : Int) (ha : a.length ≤ 1048576) (h6 : ∀ r ∈ a, r.length = 6) (hc : ocd a p ≠ 0) : Pure Tryz.prog 28 [.list (aggs a), .int .i64 p] (.tup [.nils, .int .i64 (ocd a p)]) := by
 have hcode : Pure Tryz.prog 82 [.list (aggs a), .int .i64 p] (.int .i64 (ocd a p)) := by
  refine e82 (by simp) fun _ _ => ?_
  simp only [k82, argEnv, go_sem]
  refine (p74n a ha h6).go ?_
  try simp only [go_sem]
  refine ⟨fun h1 => ?_, fun h1 => ?_⟩
  ·have hv : ocd a p = if 0 ≤ p ∧ p ≤ (a.getD 0 []).getD 0 0 - 1 then 0 else 2 := by rw [ocd, if_neg (by simp [h1])]
   obtain ⟨fs, n, rfl, hf, hl1, hl2, hn, hn1, hn5⟩ := lcode_maps h6 h1
   have h0 : 0 < fs.length := by omega
   have hk := hf _ (List.getElem_mem h0)
   have h6k := hk.mp_len
   rw [hn] at hv
   rw [map_getD h0] at hn
   have hno : ¬ (0 ≤ p ∧ p ≤ (n : Int) - 1) := fun h => hc (by rw [hv, if_pos h])
   rw [if_neg hno] at hv
   try simp only [map_getD h0, h6k, hn, List.length_map, go_sem]
   refine ⟨by omega, fun _ => ⟨by omega, ?_⟩⟩
   refine (p126 _ _ _).go ?_
   rw [decide_eq_false hno]
   try simp only [OpK_eq, go_sem]
   exact Kv.Fin.still ⟨by rw [hv], rfl⟩
  ·try simp only [OpK_eq, go_sem]
   exact Kv.Fin.still ⟨by rw [ocd, if_pos h1], rfl⟩
 refine e28 (by simp) fun _ _ => ?_
 simp only [k28, argEnv, go_sem]
 refine hcode.go ?_
 try simp only [go_sem]
 exact ⟨fun h1 => Kv.Fin.still ⟨rfl, rfl⟩, fun h1 => absurd h1 hc⟩
theorem p28_in (fs : List (List Nat)) (n : Nat) (hf : ∀ f ∈ fs, Ok f n) (h0 : 0 < fs.length) (hfl : fs.length ≤ 6) (hl : lcode (fs.map mp) [] = 0) (q : Nat) (hq : q < n) : Pure Tryz.prog 28 [.list (aggs (fs.map mp)), .int .i64 q] (.tup [.list (ints (nz (orb fs q))), .int .i64 0]) := by
 have hk := hf _ (List.getElem_mem h0)
 have h6k := hk.mp_len
 have hn5 := hk.le
 have hn : (mp fs[0]).getD 0 0 = (n : Int) := by simp [mp, mpN, hk.len]
 have hcode : Pure Tryz.prog 82 [.list (aggs (fs.map mp)), .int .i64 q] (.int .i64 0) := by
  refine e82 (by simp) fun _ _ => ?_
  simp only [k82, argEnv, go_sem]
  refine (p74n (fs.map mp) (by simp; omega) (fun r hr => by obtain ⟨f, hf', rfl⟩ := List.mem_map.1 hr; exact (hf f hf').mp_len)).go ?_
  rw [hl]
  try simp only [map_getD h0, h6k, hn, List.length_map, go_sem]
  refine ⟨by omega, fun _ => ⟨by omega, ?_⟩⟩
  refine (p126 _ _ _).go ?_
  rw [decide_eq_true (by omega)]
  try simp only [OpK_eq, go_sem]
  exact Kv.Fin.still ⟨rfl, rfl⟩
 refine e28 (by simp) fun _ _ => ?_
 simp only [k28, argEnv, go_sem]
 refine hcode.go ?_
 try simp only [OpK_eq, go_sem]
 refine (p84P fs n hf hn5 (by omega) q hq).go ?_
 try simp only [OpK_eq, go_sem]
 refine (p83 _ (Nat.lt_trans (sb_lt (n := 5) fun y hy => ?_) (by decide))).go ?_
 ·have := reaLt hf hq ((orb_mem hf hn5 hq y).1 hy); omega
 rw [pof_orb hf hn5 hq (orb_mem hf hn5 hq)]
 try simp only [OpK_eq, go_sem]
 exact Kv.Fin.still ⟨rfl, rfl⟩
end Go.Proofs.YthbbjbfbeaiphaaGreat
end
section
namespace Go.Proofs.YthbbjbfbeaiphaaGreat
open Go.Kv
set_option maxRecDepth 100000
def k110_b0 : KC := (.seq (.seq (.ops [mV 4 0, oP 5 (.bin .gtr (.t 4) (iC 0))])
 (.cond (.t 5) .skip (.exit 0)))
 (.seq (.block 1 (.ops [mV 8 3, mV 9 0, oP 10 (.bin .rem (.t 9) (iC 2)), oP 11 (.bin .add (.t 8) (.t 10)), mV 3 11]))
 (.ops [mV 6 0, oP 7 (.bin .quo (.t 6) (iC 2)), mV 0 7])))
def k110 : KC := (.seq (.ops [oP 2 (.mv (iC 0))])
 (.seq (.ops [oP 3 (.mv (iC 0))])
 (.seq (.block 0 (.loop k110_b0))
 (.seq (.ops [mV 12 3, mV 2 12])
 .ret))))
theorem e110 : Ent 110 13 [] [.t 2] k110 := ent Tryz.func110 (by kernel_rfl) (by kernel_rfl) (by kernel_rfl) (fun _ => by kernel_rfl) (by kernel_rfl)
def k42_b0 : KC := (.seq (.seq (.ops [mV 23 7, mV 24 5, oP 25 (.len false (.t 24)), oP 26 (.bin .lss (.t 23) (.t 25))])
 (.cond (.t 26) .skip (.exit 0)))
 (.seq (.block 1 (.seq (.draw [mV 29 5, mV 30 7, oP 31 (.idxS 1 (.t 29) (.t 30)), oP 32 (.load false 1 (.t 31)), mV 34 5, oP 35 (.idxS 1 (.t 34) (iC 0)), oP 36 (.load false 1 (.t 35)), oP 33 (.pcall (fC 110) [(.t 32)]), oP 37 (.pcall (fC 110) [(.t 36)]), oP 38 (.bin .eql (.t 33) (.t 37))])
 (.cond (.t 38) (.ops [mV 39 6, mV 40 5, mV 41 7, oP 42 (.idxS 1 (.t 40) (.t 41)), oP 43 (.load false 1 (.t 42)), oP 44 (.bsl true 2 1 [(.t 43)]), oP 45 (.app (.t 39) (.t 44) 2 1), mV 6 45]) .skip)))
 (.ops [mV 27 7, oP 28 (.bin .add (.t 27) (iC 1)), mV 7 28])))
def k42 : KC := (.seq (.ops [oP 2 (.mv (.c (.nils))), oP 3 (.mv (iC 0))])
 (.seq (.seq (.ops [mV 8 0, oP 9 (.call (fC 74) [(.t 8), (.c (.nils))]), mV 4 9])
 (.seq (.ops [mV 10 4, oP 11 (.bin .neq (.t 10) (iC 0))])
 (.cond (.t 11) (.seq (.ops [mV 12 4, oP 2 (.mv (.c (.nils))), mV 3 12])
 .ret) .skip)))
 (.seq (.ops [mV 13 0, mV 14 0, oP 15 (.idxS 6 (.t 14) (iC 0)), oP 16 (.fieldA 0 (.t 15)), oP 17 (.load false 1 (.t 16)), oP 18 (.conv .u64 (.t 17)), oP 19 (.bin .shl (iC 1) (.t 18)), oP 20 (.bin .sub (.t 19) (iC 1)), oP 21 (.call (fC 107) [(.t 13), (.t 20)]), oP 22 (.bsl false 2 1 []), mV 5 21, mV 6 22])
 (.seq (.seq (.ops [oP 7 (.mv (iC 0))])
 (.block 0 (.loop k42_b0)))
 (.seq (.ops [mV 46 6, oP 47 (.call (fC 97) [(.t 46)]), mV 2 47, oP 3 (.mv (iC 0))])
 .ret)))))
theorem e42 : Ent 42 48 [44] [.t 2, .t 3] k42 := ent Tryz.func42 (by kernel_rfl) (by kernel_rfl) (by kernel_rfl) (fun _ => by kernel_rfl) (by kernel_rfl)
end Go.Proofs.YthbbjbfbeaiphaaGreat
namespace Go.Proofs.YthbbjbfbeaiphaaGreat
open Go.Kv
set_option linter.unusedVariables false
set_option linter.unusedSimpArgs false
attribute [local irreducible] ACall PCall KL
theorem pof_halfS (y k : Nat) : (pof y (k + 1)).length = y % 2 + (pof (y / 2) k).length := by
 unfold pof
 rw [List.range_succ_eq_map, List.filter_cons, List.filter_map]
 have e : (List.range k).filter ((fun i => y.testBit i) ∘ Nat.succ) = (List.range k).filter fun i => (y / 2).testBit i := List.filter_congr fun i _ => by
  simp only [Function.comp_apply, Nat.succ_eq_add_one, Nat.testBit_succ]
 rw [e]
 have h0 : y.testBit 0 = decide (y % 2 = 1) := Nat.testBit_zero y
 rw [h0]
 by_cases h : y % 2 = 1
 ·rw [h]; simp; omega
 ·have : y % 2 = 0 := by omega
  rw [this]; simp
theorem pof_half {y : Nat} (h : y < 2 ^ 62) : (pof y 62).length = y % 2 + (pof (y / 2) 62).length := by
 have h1 := pof_halfS y 61
 have h2 := pof_ext (s := y / 2) (n := 61) (by
  have : (2 : Nat) ^ 62 = 2 * 2 ^ 61 := by decide
  omega) 1
 rw [show (61 : Nat) + 1 = 62 from rfl] at h1 h2
 rw [h1, h2]
theorem p110 (x : Nat) (hx : x < 2 ^ 62) : Pure Tryz.prog 110 [.int .i64 x] (.int .i64 (pof x 62).length) := by
 have hxl := pof_le x 62
 have h62 : (2 : Nat) ^ 62 = 4611686018427387904 := by decide
 refine e110 (by simp) fun _ _ => ?_
 simp only [k110, argEnv, go_sem]
 refine KL_ind k110_b0.eq_1 (fun y : Nat × Nat => [(0, .int .i64 y.1), (3, .int .i64 y.2)]) (fun _ => []) (fun y => y.1 < 2 ^ 62 ∧ y.2 + (pof y.1 62).length = (pof x 62).length) (fun y => y.1) [0, 3] (x, 0) (by simp [keep]) rfl ⟨hx, by simp⟩ fun ⟨y, c⟩ ⟨hy, hc⟩ ih => ?_
 simp only at hy hc
 have hh := pof_half hy
 try simp only [OpK_eq, HKv, go_sem]
 have e2 : (y : Int) / 2 = ((y / 2 : Nat) : Int) := by omega
 have e3 : (c : Int) + (y : Int) % 2 = ((c + y % 2 : Nat) : Int) := by omega
 rw [e2, e3]
 refine ⟨fun h => ⟨by omega, by omega, ih (y / 2, c + y % 2) ⟨by show y / 2 < 2 ^ 62; omega, by show c + y % 2 + (pof (y / 2) 62).length = _; omega⟩ (by show y / 2 < y; omega) _ _ (by simp [keep]) rfl⟩, fun h => ?_⟩
 obtain rfl : y = 0 := by omega
 have e0 : pof 0 62 = [] := by simp [pof]
 rw [e0] at hc
 exact Kv.Fin.still ⟨by rw [← hc]; simp, rfl⟩
def lsS (S : List Nat) : List Nat := S.filter fun b => decide ((pof b 62).length = (pof (S.getD 0 0) 62).length)
def lsSt (S : List Nat) (y : Nat) : List Nat := (S.take y).filter fun b => decide ((pof b 62).length = (pof (S.getD 0 0) 62).length)
theorem lsSt_succ (S : List Nat) {y : Nat} (h : y < S.length) : lsSt S (y + 1) = if (pof (S.getD y 0) 62).length = (pof (S.getD 0 0) 62).length then lsSt S y ++ [S.getD y 0] else lsSt S y := by
 unfold lsSt
 rw [List.take_succ_eq_append_getElem h, List.filter_append, getD_eq h]
 by_cases e : (pof S[y] 62).length = (pof (S.getD 0 0) 62).length
 ·rw [if_pos e]; simp [e]
 ·rw [if_neg e, List.filter_cons_of_neg (by simpa using e)]; simp
theorem p42_in (fs : List (List Nat)) (n : Nat) (hf : ∀ f ∈ fs, Ok f n) (h0 : 0 < fs.length) (hfl : fs.length ≤ 6) (hl : lcode (fs.map mp) [] = 0) : Pure Tryz.prog 42 [.list (aggs (fs.map mp))] (.tup [.list (rows (rowsB (lsS (imS fs n (2 ^ n - 1))))), .int .i64 0]) := by
 have hk := hf _ (List.getElem_mem h0)
 have h6k := hk.mp_len
 have h5 := hk.le
 have h1 := hk.pos
 have h32 := pw5 h5
 have hn : (mp fs[0]).getD 0 0 = (n : Int) := by simp [mp, mpN, hk.len]
 have hn61 : n ≤ 61 := by omega
 have h2n : 2 ≤ 2 ^ n := by
  have := Nat.pow_le_pow_right (show 0 < 2 by omega) h1
  simpa using this
 have hS := imS_srt (fs := fs) (x := 2 ^ n - 1) h5
 have hSm := imS_mem (fs := fs) (x := 2 ^ n - 1) h5 hf (by omega) (by omega)
 have hSl := srt_len5 hS h5 fun b hb => (((hSm b).1 hb).bnd hf (by omega) (by omega)).2
 have hpos : 0 < (imS fs n (2 ^ n - 1)).length := List.length_pos_of_mem ((hSm _).2 .here)
 refine e42 (by simp) fun _ _ => ?_
 simp only [k42, argEnv, go_sem]
 refine (p74n (fs.map mp) (by simp; omega) (fun r hr => by obtain ⟨f, hf', rfl⟩ := List.mem_map.1 hr; exact (hf f hf').mp_len)).go ?_
 rw [hl]
 try simp only [OpK_eq, HKv, map_getD h0, h6k, hn, List.length_map, aConv_u64 hn61, aBin_shl1 hn61, go_sem]
 have e1 : ((2 ^ n : Nat) : Int) - 1 = ((2 ^ n - 1 : Nat) : Int) := by omega
 rw [e1]
 refine ⟨by omega, fun _ => ⟨by omega, ?_⟩⟩
 refine (p107 fs n h5 hf (by omega) (2 ^ n - 1) (by omega) (by omega)).go ?_
 generalize imS fs n (2 ^ n - 1) = S at *
 try simp only [OpK_eq, HKv, go_sem]
 refine KL_ind k42_b0.eq_1 (fun y : Nat => [(5, .list (ints (nz S))), (6, .ref 0 (lsSt S y).length 0 (lsSt S y).length), (7, .int .i64 y)]) (fun y => [.arr (lsSt S y).length 2 1 (ints (nz (lsSt S y)))]) (fun y => y ≤ S.length) (fun y => S.length - y) [5, 6, 7] 0 (by simp [keep, lsSt]) (by simp [lsSt, nz]; rfl) (Nat.zero_le _) fun y hy ih => ?_
 have hll : (lsSt S y).length ≤ y := by
  unfold lsSt
  refine Nat.le_trans (List.length_filter_le _ _) ?_
  rw [List.length_take]; omega
 try simp only [OpK_eq, HKv, nz_len, nzD, go_sem]
 refine ⟨fun h2 => ?_, fun h2 => ?_⟩
 ·have hyl : y < S.length := by omega
  have ha := hS.2 _ (getD_mem hyl 0)
  have hb := hS.2 _ (getD_mem hpos 0)
  refine ⟨by omega, fun _ => ⟨by omega, fun _ => ?_⟩⟩
  have hsu := lsSt_succ S hyl
  refine (p110 _ ha).pgo ?_
  try simp only [OpK_eq, HKv, go_sem]
  refine (p110 _ hb).pgo ?_
  have htk : List.take (lsSt S y).length (nz (lsSt S y)) = nz (lsSt S y) := List.take_of_length_le (by rw [nz_len]; exact Nat.le_refl _)
  by_cases e : (pof (S.getD y 0) 62).length = (pof (S.getD 0 0) 62).length
  ·rw [if_pos e] at hsu
   try simp only [OpK_eq, HKv, nz_len, nzD, htk, go_sem]
   refine ⟨fun _ => ⟨by omega, fun _ => ⟨⟨by omega, by omega⟩, by omega, ih (y + 1) (by omega) (by omega) _ _ ?_ ?_⟩⟩, fun h => absurd (by omega) h⟩
   ·rw [hsu]; simp [keep]
   ·rw [hsu]; simp [nz]
  ·rw [if_neg e] at hsu
   try simp only [OpK_eq, HKv, nz_len, nzD, htk, go_sem]
   refine ⟨fun h => absurd (by omega) e, fun _ => ⟨by omega, ih (y + 1) (by omega) (by omega) _ _ ?_ ?_⟩⟩
   ·rw [hsu]; simp [keep]
   ·rw [hsu]
 ·obtain rfl : y = S.length := by omega
  have e : lsSt S S.length = lsS S := by rw [lsSt, List.take_length]; rfl
  rw [e] at hll ⊢
  try simp only [OpK_eq, HKv, go_sem]
  refine ACall.give (id := 0) rfl (p97 (lsS S) (fun x hx => hS.2 x (List.mem_filter.1 hx).1) (by omega)) (.cons (Imm.refn (l := nz (lsS S)) (solo_get rfl) (by rw [nz_len])) (.nil _)) fun v s hv => ?_
  obtain ⟨rfl, rfl⟩ := hv
  try simp only [OpK_eq, HKv, go_sem]
  exact Kv.Fin.still ⟨rfl, rfl⟩
theorem p42_out (a : List (List Int)) (ha : a.length ≤ 1048576) (h6 : ∀ r ∈ a, r.length = 6) (hc : lcode a [] ≠ 0) : Pure Tryz.prog 42 [.list (aggs a)] (.tup [.nils, .int .i64 (lcode a [])]) := by
 refine e42 (by simp) fun _ _ => ?_
 simp only [k42, argEnv, go_sem]
 refine (p74n a ha h6).go ?_
 try simp only [OpK_eq, HKv, go_sem]
 exact ⟨fun h1 => Kv.Fin.still ⟨rfl, rfl⟩, fun h1 => absurd h1 hc⟩
end Go.Proofs.YthbbjbfbeaiphaaGreat
end
section
namespace Go.Proofs.YthbbjbfbeaiphaaGreat
open Go.Kv
set_option linter.unusedVariables false
set_option linter.unusedSimpArgs false
attribute [local irreducible] ACall PCall KL
theorem wq_grow {fs : List (List Nat)} {P : List Int} {i : Nat} (h : i < (wq fs P i).length) : i + 1 ≤ (wq fs P (i + 1)).length := by
 have e : wq fs P (i + 1) = advN fs img (wq fs P i) (wq fs P i)[i] fs.length := congrArg Prod.fst (bq_succ h)
 rw [e]
 have := advN_mono fs img (wq fs P i) (wq fs P i)[i] (Nat.zero_le fs.length)
 have e0 : advN fs img (wq fs P i) (wq fs P i)[i] 0 = wq fs P i := rfl
 rw [e0] at this
 omega
theorem wq_stop {fs : List (List Nat)} {P : List Int} {i : Nat} (h : i = (wq fs P i).length) : ∀ d, wq fs P (i + d) = wq fs P i
 | 0 => rfl
 | d + 1 => by
  have ih := wq_stop h d
  have e : wq fs P (i + d + 1) = wq fs P (i + d) := by
   show (bq fs img (fun (_ : Unit) _ => ()) ([(P, [])], ()) (i + d + 1)).1 = _
   rw [bq]
   have : (bq fs img (fun (_ : Unit) _ => ()) ([(P, [])], ()) (i + d)).1[i + d]? = none := by
    have hl : (bq fs img (fun (_ : Unit) _ => ()) ([(P, [])], ()) (i + d)).1.length = (wq fs P i).length := congrArg List.length ih
    exact List.getElem?_eq_none (by omega)
   rw [this]
  rw [← Nat.add_assoc, e, ih]
theorem wq_first {fs : List (List Nat)} {P Q : List Int} (hN : ∀ i, (wq fs P i).length ≤ 32) :
  (∃ i, ∃ h : i < (wq fs P i).length, (wq fs P i)[i].1 = Q ∧ ∀ j (h : j < (wq fs P j).length), j < i → (wq fs P j)[j].1 ≠ Q) ∨
  (∃ i, i = (wq fs P i).length ∧ ∀ j (h : j < (wq fs P j).length), j < i → (wq fs P j)[j].1 ≠ Q) := by
 refine Classical.byContradiction fun hno => ?_
 have key : ∀ t, t ≤ (wq fs P t).length ∧ ∀ j (h : j < (wq fs P j).length), j < t → (wq fs P j)[j].1 ≠ Q := fun t => by
  induction t with
  | zero => exact ⟨Nat.zero_le _, fun j _ h => by omega⟩
  | succ t ih =>
   obtain ⟨h1, h2⟩ := ih
   by_cases e : t = (wq fs P t).length
   ·exact absurd (.inr ⟨t, e, h2⟩) hno
   ·have hlt : t < (wq fs P t).length := by omega
    by_cases e2 : (wq fs P t)[t].1 = Q
    ·exact absurd (.inl ⟨t, hlt, e2, h2⟩) hno
    ·refine ⟨wq_grow hlt, fun j h hj => ?_⟩
     by_cases e3 : j = t
     ·subst e3; exact e2
     ·exact h2 j h (by omega)
 have h1 := (key 33).1
 have h2 := hN 33
 omega
end Go.Proofs.YthbbjbfbeaiphaaGreat
end
section
namespace Go.Proofs.YthbbjbfbeaiphaaGreat
open Go.Kv
set_option maxRecDepth 100000
def k9_b0 : KC := (.seq (.seq (.ops [mV 11 5, mV 12 0, oP 13 (.len false (.t 12)), oP 14 (.bin .lss (.t 11) (.t 13))])
 (.cond (.t 14) .skip (.exit 0)))
 (.seq (.block 1 (.seq (.draw [mV 17 0, mV 18 5, oP 19 (.idxS 1 (.t 17) (.t 18)), oP 20 (.load false 1 (.t 19)), mV 21 1, mV 22 5, oP 23 (.idxS 1 (.t 21) (.t 22)), oP 24 (.load false 1 (.t 23)), oP 25 (.bin .neq (.t 20) (.t 24))])
 (.cond (.t 25) (.seq (.ops [oP 4 (.mv (.c (.bool false)))])
 .ret) .skip)))
 (.ops [mV 15 5, oP 16 (.bin .add (.t 15) (iC 1)), mV 5 16])))
def k9 : KC := (.seq (.ops [oP 4 (.mv (.c (.bool false)))])
 (.seq (.seq (.ops [mV 6 0, oP 7 (.len false (.t 6)), mV 8 1, oP 9 (.len false (.t 8)), oP 10 (.bin .neq (.t 7) (.t 9))])
 (.cond (.t 10) (.seq (.ops [oP 4 (.mv (.c (.bool false)))])
 .ret) .skip))
 (.seq (.seq (.ops [oP 5 (.mv (iC 0))])
 (.block 0 (.loop k9_b0)))
 (.seq (.ops [oP 4 (.mv (.c (.bool true)))])
 .ret))))
theorem e9 : Ent 9 26 [] [.t 4] k9 := ent Tryz.func9 (by kernel_rfl) (by kernel_rfl) (by kernel_rfl) (fun _ => by kernel_rfl) (by kernel_rfl)
end Go.Proofs.YthbbjbfbeaiphaaGreat
namespace Go.Proofs.YthbbjbfbeaiphaaGreat
open Go.Kv
set_option linter.unusedVariables false
set_option linter.unusedSimpArgs false
attribute [local irreducible] ACall PCall KL
theorem p9 (a : List Int) (ha : a.length ≤ 1000) : Pure Tryz.prog 9 [.list (ints a), .list (ints a)] (.bool true) := by
 refine e9 (by simp) fun _ _ => ?_
 simp only [k9, argEnv, go_sem]
 try simp only [OpK_eq, HKv, bne_self_eq_false, go_sem]
 refine KL_ind k9_b0.eq_1 (fun x : Nat => [(0, .list (ints a)), (1, .list (ints a)), (5, .int .i64 x)]) (fun _ => []) (fun x => x ≤ a.length) (fun x => a.length - x) [0, 1, 5] 0 (by simp [keep]) rfl (Nat.zero_le _) fun x hx ih => ?_
 try simp only [OpK_eq, HKv, go_sem]
 refine ⟨fun h1 => ?_, fun h1 => Kv.Fin.still ⟨rfl, rfl⟩⟩
 exact ⟨by omega, fun _ => ⟨by omega, fun _ => ⟨by omega, ih (x + 1) (by omega) (by omega) _ _ (by simp [keep]) rfl⟩⟩⟩
theorem p9n : Pure Tryz.prog 9 [.nils, .nils] (.bool true) := by
 refine e9 (by simp) fun _ _ => ?_
 simp only [k9, argEnv, go_sem]
 try simp only [OpK_eq, HKv, bne_self_eq_false, go_sem]
 refine KL_ind k9_b0.eq_1 (fun x : Unit => [(0, .nils), (1, .nils), (5, .int .i64 0)]) (fun _ => []) (fun x => True) (fun x => 0) [0, 1, 5] () (by simp [keep]) rfl trivial fun x hx ih => ?_
 try simp only [OpK_eq, HKv, go_sem]
 exact Kv.Fin.still ⟨rfl, rfl⟩
end Go.Proofs.YthbbjbfbeaiphaaGreat
end
section
namespace Go.Proofs.YthbbjbfbeaiphaaGreat
open Go.Kv
set_option maxRecDepth 100000
def k23_b0 : KC := (.seq (.seq (.ops [mV 11 5, mV 12 0, oP 13 (.len false (.t 12)), oP 14 (.bin .lss (.t 11) (.t 13))])
 (.cond (.t 14) .skip (.exit 0)))
 (.seq (.block 1 (.seq (.draw [mV 17 0, mV 18 5, oP 19 (.idxS 6 (.t 17) (.t 18)), oP 20 (.load true 6 (.t 19)), mV 21 1, mV 22 5, oP 23 (.idxS 6 (.t 21) (.t 22)), oP 24 (.load true 6 (.t 23)), oP 25 (.aeq true 6 (.t 20) (.t 24))])
 (.cond (.t 25) (.seq (.ops [oP 4 (.mv (.c (.bool false)))])
 .ret) .skip)))
 (.ops [mV 15 5, oP 16 (.bin .add (.t 15) (iC 1)), mV 5 16])))
def k23 : KC := (.seq (.ops [oP 4 (.mv (.c (.bool false)))])
 (.seq (.seq (.ops [mV 6 0, oP 7 (.len false (.t 6)), mV 8 1, oP 9 (.len false (.t 8)), oP 10 (.bin .neq (.t 7) (.t 9))])
 (.cond (.t 10) (.seq (.ops [oP 4 (.mv (.c (.bool false)))])
 .ret) .skip))
 (.seq (.seq (.ops [oP 5 (.mv (iC 0))])
 (.block 0 (.loop k23_b0)))
 (.seq (.ops [oP 4 (.mv (.c (.bool true)))])
 .ret))))
theorem e23 : Ent 23 26 [] [.t 4] k23 := ent Tryz.func23 (by kernel_rfl) (by kernel_rfl) (by kernel_rfl) (fun _ => by kernel_rfl) (by kernel_rfl)
def k19_b0 : KC := (.seq (.seq (.ops [mV 11 5, mV 12 0, oP 13 (.len false (.t 12)), oP 14 (.bin .lss (.t 11) (.t 13))])
 (.cond (.t 14) .skip (.exit 0)))
 (.seq (.block 1 (.seq (.draw [mV 17 0, mV 18 5, oP 19 (.idxS 1 (.t 17) (.t 18)), oP 20 (.load false 1 (.t 19)), mV 21 1, mV 22 5, oP 23 (.idxS 1 (.t 21) (.t 22)), oP 24 (.load false 1 (.t 23)), oP 25 (.pcall (fC 9) [(.t 20), (.t 24)]), oP 26 (.not (.t 25))])
 (.cond (.t 26) (.seq (.ops [oP 4 (.mv (.c (.bool false)))])
 .ret) .skip)))
 (.ops [mV 15 5, oP 16 (.bin .add (.t 15) (iC 1)), mV 5 16])))
def k19 : KC := (.seq (.ops [oP 4 (.mv (.c (.bool false)))])
 (.seq (.seq (.ops [mV 6 0, oP 7 (.len false (.t 6)), mV 8 1, oP 9 (.len false (.t 8)), oP 10 (.bin .neq (.t 7) (.t 9))])
 (.cond (.t 10) (.seq (.ops [oP 4 (.mv (.c (.bool false)))])
 .ret) .skip))
 (.seq (.seq (.ops [oP 5 (.mv (iC 0))])
 (.block 0 (.loop k19_b0)))
 (.seq (.ops [oP 4 (.mv (.c (.bool true)))])
 .ret))))
theorem e19 : Ent 19 27 [] [.t 4] k19 := ent Tryz.func19 (by kernel_rfl) (by kernel_rfl) (by kernel_rfl) (fun _ => by kernel_rfl) (by kernel_rfl)
end Go.Proofs.YthbbjbfbeaiphaaGreat
namespace Go.Proofs.YthbbjbfbeaiphaaGreat
open Go.Kv
set_option linter.unusedVariables false
set_option linter.unusedSimpArgs false
attribute [local irreducible] ACall PCall KL
theorem getD_memZ {α : Type} {l : List (List α)} {i : Nat} (h : i < l.length) : l.getD i [] ∈ l := by
 rw [List.getD_eq_getElem?_getD, List.getElem?_eq_getElem h]; exact List.getElem_mem _
theorem p23 (a : List (List Int)) (ha : a.length ≤ 1000) (h6 : ∀ r ∈ a, r.length = 6) : Pure Tryz.prog 23 [.list (aggs a), .list (aggs a)] (.bool true) := by
 refine e23 (by simp) fun _ _ => ?_
 simp only [k23, argEnv, go_sem]
 try simp only [OpK_eq, HKv, aggs_length, bne_self_eq_false, go_sem]
 refine KL_ind k23_b0.eq_1 (fun x : Nat => [(0, .list (aggs a)), (1, .list (aggs a)), (5, .int .i64 x)]) (fun _ => []) (fun x => x ≤ a.length) (fun x => a.length - x) [0, 1, 5] 0 (by simp [keep]) rfl (Nat.zero_le _) fun x hx ih => ?_
 try simp only [OpK_eq, HKv, aggs_length, go_sem]
 refine ⟨fun h1 => ?_, fun h1 => Kv.Fin.still ⟨rfl, rfl⟩⟩
 have hx2 : x < a.length := by omega
 have h6x : (a.getD x []).length = 6 := h6 _ (getD_memZ hx2)
 try simp only [OpK_eq, HKv, aggs_length, h6x, go_sem]
 exact ⟨by omega, fun _ => ⟨by omega, fun _ => ⟨by omega, ih (x + 1) (by omega) (by omega) _ _ (by simp [keep]) rfl⟩⟩⟩
theorem p19 (a : List (List Int)) (ha : a.length ≤ 1000) (h6 : ∀ r ∈ a, r.length ≤ 1000) : Pure Tryz.prog 19 [.list (rows a), .list (rows a)] (.bool true) := by
 refine e19 (by simp) fun _ _ => ?_
 simp only [k19, argEnv, go_sem]
 try simp only [OpK_eq, HKv, bne_self_eq_false, go_sem]
 refine KL_ind k19_b0.eq_1 (fun x : Nat => [(0, .list (rows a)), (1, .list (rows a)), (5, .int .i64 x)]) (fun _ => []) (fun x => x ≤ a.length) (fun x => a.length - x) [0, 1, 5] 0 (by simp [keep]) rfl (Nat.zero_le _) fun x hx ih => ?_
 try simp only [OpK_eq, HKv, go_sem]
 refine ⟨fun h1 => ?_, fun h1 => Kv.Fin.still ⟨rfl, rfl⟩⟩
 refine ⟨by omega, fun _ => ⟨by omega, fun hxl => ?_⟩⟩
 refine (p9 (a.getD x []) (h6 _ (getD_memZ hxl))).pgo ?_
 try simp only [OpK_eq, HKv, go_sem]
 exact ⟨by omega, ih (x + 1) (by omega) (by omega) _ _ (by simp [keep]) rfl⟩
theorem p19n : Pure Tryz.prog 19 [.list (rows []), .nils] (.bool true) := by
 refine e19 (by simp) fun _ _ => ?_
 simp only [k19, argEnv, go_sem]
 try simp only [OpK_eq, HKv, bne_self_eq_false, go_sem]
 refine KL_ind k19_b0.eq_1 (fun x : Unit => [(0, .list (rows [])), (1, .nils), (5, .int .i64 0)]) (fun _ => []) (fun x => True) (fun x => 0) [0, 1, 5] () (by simp [keep]) rfl trivial fun x hx ih => ?_
 try simp only [OpK_eq, HKv, go_sem]
 exact Kv.Fin.still ⟨rfl, rfl⟩
theorem p19nn : Pure Tryz.prog 19 [.nils, .nils] (.bool true) := by
 refine e19 (by simp) fun _ _ => ?_
 simp only [k19, argEnv, go_sem]
 try simp only [OpK_eq, HKv, bne_self_eq_false, go_sem]
 refine KL_ind k19_b0.eq_1 (fun x : Unit => [(0, .nils), (1, .nils), (5, .int .i64 0)]) (fun _ => []) (fun x => True) (fun x => 0) [0, 1, 5] () (by simp [keep]) rfl trivial fun x hx ih => ?_
 try simp only [OpK_eq, HKv, go_sem]
 exact Kv.Fin.still ⟨rfl, rfl⟩
end Go.Proofs.YthbbjbfbeaiphaaGreat
end
section
namespace Go.Proofs.YthbbjbfbeaiphaaGreat
open Go.Kv
set_option linter.unusedVariables false
set_option linter.unusedSimpArgs false
attribute [local irreducible] ACall PCall KL
theorem p9e2 : Pure Tryz.prog 9 [.list (ints []), .nils] (.bool true) := by
 refine e9 (by simp) fun _ _ => ?_
 simp only [k9, argEnv, go_sem]
 try simp only [OpK_eq, HKv, bne_self_eq_false, go_sem]
 refine KL_ind k9_b0.eq_1 (fun x : Unit => [(0, .list (ints [])), (1, .nils), (5, .int .i64 0)]) (fun _ => []) (fun x => True) (fun x => 0) [0, 1, 5] () (by simp [keep]) rfl trivial fun x hx ih => ?_
 try simp only [OpK_eq, HKv, go_sem]
 exact Kv.Fin.still ⟨rfl, rfl⟩
theorem p9G (a b : List Int) (ha : a.length ≤ 1000) (hb : b.length ≤ 1000) : Pure Tryz.prog 9 [.list (ints a), .list (ints b)] (.bool (decide (a = b))) := by
 refine e9 (by simp) fun _ _ => ?_
 simp only [k9, argEnv, go_sem]
 try simp only [OpK_eq, HKv, go_sem]
 refine ⟨fun h => Kv.Fin.still ⟨by rw [decide_eq_false fun e => h (by rw [e])], rfl⟩, fun h => ?_⟩
 have hab : a.length = b.length := by omega
 refine KL_ind k9_b0.eq_1 (fun x : Nat => [(0, .list (ints a)), (1, .list (ints b)), (5, .int .i64 x)]) (fun _ => []) (fun x => x ≤ a.length ∧ ∀ j, j < x → a.getD j 0 = b.getD j 0) (fun x => a.length - x) [0, 1, 5] 0 (by simp [keep]) rfl ⟨Nat.zero_le _, fun j hj => by omega⟩ fun x ⟨hx, hj⟩ ih => ?_
 try simp only [OpK_eq, HKv, go_sem]
 refine ⟨fun h1 => ⟨by omega, fun _ => ⟨by omega, fun _ => ⟨fun h2 => ?_, fun h2 => ⟨by omega, ih (x + 1) ⟨by omega, fun j hj2 => ?_⟩ (by omega) _ _ (by simp [keep]) rfl⟩⟩⟩⟩, fun h1 => ?_⟩
 ·exact Kv.Fin.still ⟨by rw [decide_eq_false fun e => h2 (by rw [e])], rfl⟩
 ·by_cases e : j = x
  ·subst e; omega
  ·exact hj j (by omega)
 ·obtain rfl : x = a.length := by omega
  have : a = b := List.ext_getElem hab fun i h1 h2 => by
   have := hj i h1
   rwa [List.getD_eq_getElem?_getD, List.getD_eq_getElem?_getD, List.getElem?_eq_getElem h1, List.getElem?_eq_getElem h2] at this
  exact Kv.Fin.still ⟨by rw [decide_eq_true this], rfl⟩
structure Lst (t : List (List Int)) (fs : List (List Nat)) (n : Nat) : Prop where
 eq : t = fs.map mp
 ok : ∀ f ∈ fs, Ok f n
 l1 : 1 ≤ fs.length
 l2 : fs.length ≤ 6
 n1 : 1 ≤ n
 n5 : n ≤ 5
 hl : lcode (fs.map mp) [] = 0
 hn : (t.getD 0 []).getD 0 0 = n
theorem lst_of {t : List (List Int)} (h6 : ∀ r ∈ t, r.length = 6) (h : lcode t [] = 0) : ∃ fs n, Lst t fs n := by
 obtain ⟨fs, n, e, hf, hl1, hl2, hn, hn1, hn5⟩ := lcode_maps h6 h
 exact ⟨fs, n, e, hf, hl1, hl2, hn1, hn5, by rw [← e]; exact h, hn⟩
theorem lst_uniq {t : List (List Int)} {fs gs : List (List Nat)} {n m : Nat} (h : Lst t fs n) (h' : Lst t gs m) : fs = gs ∧ n = m := by
 refine ⟨?_, by have := h.hn; have := h'.hn; omega⟩
 have := congrArg (List.map um) (h.eq.symm.trans h'.eq)
 rwa [map_um, map_um] at this
theorem or_loc (t : List (List Int)) (h7 : t.length ≤ 7) (h6 : Mp6 t) (p : Int) : ∃ (V : PV) (c : Int), Still V ∧ Pure Tryz.prog 27 [.list (aggs t), .int .i64 p] (.tup [V, .int .i64 c]) ∧ Pure Tryz.prog 28 [.list (aggs t), .int .i64 p] (.tup [V, .int .i64 c]) ∧ Pure Tryz.prog 9 [V, V] (.bool true) ∧
  ((c = 0 ∧ ∃ fs n, ∃ q : Nat, Lst t fs n ∧ q < n ∧ p = q ∧ V = .list (ints (nz (orb fs q)))) ∨ (c ≠ 0 ∧ V = .nils)) := by
 by_cases hc : ocd t p = 0
 ·obtain ⟨h1, h2, h3⟩ := ocd_zero hc
  obtain ⟨fs, n, hL⟩ := lst_of h6 h1
  obtain ⟨q, rfl⟩ : ∃ q : Nat, p = q := ⟨p.toNat, by omega⟩
  rw [hL.hn] at h3
  have hL2 := hL
  obtain ⟨rfl, hf, hl1, hl2, hn1, hn5, hl, hn⟩ := hL
  have hlen := orb_len fs q
  exact ⟨_, 0, inferInstance, NewIO.frozen (p27_in fs n hf (by omega) hl2 hl q (by omega)), p28_in fs n hf (by omega) hl2 hl q (by omega), p9 _ (by rw [nz_len]; omega), .inl ⟨rfl, fs, n, q, hL2, by omega, rfl, rfl⟩⟩
 ·exact ⟨.nils, ocd t p, inferInstance, p27_out t p (by omega) h6 hc, p28_out t p (by omega) h6 hc, p9n, .inr ⟨hc, rfl⟩⟩
theorem sp_loc (t : List (List Int)) (h7 : t.length ≤ 7) (h6 : Mp6 t) : ∃ W, Still W ∧ Pure Tryz.prog 29 [.list (aggs t)] (.tup [.list (rows (spc t)), .int .i64 (lcode t [])]) ∧ Pure Tryz.prog 30 [.list (aggs t)] (.tup [W, .int .i64 (lcode t [])]) ∧ Pure Tryz.prog 19 [.list (rows (spc t)), W] (.bool true) := by
 have hi := NewTO.frozen (p29 t (by omega) h6)
 have hs := p30 t (by omega) h6
 by_cases h : lcode t [] = 0
 ·obtain ⟨fs, n, hL⟩ := lst_of h6 h
  rw [if_pos h] at hs
  obtain ⟨rfl, hf, hl1, hl2, hn1, hn5, hl, hn⟩ := hL
  have e := spc_in hl hn
  have hlen := strong_len fs n
  refine ⟨_, inferInstance, hi, hs, p19 _ (by rw [e]; omega) fun r hr => ?_⟩
  rw [e] at hr
  unfold strong at hr
  obtain ⟨p, _, rfl⟩ := List.mem_map.1 hr
  have := prtL_len fs p
  rw [nz_len]; omega
 ·rw [if_neg h] at hs
  have e : spc t = [] := by unfold spc; rw [if_neg h]
  exact ⟨_, inferInstance, hi, hs, by rw [e]; exact p19n⟩
theorem iv_loc (t : List (List Int)) (h7 : t.length ≤ 7) (h6 : Mp6 t) : ∃ (V : PV) (c : Int), Still V ∧ Pure Tryz.prog 33 [.list (aggs t)] (.tup [V, .int .i64 c]) ∧ Pure Tryz.prog 34 [.list (aggs t)] (.tup [V, .int .i64 c]) ∧ Pure Tryz.prog 19 [V, V] (.bool true) ∧ ((c = 0 ∧ ∃ fs n, Lst t fs n ∧ V = .list (rows (rowsB (insS fs n (2 ^ n)))) ∧ (insS fs n (2 ^ n)).length ≤ 32 ∧ ∀ r ∈ rowsB (insS fs n (2 ^ n)), r.length ≤ 5) ∨ (c = lcode t [] ∧ c ≠ 0 ∧ V = .nils)) := by
 by_cases h : lcode t [] = 0
 ·obtain ⟨fs, n, hL⟩ := lst_of h6 h
  have hL2 := hL
  obtain ⟨rfl, hf, hl1, hl2, hn1, hn5, hl, hn⟩ := hL
  have hp62 : (2 : Nat) ^ n ≤ 2 ^ 62 := Nat.pow_le_pow_right (by decide) (by omega)
  have hlen := insS_len fs n (2 ^ n) hp62
  have hp5 := pw5 hn5
  have hr : ∀ r ∈ rowsB (insS fs n (2 ^ n)), r.length ≤ 5 := fun r hr => by
   obtain ⟨b, hb, rfl⟩ := List.mem_map.1 hr
   exact row_len hn5 (goods_mem.1 ((insS_mem fs n _ b).1 hb)).1
  exact ⟨_, 0, inferInstance, NewTO.frozen (p33_in fs n hf (by omega) hl2 hl), p34_in fs n hf (by omega) hl2 hl, p19 _ (by simp [rowsB]; omega) (fun r h => by have := hr r h; omega), .inl ⟨rfl, fs, n, hL2, rfl, by omega, hr⟩⟩
 ·exact ⟨.nils, lcode t [], inferInstance, p33_out t (by omega) h6 h, p34_out t (by omega) h6 h, p19nn, .inr ⟨rfl, h, rfl⟩⟩
end Go.Proofs.YthbbjbfbeaiphaaGreat
end
section
namespace Go.Proofs.YthbbjbfbeaiphaaGreat
open Go.Kv
set_option linter.unusedVariables false
set_option linter.unusedSimpArgs false
attribute [local irreducible] ACall PCall KL
theorem rows_least {S : List Nat} (hS : Srt S) : (rowsB S).filter (fun r => !decide (((pof (S.getD 0 0) 62).length : Int) < (r.length : Int))) = rowsB (lsS S) := by
 unfold rowsB lsS
 rw [List.filter_map]
 congr 1
 refine List.filter_congr fun b hb => ?_
 have h := srt_first hS hb
 simp only [Function.comp_apply, nz_len]
 by_cases e : (pof b 62).length = (pof (S.getD 0 0) 62).length
 ·rw [decide_eq_true e, decide_eq_false (by omega)]; rfl
 ·rw [decide_eq_false e, decide_eq_true (by omega)]; rfl
end Go.Proofs.YthbbjbfbeaiphaaGreat
end
section
namespace Go.Proofs.YthbbjbfbeaiphaaGreat
open Go.Kv
set_option linter.unusedVariables false
set_option linter.unusedSimpArgs false
attribute [local irreducible] ACall PCall KL
theorem li_loc (t : List (List Int)) (h7 : t.length ≤ 7) (h6 : Mp6 t) : ∃ (V : PV) (c : Int), Still V ∧ Pure Tryz.prog 41 [.list (aggs t)] (.tup [V, .int .i64 c]) ∧ Pure Tryz.prog 42 [.list (aggs t)] (.tup [V, .int .i64 c]) ∧ Pure Tryz.prog 19 [V, V] (.bool true) ∧ ((c = 0 ∧ ∃ fs n T, Lst t fs n ∧ V = .list (rows T) ∧ 1 ≤ T.length ∧ T.length ≤ 32 ∧ (T.getD 0 []).length = (pof ((imS fs n (2 ^ n - 1)).getD 0 0) 62).length) ∨ (c = lcode t [] ∧ c ≠ 0 ∧ V = .nils)) := by
 by_cases h : lcode t [] = 0
 ·obtain ⟨fs, n, hL⟩ := lst_of h6 h
  have hL2 := hL
  obtain ⟨rfl, hf, hl1, hl2, hn1, hn5, hl, hn⟩ := hL
  obtain ⟨p1, p2⟩ := full_pos hn1
  obtain ⟨r1, r2⟩ := imS_rows hn5 hf p1 p2
  have hsrt := imS_srt (fs := fs) (n := n) (x := 2 ^ n - 1) hn5
  have h0 : 0 < (imS fs n (2 ^ n - 1)).length := List.length_pos_of_mem ((imS_mem hn5 hf p1 p2 _).2 .here)
  have hi := NewTO.frozen (p41_in fs n hf (by omega) hl2 hl)
  rw [rows_least hsrt] at hi
  have hle : (lsS (imS fs n (2 ^ n - 1))).length ≤ (imS fs n (2 ^ n - 1)).length := List.length_filter_le _ _
  obtain ⟨a, S, hS⟩ : ∃ a S, imS fs n (2 ^ n - 1) = a :: S := by
   cases hc : imS fs n (2 ^ n - 1) with
   | nil => rw [hc] at h0; simp at h0
   | cons a S => exact ⟨a, S, rfl⟩
  have hfirst : ∃ R, lsS (imS fs n (2 ^ n - 1)) = a :: R := by
   rw [hS]
   unfold lsS
   rw [List.filter_cons, if_pos (decide_eq_true (show (pof a 62).length = (pof ((a :: S).getD 0 0) 62).length from rfl))]
   exact ⟨_, rfl⟩
  obtain ⟨R, hR⟩ := hfirst
  have ha0 : (imS fs n (2 ^ n - 1)).getD 0 0 = a := by rw [hS]; rfl
  refine ⟨_, 0, inferInstance, hi, p42_in fs n hf (by omega) hl2 hl, p19 _ (by simp [rowsB]; omega) (fun r hr => ?_), .inl ⟨rfl, fs, n, _, hL2, rfl, ?_, by simp [rowsB]; omega, ?_⟩⟩
  ·obtain ⟨b, hb, rfl⟩ := List.mem_map.1 hr
   have := r2 _ (List.mem_map.2 ⟨b, (List.mem_filter.1 hb).1, rfl⟩)
   omega
  ·rw [hR]; simp [rowsB]
  ·rw [hR, ha0]; simp [rowsB, nz_len]
 ·exact ⟨.nils, lcode t [], inferInstance, p41_out t (by omega) h6 h, p42_out t (by omega) h6 h, p19nn, .inr ⟨rfl, h, rfl⟩⟩
set_option maxRecDepth 8000 in
theorem p45_none (fs : List (List Nat)) (n : Nat) (h1 : 1 ≤ n) (h5 : n ≤ 5) (hf : ∀ f ∈ fs, Ok f n) (h0 : 0 < fs.length) (hfl : fs.length ≤ 6) (hl : lcode (fs.map mp) [] = 0) (hR : clR fs n = none) :
  Pure Tryz.prog 45 [.list (aggs (fs.map mp))] (.tup [.nils, .int .i64 3]) := by
 have hM := monOk fs n h1 h5 hf (Nat.le_trans hfl (by decide))
 unfold MonOk at hM
 rw [hR] at hM
 simp only at hM
 have hE := p114_of fs n hf h0 hfl hl _ _ hM
 rw [if_neg (by decide)] at hE
 refine e45 (by simp) fun _ _ => ?_
 simp only [k45, argEnv, go_sem]
 refine hE.go ?_
 try simp only [OpK_eq, HKv, go_sem]
 exact ⟨fun _ => Kv.Fin.still ⟨rfl, rfl⟩, fun h => absurd h (by decide)⟩
theorem id_loc {t : List (List Int)} {fs : List (List Nat)} {n : Nat} (hL : Lst t fs n) : ∃ (V : PV) (c : Int), Still V ∧ Pure Tryz.prog 45 [.list (aggs t)] (.tup [V, .int .i64 c]) ∧ (c = 0 → ∃ (A : List (List Nat)) (r : Int), V = .list (aggs (A.map mp)) ∧ 1 ≤ A.length ∧ (A.map mp).getD 0 [] = mp (A.getD 0 []) ∧ (mp (A.getD 0 [])).length = 6 ∧ Pure Tryz.prog 46 [.agg (ints (mp (A.getD 0 [])))] (.tup [.int .i64 r, .int .i64 0]) ∧ r = ((pof ((imS fs n (2 ^ n - 1)).getD 0 0) 62).length : Int)) := by
 obtain ⟨rfl, hf, hl1, hl2, hn1, hn5, hl, hn⟩ := hL
 cases hR : clR fs n with
 | none => exact ⟨.nils, 3, inferInstance, p45_none fs n hn1 hn5 hf (by omega) hl2 hl hR, fun h => absurd h (by decide)⟩
 | some Q =>
  have hM := clR_mnd hn1 hn5 hf hR
  obtain ⟨f, hfS, hfI⟩ := idl_some hM
  have h0 : 0 < (lstI (elS n Q)).length := List.length_pos_of_mem (lstI_mem.2 ⟨hfS, hfI⟩)
  have hmem : (lstI (elS n Q)).getD 0 [] ∈ lstI (elS n Q) := by
   rw [List.getD_eq_getElem?_getD, List.getElem?_eq_getElem h0]; exact List.getElem_mem _
  obtain ⟨g1, g2⟩ := lstI_mem.1 hmem
  have hO := hM.srm.1 _ g1
  have hS : ∀ f, f ∈ elS n Q ↔ Rch fs n f := fun f => by
   obtain ⟨c3, c4⟩ := clB_okQ hn1 hn5 hf _ _ hR
   obtain ⟨_, s2, _⟩ := elS_ok c3
   obtain ⟨a, b, c⟩ := clB_has _ _ hR
   rw [s2]
   refine ⟨b f, fun hr => ?_⟩
   induction hr with
   | one => exact a
   | step g f' _ hm ih =>
    obtain ⟨j, hj, e⟩ := List.getElem_of_mem ih
    exact c j _ (by omega) (by rw [List.getElem?_eq_getElem hj, e]) f' hm
  have hrk := idl_rank hn1 hn5 hf hS g1 g2
  exact ⟨_, 0, inferInstance, p45_in fs n hn1 hn5 hf (by omega) hl2 hl hR, fun _ => ⟨_, _, rfl, h0, by simp [List.getD_eq_getElem?_getD, h0], hO.mp_len, p46 _ n hO, by rw [hrk]⟩⟩
theorem ws_loc (t : List (List Int)) (h7 : t.length ≤ 7) (h6 : Mp6 t) (P Q : List Int) (hP : P.length ≤ 6) (hQ : Q.length ≤ 6) : ∃ (T : List Int) (W : PV) (c : Int), Still W ∧ T.length ≤ 100 ∧ Pure Tryz.prog 36 [.list (aggs t), .list (ints P), .list (ints Q)] (.tup [.list (ints T), .int .i64 c]) ∧ Pure Tryz.prog 37 [.list (aggs t), .list (ints P), .list (ints Q)] (.tup [W, .int .i64 c]) ∧ Pure Tryz.prog 9 [.list (ints T), W] (.bool true) ∧
  (c = 0 → ∃ m : List Int, m.length = 6 ∧ Pure Tryz.prog 43 [.list (aggs t), .list (ints T)] (.tup [.agg (ints m), .int .i64 0]) ∧ Pure Tryz.prog 44 [.agg (ints m), .list (ints P)] (.tup [.list (ints Q), .int .i64 0])) := by
 by_cases hc : wcd t P Q = 0
 ·have hc2 := hc
  unfold wcd at hc2
  have hfs : fsc t P = 0 := by
   apply Classical.byContradiction
   intro hne
   rw [if_pos hne] at hc2
   exact hne hc2
  obtain ⟨g1, g2⟩ := fsc_zero hfs
  obtain ⟨fs, n, hL⟩ := lst_of h6 g1
  have hn0 := hL.hn
  obtain ⟨rfl, hf, hl1, hl2, hn1, hn5, hl, hn⟩ := hL
  rw [if_neg (by simp [hfs]), hn0] at hc2
  rw [hn0] at g2
  have hbQ : bad Q n = false := by
   cases hb : bad Q n with
   | false => rfl
   | true => rw [hb] at hc2; simp at hc2
  have haP := bad_asc g2
  have haQ := bad_asc hbQ
  have hsP : stB P n = true := by simp only [bad, Bool.or_eq_false_iff, Bool.not_eq_false'] at g2; exact g2.2
  have hN : ∀ i, (wq fs P i).length ≤ 32 := wq_len hn5 hf haP
  rcases wq_first (Q := Q) hN with ⟨i, hi, his, hno⟩ | ⟨i, hi, hno⟩
  ·have huni : ∀ i' (h' : i' < (wq fs P i').length), (wq fs P i')[i'].1 = Q → (∀ j (h : j < (wq fs P j).length), j < i' → (wq fs P j)[j].1 ≠ Q) → (wq fs P i')[i'].2 = (wq fs P i)[i].2 := fun i' h' q1 q2 => by
    rcases Nat.lt_trichotomy i' i with hlt | rfl | hlt
    ·exact absurd q1 (hno i' h' hlt)
    ·rfl
    ·exact absurd his (q2 i hi hlt)
   have hend : ∀ i', i' = (wq fs P i').length → (∀ j (h : j < (wq fs P j).length), j < i' → (wq fs P j)[j].1 ≠ Q) → False := fun i' q1 q2 => by
    by_cases hlt : i < i'
    ·exact q2 i hi hlt his
    ·have := wq_stop q1 (i - i')
     rw [show i' + (i - i') = i by omega] at this
     rw [this] at hi
     omega
   obtain ⟨w1, w2, w3⟩ := word_to hn1 hn5 hf haP (i := i) (j := i) (x := (wq fs P i)[i]) (List.getElem?_eq_getElem hi)
   have hO := mw_ok hf _ _ (range_ok hn1 hn5) w2
   have hIm := p44 _ n hO haP hsP
   rw [w1, his] at hIm
   refine ⟨(wq fs P i)[i].2, _, 0, inferInstance, by omega, NewIO.frozen (e := 2) ?_, p37_in fs n hf (by omega) hl2 hn5 P Q hc haP haQ _ (fun i' h' q1 q2 => ⟨by rw [huni i' h' q1 q2], rfl⟩) (fun i' q1 q2 => (hend i' q1 q2).elim), p9 _ (by omega), fun _ => ⟨_, hO.mp_len, p43 fs n hn1 hn5 hf (by omega) (by omega) hl _ w2 (by omega), hIm⟩⟩
   exact p36_in fs n hf (by omega) hl2 hl P Q g2 hbQ _ (fun i' h' q1 q2 x s hx hs => ⟨x, rfl, by rw [← huni i' h' q1 q2]; exact hx, hs⟩) (fun i' q1 q2 => (hend i' q1 q2).elim)
  ·have hin : ∀ i' (h' : i' < (wq fs P i').length), (wq fs P i')[i'].1 = Q → (∀ j (h : j < (wq fs P j).length), j < i' → (wq fs P j)[j].1 ≠ Q) → False := fun i' h' q1 q2 => by
    by_cases hlt : i' < i
    ·exact hno i' h' hlt q1
    ·have := wq_stop hi (i' - i)
     rw [show i + (i' - i) = i' by omega] at this
     rw [this] at h'
     omega
   refine ⟨[], .nils, 4, inferInstance, by simp, NewIO.frozen (e := 2) (Pure.ownI ?_), ?_, p9e2, fun h => absurd h (by decide)⟩
   ·exact p36_in fs n hf (by omega) hl2 hl P Q g2 hbQ _ (fun i' h' q1 q2 x s hx hs => (hin i' h' q1 q2).elim) (fun i' q1 q2 => ⟨rfl, rfl⟩)
   ·exact p37_in fs n hf (by omega) hl2 hn5 P Q hc haP haQ _ (fun i' h' q1 q2 => (hin i' h' q1 q2).elim) (fun i' q1 q2 => ⟨rfl, rfl⟩)
 ·exact ⟨[], .nils, wcd t P Q, inferInstance, by simp, NewIO.frozen (e := 2) (Pure.ownI (p36_out t P Q (by omega) h6 (by omega) (by omega) hc)), p37_out t P Q (by omega) h6 (by omega) (by omega) hc, p9e2, fun h => absurd h hc⟩
end Go.Proofs.YthbbjbfbeaiphaaGreat
end
section
namespace Go.Proofs.YthbbjbfbeaiphaaGreat
open Go.Kv
set_option maxRecDepth 100000
def k4_b0 : KC := (.seq (.seq (.ops [mV 212 39, mV 213 30, oP 214 (.len false (.t 213)), oP 215 (.bin .lss (.t 212) (.t 214))])
 (.cond (.t 215) .skip (.exit 0)))
 (.seq (.block 1 (.ops [mV 218 38, mV 219 218, ⟨(some 220), some (219, false), .mv (.t 30)⟩, ⟨(some 221), some (219, false), .mv (.t 39)⟩, ⟨(some 222), some (219, false), .idxS 1 (.t 220) (.t 221)⟩, ⟨(some 223), some (219, false), .load false 1 (.t 222)⟩, ⟨(some 224), some (219, false), .mv (.t 29)⟩, ⟨(some 225), some (219, false), .call (fC 9) [(.t 223), (.t 224)]⟩, oP 226 (.pick (.t 219) (.c (.bool true)) (.t 225)), mV 38 226]))
 (.ops [mV 216 39, oP 217 (.bin .add (.t 216) (iC 1)), mV 39 217])))
def k4_b1 : KC := (.seq (.seq (.ops [mV 257 45, mV 258 9, oP 259 (.len false (.t 258)), oP 260 (.bin .lss (.t 257) (.t 259))])
 (.cond (.t 260) .skip (.exit 2)))
 (.seq (.block 3 (.ops [mV 263 44, mV 264 9, mV 265 45, oP 266 (.idxS 1 (.t 264) (.t 265)), oP 267 (.load false 1 (.t 266)), oP 268 (.len false (.t 267)), oP 269 (.bin .add (.t 263) (.t 268)), mV 44 269]))
 (.ops [mV 261 45, oP 262 (.bin .add (.t 261) (iC 1)), mV 45 262])))
def k4_b2 : KC := (.seq (.seq (.ops [mV 336 51, mV 337 17, oP 338 (.len false (.t 337)), oP 339 (.bin .lss (.t 336) (.t 338))])
 (.cond (.t 339) .skip (.exit 4)))
 (.seq (.block 5 (.ops [mV 342 50, mV 343 342, ⟨(some 344), some (343, false), .mv (.t 17)⟩, ⟨(some 345), some (343, false), .mv (.t 51)⟩, ⟨(some 346), some (343, false), .idxS 1 (.t 344) (.t 345)⟩, ⟨(some 347), some (343, false), .load false 1 (.t 346)⟩, ⟨(some 348), some (343, false), .mv (.t 5)⟩, ⟨(some 349), some (343, false), .call (fC 9) [(.t 347), (.t 348)]⟩, oP 350 (.pick (.t 343) (.c (.bool true)) (.t 349)), mV 50 350]))
 (.ops [mV 340 51, oP 341 (.bin .add (.t 340) (iC 1)), mV 51 341])))
def k4 : KC := (.seq (.ops [oP 2 (.mv (.c (.bool false)))])
 (.seq (.seq (.ops [mV 52 0, oP 53 (.call (fC 5) [(.t 52)])])
 (.cond (.t 53) (.seq (.ops [oP 2 (.mv (.c (.bool true)))])
 .ret) .skip))
 (.seq (.ops [mV 55 0, oP 56 (.call (fC 26) [(.t 55)]), mV 54 56, oP 57 (.extr 0 (.t 54)), oP 58 (.extr 1 (.t 54)), mV 3 57, mV 4 58])
 (.seq (.ops [mV 60 3, mV 61 4, oP 62 (.call (fC 27) [(.t 60), (.t 61)]), mV 59 62, oP 63 (.extr 0 (.t 59)), oP 64 (.extr 1 (.t 59)), mV 5 63, mV 6 64])
 (.seq (.seq (.ops [mV 66 3, mV 67 4, oP 68 (.call (fC 28) [(.t 66), (.t 67)]), mV 65 68, oP 69 (.extr 0 (.t 65)), oP 70 (.extr 1 (.t 65)), mV 7 69, mV 8 70])
 (.seq (.ops [mV 71 6, mV 72 8, oP 73 (.bin .neq (.t 71) (.t 72)), mV 74 73, ⟨(some 75), some (74, false), .mv (.t 5)⟩, ⟨(some 76), some (74, false), .mv (.t 7)⟩, ⟨(some 77), some (74, false), .call (fC 9) [(.t 75), (.t 76)]⟩, ⟨(some 78), some (74, false), .not (.t 77)⟩, oP 79 (.pick (.t 74) (.c (.bool true)) (.t 78))])
 (.cond (.t 79) (.seq (.ops [oP 2 (.mv (.c (.bool false)))])
 .ret) .skip)))
 (.seq (.ops [mV 81 3, oP 82 (.call (fC 29) [(.t 81)]), mV 80 82, oP 83 (.extr 0 (.t 80)), oP 84 (.extr 1 (.t 80)), mV 9 83, mV 10 84])
 (.seq (.seq (.ops [mV 86 3, oP 87 (.call (fC 30) [(.t 86)]), mV 85 87, oP 88 (.extr 0 (.t 85)), oP 89 (.extr 1 (.t 85)), mV 11 88, mV 12 89])
 (.seq (.ops [mV 90 10, mV 91 12, oP 92 (.bin .neq (.t 90) (.t 91)), mV 93 92, ⟨(some 94), some (93, false), .mv (.t 9)⟩, ⟨(some 95), some (93, false), .mv (.t 11)⟩, ⟨(some 96), some (93, false), .call (fC 19) [(.t 94), (.t 95)]⟩, ⟨(some 97), some (93, false), .not (.t 96)⟩, oP 98 (.pick (.t 93) (.c (.bool true)) (.t 97))])
 (.cond (.t 98) (.seq (.ops [oP 2 (.mv (.c (.bool false)))])
 .ret) .skip)))
 (.seq (.ops [mV 100 3, oP 101 (.call (fC 31) [(.t 100)]), mV 99 101, oP 102 (.extr 0 (.t 99)), oP 103 (.extr 1 (.t 99)), mV 13 102, mV 14 103])
 (.seq (.seq (.ops [mV 105 3, oP 106 (.call (fC 32) [(.t 105)]), mV 104 106, oP 107 (.extr 0 (.t 104)), oP 108 (.extr 1 (.t 104)), mV 15 107, mV 16 108])
 (.seq (.ops [mV 109 14, mV 110 16, oP 111 (.bin .neq (.t 109) (.t 110)), mV 112 111, ⟨(some 113), some (112, false), .mv (.t 13)⟩, ⟨(some 114), some (112, false), .mv (.t 15)⟩, ⟨(some 115), some (112, false), .beq true (.t 113) (.t 114)⟩, oP 116 (.pick (.t 112) (.c (.bool true)) (.t 115))])
 (.cond (.t 116) (.seq (.ops [oP 2 (.mv (.c (.bool false)))])
 .ret) .skip)))
 (.seq (.ops [mV 118 3, oP 119 (.call (fC 33) [(.t 118)]), mV 117 119, oP 120 (.extr 0 (.t 117)), oP 121 (.extr 1 (.t 117)), mV 17 120, mV 18 121])
 (.seq (.seq (.ops [mV 123 3, oP 124 (.call (fC 34) [(.t 123)]), mV 122 124, oP 125 (.extr 0 (.t 122)), oP 126 (.extr 1 (.t 122)), mV 19 125, mV 20 126])
 (.seq (.ops [mV 127 18, mV 128 20, oP 129 (.bin .neq (.t 127) (.t 128)), mV 130 129, ⟨(some 131), some (130, false), .mv (.t 17)⟩, ⟨(some 132), some (130, false), .mv (.t 19)⟩, ⟨(some 133), some (130, false), .call (fC 19) [(.t 131), (.t 132)]⟩, ⟨(some 134), some (130, false), .not (.t 133)⟩, oP 135 (.pick (.t 130) (.c (.bool true)) (.t 134))])
 (.cond (.t 135) (.seq (.ops [oP 2 (.mv (.c (.bool false)))])
 .ret) .skip)))
 (.seq (.ops [mV 137 0, oP 138 (.call (fC 35) [(.t 137)]), mV 136 138, oP 139 (.extr 0 (.t 136)), oP 140 (.extr 1 (.t 136)), oP 141 (.extr 2 (.t 136)), mV 21 139, mV 22 140, mV 23 141])
 (.seq (.ops [mV 143 21, mV 144 22, mV 145 23, oP 146 (.call (fC 36) [(.t 143), (.t 144), (.t 145)]), mV 142 146, oP 147 (.extr 0 (.t 142)), oP 148 (.extr 1 (.t 142)), mV 24 147, mV 25 148])
 (.seq (.seq (.ops [mV 150 21, mV 151 22, mV 152 23, oP 153 (.call (fC 37) [(.t 150), (.t 151), (.t 152)]), mV 149 153, oP 154 (.extr 0 (.t 149)), oP 155 (.extr 1 (.t 149)), mV 26 154, mV 27 155])
 (.seq (.ops [mV 156 25, mV 157 27, oP 158 (.bin .neq (.t 156) (.t 157)), mV 159 158, ⟨(some 160), some (159, false), .mv (.t 24)⟩, ⟨(some 161), some (159, false), .mv (.t 26)⟩, ⟨(some 162), some (159, false), .call (fC 9) [(.t 160), (.t 161)]⟩, ⟨(some 163), some (159, false), .not (.t 162)⟩, oP 164 (.pick (.t 159) (.c (.bool true)) (.t 163))])
 (.cond (.t 164) (.seq (.ops [oP 2 (.mv (.c (.bool false)))])
 .ret) .skip)))
 (.seq (.ops [mV 166 0, oP 167 (.call (fC 38) [(.t 166)]), mV 165 167, oP 168 (.extr 0 (.t 165)), oP 169 (.extr 1 (.t 165)), mV 28 168, mV 29 169])
 (.seq (.ops [mV 171 28, mV 172 29, oP 173 (.call (fC 39) [(.t 171), (.t 172)]), mV 170 173, oP 174 (.extr 0 (.t 170)), oP 175 (.extr 1 (.t 170)), mV 30 174, mV 31 175])
 (.seq (.seq (.ops [mV 177 28, mV 178 29, oP 179 (.call (fC 40) [(.t 177), (.t 178)]), mV 176 179, oP 180 (.extr 0 (.t 176)), oP 181 (.extr 1 (.t 176)), mV 32 180, mV 33 181])
 (.seq (.ops [mV 182 31, mV 183 33, oP 184 (.bin .neq (.t 182) (.t 183)), mV 185 184, ⟨(some 186), some (185, false), .mv (.t 30)⟩, ⟨(some 187), some (185, false), .mv (.t 32)⟩, ⟨(some 188), some (185, false), .call (fC 19) [(.t 186), (.t 187)]⟩, ⟨(some 189), some (185, false), .not (.t 188)⟩, oP 190 (.pick (.t 185) (.c (.bool true)) (.t 189))])
 (.cond (.t 190) (.seq (.ops [oP 2 (.mv (.c (.bool false)))])
 .ret) .skip)))
 (.seq (.ops [mV 192 3, oP 193 (.call (fC 41) [(.t 192)]), mV 191 193, oP 194 (.extr 0 (.t 191)), oP 195 (.extr 1 (.t 191)), mV 34 194, mV 35 195])
 (.seq (.seq (.ops [mV 197 3, oP 198 (.call (fC 42) [(.t 197)]), mV 196 198, oP 199 (.extr 0 (.t 196)), oP 200 (.extr 1 (.t 196)), mV 36 199, mV 37 200])
 (.seq (.ops [mV 201 35, mV 202 37, oP 203 (.bin .neq (.t 201) (.t 202)), mV 204 203, ⟨(some 205), some (204, false), .mv (.t 34)⟩, ⟨(some 206), some (204, false), .mv (.t 36)⟩, ⟨(some 207), some (204, false), .call (fC 19) [(.t 205), (.t 206)]⟩, ⟨(some 208), some (204, false), .not (.t 207)⟩, oP 209 (.pick (.t 204) (.c (.bool true)) (.t 208))])
 (.cond (.t 209) (.seq (.ops [oP 2 (.mv (.c (.bool false)))])
 .ret) .skip)))
 (.seq (.seq (.ops [mV 210 31, oP 211 (.bin .eql (.t 210) (iC 0))])
 (.cond (.t 211) (.seq (.ops [oP 38 (.mv (.c (.bool false)))])
 (.seq (.seq (.ops [oP 39 (.mv (iC 0))])
 (.block 0 (.loop k4_b0)))
 (.seq (.ops [mV 227 38, oP 228 (.not (.t 227))])
 (.cond (.t 228) (.seq (.ops [oP 2 (.mv (.c (.bool false)))])
 .ret) .skip)))) .skip))
 (.seq (.seq (.ops [mV 229 25, oP 230 (.bin .eql (.t 229) (iC 0))])
 (.cond (.t 230) (.seq (.ops [mV 232 21, mV 233 24, oP 234 (.call (fC 43) [(.t 232), (.t 233)]), mV 231 234, oP 235 (.extr 0 (.t 231)), oP 236 (.extr 1 (.t 231)), oP 40 (.alloc [.int .i64 0, .int .i64 0, .int .i64 0, .int .i64 0, .int .i64 0, .int .i64 0]), ⟨none, none, .store 6 (.t 40) (.t 235)⟩, mV 41 236])
 (.seq (.ops [oP 238 (.load true 6 (.t 40)), mV 239 22, oP 240 (.call (fC 44) [(.t 238), (.t 239)]), mV 237 240, oP 241 (.extr 0 (.t 237)), oP 242 (.extr 1 (.t 237)), mV 42 241, mV 43 242])
 (.seq (.ops [mV 243 41, oP 244 (.bin .neq (.t 243) (iC 0)), mV 245 244, ⟨(some 246), some (245, false), .mv (.t 43)⟩, ⟨(some 247), some (245, false), .bin .neq (.t 246) (iC 0)⟩, oP 248 (.pick (.t 245) (.c (.bool true)) (.t 247)), mV 249 248, ⟨(some 250), some (249, false), .mv (.t 42)⟩, ⟨(some 251), some (249, false), .mv (.t 23)⟩, ⟨(some 252), some (249, false), .call (fC 9) [(.t 250), (.t 251)]⟩, ⟨(some 253), some (249, false), .not (.t 252)⟩, oP 254 (.pick (.t 249) (.c (.bool true)) (.t 253))])
 (.cond (.t 254) (.seq (.ops [oP 2 (.mv (.c (.bool false)))])
 .ret) .skip)))) .skip))
 (.seq (.seq (.ops [mV 255 10, oP 256 (.bin .eql (.t 255) (iC 0))])
 (.cond (.t 256) (.seq (.ops [oP 44 (.mv (iC 0))])
 (.seq (.seq (.ops [oP 45 (.mv (iC 0))])
 (.block 2 (.loop k4_b1)))
 (.seq (.seq (.ops [mV 270 44, mV 271 3, oP 272 (.idxS 6 (.t 271) (iC 0)), oP 273 (.fieldA 0 (.t 272)), oP 274 (.load false 1 (.t 273)), oP 275 (.bin .neq (.t 270) (.t 274)), mV 276 275, ⟨(some 277), some (276, false), .mv (.t 14)⟩, ⟨(some 278), some (276, false), .bin .neq (.t 277) (iC 0)⟩, oP 279 (.pick (.t 276) (.c (.bool true)) (.t 278)), mV 280 279, ⟨(some 281), some (280, false), .mv (.t 13)⟩, ⟨(some 282), some (280, false), .mv (.t 9)⟩, ⟨(some 283), some (280, false), .len false (.t 282)⟩, ⟨(some 284), some (280, false), .bin .eql (.t 283) (iC 1)⟩, ⟨(some 285), some (280, false), .beq true (.t 281) (.t 284)⟩, oP 286 (.pick (.t 280) (.c (.bool true)) (.t 285)), mV 287 286, ⟨(some 288), some (287, false), .mv (.t 18)⟩, ⟨(some 289), some (287, false), .bin .neq (.t 288) (iC 0)⟩, oP 290 (.pick (.t 287) (.c (.bool true)) (.t 289)), mV 291 290, ⟨(some 292), some (291, false), .mv (.t 13)⟩, ⟨(some 293), some (291, false), .mv (.t 17)⟩, ⟨(some 294), some (291, false), .len false (.t 293)⟩, ⟨(some 295), some (291, false), .bin .eql (.t 294) (iC 1)⟩, ⟨(some 296), some (291, false), .beq true (.t 292) (.t 295)⟩, oP 297 (.pick (.t 291) (.c (.bool true)) (.t 296)), mV 298 297, ⟨(some 299), some (298, false), .mv (.t 35)⟩, ⟨(some 300), some (298, false), .bin .neq (.t 299) (iC 0)⟩, oP 301 (.pick (.t 298) (.c (.bool true)) (.t 300)), mV 302 301, ⟨(some 303), some (302, false), .mv (.t 34)⟩, ⟨(some 304), some (302, false), .len false (.t 303)⟩, ⟨(some 305), some (302, false), .bin .eql (.t 304) (iC 0)⟩, oP 306 (.pick (.t 302) (.c (.bool true)) (.t 305))])
 (.cond (.t 306) (.seq (.ops [oP 2 (.mv (.c (.bool false)))])
 .ret) .skip))
 (.seq (.ops [mV 308 3, oP 309 (.call (fC 45) [(.t 308)]), mV 307 309, oP 310 (.extr 0 (.t 307)), oP 311 (.extr 1 (.t 307)), mV 46 310, mV 47 311])
 (.seq (.ops [mV 312 47, oP 313 (.bin .eql (.t 312) (iC 0))])
 (.cond (.t 313) (.seq (.ops [mV 315 46, oP 316 (.idxS 6 (.t 315) (iC 0)), oP 317 (.load true 6 (.t 316)), oP 318 (.call (fC 46) [(.t 317)]), mV 314 318, oP 319 (.extr 0 (.t 314)), oP 320 (.extr 1 (.t 314)), mV 48 319, mV 49 320])
 (.seq (.ops [mV 321 49, oP 322 (.bin .neq (.t 321) (iC 0)), mV 323 322, ⟨(some 324), some (323, false), .mv (.t 48)⟩, ⟨(some 325), some (323, false), .mv (.t 34)⟩, ⟨(some 326), some (323, false), .idxS 1 (.t 325) (iC 0)⟩, ⟨(some 327), some (323, false), .load false 1 (.t 326)⟩, ⟨(some 328), some (323, false), .len false (.t 327)⟩, ⟨(some 329), some (323, false), .bin .neq (.t 324) (.t 328)⟩, oP 330 (.pick (.t 323) (.c (.bool true)) (.t 329))])
 (.cond (.t 330) (.seq (.ops [oP 2 (.mv (.c (.bool false)))])
 .ret) .skip))) .skip)))))) .skip))
 (.seq (.seq (.ops [mV 331 6, oP 332 (.bin .neq (.t 331) (iC 0))])
 (.cond (.t 332) (.seq (.ops [mV 333 5, oP 334 (.len false (.t 333)), oP 335 (.bin .eql (.t 334) (iC 0)), mV 2 335])
 .ret) .skip))
 (.seq (.ops [oP 50 (.mv (.c (.bool false)))])
 (.seq (.seq (.ops [oP 51 (.mv (iC 0))])
 (.block 4 (.loop k4_b2)))
 (.seq (.ops [mV 351 50, mV 352 351, ⟨(some 353), some (352, true), .mv (.t 5)⟩, ⟨(some 354), some (352, true), .mv (.t 4)⟩, ⟨(some 355), some (352, true), .call (fC 47) [(.t 353), (.t 354)]⟩, oP 356 (.pick (.t 352) (.t 355) (.c (.bool false))), mV 2 356])
 .ret))))))))))))))))))))))))))
theorem e4 : Ent 4 357 [] [.t 2] k4 := ent Tryz.func4 (by kernel_rfl) (by kernel_rfl) (by kernel_rfl) (fun _ => by kernel_rfl) (by kernel_rfl)
end Go.Proofs.YthbbjbfbeaiphaaGreat
namespace Go.Proofs.YthbbjbfbeaiphaaGreat
open Go.Kv
set_option linter.unusedVariables false
set_option linter.unusedSimpArgs false
attribute [local irreducible] ACall PCall KL
abbrev Rest (K : PV → Heap → Prop) (k : Nat) (env : Env) (σ : Heap) : Prop := vc (mkCfg Tryz.prog mixed [] 357 0) (drK k k4) (FinK 0 [.t 2] K) env σ
end Go.Proofs.YthbbjbfbeaiphaaGreat
end
