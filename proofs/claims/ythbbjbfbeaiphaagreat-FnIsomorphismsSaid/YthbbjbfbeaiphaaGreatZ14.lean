/- Several texts of this session as one, less what the claim does not need. -/
import Derived.Test.YthbbjbfbeaiphaaGreatCb
import Derived.Test.YthbbjbfbeaiphaaGreatG2
import Derived.Test.YthbbjbfbeaiphaaGreatZ10
import Derived.Test.YthbbjbfbeaiphaaGreatZ13
import Derived.Test.YthbbjbfbeaiphaaGreatZ12
section
/- Two lists of maps, side by side: both sides. -/
namespace Go.Proofs.YthbbjbfbeaiphaaGreat
open Go.Kv
set_option maxRecDepth 100000
def k21_b0 : KC := (.seq (.ops [oP 24 (.bin .lss (.t 23) (.t 22))])
  (.seq (.cond (.t 24) .skip (.exit 0))
  (.seq (.block 1 (.seq (.ops [oP 25 (.idxS 6 (.t 21) (.t 23)), oP 26 (.load true 6 (.t 25)), oP 7 (.alloc [.int .i64 0, .int .i64 0, .int .i64 0, .int .i64 0, .int .i64 0, .int .i64 0]), ⟨none, none, .store 6 (.t 7) (.t 26)⟩])
  (.seq (.ops [oP 27 (.load true 6 (.t 7)), oP 28 (.call (fC 71) [(.t 27)]), oP 29 (.not (.t 28))])
  (.cond (.t 29) (.seq (.ops [oP 4 (.mv (.c (.nils))), oP 5 (.mv (iC 1))])
  .ret) .skip))))
  (.ops [oP 30 (.bin .add (.t 23) (iC 1)), mV 23 30]))))
def k21_b1 : KC := (.seq (.ops [oP 62 (.bin .lss (.t 61) (.t 60))])
  (.seq (.cond (.t 62) .skip (.exit 2))
  (.seq (.block 3 (.seq (.ops [oP 63 (.idxS 6 (.t 59) (.t 61)), oP 64 (.load true 6 (.t 63)), oP 12 (.alloc [.int .i64 0, .int .i64 0, .int .i64 0, .int .i64 0, .int .i64 0, .int .i64 0]), ⟨none, none, .store 6 (.t 12) (.t 64)⟩])
  (.seq (.ops [mV 65 9, oP 66 (.call (fC 73) [(.t 65)]), oP 13 (.alloc [.int .i64 0, .int .i64 0, .int .i64 0, .int .i64 0, .int .i64 0, .int .i64 0]), ⟨none, none, .store 6 (.t 13) (.t 66)⟩])
  (.seq (.draw [oP 67 (.fieldA 1 (.t 13)), mV 68 8, oP 69 (.slA 5 (.t 67) (some (.t 68))), oP 70 (.fieldA 1 (.t 12)), mV 71 8, oP 72 (.slA 5 (.t 70) (some (.t 71))), oP 73 (.cpy (.t 69) (.t 72))])
  (.ops [mV 74 10, oP 75 (.load true 6 (.t 13)), oP 76 (.bsl true 60 6 [(.t 75)]), oP 77 (.app (.t 74) (.t 76) 60 6), mV 10 77])))))
  (.ops [oP 78 (.bin .add (.t 61) (iC 1)), mV 61 78]))))
def k21_b2 : KC := (.seq (.ops [oP 90 (.bin .lss (.t 89) (.t 88))])
  (.seq (.cond (.t 90) .skip (.exit 6))
  (.seq (.block 7 (.seq (.ops [mV 91 89, mV 17 91])
  (.ops [mV 92 8, mV 93 17, oP 94 (.bin .add (.t 92) (.t 93)), mV 95 8, mV 96 17, oP 97 (.fieldA 1 (.t 15)), oP 98 (.idxA 5 1 (.t 97) (.t 96)), oP 99 (.load false 1 (.t 98)), oP 100 (.bin .add (.t 95) (.t 99)), oP 101 (.fieldA 1 (.t 16)), oP 102 (.idxA 5 1 (.t 101) (.t 94)), ⟨none, none, .store 1 (.t 102) (.t 100)⟩])))
  (.ops [oP 103 (.bin .add (.t 89) (iC 1)), mV 89 103]))))
def k21_b3 : KC := (.seq (.ops [oP 82 (.bin .lss (.t 81) (.t 80))])
  (.seq (.cond (.t 82) .skip (.exit 4))
  (.seq (.block 5 (.seq (.ops [oP 83 (.idxS 6 (.t 79) (.t 81)), oP 84 (.load true 6 (.t 83)), oP 15 (.alloc [.int .i64 0, .int .i64 0, .int .i64 0, .int .i64 0, .int .i64 0, .int .i64 0]), ⟨none, none, .store 6 (.t 15) (.t 84)⟩])
  (.seq (.ops [mV 85 9, oP 86 (.call (fC 73) [(.t 85)]), oP 16 (.alloc [.int .i64 0, .int .i64 0, .int .i64 0, .int .i64 0, .int .i64 0, .int .i64 0]), ⟨none, none, .store 6 (.t 16) (.t 86)⟩])
  (.seq (.seq (.ops [oP 87 (.fieldA 0 (.t 15)), oP 88 (.load false 1 (.t 87)), oP 89 (.mv (iC 0))])
  (.block 6 (.loop k21_b2)))
  (.ops [mV 104 10, oP 105 (.load true 6 (.t 16)), oP 106 (.bsl true 60 6 [(.t 105)]), oP 107 (.app (.t 104) (.t 106) 60 6), mV 10 107])))))
  (.ops [oP 108 (.bin .add (.t 81) (iC 1)), mV 81 108]))))
def k21 : KC := (.seq (.ops [oP 4 (.mv (.c (.nils))), oP 5 (.mv (iC 0))])
  (.seq (.seq (.ops [mV 18 0, mV 19 1, oP 20 (.bsl false 41 1 [(.t 18), (.t 19)]), oP 21 (.call (fC 70) [(.t 20)]), oP 22 (.len false (.t 21)), oP 23 (.mv (iC 0))])
  (.block 0 (.loop k21_b0)))
  (.seq (.seq (.ops [mV 31 0, oP 32 (.call (fC 72) [(.t 31), (.c (.nils))]), oP 33 (.bin .neq (.t 32) (iC 0)), mV 34 33, ⟨(some 35), some (34, false), .mv (.t 1)⟩, ⟨(some 36), some (34, false), .call (fC 72) [(.t 35), (.c (.nils))]⟩, ⟨(some 37), some (34, false), .bin .neq (.t 36) (iC 0)⟩, oP 38 (.pick (.t 34) (.c (.bool true)) (.t 37))])
  (.cond (.t 38) (.seq (.ops [oP 4 (.mv (.c (.nils))), oP 5 (.mv (iC 2))])
  .ret) .skip))
  (.seq (.ops [mV 39 0, oP 40 (.idxS 6 (.t 39) (iC 0)), oP 41 (.fieldA 0 (.t 40)), oP 42 (.load false 1 (.t 41)), mV 8 42])
  (.seq (.ops [mV 43 8, mV 44 1, oP 45 (.idxS 6 (.t 44) (iC 0)), oP 46 (.fieldA 0 (.t 45)), oP 47 (.load false 1 (.t 46)), oP 48 (.bin .add (.t 43) (.t 47)), mV 9 48])
  (.seq (.seq (.ops [mV 49 9, oP 50 (.bin .gtr (.t 49) (iC 5)), mV 51 50, ⟨(some 52), some (51, false), .mv (.t 0)⟩, ⟨(some 53), some (51, false), .len false (.t 52)⟩, ⟨(some 54), some (51, false), .mv (.t 1)⟩, ⟨(some 55), some (51, false), .len false (.t 54)⟩, ⟨(some 56), some (51, false), .bin .add (.t 53) (.t 55)⟩, ⟨(some 57), some (51, false), .bin .gtr (.t 56) (iC 6)⟩, oP 58 (.pick (.t 51) (.c (.bool true)) (.t 57))])
  (.cond (.t 58) (.seq (.ops [oP 4 (.mv (.c (.nils))), oP 5 (.mv (iC 3))])
  .ret) .skip))
  (.seq (.ops [oP 10 (.mv (.c (.nils)))])
  (.seq (.seq (.ops [mV 59 0, oP 60 (.len false (.t 59)), oP 61 (.mv (iC 0))])
  (.block 2 (.loop k21_b1)))
  (.seq (.seq (.ops [mV 79 1, oP 80 (.len false (.t 79)), oP 81 (.mv (iC 0))])
  (.block 4 (.loop k21_b3)))
  (.seq (.ops [mV 109 10, mV 4 109, oP 5 (.mv (iC 0))])
  .ret))))))))))
theorem e21 : Ent 21 110 [76, 106] [.t 4, .t 5] k21 := ent Tryz.func21 (by kernel_rfl) (by kernel_rfl) (by kernel_rfl) (fun _ => by kernel_rfl) (by kernel_rfl)
def k22_b0 : KC := (.seq (.seq (.ops [mV 66 13, mV 67 8, oP 68 (.bin .lss (.t 66) (.t 67))])
  (.cond (.t 68) .skip (.exit 3)))
  (.seq (.block 4 (.ops [mV 71 13, mV 72 0, mV 73 11, mV 74 13, oP 75 (.idxS 6 (.t 72) (.t 73)), oP 76 (.fieldA 1 (.t 75)), oP 77 (.idxA 5 1 (.t 76) (.t 74)), oP 78 (.load false 1 (.t 77)), oP 79 (.fieldA 1 (.t 12)), oP 80 (.idxA 5 1 (.t 79) (.t 71)), ⟨none, none, .store 1 (.t 80) (.t 78)⟩]))
  (.ops [mV 69 13, oP 70 (.bin .add (.t 69) (iC 1)), mV 13 70])))
def k22_b1 : KC := (.seq (.seq (.ops [mV 56 11, mV 57 0, oP 58 (.len false (.t 57)), oP 59 (.bin .lss (.t 56) (.t 58))])
  (.cond (.t 59) .skip (.exit 1)))
  (.seq (.block 2 (.seq (.ops [mV 62 8, mV 63 9, oP 64 (.bin .add (.t 62) (.t 63)), oP 65 (.call (fC 75) [(.t 64)]), oP 12 (.alloc [.int .i64 0, .int .i64 0, .int .i64 0, .int .i64 0, .int .i64 0, .int .i64 0]), ⟨none, none, .store 6 (.t 12) (.t 65)⟩])
  (.seq (.seq (.ops [oP 13 (.mv (iC 0))])
  (.block 3 (.loop k22_b0)))
  (.ops [mV 81 10, oP 82 (.load true 6 (.t 12)), oP 83 (.bsl true 60 6 [(.t 82)]), oP 84 (.app (.t 81) (.t 83) 60 6), mV 10 84]))))
  (.ops [mV 60 11, oP 61 (.bin .add (.t 60) (iC 1)), mV 11 61])))
def k22_b2 : KC := (.seq (.seq (.ops [mV 95 16, mV 96 9, oP 97 (.bin .lss (.t 95) (.t 96))])
  (.cond (.t 97) .skip (.exit 7)))
  (.seq (.block 8 (.ops [mV 100 8, mV 101 16, oP 102 (.bin .add (.t 100) (.t 101)), mV 103 8, mV 104 1, mV 105 14, mV 106 16, oP 107 (.idxS 6 (.t 104) (.t 105)), oP 108 (.fieldA 1 (.t 107)), oP 109 (.idxA 5 1 (.t 108) (.t 106)), oP 110 (.load false 1 (.t 109)), oP 111 (.bin .add (.t 103) (.t 110)), oP 112 (.fieldA 1 (.t 15)), oP 113 (.idxA 5 1 (.t 112) (.t 102)), ⟨none, none, .store 1 (.t 113) (.t 111)⟩]))
  (.ops [mV 98 16, oP 99 (.bin .add (.t 98) (iC 1)), mV 16 99])))
def k22_b3 : KC := (.seq (.seq (.ops [mV 85 14, mV 86 1, oP 87 (.len false (.t 86)), oP 88 (.bin .lss (.t 85) (.t 87))])
  (.cond (.t 88) .skip (.exit 5)))
  (.seq (.block 6 (.seq (.ops [mV 91 8, mV 92 9, oP 93 (.bin .add (.t 91) (.t 92)), oP 94 (.call (fC 75) [(.t 93)]), oP 15 (.alloc [.int .i64 0, .int .i64 0, .int .i64 0, .int .i64 0, .int .i64 0, .int .i64 0]), ⟨none, none, .store 6 (.t 15) (.t 94)⟩])
  (.seq (.seq (.ops [oP 16 (.mv (iC 0))])
  (.block 7 (.loop k22_b2)))
  (.ops [mV 114 10, oP 115 (.load true 6 (.t 15)), oP 116 (.bsl true 60 6 [(.t 115)]), oP 117 (.app (.t 114) (.t 116) 60 6), mV 10 117]))))
  (.ops [mV 89 14, oP 90 (.bin .add (.t 89) (iC 1)), mV 14 90])))
def k22 : KC := (.seq (.ops [oP 4 (.mv (.c (.nils))), oP 5 (.mv (iC 0))])
  (.seq (.ops [mV 17 0, oP 18 (.call (fC 74) [(.t 17), (.c (.nils))]), mV 19 1, oP 20 (.call (fC 74) [(.t 19), (.c (.nils))]), mV 6 18, mV 7 20])
  (.seq (.block 0 (.seq (.ops [mV 22 6, oP 23 (.bin .eql (.t 22) (iC 1)), mV 24 23, ⟨(some 25), some (24, false), .mv (.t 7)⟩, ⟨(some 26), some (24, false), .bin .eql (.t 25) (iC 1)⟩, oP 27 (.pick (.t 24) (.c (.bool true)) (.t 26)), mV 21 27])
  (.cond (.t 21) (.seq (.ops [oP 4 (.mv (.c (.nils))), oP 5 (.mv (iC 1))])
  .ret) (.seq (.ops [mV 29 6, oP 30 (.bin .neq (.t 29) (iC 0)), mV 31 30, ⟨(some 32), some (31, false), .mv (.t 7)⟩, ⟨(some 33), some (31, false), .bin .neq (.t 32) (iC 0)⟩, oP 34 (.pick (.t 31) (.c (.bool true)) (.t 33)), mV 28 34])
  (.cond (.t 28) (.seq (.ops [oP 4 (.mv (.c (.nils))), oP 5 (.mv (iC 2))])
  .ret) .skip)))))
  (.seq (.draw [mV 35 0, oP 36 (.idxS 6 (.t 35) (iC 0)), oP 37 (.fieldA 0 (.t 36)), oP 38 (.load false 1 (.t 37)), mV 39 1, oP 40 (.idxS 6 (.t 39) (iC 0)), oP 41 (.fieldA 0 (.t 40)), oP 42 (.load false 1 (.t 41)), mV 8 38, mV 9 42, oP 43 (.bsl false 60 6 []), mV 10 43])
  (.seq (.seq (.ops [mV 44 8, mV 45 9, oP 46 (.bin .add (.t 44) (.t 45)), oP 47 (.bin .gtr (.t 46) (iC 5)), mV 48 47, ⟨(some 49), some (48, false), .mv (.t 0)⟩, ⟨(some 50), some (48, false), .len false (.t 49)⟩, ⟨(some 51), some (48, false), .mv (.t 1)⟩, ⟨(some 52), some (48, false), .len false (.t 51)⟩, ⟨(some 53), some (48, false), .bin .add (.t 50) (.t 52)⟩, ⟨(some 54), some (48, false), .bin .gtr (.t 53) (iC 6)⟩, oP 55 (.pick (.t 48) (.c (.bool true)) (.t 54))])
  (.cond (.t 55) (.seq (.ops [oP 4 (.mv (.c (.nils))), oP 5 (.mv (iC 3))])
  .ret) .skip))
  (.seq (.seq (.ops [oP 11 (.mv (iC 0))])
  (.block 1 (.loop k22_b1)))
  (.seq (.seq (.ops [oP 14 (.mv (iC 0))])
  (.block 5 (.loop k22_b3)))
  (.seq (.ops [mV 118 10, mV 4 118, oP 5 (.mv (iC 0))])
  .ret))))))))
theorem e22 : Ent 22 119 [83, 116] [.t 4, .t 5] k22 := ent Tryz.func22 (by kernel_rfl) (by kernel_rfl) (by kernel_rfl) (fun _ => by kernel_rfl) (by kernel_rfl)
end Go.Proofs.YthbbjbfbeaiphaaGreat
namespace Go.Proofs.YthbbjbfbeaiphaaGreat
open Go.Kv
set_option linter.unusedVariables false
set_option linter.unusedSimpArgs false
attribute [local irreducible] ACall PCall KL
/-- The images of a map of the first list, the first i of them, in T points. -/
def sA (T : Nat) (f : List Nat) (i : Nat) : List Nat := f.take i ++ (List.range T).drop i
/-- The images of a map of the second list, behind n points, the first i of them. -/
def sB (T n : Nat) (f : List Nat) (i : Nat) : List Nat := List.range n ++ (f.take i).map (fun x => n + x) ++ (List.range T).drop (n + i)
theorem range_drop {T i : Nat} (h : i < T) : (List.range T).drop i = i :: (List.range T).drop (i + 1) := by
  rw [List.drop_eq_getElem_cons (by simpa using h)]; simp
theorem sA_length {T : Nat} {f : List Nat} {i : Nat} (h : i ≤ f.length) (h' : i ≤ T) : (sA T f i).length = T := by simp [sA]; omega
theorem sB_length {T n : Nat} {f : List Nat} {i : Nat} (h : i ≤ f.length) (h' : n + i ≤ T) : (sB T n f i).length = T := by simp [sB]; omega
theorem sA_zero (T : Nat) (f : List Nat) : sA T f 0 = List.range T := by simp [sA]
theorem sB_zero {T n : Nat} (f : List Nat) (h : n ≤ T) : sB T n f 0 = List.range T := by
  simp only [sB, List.take_zero, List.map_nil, List.append_nil, Nat.add_zero]
  have : List.range n = (List.range T).take n := by rw [List.take_range, Nat.min_eq_left h]
  rw [this, List.take_append_drop]
theorem sA_step {T : Nat} {f : List Nat} {i : Nat} (h : i < f.length) (h' : i < T) : (sA T f i).set i (f.getD i 0) = sA T f (i + 1) := by
  have hl : (f.take i).length = i := by simp; omega
  rw [sA, List.set_append_right _ _ (by omega), hl, Nat.sub_self, range_drop h', List.set_cons_zero, sA, List.take_succ_eq_append_getElem h, getD_eq h, List.append_assoc]
  rfl
theorem sB_step {T n : Nat} {f : List Nat} {i : Nat} (h : i < f.length) (h' : n + i < T) : (sB T n f i).set (n + i) (n + f.getD i 0) = sB T n f (i + 1) := by
  have hl : (List.range n ++ (f.take i).map (fun x => n + x)).length = n + i := by simp; omega
  rw [sB, List.set_append_right _ _ (by omega), hl, Nat.sub_self, range_drop h', List.set_cons_zero, sB, List.take_succ_eq_append_getElem h, getD_eq h, List.map_append]
  simp only [List.map_cons, List.map_nil, List.append_assoc, List.cons_append, List.nil_append, Nat.add_assoc]
/-- What is copied over the identity. -/
theorem over_id {T : Nat} {f : List Nat} (h : f.length ≤ T) (h5 : T ≤ 5) : putC (ints (mp (List.range T))) 1 (ints (f.map fun x : Nat => (x : Int))) = ints (mp (sA T f f.length)) := by
  have hm : (mp (List.range T)).length = 6 := mpN_length (by simp; omega)
  rw [putC_ints _ _ _ (by simp [hm]; omega)]
  congr 1
  have e1 : mp (sA T f f.length) = mpN T (sA T f f.length) := by rw [mp, sA_length (Nat.le_refl _) h]
  rw [e1]
  simp only [List.length_map, mp, mpN, List.length_range, sA, List.take_length, List.map_append, List.length_append, List.length_drop]
  rw [show 1 + f.length = f.length + 1 by omega, List.take_succ_cons, List.take_zero, List.drop_succ_cons, List.drop_append_of_le_length (by simpa using h), List.map_drop]
  rw [show f.length + (T - f.length) = T by omega]
  simp
def rsA (T : Nat) (fs : List (List Nat)) : List (List Int) := fs.map fun f => mp (sA T f f.length)
def rsB (T n : Nat) (fs : List (List Nat)) : List (List Int) := fs.map fun f => mp (sB T n f f.length)
theorem rsA_snoc (T : Nat) {fs : List (List Nat)} {x : Nat} (h : x < fs.length) : rsA T (fs.take x) ++ [mp (sA T fs[x] fs[x].length)] = rsA T (fs.take (x + 1)) := by
  rw [List.take_succ_eq_append_getElem h]; simp only [rsA, List.map_append, List.map_cons, List.map_nil]
theorem rsB_snoc (T n : Nat) {fs : List (List Nat)} {x : Nat} (h : x < fs.length) : rsB T n (fs.take x) ++ [mp (sB T n fs[x] fs[x].length)] = rsB T n (fs.take (x + 1)) := by
  rw [List.take_succ_eq_append_getElem h]; simp only [rsB, List.map_append, List.map_cons, List.map_nil]
@[simp] theorem rsA_length (T : Nat) (fs : List (List Nat)) : (rsA T fs).length = fs.length := by simp [rsA]
@[simp] theorem rsB_length (T n : Nat) (fs : List (List Nat)) : (rsB T n fs).length = fs.length := by simp [rsB]
def ptz (a : List (List Int)) : Int := (a.getD 0 []).getD 0 0
/-- The code of two lists. -/
def sbc (a b : List (List Int)) : Int := if (a ++ b).all isM = false then 1 else if lcode a [] ≠ 0 ∨ lcode b [] ≠ 0 then 2 else if 5 < ptz a + ptz b ∨ 6 < a.length + b.length then 3 else 0
theorem lcode_one (a : List (List Int)) : lcode a [] = 1 ↔ a.all isM = false := by
  unfold lcode
  rw [List.append_nil]
  constructor
  · intro h
    cases ha : a.all isM with
    | false => rfl
    | true =>
      rw [if_neg (by simp [ha])] at h
      split at h
      · omega
      · split at h <;> omega
  · intro h; rw [if_pos h]
theorem p22_in (fs gs : List (List Nat)) (n m : Nat) (hf : ∀ f ∈ fs, Ok f n) (hg : ∀ g ∈ gs, Ok g m) (hl1 : 1 ≤ fs.length) (hl2 : 1 ≤ gs.length) (hnm : n + m ≤ 5) (hll : fs.length + gs.length ≤ 6) (hn : 1 ≤ n) (hm : 1 ≤ m)
    (h6 : ∀ r ∈ fs.map mp, r.length = 6) (h6' : ∀ r ∈ gs.map mp, r.length = 6) (hca : lcode (fs.map mp) [] = 0) (hcb : lcode (gs.map mp) [] = 0) :
    Pure Tryz.prog 22 [.list (aggs (fs.map mp)), .list (aggs (gs.map mp))] (.tup [.list (aggs (rsA (n + m) fs ++ rsB (n + m) n gs)), .int .i64 0]) := by
  have h0 : 0 < fs.length := by omega
  have h0' : 0 < gs.length := by omega
  have hk0 := hf _ (List.getElem_mem h0)
  have hk0' := hg _ (List.getElem_mem h0')
  have e0 : (mp fs[0]).getD 0 0 = n := by rw [mp_get0, hk0.len]
  have e0' : (mp gs[0]).getD 0 0 = m := by rw [mp_get0, hk0'.len]
  have q0 := hk0.mp_len
  have q0' := hk0'.mp_len
  refine e22 (by simp) fun _ _ => ?_
  simp only [k22, argEnv, take6, List.drop_zero, Int.cast_ofNat_Int, go_sem, ↓reduceIte, Nat.reduceEqDiff, Nat.reduceAdd, Nat.reduceMul, Nat.reduceLeDiff, Nat.reduceLT, Int.reduceLE, Int.reduceLT, reduceCtorEq]
  refine (p74n (fs.map mp) (by simp; omega) h6).go ?_
  rw [hca]
  try simp only [take6, List.drop_zero, Int.cast_ofNat_Int, go_sem, ↓reduceIte, Nat.reduceEqDiff, Nat.reduceAdd, Nat.reduceMul, Nat.reduceLeDiff, Nat.reduceLT, Int.reduceLE, Int.reduceLT, reduceCtorEq]
  refine (p74n (gs.map mp) (by simp; omega) h6').go ?_
  rw [hcb]
  try simp only [List.length_map, map_getD h0, map_getD h0', e0, e0', q0, q0', hk0.len, hk0'.len, take6, List.drop_zero, Int.cast_ofNat_Int, go_sem, ↓reduceIte, Nat.reduceEqDiff, Nat.reduceAdd, Nat.reduceMul, Nat.reduceLeDiff, Nat.reduceLT, Int.reduceLE, Int.reduceLT, reduceCtorEq]
  repeat' (first | refine And.intro ?_ ?_ | intro _)
  all_goals (try omega)
  have hidn := p75 (n + m) (by omega) hnm
  rw [Int.natCast_add] at hidn
  refine KL_ind k22_b1.eq_1 (fun x : Nat × PV × Heap => [(0, .list (aggs (fs.map mp))), (1, .list (aggs (gs.map mp))), (8, .int .i64 n), (9, .int .i64 m), (10, x.2.1), (11, .int .i64 x.1)]) (fun x => x.2.2) (fun x => x.1 ≤ fs.length ∧ OwnA 60 x.2.2 0 x.2.2.length x.2.1 (rsA (n + m) (fs.take x.1)) ∧ Free x.2.2) (fun x => fs.length - x.1) [0, 1, 8, 9, 10, 11] (0, .ref 0 0 0 0, [.arr 0 60 6 []]) (by rfl) (by rfl) ⟨Nat.zero_le _, .own 0 0 [] [] rfl (by simp) ⟨Nat.zero_le _, by simp⟩, Free.empty _ _ _⟩ fun ⟨x, v, σ⟩ ⟨hx, hT, hfr⟩ ih => ?_
  simp only at hx hT hfr
  try simp only [List.length_map, take6, List.drop_zero, Int.cast_ofNat_Int, go_sem, ↓reduceIte, Nat.reduceEqDiff, Nat.reduceAdd, Nat.reduceMul, Nat.reduceLeDiff, Nat.reduceLT, Int.reduceLE, Int.reduceLT, reduceCtorEq]
  refine ⟨fun h1 => ?_, fun h1 => ?_⟩
  · have hxt : x < fs.length := by omega
    have hk := hf _ (List.getElem_mem hxt)
    have q6 := hk.mp_len
    have hself : ∀ a : AObj, (σ ++ [a])[σ.length]? = some a := fun a => by simp
    have hset : ∀ a b : AObj, (σ ++ [a]).set σ.length b = σ ++ [b] := fun a b => by simp [List.set_append_right]
    have hr6 : (mp (List.range (n + m))).length = 6 := mpN_length (by simp; omega)
    have hmr : mpN ((n + m : Nat) : Int) (sA (n + m) fs[x] 0) = mp (List.range (n + m)) := by rw [sA_zero, mp, List.length_range]
    refine ⟨by omega, ?_⟩
    refine hidn.go ?_
    try simp only [hr6, hself, hset, take6, List.drop_zero, Int.cast_ofNat_Int, go_sem, ↓reduceIte, Nat.reduceEqDiff, Nat.reduceAdd, Nat.reduceMul, Nat.reduceLeDiff, Nat.reduceLT, Int.reduceLE, Int.reduceLT, reduceCtorEq]
    refine KL_ind k22_b0.eq_1 (fun y : Nat => [(0, .list (aggs (fs.map mp))), (1, .list (aggs (gs.map mp))), (8, .int .i64 n), (9, .int .i64 m), (10, v), (11, .int .i64 x), (12, .ptr σ.length 0), (13, .int .i64 y)]) (fun y => σ ++ [.box (ints (mpN ((n + m : Nat) : Int) (sA (n + m) fs[x] y)))]) (fun y => y ≤ n) (fun y => n - y) [0, 1, 8, 9, 10, 11, 12, 13] 0 (by simp [keep]) ?_ (Nat.zero_le _) fun y hy ihy => ?_
    · show _ = σ ++ [AObj.box (ints (mpN ((n + m : Nat) : Int) (sA (n + m) fs[x] 0)))]
      rw [hmr]
    have hsl : (sA (n + m) fs[x] y).length = n + m := sA_length (by rw [hk.len]; exact hy) (by omega)
    have hs6 : (mpN ((n + m : Nat) : Int) (sA (n + m) fs[x] y)).length = 6 := mpN_length (by omega)
    have hgy := hk.get' y
    try simp only [hself, hset, hs6, q6, map_getD hxt, List.length_map, take6, List.drop_zero, Int.cast_ofNat_Int, go_sem, ↓reduceIte, Nat.reduceEqDiff, Nat.reduceAdd, Nat.reduceMul, Nat.reduceLeDiff, Nat.reduceLT, Int.reduceLE, Int.reduceLT, reduceCtorEq]
    refine ⟨fun h2 => ?_, fun h2 => ?_⟩
    · have hst := sA_step (T := n + m) (f := fs[x]) (i := y) (by rw [hk.len]; omega) (by omega)
      refine ⟨by omega, fun _ => ⟨by omega, by omega, fun _ => ⟨by omega, by omega, by omega, ?_⟩⟩⟩
      refine ihy (y + 1) (by omega) (by omega) _ _ (by rfl) ?_
      rw [mpN_set (by omega), hst]
    · obtain rfl : y = n := by omega
      have e : mpN ((y + m : Nat) : Int) (sA (y + m) fs[x] y) = mp (sA (y + m) fs[x] fs[x].length) := by rw [mp, hk.len, hsl]
      have hs6' := hs6
      rw [e] at hs6'
      rw [e]
      try simp only [hs6', hself, OpK_eq, take6, List.drop_zero, Int.cast_ofNat_Int, go_sem, ↓reduceIte, Nat.reduceEqDiff, Nat.reduceAdd, Nat.reduceMul, Nat.reduceLeDiff, Nat.reduceLT, Int.reduceLE, Int.reduceLT, reduceCtorEq]
      refine OwnA.push (OwnA.append hT _) (hfr.append (Free.boxI _)) _ hs6' (by simp; omega) fun v' σ' hT' hf' => ?_
      try simp only [OpK_eq, take6, List.drop_zero, Int.cast_ofNat_Int, go_sem, ↓reduceIte, Nat.reduceEqDiff, Nat.reduceAdd, Nat.reduceMul, Nat.reduceLeDiff, Nat.reduceLT, Int.reduceLE, Int.reduceLT, reduceCtorEq]
      repeat' (first | refine And.intro ?_ ?_ | intro _)
      all_goals (try omega)
      refine ih (x + 1, v', σ') ⟨by show x + 1 ≤ fs.length; omega, ?_, hf'⟩ (by show fs.length - (x + 1) < fs.length - x; omega) _ _ (by rfl) rfl
      rw [← rsA_snoc _ hxt]; exact hT'
  obtain rfl : x = fs.length := by omega
  rw [List.take_length] at hT
  clear ih
  refine KL_ind k22_b3.eq_1 (fun x : Nat × PV × Heap => [(1, .list (aggs (gs.map mp))), (8, .int .i64 n), (9, .int .i64 m), (10, x.2.1), (14, .int .i64 x.1)]) (fun x => x.2.2) (fun x => x.1 ≤ gs.length ∧ OwnA 60 x.2.2 0 x.2.2.length x.2.1 (rsA (n + m) fs ++ rsB (n + m) n (gs.take x.1)) ∧ Free x.2.2) (fun x => gs.length - x.1) [1, 8, 9, 10, 14] (0, v, σ) (by rfl) (by rfl) ⟨Nat.zero_le _, by simpa [rsB] using hT, hfr⟩ fun ⟨x, v, σ⟩ ⟨hx, hT, hfr⟩ ih => ?_
  simp only at hx hT hfr
  try simp only [List.length_map, take6, List.drop_zero, Int.cast_ofNat_Int, go_sem, ↓reduceIte, Nat.reduceEqDiff, Nat.reduceAdd, Nat.reduceMul, Nat.reduceLeDiff, Nat.reduceLT, Int.reduceLE, Int.reduceLT, reduceCtorEq]
  refine ⟨fun h1 => ?_, fun h1 => ?_⟩
  · have hxt : x < gs.length := by omega
    have hk := hg _ (List.getElem_mem hxt)
    have q6 := hk.mp_len
    have hself : ∀ a : AObj, (σ ++ [a])[σ.length]? = some a := fun a => by simp
    have hset : ∀ a b : AObj, (σ ++ [a]).set σ.length b = σ ++ [b] := fun a b => by simp [List.set_append_right]
    have hr6 : (mp (List.range (n + m))).length = 6 := mpN_length (by simp; omega)
    have hmr : mpN ((n + m : Nat) : Int) (sB (n + m) n gs[x] 0) = mp (List.range (n + m)) := by rw [sB_zero _ (by omega), mp, List.length_range]
    refine ⟨by omega, ?_⟩
    refine hidn.go ?_
    try simp only [hr6, hself, hset, take6, List.drop_zero, Int.cast_ofNat_Int, go_sem, ↓reduceIte, Nat.reduceEqDiff, Nat.reduceAdd, Nat.reduceMul, Nat.reduceLeDiff, Nat.reduceLT, Int.reduceLE, Int.reduceLT, reduceCtorEq]
    refine KL_ind k22_b2.eq_1 (fun y : Nat => [(1, .list (aggs (gs.map mp))), (8, .int .i64 n), (9, .int .i64 m), (10, v), (14, .int .i64 x), (15, .ptr σ.length 0), (16, .int .i64 y)]) (fun y => σ ++ [.box (ints (mpN ((n + m : Nat) : Int) (sB (n + m) n gs[x] y)))]) (fun y => y ≤ m) (fun y => m - y) [1, 8, 9, 10, 14, 15, 16] 0 (by simp [keep]) ?_ (Nat.zero_le _) fun y hy ihy => ?_
    · show _ = σ ++ [AObj.box (ints (mpN ((n + m : Nat) : Int) (sB (n + m) n gs[x] 0)))]
      rw [hmr]
    have hsl : (sB (n + m) n gs[x] y).length = n + m := sB_length (by rw [hk.len]; exact hy) (by omega)
    have hs6 : (mpN ((n + m : Nat) : Int) (sB (n + m) n gs[x] y)).length = 6 := mpN_length (by omega)
    have hgy := hk.get' y
    have hty : ((n : Int) + (y : Int)).toNat = n + y := by omega
    try simp only [hself, hset, hs6, q6, map_getD hxt, List.length_map, hty, take6, List.drop_zero, Int.cast_ofNat_Int, go_sem, ↓reduceIte, Nat.reduceEqDiff, Nat.reduceAdd, Nat.reduceMul, Nat.reduceLeDiff, Nat.reduceLT, Int.reduceLE, Int.reduceLT, reduceCtorEq]
    refine ⟨fun h2 => ?_, fun h2 => ?_⟩
    · have hst := sB_step (T := n + m) (n := n) (f := gs[x]) (i := y) (by rw [hk.len]; omega) (by omega)
      refine ⟨by omega, by omega, fun _ => ⟨by omega, by omega, fun _ => ⟨by omega, ⟨by omega, by omega⟩, by omega, by omega, ?_⟩⟩⟩
      refine ihy (y + 1) (by omega) (by omega) _ _ (by rfl) ?_
      rw [← Int.natCast_add, mpN_set (by omega), hst]
    · obtain rfl : y = m := by omega
      have e : mpN ((n + y : Nat) : Int) (sB (n + y) n gs[x] y) = mp (sB (n + y) n gs[x] gs[x].length) := by rw [mp, hk.len, hsl]
      have hs6' := hs6
      rw [e] at hs6'
      rw [e]
      try simp only [hs6', hself, OpK_eq, take6, List.drop_zero, Int.cast_ofNat_Int, go_sem, ↓reduceIte, Nat.reduceEqDiff, Nat.reduceAdd, Nat.reduceMul, Nat.reduceLeDiff, Nat.reduceLT, Int.reduceLE, Int.reduceLT, reduceCtorEq]
      refine OwnA.push (OwnA.append hT _) (hfr.append (Free.boxI _)) _ hs6' (by simp; omega) fun v' σ' hT' hf' => ?_
      try simp only [OpK_eq, take6, List.drop_zero, Int.cast_ofNat_Int, go_sem, ↓reduceIte, Nat.reduceEqDiff, Nat.reduceAdd, Nat.reduceMul, Nat.reduceLeDiff, Nat.reduceLT, Int.reduceLE, Int.reduceLT, reduceCtorEq]
      repeat' (first | refine And.intro ?_ ?_ | intro _)
      all_goals (try omega)
      refine ih (x + 1, v', σ') ⟨by show x + 1 ≤ gs.length; omega, ?_, hf'⟩ (by show gs.length - (x + 1) < gs.length - x; omega) _ _ (by rfl) rfl
      rw [← rsB_snoc _ _ hxt, ← List.append_assoc]; exact hT'
  · obtain rfl : x = gs.length := by omega
    rw [List.take_length] at hT
    try simp only [OpK_eq, take6, List.drop_zero, Int.cast_ofNat_Int, go_sem, ↓reduceIte, Nat.reduceEqDiff, Nat.reduceAdd, Nat.reduceMul, Nat.reduceLeDiff, Nat.reduceLT, Int.reduceLE, Int.reduceLT, reduceCtorEq]
    exact Fin.freeze (Imm.tupL (.cons hT.imm (.cons (.int _ _ _) (.nil _)))) ⟨rfl, rfl⟩
theorem sbc_eq (a b : List (List Int)) : sbc a b = if lcode a [] = 1 ∨ lcode b [] = 1 then 1 else if lcode a [] ≠ 0 ∨ lcode b [] ≠ 0 then 2 else if 5 < ptz a + ptz b ∨ 6 < a.length + b.length then 3 else 0 := by
  unfold sbc
  have e : ((a ++ b).all isM = false) ↔ (lcode a [] = 1 ∨ lcode b [] = 1) := by
    rw [lcode_one, lcode_one, List.all_append, Bool.and_eq_false_iff]
  by_cases h : (a ++ b).all isM = false
  · rw [if_pos h, if_pos (e.1 h)]
  · rw [if_neg h, if_neg fun g => h (e.2 g)]
theorem sbc_zero {a b : List (List Int)} (h : sbc a b = 0) : lcode a [] = 0 ∧ lcode b [] = 0 ∧ ptz a + ptz b ≤ 5 ∧ a.length + b.length ≤ 6 := by
  rw [sbc_eq] at h
  split at h
  · omega
  split at h
  · omega
  split at h
  · omega
  omega
theorem p22_out (a b : List (List Int)) (ha : a.length ≤ 1048576) (hb : b.length ≤ 1048576) (h6 : ∀ r ∈ a, r.length = 6) (h6' : ∀ r ∈ b, r.length = 6) (h : sbc a b ≠ 0) : Pure Tryz.prog 22 [.list (aggs a), .list (aggs b)] (.tup [.nils, .int .i64 (sbc a b)]) := by
  have hv := sbc_eq a b
  refine e22 (by simp) fun _ _ => ?_
  simp only [k22, argEnv, take6, List.drop_zero, Int.cast_ofNat_Int, go_sem, ↓reduceIte, Nat.reduceEqDiff, Nat.reduceAdd, Nat.reduceMul, Nat.reduceLeDiff, Nat.reduceLT, Int.reduceLE, Int.reduceLT, reduceCtorEq]
  refine (p74n a ha h6).go ?_
  try simp only [take6, List.drop_zero, Int.cast_ofNat_Int, go_sem, ↓reduceIte, Nat.reduceEqDiff, Nat.reduceAdd, Nat.reduceMul, Nat.reduceLeDiff, Nat.reduceLT, Int.reduceLE, Int.reduceLT, reduceCtorEq]
  refine (p74n b hb h6').go ?_
  try simp only [take6, List.drop_zero, Int.cast_ofNat_Int, go_sem, ↓reduceIte, Nat.reduceEqDiff, Nat.reduceAdd, Nat.reduceMul, Nat.reduceLeDiff, Nat.reduceLT, Int.reduceLE, Int.reduceLT, reduceCtorEq]
  by_cases h1 : lcode a [] = 1
  · rw [if_pos (.inl h1)] at hv
    try simp only [h1, take6, List.drop_zero, Int.cast_ofNat_Int, go_sem, ↓reduceIte, Nat.reduceEqDiff, Nat.reduceAdd, Nat.reduceMul, Nat.reduceLeDiff, Nat.reduceLT, Int.reduceLE, Int.reduceLT, reduceCtorEq]
    exact Kv.Fin.still ⟨by rw [hv], rfl⟩
  by_cases h2 : lcode b [] = 1
  · rw [if_pos (.inr h2)] at hv
    try simp only [h1, h2, take6, List.drop_zero, Int.cast_ofNat_Int, go_sem, ↓reduceIte, Nat.reduceEqDiff, Nat.reduceAdd, Nat.reduceMul, Nat.reduceLeDiff, Nat.reduceLT, Int.reduceLE, Int.reduceLT, reduceCtorEq]
    exact Kv.Fin.still ⟨by rw [hv], rfl⟩
  rw [if_neg (by omega)] at hv
  by_cases h3 : lcode a [] = 0
  · by_cases h4 : lcode b [] = 0
    · rw [if_neg (by omega)] at hv
      have h5 : 5 < ptz a + ptz b ∨ 6 < a.length + b.length := by
        by_cases h5 : 5 < ptz a + ptz b ∨ 6 < a.length + b.length
        · exact h5
        · rw [if_neg h5] at hv; exact absurd hv h
      rw [if_pos h5] at hv
      obtain ⟨fs, n, rfl, hf, hl1, hl2, hn, hn1, hn5⟩ := lcode_maps h6 h3
      obtain ⟨gs, m, rfl, hg, hm1, hm2, hm, hm1', hm5⟩ := lcode_maps h6' h4
      have h0 : 0 < fs.length := by omega
      have h0' : 0 < gs.length := by omega
      have q0 := (hf _ (List.getElem_mem h0)).mp_len
      have q0' := (hg _ (List.getElem_mem h0')).mp_len
      unfold ptz at h5
      rw [hn, hm] at h5
      rw [map_getD h0] at hn
      rw [map_getD h0'] at hm
      simp only [List.length_map] at h5
      try simp only [h1, h2, h3, h4, List.length_map, map_getD h0, map_getD h0', hn, hm, q0, q0', take6, List.drop_zero, Int.cast_ofNat_Int, go_sem, ↓reduceIte, Nat.reduceEqDiff, Nat.reduceAdd, Nat.reduceMul, Nat.reduceLeDiff, Nat.reduceLT, Int.reduceLE, Int.reduceLT, reduceCtorEq]
      repeat' (first | refine And.intro ?_ ?_ | intro _)
      all_goals (try omega)
      all_goals exact Kv.Fin.still ⟨by rw [hv], rfl⟩
    · rw [if_pos (.inr h4)] at hv
      try simp only [h1, h2, h3, h4, take6, List.drop_zero, Int.cast_ofNat_Int, go_sem, ↓reduceIte, Nat.reduceEqDiff, Nat.reduceAdd, Nat.reduceMul, Nat.reduceLeDiff, Nat.reduceLT, Int.reduceLE, Int.reduceLT, reduceCtorEq]
      repeat' (first | refine And.intro ?_ ?_ | intro _)
      all_goals (try omega)
      all_goals exact Kv.Fin.still ⟨by rw [hv], rfl⟩
  · rw [if_pos (.inl h3)] at hv
    try simp only [h1, h2, h3, take6, List.drop_zero, Int.cast_ofNat_Int, go_sem, ↓reduceIte, Nat.reduceEqDiff, Nat.reduceAdd, Nat.reduceMul, Nat.reduceLeDiff, Nat.reduceLT, Int.reduceLE, Int.reduceLT, reduceCtorEq]
    repeat' (first | refine And.intro ?_ ?_ | intro _)
    all_goals (try omega)
    all_goals exact Kv.Fin.still ⟨by rw [hv], rfl⟩
def sbT (a b : List (List Int)) : List (List Int) := if sbc a b = 0 then rsA ((ptz a).toNat + (ptz b).toNat) (a.map um) ++ rsB ((ptz a).toNat + (ptz b).toNat) (ptz a).toNat (b.map um) else []
theorem KL_clean {C : Cfg} {b : KC} {Q : Exit → Env → Heap → Prop} {env : Env} {σ : Heap} (live : List Nat) (E : Env) (hn : C.n0 = 0) (hE : keep live env = E) (hu : E.undr 0 = true) (h : KL C b Q E []) : KL C b Q env σ := by
  refine KL_keep live ?_
  rw [hE]
  refine KL_drop 0 (by omega) (Nat.zero_le _) (Env.undr_upto hu) (fun o ho => by simp at ho) ?_
  simpa using h
theorem p21 (a b : List (List Int)) (ha : a.length ≤ 1048576) (hb : b.length ≤ 1048576) (h6 : ∀ r ∈ a, r.length = 6) (h6' : ∀ r ∈ b, r.length = 6) : NewAO Tryz.prog 21 [.list (aggs a), .list (aggs b)] 60 (sbT a b) (sbc a b) := by
  have hab : ∀ r ∈ a ++ b, r.length = 6 := fun r hr => (List.mem_append.1 hr).elim (h6 r) (h6' r)
  have hlab : (a ++ b).length ≤ 2097152 := by simp; omega
  have hsum : a.length + b.length = (a ++ b).length := by simp
  have hv : sbc a b = if (a ++ b).all isM = false then 1 else if lcode a [] ≠ 0 ∨ lcode b [] ≠ 0 then 2 else if 5 < ptz a + ptz b ∨ 6 < a.length + b.length then 3 else 0 := rfl
  have hT0 : sbc a b ≠ 0 → sbT a b = [] := fun h => by unfold sbT; rw [if_neg h]
  unfold NewAO
  refine e21 (by simp) fun _ _ => ?_
  simp only [k21, argEnv, take6, List.drop_zero, Int.cast_ofNat_Int, go_sem, ↓reduceIte, Nat.reduceEqDiff, Nat.reduceAdd, Nat.reduceMul, Nat.reduceLeDiff, Nat.reduceLT, Int.reduceLE, Int.reduceLT, reduceCtorEq]
  refine p70L _ 0 (.list (aggs b)) a b (.list _) rfl ha hb h6 h6' fun ver => ?_
  try simp only [take6, List.drop_zero, Int.cast_ofNat_Int, go_sem, ↓reduceIte, Nat.reduceEqDiff, Nat.reduceAdd, Nat.reduceMul, Nat.reduceLeDiff, Nat.reduceLT, Int.reduceLE, Int.reduceLT, reduceCtorEq]
  rw [hsum]
  generalize hL : a ++ b = l at *
  refine KL_indD k21_b0.eq_1 (fun x : Nat => [(0, .list (aggs a)), (1, .list (aggs b)), (21, .ref 1 ver 0 l.length), (22, .int .i64 l.length), (23, .int .i64 x)]) (fun _ => [.arr 0 41 1 [.list (aggs a), .list (aggs b)], .arr ver 60 6 (aggs l)]) (fun x => x ≤ l.length ∧ (l.take x).all isM = true) (fun x => l.length - x) [0, 1, 21, 22, 23] 0 (by rfl) ⟨[], rfl⟩ ⟨Nat.zero_le _, by simp⟩ (fun x hx => ?_) fun x ⟨hx, hall⟩ ih => ?_
  · refine ⟨Nat.zero_le _, ?_, ?_⟩
    · exact Env.undr_upto (by simp [Env.undr, PV.undr, undrX_aggs])
    · exact .cons (by simp [AObj.undr, PV.undr, PV.undrX, undrX_aggs]) (.cons (by simp [AObj.undr, undrX_aggs]) (.nil _))
  try simp only [take6, List.drop_zero, Int.cast_ofNat_Int, go_sem, ↓reduceIte, Nat.reduceEqDiff, Nat.reduceAdd, Nat.reduceMul, Nat.reduceLeDiff, Nat.reduceLT, Int.reduceLE, Int.reduceLT, reduceCtorEq]
  refine ⟨fun h1 => ⟨by omega, by omega, fun h2 => ?_⟩, fun h1 => ?_⟩
  · have q6 := hab _ (List.getElem_mem h2)
    rw [getD_eq h2]
    try simp only [q6, take6, List.drop_zero, Int.cast_ofNat_Int, go_sem, ↓reduceIte, Nat.reduceEqDiff, Nat.reduceAdd, Nat.reduceMul, Nat.reduceLeDiff, Nat.reduceLT, Int.reduceLE, Int.reduceLT, reduceCtorEq]
    refine (p71 _ q6).go ?_
    try simp only [take6, List.drop_zero, Int.cast_ofNat_Int, go_sem, ↓reduceIte, Nat.reduceEqDiff, Nat.reduceAdd, Nat.reduceMul, Nat.reduceLeDiff, Nat.reduceLT, Int.reduceLE, Int.reduceLT, reduceCtorEq]
    refine ⟨fun h3 => ?_, fun h3 => ⟨by omega, ?_⟩⟩
    · rw [if_pos (all_false h2 h3)] at hv
      rw [hT0 (by omega), hv]
      exact Kv.Fin.still ⟨.nils, rfl, .nil, .nil⟩
    · refine ih (x + 1) ⟨by omega, ?_⟩ (by omega) _ _ (by rfl) ⟨[_], rfl⟩
      rw [all_take_succ _ h2, hall, h3]; rfl
  obtain rfl : x = l.length := by omega
  rw [List.take_length] at hall
  rw [if_neg (by rw [hall]; simp)] at hv
  clear ih
  refine (p72 .nils a [] .nil ha (by simp) h6 (by simp)).go ?_
  try simp only [take6, List.drop_zero, Int.cast_ofNat_Int, go_sem, ↓reduceIte, Nat.reduceEqDiff, Nat.reduceAdd, Nat.reduceMul, Nat.reduceLeDiff, Nat.reduceLT, Int.reduceLE, Int.reduceLT, reduceCtorEq]
  by_cases h3 : lcode a [] = 0
  case neg =>
    rw [if_pos (.inl h3)] at hv
    rw [hT0 (by omega), hv]
    refine ⟨fun h => absurd h h3, fun _ => Kv.Fin.still ⟨.nils, rfl, .nil, .nil⟩⟩
  refine ⟨fun _ => ?_, fun h => absurd h3 h⟩
  refine (p72 .nils b [] .nil hb (by simp) h6' (by simp)).go ?_
  by_cases h4 : lcode b [] = 0
  case neg =>
    rw [if_pos (.inr h4)] at hv
    rw [hT0 (by omega), hv]
    try simp only [h4, take6, List.drop_zero, Int.cast_ofNat_Int, go_sem, ↓reduceIte, Nat.reduceEqDiff, Nat.reduceAdd, Nat.reduceMul, Nat.reduceLeDiff, Nat.reduceLT, Int.reduceLE, Int.reduceLT, reduceCtorEq]
    exact Kv.Fin.still ⟨.nils, rfl, .nil, .nil⟩
  rw [if_neg (by omega)] at hv
  obtain ⟨fs, n, rfl, hf, hl1, hl2, hn, hn1, hn5⟩ := lcode_maps h6 h3
  obtain ⟨gs, m, rfl, hg, hm1, hm2, hm, hm1', hm5⟩ := lcode_maps h6' h4
  have h0 : 0 < fs.length := by omega
  have h0' : 0 < gs.length := by omega
  have q0 := (hf _ (List.getElem_mem h0)).mp_len
  have q0' := (hg _ (List.getElem_mem h0')).mp_len
  unfold ptz at hv
  rw [hn, hm] at hv
  have hTd : sbT (fs.map mp) (gs.map mp) = if sbc (fs.map mp) (gs.map mp) = 0 then rsA (n + m) fs ++ rsB (n + m) n gs else [] := by
    unfold sbT ptz
    rw [hn, hm, map_um, map_um]
    simp only [Int.toNat_natCast]
  rw [map_getD h0] at hn
  rw [map_getD h0'] at hm
  simp only [List.length_map] at hv
  by_cases h5 : 5 < (n : Int) + m ∨ 6 < fs.length + gs.length
  case pos =>
    rw [if_pos h5] at hv
    rw [hT0 (by omega), hv]
    try simp only [h4, List.length_map, map_getD h0, map_getD h0', hn, hm, q0, q0', take6, List.drop_zero, Int.cast_ofNat_Int, go_sem, ↓reduceIte, Nat.reduceEqDiff, Nat.reduceAdd, Nat.reduceMul, Nat.reduceLeDiff, Nat.reduceLT, Int.reduceLE, Int.reduceLT, reduceCtorEq]
    repeat' (first | refine And.intro ?_ ?_ | intro _)
    all_goals (try omega)
    all_goals exact Kv.Fin.still ⟨.nils, rfl, .nil, .nil⟩
  rw [if_neg h5] at hv
  rw [if_pos hv] at hTd
  rw [hTd, hv]
  try simp only [h4, List.length_map, map_getD h0, map_getD h0', hn, hm, q0, q0', take6, List.drop_zero, Int.cast_ofNat_Int, go_sem, ↓reduceIte, Nat.reduceEqDiff, Nat.reduceAdd, Nat.reduceMul, Nat.reduceLeDiff, Nat.reduceLT, Int.reduceLE, Int.reduceLT, reduceCtorEq]
  repeat' (first | refine And.intro ?_ ?_ | intro _)
  all_goals (try omega)
  have hnm : n + m ≤ 5 := by omega
  have hidn := p73 (n + m) (by omega) hnm
  rw [Int.natCast_add] at hidn
  refine KL_clean [1, 8, 9, 10, 59, 60, 61] [(1, .list (aggs (gs.map mp))), (8, .int .i64 n), (9, .int .i64 ((n : Int) + m)), (10, .nils), (59, .list (aggs (fs.map mp))), (60, .int .i64 fs.length), (61, .int .i64 0)] rfl rfl (by simp [Env.undr, PV.undr, undrX_aggs]) ?_
  refine KL_ind k21_b1.eq_1 (fun x : Nat × PV × Heap => [(1, .list (aggs (gs.map mp))), (8, .int .i64 n), (9, .int .i64 ((n : Int) + m)), (10, x.2.1), (59, .list (aggs (fs.map mp))), (60, .int .i64 fs.length), (61, .int .i64 x.1)]) (fun x => x.2.2) (fun x => x.1 ≤ fs.length ∧ OwnA 60 x.2.2 0 x.2.2.length x.2.1 (rsA (n + m) (fs.take x.1)) ∧ Free x.2.2) (fun x => fs.length - x.1) [1, 8, 9, 10, 59, 60, 61] (0, .nils, []) (by rfl) (by rfl) ⟨Nat.zero_le _, .nil, .nil⟩ fun ⟨x, v, σ⟩ ⟨hx, hT, hfr⟩ ih => ?_
  simp only at hx hT hfr
  have hself : ∀ a : AObj, (σ ++ [a])[σ.length]? = some a := fun a => by simp
  have hset : ∀ a b : AObj, (σ ++ [a]).set σ.length b = σ ++ [b] := fun a b => by simp [List.set_append_right]
  have h2a : ∀ a b : AObj, (σ ++ [a] ++ [b])[σ.length]? = some a := fun a b => by rw [List.getElem?_append_left (by simp)]; simp
  have h2b : ∀ a b : AObj, (σ ++ [a] ++ [b])[σ.length + 1]? = some b := fun a b => by rw [List.getElem?_append_right (by simp)]; simp
  have h2s : ∀ a b b' : AObj, (σ ++ [a] ++ [b]).set (σ.length + 1) b' = σ ++ [a] ++ [b'] := fun a b b' => by rw [List.set_append_right _ _ (by simp)]; simp
  have hr6 : (mp (List.range (n + m))).length = 6 := mpN_length (by simp; omega)
  try simp only [List.length_map, take6, List.drop_zero, Int.cast_ofNat_Int, go_sem, ↓reduceIte, Nat.reduceEqDiff, Nat.reduceAdd, Nat.reduceMul, Nat.reduceLeDiff, Nat.reduceLT, Int.reduceLE, Int.reduceLT, reduceCtorEq]
  refine ⟨fun h1 => ?_, fun h1 => ?_⟩
  · have hxt : x < fs.length := by omega
    have hk := hf _ (List.getElem_mem hxt)
    have q6 := hk.mp_len
    have s6 : (mp (sA (n + m) fs[x] fs[x].length)).length = 6 := mpN_length (by rw [sA_length (Nat.le_refl _) (by rw [hk.len]; omega)]; omega)
    have hov := over_id (T := n + m) (f := fs[x]) (by rw [hk.len]; omega) hnm
    try simp only [q6, map_getD hxt, List.length_map, hself, hset, take6, List.drop_zero, Int.cast_ofNat_Int, go_sem, ↓reduceIte, Nat.reduceEqDiff, Nat.reduceAdd, Nat.reduceMul, Nat.reduceLeDiff, Nat.reduceLT, Int.reduceLE, Int.reduceLT, reduceCtorEq]
    refine ⟨by omega, fun _ => ?_⟩
    refine hidn.go ?_
    try simp only [q6, hr6, hself, hset, h2a, h2b, h2s, take6, List.drop_zero, Int.cast_ofNat_Int, go_sem, ↓reduceIte, Nat.reduceEqDiff, Nat.reduceAdd, Nat.reduceMul, Nat.reduceLeDiff, Nat.reduceLT, Int.reduceLE, Int.reduceLT, reduceCtorEq]
    have hmid : (((mp fs[x]).drop 1).take n).take n = fs[x].map fun x : Nat => (x : Int) := by
      have h1 : (fs[x].map fun x : Nat => (x : Int)).length = n := by rw [List.length_map, hk.len]
      rw [List.take_take, Nat.min_self]
      simp only [mp, mpN, List.drop_succ_cons, List.drop_zero]
      rw [← h1, List.take_left]
    rw [hmid, hov]
    refine ⟨by omega, by omega, by omega, by omega, ?_⟩
    try simp only [OpK_eq, h2b, s6, take6, List.drop_zero, Int.cast_ofNat_Int, go_sem, ↓reduceIte, Nat.reduceEqDiff, Nat.reduceAdd, Nat.reduceMul, Nat.reduceLeDiff, Nat.reduceLT, Int.reduceLE, Int.reduceLT, reduceCtorEq]
    refine OwnA.push (OwnA.append (OwnA.append hT _) _) ((hfr.append (Free.boxI _)).append (Free.boxI _)) _ s6 (by simp; omega) fun v' σ' hT' hf' => ?_
    try simp only [OpK_eq, take6, List.drop_zero, Int.cast_ofNat_Int, go_sem, ↓reduceIte, Nat.reduceEqDiff, Nat.reduceAdd, Nat.reduceMul, Nat.reduceLeDiff, Nat.reduceLT, Int.reduceLE, Int.reduceLT, reduceCtorEq]
    repeat' (first | refine And.intro ?_ ?_ | intro _)
    all_goals (try omega)
    refine ih (x + 1, v', σ') ⟨by show x + 1 ≤ fs.length; omega, ?_, hf'⟩ (by show fs.length - (x + 1) < fs.length - x; omega) _ _ (by rfl) rfl
    rw [← rsA_snoc _ hxt]; exact hT'
  obtain rfl : x = fs.length := by omega
  rw [List.take_length] at hT
  clear ih hself hset h2a h2b h2s
  refine KL_ind k21_b3.eq_1 (fun x : Nat × PV × Heap => [(8, .int .i64 n), (9, .int .i64 ((n : Int) + m)), (10, x.2.1), (79, .list (aggs (gs.map mp))), (80, .int .i64 gs.length), (81, .int .i64 x.1)]) (fun x => x.2.2) (fun x => x.1 ≤ gs.length ∧ OwnA 60 x.2.2 0 x.2.2.length x.2.1 (rsA (n + m) fs ++ rsB (n + m) n (gs.take x.1)) ∧ Free x.2.2) (fun x => gs.length - x.1) [8, 9, 10, 79, 80, 81] (0, v, σ) (by rfl) (by rfl) ⟨Nat.zero_le _, by simpa [rsB] using hT, hfr⟩ fun ⟨x, v, σ⟩ ⟨hx, hT, hfr⟩ ih => ?_
  simp only at hx hT hfr
  have hself : ∀ a : AObj, (σ ++ [a])[σ.length]? = some a := fun a => by simp
  have hset : ∀ a b : AObj, (σ ++ [a]).set σ.length b = σ ++ [b] := fun a b => by simp [List.set_append_right]
  have h2a : ∀ a b : AObj, (σ ++ [a] ++ [b])[σ.length]? = some a := fun a b => by rw [List.getElem?_append_left (by simp)]; simp
  have h2b : ∀ a b : AObj, (σ ++ [a] ++ [b])[σ.length + 1]? = some b := fun a b => by rw [List.getElem?_append_right (by simp)]; simp
  have h2s : ∀ a b b' : AObj, (σ ++ [a] ++ [b]).set (σ.length + 1) b' = σ ++ [a] ++ [b'] := fun a b b' => by rw [List.set_append_right _ _ (by simp)]; simp
  try simp only [List.length_map, take6, List.drop_zero, Int.cast_ofNat_Int, go_sem, ↓reduceIte, Nat.reduceEqDiff, Nat.reduceAdd, Nat.reduceMul, Nat.reduceLeDiff, Nat.reduceLT, Int.reduceLE, Int.reduceLT, reduceCtorEq]
  refine ⟨fun h1 => ?_, fun h1 => ?_⟩
  · have hxt : x < gs.length := by omega
    have hk := hg _ (List.getElem_mem hxt)
    have q6 := hk.mp_len
    have hmr : mpN ((n + m : Nat) : Int) (sB (n + m) n gs[x] 0) = mp (List.range (n + m)) := by rw [sB_zero _ (by omega), mp, List.length_range]
    try simp only [q6, map_getD hxt, List.length_map, hself, hset, take6, List.drop_zero, Int.cast_ofNat_Int, go_sem, ↓reduceIte, Nat.reduceEqDiff, Nat.reduceAdd, Nat.reduceMul, Nat.reduceLeDiff, Nat.reduceLT, Int.reduceLE, Int.reduceLT, reduceCtorEq]
    refine ⟨by omega, fun _ => ?_⟩
    refine hidn.go ?_
    try simp only [q6, hr6, hself, hset, h2a, h2b, h2s, hk.len, take6, List.drop_zero, Int.cast_ofNat_Int, go_sem, ↓reduceIte, Nat.reduceEqDiff, Nat.reduceAdd, Nat.reduceMul, Nat.reduceLeDiff, Nat.reduceLT, Int.reduceLE, Int.reduceLT, reduceCtorEq]
    refine KL_ind k21_b2.eq_1 (fun y : Nat => [(8, .int .i64 n), (9, .int .i64 ((n : Int) + m)), (10, v), (15, .ptr σ.length 0), (16, .ptr (σ.length + 1) 0), (79, .list (aggs (gs.map mp))), (80, .int .i64 gs.length), (81, .int .i64 x), (88, .int .i64 m), (89, .int .i64 y)]) (fun y => σ ++ [.box (ints (mp gs[x]))] ++ [.box (ints (mpN ((n + m : Nat) : Int) (sB (n + m) n gs[x] y)))]) (fun y => y ≤ m) (fun y => m - y) [8, 9, 10, 15, 16, 79, 80, 81, 88, 89] 0 (by simp [keep]) ?_ (Nat.zero_le _) fun y hy ihy => ?_
    · show _ = σ ++ [AObj.box (ints (mp gs[x]))] ++ [AObj.box (ints (mpN ((n + m : Nat) : Int) (sB (n + m) n gs[x] 0)))]
      rw [hmr]
    have hsl : (sB (n + m) n gs[x] y).length = n + m := sB_length (by rw [hk.len]; exact hy) (by omega)
    have hs6 : (mpN ((n + m : Nat) : Int) (sB (n + m) n gs[x] y)).length = 6 := mpN_length (by omega)
    have hgy := hk.get' y
    have hty : ((n : Int) + (y : Int)).toNat = n + y := by omega
    try simp only [h2a, h2b, h2s, hs6, q6, hty, take6, List.drop_zero, Int.cast_ofNat_Int, go_sem, ↓reduceIte, Nat.reduceEqDiff, Nat.reduceAdd, Nat.reduceMul, Nat.reduceLeDiff, Nat.reduceLT, Int.reduceLE, Int.reduceLT, reduceCtorEq]
    refine ⟨fun h2 => ?_, fun h2 => ?_⟩
    · have hst := sB_step (T := n + m) (n := n) (f := gs[x]) (i := y) (by rw [hk.len]; omega) (by omega)
      refine ⟨by omega, by omega, by omega, fun _ => ⟨by omega, ⟨by omega, by omega⟩, by omega, by omega, ?_⟩⟩
      refine ihy (y + 1) (by omega) (by omega) _ _ (by rfl) ?_
      rw [← Int.natCast_add, mpN_set (by omega), hst]
    · obtain rfl : y = m := by omega
      have e : mpN ((n + y : Nat) : Int) (sB (n + y) n gs[x] y) = mp (sB (n + y) n gs[x] gs[x].length) := by rw [mp, hk.len, hsl]
      have hs6' := hs6
      rw [e] at hs6'
      rw [e]
      try simp only [hs6', h2b, OpK_eq, take6, List.drop_zero, Int.cast_ofNat_Int, go_sem, ↓reduceIte, Nat.reduceEqDiff, Nat.reduceAdd, Nat.reduceMul, Nat.reduceLeDiff, Nat.reduceLT, Int.reduceLE, Int.reduceLT, reduceCtorEq]
      refine OwnA.push (OwnA.append (OwnA.append hT _) _) ((hfr.append (Free.boxI _)).append (Free.boxI _)) _ hs6' (by simp; omega) fun v' σ' hT' hf' => ?_
      try simp only [OpK_eq, take6, List.drop_zero, Int.cast_ofNat_Int, go_sem, ↓reduceIte, Nat.reduceEqDiff, Nat.reduceAdd, Nat.reduceMul, Nat.reduceLeDiff, Nat.reduceLT, Int.reduceLE, Int.reduceLT, reduceCtorEq]
      repeat' (first | refine And.intro ?_ ?_ | intro _)
      all_goals (try omega)
      refine ih (x + 1, v', σ') ⟨by show x + 1 ≤ gs.length; omega, ?_, hf'⟩ (by show gs.length - (x + 1) < gs.length - x; omega) _ _ (by rfl) rfl
      rw [← rsB_snoc _ _ hxt, ← List.append_assoc]; exact hT'
  · obtain rfl : x = gs.length := by omega
    rw [List.take_length] at hT
    try simp only [OpK_eq, take6, List.drop_zero, Int.cast_ofNat_Int, go_sem, ↓reduceIte, Nat.reduceEqDiff, Nat.reduceAdd, Nat.reduceMul, Nat.reduceLeDiff, Nat.reduceLT, Int.reduceLE, Int.reduceLT, reduceCtorEq]
    exact Kv.Fin.now ⟨v, rfl, hT, hfr⟩
end Go.Proofs.YthbbjbfbeaiphaaGreat
end
section
/- Maps side by side: as many as the product of both numbers. -/
namespace Go.Proofs.YthbbjbfbeaiphaaGreat
open Go.Kv
set_option linter.unusedVariables false
set_option linter.unusedSimpArgs false
attribute [local irreducible] ACall PCall KL
/-- Two maps side by side. -/
def cb (n : Nat) (f g : List Nat) : List Nat := f ++ g.map fun x => n + x
theorem cb_mul {n m : Nat} {f g f' g' : List Nat} (hf : Ok f n) (hg : Ok g m) (hf' : Ok f' n) (hg' : Ok g' m) : mul (cb n f g) (cb n f' g') = cb n (mul f f') (mul g g') := by
  unfold cb mul
  rw [List.map_append, List.map_map, List.map_map]
  congr 1
  · apply List.map_congr_left
    intro x hx
    have := hf.lt x hx
    rw [List.getD_eq_getElem?_getD, List.getElem?_append_left (by rw [hf'.len]; exact this), ← List.getD_eq_getElem?_getD]
  · apply List.map_congr_left
    intro y hy
    have := hg.lt y hy
    simp only [Function.comp]
    rw [List.getD_eq_getElem?_getD, List.getElem?_append_right (by rw [hf'.len]; omega), hf'.len, Nat.add_sub_cancel_left, List.getElem?_map, List.getD_eq_getElem?_getD, List.getElem?_eq_getElem (by rw [hg'.len]; exact this)]
    rfl
theorem cb_one (n m : Nat) : cb n (List.range n) (List.range m) = List.range (n + m) := by
  unfold cb; rw [List.range_add]
theorem cb_ok {n m : Nat} {f g : List Nat} (hf : Ok f n) (hg : Ok g m) (h5 : n + m ≤ 5) : Ok (cb n f g) (n + m) := by
  refine ⟨by simp [cb, hf.len, hg.len], by have := hf.pos; omega, h5, fun x hx => ?_⟩
  rcases List.mem_append.1 hx with hx | hx
  · have := hf.lt x hx; omega
  · obtain ⟨y, hy, rfl⟩ := List.mem_map.1 hx
    have := hg.lt y hy; omega
theorem cb_inj {n m : Nat} {f g f' g' : List Nat} (hf : Ok f n) (hf' : Ok f' n) (h : cb n f g = cb n f' g') : f = f' ∧ g = g' := by
  obtain ⟨h1, h2⟩ := List.append_inj h (by rw [hf.len, hf'.len])
  refine ⟨h1, ?_⟩
  have := congrArg (List.map fun x => x - n) h2
  simpa [List.map_map, Function.comp_def, Nat.add_sub_cancel_left] using this
theorem sA_cb {n m : Nat} {f : List Nat} (h : Ok f n) : sA (n + m) f f.length = cb n f (List.range m) := by
  unfold sA cb
  rw [List.take_length, h.len, List.range_add, List.drop_append_of_le_length (by simp), List.drop_of_length_le (by simp), List.nil_append]
theorem sB_cb {n m : Nat} {g : List Nat} (h : Ok g m) : sB (n + m) n g g.length = cb n (List.range n) g := by
  unfold sB cb
  rw [List.take_length, h.len, List.drop_of_length_le (by simp), List.append_nil]
/-- The list side by side. -/
def sbl (n m : Nat) (fs gs : List (List Nat)) : List (List Nat) := fs.map (fun f => cb n f (List.range m)) ++ gs.map (fun g => cb n (List.range n) g)
theorem rch_side {n m : Nat} {fs gs : List (List Nat)} (n1 : 1 ≤ n) (n5 : n ≤ 5) (m1 : 1 ≤ m) (m5 : m ≤ 5) (hf : ∀ f ∈ fs, Ok f n) (hg : ∀ g ∈ gs, Ok g m) (h : List Nat) : Rch (sbl n m fs gs) (n + m) h ↔ ∃ f g, Rch fs n f ∧ Rch gs m g ∧ h = cb n f g := by
  have on := range_ok n1 n5
  have om := range_ok m1 m5
  constructor
  · intro hr
    induction hr with
    | one => exact ⟨_, _, .one, .one, (cb_one n m).symm⟩
    | step h a _ ha ih =>
      obtain ⟨f, g, h1, h2, rfl⟩ := ih
      have o1 := h1.ok n1 n5 hf
      have o2 := h2.ok m1 m5 hg
      rcases List.mem_append.1 ha with ha | ha
      · obtain ⟨a, hfa, rfl⟩ := List.mem_map.1 ha
        exact ⟨_, _, .step f a h1 hfa, h2, by rw [cb_mul o1 o2 (hf a hfa) om, mul_one o2]⟩
      · obtain ⟨a, hga, rfl⟩ := List.mem_map.1 ha
        exact ⟨_, _, h1, .step g a h2 hga, by rw [cb_mul o1 o2 on (hg a hga), mul_one o1]⟩
  · rintro ⟨f, g, h1, h2, rfl⟩
    have hl : Rch (sbl n m fs gs) (n + m) (cb n f (List.range m)) := by
      clear h2
      induction h1 with
      | one => rw [cb_one]; exact .one
      | step f a h1 ha ih =>
        have o1 := h1.ok n1 n5 hf
        have := Rch.step _ _ ih (List.mem_append.2 (.inl (List.mem_map.2 ⟨a, ha, rfl⟩)) : cb n a (List.range m) ∈ sbl n m fs gs)
        rwa [cb_mul o1 om (hf a ha) om, mul_one om] at this
    have o1 := h1.ok n1 n5 hf
    induction h2 with
    | one => exact hl
    | step g a h2 ha ih =>
      have o2 := h2.ok m1 m5 hg
      have := Rch.step _ _ ih (List.mem_append.2 (.inr (List.mem_map.2 ⟨a, ha, rfl⟩)) : cb n (List.range n) a ∈ sbl n m fs gs)
      rwa [cb_mul o1 o2 on (hg a ha), mul_one o1] at this
theorem clR_rch {fs : List (List Nat)} {n : Nat} (h1 : 1 ≤ n) (h5 : n ≤ 5) (hf : ∀ f ∈ fs, Ok f n) {Q : List (List Nat)} (hR : clB fs n 301 = some Q) (h : List Nat) : h ∈ elS n Q ↔ Rch fs n h := by
  obtain ⟨c3, c4⟩ := clB_okQ h1 h5 hf _ _ hR
  obtain ⟨_, s2, _⟩ := elS_ok c3
  obtain ⟨a, b, c⟩ := clB_has _ _ hR
  rw [s2]
  refine ⟨b h, fun hr => ?_⟩
  induction hr with
  | one => exact a
  | step g f _ hm ih =>
    obtain ⟨j, hj, e⟩ := List.getElem_of_mem ih
    exact c j _ (by omega) (by rw [List.getElem?_eq_getElem hj, e]) f hm
theorem clR_nodup {fs : List (List Nat)} {n : Nat} (h1 : 1 ≤ n) (h5 : n ≤ 5) (hf : ∀ f ∈ fs, Ok f n) {Q : List (List Nat)} (hR : clB fs n 301 = some Q) : (elS n Q).Nodup := by
  obtain ⟨c3, c4⟩ := clB_okQ h1 h5 hf _ _ hR
  rw [List.nodup_iff_pairwise_ne]
  exact (elS_ok c3).1.2.imp fun hlt e => by rw [e] at hlt; omega
theorem prod_len {α β γ : Type} (F : α → β → γ) (B : List β) : ∀ A : List α, (A.flatMap fun a => B.map (F a)).length = A.length * B.length
  | [] => by simp
  | a :: A => by rw [List.flatMap_cons, List.length_append, prod_len F B A, List.length_map, List.length_cons, Nat.succ_mul, Nat.add_comm]
/-- Side by side there are as many as the product says. -/
theorem side_size {n m : Nat} {fs gs : List (List Nat)} (n1 : 1 ≤ n) (m1 : 1 ≤ m) (h5 : n + m ≤ 5) (hf : ∀ f ∈ fs, Ok f n) (hg : ∀ g ∈ gs, Ok g m) {Q1 Q2 Q3 : List (List Nat)} (h1 : clR fs n = some Q1) (h2 : clR gs m = some Q2) (h3 : clR (sbl n m fs gs) (n + m) = some Q3) : (elS (n + m) Q3).length = (elS n Q1).length * (elS m Q2).length := by
  have n5 : n ≤ 5 := by omega
  have m5 : m ≤ 5 := by omega
  have on := range_ok n1 n5
  have om := range_ok m1 m5
  have hs : ∀ f ∈ sbl n m fs gs, Ok f (n + m) := fun f hfm => by
    rcases List.mem_append.1 hfm with h | h
    · obtain ⟨a, ha, rfl⟩ := List.mem_map.1 h
      exact cb_ok (hf a ha) om h5
    · obtain ⟨a, ha, rfl⟩ := List.mem_map.1 h
      exact cb_ok on (hg a ha) h5
  have r1 := clR_rch n1 n5 hf h1
  have r2 := clR_rch m1 m5 hg h2
  have r3 := clR_rch (by omega) h5 hs h3
  have d1 := clR_nodup n1 n5 hf h1
  have d2 := clR_nodup m1 m5 hg h2
  have d3 := clR_nodup (by omega) h5 hs h3
  have o1 : ∀ f ∈ elS n Q1, Ok f n := fun f h => ((r1 f).1 h).ok n1 n5 hf
  generalize elS n Q1 = E1 at *
  generalize elS m Q2 = E2 at *
  generalize elS (n + m) Q3 = E3 at *
  rw [← prod_len (cb n) E2 E1]
  refine List.Perm.length_eq ((List.perm_ext_iff_of_nodup d3 ?_).2 fun h => ?_)
  · rw [List.nodup_iff_pairwise_ne, List.pairwise_flatMap]
    refine ⟨fun f hfm => ?_, ?_⟩
    · rw [List.pairwise_map]
      exact (List.nodup_iff_pairwise_ne.1 d2).imp fun hne e => hne (cb_inj (m := m) (o1 f hfm) (o1 f hfm) e).2
    · refine (List.nodup_iff_pairwise_ne.1 d1).imp_of_mem fun {f f'} hfm hfm' hne x hx y hy e => ?_
      obtain ⟨g, _, rfl⟩ := List.mem_map.1 hx
      obtain ⟨g', _, rfl⟩ := List.mem_map.1 hy
      exact hne (cb_inj (m := m) (o1 f hfm) (o1 f' hfm') e).1
  · rw [r3, rch_side n1 n5 m1 m5 hf hg, List.mem_flatMap]
    constructor
    · rintro ⟨f, g, g1, g2, rfl⟩
      exact ⟨f, (r1 f).2 g1, List.mem_map.2 ⟨g, (r2 g).2 g2, rfl⟩⟩
    · rintro ⟨f, g1, g2⟩
      obtain ⟨g, g3, rfl⟩ := List.mem_map.1 g2
      exact ⟨f, g, (r1 f).1 g1, (r2 g).1 g3, rfl⟩
end Go.Proofs.YthbbjbfbeaiphaaGreat
end
section
/- A map's number: the implementation. -/
namespace Go.Proofs.YthbbjbfbeaiphaaGreat
open Go.Kv
set_option maxRecDepth 100000
def k188_b0 : KC := (.seq (.ops [oP 9 (.bin .lss (.t 8) (iC 5))])
  (.seq (.cond (.t 9) .skip (.exit 0))
  (.seq (.block 1 (.seq (.ops [oP 10 (.idxV 5 1 false (.t 7) (.t 8)), mV 5 10])
  (.ops [mV 11 3, oP 12 (.bin .mul (.t 11) (iC 5)), mV 13 5, oP 14 (.bin .add (.t 12) (.t 13)), mV 3 14])))
  (.ops [oP 15 (.bin .add (.t 8) (iC 1)), mV 8 15]))))
def k188 : KC := (.seq (.ops [oP 1 (.box true (.t 0)), oP 2 (.mv (iC 0))])
  (.seq (.ops [oP 3 (.mv (iC 0))])
  (.seq (.seq (.ops [oP 6 (.fieldA 1 (.t 1)), oP 7 (.load true 5 (.t 6)), oP 8 (.mv (iC 0))])
  (.block 0 (.loop k188_b0)))
  (.seq (.ops [mV 16 3, mV 2 16])
  .ret))))
theorem e188 : Ent 188 17 [1] [.t 2] k188 := ent Tryz.func188 (by kernel_rfl) (by kernel_rfl) (by kernel_rfl) (fun _ => by kernel_rfl) (by kernel_rfl)
end Go.Proofs.YthbbjbfbeaiphaaGreat
namespace Go.Proofs.YthbbjbfbeaiphaaGreat
open Go.Kv
set_option linter.unusedVariables false
set_option linter.unusedSimpArgs false
attribute [local irreducible] ACall PCall KL
/-- The number of five cells, of which k are read. -/
def numK (f : List Nat) : Nat → Nat
  | 0 => 0
  | k + 1 => numK f k * 5 + f.getD k 0
theorem numK_lt {f : List Nat} (h : ∀ x ∈ f, x < 5) : ∀ k, numK f k < 5 ^ k
  | 0 => by simp [numK]
  | k + 1 => by
    have h1 := numK_lt h k
    have h2 : f.getD k 0 < 5 := by
      rw [List.getD_eq_getElem?_getD]
      cases e : f[k]? with
      | none => simp
      | some x => exact h x (List.mem_of_getElem? e)
    rw [numK, Nat.pow_succ]; omega
theorem numK_inj {f g : List Nat} (hf : ∀ x ∈ f, x < 5) (hg : ∀ x ∈ g, x < 5) : ∀ k, numK f k = numK g k → ∀ i, i < k → f.getD i 0 = g.getD i 0
  | 0, _, i, hi => by omega
  | k + 1, h, i, hi => by
    have h2 : ∀ {f : List Nat}, (∀ x ∈ f, x < 5) → f.getD k 0 < 5 := fun {f} hf => by
      rw [List.getD_eq_getElem?_getD]
      cases e : f[k]? with
      | none => simp
      | some x => exact hf x (List.mem_of_getElem? e)
    have a := h2 hf
    have b := h2 hg
    simp only [numK] at h
    rcases Nat.lt_succ_iff_lt_or_eq.1 hi with c | rfl
    · exact numK_inj hf hg k (by omega) i c
    · omega
/-- Maps with as many points and one number are one map. -/
theorem num_inj {f g : List Nat} {n : Nat} (hf : Ok f n) (hg : Ok g n) (h : numK f 5 = numK g 5) : f = g := by
  have h5 := hf.le
  have e := numK_inj (fun x hx => by have := hf.lt x hx; omega) (fun x hx => by have := hg.lt x hx; omega) 5 h
  refine List.ext_getElem (by rw [hf.len, hg.len]) fun i h1 h2 => ?_
  have := e i (by have := hf.len; omega)
  simpa [List.getD_eq_getElem?_getD, h1, h2] using this
theorem p188 (f : List Nat) (n : Nat) (hf : Ok f n) : Pure Tryz.prog 188 [.agg (ints (mp f))] (.int .i64 (numK f 5)) := by
  have hlf := hf.mp_len
  have h5 := hf.le
  refine e188 (by simp) fun _ _ => ?_
  simp only [k188, argEnv, hlf, take6, List.drop_zero, Int.cast_ofNat_Int, go_sem, ↓reduceIte, Nat.reduceEqDiff, Nat.reduceAdd, Nat.reduceMul, Nat.reduceLeDiff, Nat.reduceLT, Int.reduceLE, Int.reduceLT, reduceCtorEq]
  refine KL_ind k188_b0.eq_1 (fun y : Nat => [(3, .int .i64 (numK f y)), (7, .agg (ints (List.take 5 (List.drop 1 (mp f))))), (8, .int .i64 y)]) (fun _ => []) (fun y => y ≤ 5) (fun y => 5 - y) [3, 7, 8] 0 (by simp [keep, numK]) rfl (Nat.zero_le _) fun y hy ih => ?_
  have hl5 : (List.take 5 (List.drop 1 (mp f))).length = 5 := by simp [hlf]
  try simp only [hl5, take6, List.drop_zero, Int.cast_ofNat_Int, go_sem, ↓reduceIte, Nat.reduceEqDiff, Nat.reduceAdd, Nat.reduceMul, Nat.reduceLeDiff, Nat.reduceLT, Int.reduceLE, Int.reduceLT, reduceCtorEq]
  refine ⟨fun g1 => ?_, fun g1 => ?_⟩
  · have hN := numK_lt (f := f) (fun x hx => by have := hf.lt x hx; omega) y
    have hN' : numK f y < 3125 := Nat.lt_of_lt_of_le hN (by
      have : (5 : Nat) ^ y ≤ 5 ^ 5 := Nat.pow_le_pow_right (by decide) hy
      omega)
    have hg : (List.take 5 (List.drop 1 (mp f))).getD y 0 = (f.getD y 0 : Int) := by
      have : (List.take 5 (List.drop 1 (mp f))).getD y 0 = (mp f).getD (y + 1) 0 := by
        rw [List.take_of_length_le (by simp [hlf])]
        simp [List.getD_eq_getElem?_getD, Nat.add_comm]
      rw [this, mp, mpN_get]
    have hb : f.getD y 0 < 5 := by
      rw [List.getD_eq_getElem?_getD]
      cases e : f[y]? with
      | none => simp
      | some x => have := hf.lt x (List.mem_of_getElem? e); simp; omega
    rw [hg]
    have g2 : y < 5 := by omega
    exact ⟨g1, g2, fun _ => ⟨by omega, by omega, by omega, ih (y + 1) (by omega) (by omega) _ _ (by simp [keep, numK]) rfl⟩⟩
  · obtain rfl : y = 5 := by omega
    try simp only [take6, List.drop_zero, Int.cast_ofNat_Int, go_sem, ↓reduceIte, Nat.reduceEqDiff, Nat.reduceAdd, Nat.reduceMul, Nat.reduceLeDiff, Nat.reduceLT, Int.reduceLE, Int.reduceLT, reduceCtorEq]
    exact Kv.Fin.still ⟨rfl, rfl⟩
end Go.Proofs.YthbbjbfbeaiphaaGreat
end
section
/- Places of maps: the implementation. -/
namespace Go.Proofs.YthbbjbfbeaiphaaGreat
open Go.Kv
set_option linter.unusedVariables false
set_option linter.unusedSimpArgs false
attribute [local irreducible] ACall PCall KL
/-- A monoid as it is read: its elements, its words, its places. -/
def moV (E W : PV) (P : List Int) : List PV := E :: W :: ints P
instance {E W : PV} {P : List Int} [h : Still E] [h' : Still W] : StillL (moV E W P) := inferInstanceAs (StillL (E :: W :: ints P))
end Go.Proofs.YthbbjbfbeaiphaaGreat
end
section
/- Places that tell the elements: both tables are one. -/
namespace Go.Proofs.YthbbjbfbeaiphaaGreat
open Go.Kv
set_option linter.unusedVariables false
set_option linter.unusedSimpArgs false
attribute [local irreducible] ACall PCall KL
/-- The places are those of the elements. -/
def PlOk (n : Nat) (P : List Int) (S : List (List Nat)) : Prop := P.length = 3125 ∧ (∀ x ∈ P, 0 ≤ x ∧ x ≤ 300) ∧ ∀ f, Ok f n → P.getD (numK f 5) 0 - 1 = plM n S f
end Go.Proofs.YthbbjbfbeaiphaaGreat
end
section
/- monoidOf, once newMonoid's contract is known. -/
namespace Go.Proofs.YthbbjbfbeaiphaaGreat
open Go.Kv
set_option maxRecDepth 100000
def k114_b0 : KC := (.seq (.ops [oP 35 (.bin .lss (.t 34) (.t 33))])
  (.seq (.cond (.t 35) .skip (.exit 0))
  (.seq (.block 1 (.seq (.ops [oP 36 (.idxS 6 (.t 32) (.t 34)), oP 37 (.load true 6 (.t 36)), oP 12 (.alloc [.int .i64 0, .int .i64 0, .int .i64 0, .int .i64 0, .int .i64 0, .int .i64 0]), ⟨none, none, .store 6 (.t 12) (.t 37)⟩])
  (.seq (.ops [mV 38 8, oP 39 (.load true 6 (.t 12)), oP 40 (.call (fC 159) [(.t 38), (.t 39)]), mV 13 40])
  (.seq (.seq (.ops [mV 41 13, oP 42 (.bin .lss (.t 41) (iC 0))])
  (.cond (.t 42) (.seq (.ops [oP 4 (.mv (.c (.nilptr))), oP 5 (.mv (.c (.nils))), oP 6 (.mv (iC 4))])
  .ret) .skip))
  (.ops [mV 43 10, mV 44 13, oP 45 (.bsl true 3 1 [(.t 44)]), oP 46 (.app (.t 43) (.t 45) 3 1), mV 10 46])))))
  (.ops [oP 47 (.bin .add (.t 34) (iC 1)), mV 34 47]))))
def k114 : KC := (.seq (.ops [oP 4 (.mv (.c (.nilptr))), oP 5 (.mv (.c (.nils))), oP 6 (.mv (iC 0))])
  (.seq (.seq (.ops [mV 14 0, mV 15 1, oP 16 (.call (fC 72) [(.t 14), (.t 15)]), mV 7 16])
  (.seq (.ops [mV 17 7, oP 18 (.bin .neq (.t 17) (iC 0))])
  (.cond (.t 18) (.seq (.ops [mV 19 7, oP 4 (.mv (.c (.nilptr))), oP 5 (.mv (.c (.nils))), mV 6 19])
  .ret) .skip)))
  (.seq (.ops [mV 21 0, mV 22 0, oP 23 (.idxS 6 (.t 22) (iC 0)), oP 24 (.fieldA 0 (.t 23)), oP 25 (.load false 1 (.t 24)), oP 26 (.call (fC 158) [(.t 21), (.t 25)]), mV 20 26, oP 27 (.extr 0 (.t 20)), oP 28 (.extr 1 (.t 20)), mV 8 27, mV 9 28])
  (.seq (.seq (.ops [mV 29 9, oP 30 (.bin .neq (.t 29) (iC 0))])
  (.cond (.t 30) (.seq (.ops [mV 31 9, oP 4 (.mv (.c (.nilptr))), oP 5 (.mv (.c (.nils))), mV 6 31])
  .ret) .skip))
  (.seq (.ops [oP 10 (.mv (.c (.nils)))])
  (.seq (.seq (.ops [mV 32 1, oP 33 (.len false (.t 32)), oP 34 (.mv (iC 0))])
  (.block 0 (.loop k114_b0)))
  (.seq (.ops [mV 48 8, mV 49 10, mV 4 48, mV 5 49, oP 6 (.mv (iC 0))])
  .ret)))))))
theorem e114 : Ent 114 50 [45] [.t 4, .t 5, .t 6] k114 := ent Tryz.func114 (by kernel_rfl) (by kernel_rfl) (by kernel_rfl) (fun _ => by kernel_rfl) (by kernel_rfl)
end Go.Proofs.YthbbjbfbeaiphaaGreat
namespace Go.Proofs.YthbbjbfbeaiphaaGreat
open Go.Kv
set_option linter.unusedVariables false
set_option linter.unusedSimpArgs false
attribute [local irreducible] ACall PCall KL
theorem p114_of (fs : List (List Nat)) (n : Nat) (hf : ∀ f ∈ fs, Ok f n) (h0 : 0 < fs.length) (hfl : fs.length ≤ 6) (hl : lcode (fs.map mp) [] = 0) (m : PV) [Still m] (c : Int)
    (hM : Pure Tryz.prog 158 [.list (aggs (fs.map mp)), .int .i64 n] (.tup [m, .int .i64 c])) :
    Pure Tryz.prog 114 [.list (aggs (fs.map mp)), .nils] (if c = 0 then .tup [m, .nils, .int .i64 0] else .tup [.nilptr, .nils, .int .i64 c]) := by
  have hk := hf _ (List.getElem_mem h0)
  have h6k := hk.mp_len
  have hn : (mp fs[0]).getD 0 0 = (n : Int) := by simp [mp, mpN, hk.len]
  refine e114 (by simp) fun _ _ => ?_
  simp only [k114, argEnv, take6, List.drop_zero, Int.cast_ofNat_Int, go_sem, ↓reduceIte, Nat.reduceEqDiff, Nat.reduceAdd, Nat.reduceMul, Nat.reduceLeDiff, Nat.reduceLT, Int.reduceLE, Int.reduceLT, reduceCtorEq]
  refine (p72 _ (fs.map mp) [] .nil (by simp; omega) (by simp) (fun r hr => by obtain ⟨f, hf', rfl⟩ := List.mem_map.1 hr; exact (hf f hf').mp_len) (by simp)).go ?_
  rw [hl]
  try simp only [OpK_eq, HKv, map_getD h0, h6k, hn, List.length_map, take6, List.drop_zero, Int.cast_ofNat_Int, go_sem, ↓reduceIte, Nat.reduceEqDiff, Nat.reduceAdd, Nat.reduceMul, Nat.reduceLeDiff, Nat.reduceLT, Int.reduceLE, Int.reduceLT, reduceCtorEq]
  refine ⟨by omega, fun _ => ?_⟩
  refine hM.go ?_
  try simp only [OpK_eq, HKv, take6, List.drop_zero, Int.cast_ofNat_Int, go_sem, ↓reduceIte, Nat.reduceEqDiff, Nat.reduceAdd, Nat.reduceMul, Nat.reduceLeDiff, Nat.reduceLT, Int.reduceLE, Int.reduceLT, reduceCtorEq]
  refine ⟨fun g1 => ?_, fun g1 => ?_⟩
  · rw [if_neg (by omega)]
    exact Kv.Fin.still ⟨rfl, rfl⟩
  · refine KL_ind k114_b0.eq_1 (fun y : Nat => [(8, m), (10, .nils), (32, .nils), (33, .int .i64 0), (34, .int .i64 0)]) (fun _ => []) (fun y => True) (fun y => 0) [8, 10, 32, 33, 34] 0 (by simp [keep]) rfl trivial fun y _ ih => ?_
    try simp only [OpK_eq, HKv, take6, List.drop_zero, Int.cast_ofNat_Int, go_sem, ↓reduceIte, Nat.reduceEqDiff, Nat.reduceAdd, Nat.reduceMul, Nat.reduceLeDiff, Nat.reduceLT, Int.reduceLE, Int.reduceLT, reduceCtorEq]
    rw [if_pos (by omega)]
    exact Kv.Fin.still ⟨rfl, rfl⟩
/-- What newMonoid owes. -/
def MonOk (fs : List (List Nat)) (n : Nat) : Prop := match clR fs n with
  | none => Pure Tryz.prog 158 [.list (aggs (fs.map mp)), .int .i64 n] (.tup [.nilptr, .int .i64 3])
  | some Q => ∃ W P, Still W ∧ PlOk n P (elS n Q) ∧ Pure Tryz.prog 158 [.list (aggs (fs.map mp)), .int .i64 n] (.tup [.fptr (moV (.list (aggs ((elS n Q).map mp))) W P) 0, .int .i64 0])
end Go.Proofs.YthbbjbfbeaiphaaGreat
end
section
/- TableOf at lists that are none: the implementation. -/
namespace Go.Proofs.YthbbjbfbeaiphaaGreat
open Go.Kv
set_option linter.unusedVariables false
set_option linter.unusedSimpArgs false
attribute [local irreducible] ACall PCall KL
theorem p114_out (a : List (List Int)) (ha : a.length ≤ 1048576) (h6 : ∀ r ∈ a, r.length = 6) (hc : lcode a [] ≠ 0) : Pure Tryz.prog 114 [.list (aggs a), .nils] (.tup [.nilptr, .nils, .int .i64 (lcode a [])]) := by
  refine e114 (by simp) fun _ _ => ?_
  simp only [k114, argEnv, take6, List.drop_zero, Int.cast_ofNat_Int, go_sem, ↓reduceIte, Nat.reduceEqDiff, Nat.reduceAdd, Nat.reduceMul, Nat.reduceLeDiff, Nat.reduceLT, Int.reduceLE, Int.reduceLT, reduceCtorEq]
  refine (p72 _ a [] .nil ha (by simp) h6 (by simp)).go ?_
  try simp only [OpK_eq, HKv, take6, List.drop_zero, Int.cast_ofNat_Int, go_sem, ↓reduceIte, Nat.reduceEqDiff, Nat.reduceAdd, Nat.reduceMul, Nat.reduceLeDiff, Nat.reduceLT, Int.reduceLE, Int.reduceLT, reduceCtorEq]
  refine ⟨fun _ => Kv.Fin.still ⟨rfl, rfl⟩, fun h => absurd h hc⟩
end Go.Proofs.YthbbjbfbeaiphaaGreat
end
section
/- Maps in order are told by their members. -/
namespace Go.Proofs.YthbbjbfbeaiphaaGreat
open Go.Kv
set_option linter.unusedVariables false
set_option linter.unusedSimpArgs false
attribute [local irreducible] ACall PCall KL
theorem srm_uniq {n : Nat} : ∀ {S T : List (List Nat)}, SrM n S → SrM n T → (∀ f, f ∈ S ↔ f ∈ T) → S = T
  | [], [], _, _, _ => rfl
  | [], b :: T, _, _, h => by have := (h b).2 (by simp); simp at this
  | a :: S, [], _, _, h => by have := (h a).1 (by simp); simp at this
  | a :: S, b :: T, hS, hT, h => by
    have pS := List.pairwise_cons.1 hS.2
    have pT := List.pairwise_cons.1 hT.2
    have e : a = b := by
      rcases List.mem_cons.1 ((h a).1 (by simp)) with e | e
      · exact e
      · rcases List.mem_cons.1 ((h b).2 (by simp)) with e' | e'
        · exact e'.symm
        · have := pT.1 _ e; have := pS.1 _ e'; omega
    subst e
    rw [srm_uniq (S := S) (T := T) ⟨fun f hf => hS.1 f (by simp [hf]), pS.2⟩ ⟨fun f hf => hT.1 f (by simp [hf]), pT.2⟩ fun f => ?_]
    constructor
    · intro hf
      rcases List.mem_cons.1 ((h f).1 (by simp [hf])) with e | e
      · subst e; have := pS.1 _ hf; omega
      · exact e
    · intro hf
      rcases List.mem_cons.1 ((h f).2 (by simp [hf])) with e | e
      · subst e; have := pT.1 _ hf; omega
      · exact e
end Go.Proofs.YthbbjbfbeaiphaaGreat
end
section
/- The places, written anew in order. -/
namespace Go.Proofs.YthbbjbfbeaiphaaGreat
open Go.Kv
set_option linter.unusedVariables false
set_option linter.unusedSimpArgs false
attribute [local irreducible] ACall PCall KL
def setP (S : List (List Nat)) (P : List Int) : Nat → List Int
  | 0 => P
  | k + 1 => (setP S P k).set (numK (S.getD k []) 5) (k + 1)
theorem set_getD {l : List Int} {i j : Nat} {x : Int} : (l.set i x).getD j 0 = if i = j ∧ i < l.length then x else l.getD j 0 := by
  rw [List.getD_eq_getElem?_getD, List.getD_eq_getElem?_getD, List.getElem?_set]
  by_cases h : i = j
  · subst h
    by_cases h' : i < l.length
    · simp [h']
    · simp [h', List.getElem?_eq_none (Nat.le_of_not_lt h')]
  · simp [h]
theorem num_lt {f : List Nat} {n : Nat} (hf : Ok f n) : numK f 5 < 3125 :=
  numK_lt (f := f) (fun x hx => by have := hf.lt x hx; have := hf.le; omega) 5
theorem setP_spec {n : Nat} {S : List (List Nat)} {P : List Int} (hS : SrM n S) (hP : P.length = 3125) : ∀ k, k ≤ S.length → (setP S P k).length = 3125 ∧ ∀ f, Ok f n → (∀ j, j < k → S.getD j [] = f → (setP S P k).getD (numK f 5) 0 = j + 1) ∧ ((∀ j, j < k → S.getD j [] ≠ f) → (setP S P k).getD (numK f 5) 0 = P.getD (numK f 5) 0)
  | 0, _ => ⟨hP, fun f _ => ⟨fun j hj => by omega, fun _ => rfl⟩⟩
  | k + 1, hk => by
    obtain ⟨i1, i2⟩ := setP_spec hS hP k (by omega)
    have ge : ∀ j (hj : j < S.length), S.getD j [] = S[j] := fun j hj => by simp [List.getD_eq_getElem?_getD, hj]
    have ok : Ok (S.getD k []) n := by rw [ge k hk]; exact hS.1 _ (List.getElem_mem _)
    have lk := num_lt ok
    refine ⟨by rw [setP, List.length_set, i1], fun f hf => ⟨fun j hj e => ?_, fun h => ?_⟩⟩
    · rw [setP, set_getD, i1]
      by_cases hjk : j = k
      · subst hjk; rw [e, if_pos ⟨rfl, num_lt hf⟩]
      · have hne : S.getD k [] ≠ f := fun e' => by
          have := List.pairwise_iff_getElem.1 hS.2 j k (by omega) (by omega) (by omega)
          rw [← ge j (by omega), ← ge k (by omega), e, e'] at this; omega
        rw [if_neg fun c => hne (num_inj ok hf c.1)]
        exact (i2 f hf).1 j (by omega) e
    · rw [setP, set_getD, if_neg fun c => h k (by omega) (num_inj ok hf c.1)]
      exact (i2 f hf).2 fun j hj => h j (by omega)
theorem setP_bound {S : List (List Nat)} {P : List Int} (hb : ∀ x ∈ P, 0 ≤ x ∧ x ≤ 300) : ∀ k, k ≤ 300 → ∀ x ∈ setP S P k, 0 ≤ x ∧ x ≤ 300
  | 0, _, x, hx => hb x hx
  | k + 1, hk, x, hx => by
    rw [setP] at hx
    rcases List.mem_or_eq_of_mem_set hx with h | h
    · exact setP_bound hb k (by omega) x h
    · omega
/-- Written anew, they tell the elements. -/
theorem setP_ok {n : Nat} {S : List (List Nat)} {P : List Int} (hS : SrM n S) (hl : S.length ≤ 300) (hP : P.length = 3125) (hb : ∀ x ∈ P, 0 ≤ x ∧ x ≤ 300) (h0 : ∀ f, Ok f n → f ∉ S → P.getD (numK f 5) 0 = 0) : PlOk n (setP S P S.length) S := by
  obtain ⟨i1, i2⟩ := setP_spec hS hP S.length (Nat.le_refl _)
  refine ⟨i1, setP_bound hb _ hl, fun f hf => ?_⟩
  unfold plM
  by_cases h : f ∈ S
  · obtain ⟨h1, h2⟩ := (lo_mem hS hf).2 h
    rw [if_pos ⟨h1, h2⟩, (i2 f hf).1 _ h1 h2]; omega
  · rw [if_neg fun c => h ((lo_mem hS hf).1 c), (i2 f hf).2 fun j hj e => h ?_, h0 f hf h]
    · rfl
    · rw [← e, List.getD_eq_getElem?_getD, List.getElem?_eq_getElem hj]; exact List.getElem_mem _
end Go.Proofs.YthbbjbfbeaiphaaGreat
end
section
/- The places while the monoid is found. -/
namespace Go.Proofs.YthbbjbfbeaiphaaGreat
open Go.Kv
set_option linter.unusedVariables false
set_option linter.unusedSimpArgs false
attribute [local irreducible] ACall PCall KL
/-- Each map found has its place, counted from 1; others have 0. -/
def FdOk (n : Nat) (P : List Int) (Q : List (List Nat)) : Prop := P.length = 3125 ∧ (∀ x ∈ P, 0 ≤ x ∧ x ≤ 300) ∧ ∀ f, Ok f n → (∀ j : Nat, Q[j]? = some f → P.getD (numK f 5) 0 = j + 1) ∧ (f ∉ Q → P.getD (numK f 5) 0 = 0)
theorem FdOk.pos {n : Nat} {P : List Int} {Q : List (List Nat)} (h : FdOk n P Q) {f : List Nat} (hf : Ok f n) : 0 < P.getD (numK f 5) 0 ↔ f ∈ Q := by
  constructor
  · intro h1
    apply Classical.byContradiction
    intro h2
    have := (h.2.2 f hf).2 h2; omega
  · intro h1
    obtain ⟨j, hj, e⟩ := List.getElem_of_mem h1
    have := (h.2.2 f hf).1 j (by rw [List.getElem?_eq_getElem hj, e]); omega
theorem FdOk.push {n : Nat} {P : List Int} {Q : List (List Nat)} (h : FdOk n P Q) {g : List Nat} (hg : Ok g n) (hn : g ∉ Q) (hl : Q.length < 300) : FdOk n (P.set (numK g 5) (Q.length + 1)) (Q ++ [g]) := by
  refine ⟨by rw [List.length_set, h.1], fun x hx => ?_, fun f hf => ⟨fun j hj => ?_, fun hm => ?_⟩⟩
  · rcases List.mem_or_eq_of_mem_set hx with h' | h'
    · exact h.2.1 x h'
    · omega
  · rw [set_getD, h.1]
    by_cases e : f = g
    · subst e
      rw [if_pos ⟨rfl, num_lt hf⟩]
      by_cases hjl : j < Q.length
      · rw [List.getElem?_append_left hjl] at hj
        exact absurd (List.mem_of_getElem? hj) hn
      · have := (List.getElem?_eq_some_iff.1 hj).1
        simp at this
        omega
    · rw [if_neg fun c => e (num_inj hf hg c.1.symm)]
      by_cases hjl : j < Q.length
      · rw [List.getElem?_append_left hjl] at hj
        exact (h.2.2 f hf).1 j hj
      · rw [List.getElem?_append_right (by omega)] at hj
        have := List.mem_of_getElem? hj
        simp at this
        exact absurd this e
  · simp at hm
    rw [set_getD, if_neg fun c => hm.2 (num_inj hf hg c.1.symm)]
    exact (h.2.2 f hf).2 hm.1
end Go.Proofs.YthbbjbfbeaiphaaGreat
end
