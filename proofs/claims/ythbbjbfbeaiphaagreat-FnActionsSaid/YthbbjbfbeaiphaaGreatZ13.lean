/- Several texts of this session as one, less what the claim does not need. -/
import Derived.Test.YthbbjbfbeaiphaaGreatCb
import Derived.Test.YthbbjbfbeaiphaaGreatZ11
import Derived.Test.YthbbjbfbeaiphaaGreatZ12
import Derived.Test.YthbbjbfbeaiphaaGreatZ10
import Derived.Test.YthbbjbfbeaiphaaGreatZ6
import Derived.Test.YthbbjbfbeaiphaaGreatZ7
import Derived.Test.YthbbjbfbeaiphaaGreatZ5
import Derived.Test.YthbbjbfbeaiphaaGreatZ8
section
namespace Go.Proofs.YthbbjbfbeaiphaaGreat
open Go.Kv
set_option maxRecDepth 100000
def k103_b0 : KC := (.seq (.seq (.ops [mV 12 6, mV 13 1, oP 14 (.len false (.t 13)), oP 15 (.bin .lss (.t 12) (.t 14))])
 (.cond (.t 15) .skip (.exit 0)))
 (.seq (.block 1 (.seq (.draw [mV 18 1, mV 19 6, oP 20 (.idxS 1 (.t 18) (.t 19)), oP 21 (.load false 1 (.t 20)), oP 22 (.len false (.t 21)), oP 23 (.bin .eql (.t 22) (iC 0)), mV 24 23, ⟨(some 25), some (24, false), .mv (.t 0)⟩, ⟨(some 26), some (24, false), .idxS 6 (.t 25) (iC 0)⟩, ⟨(some 27), some (24, false), .load true 6 (.t 26)⟩, ⟨(some 28), some (24, false), .mv (.t 1)⟩, ⟨(some 29), some (24, false), .mv (.t 6)⟩, ⟨(some 30), some (24, false), .idxS 1 (.t 28) (.t 29)⟩, ⟨(some 31), some (24, false), .load false 1 (.t 30)⟩, ⟨(some 32), some (24, false), .pcall (fC 153) [(.t 27), (.t 31)]⟩, ⟨(some 33), some (24, false), .bin .neq (.t 32) (iC 0)⟩, oP 34 (.pick (.t 24) (.c (.bool true)) (.t 33))])
 (.cond (.t 34) (.seq (.ops [oP 4 (.mv (iC 2))])
 .ret) .skip)))
 (.ops [mV 16 6, oP 17 (.bin .add (.t 16) (iC 1)), mV 6 17])))
def k103 : KC := (.seq (.ops [oP 4 (.mv (iC 0))])
 (.seq (.seq (.ops [mV 7 0, oP 8 (.call (fC 74) [(.t 7), (.c (.nils))]), mV 5 8])
 (.seq (.ops [mV 9 5, oP 10 (.bin .neq (.t 9) (iC 0))])
 (.cond (.t 10) (.seq (.ops [mV 11 5, mV 4 11])
 .ret) .skip)))
 (.seq (.seq (.ops [oP 6 (.mv (iC 0))])
 (.block 0 (.loop k103_b0)))
 (.seq (.ops [oP 4 (.mv (iC 0))])
 .ret))))
theorem e103 : Ent 103 35 [] [.t 4] k103 := ent Tryz.func103 (by kernel_rfl) (by kernel_rfl) (by kernel_rfl) (fun _ => by kernel_rfl) (by kernel_rfl)
def k37_b0 : KC := (.seq (.seq (.ops [mV 53 14, mV 54 0, oP 55 (.len false (.t 54)), oP 56 (.bin .lss (.t 53) (.t 55))])
 (.cond (.t 56) .skip (.exit 2)))
 (.seq (.block 3 (.seq (.draw [mV 59 0, mV 60 14, oP 61 (.idxS 6 (.t 59) (.t 60)), oP 62 (.load true 6 (.t 61)), mV 63 10, mV 64 13, oP 65 (.idxS 1 (.t 63) (.t 64)), oP 66 (.load false 1 (.t 65)), oP 67 (.pcall (fC 95) [(.t 62), (.t 66)]), mV 15 67])
 (.seq (.seq (.ops [mV 68 12, mV 69 15, oP 70 (.idxS 1 (.t 68) (.t 69)), oP 71 (.load false 1 (.t 70))])
 (.cond (.t 71) (.exit 3) .skip))
 (.seq (.ops [mV 72 12, mV 73 15, oP 74 (.idxS 1 (.t 72) (.t 73)), ⟨none, none, .store 1 (.t 74) (.c (.bool true))⟩])
 (.seq (.ops [mV 75 10, mV 76 15, oP 77 (.bsl true 2 1 [(.t 76)]), oP 78 (.app (.t 75) (.t 77) 2 1), mV 10 78])
 (.ops [mV 79 11, mV 80 11, mV 81 13, oP 82 (.idxS 1 (.t 80) (.t 81)), oP 83 (.load false 1 (.t 82)), oP 84 (.call (fC 105) [(.t 83)]), mV 85 14, oP 86 (.bsl true 2 1 [(.t 85)]), oP 87 (.app (.t 84) (.t 86) 2 1), oP 88 (.bsl true 27 1 [(.t 87)]), oP 89 (.app (.t 79) (.t 88) 27 1), mV 11 89]))))))
 (.ops [mV 57 14, oP 58 (.bin .add (.t 57) (iC 1)), mV 14 58])))
def k37_b1 : KC := (.seq (.seq (.ops [mV 37 13, mV 38 10, oP 39 (.len false (.t 38)), oP 40 (.bin .lss (.t 37) (.t 39))])
 (.cond (.t 40) .skip (.exit 0)))
 (.seq (.block 1 (.seq (.seq (.ops [mV 43 10, mV 44 13, oP 45 (.idxS 1 (.t 43) (.t 44)), oP 46 (.load false 1 (.t 45)), mV 47 9, oP 48 (.bin .eql (.t 46) (.t 47))])
 (.cond (.t 48) (.seq (.ops [mV 49 11, mV 50 13, oP 51 (.idxS 1 (.t 49) (.t 50)), oP 52 (.load false 1 (.t 51)), mV 6 52, oP 7 (.mv (iC 0))])
 .ret) .skip))
 (.seq (.ops [oP 14 (.mv (iC 0))])
 (.block 2 (.loop k37_b0)))))
 (.ops [mV 41 13, oP 42 (.bin .add (.t 41) (iC 1)), mV 13 42])))
def k37 : KC := (.seq (.ops [oP 6 (.mv (.c (.nils))), oP 7 (.mv (iC 0))])
 (.seq (.seq (.ops [mV 16 0, mV 17 1, mV 18 2, oP 19 (.bsl false 27 1 [(.t 17), (.t 18)]), oP 20 (.call (fC 103) [(.t 16), (.t 19)]), mV 8 20])
 (.seq (.ops [mV 21 8, oP 22 (.bin .neq (.t 21) (iC 0))])
 (.cond (.t 22) (.seq (.ops [mV 23 8, oP 6 (.mv (.c (.nils))), mV 7 23])
 .ret) .skip)))
 (.seq (.ops [mV 24 2, oP 25 (.call (fC 104) [(.t 24)]), mV 26 1, oP 27 (.call (fC 104) [(.t 26)]), oP 28 (.bsl false 2 1 [(.t 27)]), oP 29 (.bsl false 2 1 []), oP 30 (.bsl false 27 1 [(.t 29)]), mV 9 25, mV 10 28, mV 11 30])
 (.seq (.ops [oP 31 (.mks 4 1 (.bool false) (iC 32) (iC 32)), mV 12 31])
 (.seq (.ops [mV 32 12, mV 33 10, oP 34 (.idxS 1 (.t 33) (iC 0)), oP 35 (.load false 1 (.t 34)), oP 36 (.idxS 1 (.t 32) (.t 35)), ⟨none, none, .store 1 (.t 36) (.c (.bool true))⟩])
 (.seq (.seq (.ops [oP 13 (.mv (iC 0))])
 (.block 0 (.loop k37_b1)))
 (.seq (.ops [oP 6 (.mv (.c (.nils))), oP 7 (.mv (iC 4))])
 .ret)))))))
theorem e37 : Ent 37 90 [77, 86, 88] [.t 6, .t 7] k37 := ent Tryz.func37 (by kernel_rfl) (by kernel_rfl) (by kernel_rfl) (fun _ => by kernel_rfl) (by kernel_rfl)
end Go.Proofs.YthbbjbfbeaiphaaGreat
namespace Go.Proofs.YthbbjbfbeaiphaaGreat
open Go.Kv
set_option linter.unusedVariables false
set_option linter.unusedSimpArgs false
attribute [local irreducible] ACall PCall KL
theorem p103 (a : List (List Int)) (P Q : List Int) (ha : a.length ≤ 1048576) (h6 : ∀ r ∈ a, r.length = 6) (hP : P.length ≤ 1048576) (hQ : Q.length ≤ 1048576) : Pure Tryz.prog 103 [.list (aggs a), .list (rows [P, Q])] (.int .i64 (wcd a P Q)) := by
 refine e103 (by simp) fun _ _ => ?_
 simp only [k103, argEnv, go_sem]
 refine (p74n a ha h6).go ?_
 try simp only [go_sem]
 refine ⟨fun h1 => ?_, fun h1 => ?_⟩
 ·have hf : fsc a P = lcode a [] := by rw [fsc, if_pos h1]
  exact Kv.Fin.still ⟨by rw [wcd, hf, if_pos h1], rfl⟩
 ·have hv : wcd a P Q = if bad P ((a.getD 0 []).getD 0 0) = true then 2 else if bad Q ((a.getD 0 []).getD 0 0) = true then 2 else 0 := by
   have hf : fsc a P = if bad P ((a.getD 0 []).getD 0 0) = true then 2 else 0 := by rw [fsc, if_neg (by simp [h1])]
   rw [wcd, hf]
   cases bad P ((a.getD 0 []).getD 0 0) <;> simp
  obtain ⟨fs, n, rfl, hf, hl1, hl2, hn, hn1, hn5⟩ := lcode_maps h6 h1
  have h0 : 0 < fs.length := by omega
  have hk := hf _ (List.getElem_mem h0)
  have h6k := hk.mp_len
  rw [hn] at hv
  rw [map_getD h0] at hn
  refine KL_ind k103_b0.eq_1 (fun x : Nat => [(0, .list (aggs (fs.map mp))), (1, .list (rows [P, Q])), (6, .int .i64 x)]) (fun _ => []) (fun x => x ≤ 2 ∧ (1 ≤ x → bad P n = false) ∧ (2 ≤ x → bad Q n = false)) (fun x => 2 - x) [0, 1, 6] 0 (by rfl) rfl ⟨Nat.zero_le _, by omega, by omega⟩ fun x ⟨hx, hx1, hx2⟩ ih => ?_
  have hbad : x < 2 → bad ([P, Q].getD x []) n = true → wcd (fs.map mp) P Q = 2 := fun hx2' hb => by
   rcases x with _ | _ | x
   ·have hb : bad P n = true := hb
    rw [hv, hb]; rfl
   ·have hb : bad Q n = true := hb
    rw [hv, hx1 (by omega), hb]; rfl
   ·omega
  have hgood : x < 2 → bad ([P, Q].getD x []) n = false → (1 ≤ x + 1 → bad P n = false) ∧ (2 ≤ x + 1 → bad Q n = false) := fun hx2' hb => by
   rcases x with _ | _ | x
   ·exact ⟨fun _ => hb, fun h => by omega⟩
   ·exact ⟨fun _ => hx1 (by omega), fun _ => hb⟩
   ·omega
  have hRl : ([P, Q].getD x []).length ≤ 1048576 := by
   rcases x with _ | _ | x
   ·exact hP
   ·exact hQ
   ·simp
  generalize hR : [P, Q].getD x [] = R at *
  try simp only [OpK_eq, map_getD h0, h6k, hn, List.length_map, hR, go_sem]
  refine ⟨fun h2 => ⟨h2, fun _ => ⟨fun h3 => ⟨by omega, fun _ => ⟨h2, fun _ => ?_⟩⟩, fun h3 => ?_⟩⟩, fun h2 => ?_⟩
  ·refine (p153 fs[0] n hk R hRl).pgo ?_
   have hb : bad R n = !stB R n := by rw [bad, decide_eq_false (by omega), Bool.false_or]
   cases hs : stB R n with
   | false =>
    rw [hs] at hb
    have hb2 := hbad (by omega) hb
    try simp only [OpK_eq, HKv, go_sem]
    exact ⟨fun _ => Kv.Fin.still ⟨by rw [hb2], rfl⟩, fun h => absurd h (by decide)⟩
   | true =>
    rw [hs] at hb
    obtain ⟨g1, g2⟩ := hgood (by omega) hb
    try simp only [OpK_eq, HKv, go_sem]
    exact ⟨by omega, ih (x + 1) ⟨by omega, g1, g2⟩ (by omega) _ _ (by simp [keep]) rfl⟩
  ·have hb : bad R n = true := by rw [bad, decide_eq_true (by omega)]; rfl
   exact Kv.Fin.still ⟨by rw [hbad (by omega) hb], rfl⟩
  ·exact Kv.Fin.still ⟨by rw [hv, hx1 (by omega), hx2 (by omega)]; rfl, rfl⟩
theorem advN_pre (fs : List (List Nat)) (bf : List Nat → List Int → List Int) (Q : List Met) (m : Met) : ∀ k, ∃ r, advN fs bf Q m k = Q ++ r
 | 0 => ⟨[], by simp [advN]⟩
 | k + 1 => by
  obtain ⟨r, h⟩ := advN_pre fs bf Q m k
  rw [advN_succ]
  split
  ·exact ⟨r, h⟩
  ·exact ⟨r ++ [(bf (fs.getD k []) m.1, m.2 ++ [(k : Int)])], by rw [h, List.append_assoc]⟩
def Mt (M : List Bool) (L : List Met) : Prop := M.length = 32 ∧ ∀ b, b < 32 → (M.getD b false = true ↔ ∃ x ∈ L, bits x.1 = b)
theorem asc_bits {n : Nat} (hn : n ≤ 5) {p : List Int} (h : asc n p) : bits p < 32 := by
 obtain ⟨l, rfl, _, hl, _⟩ := h
 rw [bits, toNat_map]
 exact sb_lt (n := 5) fun z hz => by have := hl z hz; omega
theorem p37_out (a : List (List Int)) (P Q : List Int) (ha : a.length ≤ 1048576) (h6 : ∀ r ∈ a, r.length = 6) (hP : P.length ≤ 1048576) (hQ : Q.length ≤ 1048576) (hc : wcd a P Q ≠ 0) : Pure Tryz.prog 37 [.list (aggs a), .list (ints P), .list (ints Q)] (.tup [.nils, .int .i64 (wcd a P Q)]) := by
 refine e37 (by simp) fun _ _ => ?_
 simp only [k37, argEnv, go_sem]
 try simp only [OpK_eq, go_sem]
 refine (p103 a P Q ha h6 hP hQ).lend (.cons Imm.still (.cons (Imm.refr (l := [P, Q]) rfl rfl) (.nil _))) ?_
 try simp only [OpK_eq, go_sem]
 refine ⟨fun h1 => Kv.Fin.still ⟨rfl, rfl⟩, fun h1 => absurd h1 hc⟩
theorem p37_in (fs : List (List Nat)) (n : Nat) (hf : ∀ f ∈ fs, Ok f n) (h0 : 0 < fs.length) (hfl : fs.length ≤ 6) (hn5 : n ≤ 5) (P Q : List Int) (hc : wcd (fs.map mp) P Q = 0) (haP : asc n P) (haQ : asc n Q) (K : PV → Heap → Prop)
  (hK1 : ∀ i (h : i < (wq fs P i).length), (wq fs P i)[i].1 = Q → (∀ j (h : j < (wq fs P j).length), j < i → (wq fs P j)[j].1 ≠ Q) → K (.tup [.list (ints (wq fs P i)[i].2), .int .i64 0]) [])
  (hK2 : ∀ i, i = (wq fs P i).length → (∀ j (h : j < (wq fs P j).length), j < i → (wq fs P j)[j].1 ≠ Q) → K (.tup [.nils, .int .i64 4]) []) : ACall Tryz.prog 37 [.list (aggs (fs.map mp)), .list (ints P), .list (ints Q)] [] K := by
 have hPl := asc_len haP
 have hQl := asc_len haQ
 have hm6 : ∀ r ∈ fs.map mp, r.length = 6 := fun r hr => by obtain ⟨f, hf', rfl⟩ := List.mem_map.1 hr; exact (hf f hf').mp_len
 have hbP := p104 (P.map Int.toNat) (fun x hx => ?_) (by simp; omega)
 have hbQ := p104 (Q.map Int.toNat) (fun x hx => ?_) (by simp; omega)
 rotate_left
 ·obtain ⟨l, rfl, _, hl, _⟩ := haQ
  rw [toNat_map] at hx; have := hl x hx; omega
 ·obtain ⟨l, rfl, _, hl, _⟩ := haP
  rw [toNat_map] at hx; have := hl x hx; omega
 have eP : (P.map Int.toNat).map (fun x : Nat => (x : Int)) = P := by obtain ⟨l, rfl, _⟩ := haP; rw [toNat_map]
 have eQ : (Q.map Int.toNat).map (fun x : Nat => (x : Int)) = Q := by obtain ⟨l, rfl, _⟩ := haQ; rw [toNat_map]
 rw [eP] at hbP
 rw [eQ] at hbQ
 refine e37 (by simp) fun _ _ => ?_
 simp only [k37, argEnv, go_sem]
 try simp only [OpK_eq, go_sem]
 refine (p103 _ P Q (by simp; omega) hm6 (by omega) (by omega)).lend (.cons Imm.still (.cons (Imm.refr (l := [P, Q]) rfl rfl) (.nil _))) ?_
 rw [hc]
 try simp only [OpK_eq, go_sem]
 refine hbQ.go ?_
 try simp only [OpK_eq, go_sem]
 refine hbP.go ?_
 have hbP32 := asc_bits hn5 haP
 try simp only [OpK_eq, go_sem]
 have h32 : (List.replicate (Int.toNat 32) (PV.bool false)) = bls (List.replicate 32 false) := by simp [bls]
 have hPb : sb (P.map Int.toNat) = bits P := rfl
 have hQb : sb (Q.map Int.toNat) = bits Q := rfl
 rw [hPb, hQb, h32]
 have h32' : Int.toNat 32 = 32 := rfl
 have hput : ∀ b y, putE (.bool b) 0 y = y := fun b y => rfl
 refine ⟨⟨by omega, by simp⟩, by simp; omega, fun x hx => ?_⟩
 rw [bls_get (by simp; omega)] at hx; cases hx
 rw [hput, bls_set, h32']
 refine ⟨by simp [PV.cs], ?_⟩
 have hwi := wq_inv hf haP
 have hwl := wq_len hn5 hf haP
 have hS0 : wq fs P 0 = [((P, []) : Met)] := rfl
 have hSs : ∀ i (h : i < (wq fs P i).length), wq fs P (i + 1) = advN fs img (wq fs P i) (wq fs P i)[i] fs.length := fun i h => congrArg Prod.fst (bq_succ h)
 generalize hSe : wq fs P = S at *
 refine KL_ind k37_b1.eq_1 (fun x : Nat × Nat × Nat × List PV × List Bool × Heap => [(0, .list (aggs (fs.map mp))), (9, .int .i64 (bits Q)), (10, .ref 1 x.2.1 0 (S x.1).length), (11, .ref 3 x.2.2.1 0 (S x.1).length), (12, .ref 4 0 0 32), (13, .int .i64 x.1)]) (fun x => x.2.2.2.2.2)
  (fun x => x.1 ≤ (S x.1).length ∧ (∀ j (h : j < (S j).length), j < x.1 → (S j)[j].1 ≠ Q) ∧ x.2.2.2.2.2[1]? = some (.arr x.2.1 2 1 (ints ((S x.1).map fun m => (bits m.1 : Int)))) ∧ x.2.2.2.2.2[4]? = some (.arr 0 4 1 (bls x.2.2.2.2.1)) ∧ Mt x.2.2.2.2.1 (S x.1) ∧ WG x.2.2.2.2.2 (fun id => id = 1 ∨ id = 4) 3 x.2.2.1 x.2.2.2.1 ((S x.1).map Prod.snd) ∧ (∀ m ∈ S x.1, m.2.length + 1 ≤ (S x.1).length)) (fun x => 33 - x.1) [0, 9, 10, 11, 12, 13]
  (0, 0, 0, [.ref 2 0 0 0], (List.replicate 32 false).set (bits P) true, _) (by simp [keep, hS0]) rfl ⟨Nat.zero_le _, fun j _ h => by omega, ?_, rfl, ?_, ?_, ?_⟩ fun ⟨i, v1, v3, ws, M, σ⟩ ⟨hi, hno, h1, h4, hM, hW, hwd⟩ ih => ?_
 ·show _ = some (AObj.arr 0 2 1 (ints ((S 0).map fun m => (bits m.1 : Int))))
  rw [hS0]; rfl
 ·show Mt _ (S 0)
  rw [hS0]
  refine ⟨by simp, fun b hb => ?_⟩
  simp only [List.getD_eq_getElem?_getD, List.getElem?_set, List.length_replicate]
  by_cases e : bits P = b
  ·rw [if_pos e, if_pos (by omega)]; simp [e]
  ·rw [if_neg e, List.getElem?_replicate, if_pos hb]; simp [e]
 ·show WG _ _ 3 0 _ ((S 0).map Prod.snd)
  rw [hS0]
  refine ⟨rfl, rfl, fun j w l hw hl => ?_⟩
  have e1 := List.mem_of_getElem? hw
  have e2 := List.mem_of_getElem? hl
  simp only [List.mem_singleton, List.map_cons, List.map_nil] at e1 e2
  subst e1; subst e2
  exact .inr ⟨2, 0, rfl, rfl, by decide⟩
 ·intro m hm
  have hm : m ∈ S 0 := hm
  show _ ≤ (S 0).length
  rw [hS0] at hm ⊢
  simp only [List.mem_singleton] at hm
  subst hm; simp
 simp only at hi hno h1 h4 hM hW hwd
 have hli := hwl i
 obtain ⟨hasc, hnd⟩ := hwi i
 try simp only [OpK_eq, h1, List.length_map, go_sem]
 refine ⟨fun h2 => ?_, fun h2 => ?_⟩
 ·have hil : i < (S i).length := by omega
  have hSi := hSs i hil
  have ham := hasc _ (List.getElem_mem hil)
  have hmd := hwd _ (List.getElem_mem hil)
  have hgs : ((S i).map fun m => (bits m.1 : Int)).getD i 0 = (bits (S i)[i].1 : Int) := by simp [List.getD_eq_getElem?_getD, hil]
  obtain ⟨w, hw, hWd⟩ := hW.cell (i := i) (by rw [List.length_map]; exact hil)
  rw [List.getElem_map] at hWd
  rw [hgs]
  generalize hm : (S i)[i] = m at *
  have h3 := hW.out
  have hwsl := hW.len
  rw [List.length_map] at hwsl
  refine ⟨⟨h2, Nat.le_refl _⟩, hil, fun _ => ⟨fun h5 => ?_, fun h5 => ?_⟩⟩
  ·have hmQ : m.1 = Q := (bits_inj ham haQ).1 (by omega)
   have hK := hK1 i hil (by rw [hm]; exact hmQ) hno
   rw [hm] at hK
   clear ih hK1 hK2
   have hwcs := hWd.cs
   try simp only [OpK_eq, HKv, h3, go_sem]
   refine ⟨⟨h2, by omega⟩, by omega, fun q hq => ?_⟩
   rw [hw] at hq; cases hq
   rw [hwcs.1]
   refine ⟨by simp, fun q hq => ?_⟩
   simp only [List.getElem?_cons_zero, Option.some.injEq] at hq; subst hq
   try simp only [OpK_eq, HKv, go_sem]
   exact Kv.Fin.freeze (Imm.tupL (.cons hWd.imm (.cons (.int _ _ _) (.nil _)))) hK
  ·have hmQ : m.1 ≠ Q := fun e => h5 (by rw [e])
   have hno' : ∀ j (h : j < (S j).length), j < i + 1 → (S j)[j].1 ≠ Q := fun j h hj => by
    by_cases e : j = i
    ·subst e; rw [hm]; exact hmQ
    ·exact hno j h (by omega)
   clear hK1 hK2 hno
   have hadv : ∀ k, k ≤ fs.length → _ := fun k hk => advN_inv hf hasc hnd ham k hk
   have hadvB : ∀ k, k ≤ fs.length → (advN fs img (S i) m k).length ≤ 32 := fun k hk => by
    have e1 := advN_mono fs img (S i) m hk
    have e2 := hwl (i + 1)
    rw [hSi] at e2
    exact Nat.le_trans e1 e2
   refine KL_ind k37_b0.eq_1 (fun x : Nat × Nat × Nat × List PV × List Bool × Heap => [(0, .list (aggs (fs.map mp))), (9, .int .i64 (bits Q)), (10, .ref 1 x.2.1 0 (advN fs img (S i) m x.1).length), (11, .ref 3 x.2.2.1 0 (advN fs img (S i) m x.1).length), (12, .ref 4 0 0 32), (13, .int .i64 i), (14, .int .i64 x.1)]) (fun x => x.2.2.2.2.2)
    (fun x => x.1 ≤ fs.length ∧ x.2.2.2.2.2[1]? = some (.arr x.2.1 2 1 (ints ((advN fs img (S i) m x.1).map fun m => (bits m.1 : Int)))) ∧ x.2.2.2.2.2[4]? = some (.arr 0 4 1 (bls x.2.2.2.2.1)) ∧ Mt x.2.2.2.2.1 (advN fs img (S i) m x.1) ∧ WG x.2.2.2.2.2 (fun id => id = 1 ∨ id = 4) 3 x.2.2.1 x.2.2.2.1 ((advN fs img (S i) m x.1).map Prod.snd) ∧ (∀ y ∈ advN fs img (S i) m x.1, y.2.length + 1 ≤ (advN fs img (S i) m x.1).length)) (fun x => fs.length - x.1) [0, 9, 10, 11, 12, 13, 14]
    (0, v1, v3, ws, M, σ) (by rfl) rfl ⟨Nat.zero_le _, h1, h4, hM, hW, hwd⟩ fun ⟨k, u1, u3, ws2, N, τ⟩ ⟨hk, g1, g4, gM, gW, gwd⟩ ihk => ?_
   simp only at hk g1 g4 gM gW gwd
   clear h1 h4 hM hW hwd h3 hwsl hw hWd
   obtain ⟨gasc, gnd⟩ := hadv k hk
   have hsucc := advN_succ fs img (S i) m k
   have hlenB := hadvB k hk
   obtain ⟨r, hpre⟩ := advN_pre fs img (S i) m k
   generalize hL : advN fs img (S i) m k = L at *
   have hiL : i < L.length := by rw [hpre, List.length_append]; omega
   have hLi : L[i] = m := by
    have : L[i]? = some m := by rw [hpre, List.getElem?_append_left hil, List.getElem?_eq_getElem hil, hm]
    rw [List.getElem?_eq_getElem hiL] at this
    exact Option.some.inj this
   have hgs : (L.map fun m => (bits m.1 : Int)).getD i 0 = (bits m.1 : Int) := by simp [List.getD_eq_getElem?_getD, hiL, hLi]
   try simp only [OpK_eq, List.length_map, go_sem]
   refine ⟨fun h6 => ?_, fun h6 => ?_⟩
   ·have hkl : k < fs.length := by omega
    have hfk := hf _ (List.getElem_mem hkl)
    have h6k := hfk.mp_len
    have hgk : (fs.map mp).getD k [] = mp fs[k] := by simp [List.getD_eq_getElem?_getD, hkl]
    rw [hgk]
    try simp only [OpK_eq, h6k, g1, List.length_map, hgs, HKv, go_sem]
    have hgf : fs.getD k [] = fs[k] := by simp [List.getD_eq_getElem?_getD, hkl]
    rw [hgf] at hsucc
    have hima := img_asc hfk ham
    have hmv : Pure Tryz.prog 95 [.agg (ints (mp fs[k])), .int .i64 (bits m.1)] (.int .i64 (bits (img fs[k] m.1))) := by
     rw [bits_img ham]
     exact p95 fs[k] n hfk _ (by
      obtain ⟨l, e, _, hl, _⟩ := ham
      rw [e, toNat_map]; exact hl)
    have hb32 := asc_bits hn5 hima
    refine ⟨h6, fun _ => ⟨⟨by omega, Nat.le_refl _⟩, hiL, fun _ => ?_⟩⟩
    refine hmv.pgo ?_
    generalize hnxe : img fs[k] m.1 = nxp at *
    have hany : L.any (fun x => decide (x.1 = nxp)) = N.getD (bits nxp) false := by
     rw [Bool.eq_iff_iff, gM.2 _ hb32, List.any_eq_true]
     constructor
     ·rintro ⟨y, hy, e⟩
      exact ⟨y, hy, by rw [of_decide_eq_true e]⟩
     ·rintro ⟨y, hy, e⟩
      exact ⟨y, hy, decide_eq_true ((bits_inj (gasc y hy) hima).1 e)⟩
    rw [hany] at hsucc
    have hNl := gM.1
    try simp only [OpK_eq, HKv, g4, go_sem]
    refine ⟨⟨by omega, by simp [hNl]⟩, by rw [bls_length, hNl]; exact hb32, fun q hq => ?_⟩
    rw [bls_get (by rw [hNl]; exact hb32)] at hq; cases hq
    refine ⟨by simp [PV.cs], fun q hq => ?_⟩
    simp only [PV.cs, List.getElem?_cons_zero, Option.some.injEq] at hq; subst hq
    cases hNb : N.getD (bits nxp) false with
    | true =>
     rw [hNb, if_pos rfl] at hsucc
     try simp only [OpK_eq, HKv, go_sem]
     refine ⟨by omega, ihk (k + 1, u1, u3, ws2, N, τ) ⟨by show k + 1 ≤ fs.length; omega, ?_, g4, ?_, ?_, ?_⟩ (by show fs.length - (k + 1) < fs.length - k; omega) _ _ (by simp [keep, hsucc]) rfl⟩
     ·show _ = some (AObj.arr u1 2 1 (ints ((advN fs img (S i) m (k + 1)).map fun m => (bits m.1 : Int))))
      rw [hsucc]; exact g1
     ·show Mt N (advN fs img (S i) m (k + 1))
      rw [hsucc]; exact gM
     ·show WG τ _ 3 u3 ws2 ((advN fs img (S i) m (k + 1)).map Prod.snd)
      rw [hsucc]; exact gW
     ·show ∀ y ∈ advN fs img (S i) m (k + 1), y.2.length + 1 ≤ (advN fs img (S i) m (k + 1)).length
      rw [hsucc]; exact gwd
    | false =>
     rw [hNb, if_neg (by simp)] at hsucc
     have hlenB1 := hadvB (k + 1) (by omega)
     rw [hsucc, List.length_append, List.length_singleton] at hlenB1
     obtain ⟨w, hw, hWd⟩ := gW.cell (i := i) (by rw [List.length_map]; exact hiL)
     rw [List.getElem_map, hLi] at hWd
     have hwcs := hWd.cs
     have g3 := gW.out
     have gwl := gW.len
     rw [List.length_map] at gwl
     have lt4 := (List.getElem?_eq_some_iff.1 g4).1
     have hs4 : ∀ o, (τ.set 4 o)[1]? = τ[1]? := fun o => List.getElem?_set_ne (by decide)
     have hs43 : ∀ o, (τ.set 4 o)[3]? = τ[3]? := fun o => List.getElem?_set_ne (by decide)
     try simp only [OpK_eq, HKv, g4, go_sem]
     refine ⟨⟨by omega, by simp [hNl]⟩, by rw [bls_length, hNl]; exact hb32, fun q hq => ?_⟩
     rw [bls_get (by rw [hNl]; exact hb32)] at hq; cases hq
     rw [hput, bls_set]
     refine ⟨by simp [PV.cs], ?_⟩
     have hM2 : Mt (N.set (bits nxp) true) (L ++ [(nxp, m.2 ++ [(k : Int)])]) := by
      refine ⟨by simp [hNl], fun b hb => ?_⟩
      have hgd : (N.set (bits nxp) true).getD b false = if bits nxp = b then true else N.getD b false := by
       simp only [List.getD_eq_getElem?_getD, List.getElem?_set]
       by_cases ee : bits nxp = b
       ·rw [if_pos ee, if_pos ee, if_pos (by omega)]; rfl
       ·rw [if_neg ee, if_neg ee]
      rw [hgd]
      by_cases ee : bits nxp = b
      ·rw [if_pos ee]
       exact ⟨fun _ => ⟨_, List.mem_append.2 (.inr (List.mem_singleton.2 rfl)), ee⟩, fun _ => rfl⟩
      ·rw [if_neg ee, gM.2 b hb]
       constructor
       ·rintro ⟨y, hy, e⟩; exact ⟨y, List.mem_append.2 (.inl hy), e⟩
       ·rintro ⟨y, hy, e⟩
        rcases List.mem_append.1 hy with hy | hy
        ·exact ⟨y, hy, e⟩
        ·simp only [List.mem_singleton] at hy; subst hy; exact absurd e ee
     generalize N.set (bits nxp) true = N2 at *
     have hW4 := gW.keep (σ' := τ.set 4 (.arr 0 4 1 (bls N2))) (fun id _ hA => List.getElem?_set_ne (by rintro rfl; exact hA (.inr rfl))) (by decide)
     have h44 : (τ.set 4 (.arr 0 4 1 (bls N2)))[4]? = some (.arr 0 4 1 (bls N2)) := List.getElem?_set_self lt4
     have h41 := (hs4 (.arr 0 4 1 (bls N2))).trans g1
     generalize τ.set 4 (.arr 0 4 1 (bls N2)) = ρ at *
     clear hs4 hs43 g1 g4 g3 gW gM lt4
     try simp only [OpK_eq, HKv, h41, List.length_map, go_sem]
     refine ⟨⟨Nat.le_refl _, by omega⟩, ?_⟩
     rw [List.take_of_length_le (by simp)]
     have lt1 := (List.getElem?_eq_some_iff.1 h41).1
     have hs14 : ∀ o, (ρ.set 1 o)[4]? = some (.arr 0 4 1 (bls N2)) := fun o => (List.getElem?_set_ne (by decide)).trans h44
     have hs11 : ∀ o, (ρ.set 1 o)[1]? = some o := fun o => List.getElem?_set_self lt1
     have hW5 := fun o => hW4.keep (σ' := ρ.set 1 o) (fun id _ hA => List.getElem?_set_ne (by rintro rfl; exact hA (.inl rfl))) (by decide)
     have hb1 : (L.map fun m => (bits m.1 : Int)) ++ [(bits nxp : Int)] = (L ++ [(nxp, m.2 ++ [(k : Int)])]).map fun m => (bits m.1 : Int) := by simp
     rw [hb1]
     have h5 := hs14 (.arr (u1 + 1) 2 1 (ints ((L ++ [(nxp, m.2 ++ [(k : Int)])]).map fun m => (bits m.1 : Int))))
     have h6' := hs11 (.arr (u1 + 1) 2 1 (ints ((L ++ [(nxp, m.2 ++ [(k : Int)])]).map fun m => (bits m.1 : Int))))
     have hW6 := hW5 (.arr (u1 + 1) 2 1 (ints ((L ++ [(nxp, m.2 ++ [(k : Int)])]).map fun m => (bits m.1 : Int))))
     generalize ρ.set 1 (.arr (u1 + 1) 2 1 (ints ((L ++ [(nxp, m.2 ++ [(k : Int)])]).map fun m => (bits m.1 : Int)))) = χ at *
     clear hs14 hs11 hW5 hb1 h41 h44 hW4 lt1
     have h7 := hW6.out
     obtain ⟨w', hw', hWd'⟩ := hW6.cell (i := i) (by rw [List.length_map]; exact hiL)
     rw [List.getElem_map, hLi] at hWd'
     rw [hw] at hw'; cases hw'
     have lt1 := (List.getElem?_eq_some_iff.1 h6').1
     have lt4 := (List.getElem?_eq_some_iff.1 h5).1
     have lt3 := (List.getElem?_eq_some_iff.1 h7).1
     have hml := gwd m (by rw [← hLi]; exact List.getElem_mem hiL)
     try simp only [OpK_eq, HKv, h7, go_sem]
     refine ⟨⟨by omega, by omega⟩, by omega, fun q hq => ?_⟩
     rw [hw] at hq; cases hq
     rw [hwcs.1]
     refine ⟨by simp, fun q hq => ?_⟩
     simp only [List.getElem?_cons_zero, Option.some.injEq] at hq; subst hq
     try simp only [OpK_eq, HKv, go_sem]
     refine ACall.lend (p105 m.2 (by omega)) (.cons hWd'.imm (.nil _)) fun v s ⟨hv, hs⟩ => ?_
     subst hv; subst hs
     refine ⟨⟨free_ref _ _ _ _, Free.ints _ _ _ _⟩, ?_⟩
     have ht0 : ∀ (x : AObj), (χ ++ [x])[χ.length]? = some x := fun x => by simp
     have hs0 : ∀ (x y : AObj), (χ ++ [x]).set χ.length y = χ ++ [y] := fun x y => by
      rw [List.set_append_right _ _ (Nat.le_refl _)]; simp
     generalize hvq : PV.ref 3 u3 0 L.length = vq at *
     try simp only [OpK_eq, HKv, ht0, hs0, ren_ref, go_sem]
     subst hvq
     refine ⟨⟨Nat.le_refl _, by omega⟩, ?_⟩
     have hW7 := fun x => hW6.keep (σ' := χ ++ [x]) (fun id hid _ => List.getElem?_append_left hid) (by decide)
     have hwd1 : Wd (χ ++ [.arr 2 2 1 (ints (m.2 ++ [(k : Int)]))]) (fun id => (id = 1 ∨ id = 4) ∨ id = 3) (.ref χ.length 2 0 (m.2.length + 1)) (m.2 ++ [(k : Int)]) := by
      refine .inr ⟨_, 2, by simp, ht0 _, fun h => ?_⟩
      rcases h with (h | h) | h <;> omega
     have hpush := fun K' => (hW7 (.arr 2 2 1 (ints (m.2 ++ [(k : Int)])))).push (K := K') hwd1 (by rw [List.length_map]; omega)
     simp only [List.length_map] at hpush
     refine hpush _ fun hW8 => ?_
     try simp only [OpK_eq, HKv, go_sem]
     refine ⟨by omega, ihk (k + 1, u1 + 1, u3 + 1, ws2 ++ [.ref χ.length 2 0 (m.2.length + 1)], N2, _) ⟨by show k + 1 ≤ fs.length; omega, ?_, ?_, ?_, ?_, ?_⟩ (by show fs.length - (k + 1) < fs.length - k; omega) _ _ (by simp [keep, hsucc]) rfl⟩
     ·show _ = some (AObj.arr (u1 + 1) 2 1 (ints ((advN fs img (S i) m (k + 1)).map fun m => (bits m.1 : Int))))
      rw [hsucc, List.getElem?_set_ne (by decide), List.getElem?_append_left lt1]; exact h6'
     ·show _ = some (AObj.arr 0 4 1 (bls N2))
      rw [List.getElem?_set_ne (by decide), List.getElem?_append_left lt4]; exact h5
     ·show Mt N2 (advN fs img (S i) m (k + 1))
      rw [hsucc]; exact hM2
     ·show WG _ _ 3 (u3 + 1) _ ((advN fs img (S i) m (k + 1)).map Prod.snd)
      rw [hsucc, List.map_append]; exact hW8
     ·show ∀ y ∈ advN fs img (S i) m (k + 1), y.2.length + 1 ≤ (advN fs img (S i) m (k + 1)).length
      rw [hsucc]
      intro y hy
      rw [List.length_append, List.length_singleton]
      rcases List.mem_append.1 hy with hy | hy
      ·have := gwd y hy; omega
      ·simp only [List.mem_singleton] at hy; subst hy
       simp only [List.length_append, List.length_singleton]
       omega
   ·have hke : k = fs.length := by omega
    subst hke
    try simp only [go_sem]
    refine ⟨by omega, ih (i + 1, u1, u3, ws2, N, τ) ⟨?_, hno', ?_, g4, ?_, ?_, ?_⟩ (by show 33 - (i + 1) < 33 - i; omega) _ _ ?_ rfl⟩
    ·show i + 1 ≤ (S (i + 1)).length
     rw [hSi, hL]; omega
    ·show _ = some (AObj.arr u1 2 1 (ints ((S (i + 1)).map fun m => (bits m.1 : Int))))
     rw [hSi, hL]; exact g1
    ·show Mt N (S (i + 1))
     rw [hSi, hL]; exact gM
    ·show WG τ _ 3 u3 ws2 ((S (i + 1)).map Prod.snd)
     rw [hSi, hL]; exact gW
    ·show ∀ m ∈ S (i + 1), m.2.length + 1 ≤ (S (i + 1)).length
     rw [hSi, hL]; exact gwd
    ·simp [keep, hSi, hL]
 ·have hie : i = (S i).length := by omega
  have hK := hK2 i hie hno
  exact Kv.Fin.still hK
end Go.Proofs.YthbbjbfbeaiphaaGreat
end
section
namespace Go.Proofs.YthbbjbfbeaiphaaGreat
open Go.Kv
set_option maxRecDepth 100000
def k39 : KC := (.seq (.ops [oP 4 (.mv (.c (.nils))), oP 5 (.mv (iC 0))])
 (.seq (.seq (.ops [mV 7 0, mV 8 1, oP 9 (.call (fC 99) [(.t 7), (.t 8)]), mV 6 9])
 (.seq (.ops [mV 10 6, oP 11 (.bin .neq (.t 10) (iC 0))])
 (.cond (.t 11) (.seq (.ops [mV 12 6, oP 4 (.mv (.c (.nils))), mV 5 12])
 .ret) .skip)))
 (.seq (.ops [mV 13 0, mV 14 1, oP 15 (.call (fC 106) [(.t 13), (.t 14)]), mV 4 15, oP 5 (.mv (iC 0))])
 .ret)))
theorem e39 : Ent 39 16 [] [.t 4, .t 5] k39 := ent Tryz.func39 (by kernel_rfl) (by kernel_rfl) (by kernel_rfl) (fun _ => by kernel_rfl) (by kernel_rfl)
def k40 : KC := (.seq (.ops [oP 4 (.mv (.c (.nils))), oP 5 (.mv (iC 0))])
 (.seq (.seq (.ops [mV 7 0, mV 8 1, oP 9 (.bsl false 27 1 [(.t 8)]), oP 10 (.call (fC 103) [(.t 7), (.t 9)]), mV 6 10])
 (.seq (.ops [mV 11 6, oP 12 (.bin .neq (.t 11) (iC 0))])
 (.cond (.t 12) (.seq (.ops [mV 13 6, oP 4 (.mv (.c (.nils))), mV 5 13])
 .ret) .skip)))
 (.seq (.ops [mV 14 0, mV 15 1, oP 16 (.call (fC 104) [(.t 15)]), oP 17 (.call (fC 107) [(.t 14), (.t 16)]), oP 18 (.call (fC 97) [(.t 17)]), mV 4 18, oP 5 (.mv (iC 0))])
 .ret)))
theorem e40 : Ent 40 19 [] [.t 4, .t 5] k40 := ent Tryz.func40 (by kernel_rfl) (by kernel_rfl) (by kernel_rfl) (fun _ => by kernel_rfl) (by kernel_rfl)
end Go.Proofs.YthbbjbfbeaiphaaGreat
namespace Go.Proofs.YthbbjbfbeaiphaaGreat
open Go.Kv
set_option linter.unusedVariables false
set_option linter.unusedSimpArgs false
attribute [local irreducible] ACall PCall KL
theorem asc_bitsY {n : Nat} (h5 : n ≤ 5) {P : List Int} (h : asc n P) : 1 ≤ bits P ∧ bits P < 2 ^ n ∧ P = nz (pof (bits P) n) := by
 obtain ⟨l, rfl, h0, hl, hp⟩ := h
 have hb : bits (l.map fun x : Nat => (x : Int)) = sb l := by unfold bits; rw [toNat_map]
 rw [hb]
 have hlt : sb l < 2 ^ n := sb_lt hl
 have h1 : 1 ≤ sb l := by
  cases l with
  | nil => exact absurd rfl h0
  | cons a l =>
   refine Nat.one_le_iff_ne_zero.2 fun hz => ?_
   have := sb_test (a :: l) a
   rw [hz, Nat.zero_testBit] at this
   simp at this
 refine ⟨h1, hlt, ?_⟩
 have ha : asc n (l.map fun x : Nat => (x : Int)) := ⟨l, rfl, h0, hl, hp⟩
 refine (bits_inj ha (asc_pof h1 hlt)).1 ?_
 rw [hb, bits, nz, toNat_map, pof_lt hlt]
theorem p39_in (fs : List (List Nat)) (n : Nat) (hf : ∀ f ∈ fs, Ok f n) (h0 : 0 < fs.length) (hfl : fs.length ≤ 6) (hl : lcode (fs.map mp) [] = 0) (P : List Int) (hP : bad P n = false) :
  NewTO Tryz.prog 39 [.list (aggs (fs.map mp)), .list (ints P)] 27 2 (rowsB (imS fs n (bits P))) 0 := by
 have hk := hf _ (List.getElem_mem h0)
 have h6k := hk.mp_len
 have h5 := hk.le
 have haP := bad_asc hP
 have hPl := asc_len haP
 obtain ⟨hb1, hb2, hb3⟩ := asc_bitsY h5 haP
 have hc : fsc (fs.map mp) P = 0 := by
  rw [fsc, if_neg (by simp [hl]), map_getD h0]
  have : (mp fs[0]).getD 0 0 = (n : Int) := by simp [mp, mpN, hk.len]
  rw [this, hP]; rfl
 have hI := p106 fs n h5 hf (by omega) (bits P) hb1 hb2
 rw [← hb3] at hI
 refine NewTN.own ?_
 unfold NewTN
 refine e39 (by simp) fun _ _ => ?_
 simp only [k39, argEnv, go_sem]
 refine (p99 _ P (by simp; omega) (fun r hr => by obtain ⟨f, hf', rfl⟩ := List.mem_map.1 hr; exact (hf f hf').mp_len) (by omega)).go ?_
 rw [hc]
 try simp only [OpK_eq, HKv, go_sem]
 refine hI.mono fun v s ⟨q1, q2⟩ => ?_
 try simp only [OpK_eq, HKv, go_sem]
 exact Kv.Fin.now ⟨v, rfl, q1, q2⟩
theorem p39_out (a : List (List Int)) (P : List Int) (ha : a.length ≤ 1048576) (h6 : ∀ r ∈ a, r.length = 6) (hP : P.length ≤ 1048576) (hc : fsc a P ≠ 0) : Pure Tryz.prog 39 [.list (aggs a), .list (ints P)] (.tup [.nils, .int .i64 (fsc a P)]) := by
 refine e39 (by simp) fun _ _ => ?_
 simp only [k39, argEnv, go_sem]
 refine (p99 a P ha h6 hP).go ?_
 try simp only [OpK_eq, HKv, go_sem]
 exact ⟨fun h1 => Kv.Fin.still ⟨rfl, rfl⟩, fun h1 => absurd h1 hc⟩
theorem p1031 (a : List (List Int)) (P : List Int) (ha : a.length ≤ 1048576) (h6 : ∀ r ∈ a, r.length = 6) (hP : P.length ≤ 1048576) : Pure Tryz.prog 103 [.list (aggs a), .list (rows [P])] (.int .i64 (fsc a P)) := by
 refine e103 (by simp) fun _ _ => ?_
 simp only [k103, argEnv, go_sem]
 refine (p74n a ha h6).go ?_
 try simp only [go_sem]
 refine ⟨fun h1 => ?_, fun h1 => ?_⟩
 ·have hf : fsc a P = lcode a [] := by rw [fsc, if_pos h1]
  exact Kv.Fin.still ⟨by rw [hf], rfl⟩
 ·have hv : fsc a P = if bad P ((a.getD 0 []).getD 0 0) = true then 2 else 0 := by rw [fsc, if_neg (by simp [h1])]
  obtain ⟨fs, n, rfl, hf, hl1, hl2, hn, hn1, hn5⟩ := lcode_maps h6 h1
  have h0 : 0 < fs.length := by omega
  have hk := hf _ (List.getElem_mem h0)
  have h6k := hk.mp_len
  rw [hn] at hv
  rw [map_getD h0] at hn
  refine KL_ind k103_b0.eq_1 (fun x : Nat => [(0, .list (aggs (fs.map mp))), (1, .list (rows [P])), (6, .int .i64 x)]) (fun _ => []) (fun x => x ≤ 1 ∧ (1 ≤ x → bad P n = false)) (fun x => 1 - x) [0, 1, 6] 0 (by rfl) rfl ⟨Nat.zero_le _, by omega⟩ fun x ⟨hx, hx1⟩ ih => ?_
  try simp only [OpK_eq, map_getD h0, h6k, hn, List.length_map, go_sem]
  refine ⟨fun h2 => ?_, fun h2 => ?_⟩
  ·obtain rfl : x = 0 := by omega
   have hR : [P].getD 0 [] = P := rfl
   try simp only [OpK_eq, map_getD h0, h6k, hn, List.length_map, hR, go_sem]
   refine ⟨fun h3 => ⟨by omega, fun _ => ?_⟩, fun h3 => ?_⟩
   ·refine (p153 fs[0] n hk P hP).pgo ?_
    have hb : bad P n = !stB P n := by rw [bad, decide_eq_false (by omega), Bool.false_or]
    cases hs : stB P n with
    | false =>
     rw [hs] at hb
     rw [hb] at hv
     try simp only [OpK_eq, HKv, go_sem]
     exact ⟨fun _ => Kv.Fin.still ⟨by rw [hv]; rfl, rfl⟩, fun h => absurd h (by decide)⟩
    | true =>
     rw [hs] at hb
     try simp only [OpK_eq, HKv, go_sem]
     exact ⟨by omega, ih 1 ⟨by omega, fun _ => hb⟩ (by omega) _ _ (by simp [keep]) rfl⟩
   ·have hb : bad P n = true := by rw [bad, decide_eq_true (by omega)]; rfl
    rw [hb] at hv
    exact Kv.Fin.still ⟨by rw [hv]; rfl, rfl⟩
  ·rw [hx1 (by omega)] at hv
   exact Kv.Fin.still ⟨by rw [hv]; rfl, rfl⟩
theorem p40_out (a : List (List Int)) (P : List Int) (ha : a.length ≤ 1048576) (h6 : ∀ r ∈ a, r.length = 6) (hP : P.length ≤ 1048576) (hc : fsc a P ≠ 0) : Pure Tryz.prog 40 [.list (aggs a), .list (ints P)] (.tup [.nils, .int .i64 (fsc a P)]) := by
 refine e40 (by simp) fun _ _ => ?_
 simp only [k40, argEnv, go_sem]
 try simp only [OpK_eq, go_sem]
 refine (p1031 a P ha h6 hP).lend (.cons Imm.still (.cons (Imm.refr (l := [P]) rfl rfl) (.nil _))) ?_
 try simp only [OpK_eq, HKv, go_sem]
 refine ⟨fun h1 => Kv.Fin.still ⟨rfl, rfl⟩, fun h1 => absurd h1 hc⟩
theorem p40_in (fs : List (List Nat)) (n : Nat) (hf : ∀ f ∈ fs, Ok f n) (h0 : 0 < fs.length) (hfl : fs.length ≤ 6) (hl : lcode (fs.map mp) [] = 0) (P : List Int) (hP : bad P n = false) : Pure Tryz.prog 40 [.list (aggs (fs.map mp)), .list (ints P)] (.tup [.list (rows (rowsB (imS fs n (bits P)))), .int .i64 0]) := by
 have hk := hf _ (List.getElem_mem h0)
 have h6k := hk.mp_len
 have h5 := hk.le
 have haP := bad_asc hP
 have hPl := asc_len haP
 obtain ⟨hb1, hb2, hb3⟩ := asc_bitsY h5 haP
 have hm6 : ∀ r ∈ fs.map mp, r.length = 6 := fun r hr => by obtain ⟨f, hf', rfl⟩ := List.mem_map.1 hr; exact (hf f hf').mp_len
 have hc : fsc (fs.map mp) P = 0 := by
  rw [fsc, if_neg (by simp [hl]), map_getD h0]
  have : (mp fs[0]).getD 0 0 = (n : Int) := by simp [mp, mpN, hk.len]
  rw [this, hP]; rfl
 have hbP := p104 (P.map Int.toNat) (fun x hx => ?_) (by simp; omega)
 rotate_left
 ·obtain ⟨l, rfl, _, hl, _⟩ := haP
  rw [toNat_map] at hx; have := hl x hx; omega
 have eP : (P.map Int.toNat).map (fun x : Nat => (x : Int)) = P := by obtain ⟨l, rfl, _⟩ := haP; rw [toNat_map]
 rw [eP] at hbP
 have ebP : sb (P.map Int.toNat) = bits P := rfl
 rw [ebP] at hbP
 have hS := imS_srt (fs := fs) (x := bits P) h5
 have hSl := srt_len5 hS h5 fun b hb => (((imS_mem h5 hf hb1 hb2 b).1 hb).bnd hf hb1 hb2).2
 refine e40 (by simp) fun _ _ => ?_
 simp only [k40, argEnv, go_sem]
 try simp only [OpK_eq, go_sem]
 refine (p1031 _ P (by simp; omega) hm6 (by omega)).lend (.cons Imm.still (.cons (Imm.refr (l := [P]) rfl rfl) (.nil _))) ?_
 rw [hc]
 try simp only [OpK_eq, HKv, go_sem]
 refine hbP.go ?_
 try simp only [OpK_eq, HKv, go_sem]
 refine (p107 fs n h5 hf (by omega) (bits P) hb1 hb2).go ?_
 try simp only [OpK_eq, HKv, go_sem]
 refine (p97 _ hS.2 (by omega)).go ?_
 try simp only [OpK_eq, HKv, go_sem]
 exact Kv.Fin.still ⟨rfl, rfl⟩
end Go.Proofs.YthbbjbfbeaiphaaGreat
end
section
namespace Go.Proofs.YthbbjbfbeaiphaaGreat
open Go.Kv
set_option linter.unusedVariables false
set_option linter.unusedSimpArgs false
attribute [local irreducible] ACall PCall KL
theorem im_self {fs : List (List Nat)} {n : Nat} (h5 : n ≤ 5) (hf : ∀ f ∈ fs, Ok f n) {P : List Int} (hP : asc n P) : P ∈ rowsB (imS fs n (bits P)) := by
 obtain ⟨b1, b2, b3⟩ := asc_bitsY h5 hP
 exact List.mem_map.2 ⟨bits P, (imS_mem h5 hf b1 b2 _).2 .here, by rw [pof62 h5 b2]; exact b3.symm⟩
theorem sb_pos {l : List Nat} {x : Nat} (h : x ∈ l) : 1 ≤ sb l := Nat.one_le_iff_ne_zero.2 fun hz => by
 have := sb_test l x
 rw [hz, Nat.zero_testBit, decide_eq_true h] at this
 cases this
theorem pof_in {b n x : Nat} : x ∈ pof b n ↔ x < n ∧ b.testBit x = true := by
 unfold pof; rw [List.mem_filter, List.mem_range]
theorem pof_orbN {fs : List (List Nat)} {n q : Nat} (hf : ∀ f ∈ fs, Ok f n) (hn : n ≤ 5) (hq : q < n) : pof (sb (orb fs q)) 62 = orb fs q := pof_orb hf hn hq fun x => orb_mem hf hn hq x
theorem orb_ins {fs : List (List Nat)} {n q : Nat} (hf : ∀ f ∈ fs, Ok f n) (hn : n ≤ 5) (hq : q < n) : sb (orb fs q) ∈ insS fs n (2 ^ n) := by
 have hlt : sb (orb fs q) < 2 ^ n := sb_lt fun y hy => reaLt hf hq ((orb_mem hf hn hq y).1 hy)
 rw [insS_mem, goods_mem]
 refine ⟨hlt, sb_pos ((orb_mem hf hn hq q).2 .here), ?_⟩
 unfold okS
 rw [List.all_eq_true]
 intro f hfm
 refine decide_eq_true ?_
 unfold mvb
 rw [← pof62 hn hlt, pof_orbN hf hn hq, sb_app]
 refine sb_ext fun x => ⟨fun h => ?_, fun h => List.mem_append.2 (.inr h)⟩
 rcases List.mem_append.1 h with h | h
 ·obtain ⟨y, hy, rfl⟩ := List.mem_map.1 h
  exact (orb_mem hf hn hq _).2 (.step f y hfm ((orb_mem hf hn hq y).1 hy))
 ·exact h
theorem orb_row {fs : List (List Nat)} {n q : Nat} (hf : ∀ f ∈ fs, Ok f n) (hn : n ≤ 5) (hq : q < n) : nz (orb fs q) ∈ rowsB (insS fs n (2 ^ n)) :=
 List.mem_map.2 ⟨_, orb_ins hf hn hq, by rw [pof_orbN hf hn hq]⟩
theorem ok_rea {fs : List (List Nat)} {n b : Nat} (hb : b < 2 ^ n) (hok : okS fs n b = true) {x y : Nat} (hx : b.testBit x = true) (h : Rea fs x y) : b.testBit y = true := by
 induction h with
 | here => exact hx
 | step f z hfm _ ih =>
  unfold okS at hok
  rw [List.all_eq_true] at hok
  have h1 := of_decide_eq_true (hok f hfm)
  have hz : z < n := by
   apply Classical.byContradiction
   intro hn
   have := Nat.testBit_lt_two_pow (Nat.lt_of_lt_of_le hb (Nat.pow_le_pow_right (by decide) (by omega : n ≤ z)))
   rw [this] at ih; cases ih
  have h2 : (mvb f n b).testBit (f.getD z 0) = true := by
   unfold mvb
   rw [sb_test]
   exact decide_eq_true (List.mem_map.2 ⟨z, pof_in.2 ⟨hz, ih⟩, rfl⟩)
  rw [← h1, Nat.testBit_or, h2]; rfl
open Classical in
theorem rep_zero (fs : List (List Nat)) : repS fs 0 = true := by
 unfold repS
 exact decide_eq_true fun q hq => absurd hq (Nat.not_lt_zero q)
open Classical in
theorem rep_not {fs : List (List Nat)} {p q : Nat} (h : repS fs p = true) (hq : q < p) : ¬ (Rea fs p q ∧ Rea fs q p) := by
 unfold repS at h
 exact of_decide_eq_true h q hq
theorem cls {fs : List (List Nat)} {n y : Nat} (hf : ∀ f ∈ fs, Ok f n) (hn : n ≤ 5) (hy : y < n) : ∃ p, p < n ∧ repS fs p = true ∧ y ∈ prtL fs p := by
 cases h : repS fs y with
 | true => exact ⟨y, hy, h, (prtL_mem hf hn hy y).2 ⟨.here, .here⟩⟩
 | false =>
  have := (metL_mem hf hn hy).2 h
  unfold metL at this
  obtain ⟨p, hp, hpy⟩ := List.mem_flatMap.1 this
  obtain ⟨h1, h2⟩ := List.mem_filter.1 hp
  exact ⟨p, Nat.lt_trans (List.mem_range.1 h1) hy, h2, hpy⟩
theorem metL_perm {fs : List (List Nat)} {n : Nat} (hf : ∀ f ∈ fs, Ok f n) (hn : n ≤ 5) : (metL fs n).Perm (List.range n) := by
 refine (List.perm_ext_iff_of_nodup ?_ List.nodup_range).2 fun y => ⟨fun h => List.mem_range.2 (metL_lt hf hn (Nat.le_refl _) y h), fun h => ?_⟩
 ·unfold metL
  rw [List.nodup_iff_pairwise_ne, List.pairwise_flatMap]
  refine ⟨fun p _ => (prtL_asc fs p).imp fun h => by omega, ?_⟩
  refine (List.Pairwise.filter _ List.pairwise_lt_range).imp_of_mem fun {p q} hp hq hlt x hx y hy e => ?_
  obtain ⟨p1, p2⟩ := List.mem_filter.1 hp
  obtain ⟨q1, q2⟩ := List.mem_filter.1 hq
  subst e
  obtain ⟨x1, x2⟩ := (prtL_mem hf hn (List.mem_range.1 p1) x).1 hx
  obtain ⟨y1, y2⟩ := (prtL_mem hf hn (List.mem_range.1 q1) x).1 hy
  exact rep_not q2 hlt ⟨rea_trans y1 x2, rea_trans x1 y2⟩
 ·obtain ⟨p, hp, hr, hy⟩ := cls hf hn (List.mem_range.1 h)
  exact List.mem_flatMap.2 ⟨p, List.mem_filter.2 ⟨List.mem_range.2 hp, hr⟩, hy⟩
theorem strong_tot {fs : List (List Nat)} {n : Nat} (hf : ∀ f ∈ fs, Ok f n) (hn : n ≤ 5) : ((strong fs n).map List.length).sum = n := by
 have h1 := (metL_perm hf hn).length_eq
 rw [List.length_range] at h1
 unfold metL at h1
 rw [List.length_flatMap] at h1
 unfold strong
 rw [List.map_map]
 have : (List.length ∘ fun p => nz (prtL fs p)) = fun p => (prtL fs p).length := funext fun p => nz_len _
 rw [this]; exact h1
theorem full_bit (n i : Nat) : (2 ^ n - 1).testBit i = decide (i < n) := Nat.testBit_two_pow_sub_one ..
theorem full_ins {fs : List (List Nat)} {n : Nat} (h1 : 1 ≤ n) (hf : ∀ f ∈ fs, Ok f n) : 2 ^ n - 1 ∈ insS fs n (2 ^ n) := by
 have hp : 2 ≤ 2 ^ n := by
  have := Nat.pow_le_pow_right (by decide : 0 < 2) h1
  simpa using this
 rw [insS_mem, goods_mem]
 refine ⟨by omega, by omega, ?_⟩
 unfold okS
 rw [List.all_eq_true]
 intro f hfm
 refine decide_eq_true (Nat.eq_of_testBit_eq fun i => ?_)
 rw [Nat.testBit_or, full_bit]
 by_cases hi : i < n
 ·simp [hi]
 ·have := Nat.testBit_lt_two_pow (Nat.lt_of_lt_of_le (mvb_lt (hf f hfm) (2 ^ n - 1)) (Nat.pow_le_pow_right (by decide) (by omega : n ≤ i)))
  simp [hi, this]
theorem one_len {α : Type} {l : List α} (hd : l.Nodup) {c : α} (hc : c ∈ l) : l.length = 1 ↔ ∀ b ∈ l, b = c := by
 constructor
 ·intro h b hb
  match l, h with
  | [a], _ =>
   simp only [List.mem_singleton] at hc hb
   rw [hb, hc]
 ·intro h
  match l with
  | [] => cases hc
  | [a] => rfl
  | a :: b :: l =>
   have e1 := h a (by simp)
   have e2 := h b (by simp)
   simp only [List.nodup_cons, List.mem_cons, not_or] at hd
   exact absurd (e1.trans e2.symm) hd.1.1
theorem trn_ins {fs : List (List Nat)} {n : Nat} (h1 : 1 ≤ n) (hn : n ≤ 5) (hf : ∀ f ∈ fs, Ok f n) : (strong fs n).length = 1 ↔ (insS fs n (2 ^ n)).length = 1 := by
 have hp62 : (2 : Nat) ^ n ≤ 2 ^ 62 := Nat.pow_le_pow_right (by decide) (by omega)
 have hnd := srt_nodup (insS_srt fs n (2 ^ n) hp62)
 have h0 : 0 ∈ (List.range n).filter (repS fs) := List.mem_filter.2 ⟨List.mem_range.2 (by omega), rep_zero fs⟩
 have hnf : ((List.range n).filter (repS fs)).Nodup := List.Pairwise.filter _ List.nodup_range
 have e : (strong fs n).length = ((List.range n).filter (repS fs)).length := List.length_map _
 rw [e, one_len hnf h0, one_len hnd (full_ins h1 hf)]
 constructor
 ·intro h b hb
  rw [insS_mem, goods_mem] at hb
  obtain ⟨b1, b2, b3⟩ := hb
  have hall : ∀ y, y < n → Rea fs 0 y ∧ Rea fs y 0 := fun y hy => by
   obtain ⟨p, hp, hr, hyp⟩ := cls hf hn hy
   have := h p (List.mem_filter.2 ⟨List.mem_range.2 hp, hr⟩)
   subst this
   exact (prtL_mem hf hn hp y).1 hyp
  obtain ⟨x, hx⟩ : ∃ x, x ∈ pof b n := by
   cases hc : pof b n with
   | nil => exact absurd hc (pof_ne b2 b1)
   | cons a l => exact ⟨a, by simp⟩
  obtain ⟨x1, x2⟩ := pof_in.1 hx
  refine Nat.eq_of_testBit_eq fun i => ?_
  rw [full_bit]
  by_cases hi : i < n
  ·rw [ok_rea b1 b3 x2 (rea_trans (hall x x1).2 (hall i hi).1), decide_eq_true hi]
  ·rw [Nat.testBit_lt_two_pow (Nat.lt_of_lt_of_le b1 (Nat.pow_le_pow_right (by decide) (by omega : n ≤ i))), decide_eq_false hi]
 ·intro h p hp
  obtain ⟨p1, p2⟩ := List.mem_filter.1 hp
  have p1 := List.mem_range.1 p1
  have hall : ∀ x y, x < n → y < n → Rea fs x y := fun x y hx hy => by
   have h2 := h _ (orb_ins hf hn hx)
   have h3 := sb_test (orb fs x) y
   rw [h2, full_bit, decide_eq_true hy] at h3
   exact (orb_mem hf hn hx y).1 (of_decide_eq_true h3.symm)
  apply Classical.byContradiction
  intro hne
  exact rep_not p2 (Nat.pos_of_ne_zero hne) ⟨hall p 0 p1 (by omega), hall 0 p (by omega) p1⟩
end Go.Proofs.YthbbjbfbeaiphaaGreat
end
section
namespace Go.Proofs.YthbbjbfbeaiphaaGreat
open Go.Kv
set_option linter.unusedVariables false
set_option linter.unusedSimpArgs false
attribute [local irreducible] ACall PCall KL
def SrM (n : Nat) (S : List (List Nat)) : Prop := (∀ f ∈ S, Ok f n) ∧ S.Pairwise (fun a b => nbl n a < nbl n b)
def loM (n : Nat) (S : List (List Nat)) (f : List Nat) : Nat := (S.takeWhile fun x => decide (nbl n x < nbl n f)).length
theorem loM_le (n : Nat) (S : List (List Nat)) (f : List Nat) : loM n S f ≤ S.length := by
 unfold loM
 exact (List.takeWhile_sublist _).length_le
theorem loM_iff {n : Nat} : ∀ {S : List (List Nat)} (f : List Nat), S.Pairwise (fun a b => nbl n a < nbl n b) → ∀ i (h : i < S.length), nbl n S[i] < nbl n f ↔ i < loM n S f
 | [], f, _, i, h => by simp at h
 | a :: S, f, hp, i, h => by
  rw [List.pairwise_cons] at hp
  unfold loM
  rw [List.takeWhile_cons]
  by_cases ha : nbl n a < nbl n f
  ·rw [if_pos (by simpa using ha), List.length_cons]
   cases i with
   | zero => simp [ha]
   | succ i =>
    have := loM_iff f hp.2 i (by simpa using h)
    simp only [List.getElem_cons_succ]
    rw [this]; unfold loM; omega
  ·rw [if_neg (by simpa using ha)]
   simp only [List.length_nil, Nat.not_lt_zero, iff_false]
   cases i with
   | zero => exact ha
   | succ i =>
    have := hp.1 _ (List.getElem_mem (by simpa using h : i < S.length))
    simp only [List.getElem_cons_succ]
    omega
def putM (n : Nat) (S : List (List Nat)) (f : List Nat) : List (List Nat) := if loM n S f < S.length ∧ S.getD (loM n S f) [] = f then S else S.take (loM n S f) ++ f :: S.drop (loM n S f)
end Go.Proofs.YthbbjbfbeaiphaaGreat
end
section
namespace Go.Proofs.YthbbjbfbeaiphaaGreat
open Go.Kv
set_option linter.unusedVariables false
set_option linter.unusedSimpArgs false
attribute [local irreducible] ACall PCall KL
theorem lo_mem {n : Nat} {S : List (List Nat)} (hS : SrM n S) {f : List Nat} (hf : Ok f n) : (loM n S f < S.length ∧ S.getD (loM n S f) [] = f) ↔ f ∈ S := by
 constructor
 ·rintro ⟨h1, h2⟩
  rw [← h2, List.getD_eq_getElem?_getD, List.getElem?_eq_getElem h1]
  exact List.getElem_mem _
 ·intro h
  obtain ⟨i, hi, e⟩ := List.getElem_of_mem h
  have hle := loM_le n S f
  have h1 : ¬ i < loM n S f := fun hh => by
   have := (loM_iff f hS.2 i hi).2 hh
   rw [e] at this; omega
  have hlo : loM n S f < S.length := by omega
  have h2 : ¬ nbl n S[loM n S f] < nbl n f := fun hh => by
   have := (loM_iff f hS.2 _ hlo).1 hh
   omega
  have h3 : loM n S f = i := by
   refine Classical.byContradiction fun hne => ?_
   have := List.pairwise_iff_getElem.1 hS.2 (loM n S f) i hlo hi (by omega)
   rw [e] at this
   exact h2 this
  refine ⟨hlo, ?_⟩
  rw [List.getD_eq_getElem?_getD, List.getElem?_eq_getElem hlo]
  simp only [h3, Option.getD_some]
  exact e
theorem putM_mem {n : Nat} {S : List (List Nat)} (hS : SrM n S) {f : List Nat} (hf : Ok f n) {x : List Nat} : x ∈ putM n S f ↔ x = f ∨ x ∈ S := by
 unfold putM
 split
 ·rename_i h
  have := (lo_mem hS hf).1 h
  exact ⟨fun h => .inr h, fun h => by rcases h with rfl | h <;> assumption⟩
 ·rw [List.mem_append, List.mem_cons]
  constructor
  ·rintro (h | h | h)
   ·exact .inr (List.mem_of_mem_take h)
   ·exact .inl h
   ·exact .inr (List.mem_of_mem_drop h)
  ·rintro (h | h)
   ·exact .inr (.inl h)
   ·rw [← List.take_append_drop (loM n S f) S, List.mem_append] at h
    rcases h with h | h
    ·exact .inl h
    ·exact .inr (.inr h)
theorem putM_srm {n : Nat} {S : List (List Nat)} (hS : SrM n S) {f : List Nat} (hf : Ok f n) : SrM n (putM n S f) := by
 refine ⟨fun g hg => ?_, ?_⟩
 ·rcases (putM_mem hS hf).1 hg with rfl | hg
  ·exact hf
  ·exact hS.1 g hg
 ·unfold putM
  split
  ·exact hS.2
  ·rename_i hno
   have hnm : f ∉ S := fun h => hno ((lo_mem hS hf).2 h)
   have hle := loM_le n S f
   have hfr : ∀ x ∈ S.take (loM n S f), nbl n x < nbl n f := fun x hx => by
    obtain ⟨i, hi, rfl⟩ := List.getElem_of_mem hx
    rw [List.length_take] at hi
    rw [List.getElem_take]
    exact (loM_iff f hS.2 i (by omega)).2 (by omega)
   have hbk : ∀ x ∈ S.drop (loM n S f), nbl n f < nbl n x := fun x hx => by
    obtain ⟨i, hi, rfl⟩ := List.getElem_of_mem hx
    rw [List.length_drop] at hi
    rw [List.getElem_drop]
    have h1 : ¬ nbl n S[loM n S f + i] < nbl n f := fun hh => by
     have := (loM_iff f hS.2 _ (by omega)).1 hh
     omega
    have h2 : nbl n S[loM n S f + i] ≠ nbl n f := fun hh => hnm (by
     rw [← nbl_inj (hS.1 _ (List.getElem_mem (by omega))) hf hh]
     exact List.getElem_mem _)
    omega
   rw [List.pairwise_append, List.pairwise_cons]
   refine ⟨hS.2.sublist (List.take_sublist _ _), ⟨hbk, hS.2.sublist (List.drop_sublist _ _)⟩, fun a ha b hb => ?_⟩
   have h1 := hfr a ha
   rcases List.mem_cons.1 hb with rfl | hb
   ·exact h1
   ·have := hbk b hb; omega
theorem putM_len {n : Nat} {S : List (List Nat)} (f : List Nat) : (putM n S f).length ≤ S.length + 1 := by
 have hle := loM_le n S f
 unfold putM
 split
 ·omega
 ·rw [List.length_append, List.length_cons, List.length_take, List.length_drop]; omega
def plM (n : Nat) (S : List (List Nat)) (f : List Nat) : Int := if loM n S f < S.length ∧ S.getD (loM n S f) [] = f then loM n S f else -1
def rowM (n : Nat) (S : List (List Nat)) (f : List Nat) : List Int := S.map fun g => plM n S (mul f g)
def tabM (n : Nat) (S : List (List Nat)) : List (List Int) := S.map fun f => rowM n S f
end Go.Proofs.YthbbjbfbeaiphaaGreat
end
section
namespace Go.Proofs.YthbbjbfbeaiphaaGreat
open Go.Kv
set_option linter.unusedVariables false
set_option linter.unusedSimpArgs false
attribute [local irreducible] ACall PCall KL
def clA (fs : List (List Nat)) (m : List Nat) (Q : List (List Nat)) : Nat → Option (List (List Nat))
 | 0 => some Q
 | k + 1 => match clA fs m Q k with
  | none => none
  | some R => if mul m (fs.getD k []) ∈ R then some R else if R.length = 300 then none else some (R ++ [mul m (fs.getD k [])])
def clB (fs : List (List Nat)) (n : Nat) : Nat → Option (List (List Nat))
 | 0 => some [List.range n]
 | i + 1 => match clB fs n i with
  | none => none
  | some Q => match Q[i]? with
   | some m => clA fs m Q fs.length
   | none => some Q
theorem range_ok {n : Nat} (h1 : 1 ≤ n) (h5 : n ≤ 5) : Ok (List.range n) n := by
 refine ⟨?_, ?_, ?_, ?_⟩ <;> first | exact h1 | exact h5 | simp
theorem clA_pre {fs : List (List Nat)} {m : List Nat} {Q : List (List Nat)} : ∀ k R, clA fs m Q k = some R → ∃ r, R = Q ++ r
 | 0, R, h => by
  have : Q = R := by simpa [clA] using h
  exact ⟨[], by simp [this]⟩
 | k + 1, R, h => by
  unfold clA at h
  cases hc : clA fs m Q k with
  | none => rw [hc] at h; cases h
  | some R' =>
   obtain ⟨r, hr⟩ := clA_pre k R' hc
   rw [hc] at h
   simp only at h
   split at h
   ·cases h; exact ⟨r, hr⟩
   ·split at h
    ·cases h
    ·cases h; exact ⟨r ++ [mul m (fs.getD k [])], by rw [hr, List.append_assoc]⟩
theorem clA_none {fs : List (List Nat)} {m : List Nat} {Q : List (List Nat)} {k : Nat} (h : clA fs m Q k = none) : ∀ d, clA fs m Q (k + d) = none
 | 0 => h
 | d + 1 => by
  show clA fs m Q (k + d + 1) = none
  unfold clA
  rw [clA_none h d]
theorem WG.immN {σ : Heap} {A : Nat → Prop} {q ver k : Nat} {ws : List PV} {L : List (List Int)} (h : WG σ A q ver ws L) (hk : k = L.length) : Imm σ (.ref q ver 0 k) (.list (rows L)) := by
 subst hk
 refine .ref q ver 0 L.length _ 1 ws (rows L) h.out (by rw [h.len]; simp) (rows_length L) (fun i x d hx hd => ?_) (fun i x d j c c' hx hd hc hc' => ?_)
 all_goals
  rw [Nat.zero_add] at hx
  have hi : i < L.length := by have := (List.getElem?_eq_some_iff.1 hd).1; rwa [rows_length] at this
  obtain ⟨w, hw, hW⟩ := h.cell hi
  obtain ⟨y, hy, rfl⟩ := rows_get hd
  rw [List.getElem?_eq_getElem hi] at hy; cases hy
  rw [hw] at hx; cases hx
 ·have := hW.cs
  refine ⟨by rw [this.1]; rfl, rfl⟩
 ·have h1 := List.mem_of_getElem? hc
  have h2 := List.mem_of_getElem? hc'
  rw [hW.cs.1] at h1
  simp only [PV.cs, List.mem_singleton] at h1 h2
  subst h1; subst h2
  exact hW.imm
end Go.Proofs.YthbbjbfbeaiphaaGreat
end
section
namespace Go.Proofs.YthbbjbfbeaiphaaGreat
open Go.Kv
set_option linter.unusedVariables false
set_option linter.unusedSimpArgs false
attribute [local irreducible] ACall PCall KL
theorem clB_none {fs : List (List Nat)} {n i : Nat} (h : clB fs n i = none) : ∀ d, clB fs n (i + d) = none
 | 0 => h
 | d + 1 => by
  show clB fs n (i + d + 1) = none
  rw [clB, clB_none h d]
theorem clB_stop {fs : List (List Nat)} {n i : Nat} {Q : List (List Nat)} (h : clB fs n i = some Q) (hi : Q.length ≤ i) : ∀ d, clB fs n (i + d) = some Q
 | 0 => h
 | d + 1 => by
  show clB fs n (i + d + 1) = some Q
  rw [clB, clB_stop h hi d]
  simp only
  rw [List.getElem?_eq_none (by omega)]
def clR (fs : List (List Nat)) (n : Nat) : Option (List (List Nat)) := clB fs n 301
def elS (n : Nat) (Q : List (List Nat)) : List (List Nat) := Q.foldl (putM n) []
theorem fold_putM {n : Nat} : ∀ (Q S : List (List Nat)), SrM n S → (∀ f ∈ Q, Ok f n) → SrM n (Q.foldl (putM n) S) ∧ (∀ f, f ∈ Q.foldl (putM n) S ↔ f ∈ Q ∨ f ∈ S) ∧ (Q.foldl (putM n) S).length ≤ Q.length + S.length
 | [], S, h, _ => ⟨h, fun f => by simp, by simp⟩
 | a :: Q, S, h, hQ => by
  have ha := hQ a (by simp)
  obtain ⟨h1, h2, h3⟩ := fold_putM Q (putM n S a) (putM_srm h ha) fun f hf => hQ f (by simp [hf])
  refine ⟨h1, fun f => ?_, ?_⟩
  ·rw [List.foldl_cons, h2, putM_mem h ha, List.mem_cons]
   constructor
   ·rintro (h | h | h)
    ·exact .inl (.inr h)
    ·exact .inl (.inl h)
    ·exact .inr h
   ·rintro ((h | h) | h)
    ·exact .inr (.inl h)
    ·exact .inl h
    ·exact .inr (.inr h)
  ·have := putM_len (n := n) (S := S) a
   rw [List.foldl_cons, List.length_cons]; omega
theorem elS_ok {n : Nat} {Q : List (List Nat)} (hQ : ∀ f ∈ Q, Ok f n) : SrM n (elS n Q) ∧ (∀ f, f ∈ elS n Q ↔ f ∈ Q) ∧ (elS n Q).length ≤ Q.length := by
 obtain ⟨h1, h2, h3⟩ := fold_putM (n := n) Q [] ⟨by simp, by simp⟩ hQ
 exact ⟨h1, fun f => by rw [elS, h2]; simp, h3⟩
theorem clA_okQ {fs : List (List Nat)} {n : Nat} (hf : ∀ f ∈ fs, Ok f n) {m : List Nat} (hm : Ok m n) {Q : List (List Nat)} (hQ : ∀ f ∈ Q, Ok f n) (hl : Q.length ≤ 300) : ∀ k R, k ≤ fs.length → clA fs m Q k = some R → (∀ f ∈ R, Ok f n) ∧ R.length ≤ 300
 | 0, R, _, h => by
  have : Q = R := by simpa [clA] using h
  subst this; exact ⟨hQ, hl⟩
 | k + 1, R, hk, h => by
  unfold clA at h
  cases hc : clA fs m Q k with
  | none => rw [hc] at h; cases h
  | some R' =>
   obtain ⟨h1, h2⟩ := clA_okQ hf hm hQ hl k R' (by omega) hc
   have hgf : fs.getD k [] = fs[k] := by simp [List.getD_eq_getElem?_getD, show k < fs.length by omega]
   rw [hc] at h
   simp only at h
   split at h
   ·cases h; exact ⟨h1, h2⟩
   ·split at h
    ·cases h
    ·cases h
     refine ⟨fun f hf' => ?_, by rw [List.length_append, List.length_singleton]; omega⟩
     rcases List.mem_append.1 hf' with hf' | hf'
     ·exact h1 f hf'
     ·simp only [List.mem_singleton] at hf'
      rw [hf', hgf]
      exact hm.mul (hf _ (List.getElem_mem _))
theorem clB_okQ {fs : List (List Nat)} {n : Nat} (h1 : 1 ≤ n) (h5 : n ≤ 5) (hf : ∀ f ∈ fs, Ok f n) : ∀ i Q, clB fs n i = some Q → (∀ f ∈ Q, Ok f n) ∧ Q.length ≤ 300
 | 0, Q, h => by
  have : [List.range n] = Q := by simpa [clB] using h
  subst this
  refine ⟨fun f hf' => ?_, by simp⟩
  simp only [List.mem_singleton] at hf'; rw [hf']; exact range_ok h1 h5
 | i + 1, Q, h => by
  rw [clB] at h
  cases hc : clB fs n i with
  | none => rw [hc] at h; cases h
  | some R =>
   obtain ⟨h2, h3⟩ := clB_okQ h1 h5 hf i R hc
   rw [hc] at h
   simp only at h
   cases hg : R[i]? with
   | none => rw [hg] at h; cases h; exact ⟨h2, h3⟩
   | some m => rw [hg] at h; exact clA_okQ hf (h2 m (List.mem_of_getElem? hg)) h2 h3 fs.length Q (Nat.le_refl _) h
end Go.Proofs.YthbbjbfbeaiphaaGreat
end
section

end
section

end
section
namespace Go.Proofs.YthbbjbfbeaiphaaGreat
open Go.Kv
set_option linter.unusedVariables false
set_option linter.unusedSimpArgs false
attribute [local irreducible] ACall PCall KL
inductive Rch (fs : List (List Nat)) (n : Nat) : List Nat → Prop
 | one : Rch fs n (List.range n)
 | step (g f : List Nat) (hg : Rch fs n g) (hf : f ∈ fs) : Rch fs n (mul g f)
theorem Rch.ok {fs : List (List Nat)} {n : Nat} (h1 : 1 ≤ n) (h5 : n ≤ 5) (hf : ∀ f ∈ fs, Ok f n) {g : List Nat} (h : Rch fs n g) : Ok g n := by
 induction h with
 | one => exact range_ok h1 h5
 | step g f _ hm ih => exact ih.mul (hf f hm)
theorem clA_has {fs : List (List Nat)} {n : Nat} {m : List Nat} {Q : List (List Nat)} (hm : Rch fs n m) (hQ : ∀ g ∈ Q, Rch fs n g) : ∀ k R, k ≤ fs.length → clA fs m Q k = some R → (∀ t, t < k → mul m (fs.getD t []) ∈ R) ∧ ∀ g ∈ R, Rch fs n g
 | 0, R, _, h => by
  have : Q = R := by simpa [clA] using h
  subst this
  exact ⟨fun t ht => by omega, hQ⟩
 | k + 1, R, hk, h => by
  unfold clA at h
  cases hc : clA fs m Q k with
  | none => rw [hc] at h; cases h
  | some R' =>
   obtain ⟨a, b⟩ := clA_has hm hQ k R' (by omega) hc
   rw [hc] at h
   simp only at h
   have hkm : fs.getD k [] ∈ fs := by rw [List.getD_eq_getElem?_getD, List.getElem?_eq_getElem (by omega)]; exact List.getElem_mem _
   split at h
   ·rename_i hin
    cases h
    refine ⟨fun t ht => ?_, b⟩
    by_cases e : t = k
    ·subst e; exact hin
    ·exact a t (by omega)
   ·split at h
    ·cases h
    ·cases h
     refine ⟨fun t ht => ?_, fun g hg => ?_⟩
     ·by_cases e : t = k
      ·subst e; simp
      ·exact List.mem_append.2 (.inl (a t (by omega)))
     ·rcases List.mem_append.1 hg with hg | hg
      ·exact b g hg
      ·simp only [List.mem_singleton] at hg
       subst hg
       exact .step m _ hm hkm
theorem clB_has {fs : List (List Nat)} {n : Nat} : ∀ i Q, clB fs n i = some Q → List.range n ∈ Q ∧ (∀ g ∈ Q, Rch fs n g) ∧ ∀ j m, j < i → Q[j]? = some m → ∀ f ∈ fs, mul m f ∈ Q
 | 0, Q, h => by
  have : [List.range n] = Q := by simpa [clB] using h
  subst this
  refine ⟨by simp, fun g hg => ?_, fun j m hj => by omega⟩
  simp only [List.mem_singleton] at hg
  subst hg; exact .one
 | i + 1, Q, h => by
  rw [clB] at h
  cases hc : clB fs n i with
  | none => rw [hc] at h; cases h
  | some Q' =>
   obtain ⟨a, b, c⟩ := clB_has i Q' hc
   rw [hc] at h
   simp only at h
   split at h
   ·rename_i m0 hm0
    obtain ⟨r, hr⟩ := clA_pre _ _ h
    obtain ⟨d, e⟩ := clA_has (b m0 (List.mem_of_getElem? hm0)) b fs.length Q (Nat.le_refl _) h
    have hlt := (List.getElem?_eq_some_iff.1 hm0).1
    refine ⟨by rw [hr]; exact List.mem_append.2 (.inl a), e, fun j m hj hjm f hf => ?_⟩
    by_cases eji : j = i
    ·subst eji
     rw [hr, List.getElem?_append_left hlt, hm0] at hjm
     cases hjm
     obtain ⟨t, ht, rfl⟩ := List.getElem_of_mem hf
     have := d t ht
     rwa [List.getD_eq_getElem?_getD, List.getElem?_eq_getElem ht] at this
    ·have hj2 : Q'[j]? = some m := by rw [hr, List.getElem?_append_left (by omega)] at hjm; exact hjm
     have := c j m (by omega) hj2 f hf
     rw [hr]; exact List.mem_append.2 (.inl this)
   ·rename_i hm0
    cases h
    refine ⟨a, b, fun j m hj hjm f hf => ?_⟩
    have hlt := (List.getElem?_eq_some_iff.1 hjm).1
    have := List.getElem?_eq_none_iff.1 hm0
    exact c j m (by omega) hjm f hf
structure Mnd (n : Nat) (S : List (List Nat)) : Prop where
 srm : SrM n S
 one : List.range n ∈ S
 mul : ∀ f g, f ∈ S → g ∈ S → Go.Kv.mul f g ∈ S
theorem clR_mnd {fs : List (List Nat)} {n : Nat} (h1 : 1 ≤ n) (h5 : n ≤ 5) (hf : ∀ f ∈ fs, Ok f n) {Q : List (List Nat)} (hR : clB fs n 301 = some Q) : Mnd n (elS n Q) := by
 obtain ⟨c3, c4⟩ := clB_okQ h1 h5 hf _ _ hR
 obtain ⟨s1, s2, s3⟩ := elS_ok c3
 obtain ⟨a, b, c⟩ := clB_has _ _ hR
 refine ⟨s1, (s2 _).2 a, fun f g hfm hgm => (s2 _).2 ?_⟩
 have hfQ := (s2 f).1 hfm
 have hr := b g ((s2 g).1 hgm)
 clear hgm hfm
 induction hr with
 | one => rw [mul_one (c3 f hfQ)]; exact hfQ
 | step g' f' hg' hf' ih =>
  rw [← mul_assoc (c3 f hfQ) (hg'.ok h1 h5 hf) (hf f' hf')]
  obtain ⟨j, hj, e⟩ := List.getElem_of_mem ih
  exact c j _ (by omega) (by rw [List.getElem?_eq_getElem hj, e]) f' hf'
theorem Mnd.at {n : Nat} {S : List (List Nat)} (h : Mnd n S) {i j : Nat} (hi : i < S.length) (hj : j < S.length) : tat (tabM n S) i j = (loM n S (Go.Kv.mul S[i] S[j]) : Int) ∧ loM n S (Go.Kv.mul S[i] S[j]) < S.length ∧ S.getD (loM n S (Go.Kv.mul S[i] S[j])) [] = Go.Kv.mul S[i] S[j] := by
 have hm := h.mul _ _ (List.getElem_mem hi) (List.getElem_mem hj)
 have hO := h.srm.1 _ hm
 obtain ⟨h1, h2⟩ := (lo_mem h.srm hO).2 hm
 refine ⟨?_, h1, h2⟩
 have e1 : (tabM n S).getD i [] = rowM n S S[i] := by simp [tabM, List.getD_eq_getElem?_getD, hi]
 have e2 : (rowM n S S[i]).getD j 0 = plM n S (Go.Kv.mul S[i] S[j]) := by simp [rowM, List.getD_eq_getElem?_getD, hj]
 rw [tat, e1, e2, plM, if_pos ⟨h1, h2⟩]
end Go.Proofs.YthbbjbfbeaiphaaGreat
end
section

end
section
namespace Go.Proofs.YthbbjbfbeaiphaaGreat
open Go.Kv
set_option linter.unusedVariables false
set_option linter.unusedSimpArgs false
attribute [local irreducible] ACall PCall KL
theorem getD_memR {l : List (List Int)} {i : Nat} (h : i < l.length) : l.getD i [] ∈ l := by
 rw [List.getD_eq_getElem?_getD, List.getElem?_eq_getElem h]; exact List.getElem_mem _
end Go.Proofs.YthbbjbfbeaiphaaGreat
end
section
namespace Go.Proofs.YthbbjbfbeaiphaaGreat
open Go.Kv
set_option maxRecDepth 100000
def k98_b0 : KC := (.seq (.seq (.ops [mV 18 7, mV 19 5, oP 20 (.bin .lss (.t 18) (.t 19))])
 (.cond (.t 20) .skip (.exit 0)))
 (.seq (.block 1 (.seq (.ops [mV 23 0, oP 24 (.call (fC 56) [(.t 23), (iC 2)]), oP 25 (.bin .eql (.t 24) (iC 0))])
 (.cond (.t 25) (.ops [mV 26 6, mV 27 7, oP 28 (.bsl true 2 1 [(.t 27)]), oP 29 (.app (.t 26) (.t 28) 2 1), mV 6 29]) .skip)))
 (.ops [mV 21 7, oP 22 (.bin .add (.t 21) (iC 1)), mV 7 22])))
def k98 : KC := (.seq (.ops [oP 4 (.mv (.c (.nils)))])
 (.seq (.ops [oP 5 (.mv (iC 3))])
 (.seq (.seq (.ops [mV 8 1, oP 9 (.len false (.t 8)), oP 10 (.bin .gtr (.t 9) (iC 0))])
 (.cond (.t 10) (.ops [mV 11 1, oP 12 (.idxS 6 (.t 11) (iC 0)), oP 13 (.fieldA 0 (.t 12)), oP 14 (.load false 1 (.t 13)), oP 15 (.mnmx true (.t 14) [(iC 1)]), oP 16 (.mnmx false (.t 15) [(iC 5)]), mV 5 16]) .skip))
 (.seq (.ops [oP 17 (.bsl false 2 1 []), mV 6 17])
 (.seq (.seq (.ops [oP 7 (.mv (iC 0))])
 (.block 0 (.loop k98_b0)))
 (.seq (.seq (.ops [mV 30 0, oP 31 (.call (fC 56) [(.t 30), (iC 24)]), oP 32 (.bin .eql (.t 31) (iC 0))])
 (.cond (.t 32) (.ops [mV 33 6, mV 34 0, oP 35 (.bsl false 2 1 [(iC 0), (iC 5), (iC (-1))]), oP 36 (.call (fC 58) [(.t 34), (.t 35)]), oP 37 (.bsl true 2 1 [(.t 36)]), oP 38 (.app (.t 33) (.t 37) 2 1), mV 6 38]) .skip))
 (.seq (.ops [mV 39 6, mV 4 39])
 .ret)))))))
theorem e98 : Ent 98 40 [28, 37] [.t 4] k98 := ent Tryz.func98 (by kernel_rfl) (by kernel_rfl) (by kernel_rfl) (fun _ => by kernel_rfl) (by kernel_rfl)
def k26 : KC := (.seq (.ops [oP 2 (.mv (.c (.nils))), oP 3 (.mv (iC 0))])
 (.seq (.ops [mV 5 0, oP 6 (.call (fC 55) [(.t 5)]), mV 4 6])
 (.seq (.ops [mV 7 4, oP 8 (.call (fC 78) [(.t 7)]), mV 9 4, oP 10 (.call (fC 79) [(.t 9), (iC 4)]), mV 2 8, mV 3 10])
 .ret)))
theorem e26 : Ent 26 11 [] [.t 2, .t 3] k26 := ent Tryz.func26 (by kernel_rfl) (by kernel_rfl) (by kernel_rfl) (fun _ => by kernel_rfl) (by kernel_rfl)
def k38 : KC := (.seq (.ops [oP 2 (.mv (.c (.nils))), oP 3 (.mv (.c (.nils)))])
 (.seq (.ops [mV 6 0, oP 7 (.call (fC 55) [(.t 6)]), mV 4 7])
 (.seq (.ops [mV 8 4, oP 9 (.call (fC 78) [(.t 8)]), mV 5 9])
 (.seq (.ops [mV 10 5, mV 11 4, mV 12 5, oP 13 (.call (fC 98) [(.t 11), (.t 12)]), mV 2 10, mV 3 13])
 .ret))))
theorem e38 : Ent 38 14 [] [.t 2, .t 3] k38 := ent Tryz.func38 (by kernel_rfl) (by kernel_rfl) (by kernel_rfl) (fun _ => by kernel_rfl) (by kernel_rfl)
def k35 : KC := (.seq (.ops [oP 2 (.mv (.c (.nils))), oP 3 (.mv (.c (.nils))), oP 4 (.mv (.c (.nils)))])
 (.seq (.ops [mV 10 0, oP 11 (.call (fC 55) [(.t 10)]), mV 5 11])
 (.seq (.ops [mV 12 5, oP 13 (.call (fC 78) [(.t 12)]), mV 6 13])
 (.seq (.ops [mV 14 5, mV 15 6, oP 16 (.call (fC 98) [(.t 14), (.t 15)]), mV 7 16])
 (.seq (.seq (.ops [mV 18 6, mV 19 7, oP 20 (.call (fC 40) [(.t 18), (.t 19)]), mV 17 20, oP 21 (.extr 0 (.t 17)), oP 22 (.extr 1 (.t 17)), mV 8 21, mV 9 22])
 (.seq (.ops [mV 23 9, oP 24 (.bin .eql (.t 23) (iC 0)), mV 25 24, ⟨(some 26), some (25, true), .mv (.t 5)⟩, ⟨(some 27), some (25, true), .call (fC 56) [(.t 26), (iC 4)]⟩, ⟨(some 28), some (25, true), .bin .gtr (.t 27) (iC 0)⟩, oP 29 (.pick (.t 25) (.t 28) (.c (.bool false)))])
 (.cond (.t 29) (.seq (.tree (.op (mV 30 6) (.op (mV 31 7) (.op (mV 32 8) (.op (mV 33 5) (.op (mV 34 8) (.op (oP 35 (.len false (.t 34))) (.op (oP 36 (.call (fC 56) [(.t 33), (.t 35)])) (.op (mV 2 30) (.op (mV 3 31) (.op (oP 37 (.idxS 1 (.t 32) (.t 36))) (.op (oP 38 (.load false 1 (.t 37))) (.op (mV 4 38) .fin)))))))))))))
 .ret) .skip)))
 (.seq (.ops [mV 39 6, mV 40 7, mV 41 5, mV 42 6, oP 43 (.call (fC 98) [(.t 41), (.t 42)]), mV 2 39, mV 3 40, mV 4 43])
 .ret))))))
theorem e35 : Ent 35 44 [1000000] [.t 2, .t 3, .t 4] k35 := ent Tryz.func35 (by kernel_rfl) (by kernel_rfl) (by kernel_rfl) (fun _ => by kernel_rfl) (by kernel_rfl)
end Go.Proofs.YthbbjbfbeaiphaaGreat
namespace Go.Proofs.YthbbjbfbeaiphaaGreat
open Go.Kv
set_option linter.unusedVariables false
set_option linter.unusedSimpArgs false
attribute [local irreducible] ACall PCall KL
theorem p98 {l : List Int} (hl : Byt l) {σ : Heap} {b : Nat} (hS : Src σ b l) (t : List (List Int)) (h7 : t.length ≤ 7) (h6 : Mp6 t) {K : PV → Heap → Prop}
  (hK : ∀ (L : List Int) σ', L.length ≤ 6 → Src σ' b l → Kept σ σ' b → K (.list (ints L)) σ') : ACall Tryz.prog 98 [.ptr b 0, .list (aggs t)] σ K := by
 have hlt := hS.lt
 have h06 : 0 < t.length → (t.getD 0 []).length = 6 := fun h => by
  rw [List.getD_eq_getElem?_getD, List.getElem?_eq_getElem h]; exact h6 _ (List.getElem_mem _)
 have hnb : ∀ x : Int, 1 ≤ min (max x 1) 5 ∧ min (max x 1) 5 ≤ 5 := fun x => by omega
 have hgb : ∀ (s : Heap) (a : AObj), (s ++ [a])[s.length]? = some a := fun s a => by simp
 refine e98 (by simp) fun _ _ => ?_
 simp only [k98, argEnv, aggs_length, go_sem]
 refine ⟨fun g => ⟨g, fun g2 => ⟨h06 g2, by rw [h06 g2]; omega, fun _ => ?_⟩⟩, fun g => ?_⟩
 rotate_left
 obtain ⟨n, hn, hn5⟩ : ∃ n : Nat, (3 : Int) = n ∧ n ≤ 5 := ⟨3, rfl, by omega⟩
 rw [hn]
 rotate_left
 generalize hz : min (max ((t.getD 0 []).getD 0 0) 1) 5 = z
 have hz1 := hnb ((t.getD 0 []).getD 0 0)
 rw [hz] at hz1
 obtain ⟨n, hn, hn5⟩ : ∃ n : Nat, z = n ∧ n ≤ 5 := ⟨z.toNat, by omega, by omega⟩
 subst hn
 all_goals
  refine KL_ind k98_b0.eq_1 (fun y : Nat × List Int × Nat × Heap => [(0, .ptr b 0), (5, .int .i64 n), (6, .ref σ.length y.2.2.1 0 y.2.1.length), (7, .int .i64 y.1)]) (fun y => y.2.2.2) (fun y => y.1 ≤ n ∧ y.2.1.length ≤ y.1 ∧ Src y.2.2.2 b l ∧ Kept σ y.2.2.2 b ∧ y.2.2.2[σ.length]? = some (.arr y.2.2.1 2 1 (ints y.2.1))) (fun y => n - y.1) [0, 5, 6, 7] (0, [], 0, σ ++ [.arr 0 2 1 []]) (by simp [keep]) rfl ⟨Nat.zero_le _, by simp, hS.app _, Kept.app _ _ _, by rw [hgb]; rfl⟩ fun ⟨y, L, ver, ρ⟩ ⟨hy, hLl, hS1, hKp, hid⟩ ih => ?_
  simp only at hy hLl hS1 hKp hid
  try simp only [OpK_eq, HKv, go_sem]
  refine ⟨fun g1 => ?_, fun g1 => ?_⟩
  ·refine p56 hl hS1 _ fun r τ q0 q1 q2 q3 q4 => ?_
   have hlen := (List.getElem?_eq_some_iff.1 hid).1
   have hid2 := (q3.2 σ.length hlen (by omega)).trans hid
   try simp only [OpK_eq, HKv, hid2, go_sem]
   refine ⟨fun _ => ⟨⟨Nat.le_refl _, by omega⟩, by omega, ih (y + 1, L ++ [(y : Int)], ver + 1, τ.set σ.length (.arr (ver + 1) 2 1 (ints (L ++ [(y : Int)])))) ⟨by show y + 1 ≤ n; omega, by simp; omega, q2.set2 (by omega) _, (hKp.trans q3).set2 (Nat.le_refl _) _, List.getElem?_set_self (by omega)⟩ (by show n - (y + 1) < n - y; omega) _ _ (by simp [keep]) ?_⟩, fun _ => ⟨by omega, ih (y + 1, L, ver, τ) ⟨by show y + 1 ≤ n; omega, by show L.length ≤ y + 1; omega, q2, hKp.trans q3, hid2⟩ (by show n - (y + 1) < n - y; omega) _ _ (by simp [keep]) rfl⟩⟩
   simp [ints]
  ·refine p56 hl hS1 _ fun r τ q0 q1 q2 q3 q4 => ?_
   have hlen := (List.getElem?_eq_some_iff.1 hid).1
   have hid2 := (q3.2 σ.length hlen (by omega)).trans hid
   try simp only [OpK_eq, HKv, hid2, go_sem]
   refine ⟨fun _ => p58 hl (q2.app _) [0, 5, -1] (by simp) (id := τ.length) (ver := 0) (e := 2) (hgb _ _) (by have := q2.lt; omega) 3 rfl fun r2 τ3 c2 c4 c5 c6 => ?_, fun _ => Kv.Fin.giveAt hid2 (.inl (Imm.refn (solo_get hid2) rfl)) (hK L _ (by omega) (q2.set2 (by omega) _) ((hKp.trans q3).set2 (Nat.le_refl _) _))⟩
   have hid3 : τ3[σ.length]? = some (.arr ver 2 1 (ints L)) := (c5.2 σ.length (by simp; omega) (by omega)).trans ((List.getElem?_append_left (by omega)).trans hid2)
   have hl3 := (List.getElem?_eq_some_iff.1 hid3).1
   have hid4 : (τ3.set σ.length (.arr (ver + 1) 2 1 (ints (L ++ [r2]))))[σ.length]? = some (.arr (ver + 1) 2 1 (ints (L ++ [r2]))) := List.getElem?_set_self hl3
   have hap : (ints L).take L.length ++ [.int .i64 r2] = ints (L ++ [r2]) := by
    rw [List.take_of_length_le (by rw [ints_length]; exact Nat.le_refl _)]; simp [ints]
   try simp only [OpK_eq, HKv, hid3, hap, go_sem]
   exact ⟨⟨Nat.le_refl _, by omega⟩, Kv.Fin.giveAt hid4 (.inl (Imm.refn (solo_get hid4) (by simp))) (hK (L ++ [r2]) _ (by simp; omega) ((c4.set2 (by omega) _).set2 (by omega) _) ((((hKp.trans q3).trans ((Kept.app _ _ _).trans c5)).set2 (Nat.le_refl _) _).set2 (Nat.le_refl _) _))⟩
theorem p26 {l : List Int} (hl : Byt l) {K : PV → Heap → Prop} (hK : ∀ (t : List (List Int)) (p : Int), t.length ≤ 7 → Mp6 t → -4611686018427387904 ≤ p → p ≤ 1099511627776 → K (.tup [.list (aggs t), .int .i64 p]) []) : ACall Tryz.prog 26 [.list (u8s l)] [] K := by
 refine e26 (by simp) fun _ _ => ?_
 simp only [k26, argEnv, go_sem]
 refine p55 hl fun h => ?_
 have hS0 : Src [srcO l 0 h] 0 l := ⟨0, h, rfl, Nat.zero_le _⟩
 try simp only [OpK_eq, HKv, go_sem]
 refine p78 hl hS0 fun t τ q1 q2 q3 q4 => ?_
 try simp only [OpK_eq, HKv, go_sem]
 refine p79 hl q3 _ (by omega) fun r ρ r1 r2 r3 r4 => ?_
 try simp only [OpK_eq, HKv, go_sem]
 exact Kv.Fin.freeze .still (hK t r q1 q2 r1 r2)
theorem p38 {l : List Int} (hl : Byt l) {K : PV → Heap → Prop} (hK : ∀ (t : List (List Int)) (L : List Int), t.length ≤ 7 → Mp6 t → L.length ≤ 6 → K (.tup [.list (aggs t), .list (ints L)]) []) : ACall Tryz.prog 38 [.list (u8s l)] [] K := by
 refine e38 (by simp) fun _ _ => ?_
 simp only [k38, argEnv, go_sem]
 refine p55 hl fun h => ?_
 have hS0 : Src [srcO l 0 h] 0 l := ⟨0, h, rfl, Nat.zero_le _⟩
 try simp only [OpK_eq, HKv, go_sem]
 refine p78 hl hS0 fun t τ q1 q2 q3 q4 => ?_
 try simp only [OpK_eq, HKv, go_sem]
 refine p98 hl q3 t q1 q2 fun L ρ r1 r2 r3 => ?_
 try simp only [OpK_eq, HKv, go_sem]
 exact Kv.Fin.freeze .still (hK t L q1 q2 r1)
theorem row_len {n b : Nat} (h5 : n ≤ 5) (hb : b < 2 ^ n) : (nz (pof b 62)).length ≤ 5 := by
 rw [nz_len, pof62 h5 hb]
 unfold pof
 have := List.length_filter_le (fun i => b.testBit i) (List.range n)
 simp at this; omega
theorem imS_rows {fs : List (List Nat)} {n x : Nat} (h5 : n ≤ 5) (hf : ∀ f ∈ fs, Ok f n) (h1 : 1 ≤ x) (h : x < 2 ^ n) : (imS fs n x).length ≤ 32 ∧ ∀ r ∈ rowsB (imS fs n x), r.length ≤ 5 := by
 have hb : ∀ b ∈ imS fs n x, b < 2 ^ n := fun b hb => (Rc.bnd hf h1 h ((imS_mem h5 hf h1 h b).1 hb)).2
 refine ⟨srt_len5 (imS_srt h5) h5 hb, fun r hr => ?_⟩
 obtain ⟨b, hb2, rfl⟩ := List.mem_map.1 hr
 exact row_len h5 (hb b hb2)
theorem is_loc (t : List (List Int)) (h7 : t.length ≤ 7) (h6 : Mp6 t) (P : List Int) (hP : P.length ≤ 6) : ∃ (V : PV) (c : Int), Still V ∧ Pure Tryz.prog 39 [.list (aggs t), .list (ints P)] (.tup [V, .int .i64 c]) ∧ Pure Tryz.prog 40 [.list (aggs t), .list (ints P)] (.tup [V, .int .i64 c]) ∧ ((c = 0 ∧ ∃ T, V = .list (rows T) ∧ P ∈ T ∧ T.length ≤ 32 ∧ ∀ r ∈ T, r.length ≤ 5) ∨ (c ≠ 0 ∧ V = .nils)) := by
 by_cases hc : fsc t P = 0
 ·obtain ⟨h1, h2⟩ := fsc_zero hc
  obtain ⟨fs, n, rfl, hf, hl1, hl2, hn, hn1, hn5⟩ := lcode_maps h6 h1
  rw [hn] at h2
  have haP := bad_asc h2
  obtain ⟨b1, b2, b3⟩ := asc_bitsY hn5 haP
  obtain ⟨r1, r2⟩ := imS_rows hn5 hf b1 b2
  exact ⟨_, 0, inferInstance, NewTO.frozen (p39_in fs n hf (by omega) hl2 h1 P h2), p40_in fs n hf (by omega) hl2 h1 P h2, .inl ⟨rfl, _, rfl, im_self hn5 hf haP, by simp [rowsB]; exact r1, r2⟩⟩
 ·exact ⟨.nils, fsc t P, inferInstance, p39_out t P (by omega) h6 (by omega) hc, p40_out t P (by omega) h6 (by omega) hc, .inr ⟨hc, rfl⟩⟩
theorem p35 {l : List Int} (hl : Byt l) {K : PV → Heap → Prop} (hK : ∀ (t : List (List Int)) (L M : List Int), t.length ≤ 7 → Mp6 t → L.length ≤ 6 → M.length ≤ 6 → K (.tup [.list (aggs t), .list (ints L), .list (ints M)]) []) : ACall Tryz.prog 35 [.list (u8s l)] [] K := by
 refine e35 (by simp) fun _ _ => ?_
 simp only [k35, argEnv, go_sem]
 refine p55 hl fun h => ?_
 have hS0 : Src [srcO l 0 h] 0 l := ⟨0, h, rfl, Nat.zero_le _⟩
 try simp only [OpK_eq, HKv, go_sem]
 refine p78 hl hS0 fun t τ q1 q2 q3 q4 => ?_
 try simp only [OpK_eq, HKv, go_sem]
 refine p98 hl q3 t q1 q2 fun L ρ r1 r2 r3 => ?_
 try simp only [OpK_eq, HKv, go_sem]
 obtain ⟨V, c, hV, _, hs, hc⟩ := is_loc t q1 q2 L r1
 refine hs.go ?_
 rcases hc with ⟨rfl, T, rfl, hT1, hT2, hT3⟩ | ⟨hc, rfl⟩
 rotate_left
 try simp only [OpK_eq, HKv, hc, decide_false, go_sem]
 have hS := r2
 rotate_left
 try simp only [OpK_eq, HKv, go_sem]
 refine p56 hl r2 _ fun r0 ρ2 a0 a1 a2 _ _ => ?_
 have hS := a2
 have hT0 := List.length_pos_of_mem hT1
 try simp only [OpK_eq, HKv, go_sem]
 refine ⟨fun _ => ?_, fun _ => ?_⟩
 ·refine p56 hl a2 _ fun rr ρ3 b0 b1 b2 _ _ => ?_
  have b1 := b1 (by omega)
  have hr1 : rr.toNat < T.length := by omega
  try simp only [OpK_eq, HKv, go_sem]
  refine ⟨⟨b0, b1⟩, fun _ => Kv.Fin.freeze .still (hK t L _ q1 q2 r1 ?_)⟩
  have := hT3 _ (getD_memR hr1)
  omega
 all_goals
  refine p98 hl hS t q1 q2 fun M ρ4 m1 m2 m3 => ?_
  try simp only [OpK_eq, HKv, go_sem]
  exact Kv.Fin.freeze .still (hK t L M q1 q2 r1 m1)
end Go.Proofs.YthbbjbfbeaiphaaGreat
end
