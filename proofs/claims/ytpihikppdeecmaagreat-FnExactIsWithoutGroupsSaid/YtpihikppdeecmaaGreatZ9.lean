/- Several texts of this session as one, less what the claim does not need. -/
import Derived.Test.YtpihikppdeecmaaGreatCb
import Derived.Test.YtpihikppdeecmaaGreatZ6
import Derived.Test.YtpihikppdeecmaaGreatZ8
import Derived.Test.YtpihikppdeecmaaGreatG1
import Derived.Test.YtpihikppdeecmaaGreatFC
import Derived.Test.YtpihikppdeecmaaGreatZ7
section
/- Numbers of maps of the same shape: both sides. -/
namespace Go.Proofs.YtpihikppdeecmaaGreat
open Go.Kv
set_option linter.unusedVariables false
set_option linter.unusedSimpArgs false
attribute [local irreducible] ACall PCall KL
def kept (f : List Nat) (n x : Nat) : Nat := (((prm n).take x).filter fun g => decide (mul f g = mul g f)).length
end Go.Proofs.YtpihikppdeecmaaGreat
end
section
/- Inverses of permutations, renumbered maps, comparing of maps: both sides. -/
namespace Go.Proofs.YtpihikppdeecmaaGreat
open Go.Kv
set_option maxRecDepth 100000
def k121_b0 : KC := (.seq (.seq (.ops [mV 16 5, oP 17 (.fieldA 0 (.t 2)), oP 18 (.load false 1 (.t 17)), oP 19 (.bin .lss (.t 16) (.t 18))])
  (.cond (.t 19) .skip (.exit 0)))
  (.seq (.block 1 (.seq (.draw [mV 22 5, oP 23 (.fieldA 1 (.t 2)), oP 24 (.idxA 5 1 (.t 23) (.t 22)), oP 25 (.load false 1 (.t 24)), mV 26 5, oP 27 (.fieldA 1 (.t 3)), oP 28 (.idxA 5 1 (.t 27) (.t 26)), oP 29 (.load false 1 (.t 28)), oP 30 (.bin .neq (.t 25) (.t 29))])
  (.cond (.t 30) (.seq (.draw [mV 31 5, oP 32 (.fieldA 1 (.t 2)), oP 33 (.idxA 5 1 (.t 32) (.t 31)), oP 34 (.load false 1 (.t 33)), mV 35 5, oP 36 (.fieldA 1 (.t 3)), oP 37 (.idxA 5 1 (.t 36) (.t 35)), oP 38 (.load false 1 (.t 37)), oP 39 (.bin .lss (.t 34) (.t 38)), mV 4 39])
  .ret) .skip)))
  (.ops [mV 20 5, oP 21 (.bin .add (.t 20) (iC 1)), mV 5 21])))
def k121 : KC := (.seq (.ops [oP 2 (.box true (.t 0)), oP 3 (.box true (.t 1)), oP 4 (.mv (.c (.bool false)))])
  (.seq (.seq (.ops [oP 6 (.fieldA 0 (.t 2)), oP 7 (.load false 1 (.t 6)), oP 8 (.fieldA 0 (.t 3)), oP 9 (.load false 1 (.t 8)), oP 10 (.bin .neq (.t 7) (.t 9))])
  (.cond (.t 10) (.seq (.ops [oP 11 (.fieldA 0 (.t 2)), oP 12 (.load false 1 (.t 11)), oP 13 (.fieldA 0 (.t 3)), oP 14 (.load false 1 (.t 13)), oP 15 (.bin .lss (.t 12) (.t 14)), mV 4 15])
  .ret) .skip))
  (.seq (.seq (.ops [oP 5 (.mv (iC 0))])
  (.block 0 (.loop k121_b0)))
  (.seq (.ops [oP 4 (.mv (.c (.bool false)))])
  .ret))))
theorem e121 : Ent 121 40 [2, 3] [.t 4] k121 := ent Tryz.func121 (by kernel_rfl) (by kernel_rfl) (by kernel_rfl) (fun _ => by kernel_rfl) (by kernel_rfl)
end Go.Proofs.YtpihikppdeecmaaGreat
namespace Go.Proofs.YtpihikppdeecmaaGreat
open Go.Kv
set_option linter.unusedVariables false
set_option linter.unusedSimpArgs false
attribute [local irreducible] ACall PCall KL
/-- The inverse, as far as it is told by the first i points; the rest stands as it did. -/
def invS (p : List Nat) (b : Nat → Nat) (i : Nat) : List Nat := (List.range p.length).map fun y => if y ∈ p.take i then p.idxOf y else b y
@[simp] theorem invS_length (p : List Nat) (b : Nat → Nat) (i : Nat) : (invS p b i).length = p.length := by simp [invS]
def cmpL : List Int → List Int → Int
  | a :: xs, b :: ys => if a < b then -1 else if b < a then 1 else cmpL xs ys
  | _, _ => 0
theorem cmpL_same : ∀ l, cmpL l l = 0
  | [] => rfl
  | a :: l => by simp [cmpL, cmpL_same l]
theorem cmpL_app : ∀ (xs ys zs : List Int), xs.length = ys.length → cmpL (xs ++ zs) (ys ++ zs) = cmpL xs ys
  | [], [], zs, _ => by simp [cmpL, cmpL_same]
  | a :: xs, b :: ys, zs, h => by
    simp only [List.cons_append, cmpL]
    rw [cmpL_app xs ys zs (by simpa using h)]
  | [], _ :: _, _, h => by simp at h
  | _ :: _, [], _, h => by simp at h
theorem cmpL_drop {xs ys : List Int} {i : Nat} (h1 : i < xs.length) (h2 : i < ys.length) : cmpL (xs.drop i) (ys.drop i) = if xs.getD i 0 < ys.getD i 0 then -1 else if ys.getD i 0 < xs.getD i 0 then 1 else cmpL (xs.drop (i + 1)) (ys.drop (i + 1)) := by
  rw [List.drop_eq_getElem_cons h1, List.drop_eq_getElem_cons h2, cmpL]
  simp [List.getD_eq_getElem?_getD, h1, h2]
/-- What comes first. -/
def ltM (f g : List Nat) : Bool := decide (cmpL (f.map fun x : Nat => (x : Int)) (g.map fun x : Nat => (x : Int)) < 0)
theorem p121 (f g : List Nat) (n : Nat) (hf : Ok f n) (hg : Ok g n) : Pure Tryz.prog 121 [.agg (ints (mp f)), .agg (ints (mp g))] (.bool (ltM f g)) := by
  have hlf := hf.mp_len
  have hlg := hg.mp_len
  have h5 := hf.le
  have hml : (f.map fun x : Nat => (x : Int)).length = n := by simp [hf.len]
  have hmg : (g.map fun x : Nat => (x : Int)).length = n := by simp [hg.len]
  have hgf : ∀ x, x < n → (f.map fun x : Nat => (x : Int)).getD x 0 = (f.getD x 0 : Int) := fun x _ => natD f x
  have hgg : ∀ x, x < n → (g.map fun x : Nat => (x : Int)).getD x 0 = (g.getD x 0 : Int) := fun x _ => natD g x
  refine e121 (by simp) fun _ _ => ?_
  simp only [k121, argEnv, hlf, hlg, hf.len, hg.len, go_sem]
  refine KL_ind k121_b0.eq_1 (fun x : Nat => [(2, .fptr (ints (mp f)) 0), (3, .fptr (ints (mp g)) 0), (5, .int .i64 x)]) (fun _ => []) (fun x => x ≤ n ∧ cmpL (f.map fun x : Nat => (x : Int)) (g.map fun x : Nat => (x : Int)) = cmpL ((f.map fun x : Nat => (x : Int)).drop x) ((g.map fun x : Nat => (x : Int)).drop x)) (fun x => n - x) [2, 3, 5] 0 (by simp [keep]) rfl ⟨Nat.zero_le _, by simp⟩ fun x ⟨hx, hc⟩ ih => ?_
  try simp only [hlf, hlg, hf.len, hg.len, go_sem]
  refine ⟨fun h1 => ?_, fun h1 => ?_⟩
  · have hxn : x < n := by omega
    have hd := cmpL_drop (xs := f.map fun x : Nat => (x : Int)) (ys := g.map fun x : Nat => (x : Int)) (i := x) (by omega) (by omega)
    rw [hgf x hxn, hgg x hxn] at hd
    refine ⟨by omega, by omega, fun _ => ⟨by omega, by omega, fun _ => ⟨fun h2 => ⟨by omega, by omega, fun _ => ⟨by omega, by omega, fun _ => Kv.Fin.still ⟨?_, rfl⟩⟩⟩, fun h2 => ⟨by omega, ih (x + 1) ⟨by omega, ?_⟩ (by omega) _ _ (by simp [keep]) rfl⟩⟩⟩⟩
    · unfold ltM
      rw [hc, hd]
      by_cases h3 : (f.getD x 0 : Int) < g.getD x 0
      · rw [if_pos h3]; simp only [h3]; rfl
      · rw [if_neg h3, if_pos (by omega)]; simp only [h3]; rfl
    · rw [hc, hd, if_neg (by omega), if_neg (by omega)]
  · obtain rfl : x = n := by omega
    have e : cmpL (f.map fun x : Nat => (x : Int)) (g.map fun x : Nat => (x : Int)) = 0 := by
      rw [hc, List.drop_of_length_le (by omega), List.drop_of_length_le (by omega)]; rfl
    refine Kv.Fin.still ⟨?_, rfl⟩
    unfold ltM; rw [e]; rfl
end Go.Proofs.YtpihikppdeecmaaGreat
end
section
/- Least forms of maps: both sides of LeastForm and AreSameShape. -/
end
section
/- The classes of maps: plain laws. -/
namespace Go.Proofs.YtpihikppdeecmaaGreat
open Go.Kv
set_option linter.unusedVariables false
set_option linter.unusedSimpArgs false
attribute [local irreducible] ACall PCall KL
/-- The number of a map. -/
def nbl (n : Nat) : List Nat → Nat
  | [] => 0
  | a :: r => a * n ^ r.length + nbl n r
theorem nbl_lt {n : Nat} : ∀ {l : List Nat}, (∀ x ∈ l, x < n) → nbl n l < n ^ l.length
  | [], _ => by simp [nbl]
  | a :: r, h => by
    have h1 := nbl_lt (l := r) fun x hx => h x (by simp [hx])
    have h2 := h a (by simp)
    simp only [nbl, List.length_cons, Nat.pow_succ]
    have h3 : (a + 1) * n ^ r.length ≤ n * n ^ r.length := Nat.mul_le_mul_right _ h2
    rw [Nat.succ_mul] at h3
    rw [Nat.mul_comm (n ^ r.length) n]
    omega
theorem cmp_nbl {n : Nat} : ∀ (f g : List Nat), f.length = g.length → (∀ x ∈ f, x < n) → (∀ x ∈ g, x < n) → (cmpL (f.map fun x : Nat => (x : Int)) (g.map fun x : Nat => (x : Int)) < 0 ↔ nbl n f < nbl n g)
  | [], [], _, _, _ => by simp [cmpL]
  | [], _ :: _, h, _, _ => by simp at h
  | _ :: _, [], h, _, _ => by simp at h
  | a :: r, b :: s, h, hf, hg => by
    have hl : r.length = s.length := by simpa using h
    have ih := cmp_nbl r s hl (fun x hx => hf x (by simp [hx])) (fun x hx => hg x (by simp [hx]))
    have h1 := nbl_lt (l := r) fun x hx => hf x (by simp [hx])
    have h2 := nbl_lt (l := s) fun x hx => hg x (by simp [hx])
    simp only [List.map_cons, cmpL, nbl]
    rw [hl] at h1 ⊢
    by_cases e1 : a < b
    · have h3 : (a + 1) * n ^ s.length ≤ b * n ^ s.length := Nat.mul_le_mul_right _ e1
      rw [Nat.succ_mul] at h3
      rw [if_pos (by omega)]
      constructor
      · intro _; omega
      · intro _; omega
    · by_cases e2 : b < a
      · have h3 : (b + 1) * n ^ s.length ≤ a * n ^ s.length := Nat.mul_le_mul_right _ e2
        rw [Nat.succ_mul] at h3
        rw [if_neg (by omega), if_pos (by omega)]
        constructor
        · intro h; omega
        · intro _; omega
      · obtain rfl : a = b := by omega
        rw [if_neg (by omega), if_neg (by omega), ih]
        omega
theorem ltM_nbl {f g : List Nat} {n : Nat} (hf : Ok f n) (hg : Ok g n) : ltM f g = true ↔ nbl n f < nbl n g := by
  unfold ltM
  rw [decide_eq_true_iff]
  exact cmp_nbl f g (by rw [hf.len, hg.len]) hf.lt hg.lt
theorem nbl_dg {n : Nat} (hn : 1 ≤ n) : ∀ j k, nbl n (dg n j k) = k % n ^ j
  | 0, k => by simp [dg, nbl, Nat.mod_one]
  | j + 1, k => by
    simp only [dg, nbl, dg_length, nbl_dg hn j k]
    rw [Nat.pow_succ, Nat.mod_mul, Nat.mul_comm, Nat.add_comm]
theorem nbl_at {n k : Nat} (hn : 1 ≤ n) (hk : k < n ^ n) : nbl n (dg n n k) = k := by rw [nbl_dg hn, Nat.mod_eq_of_lt hk]
theorem dg_nbl {n : Nat} {f : List Nat} (hf : Ok f n) : nbl n f < n ^ n ∧ dg n n (nbl n f) = f := by
  have h := allM_mem hf.pos hf.len hf.lt
  simp only [allM, List.mem_map, List.mem_range] at h
  obtain ⟨k, hk, rfl⟩ := h
  rw [nbl_at hf.pos hk]
  exact ⟨hk, rfl⟩
theorem nbl_inj {n : Nat} {f g : List Nat} (hf : Ok f n) (hg : Ok g n) (h : nbl n f = nbl n g) : f = g := by
  rw [← (dg_nbl hf).2, h, (dg_nbl hg).2]
end Go.Proofs.YtpihikppdeecmaaGreat
end
section
/- The number of classes of maps: both sides. -/
namespace Go.Proofs.YtpihikppdeecmaaGreat
open Go.Kv
set_option linter.unusedVariables false
set_option linter.unusedSimpArgs false
attribute [local irreducible] ACall PCall KL
def bls (m : List Bool) : List PV := m.map PV.bool
@[simp] theorem bls_length (m : List Bool) : (bls m).length = m.length := by simp [bls]
theorem bls_get {m : List Bool} {i : Nat} (h : i < m.length) : (bls m)[i]? = some (.bool (m.getD i false)) := by
  simp [bls, List.getD_eq_getElem?_getD, h]
theorem bls_set (m : List Bool) (i : Nat) (b : Bool) : (bls m).set i (.bool b) = bls (m.set i b) := by simp [bls, List.map_set]
end Go.Proofs.YtpihikppdeecmaaGreat
end
section
/- Code cut at its spine. -/
namespace Go.Proofs.YtpihikppdeecmaaGreat
open Go.Kv
set_option linter.unusedVariables false
set_option linter.unusedSimpArgs false
attribute [local irreducible] ACall PCall KL
def hdK : KC → KC
  | .seq a _ => a
  | k => k
def tlK : KC → KC
  | .seq _ b => b
  | k => k
def drK : Nat → KC → KC
  | 0, k => k
  | n + 1, k => drK n (tlK k)
def upK : Nat → KC → KC → KC
  | 0, _, t => t
  | n + 1, k, t => .seq (hdK k) (upK n (tlK k) t)
end Go.Proofs.YtpihikppdeecmaaGreat
end
section
/- Points of two acceptors told apart: the specification. -/
namespace Go.Proofs.YtpihikppdeecmaaGreat
open Go.Kv
set_option maxRecDepth 100000
def k52_b0 : KC := (.seq (.seq (.ops [mV 75 17, oP 76 (.fieldA 0 (.t 4)), oP 77 (.load false 1 (.t 76)), oP 78 (.len false (.t 77)), oP 79 (.bin .lss (.t 75) (.t 78))])
  (.cond (.t 79) .skip (.exit 2)))
  (.seq (.block 3 (.seq (.draw [oP 82 (.fieldA 0 (.t 4)), oP 83 (.load false 1 (.t 82)), mV 84 17, mV 85 15, oP 86 (.idxS 6 (.t 83) (.t 84)), oP 87 (.fieldA 1 (.t 86)), oP 88 (.idxA 5 1 (.t 87) (.t 85)), oP 89 (.load false 1 (.t 88)), oP 90 (.fieldA 0 (.t 5)), oP 91 (.load false 1 (.t 90)), mV 92 17, mV 93 16, oP 94 (.idxS 6 (.t 91) (.t 92)), oP 95 (.fieldA 1 (.t 94)), oP 96 (.idxA 5 1 (.t 95) (.t 93)), oP 97 (.load false 1 (.t 96)), mV 18 89, mV 19 97])
  (.seq (.ops [mV 98 13, mV 99 18, mV 100 10, oP 101 (.bin .mul (.t 99) (.t 100)), mV 102 19, oP 103 (.bin .add (.t 101) (.t 102)), oP 104 (.idxS 1 (.t 98) (.t 103)), oP 105 (.load false 1 (.t 104)), oP 106 (.not (.t 105))])
  (.cond (.t 106) (.seq (.ops [mV 107 13, mV 108 18, mV 109 10, oP 110 (.bin .mul (.t 108) (.t 109)), mV 111 19, oP 112 (.bin .add (.t 110) (.t 111)), oP 113 (.idxS 1 (.t 107) (.t 112)), ⟨none, none, .store 1 (.t 113) (.c (.bool true))⟩])
  (.seq (.ops [mV 114 11, mV 115 18, mV 116 19, oP 117 (.bsl false 2 1 [(.t 115), (.t 116)]), oP 118 (.bsl true 23 1 [(.t 117)]), oP 119 (.app (.t 114) (.t 118) 23 1), mV 11 119])
  (.ops [mV 120 12, mV 121 12, mV 122 14, oP 123 (.idxS 1 (.t 121) (.t 122)), oP 124 (.load false 1 (.t 123)), oP 125 (.call (fC 108) [(.t 124)]), mV 126 17, oP 127 (.bsl true 2 1 [(.t 126)]), oP 128 (.app (.t 125) (.t 127) 2 1), oP 129 (.bsl true 23 1 [(.t 128)]), oP 130 (.app (.t 120) (.t 129) 23 1), mV 12 130]))) .skip))))
  (.ops [mV 80 17, oP 81 (.bin .add (.t 80) (iC 1)), mV 17 81])))
def k52_b1 : KC := (.seq (.seq (.ops [mV 46 14, mV 47 11, oP 48 (.len false (.t 47)), oP 49 (.bin .lss (.t 46) (.t 48))])
  (.cond (.t 49) .skip (.exit 0)))
  (.seq (.block 1 (.seq (.draw [mV 52 11, mV 53 14, oP 54 (.idxS 1 (.t 52) (.t 53)), oP 55 (.load false 1 (.t 54)), oP 56 (.idxS 1 (.t 55) (iC 0)), oP 57 (.load false 1 (.t 56)), mV 58 11, mV 59 14, oP 60 (.idxS 1 (.t 58) (.t 59)), oP 61 (.load false 1 (.t 60)), oP 62 (.idxS 1 (.t 61) (iC 1)), oP 63 (.load false 1 (.t 62)), mV 15 57, mV 16 63])
  (.seq (.seq (.draw [oP 64 (.load true 3 (.t 4)), mV 65 15, oP 67 (.load true 3 (.t 5)), mV 68 16, oP 66 (.pcall (fC 84) [(.t 64), (.t 65)]), oP 69 (.pcall (fC 84) [(.t 67), (.t 68)]), oP 70 (.beq true (.t 66) (.t 69))])
  (.cond (.t 70) (.seq (.ops [mV 71 12, mV 72 14, oP 73 (.idxS 1 (.t 71) (.t 72)), oP 74 (.load false 1 (.t 73)), mV 8 74, oP 9 (.mv (.c (.bool true)))])
  .ret) .skip))
  (.seq (.ops [oP 17 (.mv (iC 0))])
  (.block 2 (.loop k52_b0))))))
  (.ops [mV 50 14, oP 51 (.bin .add (.t 50) (iC 1)), mV 14 51])))
abbrev k52s0 : KT := (.op (mV 12 30) (.op (oP 38 (.mks 4 1 (.bool false) (.t 37) (.t 37))) (.op (mV 13 38) .fin)))
abbrev k52s1 : KT := (.op (oP 30 (.bsl false 23 1 [(.t 29)])) (.op (mV 12 30) (.op (mV 13 38) .fin)))
abbrev k52s2 : KT := (.alt (.op (oP 30 (.bsl false 23 1 [(.t 29)])) k52s0) (.op (oP 38 (.mks 4 1 (.bool false) (.t 37) (.t 37))) k52s1))
abbrev k52s3 : KT := (.op (oP 28 (.bsl false 23 1 [(.t 27)])) (.op (mV 11 28) (.op (mV 12 30) (.op (mV 13 38) .fin))))
abbrev k52s4 : KT := (.alt (.op (oP 28 (.bsl false 23 1 [(.t 27)])) (.op (mV 11 28) k52s0)) (.op (oP 38 (.mks 4 1 (.bool false) (.t 37) (.t 37))) k52s3))
abbrev k52s5 : KT := (.alt (.op (oP 28 (.bsl false 23 1 [(.t 27)])) (.op (mV 11 28) k52s1)) (.op (oP 30 (.bsl false 23 1 [(.t 29)])) k52s3))
abbrev k52s6 : KT := (.alt (.op (oP 28 (.bsl false 23 1 [(.t 27)])) (.op (mV 11 28) k52s2)) (.alt (.op (oP 30 (.bsl false 23 1 [(.t 29)])) k52s4) (.op (oP 38 (.mks 4 1 (.bool false) (.t 37) (.t 37))) k52s5)))
abbrev k52s7 : KT := (.alt (.op (oP 28 (.bsl false 23 1 [(.t 27)])) (.op (mV 11 28) (.op (oP 29 (.bsl false 2 1 [])) k52s1))) (.op (oP 29 (.bsl false 2 1 [])) k52s5))
abbrev k52s8 : KT := (.op (oP 27 (.bsl false 2 1 [(.t 25), (.t 26)])) k52s3)
abbrev k52s9 : KT := (.alt (.op (oP 27 (.bsl false 2 1 [(.t 25), (.t 26)])) k52s5) (.op (oP 30 (.bsl false 23 1 [(.t 29)])) k52s8))
def k52 : KC := (.seq (.ops [oP 4 (.box true (.t 0)), oP 5 (.box true (.t 1)), oP 8 (.mv (.c (.nils))), oP 9 (.mv (.c (.bool false)))])
  (.seq (.ops [oP 20 (.fieldA 0 (.t 5)), oP 21 (.load false 1 (.t 20)), oP 22 (.idxS 6 (.t 21) (iC 0)), oP 23 (.fieldA 0 (.t 22)), oP 24 (.load false 1 (.t 23)), mV 10 24])
  (.seq (.tree (.op (mV 25 2) (.op (mV 26 3) (.op (oP 31 (.fieldA 0 (.t 4))) (.op (oP 32 (.load false 1 (.t 31))) (.op (oP 33 (.idxS 6 (.t 32) (iC 0))) (.op (oP 34 (.fieldA 0 (.t 33))) (.op (oP 35 (.load false 1 (.t 34))) (.op (mV 36 10) (.op (oP 37 (.bin .mul (.t 35) (.t 36))) (.alt (.op (oP 27 (.bsl false 2 1 [(.t 25), (.t 26)])) (.alt (.op (oP 28 (.bsl false 23 1 [(.t 27)])) (.op (mV 11 28) (.alt (.op (oP 29 (.bsl false 2 1 [])) k52s2) (.op (oP 38 (.mks 4 1 (.bool false) (.t 37) (.t 37))) (.op (oP 29 (.bsl false 2 1 [])) k52s1))))) (.alt (.op (oP 29 (.bsl false 2 1 [])) k52s6) (.op (oP 38 (.mks 4 1 (.bool false) (.t 37) (.t 37))) k52s7)))) (.alt (.op (oP 29 (.bsl false 2 1 [])) (.alt (.op (oP 27 (.bsl false 2 1 [(.t 25), (.t 26)])) k52s6) (.alt (.op (oP 30 (.bsl false 23 1 [(.t 29)])) (.alt (.op (oP 27 (.bsl false 2 1 [(.t 25), (.t 26)])) k52s4) (.op (oP 38 (.mks 4 1 (.bool false) (.t 37) (.t 37))) k52s8))) (.op (oP 38 (.mks 4 1 (.bool false) (.t 37) (.t 37))) k52s9)))) (.op (oP 38 (.mks 4 1 (.bool false) (.t 37) (.t 37))) (.alt (.op (oP 27 (.bsl false 2 1 [(.t 25), (.t 26)])) k52s7) (.op (oP 29 (.bsl false 2 1 [])) k52s9)))))))))))))))
  (.seq (.ops [mV 39 13, mV 40 2, mV 41 10, oP 42 (.bin .mul (.t 40) (.t 41)), mV 43 3, oP 44 (.bin .add (.t 42) (.t 43)), oP 45 (.idxS 1 (.t 39) (.t 44)), ⟨none, none, .store 1 (.t 45) (.c (.bool true))⟩])
  (.seq (.seq (.ops [oP 14 (.mv (iC 0))])
  (.block 0 (.loop k52_b1)))
  (.seq (.ops [oP 8 (.mv (.c (.nils))), oP 9 (.mv (.c (.bool false)))])
  .ret))))))
theorem e52 : Ent 52 131 [4, 5, 118, 127, 129] [.t 8, .t 9] k52 := ent Tryz.func52 (by kernel_rfl) (by kernel_rfl) (by kernel_rfl) (fun _ => by kernel_rfl) (by kernel_rfl)
end Go.Proofs.YtpihikppdeecmaaGreat
namespace Go.Proofs.YtpihikppdeecmaaGreat
open Go.Kv
set_option linter.unusedVariables false
set_option linter.unusedSimpArgs false
attribute [local irreducible] ACall PCall KL
/-- What is met, the words, the pairs, in the heap. -/
structure ApH (σ : Heap) (i1 i2 i3 v1 v2 : Nat) (ws1 ws2 : List PV) (M : List Bool) (N m : Nat) (L : List Met) : Prop where
  p : WG σ (fun id => id = i2 ∨ id = i3) i1 v1 ws1 (L.map Prod.fst)
  w : WG σ (fun id => id = i1 ∨ id = i3) i2 v2 ws2 (L.map Prod.snd)
  b : σ[i3]? = some (.arr 0 4 1 (bls M))
  ml : M.length = N * m
  mt : ∀ c, c < N * m → (M.getD c false = true ↔ ∃ x ∈ L, pcode m x.1 = c)
  wl : ∀ x ∈ L, x.2.length + 1 ≤ L.length
  d12 : i1 ≠ i2
  d13 : i1 ≠ i3
  d23 : i2 ≠ i3
/-- What tells two points apart, as the specification says it. -/
def apW (o : Option (List Int)) : PV := match o with
  | some w => .tup [.list (ints w), .bool true]
  | none => .tup [.nils, .bool false]
theorem advN_preI (fs : List (List Nat)) (bf : List Nat → List Int → List Int) (Q : List Met) (m : Met) (k : Nat) : ∃ r, advN fs bf Q m k = Q ++ r := advN_preE fs bf Q m k
theorem wd_two {σ : Heap} {A : Nat → Prop} {w : PV} {u v : Int} (h : Wd σ A w [u, v]) : ∃ id ver, w = .ref id ver 0 2 ∧ σ[id]? = some (.arr ver 2 1 (ints [u, v])) ∧ ¬ A id := by
  rcases h with ⟨_, h⟩ | ⟨id, ver, rfl, h1, h2⟩
  · cases h
  · exact ⟨id, ver, rfl, h1, h2⟩
section
variable {K : PV → Heap → Prop}
theorem ap_loop (fs gs : List (List Nat)) (n m : Nat) (hf : ∀ f ∈ fs, Ok f n) (hg : ∀ g ∈ gs, Ok g m) (hl : fs.length = gs.length) (hfl : fs.length ≤ 1000) (hn5 : n ≤ 5) (hm5 : m ≤ 5) (la lb : List Nat) (hla : ∀ x ∈ la, x < 5) (hlb : ∀ x ∈ lb, x < 5) (hLa : la.length ≤ 1048576) (hLb : lb.length ≤ 1048576) (qa qb : Int) (p q : Nat) (hp : p < n) (hq : q < m)
    (hK : K (apW (fwp fs gs la lb p q)) []) {Q : Exit → Env → Heap → Prop}
    (hQ1 : ∀ env σ (w : PV) (l : List Int), fwp fs gs la lb p q = some l → Imm σ w (.list (ints l)) → Kv.look env 8 = w → Kv.look env 9 = .bool true → Q .ret env σ)
    (hQ2 : ∀ env σ, fwp fs gs la lb p q = none → Q (.exit 0) env σ)
    (σ : Heap) (i1 i2 i3 : Nat) (ws1 ws2 : List PV) (M : List Bool) (hH : ApH σ i1 i2 i3 0 0 ws1 ws2 M n m (pq fs gs p q 0)) (env : Env)
    (he : keep [4, 5, 10, 11, 12, 13, 14] env = [(4, .fptr [.list (aggs (fs.map mp)), .int .i64 qa, .list (ints (nz la))] 0), (5, .fptr [.list (aggs (gs.map mp)), .int .i64 qb, .list (ints (nz lb))] 0), (10, .int .i64 m), (11, .ref i1 0 0 1), (12, .ref i2 0 0 1), (13, .ref i3 0 0 (n * m)), (14, .int .i64 0)]) :
    KL (mkCfg Tryz.prog mixed [4, 5, 118, 127, 129] 131 0) k52_b1 Q env σ := by
  have hS0 : pq fs gs p q 0 = [(([(p : Int), (q : Int)], []) : Met)] := rfl
  have hSs : ∀ i (h : i < (pq fs gs p q i).length), pq fs gs p q (i + 1) = advN (ixs fs.length) (ld2 fs gs) (pq fs gs p q i) (pq fs gs p q i)[i] fs.length := fun i h => pq_succ h
  have hall := fun i => pq_all (fs := fs) (gs := gs) (p := p) (q := q) i
  have hlen := fun i => pq_len hf hg hl hp hq hn5 hm5 i
  have hF1 : ∀ i, FH fs gs la lb p q i → fwp fs gs la lb p q = some ((pq fs gs p q i).getD i ([], [])).2 := fun i h => fwp_some h
  have hF2 : ∀ i, i = (pq fs gs p q i).length → _ → fwp fs gs la lb p q = none := fun i h h' => fwp_none (la := la) (lb := lb) h h'
  unfold FH at hF1
  generalize fwp fs gs la lb p q = o at *
  generalize pq fs gs p q = S at *
  refine KL_ind k52_b1.eq_1 (fun x : Nat × Nat × Nat × List PV × List PV × List Bool × Heap => [(4, .fptr [.list (aggs (fs.map mp)), .int .i64 qa, .list (ints (nz la))] 0), (5, .fptr [.list (aggs (gs.map mp)), .int .i64 qb, .list (ints (nz lb))] 0), (10, .int .i64 m), (11, .ref i1 x.2.1 0 (S x.1).length), (12, .ref i2 x.2.2.1 0 (S x.1).length), (13, .ref i3 0 0 (n * m)), (14, .int .i64 x.1)]) (fun x => x.2.2.2.2.2.2)
    (fun x => x.1 ≤ (S x.1).length ∧ (∀ j, j < x.1 → j < (S j).length → dfr la lb ((S j).getD j ([], [])).1 = false) ∧ ApH x.2.2.2.2.2.2 i1 i2 i3 x.2.1 x.2.2.1 x.2.2.2.1 x.2.2.2.2.1 x.2.2.2.2.2.1 n m (S x.1)) (fun x => 26 - x.1) [4, 5, 10, 11, 12, 13, 14]
    (0, 0, 0, ws1, ws2, M, σ) (by rw [he]; simp [hS0]) rfl ⟨Nat.zero_le _, fun j h => by omega, hH⟩ fun ⟨i, v1, v2, ws1, ws2, M, σ⟩ ⟨hi, hno, hH⟩ ih => ?_
  simp only at hi hno hH
  have hli := hlen i
  obtain ⟨hPm, hnd⟩ := hall i
  have g1 := hH.p.out
  have g2 := hH.w.out
  have gl1 := hH.p.len
  have gl2 := hH.w.len
  rw [List.length_map] at gl1 gl2
  try simp only [OpK_eq, HKv, g1, go_sem]
  refine ⟨fun h2 => ?_, fun h2 => ?_⟩
  · have hil : i < (S i).length := by omega
    have hSi := hSs i hil
    have hmP := hPm _ (List.getElem_mem hil)
    obtain ⟨u, v, hu, hv, huv⟩ := hmP.two hf hg hl hp hq
    obtain ⟨w1, hw1, hWd1⟩ := hH.p.cell (i := i) (by rw [List.length_map]; exact hil)
    obtain ⟨w2, hw2, hWd2⟩ := hH.w.cell (i := i) (by rw [List.length_map]; exact hil)
    rw [List.getElem_map] at hWd1 hWd2
    have hgD : (S i).getD i ([], []) = (S i)[i] := by rw [List.getD_eq_getElem?_getD, List.getElem?_eq_getElem hil]; rfl
    have hF1 := hF1 i
    rw [hgD] at hF1
    generalize hm' : (S i)[i] = mm at *
    rw [huv] at hWd1
    obtain ⟨r1, rv, rfl, hr1, hr2⟩ := wd_two hWd1
    have hget0 : [(u : Int), (v : Int)].getD 0 0 = (u : Int) := rfl
    have hget1 : [(u : Int), (v : Int)].getD 1 0 = (v : Int) := rfl
    refine ⟨⟨by omega, by omega⟩, by omega, fun x hx => ?_⟩
    rw [hw1] at hx; cases hx
    refine ⟨by simp [PV.cs], fun c hc => ?_⟩
    simp only [PV.cs, List.getElem?_cons_zero, Option.some.injEq] at hc; subst hc
    try simp only [OpK_eq, HKv, hr1, hget0, hget1, g1, go_sem]
    refine ⟨⟨by omega, by omega⟩, by omega, fun x hx => ?_⟩
    rw [hw1] at hx; cases hx
    refine ⟨by simp [PV.cs], fun c hc => ?_⟩
    simp only [PV.cs, List.getElem?_cons_zero, Option.some.injEq] at hc; subst hc
    have hd : dfr la lb mm.1 = (decide (u ∈ la) != decide (v ∈ lb)) := by rw [huv]; simp [dfr]
    try simp only [OpK_eq, HKv, hr1, hget0, hget1, subC3, go_sem]
    refine (p84 (fs.map mp) qa la hla hLa u (by omega)).pgo ?_
    try simp only [OpK_eq, HKv, subC3, go_sem]
    refine (p84 (gs.map mp) qb lb hlb hLb v (by omega)).pgo ?_
    generalize decide (u ∈ la) = b1 at *
    generalize decide (v ∈ lb) = b2 at *
    cases hb : (b1 != b2) with
    | true =>
      rw [hb] at hd
      try simp only [OpK_eq, HKv, g2, hb, go_sem]
      refine ⟨⟨by omega, by omega⟩, by omega, fun x hx => ?_⟩
      rw [hw2] at hx; cases hx
      have hwcs := hWd2.cs
      rw [hwcs.1]
      refine ⟨by simp, fun c hc => ?_⟩
      simp only [List.getElem?_cons_zero, Option.some.injEq] at hc; subst hc
      refine hQ1 _ _ _ _ (hF1 ⟨hil, hd, hno⟩) hWd2.imm (by simp) (by simp)
    | false =>
      rw [hb] at hd
      have hno' : ∀ j, j < i + 1 → j < (S j).length → dfr la lb ((S j).getD j ([], [])).1 = false := fun j hj hjl => by
        by_cases e : j = i
        · subst e; rw [hgD]; exact hd
        · exact hno j (by omega) hjl
      try simp only [OpK_eq, HKv, hb, go_sem]
      clear hF1 hno hQ1 hQ2 hK
      have hadv : ∀ k, k ≤ fs.length → _ := fun k hk => adv_pq hPm hnd hmP k hk
      have hadvB : ∀ k, k ≤ fs.length → (advN (ixs fs.length) (ld2 fs gs) (S i) mm k).length ≤ 25 := fun k hk => by
        have e1 := advN_mono (ixs fs.length) (ld2 fs gs) (S i) mm hk
        have e2 := hlen (i + 1)
        rw [hSi] at e2
        exact Nat.le_trans e1 e2
      refine KL_ind k52_b0.eq_1 (fun x : Nat × Nat × Nat × List PV × List PV × List Bool × Heap => [(4, .fptr [.list (aggs (fs.map mp)), .int .i64 qa, .list (ints (nz la))] 0), (5, .fptr [.list (aggs (gs.map mp)), .int .i64 qb, .list (ints (nz lb))] 0), (10, .int .i64 m), (11, .ref i1 x.2.1 0 (advN (ixs fs.length) (ld2 fs gs) (S i) mm x.1).length), (12, .ref i2 x.2.2.1 0 (advN (ixs fs.length) (ld2 fs gs) (S i) mm x.1).length), (13, .ref i3 0 0 (n * m)), (14, .int .i64 i), (15, .int .i64 u), (16, .int .i64 v), (17, .int .i64 x.1)]) (fun x => x.2.2.2.2.2.2)
        (fun x => x.1 ≤ fs.length ∧ ApH x.2.2.2.2.2.2 i1 i2 i3 x.2.1 x.2.2.1 x.2.2.2.1 x.2.2.2.2.1 x.2.2.2.2.2.1 n m (advN (ixs fs.length) (ld2 fs gs) (S i) mm x.1)) (fun x => fs.length - x.1) [4, 5, 10, 11, 12, 13, 14, 15, 16, 17]
        (0, v1, v2, ws1, ws2, M, σ) (by rfl) rfl ⟨Nat.zero_le _, hH⟩ fun ⟨k, u1, u2, wt1, wt2, N, τ⟩ ⟨hk, gH⟩ ihk => ?_
      simp only at hk gH
      clear hH g1 g2 gl1 gl2 hw1 hw2 hWd1 hWd2 hr1 hr2
      obtain ⟨gPm, gnd, _, _⟩ := hadv k hk
      have hsucc := advN_succ (ixs fs.length) (ld2 fs gs) (S i) mm k
      have hlenB := hadvB k hk
      obtain ⟨r, hpre⟩ := advN_preI (ixs fs.length) (ld2 fs gs) (S i) mm k
      generalize hL : advN (ixs fs.length) (ld2 fs gs) (S i) mm k = L at *
      have hiL : i < L.length := by rw [hpre, List.length_append]; omega
      have hLi : L[i] = mm := by
        have : L[i]? = some mm := by rw [hpre, List.getElem?_append_left hil, List.getElem?_eq_getElem hil, hm']
        rw [List.getElem?_eq_getElem hiL] at this
        exact Option.some.inj this
      try simp only [OpK_eq, HKv, List.length_map, go_sem]
      refine ⟨fun h6 => ?_, fun h6 => ?_⟩
      · have hkl : k < fs.length := by omega
        have hkg : k < gs.length := by omega
        have hfk := hf _ (List.getElem_mem hkl)
        have h6k := hfk.mp_len
        have hgk' := hg _ (List.getElem_mem hkg)
        have h6g := hgk'.mp_len
        have hgk : (fs.map mp).getD k [] = mp fs[k] := by simp [List.getD_eq_getElem?_getD, hkl]
        have hgk2 : (gs.map mp).getD k [] = mp gs[k] := by simp [List.getD_eq_getElem?_getD, hkg]
        have hgf : fs.getD k [] = fs[k] := by simp [List.getD_eq_getElem?_getD, hkl]
        have hgf2 : gs.getD k [] = gs[k] := by simp [List.getD_eq_getElem?_getD, hkg]
        rw [ixs_get hkl, huv, ld2_val, hgf, hgf2] at hsucc
        have hx5 := hfk.get' u
        have hy5 := hgk'.get' v
        have hut : (u : Int).toNat = u := by omega
        have hvt : (v : Int).toNat = v := by omega
        rw [hgk, hgk2]
        try simp only [OpK_eq, HKv, h6k, h6g, hut, hvt, List.length_map, go_sem]
        refine ⟨h6, fun _ => ⟨by omega, by omega, fun _ => ⟨by omega, fun _ => ⟨by omega, by omega, fun _ => ?_⟩⟩⟩⟩
        have hXY : two n m [((fs[k].getD u 0 : Nat) : Int), ((gs[k].getD v 0 : Nat) : Int)] := ⟨_, _, hx5, hy5, rfl⟩
        generalize fs[k].getD u 0 = X at *
        generalize gs[k].getD v 0 = Y at *
        have hmul : (X : Int) * (m : Int) = ((X * m : Nat) : Int) := (Int.natCast_mul X m).symm
        have hadd : ((X * m : Nat) : Int) + (Y : Int) = ((X * m + Y : Nat) : Int) := (Int.natCast_add _ _).symm
        have hcl : X * m + Y < n * m := pair_lt hx5 hy5
        have hnm : n * m ≤ 5 * 5 := Nat.mul_le_mul hn5 hm5
        have hpc : pcode m [(X : Int), (Y : Int)] = X * m + Y := pcode_val m X Y
        have hct : ((X * m + Y : Nat) : Int).toNat = X * m + Y := by omega
        have gb := gH.b
        have hNl := gH.ml
        have gM := gH.mt _ hcl
        have hany : L.any (fun x => decide (x.1 = [(X : Int), (Y : Int)])) = N.getD (X * m + Y) false := by
          rw [Bool.eq_iff_iff, gM, List.any_eq_true]
          constructor
          · rintro ⟨y, hy, e⟩
            exact ⟨y, hy, by rw [of_decide_eq_true e, hpc]⟩
          · rintro ⟨y, hy, e⟩
            exact ⟨y, hy, decide_eq_true (pcode_inj ((gPm y hy).two hf hg hl hp hq) hXY (by rw [e, hpc]))⟩
        rw [hany] at hsucc
        rw [hmul, hadd]
        generalize hcc : X * m + Y = c at *
        try simp only [OpK_eq, HKv, gb, hct, go_sem]
        refine ⟨by omega, by omega, ⟨by omega, by simp [hNl]⟩, by rw [bls_length, hNl]; exact hcl, fun q hq => ?_⟩
        rw [bls_get (by rw [hNl]; exact hcl)] at hq; cases hq
        refine ⟨by simp [PV.cs], fun q hq => ?_⟩
        simp only [PV.cs, List.getElem?_cons_zero, Option.some.injEq] at hq; subst hq
        cases hNb : N.getD c false with
        | true =>
          rw [hNb, if_pos rfl] at hsucc
          try simp only [OpK_eq, HKv, go_sem]
          refine ⟨by omega, ihk (k + 1, u1, u2, wt1, wt2, N, τ) ⟨by show k + 1 ≤ fs.length; omega, ?_⟩ (by show fs.length - (k + 1) < fs.length - k; omega) _ _ (by simp [keep, hsucc]) rfl⟩
          show ApH τ i1 i2 i3 u1 u2 wt1 wt2 N n m (advN (ixs fs.length) (ld2 fs gs) (S i) mm (k + 1))
          rw [hsucc]; exact gH
        | false =>
          rw [hNb, if_neg (by simp)] at hsucc
          have hlenB1 := hadvB (k + 1) (by omega)
          rw [hsucc, List.length_append, List.length_singleton] at hlenB1
          have hput : ∀ b y, putE (.bool b) 0 y = y := fun b y => rfl
          have d12 := gH.d12
          have d13 := gH.d13
          have d23 := gH.d23
          have lt3 := (List.getElem?_eq_some_iff.1 gb).1
          have lt1 := (List.getElem?_eq_some_iff.1 gH.p.out).1
          have lt2 := (List.getElem?_eq_some_iff.1 gH.w.out).1
          have gl1 := gH.p.len
          have gl2 := gH.w.len
          rw [List.length_map] at gl1 gl2
          generalize hvq : PV.ref i1 u1 0 L.length = vq at *
          try simp only [OpK_eq, HKv, hmul, hadd, hct, gb, go_sem]
          refine ⟨by omega, by omega, ⟨by omega, by simp [hNl]⟩, by rw [bls_length, hNl]; exact hcl, fun q hq => ?_⟩
          rw [bls_get (by rw [hNl]; exact hcl)] at hq; cases hq
          rw [hput, bls_set]
          refine ⟨by simp [PV.cs], ?_⟩
          -- what is met, marked
          have hM2 : ∀ d, d < n * m → ((N.set c true).getD d false = true ↔ ∃ x ∈ L ++ [([(X : Int), (Y : Int)], mm.2 ++ [(k : Int)])], pcode m x.1 = d) := fun d hdl => by
            have hgd : (N.set c true).getD d false = if c = d then true else N.getD d false := by
              simp only [List.getD_eq_getElem?_getD, List.getElem?_set]
              by_cases ee : c = d
              · rw [if_pos ee, if_pos ee, if_pos (by omega)]; rfl
              · rw [if_neg ee, if_neg ee]
            rw [hgd]
            by_cases ee : c = d
            · rw [if_pos ee]
              exact ⟨fun _ => ⟨_, List.mem_append.2 (.inr (List.mem_singleton.2 rfl)), by rw [← ee]; exact hpc⟩, fun _ => rfl⟩
            · rw [if_neg ee, gH.mt d hdl]
              constructor
              · rintro ⟨y, hy, e⟩; exact ⟨y, List.mem_append.2 (.inl hy), e⟩
              · rintro ⟨y, hy, e⟩
                rcases List.mem_append.1 hy with hy | hy
                · exact ⟨y, hy, e⟩
                · simp only [List.mem_singleton] at hy; subst hy; exact absurd (hpc.symm.trans e) ee
          have hN2 : (N.set c true).length = n * m := by simp [hNl]
          generalize N.set c true = N2 at *
          have gP4 := gH.p.keep (σ' := τ.set i3 (.arr 0 4 1 (bls N2))) (fun id _ hA => List.getElem?_set_ne (by rintro rfl; exact hA (.inr rfl))) (by rintro (h | h); exact d12 h; exact d13 h)
          have gW4 := gH.w.keep (σ' := τ.set i3 (.arr 0 4 1 (bls N2))) (fun id _ hA => List.getElem?_set_ne (by rintro rfl; exact hA (.inr rfl))) (by rintro (h | h); exact d12 h.symm; exact d23 h)
          have gb4 : (τ.set i3 (.arr 0 4 1 (bls N2)))[i3]? = some (.arr 0 4 1 (bls N2)) := List.getElem?_set_self lt3
          have hwl := gH.wl
          have hρl : (τ.set i3 (.arr 0 4 1 (bls N2))).length = τ.length := List.length_set ..
          generalize τ.set i3 (.arr 0 4 1 (bls N2)) = ρ at *
          clear gH gb gM hany
          have eI : [PV.int .i64 (X : Int), PV.int .i64 (Y : Int)] = ints [(X : Int), (Y : Int)] := rfl
          rw [eI]
          have gP5 := gP4.keep (σ' := ρ ++ [.arr 0 2 1 (ints [(X : Int), (Y : Int)])]) (fun id hid _ => List.getElem?_append_left hid) (by rintro (h | h); exact d12 h; exact d13 h)
          have gW5 := gW4.keep (σ' := ρ ++ [.arr 0 2 1 (ints [(X : Int), (Y : Int)])]) (fun id hid _ => List.getElem?_append_left hid) (by rintro (h | h); exact d12 h.symm; exact d23 h)
          have gb5 : (ρ ++ [AObj.arr 0 2 1 (ints [(X : Int), (Y : Int)])])[i3]? = some (.arr 0 4 1 (bls N2)) := (List.getElem?_append_left (by omega)).trans gb4
          have hWdXY : Wd (ρ ++ [.arr 0 2 1 (ints [(X : Int), (Y : Int)])]) (fun id => (id = i2 ∨ id = i3) ∨ id = i1) (.ref τ.length 0 0 2) [(X : Int), (Y : Int)] := by
            refine .inr ⟨τ.length, 0, rfl, by rw [← hρl]; simp, fun h => ?_⟩
            rcases h with (h | h) | h <;> omega
          have h5l : (ρ ++ [AObj.arr 0 2 1 (ints [(X : Int), (Y : Int)])]).length = τ.length + 1 := by simp [hρl]
          generalize ρ ++ [AObj.arr 0 2 1 (ints [(X : Int), (Y : Int)])] = π at *
          clear gP4 gW4 gb4
          subst hvq
          have hpush := fun K' => gP5.push (K := K') hWdXY (by rw [List.length_map]; omega)
          simp only [List.length_map] at hpush
          refine hpush _ fun hP6 => ?_
          clear hpush
          have gW6 := gW5.keep (σ' := π.set i1 (.arr (u1 + 1) 23 1 (wt1 ++ [.ref τ.length 0 0 2]))) (fun id _ hA => List.getElem?_set_ne (by rintro rfl; exact hA (.inl rfl))) (by rintro (h | h); exact d12 h.symm; exact d23 h)
          have gb6 : (π.set i1 (.arr (u1 + 1) 23 1 (wt1 ++ [.ref τ.length 0 0 2])))[i3]? = some (.arr 0 4 1 (bls N2)) := (List.getElem?_set_ne d13).trans gb5
          have h6l : (π.set i1 (.arr (u1 + 1) 23 1 (wt1 ++ [.ref τ.length 0 0 2]))).length = τ.length + 1 := by rw [List.length_set, h5l]
          generalize π.set i1 (.arr (u1 + 1) 23 1 (wt1 ++ [.ref τ.length 0 0 2])) = χ at *
          generalize wt1 ++ [.ref τ.length 0 0 2] = wz1 at *
          clear gP5 gW5 gb5
          have g2 := gW6.out
          obtain ⟨w', hw', hWd'⟩ := gW6.cell (i := i) (by rw [List.length_map]; exact hiL)
          rw [List.getElem_map, hLi] at hWd'
          have hwcs := hWd'.cs
          have hml := hwl mm (by rw [← hLi]; exact List.getElem_mem hiL)
          try simp only [OpK_eq, HKv, g2, go_sem]
          refine ⟨⟨by omega, by omega⟩, by omega, fun q hq => ?_⟩
          rw [hw'] at hq; cases hq
          rw [hwcs.1]
          refine ⟨by simp, fun q hq => ?_⟩
          simp only [List.getElem?_cons_zero, Option.some.injEq] at hq; subst hq
          try simp only [OpK_eq, HKv, go_sem]
          refine ACall.lend (p108 mm.2 (by omega)) (.cons hWd'.imm (.nil _)) fun v s ⟨hv, hs⟩ => ?_
          subst hv; subst hs
          refine ⟨⟨free_ref _ _ _ _, Free.ints _ _ _ _⟩, ?_⟩
          have ht0 : ∀ (x : AObj), (χ ++ [x])[χ.length]? = some x := fun x => by simp
          have hs0 : ∀ (x y : AObj), (χ ++ [x]).set χ.length y = χ ++ [y] := fun x y => by
            rw [List.set_append_right _ _ (Nat.le_refl _)]; simp
          generalize hvq : PV.ref i2 u2 0 L.length = vq at *
          try simp only [OpK_eq, HKv, ht0, hs0, ren_ref, go_sem]
          subst hvq
          refine ⟨⟨Nat.le_refl _, by omega⟩, ?_⟩
          have lt1 := (List.getElem?_eq_some_iff.1 hP6.out).1
          have lt2 := (List.getElem?_eq_some_iff.1 gW6.out).1
          have lt3 := (List.getElem?_eq_some_iff.1 gb6).1
          have hW7 := fun x => gW6.keep (σ' := χ ++ [x]) (fun id hid _ => List.getElem?_append_left hid) (by rintro (h | h); exact d12 h.symm; exact d23 h)
          have hP7 := fun x => hP6.keep (σ' := χ ++ [x]) (fun id hid _ => List.getElem?_append_left hid) (by rintro (h | h); exact d12 h; exact d13 h)
          have hwd1 : Wd (χ ++ [.arr 2 2 1 (ints (mm.2 ++ [(k : Int)]))]) (fun id => (id = i1 ∨ id = i3) ∨ id = i2) (.ref χ.length 2 0 (mm.2.length + 1)) (mm.2 ++ [(k : Int)]) := by
            refine .inr ⟨_, 2, by simp, ht0 _, fun h => ?_⟩
            rcases h with (h | h) | h <;> omega
          have hpush := fun K' => (hW7 (.arr 2 2 1 (ints (mm.2 ++ [(k : Int)])))).push (K := K') hwd1 (by rw [List.length_map]; omega)
          simp only [List.length_map] at hpush
          refine hpush _ fun hW8 => ?_
          try simp only [OpK_eq, HKv, go_sem]
          refine ⟨by omega, ihk (k + 1, u1 + 1, u2 + 1, wz1, wt2 ++ [.ref χ.length 2 0 (mm.2.length + 1)], N2, _) ⟨by show k + 1 ≤ fs.length; omega, ?_⟩ (by show fs.length - (k + 1) < fs.length - k; omega) _ _ (by simp [keep, hsucc]) rfl⟩
          show ApH _ i1 i2 i3 (u1 + 1) (u2 + 1) wz1 _ N2 n m (advN (ixs fs.length) (ld2 fs gs) (S i) mm (k + 1))
          rw [hsucc]
          refine ⟨?_, ?_, ?_, hN2, hM2, ?_, d12, d13, d23⟩
          · rw [List.map_append]
            exact (hP7 _).keep (fun id _ hA => List.getElem?_set_ne (by rintro rfl; exact hA (.inl rfl))) (by rintro (h | h); exact d12 h; exact d13 h)
          · rw [List.map_append]; exact hW8
          · rw [List.getElem?_set_ne d23, List.getElem?_append_left lt3]; exact gb6
          · intro y hy
            rw [List.length_append, List.length_singleton]
            rcases List.mem_append.1 hy with hy | hy
            · have := hwl y hy; omega
            · simp only [List.mem_singleton] at hy; subst hy
              simp only [List.length_append, List.length_singleton]
              omega
      · have hke : k = fs.length := by omega
        subst hke
        try simp only [OpK_eq, HKv, go_sem]
        refine ⟨by omega, ih (i + 1, u1, u2, wt1, wt2, N, τ) ⟨?_, hno', ?_⟩ (by show 26 - (i + 1) < 26 - i; omega) _ _ ?_ rfl⟩
        · show i + 1 ≤ (S (i + 1)).length
          rw [hSi, hL]; omega
        · show ApH τ i1 i2 i3 u1 u2 wt1 wt2 N n m (S (i + 1))
          rw [hSi, hL]; exact gH
        · simp [keep, hSi, hL]
  · have hie : i = (S i).length := by omega
    exact hQ2 _ _ (hF2 i hie hno)
theorem ap_rest (fs gs : List (List Nat)) (n m : Nat) (hf : ∀ f ∈ fs, Ok f n) (hg : ∀ g ∈ gs, Ok g m) (hl : fs.length = gs.length) (hfl : fs.length ≤ 1000) (hn5 : n ≤ 5) (hm5 : m ≤ 5) (la lb : List Nat) (hla : ∀ x ∈ la, x < 5) (hlb : ∀ x ∈ lb, x < 5) (hLa : la.length ≤ 1048576) (hLb : lb.length ≤ 1048576) (qa qb : Int) (p q : Nat) (hp : p < n) (hq : q < m)
    (hK : K (apW (fwp fs gs la lb p q)) []) (σ : Heap) (i1 i2 i3 j1 j2 : Nat) (env : Env)
    (u2 : Kv.look env 2 = .int .i64 p) (u3 : Kv.look env 3 = .int .i64 q) (u4 : Kv.look env 4 = .fptr [.list (aggs (fs.map mp)), .int .i64 qa, .list (ints (nz la))] 0) (u5 : Kv.look env 5 = .fptr [.list (aggs (gs.map mp)), .int .i64 qb, .list (ints (nz lb))] 0) (u10 : Kv.look env 10 = .int .i64 m)
    (u11 : Kv.look env 11 = .ref i1 0 0 1) (u12 : Kv.look env 12 = .ref i2 0 0 1) (u13 : Kv.look env 13 = .ref i3 0 0 (n * m))
    (h1 : σ[i1]? = some (.arr 0 23 1 [.ref j1 0 0 2])) (h2 : σ[i2]? = some (.arr 0 23 1 [.ref j2 0 0 0])) (h3 : σ[i3]? = some (.arr 0 4 1 (List.replicate (n * m) (.bool false)))) (h4 : σ[j1]? = some (.arr 0 2 1 (ints [(p : Int), (q : Int)]))) (h5 : σ[j2]? = some (.arr 0 2 1 (ints [])))
    (d12 : i1 ≠ i2) (d13 : i1 ≠ i3) (d23 : i2 ≠ i3) (dj : j1 ≠ i1 ∧ j1 ≠ i2 ∧ j1 ≠ i3 ∧ j2 ≠ i1 ∧ j2 ≠ i2 ∧ j2 ≠ i3) : vc (mkCfg Tryz.prog mixed [4, 5, 118, 127, 129] 131 0) (drK 3 k52) (FinK 0 [.t 8, .t 9] K) env σ := by
  have hmul : (p : Int) * (m : Int) = ((p * m : Nat) : Int) := (Int.natCast_mul p m).symm
  have hadd : ((p * m : Nat) : Int) + (q : Int) = ((p * m + q : Nat) : Int) := (Int.natCast_add _ _).symm
  have hcl : p * m + q < n * m := pair_lt hp hq
  have hnm : n * m ≤ 5 * 5 := Nat.mul_le_mul hn5 hm5
  have hpc : pcode m [(p : Int), (q : Int)] = p * m + q := pcode_val m p q
  have hct : ((p * m + q : Nat) : Int).toNat = p * m + q := by omega
  have hbl : List.replicate (n * m) (PV.bool false) = bls (List.replicate (n * m) false) := by simp [bls]
  have hput : ∀ b y, putE (.bool b) 0 y = y := fun b y => rfl
  have lt3 := (List.getElem?_eq_some_iff.1 h3).1
  rw [hbl] at h3
  generalize hcc : p * m + q = c at *
  simp only [drK, tlK, k52]
  try simp only [OpK_eq, HKv, u2, u3, u10, u13, hmul, hadd, hct, h3, go_sem]
  refine ⟨by omega, by omega, ⟨by omega, by simp⟩, by simp; omega, fun x hx => ?_⟩
  rw [bls_get (by simp; omega)] at hx; cases hx
  rw [hput, bls_set]
  refine ⟨by simp [PV.cs], ?_⟩
  refine ap_loop (K := K) fs gs n m hf hg hl hfl hn5 hm5 la lb hla hlb hLa hLb qa qb p q hp hq hK (fun env σ w l e hI h8 h9 => ?_) (fun env σ e => ?_) _ i1 i2 i3 [.ref j1 0 0 2] [.ref j2 0 0 0] ((List.replicate (n * m) false).set c true) ?_ _ (by simp [keep, u4, u5, u10, u11, u12, u13])
  · rw [e] at hK
    simp only [apW] at hK
    try simp only [h8, h9, go_sem]
    exact Kv.Fin.freeze (Imm.tupL (.cons hI (.cons (.bool _ _) (.nil _)))) hK
  · rw [e] at hK
    simp only [apW] at hK
    try simp only [OpK_eq, HKv, go_sem]
    exact Kv.Fin.still hK
  · have hs : ∀ id, id ≠ i3 → (σ.set i3 (.arr 0 4 1 (bls ((List.replicate (n * m) false).set c true))))[id]? = σ[id]? := fun id h => List.getElem?_set_ne (Ne.symm h)
    have hS0 : pq fs gs p q 0 = [(([(p : Int), (q : Int)], []) : Met)] := rfl
    rw [hS0]
    refine ⟨⟨(hs i1 d13).trans h1, rfl, fun i w l hw hl => ?_⟩, ⟨(hs i2 d23).trans h2, rfl, fun i w l hw hl => ?_⟩, List.getElem?_set_self lt3, by simp, fun d hd => ?_, fun x hx => ?_, d12, d13, d23⟩
    · have e1 := List.mem_of_getElem? hw
      have e2 := List.mem_of_getElem? hl
      simp only [List.mem_singleton, List.map_cons, List.map_nil] at e1 e2
      subst e1; subst e2
      refine .inr ⟨j1, 0, rfl, (hs j1 dj.2.2.1).trans h4, fun h => ?_⟩
      rcases h with (h | h) | h <;> omega
    · have e1 := List.mem_of_getElem? hw
      have e2 := List.mem_of_getElem? hl
      simp only [List.mem_singleton, List.map_cons, List.map_nil] at e1 e2
      subst e1; subst e2
      refine .inr ⟨j2, 0, rfl, (hs j2 dj.2.2.2.2.2).trans h5, fun h => ?_⟩
      rcases h with (h | h) | h <;> omega
    · simp only [List.getD_eq_getElem?_getD, List.getElem?_set, List.length_replicate]
      by_cases e : c = d
      · rw [if_pos e, if_pos (by omega)]; simp [← e, hpc]
      · rw [if_neg e, List.getElem?_replicate, if_pos hd]; simp [hpc, e]
    · simp only [List.mem_singleton] at hx; subst hx; simp
end
set_option maxHeartbeats 4000000 in
theorem p52 (fs gs : List (List Nat)) (n m : Nat) (hf : ∀ f ∈ fs, Ok f n) (hg : ∀ g ∈ gs, Ok g m) (h0 : 0 < fs.length) (hl : fs.length = gs.length) (hfl : fs.length ≤ 1000) (hn5 : n ≤ 5) (hm5 : m ≤ 5) (la lb : List Nat) (hla : ∀ x ∈ la, x < 5) (hlb : ∀ x ∈ lb, x < 5) (hLa : la.length ≤ 1048576) (hLb : lb.length ≤ 1048576) (qa qb : Int) (p q : Nat) (hp : p < n) (hq : q < m) :
    Pure Tryz.prog 52 [.agg [.list (aggs (fs.map mp)), .int .i64 qa, .list (ints (nz la))], .agg [.list (aggs (gs.map mp)), .int .i64 qb, .list (ints (nz lb))], .int .i64 p, .int .i64 q] (apW (fwp fs gs la lb p q)) := by
  obtain ⟨e1, e2, e3⟩ := mpD0 hf h0
  obtain ⟨g1, g2, g3⟩ := mpD0 hg (by omega)
  have hn1 := (hf _ (List.getElem_mem h0)).pos
  have hmul : (n : Int) * (m : Int) = ((n * m : Nat) : Int) := (Int.natCast_mul n m).symm
  have hnm : n * m ≤ 5 * 5 := Nat.mul_le_mul hn5 hm5
  have hct : ((n * m : Nat) : Int).toNat = n * m := by omega
  have hrest := fun σ i1 i2 i3 j1 j2 env => ap_rest (K := fun v s => v = apW (fwp fs gs la lb p q) ∧ s = []) fs gs n m hf hg hl hfl hn5 hm5 la lb hla hlb hLa hLb qa qb p q hp hq ⟨rfl, rfl⟩ σ i1 i2 i3 j1 j2 env
  refine e52 (by simp) fun _ _ => ?_
  rw [show k52 = upK 3 k52 (drK 3 k52) from rfl]
  generalize drK 3 k52 = t at hrest ⊢
  simp only [upK, hdK, tlK, k52, argEnv]
  try simp only [OpK_eq, HKv, subC3, g1, g2, g3, e1, e2, e3, List.length_map, go_sem]
  refine ⟨by omega, fun _ => ?_⟩
  try simp only [OpK_eq, HKv, e1, e2, e3, List.length_map, hmul, hct, go_sem]
  refine ⟨by omega, fun _ => ⟨by omega, ?_⟩⟩
  repeat' (first
    | (rw [vT_alt]; refine And.intro ?_ ?_)
    | (with_reducible refine And.intro ?_ ?_)
    | exact hrest _ _ _ _ _ _ _ rfl rfl rfl rfl rfl rfl rfl rfl rfl rfl rfl rfl rfl (by decide) (by decide) (by decide) (by decide)
    | omega
    | (simp only [OpK_eq, HKv, hct, go_sem]))
end Go.Proofs.YtpihikppdeecmaaGreat
end
section
/- The least acceptor's classes and maps: plain laws. -/
namespace Go.Proofs.YtpihikppdeecmaaGreat
open Go.Kv
set_option linter.unusedVariables false
set_option linter.unusedSimpArgs false
attribute [local irreducible] ACall PCall KL
structure NmF (same : Nat → Nat → Bool) (i : Nat) : Prop where
  one : ∀ (c f : Nat), (nmB same i).1[c]? = some f → f < i ∧ (nmB same i).2.getD f 0 = c ∧ ∀ j, j < f → (nmB same i).2.getD j 0 ≠ c
  lt : ∀ j, j < i → (nmB same i).2.getD j 0 < (nmB same i).1.length
  len : (nmB same i).2.length = i
  le : (nmB same i).1.length ≤ i
theorem nm_first (same : Nat → Nat → Bool) : ∀ i, NmF same i
  | 0 => ⟨fun c f h => by simp [nmB] at h, fun j h => by omega, rfl, Nat.le_refl _⟩
  | i + 1 => by
    obtain ⟨h1, h2, h3, h4⟩ := nm_first same i
    have hl : ∀ (c j : Nat), j < i → ((nmB same i).2 ++ [c]).getD j 0 = (nmB same i).2.getD j 0 := fun c j hj => by
      rw [List.getD_eq_getElem?_getD, List.getD_eq_getElem?_getD, List.getElem?_append_left (by omega)]
    have hr : ∀ c : Nat, ((nmB same i).2 ++ [c]).getD i 0 = c := fun c => by
      rw [List.getD_eq_getElem?_getD, List.getElem?_append_right (by omega), h3]; simp
    cases hf : (nmB same i).1.findIdx? fun f => same f i with
    | some c =>
      have eB : nmB same (i + 1) = ((nmB same i).1, (nmB same i).2 ++ [c]) := by rw [nmB, hf]
      obtain ⟨c1, _, _⟩ := List.findIdx?_eq_some_iff_getElem.1 hf
      refine ⟨?_, ?_, ?_, ?_⟩ <;> rw [eB]
      · intro d f h
        obtain ⟨g1, g2, g3⟩ := h1 d f h
        exact ⟨by omega, by rw [← g2]; exact hl c f g1, fun j hj => by
          have := g3 j hj
          rw [← hl c j (by omega)] at this; exact this⟩
      · intro j hj
        by_cases e : j = i
        · subst e; show ((nmB same j).2 ++ [c]).getD j 0 < _; rw [hr]; exact c1
        · show ((nmB same i).2 ++ [c]).getD j 0 < _; rw [hl c j (by omega)]; exact h2 j (by omega)
      · simp [h3]
      · show (nmB same i).1.length ≤ i + 1; omega
    | none =>
      have eB : nmB same (i + 1) = ((nmB same i).1 ++ [i], (nmB same i).2 ++ [(nmB same i).1.length]) := by rw [nmB, hf]
      refine ⟨?_, ?_, ?_, ?_⟩ <;> rw [eB]
      · intro d f h
        have h : ((nmB same i).1 ++ [i])[d]? = some f := h
        show f < i + 1 ∧ ((nmB same i).2 ++ [(nmB same i).1.length]).getD f 0 = d ∧ ∀ j, j < f → ((nmB same i).2 ++ [(nmB same i).1.length]).getD j 0 ≠ d
        by_cases hd : d < (nmB same i).1.length
        · rw [List.getElem?_append_left hd] at h
          obtain ⟨g1, g2, g3⟩ := h1 d f h
          exact ⟨by omega, by rw [hl _ f g1]; exact g2, fun j hj => by rw [hl _ j (by omega)]; exact g3 j hj⟩
        · have hlt := (List.getElem?_eq_some_iff.1 h).1
          rw [List.length_append, List.length_singleton] at hlt
          obtain rfl : d = (nmB same i).1.length := by omega
          rw [List.getElem?_append_right (Nat.le_refl _), Nat.sub_self] at h
          simp only [List.getElem?_cons_zero, Option.some.injEq] at h
          subst h
          exact ⟨by omega, hr _, fun j hj => by rw [hl _ j hj]; have := h2 j hj; omega⟩
      · intro j hj
        show ((nmB same i).2 ++ [(nmB same i).1.length]).getD j 0 < ((nmB same i).1 ++ [i]).length
        rw [List.length_append, List.length_singleton]
        by_cases e : j = i
        · subst e; rw [hr]; omega
        · rw [hl _ j (by omega)]; have := h2 j (by omega); omega
      · simp [h3]
      · rw [List.length_append, List.length_singleton]; omega
/-- The classes, in short. -/
noncomputable def kF (fs : List (List Nat)) (la : List Nat) (q : Nat) : List Nat := (clsB fs la (ord fs q)).1
noncomputable def kN (fs : List (List Nat)) (la : List Nat) (q : Nat) : List Nat := (clsB fs la (ord fs q)).2
theorem kcl_first (fs : List (List Nat)) (la : List Nat) (q : Nat) : NmF (fun i k => smB fs la ((ord fs q).getD i 0) ((ord fs q).getD k 0)) (ord fs q).length := nm_first _ _
theorem kN_len (fs : List (List Nat)) (la : List Nat) (q : Nat) : (kN fs la q).length = (ord fs q).length := (kcl_first fs la q).len
theorem kF_le (fs : List (List Nat)) (la : List Nat) (q : Nat) : (kF fs la q).length ≤ (ord fs q).length := (kcl_first fs la q).le
theorem kF_one {fs : List (List Nat)} {la : List Nat} {q c : Nat} (h : c < (kF fs la q).length) : (kF fs la q)[c] < (ord fs q).length ∧ (kN fs la q).getD (kF fs la q)[c] 0 = c ∧ ∀ j, j < (kF fs la q)[c] → (kN fs la q).getD j 0 ≠ c := (kcl_first fs la q).one c _ (List.getElem?_eq_getElem h)
theorem kN_lt {fs : List (List Nat)} {la : List Nat} {q j : Nat} (h : j < (ord fs q).length) : (kN fs la q).getD j 0 < (kF fs la q).length := (kcl_first fs la q).lt j h
theorem kF_pos {fs : List (List Nat)} {la : List Nat} {q : Nat} (h : 1 ≤ (ord fs q).length) : 1 ≤ (kF fs la q).length := by
  have := kN_lt (fs := fs) (la := la) (q := q) (j := 0) (by omega); omega
/-- The maps. -/
noncomputable def lsM (fs : List (List Nat)) (la : List Nat) (q : Nat) : List (List Nat) := fs.map fun f => (kF fs la q).map fun i => (kN fs la q).getD ((ord fs q).idxOf (f.getD ((ord fs q).getD i 0) 0)) 0
theorem lsM_ok {fs : List (List Nat)} {n q : Nat} (la : List Nat) (hf : ∀ f ∈ fs, Ok f n) (hn : n ≤ 5) (hq : q < n) : ∀ g ∈ lsM fs la q, Ok g (kF fs la q).length := fun g hg => by
  obtain ⟨f, hff, rfl⟩ := List.mem_map.1 hg
  obtain ⟨_, _, _, o4, o5, o6⟩ := ord_ok hf hn hq
  have h1 := kF_pos (la := la) o5
  have h2 := kF_le fs la q
  refine ⟨by simp, h1, by omega, fun x hx => ?_⟩
  obtain ⟨i, hi, rfl⟩ := List.mem_map.1 hx
  refine kN_lt (List.idxOf_lt_length_iff.2 (o4 f hff _ ?_))
  obtain ⟨c, hc, rfl⟩ := List.getElem_of_mem hi
  have := (kF_one hc).1
  rw [List.getD_eq_getElem?_getD, List.getElem?_eq_getElem this]
  exact List.getElem_mem this
/-- The first place of a class. -/
theorem idx_nz {l : List Nat} {k : Nat} : idx (fun y => decide ((k : Int) = y)) (nz l) = if k ∈ l then (l.idxOf k : Int) else -1 := by
  by_cases h : k ∈ l
  · rw [if_pos h]
    have hlt := List.idxOf_lt_length_iff.2 h
    refine idx_some (x := l.idxOf k) (by rw [nz_len]; exact hlt) ?_ ?_
    · rw [List.any_eq_false]
      intro y hy
      rw [nz, ← List.map_take] at hy
      obtain ⟨z, hz, rfl⟩ := List.mem_map.1 hy
      simp only [decide_eq_true_eq]
      intro e
      have : k = z := by omega
      subst this
      obtain ⟨j, hj, e2⟩ := List.getElem_of_mem hz
      rw [List.length_take] at hj
      rw [List.getElem_take] at e2
      have := List.not_of_lt_findIdx (p := (· == k)) (xs := l) (i := j) (by
        show j < l.idxOf k; omega)
      simp [e2] at this
    · simp only [nz, List.getElem_map, decide_eq_true_eq]
      rw [List.getElem_idxOf]
  · rw [if_neg h]
    refine idx_none ?_
    rw [List.any_eq_false]
    intro y hy
    obtain ⟨z, hz, rfl⟩ := List.mem_map.1 hy
    simp only [decide_eq_true_eq]
    intro e
    have : k = z := by omega
    subst this
    exact h hz
theorem kN_idx {fs : List (List Nat)} {la : List Nat} {q c : Nat} (h : c < (kF fs la q).length) : c ∈ kN fs la q ∧ (kN fs la q).idxOf c = (kF fs la q)[c] := by
  obtain ⟨h1, h2, h3⟩ := kF_one h
  have hl := kN_len fs la q
  have hlt : (kF fs la q)[c] < (kN fs la q).length := by omega
  have e : (kN fs la q)[(kF fs la q)[c]] = c := by
    rw [List.getD_eq_getElem?_getD, List.getElem?_eq_getElem hlt] at h2; exact h2
  have hm : c ∈ kN fs la q := by
    have := List.getElem_mem hlt
    rwa [e] at this
  refine ⟨hm, ?_⟩
  have hil := List.idxOf_lt_length_iff.2 hm
  have hie := List.getElem_idxOf hil
  rcases Nat.lt_trichotomy ((kN fs la q).idxOf c) (kF fs la q)[c] with h4 | h4 | h4
  · have := h3 _ h4
    rw [List.getD_eq_getElem?_getD, List.getElem?_eq_getElem hil] at this
    exact absurd hie this
  · exact h4
  · have := List.not_of_lt_findIdx (p := (· == c)) (xs := kN fs la q) (i := (kF fs la q)[c]) h4
    simp [e] at this
/-- The greatest class. -/
theorem kN_max {fs : List (List Nat)} {la : List Nat} {q : Nat} (h : 1 ≤ (ord fs q).length) : mxl (nz (kN fs la q)) + 1 = (kF fs la q).length := by
  have h1 := kF_pos (la := la) h
  have hle : mxl (nz (kN fs la q)) ≤ ((kF fs la q).length : Int) - 1 := mxl_le (fun k hk => by
    obtain ⟨z, hz, rfl⟩ := List.mem_map.1 hk
    obtain ⟨j, hj, e⟩ := List.getElem_of_mem hz
    have := kN_lt (fs := fs) (la := la) (q := q) (j := j) (by rw [← kN_len fs la q]; exact hj)
    rw [List.getD_eq_getElem?_getD, List.getElem?_eq_getElem hj] at this
    simp only [Option.getD_some] at this
    omega) (by omega)
  have hm := (kN_idx (fs := fs) (la := la) (q := q) (c := (kF fs la q).length - 1) (by omega)).1
  have hge := (foldl_max_ge (nz (kN fs la q)) (-1)).2 (((kF fs la q).length - 1 : Nat) : Int) (List.mem_map.2 ⟨_, hm, rfl⟩)
  have e : mxl (nz (kN fs la q)) = (nz (kN fs la q)).foldl max (-1) := rfl
  rw [← e] at hge
  omega
end Go.Proofs.YtpihikppdeecmaaGreat
end
section
/- The first word to a list of points: the search until one is such. -/
namespace Go.Proofs.YtpihikppdeecmaaGreat
open Go.Kv
set_option maxRecDepth 100000
def k59 : KC := (.seq (.ops [oP 7 (.box true (.t 3)), oP 8 (.mv (.c (.nils))), oP 9 (.mv (iC 0))])
  (.seq (.ops [oP 10 (.alloc [.nils])])
  (.seq (.ops [oP 11 (.alloc [.bool false]), ⟨none, none, .store 1 (.t 11) (.c (.bool false))⟩])
  (.seq (.ops [mV 12 0, mV 13 1, mV 14 2, oP 15 (.mkfn (.func 111) [] [(.t 7), (.t 10), (.t 11)]), oP 16 (.call (fC 110) [(.t 12), (.t 13), (.t 14), (.t 15)])])
  (.seq (.seq (.ops [oP 17 (.load false 1 (.t 11)), oP 18 (.not (.t 17))])
  (.cond (.t 18) (.seq (.ops [oP 8 (.mv (.c (.nils))), oP 9 (.mv (iC 4))])
  .ret) .skip))
  (.seq (.ops [oP 19 (.load false 1 (.t 10)), mV 8 19, oP 9 (.mv (iC 0))])
  .ret))))))
theorem e59 : Ent 59 20 [7] [.t 8, .t 9] k59 := ent Tryz.func59 (by kernel_rfl) (by kernel_rfl) (by kernel_rfl) (fun _ => by kernel_rfl) (by kernel_rfl)
def k111 : KC := (.seq (.ops [oP 4 (.box true (.t 0)), oP 5 (.mv (.c (.bool false)))])
  (.seq (.seq (.ops [oP 6 (.load false 1 (.t 1)), oP 7 (.fieldA 0 (.t 4)), oP 8 (.load false 1 (.t 7)), oP 9 (.call (.t 6) [(.t 8)])])
  (.cond (.t 9) (.ops [oP 10 (.fieldA 1 (.t 4)), oP 11 (.load false 1 (.t 10)), ⟨none, none, .store 1 (.t 2) (.t 11)⟩, ⟨none, none, .store 1 (.t 3) (.c (.bool true))⟩]) .skip))
  (.seq (.ops [oP 12 (.load false 1 (.t 3)), oP 13 (.not (.t 12)), mV 5 13])
  .ret)))
theorem e111 : Ent 111 14 [4] [.t 5] k111 := ent Tryz.func111 (by kernel_rfl) (by kernel_rfl) (by kernel_rfl) (fun _ => by kernel_rfl) (by kernel_rfl)
end Go.Proofs.YtpihikppdeecmaaGreat
namespace Go.Proofs.YtpihikppdeecmaaGreat
open Go.Kv
set_option linter.unusedVariables false
set_option linter.unusedSimpArgs false
attribute [local irreducible] ACall PCall KL
theorem p111 (σ : Heap) (p : List Int) (w : PV) (l : List Int) (isid : FuncId) (iscaps : List PV) [hc : StillL iscaps] (b : Bool) (his : Pure Tryz.prog isid (.list (ints p) :: iscaps) (.bool b)) (h0 : σ[0]? = some (.box [.nils])) (h1 : σ[1]? = some (.box [.bool false])) (hw : Wd σ (fun id => id = 0 ∨ id = 1) w l) (K : PV → Heap → Prop)
    (hK1 : b = false → K (.bool true) σ) (hK2 : b = true → ∀ σ', σ'[0]? = some (.box [w]) → σ'[1]? = some (.box [.bool true]) → Wd σ' (fun _ => False) w l → K (.bool false) σ') :
    ACall Tryz.prog 111 (.agg [.list (ints p), w] :: [.fptr [.fn (.func isid) [] iscaps] 0, .ptr 0 0, .ptr 1 0]) σ K := by
  have hlt0 := (List.getElem?_eq_some_iff.1 h0).1
  have hlt1 := (List.getElem?_eq_some_iff.1 h1).1
  have hwok : [PV.list (ints p), w].all PV.ok = true := by rcases hw with ⟨rfl, _⟩ | ⟨_, _, rfl, _⟩ <;> simp [PV.ok]
  have hwcs := hw.cs
  have h01 : ∀ o, (σ.set 0 o)[1]? = some (.box [.bool false]) := fun o => (List.getElem?_set_ne (by decide)).trans h1
  refine e111 (by simp) fun _ _ => ?_
  simp only [k111, argEnv, go_sem]
  try simp only [OpK_eq, hwok, go_sem]
  refine ⟨hwcs.2, ?_⟩
  refine his.go ?_
  have hls : ∀ o, (σ.set 0 o).length = σ.length := fun o => List.length_set ..
  cases b with
  | false =>
    try simp only [OpK_eq, h1, go_sem]
    exact Kv.Fin.now (hK1 rfl)
  | true =>
    have hput : putC [PV.nils] 0 [w] = [w] := by unfold putC; first | rfl | (split <;> rfl) | simp
    have hputb : putC [PV.bool false] 0 [.bool true] = [.bool true] := by unfold putC; first | rfl | (split <;> rfl) | simp
    have hs0 : ∀ o o', ((σ.set 0 o).set 1 o')[1]? = some o' := fun o o' => List.getElem?_set_self (by rw [hls]; exact hlt1)
    have hs1 : ∀ o o', ((σ.set 0 o).set 1 o')[0]? = some o := fun o o' => by
      rw [List.getElem?_set_ne (by decide)]; exact List.getElem?_set_self hlt0
    have hK := fun ρ => hK2 rfl ρ
    clear hK1 hK2
    have hW2 : Wd ((σ.set 0 (.box [w])).set 1 (.box [.bool true])) (fun _ => False) w l := hw.keep fun id _ hA => by
      simp only [not_or] at hA
      exact ⟨by rw [List.getElem?_set_ne (Ne.symm hA.2), List.getElem?_set_ne (Ne.symm hA.1)], fun h => h⟩
    try simp only [OpK_eq, h0, h01, hs0, hwcs.1, hwcs.2, hput, hputb, HKv, go_sem]
    exact Kv.Fin.now (hK _ (hs1 _ _) (hs0 _ _) hW2)
theorem p59 (fs : List (List Nat)) (n : Nat) (hf : ∀ f ∈ fs, Ok f n) (hfl : fs.length ≤ 1000) (bid : FuncId) (bf : List Nat → List Int → List Int) (okp : List Int → Prop)
    (hokl : ∀ p, okp p → p.length ≤ 1000) (hokb : ∀ f ∈ fs, ∀ p, okp p → okp (bf f p))
    (hby : ∀ f ∈ fs, ∀ p, okp p → Pure Tryz.prog bid [.agg (ints (mp f)), .list (ints p)] (.list (ints (bf f p))))
    (isid : FuncId) (iscaps : List PV) [hc : StillL iscaps] (isF : List Int → Bool) (his : ∀ p, okp p → Pure Tryz.prog isid (.list (ints p) :: iscaps) (.bool (isF p)))
    (from0 : List Int) (hok0 : okp from0) (N : Nat) (hN : N ≤ 1000) (hB : ∀ i, (bq fs bf (fun _ _ => ()) ([(from0, [])], ()) i).1.length ≤ N) (K : PV → Heap → Prop)
    (hK1 : ∀ i (h : i < (bq fs bf (fun _ _ => ()) ([(from0, [])], ()) i).1.length), isF (bq fs bf (fun _ _ => ()) ([(from0, [])], ()) i).1[i].1 = true → (∀ j (h : j < (bq fs bf (fun _ _ => ()) ([(from0, [])], ()) j).1.length), j < i → isF (bq fs bf (fun _ _ => ()) ([(from0, [])], ()) j).1[j].1 = false) →
      ∀ x s, OwnI 2 s 0 s.length x (bq fs bf (fun _ _ => ()) ([(from0, [])], ()) i).1[i].2 → Free s → K (.tup [x, .int .i64 0]) s)
    (hK2 : ∀ i, i = (bq fs bf (fun _ _ => ()) ([(from0, [])], ()) i).1.length → (∀ j (h : j < (bq fs bf (fun _ _ => ()) ([(from0, [])], ()) j).1.length), j < i → isF (bq fs bf (fun _ _ => ()) ([(from0, [])], ()) j).1[j].1 = false) → K (.tup [.nils, .int .i64 4]) []) :
    ACall Tryz.prog 59 [.list (aggs (fs.map mp)), .list (ints from0), .fn (.func bid) [] [], .fn (.func isid) [] iscaps] [] K := by
  refine e59 (by simp) fun _ _ => ?_
  simp only [k59, argEnv, go_sem]
  try simp only [OpK_eq, go_sem]
  refine p110 (α := Unit) fs n hf hfl bid 111 [.fptr [.fn (.func isid) [] iscaps] 0, .ptr 0 0, .ptr 1 0] bf okp hokl hokb hby
    (fun _ σ => σ[0]? = some (.box [.nils]) ∧ σ[1]? = some (.box [.bool false])) (fun _ id => id = 0 ∨ id = 1) (fun _ _ => ()) (fun _ p => !isF p)
    (fun _ p l σ' => ∃ w, σ'[0]? = some (.box [w]) ∧ σ'[1]? = some (.box [.bool true]) ∧ Wd σ' (fun _ => False) w l)
    (fun a σ id h hu => ?_) (fun a σ σ' h hk hl => ?_) (fun a σ p w l hp hI hw K' k1 k2 => ?_) () from0 hok0 N hN hB _ ⟨rfl, rfl⟩ _ (fun i hi hgf hgo σ' hD => ?_) (fun i hi hgo σ' hI => ?_)
  · have h1 := (List.getElem?_eq_some_iff.1 h.1).1
    have h2 := (List.getElem?_eq_some_iff.1 h.2).1
    rcases hu with rfl | rfl
    · exact h1
    · exact h2
  · have k0 := hk 0 (.inl rfl)
    have k1 := hk 1 (.inr rfl)
    exact ⟨k0.trans h.1, k1.trans h.2⟩
  · refine p111 σ p w l isid iscaps (isF p) (his p hp) hI.1 hI.2 hw K' (fun hb => ?_) (fun hb σ' q1 q2 q3 => ?_)
    · exact k1 (by rw [hb]; rfl) σ hI (Nat.le_refl _) fun id _ hu => ⟨rfl, hu⟩
    · exact k2 (by rw [hb]; rfl) σ' ⟨w, q1, q2, q3⟩
  · obtain ⟨w, q1, q2, q3⟩ := hD
    have hK := hK1 i hi (by simpa using hgf) (fun j h hj => by simpa using hgo j h hj)
    clear hK1 hK2
    try simp only [OpK_eq, q1, q2, HKv, go_sem]
    rcases q3 with ⟨rfl, hl⟩ | ⟨id, ver, rfl, ho, _⟩
    · rw [hl] at hK
      exact Kv.Fin.still (hK _ _ .nil .nil)
    · refine Kv.Fin.oneT ho (by simp only [flat_ints]; exact Plain.ints _) 0 (hK _ _ (.own 0 ver [] _ [] (by simp) ⟨Nat.zero_le _, by simp⟩) (Free.ints _ _ _ _))
  · have hK := hK2 i hi (fun j h hj => by simpa using hgo j h hj)
    clear hK1 hK2
    try simp only [OpK_eq, hI.2, HKv, go_sem]
    exact Kv.Fin.still hK
end Go.Proofs.YtpihikppdeecmaaGreat
end
section
/- Points told apart, classes numbered: the implementation. -/
namespace Go.Proofs.YtpihikppdeecmaaGreat
open Go.Kv
set_option maxRecDepth 100000
def k67 : KC := (.seq (.ops [oP 3 (.box true (.t 0)), oP 6 (.mv (.c (.nils))), oP 7 (.mv (iC 0))])
  (.seq (.ops [oP 8 (.load false 1 (.t 3)), oP 9 (.nilck (.t 8)), oP 10 (.fieldA 0 (.t 9)), oP 11 (.load false 1 (.t 10)), mV 12 1, mV 13 2, oP 14 (.bsl false 2 1 [(.t 12), (.t 13)]), oP 15 (.mkfn (.func 115) [] [(.t 3)]), oP 16 (.call (fC 59) [(.t 11), (.t 14), (fC 60), (.t 15)]), oP 17 (.extr 0 (.t 16)), oP 18 (.extr 1 (.t 16)), mV 6 17, mV 7 18])
  .ret))
theorem e67 : Ent 67 19 [3] [.t 6, .t 7] k67 := ent Tryz.func67 (by kernel_rfl) (by kernel_rfl) (by kernel_rfl) (fun _ => by kernel_rfl) (by kernel_rfl)
def k115 : KC := (.seq (.ops [oP 3 (.mv (.c (.bool false)))])
  (.seq (.draw [oP 4 (.load false 1 (.t 1)), mV 5 0, oP 6 (.idxS 1 (.t 5) (iC 0)), oP 7 (.load false 1 (.t 6)), oP 9 (.load false 1 (.t 1)), mV 10 0, oP 11 (.idxS 1 (.t 10) (iC 1)), oP 12 (.load false 1 (.t 11)), oP 8 (.pcall (fC 55) [(.t 4), (.t 7)]), oP 13 (.pcall (fC 55) [(.t 9), (.t 12)]), oP 14 (.beq true (.t 8) (.t 13)), mV 3 14])
  .ret))
theorem e115 : Ent 115 15 [] [.t 3] k115 := ent Tryz.func115 (by kernel_rfl) (by kernel_rfl) (by kernel_rfl) (fun _ => by kernel_rfl) (by kernel_rfl)
def k93 : KC := (.seq (.ops [oP 6 (.mv (.c (.bool false)))])
  (.seq (.draw [oP 10 (.load false 1 (.t 2)), oP 11 (.load false 1 (.t 3)), mV 12 0, oP 13 (.idxS 1 (.t 11) (.t 12)), oP 14 (.load false 1 (.t 13)), oP 15 (.load false 1 (.t 3)), mV 16 1, oP 17 (.idxS 1 (.t 15) (.t 16)), oP 18 (.load false 1 (.t 17)), oP 19 (.pcall (fC 67) [(.t 10), (.t 14), (.t 18)]), mV 9 19, oP 20 (.extr 0 (.t 9)), oP 21 (.extr 1 (.t 9)), mV 7 20, mV 8 21])
  (.seq (.ops [mV 22 8, oP 23 (.bin .eql (.t 22) (iC 4)), mV 6 23])
  .ret)))
theorem e93 : Ent 93 24 [] [.t 6] k93 := ent Tryz.func93 (by kernel_rfl) (by kernel_rfl) (by kernel_rfl) (fun _ => by kernel_rfl) (by kernel_rfl)
end Go.Proofs.YtpihikppdeecmaaGreat
namespace Go.Proofs.YtpihikppdeecmaaGreat
open Go.Kv
set_option linter.unusedVariables false
set_option linter.unusedSimpArgs false
attribute [local irreducible] ACall PCall KL
theorem p60g (f : List Nat) (n : Nat) (hf : Ok f n) (l : List Nat) (hl : ∀ x ∈ l, x < n) (h1 : l.length ≤ 1000) : Pure Tryz.prog 60 [.agg (ints (mp f)), .list (ints (nz l))] (.list (ints (nz (l.map fun x => f.getD x 0)))) := by
  have hlf := hf.mp_len
  have h5 := hf.le
  have hnl := nz_len l
  refine e60 (by simp) fun _ _ => ?_
  simp only [k60, argEnv, hlf, go_sem]
  refine KL_ind k60_b0.eq_1 (fun x : Nat => [(2, .fptr (ints (mp f)) 0), (5, nref 0 x), (8, .list (ints (nz l))), (9, .int .i64 l.length), (10, .int .i64 x)]) (fun x => nhp [.arr (x - 1) 2 1 (ints (nz ((l.map fun x => f.getD x 0).take x)))] x) (fun x => x ≤ l.length) (fun x => l.length - x) [2, 5, 8, 9, 10] 0 (by simp [keep, hnl, nref]) (by rfl) (Nat.zero_le _) fun x hx ih => ?_
  try simp only [hlf, hnl, go_sem]
  refine ⟨fun h1 => ?_, fun h1 => ?_⟩
  · have hxl : x < l.length := by omega
    have hxn := hl _ (List.getElem_mem hxl)
    have hq0 : (nz l).getD x 0 = (l[x] : Int) := by simp [nz, List.getD_eq_getElem?_getD, hxl]
    have hqt : (l[x] : Int).toNat = l[x] := by omega
    rw [hq0, hqt]
    have e1 : nz ((l.map fun x => f.getD x 0).take (x + 1)) = nz ((l.map fun x => f.getD x 0).take x) ++ [(f.getD l[x] 0 : Int)] := by
      rw [List.take_succ_eq_append_getElem (by simpa using hxl)]
      simp [nz]
    have hll : (nz ((l.map fun x => f.getD x 0).take x)).length = x := by rw [nz_len, List.length_take, List.length_map]; omega
    rcases x with _ | x
    · try simp only [go_sem]
      refine ⟨by omega, fun _ => ⟨by omega, by omega, fun _ => ⟨by omega, ih 1 (by omega) (by omega) _ _ (by simp [keep, nref]) ?_⟩⟩⟩
      rw [show (0 : Nat) + 1 = 1 from rfl] at e1
      rw [nhp_pos (by omega), e1]; rfl
    · try simp only [hll, go_sem]
      refine ⟨by omega, fun _ => ⟨by omega, by omega, fun _ => ⟨⟨by omega, Nat.le_refl _, by omega⟩, by omega, ih (x + 1 + 1) (by omega) (by omega) _ _ (by simp [keep, nref]) ?_⟩⟩⟩
      rw [nhp_pos (by omega), e1, List.take_of_length_le (by omega)]
      rfl
  · obtain rfl : x = l.length := by omega
    rw [List.take_of_length_le (l := l.map _) (by simp)]
    rcases hc : l.length with _ | y
    · obtain rfl := List.eq_nil_of_length_eq_zero hc
      exact Kv.Fin.freeze .nils ⟨rfl, rfl⟩
    · rw [nref_succ, nhp_succ]
      exact Kv.Fin.freeze (Imm.refn rfl (by simp [nz, hc])) ⟨rfl, rfl⟩
theorem p115 (m q : PV) [Still m] [Still q] (la : List Nat) (hL : la.length ≤ 1048576) (n : Nat) (p : List Int) (hp : two n n p) : Pure Tryz.prog 115 [.list (ints p), .fptr [.fptr [m, q, .list (ints (nz la))] 0] 0] (.bool (dfr la la p)) := by
  obtain ⟨u, v, hu, hv, rfl⟩ := hp
  have h0 : ([(u : Int), (v : Int)]).getD 0 0 = (u : Int) := rfl
  have h1 : ([(u : Int), (v : Int)]).getD 1 0 = (v : Int) := rfl
  have hd : dfr la la [(u : Int), (v : Int)] = (decide (u ∈ la) != decide (v ∈ la)) := by simp [dfr]
  rw [hd]
  refine e115 (by simp) fun _ _ => ?_
  simp only [k115, argEnv, go_sem]
  try simp only [OpK_eq, HKv, h0, h1, go_sem]
  refine (p55 m q la hL u).pgo ?_
  try simp only [OpK_eq, HKv, h0, h1, go_sem]
  refine (p55 m q la hL v).pgo ?_
  try simp only [OpK_eq, HKv, h0, h1, go_sem]
  exact Kv.Fin.still ⟨rfl, rfl⟩
/-- What tells two points apart, as the implementation says it. -/
def apV (o : Option (List Int)) : PV := match o with
  | some w => .tup [.list (ints w), .int .i64 0]
  | none => .tup [.nils, .int .i64 4]
theorem p67 (fs : List (List Nat)) (n : Nat) (hf : ∀ f ∈ fs, Ok f n) (h5 : n ≤ 5) (hfl : fs.length ≤ 1000) (q0 : PV) [Still q0] (la : List Nat) (hL : la.length ≤ 1048576) (p q : Nat) (hp : p < n) (hq : q < n) :
    Pure Tryz.prog 67 [.fptr [.list (aggs (fs.map mp)), q0, .list (ints (nz la))] 0, .int .i64 p, .int .i64 q] (apV (fwp fs fs la la p q)) := by
  have hpq : two n n [(p : Int), (q : Int)] := ⟨p, q, hp, hq, rfl⟩
  have hbq : ∀ i, (bq fs ldp (fun (_ : Unit) _ => ()) ([([(p : Int), (q : Int)], [])], ()) i).1 = pq fs fs p q i := bq_pq fs p q
  have hFW := p59 fs n hf hfl 60 ldp (two n n) (fun p hp => by obtain ⟨u, v, _, _, rfl⟩ := hp; simp) (fun f hff p hp => by
      obtain ⟨u, v, hu, hv, rfl⟩ := hp
      exact ⟨f.getD u 0, f.getD v 0, (hf f hff).get' u, (hf f hff).get' v, by simp [ldp]⟩) (fun f hff p hp => by
      obtain ⟨u, v, hu, hv, rfl⟩ := hp
      have := p60g f n (hf f hff) [u, v] (fun x hx => by simp only [List.mem_cons, List.not_mem_nil, or_false] at hx; rcases hx with rfl | rfl <;> assumption) (by simp)
      simpa [nz, ldp] using this)
    115 [.fptr [.fptr [.list (aggs (fs.map mp)), q0, .list (ints (nz la))] 0] 0] (dfr la la) (fun p hp => p115 _ q0 la hL n p hp) [(p : Int), (q : Int)] hpq 25 (by omega) (fun i => by rw [hbq]; exact pq_len hf hf rfl hp hq h5 h5 i)
    (fun v s => ∃ x r, v = .tup [x, .int .i64 r] ∧ ((∃ w, fwp fs fs la la p q = some w ∧ r = 0 ∧ OwnI 2 s 0 s.length x w) ∨ (fwp fs fs la la p q = none ∧ r = 4 ∧ x = .nils)))
    (fun i hi hit hno x s hx hs => ?_) (fun i hi hno => ?_)
  rotate_left
  · have hFH : FH fs fs la la p q i := by
      have hlen : (pq fs fs p q i).length = (bq fs ldp (fun (_ : Unit) _ => ()) ([([(p : Int), (q : Int)], [])], ()) i).1.length := by rw [hbq]
      refine ⟨by omega, ?_, fun j hj hjl => ?_⟩
      · rw [← hbq, List.getD_eq_getElem?_getD, List.getElem?_eq_getElem hi]; exact hit
      · rw [← hbq] at hjl ⊢
        rw [List.getD_eq_getElem?_getD, List.getElem?_eq_getElem hjl]; exact hno j hjl hj
    refine ⟨x, 0, rfl, .inl ⟨_, fwp_some hFH, rfl, ?_⟩⟩
    rw [← hbq, List.getD_eq_getElem?_getD, List.getElem?_eq_getElem hi]; exact hx
  · rw [hbq] at hi
    exact ⟨.nils, 4, rfl, .inr ⟨fwp_none hi fun j hj hjl => by
      rw [← hbq] at hjl ⊢
      rw [List.getD_eq_getElem?_getD, List.getElem?_eq_getElem hjl]; exact hno j hjl hj, rfl, rfl⟩⟩
  have hP : Pure Tryz.prog 59 [.list (aggs (fs.map mp)), .list (ints [(p : Int), (q : Int)]), .fn (.func 60) [] [], .fn (.func 115) [] [.fptr [.fptr [.list (aggs (fs.map mp)), q0, .list (ints (nz la))] 0] 0]] (apV (fwp fs fs la la p q)) :=
    ACall.ret hFW fun v s ⟨x, r, hv, h⟩ => by
      subst hv
      rcases h with ⟨w, e, rfl, ho⟩ | ⟨e, rfl, rfl⟩
      · rw [e]; exact Kv.Fin.freeze (Imm.tupL (.cons ho.imm (.cons (.int _ _ _) (.nil _)))) ⟨rfl, rfl⟩
      · rw [e]; exact Kv.Fin.still ⟨rfl, rfl⟩
  have ei : [PV.int .i64 p, .int .i64 q] = ints [(p : Int), (q : Int)] := rfl
  generalize fwp fs fs la la p q = o at *
  cases o with
  | none =>
    simp only [apV] at hP ⊢
    refine e67 (by simp) fun _ _ => ?_
    simp only [k67, argEnv, go_sem]
    try simp only [OpK_eq, HKv, ei, go_sem]
    refine hP.give (id := 0) rfl (.cons Imm.still (.cons (Imm.refn (l := [(p : Int), (q : Int)]) (solo_get (o := .arr 0 2 1 (ints [(p : Int), (q : Int)])) rfl) rfl) (.cons Imm.still (.cons Imm.still (.nil _))))) ?_
    try simp only [OpK_eq, HKv, go_sem]
    exact Kv.Fin.still ⟨rfl, rfl⟩
  | some w =>
    simp only [apV] at hP ⊢
    refine e67 (by simp) fun _ _ => ?_
    simp only [k67, argEnv, go_sem]
    try simp only [OpK_eq, HKv, ei, go_sem]
    refine hP.give (id := 0) rfl (.cons Imm.still (.cons (Imm.refn (l := [(p : Int), (q : Int)]) (solo_get (o := .arr 0 2 1 (ints [(p : Int), (q : Int)])) rfl) rfl) (.cons Imm.still (.cons Imm.still (.nil _))))) ?_
    try simp only [OpK_eq, HKv, go_sem]
    exact Kv.Fin.still ⟨rfl, rfl⟩
theorem p93 (fs : List (List Nat)) (n : Nat) (hf : ∀ f ∈ fs, Ok f n) (h5 : n ≤ 5) (hfl : fs.length ≤ 1000) (q0 : PV) [Still q0] (la : List Nat) (hL : la.length ≤ 1048576) (od : List Nat) (ho : ∀ x ∈ od, x < n) (hol : od.length ≤ 1000) (i k : Nat) (hi : i < od.length) (hk : k < od.length) :
    Pure Tryz.prog 93 [.int .i64 i, .int .i64 k, .fptr [.fptr [.list (aggs (fs.map mp)), q0, .list (ints (nz la))] 0] 0, .fptr [.list (ints (nz od))] 0] (.bool (smB fs la (od.getD i 0) (od.getD k 0))) := by
  have hgi : (nz od).getD i 0 = (od.getD i 0 : Int) := by simp [nz, List.getD_eq_getElem?_getD, hi]
  have hgk : (nz od).getD k 0 = (od.getD k 0 : Int) := by simp [nz, List.getD_eq_getElem?_getD, hk]
  have h1 : od.getD i 0 < n := by rw [List.getD_eq_getElem?_getD, List.getElem?_eq_getElem hi]; exact ho _ (List.getElem_mem hi)
  have h2 : od.getD k 0 < n := by rw [List.getD_eq_getElem?_getD, List.getElem?_eq_getElem hk]; exact ho _ (List.getElem_mem hk)
  have hnl := nz_len od
  have hA := p67 fs n hf h5 hfl q0 la hL _ _ h1 h2
  rw [fwp_smB hf h1 h2 h5]
  generalize fwp fs fs la la (od.getD i 0) (od.getD k 0) = o at *
  refine e93 (by simp) fun _ _ => ?_
  simp only [k93, argEnv, go_sem]
  try simp only [OpK_eq, HKv, hgi, hgk, hnl, go_sem]
  refine ⟨by omega, fun _ => ⟨by omega, fun _ => ?_⟩⟩
  cases o with
  | none =>
    simp only [apV] at hA
    refine hA.fgo ?_
    try simp only [OpK_eq, HKv, go_sem]
    exact Kv.Fin.still ⟨rfl, rfl⟩
  | some w =>
    simp only [apV] at hA
    refine hA.fgo ?_
    try simp only [OpK_eq, HKv, go_sem]
    exact Kv.Fin.still ⟨rfl, rfl⟩
end Go.Proofs.YtpihikppdeecmaaGreat
end
section
/- Classes numbered: the implementation. -/
namespace Go.Proofs.YtpihikppdeecmaaGreat
open Go.Kv
set_option maxRecDepth 100000
def k92_b0 : KC := (.seq (.seq (.ops [mV 15 8, mV 16 7, oP 17 (.bin .lss (.t 15) (.t 16)), mV 18 17, ⟨(some 19), some (18, true), .mv (.t 1)⟩, ⟨(some 20), some (18, true), .mv (.t 8)⟩, ⟨(some 21), some (18, true), .mv (.t 7)⟩, ⟨(some 22), some (18, true), .call (.t 19) [(.t 20), (.t 21)]⟩, ⟨(some 23), some (18, true), .not (.t 22)⟩, oP 24 (.pick (.t 18) (.t 23) (.c (.bool false)))])
  (.cond (.t 24) .skip (.exit 2)))
  (.block 3 (.ops [mV 25 8, oP 26 (.bin .add (.t 25) (iC 1)), mV 8 26])))
def k92_b1 : KC := (.seq (.ops [oP 13 (.bin .lss (.t 12) (.t 11))])
  (.seq (.cond (.t 13) .skip (.exit 0))
  (.seq (.block 1 (.seq (.ops [mV 14 12, mV 7 14])
  (.seq (.ops [oP 8 (.mv (iC 0))])
  (.seq (.block 2 (.loop k92_b0))
  (.seq (.ops [mV 27 8, mV 28 7, oP 29 (.bin .lss (.t 27) (.t 28))])
  (.cond (.t 29) (.ops [mV 30 5, mV 31 7, mV 32 5, mV 33 8, oP 34 (.idxS 1 (.t 32) (.t 33)), oP 35 (.load false 1 (.t 34)), oP 36 (.idxS 1 (.t 30) (.t 31)), ⟨none, none, .store 1 (.t 36) (.t 35)⟩]) (.seq (.ops [mV 37 5, mV 38 7, mV 39 6, oP 40 (.idxS 1 (.t 37) (.t 38)), ⟨none, none, .store 1 (.t 40) (.t 39)⟩])
  (.ops [mV 41 6, oP 42 (.bin .add (.t 41) (iC 1)), mV 6 42]))))))))
  (.ops [oP 43 (.bin .add (.t 12) (iC 1)), mV 12 43]))))
def k92 : KC := (.seq (.ops [oP 4 (.mv (.c (.nils)))])
  (.seq (.ops [mV 9 0, oP 10 (.mks 2 1 (.int .i64 0) (.t 9) (.t 9)), mV 5 10])
  (.seq (.ops [oP 6 (.mv (iC 0))])
  (.seq (.seq (.ops [mV 11 0, oP 12 (.mv (iC 0))])
  (.block 0 (.loop k92_b1)))
  (.seq (.ops [mV 44 5, mV 4 44])
  .ret)))))
theorem e92 : Ent 92 45 [] [.t 4] k92 := ent Tryz.func92 (by kernel_rfl) (by kernel_rfl) (by kernel_rfl) (fun _ => by kernel_rfl) (by kernel_rfl)
end Go.Proofs.YtpihikppdeecmaaGreat
namespace Go.Proofs.YtpihikppdeecmaaGreat
open Go.Kv
set_option linter.unusedVariables false
set_option linter.unusedSimpArgs false
attribute [local irreducible] ACall PCall KL
theorem nmA_facts (same : Nat → Nat → Bool) : ∀ i, (nmA same i).1.length = i ∧ (nmA same i).2 ≤ i
  | 0 => ⟨rfl, Nat.le_refl _⟩
  | i + 1 => by
    obtain ⟨h1, h2⟩ := nmA_facts same i
    rw [nmA]
    split
    · exact ⟨by simp [h1], by show (nmA same i).2 ≤ i + 1; omega⟩
    · exact ⟨by simp [h1], by show (nmA same i).2 + 1 ≤ i + 1; omega⟩
theorem nmA_lt (same : Nat → Nat → Bool) : ∀ i, ∀ x ∈ (nmA same i).1, x ≤ i
  | 0, x, h => by simp [nmA] at h
  | i + 1, x, h => by
    have ih := nmA_lt same i
    rw [nmA] at h
    split at h
    · rcases List.mem_append.1 h with h | h
      · have := ih x h; omega
      · rw [List.mem_singleton] at h
        subst h
        rename_i k hk
        have hki : k < i := List.mem_range.1 (List.mem_of_find?_eq_some hk)
        rw [List.getD_eq_getElem?_getD, List.getElem?_eq_getElem (by rw [(nmA_facts same i).1]; exact hki)]
        have := ih _ (List.getElem_mem (by rw [(nmA_facts same i).1]; exact hki))
        simp only [Option.getD_some]; omega
    · rcases List.mem_append.1 h with h | h
      · have := ih x h; omega
      · rw [List.mem_singleton] at h
        have := (nmA_facts same i).2; omega
theorem nmA_some {same : Nat → Nat → Bool} {x k : Nat} (h : (List.range x).find? (fun k => same k x) = some k) : nmA same (x + 1) = ((nmA same x).1 ++ [(nmA same x).1.getD k 0], (nmA same x).2) := by rw [nmA, h]
theorem nmA_none {same : Nat → Nat → Bool} {x : Nat} (h : (List.range x).find? (fun k => same k x) = none) : nmA same (x + 1) = ((nmA same x).1 ++ [(nmA same x).2], (nmA same x).2 + 1) := by rw [nmA, h]
theorem set_next (a : List Nat) (m : Nat) (v : Nat) : (nz a ++ List.replicate (m + 1) 0).set a.length (v : Int) = nz (a ++ [v]) ++ List.replicate m 0 := by
  rw [List.set_append_right _ _ (by rw [nz_len]; exact Nat.le_refl _), nz_len, Nat.sub_self, List.replicate_succ, List.set_cons_zero]
  simp [nz]
theorem p92 (n : Nat) (hn : n ≤ 1000) (fid : FuncId) (caps : List PV) [hc : StillL caps] (same : Nat → Nat → Bool) (hp : ∀ i k, i < n → k < n → Pure Tryz.prog fid (.int .i64 i :: .int .i64 k :: caps) (.bool (same i k))) :
    ACall Tryz.prog 92 [.int .i64 n, .fn (.func fid) [] caps] [] (fun v s => v = .ref 0 0 0 n ∧ s = [.arr 0 2 1 (ints (nz (nmA same n).1))]) := by
  have hrep : List.replicate n (PV.int .i64 0) = ints (nz ([] : List Nat) ++ List.replicate n 0) := by simp [ints, nz]
  refine e92 (by simp) fun _ _ => ?_
  simp only [k92, argEnv, go_sem]
  try simp only [OpK_eq, HKv, go_sem]
  refine ⟨by omega, ?_⟩
  refine KL_ind k92_b1.eq_1 (fun x : Nat => [(1, .fn (.func fid) [] caps), (5, .ref 0 0 0 n), (6, .int .i64 (nmA same x).2), (11, .int .i64 n), (12, .int .i64 x)]) (fun x => [.arr 0 2 1 (ints (nz (nmA same x).1 ++ List.replicate (n - x) 0))]) (fun x => x ≤ n) (fun x => n - x) [1, 5, 6, 11, 12] 0 (by simp [keep, nmA]) (by simp [nmA, ints, nz]) (Nat.zero_le _) fun x hx ih => ?_
  obtain ⟨hl, h2⟩ := nmA_facts same x
  have hs1 := fun k => nmA_some (same := same) (x := x) (k := k)
  have hs2 := nmA_none (same := same) (x := x)
  have hle := nmA_lt same x
  have hA : ∀ v : Nat, x < n → (nz (nmA same x).1 ++ List.replicate (n - x) 0).set x (v : Int) = nz ((nmA same x).1 ++ [v]) ++ List.replicate (n - (x + 1)) 0 := fun v hxn => by
    have := set_next (nmA same x).1 (n - (x + 1)) v
    rwa [hl, show n - (x + 1) + 1 = n - x by omega] at this
  have hG : ∀ k, k < x → (nz (nmA same x).1 ++ List.replicate (n - x) 0).getD k 0 = ((nmA same x).1.getD k 0 : Int) := fun k hk => by
    rw [List.getD_eq_getElem?_getD, List.getElem?_append_left (by rw [nz_len]; omega), List.getD_eq_getElem?_getD]
    simp [nz, hl, hk]
  have hLn : (nz (nmA same x).1 ++ List.replicate (n - x) 0).length = n := by rw [List.length_append, nz_len, List.length_replicate]; omega
  generalize hN : nmA same x = N at *
  obtain ⟨a, nx⟩ := N
  simp only at hl h2 hle hs1 hs2 hA hG hLn ⊢
  generalize hH : nz a ++ List.replicate (n - x) 0 = H at *
  try simp only [OpK_eq, HKv, go_sem]
  refine ⟨fun h1 => ?_, fun h1 => ?_⟩
  · have hxn : x < n := by omega
    refine KL_ind k92_b0.eq_1 (fun k : Nat => [(1, .fn (.func fid) [] caps), (5, .ref 0 0 0 n), (6, .int .i64 nx), (7, .int .i64 x), (8, .int .i64 k), (11, .int .i64 n), (12, .int .i64 x)]) (fun _ => [.arr 0 2 1 (ints H)]) (fun k => k ≤ x ∧ ∀ j, j < k → same j x = false) (fun k => x - k) [1, 5, 6, 7, 8, 11, 12] 0 (by simp [keep]) rfl ⟨Nat.zero_le _, fun j h => by omega⟩ fun k ⟨hk, hno⟩ ihk => ?_
    try simp only [OpK_eq, HKv, go_sem]
    refine ⟨fun h3 => ?_, fun h3 => ?_⟩
    · have hkx : k < x := by omega
      refine (hp k x (by omega) hxn).go ?_
      cases hs : same k x with
      | true =>
        have hfind : (List.range x).find? (fun k => same k x) = some k := by
          rw [List.find?_range_eq_some]
          exact ⟨hs, by simpa using hkx, fun j hj => by simp [hno j hj]⟩
        have hsucc := hs1 k hfind
        have hgk := hG k hkx
        have hAk := hA (a.getD k 0) hxn
        try simp only [OpK_eq, HKv, hLn, hgk, go_sem]
        refine ⟨fun _ => ⟨⟨by omega, Nat.le_refl _⟩, by omega, fun _ => ⟨⟨by omega, Nat.le_refl _⟩, hxn, fun _ => ⟨by omega, ih (x + 1) (by omega) (by omega) _ _ (by simp [keep, hsucc]) ?_⟩⟩⟩, fun h => absurd h (by omega)⟩
        rw [hsucc, hAk]
      | false =>
        try simp only [OpK_eq, HKv, go_sem]
        refine ⟨by omega, ihk (k + 1) ⟨by omega, fun j hj => ?_⟩ (by omega) _ _ (by simp [keep]) rfl⟩
        by_cases e : j = k
        · subst e; exact hs
        · exact hno j (by omega)
    · obtain rfl : k = x := by omega
      have hfind : (List.range k).find? (fun j => same j k) = none := by
        rw [List.find?_range_eq_none]
        exact fun j hj => by simp [hno j hj]
      have hsucc := hs2 hfind
      have hAk := hA nx hxn
      try simp only [OpK_eq, HKv, hLn, go_sem]
      refine ⟨fun h => absurd h (by omega), fun _ => ⟨⟨by omega, Nat.le_refl _⟩, hxn, fun _ => ⟨by omega, by omega, ih (k + 1) (by omega) (by omega) _ _ (by simp [keep, hsucc]) ?_⟩⟩⟩
      rw [hsucc, hAk]
  · obtain rfl : x = n := by omega
    have e : H = nz a := hH.symm.trans (by rw [Nat.sub_self]; simp)
    rw [e]
    exact Kv.Fin.now ⟨rfl, by rw [hN]⟩
end Go.Proofs.YtpihikppdeecmaaGreat
end
