/- The answers of both sides, as the law of shapes looks at them. -/
import Derived.Test.YtpfapiiinkkcgaaGreatSH
import Derived.Test.YtpfapiiinkkcgaaGreatDQ
import Derived.Test.YtpfapiiinkkcgaaGreatDV
namespace Go.Proofs.YtpfapiiinkkcgaaGreat
open Go.Kv
set_option linter.unusedVariables false
set_option linter.unusedSimpArgs false
attribute [local irreducible] ACall PCall KL
theorem orb_refl {f : List Nat} {n : Nat} (hf : Ok f n) : orbC n f f :=
  (orb_iff hf hf).2 ⟨List.range n, ⟨⟨by simp, hf.pos, hf.le, fun x hx => List.mem_range.1 hx⟩, List.nodup_range⟩, by rw [one_mul hf, mul_one hf]⟩
theorem lsf_orb {f : List Nat} {n : Nat} (hf : Ok f n) : Ok (lsf f (prm n)) n ∧ orbC n f (lsf f (prm n)) := by
  obtain ⟨h1, _, _, h4⟩ := fold_min hf (prm n) f hf fun p hp => hp
  refine ⟨h1, ?_⟩
  rcases h4 with h | ⟨p, hp, h⟩
  · have e : lsf f (prm n) = f := h
    rw [e]; exact orb_refl hf
  · exact ⟨p, hp, h.symm⟩
theorem lsf_same {f g : List Nat} {n : Nat} (hf : Ok f n) (hg : Ok g n) (h : lsf f (prm n) = lsf g (prm n)) : orbC n f g := by
  obtain ⟨a1, a2⟩ := lsf_orb hf
  obtain ⟨b1, b2⟩ := lsf_orb hg
  exact orbC_trans hf b1 hg (h ▸ a2) (orbC_symm hg b1 b2)
/-- What two maps are told. -/
structure SmOk (m k : List Int) (b : Bool) (f g : List Nat) (n : Nat) : Prop where
  hf : Ok f n
  hg : Ok g n
  em : m = mp f
  ek : k = mp g
  eb : b = decide (lsf f (prm n) = lsf g (prm n))
theorem sm_loc (m k : List Int) (h6 : m.length = 6) (h6' : k.length = 6) : ∃ (b : Bool) (r : Int), Pure Tryz.prog 48 [.agg (ints m), .agg (ints k)] (.tup [.bool b, .int .i64 r]) ∧ Pure Tryz.prog 49 [.agg (ints m), .agg (ints k)] (.tup [.bool b, .int .i64 r]) ∧ ((r = 0 ∧ ∃ f g n, SmOk m k b f g n) ∨ r ≠ 0) := by
  by_cases hp : pcd m k = 0
  · have hmk : isM m = true ∧ isM k = true ∧ m.getD 0 0 = k.getD 0 0 := by
      unfold pcd at hp
      split at hp
      · cases hp
      · rename_i h1
        split at hp
        · rename_i h2
          refine ⟨?_, ?_, h2⟩
          · cases hm : isM m with
            | true => rfl
            | false => exact absurd (.inl hm) h1
          · cases hm : isM k with
            | true => rfl
            | false => exact absurd (.inr hm) h1
        · cases hp
    obtain ⟨hm, hk, he⟩ := hmk
    obtain ⟨f, n, hf, rfl⟩ := isM_ok h6 hm
    obtain ⟨g, n', hg, rfl⟩ := isM_ok h6' hk
    have e1 : (mp f).getD 0 0 = (f.length : Int) := rfl
    have e2 : (mp g).getD 0 0 = (g.length : Int) := rfl
    rw [e1, e2, hf.len, hg.len] at he
    obtain rfl : n = n' := by omega
    exact ⟨_, 0, p48 f g n hf hg hp, p49 f g n hf hg hp, .inl ⟨rfl, f, g, n, hf, hg, rfl, rfl, rfl⟩⟩
  · exact ⟨false, pcd m k, p48_out m k h6 h6' hp, p49_out m k h6 h6' hp, .inr hp⟩
/-- What is counted of a map. -/
def facN : Nat → Nat
  | 0 => 1
  | n + 1 => facN n * (n + 1)
theorem prm_facN : ∀ n, n < 6 → 1 ≤ n → (prm n).length = facN n := by decide +kernel
theorem cs_loc (m : List Int) (h6 : m.length = 6) : ∃ a b c r : Int, Pure Tryz.prog 53 [.agg (ints m)] (.tup [.int .i64 a, .int .i64 b, .int .i64 r]) ∧ Pure Tryz.prog 54 [.agg (ints m)] (.tup [.int .i64 a, .int .i64 b, .int .i64 r]) ∧
    Pure Tryz.prog 55 [.agg (ints m)] (.tup [.int .i64 c, .int .i64 r]) ∧ Pure Tryz.prog 56 [.agg (ints m)] (.tup [.int .i64 c, .int .i64 r]) ∧
    ((r = 0 ∧ ∃ n : Nat, 1 ≤ n ∧ n ≤ 5 ∧ m.getD 0 0 = n ∧ a * b = facN n ∧ b ≤ c ∧ 0 ≤ a * b) ∨ r ≠ 0) := by
  cases hm : isM m with
  | true =>
    obtain ⟨f, n, hf, rfl⟩ := isM_ok h6 hm
    have h1 := hf.pos
    have h5 := hf.le
    have e1 : (mp f).getD 0 0 = (f.length : Int) := rfl
    have hk := kept_com (f := f) (n := n)
    have hd : (prm n).length / kept f n (prm n).length * kept f n (prm n).length = (prm n).length := by
      rw [kept_stb]
      exact Nat.div_mul_cancel (lagrange hf)
    have hfc := prm_facN n (by omega) h1
    refine ⟨_, _, _, 0, p53 f n hf, p54 f n hf, p55 f n hf, p56 f n hf, .inl ⟨rfl, n, h1, h5, by rw [e1, hf.len], ?_, by omega, ?_⟩⟩
    · rw [← Int.natCast_mul, hd, hfc]
    · rw [← Int.natCast_mul]; omega
  | false => exact ⟨0, 0, 0, 1, p53_out m h6 hm, p54_out m h6 hm, p55_out m h6 hm, p56_out m h6 hm, .inr (by decide)⟩
theorem fr_loc (m : List Int) (k : Int) (h6 : m.length = 6) : ∃ (w : List Int) (r : Int), w.length = 6 ∧ Pure Tryz.prog 58 [.agg (ints m), .int .i64 k] (.tup [.agg (ints w), .int .i64 r]) ∧ Pure Tryz.prog 59 [.agg (ints m), .int .i64 k] (.tup [.agg (ints w), .int .i64 r]) ∧
    ((r = 0 ∧ ∃ (f g : List Nat) (n j : Nat), Ok f n ∧ Ok g n ∧ m = mp f ∧ w = mp g ∧ k = j ∧ j ≤ 6 ∧ itM g n j = f) ∨ r ≠ 0) := by
  by_cases h : isM m = true ∧ (1 ≤ k ∧ k ≤ 6)
  · obtain ⟨hm, hk⟩ := h
    obtain ⟨f, n, hf, rfl⟩ := isM_ok h6 hm
    obtain ⟨j, rfl⟩ : ∃ j : Nat, k = j := ⟨k.toNat, by omega⟩
    have hI := p58 f n j hf (by omega) (by omega)
    have hS := p59 f n j hf (by omega) (by omega)
    have h1 := hf.pos
    have h5 := hf.le
    cases hr : rts f n j with
    | nil =>
      have e1 : frt f n j = [0, 0, 0, 0, 0, 0] := by rw [frt, hr]
      have e2 : frtc f n j = 4 := by rw [frtc, hr]
      rw [e1, e2] at hI hS
      exact ⟨_, 4, rfl, hI, hS, .inr (by decide)⟩
    | cons g t =>
      have e1 : frt f n j = mp g := by rw [frt, hr]
      have e2 : frtc f n j = 0 := by rw [frtc, hr]
      rw [e1, e2] at hI hS
      have hgm : g ∈ rts f n j := by rw [hr]; simp
      obtain ⟨a, b⟩ := List.mem_filter.1 hgm
      have hg := allM_ok h1 h5 a
      exact ⟨_, 0, hg.mp_len, hI, hS, .inl ⟨rfl, f, g, n, j, hf, hg, rfl, rfl, rfl, by omega, of_decide_eq_true b⟩⟩
  · have hb : isM m = false ∨ ¬ (1 ≤ k ∧ k ≤ 6) := by
      cases hm : isM m with
      | true => exact .inr fun h' => h ⟨hm, h'⟩
      | false => exact .inl rfl
    exact ⟨_, _, rfl, p58_out m h6 k hb, p59_out m h6 k hb, .inr (rtc_ne m)⟩
theorem cr_loc (m : List Int) (k : Int) (h6 : m.length = 6) : ∃ a r : Int, Pure Tryz.prog 51 [.agg (ints m), .int .i64 k] (.tup [.int .i64 a, .int .i64 r]) ∧ Pure Tryz.prog 62 [.agg (ints m), .int .i64 k] (.tup [.int .i64 a, .int .i64 r]) := by
  by_cases h : isM m = true ∧ (1 ≤ k ∧ k ≤ 6)
  · obtain ⟨hm, hk⟩ := h
    obtain ⟨f, n, hf, rfl⟩ := isM_ok h6 hm
    obtain ⟨j, rfl⟩ : ∃ j : Nat, k = j := ⟨k.toNat, by omega⟩
    exact ⟨_, _, p51 f n j hf (by omega) (by omega), p62 f n j hf (by omega) (by omega)⟩
  · have hb : isM m = false ∨ ¬ (1 ≤ k ∧ k ≤ 6) := by
      cases hm : isM m with
      | true => exact .inr fun h' => h ⟨hm, h'⟩
      | false => exact .inl rfl
    exact ⟨_, _, p51_out m h6 k hb, p62_out m h6 k hb⟩
theorem lf_loc (m : List Int) (h6 : m.length = 6) : ∃ (w : List Int) (r : Int), w.length = 6 ∧ Pure Tryz.prog 50 [.agg (ints m)] (.tup [.agg (ints w), .int .i64 r]) ∧ Pure Tryz.prog 64 [.agg (ints m)] (.tup [.agg (ints w), .int .i64 r]) := by
  cases hm : isM m with
  | true =>
    obtain ⟨f, n, hf, rfl⟩ := isM_ok h6 hm
    exact ⟨_, _, (lsf_orb hf).1.mp_len, p50 f n hf, p64 f n hf⟩
  | false => exact ⟨_, _, rfl, p50_out m h6 hm, p64_out m h6 hm⟩
theorem lens_few {f : List Nat} {n : Nat} (hf : Ok f n) : (negs (srt (negs (lens f n n)))).length ≤ 5 := by
  have h5 := hf.le
  have h1 : (lens f n n).length ≤ n := by
    unfold lens crts
    rw [List.length_map]
    exact Nat.le_trans (List.length_filter_le _ _) (by simp)
  simp; omega
theorem ct_loc (m : List Int) (h6 : m.length = 6) : ∃ (w : PV) (r : Int), Still w ∧ Pure Tryz.prog 25 [.agg (ints m)] (.tup [w, .int .i64 r]) ∧ Pure Tryz.prog 66 [.agg (ints m)] (.tup [w, .int .i64 r]) ∧ Pure Tryz.prog 14 [w, w] (.bool true) := by
  cases hm : isM m with
  | true =>
    obtain ⟨f, n, hf, rfl⟩ := isM_ok h6 hm
    have := lens_few hf
    exact ⟨_, _, inferInstance, NewIO.frozen (p25_in f n hf), p66_in f n hf, p14 _ (by omega)⟩
  | false => exact ⟨.nils, _, inferInstance, p25_out m h6 hm, p66_out m h6 hm, p14n⟩
end Go.Proofs.YtpfapiiinkkcgaaGreat
