/- Maps of the same shape: plain laws. -/
import Derived.Test.YtpfapiiinkkcgaaGreatNU
import Derived.Test.YtpfapiiinkkcgaaGreatRT
import Derived.Test.YtpfapiiinkkcgaaGreatCC
namespace Go.Proofs.YtpfapiiinkkcgaaGreat
open Go.Kv
set_option linter.unusedVariables false
set_option linter.unusedSimpArgs false
attribute [local irreducible] ACall PCall KL
/-- A permutation leads one map to another. -/
structure Cj (n : Nat) (f g p : List Nat) : Prop where
  ok : Ok p n
  nd : p.Nodup
  eq : mul p g = mul f p
theorem Cj.at {n : Nat} {f g p : List Nat} (h : Cj n f g p) (hf : Ok f n) {x : Nat} (hx : x < n) : g.getD (p.getD x 0) 0 = p.getD (f.getD x 0) 0 := by
  have := congrArg (fun l : List Nat => l.getD x 0) h.eq
  simp only [mul_get (show x < p.length by rw [h.ok.len]; exact hx), mul_get (show x < f.length by rw [hf.len]; exact hx)] at this
  exact this
theorem Cj.it {n : Nat} {f g p : List Nat} (h : Cj n f g p) (hf : Ok f n) {x : Nat} (hx : x < n) : ∀ k, it g k (p.getD x 0) = p.getD (it f k x) 0
  | 0 => rfl
  | k + 1 => by
    show g.getD (Go.Kv.it g k (p.getD x 0)) 0 = p.getD (f.getD (Go.Kv.it f k x) 0) 0
    rw [h.it hf hx k, h.at hf (it_lt hf hx k)]
theorem Cj.inj {n : Nat} {f g p : List Nat} (h : Cj n f g p) {x y : Nat} (hx : x < n) (hy : y < n) (e : p.getD x 0 = p.getD y 0) : x = y := by
  have hxl : x < p.length := by rw [h.ok.len]; exact hx
  have hyl : y < p.length := by rw [h.ok.len]; exact hy
  simp only [List.getD_eq_getElem?_getD, List.getElem?_eq_getElem hxl, List.getElem?_eq_getElem hyl, Option.getD_some] at e
  exact (List.getElem_inj h.nd).1 e
theorem Cj.cyc {n : Nat} {f g p : List Nat} (h : Cj n f g p) (hf : Ok f n) {x : Nat} (hx : x < n) : cyc g n (p.getD x 0) = cyc f n x := by
  have hiff : Go.Kv.cyc g n (p.getD x 0) = true ↔ Go.Kv.cyc f n x = true := by
    rw [cyc_iff, cyc_iff]
    constructor
    · rintro ⟨d, h1, h2, h3⟩
      rw [h.it hf hx] at h3
      exact ⟨d, h1, h2, h.inj (it_lt hf hx d) hx h3⟩
    · rintro ⟨d, h1, h2, h3⟩
      exact ⟨d, h1, h2, by rw [h.it hf hx, h3]⟩
  cases hc : Go.Kv.cyc f n x with
  | true => exact hiff.2 hc
  | false =>
    cases hd : Go.Kv.cyc g n (p.getD x 0) with
    | true => rw [hiff.1 hd] at hc; cases hc
    | false => rfl
theorem Cj.clen {n : Nat} {f g p : List Nat} (h : Cj n f g p) (hf : Ok f n) {x : Nat} (hx : x < n) : clen g (p.getD x 0) = clen f x := by
  unfold Go.Proofs.YtpfapiiinkkcgaaGreat.clen
  congr 2
  funext k
  have : Go.Kv.it g (k + 1) (p.getD x 0) = p.getD x 0 ↔ Go.Kv.it f (k + 1) x = x := by
    rw [h.it hf hx]
    exact ⟨fun e => h.inj (it_lt hf hx _) hx e, fun e => by rw [e]⟩
  exact decide_eq_decide.2 this
theorem orb_cj {f g : List Nat} {n : Nat} (hf : Ok f n) (hg : Ok g n) (h : orbC n f g) : ∃ p, Cj n f g p := by
  obtain ⟨p, ⟨h1, h2⟩, h3⟩ := (orb_iff hf hg).1 h
  exact ⟨p, h1, h2, h3⟩
theorem clen_it {f : List Nat} {n p : Nat} (hf : Ok f n) (h : cyc f n p = true) (j : Nat) : clen f (it f j p) = clen f p := by
  unfold Go.Proofs.YtpfapiiinkkcgaaGreat.clen
  congr 2
  funext k
  have : it f (k + 1) (it f j p) = it f j p ↔ it f (k + 1) p = p := by
    constructor
    · intro e
      obtain ⟨s, hs⟩ := cyc_back h j
      calc it f (k + 1) p = it f (k + 1) (it f s (it f j p)) := by rw [hs]
        _ = it f s (it f (k + 1) (it f j p)) := by rw [← it_add, Nat.add_comm s (k + 1), it_add]
        _ = it f s (it f j p) := by rw [e]
        _ = p := hs
    · intro e
      rw [← it_add, Nat.add_comm, it_add, e]
  exact decide_eq_decide.2 this
/-- Cycles of maps of the same shape are as long. -/
theorem Cj.lens {n : Nat} {f g p : List Nat} (h : Cj n f g p) (hf : Ok f n) (hg : Ok g n) : (lens f n n).Perm (lens g n n) := by
  have hP : ((crts f n n).map fun r => mino g (p.getD r 0)).Perm (crts g n n) := by
    have hm : ∀ r, r ∈ crts f n n → r < n ∧ Go.Kv.cyc f n r = true ∧ mino f r = r := fun r hr => by
      obtain ⟨h1, h2⟩ := List.mem_filter.1 hr
      simp only [isRt, Bool.and_eq_true, decide_eq_true_eq] at h2
      exact ⟨List.mem_range.1 h1, h2.1, h2.2⟩
    refine (List.perm_ext_iff_of_nodup ?_ (List.nodup_range.filter _)).2 fun r' => ?_
    · rw [List.nodup_iff_pairwise_ne, List.pairwise_map]
      have hnd := List.nodup_iff_pairwise_ne.1 (List.nodup_range.filter (isRt f n) : ((List.range n).filter (isRt f n)).Nodup)
      refine List.Pairwise.imp_of_mem (fun {a b} ha hb hab e => hab ?_) hnd
      obtain ⟨a1, a2, a3⟩ := hm a ha
      obtain ⟨b1, b2, b3⟩ := hm b hb
      obtain ⟨i, hi⟩ := mino_it g (p.getD a 0)
      obtain ⟨j, hj⟩ := mino_it g (p.getD b 0)
      rw [hi, hj, h.it hf a1, h.it hf b1] at e
      have e2 := h.inj (it_lt hf a1 i) (it_lt hf b1 j) e
      have e3 := congrArg (mino f) e2
      rw [mino_move hf a2, mino_move hf b2, a3, b3] at e3
      exact e3
    · simp only [List.mem_map]
      constructor
      · rintro ⟨r, hr, rfl⟩
        obtain ⟨a1, a2, a3⟩ := hm r hr
        have hc : Go.Kv.cyc g n (p.getD r 0) = true := by rw [h.cyc hf a1]; exact a2
        obtain ⟨i, hi⟩ := mino_it g (p.getD r 0)
        refine List.mem_filter.2 ⟨List.mem_range.2 (by rw [hi]; exact it_lt hg (h.ok.get' r) i), ?_⟩
        simp only [isRt, Bool.and_eq_true, decide_eq_true_eq]
        exact ⟨mino_cyc hc, by conv => lhs; rw [hi, mino_move hg hc i]⟩
      · intro hr
        obtain ⟨h1, h2⟩ := List.mem_filter.1 hr
        simp only [isRt, Bool.and_eq_true, decide_eq_true_eq] at h2
        have hr'n := List.mem_range.1 h1
        obtain ⟨x, hx, he⟩ := List.getElem_of_mem (perm_mem h.ok h.nd hr'n)
        have hxn : x < n := by rw [← h.ok.len]; exact hx
        have hpx : p.getD x 0 = r' := by rw [List.getD_eq_getElem?_getD, List.getElem?_eq_getElem hx]; exact he
        have hcx : Go.Kv.cyc f n x = true := by rw [← h.cyc hf hxn, hpx]; exact h2.1
        obtain ⟨i, hi⟩ := mino_it f x
        refine ⟨mino f x, List.mem_filter.2 ⟨List.mem_range.2 (by rw [hi]; exact it_lt hf hxn i), ?_⟩, ?_⟩
        · simp only [isRt, Bool.and_eq_true, decide_eq_true_eq]
          exact ⟨mino_cyc hcx, by conv => lhs; rw [hi, mino_move hf hcx i]⟩
        · rw [hi, ← h.it hf hxn, hpx, mino_move hg h2.1, h2.2]
  have e : (crts f n n).map (fun r => (Go.Proofs.YtpfapiiinkkcgaaGreat.clen f r : Int)) = ((crts f n n).map fun r => mino g (p.getD r 0)).map fun r => (Go.Proofs.YtpfapiiinkkcgaaGreat.clen g r : Int) := by
    rw [List.map_map]
    refine List.map_congr_left fun r hr => ?_
    obtain ⟨h1, h2⟩ := List.mem_filter.1 hr
    simp only [isRt, Bool.and_eq_true, decide_eq_true_eq] at h2
    have hrn := List.mem_range.1 h1
    have hc : Go.Kv.cyc g n (p.getD r 0) = true := by rw [h.cyc hf hrn]; exact h2.1
    obtain ⟨i, hi⟩ := mino_it g (p.getD r 0)
    show (Go.Proofs.YtpfapiiinkkcgaaGreat.clen f r : Int) = (Go.Proofs.YtpfapiiinkkcgaaGreat.clen g (mino g (p.getD r 0)) : Int)
    rw [hi, clen_it hg hc, h.clen hf hrn]
  unfold Go.Proofs.YtpfapiiinkkcgaaGreat.lens
  rw [e]
  exact hP.map _
end Go.Proofs.YtpfapiiinkkcgaaGreat
