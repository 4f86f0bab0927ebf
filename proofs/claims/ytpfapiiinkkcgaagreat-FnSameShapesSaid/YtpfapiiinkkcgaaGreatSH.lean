/- Maps of the same shape: roots, and how many there are: plain laws. -/
import Derived.Test.YtpfapiiinkkcgaaGreatSG
import Derived.Test.YtpfapiiinkkcgaaGreatCSS
namespace Go.Proofs.YtpfapiiinkkcgaaGreat
open Go.Kv
set_option linter.unusedVariables false
set_option linter.unusedSimpArgs false
attribute [local irreducible] ACall PCall KL
theorem nd_sub {α : Type} [BEq α] [LawfulBEq α] : ∀ (A B : List α), A.Nodup → (∀ a ∈ A, a ∈ B) → A.length ≤ B.length
  | [], B, _, _ => by simp
  | a :: A, B, hn, hs => by
    obtain ⟨h1, h2⟩ := List.nodup_cons.1 hn
    have ha := hs a (by simp)
    have := nd_sub A (B.erase a) h2 fun x hx => (List.mem_erase_of_ne fun e => h1 (by subst e; exact hx)).2 (hs x (by simp [hx]))
    rw [List.length_erase_of_mem ha] at this
    have := List.length_pos_of_mem ha
    simp only [List.length_cons]; omega
theorem allM_nd (n : Nat) (h1 : 1 ≤ n) : (allM n).Nodup := by
  unfold allM
  rw [List.nodup_iff_pairwise_ne, List.pairwise_map]
  refine List.Pairwise.imp_of_mem (fun {a b} ha hb hab e => hab ?_) (List.nodup_iff_pairwise_ne.1 (List.nodup_range (n := n ^ n)))
  have := congrArg (nbl n) e
  rwa [nbl_at h1 (List.mem_range.1 ha), nbl_at h1 (List.mem_range.1 hb)] at this
theorem cj_rnm {r p : List Nat} {n : Nat} (hr : Ok r n) (hp : Ok p n) (hn : p.Nodup) : Cj n r (rnm r p) p :=
  ⟨hp, hn, (rnm_iff hr (rnm_ok hr hp hn) hp hn).1 rfl⟩
theorem Cj.pow {n : Nat} {f g p r : List Nat} {k : Nat} (h : Cj n f g p) (hf : Ok f n) (hg : Ok g n) (hr : Ok r n) (hk : itM r n k = f) : itM (rnm r p) n k = g := by
  have hc := cj_rnm hr h.ok h.nd
  refine ext_getD (by simp [itM, hg.len]) fun y hy => ?_
  simp only [itM, List.length_map, List.length_range] at hy
  rw [itM_get hy]
  obtain ⟨x, hx, he⟩ := List.getElem_of_mem (perm_mem h.ok h.nd hy)
  have hxn : x < n := by rw [← h.ok.len]; exact hx
  have hpx : p.getD x 0 = y := by rw [List.getD_eq_getElem?_getD, List.getElem?_eq_getElem hx]; exact he
  rw [← hpx, hc.it hr hxn k, h.at hf hxn, ← hk, itM_get hxn]
theorem rnm_inj {r s p : List Nat} {n : Nat} (hr : Ok r n) (hs : Ok s n) (hp : Ok p n) (hn : p.Nodup) (e : rnm r p = rnm s p) : r = s := by
  have h1 := cj_rnm hr hp hn
  have h2 := cj_rnm hs hp hn
  refine ext_getD (by rw [hr.len, hs.len]) fun x hx => ?_
  rw [hr.len] at hx
  have a := h1.at hr hx
  have b := h2.at hs hx
  rw [e, b] at a
  exact (h1.inj (hs.get' x) (hr.get' x) a).symm
theorem Cj.rts_le {n : Nat} {f g p : List Nat} (h : Cj n f g p) (hf : Ok f n) (hg : Ok g n) (k : Nat) : (rts f n k).length ≤ (rts g n k).length := by
  have h1 := hf.pos
  have h5 := hf.le
  have hm : ∀ r ∈ rts f n k, Ok r n ∧ itM r n k = f := fun r hr => by
    obtain ⟨a, b⟩ := List.mem_filter.1 hr
    exact ⟨allM_ok h1 h5 a, of_decide_eq_true b⟩
  have := nd_sub ((rts f n k).map fun r => rnm r p) (rts g n k) ?_ fun s hs => ?_
  · simpa using this
  · rw [List.nodup_iff_pairwise_ne, List.pairwise_map]
    refine List.Pairwise.imp_of_mem (fun {a b} ha hb hab e => hab ?_) (List.nodup_iff_pairwise_ne.1 ((allM_nd n h1).filter fun g => decide (itM g n k = f)))
    exact rnm_inj (hm a ha).1 (hm b hb).1 h.ok h.nd e
  · obtain ⟨r, hr, rfl⟩ := List.mem_map.1 hs
    obtain ⟨a, b⟩ := hm r hr
    have ho := rnm_ok a h.ok h.nd
    exact List.mem_filter.2 ⟨allM_mem h1 ho.len ho.lt, decide_eq_true (h.pow hf hg a b)⟩
theorem rts_same {n : Nat} {f g : List Nat} (hf : Ok f n) (hg : Ok g n) (h : orbC n f g) (k : Nat) : (rts f n k).length = (rts g n k).length := by
  obtain ⟨p, hp⟩ := orb_cj hf hg h
  obtain ⟨q, hq⟩ := orb_cj hg hf (orbC_symm hf hg h)
  have := hp.rts_le hf hg k
  have := hq.rts_le hg hf k
  omega
theorem lens_same {n : Nat} {f g : List Nat} (hf : Ok f n) (hg : Ok g n) (h : orbC n f g) : negs (srt (negs (lens f n n))) = negs (srt (negs (lens g n n))) := by
  obtain ⟨p, hp⟩ := orb_cj hf hg h
  have h1 := hp.lens hf hg
  congr 1
  exact srt_eq ((srt_perm _).trans (h1.map _)) (srt_sorted _)
/-- The permutations that keep a map. -/
def stb (f : List Nat) (n : Nat) : List (List Nat) := (prm n).filter fun g => decide (mul f g = mul g f)
theorem kept_stb (f : List Nat) (n : Nat) : kept f n (prm n).length = (stb f n).length := by rw [kept, List.take_length]; rfl
theorem prm_nodupL (n : Nat) (h1 : 1 ≤ n) : (prm n).Nodup := (allM_nd n h1).filter _
theorem mul_inj_r {a b q : List Nat} {n : Nat} (ha : Ok a n) (hb : Ok b n) (hq : Ok q n) (hn : q.Nodup) (e : mul a q = mul b q) : a = b := by
  have := congrArg (fun z => mul z (inv q)) e
  simp only [mul_assoc ha hq (inv_ok hq hn), mul_assoc hb hq (inv_ok hq hn), inv_right hq hn, mul_one ha, mul_one hb] at this
  exact this
theorem fib_stb {f p0 : List Nat} {n : Nat} (hf : Ok f n) (hp : Ok p0 n) (hn : p0.Nodup) : ((prm n).filter fun p => decide (rnm f p = rnm f p0)).length = (stb f n).length := by
  have h1 := hf.pos
  have h5 := hf.le
  have hg := rnm_ok hf hp hn
  have hpo : ∀ p ∈ prm n, Ok p n ∧ p.Nodup := fun p hp => ⟨prm_ok h1 h5 hp, prm_nd hp⟩
  have hi := inv_ok hp hn
  have hin := inv_nodup hp hn
  have e0 := (rnm_iff hf hg hp hn).1 rfl
  apply Nat.le_antisymm
  · have := nd_sub (((prm n).filter fun p => decide (rnm f p = rnm f p0)).map fun p => mul p (inv p0)) (stb f n) ?_ fun s hs => ?_
    · simpa using this
    · rw [List.nodup_iff_pairwise_ne, List.pairwise_map]
      refine List.Pairwise.imp_of_mem (fun {a b} ha hb hab e => hab ?_) (List.nodup_iff_pairwise_ne.1 ((prm_nodupL n h1).filter fun p => decide (rnm f p = rnm f p0)))
      exact mul_inj_r (hpo a (List.mem_filter.1 ha).1).1 (hpo b (List.mem_filter.1 hb).1).1 hi hin e
    · obtain ⟨p, hpm, rfl⟩ := List.mem_map.1 hs
      obtain ⟨a, b⟩ := List.mem_filter.1 hpm
      obtain ⟨c, d⟩ := hpo p a
      have e1 := (rnm_iff hf hg c d).1 (of_decide_eq_true b)
      have ho := c.mul hi
      refine List.mem_filter.2 ⟨prm_mem h1 ho (mul_nodup c d hi hin), decide_eq_true ?_⟩
      have e3 : mul (rnm f p0) (inv p0) = mul (inv p0) f := by
        have : mul p0 (mul (rnm f p0) (inv p0)) = mul p0 (mul (inv p0) f) := by
          rw [← mul_assoc hp hg hi, e0, mul_assoc hf hp hi, inv_right hp hn, mul_one hf, ← mul_assoc hp hi hf, inv_right hp hn, one_mul hf]
        have h2 := congrArg (fun z => mul (inv p0) z) this
        simp only [← mul_assoc hi hp (hg.mul hi), ← mul_assoc hi hp (hi.mul hf), inv_left hp hn, one_mul (hg.mul hi), one_mul (hi.mul hf)] at h2
        exact h2
      rw [← mul_assoc hf c hi, ← e1, mul_assoc c hg hi, e3, mul_assoc c hi hf]
  · have := nd_sub ((stb f n).map fun s => mul s p0) ((prm n).filter fun p => decide (rnm f p = rnm f p0)) ?_ fun s hs => ?_
    · simpa using this
    · rw [List.nodup_iff_pairwise_ne, List.pairwise_map]
      refine List.Pairwise.imp_of_mem (fun {a b} ha hb hab e => hab ?_) (List.nodup_iff_pairwise_ne.1 ((prm_nodupL n h1).filter fun g => decide (mul f g = mul g f)))
      exact mul_inj_r (hpo a (List.mem_filter.1 ha).1).1 (hpo b (List.mem_filter.1 hb).1).1 hp hn e
    · obtain ⟨q, hq, rfl⟩ := List.mem_map.1 hs
      obtain ⟨a, b⟩ := List.mem_filter.1 hq
      obtain ⟨c, d⟩ := hpo q a
      have hqf := of_decide_eq_true b
      have ho := c.mul hp
      have hon := mul_nodup c d hp hn
      refine List.mem_filter.2 ⟨prm_mem h1 ho hon, decide_eq_true ((rnm_iff hf hg ho hon).2 ?_)⟩
      rw [mul_assoc c hp hg, e0, ← mul_assoc c hf hp, ← hqf, mul_assoc hf c hp]
theorem lagrange {f : List Nat} {n : Nat} (hf : Ok f n) : (stb f n).length ∣ (prm n).length := by
  have h1 := hf.pos
  have h5 := hf.le
  have hpo : ∀ p ∈ prm n, Ok p n ∧ p.Nodup := fun p hp => ⟨prm_ok h1 h5 hp, prm_nd hp⟩
  have hS := sum_key (fun p => nbl n (rnm f p)) ((List.range (n ^ n)).filter fun r => (prm n).any fun p => decide (nbl n (rnm f p) = r)) (List.nodup_range.filter _) (prm n) fun p hp => by
    obtain ⟨c, d⟩ := hpo p hp
    refine List.mem_filter.2 ⟨List.mem_range.2 (dg_nbl (rnm_ok hf c d)).1, ?_⟩
    rw [List.any_eq_true]
    exact ⟨p, hp, decide_eq_true rfl⟩
  have hc : ∀ r ∈ (List.range (n ^ n)).filter (fun r => (prm n).any fun p => decide (nbl n (rnm f p) = r)), ((prm n).filter fun p => decide (nbl n (rnm f p) = r)).length = (stb f n).length := fun r hr => by
    obtain ⟨_, h2⟩ := List.mem_filter.1 hr
    rw [List.any_eq_true] at h2
    obtain ⟨p0, hp0, e⟩ := h2
    have e := of_decide_eq_true e
    obtain ⟨c, d⟩ := hpo p0 hp0
    rw [← fib_stb hf c d]
    congr 1
    refine List.filter_congr fun p hp => ?_
    obtain ⟨c', d'⟩ := hpo p hp
    rw [← e]
    exact decide_eq_decide.2 ⟨fun h => nbl_inj (rnm_ok hf c' d') (rnm_ok hf c d) h, fun h => by rw [h]⟩
  generalize (List.range (n ^ n)).filter (fun r => (prm n).any fun p => decide (nbl n (rnm f p) = r)) = R at hS hc
  rw [hS]
  clear hS
  induction R with
  | nil => exact ⟨0, rfl⟩
  | cons a l ih =>
    rw [List.map_cons, List.sum_cons, hc a (by simp)]
    exact Nat.dvd_add (Nat.dvd_refl _) (ih fun r hr => hc r (by simp [hr]))
theorem prm_fac : ∀ n, n < 6 → 1 ≤ n → (prm n).length = (((List.range n).map (· + 1)).foldl (· * ·) 1) := by decide +kernel
theorem kept_com {f : List Nat} {n : Nat} : kept f n (prm n).length ≤ (comM f n).length := by
  rw [kept_stb]
  unfold stb comM prm
  rw [List.filter_filter]
  have : ((allM n).filter fun a => decide (mul f a = mul a f) && decide a.Nodup) = (((allM n).filter fun a => decide (mul f a = mul a f)).filter fun a => decide a.Nodup) := by
    rw [List.filter_filter]
    exact List.filter_congr fun a _ => Bool.and_comm _ _
  rw [this]
  exact List.length_filter_le _ _
end Go.Proofs.YtpfapiiinkkcgaaGreat
