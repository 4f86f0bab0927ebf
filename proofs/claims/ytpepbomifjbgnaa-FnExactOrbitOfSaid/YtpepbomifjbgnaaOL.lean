/- The orbit as an ascending list: plain laws. -/
import Derived.Test.YtpepbomifjbgnaaRL
import Derived.Test.YtpepbomifjbgnaaPO
namespace Go.Proofs.Ytpepbomifjbgnaa
open Go.Kv
set_option linter.unusedVariables false
set_option linter.unusedSimpArgs false
attribute [local irreducible] ACall PCall KL
theorem bl_len {fs : List (List Nat)} {n q : Nat} (hf : ∀ f ∈ fs, Ok f n) (hq : q < n) : ∀ i, (bl fs ldp [(q : Int)] i).length ≤ n := fun i => by
  have key : ∀ i, i ≤ (bl fs ldp [(q : Int)] i).length → (bl fs ldp [(q : Int)] i).length ≤ n := fun i hi => by
    obtain ⟨h1, h2, _, _⟩ := bl_one hf hq i hi
    have h3 := nodup_len n ((bl fs ldp [(q : Int)] i).map fun x => (x.1.getD 0 0).toNat) ?_ ?_
    · simpa using h3
    · have e : (bl fs ldp [(q : Int)] i).map Prod.fst = ((bl fs ldp [(q : Int)] i).map fun x => (x.1.getD 0 0).toNat).map fun y : Nat => [(y : Int)] := by
        rw [List.map_map]
        refine List.map_congr_left fun x hx => ?_
        obtain ⟨y, _, _, e⟩ := h1 x hx
        simp [e]
      rw [e, List.nodup_iff_pairwise_ne, List.pairwise_map] at h2
      exact h2.imp fun h e => h (by rw [e])
    · intro x hx
      obtain ⟨m, hm, rfl⟩ := List.mem_map.1 hx
      obtain ⟨y, _, hy, e⟩ := h1 m hm
      simpa [e] using hy
  induction i with
  | zero => exact key 0 (Nat.zero_le _)
  | succ i ih =>
    by_cases hi : i < (bl fs ldp [(q : Int)] i).length
    · refine key (i + 1) ?_
      rw [bl_succ hi]
      obtain ⟨r, hr⟩ := advN_preE fs ldp (bl fs ldp [(q : Int)] i) (bl fs ldp [(q : Int)] i)[i] fs.length
      rw [hr, List.length_append]; omega
    · have e : bl fs ldp [(q : Int)] (i + 1) = bl fs ldp [(q : Int)] i := by
        rw [bl]
        have : (bl fs ldp [(q : Int)] i)[i]? = none := List.getElem?_eq_none (Nat.le_of_not_lt hi)
        rw [this]
      rw [e]; exact ih
open Classical in
/-- The orbit of a point. -/
noncomputable def orb (fs : List (List Nat)) (q : Nat) : List Nat := (List.range 5).filter fun x => decide (Rea fs q x)
theorem reaLt {fs : List (List Nat)} {n q y : Nat} (hf : ∀ f ∈ fs, Ok f n) (hq : q < n) (h : Rea fs q y) : y < n := by
  cases h with
  | here => exact hq
  | step f x hf' _ => exact (hf f hf').get' x
open Classical in
theorem orb_mem {fs : List (List Nat)} {n q : Nat} (hf : ∀ f ∈ fs, Ok f n) (hn : n ≤ 5) (hq : q < n) (x : Nat) : x ∈ orb fs q ↔ Rea fs q x := by
  unfold orb
  rw [List.mem_filter, List.mem_range, decide_eq_true_iff]
  exact ⟨fun h => h.2, fun h => ⟨by have := reaLt hf hq h; omega, h⟩⟩
open Classical in
theorem orb_asc (fs : List (List Nat)) (q : Nat) : (orb fs q).Pairwise (· < ·) := List.Pairwise.filter _ List.pairwise_lt_range
open Classical in
theorem orb_len (fs : List (List Nat)) (q : Nat) : (orb fs q).length ≤ 5 := by
  have := List.length_filter_le (fun x => decide (Rea fs q x)) (List.range 5)
  simpa [orb] using this
theorem orb_nodup (fs : List (List Nat)) (q : Nat) : (orb fs q).Nodup := (orb_asc fs q).imp fun h => by omega
def nz (l : List Nat) : List Int := l.map fun x : Nat => (x : Int)
theorem nz_len (l : List Nat) : (nz l).length = l.length := List.length_map _
theorem nz_nodup {l : List Nat} (h : l.Nodup) : (nz l).Nodup := by
  rw [List.nodup_iff_pairwise_ne] at h ⊢
  rw [nz, List.pairwise_map]
  exact h.imp fun h e => h (by omega)
theorem flatMap_nodup : ∀ L : List Met, (∀ x ∈ L, ∃ y : Nat, x.1 = [(y : Int)]) → (L.map Prod.fst).Nodup → (L.flatMap Prod.fst).Nodup
  | [], _, _ => by simp
  | x :: L, h, hn => by
    rw [List.map_cons, List.nodup_cons] at hn
    obtain ⟨y, hy⟩ := h x (by simp)
    rw [List.flatMap_cons, hy, List.singleton_append, List.nodup_cons]
    refine ⟨fun hm => ?_, flatMap_nodup L (fun z hz => h z (List.mem_cons_of_mem _ hz)) hn.2⟩
    obtain ⟨z, hz, hm⟩ := List.mem_flatMap.1 hm
    obtain ⟨u, hu⟩ := h z (List.mem_cons_of_mem _ hz)
    rw [hu, List.mem_singleton] at hm
    exact hn.1 (List.mem_map.2 ⟨z, hz, by rw [hu, hy, hm]⟩)
theorem rch_perm {fs : List (List Nat)} {n q : Nat} (hf : ∀ f ∈ fs, Ok f n) (hn : n ≤ 5) (hq : q < n) {i : Nat} (hi : i = (bl fs ldp [(q : Int)] i).length) : (rch fs q i).Perm (nz (orb fs q)) := by
  refine (List.perm_ext_iff_of_nodup ?_ (nz_nodup (orb_nodup fs q))).2 fun x => ?_
  · obtain ⟨h1, h2, _, _⟩ := bl_one hf hq i (by omega)
    unfold rch
    rw [List.take_of_length_le (by omega)]
    exact flatMap_nodup _ (fun x hx => by obtain ⟨y, _, _, e⟩ := h1 x hx; exact ⟨y, e⟩) h2
  · rw [rch_mem hf hq hi, nz, List.mem_map]
    exact ⟨fun ⟨y, e, h⟩ => ⟨y, (orb_mem hf hn hq y).2 h, e.symm⟩, fun ⟨y, h, e⟩ => ⟨y, e.symm, (orb_mem hf hn hq y).1 h⟩⟩
theorem nz_sorted {l : List Nat} (h : l.Pairwise (· < ·)) : (nz l).Pairwise (· ≤ ·) := by
  rw [nz, List.pairwise_map]
  exact h.imp fun h => by omega
theorem rch_srt {fs : List (List Nat)} {n q : Nat} (hf : ∀ f ∈ fs, Ok f n) (hn : n ≤ 5) (hq : q < n) {i : Nat} (hi : i = (bl fs ldp [(q : Int)] i).length) {r : List Int} (hr : r.Perm (rch fs q i)) (hs : r.Pairwise (· ≤ ·)) : r = nz (orb fs q) :=
  sorted_uniq (hr.trans (rch_perm hf hn hq hi)) hs (nz_sorted (orb_asc fs q))
/-- Its bits, and the points of these. -/
theorem pof_orb {fs : List (List Nat)} {n q : Nat} (hf : ∀ f ∈ fs, Ok f n) (hn : n ≤ 5) (hq : q < n) {l : List Nat} (hl : ∀ x, x ∈ l ↔ Rea fs q x) : pof (sb l) 62 = orb fs q := by
  have hp : (pof (sb l) 62).Pairwise (· < ·) := List.Pairwise.filter _ List.pairwise_lt_range
  have hperm : (pof (sb l) 62).Perm (orb fs q) := (List.perm_ext_iff_of_nodup (hp.imp fun h => by omega) (orb_nodup fs q)).2 fun x => by
    rw [orb_mem hf hn hq, pof, List.mem_filter, List.mem_range, sb_test, decide_eq_true_iff, hl]
    exact ⟨fun h => h.2, fun h => ⟨by have := reaLt hf hq h; omega, h⟩⟩
  have := sorted_uniq (hperm.map fun x : Nat => (x : Int)) (nz_sorted hp) (nz_sorted (orb_asc fs q))
  have := congrArg (List.map Int.toNat) this
  rwa [toNat_map, toNat_map] at this
end Go.Proofs.Ytpepbomifjbgnaa
