/- Maps of few points: how a list of images lies in the program's six numbers. -/
import Derived.Test.YtpepbomifjbgnaaFC
namespace Go.Kv
set_option linter.unusedVariables false
set_option linter.unusedSimpArgs false
/-- n points, and the images of the first ones. -/
def mpN (n : Int) (l : List Nat) : List Int := n :: (l.map (fun x : Nat => (x : Int)) ++ List.replicate (5 - l.length) 0)
/-- The map with these images. -/
def mp (f : List Nat) : List Int := mpN f.length f
theorem mpN_length {n : Int} {l : List Nat} (h : l.length ≤ 5) : (mpN n l).length = 6 := by simp [mpN]; omega
theorem mpN_zero (n : Int) : mpN n [] = [n, 0, 0, 0, 0, 0] := rfl
theorem mpN_get0 (n : Int) (l : List Nat) : (mpN n l).getD 0 0 = n := rfl
theorem mpN_get {n : Int} {l : List Nat} (i : Nat) : (mpN n l).getD (i + 1) 0 = (l.getD i 0 : Int) := by
  simp only [mpN, List.getD_cons_succ]
  rw [List.getD_eq_getElem?_getD, List.getD_eq_getElem?_getD, List.getElem?_append]
  split
  · rename_i h
    simp only [List.length_map] at h
    simp [h]
  · rename_i h
    simp only [List.length_map] at h
    rw [List.getElem?_eq_none (l := l) (by omega)]
    simp only [List.getElem?_replicate, List.length_map]
    split <;> rfl
theorem mp_get0 (f : List Nat) : (mp f).getD 0 0 = f.length := rfl
theorem mp_get {l : List Nat} (i : Nat) : (mp l).getD (i + 1) 0 = (l.getD i 0 : Int) := mpN_get i
attribute [go_sem] mpN_get mpN_get0 mp_get mp_get0
theorem mpN_set {n : Int} {l : List Nat} {i v : Nat} (h : i < l.length) : (mpN n l).set (i + 1) (v : Int) = mpN n (l.set i v) := by
  simp [mpN, List.set_append, h, List.map_set]
theorem mpN_push {n : Int} {l : List Nat} {v : Nat} (h : l.length < 5) : (mpN n l).set (l.length + 1) (v : Int) = mpN n (l ++ [v]) := by
  have e : 5 - l.length = (5 - (l.length + 1)) + 1 := by omega
  simp only [mpN, List.set_cons_succ]
  rw [List.set_append_right _ _ (by simp), e, List.replicate_succ]
  simp
theorem mpN_pushI {n : Int} {l : List Nat} {v : Nat} {i : Nat} (hi : i = l.length) (h : l.length < 5) : (mpN n l).set (i + 1) (v : Int) = mpN n (l ++ [v]) := by subst hi; exact mpN_push h
theorem mpN_rep {m : Int} {n : Nat} (h : n ≤ 5) : mpN m (List.replicate n 0) = [m, 0, 0, 0, 0, 0] := by
  have : n = 0 ∨ n = 1 ∨ n = 2 ∨ n = 3 ∨ n = 4 ∨ n = 5 := by omega
  rcases this with rfl | rfl | rfl | rfl | rfl | rfl <;> rfl
theorem mp_inj {f g : List Nat} (h : mp f = mp g) : f = g := by
  have h0 : (mp f).getD 0 0 = (mp g).getD 0 0 := by rw [h]
  simp only [mp, mpN_get0] at h0
  have hl : f.length = g.length := by omega
  apply List.ext_getElem hl
  intro i h1 h2
  have := congrArg (fun m => m.getD (i + 1) 0) h
  simp only [mp, mpN_get] at this
  simp [List.getD_eq_getElem?_getD, h1, h2] at this
  omega
/-- A map of n points. -/
structure Ok (f : List Nat) (n : Nat) : Prop where
  len : f.length = n
  pos : 1 ≤ n
  le : n ≤ 5
  lt : ∀ x ∈ f, x < n
theorem Ok.get {f : List Nat} {n i : Nat} (h : Ok f n) (hi : i < n) : f.getD i 0 < n := by
  rw [List.getD_eq_getElem?_getD, List.getElem?_eq_getElem (by rw [h.len]; exact hi)]
  exact h.lt _ (List.getElem_mem _)
theorem Ok.get' {f : List Nat} {n : Nat} (h : Ok f n) (i : Nat) : f.getD i 0 < n := by
  by_cases hi : i < n
  · exact h.get hi
  · rw [List.getD_eq_getElem?_getD, List.getElem?_eq_none (by rw [h.len]; omega)]
    exact h.pos
theorem Ok.mp_eq {f : List Nat} {n : Nat} (h : Ok f n) : mp f = mpN n f := by rw [mp, h.len]
theorem Ok.mp_len {f : List Nat} {n : Nat} (h : Ok f n) : (mp f).length = 6 := mpN_length (by rw [h.len]; exact h.le)
/-- First f, then g. -/
def mul (f g : List Nat) : List Nat := f.map fun x => g.getD x 0
@[simp] theorem mul_length (f g : List Nat) : (mul f g).length = f.length := by simp [mul]
theorem mul_get {f g : List Nat} {i : Nat} (h : i < f.length) : (mul f g).getD i 0 = g.getD (f.getD i 0) 0 := by
  simp [mul, List.getD_eq_getElem?_getD, h]
theorem Ok.mul {f g : List Nat} {n : Nat} (hf : Ok f n) (hg : Ok g n) : Ok (mul f g) n := ⟨by rw [mul_length, hf.len], hf.pos, hf.le, fun x hx => by
  simp only [Kv.mul, List.mem_map] at hx
  obtain ⟨y, hy, rfl⟩ := hx
  exact hg.get (hf.lt y hy)⟩
theorem Ok.idn {n : Nat} (h : 1 ≤ n) (h' : n ≤ 5) : Ok (List.range n) n := ⟨by simp, h, h', fun x hx => by simpa using hx⟩
theorem ext_getD {f g : List Nat} (hl : f.length = g.length) (h : ∀ i, i < f.length → f.getD i 0 = g.getD i 0) : f = g := by
  apply List.ext_getElem hl
  intro i h1 h2
  have := h i h1
  simpa [List.getD_eq_getElem?_getD, h1, h2] using this
theorem range_getD {n i : Nat} (h : i < n) : (List.range n).getD i 0 = i := by simp [List.getD_eq_getElem?_getD, h]
theorem mul_assoc {f g h : List Nat} {n : Nat} (hf : Ok f n) (hg : Ok g n) (hh : Ok h n) : mul (mul f g) h = mul f (mul g h) := by
  refine ext_getD (by simp) fun i hi => ?_
  simp only [mul_length] at hi
  rw [mul_get (by simpa using hi), mul_get hi, mul_get hi, mul_get (by rw [hg.len]; exact hf.get' i)]
theorem mul_one {f : List Nat} {n : Nat} (hf : Ok f n) : mul f (List.range n) = f := by
  refine ext_getD (by simp) fun i hi => ?_
  simp only [mul_length] at hi
  rw [mul_get hi, range_getD (hf.get' i)]
theorem one_mul {f : List Nat} {n : Nat} (hf : Ok f n) : mul (List.range n) f = f := by
  refine ext_getD (by simp [hf.len]) fun i hi => ?_
  simp only [mul_length, List.length_range] at hi
  rw [mul_get (by simpa using hi), range_getD hi]
/-- The images that lie in the six numbers. -/
def um (m : List Int) : List Nat := ((m.drop 1).take (m.getD 0 0).toNat).map Int.toNat
theorem um_mp (f : List Nat) : um (mp f) = f := by
  have h1 : (f.map fun x : Nat => (x : Int)).length = f.length := by simp
  simp only [um, mp_get0, Int.toNat_natCast]
  simp only [mp, mpN, List.drop_succ_cons, List.drop_zero]
  rw [← h1, List.take_left, List.map_map]
  conv => rhs; rw [← List.map_id f]
  exact List.map_congr_left fun x _ => by simp
theorem filter_mp (p : List Nat → Bool) (l : List (List Nat)) : (l.map mp).filter (fun m => p (um m)) = (l.filter p).map mp := by
  rw [List.filter_map]
  congr 1
  exact List.filter_congr fun x _ => by simp [um_mp]
/-- The numbers of a map, whether they are one. -/
def okP (m : List Int) (i : Nat) : Bool := if (i : Int) < m.getD 0 0 then decide (0 ≤ m.getD (i + 1) 0 ∧ m.getD (i + 1) 0 ≤ m.getD 0 0 - 1) else decide (m.getD (i + 1) 0 = 0)
def isM (m : List Int) : Bool := decide (1 ≤ m.getD 0 0 ∧ m.getD 0 0 ≤ 5) && (List.range 5).all (okP m)
theorem isM_ok {m : List Int} (hl : m.length = 6) (h : isM m = true) : ∃ f n, Ok f n ∧ m = mp f := by
  obtain ⟨a, b, c, d, e, g, rfl⟩ : ∃ a b c d e g, m = [a, b, c, d, e, g] := by
    match m, hl with
    | [a, b, c, d, e, g], _ => exact ⟨a, b, c, d, e, g, rfl⟩
  simp only [isM, okP, Bool.and_eq_true, decide_eq_true_eq, List.all_eq_true, List.mem_range] at h
  obtain ⟨h0, h1⟩ := h
  have g0 := h1 0 (by omega)
  have g1 := h1 1 (by omega)
  have g2 := h1 2 (by omega)
  have g3 := h1 3 (by omega)
  have g4 := h1 4 (by omega)
  simp only [List.getD_cons_zero, List.getD_cons_succ] at h0 g0 g1 g2 g3 g4
  have hn : a = 1 ∨ a = 2 ∨ a = 3 ∨ a = 4 ∨ a = 5 := by omega
  rcases hn with rfl | rfl | rfl | rfl | rfl <;> simp at g0 g1 g2 g3 g4
  · refine ⟨[b.toNat], 1, ⟨rfl, by omega, by omega, by simp; try omega⟩, ?_⟩
    simp [mp, mpN, List.replicate]; first | omega | skip
  · refine ⟨[b.toNat, c.toNat], 2, ⟨rfl, by omega, by omega, by simp; try omega⟩, ?_⟩
    simp [mp, mpN, List.replicate]; first | omega | skip
  · refine ⟨[b.toNat, c.toNat, d.toNat], 3, ⟨rfl, by omega, by omega, by simp; try omega⟩, ?_⟩
    simp [mp, mpN, List.replicate]; first | omega | skip
  · refine ⟨[b.toNat, c.toNat, d.toNat, e.toNat], 4, ⟨rfl, by omega, by omega, by simp; try omega⟩, ?_⟩
    simp [mp, mpN, List.replicate]; first | omega | skip
  · refine ⟨[b.toNat, c.toNat, d.toNat, e.toNat, g.toNat], 5, ⟨rfl, by omega, by omega, by simp; try omega⟩, ?_⟩
    simp [mp, mpN, List.replicate]; first | omega | skip
theorem isM_mp {f : List Nat} {n : Nat} (h : Ok f n) : isM (mp f) = true := by
  simp only [isM, okP, Bool.and_eq_true, decide_eq_true_eq, List.all_eq_true, List.mem_range, h.mp_eq, mpN_get0, mpN_get]
  refine ⟨by have := h.pos; have := h.le; omega, fun i hi => ?_⟩
  split
  · have := h.get' i
    simp only [decide_eq_true_eq]; omega
  · rw [List.getD_eq_getElem?_getD, List.getElem?_eq_none (by rw [h.len]; omega)]; simp
end Go.Kv
