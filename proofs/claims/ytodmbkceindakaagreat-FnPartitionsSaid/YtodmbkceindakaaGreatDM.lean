/- Lists of classes and partitions: plain laws that the law of partitions looks at. -/
import Derived.Test.YtodmbkceindakaaGreatDH
namespace Go.Proofs.YtodmbkceindakaaGreat
open Go.Kv
set_option linter.unusedVariables false
set_option linter.unusedSimpArgs false
attribute [local irreducible] ACall PCall KL
theorem st_get {Q f : List Nat} {c : Nat} (hQc : ∀ x, x < Q.length → Q.getD x 0 < c) (hinv : ∀ a b, a < Q.length → b < Q.length → Q.getD a 0 = Q.getD b 0 → Q.getD (f.getD a 0) 0 = Q.getD (f.getD b 0) 0) : ∀ x, x ≤ Q.length → ∀ p, p < x → (st Q f c x).getD (Q.getD p 0) 0 = Q.getD (f.getD p 0) 0
  | 0, _, p, hp => by omega
  | x + 1, hx, p, hp => by
    have ih := st_get hQc hinv x (by omega)
    have hpc := hQc p (by omega)
    rw [st_succ]
    by_cases e : Q.getD p 0 = Q.getD x 0
    · rw [e, List.getD_eq_getElem?_getD, List.getElem?_set_self (by rw [st_length]; exact hQc x (by omega))]
      exact hinv x p (by omega) (by omega) e.symm
    · have hpx : p < x := by
        by_cases h : p = x
        · subst h; exact absurd rfl e
        · omega
      rw [List.getD_eq_getElem?_getD, List.getElem?_set_ne (fun h => e h.symm), ← List.getD_eq_getElem?_getD]
      exact ih p hpx
/-- What the classes do. -/
structure ActC (t : List (List Int)) (P : List Int) (C : List (List Int)) : Prop where
  len : C.length = t.length
  c6 : ∀ r ∈ C, r.length = 6
  n : ∃ n : Nat, 1 ≤ t.length ∧ (t.getD 0 []).getD 0 0 = n ∧ P.length = n ∧ n ≤ 5 ∧ ∀ i p, i < t.length → p < n → (0 ≤ P.getD p 0 ∧ P.getD p 0 ≤ 4) ∧ (0 ≤ (t.getD i []).getD (p + 1) 0 ∧ (t.getD i []).getD (p + 1) 0 < n) ∧ (C.getD i []).getD ((P.getD p 0).toNat + 1) 0 = P.getD ((t.getD i []).getD (p + 1) 0).toNat 0
theorem mp_getD {l : List Nat} {p : Nat} (h : p < l.length) : (mp l).getD (p + 1) 0 = (l.getD p 0 : Int) := by
  unfold mp mpN
  simp only [List.getD_eq_getElem?_getD, List.getElem?_cons_succ]
  rw [List.getElem?_append_left (by simpa using h)]
  simp [h]
theorem loc (t : List (List Int)) (P : List Int) (ht : t.length ≤ 7) (h6 : ∀ r ∈ t, r.length = 6) (hP : P.length ≤ 1000) :
    ∃ w : PV, Still w ∧ Pure Tryz.prog 6 [.list (aggs t), .list (ints P)] (.tup [w, .int .i64 (lcc t P)]) ∧ Pure Tryz.prog 7 [.list (aggs t), .list (ints P)] (.tup [w, .int .i64 (lcc t P)]) ∧ Pure Tryz.prog 8 [w, w] (.bool true) ∧ (lcc t P ≠ 0 → w = .nils) ∧ (lcc t P = 0 → ∃ C, w = .list (aggs C) ∧ ActC t P C) := by
  by_cases h : lcc t P = 0
  · have h2 : (ivp t P).2 = 0 ∧ (ivp t P).1 = true := by
      unfold lcc at h
      by_cases h1 : (ivp t P).2 = 0
      · rw [if_neg (by simp [h1])] at h
        refine ⟨h1, ?_⟩
        cases hb : (ivp t P).1 with
        | true => rfl
        | false => rw [hb] at h; simp at h
      · rw [if_pos h1] at h; exact absurd h h1
    have h3 := ivp_pgc t P
    have hp : pgc t P = 0 := by
      by_cases h1 : pgc t P = 0
      · exact h1
      · rw [if_pos h1] at h3
        rw [h3] at h2
        exact absurd h2.1 h1
    rw [if_neg (by simp [hp])] at h3
    have hiv : iv (t.map um) P = true := by rw [h3] at h2; exact h2.2
    obtain ⟨hl0, hcl⟩ := pgc_zero hp
    obtain ⟨fs, n, rfl, hf, hl1, hl2, hn, hn1, hn5⟩ := lcode_maps h6 hl0
    rw [map_um] at hiv
    rw [hn] at hcl
    simp only [Bool.and_eq_true, decide_eq_true_eq] at hcl
    have hPn : P.length = n := by omega
    obtain ⟨Q, c, rfl, hQ, hc, hc1, hc5, hQc⟩ := clOk_nat hPn hn1 hn5 hcl.1
    have hivp : ivp (fs.map mp) (Q.map fun x : Nat => (x : Int)) = (true, 0) := Prod.ext h2.2 h2.1
    have hT6 : ∀ r ∈ lcl Q c fs, r.length = 6 := fun r hr => by
      simp only [lcl, List.mem_map] at hr
      obtain ⟨f, _, rfl⟩ := hr
      exact mpN_length (by simp; omega)
    have hI := (p6_in fs n Q c hQ hn1 hn5 hc hc1 hc5 hQc hf hl1 hl2 h6 hivp).frozen
    have hS := p7_in fs n Q c hQ hn1 hn5 hc hc1 hc5 hQc hf hl1 hl2 h6 hp hiv
    rw [h]
    refine ⟨_, inferInstance, hI, hS, p8 _ (by simp; omega) hT6, fun h => absurd rfl h, fun _ => ⟨_, rfl, by simp, hT6, n, by simpa using hl1, hn, by simp [hQ], hn5, fun i p hi hp => ?_⟩⟩
    have hi' : i < fs.length := by simpa using hi
    have hfi := hf _ (List.getElem_mem hi')
    have e1 : (fs.map mp).getD i [] = mp fs[i] := map_getD hi'
    have e2 : (lcl Q c fs).getD i [] = mp (st Q fs[i] c Q.length) := by simp [lcl, List.getD_eq_getElem?_getD, hi']
    have hQp := hQc p (by omega)
    have hg := hfi.get' p
    rw [e1, e2, mp_getD (by rw [hfi.len]; omega), natD]
    refine ⟨by omega, by omega, ?_⟩
    have hcast : ∀ k : Nat, (k : Int).toNat = k := fun k => by omega
    rw [hcast, hcast, natD, mp_getD (by rw [st_length]; exact hQp)]
    have hI2 := iv_all hiv fs[i] (List.getElem_mem hi')
    rw [st_get hQc (fun a b ha hb hab => ?_) Q.length (Nat.le_refl _) p (by omega)]
    have := hI2 a b (by simpa using ha) (by simpa using hb) (by rw [natD, natD, hab])
    rw [natD, natD] at this
    omega
  · refine ⟨.nils, inferInstance, p6_out t P (by omega) h6 (by omega) h, p7_out t P (by omega) h6 (by omega) h, p8n, fun _ => rfl, fun h' => absurd h' h⟩
set_option maxRecDepth 100000 in
theorem cl_fact : ((List.range 6).all fun n => (prt n).all fun P => clOk P 0) = true := by decide
theorem ipl (t : List (List Int)) (ht : t.length ≤ 7) (h6 : ∀ r ∈ t, r.length = 6) :
    ∃ w w' : PV, Still w ∧ Still w' ∧ Pure Tryz.prog 12 [.list (aggs t)] (.tup [w, .int .i64 (lcode t [])]) ∧ Pure Tryz.prog 13 [.list (aggs t)] (.tup [w', .int .i64 (lcode t [])]) ∧ Pure Tryz.prog 14 [w, w'] (.bool true) ∧
      (lcode t [] = 0 → w = .list (rows (ipc t)) ∧ (prm1 t = true → trn t = true) ∧ 1 ≤ (ipc t).length ∧ (prm1 t = true → (ipc t).length ≤ 2) ∧ (1 < (t.getD 0 []).getD 0 0 → 2 ≤ (ipc t).length) ∧ (∀ P ∈ ipc t, P.length ≤ 5 ∧ ivp t P = (true, 0)) ∧ 1 ≤ t.length ∧ (t.getD 0 []).length = 6) := by
  have hI := (p12 t (by omega) h6).frozen
  have hS := p13 t (by omega) h6
  by_cases h : lcode t [] = 0
  · rw [if_pos h] at hS
    obtain ⟨i1, i2, i3⟩ := ipc_rows h6 h
    obtain ⟨fs, n, e, hf, hl1, hl2, hn, hn1, hn5⟩ := lcode_maps h6 h
    have e2 : ipc t = ivs fs n := by rw [ipc, if_pos h, e, map_um, ← e, hn]; rfl
    have hpos := ivs_pos hn1 hn5 hf
    have hfs : t.map um = fs := by rw [e, map_um]
    have hlt : 0 < t.length := by rw [e, List.length_map]; omega
    have hpr : prm1 t = true → (ivs fs n).length = (if n = 1 then 1 else 2) := fun hp => by
      unfold prm1 at hp
      rw [hfs, hn] at hp
      simp only [Bool.and_eq_true, Bool.not_eq_true'] at hp
      exact (prim_iff hn1 hn5 hf).2 hp.2
    refine ⟨_, _, inferInstance, inferInstance, hI, hS, p14 _ (by omega) (fun r hr => by have := i3 r hr; omega), fun _ => ⟨rfl, fun hp => ?_, i1, fun hp => ?_, fun hp => ?_, fun P hP => ⟨i3 P hP, ?_⟩, hlt, h6 _ (getD_memG hlt)⟩⟩
    · unfold prm1 at hp
      simp only [Bool.and_eq_true] at hp
      exact hp.1
    · rw [e2, hpr hp]; split <;> omega
    · rw [e2]
      rw [hn] at hp
      rw [if_neg (by omega)] at hpos
      exact hpos
    · rw [e2] at hP
      have hP1 := List.mem_filter.1 hP
      have hPl := (prt_ok hn5 hP1.1).1
      have hcl : clOk P 0 = true := by
        have := List.all_eq_true.1 cl_fact n (by simp; omega)
        exact List.all_eq_true.1 this P hP1.1
      unfold ivp
      rw [if_neg (by simp [h]), hn, hcl, hfs, hP1.2]
      simp [hPl]
  · rw [if_neg h] at hS
    have e : ipc t = [] := by rw [ipc, if_neg h]
    rw [e] at hI
    exact ⟨_, _, inferInstance, inferInstance, hI, hS, p14n, fun h' => absurd h' h⟩
end Go.Proofs.YtodmbkceindakaaGreat
