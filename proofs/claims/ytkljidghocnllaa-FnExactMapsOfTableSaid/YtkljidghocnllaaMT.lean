/- The maps of a table: both sides. -/
import Derived.Test.YtkljidghocnllaaMTc
import Derived.Test.YtkljidghocnllaaLP
import Derived.Test.YtkljidghocnllaaCL
import Derived.Test.YtkljidghocnllaaOP
import Derived.Test.YtkljidghocnllaaM
namespace Go.Proofs.Ytkljidghocnllaa
open Go.Kv
set_option linter.unusedVariables false
set_option linter.unusedSimpArgs false
attribute [local irreducible] ACall PCall KL
theorem p86 (l : List Nat) (n : Nat) (h : Ok l n) : Pure Try.prog 86 [.list (ints (l.map fun x : Nat => (x : Int)))] (.tup [.agg (ints (mp l)), .int .i64 0]) := by
  have hl := h.len
  have h1 := h.pos
  have h5 := h.le
  refine e86 (by simp) fun _ _ => ?_
  simp only [k86, argEnv, List.length_map, take6, List.drop_zero, Int.cast_ofNat_Int, go_sem, ↓reduceIte, Nat.reduceEqDiff, Nat.reduceAdd, Nat.reduceMul, Nat.reduceLeDiff, Nat.reduceLT, Int.reduceLE, Int.reduceLT, reduceCtorEq]
  refine (p103 _ _ _).go ?_
  have hpc := putC_map' l.length l (by omega)
  have h6 := h.mp_len
  have hmp : mpN l.length l = mp l := rfl
  rw [hmp] at hpc
  try simp only [hpc, h6, take6, List.drop_zero, Int.cast_ofNat_Int, go_sem, ↓reduceIte, Nat.reduceEqDiff, Nat.reduceAdd, Nat.reduceMul, Nat.reduceLeDiff, Nat.reduceLT, Int.reduceLE, Int.reduceLT, reduceCtorEq]
  refine ⟨fun h => absurd (by omega) h, fun _ => ?_⟩
  refine (p77 (mp l) h6).go ?_
  rw [isM_mp h]
  try simp only [h6, take6, List.drop_zero, Int.cast_ofNat_Int, go_sem, ↓reduceIte, Nat.reduceEqDiff, Nat.reduceAdd, Nat.reduceMul, Nat.reduceLeDiff, Nat.reduceLT, Int.reduceLE, Int.reduceLT, reduceCtorEq]
  exact Kv.Fin.still ⟨rfl, rfl⟩
/-- The images that a column tells. -/
def cn (t : List (List Int)) (a : Nat) : List Nat := (List.range t.length).map fun b => (tat t b a).toNat
theorem cn_col {t : List (List Int)} (h : isTab t = true) {a : Nat} (ha : a < t.length) : colL t a t.length = (cn t a).map fun x : Nat => (x : Int) := by
  simp only [colL, cn, List.map_map]
  refine List.map_congr_left fun b hb => ?_
  have := tab_at h (List.mem_range.1 hb) ha
  simp; omega
theorem cn_ok {t : List (List Int)} (h : isTab t = true) (h5 : t.length ≤ 5) {a : Nat} (ha : a < t.length) : Ok (cn t a) t.length := by
  obtain ⟨hn, _⟩ := tab_sq h
  refine ⟨by simp [cn], hn.1, h5, fun x hx => ?_⟩
  simp only [cn, List.mem_map, List.mem_range] at hx
  obtain ⟨b, hb, rfl⟩ := hx
  have := tab_at h hb ha
  omega
def mot (t : List (List Int)) (x : Nat) : List (List Int) := (List.range x).map fun a => mp (cn t a)
@[simp] theorem mot_length (t : List (List Int)) (x : Nat) : (mot t x).length = x := by simp [mot]
theorem mot_succ (t : List (List Int)) (x : Nat) : mot t x ++ [mp (cn t x)] = mot t (x + 1) := by simp [mot, List.range_succ]
theorem p48_in (t : List (List Int)) (ht : t.length ≤ 1048576) (hl : ∀ r ∈ t, r.length ≤ 1048576) (h : isTab t = true) (h5 : t.length ≤ 5) (hm : monB t = true) : NewAO Try.prog 48 [.list (rows t)] 27 (mot t t.length) 0 := by
  obtain ⟨hn, hsq⟩ := tab_sq h
  unfold NewAO
  refine e48 (by simp) fun _ _ => ?_
  simp only [k48, argEnv, take6, List.drop_zero, Int.cast_ofNat_Int, go_sem, ↓reduceIte, Nat.reduceEqDiff, Nat.reduceAdd, Nat.reduceMul, Nat.reduceLeDiff, Nat.reduceLT, Int.reduceLE, Int.reduceLT, reduceCtorEq]
  refine (p68 t ht hl).go ?_
  rw [h]
  try simp only [take6, List.drop_zero, Int.cast_ofNat_Int, go_sem, ↓reduceIte, Nat.reduceEqDiff, Nat.reduceAdd, Nat.reduceMul, Nat.reduceLeDiff, Nat.reduceLT, Int.reduceLE, Int.reduceLT, reduceCtorEq]
  refine ⟨fun h => absurd h (by omega), fun _ => ?_⟩
  refine (p85 t h).go ?_
  rw [hm]
  try simp only [take6, List.drop_zero, Int.cast_ofNat_Int, go_sem, ↓reduceIte, Nat.reduceEqDiff, Nat.reduceAdd, Nat.reduceMul, Nat.reduceLeDiff, Nat.reduceLT, Int.reduceLE, Int.reduceLT, reduceCtorEq]
  refine KL_ind k48_b0.eq_1 (fun x : Nat × PV × Heap => [(0, .list (rows t)), (4, x.2.1), (21, .int .i64 t.length), (22, .int .i64 x.1)]) (fun x => x.2.2) (fun x => x.1 ≤ t.length ∧ OwnA 27 x.2.2 0 x.2.2.length x.2.1 (mot t x.1) ∧ Free x.2.2) (fun x => t.length - x.1) [0, 4, 21, 22] (0, .nils, []) (by rfl) (by rfl) ⟨Nat.zero_le _, .nil, .nil⟩ fun ⟨x, v, σ⟩ ⟨hx, hT, hf⟩ ih => ?_
  simp only at hx hT hf
  try simp only [take6, List.drop_zero, Int.cast_ofNat_Int, go_sem, ↓reduceIte, Nat.reduceEqDiff, Nat.reduceAdd, Nat.reduceMul, Nat.reduceLeDiff, Nat.reduceLT, Int.reduceLE, Int.reduceLT, reduceCtorEq]
  refine ⟨fun h1 => ?_, fun h1 => ?_⟩
  · have hxt : x < t.length := by omega
    have hok := cn_ok h h5 hxt
    have h6 := hok.mp_len
    refine (p87 t h x hxt).go fun v' s' ⟨hv, hs⟩ => ?_
    subst hv; subst hs
    rw [cn_col h hxt]
    try simp only [ren_ref, take6, List.drop_zero, Int.cast_ofNat_Int, go_sem, ↓reduceIte, Nat.reduceEqDiff, Nat.reduceAdd, Nat.reduceMul, Nat.reduceLeDiff, Nat.reduceLT, Int.reduceLE, Int.reduceLT, reduceCtorEq]
    refine (p86 (cn t x) t.length hok).lend (.cons (Imm.refn (ver := t.length - 1) (e := 2) (l := (cn t x).map fun x : Nat => (x : Int)) (by simp) (by simp [hok.len])) (.nil _)) ?_
    have hbx : ∀ a b : AObj, (σ ++ [a] ++ [b])[σ.length + 1]? = some b := fun a b => by rw [List.getElem?_append_right (by simp)]; simp
    have hbs : ∀ a b b' : AObj, (σ ++ [a] ++ [b]).set (σ.length + 1) b' = σ ++ [a] ++ [b'] := fun a b b' => by rw [List.set_append_right _ _ (by simp)]; simp
    try simp only [h6, hbx, hbs, OpK_eq, take6, List.drop_zero, Int.cast_ofNat_Int, go_sem, ↓reduceIte, Nat.reduceEqDiff, Nat.reduceAdd, Nat.reduceMul, Nat.reduceLeDiff, Nat.reduceLT, Int.reduceLE, Int.reduceLT, reduceCtorEq]
    refine OwnA.push (OwnA.append (OwnA.append hT _) _) ((hf.append (Free.ints _ _ _ _)).append (Free.boxI _)) (mp (cn t x)) h6 (by simp; omega) fun v' σ' hT' hf' => ?_
    try simp only [OpK_eq, take6, List.drop_zero, Int.cast_ofNat_Int, go_sem, ↓reduceIte, Nat.reduceEqDiff, Nat.reduceAdd, Nat.reduceMul, Nat.reduceLeDiff, Nat.reduceLT, Int.reduceLE, Int.reduceLT, reduceCtorEq]
    repeat' (first | refine And.intro ?_ ?_ | intro _)
    all_goals (try omega)
    refine ih (x + 1, v', σ') ⟨by show x + 1 ≤ t.length; omega, ?_, hf'⟩ (by show t.length - (x + 1) < t.length - x; omega) _ _ (by rfl) rfl
    rw [← mot_succ]; exact hT'
  · obtain rfl : x = t.length := by omega
    try simp only [OpK_eq, take6, List.drop_zero, Int.cast_ofNat_Int, go_sem, ↓reduceIte, Nat.reduceEqDiff, Nat.reduceAdd, Nat.reduceMul, Nat.reduceLeDiff, Nat.reduceLT, Int.reduceLE, Int.reduceLT, reduceCtorEq]
    exact Kv.Fin.now ⟨v, rfl, hT, hf⟩
/-- The code of a table. -/
def mtc (t : List (List Int)) : Int := if isTab t = false then 2 else if 5 < t.length then 3 else if monB t = false then 5 else 0
theorem p48_out (t : List (List Int)) (ht : t.length ≤ 1048576) (hl : ∀ r ∈ t, r.length ≤ 1048576) (h : mtc t ≠ 0) : Pure Try.prog 48 [.list (rows t)] (.tup [.nils, .int .i64 (mtc t)]) := by
  refine e48 (by simp) fun _ _ => ?_
  simp only [k48, argEnv, take6, List.drop_zero, Int.cast_ofNat_Int, go_sem, ↓reduceIte, Nat.reduceEqDiff, Nat.reduceAdd, Nat.reduceMul, Nat.reduceLeDiff, Nat.reduceLT, Int.reduceLE, Int.reduceLT, reduceCtorEq]
  refine (p68 t ht hl).go ?_
  cases hb : isTab t with
  | false =>
    try simp only [take6, List.drop_zero, Int.cast_ofNat_Int, go_sem, ↓reduceIte, Nat.reduceEqDiff, Nat.reduceAdd, Nat.reduceMul, Nat.reduceLeDiff, Nat.reduceLT, Int.reduceLE, Int.reduceLT, reduceCtorEq]
    exact Kv.Fin.still ⟨by simp [mtc, hb], rfl⟩
  | true =>
    try simp only [take6, List.drop_zero, Int.cast_ofNat_Int, go_sem, ↓reduceIte, Nat.reduceEqDiff, Nat.reduceAdd, Nat.reduceMul, Nat.reduceLeDiff, Nat.reduceLT, Int.reduceLE, Int.reduceLT, reduceCtorEq]
    refine ⟨fun h1 => Kv.Fin.still ⟨?_, rfl⟩, fun h1 => ?_⟩
    · rw [mtc, if_neg (by simp [hb]), if_pos (by omega)]
    · refine (p85 t hb).go ?_
      cases hm : monB t with
      | false =>
        try simp only [take6, List.drop_zero, Int.cast_ofNat_Int, go_sem, ↓reduceIte, Nat.reduceEqDiff, Nat.reduceAdd, Nat.reduceMul, Nat.reduceLeDiff, Nat.reduceLT, Int.reduceLE, Int.reduceLT, reduceCtorEq]
        exact Kv.Fin.still ⟨by rw [mtc, if_neg (by simp [hb]), if_neg (by omega), if_pos hm], rfl⟩
      | true => exact absurd (by rw [mtc, if_neg (by simp [hb]), if_neg (by omega), if_neg (by simp [hm])]) h
theorem p47_out (t : List (List Int)) (ht : t.length ≤ 1048576) (hl : ∀ r ∈ t, r.length ≤ 1048576) (h : mtc t ≠ 0) : Pure Try.prog 47 [.list (rows t)] (.tup [.nils, .int .i64 (mtc t)]) := by
  refine e47 (by simp) fun _ _ => ?_
  simp only [k47, argEnv, take6, List.drop_zero, Int.cast_ofNat_Int, go_sem, ↓reduceIte, Nat.reduceEqDiff, Nat.reduceAdd, Nat.reduceMul, Nat.reduceLeDiff, Nat.reduceLT, Int.reduceLE, Int.reduceLT, reduceCtorEq]
  refine (p66 t ht hl).go ?_
  cases hb : isTab t with
  | false =>
    try simp only [take6, List.drop_zero, Int.cast_ofNat_Int, go_sem, ↓reduceIte, Nat.reduceEqDiff, Nat.reduceAdd, Nat.reduceMul, Nat.reduceLeDiff, Nat.reduceLT, Int.reduceLE, Int.reduceLT, reduceCtorEq]
    exact Kv.Fin.still ⟨by simp [mtc, hb], rfl⟩
  | true =>
    try simp only [take6, List.drop_zero, Int.cast_ofNat_Int, go_sem, ↓reduceIte, Nat.reduceEqDiff, Nat.reduceAdd, Nat.reduceMul, Nat.reduceLeDiff, Nat.reduceLT, Int.reduceLE, Int.reduceLT, reduceCtorEq]
    refine ⟨fun h1 => Kv.Fin.still ⟨?_, rfl⟩, fun h1 => ?_⟩
    · rw [mtc, if_neg (by simp [hb]), if_pos (by omega)]
    · refine (p83 t hb).go ?_
      cases hm : monB t with
      | false =>
        try simp only [take6, List.drop_zero, Int.cast_ofNat_Int, go_sem, ↓reduceIte, Nat.reduceEqDiff, Nat.reduceAdd, Nat.reduceMul, Nat.reduceLeDiff, Nat.reduceLT, Int.reduceLE, Int.reduceLT, reduceCtorEq]
        exact Kv.Fin.still ⟨by rw [mtc, if_neg (by simp [hb]), if_neg (by omega), if_pos hm], rfl⟩
      | true => exact absurd (by rw [mtc, if_neg (by simp [hb]), if_neg (by omega), if_neg (by simp [hm])]) h
theorem p47_in (t : List (List Int)) (ht : t.length ≤ 1048576) (hl : ∀ r ∈ t, r.length ≤ 1048576) (h : isTab t = true) (h5 : t.length ≤ 5) (hm : monB t = true) : Pure Try.prog 47 [.list (rows t)] (.tup [.list (aggs (mot t t.length)), .int .i64 0]) := by
  obtain ⟨hn, hsq⟩ := tab_sq h
  refine e47 (by simp) fun _ _ => ?_
  simp only [k47, argEnv, take6, List.drop_zero, Int.cast_ofNat_Int, go_sem, ↓reduceIte, Nat.reduceEqDiff, Nat.reduceAdd, Nat.reduceMul, Nat.reduceLeDiff, Nat.reduceLT, Int.reduceLE, Int.reduceLT, reduceCtorEq]
  refine (p66 t ht hl).go ?_
  rw [h]
  try simp only [take6, List.drop_zero, Int.cast_ofNat_Int, go_sem, ↓reduceIte, Nat.reduceEqDiff, Nat.reduceAdd, Nat.reduceMul, Nat.reduceLeDiff, Nat.reduceLT, Int.reduceLE, Int.reduceLT, reduceCtorEq]
  refine ⟨fun h => absurd h (by omega), fun _ => ?_⟩
  refine (p83 t h).go ?_
  rw [hm]
  try simp only [take6, List.drop_zero, Int.cast_ofNat_Int, go_sem, ↓reduceIte, Nat.reduceEqDiff, Nat.reduceAdd, Nat.reduceMul, Nat.reduceLeDiff, Nat.reduceLT, Int.reduceLE, Int.reduceLT, reduceCtorEq]
  refine KL_ind k47_b1.eq_1 (fun x : Nat × PV × Heap => [(0, .list (rows t)), (4, x.2.1), (5, .int .i64 x.1)]) (fun x => x.2.2) (fun x => x.1 ≤ t.length ∧ OwnA 27 x.2.2 0 x.2.2.length x.2.1 (mot t x.1) ∧ Free x.2.2) (fun x => t.length - x.1) [0, 4, 5] (0, .ref 0 0 0 0, [.arr 0 27 6 []]) (by rfl) (by rfl) ⟨Nat.zero_le _, .own 0 0 [] [] rfl (by simp) ⟨Nat.zero_le _, by simp⟩, Free.empty _ _ _⟩ fun ⟨x, v, σ⟩ ⟨hx, hT, hf⟩ ih => ?_
  simp only at hx hT hf
  try simp only [take6, List.drop_zero, Int.cast_ofNat_Int, go_sem, ↓reduceIte, Nat.reduceEqDiff, Nat.reduceAdd, Nat.reduceMul, Nat.reduceLeDiff, Nat.reduceLT, Int.reduceLE, Int.reduceLT, reduceCtorEq]
  refine ⟨fun h1 => ?_, fun h1 => ?_⟩
  · have hxt : x < t.length := by omega
    have hok := cn_ok h h5 hxt
    have h6 := hok.mp_len
    have hself : ∀ a : AObj, (σ ++ [a])[σ.length]? = some a := fun a => by simp
    have hset : ∀ a b : AObj, (σ ++ [a]).set σ.length b = σ ++ [b] := fun a b => by simp [List.set_append_right]
    refine KL_ind k47_b0.eq_1 (fun y : Nat => [(0, .list (rows t)), (4, v), (5, .int .i64 x), (6, .ref σ.length y 0 y), (7, .int .i64 y)]) (fun y => σ ++ [.arr y 2 1 (ints (colL t x y))]) (fun y => y ≤ t.length) (fun y => t.length - y) [0, 4, 5, 6, 7] 0 (by simp [keep]) (by simp [colL, ints]) (Nat.zero_le _) fun y hy ihy => ?_
    have hcl := colL_length t x y
    try simp only [hself, hset, hcl, take6, List.drop_zero, Int.cast_ofNat_Int, go_sem, ↓reduceIte, Nat.reduceEqDiff, Nat.reduceAdd, Nat.reduceMul, Nat.reduceLeDiff, Nat.reduceLT, Int.reduceLE, Int.reduceLT, reduceCtorEq]
    refine ⟨fun h2 => ?_, fun h2 => ?_⟩
    · have hyt : y < t.length := by omega
      have hs := hsq y hyt
      have e : (t.getD y []).getD x 0 = tat t y x := rfl
      refine ⟨by omega, fun _ => ⟨by rw [hs]; omega, fun _ => ⟨by omega, by omega, ?_⟩⟩⟩
      refine ihy (y + 1) (by omega) (by omega) _ _ (by rfl) ?_
      rw [List.take_of_length_le (Nat.le_of_eq hcl), ← colL_succ]
      rfl
    · obtain rfl : y = t.length := by omega
      rw [cn_col h hxt]
      refine (p84 (cn t x) (by rw [hok.len]; exact h5)).lend (.cons (Imm.refn (ver := t.length) (e := 2) (l := (cn t x).map fun x : Nat => (x : Int)) (by simp) (by simp [hok.len])) (.nil _)) ?_
      try simp only [h6, OpK_eq, take6, List.drop_zero, Int.cast_ofNat_Int, go_sem, ↓reduceIte, Nat.reduceEqDiff, Nat.reduceAdd, Nat.reduceMul, Nat.reduceLeDiff, Nat.reduceLT, Int.reduceLE, Int.reduceLT, reduceCtorEq]
      refine OwnA.push (OwnA.append hT _) (hf.append (Free.ints _ _ _ _)) (mp (cn t x)) h6 (by simp; omega) fun v' σ' hT' hf' => ?_
      try simp only [OpK_eq, take6, List.drop_zero, Int.cast_ofNat_Int, go_sem, ↓reduceIte, Nat.reduceEqDiff, Nat.reduceAdd, Nat.reduceMul, Nat.reduceLeDiff, Nat.reduceLT, Int.reduceLE, Int.reduceLT, reduceCtorEq]
      repeat' (first | refine And.intro ?_ ?_ | intro _)
      all_goals (try omega)
      refine ih (x + 1, v', σ') ⟨by show x + 1 ≤ t.length; omega, ?_, hf'⟩ (by show t.length - (x + 1) < t.length - x; omega) _ _ (by rfl) rfl
      rw [← mot_succ]; exact hT'
  · obtain rfl : x = t.length := by omega
    try simp only [OpK_eq, take6, List.drop_zero, Int.cast_ofNat_Int, go_sem, ↓reduceIte, Nat.reduceEqDiff, Nat.reduceAdd, Nat.reduceMul, Nat.reduceLeDiff, Nat.reduceLT, Int.reduceLE, Int.reduceLT, reduceCtorEq]
    exact Fin.freeze (Imm.tupL (.cons hT.imm (.cons (.int _ _ _) (.nil _)))) ⟨rfl, rfl⟩
end Go.Proofs.Ytkljidghocnllaa
