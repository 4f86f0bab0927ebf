/- The idempotents of a table: points, deletion, both sides. -/
import Derived.Test.YtkdkdkkimieieaaIc
import Derived.Test.YtkdkdkkimieieaaT3
import Derived.Test.YtkdkdkkimieieaaO
namespace Go.Proofs.Ytkdkdkkimieieaa
open Go.Kv
set_option linter.unusedVariables false
set_option linter.unusedSimpArgs false
attribute [local irreducible] ACall PCall KL
/-- The numbers below n. -/
def pts (n : Nat) : List Int := mk n fun i => (i : Int)
theorem p86 (n : Nat) (hn : 1 ≤ n ∧ n ≤ 4294967296) : ACall Try.prog 86 [.int .i64 n] [] (fun v s => v = .ref 0 (n - 1) 0 (pts n).length ∧ s = [.arr (n - 1) 2 1 (ints (pts n))]) := by
  refine e86 (by simp) fun _ _ => ?_
  simp only [k86, argEnv, go_sem, ↓reduceIte, Nat.reduceEqDiff, Nat.reduceAdd, reduceCtorEq]
  refine KL_ind k86_b0.eq_1 (fun x : Nat => [(6, .int .i64 x), (5, .int .i64 n), (3, if x = 0 then .nils else .ref 0 (x - 1) 0 x)]) (fun x => if x = 0 then [] else [.arr (x - 1) 2 1 (ints (pts x))]) (fun x => x ≤ n) (fun x => n - x) [6, 5, 3] 0 rfl (by simp) (Nat.zero_le _) fun x hi ih => ?_
  simp only [go_sem, ↓reduceIte, Nat.reduceEqDiff, Nat.reduceAdd, reduceCtorEq]
  refine ⟨fun hx => ?_, fun hx => ?_⟩
  · rcases x with _ | x
    · simp only [go_sem, ↓reduceIte, Nat.reduceEqDiff, Nat.reduceAdd, reduceCtorEq]
      repeat' (first | refine And.intro ?_ ?_ | intro _)
      all_goals (try omega)
      refine ih 1 (by omega) (by omega) _ _ ?_ ?_
      · simp [keep]
      · simp [pts, mk, ints]
    · have hne : ¬ (x + 1 = 0) := by omega
      simp only [hne, if_false, Nat.add_sub_cancel]
      simp only [go_sem, ↓reduceIte, Nat.reduceEqDiff, Nat.reduceAdd, reduceCtorEq]
      have hl : (pts (x + 1)).length = x + 1 := by simp [pts]
      repeat' (first | refine And.intro ?_ ?_ | intro _)
      all_goals (try omega)
      refine ih (x + 1 + 1) (by omega) (by omega) _ _ ?_ ?_
      · simp [keep]
      · rw [List.take_of_length_le (by omega)]
        have := mk_succ (x + 1) fun i => (i : Int)
        simp only [pts] at this ⊢
        rw [this]
        rfl
  · obtain rfl : x = n := by omega
    have hne : ¬ (x = 0) := by omega
    simp only [hne, if_false]
    simp only [go_sem, ↓reduceIte, Nat.reduceEqDiff, Nat.reduceAdd, reduceCtorEq]
    refine Kv.Fin.now ⟨?_, rfl⟩
    simp [pts]
theorem any_split {α : Type} {p : α → Bool} : ∀ {l : List α}, l.any p = true → ∃ i, ∃ h : i < l.length, (l.take i).any p = false ∧ p l[i] = true
  | a :: l, h => by
    cases hp : p a with
    | true => exact ⟨0, by simp, by simp, by simpa using hp⟩
    | false =>
      simp only [List.any_cons, hp, Bool.false_or] at h
      obtain ⟨i, hi, h1, h2⟩ := any_split h
      exact ⟨i + 1, by simpa using hi, by simp [hp, h1], by simpa using h2⟩
theorem filter_take_succ {p : Int → Bool} {l : List Int} {x : Nat} (h : x < l.length) : (l.take (x + 1)).filter p = (l.take x).filter p ++ (if p l[x] = true then [l[x]] else []) := by
  rw [List.take_succ_eq_append_getElem h, List.filter_append]
  congr 1
  by_cases hp : p l[x] = true <;> simp [hp]
theorem filter_none {p : Int → Bool} {l : List Int} (h : l.any p = false) : l.filter (fun x => !p x) = l := by
  rw [List.filter_eq_self]
  intro a ha
  rw [List.any_eq_false] at h
  simpa using h a ha
theorem p85 (ver : Nat) (l : List Int) (hl : l.length ≤ 4294967296) (fid : FuncId) (caps : List PV) (hc : ∀ c ∈ caps, PV.upto 0 c) (p : Int → Bool) (hp : ∀ x ∈ l, Pure Try.prog fid (.int .i64 x :: caps) (.bool (p x))) :
    ACall Try.prog 85 [.ref 0 ver 0 l.length, .fn (.func fid) [] caps] [.arr ver 2 1 (ints l)] (fun v s => v = .ref 0 ver 0 (l.filter fun x => !p x).length ∧ ∃ post, s = [.arr ver 2 1 (ints ((l.filter fun x => !p x) ++ post))]) := by
  refine e85 (by simp) fun _ _ => ?_
  simp only [k85, argEnv, go_sem, ↓reduceIte, Nat.reduceEqDiff, Nat.reduceAdd, reduceCtorEq]
  refine (p102 l hl fid caps hc p hp).use (.int _ _) (.cons (.refi rfl) (.cons (Imm.fnc _ (up_self hc)) (.nil _))) ?_
  simp only [go_sem, ↓reduceIte, Nat.reduceEqDiff, Nat.reduceAdd, reduceCtorEq]
  cases hany : l.any p with
  | false =>
    rw [idx_none hany]
    repeat' (first | refine And.intro ?_ ?_ | intro _)
    all_goals (try omega)
    refine Kv.Fin.now ⟨by rw [filter_none hany], [], by rw [filter_none hany, List.append_nil]⟩
  | true =>
    obtain ⟨i0, hi0, hno, hyes⟩ := any_split hany
    rw [idx_some hi0 hno hyes]
    refine ⟨fun h => by omega, fun h => ⟨by omega, ?_⟩⟩
    refine KL_ind k85_b0.eq_1 (fun x : Nat × List Int => [(6, .int .i64 x.1), (5, .int .i64 ((l.take x.1).filter fun x => !p x).length), (0, .ref 0 ver 0 l.length), (1, .fn (.func fid) [] caps)])
      (fun x => [.arr ver 2 1 (ints (((l.take x.1).filter fun x => !p x) ++ x.2 ++ l.drop x.1))])
      (fun x => x.1 ≤ l.length ∧ ((l.take x.1).filter fun x => !p x).length + x.2.length = x.1 ∧ 1 ≤ x.2.length) (fun x => l.length - x.1) [6, 5, 0, 1] (i0 + 1, [l[i0]]) ?_ ?_ ?_ fun ⟨x, J⟩ ⟨hx, hJ, hJ1⟩ ih => ?_
    · simp [keep, filter_take_succ hi0, hyes, filter_none hno]; omega
    · simp only [filter_take_succ hi0, hyes, filter_none hno]
      simp
    · refine ⟨by show i0 + 1 ≤ l.length; omega, ?_, by simp⟩
      simp [filter_take_succ hi0, hyes, filter_none hno]; omega
    · simp only at hx hJ hJ1
      generalize hF : (l.take x).filter (fun x => !p x) = F at *
      have hdl : (l.drop x).length = l.length - x := by simp
      have hJe : J = J.headD 0 :: J.tail := by
        cases J with
        | nil => simp at hJ1
        | cons a J => rfl
      simp only [go_sem, hdl, ↓reduceIte, Nat.reduceEqDiff, Nat.reduceAdd, reduceCtorEq]
      refine ⟨fun h1 => ?_, fun h1 => ?_⟩
      · have hxl : x < l.length := by omega
        have hg : (F ++ J ++ l.drop x).getD x 0 = l[x] := by
          rw [List.getD_eq_getElem?_getD, List.getElem?_append_right (by simp; omega)]
          have : x - (F ++ J).length = 0 := by simp; omega
          rw [this, List.getElem?_drop, Nat.add_zero, List.getElem?_eq_getElem hxl]; rfl
        rw [hg]
        refine ⟨by omega, by omega, fun h2 => ?_⟩
        refine (hp _ (List.getElem_mem hxl)).use (.bool _) (.cons (.int _ _ _) (up_self hc)) ?_
        simp only [go_sem, hdl, ↓reduceIte, Nat.reduceEqDiff, Nat.reduceAdd, reduceCtorEq]
        refine ⟨fun h3 => ?_, fun h3 => ⟨by omega, ?_⟩⟩
        · have hset : (F ++ J ++ l.drop x).set F.length l[x] = (F ++ [l[x]]) ++ J.tail ++ l.drop x := by
            rw [List.append_assoc, List.set_append_right _ _ (Nat.le_refl _), Nat.sub_self, hJe]
            simp
          have hf1 : ((l.take (x + 1)).filter fun x => !p x) = F ++ [l[x]] := by rw [filter_take_succ hxl, hF, if_pos (by simp [h3])]
          rw [hset]
          repeat' (first | refine And.intro ?_ ?_ | intro _)
          all_goals (try omega)
          refine ih (x + 1, J.tail ++ [l[x]]) ⟨by show x + 1 ≤ l.length; omega, ?_, by simp⟩ (by show l.length - (x + 1) < l.length - x; omega) _ _ ?_ ?_
          · show ((l.take (x + 1)).filter fun x => !p x).length + (J.tail ++ [l[x]]).length = x + 1
            rw [hf1]
            simp only [List.length_append, List.length_tail, List.length_cons, List.length_nil]; omega
          · simp only [keep, hf1, List.map_cons, List.map_nil, look_cons, ↓reduceIte, Nat.reduceEqDiff, reduceCtorEq, List.length_append, List.length_cons, List.length_nil]
            rfl
          · rw [hf1, List.drop_eq_getElem_cons hxl]; simp
        · have hf1 : ((l.take (x + 1)).filter fun x => !p x) = F := by rw [filter_take_succ hxl, hF, if_neg (by simp [h3]), List.append_nil]
          refine ih (x + 1, J ++ [l[x]]) ⟨by show x + 1 ≤ l.length; omega, ?_, by simp⟩ (by show l.length - (x + 1) < l.length - x; omega) _ _ ?_ ?_
          · show ((l.take (x + 1)).filter fun x => !p x).length + (J ++ [l[x]]).length = x + 1
            rw [hf1]
            simp only [List.length_append, List.length_cons, List.length_nil]; omega
          · simp only [keep, hf1, List.map_cons, List.map_nil, look_cons, ↓reduceIte, Nat.reduceEqDiff, reduceCtorEq]
            rfl
          · rw [hf1, List.drop_eq_getElem_cons hxl]; simp
      · obtain rfl : x = l.length := by omega
        rw [List.take_length] at hF
        rw [hF]
        repeat' (first | refine And.intro ?_ ?_ | intro _)
        all_goals (try omega)
        have e : (F ++ J ++ l.drop l.length).take F.length = F := by rw [List.append_assoc, List.take_left]
        rw [e]
        exact Kv.Fin.now ⟨rfl, _, by rw [List.append_assoc]⟩
def isI (t : List (List Int)) (v : Int) : Bool := decide (tat t v.toNat v.toNat = v)
def idl (t : List (List Int)) (x : Nat) : List Int := (pts x).filter (isI t)
theorem idl_succ (t : List (List Int)) (x : Nat) : idl t (x + 1) = idl t x ++ (if tat t x x = x then [(x : Int)] else []) := by
  simp only [idl, pts, mk_succ, List.filter_append]
  congr 1
  by_cases h : tat t x x = x <;> simp [isI, h]
theorem idl_len (t : List (List Int)) (x : Nat) : (idl t x).length ≤ x := by
  have := List.length_filter_le (isI t) (pts x)
  simpa [idl, pts] using this
theorem upto_fptr' {cs : List PV} (o : Nat) (h : ∀ c ∈ cs, PV.upto 0 c) : PV.upto 0 (.fptr cs o) := fun φ ι v hr => by
  cases hr with
  | fptr _ _ b o' C hb hok g hg hh => exact .fptr cs o b o' C hb hok g hg fun j c hc => h c (List.mem_of_getElem? hc) _ _ _ (hh j c hc)
theorem up_rows (t : List (List Int)) : ∀ c ∈ [PV.fptr [.list (rows t)] 0], PV.upto 0 c := up1 (upto_fptr' 0 (up1 (upto_rows 0 t)))
theorem p87 (t : List (List Int)) (h : isTab t = true) (x : Nat) (hx : x < t.length) : Pure Try.prog 87 [.int .i64 x, .fptr [.list (rows t)] 0] (.bool (!isI t x)) := by
  obtain ⟨hn, hsq⟩ := tab_sq h
  have hs := hsq x hx
  refine e87 (by simp) fun _ _ => ?_
  simp only [k87, argEnv, go_sem, ↓reduceIte, Nat.reduceEqDiff, Nat.reduceAdd, reduceCtorEq]
  repeat' (first | refine And.intro ?_ ?_ | intro _)
  all_goals (try omega)
  exact Kv.Fin.now ⟨rfl, rfl⟩
theorem p41_out (t : List (List Int)) (ht : t.length ≤ 1048576) (hl : ∀ r ∈ t, r.length ≤ 1048576) (h : ¬ isTab t = true) : Pure Try.prog 41 [.list (rows t)] (.tup [.nils, .int .i64 2]) := by
  refine e41 (by simp) fun _ _ => ?_
  simp only [k41, argEnv, go_sem, ↓reduceIte, Nat.reduceEqDiff, Nat.reduceAdd, reduceCtorEq]
  refine (p74 t ht hl).use (.bool _) (.cons (.listr _ _) (.nil _)) ?_
  simp only [go_sem, ↓reduceIte, Nat.reduceEqDiff, Nat.reduceAdd, reduceCtorEq]
  simp only [h, not_false_eq_true, true_implies, not_true_eq_false, false_implies, and_true]
  exact ⟨Kv.Fin.now ⟨rfl, rfl⟩, fun h2 => by cases h2⟩
theorem p42_out (t : List (List Int)) (ht : t.length ≤ 1048576) (hl : ∀ r ∈ t, r.length ≤ 1048576) (h : ¬ isTab t = true) : Pure Try.prog 42 [.list (rows t)] (.tup [.nils, .int .i64 2]) := by
  refine e42 (by simp) fun _ _ => ?_
  simp only [k42, argEnv, go_sem, ↓reduceIte, Nat.reduceEqDiff, Nat.reduceAdd, reduceCtorEq]
  refine (p77 t ht hl).use (.bool _) (.cons (.listr _ _) (.nil _)) ?_
  simp only [go_sem, ↓reduceIte, Nat.reduceEqDiff, Nat.reduceAdd, reduceCtorEq]
  simp only [h, not_false_eq_true, true_implies, not_true_eq_false, false_implies, and_true]
  exact ⟨Kv.Fin.now ⟨rfl, rfl⟩, fun h2 => by cases h2⟩
theorem p41_in (t : List (List Int)) (ht : t.length ≤ 1048576) (hl : ∀ r ∈ t, r.length ≤ 1048576) (h : isTab t = true) : NewI Try.prog 41 [.list (rows t)] 2 (idl t t.length) 0 := by
  obtain ⟨hn, hsq⟩ := tab_sq h
  refine NewI.mk (idl t t.length).length [] [] ?_
  refine e41 (by simp) fun _ _ => ?_
  simp only [k41, argEnv, go_sem, ↓reduceIte, Nat.reduceEqDiff, Nat.reduceAdd, reduceCtorEq]
  refine (p74 t ht hl).use (.bool _) (.cons (.listr _ _) (.nil _)) ?_
  simp only [go_sem, ↓reduceIte, Nat.reduceEqDiff, Nat.reduceAdd, reduceCtorEq]
  refine ⟨fun h2 => absurd h (by simp [h2]), fun _ => ?_⟩
  refine KL_ind k41_b0.eq_1 (fun x : Nat => [(5, .int .i64 x), (4, .ref 0 (idl t x).length 0 (idl t x).length), (0, .list (rows t))]) (fun x => [.arr (idl t x).length 2 1 (ints (idl t x))]) (fun x => x ≤ t.length) (fun x => t.length - x) [5, 4, 0] 0 rfl (by simp [idl, pts, mk, ints]) (Nat.zero_le _) fun x hi ih => ?_
  have hle := idl_len t x
  simp only [go_sem, ↓reduceIte, Nat.reduceEqDiff, Nat.reduceAdd, reduceCtorEq]
  refine ⟨fun h1 => ⟨by omega, fun h2 => ?_⟩, fun h1 => ?_⟩
  · have hs := hsq x h2
    have hsuc := idl_succ t x
    unfold tat at hsuc
    repeat' (first | refine And.intro ?_ ?_ | intro _)
    all_goals (try omega)
    · rename_i h3
      rw [if_pos h3] at hsuc
      refine ih (x + 1) (by omega) (by omega) _ _ ?_ ?_
      · rw [hsuc]; simp [keep]
      · rw [hsuc]; simp
    · rename_i h3
      rw [if_neg h3, List.append_nil] at hsuc
      refine ih (x + 1) (by omega) (by omega) _ _ ?_ ?_
      · rw [hsuc]; simp [keep]
      · rw [hsuc]
  · obtain rfl : x = t.length := by omega
    exact Kv.Fin.now ⟨rfl, rfl⟩
theorem p42_in (t : List (List Int)) (ht : t.length ≤ 1048576) (hl : ∀ r ∈ t, r.length ≤ 1048576) (h : isTab t = true) : NewI Try.prog 42 [.list (rows t)] 2 (idl t t.length) 0 := by
  obtain ⟨hn, hsq⟩ := tab_sq h
  have hq : (pts t.length).filter (fun x => !(!isI t x)) = idl t t.length := by simp [idl]
  unfold NewI
  refine e42 (by simp) fun _ _ => ?_
  simp only [k42, argEnv, go_sem, ↓reduceIte, Nat.reduceEqDiff, Nat.reduceAdd, reduceCtorEq]
  refine (p77 t ht hl).use (.bool _) (.cons (.listr _ _) (.nil _)) ?_
  simp only [go_sem, ↓reduceIte, Nat.reduceEqDiff, Nat.reduceAdd, reduceCtorEq]
  refine ⟨fun h2 => absurd h (by simp [h2]), fun _ => ?_⟩
  refine (p86 t.length (by omega)).mono fun v s ⟨hv, hs⟩ => ?_
  subst hv; subst hs
  simp only [go_sem, ↓reduceIte, Nat.reduceEqDiff, Nat.reduceAdd, reduceCtorEq]
  refine (p85 (t.length - 1) (pts t.length) (by simp [pts]; omega) 87 [.fptr [.list (rows t)] 0] (up_rows t) (fun x => !isI t x) (fun x hx => ?_)).mono fun v s ⟨hv, post, hs⟩ => ?_
  · obtain ⟨i, hi, rfl⟩ : ∃ i, i < t.length ∧ x = (i : Int) := by
      simp only [pts, mk, List.mem_map, List.mem_range] at hx
      obtain ⟨i, hi, rfl⟩ := hx
      exact ⟨i, hi, rfl⟩
    exact p87 t h i hi
  subst hv; subst hs
  simp only [go_sem, ↓reduceIte, Nat.reduceEqDiff, Nat.reduceAdd, reduceCtorEq]
  rw [hq]
  exact Kv.Fin.now ⟨t.length - 1, [], post, rfl, rfl⟩
end Go.Proofs.Ytkdkdkkimieieaa
