/- Equality of structs and arrays whose cells are all int64. -/
import Derived.Test.YtkdkdkkimieieaaK6
import Derived.Laws.StructEq
namespace Go.Kv
set_option linter.unusedVariables false
set_option linter.unusedSimpArgs false

def mkV (P : Program) (t : TypeId) (xs : List Int) : Value := if isAggT P t = some true then .agg (xs.map (Value.int .i64)).toArray else (xs.map (Value.int .i64)).headD Go.undef

variable {P : Program} {w : World}

theorem part_calm {t : TypeId} {n off : Nat} {g : Bool} (hg : isAggT P t = some g) (hn : szT P t = some n) (h1 : g = false → n = 1) {xs : List Int} (ho : off + n ≤ xs.length) :
    (part t (xs.map (Value.int .i64)).toArray off).calm P w = some (mkV P t ((xs.drop off).take n)) := by
  cases g with
  | true =>
    simp only [part, calm_bind, isAggT_true hg, Option.bind_some, if_true, calm_ite, szT_calm hn, calm_pure, mkV, hg, Option.some.injEq]
    congr 1
    apply Array.ext'
    simp [List.map_drop, List.map_take, List.extract_eq_take_drop]
  | false =>
    have h1 := h1 rfl
    subst h1
    simp only [part, calm_bind, isAggT_false hg, Option.bind_some, Bool.false_eq_true, if_false, calm_ite, mkV, hg, Option.some.injEq]
    have hlt : off < xs.length := by omega
    have hd : (xs.drop off).take 1 = [xs[off]] := by
      rw [List.drop_eq_getElem_cons hlt]; rfl
    simp [hd, List.getElem?_map, List.getElem?_eq_getElem hlt]

theorem append_dec (a b c d : List Int) (h : a.length = c.length) : decide (a ++ b = c ++ d) = (decide (a = c) && decide (b = d)) := by
  rw [Bool.eq_iff_iff]
  simp only [decide_eq_true_eq, Bool.and_eq_true]
  exact ⟨fun e => List.append_inj e h, fun ⟨e1, e2⟩ => by rw [e1, e2]⟩

theorem struct_calm (D : Nat) (t : TypeId) (fs : Array Field) (u v : Array Value) (ht : P.underlying t = some (.struct fs)) (hp : P.stoodInHeld t = false) :
    (Op.equalIn (D + 1) t (.agg u) (.agg v)).calm P w = (Op.eqFields D u v fs.toList).calm P w := by
  simp only [Op.equalIn, calm_bind, calm_underlying ht, Option.bind_some, calm_program, hp, Bool.false_eq_true, if_false]
  rw [← Array.forIn_toList]
  generalize fs.toList = gs
  clear ht
  induction gs with
  | nil => simp [Op.eqFields]
  | cons f fs ih =>
    simp only [List.forIn_cons, Op.eqFields, calm_bind, calm_ite]
    split
    · cases (part f.type u f.offset).calm P w with
      | none => rfl
      | some a =>
        simp only [Option.bind_some]
        cases (part f.type v f.offset).calm P w with
        | none => rfl
        | some b =>
          simp only [Option.bind_some]
          cases (Op.equalIn D f.type a b).calm P w with
          | none => rfl
          | some r =>
            cases r
            · simp
            · simpa using ih
    · simpa using ih

theorem isAggT_cmp {d : Nat} {t : TypeId} {n : Nat} (h : cmpT P d t = some n) : ∃ g, isAggT P t = some g ∧ (g = false → n = 1) := by
  cases d with
  | zero => cases h
  | succ d =>
    simp only [cmpT] at h
    split at h
    · rename_i e; exact ⟨false, by simp [isAggT, e], fun _ => by simpa using h.symm⟩
    · rename_i e; exact ⟨true, by simp [isAggT, e], fun h => by cases h⟩
    · rename_i e; exact ⟨true, by simp [isAggT, e], fun h => by cases h⟩
    · cases h

theorem arr_calm {D : Nat} {e : TypeId} {u v : Array Value} {n : Nat} (xs ys : List Int) (hpu : ∀ i, i * n + n ≤ xs.length → (part e u (i * n)).calm P w = some (mkV P e ((xs.drop (i * n)).take n)))
    (hpv : ∀ i, i * n + n ≤ ys.length → (part e v (i * n)).calm P w = some (mkV P e ((ys.drop (i * n)).take n)))
    (ih : ∀ xs ys : List Int, xs.length = n → ys.length = n → (Op.equalIn D e (mkV P e xs) (mkV P e ys)).calm P w = some (decide (xs = ys))) :
    ∀ (k i : Nat), xs.length = i * n + k * n → ys.length = i * n + k * n →
    (forIn (List.range' i k) ((none, ()) : Option Bool × Unit) (fun j _ => do
        let a ← part e u (j * n)
        let b ← part e v (j * n)
        let q ← Op.equalIn D e a b
        if (!q) = true then pure (ForInStep.done (some false, ())) else pure (ForInStep.yield (none, ())) : _) : Sem (Option Bool × Unit)).calm P w = some (if xs.drop (i * n) = ys.drop (i * n) then (none, ()) else (some false, ()))
  | 0, i, h1, h2 => by
    have e1 : xs.drop (i * n) = [] := List.drop_eq_nil_of_le (by omega)
    have e2 : ys.drop (i * n) = [] := List.drop_eq_nil_of_le (by omega)
    simp [e1, e2]
  | k + 1, i, h1, h2 => by
    have hk : (k + 1) * n = n + k * n := by rw [Nat.add_mul]; omega
    have hi1 : (i + 1) * n = i * n + n := by rw [Nat.add_mul]; omega
    have l1 : ((xs.drop (i * n)).take n).length = n := by simp; omega
    have l2 : ((ys.drop (i * n)).take n).length = n := by simp; omega
    have rc := arr_calm xs ys hpu hpv ih k (i + 1) (by omega) (by omega)
    rw [hi1] at rc
    have s1 : xs.drop (i * n) = (xs.drop (i * n)).take n ++ xs.drop (i * n + n) := by rw [← List.drop_drop, List.take_append_drop]
    have s2 : ys.drop (i * n) = (ys.drop (i * n)).take n ++ ys.drop (i * n + n) := by rw [← List.drop_drop, List.take_append_drop]
    simp only [List.range'_succ, List.forIn_cons, calm_bind, hpu i (by omega), hpv i (by omega), Option.bind_some, ih _ _ l1 l2, calm_ite, calm_pure]
    by_cases e1 : (xs.drop (i * n)).take n = (ys.drop (i * n)).take n
    · simp only [e1, decide_true, Bool.not_true, Bool.false_eq_true, if_false, Option.bind_some]
      rw [rc]
      congr 1
      have : (xs.drop (i * n) = ys.drop (i * n)) ↔ (xs.drop (i * n + n) = ys.drop (i * n + n)) := by
        rw [s1, s2, e1]; exact ⟨fun h => List.append_cancel_left h, fun h => by rw [h]⟩
      simp only [this]
    · have : ¬ (xs.drop (i * n) = ys.drop (i * n)) := fun h => e1 (by rw [h])
      simp [e1, this]

theorem equalIn_calm : ∀ (d : Nat) (t : TypeId) (n D : Nat) (xs ys : List Int), cmpT P d t = some n → d ≤ D → xs.length = n → ys.length = n →
    (Op.equalIn D t (mkV P t xs) (mkV P t ys)).calm P w = some (decide (xs = ys))
  | 0, t, n, D, xs, ys, h, _, _, _ => by cases h
  | d + 1, t, n, D, xs, ys, h, hD, hx, hy => by
    obtain ⟨D, rfl⟩ : ∃ k, D = k + 1 := ⟨D - 1, by omega⟩
    simp only [cmpT] at h
    split at h
    · rename_i e
      simp only [Option.some.injEq] at h; subst h
      obtain ⟨x, rfl⟩ := List.length_eq_one_iff.1 hx
      obtain ⟨y, rfl⟩ := List.length_eq_one_iff.1 hy
      have : isAggT P t = some false := by simp [isAggT, e]
      simp [mkV, this, Op.equalIn, calm_underlying e, beq_dec]
    · rename_i fs e
      split at h
      · cases h
      · rename_i hp
        have : isAggT P t = some true := by simp [isAggT, e]
        simp only [mkV, this, if_true]
        rw [struct_calm D t fs _ _ e (by simpa using hp)]
        have key : ∀ (gs : List Field) (o : Nat), cmpF P (cmpT P d) gs o = some n → o ≤ n → (Op.eqFields D (xs.map (Value.int .i64)).toArray (ys.map (Value.int .i64)).toArray gs).calm P w = some (decide (xs.drop o = ys.drop o)) := by
          intro gs
          induction gs with
          | nil =>
            intro o ho _
            simp only [cmpF, Option.some.injEq] at ho; subst ho
            rw [List.drop_eq_nil_of_le (by omega), List.drop_eq_nil_of_le (by omega)]
            simp [Op.eqFields]
          | cons f gs ihg =>
            intro o ho hon
            simp only [cmpF] at ho
            split at ho
            · cases ho
            · rename_i hnm
              simp only [not_or, Decidable.not_not] at hnm
              obtain ⟨hnm, rfl⟩ := hnm
              simp only [Option.bind_eq_some_iff] at ho
              obtain ⟨m, hm, ho⟩ := ho
              split at ho
              · rename_i hsz
                obtain ⟨g, hg, hg1⟩ := isAggT_cmp hm
                have mono : ∀ (gs : List Field) (o q : Nat), cmpF P (cmpT P d) gs o = some q → o ≤ q := by
                  intro gs
                  induction gs with
                  | nil => intro o q h; simp [cmpF] at h; omega
                  | cons f gs ih =>
                    intro o q h
                    simp only [cmpF] at h
                    split at h
                    · cases h
                    · simp only [Option.bind_eq_some_iff] at h
                      obtain ⟨m, _, h⟩ := h
                      split at h
                      · have := ih _ _ h; omega
                      · cases h
                have hle := mono _ _ _ ho
                have p1 := part_calm (w := w) hg hsz hg1 (off := f.offset) (xs := xs) (by omega)
                have p2 := part_calm (w := w) hg hsz hg1 (off := f.offset) (xs := ys) (by omega)
                have eqr := equalIn_calm d f.type m D ((xs.drop f.offset).take m) ((ys.drop f.offset).take m) hm (by omega) (by simp; omega) (by simp; omega)
                have rc := ihg _ ho hle
                simp only [Op.eqFields, calm_ite, calm_bind, hnm, ne_eq, not_false_eq_true, if_true, p1, p2, eqr, Option.bind_some, rc]
                have s1 : xs.drop f.offset = (xs.drop f.offset).take m ++ xs.drop (f.offset + m) := by rw [← List.drop_drop, List.take_append_drop]
                have s2 : ys.drop f.offset = (ys.drop f.offset).take m ++ ys.drop (f.offset + m) := by rw [← List.drop_drop, List.take_append_drop]
                have hlen : ((xs.drop f.offset).take m).length = ((ys.drop f.offset).take m).length := by simp; omega
                conv => rhs; rw [s1, s2]
                rw [append_dec _ _ _ _ hlen]
                by_cases e1 : (xs.drop f.offset).take m = (ys.drop f.offset).take m <;> simp [e1]
              · cases ho
        have := key _ 0 h (by omega)
        simpa using this
    · rename_i len el e
      simp only [Option.bind_eq_some_iff] at h
      obtain ⟨m, hm, h⟩ := h
      split at h
      · rename_i hsz
        simp only [Option.some.injEq] at h
        have : isAggT P t = some true := by simp [isAggT, e]
        obtain ⟨g, hg, hg1⟩ := isAggT_cmp hm
        simp only [mkV, this, if_true]
        have := arr_calm (P := P) (w := w) (D := D) (e := el) (u := (xs.map (Value.int .i64)).toArray) (v := (ys.map (Value.int .i64)).toArray) (n := m) xs ys
          (fun i hi => part_calm hg hsz hg1 hi) (fun i hi => part_calm hg hsz hg1 hi)
          (fun xs ys h1 h2 => equalIn_calm d el m D xs ys hm (by omega) h1 h2) len 0 (by omega) (by omega)
        simp only [Op.equalIn, calm_bind, calm_underlying e, Option.bind_some, szT_calm hsz]
        rw [Std.Legacy.Range.forIn_eq_forIn_range']
        simp only [Std.Legacy.Range.size]
        rw [show (len - 0 + 1 - 1) / 1 = len by omega, this]
        simp only [Nat.zero_mul, List.drop_zero]
        by_cases hxy : xs = ys <;> simp [hxy]
      · cases h
    · cases h

theorem eqGuard_calm (op : BinOp) (t : TypeId) (x y : Operand) (u v : Array Value) (h : P.eqGuardType P.depth t = false) : (eqGuard op t x y (.agg u) (.agg v)).calm P w = some () := by
  cases op <;> simp [eqGuard, h]
/-- The two comparisons, as operations. -/
theorem aeq_calm (ng : Bool) {op : BinOp} (ho : op = if ng = true then .neq else .eql) {t : TypeId} {n : Nat} (hc : cmpT P 8 t = some n) (hg : P.eqGuardType P.depth t = false) (ha : isAggT P t = some true) (x y : Operand) (xs ys : List Int) (hx : xs.length = n) (hy : ys.length = n) :
    (do eqGuard op t x y (.agg (xs.map (Value.int .i64)).toArray) (.agg (ys.map (Value.int .i64)).toArray); binOp op t (.agg (xs.map (Value.int .i64)).toArray) (.agg (ys.map (Value.int .i64)).toArray) : Sem Value).calm P w = some (.bool (if ng = true then !decide (xs = ys) else decide (xs = ys))) := by
  have h1 := equalIn_calm (w := w) 8 t n 10000 xs ys hc (by omega) hx hy
  simp only [mkV, ha, if_true] at h1
  simp only [calm_bind, eqGuard_calm _ _ _ _ _ _ hg, Option.bind_some]
  subst ho
  cases ng <;> simp [binOp, Op.equal, Op.maxDepth, h1]
end Go.Kv
