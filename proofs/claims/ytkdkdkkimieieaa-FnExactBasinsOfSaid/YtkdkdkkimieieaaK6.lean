/- Single operations on numbers, addresses and slices: what the machine does is what the abstract operation says. -/
import Derived.Test.YtkdkdkkimieieaaK5
import Derived.Laws.MakeOwn
import Derived.Laws.OwnMore
import Derived.Laws.Strings
import Derived.Great.BuildSlice
namespace Go.Kv
set_option linter.unusedVariables false
set_option linter.unusedSimpArgs false

variable {P : Program} {φ : Frz} {ι : List KLoc} {σ : Heap} {w : World}

/-! ### Numbers -/
theorem wrap_i64_of {n : Int} (h1 : -9223372036854775808 ≤ n) (h2 : n ≤ 9223372036854775807) : IntKind.i64.wrap n = n := by rw [IntKind.wrap_i64]; omega
theorem aWrap_sound {k : IntKind} {n : Int} {K : PV → Prop} (h : aWrap k n K) : K (.int k (k.wrap n)) := by
  unfold aWrap at h
  cases k <;> first | exact h | (obtain ⟨⟨h1, h2⟩, h3⟩ := h; rw [wrap_i64_of h1 h2]; exact h3)
theorem tdiv_of {a b : Int} (ha : 0 ≤ a) (hb : 0 < b) : a.tdiv b = a / b := by rw [Int.tdiv_eq_ediv_of_nonneg ha]
theorem tmod_of {a b : Int} (ha : 0 ≤ a) (hb : 0 < b) : a.tmod b = a % b := by rw [Int.tmod_eq_emod_of_nonneg ha]
theorem min_of {b : Int} {n : Nat} (h0 : 0 ≤ b) (h : b ≤ n) : min b.toNat n = b.toNat := by omega

theorem beq_dec {α : Type} [BEq α] [LawfulBEq α] [DecidableEq α] (a b : α) : (a == b) = decide (a = b) := by
  by_cases h : a = b <;> simp [h]
theorem aBin_sound {op : BinOp} {t : TypeId} {ox oy : Operand} {x y : PV} {u v : Value} {K : PV → Prop} (hx : Rel φ ι x u) (hy : Rel φ ι y v) (h : aBin op x y K) :
    ∃ c r, (do eqGuard op t ox oy u v; binOp op t u v : Sem Value).calm P w = some r ∧ Rel φ ι c r ∧ K c := by
  unfold aBin at h
  split at h
  · rename_i k a k' b
    obtain rfl := hx.int_inv
    obtain rfl := hy.int_inv
    obtain ⟨hk, h⟩ := h
    have hg : (eqGuard op t ox oy (.int k a) (.int k' b)).calm P w = some () := by
      unfold eqGuard; split <;> simp
    simp only [calm_bind, hg, Option.bind_some]
    cases op <;> simp only [aInt] at h
    case add => cases hk (by simp) (by simp); exact ⟨_, _, by simp [binOp, Op.intArith], .int _ _, aWrap_sound h⟩
    case sub => cases hk (by simp) (by simp); exact ⟨_, _, by simp [binOp, Op.intArith], .int _ _, aWrap_sound h⟩
    case mul => cases hk (by simp) (by simp); exact ⟨_, _, by simp [binOp, Op.intArith], .int _ _, aWrap_sound h⟩
    case quo =>
      cases hk (by simp) (by simp); obtain ⟨⟨h1, h2⟩, h3⟩ := h
      have hb : ¬ b = 0 := by omega
      exact ⟨_, _, by simp [binOp, Op.intDiv, hb, tdiv_of h1 h2], .int _ _, aWrap_sound h3⟩
    case rem =>
      cases hk (by simp) (by simp); obtain ⟨⟨h1, h2⟩, h3⟩ := h
      have hb : ¬ b = 0 := by omega
      exact ⟨_, .int k (a % b), by simp [binOp, Op.intDiv, hb, tmod_of h1 h2], .int _ _, h3⟩
    case eql => cases hk (by simp) (by simp); exact ⟨_, (.bool (decide (a = b))), by simp [binOp, Op.intCmp, bne, beq_dec], .bool _, h⟩
    case neq => cases hk (by simp) (by simp); exact ⟨_, (.bool (!decide (a = b))), by simp [binOp, Op.intCmp, bne, beq_dec], .bool _, h⟩
    case lss => cases hk (by simp) (by simp); exact ⟨_, (.bool (decide (a < b))), by simp [binOp, Op.intCmp, bne, beq_dec], .bool _, h⟩
    case leq => cases hk (by simp) (by simp); exact ⟨_, (.bool (decide (a ≤ b))), by simp [binOp, Op.intCmp, bne, beq_dec], .bool _, h⟩
    case gtr => cases hk (by simp) (by simp); exact ⟨_, (.bool (decide (b < a))), by simp [binOp, Op.intCmp, bne, beq_dec], .bool _, h⟩
    case geq => cases hk (by simp) (by simp); exact ⟨_, (.bool (decide (b ≤ a))), by simp [binOp, Op.intCmp, bne, beq_dec], .bool _, h⟩
    case and => cases hk (by simp) (by simp); exact ⟨_, (.int k (k.wrap (BitVec.ofInt k.bits a &&& BitVec.ofInt k.bits b).toNat)), by (simp only [binOp, ne_eq, not_true_eq_false, if_false, Op.intBits, calm_pure]), .int _ _, h⟩
    case or => cases hk (by simp) (by simp); exact ⟨_, (.int k (k.wrap (BitVec.ofInt k.bits a ||| BitVec.ofInt k.bits b).toNat)), by (simp only [binOp, ne_eq, not_true_eq_false, if_false, Op.intBits, calm_pure]), .int _ _, h⟩
    case xor => cases hk (by simp) (by simp); exact ⟨_, (.int k (k.wrap (BitVec.ofInt k.bits a ^^^ BitVec.ofInt k.bits b).toNat)), by (simp only [binOp, ne_eq, not_true_eq_false, if_false, Op.intBits, calm_pure]), .int _ _, h⟩
    case andNot => cases hk (by simp) (by simp); exact ⟨_, (.int k (k.wrap (BitVec.ofInt k.bits a &&& ~~~ BitVec.ofInt k.bits b).toNat)), by (simp only [binOp, ne_eq, not_true_eq_false, if_false, Op.intBits, calm_pure]), .int _ _, h⟩
    case shl =>
      obtain ⟨⟨h1, h2⟩, h3⟩ := h
      have hb : ¬ b < 0 := by omega
      exact ⟨_, .int k (k.wrap (a * 2 ^ b.toNat)), by simp [binOp, Op.shift, hb, min_of h1 h2], .int _ _, h3⟩
    case shr =>
      obtain ⟨⟨h1, h2⟩, h3⟩ := h
      have hb : ¬ b < 0 := by omega
      exact ⟨_, .int k (a.fdiv (2 ^ b.toNat)), by simp [binOp, Op.shift, hb, min_of h1 h2], .int _ _, h3⟩
  · rename_i a b
    obtain rfl := hx.str_inv
    obtain rfl := hy.str_inv
    have hg : (eqGuard op t ox oy (.string ⟨a.toArray⟩) (.string ⟨b.toArray⟩)).calm P w = some () := by
      unfold eqGuard; split <;> simp
    simp only [calm_bind, hg, Option.bind_some]
    cases op <;> simp only [aStr] at h
    case add =>
      obtain ⟨h1, h2⟩ := h
      have hs : ¬ (IntKind.i64.max < (a.length : Int) + (b.length : Int)) := by simp [IntKind.max, IntKind.bits, IntKind.signed]; omega
      refine ⟨_, .string ((⟨a.toArray⟩ : ByteArray) ++ ⟨b.toArray⟩), ?_, ?_, h2⟩
      · have hs' : ¬ (((ByteArray.mk a.toArray).size + (ByteArray.mk b.toArray).size : Nat) : Int) > IntKind.i64.max := by simp [ByteArray.size]; simpa using hs
        simp only [binOp, Op.stringOp, hs', if_false, calm_pure]
      · have : (⟨a.toArray⟩ : ByteArray) ++ ⟨b.toArray⟩ = ⟨(a ++ b).toArray⟩ := by
          apply ByteArray.ext; simp
        rw [this]; exact .str _
    case eql => exact ⟨_, .bool (decide (a = b)), by simp [binOp, Op.stringOp, beq_dec], .bool _, h⟩
    case neq => exact ⟨_, .bool (!decide (a = b)), by simp [binOp, Op.stringOp, beq_dec], .bool _, h⟩
  · exact h.elim

theorem beq_sound {op : BinOp} {t : TypeId} {ox oy : Operand} {a b : Bool} (ng : Bool) (hu : P.underlying t = some .bool) (hop : op = if ng = true then .neq else .eql) :
    (do eqGuard op t ox oy (.bool a) (.bool b); binOp op t (.bool a) (.bool b) : Sem Value).calm P w = some (.bool (if ng = true then a != b else a == b)) := by
  have hg : (eqGuard op t ox oy (.bool a) (.bool b)).calm P w = some () := by
    unfold eqGuard; split <;> simp
  have he : (Op.equal t (.bool a) (.bool b)).calm P w = some (a == b) := by
    unfold Op.equal Op.maxDepth Op.equalIn
    simp [calm_underlying hu]
  simp only [calm_bind, hg, Option.bind_some]
  cases ng <;> simp at hop <;> subst hop <;> simp [binOp, he, bne]

theorem aConv_sound {s t : TypeId} {d : TypeDesc} {k : IntKind} {x : PV} {u : Value} {K : PV → Prop} (hs : P.underlying s = some d) (ht : P.underlying t = some (.int k)) (hx : Rel φ ι x u) (h : aConv k x K) :
    ∃ c r, (convert s t u).calm P w = some r ∧ Rel φ ι c r ∧ K c := by
  unfold aConv at h
  split at h
  · rename_i j n
    obtain rfl := hx.int_inv
    exact ⟨_, .int k (k.wrap n), by simp [convert, calm_underlying hs, calm_underlying ht, Conv.intToInt], .int k (k.wrap n), aWrap_sound h⟩
  · exact h.elim

theorem intOf_inv {x : PV} {n : Int} {u : Value} (hx : Rel φ ι x u) (h : intOf? x = some n) : ∃ k, u = .int k n := by
  unfold intOf? at h
  split at h
  · simp at h; subst h; exact ⟨_, hx.int_inv⟩
  · cases h

/-! ### Addresses -/
theorem aAt_sound {p : PV} {f : Nat} {v : Value} {K : PV → Prop} (ho : HOK φ ι σ w) (hr : Rel φ ι p v) (h : aAt p f σ K) : ∃ b o c, v = .pointer (some ⟨b, o, none⟩) ∧ Rel φ ι c (.pointer (some ⟨b, o + f, none⟩)) ∧ K c := by
  unfold aAt at h
  split at h
  · rename_i id off
    obtain ⟨b, hb, rfl⟩ := hr.ptr_inv
    exact ⟨b, off, _, rfl, by rw [Nat.add_comm]; exact .ptr id _ b hb, h⟩
  · rename_i cs off
    cases hr with
    | fptr _ _ b o C hb hok g hg hR => exact ⟨b, o + off, _, rfl, by rw [show o + off + f = o + (f + off) by omega]; exact .fptr cs _ b o C hb hok g hg hR, h⟩
  · rename_i id ver i off
    split at h
    · rename_i vr e es xs hs
      obtain ⟨rfl, h⟩ := h
      obtain ⟨u, hu, _⟩ := arr_open ho hs
      cases hr with
      | eptr _ _ _ _ _ k e' s' u' h' ho' hk hv =>
        rw [hu] at h'; cases h'
        obtain ⟨b, m, cap, rfl, rfl⟩ := hv rfl
        exact ⟨b, _, _, rfl, .eptr id vr i (f + off) _ vr e es _ hu rfl (Nat.le_refl _) fun _ => ⟨b, m, cap, rfl, by rw [show i * es + off + f = i * es + (f + off) by omega]⟩, h⟩
    · exact h.elim
  · exact h.elim

theorem fieldA_sound {t : TypeId} {f : Nat} {fs : Array Field} {fd : Field} {n : Nat} {p : PV} {v : Value} {K : PV → Prop} (ho : HOK φ ι σ w) (hu : P.underlying t = some (.struct fs)) (hf : fs[f]? = some fd) (hn : szT P fd.type = some n) (hpos : n ≠ 0)
    (hr : Rel φ ι p v) (h : aAt p fd.offset σ K) : ∃ c r, (Instr.fieldAt t v f).calm P w = some r ∧ Rel φ ι c r ∧ K c := by
  obtain ⟨b, o, c, rfl, h1, h2⟩ := aAt_sound ho hr h
  refine ⟨c, _, ?_, h1, h2⟩
  simp only [Instr.fieldAt, calm_bind, calm_underlying hu, Option.bind_some, hf, Instr.sureAddr, calm_pure, fieldPlace, szT_calm hn, hpos, if_false, addr_add]

theorem idxA_sound {t e : TypeId} {len esz : Nat} {p : PV} {k : IntKind} {n : Int} {v : Value} {K : PV → Prop} (ho : HOK φ ι σ w) (hu : P.underlying t = some (.array len e)) (hn : szT P e = some esz) (hr : Rel φ ι p v) (h0 : 0 ≤ n) (h1 : n < len)
    (h : aAt p (n.toNat * esz) σ K) : ∃ c r, (Instr.indexAt t v (.int k n)).calm P w = some r ∧ Rel φ ι c r ∧ K c := by
  obtain ⟨b, o, c, rfl, h2, h3⟩ := aAt_sound ho hr h
  refine ⟨c, _, ?_, h2, h3⟩
  simp [Instr.indexAt, asIntOf, calm_underlying hu, Instr.sureAddr, h0, h1, szT_calm hn, addr_add]

theorem Rel.ref_cur {id ver off len : Nat} {v : Value} {e : TypeId} {esz : Nat} {u : Value} (hr : Rel φ ι (.ref id ver off len) v) (hu : ι[id]? = some (.arr ver e esz u)) :
    (∃ b n cap o, u = .slice (some ⟨b, 0, none⟩) n cap ∧ off + len ≤ cap ∧ v = .slice (some ⟨b, o, none⟩) len (cap - off) ∧ (off < cap → o = off * esz) ∧ (off = 0 → o = 0)) ∨ (u = .slice none 0 0 ∧ off = 0 ∧ len = 0 ∧ v = u) := by
  cases hr with
  | ref _ _ _ _ _ k e' s' u' h' ho' hk hv =>
    rw [hu] at h'; cases h'
    exact hv rfl

theorem idxS_sound {t e : TypeId} {esz : Nat} {x : PV} {k : IntKind} {n : Int} {v : Value} {K : PV → Prop} (ho : HOK φ ι σ w) (hu : P.underlying t = some (.slice e)) (hn : szT P e = some esz) (hr : Rel φ ι x v) (h : aIdxS esz x n σ K) :
    ∃ c r, (Instr.indexAt t v (.int k n)).calm P w = some r ∧ Rel φ ι c r ∧ K c := by
  have core : ∀ (b o len cap : Nat), v = .slice (some ⟨b, o, none⟩) len cap → 0 ≤ n → n < len → (Instr.indexAt t v (.int k n)).calm P w = some (.pointer (some ⟨b, o + n.toNat * esz, none⟩)) := by
    intro b o len cap hv h0 h1
    subst hv
    simp [Instr.indexAt, asIntOf, calm_underlying hu, h0, h1, szT_calm hn, addr_add]
  unfold aIdxS at h
  split at h
  · rename_i xs
    obtain ⟨⟨h0, h1⟩, h2⟩ := h
    have hx : xs[n.toNat]? = some (xs[n.toNat]'(by omega)) := List.getElem?_eq_getElem _
    obtain ⟨h3, h4⟩ := h2 _ hx
    cases hr with
    | list0 cap a => simp at h1; omega
    | listn => simp at h1; omega
    | list _ esz' b o len cap C hl hc hb hsz g hg hR =>
      obtain ⟨hs1, hs2⟩ := hsz _ _ hx
      rw [h3] at hs1; subst hs1
      refine ⟨_, _, core b o len cap rfl h0 (by omega), ?_, h4⟩
      exact .fptr _ 0 b (o + n.toNat * esz) C hb hs2 (g n.toNat) (fun j c hj => hg _ _ j c hx hj) (fun j c hj => hR _ _ j c hx hj)
  · rename_i id ver off len
    split at h
    · rename_i vr e' es xs hs
      obtain ⟨⟨rfl, rfl, h0, h1, h2⟩, h3⟩ := h
      obtain ⟨u, hu', hpos, ys, hown, _⟩ := arr_open ho hs
      rcases hr.ref_cur hu' with ⟨b, m, cap, o, rfl, hc, hv, ho1, _⟩ | ⟨rfl, rfl, rfl, rfl⟩
      · have hoo : o = off * es := ho1 (by omega)
        refine ⟨_, _, core b o len _ hv h0 h1, ?_, h3⟩
        refine .eptr id vr (n.toNat + off) 0 _ vr e' es _ hu' rfl (Nat.le_refl _) fun _ => ⟨b, m, cap, rfl, ?_⟩
        rw [hoo, Nat.add_mul]; congr 3; omega
      · simp at h1; omega
    · exact h.elim
  · rename_i id off len
    obtain ⟨⟨rfl, h0, h1⟩, h3⟩ := h
    cases hr with
    | bref _ _ _ b cap hb hc =>
      refine ⟨_, _, core b off len cap rfl h0 h1, ?_, h3⟩
      rw [show off + n.toNat * 1 = n.toNat + off by omega]
      exact .ptr id _ b hb
  · exact h.elim

/-! ### Parts of values -/
theorem part_sound {t : TypeId} {agg : Bool} {n off : Nat} {cs : List PV} {vs : List Value} {K : PV → Prop} (hg : isAggT P t = some agg) (hn : szT P t = some n) (hr : RelL φ ι cs vs) (hok : cs.all PV.ok = true) (h : ldC agg n cs off K) :
    ∃ c r, (part t vs.toArray off).calm P w = some r ∧ Rel φ ι c r ∧ K c := by
  unfold ldC at h
  cases agg with
  | true =>
    obtain ⟨hle, hK⟩ := h
    refine ⟨_, .agg (vs.toArray.extract off (off + n)), ?_, ?_, hK⟩
    · simp [part, isAggT_true hg, szT_calm hn]
    · have e1 : vs.toArray.extract off (off + n) = ((vs.drop off).take n).toArray := by
        simp [List.extract_eq_take_drop]
      rw [e1]
      have e2 : RelL φ ι (subC cs off n) ((vs.drop off).take n) := by
        unfold subC; split
        · rename_i e; obtain ⟨rfl, e3⟩ := e
          rw [List.drop_zero, List.take_of_length_le (by rw [← hr.1, e3]; exact Nat.le_refl _)]
          exact hr
        · exact (hr.drop off).take n
      refine .agg _ _ e2.1 ?_ e2.2
      rw [List.all_eq_true] at hok ⊢
      unfold subC; split
      · exact hok
      · exact fun x hx => hok x (List.mem_of_mem_drop (List.mem_of_mem_take hx))
  | false =>
    simp only [Bool.false_eq_true, if_false] at h
    obtain ⟨hle, hK⟩ := h
    obtain ⟨u, hu, hru⟩ := hr.get (List.getElem?_eq_getElem hle)
    refine ⟨_, u, ?_, hru, hK _ (List.getElem?_eq_getElem hle)⟩
    simp [part, isAggT_false hg, hu]

end Go.Kv
