/- The abstract values, heaps and their relation to the machine's. A framework of this session's own: nothing here speaks of a program. -/
import Derived.Test.YtkdkdkkimieieaaK0
import Derived.Calls
import Derived.Laws.AppendOwn
import Derived.Laws.Cells
import Derived.Laws.Sem
import Derived.Laws.World
namespace Go.Kv

/-- Abstract values: what a temporary holds, told without addresses. -/
inductive PV where
  | undef
  | int (k : IntKind) (n : Int)
  | bool (b : Bool)
  | str (s : List UInt8)
  | agg (cs : List PV)
  | tup (vs : List PV)
  | ptr (id off : Nat)
  | fptr (cs : List PV) (off : Nat)
  | nilptr
  | nils
  | list (xs : List PV)
  | ref (id ver off len : Nat)
  | eptr (id ver i off : Nat)
  | bref (id off len : Nat)
  | fn (f : Fn) (first caps : List PV)
  | nilf
  | nili
  deriving Inhabited

def PV.cs : PV → List PV
  | .agg cs => cs
  | v => [v]
/-- A value that fits into one cell. -/
def PV.ok : PV → Bool
  | .undef | .agg _ | .tup _ => false
  | _ => true

inductive KLoc where
  | dead
  | box (b : Nat)
  | arr (ver : Nat) (e : TypeId) (esz : Nat) (v : Value)

def KLoc.block : KLoc → Option Nat
  | .dead => none
  | .box b => some b
  | .arr _ _ _ v => v.ownBlock

inductive AObj where
  | dead
  | box (cs : List PV)
  | arr (ver : Nat) (e : TypeId) (esz : Nat) (xs : List PV)

abbrev Heap := List AObj
abbrev Frz := Nat → Option (Array Value)

/-- How an abstract value stands for the machine's. -/
inductive Rel (φ : Frz) (ι : List KLoc) : PV → Value → Prop
  | undef (v : Value) : Rel φ ι .undef v
  | int (k : IntKind) (n : Int) : Rel φ ι (.int k n) (.int k n)
  | bool (b : Bool) : Rel φ ι (.bool b) (.bool b)
  | str (s : List UInt8) : Rel φ ι (.str s) (.string ⟨s.toArray⟩)
  | agg (cs : List PV) (vs : List Value) (hl : cs.length = vs.length) (hok : cs.all PV.ok = true)
      (h : ∀ (i : Nat) (c : PV) (v : Value), cs[i]? = some c → vs[i]? = some v → Rel φ ι c v) : Rel φ ι (.agg cs) (.agg vs.toArray)
  | tup (cs : List PV) (vs : List Value) (hl : cs.length = vs.length)
      (h : ∀ (i : Nat) (c : PV) (v : Value), cs[i]? = some c → vs[i]? = some v → Rel φ ι c v) : Rel φ ι (.tup cs) (.tuple vs.toArray)
  | ptr (id off b : Nat) (h : ι[id]? = some (.box b)) : Rel φ ι (.ptr id off) (.pointer (some ⟨b, off, none⟩))
  | fptr (cs : List PV) (off b o : Nat) (C : Array Value) (hb : φ b = some C) (hok : cs.all PV.ok = true) (g : Nat → Value)
      (hg : ∀ (j : Nat) (c : PV), cs[j]? = some c → C[o + j]? = some (g j)) (h : ∀ (j : Nat) (c : PV), cs[j]? = some c → Rel φ ι c (g j)) : Rel φ ι (.fptr cs off) (.pointer (some ⟨b, o + off, none⟩))
  | nilptr : Rel φ ι .nilptr (.pointer none)
  | nils : Rel φ ι .nils (.slice none 0 0)
  | list0 (cap : Nat) (a : Addr) : Rel φ ι (.list []) (.slice (some a) 0 cap)
  | listn : Rel φ ι (.list []) (.slice none 0 0)
  | list (xs : List PV) (esz b o len cap : Nat) (C : Array Value) (hl : xs.length = len) (hc : len ≤ cap) (hb : φ b = some C) (hsz : ∀ (i : Nat) (x : PV), xs[i]? = some x → x.cs.length = esz ∧ x.cs.all PV.ok = true) (g : Nat → Nat → Value)
      (hg : ∀ (i : Nat) (x : PV) (j : Nat) (c : PV), xs[i]? = some x → x.cs[j]? = some c → C[o + i * esz + j]? = some (g i j)) (h : ∀ (i : Nat) (x : PV) (j : Nat) (c : PV), xs[i]? = some x → x.cs[j]? = some c → Rel φ ι c (g i j)) : Rel φ ι (.list xs) (.slice (some ⟨b, o, none⟩) len cap)
  | ref (id ver off len : Nat) (v : Value) (k : Nat) (e : TypeId) (esz : Nat) (u : Value) (h : ι[id]? = some (.arr k e esz u)) (ho : v.oneCell' = true) (hk : ver ≤ k)
      (hv : ver = k → (∃ b n cap o, u = .slice (some ⟨b, 0, none⟩) n cap ∧ off + len ≤ cap ∧ v = .slice (some ⟨b, o, none⟩) len (cap - off) ∧ (off < cap → o = off * esz) ∧ (off = 0 → o = 0)) ∨ (u = .slice none 0 0 ∧ off = 0 ∧ len = 0 ∧ v = u)) : Rel φ ι (.ref id ver off len) v
  | eptr (id ver i off : Nat) (v : Value) (k : Nat) (e : TypeId) (esz : Nat) (u : Value) (h : ι[id]? = some (.arr k e esz u)) (ho : v.oneCell' = true) (hk : ver ≤ k)
      (hv : ver = k → ∃ b n cap, u = .slice (some ⟨b, 0, none⟩) n cap ∧ v = .pointer (some ⟨b, i * esz + off, none⟩)) : Rel φ ι (.eptr id ver i off) v
  | bref (id off len b cap : Nat) (h : ι[id]? = some (.box b)) (hc : len ≤ cap) : Rel φ ι (.bref id off len) (.slice (some ⟨b, off, none⟩) len cap)
  | fn (f : Fn) (a b : List PV) (u v : List Value) (ha : a.length = u.length) (hb : b.length = v.length)
      (h1 : ∀ (i : Nat) (c : PV) (x : Value), a[i]? = some c → u[i]? = some x → Rel φ ι c x) (h2 : ∀ (i : Nat) (c : PV) (x : Value), b[i]? = some c → v[i]? = some x → Rel φ ι c x) : Rel φ ι (.fn f a b) (.func f u.toArray v.toArray)
  | nilf : Rel φ ι .nilf .nilFunc
  | nili : Rel φ ι .nili .nilIface

/-- Lists of values. -/
def RelL (φ : Frz) (ι : List KLoc) (cs : List PV) (vs : List Value) : Prop := cs.length = vs.length ∧ ∀ (i : Nat) (c : PV) (v : Value), cs[i]? = some c → vs[i]? = some v → Rel φ ι c v

/-! ### Growing -/
def FLe (φ φ' : Frz) : Prop := ∀ b C, φ b = some C → φ' b = some C
def KLoc.le : KLoc → KLoc → Prop
  | .arr k e s u, .arr k' e' s' u' => (k = k' ∧ u = u' ∨ k < k') ∧ e = e' ∧ s = s'
  | a, b => a = b
def LLe (ι ι' : List KLoc) : Prop := ∀ (id : Nat) (l : KLoc), ι[id]? = some l → ∃ l' : KLoc, ι'[id]? = some l' ∧ KLoc.le l l'

theorem FLe.refl (φ : Frz) : FLe φ φ := fun _ _ h => h
theorem FLe.trans {a b c : Frz} (h : FLe a b) (h' : FLe b c) : FLe a c := fun _ _ x => h' _ _ (h _ _ x)
theorem KLoc.le_refl (l : KLoc) : l.le l := by cases l <;> simp [KLoc.le]
theorem KLoc.le_trans {a b c : KLoc} (h : a.le b) (h' : b.le c) : a.le c := by
  cases a with
  | dead => simp only [KLoc.le] at h; subst h; exact h'
  | box x => simp only [KLoc.le] at h; subst h; exact h'
  | arr k e s u =>
    cases b with
    | dead => simp [KLoc.le] at h
    | box x => simp [KLoc.le] at h
    | arr k' e' s' u' =>
      cases c with
      | dead => simp [KLoc.le] at h'
      | box x => simp [KLoc.le] at h'
      | arr k'' e'' s'' u'' =>
        obtain ⟨h1, rfl, rfl⟩ := h
        obtain ⟨h2, rfl, rfl⟩ := h'
        refine ⟨?_, rfl, rfl⟩
        rcases h1 with ⟨rfl, rfl⟩ | h1 <;> rcases h2 with ⟨rfl, rfl⟩ | h2
        · exact .inl ⟨rfl, rfl⟩
        · exact .inr h2
        · exact .inr h1
        · exact .inr (Nat.lt_trans h1 h2)
theorem LLe.refl (ι : List KLoc) : LLe ι ι := fun _ l h => ⟨l, h, l.le_refl⟩
theorem LLe.trans {a b c : List KLoc} (h : LLe a b) (h' : LLe b c) : LLe a c := fun id l x =>
  let ⟨l1, h1, e1⟩ := h id l x
  let ⟨l2, h2, e2⟩ := h' id l1 h1
  ⟨l2, h2, KLoc.le_trans e1 e2⟩
theorem LLe.append (ι : List KLoc) (l : List KLoc) : LLe ι (ι ++ l) := fun id x h => ⟨x, by rw [List.getElem?_append_left (List.getElem?_eq_some_iff.1 h).1]; exact h, x.le_refl⟩
theorem LLe.box {ι ι' : List KLoc} (h : LLe ι ι') {id b : Nat} (hb : ι[id]? = some (.box b)) : ι'[id]? = some (.box b) := by
  obtain ⟨l, h1, h2⟩ := h _ _ hb
  cases l <;> simp [KLoc.le] at h2
  subst h2; exact h1
theorem LLe.arr {ι ι' : List KLoc} (h : LLe ι ι') {id k : Nat} {e : TypeId} {s : Nat} {u : Value} (hb : ι[id]? = some (.arr k e s u)) :
    ∃ k' u', ι'[id]? = some (.arr k' e s u') ∧ (k = k' ∧ u = u' ∨ k < k') := by
  obtain ⟨l, h1, h2⟩ := h _ _ hb
  cases l <;> simp [KLoc.le] at h2
  obtain ⟨h3, rfl, rfl⟩ := h2
  exact ⟨_, _, h1, h3⟩
theorem LLe.take {ι : List KLoc} (n : Nat) {ι' : List KLoc} (h : LLe ι ι') : LLe (ι.take n) (ι'.take n) := fun id l x => by
  rw [List.getElem?_take] at x
  split at x
  · obtain ⟨l', h1, h2⟩ := h _ _ x
    exact ⟨l', by rw [List.getElem?_take, if_pos (by assumption)]; exact h1, h2⟩
  · cases x

theorem Rel.mono {φ φ' : Frz} {ι ι' : List KLoc} (hf : FLe φ φ') (hl : LLe ι ι') {c : PV} {v : Value} (h : Rel φ ι c v) : Rel φ' ι' c v := by
  induction h with
  | undef v => exact .undef v
  | int k n => exact .int k n
  | bool b => exact .bool b
  | str s => exact .str s
  | agg cs vs h1 h2 _ ih => exact .agg cs vs h1 h2 ih
  | tup cs vs h1 _ ih => exact .tup cs vs h1 ih
  | ptr id off b h => exact .ptr id off b (hl.box h)
  | fptr cs off b o C hb hok g hg _ ih => exact .fptr cs off b o C (hf _ _ hb) hok g hg ih
  | nilptr => exact .nilptr
  | nils => exact .nils
  | list0 cap a => exact .list0 cap a
  | listn => exact .listn
  | list xs esz b o len cap C h1 hc hb hsz g hg _ ih => exact .list xs esz b o len cap C h1 hc (hf _ _ hb) hsz g hg ih
  | ref id ver off len v k e esz u h ho hk hv =>
    obtain ⟨k', u', h', hh⟩ := hl.arr h
    refine .ref id ver off len v k' e esz u' h' ho (by omega) fun e1 => ?_
    rcases hh with ⟨e2, e3⟩ | h2
    · exact e3 ▸ hv (e1.trans e2.symm)
    · omega
  | eptr id ver i off v k e esz u h ho hk hv =>
    obtain ⟨k', u', h', hh⟩ := hl.arr h
    refine .eptr id ver i off v k' e esz u' h' ho (by omega) fun e1 => ?_
    rcases hh with ⟨e2, e3⟩ | h2
    · exact e3 ▸ hv (e1.trans e2.symm)
    · omega
  | bref id off len b cap h hc => exact .bref id off len b cap (hl.box h) hc
  | fn f a b u v h1 h2 _ _ ih1 ih2 => exact .fn f a b u v h1 h2 ih1 ih2
  | nilf => exact .nilf
  | nili => exact .nili

theorem RelL.mono {φ φ' : Frz} {ι ι' : List KLoc} (hf : FLe φ φ') (hl : LLe ι ι') {c : List PV} {v : List Value} (h : RelL φ ι c v) : RelL φ' ι' c v := ⟨h.1, fun i c v a b => (h.2 i c v a b).mono hf hl⟩
theorem RelL.nil (φ : Frz) (ι : List KLoc) : RelL φ ι [] [] := ⟨rfl, by simp⟩
theorem RelL.cons {φ : Frz} {ι : List KLoc} {c : PV} {v : Value} {cs : List PV} {vs : List Value} (h : Rel φ ι c v) (h' : RelL φ ι cs vs) : RelL φ ι (c :: cs) (v :: vs) := by
  refine ⟨by simp [h'.1], fun i a b ha hb => ?_⟩
  cases i with
  | zero => simp at ha hb; subst ha hb; exact h
  | succ i => simp at ha hb; exact h'.2 i a b ha hb
theorem RelL.append {φ : Frz} {ι : List KLoc} {cs ds : List PV} {vs us : List Value} (h : RelL φ ι cs vs) (h' : RelL φ ι ds us) : RelL φ ι (cs ++ ds) (vs ++ us) := by
  refine ⟨by simp [h.1, h'.1], fun i a b ha hb => ?_⟩
  rw [List.getElem?_append] at ha hb
  rw [← h.1] at hb
  by_cases hi : i < cs.length
  · rw [if_pos hi] at ha hb; exact h.2 _ _ _ ha hb
  · rw [if_neg hi] at ha hb; exact h'.2 _ _ _ ha hb
theorem RelL.get {φ : Frz} {ι : List KLoc} {cs : List PV} {vs : List Value} (h : RelL φ ι cs vs) {i : Nat} {c : PV} (hc : cs[i]? = some c) : ∃ v, vs[i]? = some v ∧ Rel φ ι c v := by
  have hi := (List.getElem?_eq_some_iff.1 hc).1
  rw [h.1] at hi
  exact ⟨vs[i], List.getElem?_eq_getElem hi, h.2 i c _ hc (List.getElem?_eq_getElem hi)⟩
theorem RelL.set {φ : Frz} {ι : List KLoc} {cs : List PV} {vs : List Value} (h : RelL φ ι cs vs) {c : PV} {v : Value} (hc : Rel φ ι c v) (i : Nat) : RelL φ ι (cs.set i c) (vs.set i v) := by
  refine ⟨by simp [h.1], fun j a b ha hb => ?_⟩
  rw [List.getElem?_set] at ha hb
  by_cases e : i = j
  · subst e
    rw [if_pos rfl] at ha hb
    split at ha <;> simp at ha
    split at hb <;> simp at hb
    subst ha hb; exact hc
  · rw [if_neg e] at ha hb; exact h.2 _ _ _ ha hb
theorem RelL.take {φ : Frz} {ι : List KLoc} {cs : List PV} {vs : List Value} (h : RelL φ ι cs vs) (n : Nat) : RelL φ ι (cs.take n) (vs.take n) := by
  refine ⟨by simp [h.1], fun i a b ha hb => ?_⟩
  rw [List.getElem?_take] at ha hb
  split at ha <;> simp_all
  exact h.2 _ _ _ ha hb
theorem RelL.drop {φ : Frz} {ι : List KLoc} {cs : List PV} {vs : List Value} (h : RelL φ ι cs vs) (n : Nat) : RelL φ ι (cs.drop n) (vs.drop n) := by
  refine ⟨by simp [h.1], fun i a b ha hb => ?_⟩
  rw [List.getElem?_drop] at ha hb
  exact h.2 _ _ _ ha hb

/-- One cell's value is no aggregate. -/
theorem Rel.oneCell {φ : Frz} {ι : List KLoc} {c : PV} {v : Value} (h : Rel φ ι c v) (hc : c.ok = true) : v.oneCell' = true := by
  cases h <;> first | rfl | assumption | (simp [PV.ok] at hc)

end Go.Kv
