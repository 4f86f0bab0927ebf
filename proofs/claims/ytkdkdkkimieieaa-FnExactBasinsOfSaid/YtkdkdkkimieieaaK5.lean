/- Reading and writing cells: the machine's loads and stores do what the abstract ones say. -/
import Derived.Test.YtkdkdkkimieieaaK4
namespace Go.Kv
set_option linter.unusedVariables false
set_option linter.unusedSimpArgs false

variable {P : Program} {φ : Frz} {ι : List KLoc} {σ : Heap} {w : World}

theorem addr_add (b o n : Nat) : (⟨b, o, none⟩ : Addr).add n = ⟨b, o + n, none⟩ := by unfold Addr.add; split <;> simp_all

/-- The cells from an address on hold these values. -/
def CellsAt (φ : Frz) (ι : List KLoc) (w : World) (b o : Nat) (cs : List PV) : Prop := cs.all PV.ok = true ∧ ∃ vs, RelL φ ι cs vs ∧ ∀ (j : Nat) (v : Value), vs[j]? = some v → w.cell? ⟨b, o + j, none⟩ = some v

theorem CellsAt.sub {b o : Nat} {cs : List PV} (h : CellsAt φ ι w b o cs) (off n : Nat) (hn : off + n ≤ cs.length) : CellsAt φ ι w b (o + off) (subC cs off n) := by
  obtain ⟨hok, vs, hr, hv⟩ := h
  unfold subC
  split
  · rename_i e; obtain ⟨rfl, _⟩ := e
    exact ⟨hok, vs, hr, by simpa using hv⟩
  · refine ⟨?_, (vs.drop off).take n, (hr.drop off).take n, fun j v hj => ?_⟩
    · rw [List.all_eq_true] at hok ⊢
      exact fun x hx => hok x (List.mem_of_mem_drop (List.mem_of_mem_take hx))
    · rw [List.getElem?_take] at hj
      split at hj
      · rw [List.getElem?_drop] at hj
        have := hv _ _ hj
        rwa [← Nat.add_assoc] at this
      · cases hj
theorem subC_length {cs : List PV} {off n : Nat} (hn : off + n ≤ cs.length) : (subC cs off n).length = n := by
  unfold subC; split
  · simp_all
  · simp; omega

theorem isAggT_true {t : TypeId} (h : isAggT P t = some true) (w : World) : (isAgg t).calm P w = some true := by
  unfold isAggT at h
  cases hu : P.underlying t with
  | none => simp [hu] at h
  | some d =>
    rw [hu] at h
    simp only [isAgg, calm_bind, calm_underlying hu, Option.bind_some]
    cases d <;> simp_all
theorem isAggT_false {t : TypeId} (h : isAggT P t = some false) (w : World) : (isAgg t).calm P w = some false := by
  unfold isAggT at h
  cases hu : P.underlying t with
  | none => simp [hu] at h
  | some d =>
    rw [hu] at h
    simp only [isAgg, calm_bind, calm_underlying hu, Option.bind_some]
    cases d <;> simp_all
theorem szT_calm {t : TypeId} {n : Nat} (h : szT P t = some n) (w : World) : (sizeOf t).calm P w = some n := by
  unfold szT at h
  cases hi : P.info? t with
  | none => simp [hi] at h
  | some i => simp [hi] at h; simp [sizeOf, typeInfo, hi, h]

theorem szT_run {t : TypeId} {n : Nat} (h : szT P t = some n) (w : World) : (sizeOf t).run P w = .ok n w := calm_ok (szT_calm h w)

theorem load_cells {t : TypeId} {agg : Bool} {n b o off : Nat} {cs : List PV} {K : PV → Prop} (hg : isAggT P t = some agg) (hn : szT P t = some n) (hc : CellsAt φ ι w b o cs) (hl : ldC agg n cs off K) :
    ∃ u c, (loadVar t ⟨b, o + off, none⟩).calm P w = some u ∧ Rel φ ι c u ∧ K c := by
  unfold ldC at hl
  cases agg with
  | true =>
    obtain ⟨hle, hK⟩ := hl
    have hs := hc.sub off n hle
    have hlen := subC_length hle
    obtain ⟨hok, vs, hr, hv⟩ := hs
    have hvl : vs.length = n := by rw [← hr.1, hlen]
    refine ⟨.agg vs.toArray, .agg (subC cs off n), ?_, .agg _ vs hr.1 hok hr.2, hK⟩
    have := calm_loadCells (P := P) (w := w) ⟨b, o + off, none⟩ vs (fun j v hj => by rw [addr_add]; exact hv j v hj)
    rw [hvl] at this
    simp only [loadVar, calm_bind, isAggT_true hg, Option.bind_some, if_true, szT_calm hn, this, calm_pure]
  | false =>
    simp only [Bool.false_eq_true, if_false] at hl
    obtain ⟨hle, hK⟩ := hl
    obtain ⟨hok, vs, hr, hv⟩ := hc
    obtain ⟨u, hu, hru⟩ := hr.get (List.getElem?_eq_getElem hle)
    refine ⟨u, cs[off], ?_, hru, hK _ (List.getElem?_eq_getElem hle)⟩
    simp [loadVar, isAggT_false hg, hv _ _ hu]

/-- The cells of an owned box, of an element, of what is frozen. -/
theorem box_cells (h : HOK φ ι σ w) {id b : Nat} {cs : List PV} (hl : ι[id]? = some (.box b)) (ho : σ[id]? = some (.box cs)) : CellsAt φ ι w b 0 cs := by
  have := h.obj _ _ _ ho hl
  simp only [ObjOK] at this
  obtain ⟨C, e, hC, hr, hok⟩ := this
  refine ⟨hok, C.toList, hr, fun j v hj => ?_⟩
  simp only [World.cell?, hC, Nat.zero_add]
  simpa using hj
theorem fptr_cells (h : HOK φ ι σ w) {cs : List PV} {off : Nat} {v : Value} (hr : Rel φ ι (.fptr cs off) v) : ∃ b o, v = .pointer (some ⟨b, o + off, none⟩) ∧ CellsAt φ ι w b o cs := by
  cases hr with
  | fptr _ _ b o C hb hok g hg hR =>
    have hget : ∀ (j : Nat) (v : Value), ((List.range cs.length).map g)[j]? = some v → j < cs.length ∧ v = g j := fun j v hv => by
      have hj : j < ((List.range cs.length).map g).length := (List.getElem?_eq_some_iff.1 hv).1
      have hj' : j < cs.length := by simpa using hj
      rw [List.getElem?_eq_getElem hj] at hv
      simp at hv
      exact ⟨hj', hv.symm⟩
    refine ⟨b, o, rfl, hok, (List.range cs.length).map g, ⟨by simp, fun i c v hc hv => ?_⟩, fun j v hv => ?_⟩
    · obtain ⟨_, rfl⟩ := hget i v hv; exact hR i c hc
    · obtain ⟨hj, rfl⟩ := hget j v hv
      obtain ⟨e, f, hh⟩ := h.fz b C hb
      simp only [World.cell?, hh]
      simpa using hg j _ (List.getElem?_eq_getElem hj)

theorem flat_get {esz : Nat} : ∀ {xs : List PV} (h : ∀ x ∈ xs, x.cs.length = esz) {i : Nat} {x : PV} (hx : xs[i]? = some x), ((flat xs).drop (i * esz)).take esz = x.cs
  | y :: ys, h, 0, x, hx => by
    simp at hx; subst hx
    have := h y (by simp)
    rw [flat_cons, Nat.zero_mul, List.drop_zero, ← this, List.take_left]
  | y :: ys, h, i + 1, x, hx => by
    have hy := h y (by simp)
    have ih := flat_get (xs := ys) (fun z hz => h z (by simp [hz])) (by simpa using hx)
    rw [flat_cons, Nat.succ_mul, Nat.add_comm, List.drop_append, hy]
    rw [List.drop_eq_nil_of_le (by omega), List.nil_append]
    rw [show esz + i * esz - esz = i * esz by omega]
    exact ih
theorem flat_length {esz : Nat} {xs : List PV} (h : ∀ x ∈ xs, x.cs.length = esz) : (flat xs).length = xs.length * esz := by
  induction xs with
  | nil => simp
  | cons y ys ih =>
    rw [flat_cons, List.length_append, h y (by simp), ih (fun z hz => h z (by simp [hz])), List.length_cons, Nat.succ_mul]; omega

/-- What an owned array is, opened. -/
theorem arr_open (h : HOK φ ι σ w) {id ver : Nat} {e : TypeId} {esz : Nat} {xs : List PV} (ho : σ[id]? = some (.arr ver e esz xs)) :
    ∃ u, ι[id]? = some (.arr ver e esz u) ∧ 0 < esz ∧ ∃ ys, w.ownsRow 0 e esz u xs.length ys ∧ RelL φ ι (flat xs) ys ∧ (flat xs).all PV.ok = true ∧ ∀ x ∈ xs, x.cs.length = esz := by
  have hid : id < ι.length := by rw [h.len]; exact (List.getElem?_eq_some_iff.1 ho).1
  have := h.obj _ _ _ ho (List.getElem?_eq_getElem hid)
  cases hl : ι[id] with
  | dead => rw [hl] at this; simp [ObjOK] at this
  | box b => rw [hl] at this; simp [ObjOK] at this
  | arr k e' s u =>
    rw [hl] at this
    simp only [ObjOK] at this
    obtain ⟨rfl, rfl, rfl, h2⟩ := this
    exact ⟨u, by rw [List.getElem?_eq_getElem hid, hl], h2⟩
theorem box_open (h : HOK φ ι σ w) {id : Nat} {cs : List PV} (ho : σ[id]? = some (.box cs)) : ∃ b, ι[id]? = some (.box b) ∧ ∃ C e, w.heap[b]? = some (.cells C e (0, 0)) ∧ RelL φ ι cs C.toList ∧ cs.all PV.ok = true := by
  have hid : id < ι.length := by rw [h.len]; exact (List.getElem?_eq_some_iff.1 ho).1
  have := h.obj _ _ _ ho (List.getElem?_eq_getElem hid)
  cases hl : ι[id] with
  | dead => rw [hl] at this; simp [ObjOK] at this
  | arr _ _ _ _ => rw [hl] at this; simp [ObjOK] at this
  | box b =>
    rw [hl] at this
    exact ⟨b, by rw [List.getElem?_eq_getElem hid, hl], this⟩

/-- The cells of an owned array from an element on. -/
theorem arr_cells {ver : Nat} {e : TypeId} {esz g n cap : Nat} {xs : List PV} {ys : List Value} (ho : w.ownsRow 0 e esz (.slice (some ⟨g, 0, none⟩) n cap) xs.length ys) (hr : RelL φ ι (flat xs) ys) (hok : (flat xs).all PV.ok = true) : CellsAt φ ι w g 0 (flat xs) := by
  refine ⟨hok, ys, hr, fun j v hj => ?_⟩
  have := ho.cells (g := g) rfl j v hj
  rwa [addr_add] at this

theorem elem_cells {esz g o : Nat} {xs : List PV} (hc : CellsAt φ ι w g o (flat xs)) (hs : ∀ x ∈ xs, x.cs.length = esz) {i : Nat} {x : PV} (hx : xs[i]? = some x) : CellsAt φ ι w g (o + i * esz) x.cs := by
  have hi := (List.getElem?_eq_some_iff.1 hx).1
  have hlen := flat_length hs
  have hle : i * esz + esz ≤ (flat xs).length := by
    rw [hlen, ← Nat.succ_mul]; exact Nat.mul_le_mul_right _ hi
  have h1 := hc.sub (i * esz) esz hle
  have h2 : subC (flat xs) (i * esz) esz = x.cs := by
    have := flat_get hs hx
    unfold subC
    split
    · rename_i e
      obtain ⟨e1, e2⟩ := e
      rw [e1, List.drop_zero, ← e2, List.take_length] at this
      exact this
    · exact this
  rwa [h2] at h1

theorem load_sound {t : TypeId} {agg : Bool} {n : Nat} {p : PV} {v : Value} {K : PV → Prop} (h : HOK φ ι σ w) (hg : isAggT P t = some agg) (hn : szT P t = some n) (hr : Rel φ ι p v) (hl : aLoad agg n p σ K) :
    ∃ u c, (Instr.loadAt t v).calm P w = some u ∧ Rel φ ι c u ∧ K c := by
  unfold aLoad at hl
  split at hl
  · rename_i id off
    split at hl
    · rename_i cs ho
      obtain ⟨b, hb, rfl⟩ := hr.ptr_inv
      have hc := box_cells h hb ho
      obtain ⟨u, c, h1, h2, h3⟩ := load_cells (P := P) (t := t) hg hn hc hl
      refine ⟨u, c, ?_, h2, h3⟩
      simpa [Instr.loadAt, Instr.sureAddr] using h1
    · exact hl.elim
  · rename_i cs off
    obtain ⟨b, o, rfl, hc⟩ := fptr_cells h hr
    obtain ⟨u, c, h1, h2, h3⟩ := load_cells (P := P) (t := t) hg hn hc hl
    exact ⟨u, c, by simpa [Instr.loadAt, Instr.sureAddr] using h1, h2, h3⟩
  · rename_i id ver i off
    split at hl
    · rename_i vr e es xs ho
      obtain ⟨rfl, hi, hl⟩ := hl
      obtain ⟨u, hu, hsz, ys, hown, hR, hok, hs⟩ := arr_open h ho
      cases hr with
      | eptr _ _ _ _ _ k e' s' u' h' ho' hk hv =>
        rw [hu] at h'
        cases h'
        obtain ⟨b, m, cap, rfl, rfl⟩ := hv rfl
        have hx := List.getElem?_eq_getElem hi
        have hc := elem_cells (arr_cells hown hR hok (ver := 0)) hs hx
        obtain ⟨u, c, h1, h2, h3⟩ := load_cells (P := P) (t := t) hg hn hc (hl _ hx)
        refine ⟨u, c, ?_, h2, h3⟩
        simp only [Nat.zero_add] at h1
        simpa [Instr.loadAt, Instr.sureAddr] using h1
    · exact hl.elim
  · exact hl.elim

/-! ### Stores -/
theorem oneCells {cs : List PV} {vs : List Value} (hr : RelL φ ι cs vs) (hok : cs.all PV.ok = true) : ∀ v ∈ vs, v.oneCell' = true := by
  intro v hv
  obtain ⟨i, hi⟩ := List.getElem?_of_mem hv
  have hlt := (List.getElem?_eq_some_iff.1 hi).1
  rw [← hr.1] at hlt
  have hc := List.getElem?_eq_getElem hlt
  refine (hr.2 i _ _ hc hi).oneCell ?_
  exact List.all_eq_true.1 hok _ (List.getElem_mem hlt)
theorem Rel.cells {c : PV} {v : Value} (h : Rel φ ι c v) (hok : c.cs.all PV.ok = true) : RelL φ ι c.cs v.cells.toList := by
  cases h with
  | agg cs vs hl hk h => exact ⟨by simpa [PV.cs, Value.cells] using hl, by simpa [PV.cs, Value.cells] using h⟩
  | undef v => simp [PV.cs, PV.ok] at hok
  | tup => simp [PV.cs, PV.ok] at hok
  | ref id ver off len v k e esz u h1 ho hk hv =>
    have : v.cells = #[v] := by cases v <;> simp [Value.oneCell'] at ho <;> rfl
    rw [this]
    exact .cons (.ref id ver off len v k e esz u h1 ho hk hv) (.nil _ _)
  | eptr id ver i off v k e esz u h1 ho hk hv =>
    have : v.cells = #[v] := by cases v <;> simp [Value.oneCell'] at ho <;> rfl
    rw [this]
    exact .cons (.eptr id ver i off v k e esz u h1 ho hk hv) (.nil _ _)
  | int k n => exact .cons (.int k n) (.nil _ _)
  | bool b => exact .cons (.bool b) (.nil _ _)
  | str s => exact .cons (.str s) (.nil _ _)
  | ptr id off b h => exact .cons (.ptr id off b h) (.nil _ _)
  | fptr cs off b o C hb hk g hg h => exact .cons (.fptr cs off b o C hb hk g hg h) (.nil _ _)
  | nilptr => exact .cons .nilptr (.nil _ _)
  | nils => exact .cons .nils (.nil _ _)
  | list0 cap a => exact .cons (.list0 cap a) (.nil _ _)
  | listn => exact .cons .listn (.nil _ _)
  | list xs esz b o len cap C hl hc hb hsz g hg h => exact .cons (.list xs esz b o len cap C hl hc hb hsz g hg h) (.nil _ _)
  | bref id off len b cap h hc => exact .cons (.bref id off len b cap h hc) (.nil _ _)
  | fn f a b u v ha hb h1 h2 => exact .cons (.fn f a b u v ha hb h1 h2) (.nil _ _)
  | nilf => exact .cons .nilf (.nil _ _)
  | nili => exact .cons .nili (.nil _ _)

theorem putC_rel {cs vs : List PV} {xs ys : List Value} (h : RelL φ ι cs xs) (h' : RelL φ ι vs ys) {off : Nat} (hle : off + vs.length ≤ cs.length) : RelL φ ι (putC cs off vs) (xs.take off ++ ys ++ xs.drop (off + ys.length)) := by
  have hl := h'.1
  unfold putC
  split
  · rename_i v
    obtain ⟨y, rfl⟩ : ∃ y, ys = [y] := by
      match ys, hl with
      | [y], _ => exact ⟨y, rfl⟩
    have hy : Rel φ ι v y := h'.2 0 v y rfl rfl
    have : xs.take off ++ [y] ++ xs.drop (off + [y].length) = xs.set off y := by
      have hlt : off < xs.length := by have := h.1; simp at hle; omega
      rw [List.set_eq_take_append_cons_drop, if_pos hlt]; simp
    rw [this]
    exact h.set hy off
  · split
    · rename_i e
      obtain ⟨rfl, e2⟩ := e
      have : xs.take 0 ++ ys ++ xs.drop (0 + ys.length) = ys := by
        have : xs.length ≤ 0 + ys.length := by rw [← h.1, ← hl]; omega
        simp only [Nat.zero_add] at this
        simp [this]
      rw [this]; exact h'
    · rw [hl]
      exact ((h.take off).append h').append (h.drop _)
theorem putC_length {cs vs : List PV} {off : Nat} (hle : off + vs.length ≤ cs.length) : (putC cs off vs).length = cs.length := by
  unfold putC; split
  · simp
  · split
    · simp_all
    · simp; omega
theorem putC_ok {cs vs : List PV} {off : Nat} (h : cs.all PV.ok = true) (h' : vs.all PV.ok = true) : (putC cs off vs).all PV.ok = true := by
  rw [List.all_eq_true] at *
  unfold putC; split
  · intro x hx
    rcases List.mem_or_eq_of_mem_set hx with h1 | rfl
    · exact h x h1
    · exact h' x (by simp)
  · split
    · exact h'
    · intro x hx
      simp only [List.mem_append] at hx
      rcases hx with (h1 | h1) | h1
      · exact h x (List.mem_of_mem_take h1)
      · exact h' x h1
      · exact h x (List.mem_of_mem_drop h1)

theorem setRow_other' (w : World) (g k : Nat) (c : Array Value) (hk : k ≠ g) : (w.setRow g c).heap[k]? = w.heap[k]? := setRow_other w g k c hk

theorem putE_cs {x y : PV} {off : Nat} (hle : off + y.cs.length ≤ x.cs.length) (hpos : 0 < y.cs.length) : (putE x off y).cs = putC x.cs off y.cs := by
  unfold putE
  split
  · rfl
  · rename_i hx
    have hcs : x.cs = [x] := by cases x <;> first | rfl | exact absurd rfl (hx _)
    rw [hcs] at hle ⊢
    simp at hle
    have h0 : off = 0 := by omega
    have h1 : y.cs.length = 1 := by omega
    match hy : y.cs, h1 with
    | [v], _ => simp [putC, h0]

theorem flat_set {esz : Nat} : ∀ {xs : List PV} (h : ∀ x ∈ xs, x.cs.length = esz) {i : Nat} {y : PV} (hi : i < xs.length), flat (xs.set i y) = (flat xs).take (i * esz) ++ y.cs ++ (flat xs).drop (i * esz + esz)
  | x :: xs, h, 0, y, _ => by
    have hx := h x (by simp)
    simp only [List.set_cons_zero, flat_cons, Nat.zero_mul, List.take_zero, List.nil_append, Nat.zero_add]
    rw [← hx, List.drop_left]
  | x :: xs, h, i + 1, y, hi => by
    have hx := h x (by simp)
    have ih := flat_set (xs := xs) (fun z hz => h z (by simp [hz])) (i := i) (y := y) (by simpa using hi)
    simp only [List.set_cons_succ, flat_cons, ih]
    have e1 : (x.cs ++ flat xs).take ((i + 1) * esz) = x.cs ++ (flat xs).take (i * esz) := by
      rw [Nat.succ_mul, List.take_append, hx, List.take_of_length_le (by omega), show i * esz + esz - esz = i * esz by omega]
    have e2 : (x.cs ++ flat xs).drop ((i + 1) * esz + esz) = (flat xs).drop (i * esz + esz) := by
      rw [Nat.succ_mul, List.drop_append, hx, List.drop_eq_nil_of_le (by omega), show i * esz + esz + esz - esz = i * esz + esz by omega, List.nil_append]
    rw [e1, e2]
    simp [List.append_assoc]

theorem splice {α : Type} (A X : List α) (p off n es L : Nat) (hX : X.length = n) (h1 : off + n ≤ es) (h2 : p + es ≤ L) (h3 : L ≤ A.length) :
    (A.take (p + off) ++ X ++ A.drop (p + off + n)).take L = (A.take L).take p ++ ((((A.take L).drop p).take es).take off ++ X ++ (((A.take L).drop p).take es).drop (off + n)) ++ (A.take L).drop (p + es) := by
  obtain ⟨A1, A2, rfl, ha⟩ : ∃ A1 A2, A = A1 ++ A2 ∧ A1.length = L := ⟨A.take L, A.drop L, (List.take_append_drop _ _).symm, by simp; omega⟩
  obtain ⟨B1, B2, rfl, hb⟩ : ∃ B1 B2, A1 = B1 ++ B2 ∧ B1.length = p := ⟨A1.take p, A1.drop p, (List.take_append_drop _ _).symm, by simp; omega⟩
  obtain ⟨C1, C2, rfl, hc⟩ : ∃ C1 C2, B2 = C1 ++ C2 ∧ C1.length = es := ⟨B2.take es, B2.drop es, (List.take_append_drop _ _).symm, by simp at ha ⊢; omega⟩
  obtain ⟨D1, D2, rfl, hd⟩ : ∃ D1 D2, C1 = D1 ++ D2 ∧ D1.length = off := ⟨C1.take off, C1.drop off, (List.take_append_drop _ _).symm, by simp; omega⟩
  obtain ⟨E1, E2, rfl, he⟩ : ∃ E1 E2, D2 = E1 ++ E2 ∧ E1.length = n := ⟨D2.take n, D2.drop n, (List.take_append_drop _ _).symm, by simp at hc ⊢; omega⟩
  subst hb hd he
  simp only [List.length_append] at hc ha
  have e1 : (B1 ++ (D1 ++ (E1 ++ E2) ++ C2) ++ A2).take L = B1 ++ (D1 ++ (E1 ++ E2) ++ C2) := by
    rw [← ha]
    have : B1.length + (D1.length + (E1.length + E2.length) + C2.length) = (B1 ++ (D1 ++ (E1 ++ E2) ++ C2)).length := by simp; omega
    rw [this, List.take_left]
  rw [e1]
  have e2 : (B1 ++ (D1 ++ (E1 ++ E2) ++ C2) ++ A2).take (B1.length + D1.length) = B1 ++ D1 := by
    have : B1.length + D1.length = (B1 ++ D1).length := by simp
    rw [this]; simp only [List.append_assoc]; rw [← List.append_assoc B1 D1, List.take_left]
  have e3 : (B1 ++ (D1 ++ (E1 ++ E2) ++ C2) ++ A2).drop (B1.length + D1.length + E1.length) = E2 ++ C2 ++ A2 := by
    have : B1.length + D1.length + E1.length = (B1 ++ D1 ++ E1).length := by simp; omega
    have h9 : B1 ++ (D1 ++ (E1 ++ E2) ++ C2) ++ A2 = (B1 ++ D1 ++ E1) ++ (E2 ++ C2 ++ A2) := by simp
    rw [this, h9, List.drop_left]
  rw [e2, e3]
  have e4 : (B1 ++ (D1 ++ (E1 ++ E2) ++ C2)).drop B1.length = D1 ++ (E1 ++ E2) ++ C2 := List.drop_left
  have e5 : (D1 ++ (E1 ++ E2) ++ C2).take es = D1 ++ (E1 ++ E2) := by
    rw [← hc]
    have : D1.length + (E1.length + E2.length) = (D1 ++ (E1 ++ E2)).length := by simp
    rw [this, List.take_left]
  have e6 : (D1 ++ (E1 ++ E2)).drop (D1.length + E1.length) = E2 := by
    have : D1.length + E1.length = (D1 ++ E1).length := by simp
    rw [this, ← List.append_assoc, List.drop_left]
  have e7 : (B1 ++ (D1 ++ (E1 ++ E2) ++ C2)).drop (B1.length + es) = C2 := by
    rw [← List.drop_drop, e4, ← hc]
    have : D1.length + (E1.length + E2.length) = (D1 ++ (E1 ++ E2)).length := by simp
    rw [this, List.drop_left]
  rw [e4, e5, e6, e7, List.take_left, List.take_left]
  rw [← ha]
  have : B1.length + (D1.length + (E1.length + E2.length) + C2.length) = (B1 ++ D1 ++ X ++ E2 ++ C2).length := by simp; omega
  rw [this]
  have : B1 ++ D1 ++ X ++ (E2 ++ C2 ++ A2) = (B1 ++ D1 ++ X ++ E2 ++ C2) ++ A2 := by simp
  rw [this, List.take_left]
  simp

theorem store_sound {t : TypeId} {n : Nat} {p y : PV} {v x : Value} {K : Heap → Prop} (h : HOK φ ι σ w) (hn : szT P t = some n) (hpos : 0 < n) (hr : Rel φ ι p v) (hy : Rel φ ι y x) (hs : aStore n p y σ K) :
    ∃ w' ι' σ', (Instr.storeAt t v x).run P w = .ok () w' ∧ HOK φ ι' σ' w' ∧ Tr σ.length φ ι w φ ι' w' ∧ K σ' := by
  unfold aStore at hs
  split at hs
  · rename_i id off
    split at hs
    · rename_i cs ho
      obtain ⟨⟨h1, h2, h3⟩, hK⟩ := hs
      obtain ⟨b, hb, rfl⟩ := hr.ptr_inv
      obtain ⟨b', hb', C, e, hC, hR, hok⟩ := box_open h ho
      rw [hb] at hb'; cases hb'
      have hyc := hy.cells h2
      have hlen : x.cells.toList.length = n := by rw [← hyc.1, h1]
      have hCl : cs.length = C.size := by simpa using hR.1
      have hone := oneCells hyc h2
      have hst := run_storeCells_at P b off e x.cells.toList 0 C w hC (by rw [hlen]; omega) hone
      simp only [Nat.add_zero] at hst
      have hrun : (Instr.storeAt t (.pointer (some ⟨b, off, none⟩)) x).run P w = .ok () (w.setRow b (C.toList.take off ++ x.cells.toList ++ C.toList.drop (off + x.cells.toList.length)).toArray) := by
        have : x.cells.size = n := by simpa using hlen
        simp only [Instr.storeAt, Instr.sureAddr, Sem.run_bind, Sem.run_pure, Result.andThen_ok, storeVar, szT_run hn, this]
        simpa using hst
      have hle : off + y.cs.length ≤ cs.length := by omega
      have hsame : ι.set id (KLoc.box b) = ι := by
        apply List.ext_getElem?; intro j
        by_cases e1 : id = j
        · subst e1; rw [List.getElem?_set_self (List.getElem?_eq_some_iff.1 hb).1, hb]
        · rw [List.getElem?_set_ne e1]
      have hOK : ObjOK φ (ι.set id (.box b)) (w.setRow b (C.toList.take off ++ x.cells.toList ++ C.toList.drop (off + x.cells.toList.length)).toArray) (.box (putC cs off y.cs)) (.box b) := by
        rw [hsame]
        exact ⟨_, e, setRow_heap w b C _ e (0, 0) hC, by simpa using putC_rel hR hyc hle, putC_ok hok h2⟩
      have hu := h.upd (w' := w.setRow b _) (o := .box (putC cs off y.cs)) hb (KLoc.le_refl _) (by simp) (fun k hk hk' => setRow_other w b k _ (fun e1 => hk' (by simp [KLoc.block, e1])))
        (fun k hk => .inl hk) (fun k hk => by simp [KLoc.block] at hk; subst hk; simpa using heap_lt hC) hOK
      refine ⟨_, _, _, hrun, hu.1, Tr.upd _ hb hu.2 (by simp) (fun k hk hk' => setRow_other w b k _ (fun e1 => hk' (by simp [KLoc.block, e1]))) (fun k hk => .inl hk) rfl rfl rfl, hK⟩
    · exact hs.elim
  · rename_i id ver i off
    split at hs
    · rename_i vr e es xs ho
      obtain ⟨⟨rfl, h1, h2, hi⟩, hs⟩ := hs
      have hx := List.getElem?_eq_getElem hi
      obtain ⟨hle, hK⟩ := hs _ hx
      obtain ⟨u, hu, hsz, ys, hown, hR, hok, hss⟩ := arr_open h ho
      cases hr with
      | eptr _ _ _ _ _ k e' s' u' h' ho' hk hv =>
        rw [hu] at h'
        cases h'
        obtain ⟨b, m, cap, rfl, rfl⟩ := hv rfl
        rcases hown.2 with ⟨hbad, _⟩ | ⟨g, cap', cur, hveq, hb0, hg, hnc, hcm, hcs, htake⟩
        · cases hbad
        · cases hveq
          have hyc := hy.cells h2
          have hlen : x.cells.toList.length = n := by rw [← hyc.1, h1]
          have hone := oneCells hyc h2
          have hxl : xs[i].cs.length = es := hss _ (List.getElem_mem hi)
          have hyl := hown.1
          have hbd : i * es + es ≤ xs.length * es := by rw [← Nat.succ_mul]; exact Nat.mul_le_mul_right _ hi
          have hcap : xs.length * es ≤ cur.size := by rw [hcs]; exact Nat.mul_le_mul_right _ hnc
          have hfit : i * es + off + n ≤ cur.size := by omega
          have hst := run_storeCells_at P b (i * es + off) e x.cells.toList 0 cur w hg (by rw [hlen]; omega) hone
          simp only [Nat.add_zero] at hst
          have hrun : (Instr.storeAt t (.pointer (some ⟨b, i * es + off, none⟩)) x).run P w = .ok () (w.setRow b (cur.toList.take (i * es + off) ++ x.cells.toList ++ cur.toList.drop (i * es + off + x.cells.toList.length)).toArray) := by
            have : x.cells.size = n := by simpa using hlen
            simp only [Instr.storeAt, Instr.sureAddr, Sem.run_bind, Sem.run_pure, Result.andThen_ok, storeVar, szT_run hn, this]
            simpa using hst
          have hle' : off + y.cs.length ≤ xs[i].cs.length := by omega
          have hpe : (putE xs[i] off y).cs = putC xs[i].cs off y.cs := putE_cs hle' (by omega)
          have hpl : (putE xs[i] off y).cs.length = es := by rw [hpe, putC_length hle', hxl]
          have hsame : ι.set id (KLoc.arr vr e es (.slice (some ⟨b, 0, none⟩) xs.length cap)) = ι := by
            apply List.ext_getElem?; intro j
            by_cases e1 : id = j
            · subst e1; rw [List.getElem?_set_self (List.getElem?_eq_some_iff.1 hu).1, hu]
            · rw [List.getElem?_set_ne e1]
          -- the new row
          have hcells : RelL φ ι xs[i].cs ((ys.drop (i * es)).take es) := by
            have h5 := (hR.drop (i * es)).take es
            rwa [flat_get hss hx] at h5
          have hpc := putC_rel hcells hyc hle'
          have hnew : RelL φ ι (flat (xs.set i (putE xs[i] off y))) (ys.take (i * es) ++ (((ys.drop (i * es)).take es).take off ++ x.cells.toList ++ ((ys.drop (i * es)).take es).drop (off + x.cells.toList.length)) ++ ys.drop (i * es + es)) := by
            rw [flat_set hss hi, hpe]
            exact ((hR.take _).append hpc).append (hR.drop _)
          have hnewlen : (ys.take (i * es) ++ (((ys.drop (i * es)).take es).take off ++ x.cells.toList ++ ((ys.drop (i * es)).take es).drop (off + x.cells.toList.length)) ++ ys.drop (i * es + es)).length = xs.length * es := by
            rw [← hnew.1, flat_length (esz := es)]
            · simp
            · intro z hz
              rcases List.mem_or_eq_of_mem_set hz with h6 | rfl
              · exact hss z h6
              · exact hpl
          have hlist : (cur.toList.take (i * es + off) ++ x.cells.toList ++ cur.toList.drop (i * es + off + x.cells.toList.length)).take (xs.length * es) =
              ys.take (i * es) ++ (((ys.drop (i * es)).take es).take off ++ x.cells.toList ++ ((ys.drop (i * es)).take es).drop (off + x.cells.toList.length)) ++ ys.drop (i * es + es) := by
            have hcl : cur.toList.length = cur.size := by simp
            have hyl2 : ys.length = xs.length * es := hyl
            rw [hlen, ← htake]
            exact splice _ _ _ _ _ _ _ hlen (by omega) hbd (by rw [hcl]; exact hcap)
          have hOK : ObjOK φ (ι.set id (.arr vr e es (.slice (some ⟨b, 0, none⟩) xs.length cap))) (w.setRow b (cur.toList.take (i * es + off) ++ x.cells.toList ++ cur.toList.drop (i * es + off + x.cells.toList.length)).toArray) (.arr vr e es (xs.set i (putE xs[i] off y))) (.arr vr e es (.slice (some ⟨b, 0, none⟩) xs.length cap)) := by
            rw [hsame]
            refine ⟨rfl, rfl, rfl, hsz, _, ⟨by rw [hnewlen]; simp, .inr ⟨b, cap, _, by simp, Nat.zero_le _, setRow_heap w b cur _ e (0, 0) hg, by simpa using hnc, hcm, ?_, ?_⟩⟩, hnew, ?_, ?_⟩
            · have hcl : cur.toList.length = cur.size := by simp
              simp only [List.size_toArray, List.length_append, List.length_take, List.length_drop, hlen, hcl]
              omega
            · simpa using hlist
            · rw [flat_set hss hi, hpe]
              rw [List.all_eq_true] at hok ⊢
              have hxok : xs[i].cs.all PV.ok = true := by
                rw [List.all_eq_true]
                intro z hz
                rw [← flat_get hss hx] at hz
                exact hok z (List.mem_of_mem_drop (List.mem_of_mem_take hz))
              have hpo := List.all_eq_true.1 (putC_ok (off := off) hxok h2)
              intro z hz
              simp only [List.mem_append] at hz
              rcases hz with (h6 | h6) | h6
              · exact hok z (List.mem_of_mem_take h6)
              · exact hpo z h6
              · exact hok z (List.mem_of_mem_drop h6)
            · intro z hz
              rcases List.mem_or_eq_of_mem_set hz with h6 | rfl
              · exact hss z h6
              · exact hpl
          have hup := h.upd (w' := w.setRow b _) (o := .arr vr e es (xs.set i (putE xs[i] off y))) hu (KLoc.le_refl _) (by simp) (fun k hk hk' => setRow_other w b k _ (fun e1 => hk' (by simp [KLoc.block, Value.ownBlock, e1])))
            (fun k hk => .inl hk) (fun k hk => by simp [KLoc.block, Value.ownBlock] at hk; subst hk; simpa using heap_lt hg) hOK
          exact ⟨_, _, _, hrun, hup.1, Tr.upd _ hu hup.2 (by simp) (fun k hk hk' => setRow_other w b k _ (fun e1 => hk' (by simp [KLoc.block, Value.ownBlock, e1]))) (fun k hk => .inl hk) rfl rfl rfl, hK⟩
    · exact hs.elim
  · exact hs.elim

end Go.Kv
