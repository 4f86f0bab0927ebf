/- Every operation: the machine's does what the abstract one says. -/
import Derived.Test.YtkdkdkkimieieaaK7
namespace Go.Kv
set_option linter.unusedVariables false
set_option linter.unusedSimpArgs false

variable {P : Program} {φ : Frz} {ι : List KLoc} {σ : Heap} {w : World} {N : Nat} {env : Env} {a : Act}

theorem cvs_rel (φ : Frz) (ι : List KLoc) : ∀ {vs : List Value} {zs : List PV}, cvs vs = some zs → RelL φ ι zs vs
  | [], zs, h => by simp [cvs] at h; subst h; exact .nil _ _
  | v :: vs, zs, h => by
    simp only [cvs, List.mapM_cons, Option.bind_eq_bind, Option.pure_def, Option.bind_eq_some_iff, Option.some.injEq] at h
    obtain ⟨c, hc, cs, hcs, rfl⟩ := h
    exact .cons (cv_rel hc φ ι) (cvs_rel φ ι hcs)
theorem trXs_rel (he : EOK N φ ι env a) : ∀ {xs : List Operand} {ys : List KX}, xs.mapM trX = some ys → RelL φ ι (ys.map (kx env)) (xs.map a.eval)
  | [], ys, h => by simp at h; subst h; exact .nil _ _
  | x :: xs, ys, h => by
    simp only [List.mapM_cons, Option.bind_eq_bind, Option.pure_def, Option.bind_eq_some_iff, Option.some.injEq] at h
    obtain ⟨c, hc, cs, hcs, rfl⟩ := h
    exact .cons (trX_rel he hc) (trXs_rel he hcs)

/-- A row of one's own that was just laid. -/
theorem push_row (ho : HOK φ ι σ w) {e : TypeId} {esz n cap : Nat} {xs : List PV} {ys : List Value} {C : Array Value} (hpos : 0 < esz) (hn : xs.length = n) (hR : RelL φ ι (flat xs) ys) (hok : okL esz xs)
    (hown : (w.alloc (.cells C e)).ownsRow 0 e esz (.slice (some ⟨w.heap.size, 0, none⟩) n cap) n ys) (hc : n ≤ cap) :
    HOK φ (ι ++ [.arr 0 e esz (.slice (some ⟨w.heap.size, 0, none⟩) n cap)]) (σ ++ [.arr 0 e esz xs]) (w.alloc (.cells C e)) ∧
    Tr σ.length φ ι w φ (ι ++ [.arr 0 e esz (.slice (some ⟨w.heap.size, 0, none⟩) n cap)]) (w.alloc (.cells C e)) ∧
    Rel φ (ι ++ [.arr 0 e esz (.slice (some ⟨w.heap.size, 0, none⟩) n cap)]) (.ref σ.length 0 0 n) (.slice (some ⟨w.heap.size, 0, none⟩) n cap) := by
  have hk : ∀ b, b < w.heap.size → (w.alloc (.cells C e)).heap[b]? = w.heap[b]? := fun b hb => alloc_old w _ hb
  have hs : w.heap.size ≤ (w.alloc (.cells C e)).heap.size := by rw [alloc_size]; omega
  have hb : ∀ b, (KLoc.arr 0 e esz (.slice (some ⟨w.heap.size, 0, none⟩) n cap)).block = some b → w.heap.size ≤ b ∧ b < (w.alloc (.cells C e)).heap.size := fun b hb => by
    simp [KLoc.block, Value.ownBlock] at hb; subst hb; rw [alloc_size]; omega
  refine ⟨ho.push hk hs hb ⟨rfl, rfl, rfl, hpos, ys, by rw [hn]; exact hown, hR, okL_flat hok, okL_len hok⟩, Tr.push _ hk hs rfl rfl rfl (fun b h => (hb b h).1), ?_⟩
  exact .ref _ 0 0 n _ 0 e esz _ (by rw [← ho.len, List.getElem?_append_right (Nat.le_refl _)]; simp) rfl (Nat.le_refl _) (fun _ => .inl ⟨w.heap.size, n, cap, 0, rfl, by omega, by simp, fun _ => by simp, fun _ => rfl⟩)

theorem ownsRow_new (w : World) (C : Array Value) (e : TypeId) (esz n cap : Nat) (ys : List Value) (h1 : C.size = cap * esz) (h2 : C.toList.take (n * esz) = ys) (hc : n ≤ cap) (hm : cap ≤ maxLen) :
    (w.alloc (.cells C e)).ownsRow 0 e esz (.slice (some ⟨w.heap.size, 0, none⟩) n cap) n ys := by
  have hle : n * esz ≤ cap * esz := Nat.mul_le_mul_right _ hc
  refine ⟨by rw [← h2, List.length_take, Array.length_toList, h1]; omega, .inr ⟨_, cap, C, rfl, Nat.zero_le _, alloc_new w _, hc, hm, h1, h2⟩⟩

theorem mks_sound {t e : TypeId} {i : TypeInfo} {z : Value} {zs : List PV} {zp : PV} (ho : HOK φ ι σ w) (ht : P.underlying t = some (.slice e)) (hi : P.info? e = some i) (hz : i.zero = some z) (hzs : cvs z.cells.toList = some zs) (hl : i.size = zs.length) (hpos : i.size ≠ 0) (hb : ¬ 32768 < i.bytes)
    (hzp : zp.cs = zs) (hzok : zs.all PV.ok = true) {kl kc : IntKind} {n m : Int} (h0 : 0 ≤ n) (h1 : n ≤ m) (h2 : m ≤ 4294967296) :
    ∃ r w' ι', (Instr.makeSlice t (.int kl n) (.int kc m)).run P w = .ok r w' ∧ Rel φ ι' (.ref σ.length 0 0 n.toNat) r ∧ Tr σ.length φ ι w φ ι' w' ∧ HOK φ ι' (σ ++ [.arr 0 e i.size (List.replicate n.toNat zp)]) w' := by
  have hbytes : (i.bytes : Int) * m ≤ 281474976710656 := by
    have h3 : (i.bytes : Int) ≤ 32768 := by omega
    have := Int.mul_le_mul h3 h2 (by omega) (by omega)
    omega
  have hr := run_make (P := P) w t e i z ht hi hz kl kc n m h0 h1 hbytes (by omega)
  have hzR := cvs_rel φ ι hzs
  have hzl : z.cells.size = i.size := by rw [hl, hzR.1]; simp
  have hok : okL i.size (List.replicate n.toNat zp) := fun y hy => by
    rw [List.eq_of_mem_replicate hy, hzp]; exact ⟨hl.symm, hzok⟩
  have hnm : n.toNat ≤ m.toNat := by omega
  have hnl : n.toNat * i.size ≤ m.toNat * i.size := Nat.mul_le_mul_right _ hnm
  have hown := ownsRow_new w (madeCells z.cells (m.toNat * i.size)) e i.size n.toNat m.toNat _ (size_madeCells _ _) rfl hnm (by simp only [maxLen]; omega)
  have hRL : RelL φ ι (flat (List.replicate n.toNat zp)) ((madeCells z.cells (m.toNat * i.size)).toList.take (n.toNat * i.size)) := by
    refine ⟨?_, fun k c u hc hu => ?_⟩
    · rw [flat_length (okL_len hok), List.length_take, List.length_replicate, Array.length_toList (xs := madeCells z.cells (m.toNat * i.size)), size_madeCells]; omega
    · have hkl := (List.getElem?_eq_some_iff.1 hc).1
      rw [flat_length (okL_len hok), List.length_replicate] at hkl
      rw [List.getElem?_take, if_pos hkl] at hu
      have hu' : z.cells[k % z.cells.size]! = u := by
        have : k < m.toNat * i.size := by omega
        simp [madeCells, this] at hu
        exact hu
      rw [flat_idx (Nat.pos_of_ne_zero hpos) _ (okL_len hok)] at hc
      have hdl : k / i.size < n.toNat := (Nat.div_lt_iff_lt_mul (Nat.pos_of_ne_zero hpos)).2 hkl
      rw [List.getElem?_replicate, if_pos hdl] at hc
      simp only [Option.bind_some, hzp] at hc
      refine hzR.2 (k % i.size) c u hc ?_
      have hml : k % i.size < z.cells.size := by rw [hzl]; exact Nat.mod_lt _ (Nat.pos_of_ne_zero hpos)
      rw [← hu', hzl]
      rw [getElem!_pos z.cells (k % i.size) hml]
      simp [hml]
  obtain ⟨g1, g2, g3⟩ := push_row ho (Nat.pos_of_ne_zero hpos) (by simp) (xs := List.replicate n.toNat zp) hRL hok hown hnm
  exact ⟨_, _, _, hr, g3, g2, g1⟩

theorem flat_cells {esz : Nat} : ∀ {cs : List PV} {vs : List Value}, RelL φ ι cs vs → okL esz cs → RelL φ ι (flat cs) (vs.flatMap fun v => v.cells.toList) ∧ ∀ v ∈ vs, v.cells.size = esz
  | [], [], _, _ => ⟨.nil _ _, by simp⟩
  | [], _ :: _, h, _ => by have := h.1; simp at this
  | _ :: _, [], h, _ => by have := h.1; simp at this
  | c :: cs, v :: vs, h, hk => by
    have h0 : Rel φ ι c v := h.2 0 c v rfl rfl
    have hr : RelL φ ι cs vs := ⟨by have := h.1; simpa using this, fun i x y hx hy => h.2 (i + 1) x y (by simpa using hx) (by simpa using hy)⟩
    have ih := flat_cells hr (fun y hy => hk y (by simp [hy]))
    have hc := h0.cells (hk c (by simp)).2
    refine ⟨?_, fun u hu => ?_⟩
    · rw [flat_cons, List.flatMap_cons]; exact hc.append ih.1
    · rcases List.mem_cons.1 hu with rfl | hu
      · have := hc.1; rw [(hk c (by simp)).1] at this; simpa using this.symm
      · exact ih.2 u hu

theorem trPos_parts {n : Nat} {xs : List (Nat × Operand)} {ps : List KX} (he : EOK N φ ι env a) (h : trPos P n xs = some ps) :
    ps.length = n ∧ ∃ vs, RelL φ ι (ps.map (kx env)) vs ∧ xs.map (fun x => (x.1, a.eval x.2)) = (vs.zipIdx 0).map fun x => (x.2, x.1) := by
  unfold trPos at h
  split at h
  · rename_i hr
    have h' : (xs.map (·.2)).mapM trX = some ps := by
      rw [List.mapM_map]; exact h
    have hR := trXs_rel he h'
    have hl : xs.length = n := by have := congrArg List.length hr; simpa using this
    have hpl : ps.length = n := by
      have := hR.1; simp at this; omega
    refine ⟨hpl, _, hR, ?_⟩
    apply List.ext_getElem?
    intro j
    simp only [List.map_map, List.getElem?_map, List.getElem?_zipIdx, Option.map_map]
    cases hx : xs[j]? with
    | none => simp
    | some x =>
      simp
      have h1 : (xs.map (·.1))[j]? = some x.1 := by simp [hx]
      have hj : j < n := by rw [← hl]; exact (List.getElem?_eq_some_iff.1 hx).1
      rw [hr, List.getElem?_range hj] at h1
      simp at h1; omega
  · cases h

theorem bsl_cells {t e : TypeId} {n : Nat} {parts : Array (Nat × Operand)} {ps : List KX} {i : TypeInfo} {z : Value} (he : EOK N φ ι env a) (ht : P.underlying t = some (.slice e)) (hi : P.info? e = some i) (hz : i.zero = some z)
    (hps : trPos P n parts.toList = some ps) (hsmall : ¬ (n * i.size > 16777216 ∨ i.size = 0)) (hok : okL i.size (ps.map (kx env))) :
    ∃ C : Array Value, (Instr.buildSlice t n (parts.map fun x => (x.1, a.eval x.2))).run P w = .ok (.slice (some ⟨w.heap.size, 0, none⟩) n n) (w.alloc (.cells C e)) ∧ ps.length = n ∧ RelL φ ι (flat (ps.map (kx env))) C.toList ∧ C.size = n * i.size := by
  obtain ⟨hl, vs, hR, hparts⟩ := trPos_parts (φ := φ) (ι := ι) he hps
  have hfc := flat_cells hR hok
  have hvl : vs.length = n := by rw [← hR.1]; simpa using hl
  have hpos : 0 < i.size := by omega
  have hf := Great.fill_whole hpos vs ((Array.range (n * i.size)).map (z.cells[· % z.cells.size]!)) hfc.2 (by simp [hvl])
  rw [← hparts] at hf
  have hRl : (vs.flatMap fun v => v.cells.toList).length = n * i.size := by
    rw [← hfc.1.1, flat_length (okL_len hok)]; simp [hl]
  by_cases hn : n = 0
  · subst hn
    have hv0 : vs = [] := List.eq_nil_of_length_eq_zero hvl
    have hp0 : parts.toList = [] := by
      unfold trPos at hps
      split at hps
      · rename_i h1; simpa using h1
      · cases hps
    have hp1 : parts = #[] := by apply Array.ext'; simpa using hp0
    refine ⟨#[], ?_, hl, by simpa [hv0] using hfc.1, by simp⟩
    subst hp1
    simp [Instr.buildSlice, run_underlying ht, sizeOf, typeInfo, hi, Instr.fill, newRow, Array.range_zero']
    try rfl
  · refine ⟨_, run_buildSlice (P := P) w t e n _ _ i z ht hi hz (by omega) (by intro h; rcases Nat.mul_eq_zero.1 h with h | h <;> omega) (by rw [Array.toList_map]; exact hf), hl, by simpa using hfc.1, by simpa using hRl⟩

/-! ### Struct literals -/
theorem fold_put (off : Nat) (vs : List Value) (cs : Array Value) (h : off + vs.length ≤ cs.size) : ((vs.zipIdx 0).foldl (fun cs (x : Value × Nat) => cs.setIfInBounds (off + x.2) x.1) cs).toList = cs.toList.take off ++ vs ++ cs.toList.drop (off + vs.length) := by
  obtain ⟨h1, h2⟩ := Great.foldl_set off vs 0 cs
  apply List.ext_getElem?
  intro k
  have := h2 k
  rw [Array.getElem?_toList, this]
  simp only [Nat.add_zero]
  rw [List.getElem?_append, List.getElem?_append]
  have hcl : (cs.toList.take off).length = off := by simp; omega
  simp only [List.length_append, hcl]
  by_cases hA : k < off
  · rw [if_neg (by omega), if_pos (by omega), if_pos hA, List.getElem?_take, if_pos hA]; simp
  · by_cases hB : k < off + vs.length
    · rw [if_pos ⟨by omega, hB, by omega⟩, if_pos hB, if_neg hA]
    · rw [if_neg (by omega), if_neg hB, List.getElem?_drop]
      rw [show off + vs.length + (k - (off + vs.length)) = k by omega]; simp

theorem build_fill (he : EOK N φ ι env a) {pf pg : Nat → Option (Nat × Nat)} (hpf : ∀ i, pg i = pf i) : ∀ {parts : List (Nat × Operand)} {ps : List (Nat × Nat × KX)} {zs : List PV} {C : Array Value},
    trParts pf parts = some ps → RelL φ ι zs C.toList → zs.all PV.ok = true → buildOK env zs.length ps →
    ∃ C' : Array Value, Instr.fill pg C (parts.map fun x => (x.1, a.eval x.2)) = some C' ∧ RelL φ ι (buildC env zs ps) C'.toList ∧ (buildC env zs ps).all PV.ok = true
  | [], ps, zs, C, h, hR, hok, _ => by
    simp [trParts] at h; subst h
    exact ⟨C, by simp [Instr.fill], hR, hok⟩
  | (i, x) :: parts, ps, zs, C, h, hR, hok, hb => by
    simp only [trParts, List.mapM_cons, Option.bind_eq_bind, Option.pure_def, Option.bind_eq_some_iff, Option.some.injEq] at h
    obtain ⟨⟨off, sz, y''⟩, ⟨f, hf, y', hy, hq⟩, qs, hqs, rfl⟩ := h
    have hqs : trParts pf parts = some qs := hqs
    simp only [Prod.mk.injEq] at hq
    obtain ⟨e1, e2, e3⟩ := hq
    subst e1 e2 e3
    simp only [buildOK] at hb
    obtain ⟨⟨h1, h2, h3⟩, hb'⟩ := hb
    have hrx := (trX_rel he hy).cells h2
    have hvl : (a.eval x).cells.toList.length = f.2 := by rw [← hrx.1, h1]
    have hCl : C.size = zs.length := by have := hR.1; simpa using this.symm
    have hle : f.1 + (kx env y').cs.length ≤ zs.length := by omega
    have hput := putC_rel hR hrx hle
    have hfold := fold_put f.1 (a.eval x).cells.toList C (by rw [hvl, hCl]; omega)
    obtain ⟨C', g1, g2, g3⟩ := build_fill he hpf (zs := putC zs f.1 (kx env y').cs) (C := ((a.eval x).cells.toList.zipIdx 0).foldl (fun cs (x : Value × Nat) => cs.setIfInBounds (f.1 + x.2) x.1) C) hqs (by rw [hfold]; exact hput) (putC_ok hok h2) (by rw [putC_length hle]; exact hb')
    refine ⟨C', ?_, g2, g3⟩
    rw [List.map_cons]
    unfold Instr.fill
    have hpl : pg i = some (f.1, f.2) := by rw [hpf]; simpa using hf
    simp only [hpl]
    have hvs : (a.eval x).cells.size = f.2 := by simpa using hvl
    rw [if_neg (by simp [hvs]; omega)]
    rw [← g1]
    congr 1
    rw [← Array.foldl_toList, Array.toList_zipIdx]

/-! ### Cutting slices, lengths, greatest and least -/
theorem bound_run {k : IntKind} {n : Int} {y : Nat} {code : BoundsCode} (h0 : 0 ≤ n) (h1 : n ≤ y) : (Instr.sliceBound (.int k n) y code).calm P w = some n.toNat := by
  simp [Instr.sliceBound, asIntOf, h0, h1]

theorem sls_sound {t e : TypeId} {esz : Nat} {x : PV} {v : Value} {lo hi : Option KX} {lv hv : Option Value} {K : PV → Prop} (ho : HOK φ ι σ w) (ht : P.underlying t = some (.slice e)) (hn : szT P e = some esz) (hr : Rel φ ι x v)
    (hlo : match lo, lv with | none, none => True | some y, some u => ∃ k n, kx env y = .int k n ∧ u = .int k n | _, _ => False)
    (hhi : match hi, hv with | none, none => True | some y, some u => ∃ k n, kx env y = .int k n ∧ u = .int k n | _, _ => False)
    (h : aSls esz x (lo.bind fun y => intOf? (kx env y)) (hi.bind fun y => intOf? (kx env y)) σ K) :
    ∃ c r, (Instr.sliceAt t v lv hv none).calm P w = some r ∧ Rel φ ι c r ∧ K c := by
  have hat : ∀ (ad : Option Addr) (len cap : Nat) (l m : Int), v = .slice ad len cap → (lo.bind fun y => intOf? (kx env y)).getD 0 = l → (hi.bind fun y => intOf? (kx env y)).getD len = m → 0 ≤ l → l ≤ m → m ≤ cap →
      (Instr.sliceAt t v lv hv none).calm P w = some (.slice (if cap = l.toNat then ad else ad.map (·.add (l.toNat * esz))) (m.toNat - l.toNat) (cap - l.toNat)) := by
    intro ad len cap l m hv' hl hm h0 h1 h2
    subst hv'
    have hb : (Instr.sliceBounds true len cap lv hv none).calm P w = some (l.toNat, m.toNat, cap) := by
      cases lo <;> cases lv <;> simp only at hlo
      all_goals cases hi <;> cases hv <;> simp only at hhi
      · simp at hl hm; subst hl hm; simp [Instr.sliceBounds]
      · obtain ⟨k, n, e1, rfl⟩ := hhi
        simp [e1, intOf?] at hl hm; subst hl hm
        simp [Instr.sliceBounds, bound_run (P := P) (w := w) (show 0 ≤ n by omega) h2]
      · obtain ⟨k, n, e1, rfl⟩ := hlo
        simp [e1, intOf?] at hl hm; subst hl hm
        simp [Instr.sliceBounds, bound_run (P := P) (w := w) h0 h1]
      · obtain ⟨k, n, e1, rfl⟩ := hlo
        obtain ⟨k', n', e1', rfl⟩ := hhi
        simp [e1, e1', intOf?] at hl hm; subst hl hm
        have hh : n ≤ (n'.toNat : Int) := by omega
        simp [Instr.sliceBounds, bound_run (P := P) (w := w) (show 0 ≤ n' by omega) h2, bound_run (P := P) (w := w) h0 hh]
    simp [Instr.sliceAt, calm_underlying ht, Instr.slice, hb, szT_calm hn]
  unfold aSls at h
  split at h
  · obtain ⟨⟨h1, h2⟩, hK⟩ := h
    obtain rfl := hr.nils_inv
    have := hat none 0 0 0 0 rfl h1 (by simpa using h2) (by omega) (by omega) (by omega)
    exact ⟨.nils, _, this, by simpa using Rel.nils, hK⟩
  · rename_i xs
    obtain ⟨⟨h0, h1, h2⟩, hokl, hK⟩ := h
    obtain ⟨l, hl⟩ : ∃ l, (lo.bind fun y => intOf? (kx env y)).getD 0 = l := ⟨_, rfl⟩
    obtain ⟨m, hm⟩ : ∃ m, (hi.bind fun y => intOf? (kx env y)).getD (xs.length : Int) = m := ⟨_, rfl⟩
    rw [hl] at h0 h1 hK
    rw [hm] at h1 h2 hK
    cases hr with
    | list0 cap ad =>
      simp at h2 hm
      have := hat (some ad) 0 cap l m rfl hl (by simpa using hm) h0 h1 (by omega)
      refine ⟨_, _, this, ?_, hK⟩
      have e1 : m.toNat - l.toNat = 0 := by omega
      have e2 : l.toNat = 0 := by omega
      have e3 : (ad.add 0) = ad := by simp [Addr.add]
      rw [e1, e2]
      simp only [List.take_zero, Nat.zero_mul, Option.map_some, e3, ite_self]
      exact .list0 _ ad
    | listn =>
      simp at h2 hm
      have := hat none 0 0 l m rfl hl (by simpa using hm) h0 h1 (by omega)
      refine ⟨_, _, this, ?_, hK⟩
      have e1 : m.toNat - l.toNat = 0 := by omega
      have e2 : l.toNat = 0 := by omega
      rw [e1, e2]
      simp only [List.take_zero, Nat.zero_mul, Option.map_none, ite_self]
      exact .listn
    | list _ esz' b o len cap C hl' hc hb hsz g hg hR =>
      subst hl'
      have := hat (some ⟨b, o, none⟩) xs.length cap l m rfl hl hm h0 h1 (by omega)
      refine ⟨_, _, this, ?_, hK⟩
      by_cases hcl : cap = l.toNat
      · rw [if_pos hcl]
        have e1 : m.toNat - l.toNat = 0 := by omega
        rw [e1, List.take_zero]
        exact .list0 _ _
      · rw [if_neg hcl]
        simp only [Option.map_some, addr_add]
        by_cases hemp : xs = []
        · subst hemp
          simp at h2
          have e1 : m.toNat - l.toNat = 0 := by omega
          rw [e1, List.take_zero]
          exact .list0 _ _
        · obtain ⟨y0, hy0⟩ := List.exists_mem_of_ne_nil _ hemp
          obtain ⟨j0, hj0⟩ := List.getElem?_of_mem hy0
          have he0 : esz' = esz := by rw [← (hsz _ _ hj0).1, (hokl _ hy0).1]
          subst he0
          have hget : ∀ (i : Nat) (y : PV), ((xs.drop l.toNat).take (m.toNat - l.toNat))[i]? = some y → xs[l.toNat + i]? = some y := fun i y hy => by
            rw [List.getElem?_take] at hy
            split at hy
            · rwa [List.getElem?_drop] at hy
            · cases hy
          refine .list _ esz' b (o + l.toNat * esz') _ _ C (by simp; omega) (by omega) hb (fun i y hy => hsz _ y (hget i y hy)) (fun i j => g (l.toNat + i) j) (fun i y j c hy hc' => ?_) (fun i y j c hy hc' => hR _ _ _ _ (hget i y hy) hc')
          have := hg _ _ _ _ (hget i y hy) hc'
          rwa [show o + (l.toNat + i) * esz' + j = o + l.toNat * esz' + i * esz' + j by rw [Nat.add_mul]; omega] at this
  · rename_i id ver off len
    split at h
    · rename_i vr e' es xs hobj
      obtain ⟨⟨rfl, rfl, h0, h1, h2⟩, hK⟩ := h
      obtain ⟨u, hu, _⟩ := arr_open ho hobj
      obtain ⟨l, hl⟩ : ∃ l, (lo.bind fun y => intOf? (kx env y)).getD 0 = l := ⟨_, rfl⟩
      obtain ⟨m, hm⟩ : ∃ m, (hi.bind fun y => intOf? (kx env y)).getD (len : Int) = m := ⟨_, rfl⟩
      rw [hl] at h0 h1 hK
      rw [hm] at h1 h2 hK
      rcases hr.ref_cur hu with ⟨b, n, cap, o, rfl, hc, rfl, ho1, ho2⟩ | ⟨rfl, rfl, rfl, rfl⟩
      · have := hat (some ⟨b, o, none⟩) len (cap - off) l m rfl hl hm h0 h1 (by omega)
        refine ⟨_, _, this, ?_, hK⟩
        refine .ref id vr _ _ _ vr e' es _ hu (by split <;> rfl) (Nat.le_refl _) fun _ => .inl ⟨b, n, cap, if cap - off = l.toNat then o else o + l.toNat * es, rfl, by omega, ?_, ?_, ?_⟩
        · simp only [Option.map_some, addr_add]
          split <;> simp <;> omega
        · intro hlt
          rw [if_neg (by omega), ho1 (by omega), Nat.add_mul]
        · intro h00
          have : off = 0 := by omega
          have h01 : l.toNat = 0 := by omega
          rw [h01, Nat.zero_mul, Nat.add_zero, ite_self]
          exact ho2 this
      · have := hat none 0 0 l m rfl hl (by simpa using hm) h0 h1 (by omega)
        refine ⟨_, _, this, ?_, hK⟩
        have e1 : m.toNat - l.toNat = 0 := by omega
        have e2 : l.toNat = 0 := by omega
        rw [e1, e2]
        simp only [Option.map_none, ite_self]
        exact .ref id vr _ _ _ vr e' es _ hu rfl (Nat.le_refl _) fun _ => .inr ⟨rfl, rfl, rfl, rfl⟩
    · exact h.elim
  · exact h.elim

theorem len_sound {t e : TypeId} {x : PV} {v : Value} {ty : TypeId} {K : PV → Prop} (ho : HOK φ ι σ w) (ht : P.underlying t = some (.slice e)) (hr : Rel φ ι x v) (h : aLen x σ K) :
    ∃ c r, (Builtin.len_ #[t] ty #[v]).calm P w = some r ∧ Rel φ ι c r ∧ K c := by
  have hsl : ∀ (ad : Option Addr) (n cap : Nat), v = .slice ad n cap → (Builtin.len_ #[t] ty #[v]).calm P w = some (.int .i64 n) := by
    intro ad n cap hv; subst hv
    simp [Builtin.len_, calm_underlying ht, goInt]
  unfold aLen at h
  split at h
  · obtain rfl := hr.nils_inv
    exact ⟨_, _, hsl _ 0 _ rfl, .int _ _, h⟩
  · rename_i xs
    cases hr with
    | list0 cap ad => exact ⟨_, _, hsl _ 0 _ rfl, .int _ _, h⟩
    | listn => exact ⟨_, _, hsl _ 0 _ rfl, .int _ _, h⟩
    | list _ _ b o len cap C hl => exact ⟨_, _, hsl _ len _ rfl, .int _ _, hl ▸ h⟩
  · cases hr with
    | bref _ _ _ b cap => exact ⟨_, _, hsl _ _ _ rfl, .int _ _, h⟩
  · rename_i id ver off len
    split at h
    · rename_i vr e' es xs hobj
      obtain ⟨rfl, hK⟩ := h
      obtain ⟨u, hu, _⟩ := arr_open ho hobj
      rcases hr.ref_cur hu with ⟨b, n, cap, o, rfl, hc, rfl, _⟩ | ⟨rfl, rfl, rfl, rfl⟩
      · exact ⟨_, _, hsl _ len _ rfl, .int _ _, hK⟩
      · exact ⟨_, _, hsl _ 0 _ rfl, .int _ _, hK⟩
    · exact h.elim
  · exact h.elim

theorem len_str {t : TypeId} {ty : TypeId} (s : List UInt8) (ht : P.underlying t = some .string) : (Builtin.len_ #[t] ty #[.string ⟨s.toArray⟩]).calm P w = some (.int .i64 s.length) := by
  have hz : (ByteArray.mk s.toArray).size = s.length := by show s.toArray.size = _; simp
  simp [Builtin.len_, calm_underlying ht, goInt, hz]

theorem mnmx_sound (isMax : Bool) : ∀ {xs : List PV} {vs : List Value} {x : PV} {v : Value} {K : PV → Prop}, Rel φ ι x v → RelL φ ι xs vs → mnmxV isMax x xs K →
    ∃ c r, (vs.foldlM (fun p q => if isMax = true then Builtin.max2 p q else Builtin.min2 p q) v : Sem Value).calm P w = some r ∧ Rel φ ι c r ∧ K c
  | [], [], x, v, K, hx, _, h => ⟨x, v, by simp, hx, by simpa [mnmxV] using h⟩
  | [], _ :: _, _, _, _, _, hR, _ => by have := hR.1; simp at this
  | _ :: _, [], _, _, _, _, hR, _ => by have := hR.1; simp at this
  | y :: xs, u :: vs, x, v, K, hx, hR, h => by
    have hR' : RelL φ ι xs vs := ⟨by have := hR.1; simpa using this, fun i p q hp hq => hR.2 (i + 1) p q (by simpa using hp) (by simpa using hq)⟩
    have hy : Rel φ ι y u := hR.2 0 y u rfl rfl
    cases x with
    | int k m =>
      cases y with
      | int k' b =>
        obtain rfl := hx.int_inv
        obtain rfl := hy.int_inv
        simp only [mnmxV] at h
        obtain ⟨c, rr, g1, g2, g3⟩ := mnmx_sound isMax (x := .int k (if isMax = true then max m b else min m b)) (v := .int k (if isMax = true then max m b else min m b)) (.int _ _) hR' h
        refine ⟨c, rr, ?_, g2, g3⟩
        rw [List.foldlM_cons]
        cases isMax
        · have : (Builtin.min2 (.int k m) (.int k' b)).calm P w = some (.int k (min m b)) := by
            simp only [Builtin.min2, calm_pure]
            have : (if b < m then b else m) = min m b := by omega
            rw [this]
          simpa [this] using g1
        · have : (Builtin.max2 (.int k m) (.int k' b)).calm P w = some (.int k (max m b)) := by
            simp only [Builtin.max2, calm_pure]
            have : (if b > m then b else m) = max m b := by omega
            rw [this]
          simpa [this] using g1
      | _ => simp [mnmxV] at h
    | _ => simp [mnmxV] at h

end Go.Kv
