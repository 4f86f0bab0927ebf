/- Slices: what is appended, made, cut; literals of slices and structs. -/
import Derived.Test.YtkdkdkkimieieaaK6b
namespace Go.Kv
set_option linter.unusedVariables false
set_option linter.unusedSimpArgs false

variable {P : Program} {φ : Frz} {ι : List KLoc} {σ : Heap} {w : World}

theorem flat_idx {s : Nat} (hs : 0 < s) : ∀ (xs : List PV), (∀ x ∈ xs, x.cs.length = s) → ∀ k, (flat xs)[k]? = (xs[k / s]?).bind (fun x => x.cs[k % s]?)
  | [], _, k => by simp
  | x :: xs, hx, k => by
    have hxs : x.cs.length = s := hx x List.mem_cons_self
    rw [flat_cons]
    by_cases hk : k < s
    · rw [List.getElem?_append_left (by omega), Nat.div_eq_of_lt hk, Nat.mod_eq_of_lt hk]
      simp
    · have h1 : k / s = (k - s) / s + 1 := by
        have := Nat.sub_add_cancel (Nat.le_of_not_lt hk)
        conv => lhs; rw [← this]
        rw [Nat.add_div_right _ hs]
      have h2 : k % s = (k - s) % s := by
        have := Nat.sub_add_cancel (Nat.le_of_not_lt hk)
        conv => lhs; rw [← this]
        rw [Nat.add_mod_right]
      rw [List.getElem?_append_right (by omega), hxs, flat_idx hs xs (fun u hu => hx u (List.mem_cons_of_mem _ hu)) (k - s), h1, h2, List.getElem?_cons_succ]
theorem flat_drop {s : Nat} : ∀ (xs : List PV), (∀ x ∈ xs, x.cs.length = s) → ∀ k, flat (xs.drop k) = (flat xs).drop (k * s)
  | xs, _, 0 => by simp
  | [], _, k + 1 => by simp
  | x :: xs, h, k + 1 => by
    have hx := h x (by simp)
    have e1 : (x.cs ++ flat xs).drop ((k + 1) * s) = (flat xs).drop (k * s) := by
      have e2 : x.cs.drop (k * s + s) = [] := List.drop_eq_nil_of_le (by omega)
      rw [Nat.succ_mul, List.drop_append, hx, e2, show k * s + s - s = k * s by omega, List.nil_append]
    rw [List.drop_succ_cons, flat_drop xs (fun y hy => h y (by simp [hy])) k, flat_cons, e1]
theorem flat_take {s : Nat} : ∀ (xs : List PV), (∀ x ∈ xs, x.cs.length = s) → ∀ k, flat (xs.take k) = (flat xs).take (k * s)
  | xs, _, 0 => by simp
  | [], _, k + 1 => by simp
  | x :: xs, h, k + 1 => by
    have hx := h x (by simp)
    have e1 : (x.cs ++ flat xs).take ((k + 1) * s) = x.cs ++ (flat xs).take (k * s) := by
      have e2 : x.cs.take (k * s + s) = x.cs := List.take_of_length_le (by omega)
      rw [Nat.succ_mul, List.take_append, hx, e2, show k * s + s - s = k * s by omega]
    rw [List.take_succ_cons, flat_cons, flat_take xs (fun y hy => h y (by simp [hy])) k, flat_cons, e1]

theorem okL_len {esz : Nat} {ys : List PV} (h : okL esz ys) : ∀ y ∈ ys, y.cs.length = esz := fun y hy => (h y hy).1
theorem okL_flat {esz : Nat} {ys : List PV} (h : okL esz ys) : (flat ys).all PV.ok = true := by
  rw [List.all_eq_true]
  intro c hc
  simp only [flat, List.mem_flatMap] at hc
  obtain ⟨y, hy, hc⟩ := hc
  exact List.all_eq_true.1 (h y hy).2 c hc

/-- The cells of a list that nobody writes. -/
theorem list_cells (ho : HOK φ ι σ w) {esz : Nat} (hpos : 0 < esz) {ys : List PV} (hk : okL esz ys) {v : Value} (hr : Rel φ ι (.list ys) v) :
    (v = .slice none 0 0 ∧ ys = []) ∨ ∃ a cap, v = .slice (some a) ys.length cap ∧ (ys = [] ∨ a.spot = none) ∧ CellsAt φ ι w a.block a.off (flat ys) := by
  cases hr with
  | list0 cap a => exact .inr ⟨a, cap, rfl, .inl rfl, by simp, [], .nil _ _, by simp⟩
  | listn => exact .inl ⟨rfl, rfl⟩
  | list _ esz' b o len cap C hl hc hb hsz g hg hR =>
    refine .inr ⟨⟨b, o, none⟩, cap, by rw [hl], .inr rfl, okL_flat hk, (List.range (ys.length * esz)).map (fun k => g (k / esz) (k % esz)), ?_, ?_⟩
    · refine ⟨by simp [flat_length (okL_len hk)], fun k c u hc hu => ?_⟩
      have hkl := (List.getElem?_eq_some_iff.1 hc).1
      rw [flat_length (okL_len hk)] at hkl
      rw [List.getElem?_map, List.getElem?_range hkl] at hu
      simp at hu; subst hu
      rw [flat_idx hpos ys (okL_len hk)] at hc
      cases hx : ys[k / esz]? with
      | none => rw [hx] at hc; cases hc
      | some x => rw [hx] at hc; exact hR _ _ _ _ hx hc
    · intro k u hu
      have hkl : k < ys.length * esz := by simpa using (List.getElem?_eq_some_iff.1 hu).1
      rw [List.getElem?_map, List.getElem?_range hkl] at hu
      simp at hu; subst hu
      have hdl : k / esz < ys.length := (Nat.div_lt_iff_lt_mul hpos).2 hkl
      have hx := List.getElem?_eq_getElem hdl
      have hxl := okL_len hk _ (List.getElem_mem hdl)
      have hml : k % esz < (ys[k / esz]).cs.length := by rw [hxl]; exact Nat.mod_lt _ hpos
      have hcell := hg _ _ _ _ hx (List.getElem?_eq_getElem hml)
      have he := (hsz _ _ hx).1
      rw [hxl] at he; subst he
      obtain ⟨e, f, hh⟩ := ho.fz b C hb
      simp only [World.cell?, hh]
      have hd : o + k / esz * esz + k % esz = o + k := by
        have := Nat.div_add_mod k esz
        rw [Nat.mul_comm] at this; omega
      rw [hd] at hcell
      simpa using hcell

theorem aNews_sound (ho : HOK φ ι σ w) {esz : Nat} (hpos : 0 < esz) {x : PV} {v : Value} (hr : Rel φ ι x v) {K : List PV → Prop} (h : aNews esz x σ K) :
    ∃ ns, K ns ∧ okL esz ns ∧ ((v = .slice none 0 0 ∧ ns = []) ∨ ∃ a cap, v = .slice (some a) ns.length cap ∧ (ns = [] ∨ a.spot = none) ∧ CellsAt φ ι w a.block a.off (flat ns)) := by
  unfold aNews at h
  split at h
  · exact ⟨[], h, fun _ hy => by simp at hy, .inl ⟨hr.nils_inv, rfl⟩⟩
  · rename_i ys
    exact ⟨ys, h.2, h.1, list_cells ho hpos h.1 hr⟩
  · rename_i id ver off len
    split at h
    · rename_i vr e es ys hs
      obtain ⟨⟨rfl, rfl, hle⟩, hK⟩ := h
      obtain ⟨u, hu, _, vs, hown, hR, hok, hss⟩ := arr_open ho hs
      have hkl : okL es ((ys.drop off).take len) := fun y hy => by
        have hy' : y ∈ ys := List.mem_of_mem_drop (List.mem_of_mem_take hy)
        refine ⟨hss y hy', ?_⟩
        rw [List.all_eq_true] at hok ⊢
        exact fun c hc => hok c (List.mem_flatMap.2 ⟨y, hy', hc⟩)
      have hlen : ((ys.drop off).take len).length = len := by simp; omega
      refine ⟨_, hK, hkl, ?_⟩
      rcases hr.ref_cur hu with ⟨b, m, cap, o, rfl, hc, rfl, h1, h2⟩ | ⟨rfl, rfl, rfl, rfl⟩
      · refine .inr ⟨⟨b, o, none⟩, cap - off, by rw [hlen], .inr rfl, ?_⟩
        by_cases h0 : len = 0
        · subst h0; exact ⟨by simp, [], by simpa using RelL.nil _ _, by simp⟩
        · have := (arr_cells hown hR hok (ver := 0)).sub (off * es) (len * es) (by rw [flat_length hss, ← Nat.add_mul]; exact Nat.mul_le_mul_right _ hle)
          rw [h1 (by omega)]
          rw [flat_take (s := es) _ (fun y hy => hss y (List.mem_of_mem_drop hy)), flat_drop (s := es) _ hss]
          simp only [Nat.zero_add] at this
          unfold subC at this
          split at this
          · rename_i e1
            obtain ⟨e1, e2⟩ := e1
            rw [e1, List.drop_zero, ← e2, List.take_length]
            rw [e1] at this
            exact this
          · exact this
      · exact .inl ⟨rfl, by simp⟩
    · exact h.elim
  · exact h.elim

/-- The machine's append, with where its row may lie. -/
theorem run_app (t ty e : TypeId) (i : TypeInfo) (z : Value) (ht : P.underlying t = some (.slice e)) (hi : P.info? e = some i) (hz : i.zero = some z)
    (hzs : z.cells.size = i.size) (hsz : 0 < i.size)
    (v : Value) (n : Nat) (xs : List Value) (hown : w.ownsRow 0 e i.size v n xs)
    (a : Addr) (m c : Nat) (news : List Value) (hl : news.length = m * i.size) (hnews : ∀ j u, news[j]? = some u → w.cell? (a.add j) = some u) (h1 : ∀ u ∈ news, u.oneCell' = true)
    (h63 : n + m ≤ maxLen) (hbytes : (n + m) * i.bytes ≤ 140737488355328) :
    ∃ v' w', (Builtin.append_ #[t, t] ty #[v, .slice (some a) m c]).run P w = .ok v' w' ∧ w'.ownsRow 0 e i.size v' (n + m) (xs ++ news) ∧ w.grownBy w' v.ownBlock ∧
      (∀ b, v'.ownBlock = some b → v.ownBlock = some b ∨ w.heap.size ≤ b) := by
  rcases hown.2 with ⟨rfl, rfl⟩ | ⟨g, cap, cur, rfl, hbg, hg, hnc, hcm, hcs, htake⟩
  · have hx : xs = [] := List.eq_nil_of_length_eq_zero (by simpa using hown.1)
    subst hx
    obtain ⟨v', w', h2, h3, h4, _⟩ := run_append_own (P := P) w w.heap.size t ty e i z i.size i.bytes ht hi hz rfl rfl hzs hsz (.slice none 0 0) 0 [] (World.ownsRow_nil w _ e i.size) a m c news hl hnews h1 h63 hbytes (Nat.le_refl _)
    refine ⟨v', w', h2, ⟨h3.1, ?_⟩, h4, fun b hb => .inr (h3.lt b hb).1⟩
    rcases h3.2 with h5 | ⟨g, cap, cur, h5, _, h6⟩
    · exact .inl h5
    · exact .inr ⟨g, cap, cur, h5, Nat.zero_le _, h6⟩
  · have hsmall : n + m ≤ 9223372036854775807 := by simp only [maxLen] at h63; omega
    by_cases hroom : n + m ≤ cap
    · obtain ⟨v', w', h2, h3, h4, _⟩ := run_append_own (P := P) w 0 t ty e i z i.size i.bytes ht hi hz rfl rfl hzs hsz _ n xs hown a m c news hl hnews h1 h63 hbytes (Nat.zero_le _)
      have hfit : n * i.size + news.length ≤ cur.size := by rw [hl, hcs, ← Nat.add_mul]; exact Nat.mul_le_mul_right _ hroom
      have hr := run_append_room (P := P) w t ty e i ht hi g n cap cur hg a m c news hl hnews h1 hroom hfit
      rw [hr] at h2
      cases h2
      exact ⟨_, _, hr, h3, h4, fun b hb => .inl hb⟩
    · obtain ⟨v', w', h2, h3, h4, _⟩ := run_append_own (P := P) w 0 t ty e i z i.size i.bytes ht hi hz rfl rfl hzs hsz _ n xs hown a m c news hl hnews h1 h63 hbytes (Nat.zero_le _)
      have holds : ∀ j u, xs[j]? = some u → w.cell? ((⟨g, 0, none⟩ : Addr).add j) = some u := hown.cells (g := g) rfl
      have hr := run_append_grow (P := P) w t ty e i z ht hi hz ⟨g, 0, none⟩ n cap xs hown.1 holds a m c news hl hnews (by omega) (by omega) (growslice_fits (by omega) hbytes)
      rw [hr] at h2
      cases h2
      exact ⟨_, _, hr, h3, h4, fun b hb => .inr (by simp [Value.ownBlock] at hb; omega)⟩

theorem grownBy_keep {w' : World} (h : w.grownBy w' none) : ∀ b, b < w.heap.size → w'.heap[b]? = w.heap[b]? := fun b hb => h.block b hb (by simp)

theorem ownsRow_cut {e : TypeId} {size n m : Nat} {g cap c : Nat} {xs : List Value} (hown : w.ownsRow 0 e size (.slice (some ⟨g, 0, none⟩) c cap) n xs) (hm : m ≤ n) : w.ownsRow 0 e size (.slice (some ⟨g, 0, none⟩) m cap) m (xs.take (m * size)) := by
  have hle : m * size ≤ n * size := Nat.mul_le_mul_right _ hm
  refine ⟨by rw [List.length_take, hown.1]; omega, ?_⟩
  rcases hown.2 with ⟨hb, _⟩ | ⟨g', cap', cur, hv, h1, h2, h3, h4, h5, h6⟩
  · cases hb
  · cases hv
    exact .inr ⟨g, cap, cur, rfl, h1, h2, by omega, h4, h5, by rw [← h6, List.take_take, Nat.min_eq_left hle]⟩

theorem app_sound {t ty e : TypeId} {i : TypeInfo} {z : Value} (ho : HOK φ ι σ w) (ht : P.underlying t = some (.slice e)) (hi : P.info? e = some i) (hz : i.zero = some z) (hzs : z.cells.size = i.size) (hsz : 0 < i.size) (hb : i.bytes ≤ 32768)
    {s x : PV} {u v : Value} (hs : Rel φ ι s u) (hx : Rel φ ι x v) {K : PV → Heap → Prop} (h : aApp e i.size s x σ K) :
    ∃ c r w' ι' σ', (Builtin.append_ #[t, t] ty #[u, v]).run P w = .ok r w' ∧ Rel φ ι' c r ∧ Tr σ.length φ ι w φ ι' w' ∧ HOK φ ι' σ' w' ∧ K c σ' := by
  have hbound : ∀ k : Nat, k ≤ 4294967296 → k ≤ maxLen ∧ k * i.bytes ≤ 140737488355328 := fun k hk => by
    refine ⟨by simp only [maxLen]; omega, ?_⟩
    have := Nat.mul_le_mul hk hb
    omega
  unfold aApp at h
  split at h
  · obtain rfl := hs.nils_inv
    obtain ⟨ns, ⟨hlen, hK⟩, hok, hcase⟩ := aNews_sound ho hsz hx h
    have hnil : w.ownsRow 0 e i.size (.slice none 0 0) 0 [] := World.ownsRow_nil w 0 e i.size
    rcases hcase with ⟨rfl, rfl⟩ | ⟨a, cap, rfl, hsp, hca⟩
    · have hr := run_append_owned_none (P := P) w 0 t ty e i i.size ht hi _ 0 [] hnil
      have hpush := ho.push (w' := w) (o := .arr 0 e i.size []) (l := .arr 0 e i.size (.slice none 0 0)) (fun _ _ => rfl) (Nat.le_refl _) (fun b hb => by simp [KLoc.block, Value.ownBlock] at hb)
        ⟨rfl, rfl, rfl, hsz, [], hnil, by simpa using RelL.nil _ _, by simp, by simp⟩
      refine ⟨_, _, w, _, _, hr, ?_, Tr.push _ (fun _ _ => rfl) (Nat.le_refl _) rfl rfl rfl (fun b hb => by simp [KLoc.block, Value.ownBlock] at hb), hpush, hK⟩
      exact .ref _ 0 0 0 _ 0 e i.size (.slice none 0 0) (by rw [← ho.len, List.getElem?_append_right (Nat.le_refl _)]; simp) rfl (Nat.le_refl _) (fun _ => .inr ⟨rfl, rfl, rfl, rfl⟩)
    · obtain ⟨hfo, news, hR, hcell⟩ := hca
      have hnl : news.length = ns.length * i.size := by rw [← hR.1, flat_length (okL_len hok)]
      have hbd := hbound _ hlen
      obtain ⟨r, w', hr, hown, hgrow, hblk⟩ := run_app (P := P) t ty e i z ht hi hz hzs hsz _ 0 [] hnil a ns.length cap news hnl (fun j q hj => by
        cases hsp with | inl h => (exfalso; rw [h] at hnl; have : news = [] := List.eq_nil_of_length_eq_zero (by simpa using hnl); rw [this] at hj; simp at hj) | inr hsp => (obtain ⟨ab, ao, as⟩ := a; simp at hsp; subst hsp; rw [addr_add]; exact hcell j q hj)) (oneCells hR hfo) (by omega) (by simpa using hbd.2)
      have hk := grownBy_keep (w := w) (w' := w') hgrow
      have hpush := ho.push (w' := w') (o := .arr 0 e i.size ns) (l := .arr 0 e i.size r) hk hgrow.size (fun b hb => ⟨by have := hblk b hb; simpa [Value.ownBlock] using this, (hown.lt b hb).2⟩)
        ⟨rfl, rfl, rfl, hsz, news, by simpa using hown, hR, hfo, okL_len hok⟩
      refine ⟨_, _, w', _, _, hr, ?_, Tr.push _ hk hgrow.size hgrow.os hgrow.tape hgrow.output (fun b hb => by have := hblk b hb; simpa [Value.ownBlock] using this), hpush, hK⟩
      have hgetl : (ι ++ [KLoc.arr 0 e i.size r])[σ.length]? = some (.arr 0 e i.size r) := by rw [← ho.len, List.getElem?_append_right (Nat.le_refl _)]; simp
      rcases hown.2 with ⟨rfl, h0⟩ | ⟨g, cap', cur, rfl, _, _, hc, _⟩
      · exact .ref _ 0 0 _ _ 0 e i.size _ hgetl rfl (Nat.le_refl _) (fun _ => .inr ⟨rfl, rfl, by omega, rfl⟩)
      · refine .ref _ 0 0 _ _ 0 e i.size _ hgetl rfl (Nat.le_refl _) (fun _ => .inl ⟨g, _, cap', 0, rfl, by omega, by simp, fun _ => by simp, fun _ => rfl⟩)
  · rename_i id ver off len
    split at h
    · rename_i vr e' es xs hobj
      obtain ⟨ns, ⟨⟨rfl, rfl, rfl, rfl, hlx, hlen⟩, hK⟩, hok, hcase⟩ := aNews_sound ho hsz hx h
      obtain ⟨hd, hu, _, ys, hown, hR0, hfo0, hss⟩ := arr_open ho hobj
      have hbd := hbound _ hlen
      -- the row cut to the length of the header
      have hcut : w.ownsRow 0 e' i.size u len (ys.take (len * i.size)) ∧ u.ownBlock = hd.ownBlock := by
        rcases hs.ref_cur hu with ⟨b, m, cap, o, rfl, hc, rfl, h1, h2⟩ | ⟨rfl, _, rfl, rfl⟩
        · cases h2 rfl
          exact ⟨by simpa using ownsRow_cut hown hlx, rfl⟩
        · exact ⟨by simpa using World.ownsRow_nil w 0 e' i.size, rfl⟩
      have hRc : RelL φ ι (flat (xs.take len)) (ys.take (len * i.size)) := by rw [flat_take _ hss]; exact hR0.take _
      have hokc : (flat (xs.take len)).all PV.ok = true := by
        rw [flat_take _ hss]; rw [List.all_eq_true] at hfo0 ⊢
        exact fun c hc => hfo0 c (List.mem_of_mem_take hc)
      have hssc : ∀ x ∈ xs.take len ++ ns, x.cs.length = i.size := fun x hx => by
        rcases List.mem_append.1 hx with hx | hx
        · exact hss x (List.mem_of_mem_take hx)
        · exact okL_len hok x hx
      have hlen2 : (xs.take len ++ ns).length = len + ns.length := by simp; omega
      -- what both ways come to
      have fin : ∀ (r : Value) (w' : World) (news : List Value), (Builtin.append_ #[t, t] ty #[u, v]).run P w = .ok r w' → w'.ownsRow 0 e' i.size r (len + ns.length) (ys.take (len * i.size) ++ news) → RelL φ ι (flat ns) news → w.grownBy w' u.ownBlock → (∀ b, r.ownBlock = some b → u.ownBlock = some b ∨ w.heap.size ≤ b) →
          ∃ c r w' ι' σ', (Builtin.append_ #[t, t] ty #[u, v]).run P w = .ok r w' ∧ Rel φ ι' c r ∧ Tr σ.length φ ι w φ ι' w' ∧ HOK φ ι' σ' w' ∧ K c σ' := by
        intro r w' news hr hown' hRn hgrow hblk
        have hle : (KLoc.arr vr e' i.size hd).le (.arr (vr + 1) e' i.size r) := ⟨.inr (Nat.lt_succ_self _), rfl, rfl⟩
        have hkeep : ∀ b, b < w.heap.size → (KLoc.arr vr e' i.size hd).block ≠ some b → w'.heap[b]? = w.heap[b]? := fun b hb hne => hgrow.block b hb (fun e1 => hne (by rw [KLoc.block, ← hcut.2, e1]))
        have hb1 : ∀ b, (KLoc.arr (vr + 1) e' i.size r).block = some b → (KLoc.arr vr e' i.size hd).block = some b ∨ w.heap.size ≤ b := fun b hb => by
          rcases hblk b hb with h3 | h3
          · exact .inl (by rw [KLoc.block, ← hcut.2]; exact h3)
          · exact .inr h3
        have hLe : LLe ι (ι.set id (.arr (vr + 1) e' i.size r)) := fun j y hy => by
          by_cases e1 : id = j
          · subst e1; rw [hu] at hy; cases hy
            exact ⟨_, List.getElem?_set_self (List.getElem?_eq_some_iff.1 hu).1, hle⟩
          · exact ⟨y, by rw [List.getElem?_set_ne e1]; exact hy, y.le_refl⟩
        have hup := ho.upd (w' := w') (o := .arr (vr + 1) e' i.size (xs.take len ++ ns)) hu hle hgrow.size hkeep hb1 (fun b hb => (hown'.lt b hb).2)
          ⟨rfl, rfl, rfl, hsz, _, by rw [hlen2]; exact hown', by rw [flat_append]; exact (hRc.append hRn).mono (.refl _) hLe, by rw [flat_append, List.all_append, hokc, okL_flat hok]; rfl, hssc⟩
        refine ⟨_, r, w', _, _, hr, ?_, Tr.upd _ hu hup.2 hgrow.size hkeep hb1 hgrow.os hgrow.tape hgrow.output, hup.1, hK⟩
        have hget : (ι.set id (KLoc.arr (vr + 1) e' i.size r))[id]? = some (.arr (vr + 1) e' i.size r) := List.getElem?_set_self (List.getElem?_eq_some_iff.1 hu).1
        rcases hown'.2 with ⟨rfl, h0⟩ | ⟨g, cap', cur, rfl, _, _, hc, _⟩
        · exact .ref _ _ 0 _ _ _ e' i.size _ hget rfl (Nat.le_refl _) (fun _ => .inr ⟨rfl, rfl, h0, rfl⟩)
        · exact .ref _ _ 0 _ _ _ e' i.size _ hget rfl (Nat.le_refl _) (fun _ => .inl ⟨g, _, cap', 0, rfl, by omega, by simp, fun _ => by simp, fun _ => rfl⟩)
      rcases hcase with ⟨rfl, rfl⟩ | ⟨a, cap, rfl, hsp, hca⟩
      · have hr := run_append_owned_none (P := P) w 0 t ty e' i i.size ht hi _ len _ hcut.1
        exact fin u w [] hr (by simpa using hcut.1) (by simpa using RelL.nil _ _) ⟨rfl, rfl, rfl, Nat.le_refl _, fun _ _ _ => rfl⟩ (fun b hb => .inl hb)
      · obtain ⟨hfo, news, hR, hcell⟩ := hca
        have hnl : news.length = ns.length * i.size := by rw [← hR.1, flat_length (okL_len hok)]
        obtain ⟨r, w', hr, hown', hgrow, hblk⟩ := run_app (P := P) t ty e' i z ht hi hz hzs hsz u len _ hcut.1 a ns.length cap news hnl (fun j q hj => by
          cases hsp with | inl h => (exfalso; rw [h] at hnl; have : news = [] := List.eq_nil_of_length_eq_zero (by simpa using hnl); rw [this] at hj; simp at hj) | inr hsp => (obtain ⟨ab, ao, as⟩ := a; simp at hsp; subst hsp; rw [addr_add]; exact hcell j q hj)) (oneCells hR hfo) hbd.1 hbd.2
        exact fin r w' news hr hown' hR hgrow hblk
    · exact h.elim
  · exact h.elim

end Go.Kv
