/- Renumbering of objects; calls of functions that know nothing of the heap at hand: the frame rule, and the rule for arguments that are lent to be read. -/
import Derived.Test.YtkdkdkkimieieaaK11
namespace Go.Kv
set_option linter.unusedVariables false
set_option linter.unusedSimpArgs false

mutual
def PV.ren (f : Nat → Nat) : PV → PV
  | .undef => .undef
  | .int k n => .int k n
  | .bool b => .bool b
  | .str s => .str s
  | .agg cs => .agg (PV.renL f cs)
  | .tup vs => .tup (PV.renL f vs)
  | .ptr id off => .ptr (f id) off
  | .fptr cs off => .fptr (PV.renL f cs) off
  | .nilptr => .nilptr
  | .nils => .nils
  | .list xs => .list (PV.renL f xs)
  | .ref id ver off len => .ref (f id) ver off len
  | .eptr id ver i off => .eptr (f id) ver i off
  | .bref id off len => .bref (f id) off len
  | .fn g a b => .fn g (PV.renL f a) (PV.renL f b)
  | .nilf => .nilf
  | .nili => .nili
def PV.renL (f : Nat → Nat) : List PV → List PV
  | [] => []
  | c :: cs => c.ren f :: PV.renL f cs
end
@[simp] theorem renL_eq (f : Nat → Nat) : ∀ cs : List PV, PV.renL f cs = cs.map (PV.ren f)
  | [] => by simp [PV.renL]
  | c :: cs => by simp [PV.renL, renL_eq f cs]
def AObj.ren (f : Nat → Nat) : AObj → AObj
  | .dead => .dead
  | .box cs => .box (cs.map (PV.ren f))
  | .arr v e s xs => .arr v e s (xs.map (PV.ren f))

theorem ren_ok (f : Nat → Nat) (c : PV) : (c.ren f).ok = c.ok := by cases c <;> simp [PV.ren, PV.ok]
theorem ren_oks (f : Nat → Nat) (cs : List PV) : (cs.map (PV.ren f)).all PV.ok = cs.all PV.ok := by
  induction cs with
  | nil => rfl
  | cons c cs ih => simp only [List.map_cons, List.all_cons, ren_ok, ih]
theorem ren_cs (f : Nat → Nat) (c : PV) : (c.ren f).cs = c.cs.map (PV.ren f) := by cases c <;> simp [PV.ren, PV.cs]
theorem ren_flat (f : Nat → Nat) (xs : List PV) : flat (xs.map (PV.ren f)) = (flat xs).map (PV.ren f) := by
  induction xs with
  | nil => rfl
  | cons x xs ih => simp [ih, ren_cs]
theorem getR (f : Nat → Nat) {cs : List PV} {i : Nat} {c : PV} (h : (cs.map (PV.ren f))[i]? = some c) : ∃ d, cs[i]? = some d ∧ c = d.ren f := by
  simp only [List.getElem?_map, Option.map_eq_some_iff] at h
  obtain ⟨d, h1, h2⟩ := h
  exact ⟨d, h1, h2.symm⟩

theorem Rel.ren {φ : Frz} {ι ι' : List KLoc} {f : Nat → Nat} (hι : ∀ (id : Nat) (l : KLoc), ι[id]? = some l → ι'[f id]? = some l) {c : PV} {v : Value} (h : Rel φ ι c v) : Rel φ ι' (c.ren f) v := by
  induction h with
  | undef v => exact .undef v
  | int k n => exact .int k n
  | bool b => exact .bool b
  | str s => exact .str s
  | agg cs vs h1 h2 _ ih =>
    simp only [PV.ren, renL_eq]
    refine .agg _ vs (by simpa using h1) (by rw [ren_oks]; exact h2) fun i c v hc hv => ?_
    obtain ⟨d, hd, rfl⟩ := getR f hc
    exact ih i d v hd hv
  | tup cs vs h1 _ ih =>
    simp only [PV.ren, renL_eq]
    refine .tup _ vs (by simpa using h1) fun i c v hc hv => ?_
    obtain ⟨d, hd, rfl⟩ := getR f hc
    exact ih i d v hd hv
  | ptr id off b h => exact .ptr _ off b (hι _ _ h)
  | fptr cs off b o C hb hok g hg _ ih =>
    simp only [PV.ren, renL_eq]
    refine .fptr _ off b o C hb (by rw [ren_oks]; exact hok) g (fun j c hc => ?_) (fun j c hc => ?_)
    · obtain ⟨d, hd, rfl⟩ := getR f hc; exact hg j d hd
    · obtain ⟨d, hd, rfl⟩ := getR f hc; exact ih j d hd
  | nilptr => exact .nilptr
  | nils => exact .nils
  | list0 cap a => exact .list0 cap a
  | listn => exact .listn
  | list xs esz b o len cap C h1 hc hb hsz g hg _ ih =>
    simp only [PV.ren, renL_eq]
    refine .list _ esz b o len cap C (by simpa using h1) hc hb (fun i x hx => ?_) g (fun i x j c hx hc => ?_) (fun i x j c hx hc => ?_)
    · obtain ⟨d, hd, rfl⟩ := getR f hx
      rw [ren_cs, List.length_map, ren_oks]; exact hsz i d hd
    · obtain ⟨d, hd, rfl⟩ := getR f hx
      rw [ren_cs] at hc
      obtain ⟨c', hc', rfl⟩ := getR f hc
      exact hg i d j c' hd hc'
    · obtain ⟨d, hd, rfl⟩ := getR f hx
      rw [ren_cs] at hc
      obtain ⟨c', hc', rfl⟩ := getR f hc
      exact ih i d j c' hd hc'
  | ref id ver off len v k e esz u h ho hk hv => exact .ref _ ver off len v k e esz u (hι _ _ h) ho hk hv
  | eptr id ver i off v k e esz u h ho hk hv => exact .eptr _ ver i off v k e esz u (hι _ _ h) ho hk hv
  | bref id off len b cap h hc => exact .bref _ off len b cap (hι _ _ h) hc
  | fn g a b u v h1 h2 _ _ ih1 ih2 =>
    simp only [PV.ren, renL_eq]
    refine .fn g _ _ u v (by simpa using h1) (by simpa using h2) (fun i c v hc hv => ?_) (fun i c v hc hv => ?_)
    · obtain ⟨d, hd, rfl⟩ := getR f hc; exact ih1 i d v hd hv
    · obtain ⟨d, hd, rfl⟩ := getR f hc; exact ih2 i d v hd hv
  | nilf => exact .nilf
  | nili => exact .nili
theorem RelL.ren {φ : Frz} {ι ι' : List KLoc} {f : Nat → Nat} (hι : ∀ (id : Nat) (l : KLoc), ι[id]? = some l → ι'[f id]? = some l) {cs : List PV} {vs : List Value} (h : RelL φ ι cs vs) : RelL φ ι' (cs.map (PV.ren f)) vs :=
  ⟨by simpa using h.1, fun i c v hc hv => by obtain ⟨d, hd, rfl⟩ := getR f hc; exact (h.2 i d v hd hv).ren hι⟩
theorem ObjOK.ren {φ : Frz} {ι ι' : List KLoc} {f : Nat → Nat} (hι : ∀ (id : Nat) (l : KLoc), ι[id]? = some l → ι'[f id]? = some l) {w : World} {o : AObj} {l : KLoc} (h : ObjOK φ ι w o l) : ObjOK φ ι' w (o.ren f) l := by
  cases o with
  | dead => cases l <;> simp [ObjOK, AObj.ren]
  | box cs =>
    cases l <;> simp only [ObjOK, AObj.ren] at h ⊢
    obtain ⟨C, e, h1, h2, h3⟩ := h
    exact ⟨C, e, h1, h2.ren hι, by rw [ren_oks]; exact h3⟩
  | arr ver e es xs =>
    cases l <;> simp only [ObjOK, AObj.ren] at h ⊢
    obtain ⟨h1, h2, h2', h3, ys, h4, h5, h6, h7⟩ := h
    refine ⟨h1, h2, h2', h3, ys, by simpa using h4, by rw [ren_flat]; exact h5.ren hι, by rw [ren_flat, ren_oks]; exact h6, fun x hx => ?_⟩
    obtain ⟨d, hd, rfl⟩ := List.mem_map.1 hx
    rw [ren_cs, List.length_map]; exact h7 d hd

/-! ### What does not hang on what is frozen -/
def AObj.free : AObj → Prop
  | .dead => True
  | .box cs => ∀ c ∈ cs, c.free
  | .arr _ _ _ xs => ∀ c ∈ flat xs, c.free
theorem RelL.free {φ φ' : Frz} {ι : List KLoc} {cs : List PV} {vs : List Value} (hp : ∀ c ∈ cs, c.free) (h : RelL φ ι cs vs) : RelL φ' ι cs vs :=
  ⟨h.1, fun i c v hc hv => hp c (List.mem_of_getElem? hc) _ _ _ _ (h.2 i c v hc hv)⟩
theorem ObjOK.free {φ φ' : Frz} {ι : List KLoc} {w : World} {o : AObj} {l : KLoc} (hp : o.free) (h : ObjOK φ ι w o l) : ObjOK φ' ι w o l := by
  cases o with
  | dead => cases l <;> simp [ObjOK]
  | box cs =>
    cases l <;> simp only [ObjOK] at h ⊢
    obtain ⟨C, e, h1, h2, h3⟩ := h
    exact ⟨C, e, h1, h2.free hp, h3⟩
  | arr ver e es xs =>
    cases l <;> simp only [ObjOK] at h ⊢
    obtain ⟨h1, h2, h2', h3, ys, h4, h5, h6⟩ := h
    exact ⟨h1, h2, h2', h3, ys, h4, h5.free hp, h6⟩

/-- Everything that stands is looked at as frozen. -/
def allFrz (w : World) : Frz := fun b => match w.heap[b]? with | some (.cells C _ _) => some C | _ => none
theorem allFrz_hok (w : World) : HOK (allFrz w) [] [] w where
  len := rfl
  fz := fun b C h => by
    unfold allFrz at h
    split at h
    · rename_i D e f hb; simp only [Option.some.injEq] at h; subst h; exact ⟨e, f, hb⟩
    · cases h
  nf := fun id l b h => by simp at h
  dis := fun id id' l l' b h => by simp at h
  lt := fun id l b h => by simp at h
  obj := fun id o l h => by simp at h
theorem allFrz_le {φ : Frz} {ι : List KLoc} {σ : Heap} {w : World} (h : HOK φ ι σ w) : FLe φ (allFrz w) := fun b C hb => by
  obtain ⟨e, f, g⟩ := h.fz b C hb
  simp [allFrz, g]

theorem other {α β : Type} {l : List α} {m : List β} (h : l.length = m.length) {i : Nat} {x : β} (hx : m[i]? = some x) : ∃ y, l[i]? = some y := by
  have := (List.getElem?_eq_some_iff.1 hx).1
  exact ⟨l[i], List.getElem?_eq_getElem (by omega)⟩

theorem Imm.rel {φ φ1 : Frz} {ι : List KLoc} {σ : Heap} {w : World} (ho : HOK φ ι σ w) (hle : FLe φ φ1) (hwn : ∀ (id : Nat) (l : KLoc) (b : Nat) (C : Array Value) (e : TypeId) (f : Nat × Nat), ι[id]? = some l → l.block = some b → w.heap[b]? = some (.cells C e f) → φ1 b = some C) {c d : PV} (hi : Imm σ c d) : ∀ {v : Value}, Rel φ ι c v → Rel φ1 [] d v := by
  induction hi with
  | refl c h => intro v hr; exact (by simpa using h _ _ _ hr : Rel φ [] c v).mono hle (.refl _)
  | agg cs ds hl hok _ ih =>
    intro v hr
    obtain ⟨vs, rfl, hR, _⟩ := hr.agg_inv
    refine .agg ds vs (by rw [← hl]; exact hR.1) hok fun i d v hd hv => ?_
    obtain ⟨c, hc⟩ := other hl hd
    exact ih i c d hc hd (hR.2 i c v hc hv)
  | ptr id off cs ds hob hl hok _ ih =>
    intro v hr
    obtain ⟨b, hb, rfl⟩ := hr.ptr_inv
    obtain ⟨b', hb', C, e, hcell, hR, _⟩ := box_open ho hob
    rw [hb] at hb'; cases hb'
    have : (.pointer (some ⟨b, off, none⟩) : Value) = .pointer (some ⟨b, 0 + off, none⟩) := by simp
    rw [this]
    refine .fptr ds off b 0 C (hwn _ _ _ _ _ _ hb rfl hcell) hok (fun j => C.toList.getD j Go.undef) (fun j d hd => ?_) (fun j d hd => ?_)
    · obtain ⟨c, hc⟩ := other hl hd
      obtain ⟨u, hu, _⟩ := hR.get hc
      have hu' : C[j]? = some u := by simpa using hu
      simp [hu']
    · obtain ⟨c, hc⟩ := other hl hd
      obtain ⟨u, hu, hr⟩ := hR.get hc
      have hu' : C[j]? = some u := by simpa using hu
      have := ih j c d hc hd hr
      simpa [hu'] using this
  | ref id ver off len e esz xs ds hob hn hl hs _ ih =>
    intro v hr
    obtain ⟨u, hu, hsz, ys, hown, hR, hok, hss⟩ := arr_open ho hob
    cases hr with
    | ref _ _ _ _ _ k e' s' u' h ho1 hk hv =>
      rw [hu] at h; cases h
      rcases hv rfl with ⟨b, n, cap, o, rfl, hcap, rfl, ho', ho0⟩ | ⟨rfl, rfl, rfl, rfl⟩
      · rcases hown.2 with ⟨hbad, _⟩ | ⟨g, cap', cur, hveq, hb0, hg, hnc, hcm, hcs, htake⟩
        · cases hbad
        · cases hveq
          by_cases hlen : len = 0
          · subst hlen
            obtain rfl := List.eq_nil_of_length_eq_zero hl
            exact .list0 _ _
          · have hoo : o = off * esz := ho' (by omega)
            subst hoo
            refine .list ds esz b (off * esz) len _ cur hl (by omega) (hwn _ _ _ _ _ _ hu rfl hg) (fun i d hd => ?_) (fun i j => ys.getD ((off + i) * esz + j) Go.undef) (fun i d j c hd hc => ?_) (fun i d j c hd hc => ?_)
            · have hlt := (List.getElem?_eq_some_iff.1 hd).1
              have hx : xs[off + i]? = some xs[off + i] := List.getElem?_eq_getElem (by omega)
              have := hs i _ d hx hd
              exact ⟨by rw [← this.1]; exact hss _ (List.getElem_mem _), this.2⟩
            all_goals
              have hlt := (List.getElem?_eq_some_iff.1 hd).1
              have hx : xs[off + i]? = some xs[off + i] := List.getElem?_eq_getElem (by omega)
              have hsz2 := hs i _ d hx hd
              obtain ⟨c0, hc0⟩ := other hsz2.1 hc
              have hj : j < esz := by
                have := (List.getElem?_eq_some_iff.1 hc0).1
                rwa [hss _ (List.getElem_mem _)] at this
              have hfl : (flat xs)[(off + i) * esz + j]? = some c0 := by
                have h5 := flat_get hss hx
                rw [← h5] at hc0
                rw [List.getElem?_take, if_pos hj, List.getElem?_drop] at hc0
                exact hc0
              obtain ⟨y, hy, hry⟩ := hR.get hfl
              have hyd : ys.getD ((off + i) * esz + j) Go.undef = y := by simp [List.getD_eq_getElem?_getD, hy]
              rw [hyd]
            · have hlt2 := (List.getElem?_eq_some_iff.1 hy).1
              rw [← htake, List.getElem?_take] at hy
              split at hy
              · rw [show off * esz + i * esz + j = (off + i) * esz + j by rw [Nat.add_mul]]
                simpa using hy
              · cases hy
            · exact ih i _ d j c0 c hx hd hc0 hc hry
      · obtain rfl := List.eq_nil_of_length_eq_zero hl
        exact .listn
  | nils => intro v hr; rw [hr.nils_inv]; exact .listn
  | tup cs ds hl _ ih =>
    intro v hr
    obtain ⟨vs, rfl, hR⟩ := hr.tup_inv
    refine .tup ds vs (by rw [← hl]; exact hR.1) fun i d v hd hv => ?_
    obtain ⟨c, hc⟩ := other hl hd
    exact ih i c d hc hd (hR.2 i c v hc hv)
  | fn f a b a' b' hl hm _ _ ih ih' =>
    intro v hr
    obtain ⟨x, y, rfl, hx, hy⟩ := hr.fn_inv
    refine .fn f a' b' x y (by rw [← hl]; exact hx.1) (by rw [← hm]; exact hy.1) (fun i d v hd hv => ?_) (fun i d v hd hv => ?_)
    · obtain ⟨c, hc⟩ := other hl hd
      exact ih i c d hc hd (hx.2 i c v hc hv)
    · obtain ⟨c, hc⟩ := other hm hd
      exact ih' i c d hc hd (hy.2 i c v hc hv)
theorem ImmL.nil (σ : Heap) : ImmL σ [] [] := ⟨rfl, by simp⟩
theorem ImmL.cons {σ : Heap} {c d : PV} {cs ds : List PV} (h : Imm σ c d) (h' : ImmL σ cs ds) : ImmL σ (c :: cs) (d :: ds) := by
  refine ⟨by simp [h'.1], fun i a b ha hb => ?_⟩
  cases i with
  | zero => simp at ha hb; subst ha hb; exact h
  | succ i => simp at ha hb; exact h'.2 i a b ha hb
theorem allFrz_own {w : World} {b : Nat} {C : Array Value} {e : TypeId} {f : Nat × Nat} (h : w.heap[b]? = some (.cells C e f)) : allFrz w b = some C := by simp [allFrz, h]
theorem Imm.tupL {σ : Heap} {cs ds : List PV} (h : ImmL σ cs ds) : Imm σ (.tup cs) (.tup ds) := .tup cs ds h.1 h.2
theorem ImmL.rel {φ : Frz} {ι : List KLoc} {σ : Heap} {w : World} (ho : HOK φ ι σ w) {cs ds : List PV} (hi : ImmL σ cs ds) {vs : List Value} (h : RelL φ ι cs vs) : RelL (allFrz w) [] ds vs :=
  ⟨by rw [← hi.1]; exact h.1, fun i d v hd hv => by
    obtain ⟨c, hc⟩ := other hi.1 hd
    exact (hi.2 i c d hc hd).rel ho (allFrz_le ho) (fun _ _ _ _ _ _ _ _ h => allFrz_own h) (h.2 i c v hc hv)⟩

def sh (n : Nat) : Nat → Nat := fun i => i + n

/-- What a heap that was empty has grown to, put behind the heap at hand. -/
theorem join {φ φ' φ2 : Frz} {ι ι' : List KLoc} {σ σ' : Heap} {w w' : World} (h : HOK φ ι σ w) (ht : Tr 0 φ2 [] w φ2 ι' w')
    (hle : FLe φ φ') (hnew : ∀ b C, φ' b = some C → φ b = some C ∨ w.heap.size ≤ b)
    (hfz : ∀ b C, φ' b = some C → ∃ e f, w'.heap[b]? = some (.cells C e f))
    (hlen : ι'.length = σ'.length) (hnf : ∀ (id : Nat) (l : KLoc) (b : Nat), ι'[id]? = some l → l.block = some b → φ' b = none)
    (hdis : ∀ (id id' : Nat) (l l' : KLoc) (b : Nat), ι'[id]? = some l → ι'[id']? = some l' → l.block = some b → l'.block = some b → id = id')
    (hlt : ∀ (id : Nat) (l : KLoc) (b : Nat), ι'[id]? = some l → l.block = some b → b < w'.heap.size)
    (hobj : ∀ (id : Nat) (o : AObj) (l : KLoc), σ'[id]? = some o → ι'[id]? = some l → ObjOK φ' ι' w' o l) :
    HOK φ' (ι ++ ι') (σ ++ σ'.map (AObj.ren (sh σ.length))) w' ∧ Tr σ.length φ ι w φ' (ι ++ ι') w' := by
  have hkeep : ∀ b, b < w.heap.size → w'.heap[b]? = w.heap[b]? := fun b hb => ht.fr b hb (fun ⟨_, _, h, _⟩ => by simp at h)
  have hold : ∀ (id : Nat) (l : KLoc) (b : Nat), ι'[id]? = some l → l.block = some b → w.heap.size ≤ b := fun id l b h1 h2 => by
    rcases ht.ow b ⟨id, l, h1, h2⟩ with ⟨_, _, h, _⟩ | h
    · simp at h
    · exact h
  have hcase : ∀ (id : Nat) (l : KLoc), (ι ++ ι')[id]? = some l → (id < ι.length ∧ ι[id]? = some l) ∨ (ι.length ≤ id ∧ ι'[id - ι.length]? = some l) := fun id l hl => by
    rw [List.getElem?_append] at hl
    split at hl
    · exact .inl ⟨by assumption, hl⟩
    · exact .inr ⟨by omega, hl⟩
  have hsh : ∀ (id : Nat) (l : KLoc), ι'[id]? = some l → (ι ++ ι')[sh σ.length id]? = some l := fun id l hl => by
    rw [List.getElem?_append_right (by rw [h.len]; simp [sh]), h.len]
    simpa [sh] using hl
  refine ⟨⟨by simp [h.len, hlen], hfz, fun id l b h1 h2 => ?_, fun id id' l l' b h1 h2 h3 h4 => ?_, fun id l b h1 h2 => ?_, fun id o l h1 h2 => ?_⟩, ⟨hle, (LLe.append _ _).of_take _, fun b hb _ => hkeep b hb, ht.sz, fun b ⟨id, l, h1, h2⟩ => ?_, ht.os, ht.tp, ht.out, fun b C hb => (hnew b C hb).imp id .inr⟩⟩
  · rcases hcase id l h1 with ⟨_, h1⟩ | ⟨_, h1⟩
    · cases hp : φ' b with
      | none => rfl
      | some C =>
        rcases hnew b C hp with h5 | h5
        · rw [h.nf id l b h1 h2] at h5; cases h5
        · have := h.lt id l b h1 h2; omega
    · exact hnf _ l b h1 h2
  · rcases hcase id l h1 with ⟨g1, h1⟩ | ⟨g1, h1⟩ <;> rcases hcase id' l' h2 with ⟨g2, h2⟩ | ⟨g2, h2⟩
    · exact h.dis id id' l l' b h1 h2 h3 h4
    · have := h.lt id l b h1 h3; have := hold _ l' b h2 h4; omega
    · have := h.lt id' l' b h2 h4; have := hold _ l b h1 h3; omega
    · have := hdis _ _ l l' b h1 h2 h3 h4; omega
  · rcases hcase id l h1 with ⟨g1, h1⟩ | ⟨g1, h1⟩
    · exact Nat.lt_of_lt_of_le (h.lt id l b h1 h2) ht.sz
    · exact hlt _ l b h1 h2
  · rcases hcase id l h2 with ⟨g1, h2⟩ | ⟨g1, h2⟩
    · rw [List.getElem?_append_left (by rw [← h.len]; exact g1)] at h1
      exact (h.obj id o l h1 h2).keep hle (.append _ _) (fun b hb => hkeep b (h.lt id l b h2 hb))
    · rw [List.getElem?_append_right (by rw [← h.len]; exact g1), ← h.len] at h1
      simp only [List.getElem?_map, Option.map_eq_some_iff] at h1
      obtain ⟨o', h1, rfl⟩ := h1
      rw [← h.len] at hsh
      exact (hobj _ o' l h1 h2).ren hsh
  · rcases hcase id l h1 with ⟨g1, h1⟩ | ⟨g1, h1⟩
    · exact .inl ⟨id, l, h1, h2⟩
    · exact .inr (hold _ l b h1 h2)

/-- **The frame rule**: a function whose arguments speak of no object is shown at the empty heap. -/
theorem ACall.frame {P : Program} {f : FuncId} {args : List PV} {σ : Heap} {K K' : PV → Heap → Prop} (h : ACall P f args [] K') (ha : ∀ a ∈ args, PV.upto 0 a)
    (hk : ∀ v s, K' v s → K (v.ren (sh σ.length)) (σ ++ s.map (AObj.ren (sh σ.length)))) : ACall P f args σ K := by
  refine ⟨h.1, fun φ ι w vs hr ho => ?_⟩
  have h0 : HOK φ [] [] w := by simpa using ho.trunc 0 (fun o ho => by simp at ho)
  have hr0 : RelL φ [] args vs := by simpa using hr.upto (n := 0) ha
  refine (h.2 φ [] w vs hr0 h0).mono fun e w' ⟨v, v', φ', ι', s, h1, h2, h3, h4, h5⟩ => ?_
  have hn : ∀ b C, φ' b = some C → φ b = some C ∨ w.heap.size ≤ b := fun b C hb => by
    rcases h3.fn b C hb with q | ⟨_, _, q, _⟩ | q
    · exact .inl q
    · simp at q
    · exact .inr q
  obtain ⟨j1, j2⟩ := join (φ2 := φ) (σ' := s) ho ⟨.refl _, h3.l, h3.fr, h3.sz, h3.ow, h3.os, h3.tp, h3.out, fun _ _ h => .inl h⟩ h3.f hn h4.fz h4.len h4.nf h4.dis h4.lt h4.obj
  refine ⟨_, v', φ', ι ++ ι', _, h1, h2.ren (f := sh σ.length) (fun id l hl => ?_), j2, j1, hk v s h5⟩
  rw [List.getElem?_append_right (by rw [ho.len]; simp [sh]), ho.len]
  simpa [sh] using hl

/-- **Lending**: what the function only reads may be owned. -/
theorem ACall.lend {P : Program} {f : FuncId} {args args' : List PV} {σ : Heap} {K K' : PV → Heap → Prop} (h : ACall P f args' [] K') (ha : ImmL σ args args')
    (hk : ∀ v s, K' v s → (v.free ∧ ∀ o ∈ s, AObj.free o) ∧ K (v.ren (sh σ.length)) (σ ++ s.map (AObj.ren (sh σ.length)))) : ACall P f args σ K := by
  refine ⟨h.1, fun φ ι w vs hr ho => ?_⟩
  refine (h.2 (allFrz w) [] w vs (ha.rel ho hr) (allFrz_hok w)).mono fun e w' ⟨v, v', φ', ι', s, h1, h2, h3, h4, h5⟩ => ?_
  obtain ⟨⟨hv, hs⟩, hK⟩ := hk v s h5
  have hkeep : ∀ b, b < w.heap.size → w'.heap[b]? = w.heap[b]? := fun b hb => h3.fr b hb (fun ⟨_, _, h, _⟩ => by simp at h)
  obtain ⟨j1, j2⟩ := join (φ2 := allFrz w) (φ' := φ) (σ' := s) ho ⟨.refl _, h3.l, h3.fr, h3.sz, h3.ow, h3.os, h3.tp, h3.out, fun _ _ h => .inl h⟩ (.refl _) (fun _ _ h => .inl h)
    (fun b C hb => by
      obtain ⟨e, f, g⟩ := ho.fz b C hb
      exact ⟨e, f, (hkeep b (heap_lt g)).trans g⟩) h4.len
    (fun id l b q1 q2 => by
      cases hp : φ b with
      | none => rfl
      | some C =>
        obtain ⟨e, f, g⟩ := ho.fz b C hp
        rcases h3.ow b ⟨id, l, q1, q2⟩ with ⟨_, _, q, _⟩ | q
        · simp at q
        · have := heap_lt g; omega) h4.dis h4.lt (fun id o l q1 q2 => (h4.obj id o l q1 q2).free (hs o (List.mem_of_getElem? q1)))
  refine ⟨_, v', φ, ι ++ ι', _, h1, (hv _ _ _ _ h2).ren (f := sh σ.length) (fun id l hl => ?_), j2, j1, hK⟩
  rw [List.getElem?_append_right (by rw [ho.len]; simp [sh]), ho.len]
  simpa [sh] using hl
end Go.Kv
