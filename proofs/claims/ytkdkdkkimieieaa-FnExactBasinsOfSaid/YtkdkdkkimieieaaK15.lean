/- Calls that hand back a plain value and leave the heap alone; results. -/
import Derived.Test.YtkdkdkkimieieaaK14
namespace Go.Kv
set_option linter.unusedVariables false
set_option linter.unusedSimpArgs false

/-- A value that speaks neither of the heap nor of what is frozen. -/
structure Plain (c : PV) : Prop where
  up : PV.upto 0 c
  fr : c.free
  rn : ∀ f : Nat → Nat, c.ren f = c
theorem Plain.int (k : IntKind) (n : Int) : Plain (.int k n) := ⟨fun φ ι v h => by cases h; exact .int _ _, fun φ φ' ι v h => by cases h; exact .int _ _, fun _ => rfl⟩
theorem Plain.bool (b : Bool) : Plain (.bool b) := ⟨fun φ ι v h => by cases h; exact .bool _, fun φ φ' ι v h => by cases h; exact .bool _, fun _ => rfl⟩
theorem Plain.nils : Plain .nils := ⟨fun φ ι v h => by cases h; exact .nils, fun φ φ' ι v h => by cases h; exact .nils, fun _ => rfl⟩
theorem Plain.undef : Plain .undef := ⟨fun φ ι v h => .undef v, fun φ φ' ι v h => .undef v, fun _ => rfl⟩
theorem Plain.agg {cs : List PV} (h : ∀ c ∈ cs, Plain c) : Plain (.agg cs) := by
  refine ⟨fun φ ι v hr => ?_, fun φ φ' ι v hr => ?_, fun f => ?_⟩
  · cases hr with
    | agg _ vs h1 h2 h3 => exact .agg cs vs h1 h2 fun i c v hc hv => (h c (List.mem_of_getElem? hc)).up _ _ _ (h3 i c v hc hv)
  · cases hr with
    | agg _ vs h1 h2 h3 => exact .agg cs vs h1 h2 fun i c v hc hv => (h c (List.mem_of_getElem? hc)).fr _ _ _ _ (h3 i c v hc hv)
  · simp only [PV.ren, renL_eq]
    congr 1
    conv => rhs; rw [← List.map_id cs]
    exact List.map_congr_left fun c hc => (h c hc).rn f
theorem Plain.tup {cs : List PV} (h : ∀ c ∈ cs, Plain c) : Plain (.tup cs) := by
  refine ⟨fun φ ι v hr => ?_, fun φ φ' ι v hr => ?_, fun f => ?_⟩
  · cases hr with
    | tup _ vs h1 h3 => exact .tup cs vs h1 fun i c v hc hv => (h c (List.mem_of_getElem? hc)).up _ _ _ (h3 i c v hc hv)
  · cases hr with
    | tup _ vs h1 h3 => exact .tup cs vs h1 fun i c v hc hv => (h c (List.mem_of_getElem? hc)).fr _ _ _ _ (h3 i c v hc hv)
  · simp only [PV.ren, renL_eq]
    congr 1
    conv => rhs; rw [← List.map_id cs]
    exact List.map_congr_left fun c hc => (h c hc).rn f
theorem Plain.ints (l : List Int) : ∀ c ∈ ints l, Plain c := fun c hc => by
  simp only [Kv.ints, List.mem_map] at hc
  obtain ⟨x, _, rfl⟩ := hc
  exact .int _ _
theorem Plain.aggi (l : List Int) : Plain (.agg (Kv.ints l)) := .agg (Plain.ints l)

theorem upto_list {xs : List PV} (n : Nat) (h : ∀ x ∈ xs, ∀ c ∈ x.cs, PV.upto n c) : PV.upto n (.list xs) := fun φ ι v hr => by
  cases hr with
  | list0 cap a => exact .list0 _ _
  | listn => exact .listn
  | list _ esz b o len cap C hl hc hb hsz g hg hh => exact .list _ esz b o len cap C hl hc hb hsz g hg fun i x j c hx hc' => h x (List.mem_of_getElem? hx) c (List.mem_of_getElem? hc') _ _ _ (hh i x j c hx hc')
theorem upto_mono {c : PV} (h : PV.upto 0 c) (n : Nat) : PV.upto n c := fun φ ι v hr => (h φ ι v hr).mono (.refl _) (fun id l hl => by simp at hl)
theorem upto_ints (n : Nat) (l : List Int) : PV.upto n (.list (ints l)) := upto_mono (upto_list 0 fun x hx c hc => by
  simp only [ints, List.mem_map] at hx
  obtain ⟨y, _, rfl⟩ := hx
  simp [PV.cs] at hc; subst hc
  exact (Plain.int _ _).up) n
theorem upto_rows (n : Nat) (l : List (List Int)) : PV.upto n (.list (rows l)) := upto_mono (upto_list 0 fun x hx c hc => by
  simp only [rows, List.mem_map] at hx
  obtain ⟨y, _, rfl⟩ := hx
  simp [PV.cs] at hc; subst hc
  exact upto_ints 0 _) n
theorem upto_aggs (n : Nat) (l : List (List Int)) : PV.upto n (.list (aggs l)) := upto_mono (upto_list 0 fun x hx c hc => by
  simp only [aggs, List.mem_map] at hx
  obtain ⟨y, _, rfl⟩ := hx
  exact (Plain.ints _ c hc).up) n
theorem upto_fptr (n : Nat) {cs : List PV} (o : Nat) (h : ∀ c ∈ cs, Plain c) : PV.upto n (.fptr cs o) := upto_mono (fun φ ι v hr => by
  cases hr with
  | fptr _ _ b o' C hb hok g hg hh => exact .fptr cs o b o' C hb hok g hg fun j c hc => (h c (List.mem_of_getElem? hc)).up _ _ _ (hh j c hc)) n
theorem upto_fn (n : Nat) (f : Fn) {a b : List PV} (ha : ∀ c ∈ a, PV.upto 0 c) (hb : ∀ c ∈ b, PV.upto 0 c) : PV.upto n (.fn f a b) := upto_mono (fun φ ι v hr => by
  cases hr with
  | fn _ _ _ u v g1 g2 g3 g4 => exact .fn f a b u v g1 g2 (fun i c x hc hx => ha c (List.mem_of_getElem? hc) _ _ _ (g3 i c x hc hx)) fun i c x hc hx => hb c (List.mem_of_getElem? hc) _ _ _ (g4 i c x hc hx)) n
theorem upto_ref {n id : Nat} (h : id < n) (v o l : Nat) : PV.upto n (.ref id v o l) := fun φ ι x hr => by
  cases hr with
  | ref _ _ _ _ _ k e s u hh ho hk hv => exact .ref id v o l x k e s u (by rw [List.getElem?_take, if_pos h]; exact hh) ho hk hv

theorem free_ref (id ver off len : Nat) : (PV.ref id ver off len).free := fun φ φ' ι v h => by
  cases h with
  | ref _ _ _ _ _ k e s u hh ho hk hv => exact .ref id ver off len v k e s u hh ho hk hv
theorem free_tup {cs : List PV} (h : ∀ c ∈ cs, c.free) : (PV.tup cs).free := fun φ φ' ι v hr => by
  cases hr with
  | tup _ vs h1 h3 => exact .tup cs vs h1 fun i c v hc hv => h c (List.mem_of_getElem? hc) _ _ _ _ (h3 i c v hc hv)
/-- A call that hands back one plain value. -/
def Pure (P : Program) (f : FuncId) (args : List PV) (r : PV) : Prop := ACall P f args [] fun v s => v = r ∧ s = []
theorem Pure.use {P : Program} {f : FuncId} {args args' : List PV} {r : PV} {σ : Heap} {K : PV → Heap → Prop} (h : Pure P f args r) (hp : Plain r) (hi : ImmL σ args' args) (hk : K r σ) : ACall P f args' σ K :=
  ACall.lend h hi fun v s ⟨hv, hs⟩ => by
    subst hv; subst hs
    exact ⟨⟨hp.fr, by simp⟩, by simpa [hp.rn] using hk⟩
theorem Pure.puse {P : Program} {f : FuncId} {args args' : List PV} {r : PV} {σ : Heap} {K : PV → Prop} (h : Pure P f args r) (hp : Plain r) (hi : ImmL σ args' args) (hk : K r) : PCall P f args' σ K :=
  ⟨args, hi, h.mono fun v s ⟨hv, hs⟩ => by subst hv; exact ⟨⟨hp.fr, hs⟩, hk⟩⟩
theorem Imm.int (σ : Heap) (k : IntKind) (n : Int) : Imm σ (.int k n) (.int k n) := .refl _ (Plain.int _ _).up
theorem Imm.bool (σ : Heap) (b : Bool) : Imm σ (.bool b) (.bool b) := .refl _ (Plain.bool _).up
theorem Imm.aggi (σ : Heap) (l : List Int) : Imm σ (.agg (ints l)) (.agg (ints l)) := .refl _ (Plain.aggi l).up
theorem Imm.listi (σ : Heap) (l : List Int) : Imm σ (.list (ints l)) (.list (ints l)) := .refl _ (upto_ints 0 l)
theorem Imm.listr (σ : Heap) (l : List (List Int)) : Imm σ (.list (rows l)) (.list (rows l)) := .refl _ (upto_rows 0 l)
theorem Imm.lista (σ : Heap) (l : List (List Int)) : Imm σ (.list (aggs l)) (.list (aggs l)) := .refl _ (upto_aggs 0 l)
theorem ints_get {l : List Int} {i : Nat} {c : PV} (h : (ints l)[i]? = some c) : ∃ x, l[i]? = some x ∧ c = .int .i64 x := by
  simp only [ints, List.getElem?_map, Option.map_eq_some_iff] at h
  obtain ⟨x, h1, h2⟩ := h
  exact ⟨x, h1, h2.symm⟩
theorem aggs_get {l : List (List Int)} {i : Nat} {c : PV} (h : (aggs l)[i]? = some c) : ∃ x, l[i]? = some x ∧ c = .agg (ints x) := by
  simp only [aggs, List.getElem?_map, Option.map_eq_some_iff] at h
  obtain ⟨x, h1, h2⟩ := h
  exact ⟨x, h1, h2.symm⟩
theorem rows_get {l : List (List Int)} {i : Nat} {c : PV} (h : (rows l)[i]? = some c) : ∃ x, l[i]? = some x ∧ c = .list (ints x) := by
  simp only [rows, List.getElem?_map, Option.map_eq_some_iff] at h
  obtain ⟨x, h1, h2⟩ := h
  exact ⟨x, h1, h2.symm⟩
theorem Imm.refi {σ : Heap} {id ver : Nat} {e : TypeId} {l : List Int} (h : σ[id]? = some (.arr ver e 1 (ints l))) : Imm σ (.ref id ver 0 l.length) (.list (ints l)) :=
  .ref id ver 0 l.length e 1 (ints l) (ints l) h (by simp [ints_length]) (ints_length l)
    (fun i x d hx hd => by simp only [Nat.zero_add, hd, Option.some.injEq] at hx; subst hx; obtain ⟨y, _, rfl⟩ := ints_get hd; exact ⟨rfl, rfl⟩)
    (fun i x d j c c' hx hd hc hc' => by
      simp only [Nat.zero_add, hd, Option.some.injEq] at hx; subst hx
      obtain ⟨y, _, rfl⟩ := ints_get hd
      rw [hc] at hc'; cases hc'
      simp only [PV.cs] at hc
      have := List.mem_of_getElem? hc
      simp at this; subst this
      exact .int _ _ _)
theorem Imm.refn {σ : Heap} {id ver n : Nat} {e : TypeId} {l : List Int} (h : σ[id]? = some (.arr ver e 1 (ints l))) (hn : n = l.length) : Imm σ (.ref id ver 0 n) (.list (ints l)) := hn ▸ .refi h
theorem Imm.refp {σ : Heap} {id ver n o : Nat} {e : TypeId} {pre l post : List Int} (h : σ[id]? = some (.arr ver e 1 (ints (pre ++ l ++ post)))) (hn : n = l.length) (hpo : o = pre.length) : Imm σ (.ref id ver o n) (.list (ints l)) := by
  subst hn; subst hpo
  have hg : ∀ (i : Nat) (x d : PV), (ints (pre ++ l ++ post))[pre.length + i]? = some x → (ints l)[i]? = some d → x = d := fun i x d hx hd => by
    have hlt := (List.getElem?_eq_some_iff.1 hd).1
    rw [ints_length] at hlt
    rw [List.append_assoc, ← ints_append, List.getElem?_append_right (by simp [ints]), ints_length, Nat.add_sub_cancel_left, ← ints_append, List.getElem?_append_left (by rw [ints_length]; exact hlt), hd] at hx
    exact (Option.some.inj hx).symm
  refine .ref id ver pre.length l.length e 1 (ints (pre ++ l ++ post)) (ints l) h (by simp only [ints_length, List.length_append]; omega) (ints_length l) (fun i x d hx hd => ?_) (fun i x d j c c' hx hd hc hc' => ?_)
  · obtain rfl := hg i x d hx hd
    obtain ⟨y, _, rfl⟩ := ints_get hd
    exact ⟨rfl, rfl⟩
  · obtain rfl := hg i x d hx hd
    obtain ⟨y, _, rfl⟩ := ints_get hd
    rw [hc] at hc'; cases hc'
    have := List.mem_of_getElem? hc
    simp [PV.cs] at this; subst this
    exact .int _ _ _
theorem Imm.refa {σ : Heap} {id ver : Nat} {e : TypeId} {n : Nat} {l : List (List Int)} (h : σ[id]? = some (.arr ver e n (aggs l))) : Imm σ (.ref id ver 0 l.length) (.list (aggs l)) :=
  .ref id ver 0 l.length e n (aggs l) (aggs l) h (by simp [aggs_length]) (aggs_length l)
    (fun i x d hx hd => by simp only [Nat.zero_add, hd, Option.some.injEq] at hx; subst hx; obtain ⟨y, _, rfl⟩ := aggs_get hd; exact ⟨rfl, ints_ok y⟩)
    (fun i x d j c c' hx hd hc hc' => by
      simp only [Nat.zero_add, hd, Option.some.injEq] at hx; subst hx
      obtain ⟨y, _, rfl⟩ := aggs_get hd
      rw [hc] at hc'; cases hc'
      exact .refl _ ((Plain.ints y c (List.mem_of_getElem? hc)).up))

/-! ### Renumbering, reckoned out -/
section
variable (f : Nat → Nat)
@[go_sem] theorem sh_def (n i : Nat) : sh n i = i + n := Eq.trans rfl rfl
@[go_sem] theorem ren_int (k : IntKind) (n : Int) : (PV.int k n).ren f = .int k n := by simp [PV.ren]
@[go_sem] theorem ren_bool (b : Bool) : (PV.bool b).ren f = .bool b := by simp [PV.ren]
@[go_sem] theorem ren_nils : PV.nils.ren f = .nils := by simp [PV.ren]
@[go_sem] theorem ren_ref (i v o n : Nat) : (PV.ref i v o n).ren f = .ref (f i) v o n := by simp [PV.ren]
@[go_sem] theorem ren_tup (l : List PV) : (PV.tup l).ren f = .tup (l.map (PV.ren f)) := by simp [PV.ren]
@[go_sem] theorem ren_agg (l : List PV) : (PV.agg l).ren f = .agg (l.map (PV.ren f)) := by simp [PV.ren]
@[go_sem] theorem ren_list (l : List PV) : (PV.list l).ren f = .list (l.map (PV.ren f)) := by simp [PV.ren]
@[go_sem] theorem ren_ints (l : List Int) : (ints l).map (PV.ren f) = ints l := by simp [ints, PV.ren, Function.comp_def]
@[go_sem] theorem ren_aggs (l : List (List Int)) : (aggs l).map (PV.ren f) = aggs l := by
  simp only [aggs, List.map_map]
  exact List.map_congr_left fun m _ => by simp only [Function.comp_def, ren_agg, ren_ints]
@[go_sem] theorem ren_rows (l : List (List Int)) : (rows l).map (PV.ren f) = rows l := by
  simp only [rows, List.map_map]
  exact List.map_congr_left fun m _ => by simp only [Function.comp_def, ren_list, ren_ints]
@[go_sem] theorem ren_arr (v : Nat) (e : TypeId) (s : Nat) (l : List PV) : (AObj.arr v e s l).ren f = .arr v e s (l.map (PV.ren f)) := Eq.trans rfl rfl
@[go_sem] theorem ren_box (l : List PV) : (AObj.box l).ren f = .box (l.map (PV.ren f)) := Eq.trans rfl rfl
end

/-! ### Loops -/
/-- A loop, by a state that its rounds go through, and a number that falls. -/
theorem KL_ind {C : Cfg} {b : KC} {Q : Exit → Env → Heap → Prop} {env : Env} {σ : Heap} {α : Type} {b' : KC} (hb : b = b') (E : α → Env) (H : α → Heap) (I : α → Prop) (m : α → Nat) (live : List Nat) (x0 : α)
    (hE : keep live env = E x0) (hH : σ = H x0) (h0 : I x0)
    (step : ∀ x, I x → (∀ y, I y → m y < m x → ∀ env' σ', keep live env' = E y → σ' = H y → KL C b Q env' σ') → vc C b' (LK C b Q) (E x) (H x)) : KL C b Q env σ := by
  subst hb
  have key : ∀ (n : Nat) (x : α), m x < n → I x → KL C b Q (E x) (H x) := by
    intro n
    induction n with
    | zero => intro x h; omega
    | succ n ih =>
      intro x h hi
      refine KL_round (step x hi fun y hy hm env' σ' he hs => KL_keep live ?_)
      rw [he, hs]
      exact ih y (by omega) hy
  refine KL_keep live ?_
  rw [hE, hH]
  exact key (m x0 + 1) x0 (by omega) h0

/-! ### Results -/
theorem Ret.now {n0 : Nat} (v : PV) (σ : Heap) : Ret n0 v σ v σ := fun φ ι w x _ ho hr => ⟨φ, ι, .refl _ _ _ _, ho, hr⟩
theorem Fin.now {n0 : Nat} {K : PV → Heap → Prop} {v : PV} {σ : Heap} (h : K v σ) : Fin n0 K v σ := ⟨v, σ, .now v σ, h⟩
/-- What lies above is let go. -/
theorem Fin.drop {n0 : Nat} {K : PV → Heap → Prop} {v : PV} {σ : Heap} (n : Nat) (hn : n0 ≤ n) (hv : PV.upto n v) (hb : heapUpto n σ) (h : K v (σ.take n)) : Fin n0 K v σ :=
  ⟨v, σ.take n, fun φ ι w x _ ho hr => ⟨φ, ι.take n, Tr.trunc ho n hn, ho.trunc n hb, hv _ _ _ hr⟩, h⟩

/-- What is owned is frozen as it is handed back. -/
noncomputable def ownFrz (φ : Frz) (ι : List KLoc) (w : World) : Frz := fun b => match φ b with | some C => some C | none => (open Classical in if owned ι b then allFrz w b else none)
theorem Fin.freeze {K : PV → Heap → Prop} {v v' : PV} {σ : Heap} (hi : Imm σ v v') (hk : K v' []) : Fin 0 K v σ := by
  refine ⟨v', [], fun φ ι w x _ ho hr => ?_, hk⟩
  have hle : FLe φ (ownFrz φ ι w) := fun b C h => by simp [ownFrz, h]
  refine ⟨ownFrz φ ι w, [], ⟨hle, fun id l h => by simp at h, fun _ _ _ => rfl, Nat.le_refl _, fun b ⟨_, _, h, _⟩ => by simp at h, rfl, rfl, rfl, fun b C h => ?_⟩, ⟨rfl, fun b C h => ?_, fun id l b h => by simp at h, fun id id' l l' b h => by simp at h, fun id l b h => by simp at h, fun id o l h => by simp at h⟩, ?_⟩
  · unfold ownFrz at h
    split at h
    · rename_i D hD; simp only [Option.some.injEq] at h; subst h; exact .inl hD
    · split at h
      · rename_i ho'; exact .inr (.inl ho')
      · cases h
  · unfold ownFrz at h
    split at h
    · rename_i D hD; simp only [Option.some.injEq] at h; subst h; exact ho.fz b D hD
    · split at h
      · exact (allFrz_hok w).fz b C h
      · cases h
  · refine hi.rel ho hle (fun id l b C e f h1 h2 h3 => ?_) hr
    have hn := ho.nf id l b h1 h2
    have hw : owned ι b := ⟨id, l, h1, h2⟩
    simp [ownFrz, hn, hw, allFrz_own h3]
/-- Everything is let go but a value that speaks of nothing. -/
theorem Fin.clean {K : PV → Heap → Prop} {v : PV} {σ : Heap} (hv : PV.upto 0 v) (h : K v []) : Fin 0 K v σ := Fin.drop 0 (Nat.le_refl _) hv (fun o ho => by simp at ho) h
/-- One object of the heap is handed back; everything else is let go. -/
theorem one_ret {φ : Frz} {ι : List KLoc} {σ : Heap} {w : World} (ho : HOK φ ι σ w) {i : Nat} {ver esz : Nat} {e : TypeId} {xs : List PV} (hi : σ[i]? = some (.arr ver e esz xs)) (hp : ∀ c ∈ flat xs, Plain c) :
    ∃ l, ι[i]? = some l ∧ Tr 0 φ ι w φ [l] w ∧ HOK φ [l] [.arr ver e esz xs] w := by
  have hlt : i < ι.length := by rw [ho.len]; exact (List.getElem?_eq_some_iff.1 hi).1
  have hl := List.getElem?_eq_getElem hlt
  have ow : ∀ b, owned [ι[i]] b → owned ι b ∨ w.heap.size ≤ b := fun b ⟨id, l, h1, h2⟩ => by
    have := List.mem_of_getElem? h1
    simp at this; subst this
    exact .inl ⟨i, _, hl, h2⟩
  refine ⟨ι[i], hl, ⟨.refl _, fun id l h => by simp at h, fun _ _ _ => rfl, Nat.le_refl _, ow, rfl, rfl, rfl, fun _ _ h => .inl h⟩, ⟨rfl, ho.fz, fun id l b h1 h2 => ?_, fun id id' l l' b h1 h2 _ _ => ?_, fun id l b h1 h2 => ?_, fun id o l h1 h2 => ?_⟩⟩
  · have := List.mem_of_getElem? h1
    simp at this; subst this
    exact ho.nf i _ b hl h2
  · have h3 := (List.getElem?_eq_some_iff.1 h1).1
    have h4 := (List.getElem?_eq_some_iff.1 h2).1
    simp at h3 h4; omega
  · have := List.mem_of_getElem? h1
    simp at this; subst this
    exact ho.lt i _ b hl h2
  · have e1 := List.mem_of_getElem? h1
    have e2 := List.mem_of_getElem? h2
    simp at e1 e2; subst e1; subst e2
    have := ho.obj i _ _ hi hl
    cases hk : ι[i] with
    | dead => rw [hk] at this; simp [ObjOK] at this
    | box b => rw [hk] at this; simp [ObjOK] at this
    | arr v' e' s' u =>
      rw [hk] at this
      simp only [ObjOK] at this ⊢
      obtain ⟨g1, g2, g3, g4, ys, g5, g6, g7⟩ := this
      refine ⟨g1, g2, g3, g4, ys, g5, ?_, g7⟩
      have h5 : RelL φ [] (flat xs) ys := by simpa using g6.upto (n := 0) fun c hc => (hp c hc).up
      exact h5.mono (.refl _) (fun id l h => by simp at h)
theorem Fin.one {K : PV → Heap → Prop} {σ : Heap} {i ver esz len : Nat} {e : TypeId} {xs : List PV} (hi : σ[i]? = some (.arr ver e esz xs)) (hp : ∀ c ∈ flat xs, Plain c) (off : Nat) (h : K (.ref 0 ver off len) [.arr ver e esz xs]) : Fin 0 K (.ref i ver off len) σ :=
  ⟨_, _, fun φ ι w x _ ho hr => by
    obtain ⟨l, hl, htr, hok⟩ := one_ret ho hi hp
    refine ⟨φ, [l], htr, hok, ?_⟩
    cases hr with
    | ref _ _ _ _ _ k e s u hh ho' hk hv => exact .ref 0 ver off len x k e s u (by rw [hl] at hh; simpa using hh) ho' hk hv, h⟩
theorem Fin.oneT {K : PV → Heap → Prop} {σ : Heap} {i ver esz len : Nat} {e : TypeId} {xs : List PV} {k : IntKind} {r : Int} (hi : σ[i]? = some (.arr ver e esz xs)) (hp : ∀ c ∈ flat xs, Plain c) (off : Nat) (h : K (.tup [.ref 0 ver off len, .int k r]) [.arr ver e esz xs]) : Fin 0 K (.tup [.ref i ver off len, .int k r]) σ :=
  ⟨_, _, fun φ ι w x _ ho hr => by
    obtain ⟨l, hl, htr, hok⟩ := one_ret ho hi hp
    refine ⟨φ, [l], htr, hok, ?_⟩
    obtain ⟨vs, rfl, hR⟩ := hr.tup_inv
    obtain ⟨v1, hv1, hr1⟩ := hR.get (i := 0) rfl
    obtain ⟨v2, hv2, hr2⟩ := hR.get (i := 1) rfl
    have hlen := hR.1
    obtain ⟨a, b, rfl⟩ : ∃ a b, vs = [a, b] := by
      match vs, hlen with
      | [a, b], _ => exact ⟨a, b, rfl⟩
    simp at hv1 hv2; subst hv1; subst hv2
    have h1 : Rel φ [l] (.ref 0 ver off len) a := by
      cases hr1 with
      | ref _ _ _ _ _ k e s u hh ho' hk hv => exact .ref 0 ver off len a k e s u (by rw [hl] at hh; simpa using hh) ho' hk hv
    have h2 : Rel φ [l] (.int k r) b := hr2.int_inv ▸ .int k r
    have := RelL.cons h1 (RelL.cons h2 (RelL.nil φ [l]))
    exact .tup _ _ this.1 this.2, h⟩
/-- A call that hands back a new slice of numbers, and a number. -/
def NewI (P : Program) (f : FuncId) (args : List PV) (e : TypeId) (l : List Int) (r : Int) : Prop :=
  ACall P f args [] fun v s => ∃ ver, ∃ pre post : List Int, v = .tup [.ref 0 ver pre.length l.length, .int .i64 r] ∧ s = [.arr ver e 1 (ints (pre ++ l ++ post))]
theorem NewI.mk {P : Program} {f : FuncId} {args : List PV} {e : TypeId} {l : List Int} {r : Int} (ver : Nat) (pre post : List Int) (h : ACall P f args [] fun v s => v = .tup [.ref 0 ver pre.length l.length, .int .i64 r] ∧ s = [.arr ver e 1 (ints (pre ++ l ++ post))]) : NewI P f args e l r :=
  ACall.mono h fun v s hs => ⟨ver, pre, post, hs⟩
theorem NewI.call {P : Program} {f : FuncId} {args : List PV} {e : TypeId} {l : List Int} {r : Int} (h : NewI P f args e l r) {σ : Heap} {K : PV → Heap → Prop} (ha : ∀ a ∈ args, PV.upto 0 a)
    (hk : ∀ (ver : Nat) (pre post : List Int), K (.tup [.ref σ.length ver pre.length l.length, .int .i64 r]) (σ ++ [.arr ver e 1 (ints (pre ++ l ++ post))])) : ACall P f args σ K := by
  refine ACall.frame h ha fun v s ⟨ver, pre, post, hv, hs⟩ => ?_
  subst hv; subst hs
  simpa only [ren_tup, ren_ref, ren_int, ren_arr, ren_ints, List.map_cons, List.map_nil, sh_def, Nat.zero_add] using hk ver pre post
theorem NewI.lend {P : Program} {f : FuncId} {args args' : List PV} {e : TypeId} {l : List Int} {r : Int} (h : NewI P f args' e l r) {σ : Heap} {K : PV → Heap → Prop} (ha : ImmL σ args args')
    (hk : ∀ (ver : Nat) (pre post : List Int), K (.tup [.ref σ.length ver pre.length l.length, .int .i64 r]) (σ ++ [.arr ver e 1 (ints (pre ++ l ++ post))])) : ACall P f args σ K := by
  refine ACall.lend h ha fun v s ⟨ver, pre, post, hv, hs⟩ => ?_
  subst hv; subst hs
  refine ⟨⟨free_tup fun c hc => ?_, fun o ho => ?_⟩, by simpa only [ren_tup, ren_ref, ren_int, ren_arr, ren_ints, List.map_cons, List.map_nil, sh_def, Nat.zero_add] using hk ver pre post⟩
  · simp only [List.mem_cons, List.not_mem_nil, or_false] at hc
    rcases hc with rfl | rfl
    · exact free_ref _ _ _ _
    · exact (Plain.int _ _).fr
  · simp only [List.mem_cons, List.not_mem_nil, or_false] at ho
    subst ho
    intro c hc
    rw [flat_ints] at hc
    exact (Plain.ints _ c hc).fr
theorem up_ints : ∀ (l : List Int), ∀ a ∈ l.map (PV.int .i64), PV.upto 0 a := fun l a h => (Plain.ints l a h).up
theorem up1 {a : PV} (h : PV.upto 0 a) : ∀ x ∈ [a], PV.upto 0 x := fun x hx => by simp at hx; subst hx; exact h
theorem up2 {a b : PV} (h : PV.upto 0 a) (h' : PV.upto 0 b) : ∀ x ∈ [a, b], PV.upto 0 x := fun x hx => by simp at hx; rcases hx with rfl | rfl <;> assumption
end Go.Kv
