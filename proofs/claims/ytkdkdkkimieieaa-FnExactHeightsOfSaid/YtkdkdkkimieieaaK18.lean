/- Values that speak of nothing in the heap; calls whose arguments are such. -/
import Derived.Test.YtkdkdkkimieieaaK15
namespace Go.Kv
set_option linter.unusedVariables false
set_option linter.unusedSimpArgs false
/-- A value that speaks of nothing in the heap, and that no renumbering changes. -/
class Still (c : PV) : Prop where
  up : PV.upto 0 c
  rn : ∀ f : Nat → Nat, c.ren f = c
class StillL (cs : List PV) : Prop where
  all : ∀ c ∈ cs, Still c
class PlainC (c : PV) : Prop where
  p : Plain c
class PlainL (cs : List PV) : Prop where
  all : ∀ c ∈ cs, Plain c
instance {k : IntKind} {n : Int} : PlainC (.int k n) := ⟨.int _ _⟩
instance {b : Bool} : PlainC (.bool b) := ⟨.bool _⟩
instance : PlainC .nils := ⟨.nils⟩
instance : PlainC .undef := ⟨.undef⟩
instance : PlainL [] := ⟨fun c h => by simp at h⟩
instance {c : PV} {cs : List PV} [h : PlainC c] [h' : PlainL cs] : PlainL (c :: cs) := ⟨fun x hx => by
  rcases List.mem_cons.1 hx with rfl | hx
  · exact h.p
  · exact h'.all x hx⟩
instance {l : List Int} : PlainL (ints l) := ⟨Plain.ints l⟩
instance {cs : List PV} [h : PlainL cs] : PlainC (.agg cs) := ⟨.agg h.all⟩
instance {cs : List PV} [h : PlainL cs] : PlainC (.tup cs) := ⟨.tup h.all⟩

theorem ren_map {cs : List PV} (h : ∀ c ∈ cs, Still c) (f : Nat → Nat) : cs.map (PV.ren f) = cs := by
  conv => rhs; rw [← List.map_id cs]
  exact List.map_congr_left fun c hc => (h c hc).rn f
instance {k : IntKind} {n : Int} : Still (.int k n) := ⟨(Plain.int _ _).up, (Plain.int _ _).rn⟩
instance {b : Bool} : Still (.bool b) := ⟨(Plain.bool _).up, (Plain.bool _).rn⟩
instance {s : List UInt8} : Still (.str s) := ⟨fun φ ι v h => by cases h; exact .str _, fun _ => by simp [PV.ren]⟩
instance : Still .nils := ⟨Plain.nils.up, Plain.nils.rn⟩
instance : Still .undef := ⟨Plain.undef.up, Plain.undef.rn⟩
instance : Still .nilptr := ⟨fun φ ι v h => by cases h; exact .nilptr, fun _ => by simp [PV.ren]⟩
instance : Still .nilf := ⟨fun φ ι v h => by cases h; exact .nilf, fun _ => by simp [PV.ren]⟩
instance : StillL [] := ⟨fun c h => by simp at h⟩
instance {c : PV} {cs : List PV} [h : Still c] [h' : StillL cs] : StillL (c :: cs) := ⟨fun x hx => by
  rcases List.mem_cons.1 hx with rfl | hx
  · exact h
  · exact h'.all x hx⟩
instance {l : List Int} : StillL (ints l) := ⟨fun c hc => ⟨(Plain.ints l c hc).up, (Plain.ints l c hc).rn⟩⟩
instance {cs : List PV} [h : StillL cs] : Still (.agg cs) := ⟨fun φ ι v hr => by
    cases hr with
    | agg _ vs h1 h2 h3 => exact .agg cs vs h1 h2 fun i c v hc hv => (h.all c (List.mem_of_getElem? hc)).up _ _ _ (h3 i c v hc hv),
  fun f => by simp only [PV.ren, renL_eq]; rw [ren_map h.all]⟩
instance {cs : List PV} [h : StillL cs] : Still (.tup cs) := ⟨fun φ ι v hr => by
    cases hr with
    | tup _ vs h1 h3 => exact .tup cs vs h1 fun i c v hc hv => (h.all c (List.mem_of_getElem? hc)).up _ _ _ (h3 i c v hc hv),
  fun f => by simp only [PV.ren, renL_eq]; rw [ren_map h.all]⟩
instance {cs : List PV} {o : Nat} [h : StillL cs] : Still (.fptr cs o) := ⟨fun φ ι v hr => by
    cases hr with
    | fptr _ _ b o' C hb hok g hg hh => exact .fptr cs o b o' C hb hok g hg fun j c hc => (h.all c (List.mem_of_getElem? hc)).up _ _ _ (hh j c hc),
  fun f => by simp only [PV.ren, renL_eq]; rw [ren_map h.all]⟩
instance {f : Fn} {a b : List PV} [h : StillL a] [h' : StillL b] : Still (.fn f a b) := ⟨upto_fn 0 f (fun c hc => (h.all c hc).up) (fun c hc => (h'.all c hc).up),
  fun g => by simp only [PV.ren, renL_eq]; rw [ren_map h.all, ren_map h'.all]⟩
theorem Still.list {xs : List PV} (h : ∀ x ∈ xs, Still x ∧ ∀ c ∈ x.cs, PV.upto 0 c) : Still (.list xs) := ⟨upto_list 0 fun x hx => (h x hx).2, fun f => by simp only [PV.ren, renL_eq]; rw [ren_map fun x hx => (h x hx).1]⟩
instance {l : List Int} : Still (.list (ints l)) := ⟨upto_ints 0 l, fun f => by simp only [PV.ren, renL_eq, ren_ints]⟩
instance {l : List (List Int)} : Still (.list (rows l)) := ⟨upto_rows 0 l, fun f => by simp only [PV.ren, renL_eq, ren_rows]⟩
instance {l : List (List Int)} : Still (.list (aggs l)) := ⟨upto_aggs 0 l, fun f => by simp only [PV.ren, renL_eq, ren_aggs]⟩
instance : Still (.list []) := ⟨upto_list 0 (by simp), fun f => by simp [PV.ren]⟩
theorem Imm.fnc {σ : Heap} (f : Fn) {b b' : List PV} (h : ImmL σ b b') : Imm σ (.fn f [] b) (.fn f [] b') := .fn f [] b [] b' rfl h.1 (by simp) h.2
theorem up_self {σ : Heap} {cs : List PV} (h : ∀ c ∈ cs, PV.upto 0 c) : ImmL σ cs cs := ⟨rfl, fun i c d h1 h2 => by rw [h1] at h2; cases h2; exact .refl _ (h _ (List.mem_of_getElem? h1))⟩
theorem Imm.still {σ : Heap} {c : PV} [h : Still c] : Imm σ c c := .refl _ h.up
theorem StillL.up {cs : List PV} (h : StillL cs) : ∀ c ∈ cs, PV.upto 0 c := fun c hc => (h.all c hc).up
theorem ImmL.still {σ : Heap} {cs : List PV} (h : StillL cs) : ImmL σ cs cs := ⟨rfl, fun i c d hc hd => by rw [hc] at hd; cases hd; exact .refl _ (h.all c (List.mem_of_getElem? hc)).up⟩
/-- A call whose arguments and whose result speak of nothing in the heap. -/
theorem Pure.go {P : Program} {f : FuncId} {args : List PV} {r : PV} {σ : Heap} {K : PV → Heap → Prop} (h : Pure P f args r) [ha : StillL args] [hr : Still r] (hk : K r σ) : ACall P f args σ K :=
  ACall.frame h ha.up fun v s ⟨hv, hs⟩ => by
    subst hv; subst hs
    rw [hr.rn]; simpa using hk
theorem Pure.pgo {P : Program} {f : FuncId} {args : List PV} {r : PV} {σ : Heap} {K : PV → Prop} (h : Pure P f args r) [ha : StillL args] [hr : PlainC r] (hk : K r) : PCall P f args σ K :=
  h.puse hr.p (.still ha) hk
/-- Lent arguments, a plain result. -/
theorem Pure.lend {P : Program} {f : FuncId} {args args' : List PV} {r : PV} {σ : Heap} {K : PV → Heap → Prop} (h : Pure P f args r) (hi : ImmL σ args' args) [hr : PlainC r] (hk : K r σ) : ACall P f args' σ K := h.use hr.p hi hk
/-- New objects, whose values speak of these alone. -/
theorem ACall.go {P : Program} {f : FuncId} {args : List PV} {σ : Heap} {K K' : PV → Heap → Prop} (h : ACall P f args [] K') [ha : StillL args] (hk : ∀ v s, K' v s → K (v.ren (sh σ.length)) (σ ++ s.map (AObj.ren (sh σ.length)))) : ACall P f args σ K := ACall.frame h ha.up hk
theorem put6 {cs vs : List PV} (h : vs.length = 6) (h' : cs.length = 6) : putC cs 0 vs = vs := by
  unfold putC
  split
  · simp at h
  · simp [h, h']
theorem put5 {cs vs : List PV} (h : vs.length = 5) (h' : cs.length = 5) : putC cs 0 vs = vs := by
  unfold putC
  split
  · simp at h
  · simp [h, h']
@[go_sem] theorem put15 {a : PV} {z : List PV} {m : List Int} (hz : z.length = 5) (hm : m.length = 5) : putC (a :: z) 1 (ints m) = a :: ints m := by
  unfold putC
  split
  · rename_i v hv
    have := congrArg List.length hv
    simp [ints, hm] at this
  · simp [ints_length, hm, ← hz]; omega
theorem sub6 {cs : List PV} (h : cs.length = 6) : subC cs 0 6 = cs := by simp [subC, h]
theorem take6 {α : Type} {l : List α} (h : l.length = 6) : l.take 6 = l := by rw [← h, List.take_length]
attribute [go_sem high] put6 sub6
theorem Fin.still {K : PV → Heap → Prop} {v : PV} {σ : Heap} [h : Still v] (hk : K v []) : Fin 0 K v σ := Fin.clean h.up hk
@[go_sem] theorem aggs_append (l m : List (List Int)) : aggs l ++ aggs m = aggs (l ++ m) := by simp [aggs]
/-! ### A slice that begins as nil and grows by one each round -/
def nref (id : Nat) : Nat → PV
  | 0 => .nils
  | x + 1 => .ref id x 0 (x + 1)
def nhp (σ : Heap) : Nat → Heap
  | 0 => []
  | _ + 1 => σ
@[go_sem] theorem nref_zero (id : Nat) : nref id 0 = .nils := Eq.trans rfl rfl
@[go_sem] theorem nref_succ (id x : Nat) : nref id (x + 1) = .ref id x 0 (x + 1) := Eq.trans rfl rfl
@[go_sem] theorem nhp_zero (σ : Heap) : nhp σ 0 = [] := Eq.trans rfl rfl
@[go_sem] theorem nhp_succ (σ : Heap) (x : Nat) : nhp σ (x + 1) = σ := Eq.trans rfl rfl
@[go_sem] theorem OpK_nref {P : Program} {d : Option Nat} {r : List KO} {Q : Exit → Env → Heap → Prop} {env : Env} {σ : Heap} (id x : Nat) : OpK P d r Q env (nref id x) σ = vOps P r Q (putD d (nref id x) env) σ := Eq.trans rfl rfl
theorem nref_pos {id x : Nat} (h : 0 < x) : nref id x = .ref id (x - 1) 0 x := by cases x with | zero => omega | succ x => rfl
theorem nhp_pos {σ : Heap} {x : Nat} (h : 0 < x) : nhp σ x = σ := by cases x with | zero => omega | succ x => rfl
theorem flat_aggs {l : List (List Int)} : ∀ c ∈ flat (aggs l), Plain c := fun c hc => by
  obtain ⟨x, hx, hcx⟩ := List.mem_flatMap.1 hc
  simp only [aggs, List.mem_map] at hx
  obtain ⟨m, _, rfl⟩ := hx
  exact Plain.ints m c hcx
theorem flat_intsP {l : List Int} : ∀ c ∈ flat (ints l), Plain c := fun c hc => by
  rw [flat_ints] at hc; exact Plain.ints l c hc
/-! ### Heaps: what is new, what is old -/
theorem hp_new {σ : Heap} {n : Nat} (h : σ.length = n) (b : AObj) : (σ ++ [b])[n]? = some b := by subst h; simp
theorem hp_old {σ : Heap} {id : Nat} {o : AObj} (h : σ[id]? = some o) (s : Heap) : (σ ++ s)[id]? = some o := by
  rw [List.getElem?_append_left (List.getElem?_eq_some_iff.1 h).1]; exact h
theorem hp_setn {σ : Heap} {n : Nat} (h : σ.length = n) (b b' : AObj) : (σ ++ [b]).set n b' = σ ++ [b'] := by subst h; simp
theorem hp_seto {σ : Heap} {id : Nat} (h : id < σ.length) (o : AObj) (s : Heap) : (σ ++ s).set id o = σ.set id o ++ s := List.set_append_left _ _ h
theorem hp_same {σ : Heap} {id : Nat} {o : AObj} (h : σ[id]? = some o) : σ.set id o = σ := by
  apply List.ext_getElem?; intro j
  by_cases e1 : id = j
  · subst e1; rw [List.getElem?_set_self (List.getElem?_eq_some_iff.1 h).1, h]
  · rw [List.getElem?_set_ne e1]
/-! ### Values under a number of objects -/
mutual
def PV.undr (n : Nat) : PV → Bool
  | .undef | .int _ _ | .bool _ | .str _ | .nilptr | .nils | .nilf | .nili => true
  | .agg cs => PV.undrL n cs
  | .tup cs => PV.undrL n cs
  | .ptr id _ => decide (id < n)
  | .fptr cs _ => PV.undrL n cs
  | .list xs => PV.undrX n xs
  | .ref id _ _ _ => decide (id < n)
  | .eptr id _ _ _ => decide (id < n)
  | .bref id _ _ => decide (id < n)
  | .fn _ a b => PV.undrL n a && PV.undrL n b
def PV.undrL (n : Nat) : List PV → Bool
  | [] => true
  | c :: cs => c.undr n && PV.undrL n cs
def PV.undrX (n : Nat) : List PV → Bool
  | [] => true
  | c :: cs => c.undr n && PV.undrX n cs
end
theorem undrL_all {n : Nat} : ∀ {cs : List PV}, PV.undrL n cs = true → ∀ c ∈ cs, c.undr n = true
  | [], _, c, h => by simp at h
  | a :: cs, hb, c, h => by
    simp only [PV.undrL, Bool.and_eq_true] at hb
    rcases List.mem_cons.1 h with rfl | h
    · exact hb.1
    · exact undrL_all hb.2 c h
theorem undrX_all {n : Nat} : ∀ {cs : List PV}, PV.undrX n cs = true → ∀ c ∈ cs, c.undr n = true
  | [], _, c, h => by simp at h
  | a :: cs, hb, c, h => by
    simp only [PV.undrX, Bool.and_eq_true] at hb
    rcases List.mem_cons.1 h with rfl | h
    · exact hb.1
    · exact undrX_all hb.2 c h
theorem undr_cells {n : Nat} {x : PV} (h : x.undr n = true) : ∀ c ∈ x.cs, c.undr n = true := by
  cases x <;> simp only [PV.cs, List.mem_singleton, forall_eq] <;> first | exact h | skip
  simp only [PV.undr] at h
  exact undrL_all h
theorem Rel.undr {φ : Frz} {ι : List KLoc} {n : Nat} {c : PV} {v : Value} (hr : Rel φ ι c v) : c.undr n = true → Rel φ (ι.take n) c v := by
  induction hr with
  | undef v => exact fun _ => .undef v
  | int k m => exact fun _ => .int k m
  | bool b => exact fun _ => .bool b
  | str s => exact fun _ => .str s
  | agg cs vs h1 h2 _ ih =>
    intro h; simp only [PV.undr] at h
    exact .agg cs vs h1 h2 fun i c v hc hv => ih i c v hc hv (undrL_all h c (List.mem_of_getElem? hc))
  | tup cs vs h1 _ ih =>
    intro h; simp only [PV.undr] at h
    exact .tup cs vs h1 fun i c v hc hv => ih i c v hc hv (undrL_all h c (List.mem_of_getElem? hc))
  | ptr id off b hb =>
    intro h; simp only [PV.undr, decide_eq_true_eq] at h
    exact .ptr id off b (by rw [List.getElem?_take, if_pos h]; exact hb)
  | fptr cs off b o C hb hok g hg _ ih =>
    intro h; simp only [PV.undr] at h
    exact .fptr cs off b o C hb hok g hg fun j c hc => ih j c hc (undrL_all h c (List.mem_of_getElem? hc))
  | nilptr => exact fun _ => .nilptr
  | nils => exact fun _ => .nils
  | list0 cap a => exact fun _ => .list0 cap a
  | listn => exact fun _ => .listn
  | list xs esz b o len cap C h1 hc hb hsz g hg _ ih =>
    intro h; simp only [PV.undr] at h
    exact .list xs esz b o len cap C h1 hc hb hsz g hg fun i x j c hx hcj => ih i x j c hx hcj (undr_cells (undrX_all h x (List.mem_of_getElem? hx)) c (List.mem_of_getElem? hcj))
  | ref id ver off len v k e esz u hh ho hk hv =>
    intro h; simp only [PV.undr, decide_eq_true_eq] at h
    exact .ref id ver off len v k e esz u (by rw [List.getElem?_take, if_pos h]; exact hh) ho hk hv
  | eptr id ver i off v k e esz u hh ho hk hv =>
    intro h; simp only [PV.undr, decide_eq_true_eq] at h
    exact .eptr id ver i off v k e esz u (by rw [List.getElem?_take, if_pos h]; exact hh) ho hk hv
  | bref id off len b cap hh hc =>
    intro h; simp only [PV.undr, decide_eq_true_eq] at h
    exact .bref id off len b cap (by rw [List.getElem?_take, if_pos h]; exact hh) hc
  | fn f a b u v h1 h2 _ _ ih1 ih2 =>
    intro h; simp only [PV.undr, Bool.and_eq_true] at h
    exact .fn f a b u v h1 h2 (fun i c x hc hx => ih1 i c x hc hx (undrL_all h.1 c (List.mem_of_getElem? hc))) (fun i c x hc hx => ih2 i c x hc hx (undrL_all h.2 c (List.mem_of_getElem? hc)))
  | nilf => exact fun _ => .nilf
  | nili => exact fun _ => .nili
theorem undr_upto {n : Nat} {c : PV} (h : c.undr n = true) : PV.upto n c := fun φ ι v hr => hr.undr h
theorem undrL_ints (n : Nat) (l : List Int) : PV.undrL n (ints l) = true := by
  induction l with
  | nil => rfl
  | cons a l ih => simp only [ints, List.map_cons, PV.undrL, PV.undr, Bool.true_and] at ih ⊢; exact ih
theorem undrX_ints (n : Nat) (l : List Int) : PV.undrX n (ints l) = true := by
  induction l with
  | nil => rfl
  | cons a l ih => simp only [ints, List.map_cons, PV.undrX, PV.undr, Bool.true_and] at ih ⊢; exact ih
theorem undrX_aggs (n : Nat) (l : List (List Int)) : PV.undrX n (aggs l) = true := by
  induction l with
  | nil => rfl
  | cons a l ih => simp only [aggs, List.map_cons, PV.undrX, PV.undr, undrL_ints, Bool.true_and] at ih ⊢; exact ih
theorem undrX_rows (n : Nat) (l : List (List Int)) : PV.undrX n (rows l) = true := by
  induction l with
  | nil => rfl
  | cons a l ih => simp only [rows, List.map_cons, PV.undrX, PV.undr, undrX_ints, Bool.true_and] at ih ⊢; exact ih
/-- An environment, an object, a heap: undr. -/
def Env.undr (n : Nat) (env : Env) : Bool := env.all fun x => x.2.undr n
def AObj.undr (n : Nat) : AObj → Bool
  | .dead => true
  | .box cs => PV.undrL n cs
  | .arr _ _ _ xs => PV.undrX n xs
def Hb (n : Nat) (σ : Heap) : Prop := ∀ o ∈ σ, AObj.upto n o
theorem Env.undr_upto {n : Nat} {env : Env} (h : Env.undr n env = true) : Env.upto n env := fun x hx => by
  simp only [Env.undr, List.all_eq_true] at h
  exact Kv.undr_upto (h x hx)
theorem AObj.undr_upto {n : Nat} {o : AObj} (h : AObj.undr n o = true) : AObj.upto n o := by
  cases o with
  | dead => trivial
  | box cs => exact fun c hc => Kv.undr_upto (undrL_all h c hc)
  | arr _ _ _ xs =>
    intro c hc
    obtain ⟨x, hx, hcx⟩ := List.mem_flatMap.1 hc
    exact Kv.undr_upto (undr_cells (undrX_all h x hx) c hcx)
theorem Env.upto_nil (n : Nat) : Env.upto n [] := fun x h => by simp at h
theorem Env.upto_cons {n k : Nat} {v : PV} {env : Env} (h : PV.upto n v) (h' : Env.upto n env) : Env.upto n ((k, v) :: env) := fun x hx => by
  rcases List.mem_cons.1 hx with rfl | hx
  · exact h
  · exact h' x hx
theorem Still.upn {c : PV} (h : Still c) (n : Nat) : PV.upto n c := upto_mono h.up n
theorem Hb.nil (n : Nat) : Hb n [] := fun o h => by simp at h
theorem Hb.cons {n : Nat} {o : AObj} {σ : Heap} (h : AObj.undr n o = true) (h' : Hb n σ) : Hb n (o :: σ) := fun x hx => by
  rcases List.mem_cons.1 hx with rfl | hx
  · exact AObj.undr_upto h
  · exact h' x hx
theorem Hb.wf {σ : Heap} (h : Wf σ) : Hb σ.length σ := fun o ho => h o (by rw [List.take_length]; exact ho)
theorem Hb.set {n : Nat} {o : AObj} {σ : Heap} (h : Hb n σ) (ho : AObj.undr n o = true) (i : Nat) : Hb n (σ.set i o) := fun x hx => by
  rcases List.mem_or_eq_of_mem_set hx with hx | rfl
  · exact h x hx
  · exact AObj.undr_upto ho
attribute [go_sem] undrL_ints undrX_ints undrX_aggs undrX_rows
/-- A loop as in KL_ind, whose rounds may leave objects behind that nothing speaks of. -/
theorem KL_indD {C : Cfg} {b : KC} {Q : Exit → Env → Heap → Prop} {env : Env} {σ : Heap} {α : Type} {b' : KC} (hb : b = b') (E : α → Env) (H : α → Heap) (I : α → Prop) (m : α → Nat) (live : List Nat) (x0 : α)
    (hE : keep live env = E x0) (hH : ∃ junk, σ = H x0 ++ junk) (h0 : I x0)
    (wf : ∀ y, I y → C.n0 ≤ (H y).length ∧ Env.upto (H y).length (E y) ∧ Hb (H y).length (H y))
    (step : ∀ x, I x → (∀ y, I y → m y < m x → ∀ env' σ', keep live env' = E y → (∃ junk, σ' = H y ++ junk) → KL C b Q env' σ') → vc C b' (LK C b Q) (E x) (H x)) : KL C b Q env σ := by
  have drop : ∀ y, I y → ∀ junk, KL C b Q (E y) (H y) → KL C b Q (E y) (H y ++ junk) := fun y hy junk h => by
    obtain ⟨w1, w2, w3⟩ := wf y hy
    refine KL_drop (H y).length w1 (by simp) w2 (fun o ho => w3 o (by simpa using ho)) ?_
    simpa using h
  subst hb
  have key : ∀ (n : Nat) (x : α), m x < n → I x → KL C b Q (E x) (H x) := by
    intro n
    induction n with
    | zero => intro x h; omega
    | succ n ih =>
      intro x h hi
      refine KL_round (step x hi fun y hy hm env' σ' he ⟨junk, hs⟩ => KL_keep live ?_)
      rw [he, hs]
      exact drop y hy junk (ih y (by omega) hy)
  refine KL_keep live ?_
  obtain ⟨junk, hH⟩ := hH
  rw [hE, hH]
  exact drop x0 h0 junk (key (m x0 + 1) x0 (by omega) h0)
end Go.Kv
