/- slices.AppendSeq over slices.Values of a slice of numbers: over abstract values. -/
import Derived.Test.YtpepbomifjbgnaaRV
import Derived.Test.YtpepbomifjbgnaaCb
import Derived.Test.YtpepbomifjbgnaaFC
namespace Go.Proofs.Ytpepbomifjbgnaa
open Go.Kv
set_option linter.unusedVariables false
set_option linter.unusedSimpArgs false
attribute [local irreducible] ACall PCall KL
theorem flat_intsE (l : List Int) : flat (ints l) = ints l := by
  induction l with
  | nil => rfl
  | cons a l ih => show _ :: flat (ints l) = _; rw [ih]; rfl
theorem callOwn1 {P : Program} {f : FuncId} {args : List PV} {σ : Heap} {K : PV → Heap → Prop} (he : EnterOK P f) {e : TypeId} {l : List Int}
    (h : ∀ φ ι w vs, RelL φ ι args vs → HOK φ ι σ w → Calls P f vs.toArray w fun en w' => ∃ v, en = .returned v ∧ w'.ownsRow w.heap.size e 1 v l.length (l.map (Value.int .i64)) ∧ Go.RowKit.Below w.heap.size w w')
    (ver : Nat) (hk : K (.ref σ.length ver 0 l.length) (σ ++ [.arr ver e 1 (ints l)])) : ACall P f args σ K := by
  unfold ACall
  refine ⟨he, fun φ ι w vs hr ho => (h φ ι w vs hr ho).mono ?_⟩
  rintro en w' ⟨v, rfl, hrow, hb⟩
  have hw : ∀ b, b < w.heap.size → w'.heap[b]? = w.heap[b]? := fun b hb' => hb.block b hb'
  have hblk : ∀ b, (KLoc.arr ver e 1 v).block = some b → w.heap.size ≤ b ∧ b < w'.heap.size := fun b hbb => by
    rcases hrow.2 with ⟨rfl, _⟩ | ⟨g, cap, cur, rfl, hg, hgb, _⟩
    · simp [KLoc.block, Value.ownBlock] at hbb
    · simp only [KLoc.block, Value.ownBlock, Option.some.injEq] at hbb
      subst hbb; exact ⟨hg, heap_lt hgb⟩
  have hflat := flat_intsE l
  refine ⟨.ref σ.length ver 0 l.length, v, φ, ι ++ [.arr ver e 1 v], _, rfl, ?_, Tr.push _ hw hb.size hb.os hb.tape hb.output (fun b h => (hblk b h).1), ho.push (o := .arr ver e 1 (ints l)) (l := .arr ver e 1 v) hw hb.size hblk ⟨rfl, rfl, rfl, by decide, l.map (Value.int .i64), ?_, ?_, ?_, ?_⟩, hk⟩
  · refine .ref _ ver 0 l.length v ver e 1 v ?_ ?_ (Nat.le_refl _) fun _ => ?_
    · rw [← ho.len]; simp
    · rcases hrow.2 with ⟨rfl, _⟩ | ⟨g, cap, cur, rfl, _⟩ <;> rfl
    · rcases hrow.2 with ⟨rfl, hz⟩ | ⟨g, cap, cur, rfl, _, _, hcap, _⟩
      · exact .inr ⟨rfl, rfl, hz, rfl⟩
      · exact .inl ⟨g, l.length, cap, 0, rfl, by omega, by simp, fun _ => by simp, fun _ => rfl⟩
  · rw [show (ints l).length = l.length by simp [ints]]
    refine ⟨hrow.1, ?_⟩
    rcases hrow.2 with hn | ⟨g, cap, cur, rfl, hg, rest⟩
    · exact .inl hn
    · exact .inr ⟨g, cap, cur, rfl, Nat.zero_le _, rest⟩
  · rw [hflat]
    refine ⟨by simp [ints], fun i c v hc hv => ?_⟩
    obtain ⟨x, hx, rfl⟩ := ints_get hc
    rw [List.getElem?_map, hx] at hv
    simp only [Option.map_some, Option.some.injEq] at hv
    subst hv; exact .int _ _
  · rw [hflat]; simp [ints, PV.ok]
  · intro x hx
    simp only [ints, List.mem_map] at hx
    obtain ⟨y, _, rfl⟩ := hx; rfl
theorem fptr1_inv {φ : Frz} {ι : List KLoc} {c : PV} {v : Value} (h : Rel φ ι (.fptr [c] 0) v) : ∃ b o C u, φ b = some C ∧ v = .pointer (some ⟨b, o, none⟩) ∧ C[o]? = some u ∧ Rel φ ι c u := by
  cases h with
  | fptr _ _ b o C hb hok g hg h => exact ⟨b, o, C, g 0, hb, rfl, by simpa using hg 0 c rfl, h 0 c rfl⟩
theorem rel_intsAt {φ : Frz} {ι : List KLoc} {σ : Heap} {w : World} (ho : HOK φ ι σ w) {l : List Int} {v : Value} (h : Rel φ ι (.list (ints l)) v) : IntsAt w.heap.size w v l := by
  generalize hx : ints l = xs at h
  cases h with
  | list0 cap a => exact .inl ⟨by cases l with | nil => rfl | cons => simp [ints] at hx, _, _, rfl⟩
  | listn => exact .inl ⟨by cases l with | nil => rfl | cons => simp [ints] at hx, _, _, rfl⟩
  | list _ esz b o len cap C hl hc hb hsz g hg h =>
    subst hx
    have hl : len = l.length := by rw [← hl]; simp [ints]
    subst hl
    obtain ⟨e, f, hw⟩ := ho.fz b C hb
    refine .inr ⟨b, o, cap, rfl, heap_lt hw, fun j hj => ?_⟩
    have hj' : (ints l)[j]? = some (.int .i64 l[j]) := by simp [ints, hj]
    have he : esz = 1 := (hsz j _ hj').1.symm
    subst he
    have h1 := hg j _ 0 (.int .i64 l[j]) hj' rfl
    have h2 := (h j _ 0 (.int .i64 l[j]) hj' rfl).int_inv
    rw [h2] at h1
    simp only [World.cell?, hw]
    simpa [hj] using h1
theorem p135 (l : List Int) (hl : l.length ≤ 1048576) (σ : Heap) (K : PV → Heap → Prop) (hK : K (.ref σ.length 0 0 l.length) (σ ++ [.arr 0 2 1 (ints l)])) :
    ACall Try.prog 135 [.nils, .fn (.func 97) [] [.fptr [.list (ints l)] 0]] σ K := by
  refine callOwn1 ⟨Try.f135, Try.func135, by kernel_rfl, by kernel_rfl⟩ (fun φ ι w vs hr ho => ?_) 0 hK
  obtain ⟨v0, h0, r0⟩ := hr.get (i := 0) rfl
  obtain ⟨v1, h1, r1⟩ := hr.get (i := 1) rfl
  obtain ⟨x, y, rfl, hx, hy⟩ := r1.fn_inv
  obtain ⟨u, hu, ru⟩ := hy.get (i := 0) rfl
  obtain ⟨b, o, C, sv, hb, rfl, hC, rs⟩ := fptr1_inv ru
  have e0 := r0.nils_inv
  subst e0
  have ex : x = [] := List.eq_nil_of_length_eq_zero hx.1.symm
  subst ex
  have ey : y = [.pointer (some ⟨b, o, none⟩)] := by
    have hyl := hy.1
    match y, hyl, hu with
    | [a], _, hu => simpa using hu
  subst ey
  have ev : vs = [.slice none 0 0, .func (.func 97) #[] #[.pointer (some ⟨b, o, none⟩)]] := by
    have hvl := hr.1
    match vs, hvl, h0, h1 with
    | [a, c], _, h0, h1 => simp only [List.getElem?_cons_zero, Option.some.injEq] at h0; simp only [List.getElem?_cons_succ, List.getElem?_cons_zero, Option.some.injEq] at h1; rw [h0, h1]
  subst ev
  obtain ⟨e, f, hw⟩ := ho.fz b C hb
  have hml : (1048576 : Nat) ≤ maxLen := by decide
  exact (callsIn_wide (n := 3)).1 (apSeq_in Fence.wide 3 trivial trivial rfl (by decide) b o sv l (by omega) (by omega) w (heap_lt hw) (by simp only [World.cell?, hw]; simpa using hC) (rel_intsAt ho rs))
end Go.Proofs.Ytpepbomifjbgnaa
