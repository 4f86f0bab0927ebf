/- Several texts of this session as one. -/
import Derived.RangeFuncBox
import Derived.RangeFuncLeaves
import Derived.Shelf.Abstract
import Derived.WalkKit
import Derived.OwnWalkIn
import Derived.TacticsInMore
import Derived.LoopNIn
import Derived.LoopIn
import Derived.Maps.AppendAt
import Derived.Test.YtpepbomifjbgnaaProg
import Derived.Test.YtpepbomifjbgnaaCb
import Derived.Test.YtpepbomifjbgnaaFC
section
/- slices.AppendSeq over slices.Values of a slice of numbers: in the machine's own terms. -/
namespace Go.Proofs.Ytpepbomifjbgnaa
open Go.RowKit Go.Shelf
set_option linter.unusedVariables false
set_option linter.unusedSimpArgs false
attribute [local go_sem] Oper.semAt_some
def upTo {α : Type} (f : Nat → α) (k : Nat) : List α := (List.range k).map f
theorem upTo_succ {α : Type} (f : Nat → α) (k : Nat) : upTo f (k + 1) = upTo f k ++ [f k] := by simp [upTo, List.range_succ]
theorem upTo_length {α : Type} (f : Nat → α) (k : Nat) : (upTo f k).length = k := by simp [upTo]
theorem upTo_all (zs : List Int) : upTo (fun j => zs[j]?.getD 0) zs.length = zs := by
  apply List.ext_getElem
  · simp [upTo]
  · intro i h1 h2
    simp [upTo, h2]
theorem upTo_take (zs : List Int) {k : Nat} (hk : k ≤ zs.length) : upTo (fun j => zs[j]?.getD 0) k = zs.take k := by
  apply List.ext_getElem
  · simp [upTo, hk]
  · intro i h1 h2
    have : i < zs.length := by simp [upTo] at h1; omega
    simp [upTo, this]
set_option maxRecDepth 100000 in
set_option maxHeartbeats 2000000 in
theorem vals1_in (F : Fence) (n : Nat) (h7 : F.fn 97) (hro : F.round = none) (hn : 1 ≤ n) (l Bs o n₀ b off len cap : Nat) (zs : List Int) (hreach : len * 8 ≤ 140737488351232) (hb : b < n₀) (J Jx : List Int → World → Prop)
    (hY : ∀ pre x W, J pre W → pre.length < len → YieldAt F (n - 1) Try.prog l #[.int .i64 x] W fun e W' =>
      (e = .returned (.bool true) ∧ J (pre ++ [x]) W' ∧ Below n₀ W W') ∨ (e = .returned (.bool false) ∧ Jx (pre ++ [x]) W'))
    (W : World) (hBs : W.cell? ⟨Bs, o, none⟩ = some (.slice (some ⟨b, off, none⟩) len cap)) (hc : ∀ j, j < len → W.cell? ⟨b, off + j, none⟩ = some (.int .i64 (zs[j]?.getD 0))) (h0 : J [] W) :
    CallsIn F n Try.prog 97 #[.func (.yield l) #[] #[], .pointer (some ⟨Bs, o, none⟩)] W fun e W' => (∃ v, e = .returned v) ∧
      ((∃ ys, ys = upTo (fun j => zs[j]?.getD 0) len ∧ J ys W') ∨ (∃ pre, (∃ k, k ≤ len ∧ pre = upTo (fun j => zs[j]?.getD 0) k) ∧ Jx pre W')) := by
  refine callsIn_of_wp Try.func97 rfl h7 ?_ hro
  simp only [Try.ntmps97, List.size_toArray, List.length_cons, List.length_nil, Nat.reduceAdd, Nat.reduceSub, Array.replicate_succ, Array.replicate_zero, List.push_toArray, List.append_toArray, List.nil_append, List.cons_append]
  gi_wp2
  gi_loopw [7] (fun i wr => ∃ k : Nat, k ≤ len ∧ i = .int .i64 k ∧ J (upTo (fun j => zs[j]?.getD 0) k) wr ∧ Below n₀ W wr)
    (fun i _ => len - (intOf i).toNat)
  case atStart => exact ⟨0, Nat.zero_le _, rfl, h0, Below.refl _ _⟩
  case round =>
    obtain ⟨k, hk, rfl, hJs, hnx⟩ := hrel
    have hcx : k < len → wr.cell? ⟨b, off + k, none⟩ = some (.int .i64 (zs[k]?.getD 0)) := fun h => (hnx.cell (p := ⟨b, off + k, none⟩) hb).trans (hc k h)
    by_cases hlt : k < len
    · obtain ⟨fn, tmps, assign, body, hy, hR⟩ := hY _ (zs[k]?.getD 0) wr hJs (by rw [upTo_length]; exact hlt)
      have hcx' := hcx hlt
      gi_wp2
      refine hR.mono ?_
      rintro e W3 (⟨rfl, hJ3, hk3⟩ | ⟨rfl, hJx3⟩)
      · gi_wp2
        go_roundw
        case rel => exact ⟨k + 1, by omega, by simp, by rw [upTo_succ]; exact hJ3, hnx.trans hk3⟩
        case measure => simp [intOf]; omega
      · gi_wp2
        refine bodyPost_ret (results_none rfl _ _ _) rfl ?_
        exact ⟨⟨_, rfl⟩, .inr ⟨_, ⟨k + 1, by omega, (upTo_succ _ _).symm⟩, hJx3⟩⟩
    · obtain rfl : k = len := by omega
      gi_wp2
      go_end0
      exact ⟨⟨_, rfl⟩, .inl ⟨_, rfl, hJs⟩⟩
set_option maxRecDepth 100000 in
set_option maxHeartbeats 1000000 in
theorem vals1_none_in (F : Fence) (n : Nat) (h7 : F.fn 97) (hro : F.round = none) (l Bs o cap : Nat) (a : Option Addr) (J : List Int → World → Prop) (W : World) (hBs : W.cell? ⟨Bs, o, none⟩ = some (.slice a 0 cap)) (h0 : J [] W) :
    CallsIn F n Try.prog 97 #[.func (.yield l) #[] #[], .pointer (some ⟨Bs, o, none⟩)] W fun e W' => (∃ v, e = .returned v) ∧ J [] W' := by
  refine callsIn_of_wp Try.func97 rfl h7 ?_ hro
  simp only [Try.ntmps97, List.size_toArray, List.length_cons, List.length_nil, Nat.reduceAdd, Nat.reduceSub, Array.replicate_succ, Array.replicate_zero, List.push_toArray, List.append_toArray, List.nil_append, List.cons_append]
  gi_wp2
  gi_loopw [7] (fun i wr => i = .int .i64 0 ∧ J [] wr) (fun _ _ => 0)
  case atStart => exact ⟨rfl, h0⟩
  case round =>
    obtain ⟨rfl, hJs⟩ := hrel
    gi_wp2
    go_end0
    exact ⟨⟨_, rfl⟩, hJs⟩
/-- The slice value sv holds the numbers zs, in a block below n₀; or there are none. -/
def IntsAt (n₀ : Nat) (W : World) (sv : Value) (zs : List Int) : Prop :=
  (zs = [] ∧ ∃ a cap, sv = .slice a 0 cap) ∨ ∃ b off cap, sv = .slice (some ⟨b, off, none⟩) zs.length cap ∧ b < n₀ ∧ ∀ j, j < zs.length → W.cell? ⟨b, off + j, none⟩ = some (.int .i64 (zs[j]?.getD 0))
theorem IntsAt.below {n₀ : Nat} {A B : World} (h : Below n₀ A B) {sv : Value} {zs : List Int} : IntsAt n₀ A sv zs → IntsAt n₀ B sv zs
  | .inl e => .inl e
  | .inr ⟨b, off, cap, e, hb, hc⟩ => .inr ⟨b, off, cap, e, hb, fun j hj => (h.cell (p := ⟨b, off + j, none⟩) hb).trans (hc j hj)⟩
theorem vals_stops (F : Fence) (n : Nat) (h7 : F.fn 97) (hro : F.round = none) (hn : 1 ≤ n) (Bs o n₀ : Nat) (sv : Value) (zs : List Int) (hreach : zs.length * 8 ≤ 140737488351232) (w : World) (hBs : Bs < w.heap.size) (hn₀ : n₀ ≤ w.heap.size)
    (hc : w.cell? ⟨Bs, o, none⟩ = some sv) (hI : IntsAt n₀ w sv zs) :
    SeqStopsK F n Try.prog 97 #[.pointer (some ⟨Bs, o, none⟩)] (fun x : Int => #[Value.int .i64 x]) (Below n₀) (fun ys => ys = zs) (fun pre => pre <+: zs) zs.length w := fun l J Jx W hW _ _ hY h0 => by
  have hc' := (hW.cell (p := ⟨Bs, o, none⟩) hBs).trans hc
  rcases hI.below (hW.mono hn₀) with ⟨rfl, a, cap, rfl⟩ | ⟨b, off, cap, rfl, hb, hcs⟩
  · exact (vals1_none_in F n h7 hro l Bs o cap a J W hc' h0).mono fun e W' ⟨he, hj⟩ => ⟨he, .inl ⟨_, rfl, hj⟩⟩
  · refine (vals1_in F n h7 hro hn l Bs o n₀ b off zs.length cap zs hreach hb J Jx hY W hc' hcs h0).mono ?_
    rintro e W' ⟨he, ⟨ys, rfl, hj⟩ | ⟨pre, ⟨k, hk, rfl⟩, hj⟩⟩
    · exact ⟨he, .inl ⟨_, upTo_all zs, hj⟩⟩
    · exact ⟨he, .inr ⟨_, by rw [upTo_take zs hk]; exact List.take_prefix _ _, hj⟩⟩
theorem info_i64 : (Try.prog.info? 2).map (fun i => (i.zero, i.size, i.bytes)) = some (some (.int .i64 0), 1, 8) := by kernel_rfl
set_option maxRecDepth 100000 in
set_option maxHeartbeats 2000000 in
theorem apSeq_in (F : Fence) (n : Nat) (h3 : F.fn 135) (h4 : F.fn 97) (hro : F.round = none) (hn : 3 ≤ n) (Bs o : Nat) (sv : Value) (zs : List Int) (hlen : zs.length ≤ maxLen) (hbytes : zs.length * 8 ≤ 140737488351232) (w : World) (hBs : Bs < w.heap.size) (hc : w.cell? ⟨Bs, o, none⟩ = some sv) (hI : IntsAt w.heap.size w sv zs) :
    CallsIn F n Try.prog 135 #[.slice none 0 0, .func (.func 97) #[] #[.pointer (some ⟨Bs, o, none⟩)]] w fun e W' => ∃ v, e = .returned v ∧ W'.ownsRow w.heap.size 2 1 v zs.length (zs.map (Value.int .i64)) ∧ Below w.heap.size w W' := by
  have h1 : 1 ≤ n := by omega
  obtain ⟨i0, hi, hz0, hz1, hz2⟩ := info_parts info_i64
  refine callsIn_of_wp_marks Try.func135 rfl h3 ?_ hro
  simp only [Try.ntmps135, List.size_toArray, List.length_cons, List.length_nil, Nat.reduceAdd, Nat.reduceSub, Array.replicate_succ, Array.replicate_zero, List.push_toArray, List.append_toArray, List.nil_append, List.cons_append]
  gi_wp2
  have bO := Boxed.new w 23 (.slice none 0 0)
  have hB0 : Below w.heap.size w (w.alloc (.cells #[.slice none 0 0] 23)) := (Below.refl _ w).alloc (Nat.le_refl _) _
  refine wpIn_rangeFunc_ownG hro h1 (gf := 97) (lb := #[.pointer (some ⟨Bs, o, none⟩)]) rfl h4 (enters_of Try.func97 (by kernel_rfl) rfl)
    (vals_stops F (n - 1) h4 hro (by omega) Bs o w.heap.size sv zs hbytes _ (by simp; omega) (by simp) ((hB0.cell (p := ⟨Bs, o, none⟩) hBs).trans hc) (hI.below hB0)) belowK_t (belowK_b (by simp)) (Below.refl _ _) (fun _ => rfl)
    (fun pre W => (∃ v, Boxed W w.heap.size 23 v ∧ W.ownsRow w.heap.size 2 1 v pre.length (pre.map (Value.int .i64)) ∧ True) ∧ Below w.heap.size w W)
    (fun _ _ _ => False)
    (OwnFrom.and (Own.from (holdsRow_own w.heap.size w.heap.size 23 2 1 (fun pre : List Int => pre.length) (fun pre : List Int => pre.map (Value.int .i64)) (fun _ _ => True)) _) (ownFrom_below (Nat.le_refl _) (by simp)))
    (fun _ _ _ _ _ hs _ _ => hs)
    ⟨⟨_, bO, World.ownsRow_nil _ _ _ _, trivial⟩, hB0⟩
    (fun x => { tmps := #[.slice none 0 0, .func (.func 97) #[] #[.pointer (some ⟨Bs, o, none⟩)], .pointer (some ⟨w.heap.size, 0, none⟩), undef, .slice none 0 0, .int .i64 x, .func (.func 97) #[] #[.pointer (some ⟨Bs, o, none⟩)], .int .i64 x, undef, undef, undef, undef, undef], defers := [] }) ?assign ?body ?done ?stop
  case assign =>
    intro l x W K hK
    gi_wp2
    exact hK
  case body =>
    rintro l pre x W ⟨⟨v, hv, hrow, _⟩, hB⟩ hlt
    have hcv := hv.cell
    gi_wp2_with (gi_at_builtin; refine wpListIn_append_own _ rfl _ _ 23 rfl w.heap.size 2 i0 (.int .i64 0) 1 8 Try.underlying23 hi hz0 hz1 hz2 rfl (by decide) _ _ _ rfl (hrow.alloc _) ⟨W.heap.size, 0, none⟩ 1 1 [.int .i64 x] rfl rfl (cell_one_new _ _ _) (by simp [Value.oneCell']) (by omega) (by omega) (by have := hB.size; simp; omega) ?_; intro v' w1 hown' hgrow _; obtain ⟨g', cap', rfl⟩ := ownsRow_succ hown'; obtain ⟨hv1, hv2, hr2, hk2, hb2⟩ := hv.appended (by decide) hrow hB.size (Nat.le_refl _) hown' hgrow; have hc1 := hv1.cell; have hf1 := hv1.frozen)
    exact ⟨hk2.from _, hb2, ⟨_, hv2, by simpa using hr2, trivial⟩, hB.trans hb2⟩
  case done =>
    rintro D ys W hD rfl ⟨⟨v, hv, hrow, _⟩, hB⟩ hK
    have hcv := hv.cell
    gi_wp2
    refine ⟨by simp, .inl ⟨_, _, rfl, run_takeDeferred hK, ?_⟩⟩
    exact ⟨_, results_tmp rfl _ _ _, v, rfl, ownsRow_putObj hrow _ hK rfl, hB.trans (belowK_b (w := w) (Nat.le_refl _) W D _ _ (by simp at hD; omega) hK rfl rfl)⟩
  case stop =>
    rintro D c pre W _ _ h _
    exact h.elim
end Go.Proofs.Ytpepbomifjbgnaa
end
section
/- slices.AppendSeq over slices.Values of a slice of numbers: over abstract values. -/
namespace Go.Proofs.Ytpepbomifjbgnaa
open Go.Kv
set_option linter.unusedVariables false
set_option linter.unusedSimpArgs false
attribute [local irreducible] ACall PCall KL
theorem flat_intsE (l : List Int) : flat (ints l) = ints l := by
  induction l with
  | nil => rfl
  | cons a l ih => show _ :: flat (ints l) = _; rw [ih]; rfl
theorem callOwn1 {P : Program} {f : FuncId} {args : List PV} {σ : Heap} {K : PV → Heap → Prop} (he : EnterOK P f) {e : TypeId} {l : List Int}
    (h : ∀ φ ι w vs, RelL φ ι args vs → HOK φ ι σ w → Calls P f vs.toArray w fun en w' => ∃ v, en = .returned v ∧ w'.ownsRow w.heap.size e 1 v l.length (l.map (Value.int .i64)) ∧ Go.RowKit.Below w.heap.size w w')
    (ver : Nat) (hk : K (.ref σ.length ver 0 l.length) (σ ++ [.arr ver e 1 (ints l)])) : ACall P f args σ K := by
  unfold ACall
  refine ⟨he, fun φ ι w vs hr ho => (h φ ι w vs hr ho).mono ?_⟩
  rintro en w' ⟨v, rfl, hrow, hb⟩
  have hw : ∀ b, b < w.heap.size → w'.heap[b]? = w.heap[b]? := fun b hb' => hb.block b hb'
  have hblk : ∀ b, (KLoc.arr ver e 1 v).block = some b → w.heap.size ≤ b ∧ b < w'.heap.size := fun b hbb => by
    rcases hrow.2 with ⟨rfl, _⟩ | ⟨g, cap, cur, rfl, hg, hgb, _⟩
    · simp [KLoc.block, Value.ownBlock] at hbb
    · simp only [KLoc.block, Value.ownBlock, Option.some.injEq] at hbb
      subst hbb; exact ⟨hg, heap_lt hgb⟩
  have hflat := flat_intsE l
  refine ⟨.ref σ.length ver 0 l.length, v, φ, ι ++ [.arr ver e 1 v], _, rfl, ?_, Tr.push _ hw hb.size hb.os hb.tape hb.output (fun b h => (hblk b h).1), ho.push (o := .arr ver e 1 (ints l)) (l := .arr ver e 1 v) hw hb.size hblk ⟨rfl, rfl, rfl, by decide, l.map (Value.int .i64), ?_, ?_, ?_, ?_⟩, hk⟩
  · refine .ref _ ver 0 l.length v ver e 1 v ?_ ?_ (Nat.le_refl _) fun _ => ?_
    · rw [← ho.len]; simp
    · rcases hrow.2 with ⟨rfl, _⟩ | ⟨g, cap, cur, rfl, _⟩ <;> rfl
    · rcases hrow.2 with ⟨rfl, hz⟩ | ⟨g, cap, cur, rfl, _, _, hcap, _⟩
      · exact .inr ⟨rfl, rfl, hz, rfl⟩
      · exact .inl ⟨g, l.length, cap, 0, rfl, by omega, by simp, fun _ => by simp, fun _ => rfl⟩
  · rw [show (ints l).length = l.length by simp [ints]]
    refine ⟨hrow.1, ?_⟩
    rcases hrow.2 with hn | ⟨g, cap, cur, rfl, hg, rest⟩
    · exact .inl hn
    · exact .inr ⟨g, cap, cur, rfl, Nat.zero_le _, rest⟩
  · rw [hflat]
    refine ⟨by simp [ints], fun i c v hc hv => ?_⟩
    obtain ⟨x, hx, rfl⟩ := ints_get hc
    rw [List.getElem?_map, hx] at hv
    simp only [Option.map_some, Option.some.injEq] at hv
    subst hv; exact .int _ _
  · rw [hflat]; simp [ints, PV.ok]
  · intro x hx
    simp only [ints, List.mem_map] at hx
    obtain ⟨y, _, rfl⟩ := hx; rfl
theorem fptr1_inv {φ : Frz} {ι : List KLoc} {c : PV} {v : Value} (h : Rel φ ι (.fptr [c] 0) v) : ∃ b o C u, φ b = some C ∧ v = .pointer (some ⟨b, o, none⟩) ∧ C[o]? = some u ∧ Rel φ ι c u := by
  cases h with
  | fptr _ _ b o C hb hok g hg h => exact ⟨b, o, C, g 0, hb, rfl, by simpa using hg 0 c rfl, h 0 c rfl⟩
theorem rel_intsAt {φ : Frz} {ι : List KLoc} {σ : Heap} {w : World} (ho : HOK φ ι σ w) {l : List Int} {v : Value} (h : Rel φ ι (.list (ints l)) v) : IntsAt w.heap.size w v l := by
  generalize hx : ints l = xs at h
  cases h with
  | list0 cap a => exact .inl ⟨by cases l with | nil => rfl | cons => simp [ints] at hx, _, _, rfl⟩
  | listn => exact .inl ⟨by cases l with | nil => rfl | cons => simp [ints] at hx, _, _, rfl⟩
  | list _ esz b o len cap C hl hc hb hsz g hg h =>
    subst hx
    have hl : len = l.length := by rw [← hl]; simp [ints]
    subst hl
    obtain ⟨e, f, hw⟩ := ho.fz b C hb
    refine .inr ⟨b, o, cap, rfl, heap_lt hw, fun j hj => ?_⟩
    have hj' : (ints l)[j]? = some (.int .i64 l[j]) := by simp [ints, hj]
    have he : esz = 1 := (hsz j _ hj').1.symm
    subst he
    have h1 := hg j _ 0 (.int .i64 l[j]) hj' rfl
    have h2 := (h j _ 0 (.int .i64 l[j]) hj' rfl).int_inv
    rw [h2] at h1
    simp only [World.cell?, hw]
    simpa [hj] using h1
theorem p135 (l : List Int) (hl : l.length ≤ 1048576) (σ : Heap) (K : PV → Heap → Prop) (hK : K (.ref σ.length 0 0 l.length) (σ ++ [.arr 0 2 1 (ints l)])) :
    ACall Try.prog 135 [.nils, .fn (.func 97) [] [.fptr [.list (ints l)] 0]] σ K := by
  refine callOwn1 ⟨Try.f135, Try.func135, by kernel_rfl, by kernel_rfl⟩ (fun φ ι w vs hr ho => ?_) 0 hK
  obtain ⟨v0, h0, r0⟩ := hr.get (i := 0) rfl
  obtain ⟨v1, h1, r1⟩ := hr.get (i := 1) rfl
  obtain ⟨x, y, rfl, hx, hy⟩ := r1.fn_inv
  obtain ⟨u, hu, ru⟩ := hy.get (i := 0) rfl
  obtain ⟨b, o, C, sv, hb, rfl, hC, rs⟩ := fptr1_inv ru
  have e0 := r0.nils_inv
  subst e0
  have ex : x = [] := List.eq_nil_of_length_eq_zero hx.1.symm
  subst ex
  have ey : y = [.pointer (some ⟨b, o, none⟩)] := by
    have hyl := hy.1
    match y, hyl, hu with
    | [a], _, hu => simpa using hu
  subst ey
  have ev : vs = [.slice none 0 0, .func (.func 97) #[] #[.pointer (some ⟨b, o, none⟩)]] := by
    have hvl := hr.1
    match vs, hvl, h0, h1 with
    | [a, c], _, h0, h1 => simp only [List.getElem?_cons_zero, Option.some.injEq] at h0; simp only [List.getElem?_cons_succ, List.getElem?_cons_zero, Option.some.injEq] at h1; rw [h0, h1]
  subst ev
  obtain ⟨e, f, hw⟩ := ho.fz b C hb
  have hml : (1048576 : Nat) ≤ maxLen := by decide
  exact (callsIn_wide (n := 3)).1 (apSeq_in Fence.wide 3 trivial trivial rfl (by decide) b o sv l (by omega) (by omega) w (heap_lt hw) (by simp only [World.cell?, hw]; simpa using hC) (rel_intsAt ho rs))
end Go.Proofs.Ytpepbomifjbgnaa
end
section
/- Maps of few points: how a list of images lies in the program's six numbers. -/
namespace Go.Kv
set_option linter.unusedVariables false
set_option linter.unusedSimpArgs false
/-- n points, and the images of the first ones. -/
def mpN (n : Int) (l : List Nat) : List Int := n :: (l.map (fun x : Nat => (x : Int)) ++ List.replicate (5 - l.length) 0)
/-- The map with these images. -/
def mp (f : List Nat) : List Int := mpN f.length f
theorem mpN_length {n : Int} {l : List Nat} (h : l.length ≤ 5) : (mpN n l).length = 6 := by simp [mpN]; omega
theorem mpN_zero (n : Int) : mpN n [] = [n, 0, 0, 0, 0, 0] := rfl
theorem mpN_get0 (n : Int) (l : List Nat) : (mpN n l).getD 0 0 = n := rfl
theorem mpN_get {n : Int} {l : List Nat} (i : Nat) : (mpN n l).getD (i + 1) 0 = (l.getD i 0 : Int) := by
  simp only [mpN, List.getD_cons_succ]
  rw [List.getD_eq_getElem?_getD, List.getD_eq_getElem?_getD, List.getElem?_append]
  split
  · rename_i h
    simp only [List.length_map] at h
    simp [h]
  · rename_i h
    simp only [List.length_map] at h
    rw [List.getElem?_eq_none (l := l) (by omega)]
    simp only [List.getElem?_replicate, List.length_map]
    split <;> rfl
theorem mp_get0 (f : List Nat) : (mp f).getD 0 0 = f.length := rfl
theorem mp_get {l : List Nat} (i : Nat) : (mp l).getD (i + 1) 0 = (l.getD i 0 : Int) := mpN_get i
attribute [go_sem] mpN_get mpN_get0 mp_get mp_get0
theorem mpN_set {n : Int} {l : List Nat} {i v : Nat} (h : i < l.length) : (mpN n l).set (i + 1) (v : Int) = mpN n (l.set i v) := by
  simp [mpN, List.set_append, h, List.map_set]
theorem mpN_push {n : Int} {l : List Nat} {v : Nat} (h : l.length < 5) : (mpN n l).set (l.length + 1) (v : Int) = mpN n (l ++ [v]) := by
  have e : 5 - l.length = (5 - (l.length + 1)) + 1 := by omega
  simp only [mpN, List.set_cons_succ]
  rw [List.set_append_right _ _ (by simp), e, List.replicate_succ]
  simp
theorem mpN_pushI {n : Int} {l : List Nat} {v : Nat} {i : Nat} (hi : i = l.length) (h : l.length < 5) : (mpN n l).set (i + 1) (v : Int) = mpN n (l ++ [v]) := by subst hi; exact mpN_push h
theorem mpN_rep {m : Int} {n : Nat} (h : n ≤ 5) : mpN m (List.replicate n 0) = [m, 0, 0, 0, 0, 0] := by
  have : n = 0 ∨ n = 1 ∨ n = 2 ∨ n = 3 ∨ n = 4 ∨ n = 5 := by omega
  rcases this with rfl | rfl | rfl | rfl | rfl | rfl <;> rfl
theorem mp_inj {f g : List Nat} (h : mp f = mp g) : f = g := by
  have h0 : (mp f).getD 0 0 = (mp g).getD 0 0 := by rw [h]
  simp only [mp, mpN_get0] at h0
  have hl : f.length = g.length := by omega
  apply List.ext_getElem hl
  intro i h1 h2
  have := congrArg (fun m => m.getD (i + 1) 0) h
  simp only [mp, mpN_get] at this
  simp [List.getD_eq_getElem?_getD, h1, h2] at this
  omega
/-- A map of n points. -/
structure Ok (f : List Nat) (n : Nat) : Prop where
  len : f.length = n
  pos : 1 ≤ n
  le : n ≤ 5
  lt : ∀ x ∈ f, x < n
theorem Ok.get {f : List Nat} {n i : Nat} (h : Ok f n) (hi : i < n) : f.getD i 0 < n := by
  rw [List.getD_eq_getElem?_getD, List.getElem?_eq_getElem (by rw [h.len]; exact hi)]
  exact h.lt _ (List.getElem_mem _)
theorem Ok.get' {f : List Nat} {n : Nat} (h : Ok f n) (i : Nat) : f.getD i 0 < n := by
  by_cases hi : i < n
  · exact h.get hi
  · rw [List.getD_eq_getElem?_getD, List.getElem?_eq_none (by rw [h.len]; omega)]
    exact h.pos
theorem Ok.mp_eq {f : List Nat} {n : Nat} (h : Ok f n) : mp f = mpN n f := by rw [mp, h.len]
theorem Ok.mp_len {f : List Nat} {n : Nat} (h : Ok f n) : (mp f).length = 6 := mpN_length (by rw [h.len]; exact h.le)
/-- First f, then g. -/
def mul (f g : List Nat) : List Nat := f.map fun x => g.getD x 0
@[simp] theorem mul_length (f g : List Nat) : (mul f g).length = f.length := by simp [mul]
theorem mul_get {f g : List Nat} {i : Nat} (h : i < f.length) : (mul f g).getD i 0 = g.getD (f.getD i 0) 0 := by
  simp [mul, List.getD_eq_getElem?_getD, h]
theorem Ok.mul {f g : List Nat} {n : Nat} (hf : Ok f n) (hg : Ok g n) : Ok (mul f g) n := ⟨by rw [mul_length, hf.len], hf.pos, hf.le, fun x hx => by
  simp only [Kv.mul, List.mem_map] at hx
  obtain ⟨y, hy, rfl⟩ := hx
  exact hg.get (hf.lt y hy)⟩
theorem Ok.idn {n : Nat} (h : 1 ≤ n) (h' : n ≤ 5) : Ok (List.range n) n := ⟨by simp, h, h', fun x hx => by simpa using hx⟩
theorem ext_getD {f g : List Nat} (hl : f.length = g.length) (h : ∀ i, i < f.length → f.getD i 0 = g.getD i 0) : f = g := by
  apply List.ext_getElem hl
  intro i h1 h2
  have := h i h1
  simpa [List.getD_eq_getElem?_getD, h1, h2] using this
theorem range_getD {n i : Nat} (h : i < n) : (List.range n).getD i 0 = i := by simp [List.getD_eq_getElem?_getD, h]
theorem mul_assoc {f g h : List Nat} {n : Nat} (hf : Ok f n) (hg : Ok g n) (hh : Ok h n) : mul (mul f g) h = mul f (mul g h) := by
  refine ext_getD (by simp) fun i hi => ?_
  simp only [mul_length] at hi
  rw [mul_get (by simpa using hi), mul_get hi, mul_get hi, mul_get (by rw [hg.len]; exact hf.get' i)]
theorem mul_one {f : List Nat} {n : Nat} (hf : Ok f n) : mul f (List.range n) = f := by
  refine ext_getD (by simp) fun i hi => ?_
  simp only [mul_length] at hi
  rw [mul_get hi, range_getD (hf.get' i)]
theorem one_mul {f : List Nat} {n : Nat} (hf : Ok f n) : mul (List.range n) f = f := by
  refine ext_getD (by simp [hf.len]) fun i hi => ?_
  simp only [mul_length, List.length_range] at hi
  rw [mul_get (by simpa using hi), range_getD hi]
/-- The images that lie in the six numbers. -/
def um (m : List Int) : List Nat := ((m.drop 1).take (m.getD 0 0).toNat).map Int.toNat
theorem um_mp (f : List Nat) : um (mp f) = f := by
  have h1 : (f.map fun x : Nat => (x : Int)).length = f.length := by simp
  simp only [um, mp_get0, Int.toNat_natCast]
  simp only [mp, mpN, List.drop_succ_cons, List.drop_zero]
  rw [← h1, List.take_left, List.map_map]
  conv => rhs; rw [← List.map_id f]
  exact List.map_congr_left fun x _ => by simp
theorem filter_mp (p : List Nat → Bool) (l : List (List Nat)) : (l.map mp).filter (fun m => p (um m)) = (l.filter p).map mp := by
  rw [List.filter_map]
  congr 1
  exact List.filter_congr fun x _ => by simp [um_mp]
/-- The numbers of a map, whether they are one. -/
def okP (m : List Int) (i : Nat) : Bool := if (i : Int) < m.getD 0 0 then decide (0 ≤ m.getD (i + 1) 0 ∧ m.getD (i + 1) 0 ≤ m.getD 0 0 - 1) else decide (m.getD (i + 1) 0 = 0)
def isM (m : List Int) : Bool := decide (1 ≤ m.getD 0 0 ∧ m.getD 0 0 ≤ 5) && (List.range 5).all (okP m)
theorem isM_ok {m : List Int} (hl : m.length = 6) (h : isM m = true) : ∃ f n, Ok f n ∧ m = mp f := by
  obtain ⟨a, b, c, d, e, g, rfl⟩ : ∃ a b c d e g, m = [a, b, c, d, e, g] := by
    match m, hl with
    | [a, b, c, d, e, g], _ => exact ⟨a, b, c, d, e, g, rfl⟩
  simp only [isM, okP, Bool.and_eq_true, decide_eq_true_eq, List.all_eq_true, List.mem_range] at h
  obtain ⟨h0, h1⟩ := h
  have g0 := h1 0 (by omega)
  have g1 := h1 1 (by omega)
  have g2 := h1 2 (by omega)
  have g3 := h1 3 (by omega)
  have g4 := h1 4 (by omega)
  simp only [List.getD_cons_zero, List.getD_cons_succ] at h0 g0 g1 g2 g3 g4
  have hn : a = 1 ∨ a = 2 ∨ a = 3 ∨ a = 4 ∨ a = 5 := by omega
  rcases hn with rfl | rfl | rfl | rfl | rfl <;> simp at g0 g1 g2 g3 g4
  · refine ⟨[b.toNat], 1, ⟨rfl, by omega, by omega, by simp; try omega⟩, ?_⟩
    simp [mp, mpN, List.replicate]; first | omega | skip
  · refine ⟨[b.toNat, c.toNat], 2, ⟨rfl, by omega, by omega, by simp; try omega⟩, ?_⟩
    simp [mp, mpN, List.replicate]; first | omega | skip
  · refine ⟨[b.toNat, c.toNat, d.toNat], 3, ⟨rfl, by omega, by omega, by simp; try omega⟩, ?_⟩
    simp [mp, mpN, List.replicate]; first | omega | skip
  · refine ⟨[b.toNat, c.toNat, d.toNat, e.toNat], 4, ⟨rfl, by omega, by omega, by simp; try omega⟩, ?_⟩
    simp [mp, mpN, List.replicate]; first | omega | skip
  · refine ⟨[b.toNat, c.toNat, d.toNat, e.toNat, g.toNat], 5, ⟨rfl, by omega, by omega, by simp; try omega⟩, ?_⟩
    simp [mp, mpN, List.replicate]; first | omega | skip
theorem isM_mp {f : List Nat} {n : Nat} (h : Ok f n) : isM (mp f) = true := by
  simp only [isM, okP, Bool.and_eq_true, decide_eq_true_eq, List.all_eq_true, List.mem_range, h.mp_eq, mpN_get0, mpN_get]
  refine ⟨by have := h.pos; have := h.le; omega, fun i hi => ?_⟩
  split
  · have := h.get' i
    simp only [decide_eq_true_eq]; omega
  · rw [List.getD_eq_getElem?_getD, List.getElem?_eq_none (by rw [h.len]; omega)]; simp
end Go.Kv
end
section
/- Lists, searched and filtered step by step. -/
namespace Go.Proofs.Ytpepbomifjbgnaa
open Go.Kv
set_option linter.unusedVariables false
set_option linter.unusedSimpArgs false
attribute [local irreducible] ACall PCall KL
theorem all_take_succ {α : Type} (p : α → Bool) {l : List α} {x : Nat} (h : x < l.length) : (l.take (x + 1)).all p = ((l.take x).all p && p l[x]) := by
  rw [List.take_succ_eq_append_getElem h, List.all_append]; simp
theorem not_all {α : Type} {p : α → Bool} {l : List α} {x : Nat} (h : x < l.length) (hp : p l[x] = false) : l.all p = false := by
  rw [List.all_eq_false]
  exact ⟨l[x], List.getElem_mem h, by simp [hp]⟩
theorem getD_eq {α : Type} {l : List α} {x : Nat} (h : x < l.length) (d : α) : l.getD x d = l[x] := by
  rw [List.getD_eq_getElem?_getD, List.getElem?_eq_getElem h]; rfl
/-! ### Searching -/
/-- The first place that a predicate holds at, or -1. -/
def idx {α : Type} (p : α → Bool) (l : List α) : Int := match l.findIdx? p with | some i => i | none => -1
theorem idx_none {α : Type} {p : α → Bool} {l : List α} (h : l.any p = false) : idx p l = -1 := by
  have : l.findIdx? p = none := by
    rw [List.findIdx?_eq_none_iff]
    intro x hx
    rw [List.any_eq_false] at h
    simpa using h x hx
  simp [idx, this]
theorem idx_some {α : Type} {p : α → Bool} {l : List α} {x : Nat} (h : x < l.length) (h0 : (l.take x).any p = false) (h1 : p l[x] = true) : idx p l = x := by
  have : l.findIdx? p = some x := by
    rw [List.findIdx?_eq_some_iff_getElem]
    refine ⟨h, h1, fun j hj => ?_⟩
    rw [List.any_eq_false] at h0
    have := h0 l[j] (List.mem_take_iff_getElem.2 ⟨j, by omega, rfl⟩)
    simpa using this
  simp [idx, this]
theorem any_take_succ {α : Type} (p : α → Bool) {l : List α} {x : Nat} (h : x < l.length) : (l.take (x + 1)).any p = ((l.take x).any p || p l[x]) := by
  rw [List.take_succ_eq_append_getElem h, List.any_append]; simp
theorem idx_nonneg {α : Type} (p : α → Bool) (l : List α) : decide (0 ≤ idx p l) = l.any p := by
  cases h : l.any p with
  | false => rw [idx_none h]; rfl
  | true =>
    unfold idx
    cases hf : l.findIdx? p with
    | none =>
      rw [List.findIdx?_eq_none_iff] at hf
      rw [List.any_eq_true] at h
      obtain ⟨x, hx, hp⟩ := h
      have := hf x hx
      simp [hp] at this
    | some i => simp
theorem any_split {α : Type} {p : α → Bool} : ∀ {l : List α}, l.any p = true → ∃ i, ∃ h : i < l.length, (l.take i).any p = false ∧ p l[i] = true
  | a :: l, h => by
    cases hp : p a with
    | true => exact ⟨0, by simp, by simp, by simpa using hp⟩
    | false =>
      simp only [List.any_cons, hp, Bool.false_or] at h
      obtain ⟨i, hi, h1, h2⟩ := any_split h
      exact ⟨i + 1, by simpa using hi, by simp [hp, h1], by simpa using h2⟩
theorem filter_take_succ {α : Type} {p : α → Bool} {l : List α} {x : Nat} (h : x < l.length) : (l.take (x + 1)).filter p = (l.take x).filter p ++ (if p l[x] = true then [l[x]] else []) := by
  rw [List.take_succ_eq_append_getElem h, List.filter_append]
  congr 1
  by_cases hp : p l[x] = true <;> simp [hp]
theorem filter_none {α : Type} {p : α → Bool} {l : List α} (h : l.any p = false) : l.filter (fun x => !p x) = l := by
  rw [List.filter_eq_self]
  intro a ha
  rw [List.any_eq_false] at h
  simpa using h a ha
end Go.Proofs.Ytpepbomifjbgnaa
end
section
/- Tables that are owned: rows that lie anywhere in their arrays, or are nil. -/
namespace Go.Kv
set_option linter.unusedVariables false
set_option linter.unusedSimpArgs false
/-- Where a row lies. -/
structure Rw where
  nil : Bool
  id : Nat
  ver : Nat
  pre : List Int
  post : List Int
def Rw.pv (r : Rw) (l : List Int) : PV := if r.nil = true then .nils else .ref r.id r.ver r.pre.length l.length
structure Rw.at (e1 : TypeId) (σ : Heap) (r : Rw) (l : List Int) : Prop where
  nl : r.nil = true → l = []
  ow : r.nil = false → σ[r.id]? = some (.arr r.ver e1 1 (ints (r.pre ++ l ++ r.post)))
def pvs (rs : List Rw) (t : List (List Int)) : List PV := List.zipWith Rw.pv rs t
theorem pvs_length {rs : List Rw} {t : List (List Int)} (h : rs.length = t.length) : (pvs rs t).length = t.length := by simp [pvs, h]
theorem pvs_get {rs : List Rw} {t : List (List Int)} {i : Nat} {x : PV} (h : (pvs rs t)[i]? = some x) : ∃ r l, rs[i]? = some r ∧ t[i]? = some l ∧ x = r.pv l := by
  simp only [pvs, List.getElem?_zipWith] at h
  cases hr : rs[i]? with
  | none => simp [hr] at h
  | some r =>
    cases hl : t[i]? with
    | none => simp [hr, hl] at h
    | some l => simp [hr, hl] at h; exact ⟨r, l, rfl, rfl, h.symm⟩
theorem pvs_snoc {rs : List Rw} {t : List (List Int)} (h : rs.length = t.length) (r : Rw) (l : List Int) : pvs (rs ++ [r]) (t ++ [l]) = pvs rs t ++ [r.pv l] := by
  simp [pvs, List.zipWith_append h]
theorem pv_cases (r : Rw) (l : List Int) : r.pv l = .nils ∨ ∃ a b c d, r.pv l = .ref a b c d := by
  unfold Rw.pv; split
  · exact .inl rfl
  · exact .inr ⟨_, _, _, _, rfl⟩
/-- In heap σ, object id is a table t; its rows lie as told. e2, e1: the types of a row, of a number. -/
structure TabG (e2 e1 : TypeId) (σ : Heap) (id ver : Nat) (rs : List Rw) (t : List (List Int)) : Prop where
  out : ∃ junk, σ[id]? = some (.arr ver e2 1 (pvs rs t ++ junk))
  len : rs.length = t.length
  row : ∀ (i : Nat) (r : Rw) (l : List Int), rs[i]? = some r → t[i]? = some l → r.at e1 σ l
  nd : ∀ (i j : Nat) (r q : Rw), rs[i]? = some r → rs[j]? = some q → r.nil = false → q.nil = false → r.id = q.id → i = j
  ni : ∀ r ∈ rs, r.nil = false → r.id ≠ id
variable {e2 e1 : TypeId} {σ : Heap} {id ver : Nat} {rs : List Rw} {t : List (List Int)}
theorem Rw.at.imm {r : Rw} {l : List Int} (h : r.at e1 σ l) : Imm σ (r.pv l) (.list (ints l)) := by
  unfold Rw.pv
  split
  · rename_i hn; rw [h.nl hn]; exact .nils
  · rename_i hn; exact .refp (h.ow (by simpa using hn)) rfl rfl
theorem TabG.imm (h : TabG e2 e1 σ id ver rs t) {n : Nat} (hn : n = t.length) : Imm σ (.ref id ver 0 n) (.list (rows t)) := by
  subst hn
  obtain ⟨junk, ho⟩ := h.out
  have hpl := pvs_length h.len
  refine .ref id ver 0 t.length e2 1 (pvs rs t ++ junk) (rows t) ho (by simp [hpl]) (rows_length t) (fun i x d hx hd => ?_) (fun i x d j c c' hx hd hc hc' => ?_)
  all_goals rw [Nat.zero_add] at hx
  all_goals have hi := (List.getElem?_eq_some_iff.1 hd).1
  all_goals rw [rows_length] at hi
  all_goals rw [List.getElem?_append_left (by rw [hpl]; exact hi)] at hx
  all_goals obtain ⟨r, l, hr, hl, rfl⟩ := pvs_get hx
  all_goals obtain ⟨y, hy, rfl⟩ := rows_get hd
  · rcases pv_cases r l with e | ⟨a, b, c, d, e⟩ <;> rw [e] <;> exact ⟨rfl, rfl⟩
  · rw [hl] at hy; cases hy
    have h2 := List.mem_of_getElem? hc'
    simp only [PV.cs, List.mem_singleton] at h2; subst h2
    have h1 : c = r.pv l := by
      have h1 := List.mem_of_getElem? hc
      rcases pv_cases r l with e | ⟨a, b, cc, d, e⟩ <;> rw [e] at h1 ⊢ <;> simpa [PV.cs] using h1
    subst h1
    exact (h.row i r l hr hl).imm
theorem Rw.at.keep {r : Rw} {l : List Int} {σ' : Heap} (h : r.at e1 σ l) (hs : r.nil = false → σ'[r.id]? = σ[r.id]?) : r.at e1 σ' l := ⟨h.nl, fun hn => (hs hn).trans (h.ow hn)⟩
theorem TabG.keep (h : TabG e2 e1 σ id ver rs t) {σ' : Heap} (h1 : σ'[id]? = σ[id]?) (h2 : ∀ r ∈ rs, r.nil = false → σ'[r.id]? = σ[r.id]?) : TabG e2 e1 σ' id ver rs t where
  out := by obtain ⟨junk, ho⟩ := h.out; exact ⟨junk, h1.trans ho⟩
  len := h.len
  row := fun i r l hr hl => (h.row i r l hr hl).keep (h2 r (List.mem_of_getElem? hr))
  nd := h.nd
  ni := h.ni
theorem TabG.lt (h : TabG e2 e1 σ id ver rs t) : id < σ.length ∧ ∀ r ∈ rs, r.nil = false → r.id < σ.length := by
  obtain ⟨junk, ho⟩ := h.out
  refine ⟨(List.getElem?_eq_some_iff.1 ho).1, fun r hr hn => ?_⟩
  obtain ⟨i, hi⟩ := List.getElem?_of_mem hr
  have hlt := (List.getElem?_eq_some_iff.1 hi).1
  have := h.row i r (t[i]'(h.len ▸ hlt)) hi (List.getElem?_eq_getElem (h.len ▸ hlt))
  exact (List.getElem?_eq_some_iff.1 (this.ow hn)).1
theorem TabG.append (h : TabG e2 e1 σ id ver rs t) (τ : Heap) : TabG e2 e1 (σ ++ τ) id ver rs t :=
  h.keep (List.getElem?_append_left h.lt.1) fun r hr hn => List.getElem?_append_left (h.lt.2 r hr hn)
/-- The rows' objects. -/
def Rw.sh (n : Nat) (r : Rw) : Rw := { r with id := r.id + n }
theorem pv_ren (n : Nat) (r : Rw) (l : List Int) : (r.pv l).ren (Kv.sh n) = (r.sh n).pv l := by
  unfold Rw.pv Rw.sh
  simp only
  split
  · simp [PV.ren]
  · simp only [ren_ref, sh_def]
theorem TabG.shift (h : TabG e2 e1 σ id ver rs t) (τ : Heap) : TabG e2 e1 (τ ++ σ.map (AObj.ren (Kv.sh τ.length))) (id + τ.length) ver (rs.map (Rw.sh τ.length)) t where
  out := by
    obtain ⟨junk, ho⟩ := h.out
    refine ⟨junk.map (PV.ren (Kv.sh τ.length)), ?_⟩
    rw [List.getElem?_append_right (by omega), Nat.add_sub_cancel, List.getElem?_map, ho]
    simp only [Option.map_some, ren_arr, Option.some.injEq, AObj.arr.injEq, true_and, List.map_append]
    congr 1
    simp only [pvs, List.map_zipWith, List.zipWith_map_left, pv_ren]
  len := by simp [h.len]
  row := fun i r l hr hl => by
    simp only [List.getElem?_map, Option.map_eq_some_iff] at hr
    obtain ⟨q, hq, rfl⟩ := hr
    have := h.row i q l hq hl
    refine ⟨this.nl, fun hn => ?_⟩
    simp only [Rw.sh]
    rw [List.getElem?_append_right (by omega), Nat.add_sub_cancel, List.getElem?_map, this.ow hn]
    simp only [Option.map_some, ren_arr, ren_ints]
  nd := fun i j r q hr hq h1 h2 h3 => by
    simp only [List.getElem?_map, Option.map_eq_some_iff] at hr hq
    obtain ⟨r', hr', rfl⟩ := hr
    obtain ⟨q', hq', rfl⟩ := hq
    simp only [Rw.sh] at h1 h2 h3
    exact h.nd i j r' q' hr' hq' h1 h2 (by omega)
  ni := fun r hr hn => by
    obtain ⟨q, hq, rfl⟩ := List.mem_map.1 hr
    have := h.ni q hq hn
    simp only [Rw.sh]; omega
/-- One row is written. -/
theorem TabG.set (h : TabG e2 e1 σ id ver rs t) {i : Nat} {r : Rw} (hr : rs[i]? = some r) (hn : r.nil = false) {l m : List Int} (hl : t[i]? = some l) (hm : m.length = l.length) :
    TabG e2 e1 (σ.set r.id (.arr r.ver e1 1 (ints (r.pre ++ m ++ r.post)))) id ver rs (t.set i m) := by
  have hit := (List.getElem?_eq_some_iff.1 hl).1
  have hrl := h.lt.2 r (List.mem_of_getElem? hr) hn
  have hpv : ∀ (q : Rw), q.pv m = q.pv l := fun q => by simp [Rw.pv, hm]
  refine ⟨?_, by simp [h.len], fun j q n hq hj => ?_, h.nd, h.ni⟩
  · obtain ⟨junk, ho⟩ := h.out
    refine ⟨junk, ?_⟩
    rw [List.getElem?_set_ne (h.ni r (List.mem_of_getElem? hr) hn), ho]
    congr 3
    apply List.ext_getElem?; intro j
    simp only [pvs, List.getElem?_zipWith, List.getElem?_set]
    by_cases e : i = j
    · subst e
      simp only [if_pos hit, if_true, hr, hl, hpv]
    · rw [if_neg e]
  · by_cases e : i = j
    · subst e
      rw [hr] at hq; cases hq
      rw [List.getElem?_set_self hit] at hj; cases hj
      exact ⟨fun h => absurd h (by simp [hn]), fun _ => List.getElem?_set_self hrl⟩
    · rw [List.getElem?_set_ne e] at hj
      exact (h.row j q n hq hj).keep fun hqn => List.getElem?_set_ne fun e2 => e (h.nd i j r q hr hq hn hqn e2)
theorem TabG.free (h : ∀ o ∈ σ, AObj.free o) : True := trivial
/-- A slice value of rows: nil, or a table. -/
inductive TabN (e2 e1 : TypeId) (σ : Heap) : PV → List (List Int) → Prop
  | nil : TabN e2 e1 σ .nils []
  | tab (id ver : Nat) (rs : List Rw) (t : List (List Int)) (h : TabG e2 e1 σ id ver rs t) : TabN e2 e1 σ (.ref id ver 0 t.length) t
theorem TabN.imm {v : PV} (h : TabN e2 e1 σ v t) : Imm σ v (.list (rows t)) := by
  cases h with
  | nil => exact .nils
  | tab id ver rs t h => exact h.imm rfl
theorem TabN.append {v : PV} (h : TabN e2 e1 σ v t) (τ : Heap) : TabN e2 e1 (σ ++ τ) v t := by
  cases h with
  | nil => exact .nil
  | tab id ver rs t h => exact .tab id ver rs t (h.append τ)
theorem TabN.shift {v : PV} (h : TabN e2 e1 σ v t) (τ : Heap) : TabN e2 e1 (τ ++ σ.map (AObj.ren (Kv.sh τ.length))) (v.ren (Kv.sh τ.length)) t := by
  cases h with
  | nil => simp only [ren_nils]; exact .nil
  | tab id ver rs t h => simp only [ren_ref, sh_def]; exact .tab _ _ _ t (h.shift τ)
/-- A new row, of what is new in the heap, is put at the end. -/
theorem TabN.push {v : PV} (h : TabN e2 e1 σ v t) {τ : Heap} {l : List Int} {r : Rw} (hr : r.at e1 (σ ++ τ) l) (hge : r.nil = false → σ.length ≤ r.id) (hn : t.length < 4294967296) {K : PV → Heap → Prop}
    (hK : ∀ v' σ', TabN e2 e1 σ' v' (t ++ [l]) → (∀ o ∈ σ', o ∈ σ ++ τ ∨ ∃ ver rs, o = .arr ver e2 1 (pvs rs (t ++ [l]))) → K v' σ') : aApp e2 1 v (.list [r.pv l]) (σ ++ τ) K := by
  have hok : okL 1 [r.pv l] := by
    rcases pv_cases r l with e | ⟨a, b, c, d, e⟩ <;> rw [e] <;> simp [okL, PV.cs, PV.ok]
  cases h with
  | nil =>
    rw [aApp_nils, aNews_list, AppN_def]
    refine ⟨hok, by simp, ?_⟩
    refine hK _ _ (.tab (σ ++ τ).length 0 [r] [l] ⟨⟨[], by simp [pvs]⟩, rfl, fun i q m hq hm => ?_, fun i j q p hq hp _ _ _ => ?_, fun q hq hqn => ?_⟩) (fun o ho => ?_)
    · cases i with
      | zero =>
        simp at hq hm; subst hq; subst hm
        exact hr.keep fun hrn => List.getElem?_append_left (List.getElem?_eq_some_iff.1 (hr.ow hrn)).1
      | succ i => simp at hq
    · have h1 := (List.getElem?_eq_some_iff.1 hq).1
      have h2 := (List.getElem?_eq_some_iff.1 hp).1
      simp at h1 h2; omega
    · simp at hq; subst hq
      have := (List.getElem?_eq_some_iff.1 (hr.ow hqn)).1
      omega
    · rcases List.mem_append.1 ho with ho | ho
      · exact .inl ho
      · simp at ho; subst ho; exact .inr ⟨0, [r], by simp [pvs]⟩
  | tab id ver rs t h =>
    obtain ⟨junk, ho⟩ := (h.append τ).out
    have hpl := pvs_length h.len
    have hlt := h.lt
    have hid : id < (σ ++ τ).length := by simp; omega
    rw [aApp_ref, ho, AppR_arr, aNews_list, AppM_def]
    refine ⟨hok, ⟨rfl, rfl, rfl, rfl, by simp [hpl], by simp; omega⟩, ?_⟩
    have hself : ∀ o, ((σ ++ τ).set id o)[id]? = some o := fun o => List.getElem?_set_self hid
    have ht : t.length + [r.pv l].length = (t ++ [l]).length := by simp
    have htk : (pvs rs t ++ junk).take t.length ++ [r.pv l] = pvs (rs ++ [r]) (t ++ [l]) := by
      rw [pvs_snoc h.len, ← hpl, List.take_left]
    rw [ht, htk]
    refine hK _ _ (.tab id (ver + 1) (rs ++ [r]) (t ++ [l]) ⟨⟨[], ?_⟩, by simp [h.len], fun i q m hq hm => ?_, fun i j q p hq hp h1 h2 h3 => ?_, fun q hq hqn => ?_⟩) (fun o ho => ?_)
    · rw [hself, List.append_nil]
    · rw [List.getElem?_append] at hq hm
      split at hq
      · rename_i hi
        rw [if_pos (by rw [← h.len]; exact hi)] at hm
        exact ((h.append τ).row i q m hq hm).keep fun hqn => List.getElem?_set_ne (Ne.symm (h.ni q (List.mem_of_getElem? hq) hqn))
      · rename_i hi
        rw [if_neg (by rw [← h.len]; exact hi)] at hm
        have e1 := List.mem_of_getElem? hq
        have e2 := List.mem_of_getElem? hm
        simp at e1 e2; subst e1; subst e2
        exact hr.keep fun hrn => List.getElem?_set_ne (by have := hge hrn; omega)
    · rw [List.getElem?_append] at hq hp
      have hlast : ∀ (k : Nat) (x : Rw), ¬ k < rs.length → [r][k - rs.length]? = some x → x = r ∧ k = rs.length := fun k x hk hx => by
        have h5 := (List.getElem?_eq_some_iff.1 hx).1
        have h4 := List.mem_of_getElem? hx
        simp at h4 h5
        exact ⟨h4, by omega⟩
      split at hq <;> split at hp
      · exact h.nd i j q p hq hp h1 h2 h3
      · rename_i hj
        obtain ⟨rfl, _⟩ := hlast j p hj hp
        have := hlt.2 q (List.mem_of_getElem? hq) h1
        have := hge h2
        omega
      · rename_i hi _
        obtain ⟨rfl, _⟩ := hlast i q hi hq
        have := hlt.2 p (List.mem_of_getElem? hp) h2
        have := hge h1
        omega
      · rename_i hi hj
        obtain ⟨_, rfl⟩ := hlast i q hi hq
        obtain ⟨_, rfl⟩ := hlast j p hj hp
        rfl
    · rcases List.mem_append.1 hq with hq | hq
      · exact h.ni q hq hqn
      · simp at hq; subst hq
        have := hge hqn
        omega
    · rcases List.mem_or_eq_of_mem_set ho with ho | rfl
      · exact .inl ho
      · exact .inr ⟨_, _, rfl⟩
theorem TabN.empty : TabN e2 e1 [.arr 0 e2 1 []] (.ref 0 0 0 0) [] := .tab 0 0 [] [] ⟨⟨[], rfl⟩, rfl, fun i r l h => by simp at h, fun i j r q h => by simp at h, fun r h => by simp at h⟩
/-- Objects whose values hang on nothing that is frozen. -/
def Free (σ : Heap) : Prop := ∀ o ∈ σ, AObj.free o
theorem Free.nil : Free [] := fun o h => by simp at h
theorem Free.append {σ τ : Heap} (h : Free σ) (h' : Free τ) : Free (σ ++ τ) := fun o ho => by
  rcases List.mem_append.1 ho with ho | ho
  · exact h o ho
  · exact h' o ho
theorem free_ints {v : Nat} {e : TypeId} {s : Nat} (l : List Int) : AObj.free (.arr v e s (ints l)) := fun c hc => by
  rw [flat_ints] at hc; exact (Plain.ints _ c hc).fr
theorem Free.ints (v : Nat) (e : TypeId) (s : Nat) (l : List Int) : Free [.arr v e s (Kv.ints l)] := fun o ho => by
  simp at ho; subst ho; exact free_ints l
theorem Free.empty (v : Nat) (e : TypeId) (s : Nat) : Free [.arr v e s []] := fun o ho => by
  simp at ho; subst ho; intro c hc; simp [flat] at hc
theorem free_pvs {v : Nat} {e : TypeId} {s : Nat} (rs : List Rw) (t : List (List Int)) : AObj.free (.arr v e s (pvs rs t)) := fun c hc => by
  obtain ⟨x, hx, hcx⟩ := List.mem_flatMap.1 hc
  obtain ⟨i, hi⟩ := List.getElem?_of_mem hx
  obtain ⟨r, l, _, _, rfl⟩ := pvs_get hi
  rcases pv_cases r l with e | ⟨a, b, cc, d, e⟩ <;> rw [e] at hcx <;> simp [PV.cs] at hcx <;> subst hcx
  · exact Plain.nils.fr
  · exact free_ref _ _ _ _
/-- A new row, of its own object at the heap's end. -/
theorem TabN.pushNew {v : PV} (h : TabN e2 e1 σ v t) (hf : Free σ) {l pre post : List Int} {vr n o : Nat} (hl : n = l.length) (ho : o = pre.length) (hn : t.length < 4294967296) {K : PV → Heap → Prop}
    (hK : ∀ v' σ', TabN e2 e1 σ' v' (t ++ [l]) → Free σ' → K v' σ') : aApp e2 1 v (.list [.ref σ.length vr o n]) (σ ++ [.arr vr e1 1 (ints (pre ++ l ++ post))]) K := by
  subst hl; subst ho
  refine h.push (r := ⟨false, σ.length, vr, pre, post⟩) (l := l) ⟨fun h => (by cases h), fun _ => (by simp)⟩ (fun _ => Nat.le_refl _) hn (fun v' σ' h1 h2 => hK v' σ' h1 fun o ho => ?_)
  rcases h2 o ho with ho | ⟨ver, rs, rfl⟩
  · exact (hf.append (.ints _ _ _ _)) o ho
  · exact free_pvs rs _
theorem TabN.pushRow {v : PV} (h : TabN e2 e1 σ v t) (hf : Free σ) (l : List Int) {vr n : Nat} (hl : n = l.length) (hn : t.length < 4294967296) {K : PV → Heap → Prop}
    (hK : ∀ v' σ', TabN e2 e1 σ' v' (t ++ [l]) → Free σ' → K v' σ') : aApp e2 1 v (.list [.ref σ.length vr 0 n]) (σ ++ [.arr vr e1 1 (ints l)]) K := by
  have := h.pushNew hf (l := l) (pre := []) (post := []) (vr := vr) (o := 0) hl rfl hn hK
  simpa only [List.nil_append, List.append_nil] using this
theorem TabN.freeze {v : PV} {T : List (List Int)} {r : Int} {K : PV → Heap → Prop} (h : TabN e2 e1 σ v T) (hk : K (.tup [.list (rows T), .int .i64 r]) []) : Fin 0 K (.tup [v, .int .i64 r]) σ :=
  Fin.freeze (Imm.tupL (.cons h.imm (.cons (.int _ _ _) (.nil _)))) hk
/-- What a call hands back, looked at otherwise. -/
theorem ACall.ret {P : Program} {f : FuncId} {args : List PV} {K K' : PV → Heap → Prop} (h : ACall P f args [] K) (hk : ∀ v s, K v s → Fin 0 K' v s) : ACall P f args [] K' :=
  ⟨h.1, fun φ ι w vs hr ho => (h.2 φ ι w vs hr ho).mono fun e w' ⟨v, v', φ', ι', σ', h1, h2, h3, h4, h5⟩ => by
    obtain ⟨u, s, hret, hK⟩ := hk v σ' h5
    obtain ⟨φ2, ι2, g1, g2, g3⟩ := hret φ' ι' w' v' (Nat.zero_le _) h4 h2
    exact ⟨u, v', φ2, ι2, s, h1, g3, h3.trans g1, g2, hK⟩⟩
/-- A call that hands back new rows of one's own, and a number. -/
def NewTN (P : Program) (f : FuncId) (args : List PV) (e2 e1 : TypeId) (T : List (List Int)) (r : Int) : Prop :=
  ACall P f args [] fun v s => ∃ x, v = .tup [x, .int .i64 r] ∧ TabN e2 e1 s x T ∧ Free s
theorem TabN.up {v : PV} (h : TabN e2 e1 σ v t) : v.free := by
  cases h with
  | nil => exact Plain.nils.fr
  | tab id ver rs t h => exact free_ref _ _ _ _
theorem NewTN.call {P : Program} {f : FuncId} {args : List PV} {T : List (List Int)} {r : Int} (h : NewTN P f args e2 e1 T r) {σ : Heap} {K : PV → Heap → Prop} [ha : StillL args]
    (hk : ∀ (x : PV) (s : Heap), (∀ τ, TabN e2 e1 (σ ++ s ++ τ) x T) → (x = .nils ∨ ∃ id ver rs, x = .ref id ver 0 T.length ∧ σ.length ≤ id ∧ (∀ r ∈ rs, r.nil = false → σ.length ≤ r.id) ∧ TabG e2 e1 (σ ++ s) id ver rs T) → K (.tup [x, .int .i64 r]) (σ ++ s)) : ACall P f args σ K := by
  refine ACall.frame h ha.up fun v s ⟨x, hv, hT, _⟩ => ?_
  subst hv
  have h1 := hT.shift σ
  have := hk (x.ren (Kv.sh σ.length)) (s.map (AObj.ren (Kv.sh σ.length))) (fun τ => h1.append τ) (by
    cases hT with
    | nil => exact .inl (by simp only [ren_nils])
    | tab id ver rs t h =>
      refine .inr ⟨id + σ.length, ver, rs.map (Rw.sh σ.length), by simp only [ren_ref, sh_def], by omega, fun r hr hn => ?_, h.shift σ⟩
      obtain ⟨q, _, rfl⟩ := List.mem_map.1 hr
      simp [Rw.sh])
  simpa only [ren_tup, ren_int, List.map_cons, List.map_nil] using this
theorem NewTN.lend {P : Program} {f : FuncId} {args args' : List PV} {T : List (List Int)} {r : Int} (h : NewTN P f args' e2 e1 T r) {σ : Heap} {K : PV → Heap → Prop} (ha : ImmL σ args args')
    (hk : ∀ (x : PV) (s : Heap), (∀ τ, TabN e2 e1 (σ ++ s ++ τ) x T) → (x = .nils ∨ ∃ id ver rs, x = .ref id ver 0 T.length ∧ σ.length ≤ id ∧ (∀ r ∈ rs, r.nil = false → σ.length ≤ r.id) ∧ TabG e2 e1 (σ ++ s) id ver rs T) → K (.tup [x, .int .i64 r]) (σ ++ s)) : ACall P f args σ K := by
  refine ACall.lend h ha fun v s ⟨x, hv, hT, hf⟩ => ?_
  subst hv
  refine ⟨⟨free_tup fun c hc => ?_, hf⟩, ?_⟩
  · simp only [List.mem_cons, List.not_mem_nil, or_false] at hc
    rcases hc with rfl | rfl
    · exact hT.up
    · exact (Plain.int _ _).fr
  · have h1 := hT.shift σ
    have := hk (x.ren (Kv.sh σ.length)) (s.map (AObj.ren (Kv.sh σ.length))) (fun τ => h1.append τ) (by
      cases hT with
      | nil => exact .inl (by simp only [ren_nils])
      | tab id ver rs t h =>
        refine .inr ⟨id + σ.length, ver, rs.map (Rw.sh σ.length), by simp only [ren_ref, sh_def], by omega, fun r hr hn => ?_, h.shift σ⟩
        obtain ⟨q, _, rfl⟩ := List.mem_map.1 hr
        simp [Rw.sh])
    simpa only [ren_tup, ren_int, List.map_cons, List.map_nil] using this
end Go.Kv
end
section
/- The search: what it calls. -/
namespace Go.Proofs.Ytpepbomifjbgnaa
open Go.Kv
set_option maxRecDepth 100000
/- slices.Equal[[]int64,int64] -/
/- live [0, 1, 12, 13] -/
def k47_b0 : KC := (.seq (.ops [⟨(some 14), none, .bin .lss (.t 13) (.t 12)⟩])
  (.seq (.cond (.t 14) .skip (.exit 0))
  (.seq (.block 1 (.seq (.ops [⟨(some 15), none, .mv (.t 13)⟩, ⟨(some 5), none, .mv (.t 15)⟩])
  (.seq (.draw [⟨(some 16), none, .mv (.t 0)⟩, ⟨(some 17), none, .mv (.t 5)⟩, ⟨(some 18), none, .idxS 1 (.t 16) (.t 17)⟩, ⟨(some 19), none, .load false 1 (.t 18)⟩, ⟨(some 20), none, .mv (.t 1)⟩, ⟨(some 21), none, .mv (.t 5)⟩, ⟨(some 22), none, .idxS 1 (.t 20) (.t 21)⟩, ⟨(some 23), none, .load false 1 (.t 22)⟩, ⟨(some 24), none, .bin .neq (.t 19) (.t 23)⟩])
  (.cond (.t 24) (.seq (.ops [⟨(some 4), none, .mv (.c (.bool false))⟩])
  .ret) .skip))))
  (.ops [⟨(some 25), none, .bin .add (.t 13) (.c (.int .i64 1))⟩, ⟨(some 13), none, .mv (.t 25)⟩]))))
def k47 : KC := (.seq (.ops [⟨(some 4), none, .mv (.c (.bool false))⟩])
  (.seq (.seq (.ops [⟨(some 6), none, .mv (.t 0)⟩, ⟨(some 7), none, .len false (.t 6)⟩, ⟨(some 8), none, .mv (.t 1)⟩, ⟨(some 9), none, .len false (.t 8)⟩, ⟨(some 10), none, .bin .neq (.t 7) (.t 9)⟩])
  (.cond (.t 10) (.seq (.ops [⟨(some 4), none, .mv (.c (.bool false))⟩])
  .ret) .skip))
  (.seq (.seq (.ops [⟨(some 11), none, .mv (.t 0)⟩, ⟨(some 12), none, .len false (.t 11)⟩, ⟨(some 13), none, .mv (.c (.int .i64 0))⟩])
  (.block 0 (.loop k47_b0)))
  (.seq (.ops [⟨(some 4), none, .mv (.c (.bool true))⟩])
  .ret))))
theorem e47 {args : List PV} {σ : Heap} {K : PV → Heap → Prop} (hl : args.length ≤ 26) (h : Wf σ → (∀ a ∈ args, PV.upto σ.length a) → vc (mkCfg Try.prog mixed [] 26 σ.length) k47 (FinK σ.length [.t 4] K) (argEnv 0 args) σ) : ACall Try.prog 47 args σ K :=
  ACall_enter (C := mkCfg Try.prog mixed [] 26 σ.length) (c := Try.f47.body.getD .skip) Try.func47 (by kernel_rfl) (by kernel_rfl) (by kernel_rfl) rfl hl (by kernel_rfl) (by kernel_rfl) h
/- impl.search$1 -/
def k173 : KC := (.seq (.ops [⟨(some 2), none, .box true (.t 0)⟩, ⟨(some 3), none, .mv (.c (.bool false))⟩])
  (.seq (.ops [⟨(some 4), none, .fieldA 0 (.t 2)⟩, ⟨(some 5), none, .load false 1 (.t 4)⟩, ⟨(some 6), none, .load false 1 (.t 1)⟩, ⟨(some 7), none, .call (.c (.fn (.func 47) [] [])) [(.t 5), (.t 6)]⟩, ⟨(some 3), none, .mv (.t 7)⟩])
  .ret))
theorem e173 {args : List PV} {σ : Heap} {K : PV → Heap → Prop} (hl : args.length ≤ 8) (h : Wf σ → (∀ a ∈ args, PV.upto σ.length a) → vc (mkCfg Try.prog mixed [2] 8 σ.length) k173 (FinK σ.length [.t 3] K) (argEnv 0 args) σ) : ACall Try.prog 173 args σ K :=
  ACall_enter (C := mkCfg Try.prog mixed [2] 8 σ.length) (c := Try.f173.body.getD .skip) Try.func173 (by kernel_rfl) (by kernel_rfl) (by kernel_rfl) rfl hl (by kernel_rfl) (by kernel_rfl) h
/- slices.IndexFunc[[]impl.met,impl.met] -/
/- live [0, 1, 7, 8] -/
def k184_b0 : KC := (.seq (.ops [⟨(some 9), none, .bin .lss (.t 8) (.t 7)⟩])
  (.seq (.cond (.t 9) .skip (.exit 0))
  (.seq (.block 1 (.seq (.ops [⟨(some 10), none, .mv (.t 8)⟩, ⟨(some 5), none, .mv (.t 10)⟩])
  (.seq (.ops [⟨(some 11), none, .mv (.t 1)⟩, ⟨(some 12), none, .mv (.t 0)⟩, ⟨(some 13), none, .mv (.t 5)⟩, ⟨(some 14), none, .idxS 2 (.t 12) (.t 13)⟩, ⟨(some 15), none, .load true 2 (.t 14)⟩, ⟨(some 16), none, .call (.t 11) [(.t 15)]⟩])
  (.cond (.t 16) (.seq (.ops [⟨(some 17), none, .mv (.t 5)⟩, ⟨(some 4), none, .mv (.t 17)⟩])
  .ret) .skip))))
  (.ops [⟨(some 18), none, .bin .add (.t 8) (.c (.int .i64 1))⟩, ⟨(some 8), none, .mv (.t 18)⟩]))))
def k184 : KC := (.seq (.ops [⟨(some 4), none, .mv (.c (.int .i64 0))⟩])
  (.seq (.seq (.ops [⟨(some 6), none, .mv (.t 0)⟩, ⟨(some 7), none, .len false (.t 6)⟩, ⟨(some 8), none, .mv (.c (.int .i64 0))⟩])
  (.block 0 (.loop k184_b0)))
  (.seq (.ops [⟨(some 4), none, .mv (.c (.int .i64 (-1)))⟩])
  .ret)))
theorem e184 {args : List PV} {σ : Heap} {K : PV → Heap → Prop} (hl : args.length ≤ 19) (h : Wf σ → (∀ a ∈ args, PV.upto σ.length a) → vc (mkCfg Try.prog mixed [] 19 σ.length) k184 (FinK σ.length [.t 4] K) (argEnv 0 args) σ) : ACall Try.prog 184 args σ K :=
  ACall_enter (C := mkCfg Try.prog mixed [] 19 σ.length) (c := Try.f184.body.getD .skip) Try.func184 (by kernel_rfl) (by kernel_rfl) (by kernel_rfl) rfl hl (by kernel_rfl) (by kernel_rfl) h
/- slices.ContainsFunc[[]impl.met,impl.met] -/
def k172 : KC := (.seq (.ops [⟨(some 4), none, .mv (.c (.bool false))⟩])
  (.seq (.ops [⟨(some 5), none, .mv (.t 0)⟩, ⟨(some 6), none, .mv (.t 1)⟩, ⟨(some 7), none, .call (.c (.fn (.func 184) [] [])) [(.t 5), (.t 6)]⟩, ⟨(some 8), none, .bin .geq (.t 7) (.c (.int .i64 0))⟩, ⟨(some 4), none, .mv (.t 8)⟩])
  .ret))
theorem e172 {args : List PV} {σ : Heap} {K : PV → Heap → Prop} (hl : args.length ≤ 9) (h : Wf σ → (∀ a ∈ args, PV.upto σ.length a) → vc (mkCfg Try.prog mixed [] 9 σ.length) k172 (FinK σ.length [.t 4] K) (argEnv 0 args) σ) : ACall Try.prog 172 args σ K :=
  ACall_enter (C := mkCfg Try.prog mixed [] 9 σ.length) (c := Try.f172.body.getD .skip) Try.func172 (by kernel_rfl) (by kernel_rfl) (by kernel_rfl) rfl hl (by kernel_rfl) (by kernel_rfl) h
end Go.Proofs.Ytpepbomifjbgnaa
namespace Go.Proofs.Ytpepbomifjbgnaa
open Go.Kv
set_option linter.unusedVariables false
set_option linter.unusedSimpArgs false
attribute [local irreducible] ACall PCall KL
/-- What has been met: points, and a word. -/
abbrev Met := List Int × List Int
def mcell (m : Met) : PV := .agg [.list (ints m.1), .list (ints m.2)]
def mets (l : List Met) : List PV := l.map mcell
theorem subC2 (a b : PV) : subC [a, b] 0 2 = [a, b] := by unfold subC; first | rfl | (split <;> rfl) | simp
theorem mcell_sub (m : Met) : PV.agg (subC (mcell m).cs 0 2) = mcell m := by
  show PV.agg (subC [_, _] 0 2) = _
  rw [subC2]; rfl
@[simp] theorem mets_length (l : List Met) : (mets l).length = l.length := by simp [mets]
theorem mets_get {l : List Met} {i : Nat} (h : i < l.length) : (mets l)[i]? = some (mcell l[i]) := by simp [mets, h]
instance (m : Met) : Still (mcell m) := by unfold mcell; infer_instance
instance (l : List Met) : Still (.list (mets l)) := Still.list fun x hx => by
  obtain ⟨m, _, rfl⟩ := List.mem_map.1 hx
  refine ⟨inferInstance, fun c hc => ?_⟩
  simp only [mcell, PV.cs, List.mem_cons, List.mem_singleton, List.not_mem_nil, or_false] at hc
  rcases hc with rfl | rfl <;> exact upto_ints 0 _
theorem p47 (xs ys : List Int) (hl : ys.length ≤ 4294967296) (hl' : xs.length ≤ 4294967296) : Pure Try.prog 47 [.list (ints xs), .list (ints ys)] (.bool (decide (xs = ys))) := by
  refine e47 (by simp) fun _ _ => ?_
  simp only [k47, argEnv, take6, List.drop_zero, Int.cast_ofNat_Int, go_sem, ↓reduceIte, Nat.reduceEqDiff, Nat.reduceAdd, Nat.reduceMul, Nat.reduceLeDiff, Nat.reduceLT, Int.reduceLE, Int.reduceLT, reduceCtorEq]
  refine ⟨fun h => ?_, fun h => ?_⟩
  · exact Kv.Fin.still ⟨by rw [decide_eq_false (fun e => h (by rw [e]))], rfl⟩
  · have hxy : xs.length = ys.length := by omega
    refine KL_ind k47_b0.eq_1 (fun x : Nat => [(0, .list (ints xs)), (1, .list (ints ys)), (12, .int .i64 xs.length), (13, .int .i64 x)]) (fun _ => []) (fun x => x ≤ xs.length ∧ xs.take x = ys.take x) (fun x => xs.length - x) [0, 1, 12, 13] 0 (by rfl) rfl ⟨Nat.zero_le _, by simp⟩ fun x ⟨hx, he⟩ ih => ?_
    try simp only [take6, List.drop_zero, Int.cast_ofNat_Int, go_sem, ↓reduceIte, Nat.reduceEqDiff, Nat.reduceAdd, Nat.reduceMul, Nat.reduceLeDiff, Nat.reduceLT, Int.reduceLE, Int.reduceLT, reduceCtorEq]
    refine ⟨fun h1 => ?_, fun h1 => ?_⟩
    · have h2 : x < xs.length := by omega
      have h3 : x < ys.length := by omega
      refine ⟨by omega, fun _ => ⟨by omega, fun _ => ⟨fun h4 => ?_, fun h4 => ⟨by omega, ?_⟩⟩⟩⟩
      · rw [getD_eq h2, getD_eq h3] at h4
        exact Kv.Fin.still ⟨by rw [decide_eq_false]; rintro rfl; exact h4 rfl, rfl⟩
      · rw [getD_eq h2, getD_eq h3] at h4
        refine ih (x + 1) ⟨by omega, ?_⟩ (by omega) _ _ (by rfl) rfl
        rw [List.take_succ_eq_append_getElem h2, List.take_succ_eq_append_getElem h3, he, h4]
    · obtain rfl : x = xs.length := by omega
      rw [List.take_length, hxy, List.take_length] at he
      exact Kv.Fin.still ⟨by rw [decide_eq_true he], rfl⟩
theorem p173 (m : Met) (nx : List Int) (hl : nx.length ≤ 4294967296) (hl' : m.1.length ≤ 4294967296) : Pure Try.prog 173 [mcell m, .fptr [.list (ints nx)] 0] (.bool (decide (m.1 = nx))) := by
  unfold mcell
  refine e173 (by simp) fun _ _ => ?_
  simp only [k173, argEnv, take6, List.drop_zero, Int.cast_ofNat_Int, go_sem, ↓reduceIte, Nat.reduceEqDiff, Nat.reduceAdd, Nat.reduceMul, Nat.reduceLeDiff, Nat.reduceLT, Int.reduceLE, Int.reduceLT, reduceCtorEq]
  refine (p47 m.1 nx hl hl').go ?_
  try simp only [take6, List.drop_zero, Int.cast_ofNat_Int, go_sem, ↓reduceIte, Nat.reduceEqDiff, Nat.reduceAdd, Nat.reduceMul, Nat.reduceLeDiff, Nat.reduceLT, Int.reduceLE, Int.reduceLT, reduceCtorEq]
  exact Kv.Fin.still ⟨rfl, rfl⟩
theorem p184 (l : List Met) (hl : l.length ≤ 4294967296) (fid : FuncId) (caps : List PV) [hc : StillL caps] (p : Met → Bool) (hp : ∀ x ∈ l, Pure Try.prog fid (mcell x :: caps) (.bool (p x))) :
    Pure Try.prog 184 [.list (mets l), .fn (.func fid) [] caps] (.int .i64 (idx p l)) := by
  have hlen := mets_length l
  refine e184 (by simp) fun _ _ => ?_
  simp only [k184, argEnv, hlen, take6, List.drop_zero, Int.cast_ofNat_Int, go_sem, ↓reduceIte, Nat.reduceEqDiff, Nat.reduceAdd, Nat.reduceMul, Nat.reduceLeDiff, Nat.reduceLT, Int.reduceLE, Int.reduceLT, reduceCtorEq]
  refine KL_ind k184_b0.eq_1 (fun x : Nat => [(0, .list (mets l)), (1, .fn (.func fid) [] caps), (7, .int .i64 l.length), (8, .int .i64 x)]) (fun _ => []) (fun x => x ≤ l.length ∧ (l.take x).any p = false) (fun x => l.length - x) [0, 1, 7, 8] 0 rfl rfl ⟨Nat.zero_le _, by simp⟩ fun x ⟨hx, hall⟩ ih => ?_
  try simp only [hlen, take6, List.drop_zero, Int.cast_ofNat_Int, go_sem, ↓reduceIte, Nat.reduceEqDiff, Nat.reduceAdd, Nat.reduceMul, Nat.reduceLeDiff, Nat.reduceLT, Int.reduceLE, Int.reduceLT, reduceCtorEq]
  refine ⟨fun h1 => ?_, fun h1 => ?_⟩
  · have h2 : x < l.length := by omega
    have hg := mets_get h2
    have hpx := hp _ (List.getElem_mem h2)
    refine ⟨h1, fun y hy => ?_⟩
    rw [hg] at hy; cases hy
    refine ⟨rfl, Nat.le_refl _, ?_⟩
    rw [mcell_sub]
    refine hpx.go ?_
    try simp only [take6, List.drop_zero, Int.cast_ofNat_Int, go_sem, ↓reduceIte, Nat.reduceEqDiff, Nat.reduceAdd, Nat.reduceMul, Nat.reduceLeDiff, Nat.reduceLT, Int.reduceLE, Int.reduceLT, reduceCtorEq]
    refine ⟨fun h3 => ?_, fun h3 => ⟨by omega, ?_⟩⟩
    · exact Kv.Fin.now ⟨by rw [idx_some h2 hall h3], rfl⟩
    · refine ih (x + 1) ⟨by omega, ?_⟩ (by omega) _ _ rfl rfl
      rw [any_take_succ _ h2, hall, h3]; rfl
  · obtain rfl : x = l.length := by omega
    rw [List.take_length] at hall
    exact Kv.Fin.now ⟨by rw [idx_none hall], rfl⟩
theorem p172 (l : List Met) (hl : l.length ≤ 4294967296) (fid : FuncId) (caps : List PV) [hc : StillL caps] (p : Met → Bool) (hp : ∀ x ∈ l, Pure Try.prog fid (mcell x :: caps) (.bool (p x))) :
    Pure Try.prog 172 [.list (mets l), .fn (.func fid) [] caps] (.bool (l.any p)) := by
  refine e172 (by simp) fun _ _ => ?_
  simp only [k172, argEnv, take6, List.drop_zero, Int.cast_ofNat_Int, go_sem, ↓reduceIte, Nat.reduceEqDiff, Nat.reduceAdd, Nat.reduceMul, Nat.reduceLeDiff, Nat.reduceLT, Int.reduceLE, Int.reduceLT, reduceCtorEq]
  refine (p184 l hl fid caps p hp).go ?_
  try simp only [take6, List.drop_zero, Int.cast_ofNat_Int, go_sem, ↓reduceIte, Nat.reduceEqDiff, Nat.reduceAdd, Nat.reduceMul, Nat.reduceLeDiff, Nat.reduceLT, Int.reduceLE, Int.reduceLT, reduceCtorEq]
  exact Kv.Fin.still ⟨by rw [idx_nonneg], rfl⟩
end Go.Proofs.Ytpepbomifjbgnaa
end
section
/- Numbers within bounds. -/
namespace Go.Proofs.Ytpepbomifjbgnaa
open Go.Kv
set_option maxRecDepth 100000
/- spec.l01In -/
def k90 : KC := (.seq (.ops [⟨(some 6), none, .mv (.c (.bool false))⟩])
  (.seq (.ops [⟨(some 7), none, .mv (.t 0)⟩, ⟨(some 8), none, .mv (.t 1)⟩, ⟨(some 9), none, .bin .geq (.t 7) (.t 8)⟩, ⟨(some 10), none, .mv (.t 9)⟩, ⟨(some 11), some (10, true), .mv (.t 0)⟩, ⟨(some 12), some (10, true), .mv (.t 2)⟩, ⟨(some 13), some (10, true), .bin .leq (.t 11) (.t 12)⟩, ⟨(some 14), none, .pick (.t 10) (.t 13) (.c (.bool false))⟩, ⟨(some 6), none, .mv (.t 14)⟩])
  .ret))
theorem e90 {args : List PV} {σ : Heap} {K : PV → Heap → Prop} (hl : args.length ≤ 15) (h : Wf σ → (∀ a ∈ args, PV.upto σ.length a) → vc (mkCfg Try.prog mixed [] 15 σ.length) k90 (FinK σ.length [.t 6] K) (argEnv 0 args) σ) : ACall Try.prog 90 args σ K :=
  ACall_enter (C := mkCfg Try.prog mixed [] 15 σ.length) (c := Try.f90.body.getD .skip) Try.func90 (by kernel_rfl) (by kernel_rfl) (by kernel_rfl) rfl hl (by kernel_rfl) (by kernel_rfl) h
/- impl.within -/
def k91 : KC := (.seq (.ops [⟨(some 6), none, .mv (.c (.bool false))⟩])
  (.seq (.ops [⟨(some 7), none, .mv (.t 0)⟩, ⟨(some 8), none, .mv (.t 1)⟩, ⟨(some 9), none, .bin .geq (.t 7) (.t 8)⟩, ⟨(some 10), none, .mv (.t 9)⟩, ⟨(some 11), some (10, true), .mv (.t 0)⟩, ⟨(some 12), some (10, true), .mv (.t 2)⟩, ⟨(some 13), some (10, true), .bin .leq (.t 11) (.t 12)⟩, ⟨(some 14), none, .pick (.t 10) (.t 13) (.c (.bool false))⟩, ⟨(some 6), none, .mv (.t 14)⟩])
  .ret))
theorem e91 {args : List PV} {σ : Heap} {K : PV → Heap → Prop} (hl : args.length ≤ 15) (h : Wf σ → (∀ a ∈ args, PV.upto σ.length a) → vc (mkCfg Try.prog mixed [] 15 σ.length) k91 (FinK σ.length [.t 6] K) (argEnv 0 args) σ) : ACall Try.prog 91 args σ K :=
  ACall_enter (C := mkCfg Try.prog mixed [] 15 σ.length) (c := Try.f91.body.getD .skip) Try.func91 (by kernel_rfl) (by kernel_rfl) (by kernel_rfl) rfl hl (by kernel_rfl) (by kernel_rfl) h
end Go.Proofs.Ytpepbomifjbgnaa
namespace Go.Proofs.Ytpepbomifjbgnaa
open Go.Kv
set_option linter.unusedVariables false
set_option linter.unusedSimpArgs false
attribute [local irreducible] ACall PCall KL
theorem p90 (a b c : Int) : Pure Try.prog 90 [.int .i64 a, .int .i64 b, .int .i64 c] (.bool (decide (b ≤ a ∧ a ≤ c))) := by
  refine e90 (by simp) fun _ _ => ?_
  simp only [k90, argEnv, go_sem, ↓reduceIte, Nat.reduceEqDiff, Nat.reduceAdd, reduceCtorEq]
  by_cases h : b ≤ a <;> simp only [h, true_and, false_and, decide_false, true_implies, not_true_eq_false, false_implies, and_true, not_false_eq_true] <;> exact Kv.Fin.now ⟨rfl, rfl⟩
theorem p91 (a b c : Int) : Pure Try.prog 91 [.int .i64 a, .int .i64 b, .int .i64 c] (.bool (decide (b ≤ a ∧ a ≤ c))) := by
  refine e91 (by simp) fun _ _ => ?_
  simp only [k91, argEnv, go_sem, ↓reduceIte, Nat.reduceEqDiff, Nat.reduceAdd, reduceCtorEq]
  by_cases h : b ≤ a <;> simp only [h, true_and, false_and, decide_false, true_implies, not_true_eq_false, false_implies, and_true, not_false_eq_true] <;> exact Kv.Fin.now ⟨rfl, rfl⟩
end Go.Proofs.Ytpepbomifjbgnaa
end
section
/- Lists given by a rule; heaps that grow at the end: small laws. -/
namespace Go.Kv
/-- The list whose i-th member is f i. -/
def mk (m : Nat) (f : Nat → Int) : List Int := (List.range m).map f
@[go_sem, simp] theorem mk_length (m : Nat) (f : Nat → Int) : (mk m f).length = m := by simp [mk]
theorem mk_getD {m i : Nat} (h : i < m) (f : Nat → Int) : (mk m f).getD i 0 = f i := by simp [mk, List.getD_eq_getElem?_getD, h]
theorem mk_congr {m : Nat} {f g : Nat → Int} (h : ∀ i, i < m → f i = g i) : mk m f = mk m g := List.map_congr_left fun i hi => h i (by simpa using hi)
theorem mk_set {m i : Nat} (f : Nat → Int) (v : Int) : (mk m f).set i v = mk m (fun r => if r = i then v else f r) := by
  apply List.ext_getElem?
  intro j
  simp only [mk, List.getElem?_set, List.getElem?_map, List.length_map, List.length_range]
  by_cases hj : j < m
  · by_cases e : i = j
    · subst e; simp [hj]
    · have e' : ¬ j = i := fun h => e h.symm
      simp [hj, e, e']
  · by_cases e : i = j
    · subst e; simp [hj]
    · simp [hj, e]
theorem mk_rep (m : Nat) : List.replicate m (0 : Int) = mk m fun _ => 0 := by simp [mk, List.map_const']
theorem mk_succ (m : Nat) (f : Nat → Int) : mk (m + 1) f = mk m f ++ [f m] := by simp [mk, List.range_succ]
theorem mk_snoc (m : Nat) (f : Nat → Int) : mk m f ++ [f m] = mk (m + 1) f := by simp [mk, List.range_succ]
theorem mk_cons (m : Nat) (f : Nat → Int) : mk (m + 1) f = [f 0] ++ mk m fun i => f (i + 1) := by
  simp [mk, List.range_succ_eq_map, Function.comp_def]
theorem mk_zero (f : Nat → Int) : mk 0 f = [] := rfl
theorem mk_of (l : List Int) : mk l.length (fun i => l.getD i 0) = l := by
  apply List.ext_getElem?
  intro j
  simp only [mk, List.getElem?_map]
  by_cases hj : j < l.length
  · simp [hj, List.getD_eq_getElem?_getD]
  · have : (List.range l.length)[j]? = none := by simp; omega
    simp [this]; omega
@[go_sem] theorem get_last (σ : Heap) (a : AObj) : (σ ++ [a])[σ.length]? = some a := by simp
@[go_sem] theorem set_last (σ : Heap) (a b : AObj) : (σ ++ [a]).set σ.length b = σ ++ [b] := by simp
theorem get_left {σ : Heap} {i : Nat} {o : AObj} (h : σ[i]? = some o) (τ : Heap) : (σ ++ τ)[i]? = some o := by
  rw [List.getElem?_append_left (List.getElem?_eq_some_iff.1 h).1]; exact h
theorem copy_step {l : List Int} {x : Nat} (h : x < l.length) : (l.take x ++ List.replicate (l.length - x) 0).set x (l.getD x 0) = l.take (x + 1) ++ List.replicate (l.length - (x + 1)) 0 := by
  have e : l.length - x = (l.length - (x + 1)) + 1 := by omega
  have hm : min x l.length = x := by omega
  rw [e, List.replicate_succ, List.set_append_right _ _ (by rw [List.length_take]; omega), List.length_take, hm, Nat.sub_self, List.set_cons_zero, List.take_succ_eq_append_getElem h, List.append_assoc, List.getD_eq_getElem?_getD, List.getElem?_eq_getElem h]
  rfl
theorem all_range_succ (p : Nat → Bool) (n : Nat) : (List.range (n + 1)).all p = ((List.range n).all p && p n) := by simp [List.range_succ, List.all_append]
theorem not_range {p : Nat → Bool} {n x : Nat} (h : x < n) (hp : p x = false) : (List.range n).all p = false := by
  rw [List.all_eq_false]; exact ⟨x, by simpa using h, by simp [hp]⟩
end Go.Kv
end
section
/- Maps: what is one, identities, products. -/
namespace Go.Proofs.Ytpepbomifjbgnaa
open Go.Kv
set_option maxRecDepth 100000
/- laws.toMap -/
def k53 : KC := (.seq (.ops [⟨(some 1), none, .box true (.t 0)⟩, ⟨(some 2), none, .alloc [.int .i64 0, .int .i64 0, .int .i64 0, .int .i64 0, .int .i64 0, .int .i64 0]⟩])
  (.seq (.ops [⟨(some 3), none, .alloc [.int .i64 0, .int .i64 0, .int .i64 0, .int .i64 0, .int .i64 0, .int .i64 0]⟩])
  (.seq (.ops [⟨(some 4), none, .fieldA 0 (.t 1)⟩, ⟨(some 5), none, .load false 1 (.t 4)⟩, ⟨(some 6), none, .fieldA 0 (.t 3)⟩, ⟨none, none, .store 1 (.t 6) (.t 5)⟩])
  (.seq (.ops [⟨(some 7), none, .fieldA 1 (.t 1)⟩, ⟨(some 8), none, .load true 5 (.t 7)⟩, ⟨(some 9), none, .call (.c (.fn (.func 100) [] [])) [(.t 8)]⟩, ⟨(some 10), none, .fieldA 1 (.t 3)⟩, ⟨none, none, .store 5 (.t 10) (.t 9)⟩])
  (.seq (.ops [⟨(some 11), none, .load true 6 (.t 3)⟩, ⟨none, none, .store 6 (.t 2) (.t 11)⟩])
  .ret)))))
theorem e53 {args : List PV} {σ : Heap} {K : PV → Heap → Prop} (hl : args.length ≤ 12) (h : Wf σ → (∀ a ∈ args, PV.upto σ.length a) → vc (mkCfg Try.prog mixed [1] 12 σ.length) k53 (FinK σ.length [.cell 2 true 6] K) (argEnv 0 args) σ) : ACall Try.prog 53 args σ K :=
  ACall_enter (C := mkCfg Try.prog mixed [1] 12 σ.length) (c := Try.f53.body.getD .skip) Try.func53 (by kernel_rfl) (by kernel_rfl) (by kernel_rfl) rfl hl (by kernel_rfl) (by kernel_rfl) h
/- laws.toInt64A5 -/
/- live [1, 2, 3, 4] -/
def k100_b0 : KC := (.seq (.seq (.ops [⟨(some 5), none, .mv (.t 4)⟩, ⟨(some 6), none, .bin .lss (.t 5) (.c (.int .i64 5))⟩])
  (.cond (.t 6) .skip (.exit 0)))
  (.seq (.block 1 (.ops [⟨(some 9), none, .mv (.t 4)⟩, ⟨(some 10), none, .mv (.t 4)⟩, ⟨(some 11), none, .idxA 5 1 (.t 1) (.t 10)⟩, ⟨(some 12), none, .load false 1 (.t 11)⟩, ⟨(some 13), none, .idxA 5 1 (.t 3) (.t 9)⟩, ⟨none, none, .store 1 (.t 13) (.t 12)⟩]))
  (.ops [⟨(some 7), none, .mv (.t 4)⟩, ⟨(some 8), none, .bin .add (.t 7) (.c (.int .i64 1))⟩, ⟨(some 4), none, .mv (.t 8)⟩])))
def k100 : KC := (.seq (.ops [⟨(some 1), none, .box true (.t 0)⟩, ⟨(some 2), none, .alloc [.int .i64 0, .int .i64 0, .int .i64 0, .int .i64 0, .int .i64 0]⟩])
  (.seq (.ops [⟨(some 3), none, .alloc [.int .i64 0, .int .i64 0, .int .i64 0, .int .i64 0, .int .i64 0]⟩])
  (.seq (.seq (.ops [⟨(some 4), none, .mv (.c (.int .i64 0))⟩])
  (.block 0 (.loop k100_b0)))
  (.seq (.ops [⟨(some 14), none, .load true 5 (.t 3)⟩, ⟨none, none, .store 5 (.t 2) (.t 14)⟩])
  .ret))))
theorem e100 {args : List PV} {σ : Heap} {K : PV → Heap → Prop} (hl : args.length ≤ 15) (h : Wf σ → (∀ a ∈ args, PV.upto σ.length a) → vc (mkCfg Try.prog mixed [1] 15 σ.length) k100 (FinK σ.length [.cell 2 true 5] K) (argEnv 0 args) σ) : ACall Try.prog 100 args σ K :=
  ACall_enter (C := mkCfg Try.prog mixed [1] 15 σ.length) (c := Try.f100.body.getD .skip) Try.func100 (by kernel_rfl) (by kernel_rfl) (by kernel_rfl) rfl hl (by kernel_rfl) (by kernel_rfl) h
/- spec.l01Is -/
/- live [1, 3, 17, 18, 19, 20, 21, 22, 23, 24, 25, 28, 29, 30, 31, 32, 33, 34, 35, 36, 37, 38] -/
def k98_b0 : KC := (.seq (.seq (.ops [⟨(some 8), none, .mv (.t 3)⟩, ⟨(some 9), none, .bin .lss (.t 8) (.c (.int .i64 5))⟩])
  (.cond (.t 9) .skip (.exit 0)))
  (.seq (.block 1 (.seq (.draw [⟨(some 12), none, .mv (.t 3)⟩, ⟨(some 13), none, .fieldA 0 (.t 1)⟩, ⟨(some 14), none, .load false 1 (.t 13)⟩, ⟨(some 15), none, .bin .lss (.t 12) (.t 14)⟩, ⟨(some 16), none, .mv (.t 15)⟩, ⟨(some 17), some (16, true), .mv (.t 3)⟩, ⟨(some 18), some (16, true), .fieldA 1 (.t 1)⟩, ⟨(some 19), some (16, true), .idxA 5 1 (.t 18) (.t 17)⟩, ⟨(some 20), some (16, true), .load false 1 (.t 19)⟩, ⟨(some 21), some (16, true), .fieldA 0 (.t 1)⟩, ⟨(some 22), some (16, true), .load false 1 (.t 21)⟩, ⟨(some 23), some (16, true), .bin .sub (.t 22) (.c (.int .i64 1))⟩, ⟨(some 24), some (16, true), .pcall (.c (.fn (.func 90) [] [])) [(.t 20), (.c (.int .i64 0)), (.t 23)]⟩, ⟨(some 25), some (16, true), .not (.t 24)⟩, ⟨(some 26), none, .pick (.t 16) (.t 25) (.c (.bool false))⟩, ⟨(some 27), none, .mv (.t 26)⟩, ⟨(some 28), some (27, false), .mv (.t 3)⟩, ⟨(some 29), some (27, false), .fieldA 0 (.t 1)⟩, ⟨(some 30), some (27, false), .load false 1 (.t 29)⟩, ⟨(some 31), some (27, false), .bin .geq (.t 28) (.t 30)⟩, ⟨(some 32), some (27, false), .mv (.t 31)⟩, ⟨(some 33), some (32, true), .mv (.t 3)⟩, ⟨(some 34), some (32, true), .fieldA 1 (.t 1)⟩, ⟨(some 35), some (32, true), .idxA 5 1 (.t 34) (.t 33)⟩, ⟨(some 36), some (32, true), .load false 1 (.t 35)⟩, ⟨(some 37), some (32, true), .bin .neq (.t 36) (.c (.int .i64 0))⟩, ⟨(some 38), some (27, false), .pick (.t 32) (.t 37) (.c (.bool false))⟩, ⟨(some 39), none, .pick (.t 27) (.c (.bool true)) (.t 38)⟩])
  (.cond (.t 39) (.seq (.ops [⟨(some 2), none, .mv (.c (.bool false))⟩])
  .ret) .skip)))
  (.ops [⟨(some 10), none, .mv (.t 3)⟩, ⟨(some 11), none, .bin .add (.t 10) (.c (.int .i64 1))⟩, ⟨(some 3), none, .mv (.t 11)⟩])))
def k98 : KC := (.seq (.ops [⟨(some 1), none, .box true (.t 0)⟩, ⟨(some 2), none, .mv (.c (.bool false))⟩])
  (.seq (.seq (.ops [⟨(some 4), none, .fieldA 0 (.t 1)⟩, ⟨(some 5), none, .load false 1 (.t 4)⟩, ⟨(some 6), none, .call (.c (.fn (.func 90) [] [])) [(.t 5), (.c (.int .i64 1)), (.c (.int .i64 5))]⟩, ⟨(some 7), none, .not (.t 6)⟩])
  (.cond (.t 7) (.seq (.ops [⟨(some 2), none, .mv (.c (.bool false))⟩])
  .ret) .skip))
  (.seq (.seq (.ops [⟨(some 3), none, .mv (.c (.int .i64 0))⟩])
  (.block 0 (.loop k98_b0)))
  (.seq (.ops [⟨(some 2), none, .mv (.c (.bool true))⟩])
  .ret))))
theorem e98 {args : List PV} {σ : Heap} {K : PV → Heap → Prop} (hl : args.length ≤ 40) (h : Wf σ → (∀ a ∈ args, PV.upto σ.length a) → vc (mkCfg Try.prog mixed [1] 40 σ.length) k98 (FinK σ.length [.t 2] K) (argEnv 0 args) σ) : ACall Try.prog 98 args σ K :=
  ACall_enter (C := mkCfg Try.prog mixed [1] 40 σ.length) (c := Try.f98.body.getD .skip) Try.func98 (by kernel_rfl) (by kernel_rfl) (by kernel_rfl) rfl hl (by kernel_rfl) (by kernel_rfl) h
/- impl.IsMap -/
/- live [1, 10, 11, 20, 21, 22, 23, 24, 25, 28, 29, 30, 31, 32, 33, 34, 35] -/
def k102_b0 : KC := (.seq (.ops [⟨(some 12), none, .bin .lss (.t 11) (.c (.int .i64 5))⟩])
  (.seq (.cond (.t 12) .skip (.exit 0))
  (.seq (.block 1 (.seq (.ops [⟨(some 13), none, .mv (.t 11)⟩, ⟨(some 14), none, .idxV 5 1 false (.t 10) (.t 11)⟩, ⟨(some 3), none, .mv (.t 13)⟩, ⟨(some 4), none, .mv (.t 14)⟩])
  (.seq (.ops [⟨(some 15), none, .mv (.t 3)⟩, ⟨(some 16), none, .fieldA 0 (.t 1)⟩, ⟨(some 17), none, .load false 1 (.t 16)⟩, ⟨(some 18), none, .bin .lss (.t 15) (.t 17)⟩, ⟨(some 19), none, .mv (.t 18)⟩, ⟨(some 20), some (19, true), .mv (.t 4)⟩, ⟨(some 21), some (19, true), .fieldA 0 (.t 1)⟩, ⟨(some 22), some (19, true), .load false 1 (.t 21)⟩, ⟨(some 23), some (19, true), .bin .sub (.t 22) (.c (.int .i64 1))⟩, ⟨(some 24), some (19, true), .call (.c (.fn (.func 91) [] [])) [(.t 20), (.c (.int .i64 0)), (.t 23)]⟩, ⟨(some 25), some (19, true), .not (.t 24)⟩, ⟨(some 26), none, .pick (.t 19) (.t 25) (.c (.bool false))⟩, ⟨(some 27), none, .mv (.t 26)⟩, ⟨(some 28), some (27, false), .mv (.t 3)⟩, ⟨(some 29), some (27, false), .fieldA 0 (.t 1)⟩, ⟨(some 30), some (27, false), .load false 1 (.t 29)⟩, ⟨(some 31), some (27, false), .bin .geq (.t 28) (.t 30)⟩, ⟨(some 32), some (27, false), .mv (.t 31)⟩, ⟨(some 33), some (32, true), .mv (.t 4)⟩, ⟨(some 34), some (32, true), .bin .neq (.t 33) (.c (.int .i64 0))⟩, ⟨(some 35), some (27, false), .pick (.t 32) (.t 34) (.c (.bool false))⟩, ⟨(some 36), none, .pick (.t 27) (.c (.bool true)) (.t 35)⟩])
  (.cond (.t 36) (.seq (.ops [⟨(some 2), none, .mv (.c (.bool false))⟩])
  .ret) .skip))))
  (.ops [⟨(some 37), none, .bin .add (.t 11) (.c (.int .i64 1))⟩, ⟨(some 11), none, .mv (.t 37)⟩]))))
def k102 : KC := (.seq (.ops [⟨(some 1), none, .box true (.t 0)⟩, ⟨(some 2), none, .mv (.c (.bool false))⟩])
  (.seq (.seq (.ops [⟨(some 5), none, .fieldA 0 (.t 1)⟩, ⟨(some 6), none, .load false 1 (.t 5)⟩, ⟨(some 7), none, .call (.c (.fn (.func 91) [] [])) [(.t 6), (.c (.int .i64 1)), (.c (.int .i64 5))]⟩, ⟨(some 8), none, .not (.t 7)⟩])
  (.cond (.t 8) (.seq (.ops [⟨(some 2), none, .mv (.c (.bool false))⟩])
  .ret) .skip))
  (.seq (.seq (.ops [⟨(some 9), none, .fieldA 1 (.t 1)⟩, ⟨(some 10), none, .load true 5 (.t 9)⟩, ⟨(some 11), none, .mv (.c (.int .i64 0))⟩])
  (.block 0 (.loop k102_b0)))
  (.seq (.ops [⟨(some 2), none, .mv (.c (.bool true))⟩])
  .ret))))
theorem e102 {args : List PV} {σ : Heap} {K : PV → Heap → Prop} (hl : args.length ≤ 38) (h : Wf σ → (∀ a ∈ args, PV.upto σ.length a) → vc (mkCfg Try.prog mixed [1] 38 σ.length) k102 (FinK σ.length [.t 2] K) (argEnv 0 args) σ) : ACall Try.prog 102 args σ K :=
  ACall_enter (C := mkCfg Try.prog mixed [1] 38 σ.length) (c := Try.f102.body.getD .skip) Try.func102 (by kernel_rfl) (by kernel_rfl) (by kernel_rfl) rfl hl (by kernel_rfl) (by kernel_rfl) h
/- spec.l01Identity -/
/- live [0, 2, 3, 4] -/
def k142_b0 : KC := (.seq (.seq (.ops [⟨(some 7), none, .mv (.t 4)⟩, ⟨(some 8), none, .mv (.t 0)⟩, ⟨(some 9), none, .bin .lss (.t 7) (.t 8)⟩])
  (.cond (.t 9) .skip (.exit 0)))
  (.seq (.block 1 (.ops [⟨(some 12), none, .mv (.t 4)⟩, ⟨(some 13), none, .mv (.t 4)⟩, ⟨(some 14), none, .fieldA 1 (.t 3)⟩, ⟨(some 15), none, .idxA 5 1 (.t 14) (.t 12)⟩, ⟨none, none, .store 1 (.t 15) (.t 13)⟩]))
  (.ops [⟨(some 10), none, .mv (.t 4)⟩, ⟨(some 11), none, .bin .add (.t 10) (.c (.int .i64 1))⟩, ⟨(some 4), none, .mv (.t 11)⟩])))
def k142 : KC := (.seq (.ops [⟨(some 2), none, .alloc [.int .i64 0, .int .i64 0, .int .i64 0, .int .i64 0, .int .i64 0, .int .i64 0]⟩])
  (.seq (.ops [⟨(some 5), none, .mv (.t 0)⟩, ⟨(some 6), none, .build [.int .i64 0, .int .i64 0, .int .i64 0, .int .i64 0, .int .i64 0, .int .i64 0] [(0, 1, (.t 5))]⟩, ⟨(some 3), none, .alloc [.int .i64 0, .int .i64 0, .int .i64 0, .int .i64 0, .int .i64 0, .int .i64 0]⟩, ⟨none, none, .store 6 (.t 3) (.t 6)⟩])
  (.seq (.seq (.ops [⟨(some 4), none, .mv (.c (.int .i64 0))⟩])
  (.block 0 (.loop k142_b0)))
  (.seq (.ops [⟨(some 16), none, .load true 6 (.t 3)⟩, ⟨none, none, .store 6 (.t 2) (.t 16)⟩])
  .ret))))
theorem e142 {args : List PV} {σ : Heap} {K : PV → Heap → Prop} (hl : args.length ≤ 17) (h : Wf σ → (∀ a ∈ args, PV.upto σ.length a) → vc (mkCfg Try.prog mixed [] 17 σ.length) k142 (FinK σ.length [.cell 2 true 6] K) (argEnv 0 args) σ) : ACall Try.prog 142 args σ K :=
  ACall_enter (C := mkCfg Try.prog mixed [] 17 σ.length) (c := Try.f142.body.getD .skip) Try.func142 (by kernel_rfl) (by kernel_rfl) (by kernel_rfl) rfl hl (by kernel_rfl) (by kernel_rfl) h
/- spec.l01Times -/
/- live [2, 3, 4, 5, 6] -/
def k117_b0 : KC := (.seq (.seq (.ops [⟨(some 10), none, .mv (.t 6)⟩, ⟨(some 11), none, .fieldA 0 (.t 2)⟩, ⟨(some 12), none, .load false 1 (.t 11)⟩, ⟨(some 13), none, .bin .lss (.t 10) (.t 12)⟩])
  (.cond (.t 13) .skip (.exit 0)))
  (.seq (.block 1 (.ops [⟨(some 16), none, .mv (.t 6)⟩, ⟨(some 17), none, .mv (.t 6)⟩, ⟨(some 18), none, .fieldA 1 (.t 2)⟩, ⟨(some 19), none, .idxA 5 1 (.t 18) (.t 17)⟩, ⟨(some 20), none, .load false 1 (.t 19)⟩, ⟨(some 21), none, .fieldA 1 (.t 3)⟩, ⟨(some 22), none, .idxA 5 1 (.t 21) (.t 20)⟩, ⟨(some 23), none, .load false 1 (.t 22)⟩, ⟨(some 24), none, .fieldA 1 (.t 5)⟩, ⟨(some 25), none, .idxA 5 1 (.t 24) (.t 16)⟩, ⟨none, none, .store 1 (.t 25) (.t 23)⟩]))
  (.ops [⟨(some 14), none, .mv (.t 6)⟩, ⟨(some 15), none, .bin .add (.t 14) (.c (.int .i64 1))⟩, ⟨(some 6), none, .mv (.t 15)⟩])))
def k117 : KC := (.seq (.ops [⟨(some 2), none, .box true (.t 0)⟩, ⟨(some 3), none, .box true (.t 1)⟩, ⟨(some 4), none, .alloc [.int .i64 0, .int .i64 0, .int .i64 0, .int .i64 0, .int .i64 0, .int .i64 0]⟩])
  (.seq (.ops [⟨(some 7), none, .fieldA 0 (.t 2)⟩, ⟨(some 8), none, .load false 1 (.t 7)⟩, ⟨(some 9), none, .build [.int .i64 0, .int .i64 0, .int .i64 0, .int .i64 0, .int .i64 0, .int .i64 0] [(0, 1, (.t 8))]⟩, ⟨(some 5), none, .alloc [.int .i64 0, .int .i64 0, .int .i64 0, .int .i64 0, .int .i64 0, .int .i64 0]⟩, ⟨none, none, .store 6 (.t 5) (.t 9)⟩])
  (.seq (.seq (.ops [⟨(some 6), none, .mv (.c (.int .i64 0))⟩])
  (.block 0 (.loop k117_b0)))
  (.seq (.ops [⟨(some 26), none, .load true 6 (.t 5)⟩, ⟨none, none, .store 6 (.t 4) (.t 26)⟩])
  .ret))))
theorem e117 {args : List PV} {σ : Heap} {K : PV → Heap → Prop} (hl : args.length ≤ 27) (h : Wf σ → (∀ a ∈ args, PV.upto σ.length a) → vc (mkCfg Try.prog mixed [2, 3] 27 σ.length) k117 (FinK σ.length [.cell 4 true 6] K) (argEnv 0 args) σ) : ACall Try.prog 117 args σ K :=
  ACall_enter (C := mkCfg Try.prog mixed [2, 3] 27 σ.length) (c := Try.f117.body.getD .skip) Try.func117 (by kernel_rfl) (by kernel_rfl) (by kernel_rfl) rfl hl (by kernel_rfl) (by kernel_rfl) h
/- (impl.Map).times -/
/- live [2, 3, 4, 7, 8] -/
def k146_b0 : KC := (.seq (.ops [⟨(some 9), none, .bin .lss (.t 8) (.t 7)⟩])
  (.seq (.cond (.t 9) .skip (.exit 0))
  (.seq (.block 1 (.seq (.ops [⟨(some 10), none, .mv (.t 8)⟩, ⟨(some 5), none, .mv (.t 10)⟩])
  (.ops [⟨(some 11), none, .mv (.t 5)⟩, ⟨(some 12), none, .mv (.t 5)⟩, ⟨(some 13), none, .fieldA 1 (.t 2)⟩, ⟨(some 14), none, .idxA 5 1 (.t 13) (.t 12)⟩, ⟨(some 15), none, .load false 1 (.t 14)⟩, ⟨(some 16), none, .fieldA 1 (.t 3)⟩, ⟨(some 17), none, .idxA 5 1 (.t 16) (.t 15)⟩, ⟨(some 18), none, .load false 1 (.t 17)⟩, ⟨(some 19), none, .fieldA 1 (.t 2)⟩, ⟨(some 20), none, .idxA 5 1 (.t 19) (.t 11)⟩, ⟨none, none, .store 1 (.t 20) (.t 18)⟩])))
  (.ops [⟨(some 21), none, .bin .add (.t 8) (.c (.int .i64 1))⟩, ⟨(some 8), none, .mv (.t 21)⟩]))))
def k146 : KC := (.seq (.ops [⟨(some 2), none, .box false (.t 0)⟩, ⟨(some 3), none, .box true (.t 1)⟩, ⟨(some 4), none, .alloc [.int .i64 0, .int .i64 0, .int .i64 0, .int .i64 0, .int .i64 0, .int .i64 0]⟩])
  (.seq (.seq (.ops [⟨(some 6), none, .fieldA 0 (.t 2)⟩, ⟨(some 7), none, .load false 1 (.t 6)⟩, ⟨(some 8), none, .mv (.c (.int .i64 0))⟩])
  (.block 0 (.loop k146_b0)))
  (.seq (.ops [⟨(some 22), none, .load true 6 (.t 2)⟩, ⟨none, none, .store 6 (.t 4) (.t 22)⟩])
  .ret)))
theorem e146 {args : List PV} {σ : Heap} {K : PV → Heap → Prop} (hl : args.length ≤ 23) (h : Wf σ → (∀ a ∈ args, PV.upto σ.length a) → vc (mkCfg Try.prog mixed [3] 23 σ.length) k146 (FinK σ.length [.cell 4 true 6] K) (argEnv 0 args) σ) : ACall Try.prog 146 args σ K :=
  ACall_enter (C := mkCfg Try.prog mixed [3] 23 σ.length) (c := Try.f146.body.getD .skip) Try.func146 (by kernel_rfl) (by kernel_rfl) (by kernel_rfl) rfl hl (by kernel_rfl) (by kernel_rfl) h
end Go.Proofs.Ytpepbomifjbgnaa
namespace Go.Proofs.Ytpepbomifjbgnaa
open Go.Kv
set_option linter.unusedVariables false
set_option linter.unusedSimpArgs false
attribute [local irreducible] ACall PCall KL
theorem p142 (n : Nat) (h1 : 1 ≤ n) (h5 : n ≤ 5) : Pure Try.prog 142 [.int .i64 n] (.agg (ints (mp (List.range n)))) := by
  refine e142 (by simp) fun _ _ => ?_
  simp only [k142, argEnv, take6, List.drop_zero, Int.cast_ofNat_Int, go_sem, ↓reduceIte, Nat.reduceEqDiff, Nat.reduceAdd, Nat.reduceMul, Nat.reduceLeDiff, Nat.reduceLT, Int.reduceLE, Int.reduceLT, reduceCtorEq]
  refine KL_ind k142_b0.eq_1 (fun x : Nat => [(0, .int .i64 n), (2, .ptr 0 0), (3, .ptr 1 0), (4, .int .i64 x)]) (fun x => [.box (ints [0, 0, 0, 0, 0, 0]), .box (ints (mpN n (List.range x)))]) (fun x => x ≤ n) (fun x => n - x) [0, 2, 3, 4] 0 (by simp [keep]) (by rfl) (Nat.zero_le _) fun x hi ih => ?_
  have hl : (mpN n (List.range x)).length = 6 := mpN_length (by simp; omega)
  try simp only [hl, take6, List.drop_zero, Int.cast_ofNat_Int, go_sem, ↓reduceIte, Nat.reduceEqDiff, Nat.reduceAdd, Nat.reduceMul, Nat.reduceLeDiff, Nat.reduceLT, Int.reduceLE, Int.reduceLT, reduceCtorEq]
  refine ⟨fun h => ?_, fun h => ?_⟩
  · repeat' (first | refine And.intro ?_ ?_ | intro _)
    all_goals (try omega)
    refine ih (x + 1) (by omega) (by omega) _ _ (by rfl) ?_
    rw [mpN_pushI (by simp) (by simp; omega), ← List.range_succ]
  · obtain rfl : x = n := by omega
    refine Kv.Fin.still ⟨?_, rfl⟩
    simp [mp]
theorem mul_step {f g : List Nat} {n x : Nat} (hf : Ok f n) (h : x < n) : ((mul f g).take x ++ f.drop x).set x (g.getD (f.getD x 0) 0) = (mul f g).take (x + 1) ++ f.drop (x + 1) := by
  have hl := hf.len
  rw [List.set_append_right _ _ (by simp; omega), List.length_take, mul_length, Nat.min_eq_left (by omega), Nat.sub_self, List.drop_eq_getElem_cons (by omega), List.set_cons_zero, List.take_succ_eq_append_getElem (by simp; omega), List.append_assoc]
  simp [mul, List.getD_eq_getElem?_getD, hl, h]
theorem mul_mid {f g : List Nat} {n x : Nat} (hf : Ok f n) (h : x < n) : ((mul f g).take x ++ f.drop x).getD x 0 = f.getD x 0 := by
  have hl := hf.len
  rw [List.getD_eq_getElem?_getD, List.getElem?_append_right (by simp; omega), List.length_take, mul_length, Nat.min_eq_left (by omega), Nat.sub_self]
  simp [List.getD_eq_getElem?_getD]
theorem p146 (f g : List Nat) (n : Nat) (hf : Ok f n) (hg : Ok g n) : Pure Try.prog 146 [.agg (ints (mp f)), .agg (ints (mp g))] (.agg (ints (mp (mul f g)))) := by
  rw [hf.mp_eq, hg.mp_eq, (hf.mul hg).mp_eq]
  have hlg := hg.mp_eq ▸ hg.mp_len
  have hlf := hf.mp_eq ▸ hf.mp_len
  have hll := hf.len
  have h5 := hf.le
  refine e146 (by simp) fun _ _ => ?_
  simp only [k146, argEnv, hlf, hlg, take6, List.drop_zero, Int.cast_ofNat_Int, go_sem, ↓reduceIte, Nat.reduceEqDiff, Nat.reduceAdd, Nat.reduceMul, Nat.reduceLeDiff, Nat.reduceLT, Int.reduceLE, Int.reduceLT, reduceCtorEq]
  refine KL_ind k146_b0.eq_1 (fun x : Nat => [(2, .ptr 0 0), (3, .fptr (ints (mpN n g)) 0), (4, .ptr 1 0), (7, .int .i64 n), (8, .int .i64 x)]) (fun x => [.box (ints (mpN n ((mul f g).take x ++ f.drop x))), .box (ints [0, 0, 0, 0, 0, 0])]) (fun x => x ≤ n) (fun x => n - x) [2, 3, 4, 7, 8] 0 (by rfl) (by simp [ints]) (Nat.zero_le _) fun x hi ih => ?_
  have hl : (mpN n ((mul f g).take x ++ f.drop x)).length = 6 := mpN_length (by simp; omega)
  try simp only [hl, hlg, take6, List.drop_zero, Int.cast_ofNat_Int, go_sem, ↓reduceIte, Nat.reduceEqDiff, Nat.reduceAdd, Nat.reduceMul, Nat.reduceLeDiff, Nat.reduceLT, Int.reduceLE, Int.reduceLT, reduceCtorEq]
  refine ⟨fun h => ?_, fun h => ?_⟩
  · have hx : x < n := by omega
    rw [mul_mid hf hx]
    have := hf.get hx
    repeat' (first | refine And.intro ?_ ?_ | intro _)
    all_goals (try omega)
    refine ih (x + 1) (by omega) (by omega) _ _ (by rfl) ?_
    rw [mpN_set (by simp; omega), mul_step hf hx]
  · obtain rfl : x = n := by omega
    refine Kv.Fin.still ⟨?_, rfl⟩
    rw [List.take_of_length_le (by simp; omega), List.drop_of_length_le (by omega), List.append_nil]
theorem p117 (f g : List Nat) (n : Nat) (hf : Ok f n) (hg : Ok g n) : Pure Try.prog 117 [.agg (ints (mp f)), .agg (ints (mp g))] (.agg (ints (mp (mul f g)))) := by
  rw [hf.mp_eq, hg.mp_eq, (hf.mul hg).mp_eq]
  have hlg := hg.mp_eq ▸ hg.mp_len
  have hlf := hf.mp_eq ▸ hf.mp_len
  have hll := hf.len
  have h5 := hf.le
  refine e117 (by simp) fun _ _ => ?_
  simp only [k117, argEnv, hlf, hlg, take6, List.drop_zero, Int.cast_ofNat_Int, go_sem, ↓reduceIte, Nat.reduceEqDiff, Nat.reduceAdd, Nat.reduceMul, Nat.reduceLeDiff, Nat.reduceLT, Int.reduceLE, Int.reduceLT, reduceCtorEq]
  refine KL_ind k117_b0.eq_1 (fun x : Nat => [(2, .fptr (ints (mpN n f)) 0), (3, .fptr (ints (mpN n g)) 0), (4, .ptr 0 0), (5, .ptr 1 0), (6, .int .i64 x)]) (fun x => [.box (ints [0, 0, 0, 0, 0, 0]), .box (ints (mpN n ((mul f g).take x)))]) (fun x => x ≤ n) (fun x => n - x) [2, 3, 4, 5, 6] 0 (by rfl) (by simp [ints, mpN]) (Nat.zero_le _) fun x hi ih => ?_
  have hl : (mpN n ((mul f g).take x)).length = 6 := mpN_length (by simp; omega)
  try simp only [hl, hlg, hlf, take6, List.drop_zero, Int.cast_ofNat_Int, go_sem, ↓reduceIte, Nat.reduceEqDiff, Nat.reduceAdd, Nat.reduceMul, Nat.reduceLeDiff, Nat.reduceLT, Int.reduceLE, Int.reduceLT, reduceCtorEq]
  refine ⟨fun h => ?_, fun h => ?_⟩
  · have hx : x < n := by omega
    have := hf.get hx
    repeat' (first | refine And.intro ?_ ?_ | intro _)
    all_goals (try omega)
    refine ih (x + 1) (by omega) (by omega) _ _ (by rfl) ?_
    rw [mpN_pushI (by simp; omega) (by simp; omega), ← mul_get (by omega), List.take_succ_eq_append_getElem (by simp; omega)]
    simp [List.getD_eq_getElem?_getD, hx, hll]
  · obtain rfl : x = n := by omega
    refine Kv.Fin.still ⟨?_, rfl⟩
    rw [List.take_of_length_le (by simp; omega)]
theorem p100 (m : List Int) (h : m.length = 5) : Pure Try.prog 100 [.agg (ints m)] (.agg (ints m)) := by
  refine e100 (by simp) fun _ _ => ?_
  simp only [k100, argEnv, h, take6, List.drop_zero, Int.cast_ofNat_Int, go_sem, ↓reduceIte, Nat.reduceEqDiff, Nat.reduceAdd, Nat.reduceMul, Nat.reduceLeDiff, Nat.reduceLT, Int.reduceLE, Int.reduceLT, reduceCtorEq]
  refine KL_ind k100_b0.eq_1 (fun x : Nat => [(1, .fptr (ints m) 0), (2, .ptr 0 0), (3, .ptr 1 0), (4, .int .i64 x)]) (fun x => [.box (ints [0, 0, 0, 0, 0]), .box (ints (m.take x ++ List.replicate (5 - x) 0))]) (fun x => x ≤ 5) (fun x => 5 - x) [1, 2, 3, 4] 0 (by rfl) (by rfl) (Nat.zero_le _) fun x hx ih => ?_
  have hl : (m.take x ++ List.replicate (5 - x) 0).length = 5 := by simp; omega
  try simp only [hl, h, take6, List.drop_zero, Int.cast_ofNat_Int, go_sem, ↓reduceIte, Nat.reduceEqDiff, Nat.reduceAdd, Nat.reduceMul, Nat.reduceLeDiff, Nat.reduceLT, Int.reduceLE, Int.reduceLT, reduceCtorEq]
  refine ⟨fun h1 => ?_, fun h1 => ?_⟩
  · repeat' (first | refine And.intro ?_ ?_ | intro _)
    all_goals (try omega)
    refine ih (x + 1) (by omega) (by omega) _ _ (by rfl) ?_
    have := copy_step (l := m) (x := x) (by omega)
    rw [h] at this
    rw [this]
  · obtain rfl : x = 5 := by omega
    have e : m.take 5 ++ List.replicate (5 - 5) 0 = m := by simp [← h]
    rw [e]
    have e1 : m.take 5 = m := by simp [← h]
    have e2 : putC (ints [0, 0, 0, 0, 0]) 0 (ints m) = ints m := put5 (by simp [ints, h]) rfl
    try simp only [e1, e2, h, take6, List.drop_zero, Int.cast_ofNat_Int, go_sem, ↓reduceIte, Nat.reduceEqDiff, Nat.reduceAdd, Nat.reduceMul, Nat.reduceLeDiff, Nat.reduceLT, Int.reduceLE, Int.reduceLT, reduceCtorEq]
    exact Kv.Fin.still ⟨rfl, rfl⟩
theorem p53 (m : List Int) (h : m.length = 6) : Pure Try.prog 53 [.agg (ints m)] (.agg (ints m)) := by
  obtain ⟨a, b, c, d, e, g, rfl⟩ : ∃ a b c d e g, m = [a, b, c, d, e, g] := by
    match m, h with
    | [a, b, c, d, e, g], _ => exact ⟨a, b, c, d, e, g, rfl⟩
  refine e53 (by simp) fun _ _ => ?_
  simp only [k53, argEnv, h, take6, List.drop_zero, Int.cast_ofNat_Int, go_sem, ↓reduceIte, Nat.reduceEqDiff, Nat.reduceAdd, Nat.reduceMul, Nat.reduceLeDiff, Nat.reduceLT, Int.reduceLE, Int.reduceLT, reduceCtorEq]
  refine (p100 [b, c, d, e, g] rfl).go ?_
  try simp only [take6, List.drop_zero, Int.cast_ofNat_Int, go_sem, ↓reduceIte, Nat.reduceEqDiff, Nat.reduceAdd, Nat.reduceMul, Nat.reduceLeDiff, Nat.reduceLT, Int.reduceLE, Int.reduceLT, reduceCtorEq]
  exact Kv.Fin.still ⟨rfl, rfl⟩
theorem p102 (m : List Int) (h : m.length = 6) : Pure Try.prog 102 [.agg (ints m)] (.bool (isM m)) := by
  refine e102 (by simp) fun _ _ => ?_
  simp only [k102, argEnv, h, take6, List.drop_zero, Int.cast_ofNat_Int, go_sem, ↓reduceIte, Nat.reduceEqDiff, Nat.reduceAdd, Nat.reduceMul, Nat.reduceLeDiff, Nat.reduceLT, Int.reduceLE, Int.reduceLT, reduceCtorEq]
  refine (p91 _ _ _).go ?_
  try simp only [take6, List.drop_zero, Int.cast_ofNat_Int, go_sem, ↓reduceIte, Nat.reduceEqDiff, Nat.reduceAdd, Nat.reduceMul, Nat.reduceLeDiff, Nat.reduceLT, Int.reduceLE, Int.reduceLT, reduceCtorEq]
  refine ⟨fun h1 => Kv.Fin.now ⟨by simp only [isM]; rw [decide_eq_false h1]; rfl, rfl⟩, fun h1 => ?_⟩
  refine ⟨by omega, ?_⟩
  have h2 : 1 ≤ m.getD 0 0 ∧ m.getD 0 0 ≤ 5 := by simpa using h1
  have hd : decide (1 ≤ m.getD 0 0 ∧ m.getD 0 0 ≤ 5) = true := by simpa using h2
  refine KL_ind k102_b0.eq_1 (fun x : Nat => [(1, .fptr (ints m) 0), (10, .agg (ints ((m.drop 1).take 5))), (11, .int .i64 x)]) (fun x => []) (fun x => x ≤ 5 ∧ (List.range x).all (okP m) = true) (fun x => 5 - x) [1, 10, 11] 0 (by rfl) (by rfl) ⟨Nat.zero_le _, rfl⟩ fun x ⟨hx, hall⟩ ih => ?_
  have ht : ((m.drop 1).take 5).length = 5 := by simp [h]
  have hg : x < 5 → ((m.drop 1).take 5).getD x 0 = m.getD (x + 1) 0 := fun hx => by
    simp [List.getD_eq_getElem?_getD, List.getElem?_take, hx, Nat.add_comm]
  have hs : okP m x = true → (List.range (x + 1)).all (okP m) = true := fun hp => by rw [all_range_succ, hall, hp]; rfl
  have hb : x < 5 → okP m x = false → isM m = false := fun hx hp => by rw [isM, not_range hx hp, Bool.and_false]
  by_cases hc : (x : Int) < m.getD 0 0
  · try simp only [h, hc, ht, take6, List.drop_zero, Int.cast_ofNat_Int, go_sem, ↓reduceIte, Nat.reduceEqDiff, Nat.reduceAdd, Nat.reduceMul, Nat.reduceLeDiff, Nat.reduceLT, Int.reduceLE, Int.reduceLT, reduceCtorEq]
    refine ⟨fun h3 => ?_, fun h3 => by omega⟩
    rw [hg (by omega)]
    refine ⟨by omega, by omega, fun _ => ⟨by omega, ?_⟩⟩
    refine (p91 _ _ _).go ?_
    try simp only [take6, List.drop_zero, Int.cast_ofNat_Int, go_sem, ↓reduceIte, Nat.reduceEqDiff, Nat.reduceAdd, Nat.reduceMul, Nat.reduceLeDiff, Nat.reduceLT, Int.reduceLE, Int.reduceLT, reduceCtorEq]
    have he : okP m x = decide (0 ≤ m.getD (x + 1) 0 ∧ m.getD (x + 1) 0 ≤ m.getD 0 0 - 1) := by rw [okP, if_pos hc]
    refine ⟨fun h4 => ?_, fun h4 => ?_⟩
    · have hc3 : ¬ m.getD 0 0 ≤ x := by omega
      try simp only [hc3, take6, List.drop_zero, Int.cast_ofNat_Int, go_sem, ↓reduceIte, Nat.reduceEqDiff, Nat.reduceAdd, Nat.reduceMul, Nat.reduceLeDiff, Nat.reduceLT, Int.reduceLE, Int.reduceLT, reduceCtorEq]
      repeat' (first | refine And.intro ?_ ?_ | intro _)
      all_goals (try omega)
      exact ih (x + 1) ⟨by omega, hs (by rw [he]; exact decide_eq_true h4)⟩ (by omega) _ _ (by rfl) rfl
    · exact Kv.Fin.now ⟨by rw [hb (by omega) (by rw [he]; exact decide_eq_false h4)], rfl⟩
  · have hc2 : m.getD 0 0 ≤ x := by omega
    have he : okP m x = decide (m.getD (x + 1) 0 = 0) := by rw [okP, if_neg hc]
    try simp only [h, hc, hc2, ht, take6, List.drop_zero, Int.cast_ofNat_Int, go_sem, ↓reduceIte, Nat.reduceEqDiff, Nat.reduceAdd, Nat.reduceMul, Nat.reduceLeDiff, Nat.reduceLT, Int.reduceLE, Int.reduceLT, reduceCtorEq]
    refine ⟨fun h3 => ?_, fun h3 => ?_⟩
    · rw [hg (by omega)]
      refine ⟨by omega, by omega, fun _ => ⟨fun h4 => ?_, fun h4 => ?_⟩⟩
      · exact Kv.Fin.now ⟨by rw [hb (by omega) (by rw [he]; exact decide_eq_false h4)], rfl⟩
      · repeat' (first | refine And.intro ?_ ?_ | intro _)
        all_goals (try omega)
        exact ih (x + 1) ⟨by omega, hs (by rw [he]; exact decide_eq_true h4)⟩ (by omega) _ _ (by rfl) rfl
    · obtain rfl : x = 5 := by omega
      exact Kv.Fin.now ⟨by rw [isM, hd, hall]; rfl, rfl⟩
theorem p98 (m : List Int) (h : m.length = 6) : Pure Try.prog 98 [.agg (ints m)] (.bool (isM m)) := by
  refine e98 (by simp) fun _ _ => ?_
  simp only [k98, argEnv, h, take6, List.drop_zero, Int.cast_ofNat_Int, go_sem, ↓reduceIte, Nat.reduceEqDiff, Nat.reduceAdd, Nat.reduceMul, Nat.reduceLeDiff, Nat.reduceLT, Int.reduceLE, Int.reduceLT, reduceCtorEq]
  refine (p90 _ _ _).go ?_
  try simp only [take6, List.drop_zero, Int.cast_ofNat_Int, go_sem, ↓reduceIte, Nat.reduceEqDiff, Nat.reduceAdd, Nat.reduceMul, Nat.reduceLeDiff, Nat.reduceLT, Int.reduceLE, Int.reduceLT, reduceCtorEq]
  refine ⟨fun h1 => Kv.Fin.now ⟨by simp only [isM]; rw [decide_eq_false h1]; rfl, rfl⟩, fun h1 => ?_⟩
  have h2 : 1 ≤ m.getD 0 0 ∧ m.getD 0 0 ≤ 5 := by simpa using h1
  have hd : decide (1 ≤ m.getD 0 0 ∧ m.getD 0 0 ≤ 5) = true := by simpa using h2
  refine KL_ind k98_b0.eq_1 (fun x : Nat => [(1, .fptr (ints m) 0), (3, .int .i64 x)]) (fun x => []) (fun x => x ≤ 5 ∧ (List.range x).all (okP m) = true) (fun x => 5 - x) [1, 3] 0 (by rfl) (by rfl) ⟨Nat.zero_le _, rfl⟩ fun x ⟨hx, hall⟩ ih => ?_
  have hs : okP m x = true → (List.range (x + 1)).all (okP m) = true := fun hp => by rw [all_range_succ, hall, hp]; rfl
  have hb : x < 5 → okP m x = false → isM m = false := fun hx hp => by rw [isM, not_range hx hp, Bool.and_false]
  by_cases hc : (x : Int) < m.getD 0 0
  · try simp only [h, hc, take6, List.drop_zero, Int.cast_ofNat_Int, go_sem, ↓reduceIte, Nat.reduceEqDiff, Nat.reduceAdd, Nat.reduceMul, Nat.reduceLeDiff, Nat.reduceLT, Int.reduceLE, Int.reduceLT, reduceCtorEq]
    refine ⟨fun h3 => ?_, fun h3 => by omega⟩
    refine ⟨by omega, by omega, fun _ => ⟨by omega, ?_⟩⟩
    refine (p90 _ _ _).pgo ?_
    try simp only [take6, List.drop_zero, Int.cast_ofNat_Int, go_sem, ↓reduceIte, Nat.reduceEqDiff, Nat.reduceAdd, Nat.reduceMul, Nat.reduceLeDiff, Nat.reduceLT, Int.reduceLE, Int.reduceLT, reduceCtorEq]
    have he : okP m x = decide (0 ≤ m.getD (x + 1) 0 ∧ m.getD (x + 1) 0 ≤ m.getD 0 0 - 1) := by rw [okP, if_pos hc]
    refine ⟨fun h4 => ?_, fun h4 => ?_⟩
    · have hc3 : ¬ m.getD 0 0 ≤ x := by omega
      try simp only [hc3, take6, List.drop_zero, Int.cast_ofNat_Int, go_sem, ↓reduceIte, Nat.reduceEqDiff, Nat.reduceAdd, Nat.reduceMul, Nat.reduceLeDiff, Nat.reduceLT, Int.reduceLE, Int.reduceLT, reduceCtorEq]
      repeat' (first | refine And.intro ?_ ?_ | intro _)
      all_goals (try omega)
      exact ih (x + 1) ⟨by omega, hs (by rw [he]; exact decide_eq_true h4)⟩ (by omega) _ _ (by rfl) rfl
    · exact Kv.Fin.now ⟨by rw [hb (by omega) (by rw [he]; exact decide_eq_false h4)], rfl⟩
  · have hc2 : m.getD 0 0 ≤ x := by omega
    have he : okP m x = decide (m.getD (x + 1) 0 = 0) := by rw [okP, if_neg hc]
    try simp only [h, hc, hc2, take6, List.drop_zero, Int.cast_ofNat_Int, go_sem, ↓reduceIte, Nat.reduceEqDiff, Nat.reduceAdd, Nat.reduceMul, Nat.reduceLeDiff, Nat.reduceLT, Int.reduceLE, Int.reduceLT, reduceCtorEq]
    refine ⟨fun h3 => ?_, fun h3 => ?_⟩
    · refine ⟨by omega, by omega, fun _ => ⟨fun h4 => ?_, fun h4 => ?_⟩⟩
      · exact Kv.Fin.now ⟨by rw [hb (by omega) (by rw [he]; exact decide_eq_false h4)], rfl⟩
      · repeat' (first | refine And.intro ?_ ?_ | intro _)
        all_goals (try omega)
        exact ih (x + 1) ⟨by omega, hs (by rw [he]; exact decide_eq_true h4)⟩ (by omega) _ _ (by rfl) rfl
    · obtain rfl : x = 5 := by omega
      exact Kv.Fin.now ⟨by rw [isM, hd, hall]; rfl, rfl⟩
end Go.Proofs.Ytpepbomifjbgnaa
end
section
/- Comparing, marking and holding of own slices of numbers. -/
namespace Go.Proofs.Ytpepbomifjbgnaa
open Go.Kv
set_option maxRecDepth 100000
/- laws.eqInt64S -/
/- live [0, 1, 5] -/
def k18_b0 : KC := (.seq (.seq (.ops [⟨(some 11), none, .mv (.t 5)⟩, ⟨(some 12), none, .mv (.t 0)⟩, ⟨(some 13), none, .len false (.t 12)⟩, ⟨(some 14), none, .bin .lss (.t 11) (.t 13)⟩])
  (.cond (.t 14) .skip (.exit 0)))
  (.seq (.block 1 (.seq (.draw [⟨(some 17), none, .mv (.t 0)⟩, ⟨(some 18), none, .mv (.t 5)⟩, ⟨(some 19), none, .idxS 1 (.t 17) (.t 18)⟩, ⟨(some 20), none, .load false 1 (.t 19)⟩, ⟨(some 21), none, .mv (.t 1)⟩, ⟨(some 22), none, .mv (.t 5)⟩, ⟨(some 23), none, .idxS 1 (.t 21) (.t 22)⟩, ⟨(some 24), none, .load false 1 (.t 23)⟩, ⟨(some 25), none, .bin .neq (.t 20) (.t 24)⟩])
  (.cond (.t 25) (.seq (.ops [⟨(some 4), none, .mv (.c (.bool false))⟩])
  .ret) .skip)))
  (.ops [⟨(some 15), none, .mv (.t 5)⟩, ⟨(some 16), none, .bin .add (.t 15) (.c (.int .i64 1))⟩, ⟨(some 5), none, .mv (.t 16)⟩])))
def k18 : KC := (.seq (.ops [⟨(some 4), none, .mv (.c (.bool false))⟩])
  (.seq (.seq (.ops [⟨(some 6), none, .mv (.t 0)⟩, ⟨(some 7), none, .len false (.t 6)⟩, ⟨(some 8), none, .mv (.t 1)⟩, ⟨(some 9), none, .len false (.t 8)⟩, ⟨(some 10), none, .bin .neq (.t 7) (.t 9)⟩])
  (.cond (.t 10) (.seq (.ops [⟨(some 4), none, .mv (.c (.bool false))⟩])
  .ret) .skip))
  (.seq (.seq (.ops [⟨(some 5), none, .mv (.c (.int .i64 0))⟩])
  (.block 0 (.loop k18_b0)))
  (.seq (.ops [⟨(some 4), none, .mv (.c (.bool true))⟩])
  .ret))))
theorem e18 {args : List PV} {σ : Heap} {K : PV → Heap → Prop} (hl : args.length ≤ 26) (h : Wf σ → (∀ a ∈ args, PV.upto σ.length a) → vc (mkCfg Try.prog mixed [] 26 σ.length) k18 (FinK σ.length [.t 4] K) (argEnv 0 args) σ) : ACall Try.prog 18 args σ K :=
  ACall_enter (C := mkCfg Try.prog mixed [] 26 σ.length) (c := Try.f18.body.getD .skip) Try.func18 (by kernel_rfl) (by kernel_rfl) (by kernel_rfl) rfl hl (by kernel_rfl) (by kernel_rfl) h
/- laws.markInt64S -/
/- live [0, 1, 5] -/
def k27_b0 : KC := (.seq (.seq (.ops [⟨(some 6), none, .mv (.t 5)⟩, ⟨(some 7), none, .mv (.t 0)⟩, ⟨(some 8), none, .len false (.t 7)⟩, ⟨(some 9), none, .bin .lss (.t 6) (.t 8)⟩])
  (.cond (.t 9) .skip (.exit 0)))
  (.seq (.block 1 (.seq (.ops [⟨(some 12), none, .mv (.t 0)⟩, ⟨(some 13), none, .mv (.t 5)⟩, ⟨(some 14), none, .mv (.t 1)⟩, ⟨(some 15), none, .idxS 1 (.t 12) (.t 13)⟩, ⟨none, none, .store 1 (.t 15) (.t 14)⟩])
  (.ops [⟨(some 16), none, .mv (.t 1)⟩, ⟨(some 17), none, .bin .add (.t 16) (.c (.int .i64 1))⟩, ⟨(some 1), none, .mv (.t 17)⟩])))
  (.ops [⟨(some 10), none, .mv (.t 5)⟩, ⟨(some 11), none, .bin .add (.t 10) (.c (.int .i64 1))⟩, ⟨(some 5), none, .mv (.t 11)⟩])))
def k27 : KC := (.seq (.ops [⟨(some 4), none, .mv (.c (.int .i64 0))⟩])
  (.seq (.seq (.ops [⟨(some 5), none, .mv (.c (.int .i64 0))⟩])
  (.block 0 (.loop k27_b0)))
  (.seq (.ops [⟨(some 18), none, .mv (.t 1)⟩, ⟨(some 4), none, .mv (.t 18)⟩])
  .ret)))
theorem e27 {args : List PV} {σ : Heap} {K : PV → Heap → Prop} (hl : args.length ≤ 19) (h : Wf σ → (∀ a ∈ args, PV.upto σ.length a) → vc (mkCfg Try.prog mixed [] 19 σ.length) k27 (FinK σ.length [.t 4] K) (argEnv 0 args) σ) : ACall Try.prog 27 args σ K :=
  ACall_enter (C := mkCfg Try.prog mixed [] 19 σ.length) (c := Try.f27.body.getD .skip) Try.func27 (by kernel_rfl) (by kernel_rfl) (by kernel_rfl) rfl hl (by kernel_rfl) (by kernel_rfl) h
/- laws.heldInt64S -/
/- live [0, 1, 5] -/
def k28_b0 : KC := (.seq (.seq (.ops [⟨(some 6), none, .mv (.t 5)⟩, ⟨(some 7), none, .mv (.t 0)⟩, ⟨(some 8), none, .len false (.t 7)⟩, ⟨(some 9), none, .bin .lss (.t 6) (.t 8)⟩])
  (.cond (.t 9) .skip (.exit 0)))
  (.seq (.block 1 (.seq (.seq (.ops [⟨(some 12), none, .mv (.t 0)⟩, ⟨(some 13), none, .mv (.t 5)⟩, ⟨(some 14), none, .idxS 1 (.t 12) (.t 13)⟩, ⟨(some 15), none, .load false 1 (.t 14)⟩, ⟨(some 16), none, .mv (.t 1)⟩, ⟨(some 17), none, .bin .neq (.t 15) (.t 16)⟩])
  (.cond (.t 17) (.seq (.ops [⟨(some 4), none, .mv (.c (.int .i64 (-1)))⟩])
  .ret) .skip))
  (.ops [⟨(some 18), none, .mv (.t 1)⟩, ⟨(some 19), none, .bin .add (.t 18) (.c (.int .i64 1))⟩, ⟨(some 1), none, .mv (.t 19)⟩])))
  (.ops [⟨(some 10), none, .mv (.t 5)⟩, ⟨(some 11), none, .bin .add (.t 10) (.c (.int .i64 1))⟩, ⟨(some 5), none, .mv (.t 11)⟩])))
def k28 : KC := (.seq (.ops [⟨(some 4), none, .mv (.c (.int .i64 0))⟩])
  (.seq (.seq (.ops [⟨(some 5), none, .mv (.c (.int .i64 0))⟩])
  (.block 0 (.loop k28_b0)))
  (.seq (.ops [⟨(some 20), none, .mv (.t 1)⟩, ⟨(some 4), none, .mv (.t 20)⟩])
  .ret)))
theorem e28 {args : List PV} {σ : Heap} {K : PV → Heap → Prop} (hl : args.length ≤ 21) (h : Wf σ → (∀ a ∈ args, PV.upto σ.length a) → vc (mkCfg Try.prog mixed [] 21 σ.length) k28 (FinK σ.length [.t 4] K) (argEnv 0 args) σ) : ACall Try.prog 28 args σ K :=
  ACall_enter (C := mkCfg Try.prog mixed [] 21 σ.length) (c := Try.f28.body.getD .skip) Try.func28 (by kernel_rfl) (by kernel_rfl) (by kernel_rfl) rfl hl (by kernel_rfl) (by kernel_rfl) h
end Go.Proofs.Ytpepbomifjbgnaa
namespace Go.Proofs.Ytpepbomifjbgnaa
open Go.Kv
set_option linter.unusedVariables false
set_option linter.unusedSimpArgs false
attribute [local irreducible] ACall PCall KL
theorem take_succ_eq {xs ys : List Int} {x : Nat} (ht : xs.take x = ys.take x) (h1 : x < xs.length) (h2 : x < ys.length) (he : xs.getD x 0 = ys.getD x 0) : xs.take (x + 1) = ys.take (x + 1) := by
  rw [List.take_succ_eq_append_getElem h1, List.take_succ_eq_append_getElem h2, ht]
  simp [List.getD_eq_getElem?_getD, h1, h2] at he
  rw [he]
theorem p18 (xs ys : List Int) (hx : xs.length ≤ 4294967296) (hy : ys.length ≤ 4294967296) : Pure Try.prog 18 [.list (ints xs), .list (ints ys)] (.bool (decide (xs = ys))) := by
  refine e18 (by simp) fun _ _ => ?_
  simp only [k18, argEnv, go_sem, ↓reduceIte, Nat.reduceEqDiff, Nat.reduceAdd, reduceCtorEq]
  refine ⟨fun h => Kv.Fin.now ⟨?_, rfl⟩, fun h => ?_⟩
  · have : xs ≠ ys := fun e => h (by rw [e])
    simp [this]
  · have hlen : xs.length = ys.length := by omega
    refine KL_ind k18_b0.eq_1 (fun x : Nat => [(5, .int .i64 x), (0, .list (ints xs)), (1, .list (ints ys))]) (fun _ => []) (fun x => x ≤ xs.length ∧ xs.take x = ys.take x) (fun x => xs.length - x) [5, 0, 1] 0 rfl rfl ⟨Nat.zero_le _, by simp⟩ fun x ⟨hi, ht⟩ ih => ?_
    simp only [go_sem, ↓reduceIte, Nat.reduceEqDiff, Nat.reduceAdd, reduceCtorEq]
    repeat' (first | refine And.intro ?_ ?_ | intro _)
    all_goals (try omega)
    · rename_i h1 h2 h3 h4
      have : xs ≠ ys := fun e => h4 (by rw [e])
      exact Kv.Fin.now ⟨by simp [this], rfl⟩
    · rename_i h1 h2 h3 h4
      exact ih (x + 1) ⟨by omega, take_succ_eq ht h2 h3 h4⟩ (by omega) _ _ rfl rfl
    · rename_i h1
      obtain rfl : x = xs.length := by omega
      have : xs = ys := by rw [List.take_length, hlen, List.take_length] at ht; exact ht
      exact Kv.Fin.now ⟨by simp [this], rfl⟩

/-- The numbers from k on. -/
def seqI (k : Int) (n : Nat) : List Int := (List.range n).map fun i => k + (i : Nat)
@[simp] theorem seqI_length (k : Int) (n : Nat) : (seqI k n).length = n := by simp [seqI]
theorem seqI_getD (k : Int) {n i : Nat} (h : i < n) : (seqI k n).getD i 0 = k + i := by simp [seqI, List.getD_eq_getElem?_getD, h]
theorem seqI_succ (k : Int) (n : Nat) : seqI k (n + 1) = seqI k n ++ [k + n] := by simp [seqI, List.range_succ]
theorem mark_step (k : Int) {l : List Int} {x : Nat} (h : x < l.length) : (seqI k x ++ l.drop x).set x (k + x) = seqI k (x + 1) ++ l.drop (x + 1) := by
  rw [List.set_append_right _ _ (by simp), seqI_length, Nat.sub_self, List.drop_eq_getElem_cons h, List.set_cons_zero, seqI_succ, List.append_assoc]
  rfl
theorem p27 (σ : Heap) (id ver : Nat) (e : TypeId) (pre l post : List Int) (k : Int) (hid : σ[id]? = some (.arr ver e 1 (ints (pre ++ l ++ post)))) (hk : -4294967296 ≤ k ∧ k ≤ 4294967296) (hl : l.length ≤ 4294967296) {K : PV → Heap → Prop} (hK : K (.int .i64 (k + l.length)) (σ.set id (.arr ver e 1 (ints (pre ++ seqI k l.length ++ post))))) :
    ACall Try.prog 27 [.ref id ver pre.length l.length, .int .i64 k] σ K := by
  have hlt := (List.getElem?_eq_some_iff.1 hid).1
  have hself : ∀ o, (σ.set id o)[id]? = some o := fun o => List.getElem?_set_self hlt
  have hset : ∀ o o', (σ.set id o).set id o' = σ.set id o' := fun o o' => List.set_set ..
  refine e27 (by simp) fun _ _ => ?_
  simp only [k27, argEnv, go_sem, ↓reduceIte, Nat.reduceEqDiff, Nat.reduceAdd, reduceCtorEq]
  refine KL_ind k27_b0.eq_1 (fun x : Nat => [(5, .int .i64 x), (0, .ref id ver pre.length l.length), (1, .int .i64 (k + x))]) (fun x => σ.set id (.arr ver e 1 (ints (pre ++ (seqI k x ++ l.drop x) ++ post)))) (fun x => x ≤ l.length) (fun x => l.length - x) [5, 0, 1] 0 (by simp [keep]) ?_ (Nat.zero_le _) fun x hi ih => ?_
  · apply List.ext_getElem?; intro j
    by_cases e1 : id = j
    · subst e1; rw [hself, hid]; simp [seqI]
    · rw [List.getElem?_set_ne e1]
  simp only [hself, hset, go_sem, ↓reduceIte, Nat.reduceEqDiff, Nat.reduceAdd, reduceCtorEq]
  repeat' (first | refine And.intro ?_ ?_ | intro _)
  all_goals (try simp only [List.length_append, seqI_length, List.length_drop, ints_length])
  all_goals (try omega)
  · have e1 : (pre ++ (seqI k x ++ l.drop x) ++ post).set (x + pre.length) (k + x) = pre ++ (seqI k (x + 1) ++ l.drop (x + 1)) ++ post := by
      rw [List.set_append_left _ _ (by simp; omega), List.set_append_right _ _ (by omega), Nat.add_sub_cancel, mark_step k (by omega)]
    rw [e1]
    exact ih (x + 1) (by omega) (by omega) _ _ (by simp [keep]; omega) rfl
  · obtain rfl : x = l.length := by omega
    refine Kv.Fin.now ?_
    simpa using hK
theorem p27n (σ : Heap) (k : Int) {K : PV → Heap → Prop} (hK : K (.int .i64 k) σ) : ACall Try.prog 27 [.nils, .int .i64 k] σ K := by
  refine e27 (by simp) fun _ _ => ?_
  simp only [k27, argEnv, go_sem, ↓reduceIte, Nat.reduceEqDiff, Nat.reduceAdd, reduceCtorEq]
  refine KL_round ?_
  rw [k27_b0.eq_1]
  simp only [go_sem, ↓reduceIte, Nat.reduceEqDiff, Nat.reduceAdd, reduceCtorEq]
  repeat' (first | refine And.intro ?_ ?_ | intro _)
  all_goals (try omega)
  exact Kv.Fin.now hK
theorem p28 (k : Int) (n : Nat) (hk : -4294967296 ≤ k ∧ k ≤ 4294967296) (hl : n ≤ 4294967296) : Pure Try.prog 28 [.list (ints (seqI k n)), .int .i64 k] (.int .i64 (k + n)) := by
  refine e28 (by simp) fun _ _ => ?_
  simp only [k28, argEnv, go_sem, ↓reduceIte, Nat.reduceEqDiff, Nat.reduceAdd, reduceCtorEq]
  refine KL_ind k28_b0.eq_1 (fun x : Nat => [(5, .int .i64 x), (0, .list (ints (seqI k n))), (1, .int .i64 (k + x))]) (fun _ => []) (fun x => x ≤ n) (fun x => n - x) [5, 0, 1] 0 (by simp [keep]) rfl (Nat.zero_le _) fun x hi ih => ?_
  simp only [go_sem, ↓reduceIte, Nat.reduceEqDiff, Nat.reduceAdd, reduceCtorEq]
  repeat' (first | refine And.intro ?_ ?_ | intro _)
  all_goals (try simp only [seqI_length] at *)
  all_goals (try omega)
  · exact absurd (seqI_getD k (by omega)) (by assumption)
  · exact ih (x + 1) (by omega) (by omega) _ _ (by simp [keep]; omega) rfl
  · obtain rfl : x = n := by omega
    exact Kv.Fin.now ⟨rfl, rfl⟩
end Go.Proofs.Ytpepbomifjbgnaa
end
