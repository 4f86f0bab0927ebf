/- The draw of two maps, often of the same shape. -/
import Derived.Test.YtpfapiiinkkcgaaGreatDT
namespace Go.Proofs.YtpfapiiinkkcgaaGreat
open Go.Kv
set_option linter.unusedVariables false
set_option linter.unusedSimpArgs false
attribute [local irreducible] ACall PCall KL
/-- The heap of the draw: two results, the source, a map. -/
structure SA (ρ : Heap) (a : Nat) (l : List Int) (f : List Nat) (r0 r1 : AObj) : Prop where
  src : Src ρ 2 l
  z0 : ρ[0]? = some r0
  z1 : ρ[1]? = some r1
  fa : ρ[a]? = some (.box (ints (mp f)))
  a2 : 2 < a
theorem SA.step {ρ ρ' : Heap} {a : Nat} {l : List Int} {f : List Nat} {r0 r1 : AObj} (h : SA ρ a l f r0 r1) (hS : Src ρ' 2 l) (hK : Kept ρ ρ' 2) : SA ρ' a l f r0 r1 := by
  have := h.src.lt
  have h2 := h.a2
  have h3 := (List.getElem?_eq_some_iff.1 h.fa).1
  exact ⟨hS, (hK.2 0 (by omega) (by decide)).trans h.z0, (hK.2 1 (by omega) (by decide)).trans h.z1, (hK.2 a h3 (by omega)).trans h.fa, h.a2⟩
theorem SA.app {ρ : Heap} {a : Nat} {l : List Int} {f : List Nat} {r0 r1 : AObj} (h : SA ρ a l f r0 r1) (X : Heap) : SA (ρ ++ X) a l f r0 r1 := h.step (h.src.app X) (Kept.app _ _ _)
/-- .. and a second map. -/
structure SI (ρ : Heap) (a b : Nat) (l : List Int) (f : List Nat) (g : List Int) (r0 r1 : AObj) : Prop where
  s : SA ρ a l f r0 r1
  gb : ρ[b]? = some (.box (ints g))
  len : g.length = 6
  pt : 0 ≤ g.getD 0 0 ∧ g.getD 0 0 ≤ 5
  b2 : 2 < b
  ab : a ≠ b
theorem SI.step {ρ ρ' : Heap} {a b : Nat} {l : List Int} {f : List Nat} {g : List Int} {r0 r1 : AObj} (h : SI ρ a b l f g r0 r1) (hS : Src ρ' 2 l) (hK : Kept ρ ρ' 2) : SI ρ' a b l f g r0 r1 := by
  have h2 := h.b2
  have h3 := (List.getElem?_eq_some_iff.1 h.gb).1
  exact ⟨h.s.step hS hK, (hK.2 b h3 (by omega)).trans h.gb, h.len, h.pt, h.b2, h.ab⟩
theorem SI.setg {ρ : Heap} {a b : Nat} {l : List Int} {f : List Nat} {g : List Int} {r0 r1 : AObj} (h : SI ρ a b l f g r0 r1) {g' : List Int} (hl : g'.length = 6) (hp : 0 ≤ g'.getD 0 0 ∧ g'.getD 0 0 ≤ 5) : SI (ρ.set b (.box (ints g'))) a b l f g' r0 r1 := by
  have h2 := h.b2
  have h3 := (List.getElem?_eq_some_iff.1 h.gb).1
  have h4 := h.ab
  exact ⟨⟨h.s.src.keep (List.getElem?_set_ne (by omega)), (List.getElem?_set_ne (by omega)).trans h.s.z0, (List.getElem?_set_ne (by omega)).trans h.s.z1, (List.getElem?_set_ne (Ne.symm h4)).trans h.s.fa, h.s.a2⟩, List.getElem?_set_self h3, hl, hp, h.b2, h.ab⟩
theorem mp_pt {f : List Nat} {n : Nat} (hf : Ok f n) : 0 ≤ (mp f).getD 0 0 ∧ (mp f).getD 0 0 ≤ 5 := by
  have : (mp f).getD 0 0 = (f.length : Int) := rfl
  have := hf.le
  have := hf.len
  omega
theorem SI.mkA {ρ : Heap} {a n : Nat} {l : List Int} {f g : List Nat} {r0 r1 : AObj} (h : SA ρ a l f r0 r1) (hg : Ok g n) : SI (ρ ++ [.box (ints (mp g))]) a ρ.length l f (mp g) r0 r1 := by
  have h1 := (List.getElem?_eq_some_iff.1 h.fa).1
  have h2 := h.a2
  exact ⟨h.app _, by simp, hg.mp_len, mp_pt hg, by omega, by omega⟩
theorem SI.mkB {ρ : Heap} {a b n : Nat} {l : List Int} {f g : List Nat} {r0 r1 Z : AObj} (h : SA ρ a l f r0 r1) (hb : ρ[b]? = some Z) (h2 : 2 < b) (hab : a ≠ b) (hg : Ok g n) : SI (ρ.set b (.box (ints (mp g)))) a b l f (mp g) r0 r1 := by
  have h3 := (List.getElem?_eq_some_iff.1 hb).1
  exact ⟨⟨h.src.keep (List.getElem?_set_ne (by omega)), (List.getElem?_set_ne (by omega)).trans h.z0, (List.getElem?_set_ne (by omega)).trans h.z1, (List.getElem?_set_ne (Ne.symm hab)).trans h.fa, h.a2⟩, List.getElem?_set_self h3, hg.mp_len, mp_pt hg, h2, hab⟩
/-- An order, as a permutation. -/
theorem ord_perm {L : List Int} {n : Nat} (h1 : 1 ≤ n) (h5 : n ≤ 5) (hl : L.length = n) (hx : (∀ x ∈ L, 0 ≤ x ∧ x < n) ∧ L.Nodup) : Ok (L.map Int.toNat) n ∧ (L.map Int.toNat).Nodup ∧ (L.map Int.toNat).map (fun x : Nat => (x : Int)) = L := by
  refine ⟨⟨by rw [List.length_map, hl], h1, h5, fun x hx' => ?_⟩, ?_, ?_⟩
  · obtain ⟨y, hy, rfl⟩ := List.mem_map.1 hx'
    have := hx.1 y hy; omega
  · rw [List.nodup_iff_pairwise_ne, List.pairwise_map]
    refine List.Pairwise.imp_of_mem (fun {a b} ha hb hab e => hab ?_) (List.nodup_iff_pairwise_ne.1 hx.2)
    have := hx.1 a ha
    have := hx.1 b hb
    omega
  · rw [List.map_map]
    conv => rhs; rw [← List.map_id L]
    exact List.map_congr_left fun x hx' => by have := hx.1 x hx'; simp only [Function.comp_apply, id_eq]; omega
set_option maxHeartbeats 4000000 in
theorem das_t0 {l : List Int} (hl : Byt l) {τ : Heap} {a n : Nat} {f : List Nat} (hf : Ok f n) {r0 r1 : AObj} (hS : SA τ a l f r0 r1) {Q : Exit → Env → Heap → Prop} {env : Env}
    (e2 : Kv.look env 2 = .ptr 0 0) (e3 : Kv.look env 3 = .ptr 1 0) (e4 : Kv.look env 4 = .ptr 2 0) (e5 : Kv.look env 5 = .ptr a 0)
    (hQ : ∀ env' ρ b g, keep [2, 3, 4, 5, 6] env' = [(2, .ptr 0 0), (3, .ptr 1 0), (4, .ptr 2 0), (5, .ptr a 0), (6, .ptr b 0)] → SI ρ a b l f g r0 r1 → Q .normal env' ρ) :
    vT Tryz.prog k47_t0 Q env τ := by
  have h1 := hf.pos
  have h5 := hf.le
  have h6 := hf.mp_len
  have hil : (ints (mp f)).length = 6 := by rw [ints_length, h6]
  have hp0 : (mp f).getD 0 0 = (n : Int) := by rw [mp, hf.len]; rfl
  have hfa : ∀ ρ, SA ρ a l f r0 r1 → ρ[a]? = some (.box (ints (mp f))) := fun ρ h => h.fa
  have hfaX : ∀ ρ X, SA ρ a l f r0 r1 → (ρ ++ X)[a]? = some (.box (ints (mp f))) := fun ρ X h => (h.app X).fa
  have hord : ∀ (ρ : Heap), SA ρ a l f r0 r1 → ∀ K : PV → Heap → Prop, (∀ (L : List Int) id ver ρ', (Ok (L.map Int.toNat) n ∧ (L.map Int.toNat).Nodup ∧ (L.map Int.toNat).map (fun x : Nat => (x : Int)) = L) ∧ L.length = n → SA ρ' a l f r0 r1 → ρ'[id]? = some (.arr ver 2 1 (ints L)) → K (.ref id ver 0 n) ρ') → ACall Tryz.prog 123 [.ptr 2 0, .int .i64 n] ρ K := fun ρ h K hK =>
    p123S hl h.src n h5 fun L id ver τ' q1 q2 q3 q4 q5 q6 => hK L id ver τ' ⟨ord_perm h1 h5 q1 q2, q1⟩ (h.step q3 q4) q6
  have hZ : ∀ (ρ : Heap), ρ[τ.length]? = some (.box [PV.int .i64 0, PV.int .i64 0, PV.int .i64 0, PV.int .i64 0, PV.int .i64 0, PV.int .i64 0]) → ρ[τ.length]? = some (.box [PV.int .i64 0, PV.int .i64 0, PV.int .i64 0, PV.int .i64 0, PV.int .i64 0, PV.int .i64 0]) := fun ρ h => h
  have hordZ : ∀ Z : AObj, ∀ K : PV → Heap → Prop, (∀ (L : List Int) id ver ρ', (Ok (L.map Int.toNat) n ∧ (L.map Int.toNat).Nodup ∧ (L.map Int.toNat).map (fun x : Nat => (x : Int)) = L) ∧ L.length = n → SA ρ' a l f r0 r1 → ρ'[id]? = some (.arr ver 2 1 (ints L)) → ρ'[τ.length]? = some Z → K (.ref id ver 0 n) ρ') → ACall Tryz.prog 123 [.ptr 2 0, .int .i64 n] (τ ++ [Z]) K := fun Z K hK =>
    p123S hl (hS.app [Z]).src n h5 fun L id ver τ' q1 q2 q3 q4 q5 q6 => hK L id ver τ' ⟨ord_perm h1 h5 q1 q2, q1⟩ ((hS.app [Z]).step q3 q4) q6 ((q4.2 τ.length (by simp) (by have := hS.src.lt; omega)).trans (by simp))
  have h2τ := hS.src.lt
  have haτ := (List.getElem?_eq_some_iff.1 hS.fa).1
  have hmade : ∀ (L : List Int) (id ver : Nat) (ρ : Heap), (Ok (L.map Int.toNat) n ∧ (L.map Int.toNat).Nodup ∧ (L.map Int.toNat).map (fun x : Nat => (x : Int)) = L) ∧ L.length = n → ρ[id]? = some (.arr ver 2 1 (ints L)) → ∀ K : PV → Heap → Prop, K (.agg (ints (mp (L.map Int.toNat)))) ρ → ACall Tryz.prog 116 [.ref id ver 0 n] ρ K := fun L id ver ρ ⟨⟨g1, g2, g3⟩, g4⟩ hid K hK => by
    have hM := p116 (L.map Int.toNat) (by rw [List.length_map]; omega)
    rw [g3] at hM
    exact hM.use (Plain.aggi _) (.cons (Imm.refn hid g4.symm) (.nil _)) hK
  have hren : ∀ (L : List Int) (ρ : Heap), (Ok (L.map Int.toNat) n ∧ (L.map Int.toNat).Nodup ∧ (L.map Int.toNat).map (fun x : Nat => (x : Int)) = L) ∧ L.length = n → ∀ K : PV → Heap → Prop, (∀ g, Ok g n → K (.agg (ints (mp g))) ρ) → ACall Tryz.prog 83 [.agg (ints (mp f)), .agg (ints (mp (L.map Int.toNat)))] ρ K := fun L ρ ⟨⟨g1, g2, g3⟩, g4⟩ K hK => by
    refine (p83 f _ n hf g1 g2).go ?_
    exact hK _ (rnm_ok hf g1 g2)
  unfold k47_t0
  repeat' (first
    | refine Eq.mpr (vT_alt _ _) ⟨?_, ?_⟩
    | refine hord _ (by assumption) _ fun L id ver ρ' q1 q2 q3 => ?_
    | refine hordZ _ _ fun L id ver ρ' q1 q2 q3 q4 => ?_
    | refine hmade _ _ _ _ (by assumption) (by first | assumption | exact (List.getElem?_append_left (List.getElem?_eq_some_iff.1 (by assumption)).1).trans (by assumption)) _ ?_
    | refine hren _ _ (by assumption) _ fun g hg => ?_
    | simp (disch := assumption) only [hfa, hfaX, hZ, e2, e3, e4, e5, h6, hil, hp0, OpK_eq, HKv, take6, List.drop_zero, Int.cast_ofNat_Int, go_sem, ↓reduceIte, Nat.reduceEqDiff, Nat.reduceAdd, Nat.reduceMul, Nat.reduceLeDiff, Nat.reduceLT, Int.reduceLE, Int.reduceLT, reduceCtorEq])
  all_goals (refine ⟨hg.mp_len, ?_⟩)
  all_goals (rw [put6 (by rw [ints_length, hg.mp_len]) rfl])
  all_goals first
    | exact hQ _ _ ρ'.length (mp g) (by simp [keep, e2, e3, e4, e5]) (SI.mkA (by assumption) hg)
    | exact hQ _ _ τ.length (mp g) (by simp [keep, e2, e3, e4, e5]) (SI.mkB (by assumption) (by assumption) (by omega) (by omega) hg)
theorem set_ptI {m : List Int} {k : Nat} {v : Int} (h : 0 ≤ m.getD 0 0 ∧ m.getD 0 0 ≤ 5) : 0 ≤ (m.set (k + 1) v).getD 0 0 ∧ (m.set (k + 1) v).getD 0 0 ≤ 5 := by
  have : (m.set (k + 1) v).getD 0 0 = m.getD 0 0 := by simp [List.getD_eq_getElem?_getD]
  rw [this]; exact h
set_option maxHeartbeats 4000000 in
theorem das_t1 {l : List Int} (hl : Byt l) {τ : Heap} {a b n : Nat} {f : List Nat} {g : List Int} (hf : Ok f n) {r0 r1 : AObj} (hS : SI τ a b l f g r0 r1) {Q : Exit → Env → Heap → Prop} {env : Env}
    (e2 : Kv.look env 2 = .ptr 0 0) (e3 : Kv.look env 3 = .ptr 1 0) (e4 : Kv.look env 4 = .ptr 2 0) (e5 : Kv.look env 5 = .ptr a 0) (e6 : Kv.look env 6 = .ptr b 0)
    (hQ : ∀ env' ρ g', keep [2, 3, 4, 5, 6] env' = [(2, .ptr 0 0), (3, .ptr 1 0), (4, .ptr 2 0), (5, .ptr a 0), (6, .ptr b 0)] → SI ρ a b l f g' r0 r1 → Q .normal env' ρ) :
    vT Tryz.prog k47_t1 Q env τ := by
  have h1 := hf.pos
  have h5 := hf.le
  have h6 := hf.mp_len
  have hg6 := hS.len
  have hil : (ints (mp f)).length = 6 := by rw [ints_length, h6]
  have hilg : (ints g).length = 6 := by rw [ints_length, hg6]
  have hp0 : (mp f).getD 0 0 = (n : Int) := by rw [mp, hf.len]; rfl
  have hfa : ∀ ρ, SI ρ a b l f g r0 r1 → ρ[a]? = some (.box (ints (mp f))) := fun ρ h => h.s.fa
  have hgb : ∀ ρ, SI ρ a b l f g r0 r1 → ρ[b]? = some (.box (ints g)) := fun ρ h => h.gb
  have hnx : ∀ (ρ : Heap), SI ρ a b l f g r0 r1 → ∀ K : PV → Heap → Prop, (∀ (r : Int) ρ', 0 ≤ r ∧ r < n → SI ρ' a b l f g r0 r1 → K (.int .i64 r) ρ') → ACall Tryz.prog 124 [.ptr 2 0, .int .i64 n] ρ K := fun ρ h K hK =>
    p124 hl h.s.src n fun r ρ' n1 n2 n3 n4 n5 => hK r ρ' ⟨n1, n2 (by omega)⟩ (h.step n3 n4)
  unfold k47_t1
  repeat' (first
    | refine Eq.mpr (vT_alt _ _) ⟨?_, ?_⟩
    | refine hnx _ (by assumption) _ fun r ρ' q1 q2 => ?_
    | simp (disch := assumption) only [hfa, hgb, e2, e3, e4, e5, e6, h6, hil, hilg, hp0, ints_set1, OpK_eq, HKv, take6, List.drop_zero, Int.cast_ofNat_Int, go_sem, ↓reduceIte, Nat.reduceEqDiff, Nat.reduceAdd, Nat.reduceMul, Nat.reduceLeDiff, Nat.reduceLT, Int.reduceLE, Int.reduceLT, reduceCtorEq])
  all_goals refine ⟨⟨by omega, by omega⟩, by omega, hQ _ _ (g.set _ _) (by simp [keep, e2, e3, e4, e5, e6]) (SI.setg (by assumption) (by rw [List.length_set]; exact hg6) (set_ptI hS.pt))⟩
set_option maxHeartbeats 4000000 in
theorem das_t2 {l : List Int} (hl : Byt l) {τ : Heap} {a b n : Nat} {f : List Nat} {g : List Int} (hf : Ok f n) (hS : SI τ a b l f g (.box [PV.int .i64 0, PV.int .i64 0, PV.int .i64 0, PV.int .i64 0, PV.int .i64 0, PV.int .i64 0]) (.box [PV.int .i64 0, PV.int .i64 0, PV.int .i64 0, PV.int .i64 0, PV.int .i64 0, PV.int .i64 0])) {Q : Exit → Env → Heap → Prop} {env : Env}
    (e2 : Kv.look env 2 = .ptr 0 0) (e3 : Kv.look env 3 = .ptr 1 0) (e4 : Kv.look env 4 = .ptr 2 0) (e5 : Kv.look env 5 = .ptr a 0) (e6 : Kv.look env 6 = .ptr b 0)
    (hQ : ∀ env' ρ (m m' : List Int), keep [2, 3] env' = [(2, .ptr 0 0), (3, .ptr 1 0)] → m.length = 6 → m'.length = 6 → ρ[0]? = some (.box (ints m)) → ρ[1]? = some (.box (ints m')) → Q .normal env' ρ) :
    vT Tryz.prog k47_t2 Q env τ := by
  have h6 := hf.mp_len
  have hg6 := hS.len
  have hgp := hS.pt
  have hfp := mp_pt hf
  have hil : (ints (mp f)).length = 6 := by rw [ints_length, h6]
  have hilg : (ints g).length = 6 := by rw [ints_length, hg6]
  have hfa : ∀ ρ, SI ρ a b l f g (.box [PV.int .i64 0, PV.int .i64 0, PV.int .i64 0, PV.int .i64 0, PV.int .i64 0, PV.int .i64 0]) (.box [PV.int .i64 0, PV.int .i64 0, PV.int .i64 0, PV.int .i64 0, PV.int .i64 0, PV.int .i64 0]) → ρ[a]? = some (.box (ints (mp f))) := fun ρ h => h.s.fa
  have hgb : ∀ ρ, SI ρ a b l f g (.box [PV.int .i64 0, PV.int .i64 0, PV.int .i64 0, PV.int .i64 0, PV.int .i64 0, PV.int .i64 0]) (.box [PV.int .i64 0, PV.int .i64 0, PV.int .i64 0, PV.int .i64 0, PV.int .i64 0, PV.int .i64 0]) → ρ[b]? = some (.box (ints g)) := fun ρ h => h.gb
  have hbad : ∀ (ρ : Heap) (m : List Int), SI ρ a b l f g (.box [PV.int .i64 0, PV.int .i64 0, PV.int .i64 0, PV.int .i64 0, PV.int .i64 0, PV.int .i64 0]) (.box [PV.int .i64 0, PV.int .i64 0, PV.int .i64 0, PV.int .i64 0, PV.int .i64 0, PV.int .i64 0]) → m.length = 6 → (0 ≤ m.getD 0 0 ∧ m.getD 0 0 ≤ 5) → ∀ K : PV → Heap → Prop, (∀ (m' : List Int) ρ', m'.length = 6 → SI ρ' a b l f g (.box [PV.int .i64 0, PV.int .i64 0, PV.int .i64 0, PV.int .i64 0, PV.int .i64 0, PV.int .i64 0]) (.box [PV.int .i64 0, PV.int .i64 0, PV.int .i64 0, PV.int .i64 0, PV.int .i64 0, PV.int .i64 0]) → K (.agg (ints m')) ρ') → ACall Tryz.prog 126 [.ptr 2 0, .agg (ints m)] ρ K := fun ρ m h hm hp K hK =>
    p126 hl h.s.src m hm hp fun m' ρ' y1 y2 y3 => hK m' ρ' y1 (h.step y2 y3)
  unfold k47_t2
  repeat' (first
    | refine Eq.mpr (vT_alt _ _) ⟨?_, ?_⟩
    | refine hbad _ _ (by assumption) (by assumption) (by assumption) _ fun m ρ' q1 q2 => ?_
    | simp (disch := assumption) only [hfa, hgb, e2, e3, e4, e5, e6, h6, hil, hilg, OpK_eq, HKv, take6, List.drop_zero, Int.cast_ofNat_Int, go_sem, ↓reduceIte, Nat.reduceEqDiff, Nat.reduceAdd, Nat.reduceMul, Nat.reduceLeDiff, Nat.reduceLT, Int.reduceLE, Int.reduceLT, reduceCtorEq])
  all_goals (rename_i m1 ρ1 y1 y2)
  all_goals have w0 := q2.s.z0
  all_goals have wl := (List.getElem?_eq_some_iff.1 q2.s.z1).1
  all_goals have w1 : ∀ o, (ρ'.set 0 o)[1]? = some (.box [PV.int .i64 0, PV.int .i64 0, PV.int .i64 0, PV.int .i64 0, PV.int .i64 0, PV.int .i64 0]) := fun o => (List.getElem?_set_ne (by decide)).trans q2.s.z1
  all_goals have k1 : (ints m1).length = 6 := by rw [ints_length, y1]
  all_goals have k2 : (ints m).length = 6 := by rw [ints_length, q1]
  all_goals try simp only [OpK_eq, HKv, w0, w1, k1, k2, y1, q1, e2, e3, take6, List.drop_zero, Int.cast_ofNat_Int, go_sem, ↓reduceIte, Nat.reduceEqDiff, Nat.reduceAdd, Nat.reduceMul, Nat.reduceLeDiff, Nat.reduceLT, Int.reduceLE, Int.reduceLT, reduceCtorEq]
  all_goals exact hQ _ _ m1 m (by simp [keep, e2, e3]) y1 q1 ((List.getElem?_set_ne (by decide)).trans (List.getElem?_set_self (by omega))) (List.getElem?_set_self (by rw [List.length_set]; exact wl))
end Go.Proofs.YtpfapiiinkkcgaaGreat
