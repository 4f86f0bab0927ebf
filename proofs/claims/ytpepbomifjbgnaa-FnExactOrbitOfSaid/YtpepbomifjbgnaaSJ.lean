/- The search again: the caller's state may hang on the heap. -/
import Derived.Test.YtpepbomifjbgnaaCb
import Derived.Test.YtpepbomifjbgnaaSR
namespace Go.Proofs.Ytpepbomifjbgnaa
open Go.Kv
set_option maxRecDepth 100000
end Go.Proofs.Ytpepbomifjbgnaa
namespace Go.Proofs.Ytpepbomifjbgnaa
open Go.Kv
set_option linter.unusedVariables false
set_option linter.unusedSimpArgs false
attribute [local irreducible] ACall PCall KL
/-- The queue behind i met lists. -/
def bl (fs : List (List Nat)) (bf : List Nat → List Int → List Int) (p : List Int) : Nat → List Met
  | 0 => [(p, [])]
  | i + 1 => match (bl fs bf p i)[i]? with
    | some m => advN fs bf (bl fs bf p i) m fs.length
    | none => bl fs bf p i
theorem bl_succ {fs : List (List Nat)} {bf : List Nat → List Int → List Int} {p : List Int} {i : Nat} (h : i < (bl fs bf p i).length) : bl fs bf p (i + 1) = advN fs bf (bl fs bf p i) (bl fs bf p i)[i] fs.length := by
  have : (bl fs bf p i)[i]? = some (bl fs bf p i)[i] := List.getElem?_eq_getElem h
  rw [bl, this]
set_option maxHeartbeats 4000000 in
theorem p139J {α : Type} (fs : List (List Nat)) (n : Nat) (hf : ∀ f ∈ fs, Ok f n) (hfl : fs.length ≤ 1000) (bid eid : FuncId) (caps : List PV) (bf : List Nat → List Int → List Int) (okp : List Int → Prop)
    (hokl : ∀ p, okp p → p.length ≤ 1000) (hokb : ∀ f ∈ fs, ∀ p, okp p → okp (bf f p))
    (hby : ∀ f ∈ fs, ∀ p, okp p → Pure Try.prog bid [.agg (ints (mp f)), .list (ints p)] (.list (ints (bf f p))))
    (I : α → Heap → Prop) (U : α → Nat → Prop) (nx : α → List Int → α → Prop) (go : α → List Int → Bool) (D : α → List Int → List Int → Heap → Prop)
    (hIlt : ∀ a σ id, I a σ → U a id → id < σ.length) (hIk : ∀ a σ σ', I a σ → (∀ id, U a id → σ'[id]? = σ[id]?) → σ.length ≤ σ'.length → I a σ')
    (N : Nat) (J : Nat → α → Prop)
    (heach : ∀ i a σ p w l, J i a → i ≤ N → okp p → I a σ → Wd σ (U a) w l → ∀ K : PV → Heap → Prop,
      (go a p = true → ∀ a' σ', nx a p a' → I a' σ' → σ.length ≤ σ'.length → (∀ id, id < σ.length → ¬ U a id → σ'[id]? = σ[id]? ∧ ¬ U a' id) → K (.bool true) σ') →
      (go a p = false → ∀ σ', D a p l σ' → K (.bool false) σ') → ACall Try.prog eid (.agg [.list (ints p), w] :: caps) σ K)
    (a0 : α) (from0 : List Int) (hok0 : okp from0) (hN : N ≤ 1000) (hB : ∀ i, (bl fs bf from0 i).length ≤ N) (hJ0 : J 0 a0) (hJs : ∀ i a a' (h : i < (bl fs bf from0 i).length), J i a → go a (bl fs bf from0 i)[i].1 = true → nx a (bl fs bf from0 i)[i].1 a' → J (i + 1) a')
    (σ0 : Heap) (hI0 : I a0 σ0) (K : PV → Heap → Prop)
    (hK1 : ∀ i a (h : i < (bl fs bf from0 i).length), J i a → go a (bl fs bf from0 i)[i].1 = false → ∀ σ', D a (bl fs bf from0 i)[i].1 (bl fs bf from0 i)[i].2 σ' → K (.tup []) σ')
    (hK2 : ∀ i a, i = (bl fs bf from0 i).length → J i a → ∀ σ', I a σ' → K (.tup []) σ') :
    ACall Try.prog 139 [.list (aggs (fs.map mp)), .list (ints from0), .fn (.func bid) [] [], .fn (.func eid) [] caps] σ0 K := by
  generalize hs : bl fs bf from0 = S at *
  have hS0 : S 0 = [(from0, [])] := by rw [← hs]; rfl
  have hSs : ∀ i (h : i < (S i).length), S (i + 1) = advN fs bf (S i) (S i)[i] fs.length := by
    rw [← hs]; exact fun i h => bl_succ h
  refine e139 (by simp) fun _ _ => ?_
  simp only [k139, argEnv, take6, List.drop_zero, Int.cast_ofNat_Int, go_sem, ↓reduceIte, Nat.reduceEqDiff, Nat.reduceAdd, Nat.reduceMul, Nat.reduceLeDiff, Nat.reduceLT, Int.reduceLE, Int.reduceLT, reduceCtorEq]
  try simp only [take6, List.drop_zero, Int.cast_ofNat_Int, go_sem, ↓reduceIte, Nat.reduceEqDiff, Nat.reduceAdd, Nat.reduceMul, Nat.reduceLeDiff, Nat.reduceLT, Int.reduceLE, Int.reduceLT, reduceCtorEq]
  generalize hq : σ0.length = q at *
  refine KL_ind k139_b1.eq_1 (fun x : Nat × Nat × List PV × α × Heap => [(0, .list (aggs (fs.map mp))), (2, .fn (.func bid) [] []), (3, .fn (.func eid) [] caps), (8, .ref q x.2.1 0 (S x.1).length), (9, .int .i64 x.1)]) (fun x => x.2.2.2.2)
    (fun x => x.1 ≤ (S x.1).length ∧ J x.1 x.2.2.2.1 ∧ I x.2.2.2.1 x.2.2.2.2 ∧ ¬ U x.2.2.2.1 q ∧ QG x.2.2.2.2 (U x.2.2.2.1) q x.2.1 x.2.2.1 (S x.1) ∧ (∀ m ∈ S x.1, okp m.1 ∧ m.2.length + 1 ≤ (S x.1).length)) (fun x => N + 1 - x.1) [0, 2, 3, 8, 9]
    (0, 0, [.nils], a0, σ0 ++ [.arr 0 134 2 [.agg [.list (ints from0), .nils]]]) ?_ rfl ?_ fun ⟨i, ver, ws, a, σ⟩ ⟨hi, hJ, hI, hUq, hG, hok⟩ ih => ?_
  · simp [keep, hS0]
  · have hlen0 : q < (σ0 ++ [AObj.arr 0 134 2 [.agg [.list (ints from0), .nils]]]).length := by simp [← hq]
    have hU0 : ¬ U a0 q := fun h => by
      have := hIlt _ _ _ hI0 h
      omega
    refine ⟨Nat.zero_le _, hJ0, ?_, hU0, ?_, ?_⟩
    · show I a0 _
      refine hIk a0 σ0 _ hI0 (fun id hid => ?_) (by simp)
      rw [List.getElem?_append_left (hIlt _ _ _ hI0 hid)]
    · show QG _ _ q 0 [.nils] (S 0)
      rw [hS0]
      refine ⟨by simp [← hq, qcell], rfl, fun i w m hw hm => .inl ⟨?_, ?_⟩⟩
      · have := List.mem_of_getElem? hw; simpa using this
      · have := List.mem_of_getElem? hm
        simp only [List.mem_singleton] at this; rw [this]
    · intro m hm
      have hm : m ∈ S 0 := hm
      show okp m.1 ∧ m.2.length + 1 ≤ (S 0).length
      rw [hS0] at hm ⊢
      simp only [List.mem_singleton] at hm
      subst hm
      exact ⟨hok0, by simp⟩
  · simp only at hi hJ hI hUq hG hok
    have hBi := hB i
    have hout := hG.out
    have hqlt := (List.getElem?_eq_some_iff.1 hout).1
    have hzl : (List.zipWith qcell ws (S i)).length = (S i).length := by simp [hG.len]
    try simp only [OpK_eq, hout, hzl, take6, List.drop_zero, Int.cast_ofNat_Int, go_sem, ↓reduceIte, Nat.reduceEqDiff, Nat.reduceAdd, Nat.reduceMul, Nat.reduceLeDiff, Nat.reduceLT, Int.reduceLE, Int.reduceLT, reduceCtorEq]
    refine ⟨fun h1 => ?_, fun h1 => ?_⟩
    · have hil : i < (S i).length := by omega
      obtain ⟨w, hw, hcell, hW⟩ := hG.cell hil
      have hSi := hSs i hil
      have hmem := hok _ (List.getElem_mem hil)
      generalize hm : (S i)[i] = m at *
      have hsub : subC (qcell w m).cs 0 2 = [.list (ints m.1), w] := subC2 _ _
      have hput : putC [.nils, .nils] 0 [.list (ints m.1), w] = [PV.list (ints m.1), w] := putC2 _ _ _ _
      have hwok : [PV.list (ints m.1), w].all PV.ok = true := by rcases hW with ⟨rfl, _⟩ | ⟨_, _, rfl, _⟩ <;> simp [PV.ok]
      refine ⟨⟨h1, Nat.le_refl _⟩, hil, fun x hx => ?_⟩
      rw [hcell] at hx; cases hx
      rw [hsub, hput, subC2]
      refine ⟨Nat.le_refl _, ⟨rfl, hwok⟩, Nat.le_refl _, ?_⟩
      have hlt1 : ∀ id, id < σ.length → (σ ++ [AObj.box [.list (ints m.1), w]])[id]? = σ[id]? := fun id h => List.getElem?_append_left h
      have hI1 : I a (σ ++ [AObj.box [.list (ints m.1), w]]) := hIk _ _ _ hI (fun id hid => hlt1 id (hIlt _ _ _ hI hid)) (by simp)
      have hW1 : Wd (σ ++ [AObj.box [.list (ints m.1), w]]) (U a) w m.2 := hW.keep fun id hid hA => ⟨hlt1 id hid, fun hu => hA (.inl hu)⟩
      refine heach i _ _ m.1 w m.2 hJ (by omega) hmem.1 hI1 hW1 _ (fun hgt a' σ' hnx hI' hle hkeep => ?_) (fun hgf σ' hD => ?_)
      · have hb10 : σ'[σ.length]? = some (.box [.list (ints m.1), w]) := by
          rw [(hkeep σ.length (by simp) (fun hu => by have := hIlt _ _ _ hI hu; omega)).1]
          simp
        have hUb : ¬ U (a') σ.length := (hkeep σ.length (by simp) (fun hu => by have := hIlt _ _ _ hI hu; omega)).2
        have hkeep2 : ∀ id, id < σ.length → ¬ U a id → σ'[id]? = σ[id]? ∧ ¬ U (a') id := fun id hid hu => by
          obtain ⟨k1, k2⟩ := hkeep id (by simp; omega) hu
          exact ⟨k1.trans (hlt1 id hid), k2⟩
        have hG' := hG.keep hUq hkeep2
        have hUq' := (hkeep2 q hqlt hUq).2
        have hW' : Wd σ' (fun id => U (a') id ∨ id = q) w m.2 := hW.keep fun id hid hA => by
          simp only [not_or] at hA ⊢
          exact ⟨(hkeep2 id hid hA.1).1, (hkeep2 id hid hA.1).2, hA.2⟩
        have hJ' : J (i + 1) a' := hJs i a a' hil hJ (by rw [hm]; exact hgt) (by rw [hm]; exact hnx)
        have hbq : σ.length ≠ q := by omega
        generalize hb : σ.length = b at *
        clear hkeep hkeep2 hI1 hW1 hlt1 hG hI hW hcell hw hout hzl
        clear hb hqlt
        try simp only [OpK_eq, List.length_map, take6, List.drop_zero, Int.cast_ofNat_Int, go_sem, ↓reduceIte, Nat.reduceEqDiff, Nat.reduceAdd, Nat.reduceMul, Nat.reduceLeDiff, Nat.reduceLT, Int.reduceLE, Int.reduceLT, reduceCtorEq]
        have hadvB : ∀ k, k ≤ fs.length → (advN fs bf (S i) m k).length ≤ N := fun k hk => by
          have h1 := advN_mono fs bf (S i) m hk
          have h2 := hB (i + 1)
          rw [hSi] at h2
          exact Nat.le_trans h1 h2
        refine KL_ind k139_b0.eq_1 (fun x : Nat × Nat × List PV × Heap => [(0, .list (aggs (fs.map mp))), (2, .fn (.func bid) [] []), (3, .fn (.func eid) [] caps), (8, .ref q x.2.1 0 (advN fs bf (S i) m x.1).length), (9, .int .i64 i), (10, .ptr b 0), (31, .list (aggs (fs.map mp))), (32, .int .i64 fs.length), (33, .int .i64 x.1)]) (fun x => x.2.2.2)
          (fun x => x.1 ≤ fs.length ∧ I a' x.2.2.2 ∧ QG x.2.2.2 (U a') q x.2.1 x.2.2.1 (advN fs bf (S i) m x.1) ∧ x.2.2.2[b]? = some (.box [.list (ints m.1), w]) ∧ Wd x.2.2.2 (fun id => U a' id ∨ id = q) w m.2 ∧ (∀ y ∈ advN fs bf (S i) m x.1, okp y.1 ∧ y.2.length + 1 ≤ (advN fs bf (S i) m x.1).length)) (fun x => fs.length - x.1) [0, 2, 3, 8, 9, 10, 31, 32, 33]
          (0, ver, ws, σ') (by rfl) rfl ⟨Nat.zero_le _, hI', hG', hb10, hW', hok⟩ fun ⟨k, ver2, ws2, τ⟩ ⟨hk, hI2, hG2, hb2, hW2, hok2⟩ ihk => ?_
        simp only at hk hI2 hG2 hb2 hW2 hok2
        clear hI' hG' hb10 hW' hok hle
        have hsucc := advN_succ fs bf (S i) m k
        have hlenB := hadvB k hk
        have hmlen := hmem.2
        generalize hL : advN fs bf (S i) m k = L at *
        have hout := hG2.out
        have hblt := (List.getElem?_eq_some_iff.1 hb2).1
        have hqlt := (List.getElem?_eq_some_iff.1 hout).1
        try simp only [OpK_eq, List.length_map, take6, List.drop_zero, Int.cast_ofNat_Int, go_sem, ↓reduceIte, Nat.reduceEqDiff, Nat.reduceAdd, Nat.reduceMul, Nat.reduceLeDiff, Nat.reduceLT, Int.reduceLE, Int.reduceLT, reduceCtorEq]
        refine ⟨fun h3 => ?_, fun h3 => ?_⟩
        · have hkl : k < fs.length := by omega
          have hfk := hf _ (List.getElem_mem hkl)
          have h6 := hfk.mp_len
          have hgk : (fs.map mp).getD k [] = mp fs[k] := by simp [List.getD_eq_getElem?_getD, hkl]
          rw [hgk]
          try simp only [OpK_eq, h6, take6, List.drop_zero, Int.cast_ofNat_Int, go_sem, ↓reduceIte, Nat.reduceEqDiff, Nat.reduceAdd, Nat.reduceMul, Nat.reduceLeDiff, Nat.reduceLT, Int.reduceLE, Int.reduceLT, reduceCtorEq]
          refine ⟨h3, fun _ => ?_⟩
          have hbx : ∀ X, (τ ++ X)[b]? = some (.box [.list (ints m.1), w]) := fun X => (List.getElem?_append_left hblt).trans hb2
          have ht0 : ∀ (x : AObj) X, (τ ++ x :: X)[τ.length]? = some x := fun x X => by simp
          have ht1 : ∀ (x y : AObj) X, (τ ++ x :: y :: X)[τ.length + 1]? = some y := fun x y X => by
            rw [List.getElem?_append_right (by omega)]; simp
          have hs0 : ∀ (x z : AObj) X, (τ ++ x :: X).set τ.length z = τ ++ z :: X := fun x z X => by
            rw [List.set_append_right _ _ (Nat.le_refl _)]; simp
          have hs1 : ∀ (x y z : AObj) X, (τ ++ x :: y :: X).set (τ.length + 1) z = τ ++ x :: z :: X := fun x y z X => by
            rw [List.set_append_right _ _ (by omega)]; simp
          try simp only [OpK_eq, h6, hbx, HKv, List.append_assoc, List.cons_append, List.nil_append, ht0, ht1, hs0, hs1, take6, List.drop_zero, Int.cast_ofNat_Int, go_sem, ↓reduceIte, Nat.reduceEqDiff, Nat.reduceAdd, Nat.reduceMul, Nat.reduceLeDiff, Nat.reduceLT, Int.reduceLE, Int.reduceLT, reduceCtorEq]
          refine (hby _ (List.getElem_mem hkl) m.1 hmem.1).go ?_
          have hnx := hokb _ (List.getElem_mem hkl) m.1 hmem.1
          have hgf : fs.getD k [] = fs[k] := by simp [List.getD_eq_getElem?_getD, hkl]
          rw [hgf] at hsucc
          generalize hnxe : bf fs[k] m.1 = nxp at *
          try simp only [OpK_eq, h6, hbx, HKv, List.append_assoc, List.cons_append, List.nil_append, ht0, ht1, hs0, hs1, take6, List.drop_zero, Int.cast_ofNat_Int, go_sem, ↓reduceIte, Nat.reduceEqDiff, Nat.reduceAdd, Nat.reduceMul, Nat.reduceLeDiff, Nat.reduceLT, Int.reduceLE, Int.reduceLT, reduceCtorEq]
          have hG3 : ∀ X, QG (τ ++ X) (U a') q ver2 ws2 L := fun X => hG2.keep hUq' fun id hid hu => ⟨List.getElem?_append_left hid, hu⟩
          have hW3 : ∀ X, Wd (τ ++ X) (fun id => U a' id ∨ id = q) w m.2 := fun X => hW2.keep fun id hid hu => ⟨List.getElem?_append_left hid, hu⟩
          have hI3 : ∀ X, I a' (τ ++ X) := fun X => hIk _ _ _ hI2 (fun id hid => List.getElem?_append_left (hIlt _ _ _ hI2 hid)) (by simp)
          refine (p172 L (by omega) 173 [.fptr [.list (ints nxp)] 0] (fun x => decide (x.1 = nxp)) (fun x hx => p173 x nxp (by have := hokl _ hnx; omega) (by have := hokl _ (hok2 x hx).1; omega))).lend (.cons (hG3 _).imm (.cons (Imm.fnc _ (.cons (Imm.ptr (τ.length + 1) 0 [.list (ints nxp)] [.list (ints nxp)] (ht1 _ _ _) rfl (by simp [PV.ok]) (fun j c d hc hd => by rw [hc] at hd; cases hd; have := List.mem_of_getElem? hc; simp only [List.mem_singleton] at this; subst this; exact .still)) (.nil _))) (.nil _))) ?_
          cases hany : L.any (fun x => decide (x.1 = nxp)) with
          | true =>
            rw [if_pos hany] at hsucc
            try simp only [OpK_eq, take6, List.drop_zero, Int.cast_ofNat_Int, go_sem, ↓reduceIte, Nat.reduceEqDiff, Nat.reduceAdd, Nat.reduceMul, Nat.reduceLeDiff, Nat.reduceLT, Int.reduceLE, Int.reduceLT, reduceCtorEq]
            refine ⟨by omega, ihk (k + 1, ver2, ws2, τ ++ _) ⟨by show k + 1 ≤ fs.length; omega, hI3 _, ?_, hbx _, hW3 _, ?_⟩ (by show fs.length - (k + 1) < fs.length - k; omega) _ _ ?_ rfl⟩
            · show QG _ _ q ver2 ws2 (advN fs bf (S i) m (k + 1))
              rw [hsucc]; exact hG3 _
            · show ∀ y ∈ advN fs bf (S i) m (k + 1), _ ∧ _ ≤ (advN fs bf (S i) m (k + 1)).length
              rw [hsucc]; exact hok2
            · simp [keep, hsucc]
          | false =>
            rw [if_neg (by rw [hany]; simp)] at hsucc
            have hlenB1 := hadvB (k + 1) (by omega)
            rw [hsucc, List.length_append, List.length_singleton] at hlenB1
            have hnext : ∀ ver' w' ρ, I a' ρ → QG ρ (U a') q ver' (ws2 ++ [w']) (L ++ [(nxp, m.2 ++ [(k : Int)])]) → ρ[b]? = some (.box [.list (ints m.1), w]) → Wd ρ (fun id => U a' id ∨ id = q) w m.2 → ∀ env, keep [0, 2, 3, 8, 9, 10, 31, 32, 33] env = [(0, .list (aggs (fs.map mp))), (2, .fn (.func bid) [] []), (3, .fn (.func eid) [] caps), (8, .ref q ver' 0 (L.length + 1)), (9, .int .i64 i), (10, .ptr b 0), (31, .list (aggs (fs.map mp))), (32, .int .i64 fs.length), (33, .int .i64 (k + 1 : Nat))] → KL (mkCfg Try.prog mixed [53, 56] 59 q) k139_b0 _ env ρ := fun ver' w' ρ q1 q2 q3 q4 env q5 =>
              ihk (k + 1, ver', ws2 ++ [w'], ρ) ⟨by show k + 1 ≤ fs.length; omega, q1, by show QG ρ _ q ver' _ (advN fs bf (S i) m (k + 1)); rw [hsucc]; exact q2, q3, q4, by
                show ∀ y ∈ advN fs bf (S i) m (k + 1), _ ∧ _ ≤ (advN fs bf (S i) m (k + 1)).length
                rw [hsucc]
                intro y hy
                rw [List.length_append, List.length_singleton]
                rcases List.mem_append.1 hy with hy | hy
                · have := hok2 y hy; exact ⟨this.1, by omega⟩
                · simp only [List.mem_singleton] at hy; subst hy
                  refine ⟨hnx, ?_⟩
                  simp only [List.length_append, List.length_singleton]
                  have hmono := advN_mono fs bf (S i) m (Nat.zero_le k)
                  rw [hL] at hmono
                  have e : advN fs bf (S i) m 0 = (S i) := rfl
                  rw [e] at hmono
                  omega⟩ (by show fs.length - (k + 1) < fs.length - k; omega) env ρ (by rw [q5, hsucc]; simp) rfl
            clear ih ihk
            have hpush : ∀ X w', Wd (τ ++ X) (fun id => U a' id ∨ id = q) w' (m.2 ++ [(k : Int)]) → ∀ K' : PV → Heap → Prop,
                (∀ ρ, I a' ρ → QG ρ (U a') q (ver2 + 1) (ws2 ++ [w']) (L ++ [(nxp, m.2 ++ [(k : Int)])]) → ρ[b]? = some (.box [.list (ints m.1), w]) → Wd ρ (fun id => U a' id ∨ id = q) w m.2 → K' (.ref q (ver2 + 1) 0 (L.length + 1)) ρ) →
                aApp 134 2 (.ref q ver2 0 L.length) (.list [.agg [.list (ints nxp), w']]) (τ ++ X) K' := fun X w' hw' K' hK' =>
              (hG3 X).push hw' (by omega) fun hQ => by
                refine hK' _ ?_ hQ ?_ ?_
                · refine hIk _ _ _ (hI3 X) (fun id hid => List.getElem?_set_ne ?_) (by simp)
                  rintro rfl; exact hUq' hid
                · rw [List.getElem?_set_ne (Ne.symm hbq)]; exact hbx X
                · refine (hW3 X).keep fun id _ hA => ⟨List.getElem?_set_ne ?_, hA⟩
                  rintro rfl; exact hA (.inr rfl)
            have ht2 : ∀ (x y z : AObj) X, (τ ++ x :: y :: z :: X)[τ.length + 2]? = some z := fun x y z X => by
              rw [List.getElem?_append_right (by omega)]; simp
            have hs2 : ∀ (x y z u : AObj) X, (τ ++ x :: y :: z :: X).set (τ.length + 2) u = τ ++ x :: y :: u :: X := fun x y z u X => by
              rw [List.set_append_right _ _ (by omega)]; simp
            have hwd : ∀ (x y : AObj) vr l, Wd (τ ++ [x, y, .arr vr 2 1 (ints l)]) (fun id => U a' id ∨ id = q) (.ref (τ.length + 2) vr 0 l.length) l := fun x y vr l => by
              refine .inr ⟨_, vr, rfl, ht2 _ _ _ _, fun h => ?_⟩
              rcases h with h | h
              · have := hIlt _ _ _ hI2 h; omega
              · omega
            have hwd1 : ∀ (x y : AObj), Wd (τ ++ [x, y, .arr 2 2 1 (ints (m.2 ++ [(k : Int)]))]) (fun id => U a' id ∨ id = q) (.ref (τ.length + 2) 2 0 (m.2.length + 1)) (m.2 ++ [(k : Int)]) := fun x y => by
              have := hwd x y 2 (m.2 ++ [(k : Int)])
              rwa [List.length_append, List.length_singleton] at this
            have hwd0 : m.2 = [] → ∀ (x y : AObj), Wd (τ ++ [x, y, .arr 0 2 1 [.int .i64 k]]) (fun id => U a' id ∨ id = q) (.ref (τ.length + 2) 0 0 1) (m.2 ++ [(k : Int)]) := fun h0 x y => by
              rw [h0]; exact hwd x y 0 [(k : Int)]
            generalize hvq : PV.ref q ver2 0 L.length = vq at *
            try simp only [OpK_eq, hbx, HKv, ht0, ht1, take6, List.drop_zero, Int.cast_ofNat_Int, go_sem, ↓reduceIte, Nat.reduceEqDiff, Nat.reduceAdd, Nat.reduceMul, Nat.reduceLeDiff, Nat.reduceLT, Int.reduceLE, Int.reduceLT, reduceCtorEq]
            iterate 8
              all_goals (try (rw [vT_alt]; refine ⟨?_, ?_⟩))
              all_goals (try (try simp only [OpK_eq, hbx, HKv, ht0, ht1, take6, List.drop_zero, Int.cast_ofNat_Int, go_sem, ↓reduceIte, Nat.reduceEqDiff, Nat.reduceAdd, Nat.reduceMul, Nat.reduceLeDiff, Nat.reduceLT, Int.reduceLE, Int.reduceLT, reduceCtorEq] ))
            all_goals (refine ACall.lend (p132P m.2 (by omega)) (.cons (hW3 _).imm (.nil _)) fun v s hv => ?_)
            all_goals (rcases hv with ⟨rfl, rfl⟩ | ⟨hl0, rfl, rfl⟩)
            all_goals (first | refine ⟨⟨free_ref _ _ _ _, Free.ints _ _ _ _⟩, ?_⟩ | refine ⟨⟨Plain.nils.fr, Free.nil⟩, ?_⟩)
            all_goals (try (try simp only [OpK_eq, hbx, HKv, ht0, ht1, ht2, hs2, ren_ref, List.append_assoc, List.cons_append, List.nil_append, take6, List.drop_zero, Int.cast_ofNat_Int, go_sem, ↓reduceIte, Nat.reduceEqDiff, Nat.reduceAdd, Nat.reduceMul, Nat.reduceLeDiff, Nat.reduceLT, Int.reduceLE, Int.reduceLT, reduceCtorEq] ))
            iterate 8
              all_goals (try (rw [vT_alt]; refine ⟨?_, ?_⟩))
              all_goals (try (try simp only [OpK_eq, hbx, HKv, ht0, ht1, ht2, hs2, ren_ref, List.append_assoc, List.cons_append, List.nil_append, take6, List.drop_zero, Int.cast_ofNat_Int, go_sem, ↓reduceIte, Nat.reduceEqDiff, Nat.reduceAdd, Nat.reduceMul, Nat.reduceLeDiff, Nat.reduceLT, Int.reduceLE, Int.reduceLT, reduceCtorEq] ))
            all_goals (first | refine ⟨⟨Nat.le_refl _, by omega⟩, hpush [_, _, _] _ (hwd1 _ _) _ fun ρ q1 q2 q3 q4 => ?_⟩ | refine hpush [_, _, _] _ (hwd0 hl0 _ _) _ fun ρ q1 q2 q3 q4 => ?_)
            all_goals (try simp only [OpK_eq, take6, List.drop_zero, Int.cast_ofNat_Int, go_sem, ↓reduceIte, Nat.reduceEqDiff, Nat.reduceAdd, Nat.reduceMul, Nat.reduceLeDiff, Nat.reduceLT, Int.reduceLE, Int.reduceLT, reduceCtorEq] )
            all_goals exact ⟨by omega, hnext (ver2 + 1) _ ρ q1 q2 q3 q4 _ (by simp [keep])⟩
        · have hke : k = fs.length := by omega
          subst hke
          try simp only [take6, List.drop_zero, Int.cast_ofNat_Int, go_sem, ↓reduceIte, Nat.reduceEqDiff, Nat.reduceAdd, Nat.reduceMul, Nat.reduceLeDiff, Nat.reduceLT, Int.reduceLE, Int.reduceLT, reduceCtorEq]
          refine ⟨by omega, ih (i + 1, ver2, ws2, a', τ) ⟨?_, hJ', hI2, hUq', ?_, ?_⟩ (by show N + 1 - (i + 1) < N + 1 - i; omega) _ _ ?_ rfl⟩
          · show i + 1 ≤ (S (i + 1)).length
            rw [hSi]
            have := advN_mono fs bf (S i) m (Nat.zero_le fs.length)
            have e : advN fs bf (S i) m 0 = S i := rfl
            rw [e] at this
            omega
          · show QG τ (U a') q ver2 ws2 (S (i + 1))
            rw [hSi, hL]; exact hG2
          · show ∀ y ∈ S (i + 1), okp y.1 ∧ y.2.length + 1 ≤ (S (i + 1)).length
            rw [hSi, hL]; exact hok2
          · rw [hSi, hL]; simp [keep]
      · try simp only [OpK_eq, take6, List.drop_zero, Int.cast_ofNat_Int, go_sem, ↓reduceIte, Nat.reduceEqDiff, Nat.reduceAdd, Nat.reduceMul, Nat.reduceLeDiff, Nat.reduceLT, Int.reduceLE, Int.reduceLT, reduceCtorEq]
        exact Kv.Fin.now (hK1 i a hil hJ (by rw [hm]; exact hgf) σ' (by rw [hm]; exact hD))
    · have hie : i = (S i).length := by omega
      exact Kv.Fin.now (hK2 i a hie hJ σ hI)
end Go.Proofs.Ytpepbomifjbgnaa
