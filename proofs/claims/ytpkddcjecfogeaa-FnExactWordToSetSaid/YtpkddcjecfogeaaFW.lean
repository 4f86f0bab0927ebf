/- The first word to a list of points: the search until one is such. -/
import Derived.Test.YtpkddcjecfogeaaCb
import Derived.Test.YtpkddcjecfogeaaSR
import Derived.Test.YtpkddcjecfogeaaLO
namespace Go.Proofs.Ytpkddcjecfogeaa
open Go.Kv
set_option maxRecDepth 100000
/- impl.firstWord -/
def k87 : KC := (.seq (.ops [⟨(some 7), none, .box true (.t 3)⟩, ⟨(some 8), none, .mv (.c (.nils))⟩, ⟨(some 9), none, .mv (.c (.int .i64 0))⟩])
  (.seq (.ops [⟨(some 10), none, .alloc [.nils]⟩])
  (.seq (.ops [⟨(some 11), none, .alloc [.bool false]⟩, ⟨none, none, .store 1 (.t 11) (.c (.bool false))⟩])
  (.seq (.ops [⟨(some 12), none, .mv (.t 0)⟩, ⟨(some 13), none, .mv (.t 1)⟩, ⟨(some 14), none, .mv (.t 2)⟩, ⟨(some 15), none, .mkfn (.func 134) [] [(.t 7), (.t 10), (.t 11)]⟩, ⟨(some 16), none, .call (.c (.fn (.func 133) [] [])) [(.t 12), (.t 13), (.t 14), (.t 15)]⟩])
  (.seq (.seq (.ops [⟨(some 17), none, .load false 1 (.t 11)⟩, ⟨(some 18), none, .not (.t 17)⟩])
  (.cond (.t 18) (.seq (.ops [⟨(some 8), none, .mv (.c (.nils))⟩, ⟨(some 9), none, .mv (.c (.int .i64 4))⟩])
  .ret) .skip))
  (.seq (.ops [⟨(some 19), none, .load false 1 (.t 10)⟩, ⟨(some 8), none, .mv (.t 19)⟩, ⟨(some 9), none, .mv (.c (.int .i64 0))⟩])
  .ret))))))
theorem e87 {args : List PV} {σ : Heap} {K : PV → Heap → Prop} (hl : args.length ≤ 20) (h : Wf σ → (∀ a ∈ args, PV.upto σ.length a) → vc (mkCfg Try.prog mixed [7] 20 σ.length) k87 (FinK σ.length [.t 8, .t 9] K) (argEnv 0 args) σ) : ACall Try.prog 87 args σ K :=
  ACall_enter (C := mkCfg Try.prog mixed [7] 20 σ.length) (c := Try.f87.body.getD .skip) Try.func87 (by kernel_rfl) (by kernel_rfl) (by kernel_rfl) rfl hl (by kernel_rfl) (by kernel_rfl) h
/- impl.firstWord$1 -/
def k134 : KC := (.seq (.ops [⟨(some 4), none, .box true (.t 0)⟩, ⟨(some 5), none, .mv (.c (.bool false))⟩])
  (.seq (.seq (.ops [⟨(some 6), none, .load false 1 (.t 1)⟩, ⟨(some 7), none, .fieldA 0 (.t 4)⟩, ⟨(some 8), none, .load false 1 (.t 7)⟩, ⟨(some 9), none, .call (.t 6) [(.t 8)]⟩])
  (.cond (.t 9) (.ops [⟨(some 10), none, .fieldA 1 (.t 4)⟩, ⟨(some 11), none, .load false 1 (.t 10)⟩, ⟨none, none, .store 1 (.t 2) (.t 11)⟩, ⟨none, none, .store 1 (.t 3) (.c (.bool true))⟩]) .skip))
  (.seq (.ops [⟨(some 12), none, .load false 1 (.t 3)⟩, ⟨(some 13), none, .not (.t 12)⟩, ⟨(some 5), none, .mv (.t 13)⟩])
  .ret)))
theorem e134 {args : List PV} {σ : Heap} {K : PV → Heap → Prop} (hl : args.length ≤ 14) (h : Wf σ → (∀ a ∈ args, PV.upto σ.length a) → vc (mkCfg Try.prog mixed [4] 14 σ.length) k134 (FinK σ.length [.t 5] K) (argEnv 0 args) σ) : ACall Try.prog 134 args σ K :=
  ACall_enter (C := mkCfg Try.prog mixed [4] 14 σ.length) (c := Try.f134.body.getD .skip) Try.func134 (by kernel_rfl) (by kernel_rfl) (by kernel_rfl) rfl hl (by kernel_rfl) (by kernel_rfl) h
end Go.Proofs.Ytpkddcjecfogeaa
namespace Go.Proofs.Ytpkddcjecfogeaa
open Go.Kv
set_option linter.unusedVariables false
set_option linter.unusedSimpArgs false
attribute [local irreducible] ACall PCall KL
theorem p134 (σ : Heap) (p : List Int) (w : PV) (l : List Int) (isid : FuncId) (iscaps : List PV) [hc : StillL iscaps] (b : Bool) (his : Pure Try.prog isid (.list (ints p) :: iscaps) (.bool b)) (h0 : σ[0]? = some (.box [.nils])) (h1 : σ[1]? = some (.box [.bool false])) (hw : Wd σ (fun id => id = 0 ∨ id = 1) w l) (K : PV → Heap → Prop)
    (hK1 : b = false → K (.bool true) σ) (hK2 : b = true → ∀ σ', σ'[0]? = some (.box [w]) → σ'[1]? = some (.box [.bool true]) → Wd σ' (fun _ => False) w l → K (.bool false) σ') :
    ACall Try.prog 134 (.agg [.list (ints p), w] :: [.fptr [.fn (.func isid) [] iscaps] 0, .ptr 0 0, .ptr 1 0]) σ K := by
  have hlt0 := (List.getElem?_eq_some_iff.1 h0).1
  have hlt1 := (List.getElem?_eq_some_iff.1 h1).1
  have hwok : [PV.list (ints p), w].all PV.ok = true := by rcases hw with ⟨rfl, _⟩ | ⟨_, _, rfl, _⟩ <;> simp [PV.ok]
  have hwcs := hw.cs
  have h01 : ∀ o, (σ.set 0 o)[1]? = some (.box [.bool false]) := fun o => (List.getElem?_set_ne (by decide)).trans h1
  refine e134 (by simp) fun _ _ => ?_
  simp only [k134, argEnv, take6, List.drop_zero, Int.cast_ofNat_Int, go_sem, ↓reduceIte, Nat.reduceEqDiff, Nat.reduceAdd, Nat.reduceMul, Nat.reduceLeDiff, Nat.reduceLT, Int.reduceLE, Int.reduceLT, reduceCtorEq]
  try simp only [OpK_eq, hwok, take6, List.drop_zero, Int.cast_ofNat_Int, go_sem, ↓reduceIte, Nat.reduceEqDiff, Nat.reduceAdd, Nat.reduceMul, Nat.reduceLeDiff, Nat.reduceLT, Int.reduceLE, Int.reduceLT, reduceCtorEq]
  refine ⟨hwcs.2, ?_⟩
  refine his.go ?_
  have hls : ∀ o, (σ.set 0 o).length = σ.length := fun o => List.length_set ..
  cases b with
  | false =>
    try simp only [OpK_eq, h1, take6, List.drop_zero, Int.cast_ofNat_Int, go_sem, ↓reduceIte, Nat.reduceEqDiff, Nat.reduceAdd, Nat.reduceMul, Nat.reduceLeDiff, Nat.reduceLT, Int.reduceLE, Int.reduceLT, reduceCtorEq]
    exact Kv.Fin.now (hK1 rfl)
  | true =>
    have hput : putC [PV.nils] 0 [w] = [w] := by unfold putC; first | rfl | (split <;> rfl) | simp
    have hputb : putC [PV.bool false] 0 [.bool true] = [.bool true] := by unfold putC; first | rfl | (split <;> rfl) | simp
    have hs0 : ∀ o o', ((σ.set 0 o).set 1 o')[1]? = some o' := fun o o' => List.getElem?_set_self (by rw [hls]; exact hlt1)
    have hs1 : ∀ o o', ((σ.set 0 o).set 1 o')[0]? = some o := fun o o' => by
      rw [List.getElem?_set_ne (by decide)]; exact List.getElem?_set_self hlt0
    have hK := fun ρ => hK2 rfl ρ
    clear hK1 hK2
    have hW2 : Wd ((σ.set 0 (.box [w])).set 1 (.box [.bool true])) (fun _ => False) w l := hw.keep fun id _ hA => by
      simp only [not_or] at hA
      exact ⟨by rw [List.getElem?_set_ne (Ne.symm hA.2), List.getElem?_set_ne (Ne.symm hA.1)], fun h => h⟩
    try simp only [OpK_eq, h0, h01, hs0, hwcs.1, hwcs.2, hput, hputb, HKv, take6, List.drop_zero, Int.cast_ofNat_Int, go_sem, ↓reduceIte, Nat.reduceEqDiff, Nat.reduceAdd, Nat.reduceMul, Nat.reduceLeDiff, Nat.reduceLT, Int.reduceLE, Int.reduceLT, reduceCtorEq]
    exact Kv.Fin.now (hK _ (hs1 _ _) (hs0 _ _) hW2)
theorem p87 (fs : List (List Nat)) (n : Nat) (hf : ∀ f ∈ fs, Ok f n) (hfl : fs.length ≤ 1000) (bid : FuncId) (bf : List Nat → List Int → List Int) (okp : List Int → Prop)
    (hokl : ∀ p, okp p → p.length ≤ 1000) (hokb : ∀ f ∈ fs, ∀ p, okp p → okp (bf f p))
    (hby : ∀ f ∈ fs, ∀ p, okp p → Pure Try.prog bid [.agg (ints (mp f)), .list (ints p)] (.list (ints (bf f p))))
    (isid : FuncId) (iscaps : List PV) [hc : StillL iscaps] (isF : List Int → Bool) (his : ∀ p, okp p → Pure Try.prog isid (.list (ints p) :: iscaps) (.bool (isF p)))
    (from0 : List Int) (hok0 : okp from0) (N : Nat) (hN : N ≤ 1000) (hB : ∀ i, (bq fs bf (fun _ _ => ()) ([(from0, [])], ()) i).1.length ≤ N) (K : PV → Heap → Prop)
    (hK1 : ∀ i (h : i < (bq fs bf (fun _ _ => ()) ([(from0, [])], ()) i).1.length), isF (bq fs bf (fun _ _ => ()) ([(from0, [])], ()) i).1[i].1 = true → (∀ j (h : j < (bq fs bf (fun _ _ => ()) ([(from0, [])], ()) j).1.length), j < i → isF (bq fs bf (fun _ _ => ()) ([(from0, [])], ()) j).1[j].1 = false) →
      ∀ x s, OwnI 2 s 0 s.length x (bq fs bf (fun _ _ => ()) ([(from0, [])], ()) i).1[i].2 → Free s → K (.tup [x, .int .i64 0]) s)
    (hK2 : ∀ i, i = (bq fs bf (fun _ _ => ()) ([(from0, [])], ()) i).1.length → (∀ j (h : j < (bq fs bf (fun _ _ => ()) ([(from0, [])], ()) j).1.length), j < i → isF (bq fs bf (fun _ _ => ()) ([(from0, [])], ()) j).1[j].1 = false) → K (.tup [.nils, .int .i64 4]) []) :
    ACall Try.prog 87 [.list (aggs (fs.map mp)), .list (ints from0), .fn (.func bid) [] [], .fn (.func isid) [] iscaps] [] K := by
  refine e87 (by simp) fun _ _ => ?_
  simp only [k87, argEnv, take6, List.drop_zero, Int.cast_ofNat_Int, go_sem, ↓reduceIte, Nat.reduceEqDiff, Nat.reduceAdd, Nat.reduceMul, Nat.reduceLeDiff, Nat.reduceLT, Int.reduceLE, Int.reduceLT, reduceCtorEq]
  try simp only [OpK_eq, take6, List.drop_zero, Int.cast_ofNat_Int, go_sem, ↓reduceIte, Nat.reduceEqDiff, Nat.reduceAdd, Nat.reduceMul, Nat.reduceLeDiff, Nat.reduceLT, Int.reduceLE, Int.reduceLT, reduceCtorEq]
  refine p133 (α := Unit) fs n hf hfl bid 134 [.fptr [.fn (.func isid) [] iscaps] 0, .ptr 0 0, .ptr 1 0] bf okp hokl hokb hby
    (fun _ σ => σ[0]? = some (.box [.nils]) ∧ σ[1]? = some (.box [.bool false])) (fun _ id => id = 0 ∨ id = 1) (fun _ _ => ()) (fun _ p => !isF p)
    (fun _ p l σ' => ∃ w, σ'[0]? = some (.box [w]) ∧ σ'[1]? = some (.box [.bool true]) ∧ Wd σ' (fun _ => False) w l)
    (fun a σ id h hu => ?_) (fun a σ σ' h hk hl => ?_) (fun a σ p w l hp hI hw K' k1 k2 => ?_) () from0 hok0 N hN hB _ ⟨rfl, rfl⟩ _ (fun i hi hgf hgo σ' hD => ?_) (fun i hi hgo σ' hI => ?_)
  · have h1 := (List.getElem?_eq_some_iff.1 h.1).1
    have h2 := (List.getElem?_eq_some_iff.1 h.2).1
    rcases hu with rfl | rfl
    · exact h1
    · exact h2
  · have k0 := hk 0 (.inl rfl)
    have k1 := hk 1 (.inr rfl)
    exact ⟨k0.trans h.1, k1.trans h.2⟩
  · refine p134 σ p w l isid iscaps (isF p) (his p hp) hI.1 hI.2 hw K' (fun hb => ?_) (fun hb σ' q1 q2 q3 => ?_)
    · exact k1 (by rw [hb]; rfl) σ hI (Nat.le_refl _) fun id _ hu => ⟨rfl, hu⟩
    · exact k2 (by rw [hb]; rfl) σ' ⟨w, q1, q2, q3⟩
  · obtain ⟨w, q1, q2, q3⟩ := hD
    have hK := hK1 i hi (by simpa using hgf) (fun j h hj => by simpa using hgo j h hj)
    clear hK1 hK2
    try simp only [OpK_eq, q1, q2, HKv, take6, List.drop_zero, Int.cast_ofNat_Int, go_sem, ↓reduceIte, Nat.reduceEqDiff, Nat.reduceAdd, Nat.reduceMul, Nat.reduceLeDiff, Nat.reduceLT, Int.reduceLE, Int.reduceLT, reduceCtorEq]
    rcases q3 with ⟨rfl, hl⟩ | ⟨id, ver, rfl, ho, _⟩
    · rw [hl] at hK
      exact Kv.Fin.still (hK _ _ .nil .nil)
    · refine Kv.Fin.oneT ho (by simp only [flat_ints]; exact Plain.ints _) 0 (hK _ _ (.own 0 ver [] _ [] (by simp) ⟨Nat.zero_le _, by simp⟩) (Free.ints _ _ _ _))
  · have hK := hK2 i hi (fun j h hj => by simpa using hgo j h hj)
    clear hK1 hK2
    try simp only [OpK_eq, hI.2, HKv, take6, List.drop_zero, Int.cast_ofNat_Int, go_sem, ↓reduceIte, Nat.reduceEqDiff, Nat.reduceAdd, Nat.reduceMul, Nat.reduceLeDiff, Nat.reduceLT, Int.reduceLE, Int.reduceLT, reduceCtorEq]
    exact Kv.Fin.still hK
end Go.Proofs.Ytpkddcjecfogeaa
