/- The points that are reached: the walk. -/
import Derived.Test.YtpepbomifjbgnaaCb
import Derived.Test.YtpepbomifjbgnaaRE
namespace Go.Proofs.Ytpepbomifjbgnaa
open Go.Kv
set_option maxRecDepth 100000
/- impl.reached -/
def k106 : KC := (.seq (.ops [⟨(some 4), none, .mv (.c (.nils))⟩])
  (.seq (.ops [⟨(some 5), none, .alloc [.nils]⟩])
  (.seq (.ops [⟨(some 6), none, .mv (.t 0)⟩, ⟨(some 7), none, .mv (.t 1)⟩, ⟨(some 8), none, .bsl false 2 1 [(.t 7)]⟩, ⟨(some 9), none, .mkfn (.func 141) [] [(.t 5)]⟩, ⟨(some 10), none, .call (.c (.fn (.func 139) [] [])) [(.t 6), (.t 8), (.c (.fn (.func 140) [] [])), (.t 9)]⟩])
  (.seq (.ops [⟨(some 11), none, .load false 1 (.t 5)⟩, ⟨(some 4), none, .mv (.t 11)⟩])
  .ret))))
theorem e106 {args : List PV} {σ : Heap} {K : PV → Heap → Prop} (hl : args.length ≤ 12) (h : Wf σ → (∀ a ∈ args, PV.upto σ.length a) → vc (mkCfg Try.prog mixed [] 12 σ.length) k106 (FinK σ.length [.t 4] K) (argEnv 0 args) σ) : ACall Try.prog 106 args σ K :=
  ACall_enter (C := mkCfg Try.prog mixed [] 12 σ.length) (c := Try.f106.body.getD .skip) Try.func106 (by kernel_rfl) (by kernel_rfl) (by kernel_rfl) rfl hl (by kernel_rfl) (by kernel_rfl) h
end Go.Proofs.Ytpepbomifjbgnaa
namespace Go.Proofs.Ytpepbomifjbgnaa
open Go.Kv
set_option linter.unusedVariables false
set_option linter.unusedSimpArgs false
attribute [local irreducible] ACall PCall KL
theorem p106 (fs : List (List Nat)) (n : Nat) (hf : ∀ f ∈ fs, Ok f n) (hfl : fs.length ≤ 1000) (q : Nat) (hq : q < n) (N : Nat) (hN : N ≤ 900) (hB : ∀ i, (bl fs ldp [(q : Int)] i).length ≤ N) (K : PV → Heap → Prop)
    (hK : ∀ i, i = (bl fs ldp [(q : Int)] i).length → K (.list (ints (rch fs q i))) []) : ACall Try.prog 106 [.list (aggs (fs.map mp)), .int .i64 q] [] K := by
  refine e106 (by simp) fun _ _ => ?_
  simp only [k106, argEnv, take6, List.drop_zero, Int.cast_ofNat_Int, go_sem, ↓reduceIte, Nat.reduceEqDiff, Nat.reduceAdd, Nat.reduceMul, Nat.reduceLeDiff, Nat.reduceLT, Int.reduceLE, Int.reduceLT, reduceCtorEq]
  try simp only [OpK_eq, take6, List.drop_zero, Int.cast_ofNat_Int, go_sem, ↓reduceIte, Nat.reduceEqDiff, Nat.reduceAdd, Nat.reduceMul, Nat.reduceLeDiff, Nat.reduceLT, Int.reduceLE, Int.reduceLT, reduceCtorEq]
  refine ACall.giveAt (id := 1) (args' := [.list (aggs (fs.map mp)), .list (ints [(q : Int)]), .fn (.func 140) [] [], .fn (.func 141) [] [.ptr 0 0]]) rfl ?_ rfl (fun i c d hc hd => ?_)
  rotate_left
  · rcases i with _ | _ | _ | _ | i
    · simp only [List.getElem?_cons_zero, Option.some.injEq] at hc hd; subst hc; subst hd
      exact .inl Imm.still
    · simp only [List.getElem?_cons_succ, List.getElem?_cons_zero, Option.some.injEq] at hc hd; subst hc; subst hd
      exact .inl (Imm.refn (l := [(q : Int)]) (solo_get (o := .arr 0 2 1 (ints [(q : Int)])) rfl) rfl)
    · simp only [List.getElem?_cons_succ, List.getElem?_cons_zero, Option.some.injEq] at hc hd; subst hc; subst hd
      exact .inl Imm.still
    · simp only [List.getElem?_cons_succ, List.getElem?_cons_zero, Option.some.injEq] at hc hd; subst hc; subst hd
      exact .inr ⟨rfl, Kv.undr_upto (by simp [PV.undr, PV.undrL])⟩
    · simp at hc
  refine p139J (α := List Int × Option Nat) fs n hf hfl 140 141 [.ptr 0 0] ldp (one n) (fun p hp => by obtain ⟨x, _, rfl⟩ := hp; simp) (fun f hf' p hp => ldp_one (hf f hf') hp) (fun f hf' p hp => p140 f n (hf f hf') p hp)
    RI (fun x id => id = 0 ∨ x.2 = some id) (fun x p y => y.1 = x.1 ++ p ∧ p.length = 1) (fun _ _ => true) (fun _ _ _ _ => False) (fun x σ id hI hU => ?_) (fun x σ σ' hI hk hl => ?_) N (fun i x => x.1 = rch fs q i ∧ x.1.length ≤ i) (fun i x σ p w l hJ hi hp hI hw K' k1 k2 => ?_) ([], none) [(q : Int)] ⟨q, hq, rfl⟩ (by omega) hB ⟨rfl, by simp⟩ (fun i x y h hJ _ hy => ?_) _ ⟨rfl, rfl⟩ _ (fun i x h hJ hgo => by cases hgo) (fun i x hi hJ σ hI => ?_)
  · obtain ⟨l, o⟩ := x
    cases o with
    | none =>
      rcases hU with rfl | hU
      · exact (List.getElem?_eq_some_iff.1 hI.1).1
      · cases hU
    | some id' =>
      obtain ⟨ver, h1, h2, h3⟩ := hI
      rcases hU with rfl | hU
      · exact (List.getElem?_eq_some_iff.1 h1).1
      · simp only [Option.some.injEq] at hU; subst hU
        exact (List.getElem?_eq_some_iff.1 h2).1
  · obtain ⟨l, o⟩ := x
    have k0 := hk 0 (.inl rfl)
    cases o with
    | none => exact ⟨k0.trans hI.1, hI.2⟩
    | some id' =>
      obtain ⟨ver, h1, h2, h3⟩ := hI
      exact ⟨ver, k0.trans h1, (hk id' (.inr rfl)).trans h2, h3⟩
  · obtain ⟨l0, o⟩ := x
    obtain ⟨y, hy, rfl⟩ := hp
    have hwok : w.ok = true := hw.cs.2
    cases o with
    | none =>
      obtain ⟨h1, h2⟩ := hI
      have h2 : l0 = [] := h2
      subst h2
      have hlt := (List.getElem?_eq_some_iff.1 h1).1
      refine p141n σ y w h1 hwok K' (k1 rfl ([(y : Int)], some σ.length) _ ⟨rfl, rfl⟩ ⟨0, ?_, ?_, by omega⟩ (by simp) fun id hid hu => ⟨?_, ?_⟩)
      · exact List.getElem?_set_self (by simp)
      · show _ = some (AObj.arr 0 2 1 (ints [(y : Int)]))
        rw [List.getElem?_set_ne (by omega)]; simp
      · rw [List.getElem?_set_ne (fun e => hu (.inl e.symm)), List.getElem?_append_left hid]
      · rintro (rfl | h)
        · exact hu (.inl rfl)
        · simp only [Option.some.injEq] at h; omega
    | some id' =>
      obtain ⟨ver, h1, h2, h3⟩ := hI
      have hlt := (List.getElem?_eq_some_iff.1 h1).1
      have hlt2 := (List.getElem?_eq_some_iff.1 h2).1
      have hJl : l0.length ≤ i := hJ.2
      refine p141r σ y w l0 (by omega) id' ver h2 h3 h1 hwok K' (k1 rfl (l0 ++ [(y : Int)], some id') _ ⟨rfl, rfl⟩ ⟨ver + 1, ?_, ?_, h3⟩ (by simp) fun id hid hu => ⟨?_, ?_⟩)
      · show _ = some (AObj.box [.ref id' (ver + 1) 0 (l0 ++ [(y : Int)]).length])
        rw [List.length_append, List.length_singleton]
        exact List.getElem?_set_self (by simpa using hlt)
      · show _ = some (AObj.arr (ver + 1) 2 1 (ints (l0 ++ [(y : Int)])))
        rw [List.getElem?_set_ne (Ne.symm h3), List.getElem?_set_self hlt2]
      · rw [List.getElem?_set_ne (fun e => hu (.inl e.symm)), List.getElem?_set_ne (fun e => hu (.inr (by rw [e])))]
      · exact hu
  · obtain ⟨h1, h2⟩ := hJ
    refine ⟨?_, ?_⟩
    · show y.1 = rch fs q (i + 1)
      rw [rch_succ h, hy.1, h1]
    · show y.1.length ≤ i + 1
      rw [hy.1, List.length_append, hy.2]; omega
  · have hK' := hK i hi
    rw [← hJ.1] at hK'
    clear hK
    obtain ⟨l0, o⟩ := x
    cases o with
    | none =>
      obtain ⟨h1, h2⟩ := hI
      have h2 : l0 = [] := h2
      subst h2
      try simp only [OpK_eq, HKv, h1, take6, List.drop_zero, Int.cast_ofNat_Int, go_sem, ↓reduceIte, Nat.reduceEqDiff, Nat.reduceAdd, Nat.reduceMul, Nat.reduceLeDiff, Nat.reduceLT, Int.reduceLE, Int.reduceLT, reduceCtorEq]
      exact Kv.Fin.freeze .nils hK'
    | some id' =>
      obtain ⟨ver, h1, h2, h3⟩ := hI
      try simp only [OpK_eq, HKv, h1, take6, List.drop_zero, Int.cast_ofNat_Int, go_sem, ↓reduceIte, Nat.reduceEqDiff, Nat.reduceAdd, Nat.reduceMul, Nat.reduceLeDiff, Nat.reduceLT, Int.reduceLE, Int.reduceLT, reduceCtorEq]
      exact Kv.Fin.freeze (.refi h2) hK'
end Go.Proofs.Ytpepbomifjbgnaa
