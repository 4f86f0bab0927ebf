/- Several texts of this session as one, less what the claim does not need. -/
import Derived.Test.YtpfapiiinkkcgaaGreatCb
import Derived.Test.YtpfapiiinkkcgaaGreatZ11
import Derived.Test.YtpfapiiinkkcgaaGreatZ5
import Derived.Test.YtpfapiiinkkcgaaGreatZ7
import Derived.Test.YtpfapiiinkkcgaaGreatZ10
section
/- The draws of tables. -/
namespace Go.Proofs.YtpfapiiinkkcgaaGreat
open Go.Kv
set_option maxRecDepth 100000
/- spec.l08DrawOf -/
/- live [0, 1, 5, 26, 27, 28, 29] -/
def k161_b0 : KC := (.seq (.seq (.ops [⟨(some 9), none, .mv (.t 5)⟩, ⟨(some 10), none, .bin .lss (.t 9) (.c (.int .i64 12))⟩])
  (.cond (.t 10) .skip (.exit 0)))
  (.seq (.block 1 (.seq (.ops [⟨(some 13), none, .mv (.t 0)⟩, ⟨(some 14), none, .mv (.t 0)⟩, ⟨(some 15), none, .bsl false 2 1 [(.c (.int .i64 1)), (.c (.int .i64 2)), (.c (.int .i64 2)), (.c (.int .i64 3))]⟩, ⟨(some 16), none, .call (.c (.fn (.func 76) [] [])) [(.t 14), (.t 15)]⟩, ⟨(some 17), none, .call (.c (.fn (.func 151) [] [])) [(.t 13), (.t 16)]⟩, ⟨(some 6), none, .mv (.t 17)⟩])
  (.seq (.ops [⟨(some 19), none, .mv (.t 6)⟩, ⟨(some 20), none, .call (.c (.fn (.func 30) [] [])) [(.t 19)]⟩, ⟨(some 18), none, .mv (.t 20)⟩, ⟨(some 21), none, .extr 0 (.t 18)⟩, ⟨(some 22), none, .extr 1 (.t 18)⟩, ⟨(some 7), none, .mv (.t 21)⟩, ⟨(some 8), none, .mv (.t 22)⟩])
  (.seq (.ops [⟨(some 23), none, .mv (.t 8)⟩, ⟨(some 24), none, .bin .eql (.t 23) (.c (.int .i64 0))⟩, ⟨(some 25), none, .mv (.t 24)⟩, ⟨(some 26), some (25, true), .mv (.t 7)⟩, ⟨(some 27), some (25, true), .len false (.t 26)⟩, ⟨(some 28), some (25, true), .mv (.t 1)⟩, ⟨(some 29), some (25, true), .bin .leq (.t 27) (.t 28)⟩, ⟨(some 30), none, .pick (.t 25) (.t 29) (.c (.bool false))⟩])
  (.cond (.t 30) (.seq (.ops [⟨(some 31), none, .mv (.t 7)⟩, ⟨(some 4), none, .mv (.t 31)⟩])
  .ret) .skip)))))
  (.ops [⟨(some 11), none, .mv (.t 5)⟩, ⟨(some 12), none, .bin .add (.t 11) (.c (.int .i64 1))⟩, ⟨(some 5), none, .mv (.t 12)⟩])))
def k161 : KC := (.seq (.ops [⟨(some 4), none, .mv (.c (.nils))⟩])
  (.seq (.seq (.ops [⟨(some 5), none, .mv (.c (.int .i64 0))⟩])
  (.block 0 (.loop k161_b0)))
  (.seq (.ops [⟨(some 32), none, .bsl false 2 1 [(.c (.int .i64 0)), (.c (.int .i64 1))]⟩, ⟨(some 33), none, .bsl false 2 1 [(.c (.int .i64 1)), (.c (.int .i64 0))]⟩, ⟨(some 34), none, .bsl false 25 1 [(.t 32), (.t 33)]⟩, ⟨(some 4), none, .mv (.t 34)⟩])
  .ret)))
theorem e161 {args : List PV} {σ : Heap} {K : PV → Heap → Prop} (hl : args.length ≤ 35) (h : Wf σ → (∀ a ∈ args, PV.upto σ.length a) → vc (mkCfg Tryz.prog mixed [] 35 σ.length) k161 (FinK σ.length [.t 4] K) (argEnv 0 args) σ) : ACall Tryz.prog 161 args σ K :=
  ACall_enter (C := mkCfg Tryz.prog mixed [] 35 σ.length) (c := Tryz.f161.body.getD .skip) Tryz.func161 (by kernel_rfl) (by kernel_rfl) (by kernel_rfl) rfl hl (by kernel_rfl) (by kernel_rfl) h
/- spec.l08Draw -/
def k104 : KC := (.seq (.ops [⟨(some 4), none, .mv (.c (.nils))⟩])
  (.seq (.ops [⟨(some 7), none, .mv (.t 0)⟩, ⟨(some 8), none, .mv (.t 1)⟩, ⟨(some 9), none, .call (.c (.fn (.func 161) [] [])) [(.t 7), (.t 8)]⟩, ⟨(some 5), none, .mv (.t 9)⟩])
  (.seq (.seq (.ops [⟨(some 10), none, .mv (.t 0)⟩, ⟨(some 11), none, .call (.c (.fn (.func 124) [] [])) [(.t 10), (.c (.int .i64 12))]⟩])
  (.block 0 (.seq (.ops [⟨(some 13), none, .bin .eql (.t 11) (.c (.int .i64 0))⟩, ⟨(some 12), none, .mv (.t 13)⟩])
  (.cond (.t 12) (.seq (.ops [⟨(some 14), none, .mv (.t 5)⟩, ⟨(some 15), none, .mv (.t 0)⟩, ⟨(some 16), none, .mv (.t 5)⟩, ⟨(some 17), none, .len false (.t 16)⟩, ⟨(some 18), none, .call (.c (.fn (.func 124) [] [])) [(.t 15), (.t 17)]⟩, ⟨(some 19), none, .idxS 1 (.t 14) (.t 18)⟩, ⟨(some 20), none, .load false 1 (.t 19)⟩, ⟨(some 6), none, .mv (.t 20)⟩])
  (.ops [⟨(some 21), none, .mv (.t 6)⟩, ⟨(some 22), none, .mv (.t 0)⟩, ⟨(some 23), none, .mv (.t 5)⟩, ⟨(some 24), none, .len false (.t 23)⟩, ⟨(some 25), none, .call (.c (.fn (.func 124) [] [])) [(.t 22), (.t 24)]⟩, ⟨(some 26), none, .mv (.t 0)⟩, ⟨(some 27), none, .mv (.t 5)⟩, ⟨(some 28), none, .len false (.t 27)⟩, ⟨(some 29), none, .mv (.t 0)⟩, ⟨(some 30), none, .call (.c (.fn (.func 124) [] [])) [(.t 29), (.c (.int .i64 4))]⟩, ⟨(some 31), none, .bin .quo (.t 30) (.c (.int .i64 3))⟩, ⟨(some 32), none, .bin .add (.t 28) (.t 31)⟩, ⟨(some 33), none, .call (.c (.fn (.func 124) [] [])) [(.t 26), (.t 32)]⟩, ⟨(some 34), none, .idxS 1 (.t 21) (.t 25)⟩, ⟨none, none, .store 1 (.t 34) (.t 33)⟩])) (.seq (.ops [⟨(some 36), none, .bin .eql (.t 11) (.c (.int .i64 1))⟩, ⟨(some 35), none, .mv (.t 36)⟩])
  (.cond (.t 35) (.ops [⟨(some 37), none, .mv (.t 5)⟩, ⟨(some 38), none, .mv (.t 0)⟩, ⟨(some 39), none, .mv (.t 5)⟩, ⟨(some 40), none, .len false (.t 39)⟩, ⟨(some 41), none, .call (.c (.fn (.func 123) [] [])) [(.t 38), (.t 40)]⟩, ⟨(some 42), none, .call (.c (.fn (.func 162) [] [])) [(.t 37), (.t 41)]⟩, ⟨(some 5), none, .mv (.t 42)⟩]) (.seq (.ops [⟨(some 44), none, .bin .eql (.t 11) (.c (.int .i64 2))⟩, ⟨(some 43), none, .mv (.t 44)⟩])
  (.cond (.t 43) (.seq (.ops [⟨(some 45), none, .mv (.t 0)⟩, ⟨(some 46), none, .call (.c (.fn (.func 124) [] [])) [(.t 45), (.c (.int .i64 4))]⟩, ⟨(some 47), none, .bin .eql (.t 46) (.c (.int .i64 0))⟩])
  (.cond (.t 47) (.ops [⟨(some 48), none, .mv (.t 5)⟩, ⟨(some 49), none, .bsl false 2 1 [(.c (.int .i64 0))]⟩, ⟨(some 50), none, .bsl true 25 1 [(.t 49)]⟩, ⟨(some 51), none, .app (.t 48) (.t 50) 25 1⟩, ⟨(some 5), none, .mv (.t 51)⟩]) .skip)) .skip))))))))
  (.seq (.ops [⟨(some 52), none, .mv (.t 5)⟩, ⟨(some 4), none, .mv (.t 52)⟩])
  .ret))))
theorem e104 {args : List PV} {σ : Heap} {K : PV → Heap → Prop} (hl : args.length ≤ 53) (h : Wf σ → (∀ a ∈ args, PV.upto σ.length a) → vc (mkCfg Tryz.prog mixed [50] 53 σ.length) k104 (FinK σ.length [.t 4] K) (argEnv 0 args) σ) : ACall Tryz.prog 104 args σ K :=
  ACall_enter (C := mkCfg Tryz.prog mixed [50] 53 σ.length) (c := Tryz.f104.body.getD .skip) Tryz.func104 (by kernel_rfl) (by kernel_rfl) (by kernel_rfl) rfl hl (by kernel_rfl) (by kernel_rfl) h
/- spec.DrawIsMonoidTable -/
def k32 : KC := (.seq (.ops [⟨(some 2), none, .mv (.c (.nils))⟩])
  (.seq (.ops [⟨(some 3), none, .mv (.t 0)⟩, ⟨(some 4), none, .call (.c (.fn (.func 68) [] [])) [(.t 3)]⟩, ⟨(some 5), none, .call (.c (.fn (.func 104) [] [])) [(.t 4), (.c (.int .i64 40))]⟩, ⟨(some 2), none, .mv (.t 5)⟩])
  .ret))
theorem e32 {args : List PV} {σ : Heap} {K : PV → Heap → Prop} (hl : args.length ≤ 6) (h : Wf σ → (∀ a ∈ args, PV.upto σ.length a) → vc (mkCfg Tryz.prog mixed [] 6 σ.length) k32 (FinK σ.length [.t 2] K) (argEnv 0 args) σ) : ACall Tryz.prog 32 args σ K :=
  ACall_enter (C := mkCfg Tryz.prog mixed [] 6 σ.length) (c := Tryz.f32.body.getD .skip) Tryz.func32 (by kernel_rfl) (by kernel_rfl) (by kernel_rfl) rfl hl (by kernel_rfl) (by kernel_rfl) h
/- spec.DrawMapsOfTable -/
def k41 : KC := (.seq (.ops [⟨(some 2), none, .mv (.c (.nils))⟩])
  (.seq (.ops [⟨(some 4), none, .mv (.t 0)⟩, ⟨(some 5), none, .call (.c (.fn (.func 68) [] [])) [(.t 4)]⟩, ⟨(some 3), none, .mv (.t 5)⟩])
  (.seq (.ops [⟨(some 6), none, .mv (.t 3)⟩, ⟨(some 7), none, .mv (.t 3)⟩, ⟨(some 8), none, .bsl false 2 1 [(.c (.int .i64 5)), (.c (.int .i64 5)), (.c (.int .i64 5)), (.c (.int .i64 40))]⟩, ⟨(some 9), none, .call (.c (.fn (.func 76) [] [])) [(.t 7), (.t 8)]⟩, ⟨(some 10), none, .call (.c (.fn (.func 104) [] [])) [(.t 6), (.t 9)]⟩, ⟨(some 2), none, .mv (.t 10)⟩])
  .ret)))
theorem e41 {args : List PV} {σ : Heap} {K : PV → Heap → Prop} (hl : args.length ≤ 11) (h : Wf σ → (∀ a ∈ args, PV.upto σ.length a) → vc (mkCfg Tryz.prog mixed [] 11 σ.length) k41 (FinK σ.length [.t 2] K) (argEnv 0 args) σ) : ACall Tryz.prog 41 args σ K :=
  ACall_enter (C := mkCfg Tryz.prog mixed [] 11 σ.length) (c := Tryz.f41.body.getD .skip) Tryz.func41 (by kernel_rfl) (by kernel_rfl) (by kernel_rfl) rfl hl (by kernel_rfl) (by kernel_rfl) h
/- spec.l06Draw -/
/- live [0, 3, 4, 29, 30] -/
def k99_b0 : KC := (.seq (.seq (.ops [⟨(some 17), none, .mv (.t 4)⟩, ⟨(some 18), none, .bin .lss (.t 17) (.c (.int .i64 8))⟩])
  (.cond (.t 18) .skip (.exit 0)))
  (.seq (.block 1 (.seq (.seq (.ops [⟨(some 22), none, .mv (.t 3)⟩, ⟨(some 23), none, .call (.c (.fn (.func 152) [] [])) [(.t 22)]⟩, ⟨(some 21), none, .mv (.t 23)⟩, ⟨(some 24), none, .extr 0 (.t 21)⟩, ⟨(some 25), none, .extr 1 (.t 21)⟩, ⟨(some 5), none, .mv (.t 24)⟩, ⟨(some 6), none, .mv (.t 25)⟩])
  (.seq (.ops [⟨(some 26), none, .mv (.t 6)⟩, ⟨(some 27), none, .bin .eql (.t 26) (.c (.int .i64 0))⟩, ⟨(some 28), none, .mv (.t 27)⟩, ⟨(some 29), some (28, true), .mv (.t 5)⟩, ⟨(some 30), some (28, true), .bin .leq (.t 29) (.c (.int .i64 14))⟩, ⟨(some 31), none, .pick (.t 28) (.t 30) (.c (.bool false))⟩])
  (.cond (.t 31) (.exit 0) .skip)))
  (.ops [⟨(some 32), none, .mv (.t 0)⟩, ⟨(some 33), none, .mv (.t 0)⟩, ⟨(some 34), none, .bsl false 2 1 [(.c (.int .i64 2)), (.c (.int .i64 2)), (.c (.int .i64 3))]⟩, ⟨(some 35), none, .call (.c (.fn (.func 76) [] [])) [(.t 33), (.t 34)]⟩, ⟨(some 36), none, .call (.c (.fn (.func 151) [] [])) [(.t 32), (.t 35)]⟩, ⟨(some 3), none, .mv (.t 36)⟩])))
  (.ops [⟨(some 19), none, .mv (.t 4)⟩, ⟨(some 20), none, .bin .add (.t 19) (.c (.int .i64 1))⟩, ⟨(some 4), none, .mv (.t 20)⟩])))
def k99 : KC := (.seq (.ops [⟨(some 2), none, .mv (.c (.nils))⟩])
  (.seq (.seq (.ops [⟨(some 7), none, .mv (.t 0)⟩, ⟨(some 8), none, .call (.c (.fn (.func 124) [] [])) [(.t 7), (.c (.int .i64 16))]⟩, ⟨(some 9), none, .bin .eql (.t 8) (.c (.int .i64 0))⟩])
  (.cond (.t 9) (.seq (.ops [⟨(some 10), none, .mv (.t 0)⟩, ⟨(some 11), none, .call (.c (.fn (.func 150) [] [])) [(.t 10)]⟩, ⟨(some 2), none, .mv (.t 11)⟩])
  .ret) .skip))
  (.seq (.ops [⟨(some 12), none, .mv (.t 0)⟩, ⟨(some 13), none, .mv (.t 0)⟩, ⟨(some 14), none, .bsl false 2 1 [(.c (.int .i64 1)), (.c (.int .i64 2)), (.c (.int .i64 2)), (.c (.int .i64 3))]⟩, ⟨(some 15), none, .call (.c (.fn (.func 76) [] [])) [(.t 13), (.t 14)]⟩, ⟨(some 16), none, .call (.c (.fn (.func 151) [] [])) [(.t 12), (.t 15)]⟩, ⟨(some 3), none, .mv (.t 16)⟩])
  (.seq (.seq (.ops [⟨(some 4), none, .mv (.c (.int .i64 0))⟩])
  (.block 0 (.loop k99_b0)))
  (.seq (.ops [⟨(some 37), none, .mv (.t 3)⟩, ⟨(some 2), none, .mv (.t 37)⟩])
  .ret)))))
theorem e99 {args : List PV} {σ : Heap} {K : PV → Heap → Prop} (hl : args.length ≤ 38) (h : Wf σ → (∀ a ∈ args, PV.upto σ.length a) → vc (mkCfg Tryz.prog mixed [] 38 σ.length) k99 (FinK σ.length [.t 2] K) (argEnv 0 args) σ) : ACall Tryz.prog 99 args σ K :=
  ACall_enter (C := mkCfg Tryz.prog mixed [] 38 σ.length) (c := Tryz.f99.body.getD .skip) Tryz.func99 (by kernel_rfl) (by kernel_rfl) (by kernel_rfl) rfl hl (by kernel_rfl) (by kernel_rfl) h
/- spec.DrawTableOf -/
def k28 : KC := (.seq (.ops [⟨(some 2), none, .mv (.c (.nils))⟩])
  (.seq (.ops [⟨(some 3), none, .mv (.t 0)⟩, ⟨(some 4), none, .call (.c (.fn (.func 68) [] [])) [(.t 3)]⟩, ⟨(some 5), none, .call (.c (.fn (.func 99) [] [])) [(.t 4)]⟩, ⟨(some 2), none, .mv (.t 5)⟩])
  .ret))
theorem e28 {args : List PV} {σ : Heap} {K : PV → Heap → Prop} (hl : args.length ≤ 6) (h : Wf σ → (∀ a ∈ args, PV.upto σ.length a) → vc (mkCfg Tryz.prog mixed [] 6 σ.length) k28 (FinK σ.length [.t 2] K) (argEnv 0 args) σ) : ACall Tryz.prog 28 args σ K :=
  ACall_enter (C := mkCfg Tryz.prog mixed [] 6 σ.length) (c := Tryz.f28.body.getD .skip) Tryz.func28 (by kernel_rfl) (by kernel_rfl) (by kernel_rfl) rfl hl (by kernel_rfl) (by kernel_rfl) h
end Go.Proofs.YtpfapiiinkkcgaaGreat
namespace Go.Proofs.YtpfapiiinkkcgaaGreat
open Go.Kv
set_option linter.unusedVariables false
set_option linter.unusedSimpArgs false
attribute [local irreducible] ACall PCall KL
theorem isTab_sq {t : List (List Int)} (h : isTab t = true) : (1 ≤ t.length ∧ t.length ≤ 40) ∧ Sq0 t.length t ∧ In0 t.length t := by
  simp only [isTab, Bool.and_eq_true, decide_eq_true_eq, List.all_eq_true] at h
  refine ⟨h.1, ⟨rfl, fun r hr => ?_⟩, fun r hr x hx => ?_⟩
  · have := h.2 r hr
    simp only [rowOk, Bool.and_eq_true, decide_eq_true_eq, List.all_eq_true] at this
    exact this.1
  · have := h.2 r hr
    simp only [rowOk, Bool.and_eq_true, decide_eq_true_eq, List.all_eq_true] at this
    have := this.2 x hx
    omega
/-- A table of one's own, beside the source. -/
structure TT (σ τ : Heap) (b : Nat) (l : List Int) (id ver : Nat) (rs : List Rw) (t : List (List Int)) : Prop where
  src : Src τ b l
  kept : Kept σ τ b
  tab : TabG 25 2 τ id ver rs t
  ge : σ.length ≤ id ∧ ∀ r ∈ rs, r.nil = false → σ.length ≤ r.id
  lt : b < σ.length
theorem TT.step {σ τ τ' : Heap} {b : Nat} {l : List Int} {id ver : Nat} {rs : List Rw} {t : List (List Int)} (h : TT σ τ b l id ver rs t) (hS : Src τ' b l) (hK : Kept τ τ' b) : TT σ τ' b l id ver rs t := by
  have h3 := h.lt
  have h4 := h.tab.lt
  refine ⟨hS, h.kept.trans hK, h.tab.keep (hK.2 _ h4.1 (by have := h.ge.1; omega)) (fun r hr hn => hK.2 _ (h4.2 r hr hn) (by have := h.ge.2 r hr hn; omega)), h.ge, h.lt⟩
theorem own_tt {σ τ τ' : Heap} {b : Nat} {l : List Int} {x : PV} {t : List (List Int)} (hS : Src τ b l) (hK : Kept σ τ b) (hb : b < σ.length) (h : OwnT 25 2 τ' τ.length τ'.length x t) (hp : ∀ j, j < τ.length → τ'[j]? = τ[j]?) (hl : τ.length ≤ τ'.length) (h1 : 1 ≤ t.length) : ∃ id ver rs, x = .ref id ver 0 t.length ∧ TT σ τ' b l id ver rs t := by
  have hk := hK.1
  cases h with
  | nil => simp at h1
  | tab id ver rs _ hG g1 g2 =>
    exact ⟨id, ver, rs, rfl, hS.keep (hp b (by omega)), hK.trans ⟨hl, fun j hj _ => hp j hj⟩, hG, ⟨by omega, fun r hr hn => by have := (g2 r hr hn).1; omega⟩, hb⟩
/-- The call of TableOf at any heap. -/
theorem tableL {σ τ : Heap} {b : Nat} {l : List Int} (hS : Src τ b l) (hK0 : Kept σ τ b) (hb : b < σ.length) (t : List (List Int)) (h7 : t.length ≤ 1000) (h6 : ∀ r ∈ t, r.length = 6) {K : PV → Heap → Prop}
    (hN : ∀ c : Int, c ≠ 0 → K (.tup [.nils, .int .i64 c]) τ) (hY : ∀ id ver rs t' τ', TT σ τ' b l id ver rs t' → isTab t' = true → K (.tup [.ref id ver 0 t'.length, .int .i64 0]) τ') : ACall Tryz.prog 30 [.list (aggs t)] τ K := by
  refine ACall.lend (p30o t h7 h6) (.cons Imm.still (.nil _)) fun v s hv => ?_
  rcases hv with ⟨c, hc, rfl, rfl⟩ | ⟨x, n, S, rfl, hT, hF, hM, h40⟩
  · refine ⟨⟨free_tup fun c hc => ?_, fun o ho => by cases ho⟩, ?_⟩
    · simp only [List.mem_cons, List.not_mem_nil, or_false] at hc
      rcases hc with rfl | rfl
      · exact Plain.nils.fr
      · exact (Plain.int _ _).fr
    · simpa only [ren_tup, ren_nils, ren_int, List.map_cons, List.map_nil, List.append_nil] using hN c hc
  · refine ⟨⟨free_tup fun c hc => ?_, hF⟩, ?_⟩
    · simp only [List.mem_cons, List.not_mem_nil, or_false] at hc
      rcases hc with rfl | rfl
      · exact hT.up
      · exact (Plain.int _ _).fr
    · have hI := hM.isTab h40
      have h1 := (isTab_sq hI).1.1
      have hO : OwnT 25 2 s 0 s.length x (tabM n S) := by
        generalize tabM n S = T at hT
        cases hT with
        | nil => exact .nil
        | tab id ver rs _ h => exact .tab id ver rs _ h ⟨Nat.zero_le _, h.lt.1⟩ fun r hr hn => ⟨Nat.zero_le _, h.lt.2 r hr hn⟩
      have h2 := hO.shift τ
      have e : (τ ++ s.map (AObj.ren (Kv.sh τ.length))).length = s.length + τ.length := by simp; omega
      rw [Nat.zero_add, ← e] at h2
      obtain ⟨id, ver, rs, e2, hTT⟩ := own_tt hS hK0 hb h2 (fun j hj => List.getElem?_append_left hj) (by simp) h1
      have := hY id ver rs _ _ hTT hI
      simpa only [ren_tup, ren_int, List.map_cons, List.map_nil, e2] using this
theorem p161 {l : List Int} (hl : Byt l) {σ : Heap} {b : Nat} (hS : Src σ b l) (most : Int) {K : PV → Heap → Prop}
    (hK : ∀ id ver rs t τ, TT σ τ b l id ver rs t → isTab t = true → K (.ref id ver 0 t.length) τ) : ACall Tryz.prog 161 [.ptr b 0, .int .i64 most] σ K := by
  have hlt := hS.lt
  refine e161 (by simp) fun _ _ => ?_
  simp only [k161, argEnv, take6, List.drop_zero, Int.cast_ofNat_Int, go_sem, ↓reduceIte, Nat.reduceEqDiff, Nat.reduceAdd, Nat.reduceMul, Nat.reduceLeDiff, Nat.reduceLT, Int.reduceLE, Int.reduceLT, reduceCtorEq]
  refine KL_ind k161_b0.eq_1 (fun y : Nat × Heap × PV × PV × PV × PV => [(0, .ptr b 0), (1, .int .i64 most), (5, .int .i64 y.1), (26, y.2.2.1), (27, y.2.2.2.1), (28, y.2.2.2.2.1), (29, y.2.2.2.2.2)]) (fun y => y.2.1) (fun y => y.1 ≤ 12 ∧ Src y.2.1 b l ∧ Kept σ y.2.1 b) (fun y => 12 - y.1) [0, 1, 5, 26, 27, 28, 29] (0, σ, .undef, .undef, .undef, .undef) (by simp [keep]) rfl ⟨Nat.zero_le _, hS, Kept.refl _ _⟩ fun ⟨k, τ, v1, v2, v3, v4⟩ ⟨hk, hS1, hK1⟩ ih => ?_
  simp only at hk hS1 hK1
  try simp only [OpK_eq, HKv, take6, List.drop_zero, Int.cast_ofNat_Int, go_sem, ↓reduceIte, Nat.reduceEqDiff, Nat.reduceAdd, Nat.reduceMul, Nat.reduceLeDiff, Nat.reduceLT, Int.reduceLE, Int.reduceLT, reduceCtorEq]
  refine ⟨fun g1 => ?_, fun g1 => ?_⟩
  · refine p76 hl (hS1.app _) [1, 2, 2, 3] (by simp) (id := τ.length) (ver := 0) (e := 2) (by simp [ints]) (by have := hS1.lt; omega) 4 rfl fun r ρ h2 h4 h5 h6 => ?_
    obtain ⟨n, rfl, hn1, hn5⟩ : ∃ n : Nat, r = n ∧ 1 ≤ n ∧ n ≤ 5 := by
      simp only [List.mem_cons, List.not_mem_nil, or_false] at h2
      exact ⟨r.toNat, by omega, by omega, by omega⟩
    have hK2 := (hK1.trans (Kept.app _ _ _)).trans h5
    clear h2 h5 h6
    try simp only [OpK_eq, HKv, take6, List.drop_zero, Int.cast_ofNat_Int, go_sem, ↓reduceIte, Nat.reduceEqDiff, Nat.reduceAdd, Nat.reduceMul, Nat.reduceLeDiff, Nat.reduceLT, Int.reduceLE, Int.reduceLT, reduceCtorEq]
    refine p151 hl h4 n hn1 hn5 fun t ρ2 q1 q2 q3 q4 q5 => ?_
    have hK3 := hK2.trans q5
    try simp only [OpK_eq, HKv, take6, List.drop_zero, Int.cast_ofNat_Int, go_sem, ↓reduceIte, Nat.reduceEqDiff, Nat.reduceAdd, Nat.reduceMul, Nat.reduceLeDiff, Nat.reduceLT, Int.reduceLE, Int.reduceLT, reduceCtorEq]
    refine tableL (σ := σ) q4 hK3 hlt t (by omega) (fun r hr => (q3 r hr).1) (fun c hc => ?_) (fun id ver rs t' τ' hT hI => ?_)
    · try simp only [OpK_eq, HKv, take6, List.drop_zero, Int.cast_ofNat_Int, go_sem, ↓reduceIte, Nat.reduceEqDiff, Nat.reduceAdd, Nat.reduceMul, Nat.reduceLeDiff, Nat.reduceLT, Int.reduceLE, Int.reduceLT, reduceCtorEq]
      refine ⟨fun h => absurd h hc, fun _ => ⟨by omega, ih (k + 1, ρ2, _, _, _, _) ⟨by show k + 1 ≤ 12; omega, q4, hK3⟩ (by show 12 - (k + 1) < 12 - k; omega) _ _ (by simp [keep]; exact ⟨rfl, rfl, rfl, rfl⟩) rfl⟩⟩
    · obtain ⟨junk, ho⟩ := hT.tab.out
      have hpl := pvs_length hT.tab.len
      try simp only [OpK_eq, HKv, ho, take6, List.drop_zero, Int.cast_ofNat_Int, go_sem, ↓reduceIte, Nat.reduceEqDiff, Nat.reduceAdd, Nat.reduceMul, Nat.reduceLeDiff, Nat.reduceLT, Int.reduceLE, Int.reduceLT, reduceCtorEq]
      refine ⟨fun _ => Kv.Fin.now (hK id ver rs t' τ' hT hI), fun _ => ⟨by omega, ih (k + 1, τ', _, _, _, _) ⟨by show k + 1 ≤ 12; omega, hT.src, hT.kept⟩ (by show 12 - (k + 1) < 12 - k; omega) _ _ (by simp [keep]; exact ⟨rfl, rfl, rfl, rfl⟩) rfl⟩⟩
  · refine Kv.Fin.now (hK (τ.length + 2) 0 [⟨false, τ.length, 0, [], []⟩, ⟨false, τ.length + 1, 0, [], []⟩] [[0, 1], [1, 0]] _ ⟨(hS1.app _).app _ |>.app _, ((hK1.trans (Kept.app _ _ _)).trans (Kept.app _ _ _)).trans (Kept.app _ _ _), ?_, ⟨by have := hK1.1; omega, ?_⟩, hlt⟩ (by decide))
    · have hk1 := hK1.1
      have e0 : (τ ++ [AObj.arr 0 2 1 [PV.int .i64 0, PV.int .i64 1]] ++ [AObj.arr 0 2 1 [PV.int .i64 1, PV.int .i64 0]] ++ [AObj.arr 0 25 1 [PV.ref τ.length 0 0 2, PV.ref (τ.length + 1) 0 0 2]]) = τ ++ [AObj.arr 0 2 1 [PV.int .i64 0, PV.int .i64 1], AObj.arr 0 2 1 [PV.int .i64 1, PV.int .i64 0], AObj.arr 0 25 1 [PV.ref τ.length 0 0 2, PV.ref (τ.length + 1) 0 0 2]] := by simp
      rw [e0]
      have hg : ∀ (j : Nat) (X : Heap), (τ ++ X)[τ.length + j]? = X[j]? := fun j X => by rw [List.getElem?_append_right (by omega)]; congr 1; omega
      refine ⟨⟨[], by rw [hg]; rfl⟩, rfl, fun i r m hr hm => ?_, fun i j r q hr hq _ _ he => ?_, fun r hr _ => ?_⟩
      · rcases i with _ | _ | i
        · cases hr; cases hm
          exact ⟨fun h => (by cases h), fun _ => (hg 0 _).trans rfl⟩
        · cases hr; cases hm
          exact ⟨fun h => (by cases h), fun _ => (hg 1 _).trans rfl⟩
        · simp at hr
      · rcases i with _ | _ | i <;> rcases j with _ | _ | j <;> first | rfl | (simp at hr; done) | (simp at hq; done) | (cases hr; cases hq; simp at he)
      · simp only [List.mem_cons, List.not_mem_nil, or_false] at hr
        rcases hr with rfl | rfl <;> simp
    · intro r hr _
      have hk1 := hK1.1
      simp only [List.mem_cons, List.not_mem_nil, or_false] at hr
      rcases hr with rfl | rfl
      · exact hk1
      · show σ.length ≤ τ.length + 1; omega
theorem tabG_push {e2 e1 : TypeId} {σ : Heap} {id ver : Nat} {rs : List Rw} {t : List (List Int)} (h : TabG e2 e1 σ id ver rs t) {junk : List PV} (l : List Int) :
    TabG e2 e1 ((σ ++ [AObj.arr 0 e1 1 (ints l)]).set id (AObj.arr (ver + 1) e2 1 (List.take t.length (pvs rs t ++ junk) ++ [PV.ref σ.length 0 0 l.length]))) id (ver + 1) (rs ++ [⟨false, σ.length, 0, [], []⟩]) (t ++ [l]) := by
  have hpl := pvs_length h.len
  have hlt := h.lt
  have htk : (pvs rs t ++ junk).take t.length ++ [PV.ref σ.length 0 0 l.length] = pvs (rs ++ [⟨false, σ.length, 0, [], []⟩]) (t ++ [l]) := by
    rw [pvs_snoc h.len, ← hpl, List.take_left]; rfl
  rw [htk]
  have hid : id < (σ ++ [AObj.arr 0 e1 1 (ints l)]).length := by simp; omega
  have hlast : ∀ (k : Nat) (x : Rw), (rs ++ [(⟨false, σ.length, 0, [], []⟩ : Rw)])[k]? = some x → (k < rs.length ∧ rs[k]? = some x) ∨ (k = rs.length ∧ x = ⟨false, σ.length, 0, [], []⟩) := fun k x hx => by
    rw [List.getElem?_append] at hx
    split at hx
    · rename_i hk; exact .inl ⟨hk, hx⟩
    · have h5 := (List.getElem?_eq_some_iff.1 hx).1
      have h4 := List.mem_of_getElem? hx
      simp at h4 h5
      exact .inr ⟨by omega, h4⟩
  refine ⟨⟨[], by rw [List.getElem?_set_self hid, List.append_nil]⟩, by simp [h.len], fun i q m hq hm => ?_, fun i j q p hq hp h1 h2 h3 => ?_, fun q hq hqn => ?_⟩
  · rcases hlast i q hq with ⟨hi, hq⟩ | ⟨hi, rfl⟩
    · rw [List.getElem?_append_left (by rw [← h.len]; exact hi)] at hm
      exact ((h.append _).row i q m hq hm).keep fun hqn => List.getElem?_set_ne (Ne.symm (h.ni q (List.mem_of_getElem? hq) hqn))
    · subst hi
      rw [h.len, List.getElem?_append_right (Nat.le_refl _), Nat.sub_self] at hm
      cases hm
      refine ⟨fun h => (by cases h), fun _ => ?_⟩
      rw [List.getElem?_set_ne (by show id ≠ σ.length; omega)]
      simp
  · rcases hlast i q hq with ⟨hi, hq⟩ | ⟨hi, rfl⟩ <;> rcases hlast j p hp with ⟨hj, hp⟩ | ⟨hj, rfl⟩
    · exact h.nd i j q p hq hp h1 h2 h3
    · have := hlt.2 q (List.mem_of_getElem? hq) h1
      simp only at h3; omega
    · have := hlt.2 p (List.mem_of_getElem? hp) h2
      simp only at h3; omega
    · omega
  · rcases List.mem_append.1 hq with hq | hq
    · exact h.ni q hq hqn
    · simp only [List.mem_singleton] at hq; subst hq
      simp only; omega
theorem next0 {l : List Int} (hl : Byt l) {σ ρ : Heap} {b id ver : Nat} {rs : List Rw} {t : List (List Int)} (h : TT σ ρ b l id ver rs t) (n : Int) {K : PV → Heap → Prop} (hK : ∀ (r : Int) ρ', 0 ≤ r → (1 ≤ n → r < n) → TT σ ρ' b l id ver rs t → K (.int .i64 r) ρ') : ACall Tryz.prog 124 [.ptr b 0, .int .i64 n] ρ K :=
  p124 hl h.src n fun r ρ' h1 h2 h3 h4 _ => hK r ρ' h1 h2 (h.step h3 h4)
theorem p104 {l : List Int} (hl : Byt l) {σ : Heap} {b : Nat} (hS : Src σ b l) (most : Int) {K : PV → Heap → Prop}
    (hK : ∀ id ver rs t τ, TT σ τ b l id ver rs t → (1 ≤ t.length ∧ t.length ≤ 41 ∧ ∀ r ∈ t, r.length ≤ 40) → K (.ref id ver 0 t.length) τ) : ACall Tryz.prog 104 [.ptr b 0, .int .i64 most] σ K := by
  have hlt := hS.lt
  refine e104 (by simp) fun _ _ => ?_
  simp only [k104, argEnv, take6, List.drop_zero, Int.cast_ofNat_Int, go_sem, ↓reduceIte, Nat.reduceEqDiff, Nat.reduceAdd, Nat.reduceMul, Nat.reduceLeDiff, Nat.reduceLT, Int.reduceLE, Int.reduceLT, reduceCtorEq]
  try simp only [OpK_eq, HKv, take6, List.drop_zero, Int.cast_ofNat_Int, go_sem, ↓reduceIte, Nat.reduceEqDiff, Nat.reduceAdd, Nat.reduceMul, Nat.reduceLeDiff, Nat.reduceLT, Int.reduceLE, Int.reduceLT, reduceCtorEq]
  refine p161 hl hS most fun id ver rs t τ hT hI => ?_
  obtain ⟨⟨t1, t40⟩, hsq, hin⟩ := isTab_sq hI
  have hfin : ∀ τ, TT σ τ b l id ver rs t → K (.ref id ver 0 t.length) τ := fun τ h => hK _ _ _ _ _ h ⟨t1, by omega, fun r hr => by rw [hsq.2 r hr]; exact t40⟩
  try simp only [OpK_eq, HKv, take6, List.drop_zero, Int.cast_ofNat_Int, go_sem, ↓reduceIte, Nat.reduceEqDiff, Nat.reduceAdd, Nat.reduceMul, Nat.reduceLeDiff, Nat.reduceLT, Int.reduceLE, Int.reduceLT, reduceCtorEq]
  refine next0 hl hT _ fun r0 ρ q0 q1 hT1 => ?_
  obtain ⟨junk, ho⟩ := hT1.tab.out
  have hpl := pvs_length hT1.tab.len
  have hol : t.length ≤ (pvs rs t ++ junk).length := by rw [List.length_append, hpl]; omega
  try simp only [OpK_eq, HKv, ho, hol, take6, List.drop_zero, Int.cast_ofNat_Int, go_sem, ↓reduceIte, Nat.reduceEqDiff, Nat.reduceAdd, Nat.reduceMul, Nat.reduceLeDiff, Nat.reduceLT, Int.reduceLE, Int.reduceLT, reduceCtorEq]
  refine ⟨fun _ => ?_, fun _ => ⟨fun _ => ?_, fun _ => ⟨fun _ => ?_, fun _ => ?_⟩⟩⟩
  · refine next0 hl hT1 _ fun r1 ρ1 q2 q3 hT2 => ?_
    have q3 := q3 (by omega)
    obtain ⟨i, rfl⟩ : ∃ i : Nat, r1 = i := ⟨r1.toNat, by omega⟩
    obtain ⟨r, k1, k2, ⟨junk2, k3, k4⟩, k5⟩ := tabG_at hT2.tab (i := i) (by omega) (by rw [hsq.2 _ (getD_memR (by omega))]; exact t1)
    have k6 : (t.getD i []).length = t.length := hsq.2 _ (getD_memR (by omega))
    have k7 := pvs_length hT2.tab.len
    have k8 : t.length ≤ (pvs rs t ++ junk2).length := by rw [List.length_append, k7]; omega
    try simp only [OpK_eq, HKv, k3, k4, k6, k8, take6, List.drop_zero, Int.cast_ofNat_Int, go_sem, ↓reduceIte, Nat.reduceEqDiff, Nat.reduceAdd, Nat.reduceMul, Nat.reduceLeDiff, Nat.reduceLT, Int.reduceLE, Int.reduceLT, reduceCtorEq]
    refine ⟨⟨by omega, by omega⟩, by omega, next0 hl hT2 _ fun r2 ρ2 m2 m3 hT3 => ?_⟩
    have m3 := m3 (by omega)
    obtain ⟨j, rfl⟩ : ∃ j : Nat, r2 = j := ⟨r2.toNat, by omega⟩
    obtain ⟨q, k1', k2', ⟨junk3, k3', k4'⟩, k5'⟩ := tabG_at hT3.tab (i := i) (by omega) (by rw [k6]; exact t1)
    rw [k1] at k1'; cases k1'
    have k7' := pvs_length hT3.tab.len
    have k8' : t.length ≤ (pvs rs t ++ junk3).length := by rw [List.length_append, k7']; omega
    try simp only [OpK_eq, HKv, k3', k6, k8', take6, List.drop_zero, Int.cast_ofNat_Int, go_sem, ↓reduceIte, Nat.reduceEqDiff, Nat.reduceAdd, Nat.reduceMul, Nat.reduceLeDiff, Nat.reduceLT, Int.reduceLE, Int.reduceLT, reduceCtorEq]
    refine next0 hl hT3 _ fun r3 ρ3 n2 n3 hT4 => ?_
    have n3 := n3 (by omega)
    have n4 : (0 : Int) ≤ r3 / 3 ∧ r3 / 3 ≤ 1 := by omega
    try simp only [OpK_eq, HKv, take6, List.drop_zero, Int.cast_ofNat_Int, go_sem, ↓reduceIte, Nat.reduceEqDiff, Nat.reduceAdd, Nat.reduceMul, Nat.reduceLeDiff, Nat.reduceLT, Int.reduceLE, Int.reduceLT, reduceCtorEq]
    refine ⟨n2, ⟨by omega, by omega⟩, ⟨by omega, by omega⟩, next0 hl hT4 _ fun r4 ρ4 n5 n6 hT5 => ?_⟩
    obtain ⟨q, k1', k2', ⟨junk4, k3', k4'⟩, k5'⟩ := tabG_at hT5.tab (i := i) (by omega) (by rw [k6]; exact t1)
    rw [k1] at k1'; cases k1'
    try simp only [OpK_eq, HKv, k5', k6, take6, List.drop_zero, Int.cast_ofNat_Int, go_sem, ↓reduceIte, Nat.reduceEqDiff, Nat.reduceAdd, Nat.reduceMul, Nat.reduceLeDiff, Nat.reduceLT, Int.reduceLE, Int.reduceLT, reduceCtorEq]
    have htb : t[i]? = some (t.getD i []) := by rw [List.getD_eq_getElem?_getD, List.getElem?_eq_getElem (by omega)]; rfl
    have hset := hT5.tab.set k1 k2 htb (m := (t.getD i []).set j r4) (by simp)
    rw [← set_mid (by omega)] at hset
    have hge := hT5.ge.2 r (List.mem_of_getElem? k1) k2
    have e1 : t.length = (t.set i ((t.getD i []).set j r4)).length := by simp
    refine ⟨⟨by omega, by omega⟩, by omega, fun _ => ?_⟩
    rw [e1]
    refine Kv.Fin.now (hK _ _ _ _ _ ⟨hT5.src.set2 (by omega) _, hT5.kept.set2 hge _, hset, hT5.ge, hlt⟩ ⟨by rw [← e1]; exact t1, by rw [← e1]; omega, fun x hx => ?_⟩)
    rcases List.mem_or_eq_of_mem_set hx with hx | rfl
    · rw [hsq.2 x hx]; exact t40
    · rw [List.length_set, k6]; exact t40
  · refine p123S hl hT1.src t.length (by omega) fun L id2 ver2 ρ1 p1 p2 p3 p4 p5 p6 => ?_
    have hT2 := hT1.step p3 p4
    try simp only [OpK_eq, HKv, take6, List.drop_zero, Int.cast_ofNat_Int, go_sem, ↓reduceIte, Nat.reduceEqDiff, Nat.reduceAdd, Nat.reduceMul, Nat.reduceLeDiff, Nat.reduceLT, Int.reduceLE, Int.reduceLT, reduceCtorEq]
    refine ACall.lend (p162 t t.length t1 (by omega) hsq hin L p1 p2.1) (.cons (hT2.tab.imm rfl) (.cons (Imm.refn p6 p1.symm) (.nil _))) fun v s ⟨t', s1, s2, s3⟩ => ⟨⟨s2.up, s3⟩, ?_⟩
    have h1' := s1.1
    have hO : OwnT 25 2 s 0 s.length v t' := by
      cases s2 with
      | nil => exact .nil
      | tab id ver rs _ h => exact .tab id ver rs _ h ⟨Nat.zero_le _, h.lt.1⟩ fun r hr hn => ⟨Nat.zero_le _, h.lt.2 r hr hn⟩
    have h2 := hO.shift ρ1
    have e : (ρ1 ++ s.map (AObj.ren (Kv.sh ρ1.length))).length = s.length + ρ1.length := by simp; omega
    rw [Nat.zero_add, ← e] at h2
    obtain ⟨id3, ver3, rs3, e2, hTT⟩ := own_tt hT2.src hT2.kept hlt h2 (fun j hj => List.getElem?_append_left hj) (by simp) (by omega)
    rw [e2]
    try simp only [OpK_eq, HKv, take6, List.drop_zero, Int.cast_ofNat_Int, go_sem, ↓reduceIte, Nat.reduceEqDiff, Nat.reduceAdd, Nat.reduceMul, Nat.reduceLeDiff, Nat.reduceLT, Int.reduceLE, Int.reduceLT, reduceCtorEq]
    exact Kv.Fin.now (hK _ _ _ _ _ hTT ⟨by omega, by omega, fun r hr => by rw [s1.2 r hr]; exact t40⟩)
  · refine next0 hl hT1 _ fun r1 ρ1 q2 q3 hT2 => ?_
    obtain ⟨junk2, k3⟩ := hT2.tab.out
    have k7 := pvs_length hT2.tab.len
    have k8 : t.length ≤ (pvs rs t ++ junk2).length := by rw [List.length_append, k7]; omega
    have k9 : ∀ X, (ρ1 ++ X)[id]? = some (.arr ver 25 1 (pvs rs t ++ junk2)) := fun X => (List.getElem?_append_left hT2.tab.lt.1).trans k3
    try simp only [OpK_eq, HKv, k3, k8, k9, take6, List.drop_zero, Int.cast_ofNat_Int, go_sem, ↓reduceIte, Nat.reduceEqDiff, Nat.reduceAdd, Nat.reduceMul, Nat.reduceLeDiff, Nat.reduceLT, Int.reduceLE, Int.reduceLT, reduceCtorEq]
    refine ⟨fun _ => ⟨⟨by omega, by omega⟩, ?_⟩, fun _ => Kv.Fin.now (hfin _ hT2)⟩
    have hp := tabG_push hT2.tab (junk := junk2) [0]
    have e1 : t.length + 1 = (t ++ [[(0 : Int)]]).length := by simp
    rw [e1]
    have hge := hT2.ge
    have hbid : id ≠ b := by omega
    refine Kv.Fin.now (hK _ _ _ _ _ ⟨(hT2.src.app _).set2 hbid _, (hT2.kept.trans (Kept.app _ _ _)).set2 hge.1 _, hp, ⟨hge.1, fun r hr hn => ?_⟩, hlt⟩ ⟨by simp, by simp; omega, fun r hr => ?_⟩)
    · rcases List.mem_append.1 hr with hr | hr
      · exact hge.2 r hr hn
      · simp only [List.mem_singleton] at hr; subst hr
        exact hT2.kept.1
    · rcases List.mem_append.1 hr with hr | hr
      · rw [hsq.2 r hr]; exact t40
      · simp only [List.mem_singleton] at hr; subst hr
        simp
  · exact Kv.Fin.now (hfin ρ hT1)
theorem p32 {l : List Int} (hl : Byt l) {K : PV → Heap → Prop} (hK : ∀ t : List (List Int), t.length ≤ 41 → (∀ r ∈ t, r.length ≤ 40) → K (.list (rows t)) []) : ACall Tryz.prog 32 [.list (u8s l)] [] K := by
  refine e32 (by simp) fun _ _ => ?_
  simp only [k32, argEnv, take6, List.drop_zero, Int.cast_ofNat_Int, go_sem, ↓reduceIte, Nat.reduceEqDiff, Nat.reduceAdd, Nat.reduceMul, Nat.reduceLeDiff, Nat.reduceLT, Int.reduceLE, Int.reduceLT, reduceCtorEq]
  refine p68 hl fun h => ?_
  have hS0 : Src [srcO l 0 h] 0 l := ⟨0, h, rfl, Nat.zero_le _⟩
  try simp only [OpK_eq, HKv, take6, List.drop_zero, Int.cast_ofNat_Int, go_sem, ↓reduceIte, Nat.reduceEqDiff, Nat.reduceAdd, Nat.reduceMul, Nat.reduceLeDiff, Nat.reduceLT, Int.reduceLE, Int.reduceLT, reduceCtorEq]
  refine p104 hl hS0 _ fun id ver rs t τ hT ⟨h1, h2, h3⟩ => ?_
  try simp only [OpK_eq, HKv, take6, List.drop_zero, Int.cast_ofNat_Int, go_sem, ↓reduceIte, Nat.reduceEqDiff, Nat.reduceAdd, Nat.reduceMul, Nat.reduceLeDiff, Nat.reduceLT, Int.reduceLE, Int.reduceLT, reduceCtorEq]
  exact Kv.Fin.freeze (hT.tab.imm rfl) (hK t h2 h3)
theorem p41 {l : List Int} (hl : Byt l) {K : PV → Heap → Prop} (hK : ∀ t : List (List Int), t.length ≤ 41 → (∀ r ∈ t, r.length ≤ 40) → K (.list (rows t)) []) : ACall Tryz.prog 41 [.list (u8s l)] [] K := by
  refine e41 (by simp) fun _ _ => ?_
  simp only [k41, argEnv, take6, List.drop_zero, Int.cast_ofNat_Int, go_sem, ↓reduceIte, Nat.reduceEqDiff, Nat.reduceAdd, Nat.reduceMul, Nat.reduceLeDiff, Nat.reduceLT, Int.reduceLE, Int.reduceLT, reduceCtorEq]
  refine p68 hl fun h => ?_
  have hS0 : Src [srcO l 0 h] 0 l := ⟨0, h, rfl, Nat.zero_le _⟩
  try simp only [OpK_eq, HKv, take6, List.drop_zero, Int.cast_ofNat_Int, go_sem, ↓reduceIte, Nat.reduceEqDiff, Nat.reduceAdd, Nat.reduceMul, Nat.reduceLeDiff, Nat.reduceLT, Int.reduceLE, Int.reduceLT, reduceCtorEq]
  refine p76 hl (hS0.app _) [5, 5, 5, 40] (by simp) (id := 1) (ver := 0) (e := 2) (by simp [ints]) (by omega) 4 rfl fun r τ h2 h4 h5 h6 => ?_
  have hr : 0 ≤ r ∧ r ≤ 40 := by
    simp only [List.mem_cons, List.not_mem_nil, or_false] at h2
    omega
  try simp only [OpK_eq, HKv, take6, List.drop_zero, Int.cast_ofNat_Int, go_sem, ↓reduceIte, Nat.reduceEqDiff, Nat.reduceAdd, Nat.reduceMul, Nat.reduceLeDiff, Nat.reduceLT, Int.reduceLE, Int.reduceLT, reduceCtorEq]
  refine p104 hl h4 _ fun id ver rs t τ hT ⟨h1, h2, h3⟩ => ?_
  try simp only [OpK_eq, HKv, take6, List.drop_zero, Int.cast_ofNat_Int, go_sem, ↓reduceIte, Nat.reduceEqDiff, Nat.reduceAdd, Nat.reduceMul, Nat.reduceLeDiff, Nat.reduceLT, Int.reduceLE, Int.reduceLT, reduceCtorEq]
  exact Kv.Fin.freeze (hT.tab.imm rfl) (hK t h2 h3)
theorem p99 {l : List Int} (hl : Byt l) {σ : Heap} {b : Nat} (hS : Src σ b l) {K : PV → Heap → Prop}
    (hK : ∀ (t' : List (List Int)) σ', t'.length ≤ 7 → Mp6 t' → Src σ' b l → Kept σ σ' b → K (.list (aggs t')) σ') : ACall Tryz.prog 99 [.ptr b 0] σ K := by
  have hlt := hS.lt
  refine e99 (by simp) fun _ _ => ?_
  simp only [k99, argEnv, take6, List.drop_zero, Int.cast_ofNat_Int, go_sem, ↓reduceIte, Nat.reduceEqDiff, Nat.reduceAdd, Nat.reduceMul, Nat.reduceLeDiff, Nat.reduceLT, Int.reduceLE, Int.reduceLT, reduceCtorEq]
  try simp only [OpK_eq, HKv, take6, List.drop_zero, Int.cast_ofNat_Int, go_sem, ↓reduceIte, Nat.reduceEqDiff, Nat.reduceAdd, Nat.reduceMul, Nat.reduceLeDiff, Nat.reduceLT, Int.reduceLE, Int.reduceLT, reduceCtorEq]
  refine p124 hl hS _ fun r0 τ0 a2 a3 a4 a5 a6 => ?_
  have hlt0 := a4.lt
  clear a6
  try simp only [OpK_eq, HKv, take6, List.drop_zero, Int.cast_ofNat_Int, go_sem, ↓reduceIte, Nat.reduceEqDiff, Nat.reduceAdd, Nat.reduceMul, Nat.reduceLeDiff, Nat.reduceLT, Int.reduceLE, Int.reduceLT, reduceCtorEq]
  refine ⟨fun _ => ?_, fun _ => ?_⟩
  · refine p150 hl a4 fun t' σ' b1 b2 b3 b4 => ?_
    try simp only [OpK_eq, HKv, take6, List.drop_zero, Int.cast_ofNat_Int, go_sem, ↓reduceIte, Nat.reduceEqDiff, Nat.reduceAdd, Nat.reduceMul, Nat.reduceLeDiff, Nat.reduceLT, Int.reduceLE, Int.reduceLT, reduceCtorEq]
    exact Kv.Fin.now (hK t' _ b1 b2 b3 (a5.trans b4))
  · refine p76 hl (a4.app _) [1, 2, 2, 3] (by simp) (id := τ0.length) (ver := 0) (e := 2) (by simp [ints]) (by omega) 4 rfl fun r ρ h2 h4 h5 h6 => ?_
    obtain ⟨n, rfl, hn1, hn5⟩ : ∃ n : Nat, r = n ∧ 1 ≤ n ∧ n ≤ 5 := by
      simp only [List.mem_cons, List.not_mem_nil, or_false] at h2
      exact ⟨r.toNat, by omega, by omega, by omega⟩
    have hK2 := (a5.trans (Kept.app _ _ _)).trans h5
    clear h2 h5 h6
    try simp only [OpK_eq, HKv, take6, List.drop_zero, Int.cast_ofNat_Int, go_sem, ↓reduceIte, Nat.reduceEqDiff, Nat.reduceAdd, Nat.reduceMul, Nat.reduceLeDiff, Nat.reduceLT, Int.reduceLE, Int.reduceLT, reduceCtorEq]
    refine p151 hl h4 n hn1 hn5 fun t ρ2 q1 q2 q3 q4 q5 => ?_
    have hK3 := hK2.trans q5
    try simp only [OpK_eq, HKv, take6, List.drop_zero, Int.cast_ofNat_Int, go_sem, ↓reduceIte, Nat.reduceEqDiff, Nat.reduceAdd, Nat.reduceMul, Nat.reduceLeDiff, Nat.reduceLT, Int.reduceLE, Int.reduceLT, reduceCtorEq]
    refine KL_ind k99_b0.eq_1 (fun y : Nat × Heap × List (List Int) × PV × PV => [(0, .ptr b 0), (3, .list (aggs y.2.2.1)), (4, .int .i64 y.1), (29, y.2.2.2.1), (30, y.2.2.2.2)]) (fun y => y.2.1) (fun y => y.1 ≤ 8 ∧ (y.2.2.1.length ≤ 6 ∧ Mp6 y.2.2.1) ∧ Src y.2.1 b l ∧ Kept σ y.2.1 b) (fun y => 8 - y.1) [0, 3, 4, 29, 30] (0, ρ2, t, .undef, .undef) (by simp [keep]) rfl ⟨Nat.zero_le _, ⟨q2, fun r hr => (q3 r hr).1⟩, q4, hK3⟩ fun ⟨k, τ, u, v1, v2⟩ ⟨hk, ⟨u1, u2⟩, hS1, hK1⟩ ih => ?_
    clear q4 hK3 hK2 h4 q5
    simp only at hk u1 u2 hS1 hK1
    have hlt1 := hS1.lt
    try simp only [OpK_eq, HKv, take6, List.drop_zero, Int.cast_ofNat_Int, go_sem, ↓reduceIte, Nat.reduceEqDiff, Nat.reduceAdd, Nat.reduceMul, Nat.reduceLeDiff, Nat.reduceLT, Int.reduceLE, Int.reduceLT, reduceCtorEq]
    refine ⟨fun g1 => ?_, fun g1 => ?_⟩
    · obtain ⟨x, c, hZ⟩ := p152 u (by omega) u2
      refine hZ.go ?_
      try simp only [OpK_eq, HKv, take6, List.drop_zero, Int.cast_ofNat_Int, go_sem, ↓reduceIte, Nat.reduceEqDiff, Nat.reduceAdd, Nat.reduceMul, Nat.reduceLeDiff, Nat.reduceLT, Int.reduceLE, Int.reduceLT, reduceCtorEq]
      refine ⟨fun _ => ⟨fun _ => Kv.Fin.now (hK u _ (by omega) u2 hS1 hK1), fun _ => ?_⟩, fun _ => ?_⟩
      all_goals
        refine p76 hl (hS1.app _) [2, 2, 3] (by simp) (id := τ.length) (ver := 0) (e := 2) (by simp [ints]) (by omega) 3 rfl fun r ρ3 h2 h4 h5 h6 => ?_
        obtain ⟨n2, rfl, hm1, hm5⟩ : ∃ n2 : Nat, r = n2 ∧ 1 ≤ n2 ∧ n2 ≤ 5 := by
          simp only [List.mem_cons, List.not_mem_nil, or_false] at h2
          exact ⟨r.toNat, by omega, by omega, by omega⟩
        have hK4 := (hK1.trans (Kept.app _ _ _)).trans h5
        clear h2 h5 h6
        try simp only [OpK_eq, HKv, take6, List.drop_zero, Int.cast_ofNat_Int, go_sem, ↓reduceIte, Nat.reduceEqDiff, Nat.reduceAdd, Nat.reduceMul, Nat.reduceLeDiff, Nat.reduceLT, Int.reduceLE, Int.reduceLT, reduceCtorEq]
        refine p151 hl h4 n2 hm1 hm5 fun t2 ρ4 c1 c2 c3 c4 c5 => ?_
        try simp only [OpK_eq, HKv, take6, List.drop_zero, Int.cast_ofNat_Int, go_sem, ↓reduceIte, Nat.reduceEqDiff, Nat.reduceAdd, Nat.reduceMul, Nat.reduceLeDiff, Nat.reduceLT, Int.reduceLE, Int.reduceLT, reduceCtorEq]
        exact ⟨by omega, ih (k + 1, ρ4, t2, _, _) ⟨by show k + 1 ≤ 8; omega, ⟨c2, fun r hr => (c3 r hr).1⟩, c4, hK4.trans c5⟩ (by show 8 - (k + 1) < 8 - k; omega) _ _ (by simp [keep]; exact ⟨rfl, rfl⟩) rfl⟩
    · exact Kv.Fin.now (hK u _ (by omega) u2 hS1 hK1)
theorem p28 {l : List Int} (hl : Byt l) {K : PV → Heap → Prop} (hK : ∀ t' : List (List Int), t'.length ≤ 7 → Mp6 t' → K (.list (aggs t')) []) : ACall Tryz.prog 28 [.list (u8s l)] [] K := by
  refine e28 (by simp) fun _ _ => ?_
  simp only [k28, argEnv, take6, List.drop_zero, Int.cast_ofNat_Int, go_sem, ↓reduceIte, Nat.reduceEqDiff, Nat.reduceAdd, Nat.reduceMul, Nat.reduceLeDiff, Nat.reduceLT, Int.reduceLE, Int.reduceLT, reduceCtorEq]
  refine p68 hl fun h => ?_
  have hS0 : Src [srcO l 0 h] 0 l := ⟨0, h, rfl, Nat.zero_le _⟩
  try simp only [OpK_eq, HKv, take6, List.drop_zero, Int.cast_ofNat_Int, go_sem, ↓reduceIte, Nat.reduceEqDiff, Nat.reduceAdd, Nat.reduceMul, Nat.reduceLeDiff, Nat.reduceLT, Int.reduceLE, Int.reduceLT, reduceCtorEq]
  refine p99 hl hS0 fun t' σ' h1 h2 h3 h4 => ?_
  try simp only [OpK_eq, HKv, take6, List.drop_zero, Int.cast_ofNat_Int, go_sem, ↓reduceIte, Nat.reduceEqDiff, Nat.reduceAdd, Nat.reduceMul, Nat.reduceLeDiff, Nat.reduceLT, Int.reduceLE, Int.reduceLT, reduceCtorEq]
  exact Kv.Fin.still (hK t' h1 h2)
end Go.Proofs.YtpfapiiinkkcgaaGreat
end
section
/- The law's comparison of numbers, at equal arguments. -/
namespace Go.Proofs.YtpfapiiinkkcgaaGreat
open Go.Kv
set_option maxRecDepth 100000
/- laws.likeInts -/
/- live [0, 1, 5] -/
def k14_b0 : KC := (.seq (.seq (.ops [⟨(some 11), none, .mv (.t 5)⟩, ⟨(some 12), none, .mv (.t 0)⟩, ⟨(some 13), none, .len false (.t 12)⟩, ⟨(some 14), none, .bin .lss (.t 11) (.t 13)⟩])
  (.cond (.t 14) .skip (.exit 0)))
  (.seq (.block 1 (.seq (.draw [⟨(some 17), none, .mv (.t 0)⟩, ⟨(some 18), none, .mv (.t 5)⟩, ⟨(some 19), none, .idxS 1 (.t 17) (.t 18)⟩, ⟨(some 20), none, .load false 1 (.t 19)⟩, ⟨(some 21), none, .mv (.t 1)⟩, ⟨(some 22), none, .mv (.t 5)⟩, ⟨(some 23), none, .idxS 1 (.t 21) (.t 22)⟩, ⟨(some 24), none, .load false 1 (.t 23)⟩, ⟨(some 25), none, .bin .neq (.t 20) (.t 24)⟩])
  (.cond (.t 25) (.seq (.ops [⟨(some 4), none, .mv (.c (.bool false))⟩])
  .ret) .skip)))
  (.ops [⟨(some 15), none, .mv (.t 5)⟩, ⟨(some 16), none, .bin .add (.t 15) (.c (.int .i64 1))⟩, ⟨(some 5), none, .mv (.t 16)⟩])))
def k14 : KC := (.seq (.ops [⟨(some 4), none, .mv (.c (.bool false))⟩])
  (.seq (.seq (.ops [⟨(some 6), none, .mv (.t 0)⟩, ⟨(some 7), none, .len false (.t 6)⟩, ⟨(some 8), none, .mv (.t 1)⟩, ⟨(some 9), none, .len false (.t 8)⟩, ⟨(some 10), none, .bin .neq (.t 7) (.t 9)⟩])
  (.cond (.t 10) (.seq (.ops [⟨(some 4), none, .mv (.c (.bool false))⟩])
  .ret) .skip))
  (.seq (.seq (.ops [⟨(some 5), none, .mv (.c (.int .i64 0))⟩])
  (.block 0 (.loop k14_b0)))
  (.seq (.ops [⟨(some 4), none, .mv (.c (.bool true))⟩])
  .ret))))
theorem e14 {args : List PV} {σ : Heap} {K : PV → Heap → Prop} (hl : args.length ≤ 26) (h : Wf σ → (∀ a ∈ args, PV.upto σ.length a) → vc (mkCfg Tryz.prog mixed [] 26 σ.length) k14 (FinK σ.length [.t 4] K) (argEnv 0 args) σ) : ACall Tryz.prog 14 args σ K :=
  ACall_enter (C := mkCfg Tryz.prog mixed [] 26 σ.length) (c := Tryz.f14.body.getD .skip) Tryz.func14 (by kernel_rfl) (by kernel_rfl) (by kernel_rfl) rfl hl (by kernel_rfl) (by kernel_rfl) h
end Go.Proofs.YtpfapiiinkkcgaaGreat
namespace Go.Proofs.YtpfapiiinkkcgaaGreat
open Go.Kv
set_option linter.unusedVariables false
set_option linter.unusedSimpArgs false
attribute [local irreducible] ACall PCall KL
theorem p14 (a : List Int) (ha : a.length ≤ 1000) : Pure Tryz.prog 14 [.list (ints a), .list (ints a)] (.bool true) := by
  refine e14 (by simp) fun _ _ => ?_
  simp only [k14, argEnv, take6, List.drop_zero, Int.cast_ofNat_Int, go_sem, ↓reduceIte, Nat.reduceEqDiff, Nat.reduceAdd, Nat.reduceMul, Nat.reduceLeDiff, Nat.reduceLT, Int.reduceLE, Int.reduceLT, reduceCtorEq]
  try simp only [OpK_eq, HKv, bne_self_eq_false, take6, List.drop_zero, Int.cast_ofNat_Int, go_sem, ↓reduceIte, Nat.reduceEqDiff, Nat.reduceAdd, Nat.reduceMul, Nat.reduceLeDiff, Nat.reduceLT, Int.reduceLE, Int.reduceLT, reduceCtorEq]
  refine KL_ind k14_b0.eq_1 (fun x : Nat => [(0, .list (ints a)), (1, .list (ints a)), (5, .int .i64 x)]) (fun _ => []) (fun x => x ≤ a.length) (fun x => a.length - x) [0, 1, 5] 0 (by simp [keep]) rfl (Nat.zero_le _) fun x hx ih => ?_
  try simp only [OpK_eq, HKv, take6, List.drop_zero, Int.cast_ofNat_Int, go_sem, ↓reduceIte, Nat.reduceEqDiff, Nat.reduceAdd, Nat.reduceMul, Nat.reduceLeDiff, Nat.reduceLT, Int.reduceLE, Int.reduceLT, reduceCtorEq]
  refine ⟨fun h1 => ?_, fun h1 => Kv.Fin.still ⟨rfl, rfl⟩⟩
  exact ⟨by omega, fun _ => ⟨by omega, fun _ => ⟨by omega, ih (x + 1) (by omega) (by omega) _ _ (by simp [keep]) rfl⟩⟩⟩
theorem p14n : Pure Tryz.prog 14 [.nils, .nils] (.bool true) := by
  refine e14 (by simp) fun _ _ => ?_
  simp only [k14, argEnv, take6, List.drop_zero, Int.cast_ofNat_Int, go_sem, ↓reduceIte, Nat.reduceEqDiff, Nat.reduceAdd, Nat.reduceMul, Nat.reduceLeDiff, Nat.reduceLT, Int.reduceLE, Int.reduceLT, reduceCtorEq]
  try simp only [OpK_eq, HKv, bne_self_eq_false, take6, List.drop_zero, Int.cast_ofNat_Int, go_sem, ↓reduceIte, Nat.reduceEqDiff, Nat.reduceAdd, Nat.reduceMul, Nat.reduceLeDiff, Nat.reduceLT, Int.reduceLE, Int.reduceLT, reduceCtorEq]
  refine KL_ind k14_b0.eq_1 (fun x : Unit => [(0, .nils), (1, .nils), (5, .int .i64 0)]) (fun _ => []) (fun x => True) (fun x => 0) [0, 1, 5] () (by simp [keep]) rfl trivial fun x hx ih => ?_
  try simp only [OpK_eq, HKv, take6, List.drop_zero, Int.cast_ofNat_Int, go_sem, ↓reduceIte, Nat.reduceEqDiff, Nat.reduceAdd, Nat.reduceMul, Nat.reduceLeDiff, Nat.reduceLT, Int.reduceLE, Int.reduceLT, reduceCtorEq]
  exact Kv.Fin.still ⟨rfl, rfl⟩
end Go.Proofs.YtpfapiiinkkcgaaGreat
end
section
/- The law's comparisons of rows and of maps, at equal arguments. -/
namespace Go.Proofs.YtpfapiiinkkcgaaGreat
open Go.Kv
set_option maxRecDepth 100000
/- laws.maps9 -/
/- live [0, 1, 5] -/
def k44_b0 : KC := (.seq (.seq (.ops [⟨(some 11), none, .mv (.t 5)⟩, ⟨(some 12), none, .mv (.t 0)⟩, ⟨(some 13), none, .len false (.t 12)⟩, ⟨(some 14), none, .bin .lss (.t 11) (.t 13)⟩])
  (.cond (.t 14) .skip (.exit 0)))
  (.seq (.block 1 (.seq (.draw [⟨(some 17), none, .mv (.t 0)⟩, ⟨(some 18), none, .mv (.t 5)⟩, ⟨(some 19), none, .idxS 6 (.t 17) (.t 18)⟩, ⟨(some 20), none, .load true 6 (.t 19)⟩, ⟨(some 21), none, .mv (.t 1)⟩, ⟨(some 22), none, .mv (.t 5)⟩, ⟨(some 23), none, .idxS 6 (.t 21) (.t 22)⟩, ⟨(some 24), none, .load true 6 (.t 23)⟩, ⟨(some 25), none, .aeq true 6 (.t 20) (.t 24)⟩])
  (.cond (.t 25) (.seq (.ops [⟨(some 4), none, .mv (.c (.bool false))⟩])
  .ret) .skip)))
  (.ops [⟨(some 15), none, .mv (.t 5)⟩, ⟨(some 16), none, .bin .add (.t 15) (.c (.int .i64 1))⟩, ⟨(some 5), none, .mv (.t 16)⟩])))
def k44 : KC := (.seq (.ops [⟨(some 4), none, .mv (.c (.bool false))⟩])
  (.seq (.seq (.ops [⟨(some 6), none, .mv (.t 0)⟩, ⟨(some 7), none, .len false (.t 6)⟩, ⟨(some 8), none, .mv (.t 1)⟩, ⟨(some 9), none, .len false (.t 8)⟩, ⟨(some 10), none, .bin .neq (.t 7) (.t 9)⟩])
  (.cond (.t 10) (.seq (.ops [⟨(some 4), none, .mv (.c (.bool false))⟩])
  .ret) .skip))
  (.seq (.seq (.ops [⟨(some 5), none, .mv (.c (.int .i64 0))⟩])
  (.block 0 (.loop k44_b0)))
  (.seq (.ops [⟨(some 4), none, .mv (.c (.bool true))⟩])
  .ret))))
theorem e44 {args : List PV} {σ : Heap} {K : PV → Heap → Prop} (hl : args.length ≤ 26) (h : Wf σ → (∀ a ∈ args, PV.upto σ.length a) → vc (mkCfg Tryz.prog mixed [] 26 σ.length) k44 (FinK σ.length [.t 4] K) (argEnv 0 args) σ) : ACall Tryz.prog 44 args σ K :=
  ACall_enter (C := mkCfg Tryz.prog mixed [] 26 σ.length) (c := Tryz.f44.body.getD .skip) Tryz.func44 (by kernel_rfl) (by kernel_rfl) (by kernel_rfl) rfl hl (by kernel_rfl) (by kernel_rfl) h
/- laws.rows9 -/
/- live [0, 1, 5] -/
def k31_b0 : KC := (.seq (.seq (.ops [⟨(some 11), none, .mv (.t 5)⟩, ⟨(some 12), none, .mv (.t 0)⟩, ⟨(some 13), none, .len false (.t 12)⟩, ⟨(some 14), none, .bin .lss (.t 11) (.t 13)⟩])
  (.cond (.t 14) .skip (.exit 0)))
  (.seq (.block 1 (.seq (.draw [⟨(some 17), none, .mv (.t 0)⟩, ⟨(some 18), none, .mv (.t 5)⟩, ⟨(some 19), none, .idxS 1 (.t 17) (.t 18)⟩, ⟨(some 20), none, .load false 1 (.t 19)⟩, ⟨(some 21), none, .mv (.t 1)⟩, ⟨(some 22), none, .mv (.t 5)⟩, ⟨(some 23), none, .idxS 1 (.t 21) (.t 22)⟩, ⟨(some 24), none, .load false 1 (.t 23)⟩, ⟨(some 25), none, .pcall (.c (.fn (.func 14) [] [])) [(.t 20), (.t 24)]⟩, ⟨(some 26), none, .not (.t 25)⟩])
  (.cond (.t 26) (.seq (.ops [⟨(some 4), none, .mv (.c (.bool false))⟩])
  .ret) .skip)))
  (.ops [⟨(some 15), none, .mv (.t 5)⟩, ⟨(some 16), none, .bin .add (.t 15) (.c (.int .i64 1))⟩, ⟨(some 5), none, .mv (.t 16)⟩])))
def k31 : KC := (.seq (.ops [⟨(some 4), none, .mv (.c (.bool false))⟩])
  (.seq (.seq (.ops [⟨(some 6), none, .mv (.t 0)⟩, ⟨(some 7), none, .len false (.t 6)⟩, ⟨(some 8), none, .mv (.t 1)⟩, ⟨(some 9), none, .len false (.t 8)⟩, ⟨(some 10), none, .bin .neq (.t 7) (.t 9)⟩])
  (.cond (.t 10) (.seq (.ops [⟨(some 4), none, .mv (.c (.bool false))⟩])
  .ret) .skip))
  (.seq (.seq (.ops [⟨(some 5), none, .mv (.c (.int .i64 0))⟩])
  (.block 0 (.loop k31_b0)))
  (.seq (.ops [⟨(some 4), none, .mv (.c (.bool true))⟩])
  .ret))))
theorem e31 {args : List PV} {σ : Heap} {K : PV → Heap → Prop} (hl : args.length ≤ 27) (h : Wf σ → (∀ a ∈ args, PV.upto σ.length a) → vc (mkCfg Tryz.prog mixed [] 27 σ.length) k31 (FinK σ.length [.t 4] K) (argEnv 0 args) σ) : ACall Tryz.prog 31 args σ K :=
  ACall_enter (C := mkCfg Tryz.prog mixed [] 27 σ.length) (c := Tryz.f31.body.getD .skip) Tryz.func31 (by kernel_rfl) (by kernel_rfl) (by kernel_rfl) rfl hl (by kernel_rfl) (by kernel_rfl) h
end Go.Proofs.YtpfapiiinkkcgaaGreat
namespace Go.Proofs.YtpfapiiinkkcgaaGreat
open Go.Kv
set_option linter.unusedVariables false
set_option linter.unusedSimpArgs false
attribute [local irreducible] ACall PCall KL
theorem getD_memZ {α : Type} {l : List (List α)} {i : Nat} (h : i < l.length) : l.getD i [] ∈ l := by
  rw [List.getD_eq_getElem?_getD, List.getElem?_eq_getElem h]; exact List.getElem_mem _
theorem p44 (a : List (List Int)) (ha : a.length ≤ 1000) (h6 : ∀ r ∈ a, r.length = 6) : Pure Tryz.prog 44 [.list (aggs a), .list (aggs a)] (.bool true) := by
  refine e44 (by simp) fun _ _ => ?_
  simp only [k44, argEnv, take6, List.drop_zero, Int.cast_ofNat_Int, go_sem, ↓reduceIte, Nat.reduceEqDiff, Nat.reduceAdd, Nat.reduceMul, Nat.reduceLeDiff, Nat.reduceLT, Int.reduceLE, Int.reduceLT, reduceCtorEq]
  try simp only [OpK_eq, HKv, aggs_length, bne_self_eq_false, take6, List.drop_zero, Int.cast_ofNat_Int, go_sem, ↓reduceIte, Nat.reduceEqDiff, Nat.reduceAdd, Nat.reduceMul, Nat.reduceLeDiff, Nat.reduceLT, Int.reduceLE, Int.reduceLT, reduceCtorEq]
  refine KL_ind k44_b0.eq_1 (fun x : Nat => [(0, .list (aggs a)), (1, .list (aggs a)), (5, .int .i64 x)]) (fun _ => []) (fun x => x ≤ a.length) (fun x => a.length - x) [0, 1, 5] 0 (by simp [keep]) rfl (Nat.zero_le _) fun x hx ih => ?_
  try simp only [OpK_eq, HKv, aggs_length, take6, List.drop_zero, Int.cast_ofNat_Int, go_sem, ↓reduceIte, Nat.reduceEqDiff, Nat.reduceAdd, Nat.reduceMul, Nat.reduceLeDiff, Nat.reduceLT, Int.reduceLE, Int.reduceLT, reduceCtorEq]
  refine ⟨fun h1 => ?_, fun h1 => Kv.Fin.still ⟨rfl, rfl⟩⟩
  have hx2 : x < a.length := by omega
  have h6x : (a.getD x []).length = 6 := h6 _ (getD_memZ hx2)
  try simp only [OpK_eq, HKv, aggs_length, h6x, take6, List.drop_zero, Int.cast_ofNat_Int, go_sem, ↓reduceIte, Nat.reduceEqDiff, Nat.reduceAdd, Nat.reduceMul, Nat.reduceLeDiff, Nat.reduceLT, Int.reduceLE, Int.reduceLT, reduceCtorEq]
  exact ⟨by omega, fun _ => ⟨by omega, fun _ => ⟨by omega, ih (x + 1) (by omega) (by omega) _ _ (by simp [keep]) rfl⟩⟩⟩
theorem p44n : Pure Tryz.prog 44 [.nils, .nils] (.bool true) := by
  refine e44 (by simp) fun _ _ => ?_
  simp only [k44, argEnv, take6, List.drop_zero, Int.cast_ofNat_Int, go_sem, ↓reduceIte, Nat.reduceEqDiff, Nat.reduceAdd, Nat.reduceMul, Nat.reduceLeDiff, Nat.reduceLT, Int.reduceLE, Int.reduceLT, reduceCtorEq]
  try simp only [OpK_eq, HKv, bne_self_eq_false, take6, List.drop_zero, Int.cast_ofNat_Int, go_sem, ↓reduceIte, Nat.reduceEqDiff, Nat.reduceAdd, Nat.reduceMul, Nat.reduceLeDiff, Nat.reduceLT, Int.reduceLE, Int.reduceLT, reduceCtorEq]
  refine KL_ind k44_b0.eq_1 (fun x : Unit => [(0, .nils), (1, .nils), (5, .int .i64 0)]) (fun _ => []) (fun x => True) (fun x => 0) [0, 1, 5] () (by simp [keep]) rfl trivial fun x hx ih => ?_
  try simp only [OpK_eq, HKv, take6, List.drop_zero, Int.cast_ofNat_Int, go_sem, ↓reduceIte, Nat.reduceEqDiff, Nat.reduceAdd, Nat.reduceMul, Nat.reduceLeDiff, Nat.reduceLT, Int.reduceLE, Int.reduceLT, reduceCtorEq]
  exact Kv.Fin.still ⟨rfl, rfl⟩
theorem p31 (a : List (List Int)) (ha : a.length ≤ 1000) (h6 : ∀ r ∈ a, r.length ≤ 1000) : Pure Tryz.prog 31 [.list (rows a), .list (rows a)] (.bool true) := by
  refine e31 (by simp) fun _ _ => ?_
  simp only [k31, argEnv, take6, List.drop_zero, Int.cast_ofNat_Int, go_sem, ↓reduceIte, Nat.reduceEqDiff, Nat.reduceAdd, Nat.reduceMul, Nat.reduceLeDiff, Nat.reduceLT, Int.reduceLE, Int.reduceLT, reduceCtorEq]
  try simp only [OpK_eq, HKv, bne_self_eq_false, take6, List.drop_zero, Int.cast_ofNat_Int, go_sem, ↓reduceIte, Nat.reduceEqDiff, Nat.reduceAdd, Nat.reduceMul, Nat.reduceLeDiff, Nat.reduceLT, Int.reduceLE, Int.reduceLT, reduceCtorEq]
  refine KL_ind k31_b0.eq_1 (fun x : Nat => [(0, .list (rows a)), (1, .list (rows a)), (5, .int .i64 x)]) (fun _ => []) (fun x => x ≤ a.length) (fun x => a.length - x) [0, 1, 5] 0 (by simp [keep]) rfl (Nat.zero_le _) fun x hx ih => ?_
  try simp only [OpK_eq, HKv, take6, List.drop_zero, Int.cast_ofNat_Int, go_sem, ↓reduceIte, Nat.reduceEqDiff, Nat.reduceAdd, Nat.reduceMul, Nat.reduceLeDiff, Nat.reduceLT, Int.reduceLE, Int.reduceLT, reduceCtorEq]
  refine ⟨fun h1 => ?_, fun h1 => Kv.Fin.still ⟨rfl, rfl⟩⟩
  refine ⟨by omega, fun _ => ⟨by omega, fun hxl => ?_⟩⟩
  refine (p14 (a.getD x []) (h6 _ (getD_memZ hxl))).pgo ?_
  try simp only [OpK_eq, HKv, take6, List.drop_zero, Int.cast_ofNat_Int, go_sem, ↓reduceIte, Nat.reduceEqDiff, Nat.reduceAdd, Nat.reduceMul, Nat.reduceLeDiff, Nat.reduceLT, Int.reduceLE, Int.reduceLT, reduceCtorEq]
  exact ⟨by omega, ih (x + 1) (by omega) (by omega) _ _ (by simp [keep]) rfl⟩
theorem p31nn : Pure Tryz.prog 31 [.nils, .nils] (.bool true) := by
  refine e31 (by simp) fun _ _ => ?_
  simp only [k31, argEnv, take6, List.drop_zero, Int.cast_ofNat_Int, go_sem, ↓reduceIte, Nat.reduceEqDiff, Nat.reduceAdd, Nat.reduceMul, Nat.reduceLeDiff, Nat.reduceLT, Int.reduceLE, Int.reduceLT, reduceCtorEq]
  try simp only [OpK_eq, HKv, bne_self_eq_false, take6, List.drop_zero, Int.cast_ofNat_Int, go_sem, ↓reduceIte, Nat.reduceEqDiff, Nat.reduceAdd, Nat.reduceMul, Nat.reduceLeDiff, Nat.reduceLT, Int.reduceLE, Int.reduceLT, reduceCtorEq]
  refine KL_ind k31_b0.eq_1 (fun x : Unit => [(0, .nils), (1, .nils), (5, .int .i64 0)]) (fun _ => []) (fun x => True) (fun x => 0) [0, 1, 5] () (by simp [keep]) rfl trivial fun x hx ih => ?_
  try simp only [OpK_eq, HKv, take6, List.drop_zero, Int.cast_ofNat_Int, go_sem, ↓reduceIte, Nat.reduceEqDiff, Nat.reduceAdd, Nat.reduceMul, Nat.reduceLeDiff, Nat.reduceLT, Int.reduceLE, Int.reduceLT, reduceCtorEq]
  exact Kv.Fin.still ⟨rfl, rfl⟩
end Go.Proofs.YtpfapiiinkkcgaaGreat
end
section
/- A map's number: the implementation. -/
namespace Go.Proofs.YtpfapiiinkkcgaaGreat
open Go.Kv
set_option maxRecDepth 100000
/- (impl.Map).number -/
/- live [3, 7, 8] -/
def k190_b0 : KC := (.seq (.ops [⟨(some 9), none, .bin .lss (.t 8) (.c (.int .i64 5))⟩])
  (.seq (.cond (.t 9) .skip (.exit 0))
  (.seq (.block 1 (.seq (.ops [⟨(some 10), none, .idxV 5 1 false (.t 7) (.t 8)⟩, ⟨(some 5), none, .mv (.t 10)⟩])
  (.ops [⟨(some 11), none, .mv (.t 3)⟩, ⟨(some 12), none, .bin .mul (.t 11) (.c (.int .i64 5))⟩, ⟨(some 13), none, .mv (.t 5)⟩, ⟨(some 14), none, .bin .add (.t 12) (.t 13)⟩, ⟨(some 3), none, .mv (.t 14)⟩])))
  (.ops [⟨(some 15), none, .bin .add (.t 8) (.c (.int .i64 1))⟩, ⟨(some 8), none, .mv (.t 15)⟩]))))
def k190 : KC := (.seq (.ops [⟨(some 1), none, .box true (.t 0)⟩, ⟨(some 2), none, .mv (.c (.int .i64 0))⟩])
  (.seq (.ops [⟨(some 3), none, .mv (.c (.int .i64 0))⟩])
  (.seq (.seq (.ops [⟨(some 6), none, .fieldA 1 (.t 1)⟩, ⟨(some 7), none, .load true 5 (.t 6)⟩, ⟨(some 8), none, .mv (.c (.int .i64 0))⟩])
  (.block 0 (.loop k190_b0)))
  (.seq (.ops [⟨(some 16), none, .mv (.t 3)⟩, ⟨(some 2), none, .mv (.t 16)⟩])
  .ret))))
theorem e190 {args : List PV} {σ : Heap} {K : PV → Heap → Prop} (hl : args.length ≤ 17) (h : Wf σ → (∀ a ∈ args, PV.upto σ.length a) → vc (mkCfg Tryz.prog mixed [1] 17 σ.length) k190 (FinK σ.length [.t 2] K) (argEnv 0 args) σ) : ACall Tryz.prog 190 args σ K :=
  ACall_enter (C := mkCfg Tryz.prog mixed [1] 17 σ.length) (c := Tryz.f190.body.getD .skip) Tryz.func190 (by kernel_rfl) (by kernel_rfl) (by kernel_rfl) rfl hl (by kernel_rfl) (by kernel_rfl) h
end Go.Proofs.YtpfapiiinkkcgaaGreat
namespace Go.Proofs.YtpfapiiinkkcgaaGreat
open Go.Kv
set_option linter.unusedVariables false
set_option linter.unusedSimpArgs false
attribute [local irreducible] ACall PCall KL
/-- The number of five cells, of which k are read. -/
def numK (f : List Nat) : Nat → Nat
  | 0 => 0
  | k + 1 => numK f k * 5 + f.getD k 0
theorem numK_lt {f : List Nat} (h : ∀ x ∈ f, x < 5) : ∀ k, numK f k < 5 ^ k
  | 0 => by simp [numK]
  | k + 1 => by
    have h1 := numK_lt h k
    have h2 : f.getD k 0 < 5 := by
      rw [List.getD_eq_getElem?_getD]
      cases e : f[k]? with
      | none => simp
      | some x => exact h x (List.mem_of_getElem? e)
    rw [numK, Nat.pow_succ]; omega
theorem numK_inj {f g : List Nat} (hf : ∀ x ∈ f, x < 5) (hg : ∀ x ∈ g, x < 5) : ∀ k, numK f k = numK g k → ∀ i, i < k → f.getD i 0 = g.getD i 0
  | 0, _, i, hi => by omega
  | k + 1, h, i, hi => by
    have h2 : ∀ {f : List Nat}, (∀ x ∈ f, x < 5) → f.getD k 0 < 5 := fun {f} hf => by
      rw [List.getD_eq_getElem?_getD]
      cases e : f[k]? with
      | none => simp
      | some x => exact hf x (List.mem_of_getElem? e)
    have a := h2 hf
    have b := h2 hg
    simp only [numK] at h
    rcases Nat.lt_succ_iff_lt_or_eq.1 hi with c | rfl
    · exact numK_inj hf hg k (by omega) i c
    · omega
/-- Maps with as many points and one number are one map. -/
theorem num_inj {f g : List Nat} {n : Nat} (hf : Ok f n) (hg : Ok g n) (h : numK f 5 = numK g 5) : f = g := by
  have h5 := hf.le
  have e := numK_inj (fun x hx => by have := hf.lt x hx; omega) (fun x hx => by have := hg.lt x hx; omega) 5 h
  refine List.ext_getElem (by rw [hf.len, hg.len]) fun i h1 h2 => ?_
  have := e i (by have := hf.len; omega)
  simpa [List.getD_eq_getElem?_getD, h1, h2] using this
theorem p190 (f : List Nat) (n : Nat) (hf : Ok f n) : Pure Tryz.prog 190 [.agg (ints (mp f))] (.int .i64 (numK f 5)) := by
  have hlf := hf.mp_len
  have h5 := hf.le
  refine e190 (by simp) fun _ _ => ?_
  simp only [k190, argEnv, hlf, take6, List.drop_zero, Int.cast_ofNat_Int, go_sem, ↓reduceIte, Nat.reduceEqDiff, Nat.reduceAdd, Nat.reduceMul, Nat.reduceLeDiff, Nat.reduceLT, Int.reduceLE, Int.reduceLT, reduceCtorEq]
  refine KL_ind k190_b0.eq_1 (fun y : Nat => [(3, .int .i64 (numK f y)), (7, .agg (ints (List.take 5 (List.drop 1 (mp f))))), (8, .int .i64 y)]) (fun _ => []) (fun y => y ≤ 5) (fun y => 5 - y) [3, 7, 8] 0 (by simp [keep, numK]) rfl (Nat.zero_le _) fun y hy ih => ?_
  have hl5 : (List.take 5 (List.drop 1 (mp f))).length = 5 := by simp [hlf]
  try simp only [hl5, take6, List.drop_zero, Int.cast_ofNat_Int, go_sem, ↓reduceIte, Nat.reduceEqDiff, Nat.reduceAdd, Nat.reduceMul, Nat.reduceLeDiff, Nat.reduceLT, Int.reduceLE, Int.reduceLT, reduceCtorEq]
  refine ⟨fun g1 => ?_, fun g1 => ?_⟩
  · have hN := numK_lt (f := f) (fun x hx => by have := hf.lt x hx; omega) y
    have hN' : numK f y < 3125 := Nat.lt_of_lt_of_le hN (by
      have : (5 : Nat) ^ y ≤ 5 ^ 5 := Nat.pow_le_pow_right (by decide) hy
      omega)
    have hg : (List.take 5 (List.drop 1 (mp f))).getD y 0 = (f.getD y 0 : Int) := by
      have : (List.take 5 (List.drop 1 (mp f))).getD y 0 = (mp f).getD (y + 1) 0 := by
        rw [List.take_of_length_le (by simp [hlf])]
        simp [List.getD_eq_getElem?_getD, Nat.add_comm]
      rw [this, mp, mpN_get]
    have hb : f.getD y 0 < 5 := by
      rw [List.getD_eq_getElem?_getD]
      cases e : f[y]? with
      | none => simp
      | some x => have := hf.lt x (List.mem_of_getElem? e); simp; omega
    rw [hg]
    have g2 : y < 5 := by omega
    exact ⟨g1, g2, fun _ => ⟨by omega, by omega, by omega, ih (y + 1) (by omega) (by omega) _ _ (by simp [keep, numK]) rfl⟩⟩
  · obtain rfl : y = 5 := by omega
    try simp only [take6, List.drop_zero, Int.cast_ofNat_Int, go_sem, ↓reduceIte, Nat.reduceEqDiff, Nat.reduceAdd, Nat.reduceMul, Nat.reduceLeDiff, Nat.reduceLT, Int.reduceLE, Int.reduceLT, reduceCtorEq]
    exact Kv.Fin.still ⟨rfl, rfl⟩
end Go.Proofs.YtpfapiiinkkcgaaGreat
end
section
/- Places of maps: the implementation. -/
namespace Go.Proofs.YtpfapiiinkkcgaaGreat
open Go.Kv
set_option maxRecDepth 100000
/- (*impl.monoid).place -/
def k155 : KC := (.seq (.ops [⟨(some 3), none, .box true (.t 1)⟩, ⟨(some 4), none, .mv (.c (.int .i64 0))⟩])
  (.seq (.draw [⟨(some 5), none, .mv (.t 0)⟩, ⟨(some 6), none, .load true 6 (.t 3)⟩, ⟨(some 8), none, .nilck (.t 5)⟩, ⟨(some 9), none, .fieldA 2 (.t 8)⟩, ⟨(some 7), none, .pcall (.c (.fn (.func 190) [] [])) [(.t 6)]⟩, ⟨(some 10), none, .idxA 3125 1 (.t 9) (.t 7)⟩, ⟨(some 11), none, .load false 1 (.t 10)⟩, ⟨(some 12), none, .bin .sub (.t 11) (.c (.int .i64 1))⟩, ⟨(some 4), none, .mv (.t 12)⟩])
  .ret))
theorem e155 {args : List PV} {σ : Heap} {K : PV → Heap → Prop} (hl : args.length ≤ 13) (h : Wf σ → (∀ a ∈ args, PV.upto σ.length a) → vc (mkCfg Tryz.prog mixed [3] 13 σ.length) k155 (FinK σ.length [.t 4] K) (argEnv 0 args) σ) : ACall Tryz.prog 155 args σ K :=
  ACall_enter (C := mkCfg Tryz.prog mixed [3] 13 σ.length) (c := Tryz.f155.body.getD .skip) Tryz.func155 (by kernel_rfl) (by kernel_rfl) (by kernel_rfl) rfl hl (by kernel_rfl) (by kernel_rfl) h
/- (*impl.monoid).product -/
def k156 : KC := (.seq (.ops [⟨(some 6), none, .mv (.c (.int .i64 0))⟩])
  (.seq (.draw [⟨(some 7), none, .mv (.t 0)⟩, ⟨(some 8), none, .mv (.t 0)⟩, ⟨(some 9), none, .nilck (.t 8)⟩, ⟨(some 10), none, .fieldA 0 (.t 9)⟩, ⟨(some 11), none, .load false 1 (.t 10)⟩, ⟨(some 12), none, .mv (.t 1)⟩, ⟨(some 13), none, .idxS 6 (.t 11) (.t 12)⟩, ⟨(some 14), none, .load true 6 (.t 13)⟩, ⟨(some 15), none, .mv (.t 0)⟩, ⟨(some 16), none, .nilck (.t 15)⟩, ⟨(some 17), none, .fieldA 0 (.t 16)⟩, ⟨(some 18), none, .load false 1 (.t 17)⟩, ⟨(some 19), none, .mv (.t 2)⟩, ⟨(some 20), none, .idxS 6 (.t 18) (.t 19)⟩, ⟨(some 21), none, .load true 6 (.t 20)⟩, ⟨(some 22), none, .pcall (.c (.fn (.func 118) [] [])) [(.t 14), (.t 21)]⟩, ⟨(some 23), none, .pcall (.c (.fn (.func 155) [] [])) [(.t 7), (.t 22)]⟩, ⟨(some 6), none, .mv (.t 23)⟩])
  .ret))
theorem e156 {args : List PV} {σ : Heap} {K : PV → Heap → Prop} (hl : args.length ≤ 24) (h : Wf σ → (∀ a ∈ args, PV.upto σ.length a) → vc (mkCfg Tryz.prog mixed [] 24 σ.length) k156 (FinK σ.length [.t 6] K) (argEnv 0 args) σ) : ACall Tryz.prog 156 args σ K :=
  ACall_enter (C := mkCfg Tryz.prog mixed [] 24 σ.length) (c := Tryz.f156.body.getD .skip) Tryz.func156 (by kernel_rfl) (by kernel_rfl) (by kernel_rfl) rfl hl (by kernel_rfl) (by kernel_rfl) h
/- (*impl.monoid).table -/
/- live [0, 3, 4, 5, 11, 12, 19, 20] -/
def k101_b0 : KC := (.seq (.ops [⟨(some 21), none, .bin .lss (.t 20) (.t 19)⟩])
  (.seq (.cond (.t 21) .skip (.exit 2))
  (.seq (.block 3 (.seq (.ops [⟨(some 22), none, .mv (.t 20)⟩, ⟨(some 6), none, .mv (.t 22)⟩])
  (.ops [⟨(some 23), none, .mv (.t 5)⟩, ⟨(some 24), none, .mv (.t 0)⟩, ⟨(some 25), none, .mv (.t 4)⟩, ⟨(some 26), none, .mv (.t 6)⟩, ⟨(some 27), none, .call (.c (.fn (.func 156) [] [])) [(.t 24), (.t 25), (.t 26)]⟩, ⟨(some 28), none, .bsl true 2 1 [(.t 27)]⟩, ⟨(some 29), none, .app (.t 23) (.t 28) 2 1⟩, ⟨(some 5), none, .mv (.t 29)⟩])))
  (.ops [⟨(some 30), none, .bin .add (.t 20) (.c (.int .i64 1))⟩, ⟨(some 20), none, .mv (.t 30)⟩]))))
/- live [0, 3, 11, 12] -/
def k101_b1 : KC := (.seq (.ops [⟨(some 13), none, .bin .lss (.t 12) (.t 11)⟩])
  (.seq (.cond (.t 13) .skip (.exit 0))
  (.seq (.block 1 (.seq (.ops [⟨(some 14), none, .mv (.t 12)⟩, ⟨(some 4), none, .mv (.t 14)⟩])
  (.seq (.ops [⟨(some 5), none, .mv (.c (.nils))⟩])
  (.seq (.seq (.ops [⟨(some 15), none, .mv (.t 0)⟩, ⟨(some 16), none, .nilck (.t 15)⟩, ⟨(some 17), none, .fieldA 0 (.t 16)⟩, ⟨(some 18), none, .load false 1 (.t 17)⟩, ⟨(some 19), none, .len false (.t 18)⟩, ⟨(some 20), none, .mv (.c (.int .i64 0))⟩])
  (.block 2 (.loop k101_b0)))
  (.ops [⟨(some 31), none, .mv (.t 3)⟩, ⟨(some 32), none, .mv (.t 5)⟩, ⟨(some 33), none, .bsl true 25 1 [(.t 32)]⟩, ⟨(some 34), none, .app (.t 31) (.t 33) 25 1⟩, ⟨(some 3), none, .mv (.t 34)⟩])))))
  (.ops [⟨(some 35), none, .bin .add (.t 12) (.c (.int .i64 1))⟩, ⟨(some 12), none, .mv (.t 35)⟩]))))
def k101 : KC := (.seq (.ops [⟨(some 2), none, .mv (.c (.nils))⟩])
  (.seq (.ops [⟨(some 3), none, .mv (.c (.nils))⟩])
  (.seq (.seq (.ops [⟨(some 7), none, .mv (.t 0)⟩, ⟨(some 8), none, .nilck (.t 7)⟩, ⟨(some 9), none, .fieldA 0 (.t 8)⟩, ⟨(some 10), none, .load false 1 (.t 9)⟩, ⟨(some 11), none, .len false (.t 10)⟩, ⟨(some 12), none, .mv (.c (.int .i64 0))⟩])
  (.block 0 (.loop k101_b1)))
  (.seq (.ops [⟨(some 36), none, .mv (.t 3)⟩, ⟨(some 2), none, .mv (.t 36)⟩])
  .ret))))
theorem e101 {args : List PV} {σ : Heap} {K : PV → Heap → Prop} (hl : args.length ≤ 37) (h : Wf σ → (∀ a ∈ args, PV.upto σ.length a) → vc (mkCfg Tryz.prog mixed [28, 33] 37 σ.length) k101 (FinK σ.length [.t 2] K) (argEnv 0 args) σ) : ACall Tryz.prog 101 args σ K :=
  ACall_enter (C := mkCfg Tryz.prog mixed [28, 33] 37 σ.length) (c := Tryz.f101.body.getD .skip) Tryz.func101 (by kernel_rfl) (by kernel_rfl) (by kernel_rfl) rfl hl (by kernel_rfl) (by kernel_rfl) h
end Go.Proofs.YtpfapiiinkkcgaaGreat
namespace Go.Proofs.YtpfapiiinkkcgaaGreat
open Go.Kv
set_option linter.unusedVariables false
set_option linter.unusedSimpArgs false
attribute [local irreducible] ACall PCall KL
/-- A monoid as it is read: its elements, its words, its places. -/
def moV (E W : PV) (P : List Int) : List PV := E :: W :: ints P
instance {E W : PV} {P : List Int} [h : Still E] [h' : Still W] : StillL (moV E W P) := inferInstanceAs (StillL (E :: W :: ints P))
theorem p155 (E W : PV) (P : List Int) (hP : P.length = 3125) (f : List Nat) (n : Nat) (hf : Ok f n) (hb : ∀ x ∈ P, 0 ≤ x ∧ x ≤ 300) : Pure Tryz.prog 155 [.fptr (moV E W P) 0, .agg (ints (mp f))] (.int .i64 (P.getD (numK f 5) 0 - 1)) := by
  have hlf := hf.mp_len
  have h5 := hf.le
  have hN : numK f 5 < 3125 := numK_lt (f := f) (fun x hx => by have := hf.lt x hx; omega) 5
  have hx : 0 ≤ P.getD (numK f 5) 0 ∧ P.getD (numK f 5) 0 ≤ 300 := by
    rw [List.getD_eq_getElem?_getD, List.getElem?_eq_getElem (by omega)]
    exact hb _ (List.getElem_mem _)
  have hml : (moV E W P).length = 3127 := by rw [moV, List.length_cons, List.length_cons, ints_length, hP]
  refine e155 (by simp) fun _ _ => ?_
  simp only [k155, argEnv, hlf, take6, List.drop_zero, Int.cast_ofNat_Int, go_sem, ↓reduceIte, Nat.reduceEqDiff, Nat.reduceAdd, Nat.reduceMul, Nat.reduceLeDiff, Nat.reduceLT, Int.reduceLE, Int.reduceLT, reduceCtorEq]
  refine (p190 f n hf).pgo ?_
  try simp only [hml, take6, List.drop_zero, Int.cast_ofNat_Int, go_sem, ↓reduceIte, Nat.reduceEqDiff, Nat.reduceAdd, Nat.reduceMul, Nat.reduceLeDiff, Nat.reduceLT, Int.reduceLE, Int.reduceLT, reduceCtorEq]
  refine ⟨by omega, by omega, fun c hc => ?_⟩
  have hc' : (ints P)[numK f 5]? = some c := hc
  have hP' : numK f 5 < P.length := by omega
  have e : c = .int .i64 (P.getD (numK f 5) 0) := by
    simp only [ints, List.getElem?_map, List.getElem?_eq_getElem hP', Option.map_some, Option.some.injEq] at hc'
    rw [← hc', List.getD_eq_getElem?_getD, List.getElem?_eq_getElem hP']; rfl
  subst e
  try simp only [OpK_eq, HKv, take6, List.drop_zero, Int.cast_ofNat_Int, go_sem, ↓reduceIte, Nat.reduceEqDiff, Nat.reduceAdd, Nat.reduceMul, Nat.reduceLeDiff, Nat.reduceLT, Int.reduceLE, Int.reduceLT, reduceCtorEq]
  exact ⟨by omega, Kv.Fin.still ⟨rfl, rfl⟩⟩
/-- The place of a product. -/
def plP (P : List Int) (S : List (List Nat)) (i k : Nat) : Int := P.getD (numK (mul (S.getD i []) (S.getD k [])) 5) 0 - 1
/-- A row by places. -/
def rowP (P : List Int) (S : List (List Nat)) (i y : Nat) : List Int := (List.range y).map fun k => plP P S i k
/-- The table by places. -/
def tabP (P : List Int) (S : List (List Nat)) (x : Nat) : List (List Int) := (List.range x).map fun i => rowP P S i S.length
theorem p156 (W : PV) [Still W] (P : List Int) (hP : P.length = 3125) (S : List (List Nat)) (n : Nat) (hS : ∀ f ∈ S, Ok f n) (hSl : S.length ≤ 300) (hb : ∀ x ∈ P, 0 ≤ x ∧ x ≤ 300) (i k : Nat) (hi : i < S.length) (hk : k < S.length) :
    Pure Tryz.prog 156 [.fptr (moV (.list (aggs (S.map mp))) W P) 0, .int .i64 i, .int .i64 k] (.int .i64 (plP P S i k)) := by
  have oi := hS _ (List.getElem_mem hi)
  have ok := hS _ (List.getElem_mem hk)
  have li := oi.mp_len
  have lk := ok.mp_len
  have gi : (S.map mp).getD i [] = mp S[i] := by simp [List.getD_eq_getElem?_getD, hi]
  have gk : (S.map mp).getD k [] = mp S[k] := by simp [List.getD_eq_getElem?_getD, hk]
  have hml : (moV (.list (aggs (S.map mp))) W P).length = 3127 := by rw [moV, List.length_cons, List.length_cons, ints_length, hP]
  have hm0 : (moV (.list (aggs (S.map mp))) W P)[0]? = some (.list (aggs (S.map mp))) := rfl
  refine e156 (by simp) fun _ _ => ?_
  simp only [k156, argEnv, hml, take6, List.drop_zero, Int.cast_ofNat_Int, go_sem, ↓reduceIte, Nat.reduceEqDiff, Nat.reduceAdd, Nat.reduceMul, Nat.reduceLeDiff, Nat.reduceLT, Int.reduceLE, Int.reduceLT, reduceCtorEq]
  try simp only [hml, hm0, gi, gk, li, lk, aggs_length, List.length_map, take6, List.drop_zero, Int.cast_ofNat_Int, go_sem, ↓reduceIte, Nat.reduceEqDiff, Nat.reduceAdd, Nat.reduceMul, Nat.reduceLeDiff, Nat.reduceLT, Int.reduceLE, Int.reduceLT, reduceCtorEq]
  refine ⟨by omega, fun _ => ⟨by omega, fun _ => ?_⟩⟩
  refine (p118 S[i] S[k] n oi ok).pgo ?_
  try simp only [OpK_eq, HKv, take6, List.drop_zero, Int.cast_ofNat_Int, go_sem, ↓reduceIte, Nat.reduceEqDiff, Nat.reduceAdd, Nat.reduceMul, Nat.reduceLeDiff, Nat.reduceLT, Int.reduceLE, Int.reduceLT, reduceCtorEq]
  refine (p155 (.list (aggs (S.map mp))) W P hP (mul S[i] S[k]) n (oi.mul ok) hb).pgo ?_
  try simp only [OpK_eq, HKv, take6, List.drop_zero, Int.cast_ofNat_Int, go_sem, ↓reduceIte, Nat.reduceEqDiff, Nat.reduceAdd, Nat.reduceMul, Nat.reduceLeDiff, Nat.reduceLT, Int.reduceLE, Int.reduceLT, reduceCtorEq]
  refine Kv.Fin.still ⟨?_, rfl⟩
  have si : S.getD i [] = S[i] := by simp [List.getD_eq_getElem?_getD, hi]
  have sk : S.getD k [] = S[k] := by simp [List.getD_eq_getElem?_getD, hk]
  rw [plP, si, sk]
theorem p101N (W : PV) [Still W] (P : List Int) (hP : P.length = 3125) (S : List (List Nat)) (n : Nat) (hS : ∀ f ∈ S, Ok f n) (hSl : S.length ≤ 300) (hb : ∀ x ∈ P, 0 ≤ x ∧ x ≤ 300) :
    ACall Tryz.prog 101 [.fptr (moV (.list (aggs (S.map mp))) W P) 0] [] (fun v s => TabN 25 2 s v (tabP P S S.length) ∧ Free s) := by
  have hml : (moV (.list (aggs (S.map mp))) W P).length = 3127 := by rw [moV, List.length_cons, List.length_cons, ints_length, hP]
  have hm0 : (moV (.list (aggs (S.map mp))) W P)[0]? = some (.list (aggs (S.map mp))) := rfl
  refine e101 (by simp) fun _ _ => ?_
  simp only [k101, argEnv, hml, take6, List.drop_zero, Int.cast_ofNat_Int, go_sem, ↓reduceIte, Nat.reduceEqDiff, Nat.reduceAdd, Nat.reduceMul, Nat.reduceLeDiff, Nat.reduceLT, Int.reduceLE, Int.reduceLT, reduceCtorEq]
  try simp only [hml, hm0, aggs_length, List.length_map, take6, List.drop_zero, Int.cast_ofNat_Int, go_sem, ↓reduceIte, Nat.reduceEqDiff, Nat.reduceAdd, Nat.reduceMul, Nat.reduceLeDiff, Nat.reduceLT, Int.reduceLE, Int.reduceLT, reduceCtorEq]
  generalize hV : moV (.list (aggs (S.map mp))) W P = V at *
  have hsV : StillL V := by rw [← hV]; infer_instance
  refine KL_ind k101_b1.eq_1 (fun y : Nat × PV × Heap => [(0, .fptr V 0), (3, y.2.1), (11, .int .i64 S.length), (12, .int .i64 y.1)]) (fun y => y.2.2) (fun y => y.1 ≤ S.length ∧ TabN 25 2 y.2.2 y.2.1 (tabP P S y.1) ∧ Free y.2.2) (fun y => S.length - y.1) [0, 3, 11, 12] (0, .nils, []) (by simp [keep]) rfl ⟨Nat.zero_le _, .nil, .nil⟩ fun ⟨x, v, σ⟩ ⟨hx, hT, hF⟩ ih => ?_
  simp only at hx hT hF
  try simp only [hml, hm0, aggs_length, List.length_map, take6, List.drop_zero, Int.cast_ofNat_Int, go_sem, ↓reduceIte, Nat.reduceEqDiff, Nat.reduceAdd, Nat.reduceMul, Nat.reduceLeDiff, Nat.reduceLT, Int.reduceLE, Int.reduceLT, reduceCtorEq]
  refine ⟨fun g1 => ?_, fun g1 => ?_⟩
  · have hxl : x < S.length := by omega
    refine KL_ind k101_b0.eq_1 (fun y : Nat => [(0, .fptr V 0), (3, v), (4, .int .i64 x), (5, nref σ.length y), (11, .int .i64 S.length), (12, .int .i64 x), (19, .int .i64 S.length), (20, .int .i64 y)]) (fun y => σ ++ nhp [.arr (y - 1) 2 1 (ints (rowP P S x y))] y) (fun y => y ≤ S.length) (fun y => S.length - y) [0, 3, 4, 5, 11, 12, 19, 20] 0 (by simp [keep]; try rfl) (by simp [nhp]) (Nat.zero_le _) fun y hy ihy => ?_
    have hnew := hp_new (rfl : σ.length = σ.length)
    have hset := hp_setn (rfl : σ.length = σ.length)
    have hps : rowP P S x (y + 1) = rowP P S x y ++ [plP P S x y] := by simp [rowP, List.range_succ]
    have hl : (rowP P S x y).length = y := by simp [rowP]
    try simp only [List.append_nil, take6, List.drop_zero, Int.cast_ofNat_Int, go_sem, ↓reduceIte, Nat.reduceEqDiff, Nat.reduceAdd, Nat.reduceMul, Nat.reduceLeDiff, Nat.reduceLT, Int.reduceLE, Int.reduceLT, reduceCtorEq]
    refine ⟨fun g2 => ?_, fun g2 => ?_⟩
    · have hyl : y < S.length := by omega
      have hpr := p156 W P hP S n hS hSl hb x y hxl hyl
      rw [hV] at hpr
      refine hpr.go ?_
      rcases y with _ | y
      · try simp only [List.append_nil, take6, List.drop_zero, Int.cast_ofNat_Int, go_sem, ↓reduceIte, Nat.reduceEqDiff, Nat.reduceAdd, Nat.reduceMul, Nat.reduceLeDiff, Nat.reduceLT, Int.reduceLE, Int.reduceLT, reduceCtorEq]
        refine ⟨by omega, ihy 1 (by omega) (by omega) _ _ (by rfl) ?_⟩
        rfl
      · have hnw : ∀ o, (σ ++ [o])[σ.length]? = some o := hnew
        try simp only [hnew, hset, hl, take6, List.drop_zero, Int.cast_ofNat_Int, go_sem, ↓reduceIte, Nat.reduceEqDiff, Nat.reduceAdd, Nat.reduceMul, Nat.reduceLeDiff, Nat.reduceLT, Int.reduceLE, Int.reduceLT, reduceCtorEq]
        repeat' (first | refine And.intro ?_ ?_ | intro _)
        all_goals (try omega)
        refine ihy (y + 1 + 1) (by omega) (by omega) _ _ (by rfl) ?_
        rw [List.take_of_length_le (by omega), hps]
        rfl
    · obtain rfl : y = S.length := by omega
      rw [nref_pos (by omega), nhp_pos (by omega)]
      try simp only [OpK_eq, take6, List.drop_zero, Int.cast_ofNat_Int, go_sem, ↓reduceIte, Nat.reduceEqDiff, Nat.reduceAdd, Nat.reduceMul, Nat.reduceLeDiff, Nat.reduceLT, Int.reduceLE, Int.reduceLT, reduceCtorEq]
      refine hT.pushRow hF (rowP P S x S.length) (by simp [rowP]) (by simp [tabP]; omega) fun v' σ' hT' hf' => ?_
      try simp only [OpK_eq, take6, List.drop_zero, Int.cast_ofNat_Int, go_sem, ↓reduceIte, Nat.reduceEqDiff, Nat.reduceAdd, Nat.reduceMul, Nat.reduceLeDiff, Nat.reduceLT, Int.reduceLE, Int.reduceLT, reduceCtorEq]
      have e : tabP P S (x + 1) = tabP P S x ++ [rowP P S x S.length] := by simp [tabP, List.range_succ]
      exact ⟨by omega, ih (x + 1, v', σ') ⟨by show x + 1 ≤ S.length; omega, by show TabN _ _ σ' v' (tabP P S (x + 1)); rw [e]; exact hT', hf'⟩ (by show S.length - (x + 1) < S.length - x; omega) _ _ (by simp [keep]) rfl⟩
  · obtain rfl : x = S.length := by omega
    try simp only [OpK_eq, HKv, take6, List.drop_zero, Int.cast_ofNat_Int, go_sem, ↓reduceIte, Nat.reduceEqDiff, Nat.reduceAdd, Nat.reduceMul, Nat.reduceLeDiff, Nat.reduceLT, Int.reduceLE, Int.reduceLT, reduceCtorEq]
    exact Kv.Fin.now ⟨hT, hF⟩
theorem p101 (W : PV) [Still W] (P : List Int) (hP : P.length = 3125) (S : List (List Nat)) (n : Nat) (hS : ∀ f ∈ S, Ok f n) (hSl : S.length ≤ 300) (hb : ∀ x ∈ P, 0 ≤ x ∧ x ≤ 300) :
    Pure Tryz.prog 101 [.fptr (moV (.list (aggs (S.map mp))) W P) 0] (.list (rows (tabP P S S.length))) :=
  ACall.ret (p101N W P hP S n hS hSl hb) fun v s ⟨hT, _⟩ => Kv.Fin.freeze hT.imm ⟨rfl, rfl⟩
end Go.Proofs.YtpfapiiinkkcgaaGreat
end
section
/- Places that tell the elements: both tables are one. -/
namespace Go.Proofs.YtpfapiiinkkcgaaGreat
open Go.Kv
set_option linter.unusedVariables false
set_option linter.unusedSimpArgs false
attribute [local irreducible] ACall PCall KL
/-- The places are those of the elements. -/
def PlOk (n : Nat) (P : List Int) (S : List (List Nat)) : Prop := P.length = 3125 ∧ (∀ x ∈ P, 0 ≤ x ∧ x ≤ 300) ∧ ∀ f, Ok f n → P.getD (numK f 5) 0 - 1 = plM n S f
theorem tabP_eq {n : Nat} {P : List Int} {S : List (List Nat)} (h : PlOk n P S) (hS : ∀ f ∈ S, Ok f n) : tabP P S S.length = tabM n S := by
  have hg : ∀ i, (hi : i < S.length) → S.getD i [] = S[i] := fun i hi => by simp [List.getD_eq_getElem?_getD, hi]
  refine List.ext_getElem (by simp [tabP, tabM]) fun i h1 h2 => ?_
  have hi : i < S.length := by simpa [tabP] using h1
  simp only [tabP, tabM, List.getElem_map, List.getElem_range]
  refine List.ext_getElem (by simp [rowP, rowM]) fun k h3 h4 => ?_
  have hk : k < S.length := by simpa [rowP] using h3
  simp only [rowP, rowM, List.getElem_map, List.getElem_range, plP, hg i hi, hg k hk]
  exact h.2.2 _ ((hS _ (List.getElem_mem hi)).mul (hS _ (List.getElem_mem hk)))
end Go.Proofs.YtpfapiiinkkcgaaGreat
end
section
/- monoidOf, once newMonoid's contract is known. -/
namespace Go.Proofs.YtpfapiiinkkcgaaGreat
open Go.Kv
set_option maxRecDepth 100000
/- impl.monoidOf -/
/- live [8, 10, 32, 33, 34] -/
def k100_b0 : KC := (.seq (.ops [⟨(some 35), none, .bin .lss (.t 34) (.t 33)⟩])
  (.seq (.cond (.t 35) .skip (.exit 0))
  (.seq (.block 1 (.seq (.ops [⟨(some 36), none, .idxS 6 (.t 32) (.t 34)⟩, ⟨(some 37), none, .load true 6 (.t 36)⟩, ⟨(some 12), none, .alloc [.int .i64 0, .int .i64 0, .int .i64 0, .int .i64 0, .int .i64 0, .int .i64 0]⟩, ⟨none, none, .store 6 (.t 12) (.t 37)⟩])
  (.seq (.ops [⟨(some 38), none, .mv (.t 8)⟩, ⟨(some 39), none, .load true 6 (.t 12)⟩, ⟨(some 40), none, .call (.c (.fn (.func 155) [] [])) [(.t 38), (.t 39)]⟩, ⟨(some 13), none, .mv (.t 40)⟩])
  (.seq (.seq (.ops [⟨(some 41), none, .mv (.t 13)⟩, ⟨(some 42), none, .bin .lss (.t 41) (.c (.int .i64 0))⟩])
  (.cond (.t 42) (.seq (.ops [⟨(some 4), none, .mv (.c (.nilptr))⟩, ⟨(some 5), none, .mv (.c (.nils))⟩, ⟨(some 6), none, .mv (.c (.int .i64 4))⟩])
  .ret) .skip))
  (.ops [⟨(some 43), none, .mv (.t 10)⟩, ⟨(some 44), none, .mv (.t 13)⟩, ⟨(some 45), none, .bsl true 3 1 [(.t 44)]⟩, ⟨(some 46), none, .app (.t 43) (.t 45) 3 1⟩, ⟨(some 10), none, .mv (.t 46)⟩])))))
  (.ops [⟨(some 47), none, .bin .add (.t 34) (.c (.int .i64 1))⟩, ⟨(some 34), none, .mv (.t 47)⟩]))))
def k100 : KC := (.seq (.ops [⟨(some 4), none, .mv (.c (.nilptr))⟩, ⟨(some 5), none, .mv (.c (.nils))⟩, ⟨(some 6), none, .mv (.c (.int .i64 0))⟩])
  (.seq (.seq (.ops [⟨(some 14), none, .mv (.t 0)⟩, ⟨(some 15), none, .mv (.t 1)⟩, ⟨(some 16), none, .call (.c (.fn (.func 153) [] [])) [(.t 14), (.t 15)]⟩, ⟨(some 7), none, .mv (.t 16)⟩])
  (.seq (.ops [⟨(some 17), none, .mv (.t 7)⟩, ⟨(some 18), none, .bin .neq (.t 17) (.c (.int .i64 0))⟩])
  (.cond (.t 18) (.seq (.ops [⟨(some 19), none, .mv (.t 7)⟩, ⟨(some 4), none, .mv (.c (.nilptr))⟩, ⟨(some 5), none, .mv (.c (.nils))⟩, ⟨(some 6), none, .mv (.t 19)⟩])
  .ret) .skip)))
  (.seq (.ops [⟨(some 21), none, .mv (.t 0)⟩, ⟨(some 22), none, .mv (.t 0)⟩, ⟨(some 23), none, .idxS 6 (.t 22) (.c (.int .i64 0))⟩, ⟨(some 24), none, .fieldA 0 (.t 23)⟩, ⟨(some 25), none, .load false 1 (.t 24)⟩, ⟨(some 26), none, .call (.c (.fn (.func 154) [] [])) [(.t 21), (.t 25)]⟩, ⟨(some 20), none, .mv (.t 26)⟩, ⟨(some 27), none, .extr 0 (.t 20)⟩, ⟨(some 28), none, .extr 1 (.t 20)⟩, ⟨(some 8), none, .mv (.t 27)⟩, ⟨(some 9), none, .mv (.t 28)⟩])
  (.seq (.seq (.ops [⟨(some 29), none, .mv (.t 9)⟩, ⟨(some 30), none, .bin .neq (.t 29) (.c (.int .i64 0))⟩])
  (.cond (.t 30) (.seq (.ops [⟨(some 31), none, .mv (.t 9)⟩, ⟨(some 4), none, .mv (.c (.nilptr))⟩, ⟨(some 5), none, .mv (.c (.nils))⟩, ⟨(some 6), none, .mv (.t 31)⟩])
  .ret) .skip))
  (.seq (.ops [⟨(some 10), none, .mv (.c (.nils))⟩])
  (.seq (.seq (.ops [⟨(some 32), none, .mv (.t 1)⟩, ⟨(some 33), none, .len false (.t 32)⟩, ⟨(some 34), none, .mv (.c (.int .i64 0))⟩])
  (.block 0 (.loop k100_b0)))
  (.seq (.ops [⟨(some 48), none, .mv (.t 8)⟩, ⟨(some 49), none, .mv (.t 10)⟩, ⟨(some 4), none, .mv (.t 48)⟩, ⟨(some 5), none, .mv (.t 49)⟩, ⟨(some 6), none, .mv (.c (.int .i64 0))⟩])
  .ret)))))))
theorem e100 {args : List PV} {σ : Heap} {K : PV → Heap → Prop} (hl : args.length ≤ 50) (h : Wf σ → (∀ a ∈ args, PV.upto σ.length a) → vc (mkCfg Tryz.prog mixed [45] 50 σ.length) k100 (FinK σ.length [.t 4, .t 5, .t 6] K) (argEnv 0 args) σ) : ACall Tryz.prog 100 args σ K :=
  ACall_enter (C := mkCfg Tryz.prog mixed [45] 50 σ.length) (c := Tryz.f100.body.getD .skip) Tryz.func100 (by kernel_rfl) (by kernel_rfl) (by kernel_rfl) rfl hl (by kernel_rfl) (by kernel_rfl) h
/- impl.TableOf -/
def k29 : KC := (.seq (.ops [⟨(some 2), none, .mv (.c (.nils))⟩, ⟨(some 3), none, .mv (.c (.int .i64 0))⟩])
  (.seq (.ops [⟨(some 8), none, .mv (.t 0)⟩, ⟨(some 9), none, .call (.c (.fn (.func 100) [] [])) [(.t 8), (.c (.nils))]⟩, ⟨(some 7), none, .mv (.t 9)⟩, ⟨(some 10), none, .extr 0 (.t 7)⟩, ⟨(some 11), none, .extr 1 (.t 7)⟩, ⟨(some 12), none, .extr 2 (.t 7)⟩, ⟨(some 4), none, .mv (.t 10)⟩, ⟨(some 5), none, .mv (.t 11)⟩, ⟨(some 6), none, .mv (.t 12)⟩])
  (.seq (.block 0 (.seq (.ops [⟨(some 14), none, .mv (.t 6)⟩, ⟨(some 15), none, .bin .neq (.t 14) (.c (.int .i64 0))⟩, ⟨(some 13), none, .mv (.t 15)⟩])
  (.cond (.t 13) (.seq (.ops [⟨(some 16), none, .mv (.t 6)⟩, ⟨(some 2), none, .mv (.c (.nils))⟩, ⟨(some 3), none, .mv (.t 16)⟩])
  .ret) (.seq (.ops [⟨(some 18), none, .mv (.t 4)⟩, ⟨(some 19), none, .nilck (.t 18)⟩, ⟨(some 20), none, .fieldA 0 (.t 19)⟩, ⟨(some 21), none, .load false 1 (.t 20)⟩, ⟨(some 22), none, .len false (.t 21)⟩, ⟨(some 23), none, .bin .gtr (.t 22) (.c (.int .i64 40))⟩, ⟨(some 17), none, .mv (.t 23)⟩])
  (.cond (.t 17) (.seq (.ops [⟨(some 2), none, .mv (.c (.nils))⟩, ⟨(some 3), none, .mv (.c (.int .i64 3))⟩])
  .ret) .skip)))))
  (.seq (.ops [⟨(some 24), none, .mv (.t 4)⟩, ⟨(some 25), none, .call (.c (.fn (.func 101) [] [])) [(.t 24)]⟩, ⟨(some 2), none, .mv (.t 25)⟩, ⟨(some 3), none, .mv (.c (.int .i64 0))⟩])
  .ret))))
theorem e29 {args : List PV} {σ : Heap} {K : PV → Heap → Prop} (hl : args.length ≤ 26) (h : Wf σ → (∀ a ∈ args, PV.upto σ.length a) → vc (mkCfg Tryz.prog mixed [] 26 σ.length) k29 (FinK σ.length [.t 2, .t 3] K) (argEnv 0 args) σ) : ACall Tryz.prog 29 args σ K :=
  ACall_enter (C := mkCfg Tryz.prog mixed [] 26 σ.length) (c := Tryz.f29.body.getD .skip) Tryz.func29 (by kernel_rfl) (by kernel_rfl) (by kernel_rfl) rfl hl (by kernel_rfl) (by kernel_rfl) h
end Go.Proofs.YtpfapiiinkkcgaaGreat
namespace Go.Proofs.YtpfapiiinkkcgaaGreat
open Go.Kv
set_option linter.unusedVariables false
set_option linter.unusedSimpArgs false
attribute [local irreducible] ACall PCall KL
theorem p100_of (fs : List (List Nat)) (n : Nat) (hf : ∀ f ∈ fs, Ok f n) (h0 : 0 < fs.length) (hfl : fs.length ≤ 6) (hl : lcode (fs.map mp) [] = 0) (m : PV) [Still m] (c : Int)
    (hM : Pure Tryz.prog 154 [.list (aggs (fs.map mp)), .int .i64 n] (.tup [m, .int .i64 c])) :
    Pure Tryz.prog 100 [.list (aggs (fs.map mp)), .nils] (if c = 0 then .tup [m, .nils, .int .i64 0] else .tup [.nilptr, .nils, .int .i64 c]) := by
  have hk := hf _ (List.getElem_mem h0)
  have h6k := hk.mp_len
  have hn : (mp fs[0]).getD 0 0 = (n : Int) := by simp [mp, mpN, hk.len]
  refine e100 (by simp) fun _ _ => ?_
  simp only [k100, argEnv, take6, List.drop_zero, Int.cast_ofNat_Int, go_sem, ↓reduceIte, Nat.reduceEqDiff, Nat.reduceAdd, Nat.reduceMul, Nat.reduceLeDiff, Nat.reduceLT, Int.reduceLE, Int.reduceLT, reduceCtorEq]
  refine (p153 _ (fs.map mp) [] .nil (by simp; omega) (by simp) (fun r hr => by obtain ⟨f, hf', rfl⟩ := List.mem_map.1 hr; exact (hf f hf').mp_len) (by simp)).go ?_
  rw [hl]
  try simp only [OpK_eq, HKv, map_getD h0, h6k, hn, List.length_map, take6, List.drop_zero, Int.cast_ofNat_Int, go_sem, ↓reduceIte, Nat.reduceEqDiff, Nat.reduceAdd, Nat.reduceMul, Nat.reduceLeDiff, Nat.reduceLT, Int.reduceLE, Int.reduceLT, reduceCtorEq]
  refine ⟨by omega, fun _ => ?_⟩
  refine hM.go ?_
  try simp only [OpK_eq, HKv, take6, List.drop_zero, Int.cast_ofNat_Int, go_sem, ↓reduceIte, Nat.reduceEqDiff, Nat.reduceAdd, Nat.reduceMul, Nat.reduceLeDiff, Nat.reduceLT, Int.reduceLE, Int.reduceLT, reduceCtorEq]
  refine ⟨fun g1 => ?_, fun g1 => ?_⟩
  · rw [if_neg (by omega)]
    exact Kv.Fin.still ⟨rfl, rfl⟩
  · refine KL_ind k100_b0.eq_1 (fun y : Nat => [(8, m), (10, .nils), (32, .nils), (33, .int .i64 0), (34, .int .i64 0)]) (fun _ => []) (fun y => True) (fun y => 0) [8, 10, 32, 33, 34] 0 (by simp [keep]) rfl trivial fun y _ ih => ?_
    try simp only [OpK_eq, HKv, take6, List.drop_zero, Int.cast_ofNat_Int, go_sem, ↓reduceIte, Nat.reduceEqDiff, Nat.reduceAdd, Nat.reduceMul, Nat.reduceLeDiff, Nat.reduceLT, Int.reduceLE, Int.reduceLT, reduceCtorEq]
    rw [if_pos (by omega)]
    exact Kv.Fin.still ⟨rfl, rfl⟩
/-- What newMonoid owes. -/
def MonOk (fs : List (List Nat)) (n : Nat) : Prop := match clR fs n with
  | none => Pure Tryz.prog 154 [.list (aggs (fs.map mp)), .int .i64 n] (.tup [.nilptr, .int .i64 3])
  | some Q => ∃ W P, Still W ∧ PlOk n P (elS n Q) ∧ Pure Tryz.prog 154 [.list (aggs (fs.map mp)), .int .i64 n] (.tup [.fptr (moV (.list (aggs ((elS n Q).map mp))) W P) 0, .int .i64 0])
set_option maxRecDepth 8000 in
theorem p29_of (fs : List (List Nat)) (n : Nat) (h1 : 1 ≤ n) (h5 : n ≤ 5) (hf : ∀ f ∈ fs, Ok f n) (h0 : 0 < fs.length) (hfl : fs.length ≤ 6) (hl : lcode (fs.map mp) [] = 0) (hM : MonOk fs n) :
    Pure Tryz.prog 29 [.list (aggs (fs.map mp))] (match clR fs n with | none => .tup [.nils, .int .i64 3] | some Q => if 40 < (elS n Q).length then .tup [.nils, .int .i64 3] else .tup [.list (rows (tabM n (elS n Q))), .int .i64 0]) := by
  unfold MonOk at hM
  cases hR : clR fs n with
  | none =>
    rw [hR] at hM
    simp only at hM ⊢
    have hE := p100_of fs n hf h0 hfl hl _ _ hM
    rw [if_neg (by decide)] at hE
    refine e29 (by simp) fun _ _ => ?_
    simp only [k29, argEnv, take6, List.drop_zero, Int.cast_ofNat_Int, go_sem, ↓reduceIte, Nat.reduceEqDiff, Nat.reduceAdd, Nat.reduceMul, Nat.reduceLeDiff, Nat.reduceLT, Int.reduceLE, Int.reduceLT, reduceCtorEq]
    refine hE.go ?_
    try simp only [OpK_eq, HKv, take6, List.drop_zero, Int.cast_ofNat_Int, go_sem, ↓reduceIte, Nat.reduceEqDiff, Nat.reduceAdd, Nat.reduceMul, Nat.reduceLeDiff, Nat.reduceLT, Int.reduceLE, Int.reduceLT, reduceCtorEq]
    exact ⟨fun _ => Kv.Fin.still ⟨rfl, rfl⟩, fun h => absurd h (by decide)⟩
  | some Q =>
    rw [hR] at hM
    simp only at hM ⊢
    obtain ⟨W, P, hW, hP, hM⟩ := hM
    obtain ⟨c3, c4⟩ := clB_okQ h1 h5 hf _ _ hR
    obtain ⟨s1, s2, s3⟩ := elS_ok c3
    have hE := p100_of fs n hf h0 hfl hl _ _ hM
    rw [if_pos rfl] at hE
    have hT := p101 W P hP.1 (elS n Q) n s1.1 (by omega) hP.2.1
    rw [tabP_eq hP s1.1] at hT
    have hml : (moV (.list (aggs ((elS n Q).map mp))) W P).length = 3127 := by rw [moV, List.length_cons, List.length_cons, ints_length, hP.1]
    have hm0 : (moV (.list (aggs ((elS n Q).map mp))) W P)[0]? = some (.list (aggs ((elS n Q).map mp))) := rfl
    refine e29 (by simp) fun _ _ => ?_
    simp only [k29, argEnv, take6, List.drop_zero, Int.cast_ofNat_Int, go_sem, ↓reduceIte, Nat.reduceEqDiff, Nat.reduceAdd, Nat.reduceMul, Nat.reduceLeDiff, Nat.reduceLT, Int.reduceLE, Int.reduceLT, reduceCtorEq]
    refine hE.go ?_
    try simp only [OpK_eq, HKv, hml, hm0, aggs_length, List.length_map, take6, List.drop_zero, Int.cast_ofNat_Int, go_sem, ↓reduceIte, Nat.reduceEqDiff, Nat.reduceAdd, Nat.reduceMul, Nat.reduceLeDiff, Nat.reduceLT, Int.reduceLE, Int.reduceLT, reduceCtorEq]
    refine ⟨fun g1 => ?_, fun g1 => ?_⟩
    · rw [if_pos (by omega)]
      exact Kv.Fin.still ⟨rfl, rfl⟩
    · rw [if_neg (by omega)]
      refine hT.go ?_
      try simp only [OpK_eq, HKv, take6, List.drop_zero, Int.cast_ofNat_Int, go_sem, ↓reduceIte, Nat.reduceEqDiff, Nat.reduceAdd, Nat.reduceMul, Nat.reduceLeDiff, Nat.reduceLT, Int.reduceLE, Int.reduceLT, reduceCtorEq]
      exact Kv.Fin.still ⟨rfl, rfl⟩
end Go.Proofs.YtpfapiiinkkcgaaGreat
end
