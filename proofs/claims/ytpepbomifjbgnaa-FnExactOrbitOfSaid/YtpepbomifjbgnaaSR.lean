/- The search: its walk. -/
import Derived.Test.YtpepbomifjbgnaaCb
import Derived.Test.YtpepbomifjbgnaaSE
import Derived.Test.YtpepbomifjbgnaaPA
namespace Go.Proofs.Ytpepbomifjbgnaa
open Go.Kv
set_option maxRecDepth 100000
/- impl.search -/
/- live [0, 2, 3, 8, 9, 10, 31, 32, 33] -/
def k139_b0 : KC := (.seq (.ops [⟨(some 34), none, .bin .lss (.t 33) (.t 32)⟩])
  (.seq (.cond (.t 34) .skip (.exit 2))
  (.seq (.block 3 (.seq (.ops [⟨(some 35), none, .mv (.t 33)⟩, ⟨(some 36), none, .idxS 6 (.t 31) (.t 33)⟩, ⟨(some 37), none, .load true 6 (.t 36)⟩, ⟨(some 12), none, .alloc [.int .i64 0, .int .i64 0, .int .i64 0, .int .i64 0, .int .i64 0, .int .i64 0]⟩, ⟨(some 11), none, .mv (.t 35)⟩, ⟨none, none, .store 6 (.t 12) (.t 37)⟩])
  (.seq (.ops [⟨(some 38), none, .mv (.t 2)⟩, ⟨(some 39), none, .load true 6 (.t 12)⟩, ⟨(some 40), none, .fieldA 0 (.t 10)⟩, ⟨(some 41), none, .load false 1 (.t 40)⟩, ⟨(some 42), none, .call (.t 38) [(.t 39), (.t 41)]⟩, ⟨(some 13), none, .alloc [.nils]⟩, ⟨none, none, .store 1 (.t 13) (.t 42)⟩])
  (.seq (.ops [⟨(some 43), none, .mv (.t 8)⟩, ⟨(some 44), none, .mkfn (.func 173) [] [(.t 13)]⟩, ⟨(some 45), none, .call (.c (.fn (.func 172) [] [])) [(.t 43), (.t 44)]⟩, ⟨(some 46), none, .not (.t 45)⟩])
  (.cond (.t 46) (.tree (.op ⟨(some 47), none, .mv (.t 8)⟩ (.op ⟨(some 52), none, .mv (.t 11)⟩ (.alt (.op ⟨(some 48), none, .load false 1 (.t 13)⟩ (.alt (.op ⟨(some 49), none, .fieldA 1 (.t 10)⟩ (.alt (.op ⟨(some 50), none, .load false 1 (.t 49)⟩ (.alt (.op ⟨(some 51), none, .call (.c (.fn (.func 132) [] [])) [(.t 50)]⟩ (.op ⟨(some 53), none, .bsl true 2 1 [(.t 52)]⟩ (.op ⟨(some 54), none, .app (.t 51) (.t 53) 2 1⟩ (.op ⟨(some 55), none, .build [.nils, .nils] [(0, 1, (.t 48)), (1, 1, (.t 54))]⟩ (.op ⟨(some 56), none, .bsl true 134 2 [(.t 55)]⟩ (.op ⟨(some 57), none, .app (.t 47) (.t 56) 134 2⟩ (.op ⟨(some 8), none, .mv (.t 57)⟩ .fin))))))) (.op ⟨(some 53), none, .bsl true 2 1 [(.t 52)]⟩ (.op ⟨(some 51), none, .call (.c (.fn (.func 132) [] [])) [(.t 50)]⟩ (.op ⟨(some 54), none, .app (.t 51) (.t 53) 2 1⟩ (.op ⟨(some 55), none, .build [.nils, .nils] [(0, 1, (.t 48)), (1, 1, (.t 54))]⟩ (.op ⟨(some 56), none, .bsl true 134 2 [(.t 55)]⟩ (.op ⟨(some 57), none, .app (.t 47) (.t 56) 134 2⟩ (.op ⟨(some 8), none, .mv (.t 57)⟩ .fin))))))))) (.op ⟨(some 53), none, .bsl true 2 1 [(.t 52)]⟩ (.op ⟨(some 50), none, .load false 1 (.t 49)⟩ (.op ⟨(some 51), none, .call (.c (.fn (.func 132) [] [])) [(.t 50)]⟩ (.op ⟨(some 54), none, .app (.t 51) (.t 53) 2 1⟩ (.op ⟨(some 55), none, .build [.nils, .nils] [(0, 1, (.t 48)), (1, 1, (.t 54))]⟩ (.op ⟨(some 56), none, .bsl true 134 2 [(.t 55)]⟩ (.op ⟨(some 57), none, .app (.t 47) (.t 56) 134 2⟩ (.op ⟨(some 8), none, .mv (.t 57)⟩ .fin)))))))))) (.op ⟨(some 53), none, .bsl true 2 1 [(.t 52)]⟩ (.op ⟨(some 49), none, .fieldA 1 (.t 10)⟩ (.op ⟨(some 50), none, .load false 1 (.t 49)⟩ (.op ⟨(some 51), none, .call (.c (.fn (.func 132) [] [])) [(.t 50)]⟩ (.op ⟨(some 54), none, .app (.t 51) (.t 53) 2 1⟩ (.op ⟨(some 55), none, .build [.nils, .nils] [(0, 1, (.t 48)), (1, 1, (.t 54))]⟩ (.op ⟨(some 56), none, .bsl true 134 2 [(.t 55)]⟩ (.op ⟨(some 57), none, .app (.t 47) (.t 56) 134 2⟩ (.op ⟨(some 8), none, .mv (.t 57)⟩ .fin))))))))))) (.alt (.op ⟨(some 49), none, .fieldA 1 (.t 10)⟩ (.alt (.op ⟨(some 48), none, .load false 1 (.t 13)⟩ (.alt (.op ⟨(some 50), none, .load false 1 (.t 49)⟩ (.alt (.op ⟨(some 51), none, .call (.c (.fn (.func 132) [] [])) [(.t 50)]⟩ (.op ⟨(some 53), none, .bsl true 2 1 [(.t 52)]⟩ (.op ⟨(some 54), none, .app (.t 51) (.t 53) 2 1⟩ (.op ⟨(some 55), none, .build [.nils, .nils] [(0, 1, (.t 48)), (1, 1, (.t 54))]⟩ (.op ⟨(some 56), none, .bsl true 134 2 [(.t 55)]⟩ (.op ⟨(some 57), none, .app (.t 47) (.t 56) 134 2⟩ (.op ⟨(some 8), none, .mv (.t 57)⟩ .fin))))))) (.op ⟨(some 53), none, .bsl true 2 1 [(.t 52)]⟩ (.op ⟨(some 51), none, .call (.c (.fn (.func 132) [] [])) [(.t 50)]⟩ (.op ⟨(some 54), none, .app (.t 51) (.t 53) 2 1⟩ (.op ⟨(some 55), none, .build [.nils, .nils] [(0, 1, (.t 48)), (1, 1, (.t 54))]⟩ (.op ⟨(some 56), none, .bsl true 134 2 [(.t 55)]⟩ (.op ⟨(some 57), none, .app (.t 47) (.t 56) 134 2⟩ (.op ⟨(some 8), none, .mv (.t 57)⟩ .fin))))))))) (.op ⟨(some 53), none, .bsl true 2 1 [(.t 52)]⟩ (.op ⟨(some 50), none, .load false 1 (.t 49)⟩ (.op ⟨(some 51), none, .call (.c (.fn (.func 132) [] [])) [(.t 50)]⟩ (.op ⟨(some 54), none, .app (.t 51) (.t 53) 2 1⟩ (.op ⟨(some 55), none, .build [.nils, .nils] [(0, 1, (.t 48)), (1, 1, (.t 54))]⟩ (.op ⟨(some 56), none, .bsl true 134 2 [(.t 55)]⟩ (.op ⟨(some 57), none, .app (.t 47) (.t 56) 134 2⟩ (.op ⟨(some 8), none, .mv (.t 57)⟩ .fin)))))))))) (.alt (.op ⟨(some 50), none, .load false 1 (.t 49)⟩ (.alt (.op ⟨(some 48), none, .load false 1 (.t 13)⟩ (.alt (.op ⟨(some 51), none, .call (.c (.fn (.func 132) [] [])) [(.t 50)]⟩ (.op ⟨(some 53), none, .bsl true 2 1 [(.t 52)]⟩ (.op ⟨(some 54), none, .app (.t 51) (.t 53) 2 1⟩ (.op ⟨(some 55), none, .build [.nils, .nils] [(0, 1, (.t 48)), (1, 1, (.t 54))]⟩ (.op ⟨(some 56), none, .bsl true 134 2 [(.t 55)]⟩ (.op ⟨(some 57), none, .app (.t 47) (.t 56) 134 2⟩ (.op ⟨(some 8), none, .mv (.t 57)⟩ .fin))))))) (.op ⟨(some 53), none, .bsl true 2 1 [(.t 52)]⟩ (.op ⟨(some 51), none, .call (.c (.fn (.func 132) [] [])) [(.t 50)]⟩ (.op ⟨(some 54), none, .app (.t 51) (.t 53) 2 1⟩ (.op ⟨(some 55), none, .build [.nils, .nils] [(0, 1, (.t 48)), (1, 1, (.t 54))]⟩ (.op ⟨(some 56), none, .bsl true 134 2 [(.t 55)]⟩ (.op ⟨(some 57), none, .app (.t 47) (.t 56) 134 2⟩ (.op ⟨(some 8), none, .mv (.t 57)⟩ .fin))))))))) (.alt (.op ⟨(some 51), none, .call (.c (.fn (.func 132) [] [])) [(.t 50)]⟩ (.alt (.op ⟨(some 48), none, .load false 1 (.t 13)⟩ (.op ⟨(some 53), none, .bsl true 2 1 [(.t 52)]⟩ (.op ⟨(some 54), none, .app (.t 51) (.t 53) 2 1⟩ (.op ⟨(some 55), none, .build [.nils, .nils] [(0, 1, (.t 48)), (1, 1, (.t 54))]⟩ (.op ⟨(some 56), none, .bsl true 134 2 [(.t 55)]⟩ (.op ⟨(some 57), none, .app (.t 47) (.t 56) 134 2⟩ (.op ⟨(some 8), none, .mv (.t 57)⟩ .fin))))))) (.op ⟨(some 53), none, .bsl true 2 1 [(.t 52)]⟩ (.alt (.op ⟨(some 48), none, .load false 1 (.t 13)⟩ (.op ⟨(some 54), none, .app (.t 51) (.t 53) 2 1⟩ (.op ⟨(some 55), none, .build [.nils, .nils] [(0, 1, (.t 48)), (1, 1, (.t 54))]⟩ (.op ⟨(some 56), none, .bsl true 134 2 [(.t 55)]⟩ (.op ⟨(some 57), none, .app (.t 47) (.t 56) 134 2⟩ (.op ⟨(some 8), none, .mv (.t 57)⟩ .fin)))))) (.op ⟨(some 54), none, .app (.t 51) (.t 53) 2 1⟩ (.op ⟨(some 48), none, .load false 1 (.t 13)⟩ (.op ⟨(some 55), none, .build [.nils, .nils] [(0, 1, (.t 48)), (1, 1, (.t 54))]⟩ (.op ⟨(some 56), none, .bsl true 134 2 [(.t 55)]⟩ (.op ⟨(some 57), none, .app (.t 47) (.t 56) 134 2⟩ (.op ⟨(some 8), none, .mv (.t 57)⟩ .fin)))))))))) (.op ⟨(some 53), none, .bsl true 2 1 [(.t 52)]⟩ (.alt (.op ⟨(some 48), none, .load false 1 (.t 13)⟩ (.op ⟨(some 51), none, .call (.c (.fn (.func 132) [] [])) [(.t 50)]⟩ (.op ⟨(some 54), none, .app (.t 51) (.t 53) 2 1⟩ (.op ⟨(some 55), none, .build [.nils, .nils] [(0, 1, (.t 48)), (1, 1, (.t 54))]⟩ (.op ⟨(some 56), none, .bsl true 134 2 [(.t 55)]⟩ (.op ⟨(some 57), none, .app (.t 47) (.t 56) 134 2⟩ (.op ⟨(some 8), none, .mv (.t 57)⟩ .fin))))))) (.op ⟨(some 51), none, .call (.c (.fn (.func 132) [] [])) [(.t 50)]⟩ (.alt (.op ⟨(some 48), none, .load false 1 (.t 13)⟩ (.op ⟨(some 54), none, .app (.t 51) (.t 53) 2 1⟩ (.op ⟨(some 55), none, .build [.nils, .nils] [(0, 1, (.t 48)), (1, 1, (.t 54))]⟩ (.op ⟨(some 56), none, .bsl true 134 2 [(.t 55)]⟩ (.op ⟨(some 57), none, .app (.t 47) (.t 56) 134 2⟩ (.op ⟨(some 8), none, .mv (.t 57)⟩ .fin)))))) (.op ⟨(some 54), none, .app (.t 51) (.t 53) 2 1⟩ (.op ⟨(some 48), none, .load false 1 (.t 13)⟩ (.op ⟨(some 55), none, .build [.nils, .nils] [(0, 1, (.t 48)), (1, 1, (.t 54))]⟩ (.op ⟨(some 56), none, .bsl true 134 2 [(.t 55)]⟩ (.op ⟨(some 57), none, .app (.t 47) (.t 56) 134 2⟩ (.op ⟨(some 8), none, .mv (.t 57)⟩ .fin))))))))))))) (.op ⟨(some 53), none, .bsl true 2 1 [(.t 52)]⟩ (.alt (.op ⟨(some 48), none, .load false 1 (.t 13)⟩ (.op ⟨(some 50), none, .load false 1 (.t 49)⟩ (.op ⟨(some 51), none, .call (.c (.fn (.func 132) [] [])) [(.t 50)]⟩ (.op ⟨(some 54), none, .app (.t 51) (.t 53) 2 1⟩ (.op ⟨(some 55), none, .build [.nils, .nils] [(0, 1, (.t 48)), (1, 1, (.t 54))]⟩ (.op ⟨(some 56), none, .bsl true 134 2 [(.t 55)]⟩ (.op ⟨(some 57), none, .app (.t 47) (.t 56) 134 2⟩ (.op ⟨(some 8), none, .mv (.t 57)⟩ .fin)))))))) (.op ⟨(some 50), none, .load false 1 (.t 49)⟩ (.alt (.op ⟨(some 48), none, .load false 1 (.t 13)⟩ (.op ⟨(some 51), none, .call (.c (.fn (.func 132) [] [])) [(.t 50)]⟩ (.op ⟨(some 54), none, .app (.t 51) (.t 53) 2 1⟩ (.op ⟨(some 55), none, .build [.nils, .nils] [(0, 1, (.t 48)), (1, 1, (.t 54))]⟩ (.op ⟨(some 56), none, .bsl true 134 2 [(.t 55)]⟩ (.op ⟨(some 57), none, .app (.t 47) (.t 56) 134 2⟩ (.op ⟨(some 8), none, .mv (.t 57)⟩ .fin))))))) (.op ⟨(some 51), none, .call (.c (.fn (.func 132) [] [])) [(.t 50)]⟩ (.alt (.op ⟨(some 48), none, .load false 1 (.t 13)⟩ (.op ⟨(some 54), none, .app (.t 51) (.t 53) 2 1⟩ (.op ⟨(some 55), none, .build [.nils, .nils] [(0, 1, (.t 48)), (1, 1, (.t 54))]⟩ (.op ⟨(some 56), none, .bsl true 134 2 [(.t 55)]⟩ (.op ⟨(some 57), none, .app (.t 47) (.t 56) 134 2⟩ (.op ⟨(some 8), none, .mv (.t 57)⟩ .fin)))))) (.op ⟨(some 54), none, .app (.t 51) (.t 53) 2 1⟩ (.op ⟨(some 48), none, .load false 1 (.t 13)⟩ (.op ⟨(some 55), none, .build [.nils, .nils] [(0, 1, (.t 48)), (1, 1, (.t 54))]⟩ (.op ⟨(some 56), none, .bsl true 134 2 [(.t 55)]⟩ (.op ⟨(some 57), none, .app (.t 47) (.t 56) 134 2⟩ (.op ⟨(some 8), none, .mv (.t 57)⟩ .fin))))))))))))))) (.op ⟨(some 53), none, .bsl true 2 1 [(.t 52)]⟩ (.alt (.op ⟨(some 48), none, .load false 1 (.t 13)⟩ (.op ⟨(some 49), none, .fieldA 1 (.t 10)⟩ (.op ⟨(some 50), none, .load false 1 (.t 49)⟩ (.op ⟨(some 51), none, .call (.c (.fn (.func 132) [] [])) [(.t 50)]⟩ (.op ⟨(some 54), none, .app (.t 51) (.t 53) 2 1⟩ (.op ⟨(some 55), none, .build [.nils, .nils] [(0, 1, (.t 48)), (1, 1, (.t 54))]⟩ (.op ⟨(some 56), none, .bsl true 134 2 [(.t 55)]⟩ (.op ⟨(some 57), none, .app (.t 47) (.t 56) 134 2⟩ (.op ⟨(some 8), none, .mv (.t 57)⟩ .fin))))))))) (.op ⟨(some 49), none, .fieldA 1 (.t 10)⟩ (.alt (.op ⟨(some 48), none, .load false 1 (.t 13)⟩ (.op ⟨(some 50), none, .load false 1 (.t 49)⟩ (.op ⟨(some 51), none, .call (.c (.fn (.func 132) [] [])) [(.t 50)]⟩ (.op ⟨(some 54), none, .app (.t 51) (.t 53) 2 1⟩ (.op ⟨(some 55), none, .build [.nils, .nils] [(0, 1, (.t 48)), (1, 1, (.t 54))]⟩ (.op ⟨(some 56), none, .bsl true 134 2 [(.t 55)]⟩ (.op ⟨(some 57), none, .app (.t 47) (.t 56) 134 2⟩ (.op ⟨(some 8), none, .mv (.t 57)⟩ .fin)))))))) (.op ⟨(some 50), none, .load false 1 (.t 49)⟩ (.alt (.op ⟨(some 48), none, .load false 1 (.t 13)⟩ (.op ⟨(some 51), none, .call (.c (.fn (.func 132) [] [])) [(.t 50)]⟩ (.op ⟨(some 54), none, .app (.t 51) (.t 53) 2 1⟩ (.op ⟨(some 55), none, .build [.nils, .nils] [(0, 1, (.t 48)), (1, 1, (.t 54))]⟩ (.op ⟨(some 56), none, .bsl true 134 2 [(.t 55)]⟩ (.op ⟨(some 57), none, .app (.t 47) (.t 56) 134 2⟩ (.op ⟨(some 8), none, .mv (.t 57)⟩ .fin))))))) (.op ⟨(some 51), none, .call (.c (.fn (.func 132) [] [])) [(.t 50)]⟩ (.alt (.op ⟨(some 48), none, .load false 1 (.t 13)⟩ (.op ⟨(some 54), none, .app (.t 51) (.t 53) 2 1⟩ (.op ⟨(some 55), none, .build [.nils, .nils] [(0, 1, (.t 48)), (1, 1, (.t 54))]⟩ (.op ⟨(some 56), none, .bsl true 134 2 [(.t 55)]⟩ (.op ⟨(some 57), none, .app (.t 47) (.t 56) 134 2⟩ (.op ⟨(some 8), none, .mv (.t 57)⟩ .fin)))))) (.op ⟨(some 54), none, .app (.t 51) (.t 53) 2 1⟩ (.op ⟨(some 48), none, .load false 1 (.t 13)⟩ (.op ⟨(some 55), none, .build [.nils, .nils] [(0, 1, (.t 48)), (1, 1, (.t 54))]⟩ (.op ⟨(some 56), none, .bsl true 134 2 [(.t 55)]⟩ (.op ⟨(some 57), none, .app (.t 47) (.t 56) 134 2⟩ (.op ⟨(some 8), none, .mv (.t 57)⟩ .fin))))))))))))))))))) .skip)))))
  (.ops [⟨(some 58), none, .bin .add (.t 33) (.c (.int .i64 1))⟩, ⟨(some 33), none, .mv (.t 58)⟩]))))
/- live [0, 2, 3, 8, 9] -/
def k139_b1 : KC := (.seq (.seq (.ops [⟨(some 17), none, .mv (.t 9)⟩, ⟨(some 18), none, .mv (.t 8)⟩, ⟨(some 19), none, .len false (.t 18)⟩, ⟨(some 20), none, .bin .lss (.t 17) (.t 19)⟩])
  (.cond (.t 20) .skip (.exit 0)))
  (.seq (.block 1 (.seq (.ops [⟨(some 23), none, .mv (.t 8)⟩, ⟨(some 24), none, .mv (.t 9)⟩, ⟨(some 25), none, .idxS 2 (.t 23) (.t 24)⟩, ⟨(some 26), none, .load true 2 (.t 25)⟩, ⟨(some 10), none, .alloc [.nils, .nils]⟩, ⟨none, none, .store 2 (.t 10) (.t 26)⟩])
  (.seq (.seq (.ops [⟨(some 27), none, .mv (.t 3)⟩, ⟨(some 28), none, .load true 2 (.t 10)⟩, ⟨(some 29), none, .call (.t 27) [(.t 28)]⟩, ⟨(some 30), none, .not (.t 29)⟩])
  (.cond (.t 30) .ret .skip))
  (.seq (.ops [⟨(some 31), none, .mv (.t 0)⟩, ⟨(some 32), none, .len false (.t 31)⟩, ⟨(some 33), none, .mv (.c (.int .i64 0))⟩])
  (.block 2 (.loop k139_b0))))))
  (.ops [⟨(some 21), none, .mv (.t 9)⟩, ⟨(some 22), none, .bin .add (.t 21) (.c (.int .i64 1))⟩, ⟨(some 9), none, .mv (.t 22)⟩])))
def k139 : KC := (.seq (.ops [⟨(some 14), none, .mv (.t 1)⟩, ⟨(some 15), none, .build [.nils, .nils] [(0, 1, (.t 14)), (1, 1, (.c (.nils)))]⟩, ⟨(some 16), none, .bsl false 134 2 [(.t 15)]⟩, ⟨(some 8), none, .mv (.t 16)⟩])
  (.seq (.ops [⟨(some 9), none, .mv (.c (.int .i64 0))⟩])
  (.block 0 (.loop k139_b1))))
theorem e139 {args : List PV} {σ : Heap} {K : PV → Heap → Prop} (hl : args.length ≤ 59) (h : Wf σ → (∀ a ∈ args, PV.upto σ.length a) → vc (mkCfg Try.prog mixed [53, 56] 59 σ.length) k139 (FinK σ.length [] K) (argEnv 0 args) σ) : ACall Try.prog 139 args σ K :=
  ACall_enter (C := mkCfg Try.prog mixed [53, 56] 59 σ.length) (c := Try.f139.body.getD .skip) Try.func139 (by kernel_rfl) (by kernel_rfl) (by kernel_rfl) rfl hl (by kernel_rfl) (by kernel_rfl) h
end Go.Proofs.Ytpepbomifjbgnaa
namespace Go.Proofs.Ytpepbomifjbgnaa
open Go.Kv
set_option linter.unusedVariables false
set_option linter.unusedSimpArgs false
attribute [local irreducible] ACall PCall KL
/-- A word's slice, in the heap; A: what is not to be it. -/
def Wd (σ : Heap) (A : Nat → Prop) (w : PV) (l : List Int) : Prop := (w = .nils ∧ l = []) ∨ ∃ id ver, w = .ref id ver 0 l.length ∧ σ[id]? = some (.arr ver 2 1 (ints l)) ∧ ¬ A id
theorem Wd.imm {σ : Heap} {A : Nat → Prop} {w : PV} {l : List Int} (h : Wd σ A w l) : Imm σ w (.list (ints l)) := by
  rcases h with ⟨rfl, rfl⟩ | ⟨id, ver, rfl, h, _⟩
  · exact .nils
  · exact .refi h
theorem Wd.keep {σ σ' : Heap} {A A' : Nat → Prop} {w : PV} {l : List Int} (h : Wd σ A w l) (hk : ∀ id, id < σ.length → ¬ A id → σ'[id]? = σ[id]? ∧ ¬ A' id) : Wd σ' A' w l := by
  rcases h with ⟨rfl, rfl⟩ | ⟨id, ver, rfl, h, ha⟩
  · exact .inl ⟨rfl, rfl⟩
  · have := hk id (List.getElem?_eq_some_iff.1 h).1 ha
    exact .inr ⟨id, ver, rfl, this.1.trans h, this.2⟩
theorem Wd.cs {σ : Heap} {A : Nat → Prop} {w : PV} {l : List Int} (h : Wd σ A w l) : w.cs = [w] ∧ w.ok = true := by
  rcases h with ⟨rfl, rfl⟩ | ⟨id, ver, rfl, h, ha⟩ <;> exact ⟨rfl, rfl⟩
def qcell (w : PV) (m : Met) : PV := .agg [.list (ints m.1), w]
/-- The queue, in the heap. -/
structure QG (σ : Heap) (A : Nat → Prop) (q ver : Nat) (ws : List PV) (L : List Met) : Prop where
  out : σ[q]? = some (.arr ver 134 2 (List.zipWith qcell ws L))
  len : ws.length = L.length
  row : ∀ (i : Nat) (w : PV) (m : Met), ws[i]? = some w → L[i]? = some m → Wd σ (fun id => A id ∨ id = q) w m.2
theorem QG.cell {σ : Heap} {A : Nat → Prop} {q ver : Nat} {ws : List PV} {L : List Met} (h : QG σ A q ver ws L) {i : Nat} (hi : i < L.length) : ∃ w, ws[i]? = some w ∧ (List.zipWith qcell ws L)[i]? = some (qcell w L[i]) ∧ Wd σ (fun id => A id ∨ id = q) w L[i].2 := by
  have hw : i < ws.length := by rw [h.len]; exact hi
  refine ⟨ws[i], by simp [hw], by simp [List.getElem?_zipWith, hw, hi], h.row i _ _ (by simp [hw]) (by simp [hi])⟩
theorem QG.imm {σ : Heap} {A : Nat → Prop} {q ver : Nat} {ws : List PV} {L : List Met} (h : QG σ A q ver ws L) : Imm σ (.ref q ver 0 L.length) (.list (mets L)) := by
  refine .ref q ver 0 L.length 134 2 _ (mets L) h.out (by simp [h.len]) (mets_length L) (fun i x d hx hd => ?_) (fun i x d j c c' hx hd hc hc' => ?_)
  all_goals
    rw [Nat.zero_add] at hx
    have hi : i < L.length := by have := (List.getElem?_eq_some_iff.1 hd).1; simpa using this
    obtain ⟨w, hw, hc0, hW⟩ := h.cell hi
    rw [hc0] at hx; cases hx
    rw [mets_get hi] at hd; cases hd
  · exact ⟨rfl, by simp [mcell, PV.cs, PV.ok]⟩
  · rcases j with _ | _ | j
    · simp only [qcell, mcell, PV.cs, List.getElem?_cons_zero, Option.some.injEq] at hc hc'
      subst hc; subst hc'
      exact .still
    · simp only [qcell, mcell, PV.cs, List.getElem?_cons_succ, List.getElem?_cons_zero, Option.some.injEq] at hc hc'
      subst hc; subst hc'
      exact hW.imm
    · simp [qcell, PV.cs] at hc
theorem QG.keep {σ σ' : Heap} {A A' : Nat → Prop} {q ver : Nat} {ws : List PV} {L : List Met} (h : QG σ A q ver ws L) (hq : ¬ A q) (hk : ∀ id, id < σ.length → ¬ A id → σ'[id]? = σ[id]? ∧ ¬ A' id) : QG σ' A' q ver ws L where
  out := (hk q (List.getElem?_eq_some_iff.1 h.out).1 hq).1.trans h.out
  len := h.len
  row := fun i w m hw hm => (h.row i w m hw hm).keep fun id hid hA => by
    simp only [not_or] at hA ⊢
    exact ⟨(hk id hid hA.1).1, (hk id hid hA.1).2, hA.2⟩
theorem QG.push {σ : Heap} {A : Nat → Prop} {q ver : Nat} {ws : List PV} {L : List Met} (h : QG σ A q ver ws L) {p l : List Int} {w : PV} (hw : Wd σ (fun id => A id ∨ id = q) w l) (hl : L.length ≤ 1000) {K : PV → Heap → Prop}
    (hK : QG (σ.set q (.arr (ver + 1) 134 2 (List.zipWith qcell ws L ++ [qcell w (p, l)]))) A q (ver + 1) (ws ++ [w]) (L ++ [(p, l)]) → K (.ref q (ver + 1) 0 (L.length + 1)) (σ.set q (.arr (ver + 1) 134 2 (List.zipWith qcell ws L ++ [qcell w (p, l)])))) :
    aApp 134 2 (.ref q ver 0 L.length) (.list [.agg [.list (ints p), w]]) σ K := by
  have hlt := (List.getElem?_eq_some_iff.1 h.out).1
  have hzl : (List.zipWith qcell ws L).length = L.length := by simp [h.len]
  have hok : okL 2 [PV.agg [.list (ints p), w]] = True := by
    rcases hw with ⟨rfl, rfl⟩ | ⟨id, ver, rfl, _, _⟩ <;> simp [okL, PV.cs, PV.ok]
  have hQ : QG (σ.set q (.arr (ver + 1) 134 2 (List.zipWith qcell ws L ++ [qcell w (p, l)]))) A q (ver + 1) (ws ++ [w]) (L ++ [(p, l)]) := by
    refine ⟨?_, by simp [h.len], fun i w' m hw' hm => ?_⟩
    · rw [List.getElem?_set_self hlt, List.zipWith_append h.len]
      rfl
    · have hset : ∀ id, id < σ.length → ¬ (A id ∨ id = q) → (σ.set q (.arr (ver + 1) 134 2 (List.zipWith qcell ws L ++ [qcell w (p, l)])))[id]? = σ[id]? ∧ ¬ (A id ∨ id = q) := fun id _ hA => by
        refine ⟨List.getElem?_set_ne ?_, hA⟩
        rintro rfl; exact hA (.inr rfl)
      rw [List.getElem?_append] at hw' hm
      split at hw'
      · rename_i hi
        rw [if_pos (by rw [← h.len]; exact hi)] at hm
        exact (h.row i w' m hw' hm).keep hset
      · rename_i hi
        rw [if_neg (by rw [← h.len]; exact hi)] at hm
        have e1 := List.mem_of_getElem? hw'
        have e2 := List.mem_of_getElem? hm
        simp only [List.mem_singleton] at e1 e2
        subst e1; subst e2
        exact hw.keep hset
  simp only [aApp_ref, h.out, AppR_arr, aNews_list, hok, true_and, AppM_def]
  rw [List.take_of_length_le (by omega)]
  exact ⟨⟨by omega, by simp; omega⟩, hK hQ⟩
theorem putC2 (a b c d : PV) : putC [a, b] 0 [c, d] = [c, d] := by unfold putC; first | rfl | (split <;> rfl) | simp
/-- What one met list gives: the queue, by the first k maps. -/
def advN (fs : List (List Nat)) (bf : List Nat → List Int → List Int) (Q : List Met) (m : Met) (k : Nat) : List Met :=
  (List.range k).foldl (fun Q k => if (Q.any fun x => decide (x.1 = bf (fs.getD k []) m.1)) = true then Q else Q ++ [(bf (fs.getD k []) m.1, m.2 ++ [(k : Int)])]) Q
theorem advN_succ (fs : List (List Nat)) (bf : List Nat → List Int → List Int) (Q : List Met) (m : Met) (k : Nat) : advN fs bf Q m (k + 1) = if ((advN fs bf Q m k).any fun x => decide (x.1 = bf (fs.getD k []) m.1)) = true then advN fs bf Q m k else advN fs bf Q m k ++ [(bf (fs.getD k []) m.1, m.2 ++ [(k : Int)])] := by
  unfold advN
  rw [List.range_succ, List.foldl_append]
  rfl
theorem advN_mono (fs : List (List Nat)) (bf : List Nat → List Int → List Int) (Q : List Met) (m : Met) {k k' : Nat} (h : k ≤ k') : (advN fs bf Q m k).length ≤ (advN fs bf Q m k').length := by
  induction k' with
  | zero => obtain rfl : k = 0 := by omega
            exact Nat.le_refl _
  | succ k' ih =>
    by_cases e : k = k' + 1
    · subst e; exact Nat.le_refl _
    · refine Nat.le_trans (ih (by omega)) ?_
      rw [advN_succ]
      split
      · exact Nat.le_refl _
      · simp
/-- The queue, and what each has made of it, behind i met lists. -/
def bq {α : Type} (fs : List (List Nat)) (bf : List Nat → List Int → List Int) (nx : α → List Int → α) (s0 : List Met × α) : Nat → List Met × α
  | 0 => s0
  | i + 1 => match (bq fs bf nx s0 i).1[i]? with
    | some m => (advN fs bf (bq fs bf nx s0 i).1 m fs.length, nx (bq fs bf nx s0 i).2 m.1)
    | none => bq fs bf nx s0 i
theorem bq_succ {α : Type} {fs : List (List Nat)} {bf : List Nat → List Int → List Int} {nx : α → List Int → α} {s0 : List Met × α} {i : Nat} (h : i < (bq fs bf nx s0 i).1.length) :
    bq fs bf nx s0 (i + 1) = (advN fs bf (bq fs bf nx s0 i).1 (bq fs bf nx s0 i).1[i] fs.length, nx (bq fs bf nx s0 i).2 (bq fs bf nx s0 i).1[i].1) := by
  have : (bq fs bf nx s0 i).1[i]? = some (bq fs bf nx s0 i).1[i] := List.getElem?_eq_getElem h
  rw [bq, this]
set_option maxHeartbeats 4000000 in
theorem p139 {α : Type} (fs : List (List Nat)) (n : Nat) (hf : ∀ f ∈ fs, Ok f n) (hfl : fs.length ≤ 1000) (bid eid : FuncId) (caps : List PV) (bf : List Nat → List Int → List Int) (okp : List Int → Prop)
    (hokl : ∀ p, okp p → p.length ≤ 1000) (hokb : ∀ f ∈ fs, ∀ p, okp p → okp (bf f p))
    (hby : ∀ f ∈ fs, ∀ p, okp p → Pure Try.prog bid [.agg (ints (mp f)), .list (ints p)] (.list (ints (bf f p))))
    (I : α → Heap → Prop) (U : α → Nat → Prop) (nx : α → List Int → α) (go : α → List Int → Bool) (D : α → List Int → List Int → Heap → Prop)
    (hIlt : ∀ a σ id, I a σ → U a id → id < σ.length) (hIk : ∀ a σ σ', I a σ → (∀ id, U a id → σ'[id]? = σ[id]?) → σ.length ≤ σ'.length → I a σ')
    (heach : ∀ a σ p w l, okp p → I a σ → Wd σ (U a) w l → ∀ K : PV → Heap → Prop,
      (go a p = true → ∀ σ', I (nx a p) σ' → σ.length ≤ σ'.length → (∀ id, id < σ.length → ¬ U a id → σ'[id]? = σ[id]? ∧ ¬ U (nx a p) id) → K (.bool true) σ') →
      (go a p = false → ∀ σ', D a p l σ' → K (.bool false) σ') → ACall Try.prog eid (.agg [.list (ints p), w] :: caps) σ K)
    (a0 : α) (from0 : List Int) (hok0 : okp from0) (N : Nat) (hN : N ≤ 1000) (hB : ∀ i, (bq fs bf nx ([(from0, [])], a0) i).1.length ≤ N)
    (σ0 : Heap) (hI0 : I a0 σ0) (K : PV → Heap → Prop)
    (hK1 : ∀ i (h : i < (bq fs bf nx ([(from0, [])], a0) i).1.length), go (bq fs bf nx ([(from0, [])], a0) i).2 (bq fs bf nx ([(from0, [])], a0) i).1[i].1 = false → (∀ j (h : j < (bq fs bf nx ([(from0, [])], a0) j).1.length), j < i → go (bq fs bf nx ([(from0, [])], a0) j).2 (bq fs bf nx ([(from0, [])], a0) j).1[j].1 = true) →
      ∀ σ', D (bq fs bf nx ([(from0, [])], a0) i).2 (bq fs bf nx ([(from0, [])], a0) i).1[i].1 (bq fs bf nx ([(from0, [])], a0) i).1[i].2 σ' → K (.tup []) σ')
    (hK2 : ∀ i, i = (bq fs bf nx ([(from0, [])], a0) i).1.length → (∀ j (h : j < (bq fs bf nx ([(from0, [])], a0) j).1.length), j < i → go (bq fs bf nx ([(from0, [])], a0) j).2 (bq fs bf nx ([(from0, [])], a0) j).1[j].1 = true) → ∀ σ', I (bq fs bf nx ([(from0, [])], a0) i).2 σ' → K (.tup []) σ') :
    ACall Try.prog 139 [.list (aggs (fs.map mp)), .list (ints from0), .fn (.func bid) [] [], .fn (.func eid) [] caps] σ0 K := by
  generalize hs : bq fs bf nx ([(from0, [])], a0) = S at *
  have hS0 : S 0 = ([(from0, [])], a0) := by rw [← hs]; rfl
  have hSs : ∀ i (h : i < (S i).1.length), S (i + 1) = (advN fs bf (S i).1 (S i).1[i] fs.length, nx (S i).2 (S i).1[i].1) := by
    rw [← hs]; exact fun i h => bq_succ h
  refine e139 (by simp) fun _ _ => ?_
  simp only [k139, argEnv, take6, List.drop_zero, Int.cast_ofNat_Int, go_sem, ↓reduceIte, Nat.reduceEqDiff, Nat.reduceAdd, Nat.reduceMul, Nat.reduceLeDiff, Nat.reduceLT, Int.reduceLE, Int.reduceLT, reduceCtorEq]
  try simp only [take6, List.drop_zero, Int.cast_ofNat_Int, go_sem, ↓reduceIte, Nat.reduceEqDiff, Nat.reduceAdd, Nat.reduceMul, Nat.reduceLeDiff, Nat.reduceLT, Int.reduceLE, Int.reduceLT, reduceCtorEq]
  generalize hq : σ0.length = q at *
  refine KL_ind k139_b1.eq_1 (fun x : Nat × Nat × List PV × Heap => [(0, .list (aggs (fs.map mp))), (2, .fn (.func bid) [] []), (3, .fn (.func eid) [] caps), (8, .ref q x.2.1 0 (S x.1).1.length), (9, .int .i64 x.1)]) (fun x => x.2.2.2)
    (fun x => x.1 ≤ (S x.1).1.length ∧ (∀ j (h : j < (S j).1.length), j < x.1 → go (S j).2 (S j).1[j].1 = true) ∧ I (S x.1).2 x.2.2.2 ∧ ¬ U (S x.1).2 q ∧ QG x.2.2.2 (U (S x.1).2) q x.2.1 x.2.2.1 (S x.1).1 ∧ (∀ m ∈ (S x.1).1, okp m.1 ∧ m.2.length + 1 ≤ (S x.1).1.length)) (fun x => N + 1 - x.1) [0, 2, 3, 8, 9]
    (0, 0, [.nils], σ0 ++ [.arr 0 134 2 [.agg [.list (ints from0), .nils]]]) ?_ rfl ?_ fun ⟨i, ver, ws, σ⟩ ⟨hi, hgo, hI, hUq, hG, hok⟩ ih => ?_
  · simp [keep, hS0]
  · have hlen0 : q < (σ0 ++ [AObj.arr 0 134 2 [.agg [.list (ints from0), .nils]]]).length := by simp [← hq]
    have hU0 : ¬ U (S 0).2 q := fun h => by
      rw [hS0] at h
      have := hIlt _ _ _ hI0 h
      omega
    refine ⟨Nat.zero_le _, fun j _ h => by omega, ?_, hU0, ?_, ?_⟩
    · show I (S 0).2 _
      rw [hS0]
      refine hIk a0 σ0 _ hI0 (fun id hid => ?_) (by simp)
      rw [List.getElem?_append_left (hIlt _ _ _ hI0 hid)]
    · show QG _ _ q 0 [.nils] (S 0).1
      rw [hS0]
      refine ⟨by simp [← hq, qcell], rfl, fun i w m hw hm => .inl ⟨?_, ?_⟩⟩
      · have := List.mem_of_getElem? hw; simpa using this
      · have := List.mem_of_getElem? hm
        simp only [List.mem_singleton] at this; rw [this]
    · intro m hm
      have hm : m ∈ (S 0).1 := hm
      show okp m.1 ∧ m.2.length + 1 ≤ (S 0).1.length
      rw [hS0] at hm ⊢
      simp only [List.mem_singleton] at hm
      subst hm
      exact ⟨hok0, by simp⟩
  · simp only at hi hgo hI hUq hG hok
    have hBi := hB i
    have hout := hG.out
    have hqlt := (List.getElem?_eq_some_iff.1 hout).1
    have hzl : (List.zipWith qcell ws (S i).1).length = (S i).1.length := by simp [hG.len]
    try simp only [OpK_eq, hout, hzl, take6, List.drop_zero, Int.cast_ofNat_Int, go_sem, ↓reduceIte, Nat.reduceEqDiff, Nat.reduceAdd, Nat.reduceMul, Nat.reduceLeDiff, Nat.reduceLT, Int.reduceLE, Int.reduceLT, reduceCtorEq]
    refine ⟨fun h1 => ?_, fun h1 => ?_⟩
    · have hil : i < (S i).1.length := by omega
      obtain ⟨w, hw, hcell, hW⟩ := hG.cell hil
      have hSi := hSs i hil
      have hmem := hok _ (List.getElem_mem hil)
      generalize hm : (S i).1[i] = m at *
      have hsub : subC (qcell w m).cs 0 2 = [.list (ints m.1), w] := subC2 _ _
      have hput : putC [.nils, .nils] 0 [.list (ints m.1), w] = [PV.list (ints m.1), w] := putC2 _ _ _ _
      have hwok : [PV.list (ints m.1), w].all PV.ok = true := by rcases hW with ⟨rfl, _⟩ | ⟨_, _, rfl, _⟩ <;> simp [PV.ok]
      refine ⟨⟨h1, Nat.le_refl _⟩, hil, fun x hx => ?_⟩
      rw [hcell] at hx; cases hx
      rw [hsub, hput, subC2]
      refine ⟨Nat.le_refl _, ⟨rfl, hwok⟩, Nat.le_refl _, ?_⟩
      have hlt1 : ∀ id, id < σ.length → (σ ++ [AObj.box [.list (ints m.1), w]])[id]? = σ[id]? := fun id h => List.getElem?_append_left h
      have hI1 : I (S i).2 (σ ++ [AObj.box [.list (ints m.1), w]]) := hIk _ _ _ hI (fun id hid => hlt1 id (hIlt _ _ _ hI hid)) (by simp)
      have hW1 : Wd (σ ++ [AObj.box [.list (ints m.1), w]]) (U (S i).2) w m.2 := hW.keep fun id hid hA => ⟨hlt1 id hid, fun hu => hA (.inl hu)⟩
      refine heach _ _ m.1 w m.2 hmem.1 hI1 hW1 _ (fun hgt σ' hI' hle hkeep => ?_) (fun hgf σ' hD => ?_)
      · have hb10 : σ'[σ.length]? = some (.box [.list (ints m.1), w]) := by
          rw [(hkeep σ.length (by simp) (fun hu => by have := hIlt _ _ _ hI hu; omega)).1]
          simp
        have hUb : ¬ U (nx (S i).2 m.1) σ.length := (hkeep σ.length (by simp) (fun hu => by have := hIlt _ _ _ hI hu; omega)).2
        have hkeep2 : ∀ id, id < σ.length → ¬ U (S i).2 id → σ'[id]? = σ[id]? ∧ ¬ U (nx (S i).2 m.1) id := fun id hid hu => by
          obtain ⟨k1, k2⟩ := hkeep id (by simp; omega) hu
          exact ⟨k1.trans (hlt1 id hid), k2⟩
        have hG' := hG.keep hUq hkeep2
        have hUq' := (hkeep2 q hqlt hUq).2
        have hW' : Wd σ' (fun id => U (nx (S i).2 m.1) id ∨ id = q) w m.2 := hW.keep fun id hid hA => by
          simp only [not_or] at hA ⊢
          exact ⟨(hkeep2 id hid hA.1).1, (hkeep2 id hid hA.1).2, hA.2⟩
        have hgo' : ∀ j (h : j < (S j).1.length), j < i + 1 → go (S j).2 (S j).1[j].1 = true := fun j h hj => by
          by_cases e : j = i
          · subst e; rw [hm]; exact hgt
          · exact hgo j h (by omega)
        have hbq : σ.length ≠ q := by omega
        generalize hb : σ.length = b at *
        generalize ha' : nx (S i).2 m.1 = a' at *
        clear hkeep hkeep2 hI1 hW1 hlt1 hG hI hW hcell hw hout hzl
        clear hb hqlt
        try simp only [OpK_eq, List.length_map, take6, List.drop_zero, Int.cast_ofNat_Int, go_sem, ↓reduceIte, Nat.reduceEqDiff, Nat.reduceAdd, Nat.reduceMul, Nat.reduceLeDiff, Nat.reduceLT, Int.reduceLE, Int.reduceLT, reduceCtorEq]
        have hadvB : ∀ k, k ≤ fs.length → (advN fs bf (S i).1 m k).length ≤ N := fun k hk => by
          have h1 := advN_mono fs bf (S i).1 m hk
          have h2 := hB (i + 1)
          rw [hSi] at h2
          exact Nat.le_trans h1 h2
        refine KL_ind k139_b0.eq_1 (fun x : Nat × Nat × List PV × Heap => [(0, .list (aggs (fs.map mp))), (2, .fn (.func bid) [] []), (3, .fn (.func eid) [] caps), (8, .ref q x.2.1 0 (advN fs bf (S i).1 m x.1).length), (9, .int .i64 i), (10, .ptr b 0), (31, .list (aggs (fs.map mp))), (32, .int .i64 fs.length), (33, .int .i64 x.1)]) (fun x => x.2.2.2)
          (fun x => x.1 ≤ fs.length ∧ I a' x.2.2.2 ∧ QG x.2.2.2 (U a') q x.2.1 x.2.2.1 (advN fs bf (S i).1 m x.1) ∧ x.2.2.2[b]? = some (.box [.list (ints m.1), w]) ∧ Wd x.2.2.2 (fun id => U a' id ∨ id = q) w m.2 ∧ (∀ y ∈ advN fs bf (S i).1 m x.1, okp y.1 ∧ y.2.length + 1 ≤ (advN fs bf (S i).1 m x.1).length)) (fun x => fs.length - x.1) [0, 2, 3, 8, 9, 10, 31, 32, 33]
          (0, ver, ws, σ') (by rfl) rfl ⟨Nat.zero_le _, hI', hG', hb10, hW', hok⟩ fun ⟨k, ver2, ws2, τ⟩ ⟨hk, hI2, hG2, hb2, hW2, hok2⟩ ihk => ?_
        simp only at hk hI2 hG2 hb2 hW2 hok2
        clear hI' hG' hb10 hW' hok hle
        have hsucc := advN_succ fs bf (S i).1 m k
        have hlenB := hadvB k hk
        have hmlen := hmem.2
        generalize hL : advN fs bf (S i).1 m k = L at *
        have hout := hG2.out
        have hblt := (List.getElem?_eq_some_iff.1 hb2).1
        have hqlt := (List.getElem?_eq_some_iff.1 hout).1
        try simp only [OpK_eq, List.length_map, take6, List.drop_zero, Int.cast_ofNat_Int, go_sem, ↓reduceIte, Nat.reduceEqDiff, Nat.reduceAdd, Nat.reduceMul, Nat.reduceLeDiff, Nat.reduceLT, Int.reduceLE, Int.reduceLT, reduceCtorEq]
        refine ⟨fun h3 => ?_, fun h3 => ?_⟩
        · have hkl : k < fs.length := by omega
          have hfk := hf _ (List.getElem_mem hkl)
          have h6 := hfk.mp_len
          have hgk : (fs.map mp).getD k [] = mp fs[k] := by simp [List.getD_eq_getElem?_getD, hkl]
          rw [hgk]
          try simp only [OpK_eq, h6, take6, List.drop_zero, Int.cast_ofNat_Int, go_sem, ↓reduceIte, Nat.reduceEqDiff, Nat.reduceAdd, Nat.reduceMul, Nat.reduceLeDiff, Nat.reduceLT, Int.reduceLE, Int.reduceLT, reduceCtorEq]
          refine ⟨h3, fun _ => ?_⟩
          have hbx : ∀ X, (τ ++ X)[b]? = some (.box [.list (ints m.1), w]) := fun X => (List.getElem?_append_left hblt).trans hb2
          have ht0 : ∀ (x : AObj) X, (τ ++ x :: X)[τ.length]? = some x := fun x X => by simp
          have ht1 : ∀ (x y : AObj) X, (τ ++ x :: y :: X)[τ.length + 1]? = some y := fun x y X => by
            rw [List.getElem?_append_right (by omega)]; simp
          have hs0 : ∀ (x z : AObj) X, (τ ++ x :: X).set τ.length z = τ ++ z :: X := fun x z X => by
            rw [List.set_append_right _ _ (Nat.le_refl _)]; simp
          have hs1 : ∀ (x y z : AObj) X, (τ ++ x :: y :: X).set (τ.length + 1) z = τ ++ x :: z :: X := fun x y z X => by
            rw [List.set_append_right _ _ (by omega)]; simp
          try simp only [OpK_eq, h6, hbx, HKv, List.append_assoc, List.cons_append, List.nil_append, ht0, ht1, hs0, hs1, take6, List.drop_zero, Int.cast_ofNat_Int, go_sem, ↓reduceIte, Nat.reduceEqDiff, Nat.reduceAdd, Nat.reduceMul, Nat.reduceLeDiff, Nat.reduceLT, Int.reduceLE, Int.reduceLT, reduceCtorEq]
          refine (hby _ (List.getElem_mem hkl) m.1 hmem.1).go ?_
          have hnx := hokb _ (List.getElem_mem hkl) m.1 hmem.1
          have hgf : fs.getD k [] = fs[k] := by simp [List.getD_eq_getElem?_getD, hkl]
          rw [hgf] at hsucc
          generalize hnxe : bf fs[k] m.1 = nxp at *
          try simp only [OpK_eq, h6, hbx, HKv, List.append_assoc, List.cons_append, List.nil_append, ht0, ht1, hs0, hs1, take6, List.drop_zero, Int.cast_ofNat_Int, go_sem, ↓reduceIte, Nat.reduceEqDiff, Nat.reduceAdd, Nat.reduceMul, Nat.reduceLeDiff, Nat.reduceLT, Int.reduceLE, Int.reduceLT, reduceCtorEq]
          have hG3 : ∀ X, QG (τ ++ X) (U a') q ver2 ws2 L := fun X => hG2.keep hUq' fun id hid hu => ⟨List.getElem?_append_left hid, hu⟩
          have hW3 : ∀ X, Wd (τ ++ X) (fun id => U a' id ∨ id = q) w m.2 := fun X => hW2.keep fun id hid hu => ⟨List.getElem?_append_left hid, hu⟩
          have hI3 : ∀ X, I a' (τ ++ X) := fun X => hIk _ _ _ hI2 (fun id hid => List.getElem?_append_left (hIlt _ _ _ hI2 hid)) (by simp)
          refine (p172 L (by omega) 173 [.fptr [.list (ints nxp)] 0] (fun x => decide (x.1 = nxp)) (fun x hx => p173 x nxp (by have := hokl _ hnx; omega) (by have := hokl _ (hok2 x hx).1; omega))).lend (.cons (hG3 _).imm (.cons (Imm.fnc _ (.cons (Imm.ptr (τ.length + 1) 0 [.list (ints nxp)] [.list (ints nxp)] (ht1 _ _ _) rfl (by simp [PV.ok]) (fun j c d hc hd => by rw [hc] at hd; cases hd; have := List.mem_of_getElem? hc; simp only [List.mem_singleton] at this; subst this; exact .still)) (.nil _))) (.nil _))) ?_
          cases hany : L.any (fun x => decide (x.1 = nxp)) with
          | true =>
            rw [if_pos hany] at hsucc
            try simp only [OpK_eq, take6, List.drop_zero, Int.cast_ofNat_Int, go_sem, ↓reduceIte, Nat.reduceEqDiff, Nat.reduceAdd, Nat.reduceMul, Nat.reduceLeDiff, Nat.reduceLT, Int.reduceLE, Int.reduceLT, reduceCtorEq]
            refine ⟨by omega, ihk (k + 1, ver2, ws2, τ ++ _) ⟨by show k + 1 ≤ fs.length; omega, hI3 _, ?_, hbx _, hW3 _, ?_⟩ (by show fs.length - (k + 1) < fs.length - k; omega) _ _ ?_ rfl⟩
            · show QG _ _ q ver2 ws2 (advN fs bf (S i).1 m (k + 1))
              rw [hsucc]; exact hG3 _
            · show ∀ y ∈ advN fs bf (S i).1 m (k + 1), _ ∧ _ ≤ (advN fs bf (S i).1 m (k + 1)).length
              rw [hsucc]; exact hok2
            · simp [keep, hsucc]
          | false =>
            rw [if_neg (by rw [hany]; simp)] at hsucc
            have hlenB1 := hadvB (k + 1) (by omega)
            rw [hsucc, List.length_append, List.length_singleton] at hlenB1
            have hnext : ∀ ver' w' ρ, I a' ρ → QG ρ (U a') q ver' (ws2 ++ [w']) (L ++ [(nxp, m.2 ++ [(k : Int)])]) → ρ[b]? = some (.box [.list (ints m.1), w]) → Wd ρ (fun id => U a' id ∨ id = q) w m.2 → ∀ env, keep [0, 2, 3, 8, 9, 10, 31, 32, 33] env = [(0, .list (aggs (fs.map mp))), (2, .fn (.func bid) [] []), (3, .fn (.func eid) [] caps), (8, .ref q ver' 0 (L.length + 1)), (9, .int .i64 i), (10, .ptr b 0), (31, .list (aggs (fs.map mp))), (32, .int .i64 fs.length), (33, .int .i64 (k + 1 : Nat))] → KL (mkCfg Try.prog mixed [53, 56] 59 q) k139_b0 _ env ρ := fun ver' w' ρ q1 q2 q3 q4 env q5 =>
              ihk (k + 1, ver', ws2 ++ [w'], ρ) ⟨by show k + 1 ≤ fs.length; omega, q1, by show QG ρ _ q ver' _ (advN fs bf (S i).1 m (k + 1)); rw [hsucc]; exact q2, q3, q4, by
                show ∀ y ∈ advN fs bf (S i).1 m (k + 1), _ ∧ _ ≤ (advN fs bf (S i).1 m (k + 1)).length
                rw [hsucc]
                intro y hy
                rw [List.length_append, List.length_singleton]
                rcases List.mem_append.1 hy with hy | hy
                · have := hok2 y hy; exact ⟨this.1, by omega⟩
                · simp only [List.mem_singleton] at hy; subst hy
                  refine ⟨hnx, ?_⟩
                  simp only [List.length_append, List.length_singleton]
                  have hmono := advN_mono fs bf (S i).1 m (Nat.zero_le k)
                  rw [hL] at hmono
                  have e : advN fs bf (S i).1 m 0 = (S i).1 := rfl
                  rw [e] at hmono
                  omega⟩ (by show fs.length - (k + 1) < fs.length - k; omega) env ρ (by rw [q5, hsucc]; simp) rfl
            clear ih ihk
            have hpush : ∀ X w', Wd (τ ++ X) (fun id => U a' id ∨ id = q) w' (m.2 ++ [(k : Int)]) → ∀ K' : PV → Heap → Prop,
                (∀ ρ, I a' ρ → QG ρ (U a') q (ver2 + 1) (ws2 ++ [w']) (L ++ [(nxp, m.2 ++ [(k : Int)])]) → ρ[b]? = some (.box [.list (ints m.1), w]) → Wd ρ (fun id => U a' id ∨ id = q) w m.2 → K' (.ref q (ver2 + 1) 0 (L.length + 1)) ρ) →
                aApp 134 2 (.ref q ver2 0 L.length) (.list [.agg [.list (ints nxp), w']]) (τ ++ X) K' := fun X w' hw' K' hK' =>
              (hG3 X).push hw' (by omega) fun hQ => by
                refine hK' _ ?_ hQ ?_ ?_
                · refine hIk _ _ _ (hI3 X) (fun id hid => List.getElem?_set_ne ?_) (by simp)
                  rintro rfl; exact hUq' hid
                · rw [List.getElem?_set_ne (Ne.symm hbq)]; exact hbx X
                · refine (hW3 X).keep fun id _ hA => ⟨List.getElem?_set_ne ?_, hA⟩
                  rintro rfl; exact hA (.inr rfl)
            have ht2 : ∀ (x y z : AObj) X, (τ ++ x :: y :: z :: X)[τ.length + 2]? = some z := fun x y z X => by
              rw [List.getElem?_append_right (by omega)]; simp
            have hs2 : ∀ (x y z u : AObj) X, (τ ++ x :: y :: z :: X).set (τ.length + 2) u = τ ++ x :: y :: u :: X := fun x y z u X => by
              rw [List.set_append_right _ _ (by omega)]; simp
            have hwd : ∀ (x y : AObj) vr l, Wd (τ ++ [x, y, .arr vr 2 1 (ints l)]) (fun id => U a' id ∨ id = q) (.ref (τ.length + 2) vr 0 l.length) l := fun x y vr l => by
              refine .inr ⟨_, vr, rfl, ht2 _ _ _ _, fun h => ?_⟩
              rcases h with h | h
              · have := hIlt _ _ _ hI2 h; omega
              · omega
            have hwd1 : ∀ (x y : AObj), Wd (τ ++ [x, y, .arr 2 2 1 (ints (m.2 ++ [(k : Int)]))]) (fun id => U a' id ∨ id = q) (.ref (τ.length + 2) 2 0 (m.2.length + 1)) (m.2 ++ [(k : Int)]) := fun x y => by
              have := hwd x y 2 (m.2 ++ [(k : Int)])
              rwa [List.length_append, List.length_singleton] at this
            have hwd0 : m.2 = [] → ∀ (x y : AObj), Wd (τ ++ [x, y, .arr 0 2 1 [.int .i64 k]]) (fun id => U a' id ∨ id = q) (.ref (τ.length + 2) 0 0 1) (m.2 ++ [(k : Int)]) := fun h0 x y => by
              rw [h0]; exact hwd x y 0 [(k : Int)]
            generalize hvq : PV.ref q ver2 0 L.length = vq at *
            try simp only [OpK_eq, hbx, HKv, ht0, ht1, take6, List.drop_zero, Int.cast_ofNat_Int, go_sem, ↓reduceIte, Nat.reduceEqDiff, Nat.reduceAdd, Nat.reduceMul, Nat.reduceLeDiff, Nat.reduceLT, Int.reduceLE, Int.reduceLT, reduceCtorEq]
            iterate 8
              all_goals (try (rw [vT_alt]; refine ⟨?_, ?_⟩))
              all_goals (try (try simp only [OpK_eq, hbx, HKv, ht0, ht1, take6, List.drop_zero, Int.cast_ofNat_Int, go_sem, ↓reduceIte, Nat.reduceEqDiff, Nat.reduceAdd, Nat.reduceMul, Nat.reduceLeDiff, Nat.reduceLT, Int.reduceLE, Int.reduceLT, reduceCtorEq] ))
            all_goals (refine ACall.lend (p132P m.2 (by omega)) (.cons (hW3 _).imm (.nil _)) fun v s hv => ?_)
            all_goals (rcases hv with ⟨rfl, rfl⟩ | ⟨hl0, rfl, rfl⟩)
            all_goals (first | refine ⟨⟨free_ref _ _ _ _, Free.ints _ _ _ _⟩, ?_⟩ | refine ⟨⟨Plain.nils.fr, Free.nil⟩, ?_⟩)
            all_goals (try (try simp only [OpK_eq, hbx, HKv, ht0, ht1, ht2, hs2, ren_ref, List.append_assoc, List.cons_append, List.nil_append, take6, List.drop_zero, Int.cast_ofNat_Int, go_sem, ↓reduceIte, Nat.reduceEqDiff, Nat.reduceAdd, Nat.reduceMul, Nat.reduceLeDiff, Nat.reduceLT, Int.reduceLE, Int.reduceLT, reduceCtorEq] ))
            iterate 8
              all_goals (try (rw [vT_alt]; refine ⟨?_, ?_⟩))
              all_goals (try (try simp only [OpK_eq, hbx, HKv, ht0, ht1, ht2, hs2, ren_ref, List.append_assoc, List.cons_append, List.nil_append, take6, List.drop_zero, Int.cast_ofNat_Int, go_sem, ↓reduceIte, Nat.reduceEqDiff, Nat.reduceAdd, Nat.reduceMul, Nat.reduceLeDiff, Nat.reduceLT, Int.reduceLE, Int.reduceLT, reduceCtorEq] ))
            all_goals (first | refine ⟨⟨Nat.le_refl _, by omega⟩, hpush [_, _, _] _ (hwd1 _ _) _ fun ρ q1 q2 q3 q4 => ?_⟩ | refine hpush [_, _, _] _ (hwd0 hl0 _ _) _ fun ρ q1 q2 q3 q4 => ?_)
            all_goals (try simp only [OpK_eq, take6, List.drop_zero, Int.cast_ofNat_Int, go_sem, ↓reduceIte, Nat.reduceEqDiff, Nat.reduceAdd, Nat.reduceMul, Nat.reduceLeDiff, Nat.reduceLT, Int.reduceLE, Int.reduceLT, reduceCtorEq] )
            all_goals exact ⟨by omega, hnext (ver2 + 1) _ ρ q1 q2 q3 q4 _ (by simp [keep])⟩
        · have hke : k = fs.length := by omega
          subst hke
          try simp only [take6, List.drop_zero, Int.cast_ofNat_Int, go_sem, ↓reduceIte, Nat.reduceEqDiff, Nat.reduceAdd, Nat.reduceMul, Nat.reduceLeDiff, Nat.reduceLT, Int.reduceLE, Int.reduceLT, reduceCtorEq]
          refine ⟨by omega, ih (i + 1, ver2, ws2, τ) ⟨?_, hgo', ?_, ?_, ?_, ?_⟩ (by show N + 1 - (i + 1) < N + 1 - i; omega) _ _ ?_ rfl⟩
          · show i + 1 ≤ (S (i + 1)).1.length
            rw [hSi]
            have := advN_mono fs bf (S i).1 m (Nat.zero_le fs.length)
            have e : advN fs bf (S i).1 m 0 = (S i).1 := rfl
            rw [e] at this
            show i + 1 ≤ (advN fs bf (S i).1 m fs.length).length
            omega
          · show I (S (i + 1)).2 τ
            rw [hSi]; exact hI2
          · show ¬ U (S (i + 1)).2 q
            rw [hSi]; exact hUq'
          · show QG τ (U (S (i + 1)).2) q ver2 ws2 (S (i + 1)).1
            rw [hSi, hL]; exact hG2
          · show ∀ y ∈ (S (i + 1)).1, okp y.1 ∧ y.2.length + 1 ≤ (S (i + 1)).1.length
            rw [hSi, hL]; exact hok2
          · rw [hSi, hL]; simp [keep]
      · try simp only [OpK_eq, take6, List.drop_zero, Int.cast_ofNat_Int, go_sem, ↓reduceIte, Nat.reduceEqDiff, Nat.reduceAdd, Nat.reduceMul, Nat.reduceLeDiff, Nat.reduceLT, Int.reduceLE, Int.reduceLT, reduceCtorEq]
        exact Kv.Fin.now (hK1 i hil (by rw [hm]; exact hgf) hgo σ' (by rw [hm]; exact hD))
    · have hie : i = (S i).1.length := by omega
      exact Kv.Fin.now (hK2 i hie hgo σ hI)
end Go.Proofs.Ytpepbomifjbgnaa
