/- Several texts of this session as one, less what the claim does not need. -/
import Derived.Test.YtpfapiiinkkcgaaGreatCb
import Derived.Test.YtpfapiiinkkcgaaGreatZ15
section
/- The law of monoid tables: the products of maps, in whatever order. -/
namespace Go.Proofs.YtpfapiiinkkcgaaGreat
open Go.Kv
set_option maxRecDepth 100000
/- laws.FnMonoidTables -/
def k4_t0 : KT := (.op ⟨(some 179), none, .mv (.t 26)⟩ (.op ⟨(some 180), none, .mv (.t 30)⟩ (.op ⟨(some 183), none, .mv (.t 26)⟩ (.op ⟨(some 184), none, .mv (.t 31)⟩ (.alt (.op ⟨(some 181), none, .idxS 6 (.t 179) (.t 180)⟩ (.alt (.op ⟨(some 182), none, .load true 6 (.t 181)⟩ (.alt (.op ⟨(some 185), none, .idxS 6 (.t 183) (.t 184)⟩ (.alt (.op ⟨(some 186), none, .load true 6 (.t 185)⟩ (.alt (.op ⟨(some 187), none, .call (.c (.fn (.func 45) [] [])) [(.t 182), (.t 186)]⟩ (.op ⟨(some 178), none, .mv (.t 187)⟩ (.alt (.op ⟨(some 188), none, .extr 0 (.t 178)⟩ (.alt (.op ⟨(some 189), none, .extr 1 (.t 178)⟩ (.op ⟨(some 32), none, .alloc [.int .i64 0, .int .i64 0, .int .i64 0, .int .i64 0, .int .i64 0, .int .i64 0]⟩ (.op ⟨none, none, .store 6 (.t 32) (.t 188)⟩ (.op ⟨(some 33), none, .mv (.t 189)⟩ .fin)))) (.op ⟨(some 32), none, .alloc [.int .i64 0, .int .i64 0, .int .i64 0, .int .i64 0, .int .i64 0, .int .i64 0]⟩ (.alt (.op ⟨(some 189), none, .extr 1 (.t 178)⟩ (.op ⟨none, none, .store 6 (.t 32) (.t 188)⟩ (.op ⟨(some 33), none, .mv (.t 189)⟩ .fin))) (.op ⟨none, none, .store 6 (.t 32) (.t 188)⟩ (.op ⟨(some 189), none, .extr 1 (.t 178)⟩ (.op ⟨(some 33), none, .mv (.t 189)⟩ .fin))))))) (.alt (.op ⟨(some 189), none, .extr 1 (.t 178)⟩ (.alt (.op ⟨(some 188), none, .extr 0 (.t 178)⟩ (.op ⟨(some 32), none, .alloc [.int .i64 0, .int .i64 0, .int .i64 0, .int .i64 0, .int .i64 0, .int .i64 0]⟩ (.op ⟨none, none, .store 6 (.t 32) (.t 188)⟩ (.op ⟨(some 33), none, .mv (.t 189)⟩ .fin)))) (.op ⟨(some 32), none, .alloc [.int .i64 0, .int .i64 0, .int .i64 0, .int .i64 0, .int .i64 0, .int .i64 0]⟩ (.op ⟨(some 188), none, .extr 0 (.t 178)⟩ (.op ⟨none, none, .store 6 (.t 32) (.t 188)⟩ (.op ⟨(some 33), none, .mv (.t 189)⟩ .fin)))))) (.op ⟨(some 32), none, .alloc [.int .i64 0, .int .i64 0, .int .i64 0, .int .i64 0, .int .i64 0, .int .i64 0]⟩ (.alt (.op ⟨(some 188), none, .extr 0 (.t 178)⟩ (.alt (.op ⟨(some 189), none, .extr 1 (.t 178)⟩ (.op ⟨none, none, .store 6 (.t 32) (.t 188)⟩ (.op ⟨(some 33), none, .mv (.t 189)⟩ .fin))) (.op ⟨none, none, .store 6 (.t 32) (.t 188)⟩ (.op ⟨(some 189), none, .extr 1 (.t 178)⟩ (.op ⟨(some 33), none, .mv (.t 189)⟩ .fin))))) (.op ⟨(some 189), none, .extr 1 (.t 178)⟩ (.op ⟨(some 188), none, .extr 0 (.t 178)⟩ (.op ⟨none, none, .store 6 (.t 32) (.t 188)⟩ (.op ⟨(some 33), none, .mv (.t 189)⟩ .fin)))))))))) (.op ⟨(some 32), none, .alloc [.int .i64 0, .int .i64 0, .int .i64 0, .int .i64 0, .int .i64 0, .int .i64 0]⟩ (.op ⟨(some 187), none, .call (.c (.fn (.func 45) [] [])) [(.t 182), (.t 186)]⟩ (.op ⟨(some 178), none, .mv (.t 187)⟩ (.alt (.op ⟨(some 188), none, .extr 0 (.t 178)⟩ (.alt (.op ⟨(some 189), none, .extr 1 (.t 178)⟩ (.op ⟨none, none, .store 6 (.t 32) (.t 188)⟩ (.op ⟨(some 33), none, .mv (.t 189)⟩ .fin))) (.op ⟨none, none, .store 6 (.t 32) (.t 188)⟩ (.op ⟨(some 189), none, .extr 1 (.t 178)⟩ (.op ⟨(some 33), none, .mv (.t 189)⟩ .fin))))) (.op ⟨(some 189), none, .extr 1 (.t 178)⟩ (.op ⟨(some 188), none, .extr 0 (.t 178)⟩ (.op ⟨none, none, .store 6 (.t 32) (.t 188)⟩ (.op ⟨(some 33), none, .mv (.t 189)⟩ .fin)))))))))) (.op ⟨(some 32), none, .alloc [.int .i64 0, .int .i64 0, .int .i64 0, .int .i64 0, .int .i64 0, .int .i64 0]⟩ (.op ⟨(some 186), none, .load true 6 (.t 185)⟩ (.op ⟨(some 187), none, .call (.c (.fn (.func 45) [] [])) [(.t 182), (.t 186)]⟩ (.op ⟨(some 178), none, .mv (.t 187)⟩ (.alt (.op ⟨(some 188), none, .extr 0 (.t 178)⟩ (.alt (.op ⟨(some 189), none, .extr 1 (.t 178)⟩ (.op ⟨none, none, .store 6 (.t 32) (.t 188)⟩ (.op ⟨(some 33), none, .mv (.t 189)⟩ .fin))) (.op ⟨none, none, .store 6 (.t 32) (.t 188)⟩ (.op ⟨(some 189), none, .extr 1 (.t 178)⟩ (.op ⟨(some 33), none, .mv (.t 189)⟩ .fin))))) (.op ⟨(some 189), none, .extr 1 (.t 178)⟩ (.op ⟨(some 188), none, .extr 0 (.t 178)⟩ (.op ⟨none, none, .store 6 (.t 32) (.t 188)⟩ (.op ⟨(some 33), none, .mv (.t 189)⟩ .fin))))))))))) (.op ⟨(some 32), none, .alloc [.int .i64 0, .int .i64 0, .int .i64 0, .int .i64 0, .int .i64 0, .int .i64 0]⟩ (.op ⟨(some 185), none, .idxS 6 (.t 183) (.t 184)⟩ (.op ⟨(some 186), none, .load true 6 (.t 185)⟩ (.op ⟨(some 187), none, .call (.c (.fn (.func 45) [] [])) [(.t 182), (.t 186)]⟩ (.op ⟨(some 178), none, .mv (.t 187)⟩ (.alt (.op ⟨(some 188), none, .extr 0 (.t 178)⟩ (.alt (.op ⟨(some 189), none, .extr 1 (.t 178)⟩ (.op ⟨none, none, .store 6 (.t 32) (.t 188)⟩ (.op ⟨(some 33), none, .mv (.t 189)⟩ .fin))) (.op ⟨none, none, .store 6 (.t 32) (.t 188)⟩ (.op ⟨(some 189), none, .extr 1 (.t 178)⟩ (.op ⟨(some 33), none, .mv (.t 189)⟩ .fin))))) (.op ⟨(some 189), none, .extr 1 (.t 178)⟩ (.op ⟨(some 188), none, .extr 0 (.t 178)⟩ (.op ⟨none, none, .store 6 (.t 32) (.t 188)⟩ (.op ⟨(some 33), none, .mv (.t 189)⟩ .fin)))))))))))) (.alt (.op ⟨(some 185), none, .idxS 6 (.t 183) (.t 184)⟩ (.alt (.op ⟨(some 182), none, .load true 6 (.t 181)⟩ (.alt (.op ⟨(some 186), none, .load true 6 (.t 185)⟩ (.alt (.op ⟨(some 187), none, .call (.c (.fn (.func 45) [] [])) [(.t 182), (.t 186)]⟩ (.op ⟨(some 178), none, .mv (.t 187)⟩ (.alt (.op ⟨(some 188), none, .extr 0 (.t 178)⟩ (.alt (.op ⟨(some 189), none, .extr 1 (.t 178)⟩ (.op ⟨(some 32), none, .alloc [.int .i64 0, .int .i64 0, .int .i64 0, .int .i64 0, .int .i64 0, .int .i64 0]⟩ (.op ⟨none, none, .store 6 (.t 32) (.t 188)⟩ (.op ⟨(some 33), none, .mv (.t 189)⟩ .fin)))) (.op ⟨(some 32), none, .alloc [.int .i64 0, .int .i64 0, .int .i64 0, .int .i64 0, .int .i64 0, .int .i64 0]⟩ (.alt (.op ⟨(some 189), none, .extr 1 (.t 178)⟩ (.op ⟨none, none, .store 6 (.t 32) (.t 188)⟩ (.op ⟨(some 33), none, .mv (.t 189)⟩ .fin))) (.op ⟨none, none, .store 6 (.t 32) (.t 188)⟩ (.op ⟨(some 189), none, .extr 1 (.t 178)⟩ (.op ⟨(some 33), none, .mv (.t 189)⟩ .fin))))))) (.alt (.op ⟨(some 189), none, .extr 1 (.t 178)⟩ (.alt (.op ⟨(some 188), none, .extr 0 (.t 178)⟩ (.op ⟨(some 32), none, .alloc [.int .i64 0, .int .i64 0, .int .i64 0, .int .i64 0, .int .i64 0, .int .i64 0]⟩ (.op ⟨none, none, .store 6 (.t 32) (.t 188)⟩ (.op ⟨(some 33), none, .mv (.t 189)⟩ .fin)))) (.op ⟨(some 32), none, .alloc [.int .i64 0, .int .i64 0, .int .i64 0, .int .i64 0, .int .i64 0, .int .i64 0]⟩ (.op ⟨(some 188), none, .extr 0 (.t 178)⟩ (.op ⟨none, none, .store 6 (.t 32) (.t 188)⟩ (.op ⟨(some 33), none, .mv (.t 189)⟩ .fin)))))) (.op ⟨(some 32), none, .alloc [.int .i64 0, .int .i64 0, .int .i64 0, .int .i64 0, .int .i64 0, .int .i64 0]⟩ (.alt (.op ⟨(some 188), none, .extr 0 (.t 178)⟩ (.alt (.op ⟨(some 189), none, .extr 1 (.t 178)⟩ (.op ⟨none, none, .store 6 (.t 32) (.t 188)⟩ (.op ⟨(some 33), none, .mv (.t 189)⟩ .fin))) (.op ⟨none, none, .store 6 (.t 32) (.t 188)⟩ (.op ⟨(some 189), none, .extr 1 (.t 178)⟩ (.op ⟨(some 33), none, .mv (.t 189)⟩ .fin))))) (.op ⟨(some 189), none, .extr 1 (.t 178)⟩ (.op ⟨(some 188), none, .extr 0 (.t 178)⟩ (.op ⟨none, none, .store 6 (.t 32) (.t 188)⟩ (.op ⟨(some 33), none, .mv (.t 189)⟩ .fin)))))))))) (.op ⟨(some 32), none, .alloc [.int .i64 0, .int .i64 0, .int .i64 0, .int .i64 0, .int .i64 0, .int .i64 0]⟩ (.op ⟨(some 187), none, .call (.c (.fn (.func 45) [] [])) [(.t 182), (.t 186)]⟩ (.op ⟨(some 178), none, .mv (.t 187)⟩ (.alt (.op ⟨(some 188), none, .extr 0 (.t 178)⟩ (.alt (.op ⟨(some 189), none, .extr 1 (.t 178)⟩ (.op ⟨none, none, .store 6 (.t 32) (.t 188)⟩ (.op ⟨(some 33), none, .mv (.t 189)⟩ .fin))) (.op ⟨none, none, .store 6 (.t 32) (.t 188)⟩ (.op ⟨(some 189), none, .extr 1 (.t 178)⟩ (.op ⟨(some 33), none, .mv (.t 189)⟩ .fin))))) (.op ⟨(some 189), none, .extr 1 (.t 178)⟩ (.op ⟨(some 188), none, .extr 0 (.t 178)⟩ (.op ⟨none, none, .store 6 (.t 32) (.t 188)⟩ (.op ⟨(some 33), none, .mv (.t 189)⟩ .fin)))))))))) (.op ⟨(some 32), none, .alloc [.int .i64 0, .int .i64 0, .int .i64 0, .int .i64 0, .int .i64 0, .int .i64 0]⟩ (.op ⟨(some 186), none, .load true 6 (.t 185)⟩ (.op ⟨(some 187), none, .call (.c (.fn (.func 45) [] [])) [(.t 182), (.t 186)]⟩ (.op ⟨(some 178), none, .mv (.t 187)⟩ (.alt (.op ⟨(some 188), none, .extr 0 (.t 178)⟩ (.alt (.op ⟨(some 189), none, .extr 1 (.t 178)⟩ (.op ⟨none, none, .store 6 (.t 32) (.t 188)⟩ (.op ⟨(some 33), none, .mv (.t 189)⟩ .fin))) (.op ⟨none, none, .store 6 (.t 32) (.t 188)⟩ (.op ⟨(some 189), none, .extr 1 (.t 178)⟩ (.op ⟨(some 33), none, .mv (.t 189)⟩ .fin))))) (.op ⟨(some 189), none, .extr 1 (.t 178)⟩ (.op ⟨(some 188), none, .extr 0 (.t 178)⟩ (.op ⟨none, none, .store 6 (.t 32) (.t 188)⟩ (.op ⟨(some 33), none, .mv (.t 189)⟩ .fin))))))))))) (.alt (.op ⟨(some 186), none, .load true 6 (.t 185)⟩ (.alt (.op ⟨(some 182), none, .load true 6 (.t 181)⟩ (.alt (.op ⟨(some 187), none, .call (.c (.fn (.func 45) [] [])) [(.t 182), (.t 186)]⟩ (.op ⟨(some 178), none, .mv (.t 187)⟩ (.alt (.op ⟨(some 188), none, .extr 0 (.t 178)⟩ (.alt (.op ⟨(some 189), none, .extr 1 (.t 178)⟩ (.op ⟨(some 32), none, .alloc [.int .i64 0, .int .i64 0, .int .i64 0, .int .i64 0, .int .i64 0, .int .i64 0]⟩ (.op ⟨none, none, .store 6 (.t 32) (.t 188)⟩ (.op ⟨(some 33), none, .mv (.t 189)⟩ .fin)))) (.op ⟨(some 32), none, .alloc [.int .i64 0, .int .i64 0, .int .i64 0, .int .i64 0, .int .i64 0, .int .i64 0]⟩ (.alt (.op ⟨(some 189), none, .extr 1 (.t 178)⟩ (.op ⟨none, none, .store 6 (.t 32) (.t 188)⟩ (.op ⟨(some 33), none, .mv (.t 189)⟩ .fin))) (.op ⟨none, none, .store 6 (.t 32) (.t 188)⟩ (.op ⟨(some 189), none, .extr 1 (.t 178)⟩ (.op ⟨(some 33), none, .mv (.t 189)⟩ .fin))))))) (.alt (.op ⟨(some 189), none, .extr 1 (.t 178)⟩ (.alt (.op ⟨(some 188), none, .extr 0 (.t 178)⟩ (.op ⟨(some 32), none, .alloc [.int .i64 0, .int .i64 0, .int .i64 0, .int .i64 0, .int .i64 0, .int .i64 0]⟩ (.op ⟨none, none, .store 6 (.t 32) (.t 188)⟩ (.op ⟨(some 33), none, .mv (.t 189)⟩ .fin)))) (.op ⟨(some 32), none, .alloc [.int .i64 0, .int .i64 0, .int .i64 0, .int .i64 0, .int .i64 0, .int .i64 0]⟩ (.op ⟨(some 188), none, .extr 0 (.t 178)⟩ (.op ⟨none, none, .store 6 (.t 32) (.t 188)⟩ (.op ⟨(some 33), none, .mv (.t 189)⟩ .fin)))))) (.op ⟨(some 32), none, .alloc [.int .i64 0, .int .i64 0, .int .i64 0, .int .i64 0, .int .i64 0, .int .i64 0]⟩ (.alt (.op ⟨(some 188), none, .extr 0 (.t 178)⟩ (.alt (.op ⟨(some 189), none, .extr 1 (.t 178)⟩ (.op ⟨none, none, .store 6 (.t 32) (.t 188)⟩ (.op ⟨(some 33), none, .mv (.t 189)⟩ .fin))) (.op ⟨none, none, .store 6 (.t 32) (.t 188)⟩ (.op ⟨(some 189), none, .extr 1 (.t 178)⟩ (.op ⟨(some 33), none, .mv (.t 189)⟩ .fin))))) (.op ⟨(some 189), none, .extr 1 (.t 178)⟩ (.op ⟨(some 188), none, .extr 0 (.t 178)⟩ (.op ⟨none, none, .store 6 (.t 32) (.t 188)⟩ (.op ⟨(some 33), none, .mv (.t 189)⟩ .fin)))))))))) (.op ⟨(some 32), none, .alloc [.int .i64 0, .int .i64 0, .int .i64 0, .int .i64 0, .int .i64 0, .int .i64 0]⟩ (.op ⟨(some 187), none, .call (.c (.fn (.func 45) [] [])) [(.t 182), (.t 186)]⟩ (.op ⟨(some 178), none, .mv (.t 187)⟩ (.alt (.op ⟨(some 188), none, .extr 0 (.t 178)⟩ (.alt (.op ⟨(some 189), none, .extr 1 (.t 178)⟩ (.op ⟨none, none, .store 6 (.t 32) (.t 188)⟩ (.op ⟨(some 33), none, .mv (.t 189)⟩ .fin))) (.op ⟨none, none, .store 6 (.t 32) (.t 188)⟩ (.op ⟨(some 189), none, .extr 1 (.t 178)⟩ (.op ⟨(some 33), none, .mv (.t 189)⟩ .fin))))) (.op ⟨(some 189), none, .extr 1 (.t 178)⟩ (.op ⟨(some 188), none, .extr 0 (.t 178)⟩ (.op ⟨none, none, .store 6 (.t 32) (.t 188)⟩ (.op ⟨(some 33), none, .mv (.t 189)⟩ .fin)))))))))) (.op ⟨(some 32), none, .alloc [.int .i64 0, .int .i64 0, .int .i64 0, .int .i64 0, .int .i64 0, .int .i64 0]⟩ (.op ⟨(some 182), none, .load true 6 (.t 181)⟩ (.op ⟨(some 187), none, .call (.c (.fn (.func 45) [] [])) [(.t 182), (.t 186)]⟩ (.op ⟨(some 178), none, .mv (.t 187)⟩ (.alt (.op ⟨(some 188), none, .extr 0 (.t 178)⟩ (.alt (.op ⟨(some 189), none, .extr 1 (.t 178)⟩ (.op ⟨none, none, .store 6 (.t 32) (.t 188)⟩ (.op ⟨(some 33), none, .mv (.t 189)⟩ .fin))) (.op ⟨none, none, .store 6 (.t 32) (.t 188)⟩ (.op ⟨(some 189), none, .extr 1 (.t 178)⟩ (.op ⟨(some 33), none, .mv (.t 189)⟩ .fin))))) (.op ⟨(some 189), none, .extr 1 (.t 178)⟩ (.op ⟨(some 188), none, .extr 0 (.t 178)⟩ (.op ⟨none, none, .store 6 (.t 32) (.t 188)⟩ (.op ⟨(some 33), none, .mv (.t 189)⟩ .fin))))))))))) (.op ⟨(some 32), none, .alloc [.int .i64 0, .int .i64 0, .int .i64 0, .int .i64 0, .int .i64 0, .int .i64 0]⟩ (.alt (.op ⟨(some 182), none, .load true 6 (.t 181)⟩ (.op ⟨(some 186), none, .load true 6 (.t 185)⟩ (.op ⟨(some 187), none, .call (.c (.fn (.func 45) [] [])) [(.t 182), (.t 186)]⟩ (.op ⟨(some 178), none, .mv (.t 187)⟩ (.alt (.op ⟨(some 188), none, .extr 0 (.t 178)⟩ (.alt (.op ⟨(some 189), none, .extr 1 (.t 178)⟩ (.op ⟨none, none, .store 6 (.t 32) (.t 188)⟩ (.op ⟨(some 33), none, .mv (.t 189)⟩ .fin))) (.op ⟨none, none, .store 6 (.t 32) (.t 188)⟩ (.op ⟨(some 189), none, .extr 1 (.t 178)⟩ (.op ⟨(some 33), none, .mv (.t 189)⟩ .fin))))) (.op ⟨(some 189), none, .extr 1 (.t 178)⟩ (.op ⟨(some 188), none, .extr 0 (.t 178)⟩ (.op ⟨none, none, .store 6 (.t 32) (.t 188)⟩ (.op ⟨(some 33), none, .mv (.t 189)⟩ .fin))))))))) (.op ⟨(some 186), none, .load true 6 (.t 185)⟩ (.op ⟨(some 182), none, .load true 6 (.t 181)⟩ (.op ⟨(some 187), none, .call (.c (.fn (.func 45) [] [])) [(.t 182), (.t 186)]⟩ (.op ⟨(some 178), none, .mv (.t 187)⟩ (.alt (.op ⟨(some 188), none, .extr 0 (.t 178)⟩ (.alt (.op ⟨(some 189), none, .extr 1 (.t 178)⟩ (.op ⟨none, none, .store 6 (.t 32) (.t 188)⟩ (.op ⟨(some 33), none, .mv (.t 189)⟩ .fin))) (.op ⟨none, none, .store 6 (.t 32) (.t 188)⟩ (.op ⟨(some 189), none, .extr 1 (.t 178)⟩ (.op ⟨(some 33), none, .mv (.t 189)⟩ .fin))))) (.op ⟨(some 189), none, .extr 1 (.t 178)⟩ (.op ⟨(some 188), none, .extr 0 (.t 178)⟩ (.op ⟨none, none, .store 6 (.t 32) (.t 188)⟩ (.op ⟨(some 33), none, .mv (.t 189)⟩ .fin)))))))))))))) (.op ⟨(some 32), none, .alloc [.int .i64 0, .int .i64 0, .int .i64 0, .int .i64 0, .int .i64 0, .int .i64 0]⟩ (.alt (.op ⟨(some 182), none, .load true 6 (.t 181)⟩ (.op ⟨(some 185), none, .idxS 6 (.t 183) (.t 184)⟩ (.op ⟨(some 186), none, .load true 6 (.t 185)⟩ (.op ⟨(some 187), none, .call (.c (.fn (.func 45) [] [])) [(.t 182), (.t 186)]⟩ (.op ⟨(some 178), none, .mv (.t 187)⟩ (.alt (.op ⟨(some 188), none, .extr 0 (.t 178)⟩ (.alt (.op ⟨(some 189), none, .extr 1 (.t 178)⟩ (.op ⟨none, none, .store 6 (.t 32) (.t 188)⟩ (.op ⟨(some 33), none, .mv (.t 189)⟩ .fin))) (.op ⟨none, none, .store 6 (.t 32) (.t 188)⟩ (.op ⟨(some 189), none, .extr 1 (.t 178)⟩ (.op ⟨(some 33), none, .mv (.t 189)⟩ .fin))))) (.op ⟨(some 189), none, .extr 1 (.t 178)⟩ (.op ⟨(some 188), none, .extr 0 (.t 178)⟩ (.op ⟨none, none, .store 6 (.t 32) (.t 188)⟩ (.op ⟨(some 33), none, .mv (.t 189)⟩ .fin)))))))))) (.op ⟨(some 185), none, .idxS 6 (.t 183) (.t 184)⟩ (.alt (.op ⟨(some 182), none, .load true 6 (.t 181)⟩ (.op ⟨(some 186), none, .load true 6 (.t 185)⟩ (.op ⟨(some 187), none, .call (.c (.fn (.func 45) [] [])) [(.t 182), (.t 186)]⟩ (.op ⟨(some 178), none, .mv (.t 187)⟩ (.alt (.op ⟨(some 188), none, .extr 0 (.t 178)⟩ (.alt (.op ⟨(some 189), none, .extr 1 (.t 178)⟩ (.op ⟨none, none, .store 6 (.t 32) (.t 188)⟩ (.op ⟨(some 33), none, .mv (.t 189)⟩ .fin))) (.op ⟨none, none, .store 6 (.t 32) (.t 188)⟩ (.op ⟨(some 189), none, .extr 1 (.t 178)⟩ (.op ⟨(some 33), none, .mv (.t 189)⟩ .fin))))) (.op ⟨(some 189), none, .extr 1 (.t 178)⟩ (.op ⟨(some 188), none, .extr 0 (.t 178)⟩ (.op ⟨none, none, .store 6 (.t 32) (.t 188)⟩ (.op ⟨(some 33), none, .mv (.t 189)⟩ .fin))))))))) (.op ⟨(some 186), none, .load true 6 (.t 185)⟩ (.op ⟨(some 182), none, .load true 6 (.t 181)⟩ (.op ⟨(some 187), none, .call (.c (.fn (.func 45) [] [])) [(.t 182), (.t 186)]⟩ (.op ⟨(some 178), none, .mv (.t 187)⟩ (.alt (.op ⟨(some 188), none, .extr 0 (.t 178)⟩ (.alt (.op ⟨(some 189), none, .extr 1 (.t 178)⟩ (.op ⟨none, none, .store 6 (.t 32) (.t 188)⟩ (.op ⟨(some 33), none, .mv (.t 189)⟩ .fin))) (.op ⟨none, none, .store 6 (.t 32) (.t 188)⟩ (.op ⟨(some 189), none, .extr 1 (.t 178)⟩ (.op ⟨(some 33), none, .mv (.t 189)⟩ .fin))))) (.op ⟨(some 189), none, .extr 1 (.t 178)⟩ (.op ⟨(some 188), none, .extr 0 (.t 178)⟩ (.op ⟨none, none, .store 6 (.t 32) (.t 188)⟩ (.op ⟨(some 33), none, .mv (.t 189)⟩ .fin)))))))))))))))) (.alt (.op ⟨(some 185), none, .idxS 6 (.t 183) (.t 184)⟩ (.alt (.op ⟨(some 181), none, .idxS 6 (.t 179) (.t 180)⟩ (.alt (.op ⟨(some 182), none, .load true 6 (.t 181)⟩ (.alt (.op ⟨(some 186), none, .load true 6 (.t 185)⟩ (.alt (.op ⟨(some 187), none, .call (.c (.fn (.func 45) [] [])) [(.t 182), (.t 186)]⟩ (.op ⟨(some 178), none, .mv (.t 187)⟩ (.alt (.op ⟨(some 188), none, .extr 0 (.t 178)⟩ (.alt (.op ⟨(some 189), none, .extr 1 (.t 178)⟩ (.op ⟨(some 32), none, .alloc [.int .i64 0, .int .i64 0, .int .i64 0, .int .i64 0, .int .i64 0, .int .i64 0]⟩ (.op ⟨none, none, .store 6 (.t 32) (.t 188)⟩ (.op ⟨(some 33), none, .mv (.t 189)⟩ .fin)))) (.op ⟨(some 32), none, .alloc [.int .i64 0, .int .i64 0, .int .i64 0, .int .i64 0, .int .i64 0, .int .i64 0]⟩ (.alt (.op ⟨(some 189), none, .extr 1 (.t 178)⟩ (.op ⟨none, none, .store 6 (.t 32) (.t 188)⟩ (.op ⟨(some 33), none, .mv (.t 189)⟩ .fin))) (.op ⟨none, none, .store 6 (.t 32) (.t 188)⟩ (.op ⟨(some 189), none, .extr 1 (.t 178)⟩ (.op ⟨(some 33), none, .mv (.t 189)⟩ .fin))))))) (.alt (.op ⟨(some 189), none, .extr 1 (.t 178)⟩ (.alt (.op ⟨(some 188), none, .extr 0 (.t 178)⟩ (.op ⟨(some 32), none, .alloc [.int .i64 0, .int .i64 0, .int .i64 0, .int .i64 0, .int .i64 0, .int .i64 0]⟩ (.op ⟨none, none, .store 6 (.t 32) (.t 188)⟩ (.op ⟨(some 33), none, .mv (.t 189)⟩ .fin)))) (.op ⟨(some 32), none, .alloc [.int .i64 0, .int .i64 0, .int .i64 0, .int .i64 0, .int .i64 0, .int .i64 0]⟩ (.op ⟨(some 188), none, .extr 0 (.t 178)⟩ (.op ⟨none, none, .store 6 (.t 32) (.t 188)⟩ (.op ⟨(some 33), none, .mv (.t 189)⟩ .fin)))))) (.op ⟨(some 32), none, .alloc [.int .i64 0, .int .i64 0, .int .i64 0, .int .i64 0, .int .i64 0, .int .i64 0]⟩ (.alt (.op ⟨(some 188), none, .extr 0 (.t 178)⟩ (.alt (.op ⟨(some 189), none, .extr 1 (.t 178)⟩ (.op ⟨none, none, .store 6 (.t 32) (.t 188)⟩ (.op ⟨(some 33), none, .mv (.t 189)⟩ .fin))) (.op ⟨none, none, .store 6 (.t 32) (.t 188)⟩ (.op ⟨(some 189), none, .extr 1 (.t 178)⟩ (.op ⟨(some 33), none, .mv (.t 189)⟩ .fin))))) (.op ⟨(some 189), none, .extr 1 (.t 178)⟩ (.op ⟨(some 188), none, .extr 0 (.t 178)⟩ (.op ⟨none, none, .store 6 (.t 32) (.t 188)⟩ (.op ⟨(some 33), none, .mv (.t 189)⟩ .fin)))))))))) (.op ⟨(some 32), none, .alloc [.int .i64 0, .int .i64 0, .int .i64 0, .int .i64 0, .int .i64 0, .int .i64 0]⟩ (.op ⟨(some 187), none, .call (.c (.fn (.func 45) [] [])) [(.t 182), (.t 186)]⟩ (.op ⟨(some 178), none, .mv (.t 187)⟩ (.alt (.op ⟨(some 188), none, .extr 0 (.t 178)⟩ (.alt (.op ⟨(some 189), none, .extr 1 (.t 178)⟩ (.op ⟨none, none, .store 6 (.t 32) (.t 188)⟩ (.op ⟨(some 33), none, .mv (.t 189)⟩ .fin))) (.op ⟨none, none, .store 6 (.t 32) (.t 188)⟩ (.op ⟨(some 189), none, .extr 1 (.t 178)⟩ (.op ⟨(some 33), none, .mv (.t 189)⟩ .fin))))) (.op ⟨(some 189), none, .extr 1 (.t 178)⟩ (.op ⟨(some 188), none, .extr 0 (.t 178)⟩ (.op ⟨none, none, .store 6 (.t 32) (.t 188)⟩ (.op ⟨(some 33), none, .mv (.t 189)⟩ .fin)))))))))) (.op ⟨(some 32), none, .alloc [.int .i64 0, .int .i64 0, .int .i64 0, .int .i64 0, .int .i64 0, .int .i64 0]⟩ (.op ⟨(some 186), none, .load true 6 (.t 185)⟩ (.op ⟨(some 187), none, .call (.c (.fn (.func 45) [] [])) [(.t 182), (.t 186)]⟩ (.op ⟨(some 178), none, .mv (.t 187)⟩ (.alt (.op ⟨(some 188), none, .extr 0 (.t 178)⟩ (.alt (.op ⟨(some 189), none, .extr 1 (.t 178)⟩ (.op ⟨none, none, .store 6 (.t 32) (.t 188)⟩ (.op ⟨(some 33), none, .mv (.t 189)⟩ .fin))) (.op ⟨none, none, .store 6 (.t 32) (.t 188)⟩ (.op ⟨(some 189), none, .extr 1 (.t 178)⟩ (.op ⟨(some 33), none, .mv (.t 189)⟩ .fin))))) (.op ⟨(some 189), none, .extr 1 (.t 178)⟩ (.op ⟨(some 188), none, .extr 0 (.t 178)⟩ (.op ⟨none, none, .store 6 (.t 32) (.t 188)⟩ (.op ⟨(some 33), none, .mv (.t 189)⟩ .fin))))))))))) (.alt (.op ⟨(some 186), none, .load true 6 (.t 185)⟩ (.alt (.op ⟨(some 182), none, .load true 6 (.t 181)⟩ (.alt (.op ⟨(some 187), none, .call (.c (.fn (.func 45) [] [])) [(.t 182), (.t 186)]⟩ (.op ⟨(some 178), none, .mv (.t 187)⟩ (.alt (.op ⟨(some 188), none, .extr 0 (.t 178)⟩ (.alt (.op ⟨(some 189), none, .extr 1 (.t 178)⟩ (.op ⟨(some 32), none, .alloc [.int .i64 0, .int .i64 0, .int .i64 0, .int .i64 0, .int .i64 0, .int .i64 0]⟩ (.op ⟨none, none, .store 6 (.t 32) (.t 188)⟩ (.op ⟨(some 33), none, .mv (.t 189)⟩ .fin)))) (.op ⟨(some 32), none, .alloc [.int .i64 0, .int .i64 0, .int .i64 0, .int .i64 0, .int .i64 0, .int .i64 0]⟩ (.alt (.op ⟨(some 189), none, .extr 1 (.t 178)⟩ (.op ⟨none, none, .store 6 (.t 32) (.t 188)⟩ (.op ⟨(some 33), none, .mv (.t 189)⟩ .fin))) (.op ⟨none, none, .store 6 (.t 32) (.t 188)⟩ (.op ⟨(some 189), none, .extr 1 (.t 178)⟩ (.op ⟨(some 33), none, .mv (.t 189)⟩ .fin))))))) (.alt (.op ⟨(some 189), none, .extr 1 (.t 178)⟩ (.alt (.op ⟨(some 188), none, .extr 0 (.t 178)⟩ (.op ⟨(some 32), none, .alloc [.int .i64 0, .int .i64 0, .int .i64 0, .int .i64 0, .int .i64 0, .int .i64 0]⟩ (.op ⟨none, none, .store 6 (.t 32) (.t 188)⟩ (.op ⟨(some 33), none, .mv (.t 189)⟩ .fin)))) (.op ⟨(some 32), none, .alloc [.int .i64 0, .int .i64 0, .int .i64 0, .int .i64 0, .int .i64 0, .int .i64 0]⟩ (.op ⟨(some 188), none, .extr 0 (.t 178)⟩ (.op ⟨none, none, .store 6 (.t 32) (.t 188)⟩ (.op ⟨(some 33), none, .mv (.t 189)⟩ .fin)))))) (.op ⟨(some 32), none, .alloc [.int .i64 0, .int .i64 0, .int .i64 0, .int .i64 0, .int .i64 0, .int .i64 0]⟩ (.alt (.op ⟨(some 188), none, .extr 0 (.t 178)⟩ (.alt (.op ⟨(some 189), none, .extr 1 (.t 178)⟩ (.op ⟨none, none, .store 6 (.t 32) (.t 188)⟩ (.op ⟨(some 33), none, .mv (.t 189)⟩ .fin))) (.op ⟨none, none, .store 6 (.t 32) (.t 188)⟩ (.op ⟨(some 189), none, .extr 1 (.t 178)⟩ (.op ⟨(some 33), none, .mv (.t 189)⟩ .fin))))) (.op ⟨(some 189), none, .extr 1 (.t 178)⟩ (.op ⟨(some 188), none, .extr 0 (.t 178)⟩ (.op ⟨none, none, .store 6 (.t 32) (.t 188)⟩ (.op ⟨(some 33), none, .mv (.t 189)⟩ .fin)))))))))) (.op ⟨(some 32), none, .alloc [.int .i64 0, .int .i64 0, .int .i64 0, .int .i64 0, .int .i64 0, .int .i64 0]⟩ (.op ⟨(some 187), none, .call (.c (.fn (.func 45) [] [])) [(.t 182), (.t 186)]⟩ (.op ⟨(some 178), none, .mv (.t 187)⟩ (.alt (.op ⟨(some 188), none, .extr 0 (.t 178)⟩ (.alt (.op ⟨(some 189), none, .extr 1 (.t 178)⟩ (.op ⟨none, none, .store 6 (.t 32) (.t 188)⟩ (.op ⟨(some 33), none, .mv (.t 189)⟩ .fin))) (.op ⟨none, none, .store 6 (.t 32) (.t 188)⟩ (.op ⟨(some 189), none, .extr 1 (.t 178)⟩ (.op ⟨(some 33), none, .mv (.t 189)⟩ .fin))))) (.op ⟨(some 189), none, .extr 1 (.t 178)⟩ (.op ⟨(some 188), none, .extr 0 (.t 178)⟩ (.op ⟨none, none, .store 6 (.t 32) (.t 188)⟩ (.op ⟨(some 33), none, .mv (.t 189)⟩ .fin)))))))))) (.op ⟨(some 32), none, .alloc [.int .i64 0, .int .i64 0, .int .i64 0, .int .i64 0, .int .i64 0, .int .i64 0]⟩ (.op ⟨(some 182), none, .load true 6 (.t 181)⟩ (.op ⟨(some 187), none, .call (.c (.fn (.func 45) [] [])) [(.t 182), (.t 186)]⟩ (.op ⟨(some 178), none, .mv (.t 187)⟩ (.alt (.op ⟨(some 188), none, .extr 0 (.t 178)⟩ (.alt (.op ⟨(some 189), none, .extr 1 (.t 178)⟩ (.op ⟨none, none, .store 6 (.t 32) (.t 188)⟩ (.op ⟨(some 33), none, .mv (.t 189)⟩ .fin))) (.op ⟨none, none, .store 6 (.t 32) (.t 188)⟩ (.op ⟨(some 189), none, .extr 1 (.t 178)⟩ (.op ⟨(some 33), none, .mv (.t 189)⟩ .fin))))) (.op ⟨(some 189), none, .extr 1 (.t 178)⟩ (.op ⟨(some 188), none, .extr 0 (.t 178)⟩ (.op ⟨none, none, .store 6 (.t 32) (.t 188)⟩ (.op ⟨(some 33), none, .mv (.t 189)⟩ .fin))))))))))) (.op ⟨(some 32), none, .alloc [.int .i64 0, .int .i64 0, .int .i64 0, .int .i64 0, .int .i64 0, .int .i64 0]⟩ (.alt (.op ⟨(some 182), none, .load true 6 (.t 181)⟩ (.op ⟨(some 186), none, .load true 6 (.t 185)⟩ (.op ⟨(some 187), none, .call (.c (.fn (.func 45) [] [])) [(.t 182), (.t 186)]⟩ (.op ⟨(some 178), none, .mv (.t 187)⟩ (.alt (.op ⟨(some 188), none, .extr 0 (.t 178)⟩ (.alt (.op ⟨(some 189), none, .extr 1 (.t 178)⟩ (.op ⟨none, none, .store 6 (.t 32) (.t 188)⟩ (.op ⟨(some 33), none, .mv (.t 189)⟩ .fin))) (.op ⟨none, none, .store 6 (.t 32) (.t 188)⟩ (.op ⟨(some 189), none, .extr 1 (.t 178)⟩ (.op ⟨(some 33), none, .mv (.t 189)⟩ .fin))))) (.op ⟨(some 189), none, .extr 1 (.t 178)⟩ (.op ⟨(some 188), none, .extr 0 (.t 178)⟩ (.op ⟨none, none, .store 6 (.t 32) (.t 188)⟩ (.op ⟨(some 33), none, .mv (.t 189)⟩ .fin))))))))) (.op ⟨(some 186), none, .load true 6 (.t 185)⟩ (.op ⟨(some 182), none, .load true 6 (.t 181)⟩ (.op ⟨(some 187), none, .call (.c (.fn (.func 45) [] [])) [(.t 182), (.t 186)]⟩ (.op ⟨(some 178), none, .mv (.t 187)⟩ (.alt (.op ⟨(some 188), none, .extr 0 (.t 178)⟩ (.alt (.op ⟨(some 189), none, .extr 1 (.t 178)⟩ (.op ⟨none, none, .store 6 (.t 32) (.t 188)⟩ (.op ⟨(some 33), none, .mv (.t 189)⟩ .fin))) (.op ⟨none, none, .store 6 (.t 32) (.t 188)⟩ (.op ⟨(some 189), none, .extr 1 (.t 178)⟩ (.op ⟨(some 33), none, .mv (.t 189)⟩ .fin))))) (.op ⟨(some 189), none, .extr 1 (.t 178)⟩ (.op ⟨(some 188), none, .extr 0 (.t 178)⟩ (.op ⟨none, none, .store 6 (.t 32) (.t 188)⟩ (.op ⟨(some 33), none, .mv (.t 189)⟩ .fin)))))))))))))) (.alt (.op ⟨(some 186), none, .load true 6 (.t 185)⟩ (.alt (.op ⟨(some 181), none, .idxS 6 (.t 179) (.t 180)⟩ (.alt (.op ⟨(some 182), none, .load true 6 (.t 181)⟩ (.alt (.op ⟨(some 187), none, .call (.c (.fn (.func 45) [] [])) [(.t 182), (.t 186)]⟩ (.op ⟨(some 178), none, .mv (.t 187)⟩ (.alt (.op ⟨(some 188), none, .extr 0 (.t 178)⟩ (.alt (.op ⟨(some 189), none, .extr 1 (.t 178)⟩ (.op ⟨(some 32), none, .alloc [.int .i64 0, .int .i64 0, .int .i64 0, .int .i64 0, .int .i64 0, .int .i64 0]⟩ (.op ⟨none, none, .store 6 (.t 32) (.t 188)⟩ (.op ⟨(some 33), none, .mv (.t 189)⟩ .fin)))) (.op ⟨(some 32), none, .alloc [.int .i64 0, .int .i64 0, .int .i64 0, .int .i64 0, .int .i64 0, .int .i64 0]⟩ (.alt (.op ⟨(some 189), none, .extr 1 (.t 178)⟩ (.op ⟨none, none, .store 6 (.t 32) (.t 188)⟩ (.op ⟨(some 33), none, .mv (.t 189)⟩ .fin))) (.op ⟨none, none, .store 6 (.t 32) (.t 188)⟩ (.op ⟨(some 189), none, .extr 1 (.t 178)⟩ (.op ⟨(some 33), none, .mv (.t 189)⟩ .fin))))))) (.alt (.op ⟨(some 189), none, .extr 1 (.t 178)⟩ (.alt (.op ⟨(some 188), none, .extr 0 (.t 178)⟩ (.op ⟨(some 32), none, .alloc [.int .i64 0, .int .i64 0, .int .i64 0, .int .i64 0, .int .i64 0, .int .i64 0]⟩ (.op ⟨none, none, .store 6 (.t 32) (.t 188)⟩ (.op ⟨(some 33), none, .mv (.t 189)⟩ .fin)))) (.op ⟨(some 32), none, .alloc [.int .i64 0, .int .i64 0, .int .i64 0, .int .i64 0, .int .i64 0, .int .i64 0]⟩ (.op ⟨(some 188), none, .extr 0 (.t 178)⟩ (.op ⟨none, none, .store 6 (.t 32) (.t 188)⟩ (.op ⟨(some 33), none, .mv (.t 189)⟩ .fin)))))) (.op ⟨(some 32), none, .alloc [.int .i64 0, .int .i64 0, .int .i64 0, .int .i64 0, .int .i64 0, .int .i64 0]⟩ (.alt (.op ⟨(some 188), none, .extr 0 (.t 178)⟩ (.alt (.op ⟨(some 189), none, .extr 1 (.t 178)⟩ (.op ⟨none, none, .store 6 (.t 32) (.t 188)⟩ (.op ⟨(some 33), none, .mv (.t 189)⟩ .fin))) (.op ⟨none, none, .store 6 (.t 32) (.t 188)⟩ (.op ⟨(some 189), none, .extr 1 (.t 178)⟩ (.op ⟨(some 33), none, .mv (.t 189)⟩ .fin))))) (.op ⟨(some 189), none, .extr 1 (.t 178)⟩ (.op ⟨(some 188), none, .extr 0 (.t 178)⟩ (.op ⟨none, none, .store 6 (.t 32) (.t 188)⟩ (.op ⟨(some 33), none, .mv (.t 189)⟩ .fin)))))))))) (.op ⟨(some 32), none, .alloc [.int .i64 0, .int .i64 0, .int .i64 0, .int .i64 0, .int .i64 0, .int .i64 0]⟩ (.op ⟨(some 187), none, .call (.c (.fn (.func 45) [] [])) [(.t 182), (.t 186)]⟩ (.op ⟨(some 178), none, .mv (.t 187)⟩ (.alt (.op ⟨(some 188), none, .extr 0 (.t 178)⟩ (.alt (.op ⟨(some 189), none, .extr 1 (.t 178)⟩ (.op ⟨none, none, .store 6 (.t 32) (.t 188)⟩ (.op ⟨(some 33), none, .mv (.t 189)⟩ .fin))) (.op ⟨none, none, .store 6 (.t 32) (.t 188)⟩ (.op ⟨(some 189), none, .extr 1 (.t 178)⟩ (.op ⟨(some 33), none, .mv (.t 189)⟩ .fin))))) (.op ⟨(some 189), none, .extr 1 (.t 178)⟩ (.op ⟨(some 188), none, .extr 0 (.t 178)⟩ (.op ⟨none, none, .store 6 (.t 32) (.t 188)⟩ (.op ⟨(some 33), none, .mv (.t 189)⟩ .fin)))))))))) (.op ⟨(some 32), none, .alloc [.int .i64 0, .int .i64 0, .int .i64 0, .int .i64 0, .int .i64 0, .int .i64 0]⟩ (.op ⟨(some 182), none, .load true 6 (.t 181)⟩ (.op ⟨(some 187), none, .call (.c (.fn (.func 45) [] [])) [(.t 182), (.t 186)]⟩ (.op ⟨(some 178), none, .mv (.t 187)⟩ (.alt (.op ⟨(some 188), none, .extr 0 (.t 178)⟩ (.alt (.op ⟨(some 189), none, .extr 1 (.t 178)⟩ (.op ⟨none, none, .store 6 (.t 32) (.t 188)⟩ (.op ⟨(some 33), none, .mv (.t 189)⟩ .fin))) (.op ⟨none, none, .store 6 (.t 32) (.t 188)⟩ (.op ⟨(some 189), none, .extr 1 (.t 178)⟩ (.op ⟨(some 33), none, .mv (.t 189)⟩ .fin))))) (.op ⟨(some 189), none, .extr 1 (.t 178)⟩ (.op ⟨(some 188), none, .extr 0 (.t 178)⟩ (.op ⟨none, none, .store 6 (.t 32) (.t 188)⟩ (.op ⟨(some 33), none, .mv (.t 189)⟩ .fin))))))))))) (.op ⟨(some 32), none, .alloc [.int .i64 0, .int .i64 0, .int .i64 0, .int .i64 0, .int .i64 0, .int .i64 0]⟩ (.op ⟨(some 181), none, .idxS 6 (.t 179) (.t 180)⟩ (.op ⟨(some 182), none, .load true 6 (.t 181)⟩ (.op ⟨(some 187), none, .call (.c (.fn (.func 45) [] [])) [(.t 182), (.t 186)]⟩ (.op ⟨(some 178), none, .mv (.t 187)⟩ (.alt (.op ⟨(some 188), none, .extr 0 (.t 178)⟩ (.alt (.op ⟨(some 189), none, .extr 1 (.t 178)⟩ (.op ⟨none, none, .store 6 (.t 32) (.t 188)⟩ (.op ⟨(some 33), none, .mv (.t 189)⟩ .fin))) (.op ⟨none, none, .store 6 (.t 32) (.t 188)⟩ (.op ⟨(some 189), none, .extr 1 (.t 178)⟩ (.op ⟨(some 33), none, .mv (.t 189)⟩ .fin))))) (.op ⟨(some 189), none, .extr 1 (.t 178)⟩ (.op ⟨(some 188), none, .extr 0 (.t 178)⟩ (.op ⟨none, none, .store 6 (.t 32) (.t 188)⟩ (.op ⟨(some 33), none, .mv (.t 189)⟩ .fin)))))))))))) (.op ⟨(some 32), none, .alloc [.int .i64 0, .int .i64 0, .int .i64 0, .int .i64 0, .int .i64 0, .int .i64 0]⟩ (.alt (.op ⟨(some 181), none, .idxS 6 (.t 179) (.t 180)⟩ (.alt (.op ⟨(some 182), none, .load true 6 (.t 181)⟩ (.op ⟨(some 186), none, .load true 6 (.t 185)⟩ (.op ⟨(some 187), none, .call (.c (.fn (.func 45) [] [])) [(.t 182), (.t 186)]⟩ (.op ⟨(some 178), none, .mv (.t 187)⟩ (.alt (.op ⟨(some 188), none, .extr 0 (.t 178)⟩ (.alt (.op ⟨(some 189), none, .extr 1 (.t 178)⟩ (.op ⟨none, none, .store 6 (.t 32) (.t 188)⟩ (.op ⟨(some 33), none, .mv (.t 189)⟩ .fin))) (.op ⟨none, none, .store 6 (.t 32) (.t 188)⟩ (.op ⟨(some 189), none, .extr 1 (.t 178)⟩ (.op ⟨(some 33), none, .mv (.t 189)⟩ .fin))))) (.op ⟨(some 189), none, .extr 1 (.t 178)⟩ (.op ⟨(some 188), none, .extr 0 (.t 178)⟩ (.op ⟨none, none, .store 6 (.t 32) (.t 188)⟩ (.op ⟨(some 33), none, .mv (.t 189)⟩ .fin))))))))) (.op ⟨(some 186), none, .load true 6 (.t 185)⟩ (.op ⟨(some 182), none, .load true 6 (.t 181)⟩ (.op ⟨(some 187), none, .call (.c (.fn (.func 45) [] [])) [(.t 182), (.t 186)]⟩ (.op ⟨(some 178), none, .mv (.t 187)⟩ (.alt (.op ⟨(some 188), none, .extr 0 (.t 178)⟩ (.alt (.op ⟨(some 189), none, .extr 1 (.t 178)⟩ (.op ⟨none, none, .store 6 (.t 32) (.t 188)⟩ (.op ⟨(some 33), none, .mv (.t 189)⟩ .fin))) (.op ⟨none, none, .store 6 (.t 32) (.t 188)⟩ (.op ⟨(some 189), none, .extr 1 (.t 178)⟩ (.op ⟨(some 33), none, .mv (.t 189)⟩ .fin))))) (.op ⟨(some 189), none, .extr 1 (.t 178)⟩ (.op ⟨(some 188), none, .extr 0 (.t 178)⟩ (.op ⟨none, none, .store 6 (.t 32) (.t 188)⟩ (.op ⟨(some 33), none, .mv (.t 189)⟩ .fin))))))))))) (.op ⟨(some 186), none, .load true 6 (.t 185)⟩ (.op ⟨(some 181), none, .idxS 6 (.t 179) (.t 180)⟩ (.op ⟨(some 182), none, .load true 6 (.t 181)⟩ (.op ⟨(some 187), none, .call (.c (.fn (.func 45) [] [])) [(.t 182), (.t 186)]⟩ (.op ⟨(some 178), none, .mv (.t 187)⟩ (.alt (.op ⟨(some 188), none, .extr 0 (.t 178)⟩ (.alt (.op ⟨(some 189), none, .extr 1 (.t 178)⟩ (.op ⟨none, none, .store 6 (.t 32) (.t 188)⟩ (.op ⟨(some 33), none, .mv (.t 189)⟩ .fin))) (.op ⟨none, none, .store 6 (.t 32) (.t 188)⟩ (.op ⟨(some 189), none, .extr 1 (.t 178)⟩ (.op ⟨(some 33), none, .mv (.t 189)⟩ .fin))))) (.op ⟨(some 189), none, .extr 1 (.t 178)⟩ (.op ⟨(some 188), none, .extr 0 (.t 178)⟩ (.op ⟨none, none, .store 6 (.t 32) (.t 188)⟩ (.op ⟨(some 33), none, .mv (.t 189)⟩ .fin))))))))))))))) (.op ⟨(some 32), none, .alloc [.int .i64 0, .int .i64 0, .int .i64 0, .int .i64 0, .int .i64 0, .int .i64 0]⟩ (.alt (.op ⟨(some 181), none, .idxS 6 (.t 179) (.t 180)⟩ (.alt (.op ⟨(some 182), none, .load true 6 (.t 181)⟩ (.op ⟨(some 185), none, .idxS 6 (.t 183) (.t 184)⟩ (.op ⟨(some 186), none, .load true 6 (.t 185)⟩ (.op ⟨(some 187), none, .call (.c (.fn (.func 45) [] [])) [(.t 182), (.t 186)]⟩ (.op ⟨(some 178), none, .mv (.t 187)⟩ (.alt (.op ⟨(some 188), none, .extr 0 (.t 178)⟩ (.alt (.op ⟨(some 189), none, .extr 1 (.t 178)⟩ (.op ⟨none, none, .store 6 (.t 32) (.t 188)⟩ (.op ⟨(some 33), none, .mv (.t 189)⟩ .fin))) (.op ⟨none, none, .store 6 (.t 32) (.t 188)⟩ (.op ⟨(some 189), none, .extr 1 (.t 178)⟩ (.op ⟨(some 33), none, .mv (.t 189)⟩ .fin))))) (.op ⟨(some 189), none, .extr 1 (.t 178)⟩ (.op ⟨(some 188), none, .extr 0 (.t 178)⟩ (.op ⟨none, none, .store 6 (.t 32) (.t 188)⟩ (.op ⟨(some 33), none, .mv (.t 189)⟩ .fin)))))))))) (.op ⟨(some 185), none, .idxS 6 (.t 183) (.t 184)⟩ (.alt (.op ⟨(some 182), none, .load true 6 (.t 181)⟩ (.op ⟨(some 186), none, .load true 6 (.t 185)⟩ (.op ⟨(some 187), none, .call (.c (.fn (.func 45) [] [])) [(.t 182), (.t 186)]⟩ (.op ⟨(some 178), none, .mv (.t 187)⟩ (.alt (.op ⟨(some 188), none, .extr 0 (.t 178)⟩ (.alt (.op ⟨(some 189), none, .extr 1 (.t 178)⟩ (.op ⟨none, none, .store 6 (.t 32) (.t 188)⟩ (.op ⟨(some 33), none, .mv (.t 189)⟩ .fin))) (.op ⟨none, none, .store 6 (.t 32) (.t 188)⟩ (.op ⟨(some 189), none, .extr 1 (.t 178)⟩ (.op ⟨(some 33), none, .mv (.t 189)⟩ .fin))))) (.op ⟨(some 189), none, .extr 1 (.t 178)⟩ (.op ⟨(some 188), none, .extr 0 (.t 178)⟩ (.op ⟨none, none, .store 6 (.t 32) (.t 188)⟩ (.op ⟨(some 33), none, .mv (.t 189)⟩ .fin))))))))) (.op ⟨(some 186), none, .load true 6 (.t 185)⟩ (.op ⟨(some 182), none, .load true 6 (.t 181)⟩ (.op ⟨(some 187), none, .call (.c (.fn (.func 45) [] [])) [(.t 182), (.t 186)]⟩ (.op ⟨(some 178), none, .mv (.t 187)⟩ (.alt (.op ⟨(some 188), none, .extr 0 (.t 178)⟩ (.alt (.op ⟨(some 189), none, .extr 1 (.t 178)⟩ (.op ⟨none, none, .store 6 (.t 32) (.t 188)⟩ (.op ⟨(some 33), none, .mv (.t 189)⟩ .fin))) (.op ⟨none, none, .store 6 (.t 32) (.t 188)⟩ (.op ⟨(some 189), none, .extr 1 (.t 178)⟩ (.op ⟨(some 33), none, .mv (.t 189)⟩ .fin))))) (.op ⟨(some 189), none, .extr 1 (.t 178)⟩ (.op ⟨(some 188), none, .extr 0 (.t 178)⟩ (.op ⟨none, none, .store 6 (.t 32) (.t 188)⟩ (.op ⟨(some 33), none, .mv (.t 189)⟩ .fin))))))))))))) (.op ⟨(some 185), none, .idxS 6 (.t 183) (.t 184)⟩ (.alt (.op ⟨(some 181), none, .idxS 6 (.t 179) (.t 180)⟩ (.alt (.op ⟨(some 182), none, .load true 6 (.t 181)⟩ (.op ⟨(some 186), none, .load true 6 (.t 185)⟩ (.op ⟨(some 187), none, .call (.c (.fn (.func 45) [] [])) [(.t 182), (.t 186)]⟩ (.op ⟨(some 178), none, .mv (.t 187)⟩ (.alt (.op ⟨(some 188), none, .extr 0 (.t 178)⟩ (.alt (.op ⟨(some 189), none, .extr 1 (.t 178)⟩ (.op ⟨none, none, .store 6 (.t 32) (.t 188)⟩ (.op ⟨(some 33), none, .mv (.t 189)⟩ .fin))) (.op ⟨none, none, .store 6 (.t 32) (.t 188)⟩ (.op ⟨(some 189), none, .extr 1 (.t 178)⟩ (.op ⟨(some 33), none, .mv (.t 189)⟩ .fin))))) (.op ⟨(some 189), none, .extr 1 (.t 178)⟩ (.op ⟨(some 188), none, .extr 0 (.t 178)⟩ (.op ⟨none, none, .store 6 (.t 32) (.t 188)⟩ (.op ⟨(some 33), none, .mv (.t 189)⟩ .fin))))))))) (.op ⟨(some 186), none, .load true 6 (.t 185)⟩ (.op ⟨(some 182), none, .load true 6 (.t 181)⟩ (.op ⟨(some 187), none, .call (.c (.fn (.func 45) [] [])) [(.t 182), (.t 186)]⟩ (.op ⟨(some 178), none, .mv (.t 187)⟩ (.alt (.op ⟨(some 188), none, .extr 0 (.t 178)⟩ (.alt (.op ⟨(some 189), none, .extr 1 (.t 178)⟩ (.op ⟨none, none, .store 6 (.t 32) (.t 188)⟩ (.op ⟨(some 33), none, .mv (.t 189)⟩ .fin))) (.op ⟨none, none, .store 6 (.t 32) (.t 188)⟩ (.op ⟨(some 189), none, .extr 1 (.t 178)⟩ (.op ⟨(some 33), none, .mv (.t 189)⟩ .fin))))) (.op ⟨(some 189), none, .extr 1 (.t 178)⟩ (.op ⟨(some 188), none, .extr 0 (.t 178)⟩ (.op ⟨none, none, .store 6 (.t 32) (.t 188)⟩ (.op ⟨(some 33), none, .mv (.t 189)⟩ .fin))))))))))) (.op ⟨(some 186), none, .load true 6 (.t 185)⟩ (.op ⟨(some 181), none, .idxS 6 (.t 179) (.t 180)⟩ (.op ⟨(some 182), none, .load true 6 (.t 181)⟩ (.op ⟨(some 187), none, .call (.c (.fn (.func 45) [] [])) [(.t 182), (.t 186)]⟩ (.op ⟨(some 178), none, .mv (.t 187)⟩ (.alt (.op ⟨(some 188), none, .extr 0 (.t 178)⟩ (.alt (.op ⟨(some 189), none, .extr 1 (.t 178)⟩ (.op ⟨none, none, .store 6 (.t 32) (.t 188)⟩ (.op ⟨(some 33), none, .mv (.t 189)⟩ .fin))) (.op ⟨none, none, .store 6 (.t 32) (.t 188)⟩ (.op ⟨(some 189), none, .extr 1 (.t 178)⟩ (.op ⟨(some 33), none, .mv (.t 189)⟩ .fin))))) (.op ⟨(some 189), none, .extr 1 (.t 178)⟩ (.op ⟨(some 188), none, .extr 0 (.t 178)⟩ (.op ⟨none, none, .store 6 (.t 32) (.t 188)⟩ (.op ⟨(some 33), none, .mv (.t 189)⟩ .fin))))))))))))))))))))
/- live [3, 4, 5, 8, 9, 10, 13, 14, 17, 18, 21, 22, 25, 26, 30, 31, 193, 194, 195, 196, 197, 198, 199, 200, 201, 202, 203, 204, 221, 222, 223, 224, 227, 228, 231, 232, 233, 238, 241, 242, 243, 244, 245, 246, 247, 248, 249, 250, 251, 252, 277, 280, 281, 284, 285, 288, 289, 290, 291, 292] -/
def k4_b0 : KC := (.seq (.seq (.ops [⟨(some 172), none, .mv (.t 31)⟩, ⟨(some 173), none, .mv (.t 26)⟩, ⟨(some 174), none, .len false (.t 173)⟩, ⟨(some 175), none, .bin .lss (.t 172) (.t 174)⟩])
  (.cond (.t 175) .skip (.exit 2)))
  (.seq (.block 3 (.seq (.tree k4_t0)
  (.seq (.draw [⟨(some 190), none, .mv (.t 33)⟩, ⟨(some 191), none, .bin .neq (.t 190) (.c (.int .i64 0))⟩, ⟨(some 192), none, .mv (.t 191)⟩, ⟨(some 193), some (192, false), .load true 6 (.t 32)⟩, ⟨(some 194), some (192, false), .mv (.t 26)⟩, ⟨(some 195), some (192, false), .mv (.t 25)⟩, ⟨(some 196), some (192, false), .mv (.t 30)⟩, ⟨(some 197), some (192, false), .idxS 1 (.t 195) (.t 196)⟩, ⟨(some 198), some (192, false), .load false 1 (.t 197)⟩, ⟨(some 199), some (192, false), .mv (.t 31)⟩, ⟨(some 200), some (192, false), .idxS 1 (.t 198) (.t 199)⟩, ⟨(some 201), some (192, false), .load false 1 (.t 200)⟩, ⟨(some 202), some (192, false), .idxS 6 (.t 194) (.t 201)⟩, ⟨(some 203), some (192, false), .load true 6 (.t 202)⟩, ⟨(some 204), some (192, false), .aeq true 6 (.t 193) (.t 203)⟩, ⟨(some 205), none, .pick (.t 192) (.c (.bool true)) (.t 204)⟩])
  (.cond (.t 205) (.seq (.ops [⟨(some 2), none, .mv (.c (.bool false))⟩])
  .ret) .skip))))
  (.ops [⟨(some 176), none, .mv (.t 31)⟩, ⟨(some 177), none, .bin .add (.t 176) (.c (.int .i64 1))⟩, ⟨(some 31), none, .mv (.t 177)⟩])))
/- live [3, 4, 5, 8, 9, 10, 13, 14, 17, 18, 21, 22, 25, 26, 30, 193, 194, 195, 196, 197, 198, 199, 200, 201, 202, 203, 204, 221, 222, 223, 224, 227, 228, 231, 232, 233, 238, 241, 242, 243, 244, 245, 246, 247, 248, 249, 250, 251, 252, 277, 280, 281, 284, 285, 288, 289, 290, 291, 292] -/
def k4_b1 : KC := (.seq (.seq (.ops [⟨(some 166), none, .mv (.t 30)⟩, ⟨(some 167), none, .mv (.t 26)⟩, ⟨(some 168), none, .len false (.t 167)⟩, ⟨(some 169), none, .bin .lss (.t 166) (.t 168)⟩])
  (.cond (.t 169) .skip (.exit 0)))
  (.seq (.block 1 (.seq (.ops [⟨(some 31), none, .mv (.c (.int .i64 0))⟩])
  (.block 2 (.loop k4_b0))))
  (.ops [⟨(some 170), none, .mv (.t 30)⟩, ⟨(some 171), none, .bin .add (.t 170) (.c (.int .i64 1))⟩, ⟨(some 30), none, .mv (.t 171)⟩])))
def k4 : KC := (.seq (.ops [⟨(some 2), none, .mv (.c (.bool false))⟩])
  (.seq (.seq (.ops [⟨(some 44), none, .mv (.t 0)⟩, ⟨(some 45), none, .call (.c (.fn (.func 6) [] [])) [(.t 44)]⟩])
  (.cond (.t 45) (.seq (.ops [⟨(some 2), none, .mv (.c (.bool true))⟩])
  .ret) .skip))
  (.seq (.ops [⟨(some 46), none, .mv (.t 0)⟩, ⟨(some 47), none, .call (.c (.fn (.func 28) [] [])) [(.t 46)]⟩, ⟨(some 3), none, .mv (.t 47)⟩])
  (.seq (.ops [⟨(some 49), none, .mv (.t 3)⟩, ⟨(some 50), none, .call (.c (.fn (.func 29) [] [])) [(.t 49)]⟩, ⟨(some 48), none, .mv (.t 50)⟩, ⟨(some 51), none, .extr 0 (.t 48)⟩, ⟨(some 52), none, .extr 1 (.t 48)⟩, ⟨(some 4), none, .mv (.t 51)⟩, ⟨(some 5), none, .mv (.t 52)⟩])
  (.seq (.seq (.ops [⟨(some 54), none, .mv (.t 3)⟩, ⟨(some 55), none, .call (.c (.fn (.func 30) [] [])) [(.t 54)]⟩, ⟨(some 53), none, .mv (.t 55)⟩, ⟨(some 56), none, .extr 0 (.t 53)⟩, ⟨(some 57), none, .extr 1 (.t 53)⟩, ⟨(some 6), none, .mv (.t 56)⟩, ⟨(some 7), none, .mv (.t 57)⟩])
  (.seq (.ops [⟨(some 58), none, .mv (.t 5)⟩, ⟨(some 59), none, .mv (.t 7)⟩, ⟨(some 60), none, .bin .neq (.t 58) (.t 59)⟩, ⟨(some 61), none, .mv (.t 60)⟩, ⟨(some 62), some (61, false), .mv (.t 4)⟩, ⟨(some 63), some (61, false), .mv (.t 6)⟩, ⟨(some 64), some (61, false), .call (.c (.fn (.func 31) [] [])) [(.t 62), (.t 63)]⟩, ⟨(some 65), some (61, false), .not (.t 64)⟩, ⟨(some 66), none, .pick (.t 61) (.c (.bool true)) (.t 65)⟩])
  (.cond (.t 66) (.seq (.ops [⟨(some 2), none, .mv (.c (.bool false))⟩])
  .ret) .skip)))
  (.seq (.ops [⟨(some 67), none, .mv (.t 0)⟩, ⟨(some 68), none, .call (.c (.fn (.func 32) [] [])) [(.t 67)]⟩, ⟨(some 8), none, .mv (.t 68)⟩])
  (.seq (.ops [⟨(some 70), none, .mv (.t 8)⟩, ⟨(some 71), none, .call (.c (.fn (.func 33) [] [])) [(.t 70)]⟩, ⟨(some 69), none, .mv (.t 71)⟩, ⟨(some 72), none, .extr 0 (.t 69)⟩, ⟨(some 73), none, .extr 1 (.t 69)⟩, ⟨(some 9), none, .mv (.t 72)⟩, ⟨(some 10), none, .mv (.t 73)⟩])
  (.seq (.seq (.ops [⟨(some 75), none, .mv (.t 8)⟩, ⟨(some 76), none, .call (.c (.fn (.func 34) [] [])) [(.t 75)]⟩, ⟨(some 74), none, .mv (.t 76)⟩, ⟨(some 77), none, .extr 0 (.t 74)⟩, ⟨(some 78), none, .extr 1 (.t 74)⟩, ⟨(some 11), none, .mv (.t 77)⟩, ⟨(some 12), none, .mv (.t 78)⟩])
  (.seq (.ops [⟨(some 79), none, .mv (.t 10)⟩, ⟨(some 80), none, .mv (.t 12)⟩, ⟨(some 81), none, .bin .neq (.t 79) (.t 80)⟩, ⟨(some 82), none, .mv (.t 81)⟩, ⟨(some 83), some (82, false), .mv (.t 9)⟩, ⟨(some 84), some (82, false), .mv (.t 11)⟩, ⟨(some 85), some (82, false), .beq true (.t 83) (.t 84)⟩, ⟨(some 86), none, .pick (.t 82) (.c (.bool true)) (.t 85)⟩])
  (.cond (.t 86) (.seq (.ops [⟨(some 2), none, .mv (.c (.bool false))⟩])
  .ret) .skip)))
  (.seq (.ops [⟨(some 88), none, .mv (.t 8)⟩, ⟨(some 89), none, .call (.c (.fn (.func 35) [] [])) [(.t 88)]⟩, ⟨(some 87), none, .mv (.t 89)⟩, ⟨(some 90), none, .extr 0 (.t 87)⟩, ⟨(some 91), none, .extr 1 (.t 87)⟩, ⟨(some 13), none, .mv (.t 90)⟩, ⟨(some 14), none, .mv (.t 91)⟩])
  (.seq (.seq (.ops [⟨(some 93), none, .mv (.t 8)⟩, ⟨(some 94), none, .call (.c (.fn (.func 36) [] [])) [(.t 93)]⟩, ⟨(some 92), none, .mv (.t 94)⟩, ⟨(some 95), none, .extr 0 (.t 92)⟩, ⟨(some 96), none, .extr 1 (.t 92)⟩, ⟨(some 15), none, .mv (.t 95)⟩, ⟨(some 16), none, .mv (.t 96)⟩])
  (.seq (.ops [⟨(some 97), none, .mv (.t 14)⟩, ⟨(some 98), none, .mv (.t 16)⟩, ⟨(some 99), none, .bin .neq (.t 97) (.t 98)⟩, ⟨(some 100), none, .mv (.t 99)⟩, ⟨(some 101), some (100, false), .mv (.t 13)⟩, ⟨(some 102), some (100, false), .mv (.t 15)⟩, ⟨(some 103), some (100, false), .bin .neq (.t 101) (.t 102)⟩, ⟨(some 104), none, .pick (.t 100) (.c (.bool true)) (.t 103)⟩])
  (.cond (.t 104) (.seq (.ops [⟨(some 2), none, .mv (.c (.bool false))⟩])
  .ret) .skip)))
  (.seq (.ops [⟨(some 106), none, .mv (.t 8)⟩, ⟨(some 107), none, .call (.c (.fn (.func 37) [] [])) [(.t 106)]⟩, ⟨(some 105), none, .mv (.t 107)⟩, ⟨(some 108), none, .extr 0 (.t 105)⟩, ⟨(some 109), none, .extr 1 (.t 105)⟩, ⟨(some 17), none, .mv (.t 108)⟩, ⟨(some 18), none, .mv (.t 109)⟩])
  (.seq (.seq (.ops [⟨(some 111), none, .mv (.t 8)⟩, ⟨(some 112), none, .call (.c (.fn (.func 38) [] [])) [(.t 111)]⟩, ⟨(some 110), none, .mv (.t 112)⟩, ⟨(some 113), none, .extr 0 (.t 110)⟩, ⟨(some 114), none, .extr 1 (.t 110)⟩, ⟨(some 19), none, .mv (.t 113)⟩, ⟨(some 20), none, .mv (.t 114)⟩])
  (.seq (.ops [⟨(some 115), none, .mv (.t 18)⟩, ⟨(some 116), none, .mv (.t 20)⟩, ⟨(some 117), none, .bin .neq (.t 115) (.t 116)⟩, ⟨(some 118), none, .mv (.t 117)⟩, ⟨(some 119), some (118, false), .mv (.t 17)⟩, ⟨(some 120), some (118, false), .mv (.t 19)⟩, ⟨(some 121), some (118, false), .call (.c (.fn (.func 14) [] [])) [(.t 119), (.t 120)]⟩, ⟨(some 122), some (118, false), .not (.t 121)⟩, ⟨(some 123), none, .pick (.t 118) (.c (.bool true)) (.t 122)⟩])
  (.cond (.t 123) (.seq (.ops [⟨(some 2), none, .mv (.c (.bool false))⟩])
  .ret) .skip)))
  (.seq (.ops [⟨(some 125), none, .mv (.t 8)⟩, ⟨(some 126), none, .call (.c (.fn (.func 39) [] [])) [(.t 125)]⟩, ⟨(some 124), none, .mv (.t 126)⟩, ⟨(some 127), none, .extr 0 (.t 124)⟩, ⟨(some 128), none, .extr 1 (.t 124)⟩, ⟨(some 21), none, .mv (.t 127)⟩, ⟨(some 22), none, .mv (.t 128)⟩])
  (.seq (.seq (.ops [⟨(some 130), none, .mv (.t 8)⟩, ⟨(some 131), none, .call (.c (.fn (.func 40) [] [])) [(.t 130)]⟩, ⟨(some 129), none, .mv (.t 131)⟩, ⟨(some 132), none, .extr 0 (.t 129)⟩, ⟨(some 133), none, .extr 1 (.t 129)⟩, ⟨(some 23), none, .mv (.t 132)⟩, ⟨(some 24), none, .mv (.t 133)⟩])
  (.seq (.ops [⟨(some 134), none, .mv (.t 22)⟩, ⟨(some 135), none, .mv (.t 24)⟩, ⟨(some 136), none, .bin .neq (.t 134) (.t 135)⟩, ⟨(some 137), none, .mv (.t 136)⟩, ⟨(some 138), some (137, false), .mv (.t 21)⟩, ⟨(some 139), some (137, false), .mv (.t 23)⟩, ⟨(some 140), some (137, false), .call (.c (.fn (.func 31) [] [])) [(.t 138), (.t 139)]⟩, ⟨(some 141), some (137, false), .not (.t 140)⟩, ⟨(some 142), none, .pick (.t 137) (.c (.bool true)) (.t 141)⟩])
  (.cond (.t 142) (.seq (.ops [⟨(some 2), none, .mv (.c (.bool false))⟩])
  .ret) .skip)))
  (.seq (.ops [⟨(some 143), none, .mv (.t 0)⟩, ⟨(some 144), none, .call (.c (.fn (.func 41) [] [])) [(.t 143)]⟩, ⟨(some 25), none, .mv (.t 144)⟩])
  (.seq (.ops [⟨(some 146), none, .mv (.t 25)⟩, ⟨(some 147), none, .call (.c (.fn (.func 42) [] [])) [(.t 146)]⟩, ⟨(some 145), none, .mv (.t 147)⟩, ⟨(some 148), none, .extr 0 (.t 145)⟩, ⟨(some 149), none, .extr 1 (.t 145)⟩, ⟨(some 26), none, .mv (.t 148)⟩, ⟨(some 27), none, .mv (.t 149)⟩])
  (.seq (.seq (.ops [⟨(some 151), none, .mv (.t 25)⟩, ⟨(some 152), none, .call (.c (.fn (.func 43) [] [])) [(.t 151)]⟩, ⟨(some 150), none, .mv (.t 152)⟩, ⟨(some 153), none, .extr 0 (.t 150)⟩, ⟨(some 154), none, .extr 1 (.t 150)⟩, ⟨(some 28), none, .mv (.t 153)⟩, ⟨(some 29), none, .mv (.t 154)⟩])
  (.seq (.ops [⟨(some 155), none, .mv (.t 27)⟩, ⟨(some 156), none, .mv (.t 29)⟩, ⟨(some 157), none, .bin .neq (.t 155) (.t 156)⟩, ⟨(some 158), none, .mv (.t 157)⟩, ⟨(some 159), some (158, false), .mv (.t 26)⟩, ⟨(some 160), some (158, false), .mv (.t 28)⟩, ⟨(some 161), some (158, false), .call (.c (.fn (.func 44) [] [])) [(.t 159), (.t 160)]⟩, ⟨(some 162), some (158, false), .not (.t 161)⟩, ⟨(some 163), none, .pick (.t 158) (.c (.bool true)) (.t 162)⟩])
  (.cond (.t 163) (.seq (.ops [⟨(some 2), none, .mv (.c (.bool false))⟩])
  .ret) .skip)))
  (.seq (.seq (.ops [⟨(some 164), none, .mv (.t 27)⟩, ⟨(some 165), none, .bin .eql (.t 164) (.c (.int .i64 0))⟩])
  (.cond (.t 165) (.seq (.ops [⟨(some 30), none, .mv (.c (.int .i64 0))⟩])
  (.block 0 (.loop k4_b1))) .skip))
  (.seq (.seq (.ops [⟨(some 206), none, .mv (.t 22)⟩, ⟨(some 207), none, .bin .eql (.t 206) (.c (.int .i64 0))⟩])
  (.cond (.t 207) (.seq (.ops [⟨(some 209), none, .mv (.t 21)⟩, ⟨(some 210), none, .call (.c (.fn (.func 39) [] [])) [(.t 209)]⟩, ⟨(some 208), none, .mv (.t 210)⟩, ⟨(some 211), none, .extr 0 (.t 208)⟩, ⟨(some 212), none, .extr 1 (.t 208)⟩, ⟨(some 34), none, .mv (.t 211)⟩, ⟨(some 35), none, .mv (.t 212)⟩])
  (.seq (.ops [⟨(some 214), none, .mv (.t 21)⟩, ⟨(some 215), none, .call (.c (.fn (.func 33) [] [])) [(.t 214)]⟩, ⟨(some 213), none, .mv (.t 215)⟩, ⟨(some 216), none, .extr 0 (.t 213)⟩, ⟨(some 217), none, .extr 1 (.t 213)⟩, ⟨(some 36), none, .mv (.t 216)⟩, ⟨(some 37), none, .mv (.t 217)⟩])
  (.seq (.ops [⟨(some 218), none, .mv (.t 35)⟩, ⟨(some 219), none, .bin .neq (.t 218) (.c (.int .i64 0))⟩, ⟨(some 220), none, .mv (.t 219)⟩, ⟨(some 221), some (220, false), .mv (.t 34)⟩, ⟨(some 222), some (220, false), .mv (.t 8)⟩, ⟨(some 223), some (220, false), .call (.c (.fn (.func 31) [] [])) [(.t 221), (.t 222)]⟩, ⟨(some 224), some (220, false), .not (.t 223)⟩, ⟨(some 225), none, .pick (.t 220) (.c (.bool true)) (.t 224)⟩, ⟨(some 226), none, .mv (.t 225)⟩, ⟨(some 227), some (226, false), .mv (.t 37)⟩, ⟨(some 228), some (226, false), .bin .neq (.t 227) (.c (.int .i64 0))⟩, ⟨(some 229), none, .pick (.t 226) (.c (.bool true)) (.t 228)⟩, ⟨(some 230), none, .mv (.t 229)⟩, ⟨(some 231), some (230, false), .mv (.t 36)⟩, ⟨(some 232), some (230, false), .mv (.t 9)⟩, ⟨(some 233), some (230, false), .beq true (.t 231) (.t 232)⟩, ⟨(some 234), none, .pick (.t 230) (.c (.bool true)) (.t 233)⟩])
  (.cond (.t 234) (.seq (.ops [⟨(some 2), none, .mv (.c (.bool false))⟩])
  .ret) .skip)))) .skip))
  (.seq (.seq (.ops [⟨(some 235), none, .mv (.t 10)⟩, ⟨(some 236), none, .bin .eql (.t 235) (.c (.int .i64 0))⟩, ⟨(some 237), none, .mv (.t 236)⟩, ⟨(some 238), some (237, true), .mv (.t 9)⟩, ⟨(some 239), none, .pick (.t 237) (.t 238) (.c (.bool false))⟩, ⟨(some 240), none, .mv (.t 239)⟩, ⟨(some 241), some (240, true), .mv (.t 14)⟩, ⟨(some 242), some (240, true), .bin .neq (.t 241) (.c (.int .i64 0))⟩, ⟨(some 243), some (240, true), .mv (.t 242)⟩, ⟨(some 244), some (243, false), .mv (.t 18)⟩, ⟨(some 245), some (243, false), .bin .neq (.t 244) (.c (.int .i64 0))⟩, ⟨(some 246), some (240, true), .pick (.t 243) (.c (.bool true)) (.t 245)⟩, ⟨(some 247), some (240, true), .mv (.t 246)⟩, ⟨(some 248), some (247, false), .mv (.t 17)⟩, ⟨(some 249), some (247, false), .mv (.t 13)⟩, ⟨(some 250), some (247, false), .call (.c (.fn (.func 27) [] [])) [(.t 248), (.t 249)]⟩, ⟨(some 251), some (247, false), .not (.t 250)⟩, ⟨(some 252), some (240, true), .pick (.t 247) (.c (.bool true)) (.t 251)⟩, ⟨(some 253), none, .pick (.t 240) (.t 252) (.c (.bool false))⟩])
  (.cond (.t 253) (.seq (.ops [⟨(some 2), none, .mv (.c (.bool false))⟩])
  .ret) .skip))
  (.seq (.seq (.ops [⟨(some 254), none, .mv (.t 5)⟩, ⟨(some 255), none, .bin .neq (.t 254) (.c (.int .i64 0))⟩])
  (.cond (.t 255) (.seq (.ops [⟨(some 256), none, .mv (.t 4)⟩, ⟨(some 257), none, .len false (.t 256)⟩, ⟨(some 258), none, .bin .eql (.t 257) (.c (.int .i64 0))⟩, ⟨(some 2), none, .mv (.t 258)⟩])
  .ret) .skip))
  (.seq (.ops [⟨(some 260), none, .mv (.t 4)⟩, ⟨(some 261), none, .call (.c (.fn (.func 33) [] [])) [(.t 260)]⟩, ⟨(some 259), none, .mv (.t 261)⟩, ⟨(some 262), none, .extr 0 (.t 259)⟩, ⟨(some 263), none, .extr 1 (.t 259)⟩, ⟨(some 38), none, .mv (.t 262)⟩, ⟨(some 39), none, .mv (.t 263)⟩])
  (.seq (.ops [⟨(some 265), none, .mv (.t 3)⟩, ⟨(some 266), none, .call (.c (.fn (.func 46) [] [])) [(.t 265)]⟩, ⟨(some 264), none, .mv (.t 266)⟩, ⟨(some 267), none, .extr 0 (.t 264)⟩, ⟨(some 268), none, .extr 1 (.t 264)⟩, ⟨(some 40), none, .mv (.t 267)⟩, ⟨(some 41), none, .mv (.t 268)⟩])
  (.seq (.ops [⟨(some 270), none, .mv (.t 4)⟩, ⟨(some 271), none, .call (.c (.fn (.func 37) [] [])) [(.t 270)]⟩, ⟨(some 269), none, .mv (.t 271)⟩, ⟨(some 272), none, .extr 0 (.t 269)⟩, ⟨(some 273), none, .extr 1 (.t 269)⟩, ⟨(some 42), none, .mv (.t 272)⟩, ⟨(some 43), none, .mv (.t 273)⟩])
  (.seq (.ops [⟨(some 274), none, .mv (.t 39)⟩, ⟨(some 275), none, .bin .eql (.t 274) (.c (.int .i64 0))⟩, ⟨(some 276), none, .mv (.t 275)⟩, ⟨(some 277), some (276, true), .mv (.t 38)⟩, ⟨(some 278), none, .pick (.t 276) (.t 277) (.c (.bool false))⟩, ⟨(some 279), none, .mv (.t 278)⟩, ⟨(some 280), some (279, true), .mv (.t 41)⟩, ⟨(some 281), some (279, true), .bin .eql (.t 280) (.c (.int .i64 0))⟩, ⟨(some 282), none, .pick (.t 279) (.t 281) (.c (.bool false))⟩, ⟨(some 283), none, .mv (.t 282)⟩, ⟨(some 284), some (283, true), .mv (.t 43)⟩, ⟨(some 285), some (283, true), .bin .eql (.t 284) (.c (.int .i64 0))⟩, ⟨(some 286), none, .pick (.t 283) (.t 285) (.c (.bool false))⟩, ⟨(some 287), none, .mv (.t 286)⟩, ⟨(some 288), some (287, true), .mv (.t 42)⟩, ⟨(some 289), some (287, true), .len false (.t 288)⟩, ⟨(some 290), some (287, true), .mv (.t 40)⟩, ⟨(some 291), some (287, true), .len false (.t 290)⟩, ⟨(some 292), some (287, true), .bin .eql (.t 289) (.t 291)⟩, ⟨(some 293), none, .pick (.t 287) (.t 292) (.c (.bool false))⟩, ⟨(some 2), none, .mv (.t 293)⟩])
  .ret)))))))))))))))))))))))))
theorem e4 {args : List PV} {σ : Heap} {K : PV → Heap → Prop} (hl : args.length ≤ 294) (h : Wf σ → (∀ a ∈ args, PV.upto σ.length a) → vc (mkCfg Tryz.prog mixed [] 294 σ.length) k4 (FinK σ.length [.t 2] K) (argEnv 0 args) σ) : ACall Tryz.prog 4 args σ K :=
  ACall_enter (C := mkCfg Tryz.prog mixed [] 294 σ.length) (c := Tryz.f4.body.getD .skip) Tryz.func4 (by kernel_rfl) (by kernel_rfl) (by kernel_rfl) rfl hl (by kernel_rfl) (by kernel_rfl) h
end Go.Proofs.YtpfapiiinkkcgaaGreat
namespace Go.Proofs.YtpfapiiinkkcgaaGreat
open Go.Kv
set_option linter.unusedVariables false
set_option linter.unusedSimpArgs false
attribute [local irreducible] ACall PCall KL
set_option maxHeartbeats 8000000 in
theorem mon_tree {M : List (List Nat)} {n a b : Nat} (hM : ∀ f ∈ M, Ok f n) (ha : a < M.length) (hb : b < M.length) {Q : Exit → Env → Heap → Prop} {env : Env} {σ : Heap}
    (e26 : Kv.look env 26 = .list (aggs (M.map mp))) (e30 : Kv.look env 30 = .int .i64 a) (e31 : Kv.look env 31 = .int .i64 b)
    (hQ : ∀ env' ρ id, keep [3, 4, 5, 8, 9, 10, 13, 14, 17, 18, 21, 22, 25, 26, 30, 31] env' = keep [3, 4, 5, 8, 9, 10, 13, 14, 17, 18, 21, 22, 25, 26, 30, 31] env → Kv.look env' 32 = .ptr id 0 → Kv.look env' 33 = .int .i64 0 → ρ[id]? = some (.box (ints (mp (mul (M.getD a []) (M.getD b []))))) → Q .normal env' ρ) :
    vT Tryz.prog k4_t0 Q env σ := by
  have hM6 : ∀ i, i < M.length → (M.map mp).getD i [] = mp (M.getD i []) ∧ Ok (M.getD i []) n := fun i h => by
    have e : M.getD i [] = M[i] := by simp [List.getD_eq_getElem?_getD, h]
    rw [e]
    exact ⟨by simp [List.getD_eq_getElem?_getD, h], hM _ (List.getElem_mem h)⟩
  obtain ⟨a1, a2⟩ := hM6 a ha
  obtain ⟨b1, b2⟩ := hM6 b hb
  have h6a := a2.mp_len
  have h6b := b2.mp_len
  have hP := p45 _ _ n a2 b2
  have h6p := (a2.mul b2).mp_len
  have hil : (ints (mp (mul (M.getD a []) (M.getD b [])))).length = 6 := by rw [ints_length, h6p]
  have hia : (ints (mp (M.getD a []))).length = 6 := by rw [ints_length, h6a]
  have hib : (ints (mp (M.getD b []))).length = 6 := by rw [ints_length, h6b]
  have hgb : ∀ (s : Heap) (a : AObj), (s ++ [a])[s.length]? = some a := fun s a => by simp
  have hsb : ∀ (s : Heap) (a b : AObj), (s ++ [a]).set s.length b = s ++ [b] := fun s a b => by simp [List.set_append_right]
  have hal : (a : Int) < (M.length : Int) := by omega
  have hbl : (b : Int) < (M.length : Int) := by omega
  have hx : ∀ ρ : Heap, ∀ id x, ρ = σ ++ [x] → id = σ.length → ρ[id]? = some x := fun ρ id x h1 h2 => by subst h1; subst h2; simp
  unfold k4_t0
  repeat' (first
    | refine Eq.mpr (vT_alt _ _) ⟨?_, ?_⟩
    | refine hP.go ?_
    | refine ⟨hal, fun _ => ?_⟩
    | refine ⟨hbl, fun _ => ?_⟩
    | (refine ⟨h6p, ?_⟩)
    | simp only [e26, e30, e31, ha, hb, hal, hbl, a1, b1, h6a, h6b, h6p, hil, hia, hib, hgb, hsb, aggs_length, List.length_map, true_implies, true_and, OpK_eq, HKv, take6, List.drop_zero, Int.cast_ofNat_Int, go_sem, ↓reduceIte, Nat.reduceEqDiff, Nat.reduceAdd, Nat.reduceMul, Nat.reduceLeDiff, Nat.reduceLT, Int.reduceLE, Int.reduceLT, reduceCtorEq])
  all_goals (refine hQ _ _ σ.length ?_ ?_ ?_ ?_ <;> first | rfl | (simp; done) | skip)
theorem mot_map (t : List (List Int)) (x : Nat) : mot t x = ((List.range x).map (cn t)).map mp := by simp [mot]
set_option maxHeartbeats 4000000 in
theorem mon_loop {u : List (List Int)} (hI : isTab u = true) (hm : monB u = true) (h5 : u.length ≤ 5) {Q : Exit → Env → Heap → Prop} {env : Env} {σ : Heap} {w3 w4 w5 w8 w9 w10 w13 w14 w17 w18 w21 w22 : PV}
    (hE : keep [3, 4, 5, 8, 9, 10, 13, 14, 17, 18, 21, 22, 25, 26, 30] env = [(3, w3), (4, w4), (5, w5), (8, w8), (9, w9), (10, w10), (13, w13), (14, w14), (17, w17), (18, w18), (21, w21), (22, w22), (25, .list (rows u)), (26, .list (aggs (mot u u.length))), (30, .int .i64 0)])
    (hQ : ∀ env' ρ, keep [3, 4, 5, 8, 9, 10, 13, 14, 17, 18, 21, 22] env' = [(3, w3), (4, w4), (5, w5), (8, w8), (9, w9), (10, w10), (13, w13), (14, w14), (17, w17), (18, w18), (21, w21), (22, w22)] → Q (.exit 0) env' ρ) : KL (mkCfg Tryz.prog mixed [] 294 0) k4_b1 Q env σ := by
  have hasc : asc u = true := by
    unfold monB at hm
    rw [Bool.and_eq_true] at hm
    exact hm.2
  have hsq := isTab_sq hI
  have hM : ∀ f ∈ (List.range u.length).map (cn u), Ok f u.length := fun f hf => by
    obtain ⟨a, ha, rfl⟩ := List.mem_map.1 hf
    exact cn_ok hI h5 (List.mem_range.1 ha)
  have hMl : ((List.range u.length).map (cn u)).length = u.length := by simp
  have hMg : ∀ i, i < u.length → ((List.range u.length).map (cn u)).getD i [] = cn u i := fun i h => by simp [List.getD_eq_getElem?_getD, h]
  refine KL_ind k4_b1.eq_1 (fun y : Nat × Heap => [(3, w3), (4, w4), (5, w5), (8, w8), (9, w9), (10, w10), (13, w13), (14, w14), (17, w17), (18, w18), (21, w21), (22, w22), (25, .list (rows u)), (26, .list (aggs (mot u u.length))), (30, .int .i64 y.1)]) (fun y => y.2) (fun y => y.1 ≤ u.length) (fun y => u.length - y.1) [3, 4, 5, 8, 9, 10, 13, 14, 17, 18, 21, 22, 25, 26, 30] (0, σ) hE rfl (Nat.zero_le _) fun ⟨a, τ⟩ ha ih => ?_
  simp only at ha
  try simp only [OpK_eq, HKv, aggs_length, mot_length, take6, List.drop_zero, Int.cast_ofNat_Int, go_sem, ↓reduceIte, Nat.reduceEqDiff, Nat.reduceAdd, Nat.reduceMul, Nat.reduceLeDiff, Nat.reduceLT, Int.reduceLE, Int.reduceLT, reduceCtorEq]
  refine ⟨fun g1 => ?_, fun g1 => hQ _ _ (by simp [keep])⟩
  have hal : a < u.length := by omega
  refine KL_ind k4_b0.eq_1 (fun y : Nat × Heap => [(3, w3), (4, w4), (5, w5), (8, w8), (9, w9), (10, w10), (13, w13), (14, w14), (17, w17), (18, w18), (21, w21), (22, w22), (25, .list (rows u)), (26, .list (aggs (mot u u.length))), (30, .int .i64 a), (31, .int .i64 y.1)]) (fun y => y.2) (fun y => y.1 ≤ u.length) (fun y => u.length - y.1) [3, 4, 5, 8, 9, 10, 13, 14, 17, 18, 21, 22, 25, 26, 30, 31] (0, τ) (by simp [keep]) rfl (Nat.zero_le _) fun ⟨b, ρ⟩ hb ihb => ?_
  simp only at hb
  try simp only [OpK_eq, HKv, aggs_length, mot_length, take6, List.drop_zero, Int.cast_ofNat_Int, go_sem, ↓reduceIte, Nat.reduceEqDiff, Nat.reduceAdd, Nat.reduceMul, Nat.reduceLeDiff, Nat.reduceLT, Int.reduceLE, Int.reduceLT, reduceCtorEq]
  refine ⟨fun g2 => ?_, fun g2 => ?_⟩
  · have hbl : b < u.length := by omega
    have hbnd := tab_at hI hal hbl
    have hra : (u.getD a []).length = u.length := hsq.2.1.2 _ (getD_memR hal)
    have hpr := cn_mul hI hasc hal hbl
    obtain ⟨m, hm2⟩ : ∃ m : Nat, tat u a b = (m : Int) := ⟨(tat u a b).toNat, by omega⟩
    rw [hm2, Int.toNat_natCast] at hpr
    rw [hm2] at hbnd
    have hm3 : (u.getD a []).getD b 0 = (m : Int) := hm2
    have hmg : (mot u u.length).getD m [] = mp (cn u m) := by
      have : m < u.length := by omega
      simp [mot, List.getD_eq_getElem?_getD, this]
    have h6m := (cn_ok hI h5 (show m < u.length by omega)).mp_len
    have him : (ints (mp (cn u m))).length = 6 := by rw [ints_length, h6m]
    refine mon_tree (M := (List.range u.length).map (cn u)) (n := u.length) (a := a) (b := b) hM (by rw [hMl]; exact hal) (by rw [hMl]; exact hbl) (by rw [← mot_map]; simp) (by simp) (by simp) fun env' χ id hk k32 k33 hbx => ?_
    rw [hMg a hal, hMg b hbl, hpr] at hbx
    have hk2 : keep [3, 4, 5, 8, 9, 10, 13, 14, 17, 18, 21, 22, 25, 26, 30, 31] env' = [(3, w3), (4, w4), (5, w5), (8, w8), (9, w9), (10, w10), (13, w13), (14, w14), (17, w17), (18, w18), (21, w21), (22, w22), (25, .list (rows u)), (26, .list (aggs (mot u u.length))), (30, .int .i64 a), (31, .int .i64 b)] := by
      rw [hk]; simp [keep]
    obtain ⟨k3, k4, k5, k8, k9, k10, k13, k14, k17, k18, k21, k22, k25, k26, k30, k31⟩ : Kv.look env' 3 = w3 ∧ Kv.look env' 4 = w4 ∧ Kv.look env' 5 = w5 ∧ Kv.look env' 8 = w8 ∧ Kv.look env' 9 = w9 ∧ Kv.look env' 10 = w10 ∧ Kv.look env' 13 = w13 ∧ Kv.look env' 14 = w14 ∧ Kv.look env' 17 = w17 ∧ Kv.look env' 18 = w18 ∧ Kv.look env' 21 = w21 ∧ Kv.look env' 22 = w22 ∧ Kv.look env' 25 = .list (rows u) ∧ Kv.look env' 26 = .list (aggs (mot u u.length)) ∧ Kv.look env' 30 = .int .i64 a ∧ Kv.look env' 31 = .int .i64 b := by simpa [keep] using hk2
    try simp only [OpK_eq, HKv, aggs_length, mot_length, k25, k26, k30, k31, k32, k33, hbx, hra, hm3, hmg, h6m, him, take6, List.drop_zero, Int.cast_ofNat_Int, go_sem, ↓reduceIte, Nat.reduceEqDiff, Nat.reduceAdd, Nat.reduceMul, Nat.reduceLeDiff, Nat.reduceLT, Int.reduceLE, Int.reduceLT, reduceCtorEq]
    exact ⟨by omega, fun _ => ⟨by omega, fun _ => ⟨by omega, fun _ => ⟨by omega, ihb (b + 1, χ) (by show b + 1 ≤ u.length; omega) (by show u.length - (b + 1) < u.length - b; omega) _ _ (by simp [keep, k3, k4, k5, k8, k9, k10, k13, k14, k17, k18, k21, k22, k25, k26, k30, k31]) rfl⟩⟩⟩⟩
  · try simp only [OpK_eq, HKv, take6, List.drop_zero, Int.cast_ofNat_Int, go_sem, ↓reduceIte, Nat.reduceEqDiff, Nat.reduceAdd, Nat.reduceMul, Nat.reduceLeDiff, Nat.reduceLT, Int.reduceLE, Int.reduceLT, reduceCtorEq]
    exact ⟨by omega, ih (a + 1, ρ) (by show a + 1 ≤ u.length; omega) (by show u.length - (a + 1) < u.length - a; omega) _ _ (by simp [keep]) rfl⟩
end Go.Proofs.YtpfapiiinkkcgaaGreat
end
section
/- The law of monoid tables, walked. -/
namespace Go.Proofs.YtpfapiiinkkcgaaGreat
open Go.Kv
set_option linter.unusedVariables false
set_option linter.unusedSimpArgs false
attribute [local irreducible] ACall PCall KL
attribute [local go_sem] take6 List.drop_zero Int.cast_ofNat_Int OpK_eq HKv bne_self_eq_false decide_true Bool.not_true beq_self_eq_true Bool.not_false
set_option maxRecDepth 100000 in
set_option maxHeartbeats 8000000 in
theorem p4 (l : List Int) (hl : l.length ≤ 9223372036854775807) (hb : ∀ z ∈ l, 0 ≤ z ∧ z ≤ 255) : Pure Tryz.prog 4 [.list (u8s l)] (.bool true) := by
  refine e4 (by simp) fun _ _ => ?_
  simp only [k4, argEnv, take6, List.drop_zero, Int.cast_ofNat_Int, go_sem, ↓reduceIte, Nat.reduceEqDiff, Nat.reduceAdd, Nat.reduceMul, Nat.reduceLeDiff, Nat.reduceLT, Int.reduceLE, Int.reduceLT, reduceCtorEq]
  refine (p6 l hl).go ?_
  try simp only [go_sem, ↓reduceIte, Nat.reduceEqDiff, Nat.reduceAdd, Nat.reduceMul, Nat.reduceLeDiff, Nat.reduceLT, Int.reduceLE, Int.reduceLT, reduceCtorEq]
  refine ⟨fun h => Kv.Fin.still ⟨rfl, rfl⟩, fun hbig => ?_⟩
  have hB : Byt l := ⟨by omega, hb⟩
  refine p28 hB fun a a7 a6 => ?_
  obtain ⟨X, c1, hX, i1, s1, r1, hc1⟩ := tb_loc a a7 a6
  try simp only [go_sem, ↓reduceIte, Nat.reduceEqDiff, Nat.reduceAdd, Nat.reduceMul, Nat.reduceLeDiff, Nat.reduceLT, Int.reduceLE, Int.reduceLT, reduceCtorEq]
  refine i1.go ?_
  try simp only [go_sem, ↓reduceIte, Nat.reduceEqDiff, Nat.reduceAdd, Nat.reduceMul, Nat.reduceLeDiff, Nat.reduceLT, Int.reduceLE, Int.reduceLT, reduceCtorEq]
  refine s1.go ?_
  try simp only [go_sem, ↓reduceIte, Nat.reduceEqDiff, Nat.reduceAdd, Nat.reduceMul, Nat.reduceLeDiff, Nat.reduceLT, Int.reduceLE, Int.reduceLT, reduceCtorEq]
  refine r1.go ?_
  try simp only [go_sem, ↓reduceIte, Nat.reduceEqDiff, Nat.reduceAdd, Nat.reduceMul, Nat.reduceLeDiff, Nat.reduceLT, Int.reduceLE, Int.reduceLT, reduceCtorEq]
  refine p32 hB fun t t41 t40 => ?_
  obtain ⟨bm, c2, i2, s2, hc2⟩ := im_loc t t41 t40
  obtain ⟨v3, c3, i3, s3, hc3⟩ := idt_loc t t41 t40
  obtain ⟨V4, c4, hV4, i4, s4, r4, hc4⟩ := id_loc t t41 t40
  obtain ⟨V5, c5, hV5, i5, s5, r5, hc5⟩ := op_loc t t41 t40
  try simp only [go_sem, ↓reduceIte, Nat.reduceEqDiff, Nat.reduceAdd, Nat.reduceMul, Nat.reduceLeDiff, Nat.reduceLT, Int.reduceLE, Int.reduceLT, reduceCtorEq]
  refine i2.go ?_
  try simp only [go_sem, ↓reduceIte, Nat.reduceEqDiff, Nat.reduceAdd, Nat.reduceMul, Nat.reduceLeDiff, Nat.reduceLT, Int.reduceLE, Int.reduceLT, reduceCtorEq]
  refine s2.go ?_
  try simp only [go_sem, ↓reduceIte, Nat.reduceEqDiff, Nat.reduceAdd, Nat.reduceMul, Nat.reduceLeDiff, Nat.reduceLT, Int.reduceLE, Int.reduceLT, reduceCtorEq]
  refine i3.go ?_
  try simp only [go_sem, ↓reduceIte, Nat.reduceEqDiff, Nat.reduceAdd, Nat.reduceMul, Nat.reduceLeDiff, Nat.reduceLT, Int.reduceLE, Int.reduceLT, reduceCtorEq]
  refine s3.go ?_
  try simp only [go_sem, ↓reduceIte, Nat.reduceEqDiff, Nat.reduceAdd, Nat.reduceMul, Nat.reduceLeDiff, Nat.reduceLT, Int.reduceLE, Int.reduceLT, reduceCtorEq]
  refine i4.go ?_
  try simp only [go_sem, ↓reduceIte, Nat.reduceEqDiff, Nat.reduceAdd, Nat.reduceMul, Nat.reduceLeDiff, Nat.reduceLT, Int.reduceLE, Int.reduceLT, reduceCtorEq]
  refine s4.go ?_
  try simp only [go_sem, ↓reduceIte, Nat.reduceEqDiff, Nat.reduceAdd, Nat.reduceMul, Nat.reduceLeDiff, Nat.reduceLT, Int.reduceLE, Int.reduceLT, reduceCtorEq]
  refine r4.go ?_
  try simp only [go_sem, ↓reduceIte, Nat.reduceEqDiff, Nat.reduceAdd, Nat.reduceMul, Nat.reduceLeDiff, Nat.reduceLT, Int.reduceLE, Int.reduceLT, reduceCtorEq]
  refine i5.go ?_
  try simp only [go_sem, ↓reduceIte, Nat.reduceEqDiff, Nat.reduceAdd, Nat.reduceMul, Nat.reduceLeDiff, Nat.reduceLT, Int.reduceLE, Int.reduceLT, reduceCtorEq]
  refine s5.go ?_
  try simp only [go_sem, ↓reduceIte, Nat.reduceEqDiff, Nat.reduceAdd, Nat.reduceMul, Nat.reduceLeDiff, Nat.reduceLT, Int.reduceLE, Int.reduceLT, reduceCtorEq]
  refine r5.go ?_
  try simp only [go_sem, ↓reduceIte, Nat.reduceEqDiff, Nat.reduceAdd, Nat.reduceMul, Nat.reduceLeDiff, Nat.reduceLT, Int.reduceLE, Int.reduceLT, reduceCtorEq]
  refine p41 hB fun u u41 u40 => ?_
  obtain ⟨V6, c6, hV6, i6, s6, r6, hc6⟩ := mt_loc u u41 u40
  try simp only [go_sem, ↓reduceIte, Nat.reduceEqDiff, Nat.reduceAdd, Nat.reduceMul, Nat.reduceLeDiff, Nat.reduceLT, Int.reduceLE, Int.reduceLT, reduceCtorEq]
  refine i6.go ?_
  try simp only [go_sem, ↓reduceIte, Nat.reduceEqDiff, Nat.reduceAdd, Nat.reduceMul, Nat.reduceLeDiff, Nat.reduceLT, Int.reduceLE, Int.reduceLT, reduceCtorEq]
  refine s6.go ?_
  try simp only [go_sem, ↓reduceIte, Nat.reduceEqDiff, Nat.reduceAdd, Nat.reduceMul, Nat.reduceLeDiff, Nat.reduceLT, Int.reduceLE, Int.reduceLT, reduceCtorEq]
  refine r6.go ?_
  try simp only [go_sem, ↓reduceIte, Nat.reduceEqDiff, Nat.reduceAdd, Nat.reduceMul, Nat.reduceLeDiff, Nat.reduceLT, Int.reduceLE, Int.reduceLT, reduceCtorEq]
  refine ⟨fun h6 => ?_, fun h6 => ?_⟩
  · rcases hc6 with ⟨_, u1, u5, um, rfl⟩ | hne
    rotate_left
    exact absurd h6 hne.1
    refine mon_loop u1 um u5 (w3 := .list (aggs a)) (w4 := X) (w5 := .int .i64 c1) (w8 := .list (rows t)) (w9 := .bool bm) (w10 := .int .i64 c2) (w13 := .int .i64 v3) (w14 := .int .i64 c3) (w17 := V4) (w18 := .int .i64 c4) (w21 := V5) (w22 := .int .i64 c5) (by simp [keep]) fun env' ρ hk => ?_
    obtain ⟨k3, k4, k5, k8, k9, k10, k13, k14, k17, k18, k21, k22⟩ : Kv.look env' 3 = PV.list (aggs a) ∧ Kv.look env' 4 = X ∧ Kv.look env' 5 = PV.int .i64 c1 ∧ Kv.look env' 8 = PV.list (rows t) ∧ Kv.look env' 9 = PV.bool bm ∧ Kv.look env' 10 = PV.int .i64 c2 ∧ Kv.look env' 13 = PV.int .i64 v3 ∧ Kv.look env' 14 = PV.int .i64 c3 ∧ Kv.look env' 17 = V4 ∧ Kv.look env' 18 = PV.int .i64 c4 ∧ Kv.look env' 21 = V5 ∧ Kv.look env' 22 = PV.int .i64 c5 := by simpa [keep] using hk
    try simp only [k3, k4, k5, k8, k9, k10, k13, k14, k17, k18, k21, k22, go_sem, ↓reduceIte, Nat.reduceEqDiff, Nat.reduceAdd, Nat.reduceMul, Nat.reduceLeDiff, Nat.reduceLT, Int.reduceLE, Int.reduceLT, reduceCtorEq]
    clear hk
    refine ⟨fun h5 => ?_, fun h5 => ?_⟩
    · rcases hc5 with ⟨tI, _, rfl⟩ | ⟨_, h, _⟩
      rotate_left
      omega
      rcases hc2 with ⟨_, rfl, rfl⟩ | ⟨h, _⟩
      rotate_left
      rw [tI] at h; cases h
      rcases hc4 with ⟨_, rfl, rfl⟩ | ⟨h, _⟩
      rotate_left
      rw [tI] at h; cases h
      obtain ⟨o1, o2, o3⟩ := ob_loc tI
      refine o1.go ?_
      try simp only [k3, k4, k5, k8, k9, k10, k13, k14, k17, k18, k21, k22, go_sem, ↓reduceIte, Nat.reduceEqDiff, Nat.reduceAdd, Nat.reduceMul, Nat.reduceLeDiff, Nat.reduceLT, Int.reduceLE, Int.reduceLT, reduceCtorEq]
      refine o2.go ?_
      try simp only [k3, k4, k5, k8, k9, k10, k13, k14, k17, k18, k21, k22, go_sem, ↓reduceIte, Nat.reduceEqDiff, Nat.reduceAdd, Nat.reduceMul, Nat.reduceLeDiff, Nat.reduceLT, Int.reduceLE, Int.reduceLT, reduceCtorEq]
      refine o3.go ?_
      try simp only [k3, k4, k5, k8, k9, k10, k13, k14, k17, k18, k21, k22, go_sem, ↓reduceIte, Nat.reduceEqDiff, Nat.reduceAdd, Nat.reduceMul, Nat.reduceLeDiff, Nat.reduceLT, Int.reduceLE, Int.reduceLT, reduceCtorEq]
      refine ⟨fun hm => ?_, fun hm => ?_⟩
      · obtain ⟨rfl, hv⟩ := hc3 tI hm
        have hI := p27 (idl t t.length) (by have := idl_le t t.length; omega) v3
        rw [decide_eq_true hv] at hI
        try simp only [k3, k4, k5, k8, k9, k10, k13, k14, k17, k18, k21, k22, go_sem, ↓reduceIte, Nat.reduceEqDiff, Nat.reduceAdd, Nat.reduceMul, Nat.reduceLeDiff, Nat.reduceLT, Int.reduceLE, Int.reduceLT, reduceCtorEq]
        refine hI.go ?_
        try simp only [k3, k4, k5, k8, k9, k10, k13, k14, k17, k18, k21, k22, go_sem, ↓reduceIte, Nat.reduceEqDiff, Nat.reduceAdd, Nat.reduceMul, Nat.reduceLeDiff, Nat.reduceLT, Int.reduceLE, Int.reduceLT, reduceCtorEq]
        refine ⟨fun h1 => ?_, fun h1 => ?_⟩
        · rcases hc1 with ⟨h, _⟩ | ⟨_, rfl⟩
          exact absurd h h1
          try simp only [k3, k4, k5, k8, k9, k10, k13, k14, k17, k18, k21, k22, go_sem, ↓reduceIte, Nat.reduceEqDiff, Nat.reduceAdd, Nat.reduceMul, Nat.reduceLeDiff, Nat.reduceLT, Int.reduceLE, Int.reduceLT, reduceCtorEq]
          exact Kv.Fin.still ⟨rfl, rfl⟩
        · rcases hc1 with ⟨_, T, A, rfl, T1, T2, T3, T4⟩ | ⟨h, _⟩
          rotate_left
          exact absurd h1 h
          obtain ⟨m1, m2⟩ := tm_loc T1 T2
          try simp only [k3, k4, k5, k8, k9, k10, k13, k14, k17, k18, k21, k22, go_sem, ↓reduceIte, Nat.reduceEqDiff, Nat.reduceAdd, Nat.reduceMul, Nat.reduceLeDiff, Nat.reduceLT, Int.reduceLE, Int.reduceLT, reduceCtorEq]
          refine m1.go ?_
          try simp only [k3, k4, k5, k8, k9, k10, k13, k14, k17, k18, k21, k22, go_sem, ↓reduceIte, Nat.reduceEqDiff, Nat.reduceAdd, Nat.reduceMul, Nat.reduceLeDiff, Nat.reduceLT, Int.reduceLE, Int.reduceLT, reduceCtorEq]
          refine T3.go ?_
          try simp only [k3, k4, k5, k8, k9, k10, k13, k14, k17, k18, k21, k22, go_sem, ↓reduceIte, Nat.reduceEqDiff, Nat.reduceAdd, Nat.reduceMul, Nat.reduceLeDiff, Nat.reduceLT, Int.reduceLE, Int.reduceLT, reduceCtorEq]
          refine m2.go ?_
          try simp only [k3, k4, k5, k8, k9, k10, k13, k14, k17, k18, k21, k22, T4, aggs_length, go_sem, ↓reduceIte, Nat.reduceEqDiff, Nat.reduceAdd, Nat.reduceMul, Nat.reduceLeDiff, Nat.reduceLT, Int.reduceLE, Int.reduceLT, reduceCtorEq]
          exact Kv.Fin.still ⟨rfl, rfl⟩
      · try simp only [k3, k4, k5, k8, k9, k10, k13, k14, k17, k18, k21, k22, go_sem, ↓reduceIte, Nat.reduceEqDiff, Nat.reduceAdd, Nat.reduceMul, Nat.reduceLeDiff, Nat.reduceLT, Int.reduceLE, Int.reduceLT, reduceCtorEq]
        refine ⟨fun h1 => ?_, fun h1 => ?_⟩
        · rcases hc1 with ⟨h, _⟩ | ⟨_, rfl⟩
          exact absurd h h1
          try simp only [k3, k4, k5, k8, k9, k10, k13, k14, k17, k18, k21, k22, go_sem, ↓reduceIte, Nat.reduceEqDiff, Nat.reduceAdd, Nat.reduceMul, Nat.reduceLeDiff, Nat.reduceLT, Int.reduceLE, Int.reduceLT, reduceCtorEq]
          exact Kv.Fin.still ⟨rfl, rfl⟩
        · rcases hc1 with ⟨_, T, A, rfl, T1, T2, T3, T4⟩ | ⟨h, _⟩
          rotate_left
          exact absurd h1 h
          obtain ⟨m1, m2⟩ := tm_loc T1 T2
          try simp only [k3, k4, k5, k8, k9, k10, k13, k14, k17, k18, k21, k22, go_sem, ↓reduceIte, Nat.reduceEqDiff, Nat.reduceAdd, Nat.reduceMul, Nat.reduceLeDiff, Nat.reduceLT, Int.reduceLE, Int.reduceLT, reduceCtorEq]
          refine m1.go ?_
          try simp only [k3, k4, k5, k8, k9, k10, k13, k14, k17, k18, k21, k22, go_sem, ↓reduceIte, Nat.reduceEqDiff, Nat.reduceAdd, Nat.reduceMul, Nat.reduceLeDiff, Nat.reduceLT, Int.reduceLE, Int.reduceLT, reduceCtorEq]
          refine T3.go ?_
          try simp only [k3, k4, k5, k8, k9, k10, k13, k14, k17, k18, k21, k22, go_sem, ↓reduceIte, Nat.reduceEqDiff, Nat.reduceAdd, Nat.reduceMul, Nat.reduceLeDiff, Nat.reduceLT, Int.reduceLE, Int.reduceLT, reduceCtorEq]
          refine m2.go ?_
          try simp only [k3, k4, k5, k8, k9, k10, k13, k14, k17, k18, k21, k22, T4, aggs_length, go_sem, ↓reduceIte, Nat.reduceEqDiff, Nat.reduceAdd, Nat.reduceMul, Nat.reduceLeDiff, Nat.reduceLT, Int.reduceLE, Int.reduceLT, reduceCtorEq]
          exact Kv.Fin.still ⟨rfl, rfl⟩
    · rcases hc5 with ⟨_, h, _⟩ | ⟨tI, _, rfl⟩
      exact absurd h h5
      rcases hc2 with ⟨h, _⟩ | ⟨_, rfl⟩
      rw [tI] at h; cases h
      try simp only [k3, k4, k5, k8, k9, k10, k13, k14, k17, k18, k21, k22, go_sem, ↓reduceIte, Nat.reduceEqDiff, Nat.reduceAdd, Nat.reduceMul, Nat.reduceLeDiff, Nat.reduceLT, Int.reduceLE, Int.reduceLT, reduceCtorEq]
      refine ⟨fun h => absurd h (by decide), fun _ => ?_⟩
      refine ⟨fun h1 => ?_, fun h1 => ?_⟩
      · rcases hc1 with ⟨h, _⟩ | ⟨_, rfl⟩
        exact absurd h h1
        try simp only [k3, k4, k5, k8, k9, k10, k13, k14, k17, k18, k21, k22, go_sem, ↓reduceIte, Nat.reduceEqDiff, Nat.reduceAdd, Nat.reduceMul, Nat.reduceLeDiff, Nat.reduceLT, Int.reduceLE, Int.reduceLT, reduceCtorEq]
        exact Kv.Fin.still ⟨rfl, rfl⟩
      · rcases hc1 with ⟨_, T, A, rfl, T1, T2, T3, T4⟩ | ⟨h, _⟩
        rotate_left
        exact absurd h1 h
        obtain ⟨m1, m2⟩ := tm_loc T1 T2
        try simp only [k3, k4, k5, k8, k9, k10, k13, k14, k17, k18, k21, k22, go_sem, ↓reduceIte, Nat.reduceEqDiff, Nat.reduceAdd, Nat.reduceMul, Nat.reduceLeDiff, Nat.reduceLT, Int.reduceLE, Int.reduceLT, reduceCtorEq]
        refine m1.go ?_
        try simp only [k3, k4, k5, k8, k9, k10, k13, k14, k17, k18, k21, k22, go_sem, ↓reduceIte, Nat.reduceEqDiff, Nat.reduceAdd, Nat.reduceMul, Nat.reduceLeDiff, Nat.reduceLT, Int.reduceLE, Int.reduceLT, reduceCtorEq]
        refine T3.go ?_
        try simp only [k3, k4, k5, k8, k9, k10, k13, k14, k17, k18, k21, k22, go_sem, ↓reduceIte, Nat.reduceEqDiff, Nat.reduceAdd, Nat.reduceMul, Nat.reduceLeDiff, Nat.reduceLT, Int.reduceLE, Int.reduceLT, reduceCtorEq]
        refine m2.go ?_
        try simp only [k3, k4, k5, k8, k9, k10, k13, k14, k17, k18, k21, k22, T4, aggs_length, go_sem, ↓reduceIte, Nat.reduceEqDiff, Nat.reduceAdd, Nat.reduceMul, Nat.reduceLeDiff, Nat.reduceLT, Int.reduceLE, Int.reduceLT, reduceCtorEq]
        exact Kv.Fin.still ⟨rfl, rfl⟩
  · clear hc6 r6 i6 s6
    refine ⟨fun h5 => ?_, fun h5 => ?_⟩
    · rcases hc5 with ⟨tI, _, rfl⟩ | ⟨_, h, _⟩
      rotate_left
      omega
      rcases hc2 with ⟨_, rfl, rfl⟩ | ⟨h, _⟩
      rotate_left
      rw [tI] at h; cases h
      rcases hc4 with ⟨_, rfl, rfl⟩ | ⟨h, _⟩
      rotate_left
      rw [tI] at h; cases h
      obtain ⟨o1, o2, o3⟩ := ob_loc tI
      refine o1.go ?_
      try simp only [go_sem, ↓reduceIte, Nat.reduceEqDiff, Nat.reduceAdd, Nat.reduceMul, Nat.reduceLeDiff, Nat.reduceLT, Int.reduceLE, Int.reduceLT, reduceCtorEq]
      refine o2.go ?_
      try simp only [go_sem, ↓reduceIte, Nat.reduceEqDiff, Nat.reduceAdd, Nat.reduceMul, Nat.reduceLeDiff, Nat.reduceLT, Int.reduceLE, Int.reduceLT, reduceCtorEq]
      refine o3.go ?_
      try simp only [go_sem, ↓reduceIte, Nat.reduceEqDiff, Nat.reduceAdd, Nat.reduceMul, Nat.reduceLeDiff, Nat.reduceLT, Int.reduceLE, Int.reduceLT, reduceCtorEq]
      refine ⟨fun hm => ?_, fun hm => ?_⟩
      · obtain ⟨rfl, hv⟩ := hc3 tI hm
        have hI := p27 (idl t t.length) (by have := idl_le t t.length; omega) v3
        rw [decide_eq_true hv] at hI
        try simp only [go_sem, ↓reduceIte, Nat.reduceEqDiff, Nat.reduceAdd, Nat.reduceMul, Nat.reduceLeDiff, Nat.reduceLT, Int.reduceLE, Int.reduceLT, reduceCtorEq]
        refine hI.go ?_
        try simp only [go_sem, ↓reduceIte, Nat.reduceEqDiff, Nat.reduceAdd, Nat.reduceMul, Nat.reduceLeDiff, Nat.reduceLT, Int.reduceLE, Int.reduceLT, reduceCtorEq]
        refine ⟨fun h1 => ?_, fun h1 => ?_⟩
        · rcases hc1 with ⟨h, _⟩ | ⟨_, rfl⟩
          exact absurd h h1
          try simp only [go_sem, ↓reduceIte, Nat.reduceEqDiff, Nat.reduceAdd, Nat.reduceMul, Nat.reduceLeDiff, Nat.reduceLT, Int.reduceLE, Int.reduceLT, reduceCtorEq]
          exact Kv.Fin.still ⟨rfl, rfl⟩
        · rcases hc1 with ⟨_, T, A, rfl, T1, T2, T3, T4⟩ | ⟨h, _⟩
          rotate_left
          exact absurd h1 h
          obtain ⟨m1, m2⟩ := tm_loc T1 T2
          try simp only [go_sem, ↓reduceIte, Nat.reduceEqDiff, Nat.reduceAdd, Nat.reduceMul, Nat.reduceLeDiff, Nat.reduceLT, Int.reduceLE, Int.reduceLT, reduceCtorEq]
          refine m1.go ?_
          try simp only [go_sem, ↓reduceIte, Nat.reduceEqDiff, Nat.reduceAdd, Nat.reduceMul, Nat.reduceLeDiff, Nat.reduceLT, Int.reduceLE, Int.reduceLT, reduceCtorEq]
          refine T3.go ?_
          try simp only [go_sem, ↓reduceIte, Nat.reduceEqDiff, Nat.reduceAdd, Nat.reduceMul, Nat.reduceLeDiff, Nat.reduceLT, Int.reduceLE, Int.reduceLT, reduceCtorEq]
          refine m2.go ?_
          try simp only [T4, aggs_length, go_sem, ↓reduceIte, Nat.reduceEqDiff, Nat.reduceAdd, Nat.reduceMul, Nat.reduceLeDiff, Nat.reduceLT, Int.reduceLE, Int.reduceLT, reduceCtorEq]
          exact Kv.Fin.still ⟨rfl, rfl⟩
      · try simp only [go_sem, ↓reduceIte, Nat.reduceEqDiff, Nat.reduceAdd, Nat.reduceMul, Nat.reduceLeDiff, Nat.reduceLT, Int.reduceLE, Int.reduceLT, reduceCtorEq]
        refine ⟨fun h1 => ?_, fun h1 => ?_⟩
        · rcases hc1 with ⟨h, _⟩ | ⟨_, rfl⟩
          exact absurd h h1
          try simp only [go_sem, ↓reduceIte, Nat.reduceEqDiff, Nat.reduceAdd, Nat.reduceMul, Nat.reduceLeDiff, Nat.reduceLT, Int.reduceLE, Int.reduceLT, reduceCtorEq]
          exact Kv.Fin.still ⟨rfl, rfl⟩
        · rcases hc1 with ⟨_, T, A, rfl, T1, T2, T3, T4⟩ | ⟨h, _⟩
          rotate_left
          exact absurd h1 h
          obtain ⟨m1, m2⟩ := tm_loc T1 T2
          try simp only [go_sem, ↓reduceIte, Nat.reduceEqDiff, Nat.reduceAdd, Nat.reduceMul, Nat.reduceLeDiff, Nat.reduceLT, Int.reduceLE, Int.reduceLT, reduceCtorEq]
          refine m1.go ?_
          try simp only [go_sem, ↓reduceIte, Nat.reduceEqDiff, Nat.reduceAdd, Nat.reduceMul, Nat.reduceLeDiff, Nat.reduceLT, Int.reduceLE, Int.reduceLT, reduceCtorEq]
          refine T3.go ?_
          try simp only [go_sem, ↓reduceIte, Nat.reduceEqDiff, Nat.reduceAdd, Nat.reduceMul, Nat.reduceLeDiff, Nat.reduceLT, Int.reduceLE, Int.reduceLT, reduceCtorEq]
          refine m2.go ?_
          try simp only [T4, aggs_length, go_sem, ↓reduceIte, Nat.reduceEqDiff, Nat.reduceAdd, Nat.reduceMul, Nat.reduceLeDiff, Nat.reduceLT, Int.reduceLE, Int.reduceLT, reduceCtorEq]
          exact Kv.Fin.still ⟨rfl, rfl⟩
    · rcases hc5 with ⟨_, h, _⟩ | ⟨tI, _, rfl⟩
      exact absurd h h5
      rcases hc2 with ⟨h, _⟩ | ⟨_, rfl⟩
      rw [tI] at h; cases h
      try simp only [go_sem, ↓reduceIte, Nat.reduceEqDiff, Nat.reduceAdd, Nat.reduceMul, Nat.reduceLeDiff, Nat.reduceLT, Int.reduceLE, Int.reduceLT, reduceCtorEq]
      refine ⟨fun h => absurd h (by decide), fun _ => ?_⟩
      refine ⟨fun h1 => ?_, fun h1 => ?_⟩
      · rcases hc1 with ⟨h, _⟩ | ⟨_, rfl⟩
        exact absurd h h1
        try simp only [go_sem, ↓reduceIte, Nat.reduceEqDiff, Nat.reduceAdd, Nat.reduceMul, Nat.reduceLeDiff, Nat.reduceLT, Int.reduceLE, Int.reduceLT, reduceCtorEq]
        exact Kv.Fin.still ⟨rfl, rfl⟩
      · rcases hc1 with ⟨_, T, A, rfl, T1, T2, T3, T4⟩ | ⟨h, _⟩
        rotate_left
        exact absurd h1 h
        obtain ⟨m1, m2⟩ := tm_loc T1 T2
        try simp only [go_sem, ↓reduceIte, Nat.reduceEqDiff, Nat.reduceAdd, Nat.reduceMul, Nat.reduceLeDiff, Nat.reduceLT, Int.reduceLE, Int.reduceLT, reduceCtorEq]
        refine m1.go ?_
        try simp only [go_sem, ↓reduceIte, Nat.reduceEqDiff, Nat.reduceAdd, Nat.reduceMul, Nat.reduceLeDiff, Nat.reduceLT, Int.reduceLE, Int.reduceLT, reduceCtorEq]
        refine T3.go ?_
        try simp only [go_sem, ↓reduceIte, Nat.reduceEqDiff, Nat.reduceAdd, Nat.reduceMul, Nat.reduceLeDiff, Nat.reduceLT, Int.reduceLE, Int.reduceLT, reduceCtorEq]
        refine m2.go ?_
        try simp only [T4, aggs_length, go_sem, ↓reduceIte, Nat.reduceEqDiff, Nat.reduceAdd, Nat.reduceMul, Nat.reduceLeDiff, Nat.reduceLT, Int.reduceLE, Int.reduceLT, reduceCtorEq]
        exact Kv.Fin.still ⟨rfl, rfl⟩
end Go.Proofs.YtpfapiiinkkcgaaGreat
end
