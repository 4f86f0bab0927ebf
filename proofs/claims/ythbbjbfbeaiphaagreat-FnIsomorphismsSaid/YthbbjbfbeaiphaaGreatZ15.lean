/- Several texts of this session as one, less what the claim does not need. -/
import Derived.Test.YthbbjbfbeaiphaaGreatCb
import Derived.Test.YthbbjbfbeaiphaaGreatZ14
import Derived.Test.YthbbjbfbeaiphaaGreatZ11
import Derived.RangeFuncBox
import Derived.RangeFuncLeaves
import Derived.Shelf.Abstract
import Derived.WalkKit
import Derived.OwnWalkIn
import Derived.TacticsInMore
import Derived.LoopNIn
import Derived.LoopIn
import Derived.Maps.AppendAt
import Derived.Test.YthbbjbfbeaiphaaGreatProg
import Derived.Shelf.SlSortCmp.NoneTotal
import Derived.Shelf.SlGeneric
import Derived.Ground.SlsfProg
import Derived.StillTailTactics
import Derived.KernelRfl
import Derived.Test.YthbbjbfbeaiphaaGreatZ10
section
/- newMonoid: its code. -/
namespace Go.Proofs.YthbbjbfbeaiphaaGreat
open Go.Kv
set_option maxRecDepth 100000
def k158_t0 : KT := (.op (mV 61 7) (.op (mV 65 8) (.op (mV 66 8) (.op (mV 67 9) (.op (mV 71 10) (.alt (.op (oP 62 (.load true 6 (.t 12))) (.alt (.op (oP 63 (.bsl true 60 6 [(.t 62)])) (.alt (.op (oP 64 (.app (.t 61) (.t 63) 60 6)) (.alt (.op (oP 68 (.idxS 1 (.t 66) (.t 67))) (.alt (.op (oP 69 (.load false 1 (.t 68))) (.alt (.op (oP 70 (.call (fC 51) [(.t 69)])) (.op (oP 72 (.bsl true 2 1 [(.t 71)])) (.op (oP 73 (.app (.t 70) (.t 72) 2 1)) (.op (oP 74 (.bsl true 27 1 [(.t 73)])) (.op (oP 75 (.app (.t 65) (.t 74) 27 1)) (.op (mV 7 64) (.op (mV 8 75) .fin))))))) (.op (oP 72 (.bsl true 2 1 [(.t 71)])) (.op (oP 70 (.call (fC 51) [(.t 69)])) (.op (oP 73 (.app (.t 70) (.t 72) 2 1)) (.op (oP 74 (.bsl true 27 1 [(.t 73)])) (.op (oP 75 (.app (.t 65) (.t 74) 27 1)) (.op (mV 7 64) (.op (mV 8 75) .fin))))))))) (.op (oP 72 (.bsl true 2 1 [(.t 71)])) (.op (oP 69 (.load false 1 (.t 68))) (.op (oP 70 (.call (fC 51) [(.t 69)])) (.op (oP 73 (.app (.t 70) (.t 72) 2 1)) (.op (oP 74 (.bsl true 27 1 [(.t 73)])) (.op (oP 75 (.app (.t 65) (.t 74) 27 1)) (.op (mV 7 64) (.op (mV 8 75) .fin)))))))))) (.op (oP 72 (.bsl true 2 1 [(.t 71)])) (.op (oP 68 (.idxS 1 (.t 66) (.t 67))) (.op (oP 69 (.load false 1 (.t 68))) (.op (oP 70 (.call (fC 51) [(.t 69)])) (.op (oP 73 (.app (.t 70) (.t 72) 2 1)) (.op (oP 74 (.bsl true 27 1 [(.t 73)])) (.op (oP 75 (.app (.t 65) (.t 74) 27 1)) (.op (mV 7 64) (.op (mV 8 75) .fin))))))))))) (.alt (.op (oP 68 (.idxS 1 (.t 66) (.t 67))) (.alt (.op (oP 64 (.app (.t 61) (.t 63) 60 6)) (.alt (.op (oP 69 (.load false 1 (.t 68))) (.alt (.op (oP 70 (.call (fC 51) [(.t 69)])) (.op (oP 72 (.bsl true 2 1 [(.t 71)])) (.op (oP 73 (.app (.t 70) (.t 72) 2 1)) (.op (oP 74 (.bsl true 27 1 [(.t 73)])) (.op (oP 75 (.app (.t 65) (.t 74) 27 1)) (.op (mV 7 64) (.op (mV 8 75) .fin))))))) (.op (oP 72 (.bsl true 2 1 [(.t 71)])) (.op (oP 70 (.call (fC 51) [(.t 69)])) (.op (oP 73 (.app (.t 70) (.t 72) 2 1)) (.op (oP 74 (.bsl true 27 1 [(.t 73)])) (.op (oP 75 (.app (.t 65) (.t 74) 27 1)) (.op (mV 7 64) (.op (mV 8 75) .fin))))))))) (.op (oP 72 (.bsl true 2 1 [(.t 71)])) (.op (oP 69 (.load false 1 (.t 68))) (.op (oP 70 (.call (fC 51) [(.t 69)])) (.op (oP 73 (.app (.t 70) (.t 72) 2 1)) (.op (oP 74 (.bsl true 27 1 [(.t 73)])) (.op (oP 75 (.app (.t 65) (.t 74) 27 1)) (.op (mV 7 64) (.op (mV 8 75) .fin)))))))))) (.alt (.op (oP 69 (.load false 1 (.t 68))) (.alt (.op (oP 64 (.app (.t 61) (.t 63) 60 6)) (.alt (.op (oP 70 (.call (fC 51) [(.t 69)])) (.op (oP 72 (.bsl true 2 1 [(.t 71)])) (.op (oP 73 (.app (.t 70) (.t 72) 2 1)) (.op (oP 74 (.bsl true 27 1 [(.t 73)])) (.op (oP 75 (.app (.t 65) (.t 74) 27 1)) (.op (mV 7 64) (.op (mV 8 75) .fin))))))) (.op (oP 72 (.bsl true 2 1 [(.t 71)])) (.op (oP 70 (.call (fC 51) [(.t 69)])) (.op (oP 73 (.app (.t 70) (.t 72) 2 1)) (.op (oP 74 (.bsl true 27 1 [(.t 73)])) (.op (oP 75 (.app (.t 65) (.t 74) 27 1)) (.op (mV 7 64) (.op (mV 8 75) .fin))))))))) (.op (oP 72 (.bsl true 2 1 [(.t 71)])) (.op (oP 64 (.app (.t 61) (.t 63) 60 6)) (.op (oP 70 (.call (fC 51) [(.t 69)])) (.op (oP 73 (.app (.t 70) (.t 72) 2 1)) (.op (oP 74 (.bsl true 27 1 [(.t 73)])) (.op (oP 75 (.app (.t 65) (.t 74) 27 1)) (.op (mV 7 64) (.op (mV 8 75) .fin)))))))))) (.op (oP 72 (.bsl true 2 1 [(.t 71)])) (.alt (.op (oP 64 (.app (.t 61) (.t 63) 60 6)) (.op (oP 69 (.load false 1 (.t 68))) (.op (oP 70 (.call (fC 51) [(.t 69)])) (.op (oP 73 (.app (.t 70) (.t 72) 2 1)) (.op (oP 74 (.bsl true 27 1 [(.t 73)])) (.op (oP 75 (.app (.t 65) (.t 74) 27 1)) (.op (mV 7 64) (.op (mV 8 75) .fin)))))))) (.op (oP 69 (.load false 1 (.t 68))) (.op (oP 64 (.app (.t 61) (.t 63) 60 6)) (.op (oP 70 (.call (fC 51) [(.t 69)])) (.op (oP 73 (.app (.t 70) (.t 72) 2 1)) (.op (oP 74 (.bsl true 27 1 [(.t 73)])) (.op (oP 75 (.app (.t 65) (.t 74) 27 1)) (.op (mV 7 64) (.op (mV 8 75) .fin))))))))))))) (.op (oP 72 (.bsl true 2 1 [(.t 71)])) (.alt (.op (oP 64 (.app (.t 61) (.t 63) 60 6)) (.op (oP 68 (.idxS 1 (.t 66) (.t 67))) (.op (oP 69 (.load false 1 (.t 68))) (.op (oP 70 (.call (fC 51) [(.t 69)])) (.op (oP 73 (.app (.t 70) (.t 72) 2 1)) (.op (oP 74 (.bsl true 27 1 [(.t 73)])) (.op (oP 75 (.app (.t 65) (.t 74) 27 1)) (.op (mV 7 64) (.op (mV 8 75) .fin))))))))) (.op (oP 68 (.idxS 1 (.t 66) (.t 67))) (.alt (.op (oP 64 (.app (.t 61) (.t 63) 60 6)) (.op (oP 69 (.load false 1 (.t 68))) (.op (oP 70 (.call (fC 51) [(.t 69)])) (.op (oP 73 (.app (.t 70) (.t 72) 2 1)) (.op (oP 74 (.bsl true 27 1 [(.t 73)])) (.op (oP 75 (.app (.t 65) (.t 74) 27 1)) (.op (mV 7 64) (.op (mV 8 75) .fin)))))))) (.op (oP 69 (.load false 1 (.t 68))) (.op (oP 64 (.app (.t 61) (.t 63) 60 6)) (.op (oP 70 (.call (fC 51) [(.t 69)])) (.op (oP 73 (.app (.t 70) (.t 72) 2 1)) (.op (oP 74 (.bsl true 27 1 [(.t 73)])) (.op (oP 75 (.app (.t 65) (.t 74) 27 1)) (.op (mV 7 64) (.op (mV 8 75) .fin))))))))))))))) (.alt (.op (oP 68 (.idxS 1 (.t 66) (.t 67))) (.alt (.op (oP 63 (.bsl true 60 6 [(.t 62)])) (.alt (.op (oP 64 (.app (.t 61) (.t 63) 60 6)) (.alt (.op (oP 69 (.load false 1 (.t 68))) (.alt (.op (oP 70 (.call (fC 51) [(.t 69)])) (.op (oP 72 (.bsl true 2 1 [(.t 71)])) (.op (oP 73 (.app (.t 70) (.t 72) 2 1)) (.op (oP 74 (.bsl true 27 1 [(.t 73)])) (.op (oP 75 (.app (.t 65) (.t 74) 27 1)) (.op (mV 7 64) (.op (mV 8 75) .fin))))))) (.op (oP 72 (.bsl true 2 1 [(.t 71)])) (.op (oP 70 (.call (fC 51) [(.t 69)])) (.op (oP 73 (.app (.t 70) (.t 72) 2 1)) (.op (oP 74 (.bsl true 27 1 [(.t 73)])) (.op (oP 75 (.app (.t 65) (.t 74) 27 1)) (.op (mV 7 64) (.op (mV 8 75) .fin))))))))) (.op (oP 72 (.bsl true 2 1 [(.t 71)])) (.op (oP 69 (.load false 1 (.t 68))) (.op (oP 70 (.call (fC 51) [(.t 69)])) (.op (oP 73 (.app (.t 70) (.t 72) 2 1)) (.op (oP 74 (.bsl true 27 1 [(.t 73)])) (.op (oP 75 (.app (.t 65) (.t 74) 27 1)) (.op (mV 7 64) (.op (mV 8 75) .fin)))))))))) (.alt (.op (oP 69 (.load false 1 (.t 68))) (.alt (.op (oP 64 (.app (.t 61) (.t 63) 60 6)) (.alt (.op (oP 70 (.call (fC 51) [(.t 69)])) (.op (oP 72 (.bsl true 2 1 [(.t 71)])) (.op (oP 73 (.app (.t 70) (.t 72) 2 1)) (.op (oP 74 (.bsl true 27 1 [(.t 73)])) (.op (oP 75 (.app (.t 65) (.t 74) 27 1)) (.op (mV 7 64) (.op (mV 8 75) .fin))))))) (.op (oP 72 (.bsl true 2 1 [(.t 71)])) (.op (oP 70 (.call (fC 51) [(.t 69)])) (.op (oP 73 (.app (.t 70) (.t 72) 2 1)) (.op (oP 74 (.bsl true 27 1 [(.t 73)])) (.op (oP 75 (.app (.t 65) (.t 74) 27 1)) (.op (mV 7 64) (.op (mV 8 75) .fin))))))))) (.op (oP 72 (.bsl true 2 1 [(.t 71)])) (.op (oP 64 (.app (.t 61) (.t 63) 60 6)) (.op (oP 70 (.call (fC 51) [(.t 69)])) (.op (oP 73 (.app (.t 70) (.t 72) 2 1)) (.op (oP 74 (.bsl true 27 1 [(.t 73)])) (.op (oP 75 (.app (.t 65) (.t 74) 27 1)) (.op (mV 7 64) (.op (mV 8 75) .fin)))))))))) (.op (oP 72 (.bsl true 2 1 [(.t 71)])) (.alt (.op (oP 64 (.app (.t 61) (.t 63) 60 6)) (.op (oP 69 (.load false 1 (.t 68))) (.op (oP 70 (.call (fC 51) [(.t 69)])) (.op (oP 73 (.app (.t 70) (.t 72) 2 1)) (.op (oP 74 (.bsl true 27 1 [(.t 73)])) (.op (oP 75 (.app (.t 65) (.t 74) 27 1)) (.op (mV 7 64) (.op (mV 8 75) .fin)))))))) (.op (oP 69 (.load false 1 (.t 68))) (.op (oP 64 (.app (.t 61) (.t 63) 60 6)) (.op (oP 70 (.call (fC 51) [(.t 69)])) (.op (oP 73 (.app (.t 70) (.t 72) 2 1)) (.op (oP 74 (.bsl true 27 1 [(.t 73)])) (.op (oP 75 (.app (.t 65) (.t 74) 27 1)) (.op (mV 7 64) (.op (mV 8 75) .fin))))))))))))) (.alt (.op (oP 69 (.load false 1 (.t 68))) (.alt (.op (oP 63 (.bsl true 60 6 [(.t 62)])) (.alt (.op (oP 64 (.app (.t 61) (.t 63) 60 6)) (.alt (.op (oP 70 (.call (fC 51) [(.t 69)])) (.op (oP 72 (.bsl true 2 1 [(.t 71)])) (.op (oP 73 (.app (.t 70) (.t 72) 2 1)) (.op (oP 74 (.bsl true 27 1 [(.t 73)])) (.op (oP 75 (.app (.t 65) (.t 74) 27 1)) (.op (mV 7 64) (.op (mV 8 75) .fin))))))) (.op (oP 72 (.bsl true 2 1 [(.t 71)])) (.op (oP 70 (.call (fC 51) [(.t 69)])) (.op (oP 73 (.app (.t 70) (.t 72) 2 1)) (.op (oP 74 (.bsl true 27 1 [(.t 73)])) (.op (oP 75 (.app (.t 65) (.t 74) 27 1)) (.op (mV 7 64) (.op (mV 8 75) .fin))))))))) (.op (oP 72 (.bsl true 2 1 [(.t 71)])) (.op (oP 64 (.app (.t 61) (.t 63) 60 6)) (.op (oP 70 (.call (fC 51) [(.t 69)])) (.op (oP 73 (.app (.t 70) (.t 72) 2 1)) (.op (oP 74 (.bsl true 27 1 [(.t 73)])) (.op (oP 75 (.app (.t 65) (.t 74) 27 1)) (.op (mV 7 64) (.op (mV 8 75) .fin)))))))))) (.op (oP 72 (.bsl true 2 1 [(.t 71)])) (.op (oP 63 (.bsl true 60 6 [(.t 62)])) (.op (oP 64 (.app (.t 61) (.t 63) 60 6)) (.op (oP 70 (.call (fC 51) [(.t 69)])) (.op (oP 73 (.app (.t 70) (.t 72) 2 1)) (.op (oP 74 (.bsl true 27 1 [(.t 73)])) (.op (oP 75 (.app (.t 65) (.t 74) 27 1)) (.op (mV 7 64) (.op (mV 8 75) .fin))))))))))) (.op (oP 72 (.bsl true 2 1 [(.t 71)])) (.alt (.op (oP 63 (.bsl true 60 6 [(.t 62)])) (.alt (.op (oP 64 (.app (.t 61) (.t 63) 60 6)) (.op (oP 69 (.load false 1 (.t 68))) (.op (oP 70 (.call (fC 51) [(.t 69)])) (.op (oP 73 (.app (.t 70) (.t 72) 2 1)) (.op (oP 74 (.bsl true 27 1 [(.t 73)])) (.op (oP 75 (.app (.t 65) (.t 74) 27 1)) (.op (mV 7 64) (.op (mV 8 75) .fin)))))))) (.op (oP 69 (.load false 1 (.t 68))) (.op (oP 64 (.app (.t 61) (.t 63) 60 6)) (.op (oP 70 (.call (fC 51) [(.t 69)])) (.op (oP 73 (.app (.t 70) (.t 72) 2 1)) (.op (oP 74 (.bsl true 27 1 [(.t 73)])) (.op (oP 75 (.app (.t 65) (.t 74) 27 1)) (.op (mV 7 64) (.op (mV 8 75) .fin)))))))))) (.op (oP 69 (.load false 1 (.t 68))) (.op (oP 63 (.bsl true 60 6 [(.t 62)])) (.op (oP 64 (.app (.t 61) (.t 63) 60 6)) (.op (oP 70 (.call (fC 51) [(.t 69)])) (.op (oP 73 (.app (.t 70) (.t 72) 2 1)) (.op (oP 74 (.bsl true 27 1 [(.t 73)])) (.op (oP 75 (.app (.t 65) (.t 74) 27 1)) (.op (mV 7 64) (.op (mV 8 75) .fin)))))))))))))) (.op (oP 72 (.bsl true 2 1 [(.t 71)])) (.alt (.op (oP 63 (.bsl true 60 6 [(.t 62)])) (.alt (.op (oP 64 (.app (.t 61) (.t 63) 60 6)) (.op (oP 68 (.idxS 1 (.t 66) (.t 67))) (.op (oP 69 (.load false 1 (.t 68))) (.op (oP 70 (.call (fC 51) [(.t 69)])) (.op (oP 73 (.app (.t 70) (.t 72) 2 1)) (.op (oP 74 (.bsl true 27 1 [(.t 73)])) (.op (oP 75 (.app (.t 65) (.t 74) 27 1)) (.op (mV 7 64) (.op (mV 8 75) .fin))))))))) (.op (oP 68 (.idxS 1 (.t 66) (.t 67))) (.alt (.op (oP 64 (.app (.t 61) (.t 63) 60 6)) (.op (oP 69 (.load false 1 (.t 68))) (.op (oP 70 (.call (fC 51) [(.t 69)])) (.op (oP 73 (.app (.t 70) (.t 72) 2 1)) (.op (oP 74 (.bsl true 27 1 [(.t 73)])) (.op (oP 75 (.app (.t 65) (.t 74) 27 1)) (.op (mV 7 64) (.op (mV 8 75) .fin)))))))) (.op (oP 69 (.load false 1 (.t 68))) (.op (oP 64 (.app (.t 61) (.t 63) 60 6)) (.op (oP 70 (.call (fC 51) [(.t 69)])) (.op (oP 73 (.app (.t 70) (.t 72) 2 1)) (.op (oP 74 (.bsl true 27 1 [(.t 73)])) (.op (oP 75 (.app (.t 65) (.t 74) 27 1)) (.op (mV 7 64) (.op (mV 8 75) .fin)))))))))))) (.op (oP 68 (.idxS 1 (.t 66) (.t 67))) (.alt (.op (oP 63 (.bsl true 60 6 [(.t 62)])) (.alt (.op (oP 64 (.app (.t 61) (.t 63) 60 6)) (.op (oP 69 (.load false 1 (.t 68))) (.op (oP 70 (.call (fC 51) [(.t 69)])) (.op (oP 73 (.app (.t 70) (.t 72) 2 1)) (.op (oP 74 (.bsl true 27 1 [(.t 73)])) (.op (oP 75 (.app (.t 65) (.t 74) 27 1)) (.op (mV 7 64) (.op (mV 8 75) .fin)))))))) (.op (oP 69 (.load false 1 (.t 68))) (.op (oP 64 (.app (.t 61) (.t 63) 60 6)) (.op (oP 70 (.call (fC 51) [(.t 69)])) (.op (oP 73 (.app (.t 70) (.t 72) 2 1)) (.op (oP 74 (.bsl true 27 1 [(.t 73)])) (.op (oP 75 (.app (.t 65) (.t 74) 27 1)) (.op (mV 7 64) (.op (mV 8 75) .fin)))))))))) (.op (oP 69 (.load false 1 (.t 68))) (.op (oP 63 (.bsl true 60 6 [(.t 62)])) (.op (oP 64 (.app (.t 61) (.t 63) 60 6)) (.op (oP 70 (.call (fC 51) [(.t 69)])) (.op (oP 73 (.app (.t 70) (.t 72) 2 1)) (.op (oP 74 (.bsl true 27 1 [(.t 73)])) (.op (oP 75 (.app (.t 65) (.t 74) 27 1)) (.op (mV 7 64) (.op (mV 8 75) .fin)))))))))))))))) (.alt (.op (oP 68 (.idxS 1 (.t 66) (.t 67))) (.alt (.op (oP 62 (.load true 6 (.t 12))) (.alt (.op (oP 63 (.bsl true 60 6 [(.t 62)])) (.alt (.op (oP 64 (.app (.t 61) (.t 63) 60 6)) (.alt (.op (oP 69 (.load false 1 (.t 68))) (.alt (.op (oP 70 (.call (fC 51) [(.t 69)])) (.op (oP 72 (.bsl true 2 1 [(.t 71)])) (.op (oP 73 (.app (.t 70) (.t 72) 2 1)) (.op (oP 74 (.bsl true 27 1 [(.t 73)])) (.op (oP 75 (.app (.t 65) (.t 74) 27 1)) (.op (mV 7 64) (.op (mV 8 75) .fin))))))) (.op (oP 72 (.bsl true 2 1 [(.t 71)])) (.op (oP 70 (.call (fC 51) [(.t 69)])) (.op (oP 73 (.app (.t 70) (.t 72) 2 1)) (.op (oP 74 (.bsl true 27 1 [(.t 73)])) (.op (oP 75 (.app (.t 65) (.t 74) 27 1)) (.op (mV 7 64) (.op (mV 8 75) .fin))))))))) (.op (oP 72 (.bsl true 2 1 [(.t 71)])) (.op (oP 69 (.load false 1 (.t 68))) (.op (oP 70 (.call (fC 51) [(.t 69)])) (.op (oP 73 (.app (.t 70) (.t 72) 2 1)) (.op (oP 74 (.bsl true 27 1 [(.t 73)])) (.op (oP 75 (.app (.t 65) (.t 74) 27 1)) (.op (mV 7 64) (.op (mV 8 75) .fin)))))))))) (.alt (.op (oP 69 (.load false 1 (.t 68))) (.alt (.op (oP 64 (.app (.t 61) (.t 63) 60 6)) (.alt (.op (oP 70 (.call (fC 51) [(.t 69)])) (.op (oP 72 (.bsl true 2 1 [(.t 71)])) (.op (oP 73 (.app (.t 70) (.t 72) 2 1)) (.op (oP 74 (.bsl true 27 1 [(.t 73)])) (.op (oP 75 (.app (.t 65) (.t 74) 27 1)) (.op (mV 7 64) (.op (mV 8 75) .fin))))))) (.op (oP 72 (.bsl true 2 1 [(.t 71)])) (.op (oP 70 (.call (fC 51) [(.t 69)])) (.op (oP 73 (.app (.t 70) (.t 72) 2 1)) (.op (oP 74 (.bsl true 27 1 [(.t 73)])) (.op (oP 75 (.app (.t 65) (.t 74) 27 1)) (.op (mV 7 64) (.op (mV 8 75) .fin))))))))) (.op (oP 72 (.bsl true 2 1 [(.t 71)])) (.op (oP 64 (.app (.t 61) (.t 63) 60 6)) (.op (oP 70 (.call (fC 51) [(.t 69)])) (.op (oP 73 (.app (.t 70) (.t 72) 2 1)) (.op (oP 74 (.bsl true 27 1 [(.t 73)])) (.op (oP 75 (.app (.t 65) (.t 74) 27 1)) (.op (mV 7 64) (.op (mV 8 75) .fin)))))))))) (.op (oP 72 (.bsl true 2 1 [(.t 71)])) (.alt (.op (oP 64 (.app (.t 61) (.t 63) 60 6)) (.op (oP 69 (.load false 1 (.t 68))) (.op (oP 70 (.call (fC 51) [(.t 69)])) (.op (oP 73 (.app (.t 70) (.t 72) 2 1)) (.op (oP 74 (.bsl true 27 1 [(.t 73)])) (.op (oP 75 (.app (.t 65) (.t 74) 27 1)) (.op (mV 7 64) (.op (mV 8 75) .fin)))))))) (.op (oP 69 (.load false 1 (.t 68))) (.op (oP 64 (.app (.t 61) (.t 63) 60 6)) (.op (oP 70 (.call (fC 51) [(.t 69)])) (.op (oP 73 (.app (.t 70) (.t 72) 2 1)) (.op (oP 74 (.bsl true 27 1 [(.t 73)])) (.op (oP 75 (.app (.t 65) (.t 74) 27 1)) (.op (mV 7 64) (.op (mV 8 75) .fin))))))))))))) (.alt (.op (oP 69 (.load false 1 (.t 68))) (.alt (.op (oP 63 (.bsl true 60 6 [(.t 62)])) (.alt (.op (oP 64 (.app (.t 61) (.t 63) 60 6)) (.alt (.op (oP 70 (.call (fC 51) [(.t 69)])) (.op (oP 72 (.bsl true 2 1 [(.t 71)])) (.op (oP 73 (.app (.t 70) (.t 72) 2 1)) (.op (oP 74 (.bsl true 27 1 [(.t 73)])) (.op (oP 75 (.app (.t 65) (.t 74) 27 1)) (.op (mV 7 64) (.op (mV 8 75) .fin))))))) (.op (oP 72 (.bsl true 2 1 [(.t 71)])) (.op (oP 70 (.call (fC 51) [(.t 69)])) (.op (oP 73 (.app (.t 70) (.t 72) 2 1)) (.op (oP 74 (.bsl true 27 1 [(.t 73)])) (.op (oP 75 (.app (.t 65) (.t 74) 27 1)) (.op (mV 7 64) (.op (mV 8 75) .fin))))))))) (.op (oP 72 (.bsl true 2 1 [(.t 71)])) (.op (oP 64 (.app (.t 61) (.t 63) 60 6)) (.op (oP 70 (.call (fC 51) [(.t 69)])) (.op (oP 73 (.app (.t 70) (.t 72) 2 1)) (.op (oP 74 (.bsl true 27 1 [(.t 73)])) (.op (oP 75 (.app (.t 65) (.t 74) 27 1)) (.op (mV 7 64) (.op (mV 8 75) .fin)))))))))) (.op (oP 72 (.bsl true 2 1 [(.t 71)])) (.op (oP 63 (.bsl true 60 6 [(.t 62)])) (.op (oP 64 (.app (.t 61) (.t 63) 60 6)) (.op (oP 70 (.call (fC 51) [(.t 69)])) (.op (oP 73 (.app (.t 70) (.t 72) 2 1)) (.op (oP 74 (.bsl true 27 1 [(.t 73)])) (.op (oP 75 (.app (.t 65) (.t 74) 27 1)) (.op (mV 7 64) (.op (mV 8 75) .fin))))))))))) (.op (oP 72 (.bsl true 2 1 [(.t 71)])) (.alt (.op (oP 63 (.bsl true 60 6 [(.t 62)])) (.alt (.op (oP 64 (.app (.t 61) (.t 63) 60 6)) (.op (oP 69 (.load false 1 (.t 68))) (.op (oP 70 (.call (fC 51) [(.t 69)])) (.op (oP 73 (.app (.t 70) (.t 72) 2 1)) (.op (oP 74 (.bsl true 27 1 [(.t 73)])) (.op (oP 75 (.app (.t 65) (.t 74) 27 1)) (.op (mV 7 64) (.op (mV 8 75) .fin)))))))) (.op (oP 69 (.load false 1 (.t 68))) (.op (oP 64 (.app (.t 61) (.t 63) 60 6)) (.op (oP 70 (.call (fC 51) [(.t 69)])) (.op (oP 73 (.app (.t 70) (.t 72) 2 1)) (.op (oP 74 (.bsl true 27 1 [(.t 73)])) (.op (oP 75 (.app (.t 65) (.t 74) 27 1)) (.op (mV 7 64) (.op (mV 8 75) .fin)))))))))) (.op (oP 69 (.load false 1 (.t 68))) (.op (oP 63 (.bsl true 60 6 [(.t 62)])) (.op (oP 64 (.app (.t 61) (.t 63) 60 6)) (.op (oP 70 (.call (fC 51) [(.t 69)])) (.op (oP 73 (.app (.t 70) (.t 72) 2 1)) (.op (oP 74 (.bsl true 27 1 [(.t 73)])) (.op (oP 75 (.app (.t 65) (.t 74) 27 1)) (.op (mV 7 64) (.op (mV 8 75) .fin)))))))))))))) (.alt (.op (oP 69 (.load false 1 (.t 68))) (.alt (.op (oP 62 (.load true 6 (.t 12))) (.alt (.op (oP 63 (.bsl true 60 6 [(.t 62)])) (.alt (.op (oP 64 (.app (.t 61) (.t 63) 60 6)) (.alt (.op (oP 70 (.call (fC 51) [(.t 69)])) (.op (oP 72 (.bsl true 2 1 [(.t 71)])) (.op (oP 73 (.app (.t 70) (.t 72) 2 1)) (.op (oP 74 (.bsl true 27 1 [(.t 73)])) (.op (oP 75 (.app (.t 65) (.t 74) 27 1)) (.op (mV 7 64) (.op (mV 8 75) .fin))))))) (.op (oP 72 (.bsl true 2 1 [(.t 71)])) (.op (oP 70 (.call (fC 51) [(.t 69)])) (.op (oP 73 (.app (.t 70) (.t 72) 2 1)) (.op (oP 74 (.bsl true 27 1 [(.t 73)])) (.op (oP 75 (.app (.t 65) (.t 74) 27 1)) (.op (mV 7 64) (.op (mV 8 75) .fin))))))))) (.op (oP 72 (.bsl true 2 1 [(.t 71)])) (.op (oP 64 (.app (.t 61) (.t 63) 60 6)) (.op (oP 70 (.call (fC 51) [(.t 69)])) (.op (oP 73 (.app (.t 70) (.t 72) 2 1)) (.op (oP 74 (.bsl true 27 1 [(.t 73)])) (.op (oP 75 (.app (.t 65) (.t 74) 27 1)) (.op (mV 7 64) (.op (mV 8 75) .fin)))))))))) (.op (oP 72 (.bsl true 2 1 [(.t 71)])) (.op (oP 63 (.bsl true 60 6 [(.t 62)])) (.op (oP 64 (.app (.t 61) (.t 63) 60 6)) (.op (oP 70 (.call (fC 51) [(.t 69)])) (.op (oP 73 (.app (.t 70) (.t 72) 2 1)) (.op (oP 74 (.bsl true 27 1 [(.t 73)])) (.op (oP 75 (.app (.t 65) (.t 74) 27 1)) (.op (mV 7 64) (.op (mV 8 75) .fin))))))))))) (.op (oP 72 (.bsl true 2 1 [(.t 71)])) (.op (oP 62 (.load true 6 (.t 12))) (.op (oP 63 (.bsl true 60 6 [(.t 62)])) (.op (oP 64 (.app (.t 61) (.t 63) 60 6)) (.op (oP 70 (.call (fC 51) [(.t 69)])) (.op (oP 73 (.app (.t 70) (.t 72) 2 1)) (.op (oP 74 (.bsl true 27 1 [(.t 73)])) (.op (oP 75 (.app (.t 65) (.t 74) 27 1)) (.op (mV 7 64) (.op (mV 8 75) .fin)))))))))))) (.op (oP 72 (.bsl true 2 1 [(.t 71)])) (.alt (.op (oP 62 (.load true 6 (.t 12))) (.alt (.op (oP 63 (.bsl true 60 6 [(.t 62)])) (.alt (.op (oP 64 (.app (.t 61) (.t 63) 60 6)) (.op (oP 69 (.load false 1 (.t 68))) (.op (oP 70 (.call (fC 51) [(.t 69)])) (.op (oP 73 (.app (.t 70) (.t 72) 2 1)) (.op (oP 74 (.bsl true 27 1 [(.t 73)])) (.op (oP 75 (.app (.t 65) (.t 74) 27 1)) (.op (mV 7 64) (.op (mV 8 75) .fin)))))))) (.op (oP 69 (.load false 1 (.t 68))) (.op (oP 64 (.app (.t 61) (.t 63) 60 6)) (.op (oP 70 (.call (fC 51) [(.t 69)])) (.op (oP 73 (.app (.t 70) (.t 72) 2 1)) (.op (oP 74 (.bsl true 27 1 [(.t 73)])) (.op (oP 75 (.app (.t 65) (.t 74) 27 1)) (.op (mV 7 64) (.op (mV 8 75) .fin)))))))))) (.op (oP 69 (.load false 1 (.t 68))) (.op (oP 63 (.bsl true 60 6 [(.t 62)])) (.op (oP 64 (.app (.t 61) (.t 63) 60 6)) (.op (oP 70 (.call (fC 51) [(.t 69)])) (.op (oP 73 (.app (.t 70) (.t 72) 2 1)) (.op (oP 74 (.bsl true 27 1 [(.t 73)])) (.op (oP 75 (.app (.t 65) (.t 74) 27 1)) (.op (mV 7 64) (.op (mV 8 75) .fin))))))))))) (.op (oP 69 (.load false 1 (.t 68))) (.op (oP 62 (.load true 6 (.t 12))) (.op (oP 63 (.bsl true 60 6 [(.t 62)])) (.op (oP 64 (.app (.t 61) (.t 63) 60 6)) (.op (oP 70 (.call (fC 51) [(.t 69)])) (.op (oP 73 (.app (.t 70) (.t 72) 2 1)) (.op (oP 74 (.bsl true 27 1 [(.t 73)])) (.op (oP 75 (.app (.t 65) (.t 74) 27 1)) (.op (mV 7 64) (.op (mV 8 75) .fin))))))))))))))) (.op (oP 72 (.bsl true 2 1 [(.t 71)])) (.alt (.op (oP 62 (.load true 6 (.t 12))) (.alt (.op (oP 63 (.bsl true 60 6 [(.t 62)])) (.alt (.op (oP 64 (.app (.t 61) (.t 63) 60 6)) (.op (oP 68 (.idxS 1 (.t 66) (.t 67))) (.op (oP 69 (.load false 1 (.t 68))) (.op (oP 70 (.call (fC 51) [(.t 69)])) (.op (oP 73 (.app (.t 70) (.t 72) 2 1)) (.op (oP 74 (.bsl true 27 1 [(.t 73)])) (.op (oP 75 (.app (.t 65) (.t 74) 27 1)) (.op (mV 7 64) (.op (mV 8 75) .fin))))))))) (.op (oP 68 (.idxS 1 (.t 66) (.t 67))) (.alt (.op (oP 64 (.app (.t 61) (.t 63) 60 6)) (.op (oP 69 (.load false 1 (.t 68))) (.op (oP 70 (.call (fC 51) [(.t 69)])) (.op (oP 73 (.app (.t 70) (.t 72) 2 1)) (.op (oP 74 (.bsl true 27 1 [(.t 73)])) (.op (oP 75 (.app (.t 65) (.t 74) 27 1)) (.op (mV 7 64) (.op (mV 8 75) .fin)))))))) (.op (oP 69 (.load false 1 (.t 68))) (.op (oP 64 (.app (.t 61) (.t 63) 60 6)) (.op (oP 70 (.call (fC 51) [(.t 69)])) (.op (oP 73 (.app (.t 70) (.t 72) 2 1)) (.op (oP 74 (.bsl true 27 1 [(.t 73)])) (.op (oP 75 (.app (.t 65) (.t 74) 27 1)) (.op (mV 7 64) (.op (mV 8 75) .fin)))))))))))) (.op (oP 68 (.idxS 1 (.t 66) (.t 67))) (.alt (.op (oP 63 (.bsl true 60 6 [(.t 62)])) (.alt (.op (oP 64 (.app (.t 61) (.t 63) 60 6)) (.op (oP 69 (.load false 1 (.t 68))) (.op (oP 70 (.call (fC 51) [(.t 69)])) (.op (oP 73 (.app (.t 70) (.t 72) 2 1)) (.op (oP 74 (.bsl true 27 1 [(.t 73)])) (.op (oP 75 (.app (.t 65) (.t 74) 27 1)) (.op (mV 7 64) (.op (mV 8 75) .fin)))))))) (.op (oP 69 (.load false 1 (.t 68))) (.op (oP 64 (.app (.t 61) (.t 63) 60 6)) (.op (oP 70 (.call (fC 51) [(.t 69)])) (.op (oP 73 (.app (.t 70) (.t 72) 2 1)) (.op (oP 74 (.bsl true 27 1 [(.t 73)])) (.op (oP 75 (.app (.t 65) (.t 74) 27 1)) (.op (mV 7 64) (.op (mV 8 75) .fin)))))))))) (.op (oP 69 (.load false 1 (.t 68))) (.op (oP 63 (.bsl true 60 6 [(.t 62)])) (.op (oP 64 (.app (.t 61) (.t 63) 60 6)) (.op (oP 70 (.call (fC 51) [(.t 69)])) (.op (oP 73 (.app (.t 70) (.t 72) 2 1)) (.op (oP 74 (.bsl true 27 1 [(.t 73)])) (.op (oP 75 (.app (.t 65) (.t 74) 27 1)) (.op (mV 7 64) (.op (mV 8 75) .fin))))))))))))) (.op (oP 68 (.idxS 1 (.t 66) (.t 67))) (.alt (.op (oP 62 (.load true 6 (.t 12))) (.alt (.op (oP 63 (.bsl true 60 6 [(.t 62)])) (.alt (.op (oP 64 (.app (.t 61) (.t 63) 60 6)) (.op (oP 69 (.load false 1 (.t 68))) (.op (oP 70 (.call (fC 51) [(.t 69)])) (.op (oP 73 (.app (.t 70) (.t 72) 2 1)) (.op (oP 74 (.bsl true 27 1 [(.t 73)])) (.op (oP 75 (.app (.t 65) (.t 74) 27 1)) (.op (mV 7 64) (.op (mV 8 75) .fin)))))))) (.op (oP 69 (.load false 1 (.t 68))) (.op (oP 64 (.app (.t 61) (.t 63) 60 6)) (.op (oP 70 (.call (fC 51) [(.t 69)])) (.op (oP 73 (.app (.t 70) (.t 72) 2 1)) (.op (oP 74 (.bsl true 27 1 [(.t 73)])) (.op (oP 75 (.app (.t 65) (.t 74) 27 1)) (.op (mV 7 64) (.op (mV 8 75) .fin)))))))))) (.op (oP 69 (.load false 1 (.t 68))) (.op (oP 63 (.bsl true 60 6 [(.t 62)])) (.op (oP 64 (.app (.t 61) (.t 63) 60 6)) (.op (oP 70 (.call (fC 51) [(.t 69)])) (.op (oP 73 (.app (.t 70) (.t 72) 2 1)) (.op (oP 74 (.bsl true 27 1 [(.t 73)])) (.op (oP 75 (.app (.t 65) (.t 74) 27 1)) (.op (mV 7 64) (.op (mV 8 75) .fin))))))))))) (.op (oP 69 (.load false 1 (.t 68))) (.op (oP 62 (.load true 6 (.t 12))) (.op (oP 63 (.bsl true 60 6 [(.t 62)])) (.op (oP 64 (.app (.t 61) (.t 63) 60 6)) (.op (oP 70 (.call (fC 51) [(.t 69)])) (.op (oP 73 (.app (.t 70) (.t 72) 2 1)) (.op (oP 74 (.bsl true 27 1 [(.t 73)])) (.op (oP 75 (.app (.t 65) (.t 74) 27 1)) (.op (mV 7 64) (.op (mV 8 75) .fin)))))))))))))))))))))
def k158_b0 : KC := (.seq (.ops [oP 40 (.bin .lss (.t 39) (.t 38))])
  (.seq (.cond (.t 40) .skip (.exit 2))
  (.seq (.block 3 (.seq (.ops [mV 41 39, oP 42 (.idxS 6 (.t 37) (.t 39)), oP 43 (.load true 6 (.t 42)), oP 11 (.alloc [.int .i64 0, .int .i64 0, .int .i64 0, .int .i64 0, .int .i64 0, .int .i64 0]), mV 10 41, ⟨none, none, .store 6 (.t 11) (.t 43)⟩])
  (.seq (.draw [mV 44 7, mV 45 9, oP 46 (.idxS 6 (.t 44) (.t 45)), oP 47 (.load true 6 (.t 46)), oP 48 (.load true 6 (.t 11)), oP 49 (.pcall (fC 157) [(.t 47), (.t 48)]), oP 12 (.alloc [.int .i64 0, .int .i64 0, .int .i64 0, .int .i64 0, .int .i64 0, .int .i64 0]), ⟨none, none, .store 6 (.t 12) (.t 49)⟩])
  (.seq (.seq (.draw [mV 50 6, oP 51 (.load true 6 (.t 12)), oP 53 (.nilck (.t 50)), oP 54 (.fieldA 2 (.t 53)), oP 52 (.pcall (fC 188) [(.t 51)]), oP 55 (.idxA 3125 1 (.t 54) (.t 52)), oP 56 (.load false 1 (.t 55)), oP 57 (.bin .gtr (.t 56) (iC 0))])
  (.cond (.t 57) (.exit 3) .skip))
  (.seq (.seq (.ops [mV 58 7, oP 59 (.len false (.t 58)), oP 60 (.bin .eql (.t 59) (iC 300))])
  (.cond (.t 60) (.seq (.ops [oP 4 (.mv (.c (.nilptr))), oP 5 (.mv (iC 3))])
  .ret) .skip))
  (.seq (.tree k158_t0)
  (.draw [mV 76 6, oP 77 (.load true 6 (.t 12)), mV 79 7, oP 80 (.len false (.t 79)), oP 81 (.nilck (.t 76)), oP 82 (.fieldA 2 (.t 81)), oP 78 (.pcall (fC 188) [(.t 77)]), oP 83 (.idxA 3125 1 (.t 82) (.t 78)), ⟨none, none, .store 1 (.t 83) (.t 80)⟩])))))))
  (.ops [oP 84 (.bin .add (.t 39) (iC 1)), mV 39 84]))))
def k158_b1 : KC := (.seq (.seq (.ops [mV 31 9, mV 32 7, oP 33 (.len false (.t 32)), oP 34 (.bin .lss (.t 31) (.t 33))])
  (.cond (.t 34) .skip (.exit 0)))
  (.seq (.block 1 (.seq (.ops [mV 37 0, oP 38 (.len false (.t 37)), oP 39 (.mv (iC 0))])
  (.block 2 (.loop k158_b0))))
  (.ops [mV 35 9, oP 36 (.bin .add (.t 35) (iC 1)), mV 9 36])))
def k158_b2 : KC := (.seq (.ops [oP 101 (.bin .lss (.t 100) (.t 99))])
  (.seq (.cond (.t 101) .skip (.exit 4))
  (.seq (.block 5 (.seq (.ops [oP 102 (.idxS 6 (.t 98) (.t 100)), oP 103 (.load true 6 (.t 102)), oP 14 (.alloc [.int .i64 0, .int .i64 0, .int .i64 0, .int .i64 0, .int .i64 0, .int .i64 0]), ⟨none, none, .store 6 (.t 14) (.t 103)⟩])
  (.draw [mV 104 6, mV 105 6, oP 106 (.nilck (.t 105)), oP 107 (.fieldA 1 (.t 106)), oP 108 (.load false 1 (.t 107)), mV 109 8, mV 110 6, oP 111 (.load true 6 (.t 14)), oP 113 (.nilck (.t 110)), oP 114 (.fieldA 2 (.t 113)), oP 112 (.pcall (fC 188) [(.t 111)]), oP 115 (.idxA 3125 1 (.t 114) (.t 112)), oP 116 (.load false 1 (.t 115)), oP 117 (.bin .sub (.t 116) (iC 1)), oP 118 (.idxS 1 (.t 109) (.t 117)), oP 119 (.load false 1 (.t 118)), oP 120 (.bsl true 27 1 [(.t 119)]), oP 121 (.app (.t 108) (.t 120) 27 1), oP 122 (.nilck (.t 104)), oP 123 (.fieldA 1 (.t 122)), ⟨none, none, .store 1 (.t 123) (.t 121)⟩])))
  (.ops [oP 124 (.bin .add (.t 100) (iC 1)), mV 100 124]))))
def k158_b3 : KC := (.seq (.ops [oP 131 (.bin .lss (.t 130) (.t 129))])
  (.seq (.cond (.t 131) .skip (.exit 6))
  (.seq (.block 7 (.seq (.ops [mV 132 130, oP 133 (.idxS 6 (.t 128) (.t 130)), oP 134 (.load true 6 (.t 133)), oP 16 (.alloc [.int .i64 0, .int .i64 0, .int .i64 0, .int .i64 0, .int .i64 0, .int .i64 0]), mV 15 132, ⟨none, none, .store 6 (.t 16) (.t 134)⟩])
  (.draw [mV 135 6, oP 136 (.load true 6 (.t 16)), mV 138 15, oP 139 (.bin .add (.t 138) (iC 1)), oP 140 (.nilck (.t 135)), oP 141 (.fieldA 2 (.t 140)), oP 137 (.pcall (fC 188) [(.t 136)]), oP 142 (.idxA 3125 1 (.t 141) (.t 137)), ⟨none, none, .store 1 (.t 142) (.t 139)⟩])))
  (.ops [oP 143 (.bin .add (.t 130) (iC 1)), mV 130 143]))))
def k158 : KC := (.seq (.ops [oP 4 (.mv (.c (.nilptr))), oP 5 (.mv (iC 0))])
  (.seq (.ops [oP 17 (.build ([.nils, .nils] ++ List.replicate 3125 (.int .i64 0)) []), oP 18 (.box false (.t 17)), mV 6 18])
  (.seq (.ops [mV 19 1, oP 20 (.call (fC 73) [(.t 19)]), oP 21 (.bsl false 60 6 [(.t 20)]), mV 7 21])
  (.seq (.ops [oP 22 (.bsl false 27 1 [(.c (.nils))]), mV 8 22])
  (.seq (.draw [mV 23 6, mV 24 7, oP 25 (.idxS 6 (.t 24) (iC 0)), oP 26 (.load true 6 (.t 25)), oP 28 (.nilck (.t 23)), oP 29 (.fieldA 2 (.t 28)), oP 27 (.pcall (fC 188) [(.t 26)]), oP 30 (.idxA 3125 1 (.t 29) (.t 27)), ⟨none, none, .store 1 (.t 30) (iC 1)⟩])
  (.seq (.seq (.ops [oP 9 (.mv (iC 0))])
  (.block 0 (.loop k158_b1)))
  (.seq (.ops [mV 85 6, mV 86 7, oP 87 (.call (fC 189) [(.t 86)]), oP 88 (.nilck (.t 85)), oP 89 (.fieldA 0 (.t 88)), ⟨none, none, .store 1 (.t 89) (.t 87)⟩])
  (.seq (.ops [mV 90 6, oP 91 (.nilck (.t 90)), oP 92 (.fieldA 0 (.t 91)), oP 93 (.load false 1 (.t 92)), oP 94 (.call (fC 190) [(.t 93), (fC 191)])])
  (.seq (.seq (.ops [mV 95 6, oP 96 (.nilck (.t 95)), oP 97 (.fieldA 0 (.t 96)), oP 98 (.load false 1 (.t 97)), oP 99 (.len false (.t 98)), oP 100 (.mv (iC 0))])
  (.block 4 (.loop k158_b2)))
  (.seq (.seq (.ops [mV 125 6, oP 126 (.nilck (.t 125)), oP 127 (.fieldA 0 (.t 126)), oP 128 (.load false 1 (.t 127)), oP 129 (.len false (.t 128)), oP 130 (.mv (iC 0))])
  (.block 6 (.loop k158_b3)))
  (.seq (.ops [mV 144 6, mV 4 144, oP 5 (.mv (iC 0))])
  .ret)))))))))))
theorem e158 : Ent 158 145 [63, 72, 74, 120] [.t 4, .t 5] k158 := ent Tryz.func158 (by kernel_rfl) (by kernel_rfl) (by kernel_rfl) (fun _ => by kernel_rfl) (by kernel_rfl)
def k189 : KC := (.seq (.ops [oP 2 (.mv (.c (.nils)))])
  (.seq (.seq (.ops [mV 3 0, oP 4 (.isn false (.t 3))])
  (.cond (.t 4) (.seq (.ops [oP 2 (.mv (.c (.nils)))])
  .ret) .skip))
  (.seq (.ops [oP 5 (.bsl false 60 6 []), mV 6 0, oP 7 (.app (.t 5) (.t 6) 60 6), mV 2 7])
  .ret)))
theorem e189 : Ent 189 8 [] [.t 2] k189 := ent Tryz.func189 (by kernel_rfl) (by kernel_rfl) (by kernel_rfl) (fun _ => by kernel_rfl) (by kernel_rfl)
end Go.Proofs.YthbbjbfbeaiphaaGreat
end
section
/- newMonoid: a map is found: the list of the found and the words grow, in whatever order. -/
namespace Go.Proofs.YthbbjbfbeaiphaaGreat
open Go.Kv
set_option linter.unusedVariables false
set_option linter.unusedSimpArgs false
attribute [local irreducible] ACall PCall KL
set_option maxHeartbeats 8000000 in
theorem nm_tree {R : List (List Nat)} {g : List Nat} {τ : Heap} {u1 u2 : Nat} {ws : List PV} {W : List (List Int)} {bb i k : Nat}
    (h1 : τ[1]? = some (.arr u1 60 6 (aggs (R.map mp)))) (hW : WG τ (fun id => id = 0 ∨ id = 1) 2 u2 ws W) (hWl : W.length = R.length) (hb : τ[bb]? = some (.box (ints (mp g)))) (hbb : 2 < bb) (h6g : (mp g).length = 6) (hRl : R.length < 300) (hi : i < R.length) (hk : k ≤ 1000) (hw : ∀ w ∈ W, w.length + 1 ≤ W.length)
    {Q : Exit → Env → Heap → Prop} {v0 v6 v37 v38 v39 : PV} {env : Env} (e0 : Kv.look env 0 = v0) (e6 : Kv.look env 6 = v6) (e7 : Kv.look env 7 = .ref 1 u1 0 R.length) (e8 : Kv.look env 8 = .ref 2 u2 0 W.length) (e9 : Kv.look env 9 = .int .i64 i) (e10 : Kv.look env 10 = .int .i64 k) (e12 : Kv.look env 12 = .ptr bb 0) (e37 : Kv.look env 37 = v37) (e38 : Kv.look env 38 = v38) (e39 : Kv.look env 39 = v39)
    (hQ : ∀ env' ρ w', keep [0, 6, 7, 8, 9, 12, 37, 38, 39] env' = [(0, v0), (6, v6), (7, .ref 1 (u1 + 1) 0 (R.length + 1)), (8, .ref 2 (u2 + 1) 0 (W.length + 1)), (9, .int .i64 i), (12, .ptr bb 0), (37, v37), (38, v38), (39, v39)] → ρ[1]? = some (.arr (u1 + 1) 60 6 (aggs ((R ++ [g]).map mp))) → WG ρ (fun id => id = 0 ∨ id = 1) 2 (u2 + 1) (ws ++ [w']) (W ++ [W.getD i [] ++ [(k : Int)]]) → (∀ id, id < τ.length → id ≠ 1 → id ≠ 2 → ρ[id]? = τ[id]?) → Q .normal env' ρ) :
    vT Tryz.prog k158_t0 Q env τ := by
  have hτ1 := (List.getElem?_eq_some_iff.1 h1).1
  have hτ2 := (List.getElem?_eq_some_iff.1 hW.out).1
  have hτb := (List.getElem?_eq_some_iff.1 hb).1
  obtain ⟨σ, hσ⟩ : ∃ σ, σ = τ.set 1 (.arr (u1 + 1) 60 6 (aggs ((R ++ [g]).map mp))) := ⟨_, rfl⟩
  have hl : σ.length = τ.length := by rw [hσ, List.length_set]
  have s1 : σ[1]? = some (.arr (u1 + 1) 60 6 (aggs ((R ++ [g]).map mp))) := by rw [hσ]; exact List.getElem?_set_self hτ1
  have sk : ∀ id, id ≠ 1 → σ[id]? = τ[id]? := fun id h => by rw [hσ, List.getElem?_set_ne (Ne.symm h)]
  have sb : σ[bb]? = some (.box (ints (mp g))) := by rw [sk bb (by omega)]; exact hb
  have hWs : WG σ (fun id => id = 0 ∨ id = 1) 2 u2 ws W := hW.keep (fun id _ hA => sk id fun e => hA (.inr e)) (by simp)
  have hWo := hW.out
  have hWso := hWs.out
  have hwl := hW.len
  obtain ⟨w, hwi, hWd⟩ := hWs.cell (i := i) (by omega)
  have hwcs := hWd.cs
  have hWi : W[i].length + 1 ≤ W.length := hw _ (List.getElem_mem _)
  have hgd : W.getD i [] = W[i] := by rw [List.getD_eq_getElem?_getD, List.getElem?_eq_getElem (by omega)]; rfl
  rw [hgd] at hQ
  clear hgd
  generalize W[i]'(by omega) = wi at hWd hWi hQ
  have t6 : List.take 6 (mp g) = mp g := take6 h6g
  have tR : List.take R.length (R.map mp) = R.map mp := List.take_of_length_le (by rw [List.length_map]; exact Nat.le_refl _)
  have tRg : R.map mp ++ [mp g] = (R ++ [g]).map mp := by simp
  have hilg : (ints (mp g)).length = 6 := by rw [ints_length, h6g]
  have hp1 : ∀ K : PV → Heap → Prop, K (.ref 1 (u1 + 1) 0 (R.length + 1)) σ → aApp 60 6 (.ref 1 u1 0 R.length) (.list [.agg (ints (mp g))]) τ K := fun K hK => by
    try simp only [h1, aggs_length, List.length_map, t6, tR, tRg, OpK_eq, HKv, h6g, take6, List.drop_zero, Int.cast_ofNat_Int, go_sem, ↓reduceIte, Nat.reduceEqDiff, Nat.reduceAdd, Nat.reduceMul, Nat.reduceLeDiff, Nat.reduceLT, Int.reduceLE, Int.reduceLT, reduceCtorEq]
    exact ⟨⟨Nat.le_refl _, by omega⟩, by rw [← hσ]; exact hK⟩
  have hpush : ∀ (c : AObj) (w' : PV), Wd (σ ++ [c]) (fun id => (id = 0 ∨ id = 1) ∨ id = 2) w' (wi ++ [(k : Int)]) → ∀ K' : PV → Heap → Prop,
      (∀ ρ, ρ[1]? = some (.arr (u1 + 1) 60 6 (aggs ((R ++ [g]).map mp))) → WG ρ (fun id => id = 0 ∨ id = 1) 2 (u2 + 1) (ws ++ [w']) (W ++ [wi ++ [(k : Int)]]) → (∀ id, id < τ.length → id ≠ 1 → id ≠ 2 → ρ[id]? = τ[id]?) → K' (.ref 2 (u2 + 1) 0 (W.length + 1)) ρ) →
      aApp 27 1 (.ref 2 u2 0 W.length) (.list [w']) (σ ++ [c]) K' := fun c w' hw' K' hK' => by
    have hG : WG (σ ++ [c]) (fun id => id = 0 ∨ id = 1) 2 u2 ws W := hWs.keep (fun id hid _ => List.getElem?_append_left hid) (by simp)
    refine hG.push hw' (by omega) fun hQ => hK' _ ?_ hQ fun id hid n1 n2 => ?_
    · rw [List.getElem?_set_ne (by decide), List.getElem?_append_left (by omega)]; exact s1
    · rw [List.getElem?_set_ne (Ne.symm n2), List.getElem?_append_left (by omega)]; exact sk id n1
  have hwd1 : Wd (σ ++ [.arr 2 2 1 (ints (wi ++ [(k : Int)]))]) (fun id => (id = 0 ∨ id = 1) ∨ id = 2) (.ref σ.length 2 0 (wi.length + 1)) (wi ++ [(k : Int)]) := by
    have e : wi.length + 1 = (wi ++ [(k : Int)]).length := by simp
    rw [e]
    exact .inr ⟨_, 2, rfl, by simp, fun h => by rcases h with (h | h) | h <;> omega⟩
  have hwd0 : wi = [] → Wd (σ ++ [.arr 0 2 1 [.int .i64 k]]) (fun id => (id = 0 ∨ id = 1) ∨ id = 2) (.ref σ.length 0 0 1) (wi ++ [(k : Int)]) := fun h0 => by
    rw [h0]
    exact .inr ⟨_, 0, rfl, by simp [ints], fun h => by rcases h with (h | h) | h <;> omega⟩
  have hgb : ∀ (s : Heap) (a : AObj), (s ++ [a])[s.length]? = some a := fun s a => by simp
  have hsb : ∀ (s : Heap) (a b : AObj), (s ++ [a]).set s.length b = s ++ [b] := fun s a b => by simp [List.set_append_right]
  have hpR : ∀ (c : AObj) (w' : PV), Wd (σ ++ [c]) (fun id => (id = 0 ∨ id = 1) ∨ id = 2) w' (wi ++ [(k : Int)]) → ∀ K' : PV → Heap → Prop,
      (∀ ρ, ρ[1]? = some (.arr (u1 + 1) 60 6 (aggs ((R ++ [g]).map mp))) → WG ρ (fun id => id = 0 ∨ id = 1) 2 (u2 + 1) (ws ++ [w']) (W ++ [wi ++ [(k : Int)]]) → (∀ id, id < τ.length → id ≠ 1 → id ≠ 2 → ρ[id]? = τ[id]?) → K' (.ref 2 (u2 + 1) 0 (W.length + 1)) ρ) →
      AppR 27 1 2 u2 0 W.length (.list [w']) (σ ++ [c]) K' (σ ++ [c])[2]? := fun c w' hw' K' hK' => by
    rw [← aApp_ref]
    exact hpush c w' hw' K' hK'
  have hld : ∀ P : PV → Prop, P w → (i < ws.length ∧ ∀ x, ws[i]? = some x → 0 < x.cs.length ∧ ∀ c, x.cs[0]? = some c → P c) := fun P hP => by
    refine ⟨by omega, fun x hx => ?_⟩
    rw [hwi] at hx; cases hx
    rw [hwcs.1]
    exact ⟨by simp, fun q hq => by simp only [List.getElem?_cons_zero, Option.some.injEq] at hq; subst hq; exact hP⟩
  generalize hv7 : PV.ref 1 u1 0 R.length = v7 at *
  unfold k158_t0
  repeat' (first
    | refine Eq.mpr (vT_alt _ _) ⟨?_, ?_⟩
    | refine hp1 _ ?_
    | refine hld _ ?_
    | (refine ⟨⟨by omega, by omega⟩, ?_⟩)
    | simp only [e7, e8, e9, e10, e12, hb, sb, hilg, h6g, t6, hWso, hWo, OpK_eq, HKv, take6, List.drop_zero, Int.cast_ofNat_Int, go_sem, ↓reduceIte, Nat.reduceEqDiff, Nat.reduceAdd, Nat.reduceMul, Nat.reduceLeDiff, Nat.reduceLT, Int.reduceLE, Int.reduceLT, reduceCtorEq])
  all_goals (refine ACall.lend (p51P wi (by omega)) (.cons hWd.imm (.nil _)) fun v s hv => ?_)
  all_goals (rcases hv with ⟨rfl, rfl⟩ | ⟨hl0, rfl, rfl⟩)
  all_goals (first | refine ⟨⟨free_ref _ _ _ _, Free.ints _ _ _ _⟩, ?_⟩ | refine ⟨⟨Plain.nils.fr, Free.nil⟩, ?_⟩)
  all_goals (try simp only [OpK_eq, HKv, ren_ref, ren_arr, ren_ints, Nat.zero_add, hgb, hsb, take6, List.drop_zero, Int.cast_ofNat_Int, go_sem, ↓reduceIte, Nat.reduceEqDiff, Nat.reduceAdd, Nat.reduceMul, Nat.reduceLeDiff, Nat.reduceLT, Int.reduceLE, Int.reduceLT, reduceCtorEq] )
  all_goals (first | refine ⟨⟨Nat.le_refl _, by omega⟩, hpR _ _ hwd1 _ fun ρ q1 q2 q3 => ?_⟩ | refine hpR _ _ (hwd0 hl0) _ fun ρ q1 q2 q3 => ?_)
  all_goals (try simp only [OpK_eq, HKv, take6, List.drop_zero, Int.cast_ofNat_Int, go_sem, ↓reduceIte, Nat.reduceEqDiff, Nat.reduceAdd, Nat.reduceMul, Nat.reduceLeDiff, Nat.reduceLT, Int.reduceLE, Int.reduceLT, reduceCtorEq] )
  all_goals exact hQ _ _ _ (by simp [keep, e0, e6, e9, e12, e37, e38, e39]) q1 q2 q3
end Go.Proofs.YthbbjbfbeaiphaaGreat
end
section
/- compareSets in the machine's own terms. -/
namespace Go.Proofs.YthbbjbfbeaiphaaGreat
open Go.RowKit Go.Shelf
set_option linter.unusedVariables false
set_option linter.unusedSimpArgs false
attribute [local go_sem] Oper.semAt_some
def cI (x y : Int) : Int := if x < y then -1 else if y < x then 1 else 0
/-- How slices.Compare compares. -/
def slc : List Int → List Int → Int
  | [], [] => 0
  | [], _ :: _ => -1
  | _ :: _, [] => 1
  | x :: xs, y :: ys => if x < y then -1 else if y < x then 1 else slc xs ys
theorem slc_drop {xs ys : List Int} {k : Nat} (h1 : k < xs.length) (h2 : k < ys.length) : slc (xs.drop k) (ys.drop k) = if (xs[k]?.getD 0) < (ys[k]?.getD 0) then -1 else if (ys[k]?.getD 0) < (xs[k]?.getD 0) then 1 else slc (xs.drop (k + 1)) (ys.drop (k + 1)) := by
  rw [List.drop_eq_getElem_cons h1, List.drop_eq_getElem_cons h2, slc]
  simp [h1, h2]
theorem slc_short {xs ys : List Int} {k : Nat} (h1 : k < xs.length) (h2 : ys.length ≤ k) : slc (xs.drop k) (ys.drop k) = 1 := by
  rw [List.drop_eq_getElem_cons h1, List.drop_of_length_le h2, slc]
theorem slc_end (xs ys : List Int) : slc (xs.drop xs.length) (ys.drop xs.length) = if xs.length < ys.length then -1 else 0 := by
  rw [List.drop_length]
  split
  · rename_i h; rw [List.drop_eq_getElem_cons h, slc]
  · rename_i h; rw [List.drop_of_length_le (by omega), slc]
def orV (u v : Int) : Int := if u = 0 then v else u
theorem orV_ne {u v : Int} (h : u ≠ 0) : orV u v = u := if_neg h
theorem orV_zero (v : Int) : orV 0 v = v := rfl
set_option maxHeartbeats 1000000 in
theorem nan64_in (F : Fence) (n : Nat) (h : F.fn 208) (hro : F.round = none) (x : Int) (w : World) : CallsIn F n Tryz.prog 208 #[.int .i64 x] w fun e w' => e = .returned (.bool false) ∧ w' = w := by
  refine callsIn_of_wp Tryz.func208 rfl h ?_ hro
  simp only [Tryz.ntmps208, List.size_toArray, List.length_cons, List.length_nil, Nat.reduceAdd, Nat.reduceSub, Array.replicate_succ, Array.replicate_zero, List.push_toArray, List.append_toArray, List.nil_append, List.cons_append]
  gi_wp2
  go_ret
  exact ⟨by simp, rfl⟩
set_option maxHeartbeats 1000000 in
theorem cmp64_in (F : Fence) (n : Nat) (h : F.fn 184) (h2 : F.fn 208) (hro : F.round = none) (hn : 1 ≤ n) (x y : Int) (w : World) : CallsIn F n Tryz.prog 184 #[.int .i64 x, .int .i64 y] w fun e w' => e = .returned (.int .i64 (cI x y)) ∧ w' = w := by
  refine callsIn_of_wp Tryz.func184 rfl h ?_ hro
  simp only [Tryz.ntmps184, List.size_toArray, List.length_cons, List.length_nil, Nat.reduceAdd, Nat.reduceSub, Array.replicate_succ, Array.replicate_zero, List.push_toArray, List.append_toArray, List.nil_append, List.cons_append]
  gi_wp2_with (gi_at_call 208; refine (nan64_in F (n - 1) h2 hro _ _).mono ?_; rintro e w' ⟨rfl, rfl⟩)
  all_goals go_ret
  all_goals (refine ⟨?_, rfl⟩; unfold cI; (repeat' split) <;> first | rfl | omega)
set_option maxRecDepth 100000 in
set_option maxHeartbeats 2000000 in
theorem slc_in (F : Fence) (n : Nat) (h : F.fn 149) (h1 : F.fn 184) (h2 : F.fn 208) (hro : F.round = none) (hn : 2 ≤ n) (b1 o1 c1 b2 o2 c2 : Nat) (xs ys : List Int) (hx : xs.length ≤ 1000000) (hy : ys.length ≤ 1000000) (w : World)
    (hc1 : ∀ j, j < xs.length → w.cell? ⟨b1, o1 + j, none⟩ = some (.int .i64 (xs[j]?.getD 0))) (hc2 : ∀ j, j < ys.length → w.cell? ⟨b2, o2 + j, none⟩ = some (.int .i64 (ys[j]?.getD 0))) :
    CallsIn F n Tryz.prog 149 #[.slice (some ⟨b1, o1, none⟩) xs.length c1, .slice (some ⟨b2, o2, none⟩) ys.length c2] w fun e w' => e = .returned (.int .i64 (slc xs ys)) ∧ w' = w := by
  have h3 : 1 ≤ n - 1 := by omega
  have h4 : 1 ≤ n := by omega
  refine callsIn_of_wp Tryz.func149 rfl h ?_ hro
  simp only [Tryz.ntmps149, List.size_toArray, List.length_cons, List.length_nil, Nat.reduceAdd, Nat.reduceSub, Array.replicate_succ, Array.replicate_zero, List.push_toArray, List.append_toArray, List.nil_append, List.cons_append]
  gi_wp2
  gi_loopw [11] (fun i wr => ∃ k : Nat, k ≤ xs.length ∧ i = .int .i64 k ∧ slc (xs.drop k) (ys.drop k) = slc xs ys ∧ wr = w)
    (fun i _ => xs.length - (intOf i).toNat)
  case atStart => exact ⟨0, Nat.zero_le _, rfl, rfl, rfl⟩
  case round =>
    obtain ⟨k, hk, rfl, hs, rfl⟩ := hrel
    have hx1 : k < xs.length → wr.cell? ⟨b1, o1 + k, none⟩ = some (.int .i64 (xs[k]?.getD 0)) := hc1 k
    have hy1 : k < ys.length → wr.cell? ⟨b2, o2 + k, none⟩ = some (.int .i64 (ys[k]?.getD 0)) := hc2 k
    by_cases hlt : k < xs.length
    · have hx2 := hx1 hlt
      by_cases hlt2 : k < ys.length
      · have hy2 := hy1 hlt2
        have hd := slc_drop hlt hlt2
        rw [hs] at hd
        clear hs
        gi_wp2_with (gi_at_call 184; refine (cmp64_in F (n - 1) h1 h2 hro h3 _ _ _).mono ?_; rintro e w' ⟨rfl, rfl⟩)
        · have hb : (cI xs[k] ys[k] != 0) = true := by assumption
          have hne : ¬ cI xs[k] ys[k] = 0 := by simpa using hb
          go_ret
          refine ⟨?_, rfl⟩
          show Ending.returned (Value.int .i64 (cI xs[k] ys[k])) = _
          rw [hd]
          simp only [List.getElem?_eq_getElem hlt, List.getElem?_eq_getElem hlt2, Option.getD_some]
          unfold cI at hne ⊢
          (repeat' split) <;> first | rfl | omega | (simp_all)
        · have hb : (cI xs[k] ys[k] != 0) = false := by assumption
          have he : cI xs[k] ys[k] = 0 := by simpa using hb
          refine ⟨⟨k + 1, by omega, by simp, ?_, trivial⟩, by simp [intOf]; omega⟩
          rw [hd]
          simp only [List.getElem?_eq_getElem hlt, List.getElem?_eq_getElem hlt2, Option.getD_some]
          unfold cI at he
          split at he
          · cases he
          · split at he
            · cases he
            · rename_i q1 q2
              rw [if_neg q1, if_neg q2]
      · have hd := slc_short hlt (Nat.le_of_not_lt hlt2)
        rw [hs] at hd
        clear hs
        gi_wp2
        go_ret
        exact ⟨by show Ending.returned (Value.int .i64 1) = _; rw [hd], rfl⟩
    · obtain rfl : k = xs.length := by omega
      rw [slc_end] at hs
      gi_wp2
      all_goals go_ret
      all_goals (refine ⟨?_, rfl⟩; rw [← hs]; split <;> first | rfl | omega)
set_option maxHeartbeats 2000000 in
theorem or_in (F : Fence) (n : Nat) (h : F.fn 147) (hro : F.round = none) (b : Nat) (u v : Int) (w : World) (hu : w.cell? ⟨b, 0, none⟩ = some (.int .i64 u)) (hv : w.cell? ⟨b, 1, none⟩ = some (.int .i64 v)) :
    CallsIn F n Tryz.prog 147 #[.slice (some ⟨b, 0, none⟩) 2 2] w fun e w' => e = .returned (.int .i64 (orV u v)) ∧ w' = w := by
  refine callsIn_of_wp Tryz.func147 rfl h ?_ hro
  simp only [Tryz.ntmps147, List.size_toArray, List.length_cons, List.length_nil, Nat.reduceAdd, Nat.reduceSub, Array.replicate_succ, Array.replicate_zero, List.push_toArray, List.append_toArray, List.nil_append, List.cons_append]
  gi_wp2
  gi_loopw [8] (fun i wr => ∃ k : Nat, k ≤ 2 ∧ i = .int .i64 k ∧ (1 ≤ k → u = 0) ∧ (2 ≤ k → v = 0) ∧ wr = w)
    (fun i _ => 2 - (intOf i).toNat)
  case atStart => exact ⟨0, Nat.zero_le _, rfl, fun h => by omega, fun h => by omega, rfl⟩
  case round =>
    obtain ⟨k, hk, rfl, hk1, hk2, rfl⟩ := hrel
    have h012 : k = 0 ∨ k = 1 ∨ k = 2 := by omega
    rcases h012 with rfl | rfl | rfl
    · gi_wp2
      · have hb : (u != 0) = true := by assumption
        have hne : u ≠ 0 := by simpa using hb
        go_ret
        exact ⟨by show Ending.returned (Value.int .i64 u) = _; rw [orV_ne hne], rfl⟩
      · have hb : (u != 0) = false := by assumption
        have he : u = 0 := by simpa using hb
        exact ⟨⟨1, by omega, by simp, fun _ => he, fun h => by omega, trivial⟩, by simp [intOf]⟩
    · have h0 := hk1 (Nat.le_refl _)
      subst h0
      gi_wp2
      · go_ret
        exact ⟨by show Ending.returned (Value.int .i64 v) = _; rw [orV_zero], rfl⟩
      · have hb : (v != 0) = false := by assumption
        have he : v = 0 := by simpa using hb
        exact ⟨⟨2, by omega, by simp, fun _ => by trivial, fun _ => he, trivial⟩, by simp [intOf]⟩
    · have h0 := hk1 (by omega)
      have h1 := hk2 (by omega)
      subst h0; subst h1
      gi_wp2
      go_ret
      exact ⟨rfl, rfl⟩
theorem cell_two (w : World) (a b : Value) (t : TypeId) : (w.alloc (.cells #[a, b] t)).cell? ⟨w.heap.size, 0, none⟩ = some a ∧ (w.alloc (.cells #[a, b] t)).cell? ⟨w.heap.size, 1, none⟩ = some b := by
  have h := World.alloc_heap_new w (.cells #[a, b] t)
  constructor <;> (unfold World.cell?; rw [h]; rfl)
end Go.Proofs.YthbbjbfbeaiphaaGreat
end
section
/- slices.SortFunc at rows: in the machine's own terms. -/
namespace Go.Proofs
open Go.Shelf Go.RowKit Go.Lib Go.Sort
shelf_lay_g SlLaysF.n6 Slsf 6 at Tryz 93 as YthbbjbfbeaiphaaGreat.sortRows
end Go.Proofs
namespace Go.Proofs.YthbbjbfbeaiphaaGreat
open Go.Shelf Go.RowKit Go.Lib Go.Sort
set_option linter.unusedVariables false
set_option linter.unusedSimpArgs false
theorem slc_self : ∀ xs, slc xs xs = 0
  | [] => rfl
  | x :: xs => by rw [slc, if_neg (by omega), if_neg (by omega)]; exact slc_self xs
theorem slc_anti : ∀ xs ys, slc ys xs = - slc xs ys
  | [], [] => rfl
  | [], _ :: _ => rfl
  | _ :: _, [] => rfl
  | x :: xs, y :: ys => by
    have := slc_anti xs ys
    rw [slc, slc]
    (repeat' split) <;> omega
theorem slc_trans : ∀ {xs ys zs}, slc xs ys ≤ 0 → slc ys zs ≤ 0 → slc xs zs ≤ 0
  | [], _, [], _, _ => by simp [slc]
  | [], _, _ :: _, _, _ => by simp [slc]
  | _ :: _, [], _, h, _ => by simp [slc] at h
  | _ :: _, _ :: _, [], _, h => by simp [slc] at h
  | x :: xs, y :: ys, z :: zs, h1, h2 => by
    rw [slc] at h1 h2 ⊢
    split at h1
    · split at h2
      · rw [if_pos (by omega)]; omega
      · split at h2
        · omega
        · rw [if_pos (by omega)]; omega
    · split at h1
      · omega
      · split at h2
        · rw [if_pos (by omega)]; omega
        · split at h2
          · omega
          · rw [if_neg (by omega), if_neg (by omega)]
            exact slc_trans h1 h2
section
variable {α : Type} [Inhabited α] (enc : α → Value) {w : World} {g n : Nat} {os : Array Obj}
theorem sorted_heap {cur : Array Value} {e : TypeId} {fr : Nat × Nat} (d : Array α) (hb : w.heap[g]? = some (.cells cur e fr)) : (sortWorld enc w g 0 n d os).heap[g]? = some (.cells (putCells enc 0 d cur) e fr) := by
  have hg : g < w.heap.size := (Array.getElem?_eq_some_iff.1 hb).1
  unfold sortWorld
  rw [heap_grow_old _ _ (by simpa using hg)]
  simp [putRow, mapBlock, Sort.ahead, Array.getElem?_modify, hb, onCells]
theorem sorted_other (d : Array α) {k : Nat} (hk : k < w.heap.size) (hne : k ≠ g) : (sortWorld enc w g 0 n d os).heap[k]? = w.heap[k]? := by
  unfold sortWorld
  rw [heap_grow_old _ _ (by simpa using hk)]
  have : g ≠ k := fun e => hne e.symm
  simp [putRow, mapBlock, Sort.ahead, Array.getElem?_modify, this]
theorem sorted_size (d : Array α) : w.heap.size ≤ (sortWorld enc w g 0 n d os).heap.size := by
  unfold sortWorld; simp
theorem sorted_take (cur : Array Value) (d : Array α) (h : d.size ≤ cur.size) : (putCells enc 0 d cur).toList.take d.size = d.toList.map enc := by
  apply List.ext_getElem?
  intro j
  by_cases hj : j < d.size
  · rw [List.getElem?_take_of_lt hj, Array.getElem?_toList]
    simp [putCells, hj, show j < cur.size by omega]
  · rw [List.getElem?_take_eq_none (by omega), List.getElem?_eq_none (by simp; omega)]
end
theorem sorted_drop {α : Type} [Inhabited α] (enc : α → Value) (cur : Array Value) (d : Array α) : (putCells enc 0 d cur).toList.drop d.size = cur.toList.drop d.size := by
  apply List.ext_getElem?
  intro j
  rw [List.getElem?_drop, List.getElem?_drop, Array.getElem?_toList, Array.getElem?_toList]
  have h : ¬ d.size + j < d.size := by omega
  simp [putCells, h]
end Go.Proofs.YthbbjbfbeaiphaaGreat
end
section
/- Map.compare and slices.SortFunc of maps, in the machine's own terms. -/
namespace Go.Proofs
open Go.Shelf Go.RowKit Go.Lib Go.Sort
shelf_lay_g SlLaysF0.n6 Slsf 6 at Tryz 190 as YthbbjbfbeaiphaaGreat.sortMaps
end Go.Proofs
namespace Go.Proofs.YthbbjbfbeaiphaaGreat
open Go.Shelf Go.RowKit Go.Lib Go.Sort
set_option linter.unusedVariables false
set_option linter.unusedSimpArgs false
attribute [local go_sem] Oper.semAt_some
theorem slc_or (x y : Int) (xs ys : List Int) : orV (cI x y) (slc xs ys) = slc (x :: xs) (y :: ys) := by
  rw [slc]
  unfold orV cI
  (repeat' split) <;> first | rfl | omega
theorem slc_swo {α : Type} (f : α → List Int) : SWO (ltOf fun x y => slc (f x) (f y)) where
  irrefl x := by
    dsimp only [ltOf]
    exact decide_eq_false (by rw [slc_self]; decide)
  trans x y z h1 h2 := by
    dsimp only [ltOf] at *
    rw [decide_eq_true_iff] at *
    have a1 := slc_anti (f y) (f z)
    have a2 := slc_anti (f x) (f z)
    refine Classical.byContradiction fun hn => ?_
    have h3 := slc_trans (xs := f z) (ys := f x) (zs := f y) (by omega) (by omega)
    omega
  ntrans x y z h1 h2 := by
    dsimp only [ltOf] at *
    rw [decide_eq_false_iff_not] at *
    have a1 := slc_anti (f x) (f y)
    have a2 := slc_anti (f y) (f z)
    have a3 := slc_anti (f x) (f z)
    have h3 := slc_trans (xs := f z) (ys := f y) (zs := f x) (by omega) (by omega)
    omega
theorem fm_idx {α : Type} {enc : α → List Value} {k : Nat} (hk : 0 < k) (he : ∀ x, (enc x).length = k) : ∀ (L : List α) (t : Nat), (L.flatMap enc)[t]? = (L[t / k]?).bind fun x => (enc x)[t % k]?
  | [], t => by simp
  | a :: L, t => by
    rw [List.flatMap_cons]
    by_cases h : t < k
    · rw [List.getElem?_append_left (by rw [he]; exact h), Nat.div_eq_of_lt h, Nat.mod_eq_of_lt h]; rfl
    · rw [List.getElem?_append_right (by rw [he]; omega), he, fm_idx hk he L (t - k)]
      have e1 : t / k = (t - k) / k + 1 := Nat.div_eq_sub_div hk (by omega)
      have e2 : t % k = (t - k) % k := Nat.mod_eq_sub_mod (by omega)
      rw [e1, e2]; rfl
theorem fm_flatK {α : Type} [Inhabited α] {enc : α → List Value} {k : Nat} (hk : 0 < k) (he : ∀ x, (enc x).length = k) (d : Array α) : (flatK enc k d).toList = d.toList.flatMap enc := by
  apply List.ext_getElem?
  intro t
  rw [fm_idx hk he]
  by_cases h : t < d.size * k
  · have h1 : t / k < d.size := (Nat.div_lt_iff_lt_mul hk).2 h
    have h2 : t % k < k := Nat.mod_lt _ hk
    have h3 : t < (flatK enc k d).size := by simpa using h
    have hg := get_flatK enc k d t h
    rw [getElem!_pos _ t h3] at hg
    have e1 : d.toList[t / k]? = some d[t / k] := by rw [Array.getElem?_toList, Array.getElem?_eq_getElem h1]
    rw [Array.getElem?_toList, Array.getElem?_eq_getElem h3, hg, e1]
    have e2 : d[t / k]! = d[t / k] := getElem!_pos d (t / k) h1
    rw [e2]
    show _ = (enc d[t / k])[t % k]?
    have h4 : t % k < (enc d[t / k]).length := by rw [he]; exact h2
    rw [List.getElem?_eq_getElem h4, getElem!_pos (enc d[t / k]) (t % k) h4]
  · have h1 : ¬ t / k < d.size := fun c => h ((Nat.div_lt_iff_lt_mul hk).1 c)
    rw [List.getElem?_eq_none (by simp; omega), List.getElem?_eq_none (by simp; omega)]; rfl
abbrev M6 := {l : List Int // l.length = 6}
instance : Inhabited M6 := ⟨⟨[0, 0, 0, 0, 0, 0], rfl⟩⟩
/-- A map's six cells. -/
def enc6 (x : M6) : List Value := x.1.map (Value.int .i64)
theorem enc6_len (x : M6) : (enc6 x).length = 6 := by rw [enc6, List.length_map, x.2]
theorem m6_out (x : M6) : ∃ a0 a1 a2 a3 a4 a5, x.1 = [a0, a1, a2, a3, a4, a5] := by
  obtain ⟨l, h⟩ := x
  match l, h with
  | [a0, a1, a2, a3, a4, a5], _ => exact ⟨a0, a1, a2, a3, a4, a5, rfl⟩
theorem cell_six (w w' : World) (a0 a1 a2 a3 a4 a5 : Int) (t : TypeId) (b : Nat) (h : w'.heap[b]? = some (.cells #[.int .i64 a0, .int .i64 a1, .int .i64 a2, .int .i64 a3, .int .i64 a4, .int .i64 a5] t (0, 0))) : ∀ j, j < 5 → w'.cell? ⟨b, 1 + j, none⟩ = some (.int .i64 (([a1, a2, a3, a4, a5] : List Int)[j]?.getD 0)) := fun j hj => by
  unfold World.cell?; rw [h]
  match j, hj with
  | 0, _ => rfl
  | 1, _ => rfl
  | 2, _ => rfl
  | 3, _ => rfl
  | 4, _ => rfl
theorem mixedW : Tryz.prog.follows .mixedOrders = true := by kernel_rfl
theorem heap_two1 (w : World) (x y : Obj) : ((w.alloc x).alloc y).heap[w.heap.size]? = some x := by
  rw [alloc_eq_grow, alloc_eq_grow, grow_grow]; show (w.heap ++ (#[x] ++ #[y]))[_]? = _; simp
theorem heap_two2 (w : World) (x y : Obj) : ((w.alloc x).alloc y).heap[w.heap.size + 1]? = some y := by
  rw [alloc_eq_grow, alloc_eq_grow, grow_grow]; show (w.heap ++ (#[x] ++ #[y]))[_]? = _; simp
set_option maxRecDepth 100000 in
set_option maxHeartbeats 2000000 in
theorem mcmp_calls (a0 a1 a2 a3 a4 a5 b0 b1 b2 b3 b4 b5 : Int) (w : World) :
    Calls Tryz.prog 191 #[.agg #[.int .i64 a0, .int .i64 a1, .int .i64 a2, .int .i64 a3, .int .i64 a4, .int .i64 a5], .agg #[.int .i64 b0, .int .i64 b1, .int .i64 b2, .int .i64 b3, .int .i64 b4, .int .i64 b5]] w fun e w' => e = .returned (.int .i64 (slc [a0, a1, a2, a3, a4, a5] [b0, b1, b2, b3, b4, b5])) ∧ ∃ q os, w' = grow (w.drewN q) os := by
  have c1 : ∀ w', Calls Tryz.prog 184 #[.int .i64 a0, .int .i64 b0] w' fun e w'' => e = .returned (.int .i64 (cI a0 b0)) ∧ w'' = w' := fun w' => (callsIn_wide (n := 1)).1 (cmp64_in Fence.wide 1 trivial trivial rfl (by decide) a0 b0 w')
  rw [← slc_or]
  go_enter Tryz.func191, Tryz.ntmps191
  go_wp2_with fail
  have g1 := heap_two1 w (Obj.cells #[.int .i64 a0, .int .i64 a1, .int .i64 a2, .int .i64 a3, .int .i64 a4, .int .i64 a5] 60) (Obj.cells #[.int .i64 b0, .int .i64 b1, .int .i64 b2, .int .i64 b3, .int .i64 b4, .int .i64 b5] 60)
  have g2 := heap_two2 w (Obj.cells #[.int .i64 a0, .int .i64 a1, .int .i64 a2, .int .i64 a3, .int .i64 a4, .int .i64 a5] 60) (Obj.cells #[.int .i64 b0, .int .i64 b1, .int .i64 b2, .int .i64 b3, .int .i64 b4, .int .i64 b5] 60)
  have gW : ∃ os, ((w.alloc (.cells #[.int .i64 a0, .int .i64 a1, .int .i64 a2, .int .i64 a3, .int .i64 a4, .int .i64 a5] 60)).alloc (.cells #[.int .i64 b0, .int .i64 b1, .int .i64 b2, .int .i64 b3, .int .i64 b4, .int .i64 b5] 60)) = grow w os := ⟨_, by rw [alloc_eq_grow, alloc_eq_grow, grow_grow]⟩
  generalize ((w.alloc (.cells #[.int .i64 a0, .int .i64 a1, .int .i64 a2, .int .i64 a3, .int .i64 a4, .int .i64 a5] 60)).alloc (.cells #[.int .i64 b0, .int .i64 b1, .int .i64 b2, .int .i64 b3, .int .i64 b4, .int .i64 b5] 60)) = wq at *
  obtain ⟨osq, hq⟩ := gW
  refine wp_region_still_tail 10 mixedW (by kernel_rfl) ?_
  simp only [List.take_succ_cons, List.take_zero, List.drop_succ_cons, List.drop_zero]
  change wpStill _ _ wq.drew _ _ _
  have g1' : wq.drew.heap[w.heap.size]? = _ := g1
  have g2' : wq.drew.heap[w.heap.size + 1]? = _ := g2
  have f1 : wq.drew.cell? ⟨w.heap.size, 0, none⟩ = some (.int .i64 a0) := by unfold World.cell?; rw [g1']; rfl
  have f2 : wq.drew.cell? ⟨w.heap.size + 1, 0, none⟩ = some (.int .i64 b0) := by unfold World.cell?; rw [g2']; rfl
  have c2 := (callsIn_wide (n := 2)).1 (slc_in Fence.wide 2 trivial trivial trivial rfl (by decide) w.heap.size 1 5 (w.heap.size + 1) 1 5 [a1, a2, a3, a4, a5] [b1, b2, b3, b4, b5] (by simp) (by simp) wq.drew (cell_six wq wq.drew a0 a1 a2 a3 a4 a5 60 _ g1') (cell_six wq wq.drew b0 b1 b2 b3 b4 b5 60 _ g2'))
  have hq' : ∃ os, wq = grow w os := ⟨osq, hq⟩
  clear hq g1 g2
  generalize wq.drew = wd at *
  repeat still_step
  still_call (c1 _)
  repeat still_step
  still_call c2
  refine wpStill_nil ?_
  go_wp2_with fail
  refine ((callsIn_wide (n := 1)).1 (or_in Fence.wide 1 trivial rfl wq.heap.size (cI a0 b0) (slc [a1, a2, a3, a4, a5] [b1, b2, b3, b4, b5]) (wq.alloc (.cells #[.int .i64 (cI a0 b0), .int .i64 (slc [a1, a2, a3, a4, a5] [b1, b2, b3, b4, b5])] 3)).drew (cell_two wq _ _ _).1 (cell_two wq _ _ _).2)).mono ?_
  rintro e w' ⟨rfl, rfl⟩
  go_wp2_with fail
  go_ret
  obtain ⟨os, rfl⟩ := hq'
  exact ⟨rfl, 1, _, by rw [alloc_eq_grow, grow_grow]; rfl⟩
theorem sortMaps_world {w : World} {g cap : Nat} {e : TypeId} {cur : Array Value} (hb : w.heap[g]? = some (.cells cur e (0, 0))) (ds : List M6) (hn : ds.length ≤ 1000) (hcur : cur.toList.take (ds.length * 6) = ds.flatMap enc6) :
    Calls Tryz.prog 190 #[.slice (some ⟨g, 0, none⟩) ds.length cap, .func (.func 191) #[] #[]] w fun en w' => en = .returned (.tuple #[]) ∧ ∃ r : List M6, r.Perm ds ∧ r.Pairwise (fun a b => slc a.1 b.1 ≤ 0) ∧
      (∃ cur', w'.heap[g]? = some (.cells cur' e (0, 0)) ∧ cur'.size = cur.size ∧ cur'.toList.take (ds.length * 6) = r.flatMap enc6 ∧ cur'.toList.drop (ds.length * 6) = cur.toList.drop (ds.length * 6)) ∧ (∀ k, k < w.heap.size → k ≠ g → w'.heap[k]? = w.heap[k]?) ∧ w.heap.size ≤ w'.heap.size ∧ w'.os = w.os ∧ w'.tape = w.tape ∧ w'.output = w.output := by
  have hds : ds.toArray.size = ds.length := by simp
  have hfm : (ds.flatMap enc6).length = ds.length * 6 := by
    clear hcur hds
    induction ds with
    | nil => rfl
    | cons a l ih =>
      have := ih (by simp at hn; omega) 
      rw [List.flatMap_cons, List.length_append, enc6_len, this, List.length_cons]; omega
  have hcs : ds.length * 6 ≤ cur.size := by
    have := congrArg List.length hcur
    rw [List.length_take, hfm] at this
    simp at this; omega
  have hfl : (flatK enc6 6 ds.toArray).toList = ds.flatMap enc6 := fm_flatK (by decide) enc6_len ds.toArray
  have hone : ∀ x, ∀ v ∈ enc6 x, v.oneCell' = true := fun x v hv => by
    simp only [enc6, List.mem_map] at hv
    obtain ⟨y, _, rfl⟩ := hv; rfl
  have hH : HoldsK enc6 6 w g 0 ds.toArray := fun j hj => by
    rw [size_flatK, hds] at hj
    refine ⟨?_, by simp [World.frozen?, hb]⟩
    have h3 : (cur.toList.take (ds.length * 6))[j]? = (flatK enc6 6 ds.toArray).toList[j]? := by rw [hcur, hfl]
    rw [List.getElem?_take_of_lt hj, Array.getElem?_toList, Array.getElem?_toList] at h3
    have hj2 : j < (flatK enc6 6 ds.toArray).size := by rw [size_flatK, hds]; exact hj
    simp only [World.cell?, hb, Nat.zero_add]
    simp only [Option.isSome_none, Bool.false_eq_true, if_false]
    rw [h3, Array.getElem?_eq_getElem hj2]
    show _ = some (flatK enc6 6 ds.toArray)[j]!
    rw [getElem!_pos (flatK enc6 6 ds.toArray) j hj2]
  have hcmp : CmpLays Tryz.prog 191 #[] enc6 6 (fun x y => slc x.1 y.1) g 0 ds.toArray.size w := fun m os dk hdk x y => by
    obtain ⟨a0, a1, a2, a3, a4, a5, ex⟩ := m6_out x
    obtain ⟨b0, b1, b2, b3, b4, b5, ey⟩ := m6_out y
    have e1 : enc6 x = [.int .i64 a0, .int .i64 a1, .int .i64 a2, .int .i64 a3, .int .i64 a4, .int .i64 a5] := by rw [enc6, ex]; rfl
    have e2 : enc6 y = [.int .i64 b0, .int .i64 b1, .int .i64 b2, .int .i64 b3, .int .i64 b4, .int .i64 b5] := by rw [enc6, ey]; rfl
    show Calls Tryz.prog 191 #[.agg (enc6 x).toArray, .agg (enc6 y).toArray] _ _
    rw [e1, e2]
    refine (mcmp_calls a0 a1 a2 a3 a4 a5 b0 b1 b2 b3 b4 b5 _).mono ?_
    rintro en w' ⟨rfl, q, os', rfl⟩
    exact ⟨by show _ = Ending.returned (Value.int .i64 (slc x.1 y.1)); rw [ex, ey], q, os', rfl⟩
  have hcon := AnyQ.slices_SortFunc sortMaps 6 Tryz.isAgg60 Tryz.sizeOf60 enc6 enc6_len hone _ (slc_swo fun x : M6 => x.1) 191 #[] g 0 cap ds.toArray w (enters_of Tryz.func191 (by kernel_rfl) rfl) hcmp hH (Array.getElem?_eq_some_iff.1 hb).1 (by rw [hds]; omega)
  rw [hds] at hcon
  change Calls Tryz.prog 190 _ _ _ at hcon
  refine hcon.mono ?_
  rintro en w' ⟨rfl, d', nn, os, ⟨hs, _, hp⟩, hS, rfl⟩
  rw [hds] at hs
  have ed' : d'.extract 0 ds.length = d' := by rw [← hs]; simp
  have ed : ds.toArray.extract 0 ds.length = ds.toArray := by
    have := Array.extract_size (xs := ds.toArray)
    rwa [hds] at this
  rw [ed', ed] at hp
  have hfs : (flatK enc6 6 d').size = ds.length * 6 := by rw [size_flatK, hs]
  have hfl' : (flatK enc6 6 d').toList = d'.toList.flatMap enc6 := fm_flatK (by decide) enc6_len d'
  have hcv : sortWorldK enc6 6 w g 0 nn d' os = sortWorld id w g 0 nn (flatK enc6 6 d') os := rfl
  rw [hcv]
  refine ⟨rfl, d'.toList, by simpa using hp, ?_, ⟨_, sorted_heap id (flatK enc6 6 d') hb, by simp [putCells], ?_, by rw [← hfs]; exact sorted_drop id cur _⟩, fun k hk hne => sorted_other id _ hk hne, sorted_size id _, rfl, rfl, rfl⟩
  · rw [List.pairwise_iff_getElem]
    intro i j hi hj hij
    have hj' : j < ds.length := by rw [← hs]; simpa using hj
    have h4 := hS i j (Nat.zero_le _) hij hj'
    have hgi : d'[i]! = d'.toList[i] := by rw [getElem!_pos d' i (by simpa using hi)]; simp
    have hgj : d'[j]! = d'.toList[j] := by rw [getElem!_pos d' j (by simpa using hj)]; simp
    rw [hgi, hgj] at h4
    have h5 := slc_anti d'.toList[i].1 d'.toList[j].1
    simp only [ltOf, decide_eq_false_iff_not] at h4
    omega
  · have := sorted_take id cur (flatK enc6 6 d') (by rw [hfs]; exact hcs)
    rw [hfs, hfl'] at this
    simpa using this
end Go.Proofs.YthbbjbfbeaiphaaGreat
end
section
/- slices.SortFunc at rows: over abstract values. -/
end
section
/- slices.SortFunc of maps, over abstract values. -/
namespace Go.Proofs.YthbbjbfbeaiphaaGreat
open Go.Kv
set_option linter.unusedVariables false
set_option linter.unusedSimpArgs false
attribute [local irreducible] ACall PCall KL
theorem rel_intsV {φ : Frz} {ι : List KLoc} {L : List Int} {ys : List Value} (h : RelL φ ι (ints L) ys) : ys = L.map (Value.int .i64) := by
  apply List.ext_getElem?
  intro i
  rw [List.getElem?_map]
  by_cases hi : i < L.length
  · have h1 : (ints L)[i]? = some (.int .i64 L[i]) := by simp [ints, hi]
    obtain ⟨v, hv, hR⟩ := h.get h1
    rw [hv, hR.int_inv]; simp [hi]
  · have := h.1
    rw [List.getElem?_eq_none (by rw [← this]; simpa [ints] using hi), List.getElem?_eq_none (by omega)]; rfl
theorem intsV_rel {φ : Frz} {ι : List KLoc} (L : List Int) : RelL φ ι (ints L) (L.map (Value.int .i64)) :=
  ⟨by simp [ints], fun i c v hc hv => by
    obtain ⟨x, hx, rfl⟩ := ints_get hc
    rw [List.getElem?_map, hx] at hv
    simp only [Option.map_some, Option.some.injEq] at hv
    subst hv; exact .int _ _⟩
theorem flat_aggsI : ∀ ms : List (List Int), flat (aggs ms) = ints ms.flatten
  | [] => rfl
  | m :: ms => by
    have := flat_aggsI ms
    simp only [aggs, List.map_cons, flat_cons, PV.cs, List.flatten_cons, ints, List.map_append] at this ⊢
    rw [this]
theorem enc6_flat : ∀ ds : List M6, ds.flatMap enc6 = ((ds.map Subtype.val).flatten).map (Value.int .i64)
  | [] => rfl
  | d :: ds => by
    rw [List.flatMap_cons, enc6_flat ds, List.map_cons, List.flatten_cons, List.map_append]; rfl
theorem m6_of : ∀ ms : List (List Int), (∀ m ∈ ms, m.length = 6) → ∃ ds : List M6, ds.map Subtype.val = ms
  | [], _ => ⟨[], rfl⟩
  | m :: ms, h => by
    obtain ⟨ds, hd⟩ := m6_of ms fun x hx => h x (List.mem_cons_of_mem _ hx)
    exact ⟨⟨m, h m (by simp)⟩ :: ds, by rw [List.map_cons, hd]⟩
theorem sort_maps {σ : Heap} {id ver : Nat} {e : TypeId} {ms : List (List Int)} (h6 : ∀ m ∈ ms, m.length = 6) (h0 : 0 < ms.length) (hn : ms.length ≤ 1000) (hid : σ[id]? = some (.arr ver e 6 (aggs ms))) {K : PV → Heap → Prop}
    (hK : ∀ r : List (List Int), r.Perm ms → r.Pairwise (fun a b => slc a b ≤ 0) → K (.tup []) (σ.set id (.arr ver e 6 (aggs r)))) :
    ACall Tryz.prog 190 [.ref id ver 0 ms.length, .fn (.func 191) [] []] σ K := by
  unfold ACall
  refine ⟨⟨Tryz.f190, Tryz.func190, by kernel_rfl, by kernel_rfl⟩, fun φ ι w vs hr ho => ?_⟩
  obtain ⟨ds, hds⟩ := m6_of ms h6
  have hdl : ds.length = ms.length := by rw [← hds, List.length_map]
  have hlt := (List.getElem?_eq_some_iff.1 hid).1
  have hltι : id < ι.length := by rw [ho.len]; exact hlt
  obtain ⟨l, hl⟩ : ∃ l, ι[id]? = some l := ⟨_, List.getElem?_eq_getElem hltι⟩
  have hobj := ho.obj id _ l hid hl
  have hal : (aggs ms).length = ms.length := aggs_length ms
  cases l with
  | dead => exact hobj.elim
  | box b => exact hobj.elim
  | arr ver' e' esz u =>
    simp only [ObjOK] at hobj
    obtain ⟨rfl, rfl, rfl, _, ys, hrow, hrel, hok, hcl⟩ := hobj
    rw [flat_aggsI] at hrel hok
    have hys := rel_intsV hrel
    rw [← hds, ← enc6_flat] at hys
    subst hys
    rw [hal] at hrow
    obtain ⟨v0, hv0, r0⟩ := hr.get (i := 0) rfl
    obtain ⟨v1, hv1, r1⟩ := hr.get (i := 1) rfl
    obtain ⟨x, y, rfl, hx, hy⟩ := r1.fn_inv
    have ex : x = [] := List.eq_nil_of_length_eq_zero hx.1.symm
    have ey : y = [] := List.eq_nil_of_length_eq_zero hy.1.symm
    subst ex; subst ey
    have hset : ∀ u', u' = u → ι.set id (.arr ver e 6 u') = ι := fun u' hu => by
      subst hu
      have := (List.getElem?_eq_some_iff.1 hl).2
      rw [← this]; exact List.set_getElem_self _
    cases r0 with
    | ref _ _ _ _ _ k e2 esz2 u2 hh ho' hk' hv' =>
      rw [hl] at hh
      cases hh
      rcases hv' rfl with ⟨g, n, cap, o, rfl, q1, q2, q3, q4⟩ | ⟨_, _, hz, _⟩
      rotate_left
      · omega
      rcases hrow.2 with ⟨hnil, _⟩ | ⟨g2, cap2, cur, heq, hg, hgb, c1, c2, c3, c4⟩
      · cases hnil
      cases heq
      obtain rfl := q4 rfl
      rw [Nat.sub_zero] at q2
      subst q2
      have ev : vs = [.slice (some ⟨g, 0, none⟩) ms.length cap, .func (.func 191) #[] #[]] := by
        have hvl := hr.1
        match vs, hvl, hv0, hv1 with
        | [a, c], _, h0, h1 => simp only [List.getElem?_cons_zero, Option.some.injEq] at h0; simp only [List.getElem?_cons_succ, List.getElem?_cons_zero, Option.some.injEq] at h1; rw [h0, h1]
      subst ev
      have hmain := sortMaps_world (cap := cap) hgb ds (by omega) (by rw [hdl]; exact c4)
      rw [hdl] at hmain
      refine hmain.mono ?_
      rintro en w' ⟨rfl, r, hp, hpw, ⟨cur', d1, d2, d3, d4⟩, hoth, hsz, e1, e2, e3⟩
      have hrl : (r.map Subtype.val).length = ms.length := by rw [List.length_map, hp.length_eq, hdl]
      have hr6 : ∀ m ∈ r.map Subtype.val, m.length = 6 := fun m hm => by
        obtain ⟨x, _, rfl⟩ := List.mem_map.1 hm
        exact x.2
      have hw : ∀ b, b < w.heap.size → (KLoc.arr ver e 6 (.slice (some ⟨g, 0, none⟩) ms.length cap)).block ≠ some b → w'.heap[b]? = w.heap[b]? := fun b hb hne => hoth b hb (fun e => hne (by rw [e]; rfl))
      have hob2 : ObjOK φ (ι.set id (.arr ver e 6 (.slice (some ⟨g, 0, none⟩) ms.length cap))) w' (.arr ver e 6 (aggs (r.map Subtype.val))) (.arr ver e 6 (.slice (some ⟨g, 0, none⟩) ms.length cap)) := by
        rw [hset _ rfl]
        refine ⟨rfl, rfl, rfl, by decide, r.flatMap enc6, ⟨?_, .inr ⟨g, cap, cur', by rw [aggs_length, hrl], Nat.zero_le _, d1, by rw [aggs_length, hrl]; exact c1, c2, by rw [d2]; exact c3, by rw [aggs_length, hrl]; exact d3⟩⟩, ?_, ?_, fun x hx => ?_⟩
        · rw [aggs_length, hrl, ← d3, List.length_take]
          have : ms.length * 6 ≤ cur'.size := by rw [d2, c3]; exact Nat.mul_le_mul_right 6 c1
          simp only [Array.length_toList]; omega
        · rw [flat_aggsI, enc6_flat]
          exact intsV_rel _
        · rw [flat_aggsI]; simp [ints, PV.ok]
        · simp only [aggs, List.mem_map] at hx
          obtain ⟨y, ⟨z, _, rfl⟩, rfl⟩ := hx
          show (ints z.1).length = 6
          rw [ints_length, z.2]
      obtain ⟨j1, j2⟩ := ho.upd hl (KLoc.le_refl _) hsz hw (fun b hb => .inl hb) (fun b hb => Nat.lt_of_lt_of_le (ho.lt id _ b hl hb) hsz) hob2
      refine ⟨.tup [], .tuple #[], φ, _, _, rfl, .tup [] [] rfl (by simp), Tr.upd _ hl j2 hsz hw (fun b hb => .inl hb) e1 e2 e3, j1, hK _ ?_ ?_⟩
      · rw [← hds]; exact hp.map _
      · exact List.pairwise_map.2 hpw
end Go.Proofs.YthbbjbfbeaiphaaGreat
end
section
/- newMonoid: what it finds, told by the list alone; the sorted list of the found. -/
namespace Go.Proofs.YthbbjbfbeaiphaaGreat
open Go.Kv
set_option linter.unusedVariables false
set_option linter.unusedSimpArgs false
attribute [local irreducible] ACall PCall KL
theorem slc_cmpL : ∀ (xs ys : List Int), xs.length = ys.length → slc xs ys = cmpL xs ys
  | [], [], _ => rfl
  | [], _ :: _, h => by simp at h
  | _ :: _, [], h => by simp at h
  | x :: xs, y :: ys, h => by
    rw [slc, cmpL, slc_cmpL xs ys (by simpa using h)]
theorem slc_mp {a b : List Nat} {n : Nat} (ha : Ok a n) (hb : Ok b n) (h : slc (mp a) (mp b) ≤ 0) : nbl n a ≤ nbl n b := by
  apply Classical.byContradiction
  intro hn
  have h1 := (ltM_nbl hb ha).2 (by omega)
  have e : slc (mp b) (mp a) = cmpL (b.map fun x : Nat => (x : Int)) (a.map fun x : Nat => (x : Int)) := by
    rw [slc_cmpL _ _ (by rw [ha.mp_len, hb.mp_len])]
    simp only [mp, mpN, cmpL, ha.len, hb.len, Int.lt_irrefl, if_false]
    exact cmpL_app _ _ _ (by simp [ha.len, hb.len])
  have h2 := of_decide_eq_true h1
  rw [← e] at h2
  have := slc_anti (mp a) (mp b)
  omega
/-- The sorted list of what is found. -/
theorem sorted_elS {n : Nat} {Q : List (List Nat)} {r : List (List Int)} (hQ : ∀ f ∈ Q, Ok f n) (hd : Q.Nodup) (hp : r.Perm (Q.map mp)) (hs : r.Pairwise fun a b => slc a b ≤ 0) : r = (elS n Q).map mp := by
  have hr : r = (r.map um).map mp := by
    rw [List.map_map]
    conv => lhs; rw [← List.map_id r]
    refine List.map_congr_left fun x hx => ?_
    obtain ⟨f, hf, rfl⟩ := List.mem_map.1 (hp.mem_iff.1 hx)
    show id (mp f) = mp (um (mp f))
    rw [um_mp]; rfl
  have hS : (r.map um).Perm Q := by
    have := hp.map um
    rw [List.map_map] at this
    have e : Q.map (um ∘ mp) = Q := by
      conv => rhs; rw [← List.map_id Q]
      exact List.map_congr_left fun f _ => um_mp f
    rwa [e] at this
  generalize r.map um = S at hr hS
  subst hr
  have hSO : ∀ f ∈ S, Ok f n := fun f hf => hQ f (hS.mem_iff.1 hf)
  have hSd : S.Nodup := hS.nodup_iff.2 hd
  have hSr : SrM n S := by
    refine ⟨hSO, ?_⟩
    rw [List.pairwise_map] at hs
    rw [List.nodup_iff_pairwise_ne] at hSd
    rw [List.pairwise_iff_getElem] at hs hSd ⊢
    intro i j hi hj hij
    have h1 := hSO _ (List.getElem_mem hi)
    have h2 := hSO _ (List.getElem_mem hj)
    have h3 := slc_mp h1 h2 (hs i j hi hj hij)
    have h4 := hSd i j hi hj hij
    have : nbl n S[i] ≠ nbl n S[j] := fun e => h4 (nbl_inj h1 h2 e)
    omega
  obtain ⟨e1, e2, e3⟩ := elS_ok hQ
  rw [srm_uniq hSr e1 fun f => by rw [hS.mem_iff, e2]]
theorem FdOk.nodup {n : Nat} {P : List Int} {Q : List (List Nat)} (h : FdOk n P Q) (hQ : ∀ f ∈ Q, Ok f n) : Q.Nodup := by
  rw [List.nodup_iff_pairwise_ne, List.pairwise_iff_getElem]
  intro i j hi hj hij e
  have h1 := (h.2.2 _ (hQ _ (List.getElem_mem hi))).1 i (List.getElem?_eq_getElem hi)
  have h2 := (h.2.2 _ (hQ _ (List.getElem_mem hi))).1 j (by rw [List.getElem?_eq_getElem hj, e])
  omega
/-- The words of the maps found behind k of the list. -/
def clW (fs : List (List Nat)) (m : List Nat) (Q : List (List Nat)) (V : List (List Int)) (i : Nat) : Nat → List (List Int)
  | 0 => V
  | k + 1 => match clA fs m Q k with
    | none => clW fs m Q V i k
    | some R => if mul m (fs.getD k []) ∈ R then clW fs m Q V i k else clW fs m Q V i k ++ [(clW fs m Q V i k).getD i [] ++ [(k : Int)]]
/-- The words of the maps found behind i maps. -/
def clV (fs : List (List Nat)) (n : Nat) : Nat → List (List Int)
  | 0 => [[]]
  | i + 1 => match clB fs n i with
    | none => []
    | some Q => match Q[i]? with
      | some m => clW fs m Q (clV fs n i) i fs.length
      | none => clV fs n i
/-- Their places, as they are found. -/
def fdP (Q : List (List Nat)) (P0 : List Int) : List Int := setP Q P0 Q.length
theorem setP_app {Q : List (List Nat)} {g : List Nat} {P : List Int} : ∀ k, k ≤ Q.length → setP (Q ++ [g]) P k = setP Q P k
  | 0, _ => rfl
  | k + 1, h => by
    rw [setP, setP, setP_app k (by omega)]
    congr 2
    rw [List.getD_eq_getElem?_getD, List.getD_eq_getElem?_getD, List.getElem?_append_left (by omega)]
theorem fdP_push (Q : List (List Nat)) (g : List Nat) (P0 : List Int) : (fdP Q P0).set (numK g 5) ((Q.length : Int) + 1) = fdP (Q ++ [g]) P0 := by
  unfold fdP
  rw [List.length_append, List.length_singleton, setP, setP_app _ (Nat.le_refl _)]
  congr 2
  rw [List.getD_eq_getElem?_getD, List.getElem?_append_right (Nat.le_refl _)]; simp
def P00 : List Int := List.replicate 3125 0
/-- The words, in the order of the elements. -/
def wdS (S : List (List Nat)) (P : List Int) (W : List (List Int)) (y : Nat) : List (List Int) := (S.take y).map fun f => W.getD (P.getD (numK f 5) 0 - 1).toNat []
theorem wdS_succ {S : List (List Nat)} {P : List Int} {W : List (List Int)} {y : Nat} (h : y < S.length) : wdS S P W (y + 1) = wdS S P W y ++ [W.getD (P.getD (numK (S.getD y []) 5) 0 - 1).toNat []] := by
  unfold wdS
  rw [List.take_succ_eq_append_getElem h, List.map_append]
  simp [List.getD_eq_getElem?_getD, h]
/-- The monoid as it is handed back. -/
def monV (fs : List (List Nat)) (n : Nat) (Q : List (List Nat)) : List PV := moV (.list (aggs ((elS n Q).map mp))) (.list (rows (wdS (elS n Q) (fdP Q P00) (clV fs n Q.length) (elS n Q).length))) (setP (elS n Q) (fdP Q P00) (elS n Q).length)
end Go.Proofs.YthbbjbfbeaiphaaGreat
end
