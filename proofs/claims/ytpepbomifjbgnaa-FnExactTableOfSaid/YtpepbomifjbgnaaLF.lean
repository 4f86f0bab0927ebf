/- Least forms of maps: both sides of LeastForm and AreSameShape. -/
import Derived.Test.YtpepbomifjbgnaaCb
import Derived.Test.YtpepbomifjbgnaaIN
namespace Go.Proofs.Ytpepbomifjbgnaa
open Go.Kv
set_option maxRecDepth 100000
end Go.Proofs.Ytpepbomifjbgnaa
namespace Go.Proofs.Ytpepbomifjbgnaa
open Go.Kv
set_option linter.unusedVariables false
set_option linter.unusedSimpArgs false
attribute [local irreducible] ACall PCall KL
/-- The least one of f and the renumbered ones. -/
def lsf (f : List Nat) (L : List (List Nat)) : List Nat := L.foldl (fun b p => if ltM (rnm f p) b = true then rnm f p else b) f
theorem lsf_succ (f : List Nat) (L : List (List Nat)) {x : Nat} (h : x < L.length) : lsf f (L.take (x + 1)) = if ltM (rnm f L[x]) (lsf f (L.take x)) = true then rnm f L[x] else lsf f (L.take x) := by
  unfold lsf
  rw [List.take_succ_eq_append_getElem h, List.foldl_append]
  rfl
theorem lsf_ok {f : List Nat} {n : Nat} (hf : Ok f n) : ∀ (x : Nat), x ≤ (prm n).length → Ok (lsf f ((prm n).take x)) n
  | 0, _ => by simpa [lsf] using hf
  | x + 1, h => by
    rw [lsf_succ f _ (by omega)]
    split
    · have hm : (prm n)[x] ∈ prm n := List.getElem_mem _
      exact rnm_ok hf (prm_ok hf.pos hf.le hm) (by have := (List.mem_filter.1 hm).2; simpa using this)
    · exact lsf_ok hf x (by omega)
theorem prm_nd {n : Nat} {p : List Nat} (h : p ∈ prm n) : p.Nodup := by
  have := (List.mem_filter.1 h).2; simpa using this
def pcd (m k : List Int) : Int := if isM m = false ∨ isM k = false then 1 else if m.getD 0 0 = k.getD 0 0 then 0 else 2
end Go.Proofs.Ytpepbomifjbgnaa
