/- From a call under the abstract condition to what a law's row asks of the world. -/
import Derived.Test.YtkdkdkkimieieaaK15
import Derived.Below
namespace Go.Kv
theorem Pure.walk_true {P : Program} {f : FuncId} {args : List PV} (h : Pure P f args (.bool true)) {W : World} {vs : List Value} (hr : RelL (allFrz W) [] args vs) :
    Calls P f vs.toArray W fun e W' => e = .returned (.bool true) ∧ Go.RowKit.Below W.heap.size W W' :=
  (h.2 (allFrz W) [] W vs hr (allFrz_hok W)).mono fun e W' ⟨v, v', φ', ι', σ', h1, h2, h3, _, h5⟩ => by
    obtain ⟨rfl, _⟩ := h5
    rw [h2.bool_inv] at h1
    exact ⟨h1, ⟨h3.os, h3.tp, h3.out, h3.sz, fun k hk => h3.fr k hk (fun ⟨_, _, h, _⟩ => by simp at h)⟩⟩
end Go.Kv
