/- What a row of sets that came in tells of its cells. -/
import Derived.Test.YtljfloopjgpaeaaO
import Derived.Test.YtljfloopjgpaeaaSO
namespace Go.Proofs.Ytljfloopjgpaeaa
set_option linter.unusedVariables false
set_option linter.unusedSimpArgs false
open Go.RowKit
set_option maxRecDepth 100000
section
variable {H : Type} {enc : TypeId × Value → H} {w : World} {base : Nat} {sp : Nat → Bool} {held : Bool}
theorem opens_Set : Opens enc Try.prog w base sp held 92 (kSet.K w) := fun fuel cs x h hw => by
  obtain ⟨a, h1, h2⟩ := opens_int Try.underlying92 fuel cs x h hw
  exact ⟨a, h1, trivial⟩
/-- A row of sets that came in. -/
theorem open_Sets {r : Reach} {b0 : Nat} {v : Value} {d : DataW H} {ps : List MemPlace} (hval : Value.okWide Try.prog w r b0 83 v) (hd : DataW.Trod enc Try.prog w base sp held 83 v d ps) (hw : ∀ n ∈ d.weights Try.prog 83, n ≤ reachBytes) :
    ∃ l : List Int, kSet.R w v l := by
  obtain ⟨a, n, c, rfl⟩ := WideShapes.okWide_slice Try.underlying83 hval
  obtain ⟨fuel, h⟩ := hd
  obtain ⟨l, u, h0, hr⟩ := opens_slice (d := kSet) Try.underlying83 (by kernel_rfl) (by decide) (by rw [show Try.prog.bytesOf 92 = 8 by kernel_rfl]; decide) opens_Set fuel _ _ h hw
  simp [Value.cells] at h0
  subst h0
  exact ⟨l, hr⟩
end
end Go.Proofs.Ytljfloopjgpaeaa
