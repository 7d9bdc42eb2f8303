/- An entry that came in by itself. -/
import Derived.Test.YtljfloopjgpaeabDoorVY
namespace Go.Proofs.YtljfloopjgpaeabDoor
set_option linter.unusedVariables false
set_option linter.unusedSimpArgs false
open Go.RowKit
set_option maxRecDepth 100000
section
variable {H : Type} {enc : TypeId × Value → H} {w : World} {base : Nat} {sp : Nat → Bool} {held : Bool}
theorem open_EntryW {r : Reach} {b0 : Nat} {v : Value} {d : DataW H} {ps : List MemPlace} (hval : Value.okWide Tryd.prog w r b0 26 v) (hd : DataW.Trod enc Tryd.prog w base sp held 26 v d ps) (hw : ∀ n ∈ d.weights Tryd.prog 26, n ≤ reachBytes) :
    ∃ x : EntV, v = x.agg ∧ x.wf := by
  obtain ⟨cs, rfl, _⟩ := WideShapes.okWide_struct Tryd.underlying26 hval
  obtain ⟨fuel, h⟩ := hd
  obtain ⟨x, hx, hwf⟩ := opens_EntryW fuel _ _ h hw
  refine ⟨x, ?_, hwf⟩
  obtain ⟨cs⟩ := cs
  simp only [Value.cells] at hx
  rw [hx]
  rfl
end
end Go.Proofs.YtljfloopjgpaeabDoor
