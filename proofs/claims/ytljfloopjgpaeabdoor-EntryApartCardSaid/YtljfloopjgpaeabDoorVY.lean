/- What came in is in range. -/
import Derived.Test.YtljfloopjgpaeabDoorVW
import Derived.Test.YtljfloopjgpaeabDoorOF
namespace Go.Proofs.YtljfloopjgpaeabDoor
set_option linter.unusedVariables false
set_option linter.unusedSimpArgs false
open Go.RowKit
theorem rg_of {x : EntV} (h : x.wf) : rgE x := by
  have hs := h.set
  simp [Lit.wf, IntKind.min, IntKind.max, IntKind.signed, IntKind.bits] at hs
  obtain ⟨h1, h2⟩ := h.at_
  obtain ⟨h3, h4⟩ := h.val
  obtain ⟨h5, h6⟩ := h.val2
  exact ⟨h2, ⟨h3, h4⟩, ⟨h5, h6⟩, ⟨hs.1, by omega⟩⟩
end Go.Proofs.YtljfloopjgpaeabDoor
