/- What an argument that can be read as data tells of its cells: mail. -/
import Derived.Test.YtljfloopjgpaeaaO
namespace Go.Proofs.Ytljfloopjgpaeaa
set_option linter.unusedVariables false
set_option linter.unusedSimpArgs false
open Go.RowKit
set_option maxRecDepth 100000
section
variable {H : Type} {enc : TypeId × Value → H} {w : World} {base : Nat} {sp : Nat → Bool} {held : Bool}
theorem open_Mail {r : Reach} {b0 : Nat} {v : Value} {d : DataW H} {ps : List MemPlace} (hval : Value.okWide Try.prog w r b0 30 v) (hd : DataW.Trod enc Try.prog w base sp held 30 v d ps) (hw : ∀ n ∈ d.weights Try.prog 30, n ≤ reachBytes) :
    ∃ (c x : Int) (ok : Bool) (code : Int), v = .agg #[.int .i64 c, .int .i64 x, .bool ok, .int .i64 code] ∧ I64 c ∧ I64 x ∧ I64 code := by
  obtain ⟨cs, rfl, _⟩ := WideShapes.okWide_struct Try.underlying30 hval
  obtain ⟨fuel, h⟩ := hd
  have hl := struct_len Try.underlying30 h
  rw [show Try.prog.cellsOf 30 = 4 by kernel_rfl] at hl
  obtain ⟨c1, c2, c3, c4⟩ := cells1
  obtain ⟨x0, h0, w0⟩ := opens_field Try.underlying30 h hw 0 rfl (opens_int Try.underlying3)
  obtain ⟨x1, h1, w1⟩ := opens_field Try.underlying30 h hw 1 rfl (opens_int Try.underlying2)
  obtain ⟨x2, h2⟩ := opens_field Try.underlying30 h hw 2 rfl (opens_bool Try.underlying4)
  obtain ⟨x3, h3, w3⟩ := opens_field Try.underlying30 h hw 3 rfl (opens_int Try.underlying28)
  obtain ⟨cs⟩ := cs
  simp only [Value.cells] at hl h0 h1 h2 h3
  match cs, hl with
  | [v0, v1, v2, v3], _ =>
    simp [c1, c2, c4, show Try.prog.cellsOf 28 = 1 by kernel_rfl] at h0 h1 h2 h3
    subst h0 h1 h2 h3
    exact ⟨x0, x1, x2, x3, rfl, wfI64 w0, wfI64 w1, wfI64 w3⟩
end
end Go.Proofs.Ytljfloopjgpaeaa
