/- What a script of mail steps that came in tells of its cells. -/
import Derived.Test.YtljfloopjgpaeaaO
import Derived.Test.YtljfloopjgpaeaaRN
namespace Go.Proofs.Ytljfloopjgpaeaa
set_option linter.unusedVariables false
set_option linter.unusedSimpArgs false
open Go.RowKit
set_option maxRecDepth 100000
section
variable {H : Type} {enc : TypeId × Value → H} {w : World} {base : Nat} {sp : Nat → Bool} {held : Bool}
theorem cells27 : Try.prog.cellsOf 30 = 4 ∧ Try.prog.cellsOf 28 = 1 := ⟨by kernel_rfl, by kernel_rfl⟩
theorem opens_Mail : Opens enc Try.prog w base sp held 30 (fun (x : MailT) cs => cs = [.int .i64 x.1, .int .i64 x.2.1, .bool x.2.2.1, .int .i64 x.2.2.2]) := fun fuel cs x h hw => by
  have hl := struct_len Try.underlying30 h
  rw [cells27.1] at hl
  obtain ⟨c1, c2, c3, c4⟩ := cells1
  obtain ⟨x0, h0, w0⟩ := opens_field Try.underlying30 h hw 0 rfl (opens_int Try.underlying3)
  obtain ⟨x1, h1, w1⟩ := opens_field Try.underlying30 h hw 1 rfl (opens_int Try.underlying2)
  obtain ⟨x2, h2⟩ := opens_field Try.underlying30 h hw 2 rfl (opens_bool Try.underlying4)
  obtain ⟨x3, h3, w3⟩ := opens_field Try.underlying30 h hw 3 rfl (opens_int Try.underlying28)
  match cs, hl with
  | [v0, v1, v2, v3], _ =>
    simp [c1, c2, c4, cells27.2] at h0 h1 h2 h3
    subst h0 h1 h2 h3
    exact ⟨⟨x0, x1, x2, x3⟩, rfl⟩
theorem opens_Step : Opens enc Try.prog w base sp held 32 (kStep.K w) := fun fuel cs x h hw => by
  have hl := struct_len Try.underlying32 h
  rw [show Try.prog.cellsOf 32 = 6 by kernel_rfl] at hl
  obtain ⟨c1, c2, c3, c4⟩ := cells1
  obtain ⟨x0, h0, w0⟩ := opens_field Try.underlying32 h hw 0 rfl (opens_int Try.underlying3)
  obtain ⟨x1, h1, w1⟩ := opens_field Try.underlying32 h hw 1 rfl (opens_int Try.underlying3)
  obtain ⟨y, h2⟩ := opens_field Try.underlying32 h hw 2 rfl opens_Mail
  match cs, hl with
  | [v0, v1, v2, v3, v4, v5], _ =>
    simp [c1, c4, cells27.1] at h0 h1 h2
    subst h0 h1
    obtain ⟨rfl, rfl, rfl, rfl⟩ := h2
    exact ⟨⟨x0, x1, y.1, y.2.1, y.2.2.1, y.2.2.2⟩, rfl, trivial⟩
/-- A script that came in. -/
theorem open_Steps {r : Reach} {b0 : Nat} {v : Value} {d : DataW H} {ps : List MemPlace} (hval : Value.okWide Try.prog w r b0 22 v) (hd : DataW.Trod enc Try.prog w base sp held 22 v d ps) (hw : ∀ n ∈ d.weights Try.prog 22, n ≤ reachBytes) :
    ∃ l : List StepV, kStep.R w v l := by
  obtain ⟨a, n, c, rfl⟩ := WideShapes.okWide_slice Try.underlying22 hval
  obtain ⟨fuel, h⟩ := hd
  obtain ⟨l, u, h0, hr⟩ := opens_slice (d := kStep) Try.underlying22 (by kernel_rfl) (by decide) (by rw [show Try.prog.bytesOf 32 = 48 by kernel_rfl]; decide) opens_Step fuel _ _ h hw
  simp [Value.cells] at h0
  subst h0
  exact ⟨l, hr⟩
end
end Go.Proofs.Ytljfloopjgpaeaa
