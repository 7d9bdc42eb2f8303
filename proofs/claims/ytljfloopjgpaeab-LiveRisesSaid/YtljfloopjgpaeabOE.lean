/- What a row of entries that came in tells of its cells. -/
import Derived.Test.YtljfloopjgpaeabOG
import Derived.Test.YtljfloopjgpaeabLA
namespace Go.Proofs.Ytljfloopjgpaeab
set_option linter.unusedVariables false
set_option linter.unusedSimpArgs false
open Go.RowKit
set_option maxRecDepth 100000
section
variable {H : Type} {enc : TypeId × Value → H} {w : World} {base : Nat} {sp : Nat → Bool} {held : Bool}
theorem cellsE : Try.prog.cellsOf 3 = 1 ∧ Try.prog.cellsOf 2 = 1 ∧ Try.prog.cellsOf 5 = 1 ∧ Try.prog.cellsOf 4 = 1 ∧ Try.prog.cellsOf 26 = 1 ∧ Try.prog.cellsOf 28 = 1 := ⟨by kernel_rfl, by kernel_rfl, by kernel_rfl, by kernel_rfl, by kernel_rfl, by kernel_rfl⟩
theorem opens_Entry : Opens enc Try.prog w base sp held 30 (fun (x : EntV) cs => cs = x.cells) := fun fuel cs x h hw => by
  have hl := struct_len Try.underlying30 h
  rw [show Try.prog.cellsOf 30 = 13 by kernel_rfl] at hl
  obtain ⟨c1, c2, c3, c4, c5, c6⟩ := cellsE
  obtain ⟨x0, h0, w0⟩ := opens_field Try.underlying30 h hw 0 rfl (opens_int Try.underlying2)
  obtain ⟨x1, h1, w1⟩ := opens_field Try.underlying30 h hw 1 rfl (opens_int Try.underlying5)
  obtain ⟨x2, h2, w2⟩ := opens_field Try.underlying30 h hw 2 rfl (opens_int Try.underlying3)
  obtain ⟨x3, h3, w3⟩ := opens_field Try.underlying30 h hw 3 rfl (opens_int Try.underlying3)
  obtain ⟨x4, h4, w4⟩ := opens_field Try.underlying30 h hw 4 rfl (opens_int Try.underlying3)
  obtain ⟨x5, h5, w5⟩ := opens_field Try.underlying30 h hw 5 rfl (opens_int Try.underlying3)
  obtain ⟨x6, h6, w6⟩ := opens_field Try.underlying30 h hw 6 rfl (opens_int Try.underlying3)
  obtain ⟨x7, h7, w7⟩ := opens_field Try.underlying30 h hw 7 rfl (opens_int Try.underlying3)
  obtain ⟨x8, h8, w8⟩ := opens_field Try.underlying30 h hw 8 rfl (opens_int Try.underlying2)
  obtain ⟨x9, h9, w9⟩ := opens_field Try.underlying30 h hw 9 rfl (opens_int Try.underlying2)
  obtain ⟨x10, h10⟩ := opens_field Try.underlying30 h hw 10 rfl (opens_bool Try.underlying4)
  obtain ⟨x11, h11, w11⟩ := opens_field Try.underlying30 h hw 11 rfl (opens_int Try.underlying26)
  obtain ⟨x12, h12, w12⟩ := opens_field Try.underlying30 h hw 12 rfl (opens_int Try.underlying28)
  match cs, hl with
  | [v0, v1, v2, v3, v4, v5, v6, v7, v8, v9, v10, v11, v12], _ =>
    simp [c1, c2, c3, c4, c5, c6] at h0 h1 h2 h3 h4 h5 h6 h7 h8 h9 h10 h11 h12
    subst h0 h1 h2 h3 h4 h5 h6 h7 h8 h9 h10 h11 h12
    exact ⟨⟨x0, x1, x2, x3, x4, x5, x6, x7, x8, x9, x10, x11, x12⟩, rfl⟩
/-- A row of entries that came in. -/
theorem open_Entries {r : Reach} {b0 : Nat} {v : Value} {d : DataW H} {ps : List MemPlace} (hval : Value.okWide Try.prog w r b0 22 v) (hd : DataW.Trod enc Try.prog w base sp held 22 v d ps) (hw : ∀ n ∈ d.weights Try.prog 22, n ≤ reachBytes) :
    ∃ l : List EntV, kEnt.R w v l := by
  obtain ⟨a, n, c, rfl⟩ := WideShapes.okWide_slice Try.underlying22 hval
  obtain ⟨fuel, h⟩ := hd
  obtain ⟨l, u, h0, hr⟩ := opens_slice (d := kEnt) Try.underlying22 (by kernel_rfl) (by decide) (by rw [show Try.prog.bytesOf 30 = 104 by kernel_rfl]; decide) (fun fuel cs x h hw => by
    obtain ⟨a, h1⟩ := opens_Entry fuel cs x h hw
    exact ⟨a, h1, trivial⟩) fuel _ _ h hw
  simp [Value.cells] at h0
  subst h0
  exact ⟨l, hr⟩
end
end Go.Proofs.Ytljfloopjgpaeab
