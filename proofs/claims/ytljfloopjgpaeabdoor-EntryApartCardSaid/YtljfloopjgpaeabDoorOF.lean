/- What a row of entries that came in tells of its cells, and that its numbers are in range. -/
import Derived.Test.YtljfloopjgpaeabDoorOG
import Derived.Test.YtljfloopjgpaeabDoorLA
namespace Go.Proofs.YtljfloopjgpaeabDoor
set_option linter.unusedVariables false
set_option linter.unusedSimpArgs false
open Go.RowKit
set_option maxRecDepth 100000
/-- An entry's numbers are in range. -/
structure EntV.wf (x : EntV) : Prop where
  at_ : I64 x.at_
  kind : U8 x.kind
  worker : I64 x.worker
  task : I64 x.task
  peer : I64 x.peer
  ch : I64 x.ch
  cs : I64 x.cs
  pc : I64 x.pc
  val : I64 x.val
  val2 : I64 x.val2
  code : I64 x.code
  set : (Lit.int .u64 x.set).wf = true
section
variable {H : Type} {enc : TypeId × Value → H} {w : World} {base : Nat} {sp : Nat → Bool} {held : Bool}
theorem cellsEW : Tryd.prog.cellsOf 3 = 1 ∧ Tryd.prog.cellsOf 2 = 1 ∧ Tryd.prog.cellsOf 5 = 1 ∧ Tryd.prog.cellsOf 4 = 1 ∧ Tryd.prog.cellsOf 22 = 1 ∧ Tryd.prog.cellsOf 24 = 1 := ⟨by kernel_rfl, by kernel_rfl, by kernel_rfl, by kernel_rfl, by kernel_rfl, by kernel_rfl⟩
theorem opens_EntryW : Opens enc Tryd.prog w base sp held 26 (fun (x : EntV) cs => cs = x.cells ∧ x.wf) := fun fuel cs x h hw => by
  have hl := struct_len Tryd.underlying26 h
  rw [show Tryd.prog.cellsOf 26 = 13 by kernel_rfl] at hl
  obtain ⟨c1, c2, c3, c4, c5, c6⟩ := cellsEW
  obtain ⟨x0, h0, w0⟩ := opens_field Tryd.underlying26 h hw 0 rfl (opens_int Tryd.underlying2)
  obtain ⟨x1, h1, w1⟩ := opens_field Tryd.underlying26 h hw 1 rfl (opens_int Tryd.underlying5)
  obtain ⟨x2, h2, w2⟩ := opens_field Tryd.underlying26 h hw 2 rfl (opens_int Tryd.underlying3)
  obtain ⟨x3, h3, w3⟩ := opens_field Tryd.underlying26 h hw 3 rfl (opens_int Tryd.underlying3)
  obtain ⟨x4, h4, w4⟩ := opens_field Tryd.underlying26 h hw 4 rfl (opens_int Tryd.underlying3)
  obtain ⟨x5, h5, w5⟩ := opens_field Tryd.underlying26 h hw 5 rfl (opens_int Tryd.underlying3)
  obtain ⟨x6, h6, w6⟩ := opens_field Tryd.underlying26 h hw 6 rfl (opens_int Tryd.underlying3)
  obtain ⟨x7, h7, w7⟩ := opens_field Tryd.underlying26 h hw 7 rfl (opens_int Tryd.underlying3)
  obtain ⟨x8, h8, w8⟩ := opens_field Tryd.underlying26 h hw 8 rfl (opens_int Tryd.underlying2)
  obtain ⟨x9, h9, w9⟩ := opens_field Tryd.underlying26 h hw 9 rfl (opens_int Tryd.underlying2)
  obtain ⟨x10, h10⟩ := opens_field Tryd.underlying26 h hw 10 rfl (opens_bool Tryd.underlying4)
  obtain ⟨x11, h11, w11⟩ := opens_field Tryd.underlying26 h hw 11 rfl (opens_int Tryd.underlying22)
  obtain ⟨x12, h12, w12⟩ := opens_field Tryd.underlying26 h hw 12 rfl (opens_int Tryd.underlying24)
  match cs, hl with
  | [v0, v1, v2, v3, v4, v5, v6, v7, v8, v9, v10, v11, v12], _ =>
    simp [c1, c2, c3, c4, c5, c6] at h0 h1 h2 h3 h4 h5 h6 h7 h8 h9 h10 h11 h12
    subst h0 h1 h2 h3 h4 h5 h6 h7 h8 h9 h10 h11 h12
    exact ⟨⟨x0, x1, x2, x3, x4, x5, x6, x7, x8, x9, x10, x11, x12⟩, rfl, ⟨wfI64 w0, wfU8 w1, wfI64 w2, wfI64 w3, wfI64 w4, wfI64 w5, wfI64 w6, wfI64 w7, wfI64 w8, wfI64 w9, wfI64 w11, w12⟩⟩
/-- A row of entries that came in. -/
theorem open_EntriesW {r : Reach} {b0 : Nat} {v : Value} {d : DataW H} {ps : List MemPlace} (hval : Value.okWide Tryd.prog w r b0 27 v) (hd : DataW.Trod enc Tryd.prog w base sp held 27 v d ps) (hw : ∀ n ∈ d.weights Tryd.prog 27, n ≤ reachBytes) :
    ∃ l : List EntV, kEnt.R w v l ∧ ∀ x ∈ l, x.wf := by
  obtain ⟨a, n, c, rfl⟩ := WideShapes.okWide_slice Tryd.underlying27 hval
  obtain ⟨fuel, h⟩ := hd
  obtain ⟨l, u, h0, hr⟩ := opens_slice (d := Kn.flat 13 EntV.cells EntV.wf) Tryd.underlying27 (by kernel_rfl) (by decide) (by rw [show Tryd.prog.bytesOf 26 = 104 by kernel_rfl]; decide) (fun fuel cs x h hw => by
    exact opens_EntryW fuel cs x h hw) fuel _ _ h hw
  simp [Value.cells] at h0
  subst h0
  refine ⟨l, ?_, fun x hx => ?_⟩
  · obtain ⟨A, c', h1, h2, h3, h4, h5⟩ := hr
    exact ⟨A, c', h1, h2, h3, h4, fun h0 => by obtain ⟨b, o, k1, k2, k3⟩ := h5 h0; exact ⟨b, o, k1, k2, fun i x hi => by obtain ⟨cs, q1, q2⟩ := k3 i x hi; exact ⟨cs, ⟨q1.1, trivial⟩, q2⟩⟩⟩
  · obtain ⟨A, c', h1, h2, h3, h4, h5⟩ := hr
    obtain ⟨i, hi, rfl⟩ := List.getElem_of_mem hx
    obtain ⟨b, o, k1, k2, k3⟩ := h5 (by omega)
    obtain ⟨cs, q1, q2⟩ := k3 i _ (List.getElem?_eq_getElem hi)
    exact q1.2
end
end Go.Proofs.YtljfloopjgpaeabDoor
