/- '==' of arrays of eight numbers, of frames, of instructions. -/
import Derived.Test.YtljfloopjgpaeaaT
import Derived.DeepKeys
import Derived.Laws.StructEq
namespace Go.Proofs.Ytljfloopjgpaeaa
set_option linter.unusedVariables false
set_option linter.unusedSimpArgs false
open Go.RowKit
set_option maxRecDepth 100000

def eq8 (a b : List Int) : Bool := rg a 0 == rg b 0 && (rg a 1 == rg b 1 && (rg a 2 == rg b 2 && (rg a 3 == rg b 3 && (rg a 4 == rg b 4 && (rg a 5 == rg b 5 && (rg a 6 == rg b 6 && rg a 7 == rg b 7))))))
theorem eq_regs (d : Nat) (a0 a1 a2 a3 a4 a5 a6 a7 b0 b1 b2 b3 b4 b5 b6 b7 : Int) (w : World) :
    (Op.equalIn (d + 2) 45 (.agg #[.int .i64 a0, .int .i64 a1, .int .i64 a2, .int .i64 a3, .int .i64 a4, .int .i64 a5, .int .i64 a6, .int .i64 a7]) (.agg #[.int .i64 b0, .int .i64 b1, .int .i64 b2, .int .i64 b3, .int .i64 b4, .int .i64 b5, .int .i64 b6, .int .i64 b7])).run Try.prog w =
      .ok (a0 == b0 && (a1 == b1 && (a2 == b2 && (a3 == b3 && (a4 == b4 && (a5 == b5 && (a6 == b6 && a7 == b7))))))) w := by
  obtain ⟨i, hi⟩ : ∃ i, Try.prog.info? 2 = some i := info_of_underlying Try.underlying2
  rw [run_equalIn_array w (d + 1) _ _ Try.underlying45 hi]
  have hc : Try.prog.cellsOf 2 = 1 := by kernel_rfl
  rw [show List.range 8 = [0, 1, 2, 3, 4, 5, 6, 7] from rfl]
  simp only [Op.eqItems, hc]
  have hl : ∀ (a b : Int) (w : World), (Op.equalIn (d + 1) 2 (.int .i64 a) (.int .i64 b)).run Try.prog w = .ok (a == b) w := fun a b w => run_equalIn_int w d 2 .i64 .i64 a b Try.underlying2
  simp [go_sem, hl]
  (repeat' split) <;> simp_all
theorem stood_fr : Try.prog.stoodInHeld 47 = false := by kernel_rfl
theorem fields_fr : (Try.prog.fieldsOf 47).toList.map (fun f => (f.name, f.type, f.offset)) = [("Code", 3, 0), ("Pc", 3, 1), ("R", 45, 2)] := by kernel_rfl
theorem eq_frame (d : Nat) (ca cb pa pb a0 a1 a2 a3 a4 a5 a6 a7 b0 b1 b2 b3 b4 b5 b6 b7 : Int) (w : World) :
    (Op.equalIn (d + 3) 47 (.agg #[.int .i64 ca, .int .i64 pa, .int .i64 a0, .int .i64 a1, .int .i64 a2, .int .i64 a3, .int .i64 a4, .int .i64 a5, .int .i64 a6, .int .i64 a7]) (.agg #[.int .i64 cb, .int .i64 pb, .int .i64 b0, .int .i64 b1, .int .i64 b2, .int .i64 b3, .int .i64 b4, .int .i64 b5, .int .i64 b6, .int .i64 b7])).run Try.prog w =
      .ok (ca == cb && (pa == pb && (a0 == b0 && (a1 == b1 && (a2 == b2 && (a3 == b3 && (a4 == b4 && (a5 == b5 && (a6 == b6 && a7 == b7))))))))) w := by
  have hl : ∀ (a b : Int) (w : World), (Op.equalIn (d + 2) 3 (.int .i64 a) (.int .i64 b)).run Try.prog w = .ok (a == b) w := fun a b w => run_equalIn_int w (d + 1) 3 .i64 .i64 a b Try.underlying3
  rw [run_equalIn_struct w (d + 2) 47 _ _ (by kernel_rfl) stood_fr]
  obtain ⟨f0, f1, f2, hf⟩ : ∃ f0 f1 f2, (Try.prog.fieldsOf 47).toList = [f0, f1, f2] := ⟨_, _, _, rfl⟩
  have h := fields_fr
  rw [hf] at h
  simp only [List.map_cons, List.map_nil, List.cons.injEq, Prod.mk.injEq, and_true] at h
  obtain ⟨⟨n0, t0, o0⟩, ⟨n1, t1, o1⟩, n2, t2, o2⟩ := h
  rw [hf]
  simp only [Op.eqFields, n0, n1, n2, t0, t1, t2, o0, o1, o2]
  have p0 : ∀ w, (part 45 #[.int .i64 ca, .int .i64 pa, .int .i64 a0, .int .i64 a1, .int .i64 a2, .int .i64 a3, .int .i64 a4, .int .i64 a5, .int .i64 a6, .int .i64 a7] 2).run Try.prog w = .ok (.agg #[.int .i64 a0, .int .i64 a1, .int .i64 a2, .int .i64 a3, .int .i64 a4, .int .i64 a5, .int .i64 a6, .int .i64 a7]) w := fun w => by
    simp [go_sem]
  have p1 : ∀ w, (part 45 #[.int .i64 cb, .int .i64 pb, .int .i64 b0, .int .i64 b1, .int .i64 b2, .int .i64 b3, .int .i64 b4, .int .i64 b5, .int .i64 b6, .int .i64 b7] 2).run Try.prog w = .ok (.agg #[.int .i64 b0, .int .i64 b1, .int .i64 b2, .int .i64 b3, .int .i64 b4, .int .i64 b5, .int .i64 b6, .int .i64 b7]) w := fun w => by
    simp [go_sem]
  simp [go_sem, hl, p0, p1, eq_regs d]
  generalize (a0 == b0 && (a1 == b1 && (a2 == b2 && (a3 == b3 && (a4 == b4 && (a5 == b5 && (a6 == b6 && a7 == b7))))))) = r
  cases r <;> (repeat' split) <;> simp_all
theorem eq_frame_same (d : Nat) (c p a0 a1 a2 a3 a4 a5 a6 a7 : Int) (w : World) :
    (Op.equalIn (d + 3) 47 (.agg #[.int .i64 c, .int .i64 p, .int .i64 a0, .int .i64 a1, .int .i64 a2, .int .i64 a3, .int .i64 a4, .int .i64 a5, .int .i64 a6, .int .i64 a7]) (.agg #[.int .i64 c, .int .i64 p, .int .i64 a0, .int .i64 a1, .int .i64 a2, .int .i64 a3, .int .i64 a4, .int .i64 a5, .int .i64 a6, .int .i64 a7])).run Try.prog w = .ok true w := by
  rw [eq_frame]; simp
end Go.Proofs.Ytljfloopjgpaeaa
