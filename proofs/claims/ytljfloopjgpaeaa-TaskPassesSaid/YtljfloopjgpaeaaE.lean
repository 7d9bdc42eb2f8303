/- ins.Check: its table of forms. -/
import Derived.Test.YtljfloopjgpaeaaC
import Derived.Test.YtljfloopjgpaeaaM
namespace Go.Proofs.Ytljfloopjgpaeaa
set_option linter.unusedVariables false
set_option linter.unusedSimpArgs false
open Go.RowKit
set_option maxRecDepth 100000

def formV (word has : ByteArray) (most : Int) : Value := .agg #[.string word, .string has, .int .i64 most]
def formL (s c l : Int) : List (Int × Value × Nat) :=
  [(1, formV ⟨#[115, 101, 116]⟩ ⟨#[97, 107]⟩ 0, 0), (2, formV ⟨#[97, 100, 100]⟩ ⟨#[97, 98]⟩ 0, 1), (3, formV ⟨#[106, 117, 109, 112]⟩ ⟨#[107]⟩ l, 2), (4, formV ⟨#[122, 101, 114, 111]⟩ ⟨#[97, 107]⟩ l, 3),
   (5, formV ⟨#[115, 101, 110, 100]⟩ ⟨#[97, 99]⟩ 0, 4), (6, formV ⟨#[114, 101, 99, 118]⟩ ⟨#[97, 98, 99]⟩ 0, 5), (7, formV ⟨#[99, 108, 111, 115, 101]⟩ ⟨#[99]⟩ 0, 6), (8, formV ⟨#[115, 101, 108, 101, 99, 116]⟩ ⟨#[98, 107]⟩ s, 7),
   (9, formV ⟨#[115, 112, 97, 119, 110]⟩ ⟨#[107]⟩ c, 8), (10, formV ⟨#[101, 110, 100]⟩ ⟨#[]⟩ 0, 9)]

attribute [local go_sem] findI_nil findI_cons in
theorem forms_any (s c l : Int) (w : World) : Calls Try.prog 64 #[.int .i64 s, .int .i64 c, .int .i64 l] w fun e w' => e = .returned (.map (some w.heap.size)) ∧ w' = w.alloc (.map (entsI .u8 (formL s c l)) 10) := by
  have hmm : ∀ (w : World), (Instr.makeMap 120 none).run Try.prog w = .ok (.map (some w.heap.size)) (w.alloc (.map (entsI .u8 []) 0)) := fun w => run_makeMap_plain w _
  have hpu := fun (w : World) (n : Nat) (es : List (Int × Value × Nat)) => @run_mapPut_new Try.prog w 120 5 118 .u8 Try.underlying120 Try.underlying5 n es
  go_enter Try.func64, Try.ntmps64
  go_wp2
  rw [hpu _ _ _ _ _ (findI_nil _ _ _)]
  go_wp2
  go_ret
  exact ⟨rfl, rfl⟩

def formZ : Value := .agg #[.string ⟨#[]⟩, .string ⟨#[]⟩, .int .i64 0]
theorem zero_form (w : World) : (zeroValue 118).run Try.prog w = .ok formZ w := Try.zeroValue118 w
theorem forms_ask {W : World} {r : Nat} {s c l : Int} (h : W.heap[r]? = some (.map (entsI .u8 (formL s c l)) 10)) (op : Int) :
    (Instr.lookup 120 (.map (some r)) (.int .u8 op) true).run Try.prog W = .ok (.tuple #[((findI .u8 op (formL s c l) 0).map (·.2)).getD formZ, .bool (findI .u8 op (formL s c l) 0).isSome]) W :=
  run_mapAsk Try.underlying120 Try.underlying5 zero_form h op
end Go.Proofs.Ytljfloopjgpaeaa
