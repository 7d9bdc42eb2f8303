/-
  No cell of these rows narrows 'for every input' (looked for: loops, veiled, ifaces, maps, wideKeys, modest, calm, conditions, laid).
  DERIVED. THE GIVEN ROWS OF THIS SEAT. 10 by the template 'for every input the law returns true; each argument reads behind the call as it read before'; 0 by the template 'total and deterministic' (their statements: YtljfloopjgpaeaaTotals.lean).
  GIVEN WITH THE SEED: the statements are not yours to turn. If you find one false, say at which input.
  Laid BY PROGRAM, IN A SANDBOX (cutbox-rows.mjs): the forced cells as the released guide's own fill.sh prints them over the translation 46aaef17ee416825… (all of the seat's roots in one cut). By AI agents, Wed Nov 11 2026. No macro, syntax, notation, axiom, sorry.
-/
import Derived.Test.YtljfloopjgpaeaaChecked
import GoSem.Claim
import GoSem.ClaimJoined
import GoSem.ClaimMapViews
import Derived.JoinedTies
import Derived.KernelRfl
namespace Go.Proofs.Ytljfloopjgpaeaa
/- THE CELL 'sum', in the pinned program and in every row, IS THE sha256 OF THE DUMP (.gsa) THAT YtljfloopjgpaeaaProg.lean LOADS. Nothing in Lean hashes anything: it is a label: what it is worth is what the hold of that sum in a sandbox is worth. -/
noncomputable def Try.pinned : Pinned := { name := "ytljfloopjgpaeaa", sum := "46aaef17ee4168253428e4ff8533b7625db3c802bf9e800b5f543cd7ec946682", checked := Try.checked }
namespace Rows
def none {H : Type} : Left H := { results := [], args := [] }

/-- 'tollbarlaw27.MailOnce': WHATEVER THE INPUT: true; the input reads as it did. -/
def mailOnceSpec : ChangeSpec := { name := "mailOnce", fn := fun _ => fun
  | [d] => { results := [.lit (.bool true)], args := [d] }
  | _ => none }
def mailOnceRow : OpenClaim := { program := "ytljfloopjgpaeaa", sum := "46aaef17ee4168253428e4ff8533b7625db3c802bf9e800b5f543cd7ec946682", func := "tollbar/tollbarlaw27.MailOnce", spec := "mailOnce", unfollowed := true, recurses := true, apart := false }
def MailOnceSaid : Prop := mailOnceRow.holds Try.pinned (OpenSpec.ofChange mailOnceSpec)

/-- ITS FALSE NEIGHBOUR: 'it returns false'. Refute it at one input. -/
def mailOnceWrong : ChangeSpec := { name := "mailOnce", fn := fun _ => fun
  | [d] => { results := [.lit (.bool false)], args := [d] }
  | _ => none }
def MailOnceWrongFalsely : Prop := mailOnceRow.holds Try.pinned (OpenSpec.ofChange mailOnceWrong)

/-- 'tollbarlaw27.MailDone': WHATEVER THE INPUT: true; the input reads as it did. -/
def mailDoneSpec : ChangeSpec := { name := "mailDone", fn := fun _ => fun
  | [d1, d2, d3] => { results := [.lit (.bool true)], args := [d1, d2, d3] }
  | _ => none }
def mailDoneRow : OpenClaim := { program := "ytljfloopjgpaeaa", sum := "46aaef17ee4168253428e4ff8533b7625db3c802bf9e800b5f543cd7ec946682", func := "tollbar/tollbarlaw27.MailDone", spec := "mailDone", inPlace := ["internal/bytealg.IndexByteString"], unfollowed := true, recurses := true, apart := false }
def MailDoneSaid : Prop := mailDoneRow.holds Try.pinned (OpenSpec.ofChange mailDoneSpec)

/-- ITS FALSE NEIGHBOUR: 'it returns false'. Refute it at one input. -/
def mailDoneWrong : ChangeSpec := { name := "mailDone", fn := fun _ => fun
  | [d1, d2, d3] => { results := [.lit (.bool false)], args := [d1, d2, d3] }
  | _ => none }
def MailDoneWrongFalsely : Prop := mailDoneRow.holds Try.pinned (OpenSpec.ofChange mailDoneWrong)

/-- 'tollbarlaw11.ProgNext': WHATEVER THE INPUT: true; the input reads as it did. -/
def progNextSpec : ChangeSpec := { name := "progNext", fn := fun _ => fun
  | [d] => { results := [.lit (.bool true)], args := [d] }
  | _ => none }
def progNextRow : OpenClaim := { program := "ytljfloopjgpaeaa", sum := "46aaef17ee4168253428e4ff8533b7625db3c802bf9e800b5f543cd7ec946682", func := "tollbar/tollbarlaw11.ProgNext", spec := "progNext", inPlace := ["internal/bytealg.IndexByteString"], unfollowed := true, recurses := true, apart := false }
def ProgNextSaid : Prop := progNextRow.holds Try.pinned (OpenSpec.ofChange progNextSpec)

/-- ITS FALSE NEIGHBOUR: 'it returns false'. Refute it at one input. -/
def progNextWrong : ChangeSpec := { name := "progNext", fn := fun _ => fun
  | [d] => { results := [.lit (.bool false)], args := [d] }
  | _ => none }
def ProgNextWrongFalsely : Prop := progNextRow.holds Try.pinned (OpenSpec.ofChange progNextWrong)

/-- 'tollbarlaw11.ProgGrows': WHATEVER THE INPUT: true; the input reads as it did. -/
def progGrowsSpec : ChangeSpec := { name := "progGrows", fn := fun _ => fun
  | [d1, d2] => { results := [.lit (.bool true)], args := [d1, d2] }
  | _ => none }
def progGrowsRow : OpenClaim := { program := "ytljfloopjgpaeaa", sum := "46aaef17ee4168253428e4ff8533b7625db3c802bf9e800b5f543cd7ec946682", func := "tollbar/tollbarlaw11.ProgGrows", spec := "progGrows", inPlace := ["internal/bytealg.IndexByteString"], unfollowed := true, recurses := true, apart := false }
def ProgGrowsSaid : Prop := progGrowsRow.holds Try.pinned (OpenSpec.ofChange progGrowsSpec)

/-- ITS FALSE NEIGHBOUR: 'it returns false'. Refute it at one input. -/
def progGrowsWrong : ChangeSpec := { name := "progGrows", fn := fun _ => fun
  | [d1, d2] => { results := [.lit (.bool false)], args := [d1, d2] }
  | _ => none }
def ProgGrowsWrongFalsely : Prop := progGrowsRow.holds Try.pinned (OpenSpec.ofChange progGrowsWrong)

/-- 'tollbarlaw11.ProgCopy': WHATEVER THE INPUT: true; the input reads as it did. -/
def progCopySpec : ChangeSpec := { name := "progCopy", fn := fun _ => fun
  | [d] => { results := [.lit (.bool true)], args := [d] }
  | _ => none }
def progCopyRow : OpenClaim := { program := "ytljfloopjgpaeaa", sum := "46aaef17ee4168253428e4ff8533b7625db3c802bf9e800b5f543cd7ec946682", func := "tollbar/tollbarlaw11.ProgCopy", spec := "progCopy", inPlace := ["internal/bytealg.IndexByteString"], unfollowed := true, recurses := true, apart := false }
def ProgCopySaid : Prop := progCopyRow.holds Try.pinned (OpenSpec.ofChange progCopySpec)

/-- ITS FALSE NEIGHBOUR: 'it returns false'. Refute it at one input. -/
def progCopyWrong : ChangeSpec := { name := "progCopy", fn := fun _ => fun
  | [d] => { results := [.lit (.bool false)], args := [d] }
  | _ => none }
def ProgCopyWrongFalsely : Prop := progCopyRow.holds Try.pinned (OpenSpec.ofChange progCopyWrong)

/-- 'tollbarlaw13.FrameTells': WHATEVER THE INPUT: true; the input reads as it did. -/
def frameTellsSpec : ChangeSpec := { name := "frameTells", fn := fun _ => fun
  | [d1, d2, d3, d4] => { results := [.lit (.bool true)], args := [d1, d2, d3, d4] }
  | _ => none }
def frameTellsRow : OpenClaim := { program := "ytljfloopjgpaeaa", sum := "46aaef17ee4168253428e4ff8533b7625db3c802bf9e800b5f543cd7ec946682", func := "tollbar/tollbarlaw13.FrameTells", spec := "frameTells", inPlace := ["internal/bytealg.IndexByteString"], unfollowed := true, recurses := true, apart := false }
def FrameTellsSaid : Prop := frameTellsRow.holds Try.pinned (OpenSpec.ofChange frameTellsSpec)

/-- ITS FALSE NEIGHBOUR: 'it returns false'. Refute it at one input. -/
def frameTellsWrong : ChangeSpec := { name := "frameTells", fn := fun _ => fun
  | [d1, d2, d3, d4] => { results := [.lit (.bool false)], args := [d1, d2, d3, d4] }
  | _ => none }
def FrameTellsWrongFalsely : Prop := frameTellsRow.holds Try.pinned (OpenSpec.ofChange frameTellsWrong)

/-- 'tollbarlaw13.FrameRuns': WHATEVER THE INPUT: true; the input reads as it did. -/
def frameRunsSpec : ChangeSpec := { name := "frameRuns", fn := fun _ => fun
  | [d1, d2, d3] => { results := [.lit (.bool true)], args := [d1, d2, d3] }
  | _ => none }
def frameRunsRow : OpenClaim := { program := "ytljfloopjgpaeaa", sum := "46aaef17ee4168253428e4ff8533b7625db3c802bf9e800b5f543cd7ec946682", func := "tollbar/tollbarlaw13.FrameRuns", spec := "frameRuns", inPlace := ["internal/bytealg.IndexByteString"], unfollowed := true, recurses := true, apart := false }
def FrameRunsSaid : Prop := frameRunsRow.holds Try.pinned (OpenSpec.ofChange frameRunsSpec)

/-- ITS FALSE NEIGHBOUR: 'it returns false'. Refute it at one input. -/
def frameRunsWrong : ChangeSpec := { name := "frameRuns", fn := fun _ => fun
  | [d1, d2, d3] => { results := [.lit (.bool false)], args := [d1, d2, d3] }
  | _ => none }
def FrameRunsWrongFalsely : Prop := frameRunsRow.holds Try.pinned (OpenSpec.ofChange frameRunsWrong)

/-- 'tollbarlaw13.FrameMore': WHATEVER THE INPUT: true; the input reads as it did. -/
def frameMoreSpec : ChangeSpec := { name := "frameMore", fn := fun _ => fun
  | [d1, d2, d3, d4] => { results := [.lit (.bool true)], args := [d1, d2, d3, d4] }
  | _ => none }
def frameMoreRow : OpenClaim := { program := "ytljfloopjgpaeaa", sum := "46aaef17ee4168253428e4ff8533b7625db3c802bf9e800b5f543cd7ec946682", func := "tollbar/tollbarlaw13.FrameMore", spec := "frameMore", inPlace := ["internal/bytealg.IndexByteString"], unfollowed := true, recurses := true, apart := false }
def FrameMoreSaid : Prop := frameMoreRow.holds Try.pinned (OpenSpec.ofChange frameMoreSpec)

/-- ITS FALSE NEIGHBOUR: 'it returns false'. Refute it at one input. -/
def frameMoreWrong : ChangeSpec := { name := "frameMore", fn := fun _ => fun
  | [d1, d2, d3, d4] => { results := [.lit (.bool false)], args := [d1, d2, d3, d4] }
  | _ => none }
def FrameMoreWrongFalsely : Prop := frameMoreRow.holds Try.pinned (OpenSpec.ofChange frameMoreWrong)

/-- 'tollbarlaw13.FrameDone': WHATEVER THE INPUT: true; the input reads as it did. -/
def frameDoneSpec : ChangeSpec := { name := "frameDone", fn := fun _ => fun
  | [d1, d2, d3, d4, d5] => { results := [.lit (.bool true)], args := [d1, d2, d3, d4, d5] }
  | _ => none }
def frameDoneRow : OpenClaim := { program := "ytljfloopjgpaeaa", sum := "46aaef17ee4168253428e4ff8533b7625db3c802bf9e800b5f543cd7ec946682", func := "tollbar/tollbarlaw13.FrameDone", spec := "frameDone", inPlace := ["internal/bytealg.IndexByteString"], unfollowed := true, recurses := true, apart := false }
def FrameDoneSaid : Prop := frameDoneRow.holds Try.pinned (OpenSpec.ofChange frameDoneSpec)

/-- ITS FALSE NEIGHBOUR: 'it returns false'. Refute it at one input. -/
def frameDoneWrong : ChangeSpec := { name := "frameDone", fn := fun _ => fun
  | [d1, d2, d3, d4, d5] => { results := [.lit (.bool false)], args := [d1, d2, d3, d4, d5] }
  | _ => none }
def FrameDoneWrongFalsely : Prop := frameDoneRow.holds Try.pinned (OpenSpec.ofChange frameDoneWrong)

/-- 'tollbarlaw24.TaskPasses': WHATEVER THE INPUT: true; the input reads as it did. -/
def taskPassesSpec : ChangeSpec := { name := "taskPasses", fn := fun _ => fun
  | [d1, d2, d3, d4] => { results := [.lit (.bool true)], args := [d1, d2, d3, d4] }
  | _ => none }
def taskPassesRow : OpenClaim := { program := "ytljfloopjgpaeaa", sum := "46aaef17ee4168253428e4ff8533b7625db3c802bf9e800b5f543cd7ec946682", func := "tollbar/tollbarlaw24.TaskPasses", spec := "taskPasses", inPlace := ["internal/bytealg.IndexByteString"], unfollowed := true, recurses := true, apart := false }
def TaskPassesSaid : Prop := taskPassesRow.holds Try.pinned (OpenSpec.ofChange taskPassesSpec)

/-- ITS FALSE NEIGHBOUR: 'it returns false'. Refute it at one input. -/
def taskPassesWrong : ChangeSpec := { name := "taskPasses", fn := fun _ => fun
  | [d1, d2, d3, d4] => { results := [.lit (.bool false)], args := [d1, d2, d3, d4] }
  | _ => none }
def TaskPassesWrongFalsely : Prop := taskPassesRow.holds Try.pinned (OpenSpec.ofChange taskPassesWrong)

/- THE SECOND FORM. 'bulk': how many values and letters a reading holds, each counted each time it is reached (what is shared counts as often as it is met; a slice's spare places count too). A statement '..UptoSaid' is the law's where the arguments, and the package variables that the reading takes, are together of bulk at most 1048576: NARROWER than '..Said'. Prove '..Said' where nothing that the law and all that it calls make is longer than what came in: it says more and counts as full. Else prove '..UptoSaid'. A law counts once. -/
mutual
def uptoBulk {H : Type} : DataW H → Nat
  | .lit (.string bytes) => bytes.length + 1
  | .lit _ => 1
  | .nil => 1
  | .ptr d => uptoBulk d + 1
  | .slice elems spare => uptoBulkAll elems + uptoBulkAll spare + 1
  | .agg parts => uptoBulkAll parts + 1
  | .iface _ d => uptoBulk d + 1
  | .map entries => uptoBulkEntries entries + 1
  | .held _ => 1
def uptoBulkAll {H : Type} : List (DataW H) → Nat
  | [] => 0
  | d :: r => uptoBulk d + uptoBulkAll r
def uptoBulkEntries {H : Type} : List (Lit × DataW H) → Nat
  | [] => 0
  | x :: r => uptoBulkEntry x + uptoBulkEntries r
def uptoBulkEntry {H : Type} : Lit × DataW H → Nat
  | (.string bytes, d) => bytes.length + uptoBulk d + 1
  | (_, d) => uptoBulk d + 1
 end
def uptoSmall : (H : Type) → List (DataW H) → Bool := fun _ ds => decide (uptoBulkAll ds ≤ 1048576)
def OpenSpec.upto (s : _root_.Go.ChangeSpec) : _root_.Go.OpenSpec := { _root_.Go.OpenSpec.ofChange s with cond := some uptoSmall }

/-- 'tollbarlaw27.MailOnce', WHERE WHAT IT READS IS OF BULK AT MOST 1048576: true; the input reads as it did. -/
def mailOnceUptoRow : OpenClaim := { program := "ytljfloopjgpaeaa", sum := "46aaef17ee4168253428e4ff8533b7625db3c802bf9e800b5f543cd7ec946682", func := "tollbar/tollbarlaw27.MailOnce", spec := "mailOnce", unfollowed := true, recurses := true, apart := false, narrowed := true }
def MailOnceUptoSaid : Prop := mailOnceUptoRow.holds Try.pinned (OpenSpec.upto mailOnceSpec)

/-- 'tollbarlaw27.MailDone', WHERE WHAT IT READS IS OF BULK AT MOST 1048576: true; the input reads as it did. -/
def mailDoneUptoRow : OpenClaim := { program := "ytljfloopjgpaeaa", sum := "46aaef17ee4168253428e4ff8533b7625db3c802bf9e800b5f543cd7ec946682", func := "tollbar/tollbarlaw27.MailDone", spec := "mailDone", inPlace := ["internal/bytealg.IndexByteString"], unfollowed := true, recurses := true, apart := false, narrowed := true }
def MailDoneUptoSaid : Prop := mailDoneUptoRow.holds Try.pinned (OpenSpec.upto mailDoneSpec)

/-- 'tollbarlaw11.ProgNext', WHERE WHAT IT READS IS OF BULK AT MOST 1048576: true; the input reads as it did. -/
def progNextUptoRow : OpenClaim := { program := "ytljfloopjgpaeaa", sum := "46aaef17ee4168253428e4ff8533b7625db3c802bf9e800b5f543cd7ec946682", func := "tollbar/tollbarlaw11.ProgNext", spec := "progNext", inPlace := ["internal/bytealg.IndexByteString"], unfollowed := true, recurses := true, apart := false, narrowed := true }
def ProgNextUptoSaid : Prop := progNextUptoRow.holds Try.pinned (OpenSpec.upto progNextSpec)

/-- 'tollbarlaw11.ProgGrows', WHERE WHAT IT READS IS OF BULK AT MOST 1048576: true; the input reads as it did. -/
def progGrowsUptoRow : OpenClaim := { program := "ytljfloopjgpaeaa", sum := "46aaef17ee4168253428e4ff8533b7625db3c802bf9e800b5f543cd7ec946682", func := "tollbar/tollbarlaw11.ProgGrows", spec := "progGrows", inPlace := ["internal/bytealg.IndexByteString"], unfollowed := true, recurses := true, apart := false, narrowed := true }
def ProgGrowsUptoSaid : Prop := progGrowsUptoRow.holds Try.pinned (OpenSpec.upto progGrowsSpec)

/-- 'tollbarlaw11.ProgCopy', WHERE WHAT IT READS IS OF BULK AT MOST 1048576: true; the input reads as it did. -/
def progCopyUptoRow : OpenClaim := { program := "ytljfloopjgpaeaa", sum := "46aaef17ee4168253428e4ff8533b7625db3c802bf9e800b5f543cd7ec946682", func := "tollbar/tollbarlaw11.ProgCopy", spec := "progCopy", inPlace := ["internal/bytealg.IndexByteString"], unfollowed := true, recurses := true, apart := false, narrowed := true }
def ProgCopyUptoSaid : Prop := progCopyUptoRow.holds Try.pinned (OpenSpec.upto progCopySpec)

/-- 'tollbarlaw13.FrameTells', WHERE WHAT IT READS IS OF BULK AT MOST 1048576: true; the input reads as it did. -/
def frameTellsUptoRow : OpenClaim := { program := "ytljfloopjgpaeaa", sum := "46aaef17ee4168253428e4ff8533b7625db3c802bf9e800b5f543cd7ec946682", func := "tollbar/tollbarlaw13.FrameTells", spec := "frameTells", inPlace := ["internal/bytealg.IndexByteString"], unfollowed := true, recurses := true, apart := false, narrowed := true }
def FrameTellsUptoSaid : Prop := frameTellsUptoRow.holds Try.pinned (OpenSpec.upto frameTellsSpec)

/-- 'tollbarlaw13.FrameRuns', WHERE WHAT IT READS IS OF BULK AT MOST 1048576: true; the input reads as it did. -/
def frameRunsUptoRow : OpenClaim := { program := "ytljfloopjgpaeaa", sum := "46aaef17ee4168253428e4ff8533b7625db3c802bf9e800b5f543cd7ec946682", func := "tollbar/tollbarlaw13.FrameRuns", spec := "frameRuns", inPlace := ["internal/bytealg.IndexByteString"], unfollowed := true, recurses := true, apart := false, narrowed := true }
def FrameRunsUptoSaid : Prop := frameRunsUptoRow.holds Try.pinned (OpenSpec.upto frameRunsSpec)

/-- 'tollbarlaw13.FrameMore', WHERE WHAT IT READS IS OF BULK AT MOST 1048576: true; the input reads as it did. -/
def frameMoreUptoRow : OpenClaim := { program := "ytljfloopjgpaeaa", sum := "46aaef17ee4168253428e4ff8533b7625db3c802bf9e800b5f543cd7ec946682", func := "tollbar/tollbarlaw13.FrameMore", spec := "frameMore", inPlace := ["internal/bytealg.IndexByteString"], unfollowed := true, recurses := true, apart := false, narrowed := true }
def FrameMoreUptoSaid : Prop := frameMoreUptoRow.holds Try.pinned (OpenSpec.upto frameMoreSpec)

/-- 'tollbarlaw13.FrameDone', WHERE WHAT IT READS IS OF BULK AT MOST 1048576: true; the input reads as it did. -/
def frameDoneUptoRow : OpenClaim := { program := "ytljfloopjgpaeaa", sum := "46aaef17ee4168253428e4ff8533b7625db3c802bf9e800b5f543cd7ec946682", func := "tollbar/tollbarlaw13.FrameDone", spec := "frameDone", inPlace := ["internal/bytealg.IndexByteString"], unfollowed := true, recurses := true, apart := false, narrowed := true }
def FrameDoneUptoSaid : Prop := frameDoneUptoRow.holds Try.pinned (OpenSpec.upto frameDoneSpec)

/-- 'tollbarlaw24.TaskPasses', WHERE WHAT IT READS IS OF BULK AT MOST 1048576: true; the input reads as it did. -/
def taskPassesUptoRow : OpenClaim := { program := "ytljfloopjgpaeaa", sum := "46aaef17ee4168253428e4ff8533b7625db3c802bf9e800b5f543cd7ec946682", func := "tollbar/tollbarlaw24.TaskPasses", spec := "taskPasses", inPlace := ["internal/bytealg.IndexByteString"], unfollowed := true, recurses := true, apart := false, narrowed := true }
def TaskPassesUptoSaid : Prop := taskPassesUptoRow.holds Try.pinned (OpenSpec.upto taskPassesSpec)

end Rows
end Go.Proofs.Ytljfloopjgpaeaa
