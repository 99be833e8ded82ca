/-
  No cell of these rows narrows 'for every input' (looked for: loops, veiled, ifaces, maps, wideKeys, modest, calm, conditions, laid).
  DERIVED. THE GIVEN ROWS OF THIS SEAT. 6 by the template 'for every input the law returns true; each argument reads behind the call as it read before'; 0 by the template 'total and deterministic' (their statements: YtdkccaiahgfjoaaTotals.lean).
  GIVEN WITH THE SEED: the statements are not yours to turn. If you find one false, say at which input.
  Laid BY PROGRAM, IN A SANDBOX (cutbox-rows.mjs): the forced cells as the released guide's own fill.sh prints them over the translation 28c19eb3daefdcb2… (all of the seat's roots in one cut). By AI agents, Wed Nov 11 2026. No macro, syntax, notation, axiom, sorry.
-/
import Derived.Test.YtdkccaiahgfjoaaChecked
import GoSem.Claim
import GoSem.ClaimJoined
import GoSem.ClaimMapViews
import Derived.JoinedTies
import Derived.KernelRfl
namespace Go.Proofs.Ytdkccaiahgfjoaa
/- THE CELL 'sum', in the pinned program and in every row, IS THE sha256 OF THE DUMP (.gsa) THAT YtdkccaiahgfjoaaProg.lean LOADS. Nothing in Lean hashes anything: it is a label: what it is worth is what the hold of that sum in a sandbox is worth. -/
noncomputable def Try.pinned : Pinned := { name := "ytdkccaiahgfjoaa", sum := "28c19eb3daefdcb2d7bf5bc08e01e2d245eb1571977f3d4abd93212b458bc0e5", checked := Try.checked }
namespace Rows
def none {H : Type} : Left H := { results := [], args := [] }

/-- 'munimentslaw19.FilesMany': WHATEVER THE INPUT: true; the input reads as it did. -/
def filesManySpec : ChangeSpec := { name := "filesMany", fn := fun _ => fun
  | [d1, d2] => { results := [.lit (.bool true)], args := [d1, d2] }
  | _ => none }
def filesManyRow : OpenClaim := { program := "ytdkccaiahgfjoaa", sum := "28c19eb3daefdcb2d7bf5bc08e01e2d245eb1571977f3d4abd93212b458bc0e5", func := "muniments/munimentslaw19.FilesMany", spec := "filesMany", inPlace := ["maps.clone"], unfollowed := true, recurses := true, apart := false }
def FilesManySaid : Prop := filesManyRow.holds Try.pinned (OpenSpec.ofChange filesManySpec)

/-- ITS FALSE NEIGHBOUR: 'it returns false'. Refute it at one input. -/
def filesManyWrong : ChangeSpec := { name := "filesMany", fn := fun _ => fun
  | [d1, d2] => { results := [.lit (.bool false)], args := [d1, d2] }
  | _ => none }
def FilesManyWrongFalsely : Prop := filesManyRow.holds Try.pinned (OpenSpec.ofChange filesManyWrong)

/-- 'munimentslaw19.FilesKeep': WHATEVER THE INPUT: true; the input reads as it did. -/
def filesKeepSpec : ChangeSpec := { name := "filesKeep", fn := fun _ => fun
  | [d1, d2, d3, d4] => { results := [.lit (.bool true)], args := [d1, d2, d3, d4] }
  | _ => none }
def filesKeepRow : OpenClaim := { program := "ytdkccaiahgfjoaa", sum := "28c19eb3daefdcb2d7bf5bc08e01e2d245eb1571977f3d4abd93212b458bc0e5", func := "muniments/munimentslaw19.FilesKeep", spec := "filesKeep", inPlace := ["maps.clone"], unfollowed := true, recurses := true, apart := false }
def FilesKeepSaid : Prop := filesKeepRow.holds Try.pinned (OpenSpec.ofChange filesKeepSpec)

/-- ITS FALSE NEIGHBOUR: 'it returns false'. Refute it at one input. -/
def filesKeepWrong : ChangeSpec := { name := "filesKeep", fn := fun _ => fun
  | [d1, d2, d3, d4] => { results := [.lit (.bool false)], args := [d1, d2, d3, d4] }
  | _ => none }
def FilesKeepWrongFalsely : Prop := filesKeepRow.holds Try.pinned (OpenSpec.ofChange filesKeepWrong)

/-- 'munimentslaw19.FilesCut': WHATEVER THE INPUT: true; the input reads as it did. -/
def filesCutSpec : ChangeSpec := { name := "filesCut", fn := fun _ => fun
  | [d1, d2, d3] => { results := [.lit (.bool true)], args := [d1, d2, d3] }
  | _ => none }
def filesCutRow : OpenClaim := { program := "ytdkccaiahgfjoaa", sum := "28c19eb3daefdcb2d7bf5bc08e01e2d245eb1571977f3d4abd93212b458bc0e5", func := "muniments/munimentslaw19.FilesCut", spec := "filesCut", inPlace := ["maps.clone"], unfollowed := true, recurses := true, apart := false }
def FilesCutSaid : Prop := filesCutRow.holds Try.pinned (OpenSpec.ofChange filesCutSpec)

/-- ITS FALSE NEIGHBOUR: 'it returns false'. Refute it at one input. -/
def filesCutWrong : ChangeSpec := { name := "filesCut", fn := fun _ => fun
  | [d1, d2, d3] => { results := [.lit (.bool false)], args := [d1, d2, d3] }
  | _ => none }
def FilesCutWrongFalsely : Prop := filesCutRow.holds Try.pinned (OpenSpec.ofChange filesCutWrong)

/-- 'munimentslaw19.FilesPlans': WHATEVER THE INPUT: true; the input reads as it did. -/
def filesPlansSpec : ChangeSpec := { name := "filesPlans", fn := fun _ => fun
  | [d1, d2, d3] => { results := [.lit (.bool true)], args := [d1, d2, d3] }
  | _ => none }
def filesPlansRow : OpenClaim := { program := "ytdkccaiahgfjoaa", sum := "28c19eb3daefdcb2d7bf5bc08e01e2d245eb1571977f3d4abd93212b458bc0e5", func := "muniments/munimentslaw19.FilesPlans", spec := "filesPlans", inPlace := ["maps.clone"], unfollowed := true, recurses := true, apart := false }
def FilesPlansSaid : Prop := filesPlansRow.holds Try.pinned (OpenSpec.ofChange filesPlansSpec)

/-- ITS FALSE NEIGHBOUR: 'it returns false'. Refute it at one input. -/
def filesPlansWrong : ChangeSpec := { name := "filesPlans", fn := fun _ => fun
  | [d1, d2, d3] => { results := [.lit (.bool false)], args := [d1, d2, d3] }
  | _ => none }
def FilesPlansWrongFalsely : Prop := filesPlansRow.holds Try.pinned (OpenSpec.ofChange filesPlansWrong)

/-- 'munimentslaw19.FilesRename': WHATEVER THE INPUT: true; the input reads as it did. -/
def filesRenameSpec : ChangeSpec := { name := "filesRename", fn := fun _ => fun
  | [d1, d2, d3, d4, d5] => { results := [.lit (.bool true)], args := [d1, d2, d3, d4, d5] }
  | _ => none }
def filesRenameRow : OpenClaim := { program := "ytdkccaiahgfjoaa", sum := "28c19eb3daefdcb2d7bf5bc08e01e2d245eb1571977f3d4abd93212b458bc0e5", func := "muniments/munimentslaw19.FilesRename", spec := "filesRename", inPlace := ["maps.clone"], unfollowed := true, recurses := true, apart := false }
def FilesRenameSaid : Prop := filesRenameRow.holds Try.pinned (OpenSpec.ofChange filesRenameSpec)

/-- ITS FALSE NEIGHBOUR: 'it returns false'. Refute it at one input. -/
def filesRenameWrong : ChangeSpec := { name := "filesRename", fn := fun _ => fun
  | [d1, d2, d3, d4, d5] => { results := [.lit (.bool false)], args := [d1, d2, d3, d4, d5] }
  | _ => none }
def FilesRenameWrongFalsely : Prop := filesRenameRow.holds Try.pinned (OpenSpec.ofChange filesRenameWrong)

/-- 'munimentslaw19.FilesPlay': WHATEVER THE INPUT: true; the input reads as it did. -/
def filesPlaySpec : ChangeSpec := { name := "filesPlay", fn := fun _ => fun
  | [d] => { results := [.lit (.bool true)], args := [d] }
  | _ => none }
def filesPlayRow : OpenClaim := { program := "ytdkccaiahgfjoaa", sum := "28c19eb3daefdcb2d7bf5bc08e01e2d245eb1571977f3d4abd93212b458bc0e5", func := "muniments/munimentslaw19.FilesPlay", spec := "filesPlay", inPlace := ["maps.clone"], unfollowed := true, recurses := true, apart := false }
def FilesPlaySaid : Prop := filesPlayRow.holds Try.pinned (OpenSpec.ofChange filesPlaySpec)

/-- ITS FALSE NEIGHBOUR: 'it returns false'. Refute it at one input. -/
def filesPlayWrong : ChangeSpec := { name := "filesPlay", fn := fun _ => fun
  | [d] => { results := [.lit (.bool false)], args := [d] }
  | _ => none }
def FilesPlayWrongFalsely : Prop := filesPlayRow.holds Try.pinned (OpenSpec.ofChange filesPlayWrong)

/- THE SECOND FORM. 'bulk': how many values and letters a reading holds, each counted each time it is reached (what is shared counts as often as it is met; a slice's spare places count too). A statement '..UptoSaid' is the law's where the arguments, and the package variables that the reading takes, are together of bulk at most 1048576: NARROWER than '..Said'. Prove '..Said' where nothing that the law and all that it calls make is longer than what came in: it says more and counts as full. Else prove '..UptoSaid'. A law counts once. -/
mutual
def uptoBulk {H : Type} : DataW H → Nat
  | .lit (.string bytes) => bytes.length + 1
  | .lit _ => 1
  | .nil => 1
  | .ptr d => uptoBulk d + 1
  | .slice elems spare => uptoBulkAll elems + uptoBulkAll spare + 1
  | .agg parts => uptoBulkAll parts + 1
  | .iface _ d => uptoBulk d + 1
  | .map entries => uptoBulkEntries entries + 1
  | .held _ => 1
def uptoBulkAll {H : Type} : List (DataW H) → Nat
  | [] => 0
  | d :: r => uptoBulk d + uptoBulkAll r
def uptoBulkEntries {H : Type} : List (Lit × DataW H) → Nat
  | [] => 0
  | x :: r => uptoBulkEntry x + uptoBulkEntries r
def uptoBulkEntry {H : Type} : Lit × DataW H → Nat
  | (.string bytes, d) => bytes.length + uptoBulk d + 1
  | (_, d) => uptoBulk d + 1
 end
def uptoSmall : (H : Type) → List (DataW H) → Bool := fun _ ds => decide (uptoBulkAll ds ≤ 1048576)
def OpenSpec.upto (s : _root_.Go.ChangeSpec) : _root_.Go.OpenSpec := { _root_.Go.OpenSpec.ofChange s with cond := some uptoSmall }

/-- 'munimentslaw19.FilesMany', WHERE WHAT IT READS IS OF BULK AT MOST 1048576: true; the input reads as it did. -/
def filesManyUptoRow : OpenClaim := { program := "ytdkccaiahgfjoaa", sum := "28c19eb3daefdcb2d7bf5bc08e01e2d245eb1571977f3d4abd93212b458bc0e5", func := "muniments/munimentslaw19.FilesMany", spec := "filesMany", inPlace := ["maps.clone"], unfollowed := true, recurses := true, apart := false, narrowed := true }
def FilesManyUptoSaid : Prop := filesManyUptoRow.holds Try.pinned (OpenSpec.upto filesManySpec)

/-- 'munimentslaw19.FilesKeep', WHERE WHAT IT READS IS OF BULK AT MOST 1048576: true; the input reads as it did. -/
def filesKeepUptoRow : OpenClaim := { program := "ytdkccaiahgfjoaa", sum := "28c19eb3daefdcb2d7bf5bc08e01e2d245eb1571977f3d4abd93212b458bc0e5", func := "muniments/munimentslaw19.FilesKeep", spec := "filesKeep", inPlace := ["maps.clone"], unfollowed := true, recurses := true, apart := false, narrowed := true }
def FilesKeepUptoSaid : Prop := filesKeepUptoRow.holds Try.pinned (OpenSpec.upto filesKeepSpec)

/-- 'munimentslaw19.FilesCut', WHERE WHAT IT READS IS OF BULK AT MOST 1048576: true; the input reads as it did. -/
def filesCutUptoRow : OpenClaim := { program := "ytdkccaiahgfjoaa", sum := "28c19eb3daefdcb2d7bf5bc08e01e2d245eb1571977f3d4abd93212b458bc0e5", func := "muniments/munimentslaw19.FilesCut", spec := "filesCut", inPlace := ["maps.clone"], unfollowed := true, recurses := true, apart := false, narrowed := true }
def FilesCutUptoSaid : Prop := filesCutUptoRow.holds Try.pinned (OpenSpec.upto filesCutSpec)

/-- 'munimentslaw19.FilesPlans', WHERE WHAT IT READS IS OF BULK AT MOST 1048576: true; the input reads as it did. -/
def filesPlansUptoRow : OpenClaim := { program := "ytdkccaiahgfjoaa", sum := "28c19eb3daefdcb2d7bf5bc08e01e2d245eb1571977f3d4abd93212b458bc0e5", func := "muniments/munimentslaw19.FilesPlans", spec := "filesPlans", inPlace := ["maps.clone"], unfollowed := true, recurses := true, apart := false, narrowed := true }
def FilesPlansUptoSaid : Prop := filesPlansUptoRow.holds Try.pinned (OpenSpec.upto filesPlansSpec)

/-- 'munimentslaw19.FilesRename', WHERE WHAT IT READS IS OF BULK AT MOST 1048576: true; the input reads as it did. -/
def filesRenameUptoRow : OpenClaim := { program := "ytdkccaiahgfjoaa", sum := "28c19eb3daefdcb2d7bf5bc08e01e2d245eb1571977f3d4abd93212b458bc0e5", func := "muniments/munimentslaw19.FilesRename", spec := "filesRename", inPlace := ["maps.clone"], unfollowed := true, recurses := true, apart := false, narrowed := true }
def FilesRenameUptoSaid : Prop := filesRenameUptoRow.holds Try.pinned (OpenSpec.upto filesRenameSpec)

/-- 'munimentslaw19.FilesPlay', WHERE WHAT IT READS IS OF BULK AT MOST 1048576: true; the input reads as it did. -/
def filesPlayUptoRow : OpenClaim := { program := "ytdkccaiahgfjoaa", sum := "28c19eb3daefdcb2d7bf5bc08e01e2d245eb1571977f3d4abd93212b458bc0e5", func := "muniments/munimentslaw19.FilesPlay", spec := "filesPlay", inPlace := ["maps.clone"], unfollowed := true, recurses := true, apart := false, narrowed := true }
def FilesPlayUptoSaid : Prop := filesPlayUptoRow.holds Try.pinned (OpenSpec.upto filesPlaySpec)

end Rows
end Go.Proofs.Ytdkccaiahgfjoaa
