/-
  No cell of these rows narrows 'for every input' (looked for: loops, veiled, ifaces, maps, wideKeys, modest, calm, conditions, laid).
  DERIVED. THE GIVEN ROWS OF THIS SEAT. 13 by the template 'for every input the law returns true; each argument reads behind the call as it read before'; 0 by the template 'total and deterministic' (their statements: YtmaaejicfpfcdaaTotals.lean).
  GIVEN WITH THE SEED: the statements are not yours to turn. If you find one false, say at which input.
  Laid BY PROGRAM, IN A SANDBOX (cutbox-rows.mjs): the forced cells as the released guide's own fill.sh prints them over the translation 55c958edd802255f… (all of the seat's roots in one cut). By AI agents, Wed Nov 11 2026. No macro, syntax, notation, axiom, sorry.
-/
import Derived.Test.YtmaaejicfpfcdaaChecked
import GoSem.Claim
import GoSem.ClaimJoined
import GoSem.ClaimMapViews
import Derived.JoinedTies
import Derived.KernelRfl
namespace Go.Proofs.Ytmaaejicfpfcdaa
/- THE CELL 'sum', in the pinned program and in every row, IS THE sha256 OF THE DUMP (.gsa) THAT YtmaaejicfpfcdaaProg.lean LOADS. Nothing in Lean hashes anything: it is a label: what it is worth is what the hold of that sum in a sandbox is worth. -/
noncomputable def Try.pinned : Pinned := { name := "ytmaaejicfpfcdaa", sum := "55c958edd802255fae5fa194d71238161f957e4c70c62c5c56a53694b864b5fb", checked := Try.checked }
namespace Rows
def none {H : Type} : Left H := { results := [], args := [] }

/-- 'munimentslaw20.CrcSums': WHATEVER THE INPUT: true; the input reads as it did. -/
def crcSumsSpec : ChangeSpec := { name := "crcSums", fn := fun _ => fun
  | [d] => { results := [.lit (.bool true)], args := [d] }
  | _ => none }
def crcSumsRow : OpenClaim := { program := "ytmaaejicfpfcdaa", sum := "55c958edd802255fae5fa194d71238161f957e4c70c62c5c56a53694b864b5fb", func := "muniments/munimentslaw20.CrcSums", spec := "crcSums", apart := false }
def CrcSumsSaid : Prop := crcSumsRow.holds Try.pinned (OpenSpec.ofChange crcSumsSpec)

/-- ITS FALSE NEIGHBOUR: 'it returns false'. Refute it at one input. -/
def crcSumsWrong : ChangeSpec := { name := "crcSums", fn := fun _ => fun
  | [d] => { results := [.lit (.bool false)], args := [d] }
  | _ => none }
def CrcSumsWrongFalsely : Prop := crcSumsRow.holds Try.pinned (OpenSpec.ofChange crcSumsWrong)

/-- 'munimentslaw20.CrcTurned': WHATEVER THE INPUT: true; the input reads as it did. -/
def crcTurnedSpec : ChangeSpec := { name := "crcTurned", fn := fun _ => fun
  | [d1, d2, d3] => { results := [.lit (.bool true)], args := [d1, d2, d3] }
  | _ => none }
def crcTurnedRow : OpenClaim := { program := "ytmaaejicfpfcdaa", sum := "55c958edd802255fae5fa194d71238161f957e4c70c62c5c56a53694b864b5fb", func := "muniments/munimentslaw20.CrcTurned", spec := "crcTurned", apart := false }
def CrcTurnedSaid : Prop := crcTurnedRow.holds Try.pinned (OpenSpec.ofChange crcTurnedSpec)

/-- ITS FALSE NEIGHBOUR: 'it returns false'. Refute it at one input. -/
def crcTurnedWrong : ChangeSpec := { name := "crcTurned", fn := fun _ => fun
  | [d1, d2, d3] => { results := [.lit (.bool false)], args := [d1, d2, d3] }
  | _ => none }
def CrcTurnedWrongFalsely : Prop := crcTurnedRow.holds Try.pinned (OpenSpec.ofChange crcTurnedWrong)

/-- 'munimentslaw21.RecordSizes': WHATEVER THE INPUT: true; the input reads as it did. -/
def recordSizesSpec : ChangeSpec := { name := "recordSizes", fn := fun _ => fun
  | [d1, d2, d3] => { results := [.lit (.bool true)], args := [d1, d2, d3] }
  | _ => none }
def recordSizesRow : OpenClaim := { program := "ytmaaejicfpfcdaa", sum := "55c958edd802255fae5fa194d71238161f957e4c70c62c5c56a53694b864b5fb", func := "muniments/munimentslaw21.RecordSizes", spec := "recordSizes", apart := false }
def RecordSizesSaid : Prop := recordSizesRow.holds Try.pinned (OpenSpec.ofChange recordSizesSpec)

/-- ITS FALSE NEIGHBOUR: 'it returns false'. Refute it at one input. -/
def recordSizesWrong : ChangeSpec := { name := "recordSizes", fn := fun _ => fun
  | [d1, d2, d3] => { results := [.lit (.bool false)], args := [d1, d2, d3] }
  | _ => none }
def RecordSizesWrongFalsely : Prop := recordSizesRow.holds Try.pinned (OpenSpec.ofChange recordSizesWrong)

/-- 'munimentslaw21.RecordPacks': WHATEVER THE INPUT: true; the input reads as it did. -/
def recordPacksSpec : ChangeSpec := { name := "recordPacks", fn := fun _ => fun
  | [d1, d2] => { results := [.lit (.bool true)], args := [d1, d2] }
  | _ => none }
def recordPacksRow : OpenClaim := { program := "ytmaaejicfpfcdaa", sum := "55c958edd802255fae5fa194d71238161f957e4c70c62c5c56a53694b864b5fb", func := "muniments/munimentslaw21.RecordPacks", spec := "recordPacks", apart := false }
def RecordPacksSaid : Prop := recordPacksRow.holds Try.pinned (OpenSpec.ofChange recordPacksSpec)

/-- ITS FALSE NEIGHBOUR: 'it returns false'. Refute it at one input. -/
def recordPacksWrong : ChangeSpec := { name := "recordPacks", fn := fun _ => fun
  | [d1, d2] => { results := [.lit (.bool false)], args := [d1, d2] }
  | _ => none }
def RecordPacksWrongFalsely : Prop := recordPacksRow.holds Try.pinned (OpenSpec.ofChange recordPacksWrong)

/-- 'munimentslaw21.RecordReads': WHATEVER THE INPUT: true; the input reads as it did. -/
def recordReadsSpec : ChangeSpec := { name := "recordReads", fn := fun _ => fun
  | [d] => { results := [.lit (.bool true)], args := [d] }
  | _ => none }
def recordReadsRow : OpenClaim := { program := "ytmaaejicfpfcdaa", sum := "55c958edd802255fae5fa194d71238161f957e4c70c62c5c56a53694b864b5fb", func := "muniments/munimentslaw21.RecordReads", spec := "recordReads", apart := false }
def RecordReadsSaid : Prop := recordReadsRow.holds Try.pinned (OpenSpec.ofChange recordReadsSpec)

/-- ITS FALSE NEIGHBOUR: 'it returns false'. Refute it at one input. -/
def recordReadsWrong : ChangeSpec := { name := "recordReads", fn := fun _ => fun
  | [d] => { results := [.lit (.bool false)], args := [d] }
  | _ => none }
def RecordReadsWrongFalsely : Prop := recordReadsRow.holds Try.pinned (OpenSpec.ofChange recordReadsWrong)

/-- 'munimentslaw21.RecordTurned': WHATEVER THE INPUT: true; the input reads as it did. -/
def recordTurnedSpec : ChangeSpec := { name := "recordTurned", fn := fun _ => fun
  | [d1, d2, d3] => { results := [.lit (.bool true)], args := [d1, d2, d3] }
  | _ => none }
def recordTurnedRow : OpenClaim := { program := "ytmaaejicfpfcdaa", sum := "55c958edd802255fae5fa194d71238161f957e4c70c62c5c56a53694b864b5fb", func := "muniments/munimentslaw21.RecordTurned", spec := "recordTurned", apart := false }
def RecordTurnedSaid : Prop := recordTurnedRow.holds Try.pinned (OpenSpec.ofChange recordTurnedSpec)

/-- ITS FALSE NEIGHBOUR: 'it returns false'. Refute it at one input. -/
def recordTurnedWrong : ChangeSpec := { name := "recordTurned", fn := fun _ => fun
  | [d1, d2, d3] => { results := [.lit (.bool false)], args := [d1, d2, d3] }
  | _ => none }
def RecordTurnedWrongFalsely : Prop := recordTurnedRow.holds Try.pinned (OpenSpec.ofChange recordTurnedWrong)

/-- 'munimentslaw21.RecordRows': WHATEVER THE INPUT: true; the input reads as it did. -/
def recordRowsSpec : ChangeSpec := { name := "recordRows", fn := fun _ => fun
  | [d1, d2] => { results := [.lit (.bool true)], args := [d1, d2] }
  | _ => none }
def recordRowsRow : OpenClaim := { program := "ytmaaejicfpfcdaa", sum := "55c958edd802255fae5fa194d71238161f957e4c70c62c5c56a53694b864b5fb", func := "muniments/munimentslaw21.RecordRows", spec := "recordRows", apart := false }
def RecordRowsSaid : Prop := recordRowsRow.holds Try.pinned (OpenSpec.ofChange recordRowsSpec)

/-- ITS FALSE NEIGHBOUR: 'it returns false'. Refute it at one input. -/
def recordRowsWrong : ChangeSpec := { name := "recordRows", fn := fun _ => fun
  | [d1, d2] => { results := [.lit (.bool false)], args := [d1, d2] }
  | _ => none }
def RecordRowsWrongFalsely : Prop := recordRowsRow.holds Try.pinned (OpenSpec.ofChange recordRowsWrong)

/-- 'munimentslaw22.ReplayReads': WHATEVER THE INPUT: true; the input reads as it did. -/
def replayReadsSpec : ChangeSpec := { name := "replayReads", fn := fun _ => fun
  | [d] => { results := [.lit (.bool true)], args := [d] }
  | _ => none }
def replayReadsRow : OpenClaim := { program := "ytmaaejicfpfcdaa", sum := "55c958edd802255fae5fa194d71238161f957e4c70c62c5c56a53694b864b5fb", func := "muniments/munimentslaw22.ReplayReads", spec := "replayReads", apart := false }
def ReplayReadsSaid : Prop := replayReadsRow.holds Try.pinned (OpenSpec.ofChange replayReadsSpec)

/-- ITS FALSE NEIGHBOUR: 'it returns false'. Refute it at one input. -/
def replayReadsWrong : ChangeSpec := { name := "replayReads", fn := fun _ => fun
  | [d] => { results := [.lit (.bool false)], args := [d] }
  | _ => none }
def ReplayReadsWrongFalsely : Prop := replayReadsRow.holds Try.pinned (OpenSpec.ofChange replayReadsWrong)

/-- 'munimentslaw22.ReplayCuts': WHATEVER THE INPUT: true; the input reads as it did. -/
def replayCutsSpec : ChangeSpec := { name := "replayCuts", fn := fun _ => fun
  | [d1, d2] => { results := [.lit (.bool true)], args := [d1, d2] }
  | _ => none }
def replayCutsRow : OpenClaim := { program := "ytmaaejicfpfcdaa", sum := "55c958edd802255fae5fa194d71238161f957e4c70c62c5c56a53694b864b5fb", func := "muniments/munimentslaw22.ReplayCuts", spec := "replayCuts", apart := false }
def ReplayCutsSaid : Prop := replayCutsRow.holds Try.pinned (OpenSpec.ofChange replayCutsSpec)

/-- ITS FALSE NEIGHBOUR: 'it returns false'. Refute it at one input. -/
def replayCutsWrong : ChangeSpec := { name := "replayCuts", fn := fun _ => fun
  | [d1, d2] => { results := [.lit (.bool false)], args := [d1, d2] }
  | _ => none }
def ReplayCutsWrongFalsely : Prop := replayCutsRow.holds Try.pinned (OpenSpec.ofChange replayCutsWrong)

/-- 'munimentslaw22.ReplayAppends': WHATEVER THE INPUT: true; the input reads as it did. -/
def replayAppendsSpec : ChangeSpec := { name := "replayAppends", fn := fun _ => fun
  | [d1, d2, d3, d4] => { results := [.lit (.bool true)], args := [d1, d2, d3, d4] }
  | _ => none }
def replayAppendsRow : OpenClaim := { program := "ytmaaejicfpfcdaa", sum := "55c958edd802255fae5fa194d71238161f957e4c70c62c5c56a53694b864b5fb", func := "muniments/munimentslaw22.ReplayAppends", spec := "replayAppends", apart := false }
def ReplayAppendsSaid : Prop := replayAppendsRow.holds Try.pinned (OpenSpec.ofChange replayAppendsSpec)

/-- ITS FALSE NEIGHBOUR: 'it returns false'. Refute it at one input. -/
def replayAppendsWrong : ChangeSpec := { name := "replayAppends", fn := fun _ => fun
  | [d1, d2, d3, d4] => { results := [.lit (.bool false)], args := [d1, d2, d3, d4] }
  | _ => none }
def ReplayAppendsWrongFalsely : Prop := replayAppendsRow.holds Try.pinned (OpenSpec.ofChange replayAppendsWrong)

/-- 'munimentslaw22.ReplayCounts': WHATEVER THE INPUT: true; the input reads as it did. -/
def replayCountsSpec : ChangeSpec := { name := "replayCounts", fn := fun _ => fun
  | [d1, d2, d3] => { results := [.lit (.bool true)], args := [d1, d2, d3] }
  | _ => none }
def replayCountsRow : OpenClaim := { program := "ytmaaejicfpfcdaa", sum := "55c958edd802255fae5fa194d71238161f957e4c70c62c5c56a53694b864b5fb", func := "muniments/munimentslaw22.ReplayCounts", spec := "replayCounts", apart := false }
def ReplayCountsSaid : Prop := replayCountsRow.holds Try.pinned (OpenSpec.ofChange replayCountsSpec)

/-- ITS FALSE NEIGHBOUR: 'it returns false'. Refute it at one input. -/
def replayCountsWrong : ChangeSpec := { name := "replayCounts", fn := fun _ => fun
  | [d1, d2, d3] => { results := [.lit (.bool false)], args := [d1, d2, d3] }
  | _ => none }
def ReplayCountsWrongFalsely : Prop := replayCountsRow.holds Try.pinned (OpenSpec.ofChange replayCountsWrong)

/-- 'munimentslaw22.ReplayNet': WHATEVER THE INPUT: true; the input reads as it did. -/
def replayNetSpec : ChangeSpec := { name := "replayNet", fn := fun _ => fun
  | [d1, d2] => { results := [.lit (.bool true)], args := [d1, d2] }
  | _ => none }
def replayNetRow : OpenClaim := { program := "ytmaaejicfpfcdaa", sum := "55c958edd802255fae5fa194d71238161f957e4c70c62c5c56a53694b864b5fb", func := "muniments/munimentslaw22.ReplayNet", spec := "replayNet", unfollowed := true, recurses := true, apart := false }
def ReplayNetSaid : Prop := replayNetRow.holds Try.pinned (OpenSpec.ofChange replayNetSpec)

/-- ITS FALSE NEIGHBOUR: 'it returns false'. Refute it at one input. -/
def replayNetWrong : ChangeSpec := { name := "replayNet", fn := fun _ => fun
  | [d1, d2] => { results := [.lit (.bool false)], args := [d1, d2] }
  | _ => none }
def ReplayNetWrongFalsely : Prop := replayNetRow.holds Try.pinned (OpenSpec.ofChange replayNetWrong)

/-- 'munimentslaw22.ReplayBatches': WHATEVER THE INPUT: true; the input reads as it did. -/
def replayBatchesSpec : ChangeSpec := { name := "replayBatches", fn := fun _ => fun
  | [d] => { results := [.lit (.bool true)], args := [d] }
  | _ => none }
def replayBatchesRow : OpenClaim := { program := "ytmaaejicfpfcdaa", sum := "55c958edd802255fae5fa194d71238161f957e4c70c62c5c56a53694b864b5fb", func := "muniments/munimentslaw22.ReplayBatches", spec := "replayBatches", unfollowed := true, recurses := true, apart := false }
def ReplayBatchesSaid : Prop := replayBatchesRow.holds Try.pinned (OpenSpec.ofChange replayBatchesSpec)

/-- ITS FALSE NEIGHBOUR: 'it returns false'. Refute it at one input. -/
def replayBatchesWrong : ChangeSpec := { name := "replayBatches", fn := fun _ => fun
  | [d] => { results := [.lit (.bool false)], args := [d] }
  | _ => none }
def ReplayBatchesWrongFalsely : Prop := replayBatchesRow.holds Try.pinned (OpenSpec.ofChange replayBatchesWrong)

/- THE SECOND FORM. 'bulk': how many values and letters a reading holds, each counted each time it is reached (what is shared counts as often as it is met; a slice's spare places count too). A statement '..UptoSaid' is the law's where the arguments, and the package variables that the reading takes, are together of bulk at most 1048576: NARROWER than '..Said'. Prove '..Said' where nothing that the law and all that it calls make is longer than what came in: it says more and counts as full. Else prove '..UptoSaid'. A law counts once. -/
mutual
def uptoBulk {H : Type} : DataW H → Nat
  | .lit (.string bytes) => bytes.length + 1
  | .lit _ => 1
  | .nil => 1
  | .ptr d => uptoBulk d + 1
  | .slice elems spare => uptoBulkAll elems + uptoBulkAll spare + 1
  | .agg parts => uptoBulkAll parts + 1
  | .iface _ d => uptoBulk d + 1
  | .map entries => uptoBulkEntries entries + 1
  | .held _ => 1
def uptoBulkAll {H : Type} : List (DataW H) → Nat
  | [] => 0
  | d :: r => uptoBulk d + uptoBulkAll r
def uptoBulkEntries {H : Type} : List (Lit × DataW H) → Nat
  | [] => 0
  | x :: r => uptoBulkEntry x + uptoBulkEntries r
def uptoBulkEntry {H : Type} : Lit × DataW H → Nat
  | (.string bytes, d) => bytes.length + uptoBulk d + 1
  | (_, d) => uptoBulk d + 1
 end
def uptoSmall : (H : Type) → List (DataW H) → Bool := fun _ ds => decide (uptoBulkAll ds ≤ 1048576)
def OpenSpec.upto (s : _root_.Go.ChangeSpec) : _root_.Go.OpenSpec := { _root_.Go.OpenSpec.ofChange s with cond := some uptoSmall }

/-- 'munimentslaw20.CrcSums', WHERE WHAT IT READS IS OF BULK AT MOST 1048576: true; the input reads as it did. -/
def crcSumsUptoRow : OpenClaim := { program := "ytmaaejicfpfcdaa", sum := "55c958edd802255fae5fa194d71238161f957e4c70c62c5c56a53694b864b5fb", func := "muniments/munimentslaw20.CrcSums", spec := "crcSums", apart := false, narrowed := true }
def CrcSumsUptoSaid : Prop := crcSumsUptoRow.holds Try.pinned (OpenSpec.upto crcSumsSpec)

/-- 'munimentslaw20.CrcTurned', WHERE WHAT IT READS IS OF BULK AT MOST 1048576: true; the input reads as it did. -/
def crcTurnedUptoRow : OpenClaim := { program := "ytmaaejicfpfcdaa", sum := "55c958edd802255fae5fa194d71238161f957e4c70c62c5c56a53694b864b5fb", func := "muniments/munimentslaw20.CrcTurned", spec := "crcTurned", apart := false, narrowed := true }
def CrcTurnedUptoSaid : Prop := crcTurnedUptoRow.holds Try.pinned (OpenSpec.upto crcTurnedSpec)

/-- 'munimentslaw21.RecordSizes', WHERE WHAT IT READS IS OF BULK AT MOST 1048576: true; the input reads as it did. -/
def recordSizesUptoRow : OpenClaim := { program := "ytmaaejicfpfcdaa", sum := "55c958edd802255fae5fa194d71238161f957e4c70c62c5c56a53694b864b5fb", func := "muniments/munimentslaw21.RecordSizes", spec := "recordSizes", apart := false, narrowed := true }
def RecordSizesUptoSaid : Prop := recordSizesUptoRow.holds Try.pinned (OpenSpec.upto recordSizesSpec)

/-- 'munimentslaw21.RecordPacks', WHERE WHAT IT READS IS OF BULK AT MOST 1048576: true; the input reads as it did. -/
def recordPacksUptoRow : OpenClaim := { program := "ytmaaejicfpfcdaa", sum := "55c958edd802255fae5fa194d71238161f957e4c70c62c5c56a53694b864b5fb", func := "muniments/munimentslaw21.RecordPacks", spec := "recordPacks", apart := false, narrowed := true }
def RecordPacksUptoSaid : Prop := recordPacksUptoRow.holds Try.pinned (OpenSpec.upto recordPacksSpec)

/-- 'munimentslaw21.RecordReads', WHERE WHAT IT READS IS OF BULK AT MOST 1048576: true; the input reads as it did. -/
def recordReadsUptoRow : OpenClaim := { program := "ytmaaejicfpfcdaa", sum := "55c958edd802255fae5fa194d71238161f957e4c70c62c5c56a53694b864b5fb", func := "muniments/munimentslaw21.RecordReads", spec := "recordReads", apart := false, narrowed := true }
def RecordReadsUptoSaid : Prop := recordReadsUptoRow.holds Try.pinned (OpenSpec.upto recordReadsSpec)

/-- 'munimentslaw21.RecordTurned', WHERE WHAT IT READS IS OF BULK AT MOST 1048576: true; the input reads as it did. -/
def recordTurnedUptoRow : OpenClaim := { program := "ytmaaejicfpfcdaa", sum := "55c958edd802255fae5fa194d71238161f957e4c70c62c5c56a53694b864b5fb", func := "muniments/munimentslaw21.RecordTurned", spec := "recordTurned", apart := false, narrowed := true }
def RecordTurnedUptoSaid : Prop := recordTurnedUptoRow.holds Try.pinned (OpenSpec.upto recordTurnedSpec)

/-- 'munimentslaw21.RecordRows', WHERE WHAT IT READS IS OF BULK AT MOST 1048576: true; the input reads as it did. -/
def recordRowsUptoRow : OpenClaim := { program := "ytmaaejicfpfcdaa", sum := "55c958edd802255fae5fa194d71238161f957e4c70c62c5c56a53694b864b5fb", func := "muniments/munimentslaw21.RecordRows", spec := "recordRows", apart := false, narrowed := true }
def RecordRowsUptoSaid : Prop := recordRowsUptoRow.holds Try.pinned (OpenSpec.upto recordRowsSpec)

/-- 'munimentslaw22.ReplayReads', WHERE WHAT IT READS IS OF BULK AT MOST 1048576: true; the input reads as it did. -/
def replayReadsUptoRow : OpenClaim := { program := "ytmaaejicfpfcdaa", sum := "55c958edd802255fae5fa194d71238161f957e4c70c62c5c56a53694b864b5fb", func := "muniments/munimentslaw22.ReplayReads", spec := "replayReads", apart := false, narrowed := true }
def ReplayReadsUptoSaid : Prop := replayReadsUptoRow.holds Try.pinned (OpenSpec.upto replayReadsSpec)

/-- 'munimentslaw22.ReplayCuts', WHERE WHAT IT READS IS OF BULK AT MOST 1048576: true; the input reads as it did. -/
def replayCutsUptoRow : OpenClaim := { program := "ytmaaejicfpfcdaa", sum := "55c958edd802255fae5fa194d71238161f957e4c70c62c5c56a53694b864b5fb", func := "muniments/munimentslaw22.ReplayCuts", spec := "replayCuts", apart := false, narrowed := true }
def ReplayCutsUptoSaid : Prop := replayCutsUptoRow.holds Try.pinned (OpenSpec.upto replayCutsSpec)

/-- 'munimentslaw22.ReplayAppends', WHERE WHAT IT READS IS OF BULK AT MOST 1048576: true; the input reads as it did. -/
def replayAppendsUptoRow : OpenClaim := { program := "ytmaaejicfpfcdaa", sum := "55c958edd802255fae5fa194d71238161f957e4c70c62c5c56a53694b864b5fb", func := "muniments/munimentslaw22.ReplayAppends", spec := "replayAppends", apart := false, narrowed := true }
def ReplayAppendsUptoSaid : Prop := replayAppendsUptoRow.holds Try.pinned (OpenSpec.upto replayAppendsSpec)

/-- 'munimentslaw22.ReplayCounts', WHERE WHAT IT READS IS OF BULK AT MOST 1048576: true; the input reads as it did. -/
def replayCountsUptoRow : OpenClaim := { program := "ytmaaejicfpfcdaa", sum := "55c958edd802255fae5fa194d71238161f957e4c70c62c5c56a53694b864b5fb", func := "muniments/munimentslaw22.ReplayCounts", spec := "replayCounts", apart := false, narrowed := true }
def ReplayCountsUptoSaid : Prop := replayCountsUptoRow.holds Try.pinned (OpenSpec.upto replayCountsSpec)

/-- 'munimentslaw22.ReplayNet', WHERE WHAT IT READS IS OF BULK AT MOST 1048576: true; the input reads as it did. -/
def replayNetUptoRow : OpenClaim := { program := "ytmaaejicfpfcdaa", sum := "55c958edd802255fae5fa194d71238161f957e4c70c62c5c56a53694b864b5fb", func := "muniments/munimentslaw22.ReplayNet", spec := "replayNet", unfollowed := true, recurses := true, apart := false, narrowed := true }
def ReplayNetUptoSaid : Prop := replayNetUptoRow.holds Try.pinned (OpenSpec.upto replayNetSpec)

/-- 'munimentslaw22.ReplayBatches', WHERE WHAT IT READS IS OF BULK AT MOST 1048576: true; the input reads as it did. -/
def replayBatchesUptoRow : OpenClaim := { program := "ytmaaejicfpfcdaa", sum := "55c958edd802255fae5fa194d71238161f957e4c70c62c5c56a53694b864b5fb", func := "muniments/munimentslaw22.ReplayBatches", spec := "replayBatches", unfollowed := true, recurses := true, apart := false, narrowed := true }
def ReplayBatchesUptoSaid : Prop := replayBatchesUptoRow.holds Try.pinned (OpenSpec.upto replayBatchesSpec)

end Rows
end Go.Proofs.Ytmaaejicfpfcdaa
