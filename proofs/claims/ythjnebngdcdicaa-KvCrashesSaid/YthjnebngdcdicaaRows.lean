/-
  No cell of these rows narrows 'for every input' (looked for: loops, veiled, ifaces, maps, wideKeys, modest, calm, conditions, laid).
  DERIVED. THE GIVEN ROWS OF THIS SEAT. 6 by the template 'for every input the law returns true; each argument reads behind the call as it read before'; 0 by the template 'total and deterministic' (their statements: YthjnebngdcdicaaTotals.lean).
  GIVEN WITH THE SEED: the statements are not yours to turn. If you find one false, say at which input.
  Laid BY PROGRAM, IN A SANDBOX (cutbox-rows.mjs): the forced cells as the released guide's own fill.sh prints them over the translation fd9d9b81c41116de… (all of the seat's roots in one cut). By AI agents, Wed Nov 11 2026. No macro, syntax, notation, axiom, sorry.
-/
import Derived.Test.YthjnebngdcdicaaChecked
import GoSem.Claim
import GoSem.ClaimJoined
import GoSem.ClaimMapViews
import Derived.JoinedTies
import Derived.KernelRfl
namespace Go.Proofs.Ythjnebngdcdicaa
/- THE CELL 'sum', in the pinned program and in every row, IS THE sha256 OF THE DUMP (.gsa) THAT YthjnebngdcdicaaProg.lean LOADS. Nothing in Lean hashes anything: it is a label: what it is worth is what the hold of that sum in a sandbox is worth. -/
noncomputable def Try.pinned : Pinned := { name := "ythjnebngdcdicaa", sum := "fd9d9b81c41116dec8235fc7607e496125d9bb13f90280c5dfc3afb83a53ce17", checked := Try.checked }
namespace Rows
def none {H : Type} : Left H := { results := [], args := [] }

/-- 'munimentslaw23.KvEmpty': WHATEVER THE INPUT: true; the input reads as it did. -/
def kvEmptySpec : ChangeSpec := { name := "kvEmpty", fn := fun _ => fun
  | [d1, d2] => { results := [.lit (.bool true)], args := [d1, d2] }
  | _ => none }
def kvEmptyRow : OpenClaim := { program := "ythjnebngdcdicaa", sum := "fd9d9b81c41116dec8235fc7607e496125d9bb13f90280c5dfc3afb83a53ce17", func := "muniments/munimentslaw23.KvEmpty", spec := "kvEmpty", inPlace := ["maps.clone"], unfollowed := true, recurses := true, apart := false }
def KvEmptySaid : Prop := kvEmptyRow.holds Try.pinned (OpenSpec.ofChange kvEmptySpec)

/-- ITS FALSE NEIGHBOUR: 'it returns false'. Refute it at one input. -/
def kvEmptyWrong : ChangeSpec := { name := "kvEmpty", fn := fun _ => fun
  | [d1, d2] => { results := [.lit (.bool false)], args := [d1, d2] }
  | _ => none }
def KvEmptyWrongFalsely : Prop := kvEmptyRow.holds Try.pinned (OpenSpec.ofChange kvEmptyWrong)

/-- 'munimentslaw23.KvPlays': WHATEVER THE INPUT: true; the input reads as it did. -/
def kvPlaysSpec : ChangeSpec := { name := "kvPlays", fn := fun _ => fun
  | [d] => { results := [.lit (.bool true)], args := [d] }
  | _ => none }
def kvPlaysRow : OpenClaim := { program := "ythjnebngdcdicaa", sum := "fd9d9b81c41116dec8235fc7607e496125d9bb13f90280c5dfc3afb83a53ce17", func := "muniments/munimentslaw23.KvPlays", spec := "kvPlays", inPlace := ["maps.clone"], unfollowed := true, recurses := true, apart := false }
def KvPlaysSaid : Prop := kvPlaysRow.holds Try.pinned (OpenSpec.ofChange kvPlaysSpec)

/-- ITS FALSE NEIGHBOUR: 'it returns false'. Refute it at one input. -/
def kvPlaysWrong : ChangeSpec := { name := "kvPlays", fn := fun _ => fun
  | [d] => { results := [.lit (.bool false)], args := [d] }
  | _ => none }
def KvPlaysWrongFalsely : Prop := kvPlaysRow.holds Try.pinned (OpenSpec.ofChange kvPlaysWrong)

/-- 'munimentslaw23.KvMany': WHATEVER THE INPUT: true; the input reads as it did. -/
def kvManySpec : ChangeSpec := { name := "kvMany", fn := fun _ => fun
  | [d1, d2] => { results := [.lit (.bool true)], args := [d1, d2] }
  | _ => none }
def kvManyRow : OpenClaim := { program := "ythjnebngdcdicaa", sum := "fd9d9b81c41116dec8235fc7607e496125d9bb13f90280c5dfc3afb83a53ce17", func := "muniments/munimentslaw23.KvMany", spec := "kvMany", inPlace := ["maps.clone"], unfollowed := true, recurses := true, apart := false }
def KvManySaid : Prop := kvManyRow.holds Try.pinned (OpenSpec.ofChange kvManySpec)

/-- ITS FALSE NEIGHBOUR: 'it returns false'. Refute it at one input. -/
def kvManyWrong : ChangeSpec := { name := "kvMany", fn := fun _ => fun
  | [d1, d2] => { results := [.lit (.bool false)], args := [d1, d2] }
  | _ => none }
def KvManyWrongFalsely : Prop := kvManyRow.holds Try.pinned (OpenSpec.ofChange kvManyWrong)

/-- 'munimentslaw23.KvCrashes': WHATEVER THE INPUT: true; the input reads as it did. -/
def kvCrashesSpec : ChangeSpec := { name := "kvCrashes", fn := fun _ => fun
  | [d1, d2] => { results := [.lit (.bool true)], args := [d1, d2] }
  | _ => none }
def kvCrashesRow : OpenClaim := { program := "ythjnebngdcdicaa", sum := "fd9d9b81c41116dec8235fc7607e496125d9bb13f90280c5dfc3afb83a53ce17", func := "muniments/munimentslaw23.KvCrashes", spec := "kvCrashes", inPlace := ["maps.clone"], unfollowed := true, recurses := true, apart := false }
def KvCrashesSaid : Prop := kvCrashesRow.holds Try.pinned (OpenSpec.ofChange kvCrashesSpec)

/-- ITS FALSE NEIGHBOUR: 'it returns false'. Refute it at one input. -/
def kvCrashesWrong : ChangeSpec := { name := "kvCrashes", fn := fun _ => fun
  | [d1, d2] => { results := [.lit (.bool false)], args := [d1, d2] }
  | _ => none }
def KvCrashesWrongFalsely : Prop := kvCrashesRow.holds Try.pinned (OpenSpec.ofChange kvCrashesWrong)

/-- 'munimentslaw23.KvOnce': WHATEVER THE INPUT: true; the input reads as it did. -/
def kvOnceSpec : ChangeSpec := { name := "kvOnce", fn := fun _ => fun
  | [d1, d2, d3, d4, d5] => { results := [.lit (.bool true)], args := [d1, d2, d3, d4, d5] }
  | _ => none }
def kvOnceRow : OpenClaim := { program := "ythjnebngdcdicaa", sum := "fd9d9b81c41116dec8235fc7607e496125d9bb13f90280c5dfc3afb83a53ce17", func := "muniments/munimentslaw23.KvOnce", spec := "kvOnce", inPlace := ["maps.clone"], unfollowed := true, recurses := true, apart := false }
def KvOnceSaid : Prop := kvOnceRow.holds Try.pinned (OpenSpec.ofChange kvOnceSpec)

/-- ITS FALSE NEIGHBOUR: 'it returns false'. Refute it at one input. -/
def kvOnceWrong : ChangeSpec := { name := "kvOnce", fn := fun _ => fun
  | [d1, d2, d3, d4, d5] => { results := [.lit (.bool false)], args := [d1, d2, d3, d4, d5] }
  | _ => none }
def KvOnceWrongFalsely : Prop := kvOnceRow.holds Try.pinned (OpenSpec.ofChange kvOnceWrong)

/-- 'munimentslaw23.KvDead': WHATEVER THE INPUT: true; the input reads as it did. -/
def kvDeadSpec : ChangeSpec := { name := "kvDead", fn := fun _ => fun
  | [d1, d2] => { results := [.lit (.bool true)], args := [d1, d2] }
  | _ => none }
def kvDeadRow : OpenClaim := { program := "ythjnebngdcdicaa", sum := "fd9d9b81c41116dec8235fc7607e496125d9bb13f90280c5dfc3afb83a53ce17", func := "muniments/munimentslaw23.KvDead", spec := "kvDead", inPlace := ["maps.clone"], unfollowed := true, recurses := true, apart := false }
def KvDeadSaid : Prop := kvDeadRow.holds Try.pinned (OpenSpec.ofChange kvDeadSpec)

/-- ITS FALSE NEIGHBOUR: 'it returns false'. Refute it at one input. -/
def kvDeadWrong : ChangeSpec := { name := "kvDead", fn := fun _ => fun
  | [d1, d2] => { results := [.lit (.bool false)], args := [d1, d2] }
  | _ => none }
def KvDeadWrongFalsely : Prop := kvDeadRow.holds Try.pinned (OpenSpec.ofChange kvDeadWrong)

/- THE SECOND FORM. 'bulk': how many values and letters a reading holds, each counted each time it is reached (what is shared counts as often as it is met; a slice's spare places count too). A statement '..UptoSaid' is the law's where the arguments, and the package variables that the reading takes, are together of bulk at most 1048576: NARROWER than '..Said'. Prove '..Said' where nothing that the law and all that it calls make is longer than what came in: it says more and counts as full. Else prove '..UptoSaid'. A law counts once. -/
mutual
def uptoBulk {H : Type} : DataW H → Nat
  | .lit (.string bytes) => bytes.length + 1
  | .lit _ => 1
  | .nil => 1
  | .ptr d => uptoBulk d + 1
  | .slice elems spare => uptoBulkAll elems + uptoBulkAll spare + 1
  | .agg parts => uptoBulkAll parts + 1
  | .iface _ d => uptoBulk d + 1
  | .map entries => uptoBulkEntries entries + 1
  | .held _ => 1
def uptoBulkAll {H : Type} : List (DataW H) → Nat
  | [] => 0
  | d :: r => uptoBulk d + uptoBulkAll r
def uptoBulkEntries {H : Type} : List (Lit × DataW H) → Nat
  | [] => 0
  | x :: r => uptoBulkEntry x + uptoBulkEntries r
def uptoBulkEntry {H : Type} : Lit × DataW H → Nat
  | (.string bytes, d) => bytes.length + uptoBulk d + 1
  | (_, d) => uptoBulk d + 1
 end
def uptoSmall : (H : Type) → List (DataW H) → Bool := fun _ ds => decide (uptoBulkAll ds ≤ 1048576)
def OpenSpec.upto (s : _root_.Go.ChangeSpec) : _root_.Go.OpenSpec := { _root_.Go.OpenSpec.ofChange s with cond := some uptoSmall }

/-- 'munimentslaw23.KvEmpty', WHERE WHAT IT READS IS OF BULK AT MOST 1048576: true; the input reads as it did. -/
def kvEmptyUptoRow : OpenClaim := { program := "ythjnebngdcdicaa", sum := "fd9d9b81c41116dec8235fc7607e496125d9bb13f90280c5dfc3afb83a53ce17", func := "muniments/munimentslaw23.KvEmpty", spec := "kvEmpty", inPlace := ["maps.clone"], unfollowed := true, recurses := true, apart := false, narrowed := true }
def KvEmptyUptoSaid : Prop := kvEmptyUptoRow.holds Try.pinned (OpenSpec.upto kvEmptySpec)

/-- 'munimentslaw23.KvPlays', WHERE WHAT IT READS IS OF BULK AT MOST 1048576: true; the input reads as it did. -/
def kvPlaysUptoRow : OpenClaim := { program := "ythjnebngdcdicaa", sum := "fd9d9b81c41116dec8235fc7607e496125d9bb13f90280c5dfc3afb83a53ce17", func := "muniments/munimentslaw23.KvPlays", spec := "kvPlays", inPlace := ["maps.clone"], unfollowed := true, recurses := true, apart := false, narrowed := true }
def KvPlaysUptoSaid : Prop := kvPlaysUptoRow.holds Try.pinned (OpenSpec.upto kvPlaysSpec)

/-- 'munimentslaw23.KvMany', WHERE WHAT IT READS IS OF BULK AT MOST 1048576: true; the input reads as it did. -/
def kvManyUptoRow : OpenClaim := { program := "ythjnebngdcdicaa", sum := "fd9d9b81c41116dec8235fc7607e496125d9bb13f90280c5dfc3afb83a53ce17", func := "muniments/munimentslaw23.KvMany", spec := "kvMany", inPlace := ["maps.clone"], unfollowed := true, recurses := true, apart := false, narrowed := true }
def KvManyUptoSaid : Prop := kvManyUptoRow.holds Try.pinned (OpenSpec.upto kvManySpec)

/-- 'munimentslaw23.KvCrashes', WHERE WHAT IT READS IS OF BULK AT MOST 1048576: true; the input reads as it did. -/
def kvCrashesUptoRow : OpenClaim := { program := "ythjnebngdcdicaa", sum := "fd9d9b81c41116dec8235fc7607e496125d9bb13f90280c5dfc3afb83a53ce17", func := "muniments/munimentslaw23.KvCrashes", spec := "kvCrashes", inPlace := ["maps.clone"], unfollowed := true, recurses := true, apart := false, narrowed := true }
def KvCrashesUptoSaid : Prop := kvCrashesUptoRow.holds Try.pinned (OpenSpec.upto kvCrashesSpec)

/-- 'munimentslaw23.KvOnce', WHERE WHAT IT READS IS OF BULK AT MOST 1048576: true; the input reads as it did. -/
def kvOnceUptoRow : OpenClaim := { program := "ythjnebngdcdicaa", sum := "fd9d9b81c41116dec8235fc7607e496125d9bb13f90280c5dfc3afb83a53ce17", func := "muniments/munimentslaw23.KvOnce", spec := "kvOnce", inPlace := ["maps.clone"], unfollowed := true, recurses := true, apart := false, narrowed := true }
def KvOnceUptoSaid : Prop := kvOnceUptoRow.holds Try.pinned (OpenSpec.upto kvOnceSpec)

/-- 'munimentslaw23.KvDead', WHERE WHAT IT READS IS OF BULK AT MOST 1048576: true; the input reads as it did. -/
def kvDeadUptoRow : OpenClaim := { program := "ythjnebngdcdicaa", sum := "fd9d9b81c41116dec8235fc7607e496125d9bb13f90280c5dfc3afb83a53ce17", func := "muniments/munimentslaw23.KvDead", spec := "kvDead", inPlace := ["maps.clone"], unfollowed := true, recurses := true, apart := false, narrowed := true }
def KvDeadUptoSaid : Prop := kvDeadUptoRow.holds Try.pinned (OpenSpec.upto kvDeadSpec)

end Rows
end Go.Proofs.Ythjnebngdcdicaa
