/-
  No cell of these rows narrows 'for every input' (looked for: loops, veiled, ifaces, maps, wideKeys, modest, calm, conditions, laid).
  DERIVED. THE GIVEN ROWS OF THIS SEAT. 7 by the template 'for every input the law returns true; each argument reads behind the call as it read before'; 0 by the template 'total and deterministic' (their statements: YtpliedimdhilcaaTotals.lean).
  GIVEN WITH THE SEED: the statements are not yours to turn. If you find one false, say at which input.
  Laid BY PROGRAM, IN A SANDBOX (cutbox-rows.mjs): the forced cells as the released guide's own fill.sh prints them over the translation ab064524b85431ec… (all of the seat's roots in one cut). By AI agents, Wed Nov 11 2026. No macro, syntax, notation, axiom, sorry.
-/
import Derived.Test.YtpliedimdhilcaaChecked
import GoSem.Claim
import GoSem.ClaimJoined
import GoSem.ClaimMapViews
import Derived.JoinedTies
import Derived.KernelRfl
namespace Go.Proofs.Ytpliedimdhilcaa
/- THE CELL 'sum', in the pinned program and in every row, IS THE sha256 OF THE DUMP (.gsa) THAT YtpliedimdhilcaaProg.lean LOADS. Nothing in Lean hashes anything: it is a label: what it is worth is what the hold of that sum in a sandbox is worth. -/
noncomputable def Try.pinned : Pinned := { name := "ytpliedimdhilcaa", sum := "ab064524b85431ec8430ed4595275fe56f151e363fe213a285c36e3164cb2a77", checked := Try.checked }
namespace Rows
def none {H : Type} : Left H := { results := [], args := [] }

/-- 'munimentslaw14.GasRises': WHATEVER THE INPUT: true; the input reads as it did. -/
def gasRisesSpec : ChangeSpec := { name := "gasRises", fn := fun _ => fun
  | [d1, d2, d3] => { results := [.lit (.bool true)], args := [d1, d2, d3] }
  | _ => none }
def gasRisesRow : OpenClaim := { program := "ytpliedimdhilcaa", sum := "ab064524b85431ec8430ed4595275fe56f151e363fe213a285c36e3164cb2a77", func := "muniments/munimentslaw14.GasRises", spec := "gasRises", apart := false }
def GasRisesSaid : Prop := gasRisesRow.holds Try.pinned (OpenSpec.ofChange gasRisesSpec)

/-- ITS FALSE NEIGHBOUR: 'it returns false'. Refute it at one input. -/
def gasRisesWrong : ChangeSpec := { name := "gasRises", fn := fun _ => fun
  | [d1, d2, d3] => { results := [.lit (.bool false)], args := [d1, d2, d3] }
  | _ => none }
def GasRisesWrongFalsely : Prop := gasRisesRow.holds Try.pinned (OpenSpec.ofChange gasRisesWrong)

/-- 'munimentslaw13.MemCosts': WHATEVER THE INPUT: true; the input reads as it did. -/
def memCostsSpec : ChangeSpec := { name := "memCosts", fn := fun _ => fun
  | [d1, d2] => { results := [.lit (.bool true)], args := [d1, d2] }
  | _ => none }
def memCostsRow : OpenClaim := { program := "ytpliedimdhilcaa", sum := "ab064524b85431ec8430ed4595275fe56f151e363fe213a285c36e3164cb2a77", func := "muniments/munimentslaw13.MemCosts", spec := "memCosts", apart := false }
def MemCostsSaid : Prop := memCostsRow.holds Try.pinned (OpenSpec.ofChange memCostsSpec)

/-- ITS FALSE NEIGHBOUR: 'it returns false'. Refute it at one input. -/
def memCostsWrong : ChangeSpec := { name := "memCosts", fn := fun _ => fun
  | [d1, d2] => { results := [.lit (.bool false)], args := [d1, d2] }
  | _ => none }
def MemCostsWrongFalsely : Prop := memCostsRow.holds Try.pinned (OpenSpec.ofChange memCostsWrong)

/-- 'munimentslaw13.MemFull': WHATEVER THE INPUT: true; the input reads as it did. -/
def memFullSpec : ChangeSpec := { name := "memFull", fn := fun _ => fun
  | [d] => { results := [.lit (.bool true)], args := [d] }
  | _ => none }
def memFullRow : OpenClaim := { program := "ytpliedimdhilcaa", sum := "ab064524b85431ec8430ed4595275fe56f151e363fe213a285c36e3164cb2a77", func := "muniments/munimentslaw13.MemFull", spec := "memFull", apart := false }
def MemFullSaid : Prop := memFullRow.holds Try.pinned (OpenSpec.ofChange memFullSpec)

/-- ITS FALSE NEIGHBOUR: 'it returns false'. Refute it at one input. -/
def memFullWrong : ChangeSpec := { name := "memFull", fn := fun _ => fun
  | [d] => { results := [.lit (.bool false)], args := [d] }
  | _ => none }
def MemFullWrongFalsely : Prop := memFullRow.holds Try.pinned (OpenSpec.ofChange memFullWrong)

/-- 'munimentslaw14.GasTells': WHATEVER THE INPUT: true; the input reads as it did. -/
def gasTellsSpec : ChangeSpec := { name := "gasTells", fn := fun _ => fun
  | [d1, d2, d3, d4, d5, d6, d7] => { results := [.lit (.bool true)], args := [d1, d2, d3, d4, d5, d6, d7] }
  | _ => none }
def gasTellsRow : OpenClaim := { program := "ytpliedimdhilcaa", sum := "ab064524b85431ec8430ed4595275fe56f151e363fe213a285c36e3164cb2a77", func := "muniments/munimentslaw14.GasTells", spec := "gasTells", apart := false }
def GasTellsSaid : Prop := gasTellsRow.holds Try.pinned (OpenSpec.ofChange gasTellsSpec)

/-- ITS FALSE NEIGHBOUR: 'it returns false'. Refute it at one input. -/
def gasTellsWrong : ChangeSpec := { name := "gasTells", fn := fun _ => fun
  | [d1, d2, d3, d4, d5, d6, d7] => { results := [.lit (.bool false)], args := [d1, d2, d3, d4, d5, d6, d7] }
  | _ => none }
def GasTellsWrongFalsely : Prop := gasTellsRow.holds Try.pinned (OpenSpec.ofChange gasTellsWrong)

/-- 'munimentslaw13.MemKeeps': WHATEVER THE INPUT: true; the input reads as it did. -/
def memKeepsSpec : ChangeSpec := { name := "memKeeps", fn := fun _ => fun
  | [d1, d2, d3] => { results := [.lit (.bool true)], args := [d1, d2, d3] }
  | _ => none }
def memKeepsRow : OpenClaim := { program := "ytpliedimdhilcaa", sum := "ab064524b85431ec8430ed4595275fe56f151e363fe213a285c36e3164cb2a77", func := "muniments/munimentslaw13.MemKeeps", spec := "memKeeps", apart := false }
def MemKeepsSaid : Prop := memKeepsRow.holds Try.pinned (OpenSpec.ofChange memKeepsSpec)

/-- ITS FALSE NEIGHBOUR: 'it returns false'. Refute it at one input. -/
def memKeepsWrong : ChangeSpec := { name := "memKeeps", fn := fun _ => fun
  | [d1, d2, d3] => { results := [.lit (.bool false)], args := [d1, d2, d3] }
  | _ => none }
def MemKeepsWrongFalsely : Prop := memKeepsRow.holds Try.pinned (OpenSpec.ofChange memKeepsWrong)

/-- 'munimentslaw13.StackTurns': WHATEVER THE INPUT: true; the input reads as it did. -/
def stackTurnsSpec : ChangeSpec := { name := "stackTurns", fn := fun _ => fun
  | [d1, d2, d3] => { results := [.lit (.bool true)], args := [d1, d2, d3] }
  | _ => none }
def stackTurnsRow : OpenClaim := { program := "ytpliedimdhilcaa", sum := "ab064524b85431ec8430ed4595275fe56f151e363fe213a285c36e3164cb2a77", func := "muniments/munimentslaw13.StackTurns", spec := "stackTurns", apart := false }
def StackTurnsSaid : Prop := stackTurnsRow.holds Try.pinned (OpenSpec.ofChange stackTurnsSpec)

/-- ITS FALSE NEIGHBOUR: 'it returns false'. Refute it at one input. -/
def stackTurnsWrong : ChangeSpec := { name := "stackTurns", fn := fun _ => fun
  | [d1, d2, d3] => { results := [.lit (.bool false)], args := [d1, d2, d3] }
  | _ => none }
def StackTurnsWrongFalsely : Prop := stackTurnsRow.holds Try.pinned (OpenSpec.ofChange stackTurnsWrong)

/-- 'munimentslaw13.MemPlays': WHATEVER THE INPUT: true; the input reads as it did. -/
def memPlaysSpec : ChangeSpec := { name := "memPlays", fn := fun _ => fun
  | [d] => { results := [.lit (.bool true)], args := [d] }
  | _ => none }
def memPlaysRow : OpenClaim := { program := "ytpliedimdhilcaa", sum := "ab064524b85431ec8430ed4595275fe56f151e363fe213a285c36e3164cb2a77", func := "muniments/munimentslaw13.MemPlays", spec := "memPlays", apart := false }
def MemPlaysSaid : Prop := memPlaysRow.holds Try.pinned (OpenSpec.ofChange memPlaysSpec)

/-- ITS FALSE NEIGHBOUR: 'it returns false'. Refute it at one input. -/
def memPlaysWrong : ChangeSpec := { name := "memPlays", fn := fun _ => fun
  | [d] => { results := [.lit (.bool false)], args := [d] }
  | _ => none }
def MemPlaysWrongFalsely : Prop := memPlaysRow.holds Try.pinned (OpenSpec.ofChange memPlaysWrong)

/- THE SECOND FORM. 'bulk': how many values and letters a reading holds, each counted each time it is reached (what is shared counts as often as it is met; a slice's spare places count too). A statement '..UptoSaid' is the law's where the arguments, and the package variables that the reading takes, are together of bulk at most 1048576: NARROWER than '..Said'. Prove '..Said' where nothing that the law and all that it calls make is longer than what came in: it says more and counts as full. Else prove '..UptoSaid'. A law counts once. -/
mutual
def uptoBulk {H : Type} : DataW H → Nat
  | .lit (.string bytes) => bytes.length + 1
  | .lit _ => 1
  | .nil => 1
  | .ptr d => uptoBulk d + 1
  | .slice elems spare => uptoBulkAll elems + uptoBulkAll spare + 1
  | .agg parts => uptoBulkAll parts + 1
  | .iface _ d => uptoBulk d + 1
  | .map entries => uptoBulkEntries entries + 1
  | .held _ => 1
def uptoBulkAll {H : Type} : List (DataW H) → Nat
  | [] => 0
  | d :: r => uptoBulk d + uptoBulkAll r
def uptoBulkEntries {H : Type} : List (Lit × DataW H) → Nat
  | [] => 0
  | x :: r => uptoBulkEntry x + uptoBulkEntries r
def uptoBulkEntry {H : Type} : Lit × DataW H → Nat
  | (.string bytes, d) => bytes.length + uptoBulk d + 1
  | (_, d) => uptoBulk d + 1
 end
def uptoSmall : (H : Type) → List (DataW H) → Bool := fun _ ds => decide (uptoBulkAll ds ≤ 1048576)
def OpenSpec.upto (s : _root_.Go.ChangeSpec) : _root_.Go.OpenSpec := { _root_.Go.OpenSpec.ofChange s with cond := some uptoSmall }

/-- 'munimentslaw14.GasRises', WHERE WHAT IT READS IS OF BULK AT MOST 1048576: true; the input reads as it did. -/
def gasRisesUptoRow : OpenClaim := { program := "ytpliedimdhilcaa", sum := "ab064524b85431ec8430ed4595275fe56f151e363fe213a285c36e3164cb2a77", func := "muniments/munimentslaw14.GasRises", spec := "gasRises", apart := false, narrowed := true }
def GasRisesUptoSaid : Prop := gasRisesUptoRow.holds Try.pinned (OpenSpec.upto gasRisesSpec)

/-- 'munimentslaw13.MemCosts', WHERE WHAT IT READS IS OF BULK AT MOST 1048576: true; the input reads as it did. -/
def memCostsUptoRow : OpenClaim := { program := "ytpliedimdhilcaa", sum := "ab064524b85431ec8430ed4595275fe56f151e363fe213a285c36e3164cb2a77", func := "muniments/munimentslaw13.MemCosts", spec := "memCosts", apart := false, narrowed := true }
def MemCostsUptoSaid : Prop := memCostsUptoRow.holds Try.pinned (OpenSpec.upto memCostsSpec)

/-- 'munimentslaw13.MemFull', WHERE WHAT IT READS IS OF BULK AT MOST 1048576: true; the input reads as it did. -/
def memFullUptoRow : OpenClaim := { program := "ytpliedimdhilcaa", sum := "ab064524b85431ec8430ed4595275fe56f151e363fe213a285c36e3164cb2a77", func := "muniments/munimentslaw13.MemFull", spec := "memFull", apart := false, narrowed := true }
def MemFullUptoSaid : Prop := memFullUptoRow.holds Try.pinned (OpenSpec.upto memFullSpec)

/-- 'munimentslaw14.GasTells', WHERE WHAT IT READS IS OF BULK AT MOST 1048576: true; the input reads as it did. -/
def gasTellsUptoRow : OpenClaim := { program := "ytpliedimdhilcaa", sum := "ab064524b85431ec8430ed4595275fe56f151e363fe213a285c36e3164cb2a77", func := "muniments/munimentslaw14.GasTells", spec := "gasTells", apart := false, narrowed := true }
def GasTellsUptoSaid : Prop := gasTellsUptoRow.holds Try.pinned (OpenSpec.upto gasTellsSpec)

/-- 'munimentslaw13.MemKeeps', WHERE WHAT IT READS IS OF BULK AT MOST 1048576: true; the input reads as it did. -/
def memKeepsUptoRow : OpenClaim := { program := "ytpliedimdhilcaa", sum := "ab064524b85431ec8430ed4595275fe56f151e363fe213a285c36e3164cb2a77", func := "muniments/munimentslaw13.MemKeeps", spec := "memKeeps", apart := false, narrowed := true }
def MemKeepsUptoSaid : Prop := memKeepsUptoRow.holds Try.pinned (OpenSpec.upto memKeepsSpec)

/-- 'munimentslaw13.StackTurns', WHERE WHAT IT READS IS OF BULK AT MOST 1048576: true; the input reads as it did. -/
def stackTurnsUptoRow : OpenClaim := { program := "ytpliedimdhilcaa", sum := "ab064524b85431ec8430ed4595275fe56f151e363fe213a285c36e3164cb2a77", func := "muniments/munimentslaw13.StackTurns", spec := "stackTurns", apart := false, narrowed := true }
def StackTurnsUptoSaid : Prop := stackTurnsUptoRow.holds Try.pinned (OpenSpec.upto stackTurnsSpec)

/-- 'munimentslaw13.MemPlays', WHERE WHAT IT READS IS OF BULK AT MOST 1048576: true; the input reads as it did. -/
def memPlaysUptoRow : OpenClaim := { program := "ytpliedimdhilcaa", sum := "ab064524b85431ec8430ed4595275fe56f151e363fe213a285c36e3164cb2a77", func := "muniments/munimentslaw13.MemPlays", spec := "memPlays", apart := false, narrowed := true }
def MemPlaysUptoSaid : Prop := memPlaysUptoRow.holds Try.pinned (OpenSpec.upto memPlaysSpec)

end Rows
end Go.Proofs.Ytpliedimdhilcaa
