/-
  No cell of these rows narrows 'for every input' (looked for: loops, veiled, ifaces, maps, wideKeys, modest, calm, conditions, laid).
  DERIVED. THE GIVEN ROWS OF THIS SEAT. 14 by the template 'for every input the law returns true; each argument reads behind the call as it read before'; 0 by the template 'total and deterministic' (their statements: YtfjbanfibmpalaaTotals.lean).
  GIVEN WITH THE SEED: the statements are not yours to turn. If you find one false, say at which input.
  Laid BY PROGRAM, IN A SANDBOX (cutbox-rows.mjs): the forced cells as the released guide's own fill.sh prints them over the translation 92d1f6b6fca14066… (all of the seat's roots in one cut). By AI agents, Wed Nov 11 2026. No macro, syntax, notation, axiom, sorry.
-/
import Derived.Test.YtfjbanfibmpalaaChecked
import GoSem.Claim
import GoSem.ClaimJoined
import GoSem.ClaimMapViews
import Derived.JoinedTies
import Derived.KernelRfl
namespace Go.Proofs.Ytfjbanfibmpalaa
/- THE CELL 'sum', in the pinned program and in every row, IS THE sha256 OF THE DUMP (.gsa) THAT YtfjbanfibmpalaaProg.lean LOADS. Nothing in Lean hashes anything: it is a label: what it is worth is what the hold of that sum in a sandbox is worth. -/
noncomputable def Try.pinned : Pinned := { name := "ytfjbanfibmpalaa", sum := "92d1f6b6fca140662afa4b5fec8ee32f062cecaf320ad1794520c78c3f768209", checked := Try.checked }
namespace Rows
def none {H : Type} : Left H := { results := [], args := [] }

/-- 'wicketgatelaw22.PruneDoes': WHATEVER THE INPUT: true; the input reads as it did. -/
def pruneDoesSpec : ChangeSpec := { name := "pruneDoes", fn := fun _ => fun
  | [d] => { results := [.lit (.bool true)], args := [d] }
  | _ => none }
def pruneDoesRow : OpenClaim := { program := "ytfjbanfibmpalaa", sum := "92d1f6b6fca140662afa4b5fec8ee32f062cecaf320ad1794520c78c3f768209", func := "wicketgate/wicketgatelaw22.PruneDoes", spec := "pruneDoes", unfollowed := true, recurses := true, apart := false }
def PruneDoesSaid : Prop := pruneDoesRow.holds Try.pinned (OpenSpec.ofChange pruneDoesSpec)

/-- ITS FALSE NEIGHBOUR: 'it returns false'. Refute it at one input. -/
def pruneDoesWrong : ChangeSpec := { name := "pruneDoes", fn := fun _ => fun
  | [d] => { results := [.lit (.bool false)], args := [d] }
  | _ => none }
def PruneDoesWrongFalsely : Prop := pruneDoesRow.holds Try.pinned (OpenSpec.ofChange pruneDoesWrong)

/-- 'wicketgatelaw22.PruneSame': WHATEVER THE INPUT: true; the input reads as it did. -/
def pruneSameSpec : ChangeSpec := { name := "pruneSame", fn := fun _ => fun
  | [d1, d2] => { results := [.lit (.bool true)], args := [d1, d2] }
  | _ => none }
def pruneSameRow : OpenClaim := { program := "ytfjbanfibmpalaa", sum := "92d1f6b6fca140662afa4b5fec8ee32f062cecaf320ad1794520c78c3f768209", func := "wicketgate/wicketgatelaw22.PruneSame", spec := "pruneSame", unfollowed := true, recurses := true, apart := false }
def PruneSameSaid : Prop := pruneSameRow.holds Try.pinned (OpenSpec.ofChange pruneSameSpec)

/-- ITS FALSE NEIGHBOUR: 'it returns false'. Refute it at one input. -/
def pruneSameWrong : ChangeSpec := { name := "pruneSame", fn := fun _ => fun
  | [d1, d2] => { results := [.lit (.bool false)], args := [d1, d2] }
  | _ => none }
def PruneSameWrongFalsely : Prop := pruneSameRow.holds Try.pinned (OpenSpec.ofChange pruneSameWrong)

/-- 'wicketgatelaw22.PruneVain': WHATEVER THE INPUT: true; the input reads as it did. -/
def pruneVainSpec : ChangeSpec := { name := "pruneVain", fn := fun _ => fun
  | [d1, d2] => { results := [.lit (.bool true)], args := [d1, d2] }
  | _ => none }
def pruneVainRow : OpenClaim := { program := "ytfjbanfibmpalaa", sum := "92d1f6b6fca140662afa4b5fec8ee32f062cecaf320ad1794520c78c3f768209", func := "wicketgate/wicketgatelaw22.PruneVain", spec := "pruneVain", unfollowed := true, recurses := true, apart := false }
def PruneVainSaid : Prop := pruneVainRow.holds Try.pinned (OpenSpec.ofChange pruneVainSpec)

/-- ITS FALSE NEIGHBOUR: 'it returns false'. Refute it at one input. -/
def pruneVainWrong : ChangeSpec := { name := "pruneVain", fn := fun _ => fun
  | [d1, d2] => { results := [.lit (.bool false)], args := [d1, d2] }
  | _ => none }
def PruneVainWrongFalsely : Prop := pruneVainRow.holds Try.pinned (OpenSpec.ofChange pruneVainWrong)

/-- 'wicketgatelaw05.VmAlu': WHATEVER THE INPUT: true; the input reads as it did. -/
def vmAluSpec : ChangeSpec := { name := "vmAlu", fn := fun _ => fun
  | [d1, d2, d3] => { results := [.lit (.bool true)], args := [d1, d2, d3] }
  | _ => none }
def vmAluRow : OpenClaim := { program := "ytfjbanfibmpalaa", sum := "92d1f6b6fca140662afa4b5fec8ee32f062cecaf320ad1794520c78c3f768209", func := "wicketgate/wicketgatelaw05.VmAlu", spec := "vmAlu", unfollowed := true, recurses := true, apart := false }
def VmAluSaid : Prop := vmAluRow.holds Try.pinned (OpenSpec.ofChange vmAluSpec)

/-- ITS FALSE NEIGHBOUR: 'it returns false'. Refute it at one input. -/
def vmAluWrong : ChangeSpec := { name := "vmAlu", fn := fun _ => fun
  | [d1, d2, d3] => { results := [.lit (.bool false)], args := [d1, d2, d3] }
  | _ => none }
def VmAluWrongFalsely : Prop := vmAluRow.holds Try.pinned (OpenSpec.ofChange vmAluWrong)

/-- 'wicketgatelaw05.VmSteps': WHATEVER THE INPUT: true; the input reads as it did. -/
def vmStepsSpec : ChangeSpec := { name := "vmSteps", fn := fun _ => fun
  | [d1, d2, d3] => { results := [.lit (.bool true)], args := [d1, d2, d3] }
  | _ => none }
def vmStepsRow : OpenClaim := { program := "ytfjbanfibmpalaa", sum := "92d1f6b6fca140662afa4b5fec8ee32f062cecaf320ad1794520c78c3f768209", func := "wicketgate/wicketgatelaw05.VmSteps", spec := "vmSteps", unfollowed := true, recurses := true, apart := false }
def VmStepsSaid : Prop := vmStepsRow.holds Try.pinned (OpenSpec.ofChange vmStepsSpec)

/-- ITS FALSE NEIGHBOUR: 'it returns false'. Refute it at one input. -/
def vmStepsWrong : ChangeSpec := { name := "vmSteps", fn := fun _ => fun
  | [d1, d2, d3] => { results := [.lit (.bool false)], args := [d1, d2, d3] }
  | _ => none }
def VmStepsWrongFalsely : Prop := vmStepsRow.holds Try.pinned (OpenSpec.ofChange vmStepsWrong)

/-- 'wicketgatelaw05.VmRuns': WHATEVER THE INPUT: true; the input reads as it did. -/
def vmRunsSpec : ChangeSpec := { name := "vmRuns", fn := fun _ => fun
  | [d1, d2] => { results := [.lit (.bool true)], args := [d1, d2] }
  | _ => none }
def vmRunsRow : OpenClaim := { program := "ytfjbanfibmpalaa", sum := "92d1f6b6fca140662afa4b5fec8ee32f062cecaf320ad1794520c78c3f768209", func := "wicketgate/wicketgatelaw05.VmRuns", spec := "vmRuns", unfollowed := true, recurses := true, apart := false }
def VmRunsSaid : Prop := vmRunsRow.holds Try.pinned (OpenSpec.ofChange vmRunsSpec)

/-- ITS FALSE NEIGHBOUR: 'it returns false'. Refute it at one input. -/
def vmRunsWrong : ChangeSpec := { name := "vmRuns", fn := fun _ => fun
  | [d1, d2] => { results := [.lit (.bool false)], args := [d1, d2] }
  | _ => none }
def VmRunsWrongFalsely : Prop := vmRunsRow.holds Try.pinned (OpenSpec.ofChange vmRunsWrong)

/-- 'wicketgatelaw22.PruneLess': WHATEVER THE INPUT: true; the input reads as it did. -/
def pruneLessSpec : ChangeSpec := { name := "pruneLess", fn := fun _ => fun
  | [d] => { results := [.lit (.bool true)], args := [d] }
  | _ => none }
def pruneLessRow : OpenClaim := { program := "ytfjbanfibmpalaa", sum := "92d1f6b6fca140662afa4b5fec8ee32f062cecaf320ad1794520c78c3f768209", func := "wicketgate/wicketgatelaw22.PruneLess", spec := "pruneLess", unfollowed := true, recurses := true, apart := false }
def PruneLessSaid : Prop := pruneLessRow.holds Try.pinned (OpenSpec.ofChange pruneLessSpec)

/-- ITS FALSE NEIGHBOUR: 'it returns false'. Refute it at one input. -/
def pruneLessWrong : ChangeSpec := { name := "pruneLess", fn := fun _ => fun
  | [d] => { results := [.lit (.bool false)], args := [d] }
  | _ => none }
def PruneLessWrongFalsely : Prop := pruneLessRow.holds Try.pinned (OpenSpec.ofChange pruneLessWrong)

/-- 'wicketgatelaw05.VmSees': WHATEVER THE INPUT: true; the input reads as it did. -/
def vmSeesSpec : ChangeSpec := { name := "vmSees", fn := fun _ => fun
  | [d1, d2, d3] => { results := [.lit (.bool true)], args := [d1, d2, d3] }
  | _ => none }
def vmSeesRow : OpenClaim := { program := "ytfjbanfibmpalaa", sum := "92d1f6b6fca140662afa4b5fec8ee32f062cecaf320ad1794520c78c3f768209", func := "wicketgate/wicketgatelaw05.VmSees", spec := "vmSees", unfollowed := true, recurses := true, apart := false }
def VmSeesSaid : Prop := vmSeesRow.holds Try.pinned (OpenSpec.ofChange vmSeesSpec)

/-- ITS FALSE NEIGHBOUR: 'it returns false'. Refute it at one input. -/
def vmSeesWrong : ChangeSpec := { name := "vmSees", fn := fun _ => fun
  | [d1, d2, d3] => { results := [.lit (.bool false)], args := [d1, d2, d3] }
  | _ => none }
def VmSeesWrongFalsely : Prop := vmSeesRow.holds Try.pinned (OpenSpec.ofChange vmSeesWrong)

/-- 'wicketgatelaw07.BitmapBits': WHATEVER THE INPUT: true; the input reads as it did. -/
def bitmapBitsSpec : ChangeSpec := { name := "bitmapBits", fn := fun _ => fun
  | [d1, d2] => { results := [.lit (.bool true)], args := [d1, d2] }
  | _ => none }
def bitmapBitsRow : OpenClaim := { program := "ytfjbanfibmpalaa", sum := "92d1f6b6fca140662afa4b5fec8ee32f062cecaf320ad1794520c78c3f768209", func := "wicketgate/wicketgatelaw07.BitmapBits", spec := "bitmapBits", unfollowed := true, recurses := true, apart := false }
def BitmapBitsSaid : Prop := bitmapBitsRow.holds Try.pinned (OpenSpec.ofChange bitmapBitsSpec)

/-- ITS FALSE NEIGHBOUR: 'it returns false'. Refute it at one input. -/
def bitmapBitsWrong : ChangeSpec := { name := "bitmapBits", fn := fun _ => fun
  | [d1, d2] => { results := [.lit (.bool false)], args := [d1, d2] }
  | _ => none }
def BitmapBitsWrongFalsely : Prop := bitmapBitsRow.holds Try.pinned (OpenSpec.ofChange bitmapBitsWrong)

/-- 'wicketgatelaw07.BitmapFlows': WHATEVER THE INPUT: true; the input reads as it did. -/
def bitmapFlowsSpec : ChangeSpec := { name := "bitmapFlows", fn := fun _ => fun
  | [d1, d2, d3] => { results := [.lit (.bool true)], args := [d1, d2, d3] }
  | _ => none }
def bitmapFlowsRow : OpenClaim := { program := "ytfjbanfibmpalaa", sum := "92d1f6b6fca140662afa4b5fec8ee32f062cecaf320ad1794520c78c3f768209", func := "wicketgate/wicketgatelaw07.BitmapFlows", spec := "bitmapFlows", unfollowed := true, recurses := true, apart := false }
def BitmapFlowsSaid : Prop := bitmapFlowsRow.holds Try.pinned (OpenSpec.ofChange bitmapFlowsSpec)

/-- ITS FALSE NEIGHBOUR: 'it returns false'. Refute it at one input. -/
def bitmapFlowsWrong : ChangeSpec := { name := "bitmapFlows", fn := fun _ => fun
  | [d1, d2, d3] => { results := [.lit (.bool false)], args := [d1, d2, d3] }
  | _ => none }
def BitmapFlowsWrongFalsely : Prop := bitmapFlowsRow.holds Try.pinned (OpenSpec.ofChange bitmapFlowsWrong)

/-- 'wicketgatelaw07.BitmapFits': WHATEVER THE INPUT: true; the input reads as it did. -/
def bitmapFitsSpec : ChangeSpec := { name := "bitmapFits", fn := fun _ => fun
  | [d1, d2] => { results := [.lit (.bool true)], args := [d1, d2] }
  | _ => none }
def bitmapFitsRow : OpenClaim := { program := "ytfjbanfibmpalaa", sum := "92d1f6b6fca140662afa4b5fec8ee32f062cecaf320ad1794520c78c3f768209", func := "wicketgate/wicketgatelaw07.BitmapFits", spec := "bitmapFits", unfollowed := true, recurses := true, apart := false }
def BitmapFitsSaid : Prop := bitmapFitsRow.holds Try.pinned (OpenSpec.ofChange bitmapFitsSpec)

/-- ITS FALSE NEIGHBOUR: 'it returns false'. Refute it at one input. -/
def bitmapFitsWrong : ChangeSpec := { name := "bitmapFits", fn := fun _ => fun
  | [d1, d2] => { results := [.lit (.bool false)], args := [d1, d2] }
  | _ => none }
def BitmapFitsWrongFalsely : Prop := bitmapFitsRow.holds Try.pinned (OpenSpec.ofChange bitmapFitsWrong)

/-- 'wicketgatelaw05.VmEnds': WHATEVER THE INPUT: true; the input reads as it did. -/
def vmEndsSpec : ChangeSpec := { name := "vmEnds", fn := fun _ => fun
  | [d1, d2] => { results := [.lit (.bool true)], args := [d1, d2] }
  | _ => none }
def vmEndsRow : OpenClaim := { program := "ytfjbanfibmpalaa", sum := "92d1f6b6fca140662afa4b5fec8ee32f062cecaf320ad1794520c78c3f768209", func := "wicketgate/wicketgatelaw05.VmEnds", spec := "vmEnds", unfollowed := true, recurses := true, apart := false }
def VmEndsSaid : Prop := vmEndsRow.holds Try.pinned (OpenSpec.ofChange vmEndsSpec)

/-- ITS FALSE NEIGHBOUR: 'it returns false'. Refute it at one input. -/
def vmEndsWrong : ChangeSpec := { name := "vmEnds", fn := fun _ => fun
  | [d1, d2] => { results := [.lit (.bool false)], args := [d1, d2] }
  | _ => none }
def VmEndsWrongFalsely : Prop := vmEndsRow.holds Try.pinned (OpenSpec.ofChange vmEndsWrong)

/-- 'wicketgatelaw22.PruneSays': WHATEVER THE INPUT: true; the input reads as it did. -/
def pruneSaysSpec : ChangeSpec := { name := "pruneSays", fn := fun _ => fun
  | [d1, d2] => { results := [.lit (.bool true)], args := [d1, d2] }
  | _ => none }
def pruneSaysRow : OpenClaim := { program := "ytfjbanfibmpalaa", sum := "92d1f6b6fca140662afa4b5fec8ee32f062cecaf320ad1794520c78c3f768209", func := "wicketgate/wicketgatelaw22.PruneSays", spec := "pruneSays", unfollowed := true, recurses := true, apart := false }
def PruneSaysSaid : Prop := pruneSaysRow.holds Try.pinned (OpenSpec.ofChange pruneSaysSpec)

/-- ITS FALSE NEIGHBOUR: 'it returns false'. Refute it at one input. -/
def pruneSaysWrong : ChangeSpec := { name := "pruneSays", fn := fun _ => fun
  | [d1, d2] => { results := [.lit (.bool false)], args := [d1, d2] }
  | _ => none }
def PruneSaysWrongFalsely : Prop := pruneSaysRow.holds Try.pinned (OpenSpec.ofChange pruneSaysWrong)

/-- 'wicketgatelaw07.BitmapSound': WHATEVER THE INPUT: true; the input reads as it did. -/
def bitmapSoundSpec : ChangeSpec := { name := "bitmapSound", fn := fun _ => fun
  | [d1, d2] => { results := [.lit (.bool true)], args := [d1, d2] }
  | _ => none }
def bitmapSoundRow : OpenClaim := { program := "ytfjbanfibmpalaa", sum := "92d1f6b6fca140662afa4b5fec8ee32f062cecaf320ad1794520c78c3f768209", func := "wicketgate/wicketgatelaw07.BitmapSound", spec := "bitmapSound", unfollowed := true, recurses := true, apart := false }
def BitmapSoundSaid : Prop := bitmapSoundRow.holds Try.pinned (OpenSpec.ofChange bitmapSoundSpec)

/-- ITS FALSE NEIGHBOUR: 'it returns false'. Refute it at one input. -/
def bitmapSoundWrong : ChangeSpec := { name := "bitmapSound", fn := fun _ => fun
  | [d1, d2] => { results := [.lit (.bool false)], args := [d1, d2] }
  | _ => none }
def BitmapSoundWrongFalsely : Prop := bitmapSoundRow.holds Try.pinned (OpenSpec.ofChange bitmapSoundWrong)

/- THE SECOND FORM. 'bulk': how many values and letters a reading holds, each counted each time it is reached (what is shared counts as often as it is met; a slice's spare places count too). A statement '..UptoSaid' is the law's where the arguments, and the package variables that the reading takes, are together of bulk at most 1048576: NARROWER than '..Said'. Prove '..Said' where nothing that the law and all that it calls make is longer than what came in: it says more and counts as full. Else prove '..UptoSaid'. A law counts once. -/
mutual
def uptoBulk {H : Type} : DataW H → Nat
  | .lit (.string bytes) => bytes.length + 1
  | .lit _ => 1
  | .nil => 1
  | .ptr d => uptoBulk d + 1
  | .slice elems spare => uptoBulkAll elems + uptoBulkAll spare + 1
  | .agg parts => uptoBulkAll parts + 1
  | .iface _ d => uptoBulk d + 1
  | .map entries => uptoBulkEntries entries + 1
  | .held _ => 1
def uptoBulkAll {H : Type} : List (DataW H) → Nat
  | [] => 0
  | d :: r => uptoBulk d + uptoBulkAll r
def uptoBulkEntries {H : Type} : List (Lit × DataW H) → Nat
  | [] => 0
  | x :: r => uptoBulkEntry x + uptoBulkEntries r
def uptoBulkEntry {H : Type} : Lit × DataW H → Nat
  | (.string bytes, d) => bytes.length + uptoBulk d + 1
  | (_, d) => uptoBulk d + 1
 end
def uptoSmall : (H : Type) → List (DataW H) → Bool := fun _ ds => decide (uptoBulkAll ds ≤ 1048576)
def OpenSpec.upto (s : _root_.Go.ChangeSpec) : _root_.Go.OpenSpec := { _root_.Go.OpenSpec.ofChange s with cond := some uptoSmall }

/-- 'wicketgatelaw22.PruneDoes', WHERE WHAT IT READS IS OF BULK AT MOST 1048576: true; the input reads as it did. -/
def pruneDoesUptoRow : OpenClaim := { program := "ytfjbanfibmpalaa", sum := "92d1f6b6fca140662afa4b5fec8ee32f062cecaf320ad1794520c78c3f768209", func := "wicketgate/wicketgatelaw22.PruneDoes", spec := "pruneDoes", unfollowed := true, recurses := true, apart := false, narrowed := true }
def PruneDoesUptoSaid : Prop := pruneDoesUptoRow.holds Try.pinned (OpenSpec.upto pruneDoesSpec)

/-- 'wicketgatelaw22.PruneSame', WHERE WHAT IT READS IS OF BULK AT MOST 1048576: true; the input reads as it did. -/
def pruneSameUptoRow : OpenClaim := { program := "ytfjbanfibmpalaa", sum := "92d1f6b6fca140662afa4b5fec8ee32f062cecaf320ad1794520c78c3f768209", func := "wicketgate/wicketgatelaw22.PruneSame", spec := "pruneSame", unfollowed := true, recurses := true, apart := false, narrowed := true }
def PruneSameUptoSaid : Prop := pruneSameUptoRow.holds Try.pinned (OpenSpec.upto pruneSameSpec)

/-- 'wicketgatelaw22.PruneVain', WHERE WHAT IT READS IS OF BULK AT MOST 1048576: true; the input reads as it did. -/
def pruneVainUptoRow : OpenClaim := { program := "ytfjbanfibmpalaa", sum := "92d1f6b6fca140662afa4b5fec8ee32f062cecaf320ad1794520c78c3f768209", func := "wicketgate/wicketgatelaw22.PruneVain", spec := "pruneVain", unfollowed := true, recurses := true, apart := false, narrowed := true }
def PruneVainUptoSaid : Prop := pruneVainUptoRow.holds Try.pinned (OpenSpec.upto pruneVainSpec)

/-- 'wicketgatelaw05.VmAlu', WHERE WHAT IT READS IS OF BULK AT MOST 1048576: true; the input reads as it did. -/
def vmAluUptoRow : OpenClaim := { program := "ytfjbanfibmpalaa", sum := "92d1f6b6fca140662afa4b5fec8ee32f062cecaf320ad1794520c78c3f768209", func := "wicketgate/wicketgatelaw05.VmAlu", spec := "vmAlu", unfollowed := true, recurses := true, apart := false, narrowed := true }
def VmAluUptoSaid : Prop := vmAluUptoRow.holds Try.pinned (OpenSpec.upto vmAluSpec)

/-- 'wicketgatelaw05.VmSteps', WHERE WHAT IT READS IS OF BULK AT MOST 1048576: true; the input reads as it did. -/
def vmStepsUptoRow : OpenClaim := { program := "ytfjbanfibmpalaa", sum := "92d1f6b6fca140662afa4b5fec8ee32f062cecaf320ad1794520c78c3f768209", func := "wicketgate/wicketgatelaw05.VmSteps", spec := "vmSteps", unfollowed := true, recurses := true, apart := false, narrowed := true }
def VmStepsUptoSaid : Prop := vmStepsUptoRow.holds Try.pinned (OpenSpec.upto vmStepsSpec)

/-- 'wicketgatelaw05.VmRuns', WHERE WHAT IT READS IS OF BULK AT MOST 1048576: true; the input reads as it did. -/
def vmRunsUptoRow : OpenClaim := { program := "ytfjbanfibmpalaa", sum := "92d1f6b6fca140662afa4b5fec8ee32f062cecaf320ad1794520c78c3f768209", func := "wicketgate/wicketgatelaw05.VmRuns", spec := "vmRuns", unfollowed := true, recurses := true, apart := false, narrowed := true }
def VmRunsUptoSaid : Prop := vmRunsUptoRow.holds Try.pinned (OpenSpec.upto vmRunsSpec)

/-- 'wicketgatelaw22.PruneLess', WHERE WHAT IT READS IS OF BULK AT MOST 1048576: true; the input reads as it did. -/
def pruneLessUptoRow : OpenClaim := { program := "ytfjbanfibmpalaa", sum := "92d1f6b6fca140662afa4b5fec8ee32f062cecaf320ad1794520c78c3f768209", func := "wicketgate/wicketgatelaw22.PruneLess", spec := "pruneLess", unfollowed := true, recurses := true, apart := false, narrowed := true }
def PruneLessUptoSaid : Prop := pruneLessUptoRow.holds Try.pinned (OpenSpec.upto pruneLessSpec)

/-- 'wicketgatelaw05.VmSees', WHERE WHAT IT READS IS OF BULK AT MOST 1048576: true; the input reads as it did. -/
def vmSeesUptoRow : OpenClaim := { program := "ytfjbanfibmpalaa", sum := "92d1f6b6fca140662afa4b5fec8ee32f062cecaf320ad1794520c78c3f768209", func := "wicketgate/wicketgatelaw05.VmSees", spec := "vmSees", unfollowed := true, recurses := true, apart := false, narrowed := true }
def VmSeesUptoSaid : Prop := vmSeesUptoRow.holds Try.pinned (OpenSpec.upto vmSeesSpec)

/-- 'wicketgatelaw07.BitmapBits', WHERE WHAT IT READS IS OF BULK AT MOST 1048576: true; the input reads as it did. -/
def bitmapBitsUptoRow : OpenClaim := { program := "ytfjbanfibmpalaa", sum := "92d1f6b6fca140662afa4b5fec8ee32f062cecaf320ad1794520c78c3f768209", func := "wicketgate/wicketgatelaw07.BitmapBits", spec := "bitmapBits", unfollowed := true, recurses := true, apart := false, narrowed := true }
def BitmapBitsUptoSaid : Prop := bitmapBitsUptoRow.holds Try.pinned (OpenSpec.upto bitmapBitsSpec)

/-- 'wicketgatelaw07.BitmapFlows', WHERE WHAT IT READS IS OF BULK AT MOST 1048576: true; the input reads as it did. -/
def bitmapFlowsUptoRow : OpenClaim := { program := "ytfjbanfibmpalaa", sum := "92d1f6b6fca140662afa4b5fec8ee32f062cecaf320ad1794520c78c3f768209", func := "wicketgate/wicketgatelaw07.BitmapFlows", spec := "bitmapFlows", unfollowed := true, recurses := true, apart := false, narrowed := true }
def BitmapFlowsUptoSaid : Prop := bitmapFlowsUptoRow.holds Try.pinned (OpenSpec.upto bitmapFlowsSpec)

/-- 'wicketgatelaw07.BitmapFits', WHERE WHAT IT READS IS OF BULK AT MOST 1048576: true; the input reads as it did. -/
def bitmapFitsUptoRow : OpenClaim := { program := "ytfjbanfibmpalaa", sum := "92d1f6b6fca140662afa4b5fec8ee32f062cecaf320ad1794520c78c3f768209", func := "wicketgate/wicketgatelaw07.BitmapFits", spec := "bitmapFits", unfollowed := true, recurses := true, apart := false, narrowed := true }
def BitmapFitsUptoSaid : Prop := bitmapFitsUptoRow.holds Try.pinned (OpenSpec.upto bitmapFitsSpec)

/-- 'wicketgatelaw05.VmEnds', WHERE WHAT IT READS IS OF BULK AT MOST 1048576: true; the input reads as it did. -/
def vmEndsUptoRow : OpenClaim := { program := "ytfjbanfibmpalaa", sum := "92d1f6b6fca140662afa4b5fec8ee32f062cecaf320ad1794520c78c3f768209", func := "wicketgate/wicketgatelaw05.VmEnds", spec := "vmEnds", unfollowed := true, recurses := true, apart := false, narrowed := true }
def VmEndsUptoSaid : Prop := vmEndsUptoRow.holds Try.pinned (OpenSpec.upto vmEndsSpec)

/-- 'wicketgatelaw22.PruneSays', WHERE WHAT IT READS IS OF BULK AT MOST 1048576: true; the input reads as it did. -/
def pruneSaysUptoRow : OpenClaim := { program := "ytfjbanfibmpalaa", sum := "92d1f6b6fca140662afa4b5fec8ee32f062cecaf320ad1794520c78c3f768209", func := "wicketgate/wicketgatelaw22.PruneSays", spec := "pruneSays", unfollowed := true, recurses := true, apart := false, narrowed := true }
def PruneSaysUptoSaid : Prop := pruneSaysUptoRow.holds Try.pinned (OpenSpec.upto pruneSaysSpec)

/-- 'wicketgatelaw07.BitmapSound', WHERE WHAT IT READS IS OF BULK AT MOST 1048576: true; the input reads as it did. -/
def bitmapSoundUptoRow : OpenClaim := { program := "ytfjbanfibmpalaa", sum := "92d1f6b6fca140662afa4b5fec8ee32f062cecaf320ad1794520c78c3f768209", func := "wicketgate/wicketgatelaw07.BitmapSound", spec := "bitmapSound", unfollowed := true, recurses := true, apart := false, narrowed := true }
def BitmapSoundUptoSaid : Prop := bitmapSoundUptoRow.holds Try.pinned (OpenSpec.upto bitmapSoundSpec)

end Rows
end Go.Proofs.Ytfjbanfibmpalaa
