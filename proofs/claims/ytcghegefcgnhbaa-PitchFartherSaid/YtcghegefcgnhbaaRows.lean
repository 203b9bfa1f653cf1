/-
  No cell of these rows narrows 'for every input' (looked for: loops, veiled, ifaces, maps, wideKeys, modest, calm, conditions, laid).
  DERIVED. THE GIVEN ROWS OF THIS SEAT. 17 by the template 'for every input the law returns true; each argument reads behind the call as it read before'; 0 by the template 'total and deterministic' (their statements: YtcghegefcgnhbaaTotals.lean).
  GIVEN WITH THE SEED: the statements are not yours to turn. If you find one false, say at which input.
  Laid BY PROGRAM, IN A SANDBOX (cutbox-rows.mjs): the forced cells as the released guide's own fill.sh prints them over the translation aa7da417ac32ad0e… (all of the seat's roots in one cut). By AI agents, Wed Nov 11 2026. No macro, syntax, notation, axiom, sorry.
-/
import Derived.Test.YtcghegefcgnhbaaChecked
import GoSem.Claim
import GoSem.ClaimJoined
import GoSem.ClaimMapViews
import Derived.JoinedTies
import Derived.KernelRfl
namespace Go.Proofs.Ytcghegefcgnhbaa
/- THE CELL 'sum', in the pinned program and in every row, IS THE sha256 OF THE DUMP (.gsa) THAT YtcghegefcgnhbaaProg.lean LOADS. Nothing in Lean hashes anything: it is a label: what it is worth is what the hold of that sum in a sandbox is worth. -/
noncomputable def Try.pinned : Pinned := { name := "ytcghegefcgnhbaa", sum := "aa7da417ac32ad0ed3cff016b3ee83e19c358c21e23ecaba702a9f5504a4a44e", checked := Try.checked }
namespace Rows
def none {H : Type} : Left H := { results := [], args := [] }

/-- 'fipplelaw01.PitchIntervals': WHATEVER THE INPUT: true; the input reads as it did. -/
def pitchIntervalsSpec : ChangeSpec := { name := "pitchIntervals", fn := fun _ => fun
  | [d1, d2] => { results := [.lit (.bool true)], args := [d1, d2] }
  | _ => none }
def pitchIntervalsRow : OpenClaim := { program := "ytcghegefcgnhbaa", sum := "aa7da417ac32ad0ed3cff016b3ee83e19c358c21e23ecaba702a9f5504a4a44e", func := "fipple/fipplelaw01.PitchIntervals", spec := "pitchIntervals", unfollowed := true, recurses := true, plainKeys := false, apart := false }
def PitchIntervalsSaid : Prop := pitchIntervalsRow.holds Try.pinned (OpenSpec.ofChange pitchIntervalsSpec)

/-- ITS FALSE NEIGHBOUR: 'it returns false'. Refute it at one input. -/
def pitchIntervalsWrong : ChangeSpec := { name := "pitchIntervals", fn := fun _ => fun
  | [d1, d2] => { results := [.lit (.bool false)], args := [d1, d2] }
  | _ => none }
def PitchIntervalsWrongFalsely : Prop := pitchIntervalsRow.holds Try.pinned (OpenSpec.ofChange pitchIntervalsWrong)

/-- 'fipplelaw01.PitchNeighbours': WHATEVER THE INPUT: true; the input reads as it did. -/
def pitchNeighboursSpec : ChangeSpec := { name := "pitchNeighbours", fn := fun _ => fun
  | [d1, d2, d3, d4] => { results := [.lit (.bool true)], args := [d1, d2, d3, d4] }
  | _ => none }
def pitchNeighboursRow : OpenClaim := { program := "ytcghegefcgnhbaa", sum := "aa7da417ac32ad0ed3cff016b3ee83e19c358c21e23ecaba702a9f5504a4a44e", func := "fipple/fipplelaw01.PitchNeighbours", spec := "pitchNeighbours", unfollowed := true, recurses := true, plainKeys := false, apart := false }
def PitchNeighboursSaid : Prop := pitchNeighboursRow.holds Try.pinned (OpenSpec.ofChange pitchNeighboursSpec)

/-- ITS FALSE NEIGHBOUR: 'it returns false'. Refute it at one input. -/
def pitchNeighboursWrong : ChangeSpec := { name := "pitchNeighbours", fn := fun _ => fun
  | [d1, d2, d3, d4] => { results := [.lit (.bool false)], args := [d1, d2, d3, d4] }
  | _ => none }
def PitchNeighboursWrongFalsely : Prop := pitchNeighboursRow.holds Try.pinned (OpenSpec.ofChange pitchNeighboursWrong)

/-- 'fipplelaw01.PitchNears': WHATEVER THE INPUT: true; the input reads as it did. -/
def pitchNearsSpec : ChangeSpec := { name := "pitchNears", fn := fun _ => fun
  | [d1, d2, d3] => { results := [.lit (.bool true)], args := [d1, d2, d3] }
  | _ => none }
def pitchNearsRow : OpenClaim := { program := "ytcghegefcgnhbaa", sum := "aa7da417ac32ad0ed3cff016b3ee83e19c358c21e23ecaba702a9f5504a4a44e", func := "fipple/fipplelaw01.PitchNears", spec := "pitchNears", unfollowed := true, recurses := true, plainKeys := false, apart := false }
def PitchNearsSaid : Prop := pitchNearsRow.holds Try.pinned (OpenSpec.ofChange pitchNearsSpec)

/-- ITS FALSE NEIGHBOUR: 'it returns false'. Refute it at one input. -/
def pitchNearsWrong : ChangeSpec := { name := "pitchNears", fn := fun _ => fun
  | [d1, d2, d3] => { results := [.lit (.bool false)], args := [d1, d2, d3] }
  | _ => none }
def PitchNearsWrongFalsely : Prop := pitchNearsRow.holds Try.pinned (OpenSpec.ofChange pitchNearsWrong)

/-- 'fipplelaw01.PitchSimples': WHATEVER THE INPUT: true; the input reads as it did. -/
def pitchSimplesSpec : ChangeSpec := { name := "pitchSimples", fn := fun _ => fun
  | [d1, d2, d3] => { results := [.lit (.bool true)], args := [d1, d2, d3] }
  | _ => none }
def pitchSimplesRow : OpenClaim := { program := "ytcghegefcgnhbaa", sum := "aa7da417ac32ad0ed3cff016b3ee83e19c358c21e23ecaba702a9f5504a4a44e", func := "fipple/fipplelaw01.PitchSimples", spec := "pitchSimples", unfollowed := true, recurses := true, plainKeys := false, apart := false }
def PitchSimplesSaid : Prop := pitchSimplesRow.holds Try.pinned (OpenSpec.ofChange pitchSimplesSpec)

/-- ITS FALSE NEIGHBOUR: 'it returns false'. Refute it at one input. -/
def pitchSimplesWrong : ChangeSpec := { name := "pitchSimples", fn := fun _ => fun
  | [d1, d2, d3] => { results := [.lit (.bool false)], args := [d1, d2, d3] }
  | _ => none }
def PitchSimplesWrongFalsely : Prop := pitchSimplesRow.holds Try.pinned (OpenSpec.ofChange pitchSimplesWrong)

/-- 'fipplelaw01.PitchPaths': WHATEVER THE INPUT: true; the input reads as it did. -/
def pitchPathsSpec : ChangeSpec := { name := "pitchPaths", fn := fun _ => fun
  | [d1, d2] => { results := [.lit (.bool true)], args := [d1, d2] }
  | _ => none }
def pitchPathsRow : OpenClaim := { program := "ytcghegefcgnhbaa", sum := "aa7da417ac32ad0ed3cff016b3ee83e19c358c21e23ecaba702a9f5504a4a44e", func := "fipple/fipplelaw01.PitchPaths", spec := "pitchPaths", unfollowed := true, recurses := true, plainKeys := false, apart := false }
def PitchPathsSaid : Prop := pitchPathsRow.holds Try.pinned (OpenSpec.ofChange pitchPathsSpec)

/-- ITS FALSE NEIGHBOUR: 'it returns false'. Refute it at one input. -/
def pitchPathsWrong : ChangeSpec := { name := "pitchPaths", fn := fun _ => fun
  | [d1, d2] => { results := [.lit (.bool false)], args := [d1, d2] }
  | _ => none }
def PitchPathsWrongFalsely : Prop := pitchPathsRow.holds Try.pinned (OpenSpec.ofChange pitchPathsWrong)

/-- 'fipplelaw01.PitchChains': WHATEVER THE INPUT: true; the input reads as it did. -/
def pitchChainsSpec : ChangeSpec := { name := "pitchChains", fn := fun _ => fun
  | [d1, d2, d3] => { results := [.lit (.bool true)], args := [d1, d2, d3] }
  | _ => none }
def pitchChainsRow : OpenClaim := { program := "ytcghegefcgnhbaa", sum := "aa7da417ac32ad0ed3cff016b3ee83e19c358c21e23ecaba702a9f5504a4a44e", func := "fipple/fipplelaw01.PitchChains", spec := "pitchChains", unfollowed := true, recurses := true, plainKeys := false, apart := false }
def PitchChainsSaid : Prop := pitchChainsRow.holds Try.pinned (OpenSpec.ofChange pitchChainsSpec)

/-- ITS FALSE NEIGHBOUR: 'it returns false'. Refute it at one input. -/
def pitchChainsWrong : ChangeSpec := { name := "pitchChains", fn := fun _ => fun
  | [d1, d2, d3] => { results := [.lit (.bool false)], args := [d1, d2, d3] }
  | _ => none }
def PitchChainsWrongFalsely : Prop := pitchChainsRow.holds Try.pinned (OpenSpec.ofChange pitchChainsWrong)

/-- 'fipplelaw01.PitchProved': WHATEVER THE INPUT: true; the input reads as it did. -/
def pitchProvedSpec : ChangeSpec := { name := "pitchProved", fn := fun _ => fun
  | [d1, d2, d3, d4, d5, d6] => { results := [.lit (.bool true)], args := [d1, d2, d3, d4, d5, d6] }
  | _ => none }
def pitchProvedRow : OpenClaim := { program := "ytcghegefcgnhbaa", sum := "aa7da417ac32ad0ed3cff016b3ee83e19c358c21e23ecaba702a9f5504a4a44e", func := "fipple/fipplelaw01.PitchProved", spec := "pitchProved", unfollowed := true, recurses := true, plainKeys := false, apart := false }
def PitchProvedSaid : Prop := pitchProvedRow.holds Try.pinned (OpenSpec.ofChange pitchProvedSpec)

/-- ITS FALSE NEIGHBOUR: 'it returns false'. Refute it at one input. -/
def pitchProvedWrong : ChangeSpec := { name := "pitchProved", fn := fun _ => fun
  | [d1, d2, d3, d4, d5, d6] => { results := [.lit (.bool false)], args := [d1, d2, d3, d4, d5, d6] }
  | _ => none }
def PitchProvedWrongFalsely : Prop := pitchProvedRow.holds Try.pinned (OpenSpec.ofChange pitchProvedWrong)

/-- 'fipplelaw01.PitchNearest': WHATEVER THE INPUT: true; the input reads as it did. -/
def pitchNearestSpec : ChangeSpec := { name := "pitchNearest", fn := fun _ => fun
  | [d1, d2, d3, d4, d5] => { results := [.lit (.bool true)], args := [d1, d2, d3, d4, d5] }
  | _ => none }
def pitchNearestRow : OpenClaim := { program := "ytcghegefcgnhbaa", sum := "aa7da417ac32ad0ed3cff016b3ee83e19c358c21e23ecaba702a9f5504a4a44e", func := "fipple/fipplelaw01.PitchNearest", spec := "pitchNearest", unfollowed := true, recurses := true, plainKeys := false, apart := false }
def PitchNearestSaid : Prop := pitchNearestRow.holds Try.pinned (OpenSpec.ofChange pitchNearestSpec)

/-- ITS FALSE NEIGHBOUR: 'it returns false'. Refute it at one input. -/
def pitchNearestWrong : ChangeSpec := { name := "pitchNearest", fn := fun _ => fun
  | [d1, d2, d3, d4, d5] => { results := [.lit (.bool false)], args := [d1, d2, d3, d4, d5] }
  | _ => none }
def PitchNearestWrongFalsely : Prop := pitchNearestRow.holds Try.pinned (OpenSpec.ofChange pitchNearestWrong)

/-- 'fipplelaw01.PitchSimplest': WHATEVER THE INPUT: true; the input reads as it did. -/
def pitchSimplestSpec : ChangeSpec := { name := "pitchSimplest", fn := fun _ => fun
  | [d1, d2, d3, d4] => { results := [.lit (.bool true)], args := [d1, d2, d3, d4] }
  | _ => none }
def pitchSimplestRow : OpenClaim := { program := "ytcghegefcgnhbaa", sum := "aa7da417ac32ad0ed3cff016b3ee83e19c358c21e23ecaba702a9f5504a4a44e", func := "fipple/fipplelaw01.PitchSimplest", spec := "pitchSimplest", unfollowed := true, recurses := true, plainKeys := false, apart := false }
def PitchSimplestSaid : Prop := pitchSimplestRow.holds Try.pinned (OpenSpec.ofChange pitchSimplestSpec)

/-- ITS FALSE NEIGHBOUR: 'it returns false'. Refute it at one input. -/
def pitchSimplestWrong : ChangeSpec := { name := "pitchSimplest", fn := fun _ => fun
  | [d1, d2, d3, d4] => { results := [.lit (.bool false)], args := [d1, d2, d3, d4] }
  | _ => none }
def PitchSimplestWrongFalsely : Prop := pitchSimplestRow.holds Try.pinned (OpenSpec.ofChange pitchSimplestWrong)

/-- 'fipplelaw01.PitchBetween': WHATEVER THE INPUT: true; the input reads as it did. -/
def pitchBetweenSpec : ChangeSpec := { name := "pitchBetween", fn := fun _ => fun
  | [d1, d2, d3, d4] => { results := [.lit (.bool true)], args := [d1, d2, d3, d4] }
  | _ => none }
def pitchBetweenRow : OpenClaim := { program := "ytcghegefcgnhbaa", sum := "aa7da417ac32ad0ed3cff016b3ee83e19c358c21e23ecaba702a9f5504a4a44e", func := "fipple/fipplelaw01.PitchBetween", spec := "pitchBetween", unfollowed := true, recurses := true, plainKeys := false, apart := false }
def PitchBetweenSaid : Prop := pitchBetweenRow.holds Try.pinned (OpenSpec.ofChange pitchBetweenSpec)

/-- ITS FALSE NEIGHBOUR: 'it returns false'. Refute it at one input. -/
def pitchBetweenWrong : ChangeSpec := { name := "pitchBetween", fn := fun _ => fun
  | [d1, d2, d3, d4] => { results := [.lit (.bool false)], args := [d1, d2, d3, d4] }
  | _ => none }
def PitchBetweenWrongFalsely : Prop := pitchBetweenRow.holds Try.pinned (OpenSpec.ofChange pitchBetweenWrong)

/-- 'fipplelaw01.PitchWalked': WHATEVER THE INPUT: true; the input reads as it did. -/
def pitchWalkedSpec : ChangeSpec := { name := "pitchWalked", fn := fun _ => fun
  | [d1, d2] => { results := [.lit (.bool true)], args := [d1, d2] }
  | _ => none }
def pitchWalkedRow : OpenClaim := { program := "ytcghegefcgnhbaa", sum := "aa7da417ac32ad0ed3cff016b3ee83e19c358c21e23ecaba702a9f5504a4a44e", func := "fipple/fipplelaw01.PitchWalked", spec := "pitchWalked", unfollowed := true, recurses := true, plainKeys := false, apart := false }
def PitchWalkedSaid : Prop := pitchWalkedRow.holds Try.pinned (OpenSpec.ofChange pitchWalkedSpec)

/-- ITS FALSE NEIGHBOUR: 'it returns false'. Refute it at one input. -/
def pitchWalkedWrong : ChangeSpec := { name := "pitchWalked", fn := fun _ => fun
  | [d1, d2] => { results := [.lit (.bool false)], args := [d1, d2] }
  | _ => none }
def PitchWalkedWrongFalsely : Prop := pitchWalkedRow.holds Try.pinned (OpenSpec.ofChange pitchWalkedWrong)

/-- 'fipplelaw01.PitchFarther': WHATEVER THE INPUT: true; the input reads as it did. -/
def pitchFartherSpec : ChangeSpec := { name := "pitchFarther", fn := fun _ => fun
  | [d] => { results := [.lit (.bool true)], args := [d] }
  | _ => none }
def pitchFartherRow : OpenClaim := { program := "ytcghegefcgnhbaa", sum := "aa7da417ac32ad0ed3cff016b3ee83e19c358c21e23ecaba702a9f5504a4a44e", func := "fipple/fipplelaw01.PitchFarther", spec := "pitchFarther", unfollowed := true, recurses := true, plainKeys := false, apart := false }
def PitchFartherSaid : Prop := pitchFartherRow.holds Try.pinned (OpenSpec.ofChange pitchFartherSpec)

/-- ITS FALSE NEIGHBOUR: 'it returns false'. Refute it at one input. -/
def pitchFartherWrong : ChangeSpec := { name := "pitchFarther", fn := fun _ => fun
  | [d] => { results := [.lit (.bool false)], args := [d] }
  | _ => none }
def PitchFartherWrongFalsely : Prop := pitchFartherRow.holds Try.pinned (OpenSpec.ofChange pitchFartherWrong)

/-- 'fipplelaw01.PitchCounted': WHATEVER THE INPUT: true; the input reads as it did. -/
def pitchCountedSpec : ChangeSpec := { name := "pitchCounted", fn := fun _ => fun
  | [d1, d2, d3, d4] => { results := [.lit (.bool true)], args := [d1, d2, d3, d4] }
  | _ => none }
def pitchCountedRow : OpenClaim := { program := "ytcghegefcgnhbaa", sum := "aa7da417ac32ad0ed3cff016b3ee83e19c358c21e23ecaba702a9f5504a4a44e", func := "fipple/fipplelaw01.PitchCounted", spec := "pitchCounted", unfollowed := true, recurses := true, plainKeys := false, apart := false }
def PitchCountedSaid : Prop := pitchCountedRow.holds Try.pinned (OpenSpec.ofChange pitchCountedSpec)

/-- ITS FALSE NEIGHBOUR: 'it returns false'. Refute it at one input. -/
def pitchCountedWrong : ChangeSpec := { name := "pitchCounted", fn := fun _ => fun
  | [d1, d2, d3, d4] => { results := [.lit (.bool false)], args := [d1, d2, d3, d4] }
  | _ => none }
def PitchCountedWrongFalsely : Prop := pitchCountedRow.holds Try.pinned (OpenSpec.ofChange pitchCountedWrong)

/-- 'fipplelaw01.PitchThree': WHATEVER THE INPUT: true; the input reads as it did. -/
def pitchThreeSpec : ChangeSpec := { name := "pitchThree", fn := fun _ => fun
  | [d1, d2, d3] => { results := [.lit (.bool true)], args := [d1, d2, d3] }
  | _ => none }
def pitchThreeRow : OpenClaim := { program := "ytcghegefcgnhbaa", sum := "aa7da417ac32ad0ed3cff016b3ee83e19c358c21e23ecaba702a9f5504a4a44e", func := "fipple/fipplelaw01.PitchThree", spec := "pitchThree", unfollowed := true, recurses := true, plainKeys := false, apart := false }
def PitchThreeSaid : Prop := pitchThreeRow.holds Try.pinned (OpenSpec.ofChange pitchThreeSpec)

/-- ITS FALSE NEIGHBOUR: 'it returns false'. Refute it at one input. -/
def pitchThreeWrong : ChangeSpec := { name := "pitchThree", fn := fun _ => fun
  | [d1, d2, d3] => { results := [.lit (.bool false)], args := [d1, d2, d3] }
  | _ => none }
def PitchThreeWrongFalsely : Prop := pitchThreeRow.holds Try.pinned (OpenSpec.ofChange pitchThreeWrong)

/-- 'fipplelaw01.PitchTurned': WHATEVER THE INPUT: true; the input reads as it did. -/
def pitchTurnedSpec : ChangeSpec := { name := "pitchTurned", fn := fun _ => fun
  | [d1, d2, d3] => { results := [.lit (.bool true)], args := [d1, d2, d3] }
  | _ => none }
def pitchTurnedRow : OpenClaim := { program := "ytcghegefcgnhbaa", sum := "aa7da417ac32ad0ed3cff016b3ee83e19c358c21e23ecaba702a9f5504a4a44e", func := "fipple/fipplelaw01.PitchTurned", spec := "pitchTurned", unfollowed := true, recurses := true, plainKeys := false, apart := false }
def PitchTurnedSaid : Prop := pitchTurnedRow.holds Try.pinned (OpenSpec.ofChange pitchTurnedSpec)

/-- ITS FALSE NEIGHBOUR: 'it returns false'. Refute it at one input. -/
def pitchTurnedWrong : ChangeSpec := { name := "pitchTurned", fn := fun _ => fun
  | [d1, d2, d3] => { results := [.lit (.bool false)], args := [d1, d2, d3] }
  | _ => none }
def PitchTurnedWrongFalsely : Prop := pitchTurnedRow.holds Try.pinned (OpenSpec.ofChange pitchTurnedWrong)

/-- 'fipplelaw01.PitchBack': WHATEVER THE INPUT: true; the input reads as it did. -/
def pitchBackSpec : ChangeSpec := { name := "pitchBack", fn := fun _ => fun
  | [d1, d2, d3] => { results := [.lit (.bool true)], args := [d1, d2, d3] }
  | _ => none }
def pitchBackRow : OpenClaim := { program := "ytcghegefcgnhbaa", sum := "aa7da417ac32ad0ed3cff016b3ee83e19c358c21e23ecaba702a9f5504a4a44e", func := "fipple/fipplelaw01.PitchBack", spec := "pitchBack", unfollowed := true, recurses := true, plainKeys := false, apart := false }
def PitchBackSaid : Prop := pitchBackRow.holds Try.pinned (OpenSpec.ofChange pitchBackSpec)

/-- ITS FALSE NEIGHBOUR: 'it returns false'. Refute it at one input. -/
def pitchBackWrong : ChangeSpec := { name := "pitchBack", fn := fun _ => fun
  | [d1, d2, d3] => { results := [.lit (.bool false)], args := [d1, d2, d3] }
  | _ => none }
def PitchBackWrongFalsely : Prop := pitchBackRow.holds Try.pinned (OpenSpec.ofChange pitchBackWrong)

/-- 'fipplelaw01.PitchKnown': WHATEVER THE INPUT: true; the input reads as it did. -/
def pitchKnownSpec : ChangeSpec := { name := "pitchKnown", fn := fun _ => fun
  | [] => { results := [.lit (.bool true)], args := [] }
  | _ => none }
def pitchKnownRow : OpenClaim := { program := "ytcghegefcgnhbaa", sum := "aa7da417ac32ad0ed3cff016b3ee83e19c358c21e23ecaba702a9f5504a4a44e", func := "fipple/fipplelaw01.PitchKnown", spec := "pitchKnown", unfollowed := true, recurses := true, plainKeys := false, apart := false }
def PitchKnownSaid : Prop := pitchKnownRow.holds Try.pinned (OpenSpec.ofChange pitchKnownSpec)

/-- ITS FALSE NEIGHBOUR: 'it returns false'. Refute it at one input. -/
def pitchKnownWrong : ChangeSpec := { name := "pitchKnown", fn := fun _ => fun
  | [] => { results := [.lit (.bool false)], args := [] }
  | _ => none }
def PitchKnownWrongFalsely : Prop := pitchKnownRow.holds Try.pinned (OpenSpec.ofChange pitchKnownWrong)

/- THE SECOND FORM. 'bulk': how many values and letters a reading holds, each counted each time it is reached (what is shared counts as often as it is met; a slice's spare places count too). A statement '..UptoSaid' is the law's where the arguments, and the package variables that the reading takes, are together of bulk at most 1048576: NARROWER than '..Said'. Prove '..Said' where nothing that the law and all that it calls make is longer than what came in: it says more and counts as full. Else prove '..UptoSaid'. A law counts once. -/
mutual
def uptoBulk {H : Type} : DataW H → Nat
  | .lit (.string bytes) => bytes.length + 1
  | .lit _ => 1
  | .nil => 1
  | .ptr d => uptoBulk d + 1
  | .slice elems spare => uptoBulkAll elems + uptoBulkAll spare + 1
  | .agg parts => uptoBulkAll parts + 1
  | .iface _ d => uptoBulk d + 1
  | .map entries => uptoBulkEntries entries + 1
  | .held _ => 1
def uptoBulkAll {H : Type} : List (DataW H) → Nat
  | [] => 0
  | d :: r => uptoBulk d + uptoBulkAll r
def uptoBulkEntries {H : Type} : List (Lit × DataW H) → Nat
  | [] => 0
  | x :: r => uptoBulkEntry x + uptoBulkEntries r
def uptoBulkEntry {H : Type} : Lit × DataW H → Nat
  | (.string bytes, d) => bytes.length + uptoBulk d + 1
  | (_, d) => uptoBulk d + 1
 end
def uptoSmall : (H : Type) → List (DataW H) → Bool := fun _ ds => decide (uptoBulkAll ds ≤ 1048576)
def OpenSpec.upto (s : _root_.Go.ChangeSpec) : _root_.Go.OpenSpec := { _root_.Go.OpenSpec.ofChange s with cond := some uptoSmall }

/-- 'fipplelaw01.PitchIntervals', WHERE WHAT IT READS IS OF BULK AT MOST 1048576: true; the input reads as it did. -/
def pitchIntervalsUptoRow : OpenClaim := { program := "ytcghegefcgnhbaa", sum := "aa7da417ac32ad0ed3cff016b3ee83e19c358c21e23ecaba702a9f5504a4a44e", func := "fipple/fipplelaw01.PitchIntervals", spec := "pitchIntervals", unfollowed := true, recurses := true, plainKeys := false, apart := false, narrowed := true }
def PitchIntervalsUptoSaid : Prop := pitchIntervalsUptoRow.holds Try.pinned (OpenSpec.upto pitchIntervalsSpec)

/-- 'fipplelaw01.PitchNeighbours', WHERE WHAT IT READS IS OF BULK AT MOST 1048576: true; the input reads as it did. -/
def pitchNeighboursUptoRow : OpenClaim := { program := "ytcghegefcgnhbaa", sum := "aa7da417ac32ad0ed3cff016b3ee83e19c358c21e23ecaba702a9f5504a4a44e", func := "fipple/fipplelaw01.PitchNeighbours", spec := "pitchNeighbours", unfollowed := true, recurses := true, plainKeys := false, apart := false, narrowed := true }
def PitchNeighboursUptoSaid : Prop := pitchNeighboursUptoRow.holds Try.pinned (OpenSpec.upto pitchNeighboursSpec)

/-- 'fipplelaw01.PitchNears', WHERE WHAT IT READS IS OF BULK AT MOST 1048576: true; the input reads as it did. -/
def pitchNearsUptoRow : OpenClaim := { program := "ytcghegefcgnhbaa", sum := "aa7da417ac32ad0ed3cff016b3ee83e19c358c21e23ecaba702a9f5504a4a44e", func := "fipple/fipplelaw01.PitchNears", spec := "pitchNears", unfollowed := true, recurses := true, plainKeys := false, apart := false, narrowed := true }
def PitchNearsUptoSaid : Prop := pitchNearsUptoRow.holds Try.pinned (OpenSpec.upto pitchNearsSpec)

/-- 'fipplelaw01.PitchSimples', WHERE WHAT IT READS IS OF BULK AT MOST 1048576: true; the input reads as it did. -/
def pitchSimplesUptoRow : OpenClaim := { program := "ytcghegefcgnhbaa", sum := "aa7da417ac32ad0ed3cff016b3ee83e19c358c21e23ecaba702a9f5504a4a44e", func := "fipple/fipplelaw01.PitchSimples", spec := "pitchSimples", unfollowed := true, recurses := true, plainKeys := false, apart := false, narrowed := true }
def PitchSimplesUptoSaid : Prop := pitchSimplesUptoRow.holds Try.pinned (OpenSpec.upto pitchSimplesSpec)

/-- 'fipplelaw01.PitchPaths', WHERE WHAT IT READS IS OF BULK AT MOST 1048576: true; the input reads as it did. -/
def pitchPathsUptoRow : OpenClaim := { program := "ytcghegefcgnhbaa", sum := "aa7da417ac32ad0ed3cff016b3ee83e19c358c21e23ecaba702a9f5504a4a44e", func := "fipple/fipplelaw01.PitchPaths", spec := "pitchPaths", unfollowed := true, recurses := true, plainKeys := false, apart := false, narrowed := true }
def PitchPathsUptoSaid : Prop := pitchPathsUptoRow.holds Try.pinned (OpenSpec.upto pitchPathsSpec)

/-- 'fipplelaw01.PitchChains', WHERE WHAT IT READS IS OF BULK AT MOST 1048576: true; the input reads as it did. -/
def pitchChainsUptoRow : OpenClaim := { program := "ytcghegefcgnhbaa", sum := "aa7da417ac32ad0ed3cff016b3ee83e19c358c21e23ecaba702a9f5504a4a44e", func := "fipple/fipplelaw01.PitchChains", spec := "pitchChains", unfollowed := true, recurses := true, plainKeys := false, apart := false, narrowed := true }
def PitchChainsUptoSaid : Prop := pitchChainsUptoRow.holds Try.pinned (OpenSpec.upto pitchChainsSpec)

/-- 'fipplelaw01.PitchProved', WHERE WHAT IT READS IS OF BULK AT MOST 1048576: true; the input reads as it did. -/
def pitchProvedUptoRow : OpenClaim := { program := "ytcghegefcgnhbaa", sum := "aa7da417ac32ad0ed3cff016b3ee83e19c358c21e23ecaba702a9f5504a4a44e", func := "fipple/fipplelaw01.PitchProved", spec := "pitchProved", unfollowed := true, recurses := true, plainKeys := false, apart := false, narrowed := true }
def PitchProvedUptoSaid : Prop := pitchProvedUptoRow.holds Try.pinned (OpenSpec.upto pitchProvedSpec)

/-- 'fipplelaw01.PitchNearest', WHERE WHAT IT READS IS OF BULK AT MOST 1048576: true; the input reads as it did. -/
def pitchNearestUptoRow : OpenClaim := { program := "ytcghegefcgnhbaa", sum := "aa7da417ac32ad0ed3cff016b3ee83e19c358c21e23ecaba702a9f5504a4a44e", func := "fipple/fipplelaw01.PitchNearest", spec := "pitchNearest", unfollowed := true, recurses := true, plainKeys := false, apart := false, narrowed := true }
def PitchNearestUptoSaid : Prop := pitchNearestUptoRow.holds Try.pinned (OpenSpec.upto pitchNearestSpec)

/-- 'fipplelaw01.PitchSimplest', WHERE WHAT IT READS IS OF BULK AT MOST 1048576: true; the input reads as it did. -/
def pitchSimplestUptoRow : OpenClaim := { program := "ytcghegefcgnhbaa", sum := "aa7da417ac32ad0ed3cff016b3ee83e19c358c21e23ecaba702a9f5504a4a44e", func := "fipple/fipplelaw01.PitchSimplest", spec := "pitchSimplest", unfollowed := true, recurses := true, plainKeys := false, apart := false, narrowed := true }
def PitchSimplestUptoSaid : Prop := pitchSimplestUptoRow.holds Try.pinned (OpenSpec.upto pitchSimplestSpec)

/-- 'fipplelaw01.PitchBetween', WHERE WHAT IT READS IS OF BULK AT MOST 1048576: true; the input reads as it did. -/
def pitchBetweenUptoRow : OpenClaim := { program := "ytcghegefcgnhbaa", sum := "aa7da417ac32ad0ed3cff016b3ee83e19c358c21e23ecaba702a9f5504a4a44e", func := "fipple/fipplelaw01.PitchBetween", spec := "pitchBetween", unfollowed := true, recurses := true, plainKeys := false, apart := false, narrowed := true }
def PitchBetweenUptoSaid : Prop := pitchBetweenUptoRow.holds Try.pinned (OpenSpec.upto pitchBetweenSpec)

/-- 'fipplelaw01.PitchWalked', WHERE WHAT IT READS IS OF BULK AT MOST 1048576: true; the input reads as it did. -/
def pitchWalkedUptoRow : OpenClaim := { program := "ytcghegefcgnhbaa", sum := "aa7da417ac32ad0ed3cff016b3ee83e19c358c21e23ecaba702a9f5504a4a44e", func := "fipple/fipplelaw01.PitchWalked", spec := "pitchWalked", unfollowed := true, recurses := true, plainKeys := false, apart := false, narrowed := true }
def PitchWalkedUptoSaid : Prop := pitchWalkedUptoRow.holds Try.pinned (OpenSpec.upto pitchWalkedSpec)

/-- 'fipplelaw01.PitchFarther', WHERE WHAT IT READS IS OF BULK AT MOST 1048576: true; the input reads as it did. -/
def pitchFartherUptoRow : OpenClaim := { program := "ytcghegefcgnhbaa", sum := "aa7da417ac32ad0ed3cff016b3ee83e19c358c21e23ecaba702a9f5504a4a44e", func := "fipple/fipplelaw01.PitchFarther", spec := "pitchFarther", unfollowed := true, recurses := true, plainKeys := false, apart := false, narrowed := true }
def PitchFartherUptoSaid : Prop := pitchFartherUptoRow.holds Try.pinned (OpenSpec.upto pitchFartherSpec)

/-- 'fipplelaw01.PitchCounted', WHERE WHAT IT READS IS OF BULK AT MOST 1048576: true; the input reads as it did. -/
def pitchCountedUptoRow : OpenClaim := { program := "ytcghegefcgnhbaa", sum := "aa7da417ac32ad0ed3cff016b3ee83e19c358c21e23ecaba702a9f5504a4a44e", func := "fipple/fipplelaw01.PitchCounted", spec := "pitchCounted", unfollowed := true, recurses := true, plainKeys := false, apart := false, narrowed := true }
def PitchCountedUptoSaid : Prop := pitchCountedUptoRow.holds Try.pinned (OpenSpec.upto pitchCountedSpec)

/-- 'fipplelaw01.PitchThree', WHERE WHAT IT READS IS OF BULK AT MOST 1048576: true; the input reads as it did. -/
def pitchThreeUptoRow : OpenClaim := { program := "ytcghegefcgnhbaa", sum := "aa7da417ac32ad0ed3cff016b3ee83e19c358c21e23ecaba702a9f5504a4a44e", func := "fipple/fipplelaw01.PitchThree", spec := "pitchThree", unfollowed := true, recurses := true, plainKeys := false, apart := false, narrowed := true }
def PitchThreeUptoSaid : Prop := pitchThreeUptoRow.holds Try.pinned (OpenSpec.upto pitchThreeSpec)

/-- 'fipplelaw01.PitchTurned', WHERE WHAT IT READS IS OF BULK AT MOST 1048576: true; the input reads as it did. -/
def pitchTurnedUptoRow : OpenClaim := { program := "ytcghegefcgnhbaa", sum := "aa7da417ac32ad0ed3cff016b3ee83e19c358c21e23ecaba702a9f5504a4a44e", func := "fipple/fipplelaw01.PitchTurned", spec := "pitchTurned", unfollowed := true, recurses := true, plainKeys := false, apart := false, narrowed := true }
def PitchTurnedUptoSaid : Prop := pitchTurnedUptoRow.holds Try.pinned (OpenSpec.upto pitchTurnedSpec)

/-- 'fipplelaw01.PitchBack', WHERE WHAT IT READS IS OF BULK AT MOST 1048576: true; the input reads as it did. -/
def pitchBackUptoRow : OpenClaim := { program := "ytcghegefcgnhbaa", sum := "aa7da417ac32ad0ed3cff016b3ee83e19c358c21e23ecaba702a9f5504a4a44e", func := "fipple/fipplelaw01.PitchBack", spec := "pitchBack", unfollowed := true, recurses := true, plainKeys := false, apart := false, narrowed := true }
def PitchBackUptoSaid : Prop := pitchBackUptoRow.holds Try.pinned (OpenSpec.upto pitchBackSpec)

/-- 'fipplelaw01.PitchKnown', WHERE WHAT IT READS IS OF BULK AT MOST 1048576: true; the input reads as it did. -/
def pitchKnownUptoRow : OpenClaim := { program := "ytcghegefcgnhbaa", sum := "aa7da417ac32ad0ed3cff016b3ee83e19c358c21e23ecaba702a9f5504a4a44e", func := "fipple/fipplelaw01.PitchKnown", spec := "pitchKnown", unfollowed := true, recurses := true, plainKeys := false, apart := false, narrowed := true }
def PitchKnownUptoSaid : Prop := pitchKnownUptoRow.holds Try.pinned (OpenSpec.upto pitchKnownSpec)

end Rows
end Go.Proofs.Ytcghegefcgnhbaa
