/-
  No cell of these rows narrows 'for every input' (looked for: loops, veiled, ifaces, maps, wideKeys, modest, calm, conditions, laid).
  DERIVED. THE GIVEN ROWS OF THIS SEAT. 12 by the template 'for every input the law returns true; each argument reads behind the call as it read before'; 0 by the template 'total and deterministic' (their statements: YtjcabpldgdafeaaTotals.lean).
  GIVEN WITH THE SEED: the statements are not yours to turn. If you find one false, say at which input.
  Laid BY PROGRAM, IN A SANDBOX (cutbox-rows.mjs): the forced cells as the released guide's own fill.sh prints them over the translation 89620ccf99cefdf6… (all of the seat's roots in one cut). By AI agents, Wed Nov 11 2026. No macro, syntax, notation, axiom, sorry.
-/
import Derived.Test.YtjcabpldgdafeaaChecked
import GoSem.Claim
import GoSem.ClaimJoined
import GoSem.ClaimMapViews
import Derived.JoinedTies
import Derived.KernelRfl
namespace Go.Proofs.Ytjcabpldgdafeaa
/- THE CELL 'sum', in the pinned program and in every row, IS THE sha256 OF THE DUMP (.gsa) THAT YtjcabpldgdafeaaProg.lean LOADS. Nothing in Lean hashes anything: it is a label: what it is worth is what the hold of that sum in a sandbox is worth. -/
noncomputable def Try.pinned : Pinned := { name := "ytjcabpldgdafeaa", sum := "89620ccf99cefdf6dea9e61172396f00962829e6d87e4c64c687e6c6c26dce7e", checked := Try.checked }
namespace Rows
def none {H : Type} : Left H := { results := [], args := [] }

/-- 'fipplelaw04.TuneBooks': WHATEVER THE INPUT: true; the input reads as it did. -/
def tuneBooksSpec : ChangeSpec := { name := "tuneBooks", fn := fun _ => fun
  | [d1, d2] => { results := [.lit (.bool true)], args := [d1, d2] }
  | _ => none }
def tuneBooksRow : OpenClaim := { program := "ytjcabpldgdafeaa", sum := "89620ccf99cefdf6dea9e61172396f00962829e6d87e4c64c687e6c6c26dce7e", func := "fipple/fipplelaw04.TuneBooks", spec := "tuneBooks", unfollowed := true, recurses := true, plainKeys := false, apart := false }
def TuneBooksSaid : Prop := tuneBooksRow.holds Try.pinned (OpenSpec.ofChange tuneBooksSpec)

/-- ITS FALSE NEIGHBOUR: 'it returns false'. Refute it at one input. -/
def tuneBooksWrong : ChangeSpec := { name := "tuneBooks", fn := fun _ => fun
  | [d1, d2] => { results := [.lit (.bool false)], args := [d1, d2] }
  | _ => none }
def TuneBooksWrongFalsely : Prop := tuneBooksRow.holds Try.pinned (OpenSpec.ofChange tuneBooksWrong)

/-- 'fipplelaw04.TuneTunes': WHATEVER THE INPUT: true; the input reads as it did. -/
def tuneTunesSpec : ChangeSpec := { name := "tuneTunes", fn := fun _ => fun
  | [d] => { results := [.lit (.bool true)], args := [d] }
  | _ => none }
def tuneTunesRow : OpenClaim := { program := "ytjcabpldgdafeaa", sum := "89620ccf99cefdf6dea9e61172396f00962829e6d87e4c64c687e6c6c26dce7e", func := "fipple/fipplelaw04.TuneTunes", spec := "tuneTunes", unfollowed := true, recurses := true, plainKeys := false, apart := false }
def TuneTunesSaid : Prop := tuneTunesRow.holds Try.pinned (OpenSpec.ofChange tuneTunesSpec)

/-- ITS FALSE NEIGHBOUR: 'it returns false'. Refute it at one input. -/
def tuneTunesWrong : ChangeSpec := { name := "tuneTunes", fn := fun _ => fun
  | [d] => { results := [.lit (.bool false)], args := [d] }
  | _ => none }
def TuneTunesWrongFalsely : Prop := tuneTunesRow.holds Try.pinned (OpenSpec.ofChange tuneTunesWrong)

/-- 'fipplelaw04.TuneProofs': WHATEVER THE INPUT: true; the input reads as it did. -/
def tuneProofsSpec : ChangeSpec := { name := "tuneProofs", fn := fun _ => fun
  | [d1, d2, d3] => { results := [.lit (.bool true)], args := [d1, d2, d3] }
  | _ => none }
def tuneProofsRow : OpenClaim := { program := "ytjcabpldgdafeaa", sum := "89620ccf99cefdf6dea9e61172396f00962829e6d87e4c64c687e6c6c26dce7e", func := "fipple/fipplelaw04.TuneProofs", spec := "tuneProofs", unfollowed := true, recurses := true, plainKeys := false, apart := false }
def TuneProofsSaid : Prop := tuneProofsRow.holds Try.pinned (OpenSpec.ofChange tuneProofsSpec)

/-- ITS FALSE NEIGHBOUR: 'it returns false'. Refute it at one input. -/
def tuneProofsWrong : ChangeSpec := { name := "tuneProofs", fn := fun _ => fun
  | [d1, d2, d3] => { results := [.lit (.bool false)], args := [d1, d2, d3] }
  | _ => none }
def TuneProofsWrongFalsely : Prop := tuneProofsRow.holds Try.pinned (OpenSpec.ofChange tuneProofsWrong)

/-- 'fipplelaw04.TuneAgains': WHATEVER THE INPUT: true; the input reads as it did. -/
def tuneAgainsSpec : ChangeSpec := { name := "tuneAgains", fn := fun _ => fun
  | [d1, d2, d3] => { results := [.lit (.bool true)], args := [d1, d2, d3] }
  | _ => none }
def tuneAgainsRow : OpenClaim := { program := "ytjcabpldgdafeaa", sum := "89620ccf99cefdf6dea9e61172396f00962829e6d87e4c64c687e6c6c26dce7e", func := "fipple/fipplelaw04.TuneAgains", spec := "tuneAgains", unfollowed := true, recurses := true, plainKeys := false, apart := false }
def TuneAgainsSaid : Prop := tuneAgainsRow.holds Try.pinned (OpenSpec.ofChange tuneAgainsSpec)

/-- ITS FALSE NEIGHBOUR: 'it returns false'. Refute it at one input. -/
def tuneAgainsWrong : ChangeSpec := { name := "tuneAgains", fn := fun _ => fun
  | [d1, d2, d3] => { results := [.lit (.bool false)], args := [d1, d2, d3] }
  | _ => none }
def TuneAgainsWrongFalsely : Prop := tuneAgainsRow.holds Try.pinned (OpenSpec.ofChange tuneAgainsWrong)

/-- 'fipplelaw04.TuneEither': WHATEVER THE INPUT: true; the input reads as it did. -/
def tuneEitherSpec : ChangeSpec := { name := "tuneEither", fn := fun _ => fun
  | [d1, d2, d3, d4] => { results := [.lit (.bool true)], args := [d1, d2, d3, d4] }
  | _ => none }
def tuneEitherRow : OpenClaim := { program := "ytjcabpldgdafeaa", sum := "89620ccf99cefdf6dea9e61172396f00962829e6d87e4c64c687e6c6c26dce7e", func := "fipple/fipplelaw04.TuneEither", spec := "tuneEither", unfollowed := true, recurses := true, plainKeys := false, apart := false }
def TuneEitherSaid : Prop := tuneEitherRow.holds Try.pinned (OpenSpec.ofChange tuneEitherSpec)

/-- ITS FALSE NEIGHBOUR: 'it returns false'. Refute it at one input. -/
def tuneEitherWrong : ChangeSpec := { name := "tuneEither", fn := fun _ => fun
  | [d1, d2, d3, d4] => { results := [.lit (.bool false)], args := [d1, d2, d3, d4] }
  | _ => none }
def TuneEitherWrongFalsely : Prop := tuneEitherRow.holds Try.pinned (OpenSpec.ofChange tuneEitherWrong)

/-- 'fipplelaw04.TuneProved': WHATEVER THE INPUT: true; the input reads as it did. -/
def tuneProvedSpec : ChangeSpec := { name := "tuneProved", fn := fun _ => fun
  | [d1, d2, d3] => { results := [.lit (.bool true)], args := [d1, d2, d3] }
  | _ => none }
def tuneProvedRow : OpenClaim := { program := "ytjcabpldgdafeaa", sum := "89620ccf99cefdf6dea9e61172396f00962829e6d87e4c64c687e6c6c26dce7e", func := "fipple/fipplelaw04.TuneProved", spec := "tuneProved", unfollowed := true, recurses := true, plainKeys := false, apart := false }
def TuneProvedSaid : Prop := tuneProvedRow.holds Try.pinned (OpenSpec.ofChange tuneProvedSpec)

/-- ITS FALSE NEIGHBOUR: 'it returns false'. Refute it at one input. -/
def tuneProvedWrong : ChangeSpec := { name := "tuneProved", fn := fun _ => fun
  | [d1, d2, d3] => { results := [.lit (.bool false)], args := [d1, d2, d3] }
  | _ => none }
def TuneProvedWrongFalsely : Prop := tuneProvedRow.holds Try.pinned (OpenSpec.ofChange tuneProvedWrong)

/-- 'fipplelaw04.TuneBegun': WHATEVER THE INPUT: true; the input reads as it did. -/
def tuneBegunSpec : ChangeSpec := { name := "tuneBegun", fn := fun _ => fun
  | [d] => { results := [.lit (.bool true)], args := [d] }
  | _ => none }
def tuneBegunRow : OpenClaim := { program := "ytjcabpldgdafeaa", sum := "89620ccf99cefdf6dea9e61172396f00962829e6d87e4c64c687e6c6c26dce7e", func := "fipple/fipplelaw04.TuneBegun", spec := "tuneBegun", unfollowed := true, recurses := true, plainKeys := false, apart := false }
def TuneBegunSaid : Prop := tuneBegunRow.holds Try.pinned (OpenSpec.ofChange tuneBegunSpec)

/-- ITS FALSE NEIGHBOUR: 'it returns false'. Refute it at one input. -/
def tuneBegunWrong : ChangeSpec := { name := "tuneBegun", fn := fun _ => fun
  | [d] => { results := [.lit (.bool false)], args := [d] }
  | _ => none }
def TuneBegunWrongFalsely : Prop := tuneBegunRow.holds Try.pinned (OpenSpec.ofChange tuneBegunWrong)

/-- 'fipplelaw04.TuneTurned': WHATEVER THE INPUT: true; the input reads as it did. -/
def tuneTurnedSpec : ChangeSpec := { name := "tuneTurned", fn := fun _ => fun
  | [d1, d2, d3] => { results := [.lit (.bool true)], args := [d1, d2, d3] }
  | _ => none }
def tuneTurnedRow : OpenClaim := { program := "ytjcabpldgdafeaa", sum := "89620ccf99cefdf6dea9e61172396f00962829e6d87e4c64c687e6c6c26dce7e", func := "fipple/fipplelaw04.TuneTurned", spec := "tuneTurned", unfollowed := true, recurses := true, plainKeys := false, apart := false }
def TuneTurnedSaid : Prop := tuneTurnedRow.holds Try.pinned (OpenSpec.ofChange tuneTurnedSpec)

/-- ITS FALSE NEIGHBOUR: 'it returns false'. Refute it at one input. -/
def tuneTurnedWrong : ChangeSpec := { name := "tuneTurned", fn := fun _ => fun
  | [d1, d2, d3] => { results := [.lit (.bool false)], args := [d1, d2, d3] }
  | _ => none }
def TuneTurnedWrongFalsely : Prop := tuneTurnedRow.holds Try.pinned (OpenSpec.ofChange tuneTurnedWrong)

/-- 'fipplelaw04.TuneCut': WHATEVER THE INPUT: true; the input reads as it did. -/
def tuneCutSpec : ChangeSpec := { name := "tuneCut", fn := fun _ => fun
  | [d] => { results := [.lit (.bool true)], args := [d] }
  | _ => none }
def tuneCutRow : OpenClaim := { program := "ytjcabpldgdafeaa", sum := "89620ccf99cefdf6dea9e61172396f00962829e6d87e4c64c687e6c6c26dce7e", func := "fipple/fipplelaw04.TuneCut", spec := "tuneCut", unfollowed := true, recurses := true, plainKeys := false, apart := false }
def TuneCutSaid : Prop := tuneCutRow.holds Try.pinned (OpenSpec.ofChange tuneCutSpec)

/-- ITS FALSE NEIGHBOUR: 'it returns false'. Refute it at one input. -/
def tuneCutWrong : ChangeSpec := { name := "tuneCut", fn := fun _ => fun
  | [d] => { results := [.lit (.bool false)], args := [d] }
  | _ => none }
def TuneCutWrongFalsely : Prop := tuneCutRow.holds Try.pinned (OpenSpec.ofChange tuneCutWrong)

/-- 'fipplelaw04.TuneRounded': WHATEVER THE INPUT: true; the input reads as it did. -/
def tuneRoundedSpec : ChangeSpec := { name := "tuneRounded", fn := fun _ => fun
  | [d] => { results := [.lit (.bool true)], args := [d] }
  | _ => none }
def tuneRoundedRow : OpenClaim := { program := "ytjcabpldgdafeaa", sum := "89620ccf99cefdf6dea9e61172396f00962829e6d87e4c64c687e6c6c26dce7e", func := "fipple/fipplelaw04.TuneRounded", spec := "tuneRounded", unfollowed := true, recurses := true, plainKeys := false, apart := false }
def TuneRoundedSaid : Prop := tuneRoundedRow.holds Try.pinned (OpenSpec.ofChange tuneRoundedSpec)

/-- ITS FALSE NEIGHBOUR: 'it returns false'. Refute it at one input. -/
def tuneRoundedWrong : ChangeSpec := { name := "tuneRounded", fn := fun _ => fun
  | [d] => { results := [.lit (.bool false)], args := [d] }
  | _ => none }
def TuneRoundedWrongFalsely : Prop := tuneRoundedRow.holds Try.pinned (OpenSpec.ofChange tuneRoundedWrong)

/-- 'fipplelaw04.TuneDoubled': WHATEVER THE INPUT: true; the input reads as it did. -/
def tuneDoubledSpec : ChangeSpec := { name := "tuneDoubled", fn := fun _ => fun
  | [d] => { results := [.lit (.bool true)], args := [d] }
  | _ => none }
def tuneDoubledRow : OpenClaim := { program := "ytjcabpldgdafeaa", sum := "89620ccf99cefdf6dea9e61172396f00962829e6d87e4c64c687e6c6c26dce7e", func := "fipple/fipplelaw04.TuneDoubled", spec := "tuneDoubled", unfollowed := true, recurses := true, plainKeys := false, apart := false }
def TuneDoubledSaid : Prop := tuneDoubledRow.holds Try.pinned (OpenSpec.ofChange tuneDoubledSpec)

/-- ITS FALSE NEIGHBOUR: 'it returns false'. Refute it at one input. -/
def tuneDoubledWrong : ChangeSpec := { name := "tuneDoubled", fn := fun _ => fun
  | [d] => { results := [.lit (.bool false)], args := [d] }
  | _ => none }
def TuneDoubledWrongFalsely : Prop := tuneDoubledRow.holds Try.pinned (OpenSpec.ofChange tuneDoubledWrong)

/-- 'fipplelaw04.TuneKnown': WHATEVER THE INPUT: true; the input reads as it did. -/
def tuneKnownSpec : ChangeSpec := { name := "tuneKnown", fn := fun _ => fun
  | [] => { results := [.lit (.bool true)], args := [] }
  | _ => none }
def tuneKnownRow : OpenClaim := { program := "ytjcabpldgdafeaa", sum := "89620ccf99cefdf6dea9e61172396f00962829e6d87e4c64c687e6c6c26dce7e", func := "fipple/fipplelaw04.TuneKnown", spec := "tuneKnown", unfollowed := true, recurses := true, plainKeys := false, apart := false }
def TuneKnownSaid : Prop := tuneKnownRow.holds Try.pinned (OpenSpec.ofChange tuneKnownSpec)

/-- ITS FALSE NEIGHBOUR: 'it returns false'. Refute it at one input. -/
def tuneKnownWrong : ChangeSpec := { name := "tuneKnown", fn := fun _ => fun
  | [] => { results := [.lit (.bool false)], args := [] }
  | _ => none }
def TuneKnownWrongFalsely : Prop := tuneKnownRow.holds Try.pinned (OpenSpec.ofChange tuneKnownWrong)

/- THE SECOND FORM. 'bulk': how many values and letters a reading holds, each counted each time it is reached (what is shared counts as often as it is met; a slice's spare places count too). A statement '..UptoSaid' is the law's where the arguments, and the package variables that the reading takes, are together of bulk at most 1048576: NARROWER than '..Said'. Prove '..Said' where nothing that the law and all that it calls make is longer than what came in: it says more and counts as full. Else prove '..UptoSaid'. A law counts once. -/
mutual
def uptoBulk {H : Type} : DataW H → Nat
  | .lit (.string bytes) => bytes.length + 1
  | .lit _ => 1
  | .nil => 1
  | .ptr d => uptoBulk d + 1
  | .slice elems spare => uptoBulkAll elems + uptoBulkAll spare + 1
  | .agg parts => uptoBulkAll parts + 1
  | .iface _ d => uptoBulk d + 1
  | .map entries => uptoBulkEntries entries + 1
  | .held _ => 1
def uptoBulkAll {H : Type} : List (DataW H) → Nat
  | [] => 0
  | d :: r => uptoBulk d + uptoBulkAll r
def uptoBulkEntries {H : Type} : List (Lit × DataW H) → Nat
  | [] => 0
  | x :: r => uptoBulkEntry x + uptoBulkEntries r
def uptoBulkEntry {H : Type} : Lit × DataW H → Nat
  | (.string bytes, d) => bytes.length + uptoBulk d + 1
  | (_, d) => uptoBulk d + 1
 end
def uptoSmall : (H : Type) → List (DataW H) → Bool := fun _ ds => decide (uptoBulkAll ds ≤ 1048576)
def OpenSpec.upto (s : _root_.Go.ChangeSpec) : _root_.Go.OpenSpec := { _root_.Go.OpenSpec.ofChange s with cond := some uptoSmall }

/-- 'fipplelaw04.TuneBooks', WHERE WHAT IT READS IS OF BULK AT MOST 1048576: true; the input reads as it did. -/
def tuneBooksUptoRow : OpenClaim := { program := "ytjcabpldgdafeaa", sum := "89620ccf99cefdf6dea9e61172396f00962829e6d87e4c64c687e6c6c26dce7e", func := "fipple/fipplelaw04.TuneBooks", spec := "tuneBooks", unfollowed := true, recurses := true, plainKeys := false, apart := false, narrowed := true }
def TuneBooksUptoSaid : Prop := tuneBooksUptoRow.holds Try.pinned (OpenSpec.upto tuneBooksSpec)

/-- 'fipplelaw04.TuneTunes', WHERE WHAT IT READS IS OF BULK AT MOST 1048576: true; the input reads as it did. -/
def tuneTunesUptoRow : OpenClaim := { program := "ytjcabpldgdafeaa", sum := "89620ccf99cefdf6dea9e61172396f00962829e6d87e4c64c687e6c6c26dce7e", func := "fipple/fipplelaw04.TuneTunes", spec := "tuneTunes", unfollowed := true, recurses := true, plainKeys := false, apart := false, narrowed := true }
def TuneTunesUptoSaid : Prop := tuneTunesUptoRow.holds Try.pinned (OpenSpec.upto tuneTunesSpec)

/-- 'fipplelaw04.TuneProofs', WHERE WHAT IT READS IS OF BULK AT MOST 1048576: true; the input reads as it did. -/
def tuneProofsUptoRow : OpenClaim := { program := "ytjcabpldgdafeaa", sum := "89620ccf99cefdf6dea9e61172396f00962829e6d87e4c64c687e6c6c26dce7e", func := "fipple/fipplelaw04.TuneProofs", spec := "tuneProofs", unfollowed := true, recurses := true, plainKeys := false, apart := false, narrowed := true }
def TuneProofsUptoSaid : Prop := tuneProofsUptoRow.holds Try.pinned (OpenSpec.upto tuneProofsSpec)

/-- 'fipplelaw04.TuneAgains', WHERE WHAT IT READS IS OF BULK AT MOST 1048576: true; the input reads as it did. -/
def tuneAgainsUptoRow : OpenClaim := { program := "ytjcabpldgdafeaa", sum := "89620ccf99cefdf6dea9e61172396f00962829e6d87e4c64c687e6c6c26dce7e", func := "fipple/fipplelaw04.TuneAgains", spec := "tuneAgains", unfollowed := true, recurses := true, plainKeys := false, apart := false, narrowed := true }
def TuneAgainsUptoSaid : Prop := tuneAgainsUptoRow.holds Try.pinned (OpenSpec.upto tuneAgainsSpec)

/-- 'fipplelaw04.TuneEither', WHERE WHAT IT READS IS OF BULK AT MOST 1048576: true; the input reads as it did. -/
def tuneEitherUptoRow : OpenClaim := { program := "ytjcabpldgdafeaa", sum := "89620ccf99cefdf6dea9e61172396f00962829e6d87e4c64c687e6c6c26dce7e", func := "fipple/fipplelaw04.TuneEither", spec := "tuneEither", unfollowed := true, recurses := true, plainKeys := false, apart := false, narrowed := true }
def TuneEitherUptoSaid : Prop := tuneEitherUptoRow.holds Try.pinned (OpenSpec.upto tuneEitherSpec)

/-- 'fipplelaw04.TuneProved', WHERE WHAT IT READS IS OF BULK AT MOST 1048576: true; the input reads as it did. -/
def tuneProvedUptoRow : OpenClaim := { program := "ytjcabpldgdafeaa", sum := "89620ccf99cefdf6dea9e61172396f00962829e6d87e4c64c687e6c6c26dce7e", func := "fipple/fipplelaw04.TuneProved", spec := "tuneProved", unfollowed := true, recurses := true, plainKeys := false, apart := false, narrowed := true }
def TuneProvedUptoSaid : Prop := tuneProvedUptoRow.holds Try.pinned (OpenSpec.upto tuneProvedSpec)

/-- 'fipplelaw04.TuneBegun', WHERE WHAT IT READS IS OF BULK AT MOST 1048576: true; the input reads as it did. -/
def tuneBegunUptoRow : OpenClaim := { program := "ytjcabpldgdafeaa", sum := "89620ccf99cefdf6dea9e61172396f00962829e6d87e4c64c687e6c6c26dce7e", func := "fipple/fipplelaw04.TuneBegun", spec := "tuneBegun", unfollowed := true, recurses := true, plainKeys := false, apart := false, narrowed := true }
def TuneBegunUptoSaid : Prop := tuneBegunUptoRow.holds Try.pinned (OpenSpec.upto tuneBegunSpec)

/-- 'fipplelaw04.TuneTurned', WHERE WHAT IT READS IS OF BULK AT MOST 1048576: true; the input reads as it did. -/
def tuneTurnedUptoRow : OpenClaim := { program := "ytjcabpldgdafeaa", sum := "89620ccf99cefdf6dea9e61172396f00962829e6d87e4c64c687e6c6c26dce7e", func := "fipple/fipplelaw04.TuneTurned", spec := "tuneTurned", unfollowed := true, recurses := true, plainKeys := false, apart := false, narrowed := true }
def TuneTurnedUptoSaid : Prop := tuneTurnedUptoRow.holds Try.pinned (OpenSpec.upto tuneTurnedSpec)

/-- 'fipplelaw04.TuneCut', WHERE WHAT IT READS IS OF BULK AT MOST 1048576: true; the input reads as it did. -/
def tuneCutUptoRow : OpenClaim := { program := "ytjcabpldgdafeaa", sum := "89620ccf99cefdf6dea9e61172396f00962829e6d87e4c64c687e6c6c26dce7e", func := "fipple/fipplelaw04.TuneCut", spec := "tuneCut", unfollowed := true, recurses := true, plainKeys := false, apart := false, narrowed := true }
def TuneCutUptoSaid : Prop := tuneCutUptoRow.holds Try.pinned (OpenSpec.upto tuneCutSpec)

/-- 'fipplelaw04.TuneRounded', WHERE WHAT IT READS IS OF BULK AT MOST 1048576: true; the input reads as it did. -/
def tuneRoundedUptoRow : OpenClaim := { program := "ytjcabpldgdafeaa", sum := "89620ccf99cefdf6dea9e61172396f00962829e6d87e4c64c687e6c6c26dce7e", func := "fipple/fipplelaw04.TuneRounded", spec := "tuneRounded", unfollowed := true, recurses := true, plainKeys := false, apart := false, narrowed := true }
def TuneRoundedUptoSaid : Prop := tuneRoundedUptoRow.holds Try.pinned (OpenSpec.upto tuneRoundedSpec)

/-- 'fipplelaw04.TuneDoubled', WHERE WHAT IT READS IS OF BULK AT MOST 1048576: true; the input reads as it did. -/
def tuneDoubledUptoRow : OpenClaim := { program := "ytjcabpldgdafeaa", sum := "89620ccf99cefdf6dea9e61172396f00962829e6d87e4c64c687e6c6c26dce7e", func := "fipple/fipplelaw04.TuneDoubled", spec := "tuneDoubled", unfollowed := true, recurses := true, plainKeys := false, apart := false, narrowed := true }
def TuneDoubledUptoSaid : Prop := tuneDoubledUptoRow.holds Try.pinned (OpenSpec.upto tuneDoubledSpec)

/-- 'fipplelaw04.TuneKnown', WHERE WHAT IT READS IS OF BULK AT MOST 1048576: true; the input reads as it did. -/
def tuneKnownUptoRow : OpenClaim := { program := "ytjcabpldgdafeaa", sum := "89620ccf99cefdf6dea9e61172396f00962829e6d87e4c64c687e6c6c26dce7e", func := "fipple/fipplelaw04.TuneKnown", spec := "tuneKnown", unfollowed := true, recurses := true, plainKeys := false, apart := false, narrowed := true }
def TuneKnownUptoSaid : Prop := tuneKnownUptoRow.holds Try.pinned (OpenSpec.upto tuneKnownSpec)

end Rows
end Go.Proofs.Ytjcabpldgdafeaa
