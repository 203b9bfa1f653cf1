/-
  No cell of these rows narrows 'for every input' (looked for: loops, veiled, ifaces, maps, wideKeys, modest, calm, conditions, laid).
  DERIVED. THE GIVEN ROWS OF THIS SEAT. 14 by the template 'for every input the law returns true; each argument reads behind the call as it read before'; 0 by the template 'total and deterministic' (their statements: YtadneamkkepknaaTotals.lean).
  GIVEN WITH THE SEED: the statements are not yours to turn. If you find one false, say at which input.
  Laid BY PROGRAM, IN A SANDBOX (cutbox-rows.mjs): the forced cells as the released guide's own fill.sh prints them over the translation 6a0e95a64ca68d47… (all of the seat's roots in one cut). By AI agents, Wed Nov 11 2026. No macro, syntax, notation, axiom, sorry.
-/
import Derived.Test.YtadneamkkepknaaChecked
import GoSem.Claim
import GoSem.ClaimJoined
import GoSem.ClaimMapViews
import Derived.JoinedTies
import Derived.KernelRfl
namespace Go.Proofs.Ytadneamkkepknaa
/- THE CELL 'sum', in the pinned program and in every row, IS THE sha256 OF THE DUMP (.gsa) THAT YtadneamkkepknaaProg.lean LOADS. Nothing in Lean hashes anything: it is a label: what it is worth is what the hold of that sum in a sandbox is worth. -/
noncomputable def Try.pinned : Pinned := { name := "ytadneamkkepknaa", sum := "6a0e95a64ca68d47005c0daa4f9cf8b2923110933e1828a7e0f1732929c75c7f", checked := Try.checked }
namespace Rows
def none {H : Type} : Left H := { results := [], args := [] }

/-- 'fipplelaw05.LateBooks': WHATEVER THE INPUT: true; the input reads as it did. -/
def lateBooksSpec : ChangeSpec := { name := "lateBooks", fn := fun _ => fun
  | [d1, d2, d3] => { results := [.lit (.bool true)], args := [d1, d2, d3] }
  | _ => none }
def lateBooksRow : OpenClaim := { program := "ytadneamkkepknaa", sum := "6a0e95a64ca68d47005c0daa4f9cf8b2923110933e1828a7e0f1732929c75c7f", func := "fipple/fipplelaw05.LateBooks", spec := "lateBooks", unfollowed := true, recurses := true, plainKeys := false, apart := false }
def LateBooksSaid : Prop := lateBooksRow.holds Try.pinned (OpenSpec.ofChange lateBooksSpec)

/-- ITS FALSE NEIGHBOUR: 'it returns false'. Refute it at one input. -/
def lateBooksWrong : ChangeSpec := { name := "lateBooks", fn := fun _ => fun
  | [d1, d2, d3] => { results := [.lit (.bool false)], args := [d1, d2, d3] }
  | _ => none }
def LateBooksWrongFalsely : Prop := lateBooksRow.holds Try.pinned (OpenSpec.ofChange lateBooksWrong)

/-- 'fipplelaw05.LateSequences': WHATEVER THE INPUT: true; the input reads as it did. -/
def lateSequencesSpec : ChangeSpec := { name := "lateSequences", fn := fun _ => fun
  | [d1, d2] => { results := [.lit (.bool true)], args := [d1, d2] }
  | _ => none }
def lateSequencesRow : OpenClaim := { program := "ytadneamkkepknaa", sum := "6a0e95a64ca68d47005c0daa4f9cf8b2923110933e1828a7e0f1732929c75c7f", func := "fipple/fipplelaw05.LateSequences", spec := "lateSequences", unfollowed := true, recurses := true, plainKeys := false, apart := false }
def LateSequencesSaid : Prop := lateSequencesRow.holds Try.pinned (OpenSpec.ofChange lateSequencesSpec)

/-- ITS FALSE NEIGHBOUR: 'it returns false'. Refute it at one input. -/
def lateSequencesWrong : ChangeSpec := { name := "lateSequences", fn := fun _ => fun
  | [d1, d2] => { results := [.lit (.bool false)], args := [d1, d2] }
  | _ => none }
def LateSequencesWrongFalsely : Prop := lateSequencesRow.holds Try.pinned (OpenSpec.ofChange lateSequencesWrong)

/-- 'fipplelaw05.LateDays': WHATEVER THE INPUT: true; the input reads as it did. -/
def lateDaysSpec : ChangeSpec := { name := "lateDays", fn := fun _ => fun
  | [d1, d2, d3] => { results := [.lit (.bool true)], args := [d1, d2, d3] }
  | _ => none }
def lateDaysRow : OpenClaim := { program := "ytadneamkkepknaa", sum := "6a0e95a64ca68d47005c0daa4f9cf8b2923110933e1828a7e0f1732929c75c7f", func := "fipple/fipplelaw05.LateDays", spec := "lateDays", unfollowed := true, recurses := true, plainKeys := false, apart := false }
def LateDaysSaid : Prop := lateDaysRow.holds Try.pinned (OpenSpec.ofChange lateDaysSpec)

/-- ITS FALSE NEIGHBOUR: 'it returns false'. Refute it at one input. -/
def lateDaysWrong : ChangeSpec := { name := "lateDays", fn := fun _ => fun
  | [d1, d2, d3] => { results := [.lit (.bool false)], args := [d1, d2, d3] }
  | _ => none }
def LateDaysWrongFalsely : Prop := lateDaysRow.holds Try.pinned (OpenSpec.ofChange lateDaysWrong)

/-- 'fipplelaw05.LateKepts': WHATEVER THE INPUT: true; the input reads as it did. -/
def lateKeptsSpec : ChangeSpec := { name := "lateKepts", fn := fun _ => fun
  | [d1, d2, d3] => { results := [.lit (.bool true)], args := [d1, d2, d3] }
  | _ => none }
def lateKeptsRow : OpenClaim := { program := "ytadneamkkepknaa", sum := "6a0e95a64ca68d47005c0daa4f9cf8b2923110933e1828a7e0f1732929c75c7f", func := "fipple/fipplelaw05.LateKepts", spec := "lateKepts", unfollowed := true, recurses := true, plainKeys := false, apart := false }
def LateKeptsSaid : Prop := lateKeptsRow.holds Try.pinned (OpenSpec.ofChange lateKeptsSpec)

/-- ITS FALSE NEIGHBOUR: 'it returns false'. Refute it at one input. -/
def lateKeptsWrong : ChangeSpec := { name := "lateKepts", fn := fun _ => fun
  | [d1, d2, d3] => { results := [.lit (.bool false)], args := [d1, d2, d3] }
  | _ => none }
def LateKeptsWrongFalsely : Prop := lateKeptsRow.holds Try.pinned (OpenSpec.ofChange lateKeptsWrong)

/-- 'fipplelaw05.LateFewests': WHATEVER THE INPUT: true; the input reads as it did. -/
def lateFewestsSpec : ChangeSpec := { name := "lateFewests", fn := fun _ => fun
  | [d1, d2, d3] => { results := [.lit (.bool true)], args := [d1, d2, d3] }
  | _ => none }
def lateFewestsRow : OpenClaim := { program := "ytadneamkkepknaa", sum := "6a0e95a64ca68d47005c0daa4f9cf8b2923110933e1828a7e0f1732929c75c7f", func := "fipple/fipplelaw05.LateFewests", spec := "lateFewests", unfollowed := true, recurses := true, plainKeys := false, apart := false }
def LateFewestsSaid : Prop := lateFewestsRow.holds Try.pinned (OpenSpec.ofChange lateFewestsSpec)

/-- ITS FALSE NEIGHBOUR: 'it returns false'. Refute it at one input. -/
def lateFewestsWrong : ChangeSpec := { name := "lateFewests", fn := fun _ => fun
  | [d1, d2, d3] => { results := [.lit (.bool false)], args := [d1, d2, d3] }
  | _ => none }
def LateFewestsWrongFalsely : Prop := lateFewestsRow.holds Try.pinned (OpenSpec.ofChange lateFewestsWrong)

/-- 'fipplelaw05.LateProved': WHATEVER THE INPUT: true; the input reads as it did. -/
def lateProvedSpec : ChangeSpec := { name := "lateProved", fn := fun _ => fun
  | [d1, d2, d3, d4] => { results := [.lit (.bool true)], args := [d1, d2, d3, d4] }
  | _ => none }
def lateProvedRow : OpenClaim := { program := "ytadneamkkepknaa", sum := "6a0e95a64ca68d47005c0daa4f9cf8b2923110933e1828a7e0f1732929c75c7f", func := "fipple/fipplelaw05.LateProved", spec := "lateProved", unfollowed := true, recurses := true, plainKeys := false, apart := false }
def LateProvedSaid : Prop := lateProvedRow.holds Try.pinned (OpenSpec.ofChange lateProvedSpec)

/-- ITS FALSE NEIGHBOUR: 'it returns false'. Refute it at one input. -/
def lateProvedWrong : ChangeSpec := { name := "lateProved", fn := fun _ => fun
  | [d1, d2, d3, d4] => { results := [.lit (.bool false)], args := [d1, d2, d3, d4] }
  | _ => none }
def LateProvedWrongFalsely : Prop := lateProvedRow.holds Try.pinned (OpenSpec.ofChange lateProvedWrong)

/-- 'fipplelaw05.LateExchanged': WHATEVER THE INPUT: true; the input reads as it did. -/
def lateExchangedSpec : ChangeSpec := { name := "lateExchanged", fn := fun _ => fun
  | [d1, d2, d3, d4] => { results := [.lit (.bool true)], args := [d1, d2, d3, d4] }
  | _ => none }
def lateExchangedRow : OpenClaim := { program := "ytadneamkkepknaa", sum := "6a0e95a64ca68d47005c0daa4f9cf8b2923110933e1828a7e0f1732929c75c7f", func := "fipple/fipplelaw05.LateExchanged", spec := "lateExchanged", unfollowed := true, recurses := true, plainKeys := false, apart := false }
def LateExchangedSaid : Prop := lateExchangedRow.holds Try.pinned (OpenSpec.ofChange lateExchangedSpec)

/-- ITS FALSE NEIGHBOUR: 'it returns false'. Refute it at one input. -/
def lateExchangedWrong : ChangeSpec := { name := "lateExchanged", fn := fun _ => fun
  | [d1, d2, d3, d4] => { results := [.lit (.bool false)], args := [d1, d2, d3, d4] }
  | _ => none }
def LateExchangedWrongFalsely : Prop := lateExchangedRow.holds Try.pinned (OpenSpec.ofChange lateExchangedWrong)

/-- 'fipplelaw05.LateFewest': WHATEVER THE INPUT: true; the input reads as it did. -/
def lateFewestSpec : ChangeSpec := { name := "lateFewest", fn := fun _ => fun
  | [d1, d2, d3] => { results := [.lit (.bool true)], args := [d1, d2, d3] }
  | _ => none }
def lateFewestRow : OpenClaim := { program := "ytadneamkkepknaa", sum := "6a0e95a64ca68d47005c0daa4f9cf8b2923110933e1828a7e0f1732929c75c7f", func := "fipple/fipplelaw05.LateFewest", spec := "lateFewest", unfollowed := true, recurses := true, plainKeys := false, apart := false }
def LateFewestSaid : Prop := lateFewestRow.holds Try.pinned (OpenSpec.ofChange lateFewestSpec)

/-- ITS FALSE NEIGHBOUR: 'it returns false'. Refute it at one input. -/
def lateFewestWrong : ChangeSpec := { name := "lateFewest", fn := fun _ => fun
  | [d1, d2, d3] => { results := [.lit (.bool false)], args := [d1, d2, d3] }
  | _ => none }
def LateFewestWrongFalsely : Prop := lateFewestRow.holds Try.pinned (OpenSpec.ofChange lateFewestWrong)

/-- 'fipplelaw05.LateFewer': WHATEVER THE INPUT: true; the input reads as it did. -/
def lateFewerSpec : ChangeSpec := { name := "lateFewer", fn := fun _ => fun
  | [d1, d2, d3] => { results := [.lit (.bool true)], args := [d1, d2, d3] }
  | _ => none }
def lateFewerRow : OpenClaim := { program := "ytadneamkkepknaa", sum := "6a0e95a64ca68d47005c0daa4f9cf8b2923110933e1828a7e0f1732929c75c7f", func := "fipple/fipplelaw05.LateFewer", spec := "lateFewer", unfollowed := true, recurses := true, plainKeys := false, apart := false }
def LateFewerSaid : Prop := lateFewerRow.holds Try.pinned (OpenSpec.ofChange lateFewerSpec)

/-- ITS FALSE NEIGHBOUR: 'it returns false'. Refute it at one input. -/
def lateFewerWrong : ChangeSpec := { name := "lateFewer", fn := fun _ => fun
  | [d1, d2, d3] => { results := [.lit (.bool false)], args := [d1, d2, d3] }
  | _ => none }
def LateFewerWrongFalsely : Prop := lateFewerRow.holds Try.pinned (OpenSpec.ofChange lateFewerWrong)

/-- 'fipplelaw05.LateBetween': WHATEVER THE INPUT: true; the input reads as it did. -/
def lateBetweenSpec : ChangeSpec := { name := "lateBetween", fn := fun _ => fun
  | [d1, d2, d3] => { results := [.lit (.bool true)], args := [d1, d2, d3] }
  | _ => none }
def lateBetweenRow : OpenClaim := { program := "ytadneamkkepknaa", sum := "6a0e95a64ca68d47005c0daa4f9cf8b2923110933e1828a7e0f1732929c75c7f", func := "fipple/fipplelaw05.LateBetween", spec := "lateBetween", unfollowed := true, recurses := true, plainKeys := false, apart := false }
def LateBetweenSaid : Prop := lateBetweenRow.holds Try.pinned (OpenSpec.ofChange lateBetweenSpec)

/-- ITS FALSE NEIGHBOUR: 'it returns false'. Refute it at one input. -/
def lateBetweenWrong : ChangeSpec := { name := "lateBetween", fn := fun _ => fun
  | [d1, d2, d3] => { results := [.lit (.bool false)], args := [d1, d2, d3] }
  | _ => none }
def LateBetweenWrongFalsely : Prop := lateBetweenRow.holds Try.pinned (OpenSpec.ofChange lateBetweenWrong)

/-- 'fipplelaw05.LateMore': WHATEVER THE INPUT: true; the input reads as it did. -/
def lateMoreSpec : ChangeSpec := { name := "lateMore", fn := fun _ => fun
  | [d1, d2, d3, d4, d5] => { results := [.lit (.bool true)], args := [d1, d2, d3, d4, d5] }
  | _ => none }
def lateMoreRow : OpenClaim := { program := "ytadneamkkepknaa", sum := "6a0e95a64ca68d47005c0daa4f9cf8b2923110933e1828a7e0f1732929c75c7f", func := "fipple/fipplelaw05.LateMore", spec := "lateMore", unfollowed := true, recurses := true, plainKeys := false, apart := false }
def LateMoreSaid : Prop := lateMoreRow.holds Try.pinned (OpenSpec.ofChange lateMoreSpec)

/-- ITS FALSE NEIGHBOUR: 'it returns false'. Refute it at one input. -/
def lateMoreWrong : ChangeSpec := { name := "lateMore", fn := fun _ => fun
  | [d1, d2, d3, d4, d5] => { results := [.lit (.bool false)], args := [d1, d2, d3, d4, d5] }
  | _ => none }
def LateMoreWrongFalsely : Prop := lateMoreRow.holds Try.pinned (OpenSpec.ofChange lateMoreWrong)

/-- 'fipplelaw05.LateShifted': WHATEVER THE INPUT: true; the input reads as it did. -/
def lateShiftedSpec : ChangeSpec := { name := "lateShifted", fn := fun _ => fun
  | [d1, d2, d3, d4] => { results := [.lit (.bool true)], args := [d1, d2, d3, d4] }
  | _ => none }
def lateShiftedRow : OpenClaim := { program := "ytadneamkkepknaa", sum := "6a0e95a64ca68d47005c0daa4f9cf8b2923110933e1828a7e0f1732929c75c7f", func := "fipple/fipplelaw05.LateShifted", spec := "lateShifted", unfollowed := true, recurses := true, plainKeys := false, apart := false }
def LateShiftedSaid : Prop := lateShiftedRow.holds Try.pinned (OpenSpec.ofChange lateShiftedSpec)

/-- ITS FALSE NEIGHBOUR: 'it returns false'. Refute it at one input. -/
def lateShiftedWrong : ChangeSpec := { name := "lateShifted", fn := fun _ => fun
  | [d1, d2, d3, d4] => { results := [.lit (.bool false)], args := [d1, d2, d3, d4] }
  | _ => none }
def LateShiftedWrongFalsely : Prop := lateShiftedRow.holds Try.pinned (OpenSpec.ofChange lateShiftedWrong)

/-- 'fipplelaw05.LateSorted': WHATEVER THE INPUT: true; the input reads as it did. -/
def lateSortedSpec : ChangeSpec := { name := "lateSorted", fn := fun _ => fun
  | [d1, d2] => { results := [.lit (.bool true)], args := [d1, d2] }
  | _ => none }
def lateSortedRow : OpenClaim := { program := "ytadneamkkepknaa", sum := "6a0e95a64ca68d47005c0daa4f9cf8b2923110933e1828a7e0f1732929c75c7f", func := "fipple/fipplelaw05.LateSorted", spec := "lateSorted", unfollowed := true, recurses := true, plainKeys := false, apart := false }
def LateSortedSaid : Prop := lateSortedRow.holds Try.pinned (OpenSpec.ofChange lateSortedSpec)

/-- ITS FALSE NEIGHBOUR: 'it returns false'. Refute it at one input. -/
def lateSortedWrong : ChangeSpec := { name := "lateSorted", fn := fun _ => fun
  | [d1, d2] => { results := [.lit (.bool false)], args := [d1, d2] }
  | _ => none }
def LateSortedWrongFalsely : Prop := lateSortedRow.holds Try.pinned (OpenSpec.ofChange lateSortedWrong)

/-- 'fipplelaw05.LateKnown': WHATEVER THE INPUT: true; the input reads as it did. -/
def lateKnownSpec : ChangeSpec := { name := "lateKnown", fn := fun _ => fun
  | [] => { results := [.lit (.bool true)], args := [] }
  | _ => none }
def lateKnownRow : OpenClaim := { program := "ytadneamkkepknaa", sum := "6a0e95a64ca68d47005c0daa4f9cf8b2923110933e1828a7e0f1732929c75c7f", func := "fipple/fipplelaw05.LateKnown", spec := "lateKnown", unfollowed := true, recurses := true, plainKeys := false, apart := false }
def LateKnownSaid : Prop := lateKnownRow.holds Try.pinned (OpenSpec.ofChange lateKnownSpec)

/-- ITS FALSE NEIGHBOUR: 'it returns false'. Refute it at one input. -/
def lateKnownWrong : ChangeSpec := { name := "lateKnown", fn := fun _ => fun
  | [] => { results := [.lit (.bool false)], args := [] }
  | _ => none }
def LateKnownWrongFalsely : Prop := lateKnownRow.holds Try.pinned (OpenSpec.ofChange lateKnownWrong)

/- THE SECOND FORM. 'bulk': how many values and letters a reading holds, each counted each time it is reached (what is shared counts as often as it is met; a slice's spare places count too). A statement '..UptoSaid' is the law's where the arguments, and the package variables that the reading takes, are together of bulk at most 1048576: NARROWER than '..Said'. Prove '..Said' where nothing that the law and all that it calls make is longer than what came in: it says more and counts as full. Else prove '..UptoSaid'. A law counts once. -/
mutual
def uptoBulk {H : Type} : DataW H → Nat
  | .lit (.string bytes) => bytes.length + 1
  | .lit _ => 1
  | .nil => 1
  | .ptr d => uptoBulk d + 1
  | .slice elems spare => uptoBulkAll elems + uptoBulkAll spare + 1
  | .agg parts => uptoBulkAll parts + 1
  | .iface _ d => uptoBulk d + 1
  | .map entries => uptoBulkEntries entries + 1
  | .held _ => 1
def uptoBulkAll {H : Type} : List (DataW H) → Nat
  | [] => 0
  | d :: r => uptoBulk d + uptoBulkAll r
def uptoBulkEntries {H : Type} : List (Lit × DataW H) → Nat
  | [] => 0
  | x :: r => uptoBulkEntry x + uptoBulkEntries r
def uptoBulkEntry {H : Type} : Lit × DataW H → Nat
  | (.string bytes, d) => bytes.length + uptoBulk d + 1
  | (_, d) => uptoBulk d + 1
 end
def uptoSmall : (H : Type) → List (DataW H) → Bool := fun _ ds => decide (uptoBulkAll ds ≤ 1048576)
def OpenSpec.upto (s : _root_.Go.ChangeSpec) : _root_.Go.OpenSpec := { _root_.Go.OpenSpec.ofChange s with cond := some uptoSmall }

/-- 'fipplelaw05.LateBooks', WHERE WHAT IT READS IS OF BULK AT MOST 1048576: true; the input reads as it did. -/
def lateBooksUptoRow : OpenClaim := { program := "ytadneamkkepknaa", sum := "6a0e95a64ca68d47005c0daa4f9cf8b2923110933e1828a7e0f1732929c75c7f", func := "fipple/fipplelaw05.LateBooks", spec := "lateBooks", unfollowed := true, recurses := true, plainKeys := false, apart := false, narrowed := true }
def LateBooksUptoSaid : Prop := lateBooksUptoRow.holds Try.pinned (OpenSpec.upto lateBooksSpec)

/-- 'fipplelaw05.LateSequences', WHERE WHAT IT READS IS OF BULK AT MOST 1048576: true; the input reads as it did. -/
def lateSequencesUptoRow : OpenClaim := { program := "ytadneamkkepknaa", sum := "6a0e95a64ca68d47005c0daa4f9cf8b2923110933e1828a7e0f1732929c75c7f", func := "fipple/fipplelaw05.LateSequences", spec := "lateSequences", unfollowed := true, recurses := true, plainKeys := false, apart := false, narrowed := true }
def LateSequencesUptoSaid : Prop := lateSequencesUptoRow.holds Try.pinned (OpenSpec.upto lateSequencesSpec)

/-- 'fipplelaw05.LateDays', WHERE WHAT IT READS IS OF BULK AT MOST 1048576: true; the input reads as it did. -/
def lateDaysUptoRow : OpenClaim := { program := "ytadneamkkepknaa", sum := "6a0e95a64ca68d47005c0daa4f9cf8b2923110933e1828a7e0f1732929c75c7f", func := "fipple/fipplelaw05.LateDays", spec := "lateDays", unfollowed := true, recurses := true, plainKeys := false, apart := false, narrowed := true }
def LateDaysUptoSaid : Prop := lateDaysUptoRow.holds Try.pinned (OpenSpec.upto lateDaysSpec)

/-- 'fipplelaw05.LateKepts', WHERE WHAT IT READS IS OF BULK AT MOST 1048576: true; the input reads as it did. -/
def lateKeptsUptoRow : OpenClaim := { program := "ytadneamkkepknaa", sum := "6a0e95a64ca68d47005c0daa4f9cf8b2923110933e1828a7e0f1732929c75c7f", func := "fipple/fipplelaw05.LateKepts", spec := "lateKepts", unfollowed := true, recurses := true, plainKeys := false, apart := false, narrowed := true }
def LateKeptsUptoSaid : Prop := lateKeptsUptoRow.holds Try.pinned (OpenSpec.upto lateKeptsSpec)

/-- 'fipplelaw05.LateFewests', WHERE WHAT IT READS IS OF BULK AT MOST 1048576: true; the input reads as it did. -/
def lateFewestsUptoRow : OpenClaim := { program := "ytadneamkkepknaa", sum := "6a0e95a64ca68d47005c0daa4f9cf8b2923110933e1828a7e0f1732929c75c7f", func := "fipple/fipplelaw05.LateFewests", spec := "lateFewests", unfollowed := true, recurses := true, plainKeys := false, apart := false, narrowed := true }
def LateFewestsUptoSaid : Prop := lateFewestsUptoRow.holds Try.pinned (OpenSpec.upto lateFewestsSpec)

/-- 'fipplelaw05.LateProved', WHERE WHAT IT READS IS OF BULK AT MOST 1048576: true; the input reads as it did. -/
def lateProvedUptoRow : OpenClaim := { program := "ytadneamkkepknaa", sum := "6a0e95a64ca68d47005c0daa4f9cf8b2923110933e1828a7e0f1732929c75c7f", func := "fipple/fipplelaw05.LateProved", spec := "lateProved", unfollowed := true, recurses := true, plainKeys := false, apart := false, narrowed := true }
def LateProvedUptoSaid : Prop := lateProvedUptoRow.holds Try.pinned (OpenSpec.upto lateProvedSpec)

/-- 'fipplelaw05.LateExchanged', WHERE WHAT IT READS IS OF BULK AT MOST 1048576: true; the input reads as it did. -/
def lateExchangedUptoRow : OpenClaim := { program := "ytadneamkkepknaa", sum := "6a0e95a64ca68d47005c0daa4f9cf8b2923110933e1828a7e0f1732929c75c7f", func := "fipple/fipplelaw05.LateExchanged", spec := "lateExchanged", unfollowed := true, recurses := true, plainKeys := false, apart := false, narrowed := true }
def LateExchangedUptoSaid : Prop := lateExchangedUptoRow.holds Try.pinned (OpenSpec.upto lateExchangedSpec)

/-- 'fipplelaw05.LateFewest', WHERE WHAT IT READS IS OF BULK AT MOST 1048576: true; the input reads as it did. -/
def lateFewestUptoRow : OpenClaim := { program := "ytadneamkkepknaa", sum := "6a0e95a64ca68d47005c0daa4f9cf8b2923110933e1828a7e0f1732929c75c7f", func := "fipple/fipplelaw05.LateFewest", spec := "lateFewest", unfollowed := true, recurses := true, plainKeys := false, apart := false, narrowed := true }
def LateFewestUptoSaid : Prop := lateFewestUptoRow.holds Try.pinned (OpenSpec.upto lateFewestSpec)

/-- 'fipplelaw05.LateFewer', WHERE WHAT IT READS IS OF BULK AT MOST 1048576: true; the input reads as it did. -/
def lateFewerUptoRow : OpenClaim := { program := "ytadneamkkepknaa", sum := "6a0e95a64ca68d47005c0daa4f9cf8b2923110933e1828a7e0f1732929c75c7f", func := "fipple/fipplelaw05.LateFewer", spec := "lateFewer", unfollowed := true, recurses := true, plainKeys := false, apart := false, narrowed := true }
def LateFewerUptoSaid : Prop := lateFewerUptoRow.holds Try.pinned (OpenSpec.upto lateFewerSpec)

/-- 'fipplelaw05.LateBetween', WHERE WHAT IT READS IS OF BULK AT MOST 1048576: true; the input reads as it did. -/
def lateBetweenUptoRow : OpenClaim := { program := "ytadneamkkepknaa", sum := "6a0e95a64ca68d47005c0daa4f9cf8b2923110933e1828a7e0f1732929c75c7f", func := "fipple/fipplelaw05.LateBetween", spec := "lateBetween", unfollowed := true, recurses := true, plainKeys := false, apart := false, narrowed := true }
def LateBetweenUptoSaid : Prop := lateBetweenUptoRow.holds Try.pinned (OpenSpec.upto lateBetweenSpec)

/-- 'fipplelaw05.LateMore', WHERE WHAT IT READS IS OF BULK AT MOST 1048576: true; the input reads as it did. -/
def lateMoreUptoRow : OpenClaim := { program := "ytadneamkkepknaa", sum := "6a0e95a64ca68d47005c0daa4f9cf8b2923110933e1828a7e0f1732929c75c7f", func := "fipple/fipplelaw05.LateMore", spec := "lateMore", unfollowed := true, recurses := true, plainKeys := false, apart := false, narrowed := true }
def LateMoreUptoSaid : Prop := lateMoreUptoRow.holds Try.pinned (OpenSpec.upto lateMoreSpec)

/-- 'fipplelaw05.LateShifted', WHERE WHAT IT READS IS OF BULK AT MOST 1048576: true; the input reads as it did. -/
def lateShiftedUptoRow : OpenClaim := { program := "ytadneamkkepknaa", sum := "6a0e95a64ca68d47005c0daa4f9cf8b2923110933e1828a7e0f1732929c75c7f", func := "fipple/fipplelaw05.LateShifted", spec := "lateShifted", unfollowed := true, recurses := true, plainKeys := false, apart := false, narrowed := true }
def LateShiftedUptoSaid : Prop := lateShiftedUptoRow.holds Try.pinned (OpenSpec.upto lateShiftedSpec)

/-- 'fipplelaw05.LateSorted', WHERE WHAT IT READS IS OF BULK AT MOST 1048576: true; the input reads as it did. -/
def lateSortedUptoRow : OpenClaim := { program := "ytadneamkkepknaa", sum := "6a0e95a64ca68d47005c0daa4f9cf8b2923110933e1828a7e0f1732929c75c7f", func := "fipple/fipplelaw05.LateSorted", spec := "lateSorted", unfollowed := true, recurses := true, plainKeys := false, apart := false, narrowed := true }
def LateSortedUptoSaid : Prop := lateSortedUptoRow.holds Try.pinned (OpenSpec.upto lateSortedSpec)

/-- 'fipplelaw05.LateKnown', WHERE WHAT IT READS IS OF BULK AT MOST 1048576: true; the input reads as it did. -/
def lateKnownUptoRow : OpenClaim := { program := "ytadneamkkepknaa", sum := "6a0e95a64ca68d47005c0daa4f9cf8b2923110933e1828a7e0f1732929c75c7f", func := "fipple/fipplelaw05.LateKnown", spec := "lateKnown", unfollowed := true, recurses := true, plainKeys := false, apart := false, narrowed := true }
def LateKnownUptoSaid : Prop := lateKnownUptoRow.holds Try.pinned (OpenSpec.upto lateKnownSpec)

end Rows
end Go.Proofs.Ytadneamkkepknaa
