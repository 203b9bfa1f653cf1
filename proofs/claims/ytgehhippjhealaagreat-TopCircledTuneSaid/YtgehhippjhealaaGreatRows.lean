/-
  No cell of these rows narrows 'for every input' (looked for: loops, veiled, ifaces, maps, wideKeys, modest, calm, conditions, laid).
  DERIVED. THE GIVEN ROWS OF THIS SEAT. 4 by the template 'for every input the law returns true; each argument reads behind the call as it read before'; 0 by the template 'total and deterministic' (their statements: YtgehhippjhealaaGreatTotals.lean).
  GIVEN WITH THE SEED: the statements are not yours to turn. If you find one false, say at which input.
  Laid BY PROGRAM, IN A SANDBOX (cutbox-rows.mjs): the forced cells as the released guide's own fill.sh prints them over the translation d3c56d8344c5b56f… (all of the seat's roots in one cut). By AI agents, Wed Nov 11 2026. No macro, syntax, notation, axiom, sorry.
-/
import Derived.Test.YtgehhippjhealaaGreatChecked
import GoSem.Claim
import GoSem.ClaimJoined
import GoSem.ClaimMapViews
import Derived.JoinedTies
import Derived.KernelRfl
namespace Go.Proofs.YtgehhippjhealaaGreat
/- THE CELL 'sum', in the pinned program and in every row, IS THE sha256 OF THE DUMP (.gsa) THAT YtgehhippjhealaaGreatProg.lean LOADS. Nothing in Lean hashes anything: it is a label: what it is worth is what the hold of that sum in a sandbox is worth. -/
noncomputable def Tryz.pinned : Pinned := { name := "ytgehhippjhealaagreat", sum := "d3c56d8344c5b56fcca36854bb2121d1a353af0f5b5e51a3046904597313c5a2", checked := Tryz.checked }
namespace Rows
def none {H : Type} : Left H := { results := [], args := [] }

/-- 'fippletop.TopCircledTune': WHATEVER THE INPUT: true; the input reads as it did. -/
def topCircledTuneSpec : ChangeSpec := { name := "topCircledTune", fn := fun _ => fun
  | [d1, d2] => { results := [.lit (.bool true)], args := [d1, d2] }
  | _ => none }
def topCircledTuneRow : OpenClaim := { program := "ytgehhippjhealaagreat", sum := "d3c56d8344c5b56fcca36854bb2121d1a353af0f5b5e51a3046904597313c5a2", func := "fipple/fippletop.TopCircledTune", spec := "topCircledTune", unfollowed := true, recurses := true, plainKeys := false, apart := false }
def TopCircledTuneSaid : Prop := topCircledTuneRow.holds Tryz.pinned (OpenSpec.ofChange topCircledTuneSpec)

/-- ITS FALSE NEIGHBOUR: 'it returns false'. Refute it at one input. -/
def topCircledTuneWrong : ChangeSpec := { name := "topCircledTune", fn := fun _ => fun
  | [d1, d2] => { results := [.lit (.bool false)], args := [d1, d2] }
  | _ => none }
def TopCircledTuneWrongFalsely : Prop := topCircledTuneRow.holds Tryz.pinned (OpenSpec.ofChange topCircledTuneWrong)

/-- 'fippletop.TopSteppedLate': WHATEVER THE INPUT: true; the input reads as it did. -/
def topSteppedLateSpec : ChangeSpec := { name := "topSteppedLate", fn := fun _ => fun
  | [d1, d2, d3] => { results := [.lit (.bool true)], args := [d1, d2, d3] }
  | _ => none }
def topSteppedLateRow : OpenClaim := { program := "ytgehhippjhealaagreat", sum := "d3c56d8344c5b56fcca36854bb2121d1a353af0f5b5e51a3046904597313c5a2", func := "fipple/fippletop.TopSteppedLate", spec := "topSteppedLate", unfollowed := true, recurses := true, plainKeys := false, apart := false }
def TopSteppedLateSaid : Prop := topSteppedLateRow.holds Tryz.pinned (OpenSpec.ofChange topSteppedLateSpec)

/-- ITS FALSE NEIGHBOUR: 'it returns false'. Refute it at one input. -/
def topSteppedLateWrong : ChangeSpec := { name := "topSteppedLate", fn := fun _ => fun
  | [d1, d2, d3] => { results := [.lit (.bool false)], args := [d1, d2, d3] }
  | _ => none }
def TopSteppedLateWrongFalsely : Prop := topSteppedLateRow.holds Tryz.pinned (OpenSpec.ofChange topSteppedLateWrong)

/-- 'fippletop.TopChainedBarrel': WHATEVER THE INPUT: true; the input reads as it did. -/
def topChainedBarrelSpec : ChangeSpec := { name := "topChainedBarrel", fn := fun _ => fun
  | [d1, d2, d3] => { results := [.lit (.bool true)], args := [d1, d2, d3] }
  | _ => none }
def topChainedBarrelRow : OpenClaim := { program := "ytgehhippjhealaagreat", sum := "d3c56d8344c5b56fcca36854bb2121d1a353af0f5b5e51a3046904597313c5a2", func := "fipple/fippletop.TopChainedBarrel", spec := "topChainedBarrel", unfollowed := true, recurses := true, plainKeys := false, apart := false }
def TopChainedBarrelSaid : Prop := topChainedBarrelRow.holds Tryz.pinned (OpenSpec.ofChange topChainedBarrelSpec)

/-- ITS FALSE NEIGHBOUR: 'it returns false'. Refute it at one input. -/
def topChainedBarrelWrong : ChangeSpec := { name := "topChainedBarrel", fn := fun _ => fun
  | [d1, d2, d3] => { results := [.lit (.bool false)], args := [d1, d2, d3] }
  | _ => none }
def TopChainedBarrelWrongFalsely : Prop := topChainedBarrelRow.holds Tryz.pinned (OpenSpec.ofChange topChainedBarrelWrong)

/-- 'fippletop.TopStampedBarrel': WHATEVER THE INPUT: true; the input reads as it did. -/
def topStampedBarrelSpec : ChangeSpec := { name := "topStampedBarrel", fn := fun _ => fun
  | [d1, d2, d3] => { results := [.lit (.bool true)], args := [d1, d2, d3] }
  | _ => none }
def topStampedBarrelRow : OpenClaim := { program := "ytgehhippjhealaagreat", sum := "d3c56d8344c5b56fcca36854bb2121d1a353af0f5b5e51a3046904597313c5a2", func := "fipple/fippletop.TopStampedBarrel", spec := "topStampedBarrel", unfollowed := true, recurses := true, plainKeys := false, apart := false }
def TopStampedBarrelSaid : Prop := topStampedBarrelRow.holds Tryz.pinned (OpenSpec.ofChange topStampedBarrelSpec)

/-- ITS FALSE NEIGHBOUR: 'it returns false'. Refute it at one input. -/
def topStampedBarrelWrong : ChangeSpec := { name := "topStampedBarrel", fn := fun _ => fun
  | [d1, d2, d3] => { results := [.lit (.bool false)], args := [d1, d2, d3] }
  | _ => none }
def TopStampedBarrelWrongFalsely : Prop := topStampedBarrelRow.holds Tryz.pinned (OpenSpec.ofChange topStampedBarrelWrong)

/- THE SECOND FORM. 'bulk': how many values and letters a reading holds, each counted each time it is reached (what is shared counts as often as it is met; a slice's spare places count too). A statement '..UptoSaid' is the law's where the arguments, and the package variables that the reading takes, are together of bulk at most 1048576: NARROWER than '..Said'. Prove '..Said' where nothing that the law and all that it calls make is longer than what came in: it says more and counts as full. Else prove '..UptoSaid'. A law counts once. -/
mutual
def uptoBulk {H : Type} : DataW H → Nat
  | .lit (.string bytes) => bytes.length + 1
  | .lit _ => 1
  | .nil => 1
  | .ptr d => uptoBulk d + 1
  | .slice elems spare => uptoBulkAll elems + uptoBulkAll spare + 1
  | .agg parts => uptoBulkAll parts + 1
  | .iface _ d => uptoBulk d + 1
  | .map entries => uptoBulkEntries entries + 1
  | .held _ => 1
def uptoBulkAll {H : Type} : List (DataW H) → Nat
  | [] => 0
  | d :: r => uptoBulk d + uptoBulkAll r
def uptoBulkEntries {H : Type} : List (Lit × DataW H) → Nat
  | [] => 0
  | x :: r => uptoBulkEntry x + uptoBulkEntries r
def uptoBulkEntry {H : Type} : Lit × DataW H → Nat
  | (.string bytes, d) => bytes.length + uptoBulk d + 1
  | (_, d) => uptoBulk d + 1
 end
def uptoSmall : (H : Type) → List (DataW H) → Bool := fun _ ds => decide (uptoBulkAll ds ≤ 1048576)
def OpenSpec.upto (s : _root_.Go.ChangeSpec) : _root_.Go.OpenSpec := { _root_.Go.OpenSpec.ofChange s with cond := some uptoSmall }

/-- 'fippletop.TopCircledTune', WHERE WHAT IT READS IS OF BULK AT MOST 1048576: true; the input reads as it did. -/
def topCircledTuneUptoRow : OpenClaim := { program := "ytgehhippjhealaagreat", sum := "d3c56d8344c5b56fcca36854bb2121d1a353af0f5b5e51a3046904597313c5a2", func := "fipple/fippletop.TopCircledTune", spec := "topCircledTune", unfollowed := true, recurses := true, plainKeys := false, apart := false, narrowed := true }
def TopCircledTuneUptoSaid : Prop := topCircledTuneUptoRow.holds Tryz.pinned (OpenSpec.upto topCircledTuneSpec)

/-- 'fippletop.TopSteppedLate', WHERE WHAT IT READS IS OF BULK AT MOST 1048576: true; the input reads as it did. -/
def topSteppedLateUptoRow : OpenClaim := { program := "ytgehhippjhealaagreat", sum := "d3c56d8344c5b56fcca36854bb2121d1a353af0f5b5e51a3046904597313c5a2", func := "fipple/fippletop.TopSteppedLate", spec := "topSteppedLate", unfollowed := true, recurses := true, plainKeys := false, apart := false, narrowed := true }
def TopSteppedLateUptoSaid : Prop := topSteppedLateUptoRow.holds Tryz.pinned (OpenSpec.upto topSteppedLateSpec)

/-- 'fippletop.TopChainedBarrel', WHERE WHAT IT READS IS OF BULK AT MOST 1048576: true; the input reads as it did. -/
def topChainedBarrelUptoRow : OpenClaim := { program := "ytgehhippjhealaagreat", sum := "d3c56d8344c5b56fcca36854bb2121d1a353af0f5b5e51a3046904597313c5a2", func := "fipple/fippletop.TopChainedBarrel", spec := "topChainedBarrel", unfollowed := true, recurses := true, plainKeys := false, apart := false, narrowed := true }
def TopChainedBarrelUptoSaid : Prop := topChainedBarrelUptoRow.holds Tryz.pinned (OpenSpec.upto topChainedBarrelSpec)

/-- 'fippletop.TopStampedBarrel', WHERE WHAT IT READS IS OF BULK AT MOST 1048576: true; the input reads as it did. -/
def topStampedBarrelUptoRow : OpenClaim := { program := "ytgehhippjhealaagreat", sum := "d3c56d8344c5b56fcca36854bb2121d1a353af0f5b5e51a3046904597313c5a2", func := "fipple/fippletop.TopStampedBarrel", spec := "topStampedBarrel", unfollowed := true, recurses := true, plainKeys := false, apart := false, narrowed := true }
def TopStampedBarrelUptoSaid : Prop := topStampedBarrelUptoRow.holds Tryz.pinned (OpenSpec.upto topStampedBarrelSpec)

end Rows
end Go.Proofs.YtgehhippjhealaaGreat
