/-
  No cell of these rows narrows 'for every input' (looked for: loops, veiled, ifaces, maps, wideKeys, modest, calm, conditions, laid).
  DERIVED. THE GIVEN ROWS OF THIS SEAT. 5 by the template 'for every input the law returns true; each argument reads behind the call as it read before'; 0 by the template 'total and deterministic' (their statements: YtpknafidbmnjpaaTotals.lean).
  GIVEN WITH THE SEED: the statements are not yours to turn. If you find one false, say at which input.
  Laid BY PROGRAM, IN A SANDBOX (cutbox-rows.mjs): the forced cells as the released guide's own fill.sh prints them over the translation de43168a63c337ff… (all of the seat's roots in one cut). By AI agents, Wed Nov 11 2026. No macro, syntax, notation, axiom, sorry.
-/
import Derived.Test.YtpknafidbmnjpaaChecked
import GoSem.Claim
import GoSem.ClaimJoined
import GoSem.ClaimMapViews
import Derived.JoinedTies
import Derived.KernelRfl
namespace Go.Proofs.Ytpknafidbmnjpaa
/- THE CELL 'sum', in the pinned program and in every row, IS THE sha256 OF THE DUMP (.gsa) THAT YtpknafidbmnjpaaProg.lean LOADS. Nothing in Lean hashes anything: it is a label: what it is worth is what the hold of that sum in a sandbox is worth. -/
noncomputable def Try.pinned : Pinned := { name := "ytpknafidbmnjpaa", sum := "de43168a63c337ff179a334200f5b3f71a5afa390afbc913e04289250b0329ce", checked := Try.checked }
namespace Rows
def none {H : Type} : Left H := { results := [], args := [] }

/-- 'diapauselaw13.StateAll': WHATEVER THE INPUT: true; the input reads as it did. -/
def stateAllSpec : ChangeSpec := { name := "stateAll", fn := fun _ => fun
  | [d1, d2] => { results := [.lit (.bool true)], args := [d1, d2] }
  | _ => none }
def stateAllRow : OpenClaim := { program := "ytpknafidbmnjpaa", sum := "de43168a63c337ff179a334200f5b3f71a5afa390afbc913e04289250b0329ce", func := "diapause/diapauselaw13.StateAll", spec := "stateAll", unfollowed := true, recurses := true, apart := false }
def StateAllSaid : Prop := stateAllRow.holds Try.pinned (OpenSpec.ofChange stateAllSpec)

/-- ITS FALSE NEIGHBOUR: 'it returns false'. Refute it at one input. -/
def stateAllWrong : ChangeSpec := { name := "stateAll", fn := fun _ => fun
  | [d1, d2] => { results := [.lit (.bool false)], args := [d1, d2] }
  | _ => none }
def StateAllWrongFalsely : Prop := stateAllRow.holds Try.pinned (OpenSpec.ofChange stateAllWrong)

/-- 'diapauselaw13.StateAny': WHATEVER THE INPUT: true; the input reads as it did. -/
def stateAnySpec : ChangeSpec := { name := "stateAny", fn := fun _ => fun
  | [d1, d2, d3, d4] => { results := [.lit (.bool true)], args := [d1, d2, d3, d4] }
  | _ => none }
def stateAnyRow : OpenClaim := { program := "ytpknafidbmnjpaa", sum := "de43168a63c337ff179a334200f5b3f71a5afa390afbc913e04289250b0329ce", func := "diapause/diapauselaw13.StateAny", spec := "stateAny", unfollowed := true, recurses := true, apart := false }
def StateAnySaid : Prop := stateAnyRow.holds Try.pinned (OpenSpec.ofChange stateAnySpec)

/-- ITS FALSE NEIGHBOUR: 'it returns false'. Refute it at one input. -/
def stateAnyWrong : ChangeSpec := { name := "stateAny", fn := fun _ => fun
  | [d1, d2, d3, d4] => { results := [.lit (.bool false)], args := [d1, d2, d3, d4] }
  | _ => none }
def StateAnyWrongFalsely : Prop := stateAnyRow.holds Try.pinned (OpenSpec.ofChange stateAnyWrong)

/-- 'diapauselaw13.StateOwn': WHATEVER THE INPUT: true; the input reads as it did. -/
def stateOwnSpec : ChangeSpec := { name := "stateOwn", fn := fun _ => fun
  | [d] => { results := [.lit (.bool true)], args := [d] }
  | _ => none }
def stateOwnRow : OpenClaim := { program := "ytpknafidbmnjpaa", sum := "de43168a63c337ff179a334200f5b3f71a5afa390afbc913e04289250b0329ce", func := "diapause/diapauselaw13.StateOwn", spec := "stateOwn", unfollowed := true, recurses := true, apart := false }
def StateOwnSaid : Prop := stateOwnRow.holds Try.pinned (OpenSpec.ofChange stateOwnSpec)

/-- ITS FALSE NEIGHBOUR: 'it returns false'. Refute it at one input. -/
def stateOwnWrong : ChangeSpec := { name := "stateOwn", fn := fun _ => fun
  | [d] => { results := [.lit (.bool false)], args := [d] }
  | _ => none }
def StateOwnWrongFalsely : Prop := stateOwnRow.holds Try.pinned (OpenSpec.ofChange stateOwnWrong)

/-- 'diapauselaw13.StateLimits': WHATEVER THE INPUT: true; the input reads as it did. -/
def stateLimitsSpec : ChangeSpec := { name := "stateLimits", fn := fun _ => fun
  | [d1, d2] => { results := [.lit (.bool true)], args := [d1, d2] }
  | _ => none }
def stateLimitsRow : OpenClaim := { program := "ytpknafidbmnjpaa", sum := "de43168a63c337ff179a334200f5b3f71a5afa390afbc913e04289250b0329ce", func := "diapause/diapauselaw13.StateLimits", spec := "stateLimits", unfollowed := true, recurses := true, apart := false }
def StateLimitsSaid : Prop := stateLimitsRow.holds Try.pinned (OpenSpec.ofChange stateLimitsSpec)

/-- ITS FALSE NEIGHBOUR: 'it returns false'. Refute it at one input. -/
def stateLimitsWrong : ChangeSpec := { name := "stateLimits", fn := fun _ => fun
  | [d1, d2] => { results := [.lit (.bool false)], args := [d1, d2] }
  | _ => none }
def StateLimitsWrongFalsely : Prop := stateLimitsRow.holds Try.pinned (OpenSpec.ofChange stateLimitsWrong)

/-- 'diapauselaw13.StateOne': WHATEVER THE INPUT: true; the input reads as it did. -/
def stateOneSpec : ChangeSpec := { name := "stateOne", fn := fun _ => fun
  | [d1, d2, d3, d4] => { results := [.lit (.bool true)], args := [d1, d2, d3, d4] }
  | _ => none }
def stateOneRow : OpenClaim := { program := "ytpknafidbmnjpaa", sum := "de43168a63c337ff179a334200f5b3f71a5afa390afbc913e04289250b0329ce", func := "diapause/diapauselaw13.StateOne", spec := "stateOne", unfollowed := true, recurses := true, apart := false }
def StateOneSaid : Prop := stateOneRow.holds Try.pinned (OpenSpec.ofChange stateOneSpec)

/-- ITS FALSE NEIGHBOUR: 'it returns false'. Refute it at one input. -/
def stateOneWrong : ChangeSpec := { name := "stateOne", fn := fun _ => fun
  | [d1, d2, d3, d4] => { results := [.lit (.bool false)], args := [d1, d2, d3, d4] }
  | _ => none }
def StateOneWrongFalsely : Prop := stateOneRow.holds Try.pinned (OpenSpec.ofChange stateOneWrong)

/- THE SECOND FORM. 'bulk': how many values and letters a reading holds, each counted each time it is reached (what is shared counts as often as it is met; a slice's spare places count too). A statement '..UptoSaid' is the law's where the arguments, and the package variables that the reading takes, are together of bulk at most 1048576: NARROWER than '..Said'. Prove '..Said' where nothing that the law and all that it calls make is longer than what came in: it says more and counts as full. Else prove '..UptoSaid'. A law counts once. -/
mutual
def uptoBulk {H : Type} : DataW H → Nat
  | .lit (.string bytes) => bytes.length + 1
  | .lit _ => 1
  | .nil => 1
  | .ptr d => uptoBulk d + 1
  | .slice elems spare => uptoBulkAll elems + uptoBulkAll spare + 1
  | .agg parts => uptoBulkAll parts + 1
  | .iface _ d => uptoBulk d + 1
  | .map entries => uptoBulkEntries entries + 1
  | .held _ => 1
def uptoBulkAll {H : Type} : List (DataW H) → Nat
  | [] => 0
  | d :: r => uptoBulk d + uptoBulkAll r
def uptoBulkEntries {H : Type} : List (Lit × DataW H) → Nat
  | [] => 0
  | x :: r => uptoBulkEntry x + uptoBulkEntries r
def uptoBulkEntry {H : Type} : Lit × DataW H → Nat
  | (.string bytes, d) => bytes.length + uptoBulk d + 1
  | (_, d) => uptoBulk d + 1
 end
def uptoSmall : (H : Type) → List (DataW H) → Bool := fun _ ds => decide (uptoBulkAll ds ≤ 1048576)
def OpenSpec.upto (s : _root_.Go.ChangeSpec) : _root_.Go.OpenSpec := { _root_.Go.OpenSpec.ofChange s with cond := some uptoSmall }

/-- 'diapauselaw13.StateAll', WHERE WHAT IT READS IS OF BULK AT MOST 1048576: true; the input reads as it did. -/
def stateAllUptoRow : OpenClaim := { program := "ytpknafidbmnjpaa", sum := "de43168a63c337ff179a334200f5b3f71a5afa390afbc913e04289250b0329ce", func := "diapause/diapauselaw13.StateAll", spec := "stateAll", unfollowed := true, recurses := true, apart := false, narrowed := true }
def StateAllUptoSaid : Prop := stateAllUptoRow.holds Try.pinned (OpenSpec.upto stateAllSpec)

/-- 'diapauselaw13.StateAny', WHERE WHAT IT READS IS OF BULK AT MOST 1048576: true; the input reads as it did. -/
def stateAnyUptoRow : OpenClaim := { program := "ytpknafidbmnjpaa", sum := "de43168a63c337ff179a334200f5b3f71a5afa390afbc913e04289250b0329ce", func := "diapause/diapauselaw13.StateAny", spec := "stateAny", unfollowed := true, recurses := true, apart := false, narrowed := true }
def StateAnyUptoSaid : Prop := stateAnyUptoRow.holds Try.pinned (OpenSpec.upto stateAnySpec)

/-- 'diapauselaw13.StateOwn', WHERE WHAT IT READS IS OF BULK AT MOST 1048576: true; the input reads as it did. -/
def stateOwnUptoRow : OpenClaim := { program := "ytpknafidbmnjpaa", sum := "de43168a63c337ff179a334200f5b3f71a5afa390afbc913e04289250b0329ce", func := "diapause/diapauselaw13.StateOwn", spec := "stateOwn", unfollowed := true, recurses := true, apart := false, narrowed := true }
def StateOwnUptoSaid : Prop := stateOwnUptoRow.holds Try.pinned (OpenSpec.upto stateOwnSpec)

/-- 'diapauselaw13.StateLimits', WHERE WHAT IT READS IS OF BULK AT MOST 1048576: true; the input reads as it did. -/
def stateLimitsUptoRow : OpenClaim := { program := "ytpknafidbmnjpaa", sum := "de43168a63c337ff179a334200f5b3f71a5afa390afbc913e04289250b0329ce", func := "diapause/diapauselaw13.StateLimits", spec := "stateLimits", unfollowed := true, recurses := true, apart := false, narrowed := true }
def StateLimitsUptoSaid : Prop := stateLimitsUptoRow.holds Try.pinned (OpenSpec.upto stateLimitsSpec)

/-- 'diapauselaw13.StateOne', WHERE WHAT IT READS IS OF BULK AT MOST 1048576: true; the input reads as it did. -/
def stateOneUptoRow : OpenClaim := { program := "ytpknafidbmnjpaa", sum := "de43168a63c337ff179a334200f5b3f71a5afa390afbc913e04289250b0329ce", func := "diapause/diapauselaw13.StateOne", spec := "stateOne", unfollowed := true, recurses := true, apart := false, narrowed := true }
def StateOneUptoSaid : Prop := stateOneUptoRow.holds Try.pinned (OpenSpec.upto stateOneSpec)

end Rows
end Go.Proofs.Ytpknafidbmnjpaa
