/-
  No cell of these rows narrows 'for every input' (looked for: loops, veiled, ifaces, maps, wideKeys, modest, calm, conditions, laid).
  DERIVED. THE GIVEN ROWS OF THIS SEAT. 6 by the template 'for every input the law returns true; each argument reads behind the call as it read before'; 0 by the template 'total and deterministic' (their statements: YthcebkbedfaoeaaTotals.lean).
  GIVEN WITH THE SEED: the statements are not yours to turn. If you find one false, say at which input.
  Laid BY PROGRAM, IN A SANDBOX (cutbox-rows.mjs): the forced cells as the released guide's own fill.sh prints them over the translation 01efda478d13d1cf… (all of the seat's roots in one cut). By AI agents, Wed Nov 11 2026. No macro, syntax, notation, axiom, sorry.
-/
import Derived.Test.YthcebkbedfaoeaaChecked
import GoSem.Claim
import GoSem.ClaimJoined
import GoSem.ClaimMapViews
import Derived.JoinedTies
import Derived.KernelRfl
namespace Go.Proofs.Ythcebkbedfaoeaa
/- THE CELL 'sum', in the pinned program and in every row, IS THE sha256 OF THE DUMP (.gsa) THAT YthcebkbedfaoeaaProg.lean LOADS. Nothing in Lean hashes anything: it is a label: what it is worth is what the hold of that sum in a sandbox is worth. -/
noncomputable def Try.pinned : Pinned := { name := "ythcebkbedfaoeaa", sum := "01efda478d13d1cff0d1f0d9e0a8b64daf8c25d3c3827da2779b275ca8124da2", checked := Try.checked }
namespace Rows
def none {H : Type} : Left H := { results := [], args := [] }

/-- 'droverlaw21.LeaseNone': WHATEVER THE INPUT: true; the input reads as it did. -/
def leaseNoneSpec : ChangeSpec := { name := "leaseNone", fn := fun _ => fun
  | [d] => { results := [.lit (.bool true)], args := [d] }
  | _ => none }
def leaseNoneRow : OpenClaim := { program := "ythcebkbedfaoeaa", sum := "01efda478d13d1cff0d1f0d9e0a8b64daf8c25d3c3827da2779b275ca8124da2", func := "drover/droverlaw21.LeaseNone", spec := "leaseNone", unfollowed := true, recurses := true, plainKeys := false, apart := false }
def LeaseNoneSaid : Prop := leaseNoneRow.holds Try.pinned (OpenSpec.ofChange leaseNoneSpec)

/-- ITS FALSE NEIGHBOUR: 'it returns false'. Refute it at one input. -/
def leaseNoneWrong : ChangeSpec := { name := "leaseNone", fn := fun _ => fun
  | [d] => { results := [.lit (.bool false)], args := [d] }
  | _ => none }
def LeaseNoneWrongFalsely : Prop := leaseNoneRow.holds Try.pinned (OpenSpec.ofChange leaseNoneWrong)

/-- 'droverlaw21.LeaseStands': WHATEVER THE INPUT: true; the input reads as it did. -/
def leaseStandsSpec : ChangeSpec := { name := "leaseStands", fn := fun _ => fun
  | [d1, d2, d3] => { results := [.lit (.bool true)], args := [d1, d2, d3] }
  | _ => none }
def leaseStandsRow : OpenClaim := { program := "ythcebkbedfaoeaa", sum := "01efda478d13d1cff0d1f0d9e0a8b64daf8c25d3c3827da2779b275ca8124da2", func := "drover/droverlaw21.LeaseStands", spec := "leaseStands", unfollowed := true, recurses := true, plainKeys := false, apart := false }
def LeaseStandsSaid : Prop := leaseStandsRow.holds Try.pinned (OpenSpec.ofChange leaseStandsSpec)

/-- ITS FALSE NEIGHBOUR: 'it returns false'. Refute it at one input. -/
def leaseStandsWrong : ChangeSpec := { name := "leaseStands", fn := fun _ => fun
  | [d1, d2, d3] => { results := [.lit (.bool false)], args := [d1, d2, d3] }
  | _ => none }
def LeaseStandsWrongFalsely : Prop := leaseStandsRow.holds Try.pinned (OpenSpec.ofChange leaseStandsWrong)

/-- 'droverlaw21.LeaseBound': WHATEVER THE INPUT: true; the input reads as it did. -/
def leaseBoundSpec : ChangeSpec := { name := "leaseBound", fn := fun _ => fun
  | [d1, d2, d3] => { results := [.lit (.bool true)], args := [d1, d2, d3] }
  | _ => none }
def leaseBoundRow : OpenClaim := { program := "ythcebkbedfaoeaa", sum := "01efda478d13d1cff0d1f0d9e0a8b64daf8c25d3c3827da2779b275ca8124da2", func := "drover/droverlaw21.LeaseBound", spec := "leaseBound", unfollowed := true, recurses := true, plainKeys := false, apart := false }
def LeaseBoundSaid : Prop := leaseBoundRow.holds Try.pinned (OpenSpec.ofChange leaseBoundSpec)

/-- ITS FALSE NEIGHBOUR: 'it returns false'. Refute it at one input. -/
def leaseBoundWrong : ChangeSpec := { name := "leaseBound", fn := fun _ => fun
  | [d1, d2, d3] => { results := [.lit (.bool false)], args := [d1, d2, d3] }
  | _ => none }
def LeaseBoundWrongFalsely : Prop := leaseBoundRow.holds Try.pinned (OpenSpec.ofChange leaseBoundWrong)

/-- 'droverlaw21.LeaseLonger': WHATEVER THE INPUT: true; the input reads as it did. -/
def leaseLongerSpec : ChangeSpec := { name := "leaseLonger", fn := fun _ => fun
  | [d1, d2, d3] => { results := [.lit (.bool true)], args := [d1, d2, d3] }
  | _ => none }
def leaseLongerRow : OpenClaim := { program := "ythcebkbedfaoeaa", sum := "01efda478d13d1cff0d1f0d9e0a8b64daf8c25d3c3827da2779b275ca8124da2", func := "drover/droverlaw21.LeaseLonger", spec := "leaseLonger", unfollowed := true, recurses := true, plainKeys := false, apart := false }
def LeaseLongerSaid : Prop := leaseLongerRow.holds Try.pinned (OpenSpec.ofChange leaseLongerSpec)

/-- ITS FALSE NEIGHBOUR: 'it returns false'. Refute it at one input. -/
def leaseLongerWrong : ChangeSpec := { name := "leaseLonger", fn := fun _ => fun
  | [d1, d2, d3] => { results := [.lit (.bool false)], args := [d1, d2, d3] }
  | _ => none }
def LeaseLongerWrongFalsely : Prop := leaseLongerRow.holds Try.pinned (OpenSpec.ofChange leaseLongerWrong)

/-- 'droverlaw21.LeaseAcks': WHATEVER THE INPUT: true; the input reads as it did. -/
def leaseAcksSpec : ChangeSpec := { name := "leaseAcks", fn := fun _ => fun
  | [d1, d2, d3] => { results := [.lit (.bool true)], args := [d1, d2, d3] }
  | _ => none }
def leaseAcksRow : OpenClaim := { program := "ythcebkbedfaoeaa", sum := "01efda478d13d1cff0d1f0d9e0a8b64daf8c25d3c3827da2779b275ca8124da2", func := "drover/droverlaw21.LeaseAcks", spec := "leaseAcks", unfollowed := true, recurses := true, plainKeys := false, apart := false }
def LeaseAcksSaid : Prop := leaseAcksRow.holds Try.pinned (OpenSpec.ofChange leaseAcksSpec)

/-- ITS FALSE NEIGHBOUR: 'it returns false'. Refute it at one input. -/
def leaseAcksWrong : ChangeSpec := { name := "leaseAcks", fn := fun _ => fun
  | [d1, d2, d3] => { results := [.lit (.bool false)], args := [d1, d2, d3] }
  | _ => none }
def LeaseAcksWrongFalsely : Prop := leaseAcksRow.holds Try.pinned (OpenSpec.ofChange leaseAcksWrong)

/-- 'droverlaw21.LeaseTells': WHATEVER THE INPUT: true; the input reads as it did. -/
def leaseTellsSpec : ChangeSpec := { name := "leaseTells", fn := fun _ => fun
  | [d1, d2] => { results := [.lit (.bool true)], args := [d1, d2] }
  | _ => none }
def leaseTellsRow : OpenClaim := { program := "ythcebkbedfaoeaa", sum := "01efda478d13d1cff0d1f0d9e0a8b64daf8c25d3c3827da2779b275ca8124da2", func := "drover/droverlaw21.LeaseTells", spec := "leaseTells", unfollowed := true, recurses := true, plainKeys := false, apart := false }
def LeaseTellsSaid : Prop := leaseTellsRow.holds Try.pinned (OpenSpec.ofChange leaseTellsSpec)

/-- ITS FALSE NEIGHBOUR: 'it returns false'. Refute it at one input. -/
def leaseTellsWrong : ChangeSpec := { name := "leaseTells", fn := fun _ => fun
  | [d1, d2] => { results := [.lit (.bool false)], args := [d1, d2] }
  | _ => none }
def LeaseTellsWrongFalsely : Prop := leaseTellsRow.holds Try.pinned (OpenSpec.ofChange leaseTellsWrong)

/- THE SECOND FORM. 'bulk': how many values and letters a reading holds, each counted each time it is reached (what is shared counts as often as it is met; a slice's spare places count too). A statement '..UptoSaid' is the law's where the arguments, and the package variables that the reading takes, are together of bulk at most 1048576: NARROWER than '..Said'. Prove '..Said' where nothing that the law and all that it calls make is longer than what came in: it says more and counts as full. Else prove '..UptoSaid'. A law counts once. -/
mutual
def uptoBulk {H : Type} : DataW H → Nat
  | .lit (.string bytes) => bytes.length + 1
  | .lit _ => 1
  | .nil => 1
  | .ptr d => uptoBulk d + 1
  | .slice elems spare => uptoBulkAll elems + uptoBulkAll spare + 1
  | .agg parts => uptoBulkAll parts + 1
  | .iface _ d => uptoBulk d + 1
  | .map entries => uptoBulkEntries entries + 1
  | .held _ => 1
def uptoBulkAll {H : Type} : List (DataW H) → Nat
  | [] => 0
  | d :: r => uptoBulk d + uptoBulkAll r
def uptoBulkEntries {H : Type} : List (Lit × DataW H) → Nat
  | [] => 0
  | x :: r => uptoBulkEntry x + uptoBulkEntries r
def uptoBulkEntry {H : Type} : Lit × DataW H → Nat
  | (.string bytes, d) => bytes.length + uptoBulk d + 1
  | (_, d) => uptoBulk d + 1
 end
def uptoSmall : (H : Type) → List (DataW H) → Bool := fun _ ds => decide (uptoBulkAll ds ≤ 1048576)
def OpenSpec.upto (s : _root_.Go.ChangeSpec) : _root_.Go.OpenSpec := { _root_.Go.OpenSpec.ofChange s with cond := some uptoSmall }

/-- 'droverlaw21.LeaseNone', WHERE WHAT IT READS IS OF BULK AT MOST 1048576: true; the input reads as it did. -/
def leaseNoneUptoRow : OpenClaim := { program := "ythcebkbedfaoeaa", sum := "01efda478d13d1cff0d1f0d9e0a8b64daf8c25d3c3827da2779b275ca8124da2", func := "drover/droverlaw21.LeaseNone", spec := "leaseNone", unfollowed := true, recurses := true, plainKeys := false, apart := false, narrowed := true }
def LeaseNoneUptoSaid : Prop := leaseNoneUptoRow.holds Try.pinned (OpenSpec.upto leaseNoneSpec)

/-- 'droverlaw21.LeaseStands', WHERE WHAT IT READS IS OF BULK AT MOST 1048576: true; the input reads as it did. -/
def leaseStandsUptoRow : OpenClaim := { program := "ythcebkbedfaoeaa", sum := "01efda478d13d1cff0d1f0d9e0a8b64daf8c25d3c3827da2779b275ca8124da2", func := "drover/droverlaw21.LeaseStands", spec := "leaseStands", unfollowed := true, recurses := true, plainKeys := false, apart := false, narrowed := true }
def LeaseStandsUptoSaid : Prop := leaseStandsUptoRow.holds Try.pinned (OpenSpec.upto leaseStandsSpec)

/-- 'droverlaw21.LeaseBound', WHERE WHAT IT READS IS OF BULK AT MOST 1048576: true; the input reads as it did. -/
def leaseBoundUptoRow : OpenClaim := { program := "ythcebkbedfaoeaa", sum := "01efda478d13d1cff0d1f0d9e0a8b64daf8c25d3c3827da2779b275ca8124da2", func := "drover/droverlaw21.LeaseBound", spec := "leaseBound", unfollowed := true, recurses := true, plainKeys := false, apart := false, narrowed := true }
def LeaseBoundUptoSaid : Prop := leaseBoundUptoRow.holds Try.pinned (OpenSpec.upto leaseBoundSpec)

/-- 'droverlaw21.LeaseLonger', WHERE WHAT IT READS IS OF BULK AT MOST 1048576: true; the input reads as it did. -/
def leaseLongerUptoRow : OpenClaim := { program := "ythcebkbedfaoeaa", sum := "01efda478d13d1cff0d1f0d9e0a8b64daf8c25d3c3827da2779b275ca8124da2", func := "drover/droverlaw21.LeaseLonger", spec := "leaseLonger", unfollowed := true, recurses := true, plainKeys := false, apart := false, narrowed := true }
def LeaseLongerUptoSaid : Prop := leaseLongerUptoRow.holds Try.pinned (OpenSpec.upto leaseLongerSpec)

/-- 'droverlaw21.LeaseAcks', WHERE WHAT IT READS IS OF BULK AT MOST 1048576: true; the input reads as it did. -/
def leaseAcksUptoRow : OpenClaim := { program := "ythcebkbedfaoeaa", sum := "01efda478d13d1cff0d1f0d9e0a8b64daf8c25d3c3827da2779b275ca8124da2", func := "drover/droverlaw21.LeaseAcks", spec := "leaseAcks", unfollowed := true, recurses := true, plainKeys := false, apart := false, narrowed := true }
def LeaseAcksUptoSaid : Prop := leaseAcksUptoRow.holds Try.pinned (OpenSpec.upto leaseAcksSpec)

/-- 'droverlaw21.LeaseTells', WHERE WHAT IT READS IS OF BULK AT MOST 1048576: true; the input reads as it did. -/
def leaseTellsUptoRow : OpenClaim := { program := "ythcebkbedfaoeaa", sum := "01efda478d13d1cff0d1f0d9e0a8b64daf8c25d3c3827da2779b275ca8124da2", func := "drover/droverlaw21.LeaseTells", spec := "leaseTells", unfollowed := true, recurses := true, plainKeys := false, apart := false, narrowed := true }
def LeaseTellsUptoSaid : Prop := leaseTellsUptoRow.holds Try.pinned (OpenSpec.upto leaseTellsSpec)

end Rows
end Go.Proofs.Ythcebkbedfaoeaa
