/-
  No cell of these rows narrows 'for every input' (looked for: loops, veiled, ifaces, maps, wideKeys, modest, calm, conditions, laid).
  DERIVED. THE GIVEN ROWS OF THIS SEAT. 7 by the template 'for every input the law returns true; each argument reads behind the call as it read before'; 0 by the template 'total and deterministic' (their statements: YtfbhcapcnkcfdaaTotals.lean).
  GIVEN WITH THE SEED: the statements are not yours to turn. If you find one false, say at which input.
  Laid BY PROGRAM, IN A SANDBOX (cutbox-rows.mjs): the forced cells as the released guide's own fill.sh prints them over the translation 0dc37dbeea37b9d9… (all of the seat's roots in one cut). By AI agents, Wed Nov 11 2026. No macro, syntax, notation, axiom, sorry.
-/
import Derived.Test.YtfbhcapcnkcfdaaChecked
import GoSem.Claim
import GoSem.ClaimJoined
import GoSem.ClaimMapViews
import Derived.JoinedTies
import Derived.KernelRfl
namespace Go.Proofs.Ytfbhcapcnkcfdaa
/- THE CELL 'sum', in the pinned program and in every row, IS THE sha256 OF THE DUMP (.gsa) THAT YtfbhcapcnkcfdaaProg.lean LOADS. Nothing in Lean hashes anything: it is a label: what it is worth is what the hold of that sum in a sandbox is worth. -/
noncomputable def Try.pinned : Pinned := { name := "ytfbhcapcnkcfdaa", sum := "0dc37dbeea37b9d9fb4657534af60d4ea01895496f9f087cbb91d3fd1d23753e", checked := Try.checked }
namespace Rows
def none {H : Type} : Left H := { results := [], args := [] }

/-- 'droverlaw05.LogNone': WHATEVER THE INPUT: true; the input reads as it did. -/
def logNoneSpec : ChangeSpec := { name := "logNone", fn := fun _ => fun
  | [d] => { results := [.lit (.bool true)], args := [d] }
  | _ => none }
def logNoneRow : OpenClaim := { program := "ytfbhcapcnkcfdaa", sum := "0dc37dbeea37b9d9fb4657534af60d4ea01895496f9f087cbb91d3fd1d23753e", func := "drover/droverlaw05.LogNone", spec := "logNone", unfollowed := true, recurses := true, apart := false }
def LogNoneSaid : Prop := logNoneRow.holds Try.pinned (OpenSpec.ofChange logNoneSpec)

/-- ITS FALSE NEIGHBOUR: 'it returns false'. Refute it at one input. -/
def logNoneWrong : ChangeSpec := { name := "logNone", fn := fun _ => fun
  | [d] => { results := [.lit (.bool false)], args := [d] }
  | _ => none }
def LogNoneWrongFalsely : Prop := logNoneRow.holds Try.pinned (OpenSpec.ofChange logNoneWrong)

/-- 'droverlaw05.LogLess': WHATEVER THE INPUT: true; the input reads as it did. -/
def logLessSpec : ChangeSpec := { name := "logLess", fn := fun _ => fun
  | [d1, d2, d3] => { results := [.lit (.bool true)], args := [d1, d2, d3] }
  | _ => none }
def logLessRow : OpenClaim := { program := "ytfbhcapcnkcfdaa", sum := "0dc37dbeea37b9d9fb4657534af60d4ea01895496f9f087cbb91d3fd1d23753e", func := "drover/droverlaw05.LogLess", spec := "logLess", unfollowed := true, recurses := true, apart := false }
def LogLessSaid : Prop := logLessRow.holds Try.pinned (OpenSpec.ofChange logLessSpec)

/-- ITS FALSE NEIGHBOUR: 'it returns false'. Refute it at one input. -/
def logLessWrong : ChangeSpec := { name := "logLess", fn := fun _ => fun
  | [d1, d2, d3] => { results := [.lit (.bool false)], args := [d1, d2, d3] }
  | _ => none }
def LogLessWrongFalsely : Prop := logLessRow.holds Try.pinned (OpenSpec.ofChange logLessWrong)

/-- 'droverlaw05.LogBack': WHATEVER THE INPUT: true; the input reads as it did. -/
def logBackSpec : ChangeSpec := { name := "logBack", fn := fun _ => fun
  | [d1, d2] => { results := [.lit (.bool true)], args := [d1, d2] }
  | _ => none }
def logBackRow : OpenClaim := { program := "ytfbhcapcnkcfdaa", sum := "0dc37dbeea37b9d9fb4657534af60d4ea01895496f9f087cbb91d3fd1d23753e", func := "drover/droverlaw05.LogBack", spec := "logBack", unfollowed := true, recurses := true, apart := false }
def LogBackSaid : Prop := logBackRow.holds Try.pinned (OpenSpec.ofChange logBackSpec)

/-- ITS FALSE NEIGHBOUR: 'it returns false'. Refute it at one input. -/
def logBackWrong : ChangeSpec := { name := "logBack", fn := fun _ => fun
  | [d1, d2] => { results := [.lit (.bool false)], args := [d1, d2] }
  | _ => none }
def LogBackWrongFalsely : Prop := logBackRow.holds Try.pinned (OpenSpec.ofChange logBackWrong)

/-- 'droverlaw05.LogNumbers': WHATEVER THE INPUT: true; the input reads as it did. -/
def logNumbersSpec : ChangeSpec := { name := "logNumbers", fn := fun _ => fun
  | [] => { results := [.lit (.bool true)], args := [] }
  | _ => none }
def logNumbersRow : OpenClaim := { program := "ytfbhcapcnkcfdaa", sum := "0dc37dbeea37b9d9fb4657534af60d4ea01895496f9f087cbb91d3fd1d23753e", func := "drover/droverlaw05.LogNumbers", spec := "logNumbers", unfollowed := true, recurses := true, apart := false }
def LogNumbersSaid : Prop := logNumbersRow.holds Try.pinned (OpenSpec.ofChange logNumbersSpec)

/-- ITS FALSE NEIGHBOUR: 'it returns false'. Refute it at one input. -/
def logNumbersWrong : ChangeSpec := { name := "logNumbers", fn := fun _ => fun
  | [] => { results := [.lit (.bool false)], args := [] }
  | _ => none }
def LogNumbersWrongFalsely : Prop := logNumbersRow.holds Try.pinned (OpenSpec.ofChange logNumbersWrong)

/-- 'droverlaw05.LogEnded': WHATEVER THE INPUT: true; the input reads as it did. -/
def logEndedSpec : ChangeSpec := { name := "logEnded", fn := fun _ => fun
  | [d1, d2, d3] => { results := [.lit (.bool true)], args := [d1, d2, d3] }
  | _ => none }
def logEndedRow : OpenClaim := { program := "ytfbhcapcnkcfdaa", sum := "0dc37dbeea37b9d9fb4657534af60d4ea01895496f9f087cbb91d3fd1d23753e", func := "drover/droverlaw05.LogEnded", spec := "logEnded", unfollowed := true, recurses := true, apart := false }
def LogEndedSaid : Prop := logEndedRow.holds Try.pinned (OpenSpec.ofChange logEndedSpec)

/-- ITS FALSE NEIGHBOUR: 'it returns false'. Refute it at one input. -/
def logEndedWrong : ChangeSpec := { name := "logEnded", fn := fun _ => fun
  | [d1, d2, d3] => { results := [.lit (.bool false)], args := [d1, d2, d3] }
  | _ => none }
def LogEndedWrongFalsely : Prop := logEndedRow.holds Try.pinned (OpenSpec.ofChange logEndedWrong)

/-- 'droverlaw05.LogPlays': WHATEVER THE INPUT: true; the input reads as it did. -/
def logPlaysSpec : ChangeSpec := { name := "logPlays", fn := fun _ => fun
  | [d1, d2] => { results := [.lit (.bool true)], args := [d1, d2] }
  | _ => none }
def logPlaysRow : OpenClaim := { program := "ytfbhcapcnkcfdaa", sum := "0dc37dbeea37b9d9fb4657534af60d4ea01895496f9f087cbb91d3fd1d23753e", func := "drover/droverlaw05.LogPlays", spec := "logPlays", unfollowed := true, recurses := true, apart := false }
def LogPlaysSaid : Prop := logPlaysRow.holds Try.pinned (OpenSpec.ofChange logPlaysSpec)

/-- ITS FALSE NEIGHBOUR: 'it returns false'. Refute it at one input. -/
def logPlaysWrong : ChangeSpec := { name := "logPlays", fn := fun _ => fun
  | [d1, d2] => { results := [.lit (.bool false)], args := [d1, d2] }
  | _ => none }
def LogPlaysWrongFalsely : Prop := logPlaysRow.holds Try.pinned (OpenSpec.ofChange logPlaysWrong)

/-- 'droverlaw05.LogKeeps': WHATEVER THE INPUT: true; the input reads as it did. -/
def logKeepsSpec : ChangeSpec := { name := "logKeeps", fn := fun _ => fun
  | [d1, d2] => { results := [.lit (.bool true)], args := [d1, d2] }
  | _ => none }
def logKeepsRow : OpenClaim := { program := "ytfbhcapcnkcfdaa", sum := "0dc37dbeea37b9d9fb4657534af60d4ea01895496f9f087cbb91d3fd1d23753e", func := "drover/droverlaw05.LogKeeps", spec := "logKeeps", unfollowed := true, recurses := true, apart := false }
def LogKeepsSaid : Prop := logKeepsRow.holds Try.pinned (OpenSpec.ofChange logKeepsSpec)

/-- ITS FALSE NEIGHBOUR: 'it returns false'. Refute it at one input. -/
def logKeepsWrong : ChangeSpec := { name := "logKeeps", fn := fun _ => fun
  | [d1, d2] => { results := [.lit (.bool false)], args := [d1, d2] }
  | _ => none }
def LogKeepsWrongFalsely : Prop := logKeepsRow.holds Try.pinned (OpenSpec.ofChange logKeepsWrong)

/- THE SECOND FORM. 'bulk': how many values and letters a reading holds, each counted each time it is reached (what is shared counts as often as it is met; a slice's spare places count too). A statement '..UptoSaid' is the law's where the arguments, and the package variables that the reading takes, are together of bulk at most 1048576: NARROWER than '..Said'. Prove '..Said' where nothing that the law and all that it calls make is longer than what came in: it says more and counts as full. Else prove '..UptoSaid'. A law counts once. -/
mutual
def uptoBulk {H : Type} : DataW H → Nat
  | .lit (.string bytes) => bytes.length + 1
  | .lit _ => 1
  | .nil => 1
  | .ptr d => uptoBulk d + 1
  | .slice elems spare => uptoBulkAll elems + uptoBulkAll spare + 1
  | .agg parts => uptoBulkAll parts + 1
  | .iface _ d => uptoBulk d + 1
  | .map entries => uptoBulkEntries entries + 1
  | .held _ => 1
def uptoBulkAll {H : Type} : List (DataW H) → Nat
  | [] => 0
  | d :: r => uptoBulk d + uptoBulkAll r
def uptoBulkEntries {H : Type} : List (Lit × DataW H) → Nat
  | [] => 0
  | x :: r => uptoBulkEntry x + uptoBulkEntries r
def uptoBulkEntry {H : Type} : Lit × DataW H → Nat
  | (.string bytes, d) => bytes.length + uptoBulk d + 1
  | (_, d) => uptoBulk d + 1
 end
def uptoSmall : (H : Type) → List (DataW H) → Bool := fun _ ds => decide (uptoBulkAll ds ≤ 1048576)
def OpenSpec.upto (s : _root_.Go.ChangeSpec) : _root_.Go.OpenSpec := { _root_.Go.OpenSpec.ofChange s with cond := some uptoSmall }

/-- 'droverlaw05.LogNone', WHERE WHAT IT READS IS OF BULK AT MOST 1048576: true; the input reads as it did. -/
def logNoneUptoRow : OpenClaim := { program := "ytfbhcapcnkcfdaa", sum := "0dc37dbeea37b9d9fb4657534af60d4ea01895496f9f087cbb91d3fd1d23753e", func := "drover/droverlaw05.LogNone", spec := "logNone", unfollowed := true, recurses := true, apart := false, narrowed := true }
def LogNoneUptoSaid : Prop := logNoneUptoRow.holds Try.pinned (OpenSpec.upto logNoneSpec)

/-- 'droverlaw05.LogLess', WHERE WHAT IT READS IS OF BULK AT MOST 1048576: true; the input reads as it did. -/
def logLessUptoRow : OpenClaim := { program := "ytfbhcapcnkcfdaa", sum := "0dc37dbeea37b9d9fb4657534af60d4ea01895496f9f087cbb91d3fd1d23753e", func := "drover/droverlaw05.LogLess", spec := "logLess", unfollowed := true, recurses := true, apart := false, narrowed := true }
def LogLessUptoSaid : Prop := logLessUptoRow.holds Try.pinned (OpenSpec.upto logLessSpec)

/-- 'droverlaw05.LogBack', WHERE WHAT IT READS IS OF BULK AT MOST 1048576: true; the input reads as it did. -/
def logBackUptoRow : OpenClaim := { program := "ytfbhcapcnkcfdaa", sum := "0dc37dbeea37b9d9fb4657534af60d4ea01895496f9f087cbb91d3fd1d23753e", func := "drover/droverlaw05.LogBack", spec := "logBack", unfollowed := true, recurses := true, apart := false, narrowed := true }
def LogBackUptoSaid : Prop := logBackUptoRow.holds Try.pinned (OpenSpec.upto logBackSpec)

/-- 'droverlaw05.LogNumbers', WHERE WHAT IT READS IS OF BULK AT MOST 1048576: true; the input reads as it did. -/
def logNumbersUptoRow : OpenClaim := { program := "ytfbhcapcnkcfdaa", sum := "0dc37dbeea37b9d9fb4657534af60d4ea01895496f9f087cbb91d3fd1d23753e", func := "drover/droverlaw05.LogNumbers", spec := "logNumbers", unfollowed := true, recurses := true, apart := false, narrowed := true }
def LogNumbersUptoSaid : Prop := logNumbersUptoRow.holds Try.pinned (OpenSpec.upto logNumbersSpec)

/-- 'droverlaw05.LogEnded', WHERE WHAT IT READS IS OF BULK AT MOST 1048576: true; the input reads as it did. -/
def logEndedUptoRow : OpenClaim := { program := "ytfbhcapcnkcfdaa", sum := "0dc37dbeea37b9d9fb4657534af60d4ea01895496f9f087cbb91d3fd1d23753e", func := "drover/droverlaw05.LogEnded", spec := "logEnded", unfollowed := true, recurses := true, apart := false, narrowed := true }
def LogEndedUptoSaid : Prop := logEndedUptoRow.holds Try.pinned (OpenSpec.upto logEndedSpec)

/-- 'droverlaw05.LogPlays', WHERE WHAT IT READS IS OF BULK AT MOST 1048576: true; the input reads as it did. -/
def logPlaysUptoRow : OpenClaim := { program := "ytfbhcapcnkcfdaa", sum := "0dc37dbeea37b9d9fb4657534af60d4ea01895496f9f087cbb91d3fd1d23753e", func := "drover/droverlaw05.LogPlays", spec := "logPlays", unfollowed := true, recurses := true, apart := false, narrowed := true }
def LogPlaysUptoSaid : Prop := logPlaysUptoRow.holds Try.pinned (OpenSpec.upto logPlaysSpec)

/-- 'droverlaw05.LogKeeps', WHERE WHAT IT READS IS OF BULK AT MOST 1048576: true; the input reads as it did. -/
def logKeepsUptoRow : OpenClaim := { program := "ytfbhcapcnkcfdaa", sum := "0dc37dbeea37b9d9fb4657534af60d4ea01895496f9f087cbb91d3fd1d23753e", func := "drover/droverlaw05.LogKeeps", spec := "logKeeps", unfollowed := true, recurses := true, apart := false, narrowed := true }
def LogKeepsUptoSaid : Prop := logKeepsUptoRow.holds Try.pinned (OpenSpec.upto logKeepsSpec)

end Rows
end Go.Proofs.Ytfbhcapcnkcfdaa
