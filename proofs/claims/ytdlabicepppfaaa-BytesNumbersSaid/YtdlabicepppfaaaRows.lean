/-
  No cell of these rows narrows 'for every input' (looked for: loops, veiled, ifaces, maps, wideKeys, modest, calm, conditions, laid).
  DERIVED. THE GIVEN ROWS OF THIS SEAT. 7 by the template 'for every input the law returns true; each argument reads behind the call as it read before'; 0 by the template 'total and deterministic' (their statements: YtdlabicepppfaaaTotals.lean).
  GIVEN WITH THE SEED: the statements are not yours to turn. If you find one false, say at which input.
  Laid BY PROGRAM, IN A SANDBOX (cutbox-rows.mjs): the forced cells as the released guide's own fill.sh prints them over the translation 8f24e52d582cc614… (all of the seat's roots in one cut). By AI agents, Wed Nov 11 2026. No macro, syntax, notation, axiom, sorry.
-/
import Derived.Test.YtdlabicepppfaaaChecked
import GoSem.Claim
import GoSem.ClaimJoined
import GoSem.ClaimMapViews
import Derived.JoinedTies
import Derived.KernelRfl
namespace Go.Proofs.Ytdlabicepppfaaa
/- THE CELL 'sum', in the pinned program and in every row, IS THE sha256 OF THE DUMP (.gsa) THAT YtdlabicepppfaaaProg.lean LOADS. Nothing in Lean hashes anything: it is a label: what it is worth is what the hold of that sum in a sandbox is worth. -/
noncomputable def Try.pinned : Pinned := { name := "ytdlabicepppfaaa", sum := "8f24e52d582cc6144465184655d84b19b8b0fccd35d6c759b96efc452c9f7ac2", checked := Try.checked }
namespace Rows
def none {H : Type} : Left H := { results := [], args := [] }

/-- 'droverlaw01.BytesLength': WHATEVER THE INPUT: true; the input reads as it did. -/
def bytesLengthSpec : ChangeSpec := { name := "bytesLength", fn := fun _ => fun
  | [d1, d2, d3] => { results := [.lit (.bool true)], args := [d1, d2, d3] }
  | _ => none }
def bytesLengthRow : OpenClaim := { program := "ytdlabicepppfaaa", sum := "8f24e52d582cc6144465184655d84b19b8b0fccd35d6c759b96efc452c9f7ac2", func := "drover/droverlaw01.BytesLength", spec := "bytesLength", apart := false }
def BytesLengthSaid : Prop := bytesLengthRow.holds Try.pinned (OpenSpec.ofChange bytesLengthSpec)

/-- ITS FALSE NEIGHBOUR: 'it returns false'. Refute it at one input. -/
def bytesLengthWrong : ChangeSpec := { name := "bytesLength", fn := fun _ => fun
  | [d1, d2, d3] => { results := [.lit (.bool false)], args := [d1, d2, d3] }
  | _ => none }
def BytesLengthWrongFalsely : Prop := bytesLengthRow.holds Try.pinned (OpenSpec.ofChange bytesLengthWrong)

/-- 'droverlaw01.BytesApart': WHATEVER THE INPUT: true; the input reads as it did. -/
def bytesApartSpec : ChangeSpec := { name := "bytesApart", fn := fun _ => fun
  | [d1, d2, d3] => { results := [.lit (.bool true)], args := [d1, d2, d3] }
  | _ => none }
def bytesApartRow : OpenClaim := { program := "ytdlabicepppfaaa", sum := "8f24e52d582cc6144465184655d84b19b8b0fccd35d6c759b96efc452c9f7ac2", func := "drover/droverlaw01.BytesApart", spec := "bytesApart", apart := false }
def BytesApartSaid : Prop := bytesApartRow.holds Try.pinned (OpenSpec.ofChange bytesApartSpec)

/-- ITS FALSE NEIGHBOUR: 'it returns false'. Refute it at one input. -/
def bytesApartWrong : ChangeSpec := { name := "bytesApart", fn := fun _ => fun
  | [d1, d2, d3] => { results := [.lit (.bool false)], args := [d1, d2, d3] }
  | _ => none }
def BytesApartWrongFalsely : Prop := bytesApartRow.holds Try.pinned (OpenSpec.ofChange bytesApartWrong)

/-- 'droverlaw01.BytesSums': WHATEVER THE INPUT: true; the input reads as it did. -/
def bytesSumsSpec : ChangeSpec := { name := "bytesSums", fn := fun _ => fun
  | [d1, d2, d3] => { results := [.lit (.bool true)], args := [d1, d2, d3] }
  | _ => none }
def bytesSumsRow : OpenClaim := { program := "ytdlabicepppfaaa", sum := "8f24e52d582cc6144465184655d84b19b8b0fccd35d6c759b96efc452c9f7ac2", func := "drover/droverlaw01.BytesSums", spec := "bytesSums", apart := false }
def BytesSumsSaid : Prop := bytesSumsRow.holds Try.pinned (OpenSpec.ofChange bytesSumsSpec)

/-- ITS FALSE NEIGHBOUR: 'it returns false'. Refute it at one input. -/
def bytesSumsWrong : ChangeSpec := { name := "bytesSums", fn := fun _ => fun
  | [d1, d2, d3] => { results := [.lit (.bool false)], args := [d1, d2, d3] }
  | _ => none }
def BytesSumsWrongFalsely : Prop := bytesSumsRow.holds Try.pinned (OpenSpec.ofChange bytesSumsWrong)

/-- 'droverlaw01.BytesList': WHATEVER THE INPUT: true; the input reads as it did. -/
def bytesListSpec : ChangeSpec := { name := "bytesList", fn := fun _ => fun
  | [d1, d2, d3] => { results := [.lit (.bool true)], args := [d1, d2, d3] }
  | _ => none }
def bytesListRow : OpenClaim := { program := "ytdlabicepppfaaa", sum := "8f24e52d582cc6144465184655d84b19b8b0fccd35d6c759b96efc452c9f7ac2", func := "drover/droverlaw01.BytesList", spec := "bytesList", apart := false }
def BytesListSaid : Prop := bytesListRow.holds Try.pinned (OpenSpec.ofChange bytesListSpec)

/-- ITS FALSE NEIGHBOUR: 'it returns false'. Refute it at one input. -/
def bytesListWrong : ChangeSpec := { name := "bytesList", fn := fun _ => fun
  | [d1, d2, d3] => { results := [.lit (.bool false)], args := [d1, d2, d3] }
  | _ => none }
def BytesListWrongFalsely : Prop := bytesListRow.holds Try.pinned (OpenSpec.ofChange bytesListWrong)

/-- 'droverlaw01.BytesBurst': WHATEVER THE INPUT: true; the input reads as it did. -/
def bytesBurstSpec : ChangeSpec := { name := "bytesBurst", fn := fun _ => fun
  | [d1, d2, d3] => { results := [.lit (.bool true)], args := [d1, d2, d3] }
  | _ => none }
def bytesBurstRow : OpenClaim := { program := "ytdlabicepppfaaa", sum := "8f24e52d582cc6144465184655d84b19b8b0fccd35d6c759b96efc452c9f7ac2", func := "drover/droverlaw01.BytesBurst", spec := "bytesBurst", apart := false }
def BytesBurstSaid : Prop := bytesBurstRow.holds Try.pinned (OpenSpec.ofChange bytesBurstSpec)

/-- ITS FALSE NEIGHBOUR: 'it returns false'. Refute it at one input. -/
def bytesBurstWrong : ChangeSpec := { name := "bytesBurst", fn := fun _ => fun
  | [d1, d2, d3] => { results := [.lit (.bool false)], args := [d1, d2, d3] }
  | _ => none }
def BytesBurstWrongFalsely : Prop := bytesBurstRow.holds Try.pinned (OpenSpec.ofChange bytesBurstWrong)

/-- 'droverlaw01.BytesNumbers': WHATEVER THE INPUT: true; the input reads as it did. -/
def bytesNumbersSpec : ChangeSpec := { name := "bytesNumbers", fn := fun _ => fun
  | [] => { results := [.lit (.bool true)], args := [] }
  | _ => none }
def bytesNumbersRow : OpenClaim := { program := "ytdlabicepppfaaa", sum := "8f24e52d582cc6144465184655d84b19b8b0fccd35d6c759b96efc452c9f7ac2", func := "drover/droverlaw01.BytesNumbers", spec := "bytesNumbers", apart := false }
def BytesNumbersSaid : Prop := bytesNumbersRow.holds Try.pinned (OpenSpec.ofChange bytesNumbersSpec)

/-- ITS FALSE NEIGHBOUR: 'it returns false'. Refute it at one input. -/
def bytesNumbersWrong : ChangeSpec := { name := "bytesNumbers", fn := fun _ => fun
  | [] => { results := [.lit (.bool false)], args := [] }
  | _ => none }
def BytesNumbersWrongFalsely : Prop := bytesNumbersRow.holds Try.pinned (OpenSpec.ofChange bytesNumbersWrong)

/-- 'droverlaw01.BytesBack': WHATEVER THE INPUT: true; the input reads as it did. -/
def bytesBackSpec : ChangeSpec := { name := "bytesBack", fn := fun _ => fun
  | [d1, d2, d3, d4, d5] => { results := [.lit (.bool true)], args := [d1, d2, d3, d4, d5] }
  | _ => none }
def bytesBackRow : OpenClaim := { program := "ytdlabicepppfaaa", sum := "8f24e52d582cc6144465184655d84b19b8b0fccd35d6c759b96efc452c9f7ac2", func := "drover/droverlaw01.BytesBack", spec := "bytesBack", apart := false }
def BytesBackSaid : Prop := bytesBackRow.holds Try.pinned (OpenSpec.ofChange bytesBackSpec)

/-- ITS FALSE NEIGHBOUR: 'it returns false'. Refute it at one input. -/
def bytesBackWrong : ChangeSpec := { name := "bytesBack", fn := fun _ => fun
  | [d1, d2, d3, d4, d5] => { results := [.lit (.bool false)], args := [d1, d2, d3, d4, d5] }
  | _ => none }
def BytesBackWrongFalsely : Prop := bytesBackRow.holds Try.pinned (OpenSpec.ofChange bytesBackWrong)

/- THE SECOND FORM. 'bulk': how many values and letters a reading holds, each counted each time it is reached (what is shared counts as often as it is met; a slice's spare places count too). A statement '..UptoSaid' is the law's where the arguments, and the package variables that the reading takes, are together of bulk at most 1048576: NARROWER than '..Said'. Prove '..Said' where nothing that the law and all that it calls make is longer than what came in: it says more and counts as full. Else prove '..UptoSaid'. A law counts once. -/
mutual
def uptoBulk {H : Type} : DataW H → Nat
  | .lit (.string bytes) => bytes.length + 1
  | .lit _ => 1
  | .nil => 1
  | .ptr d => uptoBulk d + 1
  | .slice elems spare => uptoBulkAll elems + uptoBulkAll spare + 1
  | .agg parts => uptoBulkAll parts + 1
  | .iface _ d => uptoBulk d + 1
  | .map entries => uptoBulkEntries entries + 1
  | .held _ => 1
def uptoBulkAll {H : Type} : List (DataW H) → Nat
  | [] => 0
  | d :: r => uptoBulk d + uptoBulkAll r
def uptoBulkEntries {H : Type} : List (Lit × DataW H) → Nat
  | [] => 0
  | x :: r => uptoBulkEntry x + uptoBulkEntries r
def uptoBulkEntry {H : Type} : Lit × DataW H → Nat
  | (.string bytes, d) => bytes.length + uptoBulk d + 1
  | (_, d) => uptoBulk d + 1
 end
def uptoSmall : (H : Type) → List (DataW H) → Bool := fun _ ds => decide (uptoBulkAll ds ≤ 1048576)
def OpenSpec.upto (s : _root_.Go.ChangeSpec) : _root_.Go.OpenSpec := { _root_.Go.OpenSpec.ofChange s with cond := some uptoSmall }

/-- 'droverlaw01.BytesLength', WHERE WHAT IT READS IS OF BULK AT MOST 1048576: true; the input reads as it did. -/
def bytesLengthUptoRow : OpenClaim := { program := "ytdlabicepppfaaa", sum := "8f24e52d582cc6144465184655d84b19b8b0fccd35d6c759b96efc452c9f7ac2", func := "drover/droverlaw01.BytesLength", spec := "bytesLength", apart := false, narrowed := true }
def BytesLengthUptoSaid : Prop := bytesLengthUptoRow.holds Try.pinned (OpenSpec.upto bytesLengthSpec)

/-- 'droverlaw01.BytesApart', WHERE WHAT IT READS IS OF BULK AT MOST 1048576: true; the input reads as it did. -/
def bytesApartUptoRow : OpenClaim := { program := "ytdlabicepppfaaa", sum := "8f24e52d582cc6144465184655d84b19b8b0fccd35d6c759b96efc452c9f7ac2", func := "drover/droverlaw01.BytesApart", spec := "bytesApart", apart := false, narrowed := true }
def BytesApartUptoSaid : Prop := bytesApartUptoRow.holds Try.pinned (OpenSpec.upto bytesApartSpec)

/-- 'droverlaw01.BytesSums', WHERE WHAT IT READS IS OF BULK AT MOST 1048576: true; the input reads as it did. -/
def bytesSumsUptoRow : OpenClaim := { program := "ytdlabicepppfaaa", sum := "8f24e52d582cc6144465184655d84b19b8b0fccd35d6c759b96efc452c9f7ac2", func := "drover/droverlaw01.BytesSums", spec := "bytesSums", apart := false, narrowed := true }
def BytesSumsUptoSaid : Prop := bytesSumsUptoRow.holds Try.pinned (OpenSpec.upto bytesSumsSpec)

/-- 'droverlaw01.BytesList', WHERE WHAT IT READS IS OF BULK AT MOST 1048576: true; the input reads as it did. -/
def bytesListUptoRow : OpenClaim := { program := "ytdlabicepppfaaa", sum := "8f24e52d582cc6144465184655d84b19b8b0fccd35d6c759b96efc452c9f7ac2", func := "drover/droverlaw01.BytesList", spec := "bytesList", apart := false, narrowed := true }
def BytesListUptoSaid : Prop := bytesListUptoRow.holds Try.pinned (OpenSpec.upto bytesListSpec)

/-- 'droverlaw01.BytesBurst', WHERE WHAT IT READS IS OF BULK AT MOST 1048576: true; the input reads as it did. -/
def bytesBurstUptoRow : OpenClaim := { program := "ytdlabicepppfaaa", sum := "8f24e52d582cc6144465184655d84b19b8b0fccd35d6c759b96efc452c9f7ac2", func := "drover/droverlaw01.BytesBurst", spec := "bytesBurst", apart := false, narrowed := true }
def BytesBurstUptoSaid : Prop := bytesBurstUptoRow.holds Try.pinned (OpenSpec.upto bytesBurstSpec)

/-- 'droverlaw01.BytesNumbers', WHERE WHAT IT READS IS OF BULK AT MOST 1048576: true; the input reads as it did. -/
def bytesNumbersUptoRow : OpenClaim := { program := "ytdlabicepppfaaa", sum := "8f24e52d582cc6144465184655d84b19b8b0fccd35d6c759b96efc452c9f7ac2", func := "drover/droverlaw01.BytesNumbers", spec := "bytesNumbers", apart := false, narrowed := true }
def BytesNumbersUptoSaid : Prop := bytesNumbersUptoRow.holds Try.pinned (OpenSpec.upto bytesNumbersSpec)

/-- 'droverlaw01.BytesBack', WHERE WHAT IT READS IS OF BULK AT MOST 1048576: true; the input reads as it did. -/
def bytesBackUptoRow : OpenClaim := { program := "ytdlabicepppfaaa", sum := "8f24e52d582cc6144465184655d84b19b8b0fccd35d6c759b96efc452c9f7ac2", func := "drover/droverlaw01.BytesBack", spec := "bytesBack", apart := false, narrowed := true }
def BytesBackUptoSaid : Prop := bytesBackUptoRow.holds Try.pinned (OpenSpec.upto bytesBackSpec)

end Rows
end Go.Proofs.Ytdlabicepppfaaa
