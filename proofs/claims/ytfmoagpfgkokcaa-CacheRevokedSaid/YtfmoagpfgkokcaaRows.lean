/-
  No cell of these rows narrows 'for every input' (looked for: loops, veiled, ifaces, maps, wideKeys, modest, calm, conditions, laid).
  DERIVED. THE GIVEN ROWS OF THIS SEAT. 6 by the template 'for every input the law returns true; each argument reads behind the call as it read before'; 0 by the template 'total and deterministic' (their statements: YtfmoagpfgkokcaaTotals.lean).
  GIVEN WITH THE SEED: the statements are not yours to turn. If you find one false, say at which input.
  Laid BY PROGRAM, IN A SANDBOX (cutbox-rows.mjs): the forced cells as the released guide's own fill.sh prints them over the translation 42352a99a1baad51… (all of the seat's roots in one cut). By AI agents, Wed Nov 11 2026. No macro, syntax, notation, axiom, sorry.
-/
import Derived.Test.YtfmoagpfgkokcaaChecked
import GoSem.Claim
import GoSem.ClaimJoined
import GoSem.ClaimMapViews
import Derived.JoinedTies
import Derived.KernelRfl
namespace Go.Proofs.Ytfmoagpfgkokcaa
/- THE CELL 'sum', in the pinned program and in every row, IS THE sha256 OF THE DUMP (.gsa) THAT YtfmoagpfgkokcaaProg.lean LOADS. Nothing in Lean hashes anything: it is a label: what it is worth is what the hold of that sum in a sandbox is worth. -/
noncomputable def Try.pinned : Pinned := { name := "ytfmoagpfgkokcaa", sum := "42352a99a1baad5127b20807abe5eee728d0d833477484066ead6aa9013125bc", checked := Try.checked }
namespace Rows
def none {H : Type} : Left H := { results := [], args := [] }

/-- 'droverlaw17.CacheEpochs': WHATEVER THE INPUT: true; the input reads as it did. -/
def cacheEpochsSpec : ChangeSpec := { name := "cacheEpochs", fn := fun _ => fun
  | [d1, d2] => { results := [.lit (.bool true)], args := [d1, d2] }
  | _ => none }
def cacheEpochsRow : OpenClaim := { program := "ytfmoagpfgkokcaa", sum := "42352a99a1baad5127b20807abe5eee728d0d833477484066ead6aa9013125bc", func := "drover/droverlaw17.CacheEpochs", spec := "cacheEpochs", unfollowed := true, recurses := true, plainKeys := false, apart := false }
def CacheEpochsSaid : Prop := cacheEpochsRow.holds Try.pinned (OpenSpec.ofChange cacheEpochsSpec)

/-- ITS FALSE NEIGHBOUR: 'it returns false'. Refute it at one input. -/
def cacheEpochsWrong : ChangeSpec := { name := "cacheEpochs", fn := fun _ => fun
  | [d1, d2] => { results := [.lit (.bool false)], args := [d1, d2] }
  | _ => none }
def CacheEpochsWrongFalsely : Prop := cacheEpochsRow.holds Try.pinned (OpenSpec.ofChange cacheEpochsWrong)

/-- 'droverlaw17.CacheUntil': WHATEVER THE INPUT: true; the input reads as it did. -/
def cacheUntilSpec : ChangeSpec := { name := "cacheUntil", fn := fun _ => fun
  | [d1, d2, d3] => { results := [.lit (.bool true)], args := [d1, d2, d3] }
  | _ => none }
def cacheUntilRow : OpenClaim := { program := "ytfmoagpfgkokcaa", sum := "42352a99a1baad5127b20807abe5eee728d0d833477484066ead6aa9013125bc", func := "drover/droverlaw17.CacheUntil", spec := "cacheUntil", unfollowed := true, recurses := true, plainKeys := false, apart := false }
def CacheUntilSaid : Prop := cacheUntilRow.holds Try.pinned (OpenSpec.ofChange cacheUntilSpec)

/-- ITS FALSE NEIGHBOUR: 'it returns false'. Refute it at one input. -/
def cacheUntilWrong : ChangeSpec := { name := "cacheUntil", fn := fun _ => fun
  | [d1, d2, d3] => { results := [.lit (.bool false)], args := [d1, d2, d3] }
  | _ => none }
def CacheUntilWrongFalsely : Prop := cacheUntilRow.holds Try.pinned (OpenSpec.ofChange cacheUntilWrong)

/-- 'droverlaw17.CacheFloors': WHATEVER THE INPUT: true; the input reads as it did. -/
def cacheFloorsSpec : ChangeSpec := { name := "cacheFloors", fn := fun _ => fun
  | [d1, d2, d3] => { results := [.lit (.bool true)], args := [d1, d2, d3] }
  | _ => none }
def cacheFloorsRow : OpenClaim := { program := "ytfmoagpfgkokcaa", sum := "42352a99a1baad5127b20807abe5eee728d0d833477484066ead6aa9013125bc", func := "drover/droverlaw17.CacheFloors", spec := "cacheFloors", unfollowed := true, recurses := true, plainKeys := false, apart := false }
def CacheFloorsSaid : Prop := cacheFloorsRow.holds Try.pinned (OpenSpec.ofChange cacheFloorsSpec)

/-- ITS FALSE NEIGHBOUR: 'it returns false'. Refute it at one input. -/
def cacheFloorsWrong : ChangeSpec := { name := "cacheFloors", fn := fun _ => fun
  | [d1, d2, d3] => { results := [.lit (.bool false)], args := [d1, d2, d3] }
  | _ => none }
def CacheFloorsWrongFalsely : Prop := cacheFloorsRow.holds Try.pinned (OpenSpec.ofChange cacheFloorsWrong)

/-- 'droverlaw17.CacheTells': WHATEVER THE INPUT: true; the input reads as it did. -/
def cacheTellsSpec : ChangeSpec := { name := "cacheTells", fn := fun _ => fun
  | [d] => { results := [.lit (.bool true)], args := [d] }
  | _ => none }
def cacheTellsRow : OpenClaim := { program := "ytfmoagpfgkokcaa", sum := "42352a99a1baad5127b20807abe5eee728d0d833477484066ead6aa9013125bc", func := "drover/droverlaw17.CacheTells", spec := "cacheTells", unfollowed := true, recurses := true, plainKeys := false, apart := false }
def CacheTellsSaid : Prop := cacheTellsRow.holds Try.pinned (OpenSpec.ofChange cacheTellsSpec)

/-- ITS FALSE NEIGHBOUR: 'it returns false'. Refute it at one input. -/
def cacheTellsWrong : ChangeSpec := { name := "cacheTells", fn := fun _ => fun
  | [d] => { results := [.lit (.bool false)], args := [d] }
  | _ => none }
def CacheTellsWrongFalsely : Prop := cacheTellsRow.holds Try.pinned (OpenSpec.ofChange cacheTellsWrong)

/-- 'droverlaw17.CacheRevoked': WHATEVER THE INPUT: true; the input reads as it did. -/
def cacheRevokedSpec : ChangeSpec := { name := "cacheRevoked", fn := fun _ => fun
  | [d1, d2, d3] => { results := [.lit (.bool true)], args := [d1, d2, d3] }
  | _ => none }
def cacheRevokedRow : OpenClaim := { program := "ytfmoagpfgkokcaa", sum := "42352a99a1baad5127b20807abe5eee728d0d833477484066ead6aa9013125bc", func := "drover/droverlaw17.CacheRevoked", spec := "cacheRevoked", unfollowed := true, recurses := true, plainKeys := false, apart := false }
def CacheRevokedSaid : Prop := cacheRevokedRow.holds Try.pinned (OpenSpec.ofChange cacheRevokedSpec)

/-- ITS FALSE NEIGHBOUR: 'it returns false'. Refute it at one input. -/
def cacheRevokedWrong : ChangeSpec := { name := "cacheRevoked", fn := fun _ => fun
  | [d1, d2, d3] => { results := [.lit (.bool false)], args := [d1, d2, d3] }
  | _ => none }
def CacheRevokedWrongFalsely : Prop := cacheRevokedRow.holds Try.pinned (OpenSpec.ofChange cacheRevokedWrong)

/-- 'droverlaw17.CacheNone': WHATEVER THE INPUT: true; the input reads as it did. -/
def cacheNoneSpec : ChangeSpec := { name := "cacheNone", fn := fun _ => fun
  | [d] => { results := [.lit (.bool true)], args := [d] }
  | _ => none }
def cacheNoneRow : OpenClaim := { program := "ytfmoagpfgkokcaa", sum := "42352a99a1baad5127b20807abe5eee728d0d833477484066ead6aa9013125bc", func := "drover/droverlaw17.CacheNone", spec := "cacheNone", unfollowed := true, recurses := true, plainKeys := false, apart := false }
def CacheNoneSaid : Prop := cacheNoneRow.holds Try.pinned (OpenSpec.ofChange cacheNoneSpec)

/-- ITS FALSE NEIGHBOUR: 'it returns false'. Refute it at one input. -/
def cacheNoneWrong : ChangeSpec := { name := "cacheNone", fn := fun _ => fun
  | [d] => { results := [.lit (.bool false)], args := [d] }
  | _ => none }
def CacheNoneWrongFalsely : Prop := cacheNoneRow.holds Try.pinned (OpenSpec.ofChange cacheNoneWrong)

/- THE SECOND FORM. 'bulk': how many values and letters a reading holds, each counted each time it is reached (what is shared counts as often as it is met; a slice's spare places count too). A statement '..UptoSaid' is the law's where the arguments, and the package variables that the reading takes, are together of bulk at most 1048576: NARROWER than '..Said'. Prove '..Said' where nothing that the law and all that it calls make is longer than what came in: it says more and counts as full. Else prove '..UptoSaid'. A law counts once. -/
mutual
def uptoBulk {H : Type} : DataW H → Nat
  | .lit (.string bytes) => bytes.length + 1
  | .lit _ => 1
  | .nil => 1
  | .ptr d => uptoBulk d + 1
  | .slice elems spare => uptoBulkAll elems + uptoBulkAll spare + 1
  | .agg parts => uptoBulkAll parts + 1
  | .iface _ d => uptoBulk d + 1
  | .map entries => uptoBulkEntries entries + 1
  | .held _ => 1
def uptoBulkAll {H : Type} : List (DataW H) → Nat
  | [] => 0
  | d :: r => uptoBulk d + uptoBulkAll r
def uptoBulkEntries {H : Type} : List (Lit × DataW H) → Nat
  | [] => 0
  | x :: r => uptoBulkEntry x + uptoBulkEntries r
def uptoBulkEntry {H : Type} : Lit × DataW H → Nat
  | (.string bytes, d) => bytes.length + uptoBulk d + 1
  | (_, d) => uptoBulk d + 1
 end
def uptoSmall : (H : Type) → List (DataW H) → Bool := fun _ ds => decide (uptoBulkAll ds ≤ 1048576)
def OpenSpec.upto (s : _root_.Go.ChangeSpec) : _root_.Go.OpenSpec := { _root_.Go.OpenSpec.ofChange s with cond := some uptoSmall }

/-- 'droverlaw17.CacheEpochs', WHERE WHAT IT READS IS OF BULK AT MOST 1048576: true; the input reads as it did. -/
def cacheEpochsUptoRow : OpenClaim := { program := "ytfmoagpfgkokcaa", sum := "42352a99a1baad5127b20807abe5eee728d0d833477484066ead6aa9013125bc", func := "drover/droverlaw17.CacheEpochs", spec := "cacheEpochs", unfollowed := true, recurses := true, plainKeys := false, apart := false, narrowed := true }
def CacheEpochsUptoSaid : Prop := cacheEpochsUptoRow.holds Try.pinned (OpenSpec.upto cacheEpochsSpec)

/-- 'droverlaw17.CacheUntil', WHERE WHAT IT READS IS OF BULK AT MOST 1048576: true; the input reads as it did. -/
def cacheUntilUptoRow : OpenClaim := { program := "ytfmoagpfgkokcaa", sum := "42352a99a1baad5127b20807abe5eee728d0d833477484066ead6aa9013125bc", func := "drover/droverlaw17.CacheUntil", spec := "cacheUntil", unfollowed := true, recurses := true, plainKeys := false, apart := false, narrowed := true }
def CacheUntilUptoSaid : Prop := cacheUntilUptoRow.holds Try.pinned (OpenSpec.upto cacheUntilSpec)

/-- 'droverlaw17.CacheFloors', WHERE WHAT IT READS IS OF BULK AT MOST 1048576: true; the input reads as it did. -/
def cacheFloorsUptoRow : OpenClaim := { program := "ytfmoagpfgkokcaa", sum := "42352a99a1baad5127b20807abe5eee728d0d833477484066ead6aa9013125bc", func := "drover/droverlaw17.CacheFloors", spec := "cacheFloors", unfollowed := true, recurses := true, plainKeys := false, apart := false, narrowed := true }
def CacheFloorsUptoSaid : Prop := cacheFloorsUptoRow.holds Try.pinned (OpenSpec.upto cacheFloorsSpec)

/-- 'droverlaw17.CacheTells', WHERE WHAT IT READS IS OF BULK AT MOST 1048576: true; the input reads as it did. -/
def cacheTellsUptoRow : OpenClaim := { program := "ytfmoagpfgkokcaa", sum := "42352a99a1baad5127b20807abe5eee728d0d833477484066ead6aa9013125bc", func := "drover/droverlaw17.CacheTells", spec := "cacheTells", unfollowed := true, recurses := true, plainKeys := false, apart := false, narrowed := true }
def CacheTellsUptoSaid : Prop := cacheTellsUptoRow.holds Try.pinned (OpenSpec.upto cacheTellsSpec)

/-- 'droverlaw17.CacheRevoked', WHERE WHAT IT READS IS OF BULK AT MOST 1048576: true; the input reads as it did. -/
def cacheRevokedUptoRow : OpenClaim := { program := "ytfmoagpfgkokcaa", sum := "42352a99a1baad5127b20807abe5eee728d0d833477484066ead6aa9013125bc", func := "drover/droverlaw17.CacheRevoked", spec := "cacheRevoked", unfollowed := true, recurses := true, plainKeys := false, apart := false, narrowed := true }
def CacheRevokedUptoSaid : Prop := cacheRevokedUptoRow.holds Try.pinned (OpenSpec.upto cacheRevokedSpec)

/-- 'droverlaw17.CacheNone', WHERE WHAT IT READS IS OF BULK AT MOST 1048576: true; the input reads as it did. -/
def cacheNoneUptoRow : OpenClaim := { program := "ytfmoagpfgkokcaa", sum := "42352a99a1baad5127b20807abe5eee728d0d833477484066ead6aa9013125bc", func := "drover/droverlaw17.CacheNone", spec := "cacheNone", unfollowed := true, recurses := true, plainKeys := false, apart := false, narrowed := true }
def CacheNoneUptoSaid : Prop := cacheNoneUptoRow.holds Try.pinned (OpenSpec.upto cacheNoneSpec)

end Rows
end Go.Proofs.Ytfmoagpfgkokcaa
