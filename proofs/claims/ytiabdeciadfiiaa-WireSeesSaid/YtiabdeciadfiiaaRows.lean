/-
  No cell of these rows narrows 'for every input' (looked for: loops, veiled, ifaces, maps, wideKeys, modest, calm, conditions, laid).
  DERIVED. THE GIVEN ROWS OF THIS SEAT. 5 by the template 'for every input the law returns true; each argument reads behind the call as it read before'; 0 by the template 'total and deterministic' (their statements: YtiabdeciadfiiaaTotals.lean).
  GIVEN WITH THE SEED: the statements are not yours to turn. If you find one false, say at which input.
  Laid BY PROGRAM, IN A SANDBOX (cutbox-rows.mjs): the forced cells as the released guide's own fill.sh prints them over the translation 6364d5ce4cff5d92… (all of the seat's roots in one cut). By AI agents, Wed Nov 11 2026. No macro, syntax, notation, axiom, sorry.
-/
import Derived.Test.YtiabdeciadfiiaaChecked
import GoSem.Claim
import GoSem.ClaimJoined
import GoSem.ClaimMapViews
import Derived.JoinedTies
import Derived.KernelRfl
namespace Go.Proofs.Ytiabdeciadfiiaa
/- THE CELL 'sum', in the pinned program and in every row, IS THE sha256 OF THE DUMP (.gsa) THAT YtiabdeciadfiiaaProg.lean LOADS. Nothing in Lean hashes anything: it is a label: what it is worth is what the hold of that sum in a sandbox is worth. -/
noncomputable def Try.pinned : Pinned := { name := "ytiabdeciadfiiaa", sum := "6364d5ce4cff5d920b85cf6cb928f3b21a279c393fe6f5c698ec6b3eaf0f2ee4", checked := Try.checked }
namespace Rows
def none {H : Type} : Left H := { results := [], args := [] }

/-- 'haystacklaw21.ManifestVersions': WHATEVER THE INPUT: true; the input reads as it did. -/
def manifestVersionsSpec : ChangeSpec := { name := "manifestVersions", fn := fun _ => fun
  | [d] => { results := [.lit (.bool true)], args := [d] }
  | _ => none }
def manifestVersionsRow : OpenClaim := { program := "ytiabdeciadfiiaa", sum := "6364d5ce4cff5d920b85cf6cb928f3b21a279c393fe6f5c698ec6b3eaf0f2ee4", func := "haystack/haystacklaw21.ManifestVersions", spec := "manifestVersions", apart := false }
def ManifestVersionsSaid : Prop := manifestVersionsRow.holds Try.pinned (OpenSpec.ofChange manifestVersionsSpec)

/-- ITS FALSE NEIGHBOUR: 'it returns false'. Refute it at one input. -/
def manifestVersionsWrong : ChangeSpec := { name := "manifestVersions", fn := fun _ => fun
  | [d] => { results := [.lit (.bool false)], args := [d] }
  | _ => none }
def ManifestVersionsWrongFalsely : Prop := manifestVersionsRow.holds Try.pinned (OpenSpec.ofChange manifestVersionsWrong)

/-- 'haystacklaw21.ManifestBytes': WHATEVER THE INPUT: true; the input reads as it did. -/
def manifestBytesSpec : ChangeSpec := { name := "manifestBytes", fn := fun _ => fun
  | [d1, d2, d3] => { results := [.lit (.bool true)], args := [d1, d2, d3] }
  | _ => none }
def manifestBytesRow : OpenClaim := { program := "ytiabdeciadfiiaa", sum := "6364d5ce4cff5d920b85cf6cb928f3b21a279c393fe6f5c698ec6b3eaf0f2ee4", func := "haystack/haystacklaw21.ManifestBytes", spec := "manifestBytes", apart := false }
def ManifestBytesSaid : Prop := manifestBytesRow.holds Try.pinned (OpenSpec.ofChange manifestBytesSpec)

/-- ITS FALSE NEIGHBOUR: 'it returns false'. Refute it at one input. -/
def manifestBytesWrong : ChangeSpec := { name := "manifestBytes", fn := fun _ => fun
  | [d1, d2, d3] => { results := [.lit (.bool false)], args := [d1, d2, d3] }
  | _ => none }
def ManifestBytesWrongFalsely : Prop := manifestBytesRow.holds Try.pinned (OpenSpec.ofChange manifestBytesWrong)

/-- 'haystacklaw21.ManifestPlays': WHATEVER THE INPUT: true; the input reads as it did. -/
def manifestPlaysSpec : ChangeSpec := { name := "manifestPlays", fn := fun _ => fun
  | [d] => { results := [.lit (.bool true)], args := [d] }
  | _ => none }
def manifestPlaysRow : OpenClaim := { program := "ytiabdeciadfiiaa", sum := "6364d5ce4cff5d920b85cf6cb928f3b21a279c393fe6f5c698ec6b3eaf0f2ee4", func := "haystack/haystacklaw21.ManifestPlays", spec := "manifestPlays", apart := false }
def ManifestPlaysSaid : Prop := manifestPlaysRow.holds Try.pinned (OpenSpec.ofChange manifestPlaysSpec)

/-- ITS FALSE NEIGHBOUR: 'it returns false'. Refute it at one input. -/
def manifestPlaysWrong : ChangeSpec := { name := "manifestPlays", fn := fun _ => fun
  | [d] => { results := [.lit (.bool false)], args := [d] }
  | _ => none }
def ManifestPlaysWrongFalsely : Prop := manifestPlaysRow.holds Try.pinned (OpenSpec.ofChange manifestPlaysWrong)

/-- 'haystacklaw21.ManifestOfNothing': WHATEVER THE INPUT: true; the input reads as it did. -/
def manifestOfNothingSpec : ChangeSpec := { name := "manifestOfNothing", fn := fun _ => fun
  | [d1, d2] => { results := [.lit (.bool true)], args := [d1, d2] }
  | _ => none }
def manifestOfNothingRow : OpenClaim := { program := "ytiabdeciadfiiaa", sum := "6364d5ce4cff5d920b85cf6cb928f3b21a279c393fe6f5c698ec6b3eaf0f2ee4", func := "haystack/haystacklaw21.ManifestOfNothing", spec := "manifestOfNothing", apart := false }
def ManifestOfNothingSaid : Prop := manifestOfNothingRow.holds Try.pinned (OpenSpec.ofChange manifestOfNothingSpec)

/-- ITS FALSE NEIGHBOUR: 'it returns false'. Refute it at one input. -/
def manifestOfNothingWrong : ChangeSpec := { name := "manifestOfNothing", fn := fun _ => fun
  | [d1, d2] => { results := [.lit (.bool false)], args := [d1, d2] }
  | _ => none }
def ManifestOfNothingWrongFalsely : Prop := manifestOfNothingRow.holds Try.pinned (OpenSpec.ofChange manifestOfNothingWrong)

/-- 'haystacklaw22.WireSees': WHATEVER THE INPUT: true; the input reads as it did. -/
def wireSeesSpec : ChangeSpec := { name := "wireSees", fn := fun _ => fun
  | [d1, d2, d3, d4, d5] => { results := [.lit (.bool true)], args := [d1, d2, d3, d4, d5] }
  | _ => none }
def wireSeesRow : OpenClaim := { program := "ytiabdeciadfiiaa", sum := "6364d5ce4cff5d920b85cf6cb928f3b21a279c393fe6f5c698ec6b3eaf0f2ee4", func := "haystack/haystacklaw22.WireSees", spec := "wireSees", inPlace := ["internal/bytealg.MakeNoZero"], apart := false }
def WireSeesSaid : Prop := wireSeesRow.holds Try.pinned (OpenSpec.ofChange wireSeesSpec)

/-- ITS FALSE NEIGHBOUR: 'it returns false'. Refute it at one input. -/
def wireSeesWrong : ChangeSpec := { name := "wireSees", fn := fun _ => fun
  | [d1, d2, d3, d4, d5] => { results := [.lit (.bool false)], args := [d1, d2, d3, d4, d5] }
  | _ => none }
def WireSeesWrongFalsely : Prop := wireSeesRow.holds Try.pinned (OpenSpec.ofChange wireSeesWrong)

/- THE SECOND FORM. 'bulk': how many values and letters a reading holds, each counted each time it is reached (what is shared counts as often as it is met; a slice's spare places count too). A statement '..UptoSaid' is the law's where the arguments, and the package variables that the reading takes, are together of bulk at most 1048576: NARROWER than '..Said'. Prove '..Said' where nothing that the law and all that it calls make is longer than what came in: it says more and counts as full. Else prove '..UptoSaid'. A law counts once. -/
mutual
def uptoBulk {H : Type} : DataW H → Nat
  | .lit (.string bytes) => bytes.length + 1
  | .lit _ => 1
  | .nil => 1
  | .ptr d => uptoBulk d + 1
  | .slice elems spare => uptoBulkAll elems + uptoBulkAll spare + 1
  | .agg parts => uptoBulkAll parts + 1
  | .iface _ d => uptoBulk d + 1
  | .map entries => uptoBulkEntries entries + 1
  | .held _ => 1
def uptoBulkAll {H : Type} : List (DataW H) → Nat
  | [] => 0
  | d :: r => uptoBulk d + uptoBulkAll r
def uptoBulkEntries {H : Type} : List (Lit × DataW H) → Nat
  | [] => 0
  | x :: r => uptoBulkEntry x + uptoBulkEntries r
def uptoBulkEntry {H : Type} : Lit × DataW H → Nat
  | (.string bytes, d) => bytes.length + uptoBulk d + 1
  | (_, d) => uptoBulk d + 1
 end
def uptoSmall : (H : Type) → List (DataW H) → Bool := fun _ ds => decide (uptoBulkAll ds ≤ 1048576)
def OpenSpec.upto (s : _root_.Go.ChangeSpec) : _root_.Go.OpenSpec := { _root_.Go.OpenSpec.ofChange s with cond := some uptoSmall }

/-- 'haystacklaw21.ManifestVersions', WHERE WHAT IT READS IS OF BULK AT MOST 1048576: true; the input reads as it did. -/
def manifestVersionsUptoRow : OpenClaim := { program := "ytiabdeciadfiiaa", sum := "6364d5ce4cff5d920b85cf6cb928f3b21a279c393fe6f5c698ec6b3eaf0f2ee4", func := "haystack/haystacklaw21.ManifestVersions", spec := "manifestVersions", apart := false, narrowed := true }
def ManifestVersionsUptoSaid : Prop := manifestVersionsUptoRow.holds Try.pinned (OpenSpec.upto manifestVersionsSpec)

/-- 'haystacklaw21.ManifestBytes', WHERE WHAT IT READS IS OF BULK AT MOST 1048576: true; the input reads as it did. -/
def manifestBytesUptoRow : OpenClaim := { program := "ytiabdeciadfiiaa", sum := "6364d5ce4cff5d920b85cf6cb928f3b21a279c393fe6f5c698ec6b3eaf0f2ee4", func := "haystack/haystacklaw21.ManifestBytes", spec := "manifestBytes", apart := false, narrowed := true }
def ManifestBytesUptoSaid : Prop := manifestBytesUptoRow.holds Try.pinned (OpenSpec.upto manifestBytesSpec)

/-- 'haystacklaw21.ManifestPlays', WHERE WHAT IT READS IS OF BULK AT MOST 1048576: true; the input reads as it did. -/
def manifestPlaysUptoRow : OpenClaim := { program := "ytiabdeciadfiiaa", sum := "6364d5ce4cff5d920b85cf6cb928f3b21a279c393fe6f5c698ec6b3eaf0f2ee4", func := "haystack/haystacklaw21.ManifestPlays", spec := "manifestPlays", apart := false, narrowed := true }
def ManifestPlaysUptoSaid : Prop := manifestPlaysUptoRow.holds Try.pinned (OpenSpec.upto manifestPlaysSpec)

/-- 'haystacklaw21.ManifestOfNothing', WHERE WHAT IT READS IS OF BULK AT MOST 1048576: true; the input reads as it did. -/
def manifestOfNothingUptoRow : OpenClaim := { program := "ytiabdeciadfiiaa", sum := "6364d5ce4cff5d920b85cf6cb928f3b21a279c393fe6f5c698ec6b3eaf0f2ee4", func := "haystack/haystacklaw21.ManifestOfNothing", spec := "manifestOfNothing", apart := false, narrowed := true }
def ManifestOfNothingUptoSaid : Prop := manifestOfNothingUptoRow.holds Try.pinned (OpenSpec.upto manifestOfNothingSpec)

/-- 'haystacklaw22.WireSees', WHERE WHAT IT READS IS OF BULK AT MOST 1048576: true; the input reads as it did. -/
def wireSeesUptoRow : OpenClaim := { program := "ytiabdeciadfiiaa", sum := "6364d5ce4cff5d920b85cf6cb928f3b21a279c393fe6f5c698ec6b3eaf0f2ee4", func := "haystack/haystacklaw22.WireSees", spec := "wireSees", inPlace := ["internal/bytealg.MakeNoZero"], apart := false, narrowed := true }
def WireSeesUptoSaid : Prop := wireSeesUptoRow.holds Try.pinned (OpenSpec.upto wireSeesSpec)

end Rows
end Go.Proofs.Ytiabdeciadfiiaa
