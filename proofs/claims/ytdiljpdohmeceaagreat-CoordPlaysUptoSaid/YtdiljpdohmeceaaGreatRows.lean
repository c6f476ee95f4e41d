/-
  No cell of these rows narrows 'for every input' (looked for: loops, veiled, ifaces, maps, wideKeys, modest, calm, conditions, laid).
  DERIVED. THE GIVEN ROWS OF THIS SEAT. 4 by the template 'for every input the law returns true; each argument reads behind the call as it read before'; 0 by the template 'total and deterministic' (their statements: YtdiljpdohmeceaaGreatTotals.lean).
  GIVEN WITH THE SEED: the statements are not yours to turn. If you find one false, say at which input.
  Laid BY PROGRAM, IN A SANDBOX (cutbox-rows.mjs): the forced cells as the released guide's own fill.sh prints them over the translation 6b8f2b0637fbb18d… (all of the seat's roots in one cut). By AI agents, Wed Nov 11 2026. No macro, syntax, notation, axiom, sorry.
-/
import Derived.Test.YtdiljpdohmeceaaGreatChecked
import GoSem.Claim
import GoSem.ClaimJoined
import GoSem.ClaimMapViews
import Derived.JoinedTies
import Derived.KernelRfl
namespace Go.Proofs.YtdiljpdohmeceaaGreat
/- THE CELL 'sum', in the pinned program and in every row, IS THE sha256 OF THE DUMP (.gsa) THAT YtdiljpdohmeceaaGreatProg.lean LOADS. Nothing in Lean hashes anything: it is a label: what it is worth is what the hold of that sum in a sandbox is worth. -/
noncomputable def Tryz.pinned : Pinned := { name := "ytdiljpdohmeceaagreat", sum := "6b8f2b0637fbb18d3a63c7b8cff02333a59241bbddd9ed7574ccdfa4d6c35196", checked := Tryz.checked }
namespace Rows
def none {H : Type} : Left H := { results := [], args := [] }

/-- 'haystacklaw24.CoordOrder': WHATEVER THE INPUT: true; the input reads as it did. -/
def coordOrderSpec : ChangeSpec := { name := "coordOrder", fn := fun _ => fun
  | [d1, d2] => { results := [.lit (.bool true)], args := [d1, d2] }
  | _ => none }
def coordOrderRow : OpenClaim := { program := "ytdiljpdohmeceaagreat", sum := "6b8f2b0637fbb18d3a63c7b8cff02333a59241bbddd9ed7574ccdfa4d6c35196", func := "haystack/haystacklaw24.CoordOrder", spec := "coordOrder", inPlace := ["internal/bytealg.MakeNoZero", "internal/bytealg.abigen_runtime_cmpstring"], unfollowed := true, recurses := true, apart := false }
def CoordOrderSaid : Prop := coordOrderRow.holds Tryz.pinned (OpenSpec.ofChange coordOrderSpec)

/-- ITS FALSE NEIGHBOUR: 'it returns false'. Refute it at one input. -/
def coordOrderWrong : ChangeSpec := { name := "coordOrder", fn := fun _ => fun
  | [d1, d2] => { results := [.lit (.bool false)], args := [d1, d2] }
  | _ => none }
def CoordOrderWrongFalsely : Prop := coordOrderRow.holds Tryz.pinned (OpenSpec.ofChange coordOrderWrong)

/-- 'haystacklaw24.CoordPlays': WHATEVER THE INPUT: true; the input reads as it did. -/
def coordPlaysSpec : ChangeSpec := { name := "coordPlays", fn := fun _ => fun
  | [d1, d2, d3, d4] => { results := [.lit (.bool true)], args := [d1, d2, d3, d4] }
  | _ => none }
def coordPlaysRow : OpenClaim := { program := "ytdiljpdohmeceaagreat", sum := "6b8f2b0637fbb18d3a63c7b8cff02333a59241bbddd9ed7574ccdfa4d6c35196", func := "haystack/haystacklaw24.CoordPlays", spec := "coordPlays", inPlace := ["internal/bytealg.MakeNoZero", "internal/bytealg.abigen_runtime_cmpstring"], unfollowed := true, recurses := true, apart := false }
def CoordPlaysSaid : Prop := coordPlaysRow.holds Tryz.pinned (OpenSpec.ofChange coordPlaysSpec)

/-- ITS FALSE NEIGHBOUR: 'it returns false'. Refute it at one input. -/
def coordPlaysWrong : ChangeSpec := { name := "coordPlays", fn := fun _ => fun
  | [d1, d2, d3, d4] => { results := [.lit (.bool false)], args := [d1, d2, d3, d4] }
  | _ => none }
def CoordPlaysWrongFalsely : Prop := coordPlaysRow.holds Tryz.pinned (OpenSpec.ofChange coordPlaysWrong)

/-- 'haystacklaw24.CoordFinds': WHATEVER THE INPUT: true; the input reads as it did. -/
def coordFindsSpec : ChangeSpec := { name := "coordFinds", fn := fun _ => fun
  | [d1, d2, d3, d4] => { results := [.lit (.bool true)], args := [d1, d2, d3, d4] }
  | _ => none }
def coordFindsRow : OpenClaim := { program := "ytdiljpdohmeceaagreat", sum := "6b8f2b0637fbb18d3a63c7b8cff02333a59241bbddd9ed7574ccdfa4d6c35196", func := "haystack/haystacklaw24.CoordFinds", spec := "coordFinds", inPlace := ["internal/bytealg.MakeNoZero", "internal/bytealg.abigen_runtime_cmpstring"], unfollowed := true, recurses := true, apart := false }
def CoordFindsSaid : Prop := coordFindsRow.holds Tryz.pinned (OpenSpec.ofChange coordFindsSpec)

/-- ITS FALSE NEIGHBOUR: 'it returns false'. Refute it at one input. -/
def coordFindsWrong : ChangeSpec := { name := "coordFinds", fn := fun _ => fun
  | [d1, d2, d3, d4] => { results := [.lit (.bool false)], args := [d1, d2, d3, d4] }
  | _ => none }
def CoordFindsWrongFalsely : Prop := coordFindsRow.holds Tryz.pinned (OpenSpec.ofChange coordFindsWrong)

/-- 'haystacklaw24.CoordTries': WHATEVER THE INPUT: true; the input reads as it did. -/
def coordTriesSpec : ChangeSpec := { name := "coordTries", fn := fun _ => fun
  | [d1, d2, d3] => { results := [.lit (.bool true)], args := [d1, d2, d3] }
  | _ => none }
def coordTriesRow : OpenClaim := { program := "ytdiljpdohmeceaagreat", sum := "6b8f2b0637fbb18d3a63c7b8cff02333a59241bbddd9ed7574ccdfa4d6c35196", func := "haystack/haystacklaw24.CoordTries", spec := "coordTries", inPlace := ["internal/bytealg.MakeNoZero", "internal/bytealg.abigen_runtime_cmpstring"], unfollowed := true, recurses := true, apart := false }
def CoordTriesSaid : Prop := coordTriesRow.holds Tryz.pinned (OpenSpec.ofChange coordTriesSpec)

/-- ITS FALSE NEIGHBOUR: 'it returns false'. Refute it at one input. -/
def coordTriesWrong : ChangeSpec := { name := "coordTries", fn := fun _ => fun
  | [d1, d2, d3] => { results := [.lit (.bool false)], args := [d1, d2, d3] }
  | _ => none }
def CoordTriesWrongFalsely : Prop := coordTriesRow.holds Tryz.pinned (OpenSpec.ofChange coordTriesWrong)

/- THE SECOND FORM. 'bulk': how many values and letters a reading holds, each counted each time it is reached (what is shared counts as often as it is met; a slice's spare places count too). A statement '..UptoSaid' is the law's where the arguments, and the package variables that the reading takes, are together of bulk at most 1048576: NARROWER than '..Said'. Prove '..Said' where nothing that the law and all that it calls make is longer than what came in: it says more and counts as full. Else prove '..UptoSaid'. A law counts once. -/
mutual
def uptoBulk {H : Type} : DataW H → Nat
  | .lit (.string bytes) => bytes.length + 1
  | .lit _ => 1
  | .nil => 1
  | .ptr d => uptoBulk d + 1
  | .slice elems spare => uptoBulkAll elems + uptoBulkAll spare + 1
  | .agg parts => uptoBulkAll parts + 1
  | .iface _ d => uptoBulk d + 1
  | .map entries => uptoBulkEntries entries + 1
  | .held _ => 1
def uptoBulkAll {H : Type} : List (DataW H) → Nat
  | [] => 0
  | d :: r => uptoBulk d + uptoBulkAll r
def uptoBulkEntries {H : Type} : List (Lit × DataW H) → Nat
  | [] => 0
  | x :: r => uptoBulkEntry x + uptoBulkEntries r
def uptoBulkEntry {H : Type} : Lit × DataW H → Nat
  | (.string bytes, d) => bytes.length + uptoBulk d + 1
  | (_, d) => uptoBulk d + 1
 end
def uptoSmall : (H : Type) → List (DataW H) → Bool := fun _ ds => decide (uptoBulkAll ds ≤ 1048576)
def OpenSpec.upto (s : _root_.Go.ChangeSpec) : _root_.Go.OpenSpec := { _root_.Go.OpenSpec.ofChange s with cond := some uptoSmall }

/-- 'haystacklaw24.CoordOrder', WHERE WHAT IT READS IS OF BULK AT MOST 1048576: true; the input reads as it did. -/
def coordOrderUptoRow : OpenClaim := { program := "ytdiljpdohmeceaagreat", sum := "6b8f2b0637fbb18d3a63c7b8cff02333a59241bbddd9ed7574ccdfa4d6c35196", func := "haystack/haystacklaw24.CoordOrder", spec := "coordOrder", inPlace := ["internal/bytealg.MakeNoZero", "internal/bytealg.abigen_runtime_cmpstring"], unfollowed := true, recurses := true, apart := false, narrowed := true }
def CoordOrderUptoSaid : Prop := coordOrderUptoRow.holds Tryz.pinned (OpenSpec.upto coordOrderSpec)

/-- 'haystacklaw24.CoordPlays', WHERE WHAT IT READS IS OF BULK AT MOST 1048576: true; the input reads as it did. -/
def coordPlaysUptoRow : OpenClaim := { program := "ytdiljpdohmeceaagreat", sum := "6b8f2b0637fbb18d3a63c7b8cff02333a59241bbddd9ed7574ccdfa4d6c35196", func := "haystack/haystacklaw24.CoordPlays", spec := "coordPlays", inPlace := ["internal/bytealg.MakeNoZero", "internal/bytealg.abigen_runtime_cmpstring"], unfollowed := true, recurses := true, apart := false, narrowed := true }
def CoordPlaysUptoSaid : Prop := coordPlaysUptoRow.holds Tryz.pinned (OpenSpec.upto coordPlaysSpec)

/-- 'haystacklaw24.CoordFinds', WHERE WHAT IT READS IS OF BULK AT MOST 1048576: true; the input reads as it did. -/
def coordFindsUptoRow : OpenClaim := { program := "ytdiljpdohmeceaagreat", sum := "6b8f2b0637fbb18d3a63c7b8cff02333a59241bbddd9ed7574ccdfa4d6c35196", func := "haystack/haystacklaw24.CoordFinds", spec := "coordFinds", inPlace := ["internal/bytealg.MakeNoZero", "internal/bytealg.abigen_runtime_cmpstring"], unfollowed := true, recurses := true, apart := false, narrowed := true }
def CoordFindsUptoSaid : Prop := coordFindsUptoRow.holds Tryz.pinned (OpenSpec.upto coordFindsSpec)

/-- 'haystacklaw24.CoordTries', WHERE WHAT IT READS IS OF BULK AT MOST 1048576: true; the input reads as it did. -/
def coordTriesUptoRow : OpenClaim := { program := "ytdiljpdohmeceaagreat", sum := "6b8f2b0637fbb18d3a63c7b8cff02333a59241bbddd9ed7574ccdfa4d6c35196", func := "haystack/haystacklaw24.CoordTries", spec := "coordTries", inPlace := ["internal/bytealg.MakeNoZero", "internal/bytealg.abigen_runtime_cmpstring"], unfollowed := true, recurses := true, apart := false, narrowed := true }
def CoordTriesUptoSaid : Prop := coordTriesUptoRow.holds Tryz.pinned (OpenSpec.upto coordTriesSpec)

end Rows
end Go.Proofs.YtdiljpdohmeceaaGreat
