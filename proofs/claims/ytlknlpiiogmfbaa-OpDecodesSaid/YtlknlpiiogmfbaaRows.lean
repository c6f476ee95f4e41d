/-
  No cell of these rows narrows 'for every input' (looked for: loops, veiled, ifaces, maps, wideKeys, modest, calm, conditions, laid).
  DERIVED. THE GIVEN ROWS OF THIS SEAT. 10 by the template 'for every input the law returns true; each argument reads behind the call as it read before'; 0 by the template 'total and deterministic' (their statements: YtlknlpiiogmfbaaTotals.lean).
  GIVEN WITH THE SEED: the statements are not yours to turn. If you find one false, say at which input.
  Laid BY PROGRAM, IN A SANDBOX (cutbox-rows.mjs): the forced cells as the released guide's own fill.sh prints them over the translation 40a3a5959dcaa52b… (all of the seat's roots in one cut). By AI agents, Wed Nov 11 2026. No macro, syntax, notation, axiom, sorry.
-/
import Derived.Test.YtlknlpiiogmfbaaChecked
import GoSem.Claim
import GoSem.ClaimJoined
import GoSem.ClaimMapViews
import Derived.JoinedTies
import Derived.KernelRfl
namespace Go.Proofs.Ytlknlpiiogmfbaa
/- THE CELL 'sum', in the pinned program and in every row, IS THE sha256 OF THE DUMP (.gsa) THAT YtlknlpiiogmfbaaProg.lean LOADS. Nothing in Lean hashes anything: it is a label: what it is worth is what the hold of that sum in a sandbox is worth. -/
noncomputable def Try.pinned : Pinned := { name := "ytlknlpiiogmfbaa", sum := "40a3a5959dcaa52bfc2594cce6f111459e2d9334a20da5d86e74b8c822f3ae08", checked := Try.checked }
namespace Rows
def none {H : Type} : Left H := { results := [], args := [] }

/-- 'haystacklaw8.FrameSees': WHATEVER THE INPUT: true; the input reads as it did. -/
def frameSeesSpec : ChangeSpec := { name := "frameSees", fn := fun _ => fun
  | [d1, d2, d3, d4] => { results := [.lit (.bool true)], args := [d1, d2, d3, d4] }
  | _ => none }
def frameSeesRow : OpenClaim := { program := "ytlknlpiiogmfbaa", sum := "40a3a5959dcaa52bfc2594cce6f111459e2d9334a20da5d86e74b8c822f3ae08", func := "haystack/haystacklaw8.FrameSees", spec := "frameSees", inPlace := ["internal/bytealg.MakeNoZero"], apart := false }
def FrameSeesSaid : Prop := frameSeesRow.holds Try.pinned (OpenSpec.ofChange frameSeesSpec)

/-- ITS FALSE NEIGHBOUR: 'it returns false'. Refute it at one input. -/
def frameSeesWrong : ChangeSpec := { name := "frameSees", fn := fun _ => fun
  | [d1, d2, d3, d4] => { results := [.lit (.bool false)], args := [d1, d2, d3, d4] }
  | _ => none }
def FrameSeesWrongFalsely : Prop := frameSeesRow.holds Try.pinned (OpenSpec.ofChange frameSeesWrong)

/-- 'haystacklaw8.FrameEncodes': WHATEVER THE INPUT: true; the input reads as it did. -/
def frameEncodesSpec : ChangeSpec := { name := "frameEncodes", fn := fun _ => fun
  | [d1, d2] => { results := [.lit (.bool true)], args := [d1, d2] }
  | _ => none }
def frameEncodesRow : OpenClaim := { program := "ytlknlpiiogmfbaa", sum := "40a3a5959dcaa52bfc2594cce6f111459e2d9334a20da5d86e74b8c822f3ae08", func := "haystack/haystacklaw8.FrameEncodes", spec := "frameEncodes", inPlace := ["internal/bytealg.MakeNoZero"], apart := false }
def FrameEncodesSaid : Prop := frameEncodesRow.holds Try.pinned (OpenSpec.ofChange frameEncodesSpec)

/-- ITS FALSE NEIGHBOUR: 'it returns false'. Refute it at one input. -/
def frameEncodesWrong : ChangeSpec := { name := "frameEncodes", fn := fun _ => fun
  | [d1, d2] => { results := [.lit (.bool false)], args := [d1, d2] }
  | _ => none }
def FrameEncodesWrongFalsely : Prop := frameEncodesRow.holds Try.pinned (OpenSpec.ofChange frameEncodesWrong)

/-- 'haystacklaw8.FrameTears': WHATEVER THE INPUT: true; the input reads as it did. -/
def frameTearsSpec : ChangeSpec := { name := "frameTears", fn := fun _ => fun
  | [d1, d2] => { results := [.lit (.bool true)], args := [d1, d2] }
  | _ => none }
def frameTearsRow : OpenClaim := { program := "ytlknlpiiogmfbaa", sum := "40a3a5959dcaa52bfc2594cce6f111459e2d9334a20da5d86e74b8c822f3ae08", func := "haystack/haystacklaw8.FrameTears", spec := "frameTears", inPlace := ["internal/bytealg.MakeNoZero"], apart := false }
def FrameTearsSaid : Prop := frameTearsRow.holds Try.pinned (OpenSpec.ofChange frameTearsSpec)

/-- ITS FALSE NEIGHBOUR: 'it returns false'. Refute it at one input. -/
def frameTearsWrong : ChangeSpec := { name := "frameTears", fn := fun _ => fun
  | [d1, d2] => { results := [.lit (.bool false)], args := [d1, d2] }
  | _ => none }
def FrameTearsWrongFalsely : Prop := frameTearsRow.holds Try.pinned (OpenSpec.ofChange frameTearsWrong)

/-- 'haystacklaw8.FrameRows': WHATEVER THE INPUT: true; the input reads as it did. -/
def frameRowsSpec : ChangeSpec := { name := "frameRows", fn := fun _ => fun
  | [d1, d2] => { results := [.lit (.bool true)], args := [d1, d2] }
  | _ => none }
def frameRowsRow : OpenClaim := { program := "ytlknlpiiogmfbaa", sum := "40a3a5959dcaa52bfc2594cce6f111459e2d9334a20da5d86e74b8c822f3ae08", func := "haystack/haystacklaw8.FrameRows", spec := "frameRows", inPlace := ["internal/bytealg.MakeNoZero"], apart := false }
def FrameRowsSaid : Prop := frameRowsRow.holds Try.pinned (OpenSpec.ofChange frameRowsSpec)

/-- ITS FALSE NEIGHBOUR: 'it returns false'. Refute it at one input. -/
def frameRowsWrong : ChangeSpec := { name := "frameRows", fn := fun _ => fun
  | [d1, d2] => { results := [.lit (.bool false)], args := [d1, d2] }
  | _ => none }
def FrameRowsWrongFalsely : Prop := frameRowsRow.holds Try.pinned (OpenSpec.ofChange frameRowsWrong)

/-- 'haystacklaw8.FrameDecodes': WHATEVER THE INPUT: true; the input reads as it did. -/
def frameDecodesSpec : ChangeSpec := { name := "frameDecodes", fn := fun _ => fun
  | [d] => { results := [.lit (.bool true)], args := [d] }
  | _ => none }
def frameDecodesRow : OpenClaim := { program := "ytlknlpiiogmfbaa", sum := "40a3a5959dcaa52bfc2594cce6f111459e2d9334a20da5d86e74b8c822f3ae08", func := "haystack/haystacklaw8.FrameDecodes", spec := "frameDecodes", inPlace := ["internal/bytealg.MakeNoZero"], apart := false }
def FrameDecodesSaid : Prop := frameDecodesRow.holds Try.pinned (OpenSpec.ofChange frameDecodesSpec)

/-- ITS FALSE NEIGHBOUR: 'it returns false'. Refute it at one input. -/
def frameDecodesWrong : ChangeSpec := { name := "frameDecodes", fn := fun _ => fun
  | [d] => { results := [.lit (.bool false)], args := [d] }
  | _ => none }
def FrameDecodesWrongFalsely : Prop := frameDecodesRow.holds Try.pinned (OpenSpec.ofChange frameDecodesWrong)

/-- 'haystacklaw13.OpOne': WHATEVER THE INPUT: true; the input reads as it did. -/
def opOneSpec : ChangeSpec := { name := "opOne", fn := fun _ => fun
  | [d1, d2] => { results := [.lit (.bool true)], args := [d1, d2] }
  | _ => none }
def opOneRow : OpenClaim := { program := "ytlknlpiiogmfbaa", sum := "40a3a5959dcaa52bfc2594cce6f111459e2d9334a20da5d86e74b8c822f3ae08", func := "haystack/haystacklaw13.OpOne", spec := "opOne", apart := false }
def OpOneSaid : Prop := opOneRow.holds Try.pinned (OpenSpec.ofChange opOneSpec)

/-- ITS FALSE NEIGHBOUR: 'it returns false'. Refute it at one input. -/
def opOneWrong : ChangeSpec := { name := "opOne", fn := fun _ => fun
  | [d1, d2] => { results := [.lit (.bool false)], args := [d1, d2] }
  | _ => none }
def OpOneWrongFalsely : Prop := opOneRow.holds Try.pinned (OpenSpec.ofChange opOneWrong)

/-- 'haystacklaw13.OpReplies': WHATEVER THE INPUT: true; the input reads as it did. -/
def opRepliesSpec : ChangeSpec := { name := "opReplies", fn := fun _ => fun
  | [d1, d2] => { results := [.lit (.bool true)], args := [d1, d2] }
  | _ => none }
def opRepliesRow : OpenClaim := { program := "ytlknlpiiogmfbaa", sum := "40a3a5959dcaa52bfc2594cce6f111459e2d9334a20da5d86e74b8c822f3ae08", func := "haystack/haystacklaw13.OpReplies", spec := "opReplies", apart := false }
def OpRepliesSaid : Prop := opRepliesRow.holds Try.pinned (OpenSpec.ofChange opRepliesSpec)

/-- ITS FALSE NEIGHBOUR: 'it returns false'. Refute it at one input. -/
def opRepliesWrong : ChangeSpec := { name := "opReplies", fn := fun _ => fun
  | [d1, d2] => { results := [.lit (.bool false)], args := [d1, d2] }
  | _ => none }
def OpRepliesWrongFalsely : Prop := opRepliesRow.holds Try.pinned (OpenSpec.ofChange opRepliesWrong)

/-- 'haystacklaw13.OpMatches': WHATEVER THE INPUT: true; the input reads as it did. -/
def opMatchesSpec : ChangeSpec := { name := "opMatches", fn := fun _ => fun
  | [d] => { results := [.lit (.bool true)], args := [d] }
  | _ => none }
def opMatchesRow : OpenClaim := { program := "ytlknlpiiogmfbaa", sum := "40a3a5959dcaa52bfc2594cce6f111459e2d9334a20da5d86e74b8c822f3ae08", func := "haystack/haystacklaw13.OpMatches", spec := "opMatches", apart := false }
def OpMatchesSaid : Prop := opMatchesRow.holds Try.pinned (OpenSpec.ofChange opMatchesSpec)

/-- ITS FALSE NEIGHBOUR: 'it returns false'. Refute it at one input. -/
def opMatchesWrong : ChangeSpec := { name := "opMatches", fn := fun _ => fun
  | [d] => { results := [.lit (.bool false)], args := [d] }
  | _ => none }
def OpMatchesWrongFalsely : Prop := opMatchesRow.holds Try.pinned (OpenSpec.ofChange opMatchesWrong)

/-- 'haystacklaw13.OpEncodes': WHATEVER THE INPUT: true; the input reads as it did. -/
def opEncodesSpec : ChangeSpec := { name := "opEncodes", fn := fun _ => fun
  | [d] => { results := [.lit (.bool true)], args := [d] }
  | _ => none }
def opEncodesRow : OpenClaim := { program := "ytlknlpiiogmfbaa", sum := "40a3a5959dcaa52bfc2594cce6f111459e2d9334a20da5d86e74b8c822f3ae08", func := "haystack/haystacklaw13.OpEncodes", spec := "opEncodes", apart := false }
def OpEncodesSaid : Prop := opEncodesRow.holds Try.pinned (OpenSpec.ofChange opEncodesSpec)

/-- ITS FALSE NEIGHBOUR: 'it returns false'. Refute it at one input. -/
def opEncodesWrong : ChangeSpec := { name := "opEncodes", fn := fun _ => fun
  | [d] => { results := [.lit (.bool false)], args := [d] }
  | _ => none }
def OpEncodesWrongFalsely : Prop := opEncodesRow.holds Try.pinned (OpenSpec.ofChange opEncodesWrong)

/-- 'haystacklaw13.OpDecodes': WHATEVER THE INPUT: true; the input reads as it did. -/
def opDecodesSpec : ChangeSpec := { name := "opDecodes", fn := fun _ => fun
  | [d] => { results := [.lit (.bool true)], args := [d] }
  | _ => none }
def opDecodesRow : OpenClaim := { program := "ytlknlpiiogmfbaa", sum := "40a3a5959dcaa52bfc2594cce6f111459e2d9334a20da5d86e74b8c822f3ae08", func := "haystack/haystacklaw13.OpDecodes", spec := "opDecodes", apart := false }
def OpDecodesSaid : Prop := opDecodesRow.holds Try.pinned (OpenSpec.ofChange opDecodesSpec)

/-- ITS FALSE NEIGHBOUR: 'it returns false'. Refute it at one input. -/
def opDecodesWrong : ChangeSpec := { name := "opDecodes", fn := fun _ => fun
  | [d] => { results := [.lit (.bool false)], args := [d] }
  | _ => none }
def OpDecodesWrongFalsely : Prop := opDecodesRow.holds Try.pinned (OpenSpec.ofChange opDecodesWrong)

/- THE SECOND FORM. 'bulk': how many values and letters a reading holds, each counted each time it is reached (what is shared counts as often as it is met; a slice's spare places count too). A statement '..UptoSaid' is the law's where the arguments, and the package variables that the reading takes, are together of bulk at most 1048576: NARROWER than '..Said'. Prove '..Said' where nothing that the law and all that it calls make is longer than what came in: it says more and counts as full. Else prove '..UptoSaid'. A law counts once. -/
mutual
def uptoBulk {H : Type} : DataW H → Nat
  | .lit (.string bytes) => bytes.length + 1
  | .lit _ => 1
  | .nil => 1
  | .ptr d => uptoBulk d + 1
  | .slice elems spare => uptoBulkAll elems + uptoBulkAll spare + 1
  | .agg parts => uptoBulkAll parts + 1
  | .iface _ d => uptoBulk d + 1
  | .map entries => uptoBulkEntries entries + 1
  | .held _ => 1
def uptoBulkAll {H : Type} : List (DataW H) → Nat
  | [] => 0
  | d :: r => uptoBulk d + uptoBulkAll r
def uptoBulkEntries {H : Type} : List (Lit × DataW H) → Nat
  | [] => 0
  | x :: r => uptoBulkEntry x + uptoBulkEntries r
def uptoBulkEntry {H : Type} : Lit × DataW H → Nat
  | (.string bytes, d) => bytes.length + uptoBulk d + 1
  | (_, d) => uptoBulk d + 1
 end
def uptoSmall : (H : Type) → List (DataW H) → Bool := fun _ ds => decide (uptoBulkAll ds ≤ 1048576)
def OpenSpec.upto (s : _root_.Go.ChangeSpec) : _root_.Go.OpenSpec := { _root_.Go.OpenSpec.ofChange s with cond := some uptoSmall }

/-- 'haystacklaw8.FrameSees', WHERE WHAT IT READS IS OF BULK AT MOST 1048576: true; the input reads as it did. -/
def frameSeesUptoRow : OpenClaim := { program := "ytlknlpiiogmfbaa", sum := "40a3a5959dcaa52bfc2594cce6f111459e2d9334a20da5d86e74b8c822f3ae08", func := "haystack/haystacklaw8.FrameSees", spec := "frameSees", inPlace := ["internal/bytealg.MakeNoZero"], apart := false, narrowed := true }
def FrameSeesUptoSaid : Prop := frameSeesUptoRow.holds Try.pinned (OpenSpec.upto frameSeesSpec)

/-- 'haystacklaw8.FrameEncodes', WHERE WHAT IT READS IS OF BULK AT MOST 1048576: true; the input reads as it did. -/
def frameEncodesUptoRow : OpenClaim := { program := "ytlknlpiiogmfbaa", sum := "40a3a5959dcaa52bfc2594cce6f111459e2d9334a20da5d86e74b8c822f3ae08", func := "haystack/haystacklaw8.FrameEncodes", spec := "frameEncodes", inPlace := ["internal/bytealg.MakeNoZero"], apart := false, narrowed := true }
def FrameEncodesUptoSaid : Prop := frameEncodesUptoRow.holds Try.pinned (OpenSpec.upto frameEncodesSpec)

/-- 'haystacklaw8.FrameTears', WHERE WHAT IT READS IS OF BULK AT MOST 1048576: true; the input reads as it did. -/
def frameTearsUptoRow : OpenClaim := { program := "ytlknlpiiogmfbaa", sum := "40a3a5959dcaa52bfc2594cce6f111459e2d9334a20da5d86e74b8c822f3ae08", func := "haystack/haystacklaw8.FrameTears", spec := "frameTears", inPlace := ["internal/bytealg.MakeNoZero"], apart := false, narrowed := true }
def FrameTearsUptoSaid : Prop := frameTearsUptoRow.holds Try.pinned (OpenSpec.upto frameTearsSpec)

/-- 'haystacklaw8.FrameRows', WHERE WHAT IT READS IS OF BULK AT MOST 1048576: true; the input reads as it did. -/
def frameRowsUptoRow : OpenClaim := { program := "ytlknlpiiogmfbaa", sum := "40a3a5959dcaa52bfc2594cce6f111459e2d9334a20da5d86e74b8c822f3ae08", func := "haystack/haystacklaw8.FrameRows", spec := "frameRows", inPlace := ["internal/bytealg.MakeNoZero"], apart := false, narrowed := true }
def FrameRowsUptoSaid : Prop := frameRowsUptoRow.holds Try.pinned (OpenSpec.upto frameRowsSpec)

/-- 'haystacklaw8.FrameDecodes', WHERE WHAT IT READS IS OF BULK AT MOST 1048576: true; the input reads as it did. -/
def frameDecodesUptoRow : OpenClaim := { program := "ytlknlpiiogmfbaa", sum := "40a3a5959dcaa52bfc2594cce6f111459e2d9334a20da5d86e74b8c822f3ae08", func := "haystack/haystacklaw8.FrameDecodes", spec := "frameDecodes", inPlace := ["internal/bytealg.MakeNoZero"], apart := false, narrowed := true }
def FrameDecodesUptoSaid : Prop := frameDecodesUptoRow.holds Try.pinned (OpenSpec.upto frameDecodesSpec)

/-- 'haystacklaw13.OpOne', WHERE WHAT IT READS IS OF BULK AT MOST 1048576: true; the input reads as it did. -/
def opOneUptoRow : OpenClaim := { program := "ytlknlpiiogmfbaa", sum := "40a3a5959dcaa52bfc2594cce6f111459e2d9334a20da5d86e74b8c822f3ae08", func := "haystack/haystacklaw13.OpOne", spec := "opOne", apart := false, narrowed := true }
def OpOneUptoSaid : Prop := opOneUptoRow.holds Try.pinned (OpenSpec.upto opOneSpec)

/-- 'haystacklaw13.OpReplies', WHERE WHAT IT READS IS OF BULK AT MOST 1048576: true; the input reads as it did. -/
def opRepliesUptoRow : OpenClaim := { program := "ytlknlpiiogmfbaa", sum := "40a3a5959dcaa52bfc2594cce6f111459e2d9334a20da5d86e74b8c822f3ae08", func := "haystack/haystacklaw13.OpReplies", spec := "opReplies", apart := false, narrowed := true }
def OpRepliesUptoSaid : Prop := opRepliesUptoRow.holds Try.pinned (OpenSpec.upto opRepliesSpec)

/-- 'haystacklaw13.OpMatches', WHERE WHAT IT READS IS OF BULK AT MOST 1048576: true; the input reads as it did. -/
def opMatchesUptoRow : OpenClaim := { program := "ytlknlpiiogmfbaa", sum := "40a3a5959dcaa52bfc2594cce6f111459e2d9334a20da5d86e74b8c822f3ae08", func := "haystack/haystacklaw13.OpMatches", spec := "opMatches", apart := false, narrowed := true }
def OpMatchesUptoSaid : Prop := opMatchesUptoRow.holds Try.pinned (OpenSpec.upto opMatchesSpec)

/-- 'haystacklaw13.OpEncodes', WHERE WHAT IT READS IS OF BULK AT MOST 1048576: true; the input reads as it did. -/
def opEncodesUptoRow : OpenClaim := { program := "ytlknlpiiogmfbaa", sum := "40a3a5959dcaa52bfc2594cce6f111459e2d9334a20da5d86e74b8c822f3ae08", func := "haystack/haystacklaw13.OpEncodes", spec := "opEncodes", apart := false, narrowed := true }
def OpEncodesUptoSaid : Prop := opEncodesUptoRow.holds Try.pinned (OpenSpec.upto opEncodesSpec)

/-- 'haystacklaw13.OpDecodes', WHERE WHAT IT READS IS OF BULK AT MOST 1048576: true; the input reads as it did. -/
def opDecodesUptoRow : OpenClaim := { program := "ytlknlpiiogmfbaa", sum := "40a3a5959dcaa52bfc2594cce6f111459e2d9334a20da5d86e74b8c822f3ae08", func := "haystack/haystacklaw13.OpDecodes", spec := "opDecodes", apart := false, narrowed := true }
def OpDecodesUptoSaid : Prop := opDecodesUptoRow.holds Try.pinned (OpenSpec.upto opDecodesSpec)

end Rows
end Go.Proofs.Ytlknlpiiogmfbaa
