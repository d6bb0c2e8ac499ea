/-
  No cell of these rows narrows 'for every input' (looked for: loops, veiled, ifaces, maps, wideKeys, modest, calm, conditions, laid).
  DERIVED. THE GIVEN ROWS OF THIS SEAT. 12 by the template 'for every input the law returns true; each argument reads behind the call as it read before'; 0 by the template 'total and deterministic' (their statements: YtbbndelebdackaaTotals.lean).
  GIVEN WITH THE SEED: the statements are not yours to turn. If you find one false, say at which input.
  Laid BY PROGRAM, IN A SANDBOX (cutbox-rows.mjs): the forced cells as the released guide's own fill.sh prints them over the translation 748bade3217265d5… (all of the seat's roots in one cut). By AI agents, Wed Nov 11 2026. No macro, syntax, notation, axiom, sorry.
-/
import Derived.Test.YtbbndelebdackaaChecked
import GoSem.Claim
import GoSem.ClaimJoined
import GoSem.ClaimMapViews
import Derived.JoinedTies
import Derived.KernelRfl
namespace Go.Proofs.Ytbbndelebdackaa
/- THE CELL 'sum', in the pinned program and in every row, IS THE sha256 OF THE DUMP (.gsa) THAT YtbbndelebdackaaProg.lean LOADS. Nothing in Lean hashes anything: it is a label: what it is worth is what the hold of that sum in a sandbox is worth. -/
noncomputable def Try.pinned : Pinned := { name := "ytbbndelebdackaa", sum := "748bade3217265d5fa9bff84aac9aa04e95c6b42ffb69e676b1fb9c59121b25e", checked := Try.checked }
namespace Rows
def none {H : Type} : Left H := { results := [], args := [] }

/-- 'laws.FnExactCallText': WHATEVER THE INPUT: true; the input reads as it did. -/
def fnExactCallTextSpec : ChangeSpec := { name := "fnExactCallText", fn := fun _ => fun
  | [d] => { results := [.lit (.bool true)], args := [d] }
  | _ => none }
def fnExactCallTextRow : OpenClaim := { program := "ytbbndelebdackaa", sum := "748bade3217265d5fa9bff84aac9aa04e95c6b42ffb69e676b1fb9c59121b25e", func := "loop.example/g00854/laws.FnExactCallText", spec := "fnExactCallText", apart := false }
def FnExactCallTextSaid : Prop := fnExactCallTextRow.holds Try.pinned (OpenSpec.ofChange fnExactCallTextSpec)

/-- ITS FALSE NEIGHBOUR: 'it returns false'. Refute it at one input. -/
def fnExactCallTextWrong : ChangeSpec := { name := "fnExactCallText", fn := fun _ => fun
  | [d] => { results := [.lit (.bool false)], args := [d] }
  | _ => none }
def FnExactCallTextWrongFalsely : Prop := fnExactCallTextRow.holds Try.pinned (OpenSpec.ofChange fnExactCallTextWrong)

/-- 'laws.FnExactReadCall': WHATEVER THE INPUT: true; the input reads as it did. -/
def fnExactReadCallSpec : ChangeSpec := { name := "fnExactReadCall", fn := fun _ => fun
  | [d] => { results := [.lit (.bool true)], args := [d] }
  | _ => none }
def fnExactReadCallRow : OpenClaim := { program := "ytbbndelebdackaa", sum := "748bade3217265d5fa9bff84aac9aa04e95c6b42ffb69e676b1fb9c59121b25e", func := "loop.example/g00854/laws.FnExactReadCall", spec := "fnExactReadCall", inPlace := ["internal/bytealg.IndexByteString"], apart := false }
def FnExactReadCallSaid : Prop := fnExactReadCallRow.holds Try.pinned (OpenSpec.ofChange fnExactReadCallSpec)

/-- ITS FALSE NEIGHBOUR: 'it returns false'. Refute it at one input. -/
def fnExactReadCallWrong : ChangeSpec := { name := "fnExactReadCall", fn := fun _ => fun
  | [d] => { results := [.lit (.bool false)], args := [d] }
  | _ => none }
def FnExactReadCallWrongFalsely : Prop := fnExactReadCallRow.holds Try.pinned (OpenSpec.ofChange fnExactReadCallWrong)

/-- 'laws.FnBids': WHATEVER THE INPUT: true; the input reads as it did. -/
def fnBidsSpec : ChangeSpec := { name := "fnBids", fn := fun _ => fun
  | [d] => { results := [.lit (.bool true)], args := [d] }
  | _ => none }
def fnBidsRow : OpenClaim := { program := "ytbbndelebdackaa", sum := "748bade3217265d5fa9bff84aac9aa04e95c6b42ffb69e676b1fb9c59121b25e", func := "loop.example/g00854/laws.FnBids", spec := "fnBids", apart := false }
def FnBidsSaid : Prop := fnBidsRow.holds Try.pinned (OpenSpec.ofChange fnBidsSpec)

/-- ITS FALSE NEIGHBOUR: 'it returns false'. Refute it at one input. -/
def fnBidsWrong : ChangeSpec := { name := "fnBids", fn := fun _ => fun
  | [d] => { results := [.lit (.bool false)], args := [d] }
  | _ => none }
def FnBidsWrongFalsely : Prop := fnBidsRow.holds Try.pinned (OpenSpec.ofChange fnBidsWrong)

/-- 'laws.FnCallText': WHATEVER THE INPUT: true; the input reads as it did. -/
def fnCallTextSpec : ChangeSpec := { name := "fnCallText", fn := fun _ => fun
  | [d] => { results := [.lit (.bool true)], args := [d] }
  | _ => none }
def fnCallTextRow : OpenClaim := { program := "ytbbndelebdackaa", sum := "748bade3217265d5fa9bff84aac9aa04e95c6b42ffb69e676b1fb9c59121b25e", func := "loop.example/g00854/laws.FnCallText", spec := "fnCallText", inPlace := ["internal/bytealg.IndexByteString"], apart := false }
def FnCallTextSaid : Prop := fnCallTextRow.holds Try.pinned (OpenSpec.ofChange fnCallTextSpec)

/-- ITS FALSE NEIGHBOUR: 'it returns false'. Refute it at one input. -/
def fnCallTextWrong : ChangeSpec := { name := "fnCallText", fn := fun _ => fun
  | [d] => { results := [.lit (.bool false)], args := [d] }
  | _ => none }
def FnCallTextWrongFalsely : Prop := fnCallTextRow.holds Try.pinned (OpenSpec.ofChange fnCallTextWrong)

/-- 'laws.FnExactContractText': WHATEVER THE INPUT: true; the input reads as it did. -/
def fnExactContractTextSpec : ChangeSpec := { name := "fnExactContractText", fn := fun _ => fun
  | [d] => { results := [.lit (.bool true)], args := [d] }
  | _ => none }
def fnExactContractTextRow : OpenClaim := { program := "ytbbndelebdackaa", sum := "748bade3217265d5fa9bff84aac9aa04e95c6b42ffb69e676b1fb9c59121b25e", func := "loop.example/g00854/laws.FnExactContractText", spec := "fnExactContractText", apart := false }
def FnExactContractTextSaid : Prop := fnExactContractTextRow.holds Try.pinned (OpenSpec.ofChange fnExactContractTextSpec)

/-- ITS FALSE NEIGHBOUR: 'it returns false'. Refute it at one input. -/
def fnExactContractTextWrong : ChangeSpec := { name := "fnExactContractText", fn := fun _ => fun
  | [d] => { results := [.lit (.bool false)], args := [d] }
  | _ => none }
def FnExactContractTextWrongFalsely : Prop := fnExactContractTextRow.holds Try.pinned (OpenSpec.ofChange fnExactContractTextWrong)

/-- 'laws.FnExactIsAuction': WHATEVER THE INPUT: true; the input reads as it did. -/
def fnExactIsAuctionSpec : ChangeSpec := { name := "fnExactIsAuction", fn := fun _ => fun
  | [d] => { results := [.lit (.bool true)], args := [d] }
  | _ => none }
def fnExactIsAuctionRow : OpenClaim := { program := "ytbbndelebdackaa", sum := "748bade3217265d5fa9bff84aac9aa04e95c6b42ffb69e676b1fb9c59121b25e", func := "loop.example/g00854/laws.FnExactIsAuction", spec := "fnExactIsAuction", apart := false }
def FnExactIsAuctionSaid : Prop := fnExactIsAuctionRow.holds Try.pinned (OpenSpec.ofChange fnExactIsAuctionSpec)

/-- ITS FALSE NEIGHBOUR: 'it returns false'. Refute it at one input. -/
def fnExactIsAuctionWrong : ChangeSpec := { name := "fnExactIsAuction", fn := fun _ => fun
  | [d] => { results := [.lit (.bool false)], args := [d] }
  | _ => none }
def FnExactIsAuctionWrongFalsely : Prop := fnExactIsAuctionRow.holds Try.pinned (OpenSpec.ofChange fnExactIsAuctionWrong)

/-- 'laws.FnExactAuctionEnded': WHATEVER THE INPUT: true; the input reads as it did. -/
def fnExactAuctionEndedSpec : ChangeSpec := { name := "fnExactAuctionEnded", fn := fun _ => fun
  | [d] => { results := [.lit (.bool true)], args := [d] }
  | _ => none }
def fnExactAuctionEndedRow : OpenClaim := { program := "ytbbndelebdackaa", sum := "748bade3217265d5fa9bff84aac9aa04e95c6b42ffb69e676b1fb9c59121b25e", func := "loop.example/g00854/laws.FnExactAuctionEnded", spec := "fnExactAuctionEnded", apart := false }
def FnExactAuctionEndedSaid : Prop := fnExactAuctionEndedRow.holds Try.pinned (OpenSpec.ofChange fnExactAuctionEndedSpec)

/-- ITS FALSE NEIGHBOUR: 'it returns false'. Refute it at one input. -/
def fnExactAuctionEndedWrong : ChangeSpec := { name := "fnExactAuctionEnded", fn := fun _ => fun
  | [d] => { results := [.lit (.bool false)], args := [d] }
  | _ => none }
def FnExactAuctionEndedWrongFalsely : Prop := fnExactAuctionEndedRow.holds Try.pinned (OpenSpec.ofChange fnExactAuctionEndedWrong)

/-- 'laws.FnExactSeatToCall': WHATEVER THE INPUT: true; the input reads as it did. -/
def fnExactSeatToCallSpec : ChangeSpec := { name := "fnExactSeatToCall", fn := fun _ => fun
  | [d] => { results := [.lit (.bool true)], args := [d] }
  | _ => none }
def fnExactSeatToCallRow : OpenClaim := { program := "ytbbndelebdackaa", sum := "748bade3217265d5fa9bff84aac9aa04e95c6b42ffb69e676b1fb9c59121b25e", func := "loop.example/g00854/laws.FnExactSeatToCall", spec := "fnExactSeatToCall", apart := false }
def FnExactSeatToCallSaid : Prop := fnExactSeatToCallRow.holds Try.pinned (OpenSpec.ofChange fnExactSeatToCallSpec)

/-- ITS FALSE NEIGHBOUR: 'it returns false'. Refute it at one input. -/
def fnExactSeatToCallWrong : ChangeSpec := { name := "fnExactSeatToCall", fn := fun _ => fun
  | [d] => { results := [.lit (.bool false)], args := [d] }
  | _ => none }
def FnExactSeatToCallWrongFalsely : Prop := fnExactSeatToCallRow.holds Try.pinned (OpenSpec.ofChange fnExactSeatToCallWrong)

/-- 'laws.FnExactLegalCalls': WHATEVER THE INPUT: true; the input reads as it did. -/
def fnExactLegalCallsSpec : ChangeSpec := { name := "fnExactLegalCalls", fn := fun _ => fun
  | [d] => { results := [.lit (.bool true)], args := [d] }
  | _ => none }
def fnExactLegalCallsRow : OpenClaim := { program := "ytbbndelebdackaa", sum := "748bade3217265d5fa9bff84aac9aa04e95c6b42ffb69e676b1fb9c59121b25e", func := "loop.example/g00854/laws.FnExactLegalCalls", spec := "fnExactLegalCalls", apart := false }
def FnExactLegalCallsSaid : Prop := fnExactLegalCallsRow.holds Try.pinned (OpenSpec.ofChange fnExactLegalCallsSpec)

/-- ITS FALSE NEIGHBOUR: 'it returns false'. Refute it at one input. -/
def fnExactLegalCallsWrong : ChangeSpec := { name := "fnExactLegalCalls", fn := fun _ => fun
  | [d] => { results := [.lit (.bool false)], args := [d] }
  | _ => none }
def FnExactLegalCallsWrongFalsely : Prop := fnExactLegalCallsRow.holds Try.pinned (OpenSpec.ofChange fnExactLegalCallsWrong)

/-- 'laws.FnExactAddCall': WHATEVER THE INPUT: true; the input reads as it did. -/
def fnExactAddCallSpec : ChangeSpec := { name := "fnExactAddCall", fn := fun _ => fun
  | [d1, d2] => { results := [.lit (.bool true)], args := [d1, d2] }
  | _ => none }
def fnExactAddCallRow : OpenClaim := { program := "ytbbndelebdackaa", sum := "748bade3217265d5fa9bff84aac9aa04e95c6b42ffb69e676b1fb9c59121b25e", func := "loop.example/g00854/laws.FnExactAddCall", spec := "fnExactAddCall", apart := false }
def FnExactAddCallSaid : Prop := fnExactAddCallRow.holds Try.pinned (OpenSpec.ofChange fnExactAddCallSpec)

/-- ITS FALSE NEIGHBOUR: 'it returns false'. Refute it at one input. -/
def fnExactAddCallWrong : ChangeSpec := { name := "fnExactAddCall", fn := fun _ => fun
  | [d1, d2] => { results := [.lit (.bool false)], args := [d1, d2] }
  | _ => none }
def FnExactAddCallWrongFalsely : Prop := fnExactAddCallRow.holds Try.pinned (OpenSpec.ofChange fnExactAddCallWrong)

/-- 'laws.FnExactAuctionText': WHATEVER THE INPUT: true; the input reads as it did. -/
def fnExactAuctionTextSpec : ChangeSpec := { name := "fnExactAuctionText", fn := fun _ => fun
  | [d] => { results := [.lit (.bool true)], args := [d] }
  | _ => none }
def fnExactAuctionTextRow : OpenClaim := { program := "ytbbndelebdackaa", sum := "748bade3217265d5fa9bff84aac9aa04e95c6b42ffb69e676b1fb9c59121b25e", func := "loop.example/g00854/laws.FnExactAuctionText", spec := "fnExactAuctionText", apart := false }
def FnExactAuctionTextSaid : Prop := fnExactAuctionTextRow.holds Try.pinned (OpenSpec.ofChange fnExactAuctionTextSpec)

/-- ITS FALSE NEIGHBOUR: 'it returns false'. Refute it at one input. -/
def fnExactAuctionTextWrong : ChangeSpec := { name := "fnExactAuctionText", fn := fun _ => fun
  | [d] => { results := [.lit (.bool false)], args := [d] }
  | _ => none }
def FnExactAuctionTextWrongFalsely : Prop := fnExactAuctionTextRow.holds Try.pinned (OpenSpec.ofChange fnExactAuctionTextWrong)

/-- 'laws.FnExactContractOf': WHATEVER THE INPUT: true; the input reads as it did. -/
def fnExactContractOfSpec : ChangeSpec := { name := "fnExactContractOf", fn := fun _ => fun
  | [d] => { results := [.lit (.bool true)], args := [d] }
  | _ => none }
def fnExactContractOfRow : OpenClaim := { program := "ytbbndelebdackaa", sum := "748bade3217265d5fa9bff84aac9aa04e95c6b42ffb69e676b1fb9c59121b25e", func := "loop.example/g00854/laws.FnExactContractOf", spec := "fnExactContractOf", apart := false }
def FnExactContractOfSaid : Prop := fnExactContractOfRow.holds Try.pinned (OpenSpec.ofChange fnExactContractOfSpec)

/-- ITS FALSE NEIGHBOUR: 'it returns false'. Refute it at one input. -/
def fnExactContractOfWrong : ChangeSpec := { name := "fnExactContractOf", fn := fun _ => fun
  | [d] => { results := [.lit (.bool false)], args := [d] }
  | _ => none }
def FnExactContractOfWrongFalsely : Prop := fnExactContractOfRow.holds Try.pinned (OpenSpec.ofChange fnExactContractOfWrong)

/- THE SECOND FORM. 'bulk': how many values and letters a reading holds, each counted each time it is reached (what is shared counts as often as it is met; a slice's spare places count too). A statement '..UptoSaid' is the law's where the arguments, and the package variables that the reading takes, are together of bulk at most 1048576: NARROWER than '..Said'. Prove '..Said' where nothing that the law and all that it calls make is longer than what came in: it says more and counts as full. Else prove '..UptoSaid'. A law counts once. -/
mutual
def uptoBulk {H : Type} : DataW H → Nat
  | .lit (.string bytes) => bytes.length + 1
  | .lit _ => 1
  | .nil => 1
  | .ptr d => uptoBulk d + 1
  | .slice elems spare => uptoBulkAll elems + uptoBulkAll spare + 1
  | .agg parts => uptoBulkAll parts + 1
  | .iface _ d => uptoBulk d + 1
  | .map entries => uptoBulkEntries entries + 1
  | .held _ => 1
def uptoBulkAll {H : Type} : List (DataW H) → Nat
  | [] => 0
  | d :: r => uptoBulk d + uptoBulkAll r
def uptoBulkEntries {H : Type} : List (Lit × DataW H) → Nat
  | [] => 0
  | x :: r => uptoBulkEntry x + uptoBulkEntries r
def uptoBulkEntry {H : Type} : Lit × DataW H → Nat
  | (.string bytes, d) => bytes.length + uptoBulk d + 1
  | (_, d) => uptoBulk d + 1
 end
def uptoSmall : (H : Type) → List (DataW H) → Bool := fun _ ds => decide (uptoBulkAll ds ≤ 1048576)
def OpenSpec.upto (s : _root_.Go.ChangeSpec) : _root_.Go.OpenSpec := { _root_.Go.OpenSpec.ofChange s with cond := some uptoSmall }

/-- 'laws.FnExactCallText', WHERE WHAT IT READS IS OF BULK AT MOST 1048576: true; the input reads as it did. -/
def fnExactCallTextUptoRow : OpenClaim := { program := "ytbbndelebdackaa", sum := "748bade3217265d5fa9bff84aac9aa04e95c6b42ffb69e676b1fb9c59121b25e", func := "loop.example/g00854/laws.FnExactCallText", spec := "fnExactCallText", apart := false, narrowed := true }
def FnExactCallTextUptoSaid : Prop := fnExactCallTextUptoRow.holds Try.pinned (OpenSpec.upto fnExactCallTextSpec)

/-- 'laws.FnExactReadCall', WHERE WHAT IT READS IS OF BULK AT MOST 1048576: true; the input reads as it did. -/
def fnExactReadCallUptoRow : OpenClaim := { program := "ytbbndelebdackaa", sum := "748bade3217265d5fa9bff84aac9aa04e95c6b42ffb69e676b1fb9c59121b25e", func := "loop.example/g00854/laws.FnExactReadCall", spec := "fnExactReadCall", inPlace := ["internal/bytealg.IndexByteString"], apart := false, narrowed := true }
def FnExactReadCallUptoSaid : Prop := fnExactReadCallUptoRow.holds Try.pinned (OpenSpec.upto fnExactReadCallSpec)

/-- 'laws.FnBids', WHERE WHAT IT READS IS OF BULK AT MOST 1048576: true; the input reads as it did. -/
def fnBidsUptoRow : OpenClaim := { program := "ytbbndelebdackaa", sum := "748bade3217265d5fa9bff84aac9aa04e95c6b42ffb69e676b1fb9c59121b25e", func := "loop.example/g00854/laws.FnBids", spec := "fnBids", apart := false, narrowed := true }
def FnBidsUptoSaid : Prop := fnBidsUptoRow.holds Try.pinned (OpenSpec.upto fnBidsSpec)

/-- 'laws.FnCallText', WHERE WHAT IT READS IS OF BULK AT MOST 1048576: true; the input reads as it did. -/
def fnCallTextUptoRow : OpenClaim := { program := "ytbbndelebdackaa", sum := "748bade3217265d5fa9bff84aac9aa04e95c6b42ffb69e676b1fb9c59121b25e", func := "loop.example/g00854/laws.FnCallText", spec := "fnCallText", inPlace := ["internal/bytealg.IndexByteString"], apart := false, narrowed := true }
def FnCallTextUptoSaid : Prop := fnCallTextUptoRow.holds Try.pinned (OpenSpec.upto fnCallTextSpec)

/-- 'laws.FnExactContractText', WHERE WHAT IT READS IS OF BULK AT MOST 1048576: true; the input reads as it did. -/
def fnExactContractTextUptoRow : OpenClaim := { program := "ytbbndelebdackaa", sum := "748bade3217265d5fa9bff84aac9aa04e95c6b42ffb69e676b1fb9c59121b25e", func := "loop.example/g00854/laws.FnExactContractText", spec := "fnExactContractText", apart := false, narrowed := true }
def FnExactContractTextUptoSaid : Prop := fnExactContractTextUptoRow.holds Try.pinned (OpenSpec.upto fnExactContractTextSpec)

/-- 'laws.FnExactIsAuction', WHERE WHAT IT READS IS OF BULK AT MOST 1048576: true; the input reads as it did. -/
def fnExactIsAuctionUptoRow : OpenClaim := { program := "ytbbndelebdackaa", sum := "748bade3217265d5fa9bff84aac9aa04e95c6b42ffb69e676b1fb9c59121b25e", func := "loop.example/g00854/laws.FnExactIsAuction", spec := "fnExactIsAuction", apart := false, narrowed := true }
def FnExactIsAuctionUptoSaid : Prop := fnExactIsAuctionUptoRow.holds Try.pinned (OpenSpec.upto fnExactIsAuctionSpec)

/-- 'laws.FnExactAuctionEnded', WHERE WHAT IT READS IS OF BULK AT MOST 1048576: true; the input reads as it did. -/
def fnExactAuctionEndedUptoRow : OpenClaim := { program := "ytbbndelebdackaa", sum := "748bade3217265d5fa9bff84aac9aa04e95c6b42ffb69e676b1fb9c59121b25e", func := "loop.example/g00854/laws.FnExactAuctionEnded", spec := "fnExactAuctionEnded", apart := false, narrowed := true }
def FnExactAuctionEndedUptoSaid : Prop := fnExactAuctionEndedUptoRow.holds Try.pinned (OpenSpec.upto fnExactAuctionEndedSpec)

/-- 'laws.FnExactSeatToCall', WHERE WHAT IT READS IS OF BULK AT MOST 1048576: true; the input reads as it did. -/
def fnExactSeatToCallUptoRow : OpenClaim := { program := "ytbbndelebdackaa", sum := "748bade3217265d5fa9bff84aac9aa04e95c6b42ffb69e676b1fb9c59121b25e", func := "loop.example/g00854/laws.FnExactSeatToCall", spec := "fnExactSeatToCall", apart := false, narrowed := true }
def FnExactSeatToCallUptoSaid : Prop := fnExactSeatToCallUptoRow.holds Try.pinned (OpenSpec.upto fnExactSeatToCallSpec)

/-- 'laws.FnExactLegalCalls', WHERE WHAT IT READS IS OF BULK AT MOST 1048576: true; the input reads as it did. -/
def fnExactLegalCallsUptoRow : OpenClaim := { program := "ytbbndelebdackaa", sum := "748bade3217265d5fa9bff84aac9aa04e95c6b42ffb69e676b1fb9c59121b25e", func := "loop.example/g00854/laws.FnExactLegalCalls", spec := "fnExactLegalCalls", apart := false, narrowed := true }
def FnExactLegalCallsUptoSaid : Prop := fnExactLegalCallsUptoRow.holds Try.pinned (OpenSpec.upto fnExactLegalCallsSpec)

/-- 'laws.FnExactAddCall', WHERE WHAT IT READS IS OF BULK AT MOST 1048576: true; the input reads as it did. -/
def fnExactAddCallUptoRow : OpenClaim := { program := "ytbbndelebdackaa", sum := "748bade3217265d5fa9bff84aac9aa04e95c6b42ffb69e676b1fb9c59121b25e", func := "loop.example/g00854/laws.FnExactAddCall", spec := "fnExactAddCall", apart := false, narrowed := true }
def FnExactAddCallUptoSaid : Prop := fnExactAddCallUptoRow.holds Try.pinned (OpenSpec.upto fnExactAddCallSpec)

/-- 'laws.FnExactAuctionText', WHERE WHAT IT READS IS OF BULK AT MOST 1048576: true; the input reads as it did. -/
def fnExactAuctionTextUptoRow : OpenClaim := { program := "ytbbndelebdackaa", sum := "748bade3217265d5fa9bff84aac9aa04e95c6b42ffb69e676b1fb9c59121b25e", func := "loop.example/g00854/laws.FnExactAuctionText", spec := "fnExactAuctionText", apart := false, narrowed := true }
def FnExactAuctionTextUptoSaid : Prop := fnExactAuctionTextUptoRow.holds Try.pinned (OpenSpec.upto fnExactAuctionTextSpec)

/-- 'laws.FnExactContractOf', WHERE WHAT IT READS IS OF BULK AT MOST 1048576: true; the input reads as it did. -/
def fnExactContractOfUptoRow : OpenClaim := { program := "ytbbndelebdackaa", sum := "748bade3217265d5fa9bff84aac9aa04e95c6b42ffb69e676b1fb9c59121b25e", func := "loop.example/g00854/laws.FnExactContractOf", spec := "fnExactContractOf", apart := false, narrowed := true }
def FnExactContractOfUptoSaid : Prop := fnExactContractOfUptoRow.holds Try.pinned (OpenSpec.upto fnExactContractOfSpec)

end Rows
end Go.Proofs.Ytbbndelebdackaa
