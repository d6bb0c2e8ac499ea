/-
  No cell of these rows narrows 'for every input' (looked for: loops, veiled, ifaces, maps, wideKeys, modest, calm, conditions, laid).
  DERIVED. THE GIVEN ROWS OF THIS SEAT. 12 by the template 'for every input the law returns true; each argument reads behind the call as it read before'; 0 by the template 'total and deterministic' (their statements: YtcmfdngffknnfaaTotals.lean).
  GIVEN WITH THE SEED: the statements are not yours to turn. If you find one false, say at which input.
  Laid BY PROGRAM, IN A SANDBOX (cutbox-rows.mjs): the forced cells as the released guide's own fill.sh prints them over the translation 2496799632db3068… (all of the seat's roots in one cut). By AI agents, Wed Nov 11 2026. No macro, syntax, notation, axiom, sorry.
-/
import Derived.Test.YtcmfdngffknnfaaChecked
import GoSem.Claim
import GoSem.ClaimJoined
import GoSem.ClaimMapViews
import Derived.JoinedTies
import Derived.KernelRfl
namespace Go.Proofs.Ytcmfdngffknnfaa
/- THE CELL 'sum', in the pinned program and in every row, IS THE sha256 OF THE DUMP (.gsa) THAT YtcmfdngffknnfaaProg.lean LOADS. Nothing in Lean hashes anything: it is a label: what it is worth is what the hold of that sum in a sandbox is worth. -/
noncomputable def Try.pinned : Pinned := { name := "ytcmfdngffknnfaa", sum := "2496799632db3068c9a603785768c46b22743869f676e93234e987e7336de88d", checked := Try.checked }
namespace Rows
def none {H : Type} : Left H := { results := [], args := [] }

/-- 'laws.FnExactIsVulnerable': WHATEVER THE INPUT: true; the input reads as it did. -/
def fnExactIsVulnerableSpec : ChangeSpec := { name := "fnExactIsVulnerable", fn := fun _ => fun
  | [d1, d2] => { results := [.lit (.bool true)], args := [d1, d2] }
  | _ => none }
def fnExactIsVulnerableRow : OpenClaim := { program := "ytcmfdngffknnfaa", sum := "2496799632db3068c9a603785768c46b22743869f676e93234e987e7336de88d", func := "loop.example/g00854/laws.FnExactIsVulnerable", spec := "fnExactIsVulnerable", apart := false }
def FnExactIsVulnerableSaid : Prop := fnExactIsVulnerableRow.holds Try.pinned (OpenSpec.ofChange fnExactIsVulnerableSpec)

/-- ITS FALSE NEIGHBOUR: 'it returns false'. Refute it at one input. -/
def fnExactIsVulnerableWrong : ChangeSpec := { name := "fnExactIsVulnerable", fn := fun _ => fun
  | [d1, d2] => { results := [.lit (.bool false)], args := [d1, d2] }
  | _ => none }
def FnExactIsVulnerableWrongFalsely : Prop := fnExactIsVulnerableRow.holds Try.pinned (OpenSpec.ofChange fnExactIsVulnerableWrong)

/-- 'laws.FnExactPercentOf': WHATEVER THE INPUT: true; the input reads as it did. -/
def fnExactPercentOfSpec : ChangeSpec := { name := "fnExactPercentOf", fn := fun _ => fun
  | [d1, d2] => { results := [.lit (.bool true)], args := [d1, d2] }
  | _ => none }
def fnExactPercentOfRow : OpenClaim := { program := "ytcmfdngffknnfaa", sum := "2496799632db3068c9a603785768c46b22743869f676e93234e987e7336de88d", func := "loop.example/g00854/laws.FnExactPercentOf", spec := "fnExactPercentOf", apart := false }
def FnExactPercentOfSaid : Prop := fnExactPercentOfRow.holds Try.pinned (OpenSpec.ofChange fnExactPercentOfSpec)

/-- ITS FALSE NEIGHBOUR: 'it returns false'. Refute it at one input. -/
def fnExactPercentOfWrong : ChangeSpec := { name := "fnExactPercentOf", fn := fun _ => fun
  | [d1, d2] => { results := [.lit (.bool false)], args := [d1, d2] }
  | _ => none }
def FnExactPercentOfWrongFalsely : Prop := fnExactPercentOfRow.holds Try.pinned (OpenSpec.ofChange fnExactPercentOfWrong)

/-- 'laws.FnExactBoardDealer': WHATEVER THE INPUT: true; the input reads as it did. -/
def fnExactBoardDealerSpec : ChangeSpec := { name := "fnExactBoardDealer", fn := fun _ => fun
  | [d] => { results := [.lit (.bool true)], args := [d] }
  | _ => none }
def fnExactBoardDealerRow : OpenClaim := { program := "ytcmfdngffknnfaa", sum := "2496799632db3068c9a603785768c46b22743869f676e93234e987e7336de88d", func := "loop.example/g00854/laws.FnExactBoardDealer", spec := "fnExactBoardDealer", apart := false }
def FnExactBoardDealerSaid : Prop := fnExactBoardDealerRow.holds Try.pinned (OpenSpec.ofChange fnExactBoardDealerSpec)

/-- ITS FALSE NEIGHBOUR: 'it returns false'. Refute it at one input. -/
def fnExactBoardDealerWrong : ChangeSpec := { name := "fnExactBoardDealer", fn := fun _ => fun
  | [d] => { results := [.lit (.bool false)], args := [d] }
  | _ => none }
def FnExactBoardDealerWrongFalsely : Prop := fnExactBoardDealerRow.holds Try.pinned (OpenSpec.ofChange fnExactBoardDealerWrong)

/-- 'laws.FnExactBoardVulnerability': WHATEVER THE INPUT: true; the input reads as it did. -/
def fnExactBoardVulnerabilitySpec : ChangeSpec := { name := "fnExactBoardVulnerability", fn := fun _ => fun
  | [d] => { results := [.lit (.bool true)], args := [d] }
  | _ => none }
def fnExactBoardVulnerabilityRow : OpenClaim := { program := "ytcmfdngffknnfaa", sum := "2496799632db3068c9a603785768c46b22743869f676e93234e987e7336de88d", func := "loop.example/g00854/laws.FnExactBoardVulnerability", spec := "fnExactBoardVulnerability", apart := false }
def FnExactBoardVulnerabilitySaid : Prop := fnExactBoardVulnerabilityRow.holds Try.pinned (OpenSpec.ofChange fnExactBoardVulnerabilitySpec)

/-- ITS FALSE NEIGHBOUR: 'it returns false'. Refute it at one input. -/
def fnExactBoardVulnerabilityWrong : ChangeSpec := { name := "fnExactBoardVulnerability", fn := fun _ => fun
  | [d] => { results := [.lit (.bool false)], args := [d] }
  | _ => none }
def FnExactBoardVulnerabilityWrongFalsely : Prop := fnExactBoardVulnerabilityRow.holds Try.pinned (OpenSpec.ofChange fnExactBoardVulnerabilityWrong)

/-- 'laws.FnExactStrainOf': WHATEVER THE INPUT: true; the input reads as it did. -/
def fnExactStrainOfSpec : ChangeSpec := { name := "fnExactStrainOf", fn := fun _ => fun
  | [d] => { results := [.lit (.bool true)], args := [d] }
  | _ => none }
def fnExactStrainOfRow : OpenClaim := { program := "ytcmfdngffknnfaa", sum := "2496799632db3068c9a603785768c46b22743869f676e93234e987e7336de88d", func := "loop.example/g00854/laws.FnExactStrainOf", spec := "fnExactStrainOf", apart := false }
def FnExactStrainOfSaid : Prop := fnExactStrainOfRow.holds Try.pinned (OpenSpec.ofChange fnExactStrainOfSpec)

/-- ITS FALSE NEIGHBOUR: 'it returns false'. Refute it at one input. -/
def fnExactStrainOfWrong : ChangeSpec := { name := "fnExactStrainOf", fn := fun _ => fun
  | [d] => { results := [.lit (.bool false)], args := [d] }
  | _ => none }
def FnExactStrainOfWrongFalsely : Prop := fnExactStrainOfRow.holds Try.pinned (OpenSpec.ofChange fnExactStrainOfWrong)

/-- 'laws.FnExactTopOf': WHATEVER THE INPUT: true; the input reads as it did. -/
def fnExactTopOfSpec : ChangeSpec := { name := "fnExactTopOf", fn := fun _ => fun
  | [d] => { results := [.lit (.bool true)], args := [d] }
  | _ => none }
def fnExactTopOfRow : OpenClaim := { program := "ytcmfdngffknnfaa", sum := "2496799632db3068c9a603785768c46b22743869f676e93234e987e7336de88d", func := "loop.example/g00854/laws.FnExactTopOf", spec := "fnExactTopOf", apart := false }
def FnExactTopOfSaid : Prop := fnExactTopOfRow.holds Try.pinned (OpenSpec.ofChange fnExactTopOfSpec)

/-- ITS FALSE NEIGHBOUR: 'it returns false'. Refute it at one input. -/
def fnExactTopOfWrong : ChangeSpec := { name := "fnExactTopOf", fn := fun _ => fun
  | [d] => { results := [.lit (.bool false)], args := [d] }
  | _ => none }
def FnExactTopOfWrongFalsely : Prop := fnExactTopOfRow.holds Try.pinned (OpenSpec.ofChange fnExactTopOfWrong)

/-- 'laws.FnExactIsContract': WHATEVER THE INPUT: true; the input reads as it did. -/
def fnExactIsContractSpec : ChangeSpec := { name := "fnExactIsContract", fn := fun _ => fun
  | [d] => { results := [.lit (.bool true)], args := [d] }
  | _ => none }
def fnExactIsContractRow : OpenClaim := { program := "ytcmfdngffknnfaa", sum := "2496799632db3068c9a603785768c46b22743869f676e93234e987e7336de88d", func := "loop.example/g00854/laws.FnExactIsContract", spec := "fnExactIsContract", apart := false }
def FnExactIsContractSaid : Prop := fnExactIsContractRow.holds Try.pinned (OpenSpec.ofChange fnExactIsContractSpec)

/-- ITS FALSE NEIGHBOUR: 'it returns false'. Refute it at one input. -/
def fnExactIsContractWrong : ChangeSpec := { name := "fnExactIsContract", fn := fun _ => fun
  | [d] => { results := [.lit (.bool false)], args := [d] }
  | _ => none }
def FnExactIsContractWrongFalsely : Prop := fnExactIsContractRow.holds Try.pinned (OpenSpec.ofChange fnExactIsContractWrong)

/-- 'laws.FnBoards': WHATEVER THE INPUT: true; the input reads as it did. -/
def fnBoardsSpec : ChangeSpec := { name := "fnBoards", fn := fun _ => fun
  | [d] => { results := [.lit (.bool true)], args := [d] }
  | _ => none }
def fnBoardsRow : OpenClaim := { program := "ytcmfdngffknnfaa", sum := "2496799632db3068c9a603785768c46b22743869f676e93234e987e7336de88d", func := "loop.example/g00854/laws.FnBoards", spec := "fnBoards", apart := false }
def FnBoardsSaid : Prop := fnBoardsRow.holds Try.pinned (OpenSpec.ofChange fnBoardsSpec)

/-- ITS FALSE NEIGHBOUR: 'it returns false'. Refute it at one input. -/
def fnBoardsWrong : ChangeSpec := { name := "fnBoards", fn := fun _ => fun
  | [d] => { results := [.lit (.bool false)], args := [d] }
  | _ => none }
def FnBoardsWrongFalsely : Prop := fnBoardsRow.holds Try.pinned (OpenSpec.ofChange fnBoardsWrong)

/-- 'laws.FnExactLowestBid': WHATEVER THE INPUT: true; the input reads as it did. -/
def fnExactLowestBidSpec : ChangeSpec := { name := "fnExactLowestBid", fn := fun _ => fun
  | [d1, d2] => { results := [.lit (.bool true)], args := [d1, d2] }
  | _ => none }
def fnExactLowestBidRow : OpenClaim := { program := "ytcmfdngffknnfaa", sum := "2496799632db3068c9a603785768c46b22743869f676e93234e987e7336de88d", func := "loop.example/g00854/laws.FnExactLowestBid", spec := "fnExactLowestBid", apart := false }
def FnExactLowestBidSaid : Prop := fnExactLowestBidRow.holds Try.pinned (OpenSpec.ofChange fnExactLowestBidSpec)

/-- ITS FALSE NEIGHBOUR: 'it returns false'. Refute it at one input. -/
def fnExactLowestBidWrong : ChangeSpec := { name := "fnExactLowestBid", fn := fun _ => fun
  | [d1, d2] => { results := [.lit (.bool false)], args := [d1, d2] }
  | _ => none }
def FnExactLowestBidWrongFalsely : Prop := fnExactLowestBidRow.holds Try.pinned (OpenSpec.ofChange fnExactLowestBidWrong)

/-- 'laws.FnExactIsJump': WHATEVER THE INPUT: true; the input reads as it did. -/
def fnExactIsJumpSpec : ChangeSpec := { name := "fnExactIsJump", fn := fun _ => fun
  | [d1, d2] => { results := [.lit (.bool true)], args := [d1, d2] }
  | _ => none }
def fnExactIsJumpRow : OpenClaim := { program := "ytcmfdngffknnfaa", sum := "2496799632db3068c9a603785768c46b22743869f676e93234e987e7336de88d", func := "loop.example/g00854/laws.FnExactIsJump", spec := "fnExactIsJump", apart := false }
def FnExactIsJumpSaid : Prop := fnExactIsJumpRow.holds Try.pinned (OpenSpec.ofChange fnExactIsJumpSpec)

/-- ITS FALSE NEIGHBOUR: 'it returns false'. Refute it at one input. -/
def fnExactIsJumpWrong : ChangeSpec := { name := "fnExactIsJump", fn := fun _ => fun
  | [d1, d2] => { results := [.lit (.bool false)], args := [d1, d2] }
  | _ => none }
def FnExactIsJumpWrongFalsely : Prop := fnExactIsJumpRow.holds Try.pinned (OpenSpec.ofChange fnExactIsJumpWrong)

/-- 'laws.FnExactContractPoints': WHATEVER THE INPUT: true; the input reads as it did. -/
def fnExactContractPointsSpec : ChangeSpec := { name := "fnExactContractPoints", fn := fun _ => fun
  | [d] => { results := [.lit (.bool true)], args := [d] }
  | _ => none }
def fnExactContractPointsRow : OpenClaim := { program := "ytcmfdngffknnfaa", sum := "2496799632db3068c9a603785768c46b22743869f676e93234e987e7336de88d", func := "loop.example/g00854/laws.FnExactContractPoints", spec := "fnExactContractPoints", apart := false }
def FnExactContractPointsSaid : Prop := fnExactContractPointsRow.holds Try.pinned (OpenSpec.ofChange fnExactContractPointsSpec)

/-- ITS FALSE NEIGHBOUR: 'it returns false'. Refute it at one input. -/
def fnExactContractPointsWrong : ChangeSpec := { name := "fnExactContractPoints", fn := fun _ => fun
  | [d] => { results := [.lit (.bool false)], args := [d] }
  | _ => none }
def FnExactContractPointsWrongFalsely : Prop := fnExactContractPointsRow.holds Try.pinned (OpenSpec.ofChange fnExactContractPointsWrong)

/-- 'laws.FnExactPenaltyPoints': WHATEVER THE INPUT: true; the input reads as it did. -/
def fnExactPenaltyPointsSpec : ChangeSpec := { name := "fnExactPenaltyPoints", fn := fun _ => fun
  | [d1, d2, d3] => { results := [.lit (.bool true)], args := [d1, d2, d3] }
  | _ => none }
def fnExactPenaltyPointsRow : OpenClaim := { program := "ytcmfdngffknnfaa", sum := "2496799632db3068c9a603785768c46b22743869f676e93234e987e7336de88d", func := "loop.example/g00854/laws.FnExactPenaltyPoints", spec := "fnExactPenaltyPoints", apart := false }
def FnExactPenaltyPointsSaid : Prop := fnExactPenaltyPointsRow.holds Try.pinned (OpenSpec.ofChange fnExactPenaltyPointsSpec)

/-- ITS FALSE NEIGHBOUR: 'it returns false'. Refute it at one input. -/
def fnExactPenaltyPointsWrong : ChangeSpec := { name := "fnExactPenaltyPoints", fn := fun _ => fun
  | [d1, d2, d3] => { results := [.lit (.bool false)], args := [d1, d2, d3] }
  | _ => none }
def FnExactPenaltyPointsWrongFalsely : Prop := fnExactPenaltyPointsRow.holds Try.pinned (OpenSpec.ofChange fnExactPenaltyPointsWrong)

/- THE SECOND FORM. 'bulk': how many values and letters a reading holds, each counted each time it is reached (what is shared counts as often as it is met; a slice's spare places count too). A statement '..UptoSaid' is the law's where the arguments, and the package variables that the reading takes, are together of bulk at most 1048576: NARROWER than '..Said'. Prove '..Said' where nothing that the law and all that it calls make is longer than what came in: it says more and counts as full. Else prove '..UptoSaid'. A law counts once. -/
mutual
def uptoBulk {H : Type} : DataW H → Nat
  | .lit (.string bytes) => bytes.length + 1
  | .lit _ => 1
  | .nil => 1
  | .ptr d => uptoBulk d + 1
  | .slice elems spare => uptoBulkAll elems + uptoBulkAll spare + 1
  | .agg parts => uptoBulkAll parts + 1
  | .iface _ d => uptoBulk d + 1
  | .map entries => uptoBulkEntries entries + 1
  | .held _ => 1
def uptoBulkAll {H : Type} : List (DataW H) → Nat
  | [] => 0
  | d :: r => uptoBulk d + uptoBulkAll r
def uptoBulkEntries {H : Type} : List (Lit × DataW H) → Nat
  | [] => 0
  | x :: r => uptoBulkEntry x + uptoBulkEntries r
def uptoBulkEntry {H : Type} : Lit × DataW H → Nat
  | (.string bytes, d) => bytes.length + uptoBulk d + 1
  | (_, d) => uptoBulk d + 1
 end
def uptoSmall : (H : Type) → List (DataW H) → Bool := fun _ ds => decide (uptoBulkAll ds ≤ 1048576)
def OpenSpec.upto (s : _root_.Go.ChangeSpec) : _root_.Go.OpenSpec := { _root_.Go.OpenSpec.ofChange s with cond := some uptoSmall }

/-- 'laws.FnExactIsVulnerable', WHERE WHAT IT READS IS OF BULK AT MOST 1048576: true; the input reads as it did. -/
def fnExactIsVulnerableUptoRow : OpenClaim := { program := "ytcmfdngffknnfaa", sum := "2496799632db3068c9a603785768c46b22743869f676e93234e987e7336de88d", func := "loop.example/g00854/laws.FnExactIsVulnerable", spec := "fnExactIsVulnerable", apart := false, narrowed := true }
def FnExactIsVulnerableUptoSaid : Prop := fnExactIsVulnerableUptoRow.holds Try.pinned (OpenSpec.upto fnExactIsVulnerableSpec)

/-- 'laws.FnExactPercentOf', WHERE WHAT IT READS IS OF BULK AT MOST 1048576: true; the input reads as it did. -/
def fnExactPercentOfUptoRow : OpenClaim := { program := "ytcmfdngffknnfaa", sum := "2496799632db3068c9a603785768c46b22743869f676e93234e987e7336de88d", func := "loop.example/g00854/laws.FnExactPercentOf", spec := "fnExactPercentOf", apart := false, narrowed := true }
def FnExactPercentOfUptoSaid : Prop := fnExactPercentOfUptoRow.holds Try.pinned (OpenSpec.upto fnExactPercentOfSpec)

/-- 'laws.FnExactBoardDealer', WHERE WHAT IT READS IS OF BULK AT MOST 1048576: true; the input reads as it did. -/
def fnExactBoardDealerUptoRow : OpenClaim := { program := "ytcmfdngffknnfaa", sum := "2496799632db3068c9a603785768c46b22743869f676e93234e987e7336de88d", func := "loop.example/g00854/laws.FnExactBoardDealer", spec := "fnExactBoardDealer", apart := false, narrowed := true }
def FnExactBoardDealerUptoSaid : Prop := fnExactBoardDealerUptoRow.holds Try.pinned (OpenSpec.upto fnExactBoardDealerSpec)

/-- 'laws.FnExactBoardVulnerability', WHERE WHAT IT READS IS OF BULK AT MOST 1048576: true; the input reads as it did. -/
def fnExactBoardVulnerabilityUptoRow : OpenClaim := { program := "ytcmfdngffknnfaa", sum := "2496799632db3068c9a603785768c46b22743869f676e93234e987e7336de88d", func := "loop.example/g00854/laws.FnExactBoardVulnerability", spec := "fnExactBoardVulnerability", apart := false, narrowed := true }
def FnExactBoardVulnerabilityUptoSaid : Prop := fnExactBoardVulnerabilityUptoRow.holds Try.pinned (OpenSpec.upto fnExactBoardVulnerabilitySpec)

/-- 'laws.FnExactStrainOf', WHERE WHAT IT READS IS OF BULK AT MOST 1048576: true; the input reads as it did. -/
def fnExactStrainOfUptoRow : OpenClaim := { program := "ytcmfdngffknnfaa", sum := "2496799632db3068c9a603785768c46b22743869f676e93234e987e7336de88d", func := "loop.example/g00854/laws.FnExactStrainOf", spec := "fnExactStrainOf", apart := false, narrowed := true }
def FnExactStrainOfUptoSaid : Prop := fnExactStrainOfUptoRow.holds Try.pinned (OpenSpec.upto fnExactStrainOfSpec)

/-- 'laws.FnExactTopOf', WHERE WHAT IT READS IS OF BULK AT MOST 1048576: true; the input reads as it did. -/
def fnExactTopOfUptoRow : OpenClaim := { program := "ytcmfdngffknnfaa", sum := "2496799632db3068c9a603785768c46b22743869f676e93234e987e7336de88d", func := "loop.example/g00854/laws.FnExactTopOf", spec := "fnExactTopOf", apart := false, narrowed := true }
def FnExactTopOfUptoSaid : Prop := fnExactTopOfUptoRow.holds Try.pinned (OpenSpec.upto fnExactTopOfSpec)

/-- 'laws.FnExactIsContract', WHERE WHAT IT READS IS OF BULK AT MOST 1048576: true; the input reads as it did. -/
def fnExactIsContractUptoRow : OpenClaim := { program := "ytcmfdngffknnfaa", sum := "2496799632db3068c9a603785768c46b22743869f676e93234e987e7336de88d", func := "loop.example/g00854/laws.FnExactIsContract", spec := "fnExactIsContract", apart := false, narrowed := true }
def FnExactIsContractUptoSaid : Prop := fnExactIsContractUptoRow.holds Try.pinned (OpenSpec.upto fnExactIsContractSpec)

/-- 'laws.FnBoards', WHERE WHAT IT READS IS OF BULK AT MOST 1048576: true; the input reads as it did. -/
def fnBoardsUptoRow : OpenClaim := { program := "ytcmfdngffknnfaa", sum := "2496799632db3068c9a603785768c46b22743869f676e93234e987e7336de88d", func := "loop.example/g00854/laws.FnBoards", spec := "fnBoards", apart := false, narrowed := true }
def FnBoardsUptoSaid : Prop := fnBoardsUptoRow.holds Try.pinned (OpenSpec.upto fnBoardsSpec)

/-- 'laws.FnExactLowestBid', WHERE WHAT IT READS IS OF BULK AT MOST 1048576: true; the input reads as it did. -/
def fnExactLowestBidUptoRow : OpenClaim := { program := "ytcmfdngffknnfaa", sum := "2496799632db3068c9a603785768c46b22743869f676e93234e987e7336de88d", func := "loop.example/g00854/laws.FnExactLowestBid", spec := "fnExactLowestBid", apart := false, narrowed := true }
def FnExactLowestBidUptoSaid : Prop := fnExactLowestBidUptoRow.holds Try.pinned (OpenSpec.upto fnExactLowestBidSpec)

/-- 'laws.FnExactIsJump', WHERE WHAT IT READS IS OF BULK AT MOST 1048576: true; the input reads as it did. -/
def fnExactIsJumpUptoRow : OpenClaim := { program := "ytcmfdngffknnfaa", sum := "2496799632db3068c9a603785768c46b22743869f676e93234e987e7336de88d", func := "loop.example/g00854/laws.FnExactIsJump", spec := "fnExactIsJump", apart := false, narrowed := true }
def FnExactIsJumpUptoSaid : Prop := fnExactIsJumpUptoRow.holds Try.pinned (OpenSpec.upto fnExactIsJumpSpec)

/-- 'laws.FnExactContractPoints', WHERE WHAT IT READS IS OF BULK AT MOST 1048576: true; the input reads as it did. -/
def fnExactContractPointsUptoRow : OpenClaim := { program := "ytcmfdngffknnfaa", sum := "2496799632db3068c9a603785768c46b22743869f676e93234e987e7336de88d", func := "loop.example/g00854/laws.FnExactContractPoints", spec := "fnExactContractPoints", apart := false, narrowed := true }
def FnExactContractPointsUptoSaid : Prop := fnExactContractPointsUptoRow.holds Try.pinned (OpenSpec.upto fnExactContractPointsSpec)

/-- 'laws.FnExactPenaltyPoints', WHERE WHAT IT READS IS OF BULK AT MOST 1048576: true; the input reads as it did. -/
def fnExactPenaltyPointsUptoRow : OpenClaim := { program := "ytcmfdngffknnfaa", sum := "2496799632db3068c9a603785768c46b22743869f676e93234e987e7336de88d", func := "loop.example/g00854/laws.FnExactPenaltyPoints", spec := "fnExactPenaltyPoints", apart := false, narrowed := true }
def FnExactPenaltyPointsUptoSaid : Prop := fnExactPenaltyPointsUptoRow.holds Try.pinned (OpenSpec.upto fnExactPenaltyPointsSpec)

end Rows
end Go.Proofs.Ytcmfdngffknnfaa
