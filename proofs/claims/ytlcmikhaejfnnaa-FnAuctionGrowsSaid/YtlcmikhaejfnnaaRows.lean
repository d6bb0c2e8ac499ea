/-
  No cell of these rows narrows 'for every input' (looked for: loops, veiled, ifaces, maps, wideKeys, modest, calm, conditions, laid).
  DERIVED. THE GIVEN ROWS OF THIS SEAT. 8 by the template 'for every input the law returns true; each argument reads behind the call as it read before'; 0 by the template 'total and deterministic' (their statements: YtlcmikhaejfnnaaTotals.lean).
  GIVEN WITH THE SEED: the statements are not yours to turn. If you find one false, say at which input.
  Laid BY PROGRAM, IN A SANDBOX (cutbox-rows.mjs): the forced cells as the released guide's own fill.sh prints them over the translation 3e913cfc05f68959… (all of the seat's roots in one cut). By AI agents, Wed Nov 11 2026. No macro, syntax, notation, axiom, sorry.
-/
import Derived.Test.YtlcmikhaejfnnaaChecked
import GoSem.Claim
import GoSem.ClaimJoined
import GoSem.ClaimMapViews
import Derived.JoinedTies
import Derived.KernelRfl
namespace Go.Proofs.Ytlcmikhaejfnnaa
/- THE CELL 'sum', in the pinned program and in every row, IS THE sha256 OF THE DUMP (.gsa) THAT YtlcmikhaejfnnaaProg.lean LOADS. Nothing in Lean hashes anything: it is a label: what it is worth is what the hold of that sum in a sandbox is worth. -/
noncomputable def Try.pinned : Pinned := { name := "ytlcmikhaejfnnaa", sum := "3e913cfc05f689594c8e6b588feae5720f3986728af3c20ca2e1245d153cf903", checked := Try.checked }
namespace Rows
def none {H : Type} : Left H := { results := [], args := [] }

/-- 'laws.FnDealerTurns': WHATEVER THE INPUT: true; the input reads as it did. -/
def fnDealerTurnsSpec : ChangeSpec := { name := "fnDealerTurns", fn := fun _ => fun
  | [d] => { results := [.lit (.bool true)], args := [d] }
  | _ => none }
def fnDealerTurnsRow : OpenClaim := { program := "ytlcmikhaejfnnaa", sum := "3e913cfc05f689594c8e6b588feae5720f3986728af3c20ca2e1245d153cf903", func := "loop.example/g00854/laws.FnDealerTurns", spec := "fnDealerTurns", apart := false }
def FnDealerTurnsSaid : Prop := fnDealerTurnsRow.holds Try.pinned (OpenSpec.ofChange fnDealerTurnsSpec)

/-- ITS FALSE NEIGHBOUR: 'it returns false'. Refute it at one input. -/
def fnDealerTurnsWrong : ChangeSpec := { name := "fnDealerTurns", fn := fun _ => fun
  | [d] => { results := [.lit (.bool false)], args := [d] }
  | _ => none }
def FnDealerTurnsWrongFalsely : Prop := fnDealerTurnsRow.holds Try.pinned (OpenSpec.ofChange fnDealerTurnsWrong)

/-- 'laws.FnAuctionContract': WHATEVER THE INPUT: true; the input reads as it did. -/
def fnAuctionContractSpec : ChangeSpec := { name := "fnAuctionContract", fn := fun _ => fun
  | [d] => { results := [.lit (.bool true)], args := [d] }
  | _ => none }
def fnAuctionContractRow : OpenClaim := { program := "ytlcmikhaejfnnaa", sum := "3e913cfc05f689594c8e6b588feae5720f3986728af3c20ca2e1245d153cf903", func := "loop.example/g00854/laws.FnAuctionContract", spec := "fnAuctionContract", apart := false }
def FnAuctionContractSaid : Prop := fnAuctionContractRow.holds Try.pinned (OpenSpec.ofChange fnAuctionContractSpec)

/-- ITS FALSE NEIGHBOUR: 'it returns false'. Refute it at one input. -/
def fnAuctionContractWrong : ChangeSpec := { name := "fnAuctionContract", fn := fun _ => fun
  | [d] => { results := [.lit (.bool false)], args := [d] }
  | _ => none }
def FnAuctionContractWrongFalsely : Prop := fnAuctionContractRow.holds Try.pinned (OpenSpec.ofChange fnAuctionContractWrong)

/-- 'laws.FnAuctionGrows': WHATEVER THE INPUT: true; the input reads as it did. -/
def fnAuctionGrowsSpec : ChangeSpec := { name := "fnAuctionGrows", fn := fun _ => fun
  | [d] => { results := [.lit (.bool true)], args := [d] }
  | _ => none }
def fnAuctionGrowsRow : OpenClaim := { program := "ytlcmikhaejfnnaa", sum := "3e913cfc05f689594c8e6b588feae5720f3986728af3c20ca2e1245d153cf903", func := "loop.example/g00854/laws.FnAuctionGrows", spec := "fnAuctionGrows", apart := false }
def FnAuctionGrowsSaid : Prop := fnAuctionGrowsRow.holds Try.pinned (OpenSpec.ofChange fnAuctionGrowsSpec)

/-- ITS FALSE NEIGHBOUR: 'it returns false'. Refute it at one input. -/
def fnAuctionGrowsWrong : ChangeSpec := { name := "fnAuctionGrows", fn := fun _ => fun
  | [d] => { results := [.lit (.bool false)], args := [d] }
  | _ => none }
def FnAuctionGrowsWrongFalsely : Prop := fnAuctionGrowsRow.holds Try.pinned (OpenSpec.ofChange fnAuctionGrowsWrong)

/-- 'laws.FnExactContractScore': WHATEVER THE INPUT: true; the input reads as it did. -/
def fnExactContractScoreSpec : ChangeSpec := { name := "fnExactContractScore", fn := fun _ => fun
  | [d1, d2, d3] => { results := [.lit (.bool true)], args := [d1, d2, d3] }
  | _ => none }
def fnExactContractScoreRow : OpenClaim := { program := "ytlcmikhaejfnnaa", sum := "3e913cfc05f689594c8e6b588feae5720f3986728af3c20ca2e1245d153cf903", func := "loop.example/g00854/laws.FnExactContractScore", spec := "fnExactContractScore", apart := false }
def FnExactContractScoreSaid : Prop := fnExactContractScoreRow.holds Try.pinned (OpenSpec.ofChange fnExactContractScoreSpec)

/-- ITS FALSE NEIGHBOUR: 'it returns false'. Refute it at one input. -/
def fnExactContractScoreWrong : ChangeSpec := { name := "fnExactContractScore", fn := fun _ => fun
  | [d1, d2, d3] => { results := [.lit (.bool false)], args := [d1, d2, d3] }
  | _ => none }
def FnExactContractScoreWrongFalsely : Prop := fnExactContractScoreRow.holds Try.pinned (OpenSpec.ofChange fnExactContractScoreWrong)

/-- 'laws.FnExactNorthSouthScore': WHATEVER THE INPUT: true; the input reads as it did. -/
def fnExactNorthSouthScoreSpec : ChangeSpec := { name := "fnExactNorthSouthScore", fn := fun _ => fun
  | [d1, d2, d3] => { results := [.lit (.bool true)], args := [d1, d2, d3] }
  | _ => none }
def fnExactNorthSouthScoreRow : OpenClaim := { program := "ytlcmikhaejfnnaa", sum := "3e913cfc05f689594c8e6b588feae5720f3986728af3c20ca2e1245d153cf903", func := "loop.example/g00854/laws.FnExactNorthSouthScore", spec := "fnExactNorthSouthScore", apart := false }
def FnExactNorthSouthScoreSaid : Prop := fnExactNorthSouthScoreRow.holds Try.pinned (OpenSpec.ofChange fnExactNorthSouthScoreSpec)

/-- ITS FALSE NEIGHBOUR: 'it returns false'. Refute it at one input. -/
def fnExactNorthSouthScoreWrong : ChangeSpec := { name := "fnExactNorthSouthScore", fn := fun _ => fun
  | [d1, d2, d3] => { results := [.lit (.bool false)], args := [d1, d2, d3] }
  | _ => none }
def FnExactNorthSouthScoreWrongFalsely : Prop := fnExactNorthSouthScoreRow.holds Try.pinned (OpenSpec.ofChange fnExactNorthSouthScoreWrong)

/-- 'laws.FnExactAllScores': WHATEVER THE INPUT: true; the input reads as it did. -/
def fnExactAllScoresSpec : ChangeSpec := { name := "fnExactAllScores", fn := fun _ => fun
  | [d1, d2] => { results := [.lit (.bool true)], args := [d1, d2] }
  | _ => none }
def fnExactAllScoresRow : OpenClaim := { program := "ytlcmikhaejfnnaa", sum := "3e913cfc05f689594c8e6b588feae5720f3986728af3c20ca2e1245d153cf903", func := "loop.example/g00854/laws.FnExactAllScores", spec := "fnExactAllScores", apart := false }
def FnExactAllScoresSaid : Prop := fnExactAllScoresRow.holds Try.pinned (OpenSpec.ofChange fnExactAllScoresSpec)

/-- ITS FALSE NEIGHBOUR: 'it returns false'. Refute it at one input. -/
def fnExactAllScoresWrong : ChangeSpec := { name := "fnExactAllScores", fn := fun _ => fun
  | [d1, d2] => { results := [.lit (.bool false)], args := [d1, d2] }
  | _ => none }
def FnExactAllScoresWrongFalsely : Prop := fnExactAllScoresRow.holds Try.pinned (OpenSpec.ofChange fnExactAllScoresWrong)

/-- 'laws.FnMade': WHATEVER THE INPUT: true; the input reads as it did. -/
def fnMadeSpec : ChangeSpec := { name := "fnMade", fn := fun _ => fun
  | [d] => { results := [.lit (.bool true)], args := [d] }
  | _ => none }
def fnMadeRow : OpenClaim := { program := "ytlcmikhaejfnnaa", sum := "3e913cfc05f689594c8e6b588feae5720f3986728af3c20ca2e1245d153cf903", func := "loop.example/g00854/laws.FnMade", spec := "fnMade", apart := false }
def FnMadeSaid : Prop := fnMadeRow.holds Try.pinned (OpenSpec.ofChange fnMadeSpec)

/-- ITS FALSE NEIGHBOUR: 'it returns false'. Refute it at one input. -/
def fnMadeWrong : ChangeSpec := { name := "fnMade", fn := fun _ => fun
  | [d] => { results := [.lit (.bool false)], args := [d] }
  | _ => none }
def FnMadeWrongFalsely : Prop := fnMadeRow.holds Try.pinned (OpenSpec.ofChange fnMadeWrong)

/-- 'laws.FnScores': WHATEVER THE INPUT: true; the input reads as it did. -/
def fnScoresSpec : ChangeSpec := { name := "fnScores", fn := fun _ => fun
  | [d] => { results := [.lit (.bool true)], args := [d] }
  | _ => none }
def fnScoresRow : OpenClaim := { program := "ytlcmikhaejfnnaa", sum := "3e913cfc05f689594c8e6b588feae5720f3986728af3c20ca2e1245d153cf903", func := "loop.example/g00854/laws.FnScores", spec := "fnScores", apart := false }
def FnScoresSaid : Prop := fnScoresRow.holds Try.pinned (OpenSpec.ofChange fnScoresSpec)

/-- ITS FALSE NEIGHBOUR: 'it returns false'. Refute it at one input. -/
def fnScoresWrong : ChangeSpec := { name := "fnScores", fn := fun _ => fun
  | [d] => { results := [.lit (.bool false)], args := [d] }
  | _ => none }
def FnScoresWrongFalsely : Prop := fnScoresRow.holds Try.pinned (OpenSpec.ofChange fnScoresWrong)

/- THE SECOND FORM. 'bulk': how many values and letters a reading holds, each counted each time it is reached (what is shared counts as often as it is met; a slice's spare places count too). A statement '..UptoSaid' is the law's where the arguments, and the package variables that the reading takes, are together of bulk at most 1048576: NARROWER than '..Said'. Prove '..Said' where nothing that the law and all that it calls make is longer than what came in: it says more and counts as full. Else prove '..UptoSaid'. A law counts once. -/
mutual
def uptoBulk {H : Type} : DataW H → Nat
  | .lit (.string bytes) => bytes.length + 1
  | .lit _ => 1
  | .nil => 1
  | .ptr d => uptoBulk d + 1
  | .slice elems spare => uptoBulkAll elems + uptoBulkAll spare + 1
  | .agg parts => uptoBulkAll parts + 1
  | .iface _ d => uptoBulk d + 1
  | .map entries => uptoBulkEntries entries + 1
  | .held _ => 1
def uptoBulkAll {H : Type} : List (DataW H) → Nat
  | [] => 0
  | d :: r => uptoBulk d + uptoBulkAll r
def uptoBulkEntries {H : Type} : List (Lit × DataW H) → Nat
  | [] => 0
  | x :: r => uptoBulkEntry x + uptoBulkEntries r
def uptoBulkEntry {H : Type} : Lit × DataW H → Nat
  | (.string bytes, d) => bytes.length + uptoBulk d + 1
  | (_, d) => uptoBulk d + 1
 end
def uptoSmall : (H : Type) → List (DataW H) → Bool := fun _ ds => decide (uptoBulkAll ds ≤ 1048576)
def OpenSpec.upto (s : _root_.Go.ChangeSpec) : _root_.Go.OpenSpec := { _root_.Go.OpenSpec.ofChange s with cond := some uptoSmall }

/-- 'laws.FnDealerTurns', WHERE WHAT IT READS IS OF BULK AT MOST 1048576: true; the input reads as it did. -/
def fnDealerTurnsUptoRow : OpenClaim := { program := "ytlcmikhaejfnnaa", sum := "3e913cfc05f689594c8e6b588feae5720f3986728af3c20ca2e1245d153cf903", func := "loop.example/g00854/laws.FnDealerTurns", spec := "fnDealerTurns", apart := false, narrowed := true }
def FnDealerTurnsUptoSaid : Prop := fnDealerTurnsUptoRow.holds Try.pinned (OpenSpec.upto fnDealerTurnsSpec)

/-- 'laws.FnAuctionContract', WHERE WHAT IT READS IS OF BULK AT MOST 1048576: true; the input reads as it did. -/
def fnAuctionContractUptoRow : OpenClaim := { program := "ytlcmikhaejfnnaa", sum := "3e913cfc05f689594c8e6b588feae5720f3986728af3c20ca2e1245d153cf903", func := "loop.example/g00854/laws.FnAuctionContract", spec := "fnAuctionContract", apart := false, narrowed := true }
def FnAuctionContractUptoSaid : Prop := fnAuctionContractUptoRow.holds Try.pinned (OpenSpec.upto fnAuctionContractSpec)

/-- 'laws.FnAuctionGrows', WHERE WHAT IT READS IS OF BULK AT MOST 1048576: true; the input reads as it did. -/
def fnAuctionGrowsUptoRow : OpenClaim := { program := "ytlcmikhaejfnnaa", sum := "3e913cfc05f689594c8e6b588feae5720f3986728af3c20ca2e1245d153cf903", func := "loop.example/g00854/laws.FnAuctionGrows", spec := "fnAuctionGrows", apart := false, narrowed := true }
def FnAuctionGrowsUptoSaid : Prop := fnAuctionGrowsUptoRow.holds Try.pinned (OpenSpec.upto fnAuctionGrowsSpec)

/-- 'laws.FnExactContractScore', WHERE WHAT IT READS IS OF BULK AT MOST 1048576: true; the input reads as it did. -/
def fnExactContractScoreUptoRow : OpenClaim := { program := "ytlcmikhaejfnnaa", sum := "3e913cfc05f689594c8e6b588feae5720f3986728af3c20ca2e1245d153cf903", func := "loop.example/g00854/laws.FnExactContractScore", spec := "fnExactContractScore", apart := false, narrowed := true }
def FnExactContractScoreUptoSaid : Prop := fnExactContractScoreUptoRow.holds Try.pinned (OpenSpec.upto fnExactContractScoreSpec)

/-- 'laws.FnExactNorthSouthScore', WHERE WHAT IT READS IS OF BULK AT MOST 1048576: true; the input reads as it did. -/
def fnExactNorthSouthScoreUptoRow : OpenClaim := { program := "ytlcmikhaejfnnaa", sum := "3e913cfc05f689594c8e6b588feae5720f3986728af3c20ca2e1245d153cf903", func := "loop.example/g00854/laws.FnExactNorthSouthScore", spec := "fnExactNorthSouthScore", apart := false, narrowed := true }
def FnExactNorthSouthScoreUptoSaid : Prop := fnExactNorthSouthScoreUptoRow.holds Try.pinned (OpenSpec.upto fnExactNorthSouthScoreSpec)

/-- 'laws.FnExactAllScores', WHERE WHAT IT READS IS OF BULK AT MOST 1048576: true; the input reads as it did. -/
def fnExactAllScoresUptoRow : OpenClaim := { program := "ytlcmikhaejfnnaa", sum := "3e913cfc05f689594c8e6b588feae5720f3986728af3c20ca2e1245d153cf903", func := "loop.example/g00854/laws.FnExactAllScores", spec := "fnExactAllScores", apart := false, narrowed := true }
def FnExactAllScoresUptoSaid : Prop := fnExactAllScoresUptoRow.holds Try.pinned (OpenSpec.upto fnExactAllScoresSpec)

/-- 'laws.FnMade', WHERE WHAT IT READS IS OF BULK AT MOST 1048576: true; the input reads as it did. -/
def fnMadeUptoRow : OpenClaim := { program := "ytlcmikhaejfnnaa", sum := "3e913cfc05f689594c8e6b588feae5720f3986728af3c20ca2e1245d153cf903", func := "loop.example/g00854/laws.FnMade", spec := "fnMade", apart := false, narrowed := true }
def FnMadeUptoSaid : Prop := fnMadeUptoRow.holds Try.pinned (OpenSpec.upto fnMadeSpec)

/-- 'laws.FnScores', WHERE WHAT IT READS IS OF BULK AT MOST 1048576: true; the input reads as it did. -/
def fnScoresUptoRow : OpenClaim := { program := "ytlcmikhaejfnnaa", sum := "3e913cfc05f689594c8e6b588feae5720f3986728af3c20ca2e1245d153cf903", func := "loop.example/g00854/laws.FnScores", spec := "fnScores", apart := false, narrowed := true }
def FnScoresUptoSaid : Prop := fnScoresUptoRow.holds Try.pinned (OpenSpec.upto fnScoresSpec)

end Rows
end Go.Proofs.Ytlcmikhaejfnnaa
