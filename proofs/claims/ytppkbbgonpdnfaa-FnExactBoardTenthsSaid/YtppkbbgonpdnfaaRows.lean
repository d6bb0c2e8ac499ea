/-
  No cell of these rows narrows 'for every input' (looked for: loops, veiled, ifaces, maps, wideKeys, modest, calm, conditions, laid).
  DERIVED. THE GIVEN ROWS OF THIS SEAT. 8 by the template 'for every input the law returns true; each argument reads behind the call as it read before'; 0 by the template 'total and deterministic' (their statements: YtppkbbgonpdnfaaTotals.lean).
  GIVEN WITH THE SEED: the statements are not yours to turn. If you find one false, say at which input.
  Laid BY PROGRAM, IN A SANDBOX (cutbox-rows.mjs): the forced cells as the released guide's own fill.sh prints them over the translation 4085288faf6c7e57… (all of the seat's roots in one cut). By AI agents, Wed Nov 11 2026. No macro, syntax, notation, axiom, sorry.
-/
import Derived.Test.YtppkbbgonpdnfaaChecked
import GoSem.Claim
import GoSem.ClaimJoined
import GoSem.ClaimMapViews
import Derived.JoinedTies
import Derived.KernelRfl
namespace Go.Proofs.Ytppkbbgonpdnfaa
/- THE CELL 'sum', in the pinned program and in every row, IS THE sha256 OF THE DUMP (.gsa) THAT YtppkbbgonpdnfaaProg.lean LOADS. Nothing in Lean hashes anything: it is a label: what it is worth is what the hold of that sum in a sandbox is worth. -/
noncomputable def Try.pinned : Pinned := { name := "ytppkbbgonpdnfaa", sum := "4085288faf6c7e570c349e7c13eebf942d7137e029f9f459882667d1cededea0", checked := Try.checked }
namespace Rows
def none {H : Type} : Left H := { results := [], args := [] }

/-- 'laws.FnExactIsEntries': WHATEVER THE INPUT: true; the input reads as it did. -/
def fnExactIsEntriesSpec : ChangeSpec := { name := "fnExactIsEntries", fn := fun _ => fun
  | [d] => { results := [.lit (.bool true)], args := [d] }
  | _ => none }
def fnExactIsEntriesRow : OpenClaim := { program := "ytppkbbgonpdnfaa", sum := "4085288faf6c7e570c349e7c13eebf942d7137e029f9f459882667d1cededea0", func := "loop.example/g00854/laws.FnExactIsEntries", spec := "fnExactIsEntries", unfollowed := true, recurses := true, apart := false }
def FnExactIsEntriesSaid : Prop := fnExactIsEntriesRow.holds Try.pinned (OpenSpec.ofChange fnExactIsEntriesSpec)

/-- ITS FALSE NEIGHBOUR: 'it returns false'. Refute it at one input. -/
def fnExactIsEntriesWrong : ChangeSpec := { name := "fnExactIsEntries", fn := fun _ => fun
  | [d] => { results := [.lit (.bool false)], args := [d] }
  | _ => none }
def FnExactIsEntriesWrongFalsely : Prop := fnExactIsEntriesRow.holds Try.pinned (OpenSpec.ofChange fnExactIsEntriesWrong)

/-- 'laws.FnExactBeatenBy': WHATEVER THE INPUT: true; the input reads as it did. -/
def fnExactBeatenBySpec : ChangeSpec := { name := "fnExactBeatenBy", fn := fun _ => fun
  | [d1, d2] => { results := [.lit (.bool true)], args := [d1, d2] }
  | _ => none }
def fnExactBeatenByRow : OpenClaim := { program := "ytppkbbgonpdnfaa", sum := "4085288faf6c7e570c349e7c13eebf942d7137e029f9f459882667d1cededea0", func := "loop.example/g00854/laws.FnExactBeatenBy", spec := "fnExactBeatenBy", unfollowed := true, recurses := true, apart := false }
def FnExactBeatenBySaid : Prop := fnExactBeatenByRow.holds Try.pinned (OpenSpec.ofChange fnExactBeatenBySpec)

/-- ITS FALSE NEIGHBOUR: 'it returns false'. Refute it at one input. -/
def fnExactBeatenByWrong : ChangeSpec := { name := "fnExactBeatenBy", fn := fun _ => fun
  | [d1, d2] => { results := [.lit (.bool false)], args := [d1, d2] }
  | _ => none }
def FnExactBeatenByWrongFalsely : Prop := fnExactBeatenByRow.holds Try.pinned (OpenSpec.ofChange fnExactBeatenByWrong)

/-- 'laws.FnExactMatchpointsOf': WHATEVER THE INPUT: true; the input reads as it did. -/
def fnExactMatchpointsOfSpec : ChangeSpec := { name := "fnExactMatchpointsOf", fn := fun _ => fun
  | [d] => { results := [.lit (.bool true)], args := [d] }
  | _ => none }
def fnExactMatchpointsOfRow : OpenClaim := { program := "ytppkbbgonpdnfaa", sum := "4085288faf6c7e570c349e7c13eebf942d7137e029f9f459882667d1cededea0", func := "loop.example/g00854/laws.FnExactMatchpointsOf", spec := "fnExactMatchpointsOf", unfollowed := true, recurses := true, apart := false }
def FnExactMatchpointsOfSaid : Prop := fnExactMatchpointsOfRow.holds Try.pinned (OpenSpec.ofChange fnExactMatchpointsOfSpec)

/-- ITS FALSE NEIGHBOUR: 'it returns false'. Refute it at one input. -/
def fnExactMatchpointsOfWrong : ChangeSpec := { name := "fnExactMatchpointsOf", fn := fun _ => fun
  | [d] => { results := [.lit (.bool false)], args := [d] }
  | _ => none }
def FnExactMatchpointsOfWrongFalsely : Prop := fnExactMatchpointsOfRow.holds Try.pinned (OpenSpec.ofChange fnExactMatchpointsOfWrong)

/-- 'laws.FnExactOtherSide': WHATEVER THE INPUT: true; the input reads as it did. -/
def fnExactOtherSideSpec : ChangeSpec := { name := "fnExactOtherSide", fn := fun _ => fun
  | [d] => { results := [.lit (.bool true)], args := [d] }
  | _ => none }
def fnExactOtherSideRow : OpenClaim := { program := "ytppkbbgonpdnfaa", sum := "4085288faf6c7e570c349e7c13eebf942d7137e029f9f459882667d1cededea0", func := "loop.example/g00854/laws.FnExactOtherSide", spec := "fnExactOtherSide", unfollowed := true, recurses := true, apart := false }
def FnExactOtherSideSaid : Prop := fnExactOtherSideRow.holds Try.pinned (OpenSpec.ofChange fnExactOtherSideSpec)

/-- ITS FALSE NEIGHBOUR: 'it returns false'. Refute it at one input. -/
def fnExactOtherSideWrong : ChangeSpec := { name := "fnExactOtherSide", fn := fun _ => fun
  | [d] => { results := [.lit (.bool false)], args := [d] }
  | _ => none }
def FnExactOtherSideWrongFalsely : Prop := fnExactOtherSideRow.holds Try.pinned (OpenSpec.ofChange fnExactOtherSideWrong)

/-- 'laws.FnMatchpoints': WHATEVER THE INPUT: true; the input reads as it did. -/
def fnMatchpointsSpec : ChangeSpec := { name := "fnMatchpoints", fn := fun _ => fun
  | [d] => { results := [.lit (.bool true)], args := [d] }
  | _ => none }
def fnMatchpointsRow : OpenClaim := { program := "ytppkbbgonpdnfaa", sum := "4085288faf6c7e570c349e7c13eebf942d7137e029f9f459882667d1cededea0", func := "loop.example/g00854/laws.FnMatchpoints", spec := "fnMatchpoints", unfollowed := true, recurses := true, apart := false }
def FnMatchpointsSaid : Prop := fnMatchpointsRow.holds Try.pinned (OpenSpec.ofChange fnMatchpointsSpec)

/-- ITS FALSE NEIGHBOUR: 'it returns false'. Refute it at one input. -/
def fnMatchpointsWrong : ChangeSpec := { name := "fnMatchpoints", fn := fun _ => fun
  | [d] => { results := [.lit (.bool false)], args := [d] }
  | _ => none }
def FnMatchpointsWrongFalsely : Prop := fnMatchpointsRow.holds Try.pinned (OpenSpec.ofChange fnMatchpointsWrong)

/-- 'laws.FnExactBoardTenths': WHATEVER THE INPUT: true; the input reads as it did. -/
def fnExactBoardTenthsSpec : ChangeSpec := { name := "fnExactBoardTenths", fn := fun _ => fun
  | [d] => { results := [.lit (.bool true)], args := [d] }
  | _ => none }
def fnExactBoardTenthsRow : OpenClaim := { program := "ytppkbbgonpdnfaa", sum := "4085288faf6c7e570c349e7c13eebf942d7137e029f9f459882667d1cededea0", func := "loop.example/g00854/laws.FnExactBoardTenths", spec := "fnExactBoardTenths", unfollowed := true, recurses := true, apart := false }
def FnExactBoardTenthsSaid : Prop := fnExactBoardTenthsRow.holds Try.pinned (OpenSpec.ofChange fnExactBoardTenthsSpec)

/-- ITS FALSE NEIGHBOUR: 'it returns false'. Refute it at one input. -/
def fnExactBoardTenthsWrong : ChangeSpec := { name := "fnExactBoardTenths", fn := fun _ => fun
  | [d] => { results := [.lit (.bool false)], args := [d] }
  | _ => none }
def FnExactBoardTenthsWrongFalsely : Prop := fnExactBoardTenthsRow.holds Try.pinned (OpenSpec.ofChange fnExactBoardTenthsWrong)

/-- 'laws.FnTenths': WHATEVER THE INPUT: true; the input reads as it did. -/
def fnTenthsSpec : ChangeSpec := { name := "fnTenths", fn := fun _ => fun
  | [d] => { results := [.lit (.bool true)], args := [d] }
  | _ => none }
def fnTenthsRow : OpenClaim := { program := "ytppkbbgonpdnfaa", sum := "4085288faf6c7e570c349e7c13eebf942d7137e029f9f459882667d1cededea0", func := "loop.example/g00854/laws.FnTenths", spec := "fnTenths", unfollowed := true, recurses := true, apart := false }
def FnTenthsSaid : Prop := fnTenthsRow.holds Try.pinned (OpenSpec.ofChange fnTenthsSpec)

/-- ITS FALSE NEIGHBOUR: 'it returns false'. Refute it at one input. -/
def fnTenthsWrong : ChangeSpec := { name := "fnTenths", fn := fun _ => fun
  | [d] => { results := [.lit (.bool false)], args := [d] }
  | _ => none }
def FnTenthsWrongFalsely : Prop := fnTenthsRow.holds Try.pinned (OpenSpec.ofChange fnTenthsWrong)

/-- 'laws.FnExactSessionTotals': WHATEVER THE INPUT: true; the input reads as it did. -/
def fnExactSessionTotalsSpec : ChangeSpec := { name := "fnExactSessionTotals", fn := fun _ => fun
  | [d] => { results := [.lit (.bool true)], args := [d] }
  | _ => none }
def fnExactSessionTotalsRow : OpenClaim := { program := "ytppkbbgonpdnfaa", sum := "4085288faf6c7e570c349e7c13eebf942d7137e029f9f459882667d1cededea0", func := "loop.example/g00854/laws.FnExactSessionTotals", spec := "fnExactSessionTotals", unfollowed := true, recurses := true, apart := false }
def FnExactSessionTotalsSaid : Prop := fnExactSessionTotalsRow.holds Try.pinned (OpenSpec.ofChange fnExactSessionTotalsSpec)

/-- ITS FALSE NEIGHBOUR: 'it returns false'. Refute it at one input. -/
def fnExactSessionTotalsWrong : ChangeSpec := { name := "fnExactSessionTotals", fn := fun _ => fun
  | [d] => { results := [.lit (.bool false)], args := [d] }
  | _ => none }
def FnExactSessionTotalsWrongFalsely : Prop := fnExactSessionTotalsRow.holds Try.pinned (OpenSpec.ofChange fnExactSessionTotalsWrong)

/- THE SECOND FORM. 'bulk': how many values and letters a reading holds, each counted each time it is reached (what is shared counts as often as it is met; a slice's spare places count too). A statement '..UptoSaid' is the law's where the arguments, and the package variables that the reading takes, are together of bulk at most 1048576: NARROWER than '..Said'. Prove '..Said' where nothing that the law and all that it calls make is longer than what came in: it says more and counts as full. Else prove '..UptoSaid'. A law counts once. -/
mutual
def uptoBulk {H : Type} : DataW H → Nat
  | .lit (.string bytes) => bytes.length + 1
  | .lit _ => 1
  | .nil => 1
  | .ptr d => uptoBulk d + 1
  | .slice elems spare => uptoBulkAll elems + uptoBulkAll spare + 1
  | .agg parts => uptoBulkAll parts + 1
  | .iface _ d => uptoBulk d + 1
  | .map entries => uptoBulkEntries entries + 1
  | .held _ => 1
def uptoBulkAll {H : Type} : List (DataW H) → Nat
  | [] => 0
  | d :: r => uptoBulk d + uptoBulkAll r
def uptoBulkEntries {H : Type} : List (Lit × DataW H) → Nat
  | [] => 0
  | x :: r => uptoBulkEntry x + uptoBulkEntries r
def uptoBulkEntry {H : Type} : Lit × DataW H → Nat
  | (.string bytes, d) => bytes.length + uptoBulk d + 1
  | (_, d) => uptoBulk d + 1
 end
def uptoSmall : (H : Type) → List (DataW H) → Bool := fun _ ds => decide (uptoBulkAll ds ≤ 1048576)
def OpenSpec.upto (s : _root_.Go.ChangeSpec) : _root_.Go.OpenSpec := { _root_.Go.OpenSpec.ofChange s with cond := some uptoSmall }

/-- 'laws.FnExactIsEntries', WHERE WHAT IT READS IS OF BULK AT MOST 1048576: true; the input reads as it did. -/
def fnExactIsEntriesUptoRow : OpenClaim := { program := "ytppkbbgonpdnfaa", sum := "4085288faf6c7e570c349e7c13eebf942d7137e029f9f459882667d1cededea0", func := "loop.example/g00854/laws.FnExactIsEntries", spec := "fnExactIsEntries", unfollowed := true, recurses := true, apart := false, narrowed := true }
def FnExactIsEntriesUptoSaid : Prop := fnExactIsEntriesUptoRow.holds Try.pinned (OpenSpec.upto fnExactIsEntriesSpec)

/-- 'laws.FnExactBeatenBy', WHERE WHAT IT READS IS OF BULK AT MOST 1048576: true; the input reads as it did. -/
def fnExactBeatenByUptoRow : OpenClaim := { program := "ytppkbbgonpdnfaa", sum := "4085288faf6c7e570c349e7c13eebf942d7137e029f9f459882667d1cededea0", func := "loop.example/g00854/laws.FnExactBeatenBy", spec := "fnExactBeatenBy", unfollowed := true, recurses := true, apart := false, narrowed := true }
def FnExactBeatenByUptoSaid : Prop := fnExactBeatenByUptoRow.holds Try.pinned (OpenSpec.upto fnExactBeatenBySpec)

/-- 'laws.FnExactMatchpointsOf', WHERE WHAT IT READS IS OF BULK AT MOST 1048576: true; the input reads as it did. -/
def fnExactMatchpointsOfUptoRow : OpenClaim := { program := "ytppkbbgonpdnfaa", sum := "4085288faf6c7e570c349e7c13eebf942d7137e029f9f459882667d1cededea0", func := "loop.example/g00854/laws.FnExactMatchpointsOf", spec := "fnExactMatchpointsOf", unfollowed := true, recurses := true, apart := false, narrowed := true }
def FnExactMatchpointsOfUptoSaid : Prop := fnExactMatchpointsOfUptoRow.holds Try.pinned (OpenSpec.upto fnExactMatchpointsOfSpec)

/-- 'laws.FnExactOtherSide', WHERE WHAT IT READS IS OF BULK AT MOST 1048576: true; the input reads as it did. -/
def fnExactOtherSideUptoRow : OpenClaim := { program := "ytppkbbgonpdnfaa", sum := "4085288faf6c7e570c349e7c13eebf942d7137e029f9f459882667d1cededea0", func := "loop.example/g00854/laws.FnExactOtherSide", spec := "fnExactOtherSide", unfollowed := true, recurses := true, apart := false, narrowed := true }
def FnExactOtherSideUptoSaid : Prop := fnExactOtherSideUptoRow.holds Try.pinned (OpenSpec.upto fnExactOtherSideSpec)

/-- 'laws.FnMatchpoints', WHERE WHAT IT READS IS OF BULK AT MOST 1048576: true; the input reads as it did. -/
def fnMatchpointsUptoRow : OpenClaim := { program := "ytppkbbgonpdnfaa", sum := "4085288faf6c7e570c349e7c13eebf942d7137e029f9f459882667d1cededea0", func := "loop.example/g00854/laws.FnMatchpoints", spec := "fnMatchpoints", unfollowed := true, recurses := true, apart := false, narrowed := true }
def FnMatchpointsUptoSaid : Prop := fnMatchpointsUptoRow.holds Try.pinned (OpenSpec.upto fnMatchpointsSpec)

/-- 'laws.FnExactBoardTenths', WHERE WHAT IT READS IS OF BULK AT MOST 1048576: true; the input reads as it did. -/
def fnExactBoardTenthsUptoRow : OpenClaim := { program := "ytppkbbgonpdnfaa", sum := "4085288faf6c7e570c349e7c13eebf942d7137e029f9f459882667d1cededea0", func := "loop.example/g00854/laws.FnExactBoardTenths", spec := "fnExactBoardTenths", unfollowed := true, recurses := true, apart := false, narrowed := true }
def FnExactBoardTenthsUptoSaid : Prop := fnExactBoardTenthsUptoRow.holds Try.pinned (OpenSpec.upto fnExactBoardTenthsSpec)

/-- 'laws.FnTenths', WHERE WHAT IT READS IS OF BULK AT MOST 1048576: true; the input reads as it did. -/
def fnTenthsUptoRow : OpenClaim := { program := "ytppkbbgonpdnfaa", sum := "4085288faf6c7e570c349e7c13eebf942d7137e029f9f459882667d1cededea0", func := "loop.example/g00854/laws.FnTenths", spec := "fnTenths", unfollowed := true, recurses := true, apart := false, narrowed := true }
def FnTenthsUptoSaid : Prop := fnTenthsUptoRow.holds Try.pinned (OpenSpec.upto fnTenthsSpec)

/-- 'laws.FnExactSessionTotals', WHERE WHAT IT READS IS OF BULK AT MOST 1048576: true; the input reads as it did. -/
def fnExactSessionTotalsUptoRow : OpenClaim := { program := "ytppkbbgonpdnfaa", sum := "4085288faf6c7e570c349e7c13eebf942d7137e029f9f459882667d1cededea0", func := "loop.example/g00854/laws.FnExactSessionTotals", spec := "fnExactSessionTotals", unfollowed := true, recurses := true, apart := false, narrowed := true }
def FnExactSessionTotalsUptoSaid : Prop := fnExactSessionTotalsUptoRow.holds Try.pinned (OpenSpec.upto fnExactSessionTotalsSpec)

end Rows
end Go.Proofs.Ytppkbbgonpdnfaa
