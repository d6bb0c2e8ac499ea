/- For all whole numbers of 64 bits the program's BoardDealer answers what the reference's answers. Conditions: the argument is a number of 64 bits. -/
import Derived.Test.YtcmfdngffknnfaaPFnExactBoardDealerx1
import Derived.Test.YtcmfdngffknnfaaKit
namespace Go.Proofs.Ytcmfdngffknnfaa.Pure
open Go.RowKit Go.Proofs.Ytcmfdngffknnfaa.PFnExactBoardDealer Go.Proofs.YtcmfdngffknnfaaW.PrintWords Go.Proofs.YtcmfdngffknnfaaW.PrintLast Go.Proofs.YtcmfdngffknnfaaW.PrintMore Go.Proofs.Ytcmfdngffknnfaa.Kit
set_option linter.unusedVariables false
set_option linter.unusedSimpArgs false

theorem within (a b c : Int) : impl_within.f a b c = some (decide (b ≤ a ∧ a ≤ c)) := by
  unfold impl_within.f
  by_cases h : b ≤ a <;> simp [h]

theorem l01In (a b c : Int) : spec_l01In.f a b c = some (decide (b ≤ a ∧ a ≤ c)) := by
  unfold spec_l01In.f
  by_cases h : b ≤ a <;> simp [h]

theorem FnExactBoardDealer : laws_FnExactBoardDealer.Pure := by
  intro a0 w0
  by_cases h : 1 ≤ a0 ∧ a0 ≤ 1000
  · simp [laws_FnExactBoardDealer.f, spec_BoardDealer.f, impl_BoardDealer.f, impl_isBoard.f, within, l01In, h]
  · simp [laws_FnExactBoardDealer.f, spec_BoardDealer.f, impl_BoardDealer.f, impl_isBoard.f, within, l01In, h]

end Go.Proofs.Ytcmfdngffknnfaa.Pure
