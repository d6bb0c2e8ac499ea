/- For all whole numbers of 64 bits the program's StrainOf answers what the reference's answers. Conditions: the argument is a number of 64 bits. -/
import Derived.Test.YtcmfdngffknnfaaPFnExactStrainOfx1
import Derived.Test.YtcmfdngffknnfaaKit
namespace Go.Proofs.Ytcmfdngffknnfaa.Pure
open Go.RowKit Go.Proofs.Ytcmfdngffknnfaa.PFnExactStrainOf Go.Proofs.YtcmfdngffknnfaaW.PrintWords Go.Proofs.YtcmfdngffknnfaaW.PrintLast Go.Proofs.YtcmfdngffknnfaaW.PrintMore Go.Proofs.Ytcmfdngffknnfaa.Kit
set_option linter.unusedVariables false
set_option linter.unusedSimpArgs false

theorem within (a b c : Int) : impl_within.f a b c = some (decide (b ≤ a ∧ a ≤ c)) := by
  unfold impl_within.f
  by_cases h : b ≤ a <;> simp [h]

theorem l01In (a b c : Int) : spec_l01In.f a b c = some (decide (b ≤ a ∧ a ≤ c)) := by
  unfold spec_l01In.f
  by_cases h : b ≤ a <;> simp [h]

theorem FnExactStrainOf : laws_FnExactStrainOf.Pure := by
  intro a0 w0
  by_cases h : 3 ≤ a0 ∧ a0 ≤ 37
  · simp [laws_FnExactStrainOf.f, spec_StrainOf.f, spec_l06Bid.f, impl_StrainOf.f, impl_isBid.f, within, l01In, h]
  · simp [laws_FnExactStrainOf.f, spec_StrainOf.f, spec_l06Bid.f, impl_StrainOf.f, impl_isBid.f, within, l01In, h]

end Go.Proofs.Ytcmfdngffknnfaa.Pure
