/- For all whole numbers of 64 bits the program's TopOf answers what the reference's answers. Conditions: the argument is a number of 64 bits. -/
import Derived.Test.YtcmfdngffknnfaaPFnExactTopOfx1
import Derived.Test.YtcmfdngffknnfaaKit
namespace Go.Proofs.Ytcmfdngffknnfaa.Pure
open Go.RowKit Go.Proofs.Ytcmfdngffknnfaa.PFnExactTopOf Go.Proofs.YtcmfdngffknnfaaW.PrintWords Go.Proofs.YtcmfdngffknnfaaW.PrintLast Go.Proofs.YtcmfdngffknnfaaW.PrintMore Go.Proofs.Ytcmfdngffknnfaa.Kit
set_option linter.unusedVariables false
set_option linter.unusedSimpArgs false

theorem within (a b c : Int) : impl_within.f a b c = some (decide (b ≤ a ∧ a ≤ c)) := by
  unfold impl_within.f
  by_cases h : b ≤ a <;> simp [h]

theorem l01In (a b c : Int) : spec_l01In.f a b c = some (decide (b ≤ a ∧ a ≤ c)) := by
  unfold spec_l01In.f
  by_cases h : b ≤ a <;> simp [h]

theorem FnExactTopOf : laws_FnExactTopOf.Pure := by
  intro a0 w0
  by_cases h : 0 ≤ a0 ∧ a0 ≤ 60
  · simp [laws_FnExactTopOf.f, spec_TopOf.f, spec_l12Top.f, impl_TopOf.f, impl_topOf.f, within, l01In, h]
  · simp [laws_FnExactTopOf.f, spec_TopOf.f, spec_l12Top.f, impl_TopOf.f, impl_topOf.f, within, l01In, h]

end Go.Proofs.Ytcmfdngffknnfaa.Pure
