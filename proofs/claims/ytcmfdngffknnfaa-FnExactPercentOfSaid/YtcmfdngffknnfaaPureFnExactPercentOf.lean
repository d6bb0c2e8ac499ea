/- For all whole numbers of 64 bits the program's PercentOf answers what the reference's answers. Conditions: each argument is a number of 64 bits. -/
import Derived.Test.YtcmfdngffknnfaaPFnExactPercentOfx1
import Derived.Test.YtcmfdngffknnfaaKit
namespace Go.Proofs.Ytcmfdngffknnfaa.Pure
open Go.RowKit Go.Proofs.Ytcmfdngffknnfaa.PFnExactPercentOf Go.Proofs.YtcmfdngffknnfaaW.PrintWords Go.Proofs.YtcmfdngffknnfaaW.PrintLast Go.Proofs.YtcmfdngffknnfaaW.PrintMore Go.Proofs.Ytcmfdngffknnfaa.Kit
set_option linter.unusedVariables false
set_option linter.unusedSimpArgs false

theorem within (a b c : Int) : impl_within.f a b c = some (decide (b ≤ a ∧ a ≤ c)) := by
  unfold impl_within.f
  by_cases h : b ≤ a <;> simp [h]

theorem l01In (a b c : Int) : spec_l01In.f a b c = some (decide (b ≤ a ∧ a ≤ c)) := by
  unfold spec_l01In.f
  by_cases h : b ≤ a <;> simp [h]

theorem FnExactPercentOf : laws_FnExactPercentOf.Pure := by
  intro a0 a1 w0 w1
  by_cases h : 1 ≤ a1 ∧ a1 ≤ 1000000
  · by_cases h' : 0 ≤ a0 ∧ a0 ≤ wrap64 (10 * a1)
    · have e : wrap64 (2 * a1) ≠ 0 := by unfold wrap64; omega
      simp [laws_FnExactPercentOf.f, spec_PercentOf.f, impl_PercentOf.f, within, l01In, h, h', e]
    · simp [laws_FnExactPercentOf.f, spec_PercentOf.f, impl_PercentOf.f, within, l01In, h, h']
  · simp [laws_FnExactPercentOf.f, spec_PercentOf.f, impl_PercentOf.f, within, l01In, h]

end Go.Proofs.Ytcmfdngffknnfaa.Pure
