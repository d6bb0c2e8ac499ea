/- For all whole numbers of 64 bits the program's IsVulnerable answers what the reference's answers. Conditions: each argument is a number of 64 bits. -/
import Derived.Test.YtcmfdngffknnfaaPFnExactIsVulnerablex1
import Derived.Test.YtcmfdngffknnfaaKit
namespace Go.Proofs.Ytcmfdngffknnfaa.Pure
open Go.RowKit Go.Proofs.Ytcmfdngffknnfaa.PFnExactIsVulnerable Go.Proofs.YtcmfdngffknnfaaW.PrintWords Go.Proofs.YtcmfdngffknnfaaW.PrintLast Go.Proofs.YtcmfdngffknnfaaW.PrintMore Go.Proofs.Ytcmfdngffknnfaa.Kit
set_option linter.unusedVariables false
set_option linter.unusedSimpArgs false

theorem within (a b c : Int) : impl_within.f a b c = some (decide (b ≤ a ∧ a ≤ c)) := by
  unfold impl_within.f
  by_cases h : b ≤ a <;> simp [h]

theorem l01In (a b c : Int) : spec_l01In.f a b c = some (decide (b ≤ a ∧ a ≤ c)) := by
  unfold spec_l01In.f
  by_cases h : b ≤ a <;> simp [h]

theorem FnExactIsVulnerable : laws_FnExactIsVulnerable.Pure := by
  intro a0 a1 w0 w1
  by_cases h : 0 ≤ a0 ∧ a0 ≤ 3
  · by_cases h' : 0 ≤ a1 ∧ a1 ≤ 3
    · exact all_fin2 4 4 (P := fun x y => laws_FnExactIsVulnerable.f x y = some true) (by decide +kernel) h.1 (by omega) h'.1 (by omega)
    · simp [laws_FnExactIsVulnerable.f, spec_IsVulnerable.f, impl_IsVulnerable.f, impl_isVul.f, impl_isSeat.f, within, l01In, h, h']
  · simp [laws_FnExactIsVulnerable.f, spec_IsVulnerable.f, impl_IsVulnerable.f, impl_isVul.f, impl_isSeat.f, within, l01In, h]

end Go.Proofs.Ytcmfdngffknnfaa.Pure
