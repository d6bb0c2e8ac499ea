/- For all whole numbers of 64 bits and both bools the program's PenaltyPoints answers what the reference's answers. Conditions: each number is one of 64 bits. -/
import Derived.Test.YtcmfdngffknnfaaPFnExactPenaltyPointsx2
import Derived.Test.YtcmfdngffknnfaaKit
namespace Go.Proofs.Ytcmfdngffknnfaa.Pure
open Go.RowKit Go.Proofs.Ytcmfdngffknnfaa.PFnExactPenaltyPoints Go.Proofs.YtcmfdngffknnfaaW.PrintWords Go.Proofs.YtcmfdngffknnfaaW.PrintLast Go.Proofs.YtcmfdngffknnfaaW.PrintMore Go.Proofs.Ytcmfdngffknnfaa.Kit
set_option linter.unusedVariables false
set_option linter.unusedSimpArgs false

theorem within (a b c : Int) : impl_within.f a b c = some (decide (b ≤ a ∧ a ≤ c)) := by
  unfold impl_within.f
  by_cases h : b ≤ a <;> simp [h]

theorem l01In (a b c : Int) : spec_l01In.f a b c = some (decide (b ≤ a ∧ a ≤ c)) := by
  unfold spec_l01In.f
  by_cases h : b ≤ a <;> simp [h]

theorem FnExactPenaltyPoints : laws_FnExactPenaltyPoints.Pure := by
  intro a0 a1 a2 w0 w1
  refine ⟨80, ?_⟩
  by_cases h : 0 ≤ a0 ∧ a0 ≤ 13
  · by_cases h' : 0 ≤ a1 ∧ a1 ≤ 2
    · exact all_fin2 14 3 (P := fun x y => ∀ b, laws_FnExactPenaltyPoints.f 80 x y b = some true) (by decide +kernel) h.1 (by omega) h'.1 (by omega) a2
    · simp [laws_FnExactPenaltyPoints.f, spec_PenaltyPoints.f, impl_PenaltyPoints.f, within, l01In, h, h']
  · simp [laws_FnExactPenaltyPoints.f, spec_PenaltyPoints.f, impl_PenaltyPoints.f, within, l01In, h]

end Go.Proofs.Ytcmfdngffknnfaa.Pure
