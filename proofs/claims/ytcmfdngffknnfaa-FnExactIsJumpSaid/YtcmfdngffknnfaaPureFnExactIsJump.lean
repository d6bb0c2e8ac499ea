/- For all whole numbers of 64 bits the program's IsJump answers what the reference's answers. Conditions: each argument is a number of 64 bits. -/
import Derived.Test.YtcmfdngffknnfaaPFnExactIsJumpx1
import Derived.Test.YtcmfdngffknnfaaKit
namespace Go.Proofs.Ytcmfdngffknnfaa.Pure
open Go.RowKit Go.Proofs.Ytcmfdngffknnfaa.PFnExactIsJump Go.Proofs.YtcmfdngffknnfaaW.PrintWords Go.Proofs.YtcmfdngffknnfaaW.PrintLast Go.Proofs.YtcmfdngffknnfaaW.PrintMore Go.Proofs.Ytcmfdngffknnfaa.Kit
set_option linter.unusedVariables false
set_option linter.unusedSimpArgs false

theorem within (a b c : Int) : impl_within.f a b c = some (decide (b ≤ a ∧ a ≤ c)) := by
  unfold impl_within.f
  by_cases h : b ≤ a <;> simp [h]

theorem l01In (a b c : Int) : spec_l01In.f a b c = some (decide (b ≤ a ∧ a ≤ c)) := by
  unfold spec_l01In.f
  by_cases h : b ≤ a <;> simp [h]

theorem FnExactIsJump : laws_FnExactIsJump.Pure := by
  intro a0 a1 w0 w1
  refine ⟨20, ?_⟩
  by_cases h : 3 ≤ a0 ∧ a0 ≤ 37
  · by_cases h' : 3 ≤ a1 ∧ a1 ≤ 37
    · exact all_fin2 38 38 (P := fun x y => laws_FnExactIsJump.f 20 x y = some true) (by decide +kernel) (by omega) (by omega) (by omega) (by omega)
    · simp [laws_FnExactIsJump.f, spec_IsJump.f, spec_l06Bid.f, impl_IsJump.f, impl_isBid.f, within, l01In, h, h']
  · simp [laws_FnExactIsJump.f, spec_IsJump.f, spec_l06Bid.f, impl_IsJump.f, impl_isBid.f, within, l01In, h]

end Go.Proofs.Ytcmfdngffknnfaa.Pure
