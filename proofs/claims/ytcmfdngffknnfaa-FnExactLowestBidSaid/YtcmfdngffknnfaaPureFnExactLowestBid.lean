/- For all whole numbers of 64 bits the program's LowestBid answers what the reference's answers. Conditions: each argument is a number of 64 bits. -/
import Derived.Test.YtcmfdngffknnfaaPFnExactLowestBidx1
import Derived.Test.YtcmfdngffknnfaaKit
namespace Go.Proofs.Ytcmfdngffknnfaa.Pure
open Go.RowKit Go.Proofs.Ytcmfdngffknnfaa.PFnExactLowestBid Go.Proofs.YtcmfdngffknnfaaW.PrintWords Go.Proofs.YtcmfdngffknnfaaW.PrintLast Go.Proofs.YtcmfdngffknnfaaW.PrintMore Go.Proofs.Ytcmfdngffknnfaa.Kit
set_option linter.unusedVariables false
set_option linter.unusedSimpArgs false

theorem within (a b c : Int) : impl_within.f a b c = some (decide (b ≤ a ∧ a ≤ c)) := by
  unfold impl_within.f
  by_cases h : b ≤ a <;> simp [h]

theorem l01In (a b c : Int) : spec_l01In.f a b c = some (decide (b ≤ a ∧ a ≤ c)) := by
  unfold spec_l01In.f
  by_cases h : b ≤ a <;> simp [h]

theorem FnExactLowestBid : laws_FnExactLowestBid.Pure := by
  intro a0 a1 w0 w1
  refine ⟨20, ?_⟩
  by_cases h : 0 ≤ a0 ∧ a0 ≤ 37
  · by_cases h' : 0 ≤ a1 ∧ a1 ≤ 4
    · exact all_fin2 38 5 (P := fun x y => laws_FnExactLowestBid.f 20 x y = some true) (by decide +kernel) h.1 (by omega) h'.1 (by omega)
    · simp [laws_FnExactLowestBid.f, spec_LowestBid.f, spec_LowestBid.j0, spec_IsCall.f, impl_LowestBid.f, impl_LowestBid.j0, impl_IsCall.f, impl_isStrain.f, within, l01In, h, h']
  · simp [laws_FnExactLowestBid.f, spec_LowestBid.f, spec_LowestBid.j0, spec_IsCall.f, impl_LowestBid.f, impl_LowestBid.j0, impl_IsCall.f, impl_isStrain.f, within, l01In, h]

end Go.Proofs.Ytcmfdngffknnfaa.Pure
