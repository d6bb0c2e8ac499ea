/- For all contracts of four numbers of 64 bits the program's IsContract answers what the reference's answers. Conditions: each field is a number of 64 bits. -/
import Derived.Test.YtcmfdngffknnfaaPFnExactIsContractx2
import Derived.Test.YtcmfdngffknnfaaKit
namespace Go.Proofs.Ytcmfdngffknnfaa.Pure
open Go.RowKit Go.Proofs.Ytcmfdngffknnfaa.PFnExactIsContract Go.Proofs.YtcmfdngffknnfaaW.PrintWords Go.Proofs.YtcmfdngffknnfaaW.PrintLast Go.Proofs.YtcmfdngffknnfaaW.PrintMore Go.Proofs.Ytcmfdngffknnfaa.Kit
set_option linter.unusedVariables false
set_option linter.unusedSimpArgs false

theorem within (a b c : Int) : impl_within.f a b c = some (decide (b ≤ a ∧ a ≤ c)) := by
  unfold impl_within.f
  by_cases h : b ≤ a <;> simp [h]

theorem l01In (a b c : Int) : spec_l01In.f a b c = some (decide (b ≤ a ∧ a ≤ c)) := by
  unfold spec_l01In.f
  by_cases h : b ≤ a <;> simp [h]

theorem specIsContract (a b c d : Int) : spec_IsContract.f a b c d = some (decide ((a = 0 ∧ b = 0 ∧ c = 0 ∧ d = 0) ∨ (1 ≤ a ∧ a ≤ 7 ∧ 0 ≤ b ∧ b ≤ 4 ∧ 0 ≤ c ∧ c ≤ 2 ∧ 0 ≤ d ∧ d ≤ 3))) := by
  unfold spec_IsContract.f
  by_cases h0 : a = 0 ∧ b = 0 ∧ c = 0 ∧ d = 0
  · simp [h0]
  · rw [if_neg (by simpa using h0)]
    by_cases h1 : 1 ≤ a ∧ a ≤ 7 <;> by_cases h2 : 0 ≤ b ∧ b ≤ 4 <;> by_cases h3 : 0 ≤ c ∧ c ≤ 2 <;> simp [l01In, h0, h1, h2, h3] <;> omega
theorem implIsContract (a b c d : Int) : impl_IsContract.f a b c d = some (decide ((a = 0 ∧ b = 0 ∧ c = 0 ∧ d = 0) ∨ (1 ≤ a ∧ a ≤ 7 ∧ 0 ≤ b ∧ b ≤ 4 ∧ 0 ≤ c ∧ c ≤ 2 ∧ 0 ≤ d ∧ d ≤ 3))) := by
  unfold impl_IsContract.f impl_isPassedOut.f
  rw [Option.bind_some]
  by_cases h0 : a = 0 ∧ b = 0 ∧ c = 0 ∧ d = 0
  · simp [h0]
  · rw [if_neg (by simpa using h0)]
    by_cases h1 : 1 ≤ a ∧ a ≤ 7 <;> by_cases h2 : 0 ≤ b ∧ b ≤ 4 <;> by_cases h3 : 0 ≤ c ∧ c ≤ 2 <;> simp [within, impl_isStrain.f, impl_isSeat.f, h0, h1, h2, h3] <;> omega

theorem FnExactIsContract (a b c d : Int) (w0 : (Lit.int .i64 a).wf = true) (w1 : (Lit.int .i64 b).wf = true) (w2 : (Lit.int .i64 c).wf = true) (w3 : (Lit.int .i64 d).wf = true) : laws_FnExactIsContract.f a b c d = some true := by
  simp [laws_FnExactIsContract.f, laws_toContract.f, specIsContract, implIsContract]

end Go.Proofs.Ytcmfdngffknnfaa.Pure
