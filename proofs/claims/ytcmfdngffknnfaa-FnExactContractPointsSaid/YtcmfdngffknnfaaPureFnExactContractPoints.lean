/- For all contracts of four numbers of 64 bits the program's ContractPoints answers what the reference's answers. Conditions: each field is a number of 64 bits. -/
import Derived.Test.YtcmfdngffknnfaaPFnExactContractPointsx2
import Derived.Test.YtcmfdngffknnfaaKit
namespace Go.Proofs.Ytcmfdngffknnfaa.Pure
open Go.RowKit Go.Proofs.Ytcmfdngffknnfaa.PFnExactContractPoints Go.Proofs.YtcmfdngffknnfaaW.PrintWords Go.Proofs.YtcmfdngffknnfaaW.PrintLast Go.Proofs.YtcmfdngffknnfaaW.PrintMore Go.Proofs.Ytcmfdngffknnfaa.Kit
set_option linter.unusedVariables false
set_option linter.unusedSimpArgs false

theorem within (a b c : Int) : impl_within.f a b c = some (decide (b ≤ a ∧ a ≤ c)) := by
  unfold impl_within.f
  by_cases h : b ≤ a <;> simp [h]

theorem l01In (a b c : Int) : spec_l01In.f a b c = some (decide (b ≤ a ∧ a ≤ c)) := by
  unfold spec_l01In.f
  by_cases h : b ≤ a <;> simp [h]

theorem specIsContract (a b c d : Int) : spec_IsContract.f a b c d = some (decide ((a = 0 ∧ b = 0 ∧ c = 0 ∧ d = 0) ∨ (1 ≤ a ∧ a ≤ 7 ∧ 0 ≤ b ∧ b ≤ 4 ∧ 0 ≤ c ∧ c ≤ 2 ∧ 0 ≤ d ∧ d ≤ 3))) := by
  unfold spec_IsContract.f
  by_cases h0 : a = 0 ∧ b = 0 ∧ c = 0 ∧ d = 0
  · simp [h0]
  · rw [if_neg (by simpa using h0)]
    by_cases h1 : 1 ≤ a ∧ a ≤ 7 <;> by_cases h2 : 0 ≤ b ∧ b ≤ 4 <;> by_cases h3 : 0 ≤ c ∧ c ≤ 2 <;> simp [l01In, h0, h1, h2, h3] <;> omega
theorem implIsContract (a b c d : Int) : impl_IsContract.f a b c d = some (decide ((a = 0 ∧ b = 0 ∧ c = 0 ∧ d = 0) ∨ (1 ≤ a ∧ a ≤ 7 ∧ 0 ≤ b ∧ b ≤ 4 ∧ 0 ≤ c ∧ c ≤ 2 ∧ 0 ≤ d ∧ d ≤ 3))) := by
  unfold impl_IsContract.f impl_isPassedOut.f
  rw [Option.bind_some]
  by_cases h0 : a = 0 ∧ b = 0 ∧ c = 0 ∧ d = 0
  · simp [h0]
  · rw [if_neg (by simpa using h0)]
    by_cases h1 : 1 ≤ a ∧ a ≤ 7 <;> by_cases h2 : 0 ≤ b ∧ b ≤ 4 <;> by_cases h3 : 0 ≤ c ∧ c ≤ 2 <;> simp [within, impl_isStrain.f, impl_isSeat.f, h0, h1, h2, h3] <;> omega

theorem points_same (a b c d : Int) (h : (a = 0 ∧ b = 0 ∧ c = 0 ∧ d = 0) ∨ (1 ≤ a ∧ a ≤ 7 ∧ 0 ≤ b ∧ b ≤ 4 ∧ 0 ≤ c ∧ c ≤ 2 ∧ 0 ≤ d ∧ d ≤ 3)) : ∃ x, spec_l10Points.f a b c d = some x ∧ impl_contractPoints.f a b c d = some x := by
  have e := all_fin3 8 5 3 (P := fun x y z => (∀ d, spec_l10Points.f x y z d = spec_l10Points.f x y z 0) ∧ (spec_l10Points.f x y z 0).isSome = true ∧ impl_contractPoints.f x y z 0 = spec_l10Points.f x y z 0) ?_ (x := a) (y := b) (z := c) (by omega) (by omega) (by omega) (by omega) (by omega) (by omega)
  · obtain ⟨e0, e1, e2⟩ := e
    obtain ⟨x, hx⟩ := Option.isSome_iff_exists.1 e1
    refine ⟨x, by rw [e0, hx], ?_⟩
    have : impl_contractPoints.f a b c d = impl_contractPoints.f a b c 0 := rfl
    rw [this, e2, hx]
  · intro i j k
    refine ⟨fun d => rfl, ?_⟩
    revert i j k
    decide +kernel
theorem FnExactContractPoints (a b c d : Int) (w0 : (Lit.int .i64 a).wf = true) (w1 : (Lit.int .i64 b).wf = true) (w2 : (Lit.int .i64 c).wf = true) (w3 : (Lit.int .i64 d).wf = true) : laws_FnExactContractPoints.f a b c d = some true := by
  by_cases h : (a = 0 ∧ b = 0 ∧ c = 0 ∧ d = 0) ∨ (1 ≤ a ∧ a ≤ 7 ∧ 0 ≤ b ∧ b ≤ 4 ∧ 0 ≤ c ∧ c ≤ 2 ∧ 0 ≤ d ∧ d ≤ 3)
  · obtain ⟨x, h1, h2⟩ := points_same a b c d h
    simp [laws_FnExactContractPoints.f, laws_toContract.f, spec_ContractPoints.f, impl_ContractPoints.f, specIsContract, implIsContract, h, h1, h2]
  · simp [laws_FnExactContractPoints.f, laws_toContract.f, spec_ContractPoints.f, impl_ContractPoints.f, specIsContract, implIsContract, h]

end Go.Proofs.Ytcmfdngffknnfaa.Pure
