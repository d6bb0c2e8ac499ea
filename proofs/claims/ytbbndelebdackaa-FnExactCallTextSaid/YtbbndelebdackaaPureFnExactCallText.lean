/- For all whole numbers of 64 bits the program's CallText answers what the reference's answers. Conditions: the argument is a number of 64 bits. -/
import Derived.Test.YtbbndelebdackaaPFnExactCallTextx1
import Derived.Test.YtbbndelebdackaaKit
namespace Go.Proofs.Ytbbndelebdackaa.Pure
open Go.RowKit Go.Proofs.Ytbbndelebdackaa.PFnExactCallText Go.Proofs.YtbbndelebdackaaW.PrintWords Go.Proofs.YtbbndelebdackaaW.PrintLast Go.Proofs.YtbbndelebdackaaW.PrintMore Go.Proofs.Ytbbndelebdackaa.Kit
set_option linter.unusedVariables false
set_option linter.unusedSimpArgs false

theorem within (a b c : Int) : impl_within.f a b c = some (decide (b ≤ a ∧ a ≤ c)) := by
  unfold impl_within.f
  by_cases h : b ≤ a <;> simp [h]

theorem l01In (a b c : Int) : spec_l01In.f a b c = some (decide (b ≤ a ∧ a ≤ c)) := by
  unfold spec_l01In.f
  by_cases h : b ≤ a <;> simp [h]

theorem implIsBid (c : Int) : impl_isBid.f c = some (decide (3 ≤ c ∧ c ≤ 37)) := by simp [impl_isBid.f, within]
theorem specBid (c : Int) : spec_l06Bid.f c = some (decide (3 ≤ c ∧ c ≤ 37)) := by simp [spec_l06Bid.f, l01In]

theorem callTexts (c : Int) (h0 : 0 ≤ c) (h1 : c ≤ 37) : ∃ t : ByteArray, spec_CallText.f c = some t ∧ impl_CallText.f c = some t ∧ t.size ≤ 2 := by
  have e := all_fin 38 (P := fun c => (spec_CallText.f c).isSome = true ∧ impl_CallText.f c = spec_CallText.f c ∧ ((spec_CallText.f c).getD ByteArray.empty).size ≤ 2) (by decide +kernel) h0 (by omega)
  obtain ⟨e0, e1, e2⟩ := e
  obtain ⟨t, ht⟩ := Option.isSome_iff_exists.1 e0
  rw [ht] at e1 e2
  exact ⟨t, ht, e1, e2⟩
theorem callTexts_out (c : Int) (h : ¬ (0 ≤ c ∧ c ≤ 37)) : spec_CallText.f c = some ⟨#[]⟩ ∧ impl_CallText.f c = some ⟨#[]⟩ := by
  constructor
  · simp [spec_CallText.f, spec_IsCall.f, l01In, h]
  · simp [impl_CallText.f, impl_IsCall.f, within, h]

theorem FnExactCallText : laws_FnExactCallText.Pure := by
  intro c w0
  unfold laws_FnExactCallText.f
  by_cases h : 0 ≤ c ∧ c ≤ 37
  · obtain ⟨t, h1, h2, _⟩ := callTexts c h.1 h.2
    rw [h1, h2]
    simp
  · obtain ⟨h1, h2⟩ := callTexts_out c h
    rw [h1, h2]
    simp

end Go.Proofs.Ytbbndelebdackaa.Pure
