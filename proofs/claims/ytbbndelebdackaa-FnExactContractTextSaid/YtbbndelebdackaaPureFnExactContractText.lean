/- For all contracts of four numbers of 64 bits the program's ContractText answers what the reference's answers. Conditions: each field is a number of 64 bits. -/
import Derived.Test.YtbbndelebdackaaPFnExactContractTextx3
import Derived.Test.YtbbndelebdackaaKit
namespace Go.Proofs.Ytbbndelebdackaa.Pure
open Go.RowKit Go.Proofs.Ytbbndelebdackaa.PFnExactContractText Go.Proofs.YtbbndelebdackaaW.PrintWords Go.Proofs.YtbbndelebdackaaW.PrintLast Go.Proofs.YtbbndelebdackaaW.PrintMore Go.Proofs.Ytbbndelebdackaa.Kit
set_option linter.unusedVariables false
set_option linter.unusedSimpArgs false

theorem within (a b c : Int) : impl_within.f a b c = some (decide (b ≤ a ∧ a ≤ c)) := by
  unfold impl_within.f
  by_cases h : b ≤ a <;> simp [h]

theorem l01In (a b c : Int) : spec_l01In.f a b c = some (decide (b ≤ a ∧ a ≤ c)) := by
  unfold spec_l01In.f
  by_cases h : b ≤ a <;> simp [h]

theorem specIsContract (a b c d : Int) : spec_IsContract.f a b c d = some (decide ((a = 0 ∧ b = 0 ∧ c = 0 ∧ d = 0) ∨ (1 ≤ a ∧ a ≤ 7 ∧ 0 ≤ b ∧ b ≤ 4 ∧ 0 ≤ c ∧ c ≤ 2 ∧ 0 ≤ d ∧ d ≤ 3))) := by
  unfold spec_IsContract.f
  by_cases h0 : a = 0 ∧ b = 0 ∧ c = 0 ∧ d = 0
  · simp [h0]
  · rw [if_neg (by simpa using h0)]
    by_cases h1 : 1 ≤ a ∧ a ≤ 7 <;> by_cases h2 : 0 ≤ b ∧ b ≤ 4 <;> by_cases h3 : 0 ≤ c ∧ c ≤ 2 <;> simp [l01In, h0, h1, h2, h3] <;> omega
theorem implIsContract (a b c d : Int) : impl_IsContract.f a b c d = some (decide ((a = 0 ∧ b = 0 ∧ c = 0 ∧ d = 0) ∨ (1 ≤ a ∧ a ≤ 7 ∧ 0 ≤ b ∧ b ≤ 4 ∧ 0 ≤ c ∧ c ≤ 2 ∧ 0 ≤ d ∧ d ≤ 3))) := by
  unfold impl_IsContract.f impl_isPassedOut.f
  rw [Option.bind_some]
  by_cases h0 : a = 0 ∧ b = 0 ∧ c = 0 ∧ d = 0
  · simp [h0]
  · rw [if_neg (by simpa using h0)]
    by_cases h1 : 1 ≤ a ∧ a ≤ 7 <;> by_cases h2 : 0 ≤ b ∧ b ≤ 4 <;> by_cases h3 : 0 ≤ c ∧ c ≤ 2 <;> simp [within, impl_isStrain.f, impl_isSeat.f, h0, h1, h2, h3] <;> omega

theorem implIsBid (c : Int) : impl_isBid.f c = some (decide (3 ≤ c ∧ c ≤ 37)) := by simp [impl_isBid.f, within]
theorem specBid (c : Int) : spec_l06Bid.f c = some (decide (3 ≤ c ∧ c ≤ 37)) := by simp [spec_l06Bid.f, l01In]

theorem callTexts (c : Int) (h0 : 0 ≤ c) (h1 : c ≤ 37) : ∃ t : ByteArray, spec_CallText.f c = some t ∧ impl_CallText.f c = some t ∧ t.size ≤ 2 := by
  have e := all_fin 38 (P := fun c => (spec_CallText.f c).isSome = true ∧ impl_CallText.f c = spec_CallText.f c ∧ ((spec_CallText.f c).getD ByteArray.empty).size ≤ 2) (by decide +kernel) h0 (by omega)
  obtain ⟨e0, e1, e2⟩ := e
  obtain ⟨t, ht⟩ := Option.isSome_iff_exists.1 e0
  rw [ht] at e1 e2
  exact ⟨t, ht, e1, e2⟩
theorem callTexts_out (c : Int) (h : ¬ (0 ≤ c ∧ c ≤ 37)) : spec_CallText.f c = some ⟨#[]⟩ ∧ impl_CallText.f c = some ⟨#[]⟩ := by
  constructor
  · simp [spec_CallText.f, spec_IsCall.f, l01In, h]
  · simp [impl_CallText.f, impl_IsCall.f, within, h]

theorem bidOfs (a b : Int) (ha : 1 ≤ a ∧ a ≤ 7) (hb : 0 ≤ b ∧ b ≤ 4) : spec_BidOf.f a b = some (3 + 5 * (a - 1) + b) ∧ impl_BidOf.f a b = some (3 + 5 * (a - 1) + b) := by
  have e : wrap64 (wrap64 (3 + wrap64 (5 * wrap64 (a - 1))) + b) = 3 + 5 * (a - 1) + b := by
    rw [wrap_id (x := a - 1) (by omega) (by omega), wrap_id (x := 5 * (a - 1)) (by omega) (by omega), wrap_id (x := 3 + 5 * (a - 1)) (by omega) (by omega), wrap_id (by omega) (by omega)]
  constructor
  · simp [spec_BidOf.f, l01In, ha, hb, e]
  · simp [impl_BidOf.f, impl_isStrain.f, within, ha, hb, e]
theorem seatText (d : Int) (h0 : 0 ≤ d) (h1 : d ≤ 3) : ∃ t : ByteArray, spec_l07Seat.f d = some t ∧ (⟨#[78, 69, 83, 87]⟩ : ByteArray).extract d.toNat (wrap64 (d + 1)).toNat = t ∧ t.size ≤ 1 ∧ d ≤ wrap64 (d + 1) ∧ wrap64 (d + 1) ≤ 4 := by
  have e := wrap_id (x := d + 1) (by omega) (by omega)
  refine ⟨_, ?_, rfl, ?_, by omega, by omega⟩
  · unfold spec_l07Seat.f
    rw [if_pos h0, if_pos (by omega), if_pos (by omega)]
  · rw [ByteArray.size_extract]
    omega
theorem FnExactContractText (a b c d : Int) (w0 : (Lit.int .i64 a).wf = true) (w1 : (Lit.int .i64 b).wf = true) (w2 : (Lit.int .i64 c).wf = true) (w3 : (Lit.int .i64 d).wf = true) : laws_FnExactContractText.f a b c d = some true := by
  unfold laws_FnExactContractText.f laws_toContract.f
  rw [Option.bind_some]
  have key : ∃ t, spec_ContractText.f a b c d = some t ∧ impl_ContractText.f a b c d = some t := by
    unfold spec_ContractText.f impl_ContractText.f
    rw [specIsContract, implIsContract, Option.bind_some, Option.bind_some]
    by_cases h0 : a = 0 ∧ b = 0 ∧ c = 0 ∧ d = 0
    · simp [h0, impl_isPassedOut.f]
    · by_cases h : 1 ≤ a ∧ a ≤ 7 ∧ 0 ≤ b ∧ b ≤ 4 ∧ 0 ≤ c ∧ c ≤ 2 ∧ 0 ≤ d ∧ d ≤ 3
      · obtain ⟨e1, e2⟩ := bidOfs a b (by omega) (by omega)
        obtain ⟨t, t1, t2, t3⟩ := callTexts (3 + 5 * (a - 1) + b) (by omega) (by omega)
        obtain ⟨s, s1, s2, s3, s4, s5⟩ := seatText d (by omega) (by omega)
        have hx : ((⟨#[88, 88]⟩ : ByteArray).extract 0 c.toNat).size ≤ 2 := by rw [ByteArray.size_extract]; show min _ 2 - 0 ≤ 2; omega
        have hy : (t ++ (⟨#[88, 88]⟩ : ByteArray).extract 0 c.toNat).size ≤ 4 := by rw [ByteArray.size_append]; omega
        refine ⟨(t ++ (⟨#[88, 88]⟩ : ByteArray).extract 0 c.toNat) ++ s, ?_, ?_⟩
        · rw [if_pos (by simp [h]), if_neg (by omega), e1, Option.bind_some, t1, Option.bind_some, if_pos (by omega), if_pos (by omega), if_pos (by omega), s1, Option.bind_some, if_pos (by omega)]
        · rw [if_pos (by simp [h])]
          unfold impl_isPassedOut.f
          rw [Option.bind_some, if_neg (by simpa using h0), e2, Option.bind_some, t2, Option.bind_some, if_pos (by omega), if_pos (by omega), if_pos (by omega), if_pos (by omega), if_pos s4, if_pos s5, s2, if_pos (by omega)]
      · exact ⟨⟨#[]⟩, by rw [if_neg (by simp; omega)], by rw [if_neg (by simp; omega)]⟩
  obtain ⟨t, h1, h2⟩ := key
  rw [h1, Option.bind_some, Option.bind_some, h2]
  simp

end Go.Proofs.Ytbbndelebdackaa.Pure
