/- For all contracts and numbers the program's ContractScore answers what the reference's answers. Conditions: each number is one of 64 bits. -/
import Derived.Test.YtlcmikhaejfnnaaPFnExactContractScorex5
import Derived.Test.YtlcmikhaejfnnaaKit
import Derived.Test.YtlcmikhaejfnnaaSco
namespace Go.Proofs.Ytlcmikhaejfnnaa.Pure
open Go.RowKit Go.Proofs.Ytlcmikhaejfnnaa.PFnExactContractScore Go.Proofs.YtlcmikhaejfnnaaW.PrintWords Go.Proofs.YtlcmikhaejfnnaaW.PrintLast Go.Proofs.YtlcmikhaejfnnaaW.PrintMore Go.Proofs.Ytlcmikhaejfnnaa.Kit Go.Proofs.Ytlcmikhaejfnnaa.Sco
set_option linter.unusedVariables false
set_option linter.unusedSimpArgs false

theorem within (a b c : Int) : impl_within.f a b c = some (decide (b ≤ a ∧ a ≤ c)) := by
  unfold impl_within.f
  by_cases h : b ≤ a <;> simp [h]

theorem l01In (a b c : Int) : spec_l01In.f a b c = some (decide (b ≤ a ∧ a ≤ c)) := by
  unfold spec_l01In.f
  by_cases h : b ≤ a <;> simp [h]

theorem specIsContract (a b c d : Int) : spec_IsContract.f a b c d = some (decide ((a = 0 ∧ b = 0 ∧ c = 0 ∧ d = 0) ∨ (1 ≤ a ∧ a ≤ 7 ∧ 0 ≤ b ∧ b ≤ 4 ∧ 0 ≤ c ∧ c ≤ 2 ∧ 0 ≤ d ∧ d ≤ 3))) := by
  unfold spec_IsContract.f
  by_cases h0 : a = 0 ∧ b = 0 ∧ c = 0 ∧ d = 0
  · simp [h0]
  · rw [if_neg (by simpa using h0)]
    by_cases h1 : 1 ≤ a ∧ a ≤ 7 <;> by_cases h2 : 0 ≤ b ∧ b ≤ 4 <;> by_cases h3 : 0 ≤ c ∧ c ≤ 2 <;> simp [l01In, h0, h1, h2, h3] <;> omega
theorem implIsContract (a b c d : Int) : impl_IsContract.f a b c d = some (decide ((a = 0 ∧ b = 0 ∧ c = 0 ∧ d = 0) ∨ (1 ≤ a ∧ a ≤ 7 ∧ 0 ≤ b ∧ b ≤ 4 ∧ 0 ≤ c ∧ c ≤ 2 ∧ 0 ≤ d ∧ d ≤ 3))) := by
  unfold impl_IsContract.f impl_isPassedOut.f
  rw [Option.bind_some]
  by_cases h0 : a = 0 ∧ b = 0 ∧ c = 0 ∧ d = 0
  · simp [h0]
  · rw [if_neg (by simpa using h0)]
    by_cases h1 : 1 ≤ a ∧ a ≤ 7 <;> by_cases h2 : 0 ≤ b ∧ b ≤ 4 <;> by_cases h3 : 0 ≤ c ∧ c ≤ 2 <;> simp [within, impl_isStrain.f, impl_isSeat.f, h0, h1, h2, h3] <;> omega

theorem specMade_any (k : Nat) (v : Bool) (o s a b c d : Int) : spec_l10Made.j0 k v o s a b c d = spec_l10Made.j0 k v o s a b c 0 := by
  have h2 : ∀ (k : Nat) (s : Int), spec_l10Made.j2 k v o s a b c d = spec_l10Made.j2 k v o s a b c 0 := by intro k s; cases k <;> rfl
  have h1 : ∀ (k : Nat) (s : Int), spec_l10Made.j1 k v o s a b c d = spec_l10Made.j1 k v o s a b c 0 := by intro k s; cases k <;> simp only [spec_l10Made.j1, h2]
  cases k <;> simp only [spec_l10Made.j0, h1]
theorem specScore_any (k : Nat) (v : Bool) (a b c d t : Int) : spec_l10Score.f k a b c d v t = spec_l10Score.f k a b c 0 v t := by
  unfold spec_l10Score.f spec_l10Made.f
  simp only [specMade_any k _ _ _ _ _ _ d]
  rfl
theorem implPrem_any (k : Nat) (v : Bool) (t x y a b c d : Int) : impl_premiums.j0 k v t x y a b c d = impl_premiums.j0 k v t x y a b c 0 := by
  cases k <;> rfl
theorem implScore_any (k : Nat) (v : Bool) (a b c d t : Int) (ha : 1 ≤ a) : impl_score.f k a b c d v t = impl_score.f k a b c 0 v t := by
  have e : ∀ d, impl_isPassedOut.f a b c d = some false := by
    intro d
    unfold impl_isPassedOut.f
    have : (a == 0) = false := by simp; omega
    simp [this]
  unfold impl_score.f impl_premiums.f
  simp only [implPrem_any k _ _ _ _ _ _ _ d, e]
  rfl
theorem scoreTable : ∀ (i : Fin 7) (j : Fin 5) (k : Fin 3) (v : Bool) (t : Fin 14), spec_l10Score.f 60 ((i.val : Int) + 1) (j.val : Int) (k.val : Int) 0 v (t.val : Int) = some (scoreM ((i.val : Int) + 1) (j.val : Int) (k.val : Int) v (t.val : Int)) ∧
    impl_score.f 60 ((i.val : Int) + 1) (j.val : Int) (k.val : Int) 0 v (t.val : Int) = some (scoreM ((i.val : Int) + 1) (j.val : Int) (k.val : Int) v (t.val : Int)) := by
  decide +kernel
theorem scoreAt {a b c t : Int} (v : Bool) (ha : 1 ≤ a ∧ a ≤ 7) (hb : 0 ≤ b ∧ b ≤ 4) (hc : 0 ≤ c ∧ c ≤ 2) (ht : 0 ≤ t ∧ t ≤ 13) : spec_l10Score.f 60 a b c 0 v t = some (scoreM a b c v t) ∧ impl_score.f 60 a b c 0 v t = some (scoreM a b c v t) := by
  have e := all_fin 7 (P := fun i => spec_l10Score.f 60 (i + 1) b c 0 v t = some (scoreM (i + 1) b c v t) ∧ impl_score.f 60 (i + 1) b c 0 v t = some (scoreM (i + 1) b c v t))
    (fun i => all_fin3 5 3 14 (P := fun b c t => spec_l10Score.f 60 ((i.val : Int) + 1) b c 0 v t = some (scoreM ((i.val : Int) + 1) b c v t) ∧ impl_score.f 60 ((i.val : Int) + 1) b c 0 v t = some (scoreM ((i.val : Int) + 1) b c v t))
      (fun j k t => scoreTable i j k v t) hb.1 (by omega) hc.1 (by omega) ht.1 (by omega)) (x := a - 1) (by omega) (by omega)
  simpa using e
theorem specScore {a b c d t : Int} (v : Bool) (h : RangesM a b c d) (ht : 0 ≤ t ∧ t ≤ 13) : Ev (fun k => spec_l10Score.f k a b c d v t) (scoreM a b c v t) := by
  obtain ⟨h1, h2, h3, h4, h5, h6, h7, h8⟩ := h
  exact Ev.of (fun k => spec_l10Score.mono _ _ _ _ _ _ _) (k := 60) (by rw [specScore_any]; exact (scoreAt v ⟨h1, h2⟩ ⟨h3, h4⟩ ⟨h5, h6⟩ ht).1)
theorem implScore {a b c d t : Int} (v : Bool) (h : RangesM a b c d) (ht : 0 ≤ t ∧ t ≤ 13) : Ev (fun k => impl_score.f k a b c d v t) (scoreM a b c v t) := by
  obtain ⟨h1, h2, h3, h4, h5, h6, h7, h8⟩ := h
  exact Ev.of (fun k => impl_score.mono _ _ _ _ _ _ _) (k := 60) (by rw [implScore_any _ _ _ _ _ _ _ h1]; exact (scoreAt v ⟨h1, h2⟩ ⟨h3, h4⟩ ⟨h5, h6⟩ ht).2)
/-- The score of any contract. -/
def scoreAny (a b c : Int) (v : Bool) (t : Int) : Int := if a = 0 then 0 else scoreM a b c v t
theorem specScoreAny {a b c d t : Int} (v : Bool) (h : PassedM a b c d ∨ RangesM a b c d) (ht : 0 ≤ t ∧ t ≤ 13) : Ev (fun k => spec_l10Score.f k a b c d v t) (scoreAny a b c v t) := by
  unfold scoreAny
  rcases h with ⟨rfl, rfl, rfl, rfl⟩ | h
  · rw [if_pos rfl]
    exact Ev.congr (fun k => rfl) (Ev.now 0)
  · rw [if_neg (by have := h.1; omega)]
    exact specScore v h ht
theorem implScoreAny {a b c d t : Int} (v : Bool) (h : PassedM a b c d ∨ RangesM a b c d) (ht : 0 ≤ t ∧ t ≤ 13) : Ev (fun k => impl_score.f k a b c d v t) (scoreAny a b c v t) := by
  unfold scoreAny
  rcases h with ⟨rfl, rfl, rfl, rfl⟩ | h
  · rw [if_pos rfl]
    exact Ev.congr (fun k => rfl) (Ev.now 0)
  · rw [if_neg (by have := h.1; omega)]
    exact implScore v h ht

theorem contractScore_both (a b c d : Int) (v : Bool) (t : Int) : ∃ r, Ev (fun k => spec_ContractScore.f k a b c d v t) r ∧ Ev (fun k => impl_ContractScore.f k a b c d v t) r ∧
    (¬ (PassedM a b c d ∨ RangesM a b c d) → r = (0, 1)) ∧ ((PassedM a b c d ∨ RangesM a b c d) → ¬ (0 ≤ t ∧ t ≤ 13) → r = (0, 2)) ∧ ((PassedM a b c d ∨ RangesM a b c d) → (0 ≤ t ∧ t ≤ 13) → r = (scoreAny a b c v t, 0)) := by
  unfold spec_ContractScore.f impl_ContractScore.f impl_areTricks.f
  by_cases h : PassedM a b c d ∨ RangesM a b c d
  · have hs : spec_IsContract.f a b c d = some true := by rw [specIsContract]; congr 1; exact decide_eq_true h
    have hi : impl_IsContract.f a b c d = some true := by rw [implIsContract]; congr 1; exact decide_eq_true h
    by_cases ht : 0 ≤ t ∧ t ≤ 13
    · refine ⟨_, evb hs (ifp rfl (evb (l01In _ _ _) (ifp (by simpa using ht) (Ev.bind (specScoreAny v h ht) (Ev.now _))))), evb hi (ifp rfl (evb (by rw [within]; rfl) (ifp (by simpa using ht) (Ev.bind (implScoreAny v h ht) (Ev.now _))))), fun n => absurd h n, fun _ n => absurd ht n, fun _ _ => rfl⟩
    · refine ⟨_, evb hs (ifp rfl (evb (l01In _ _ _) (ifn (by simpa using ht) (Ev.now _)))), evb hi (ifp rfl (evb (by rw [within]; rfl) (ifn (by simpa using ht) (Ev.now _)))), fun n => absurd h n, fun _ _ => rfl, fun _ n => absurd n ht⟩
  · have hs : spec_IsContract.f a b c d = some false := by rw [specIsContract]; congr 1; exact decide_eq_false h
    have hi : impl_IsContract.f a b c d = some false := by rw [implIsContract]; congr 1; exact decide_eq_false h
    exact ⟨_, evb hs (ifn (by decide) (Ev.now _)), evb hi (ifn (by decide) (Ev.now _)), fun _ => rfl, fun n => absurd n h, fun n => absurd n h⟩

theorem FnExactContractScore (a b c d : Int) (v : Bool) (t : Int) (w0 : (Lit.int .i64 a).wf = true) (w1 : (Lit.int .i64 b).wf = true) (w2 : (Lit.int .i64 c).wf = true) (w3 : (Lit.int .i64 d).wf = true) (w4 : (Lit.int .i64 t).wf = true) : ∃ k, laws_FnExactContractScore.f k a b c d v t = some true := by
  refine Ev.rounds ?_
  unfold laws_FnExactContractScore.f
  obtain ⟨r, h1, h2, _⟩ := contractScore_both a b c d v t
  exact evb rfl (Ev.bind h1 (evb rfl (Ev.bind h2 (ifp rfl (ifp rfl (Ev.now _))))))

end Go.Proofs.Ytlcmikhaejfnnaa.Pure
