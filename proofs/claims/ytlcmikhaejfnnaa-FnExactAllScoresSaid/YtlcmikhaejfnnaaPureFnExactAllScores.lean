/- For all contracts and numbers the program's AllScores answers what the reference's answers, in memory of its own. Conditions: each number is one of 64 bits. -/
import Derived.Test.YtlcmikhaejfnnaaPFnExactAllScoresx7
import Derived.Test.YtlcmikhaejfnnaaKit
import Derived.Test.YtlcmikhaejfnnaaSco
namespace Go.Proofs.Ytlcmikhaejfnnaa.Pure
open Go.RowKit Go.Proofs.Ytlcmikhaejfnnaa.PFnExactAllScores Go.Proofs.YtlcmikhaejfnnaaW.PrintWords Go.Proofs.YtlcmikhaejfnnaaW.PrintLast Go.Proofs.YtlcmikhaejfnnaaW.PrintMore Go.Proofs.Ytlcmikhaejfnnaa.Kit Go.Proofs.Ytlcmikhaejfnnaa.Sco
set_option linter.unusedVariables false
set_option linter.unusedSimpArgs false

theorem within (a b c : Int) : impl_within.f a b c = some (decide (b ≤ a ∧ a ≤ c)) := by
  unfold impl_within.f
  by_cases h : b ≤ a <;> simp [h]

theorem l01In (a b c : Int) : spec_l01In.f a b c = some (decide (b ≤ a ∧ a ≤ c)) := by
  unfold spec_l01In.f
  by_cases h : b ≤ a <;> simp [h]

theorem specIsContract (a b c d : Int) : spec_IsContract.f a b c d = some (decide ((a = 0 ∧ b = 0 ∧ c = 0 ∧ d = 0) ∨ (1 ≤ a ∧ a ≤ 7 ∧ 0 ≤ b ∧ b ≤ 4 ∧ 0 ≤ c ∧ c ≤ 2 ∧ 0 ≤ d ∧ d ≤ 3))) := by
  unfold spec_IsContract.f
  by_cases h0 : a = 0 ∧ b = 0 ∧ c = 0 ∧ d = 0
  · simp [h0]
  · rw [if_neg (by simpa using h0)]
    by_cases h1 : 1 ≤ a ∧ a ≤ 7 <;> by_cases h2 : 0 ≤ b ∧ b ≤ 4 <;> by_cases h3 : 0 ≤ c ∧ c ≤ 2 <;> simp [l01In, h0, h1, h2, h3] <;> omega
theorem implIsContract (a b c d : Int) : impl_IsContract.f a b c d = some (decide ((a = 0 ∧ b = 0 ∧ c = 0 ∧ d = 0) ∨ (1 ≤ a ∧ a ≤ 7 ∧ 0 ≤ b ∧ b ≤ 4 ∧ 0 ≤ c ∧ c ≤ 2 ∧ 0 ≤ d ∧ d ≤ 3))) := by
  unfold impl_IsContract.f impl_isPassedOut.f
  rw [Option.bind_some]
  by_cases h0 : a = 0 ∧ b = 0 ∧ c = 0 ∧ d = 0
  · simp [h0]
  · rw [if_neg (by simpa using h0)]
    by_cases h1 : 1 ≤ a ∧ a ≤ 7 <;> by_cases h2 : 0 ≤ b ∧ b ≤ 4 <;> by_cases h3 : 0 ≤ c ∧ c ≤ 2 <;> simp [within, impl_isStrain.f, impl_isSeat.f, h0, h1, h2, h3] <;> omega

theorem specMade_any (k : Nat) (v : Bool) (o s a b c d : Int) : spec_l10Made.j0 k v o s a b c d = spec_l10Made.j0 k v o s a b c 0 := by
  have h2 : ∀ (k : Nat) (s : Int), spec_l10Made.j2 k v o s a b c d = spec_l10Made.j2 k v o s a b c 0 := by intro k s; cases k <;> rfl
  have h1 : ∀ (k : Nat) (s : Int), spec_l10Made.j1 k v o s a b c d = spec_l10Made.j1 k v o s a b c 0 := by intro k s; cases k <;> simp only [spec_l10Made.j1, h2]
  cases k <;> simp only [spec_l10Made.j0, h1]
theorem specScore_any (k : Nat) (v : Bool) (a b c d t : Int) : spec_l10Score.f k a b c d v t = spec_l10Score.f k a b c 0 v t := by
  unfold spec_l10Score.f spec_l10Made.f
  simp only [specMade_any k _ _ _ _ _ _ d]
  rfl
theorem implPrem_any (k : Nat) (v : Bool) (t x y a b c d : Int) : impl_premiums.j0 k v t x y a b c d = impl_premiums.j0 k v t x y a b c 0 := by
  cases k <;> rfl
theorem implScore_any (k : Nat) (v : Bool) (a b c d t : Int) (ha : 1 ≤ a) : impl_score.f k a b c d v t = impl_score.f k a b c 0 v t := by
  have e : ∀ d, impl_isPassedOut.f a b c d = some false := by
    intro d
    unfold impl_isPassedOut.f
    have : (a == 0) = false := by simp; omega
    simp [this]
  unfold impl_score.f impl_premiums.f
  simp only [implPrem_any k _ _ _ _ _ _ _ d, e]
  rfl
theorem scoreTable : ∀ (i : Fin 7) (j : Fin 5) (k : Fin 3) (v : Bool) (t : Fin 14), spec_l10Score.f 60 ((i.val : Int) + 1) (j.val : Int) (k.val : Int) 0 v (t.val : Int) = some (scoreM ((i.val : Int) + 1) (j.val : Int) (k.val : Int) v (t.val : Int)) ∧
    impl_score.f 60 ((i.val : Int) + 1) (j.val : Int) (k.val : Int) 0 v (t.val : Int) = some (scoreM ((i.val : Int) + 1) (j.val : Int) (k.val : Int) v (t.val : Int)) := by
  decide +kernel
theorem scoreAt {a b c t : Int} (v : Bool) (ha : 1 ≤ a ∧ a ≤ 7) (hb : 0 ≤ b ∧ b ≤ 4) (hc : 0 ≤ c ∧ c ≤ 2) (ht : 0 ≤ t ∧ t ≤ 13) : spec_l10Score.f 60 a b c 0 v t = some (scoreM a b c v t) ∧ impl_score.f 60 a b c 0 v t = some (scoreM a b c v t) := by
  have e := all_fin 7 (P := fun i => spec_l10Score.f 60 (i + 1) b c 0 v t = some (scoreM (i + 1) b c v t) ∧ impl_score.f 60 (i + 1) b c 0 v t = some (scoreM (i + 1) b c v t))
    (fun i => all_fin3 5 3 14 (P := fun b c t => spec_l10Score.f 60 ((i.val : Int) + 1) b c 0 v t = some (scoreM ((i.val : Int) + 1) b c v t) ∧ impl_score.f 60 ((i.val : Int) + 1) b c 0 v t = some (scoreM ((i.val : Int) + 1) b c v t))
      (fun j k t => scoreTable i j k v t) hb.1 (by omega) hc.1 (by omega) ht.1 (by omega)) (x := a - 1) (by omega) (by omega)
  simpa using e
theorem specScore {a b c d t : Int} (v : Bool) (h : RangesM a b c d) (ht : 0 ≤ t ∧ t ≤ 13) : Ev (fun k => spec_l10Score.f k a b c d v t) (scoreM a b c v t) := by
  obtain ⟨h1, h2, h3, h4, h5, h6, h7, h8⟩ := h
  exact Ev.of (fun k => spec_l10Score.mono _ _ _ _ _ _ _) (k := 60) (by rw [specScore_any]; exact (scoreAt v ⟨h1, h2⟩ ⟨h3, h4⟩ ⟨h5, h6⟩ ht).1)
theorem implScore {a b c d t : Int} (v : Bool) (h : RangesM a b c d) (ht : 0 ≤ t ∧ t ≤ 13) : Ev (fun k => impl_score.f k a b c d v t) (scoreM a b c v t) := by
  obtain ⟨h1, h2, h3, h4, h5, h6, h7, h8⟩ := h
  exact Ev.of (fun k => impl_score.mono _ _ _ _ _ _ _) (k := 60) (by rw [implScore_any _ _ _ _ _ _ _ h1]; exact (scoreAt v ⟨h1, h2⟩ ⟨h3, h4⟩ ⟨h5, h6⟩ ht).2)
/-- The score of any contract. -/
def scoreAny (a b c : Int) (v : Bool) (t : Int) : Int := if a = 0 then 0 else scoreM a b c v t
theorem specScoreAny {a b c d t : Int} (v : Bool) (h : PassedM a b c d ∨ RangesM a b c d) (ht : 0 ≤ t ∧ t ≤ 13) : Ev (fun k => spec_l10Score.f k a b c d v t) (scoreAny a b c v t) := by
  unfold scoreAny
  rcases h with ⟨rfl, rfl, rfl, rfl⟩ | h
  · rw [if_pos rfl]
    exact Ev.congr (fun k => rfl) (Ev.now 0)
  · rw [if_neg (by have := h.1; omega)]
    exact specScore v h ht
theorem implScoreAny {a b c d t : Int} (v : Bool) (h : PassedM a b c d ∨ RangesM a b c d) (ht : 0 ≤ t ∧ t ≤ 13) : Ev (fun k => impl_score.f k a b c d v t) (scoreAny a b c v t) := by
  unfold scoreAny
  rcases h with ⟨rfl, rfl, rfl, rfl⟩ | h
  · rw [if_pos rfl]
    exact Ev.congr (fun k => rfl) (Ev.now 0)
  · rw [if_neg (by have := h.1; omega)]
    exact implScore v h ht

theorem specVul (v d : Int) (hd : 0 ≤ d ∧ d ≤ 3) (hv : 0 ≤ v ∧ v ≤ 3) : spec_IsVulnerable.f v d = some (vulM v d) := by
  have e := all_fin2 4 4 (P := fun v d => spec_IsVulnerable.f v d = some (vulM v d)) (by decide +kernel) (x := v) (y := d) hv.1 (by omega) hd.1 (by omega)
  exact e
theorem implVul (v d : Int) (hd : 0 ≤ d ∧ d ≤ 3) (hv : 0 ≤ v ∧ v ≤ 3) : impl_IsVulnerable.f v d = some (vulM v d) := by
  have e := all_fin2 4 4 (P := fun v d => impl_IsVulnerable.f v d = some (vulM v d)) (by decide +kernel) (x := v) (y := d) hv.1 (by omega) hd.1 (by omega)
  exact e
theorem score_bound {a b c d t : Int} (v : Bool) (h : PassedM a b c d ∨ RangesM a b c d) (ht : 0 ≤ t ∧ t ≤ 13) : -10000 ≤ scoreAny a b c v t ∧ scoreAny a b c v t ≤ 10000 := by
  unfold scoreAny
  rcases h with ⟨rfl, rfl, rfl, rfl⟩ | ⟨h1, h2, h3, h4, h5, h6, h7, h8⟩
  · simp
  · rw [if_neg (by omega)]
    have e := all_fin2 8 5 (P := fun a b => ∀ (k : Fin 3) (t : Fin 14) (v : Bool), -10000 ≤ scoreM a b (k.val : Int) v (t.val : Int) ∧ scoreM a b (k.val : Int) v (t.val : Int) ≤ 10000) (by decide +kernel) (x := a) (y := b) (by omega) (by omega) h3 (by omega) ⟨c.toNat, by omega⟩ ⟨t.toNat, by omega⟩ v
    simp only [Int.toNat_of_nonneg h5, Int.toNat_of_nonneg ht.1] at e
    exact e
theorem contract_seat {a b c d : Int} (h : PassedM a b c d ∨ RangesM a b c d) : 0 ≤ d ∧ d ≤ 3 := by
  rcases h with ⟨_, _, _, h⟩ | h
  · omega
  · unfold RangesM at h; omega
/-- The score of North and South. -/
def nsM (a b c d v t : Int) : Int := if d % 2 = 1 then -scoreAny a b c (vulM v d) t else scoreAny a b c (vulM v d) t
theorem specNS {a b c d v t : Int} (h : PassedM a b c d ∨ RangesM a b c d) (hv : 0 ≤ v ∧ v ≤ 3) (ht : 0 ≤ t ∧ t ≤ 13) : Ev (fun k => spec_l10NorthSouth.f k a b c d v t) (nsM a b c d v t) := by
  have hd := contract_seat h
  have hb := score_bound (vulM v d) h ht
  have e : Int.tmod d 2 = d % 2 := Int.tmod_eq_emod_of_nonneg hd.1
  have e2 : wrap64 (-scoreAny a b c (vulM v d) t) = -scoreAny a b c (vulM v d) t := wrap_id (by omega) (by omega)
  unfold spec_l10NorthSouth.f nsM
  refine evb (specVul v d hd hv) (Ev.bind (specScoreAny _ h ht) ?_)
  rw [e, e2]
  by_cases hm : d % 2 = 1
  · refine ifp hm ?_; rw [if_pos hm]; exact Ev.now _
  · refine ifn hm ?_; rw [if_neg hm]; exact Ev.now _
theorem implNS {a b c d v t : Int} (h : PassedM a b c d ∨ RangesM a b c d) (hv : 0 ≤ v ∧ v ≤ 3) (ht : 0 ≤ t ∧ t ≤ 13) : Ev (fun k => impl_northSouth.f k a b c d v t) (nsM a b c d v t) := by
  have hd := contract_seat h
  have hb := score_bound (vulM v d) h ht
  have e : Int.tmod d 2 = d % 2 := Int.tmod_eq_emod_of_nonneg hd.1
  have e2 : wrap64 (-scoreAny a b c (vulM v d) t) = -scoreAny a b c (vulM v d) t := wrap_id (by omega) (by omega)
  unfold impl_northSouth.f nsM
  refine evb (implVul v d hd hv) (Ev.bind (implScoreAny _ h ht) ?_)
  rw [e, e2]
  by_cases hm : d % 2 = 1
  · refine ifp hm ?_; rw [if_pos hm]; exact Ev.now _
  · refine ifn hm ?_; rw [if_neg hm]; exact Ev.now _
theorem contract_yes {a b c d : Int} (h : PassedM a b c d ∨ RangesM a b c d) : spec_IsContract.f a b c d = some true ∧ impl_IsContract.f a b c d = some true := by
  constructor
  · rw [specIsContract]; congr 1; exact decide_eq_true h
  · rw [implIsContract]; congr 1; exact decide_eq_true h
theorem contract_no {a b c d : Int} (h : ¬ (PassedM a b c d ∨ RangesM a b c d)) : spec_IsContract.f a b c d = some false ∧ impl_IsContract.f a b c d = some false := by
  constructor
  · rw [specIsContract]; congr 1; exact decide_eq_false h
  · rw [implIsContract]; congr 1; exact decide_eq_false h

/-- The scores from a number of tricks on. -/
def scoresFrom (a b c d v : Int) (t : Int) : Nat → List Int
  | 0 => []
  | n + 1 => nsM a b c d v t :: scoresFrom a b c d v (t + 1) n
theorem scoresFrom_length (a b c d v : Int) : ∀ (n : Nat) (t : Int), (scoresFrom a b c d v t n).length = n
  | 0, _ => rfl
  | n + 1, t => by simp [scoresFrom, scoresFrom_length a b c d v n]
theorem rd_scores (a b c d v : Int) : ∀ (n : Nat) (t : Int) (i : Nat), i < n → rd (scoresFrom a b c d v t n) (i : Int) = nsM a b c d v (t + i)
  | 0, _, _, h => by omega
  | n + 1, t, 0, _ => by simp [scoresFrom, rd]
  | n + 1, t, i + 1, h => by
    have e := rd_scores a b c d v n (t + 1) i (by omega)
    rw [rd_nat] at e ⊢
    simp only [scoresFrom, List.getD_cons_succ]
    rw [e]
    congr 1
    omega
theorem specAll_l0 {a b c d v : Int} (h : PassedM a b c d ∨ RangesM a b c d) (hv : 0 ≤ v ∧ v ≤ 3) : ∀ (n : Nat) (t : Int) (acc : List Int), 0 ≤ t → t + n = 14 → acc.length ≤ t →
    Ev (fun k => spec_AllScores.l0 k v acc t a b c d) (acc ++ scoresFrom a b c d v t n, 0) := by
  intro n
  induction n with
  | zero =>
    intro t acc h0 hn ha
    refine Ev.step (fun k => by rw [spec_AllScores.l0]) ?_
    simp only [scoresFrom, List.append_nil]
    exact ifn (by omega) (Ev.now _)
  | succ n ih =>
    intro t acc h0 hn ha
    have e1 : wrap64 (t + 1) = t + 1 := wrap_id (by omega) (by omega)
    refine Ev.step (fun k => by rw [spec_AllScores.l0]) ?_
    rw [e1]
    refine ifp (by omega) (Ev.bind (specNS h hv ⟨h0, by omega⟩) (ifp (by omega) ?_))
    have := ih (t + 1) (acc ++ [nsM a b c d v t]) (by omega) (by omega) (by simp; omega)
    simpa [scoresFrom] using this
theorem implAll_l0 {a b c d v : Int} (h : PassedM a b c d ∨ RangesM a b c d) (hv : 0 ≤ v ∧ v ≤ 3) : ∀ (n : Nat) (t : Int) (acc : List Int), 0 ≤ t → t + n = 14 → acc.length ≤ t →
    Ev (fun k => impl_AllScores.l0 k v acc t a b c d) (acc ++ scoresFrom a b c d v t n, 0) := by
  intro n
  induction n with
  | zero =>
    intro t acc h0 hn ha
    refine Ev.step (fun k => by rw [impl_AllScores.l0]) ?_
    simp only [scoresFrom, List.append_nil]
    exact ifn (by omega) (Ev.now _)
  | succ n ih =>
    intro t acc h0 hn ha
    have e1 : wrap64 (t + 1) = t + 1 := wrap_id (by omega) (by omega)
    refine Ev.step (fun k => by rw [impl_AllScores.l0]) ?_
    rw [e1]
    refine ifp (by omega) (Ev.bind (implNS h hv ⟨h0, by omega⟩) (ifp (by omega) ?_))
    have := ih (t + 1) (acc ++ [nsM a b c d v t]) (by omega) (by omega) (by simp; omega)
    simpa [scoresFrom] using this
theorem allScores_both (a b c d v : Int) : ∃ r, Ev (fun k => spec_AllScores.f k a b c d v) r ∧ Ev (fun k => impl_AllScores.f k a b c d v) r ∧ r.1.length ≤ 14 ∧
    (r = ([], 1) ∨ r = ([], 2) ∨ ((PassedM a b c d ∨ RangesM a b c d) ∧ (0 ≤ v ∧ v ≤ 3) ∧ r = (scoresFrom a b c d v 0 14, 0))) := by
  unfold spec_AllScores.f impl_AllScores.f impl_isVul.f
  by_cases h : PassedM a b c d ∨ RangesM a b c d
  · obtain ⟨hs, hi⟩ := contract_yes h
    by_cases hv : 0 ≤ v ∧ v ≤ 3
    · refine ⟨(scoresFrom a b c d v 0 14, 0), evb hs (ifp rfl (evb (l01In _ _ _) (ifp (by simpa using hv) ?_))), evb hi (ifp rfl (evb (by rw [within]; rfl) (ifp (by simpa using hv) ?_))), by simp [scoresFrom_length], .inr (.inr ⟨h, hv, rfl⟩)⟩
      · simpa using specAll_l0 h hv 14 0 [] (by omega) (by omega) (by simp)
      · simpa using implAll_l0 h hv 14 0 [] (by omega) (by omega) (by simp)
    · exact ⟨([], 2), evb hs (ifp rfl (evb (l01In _ _ _) (ifn (by simpa using hv) (Ev.now _)))), evb hi (ifp rfl (evb (by rw [within]; rfl) (ifn (by simpa using hv) (Ev.now _)))), by simp, .inr (.inl rfl)⟩
  · obtain ⟨hs, hi⟩ := contract_no h
    exact ⟨([], 1), evb hs (ifn (by decide) (Ev.now _)), evb hi (ifn (by decide) (Ev.now _)), by simp, .inl rfl⟩

theorem eqInts_l0 (a : List Int) (ha : a.length ≤ 4611686018427387904) : ∀ (d : Nat) (i : Int), 0 ≤ i → i + d = a.length → Ev (fun k => laws_eqInt64S.l0 k a a i) true := by
  intro d
  induction d with
  | zero =>
    intro i h0 hd
    refine Ev.step (fun k => by rw [laws_eqInt64S.l0]) ?_
    exact ifn (by omega) (Ev.now _)
  | succ d ih =>
    intro i h0 hd
    have e1 : wrap64 (i + 1) = i + 1 := wrap_id (by omega) (by omega)
    refine Ev.step (fun k => by rw [laws_eqInt64S.l0]) ?_
    rw [e1]
    exact ifp (by omega) (ifp h0 (ifp (by omega) (ifp rfl (ih (i + 1) (by omega) (by omega)))))
theorem eqInts (a : List Int) (ha : a.length ≤ 4611686018427387904) : Ev (fun k => laws_eqInt64S.f k a a) true := by
  unfold laws_eqInt64S.f
  exact ifp rfl (eqInts_l0 a ha a.length 0 (by omega) (by omega))

theorem markInts_l0 (l : List Int) (hl : l.length ≤ 1048576) (a : Int) (ha0 : -1000000000 ≤ a) (ha1 : a ≤ 1000000000) : ∀ (d i : Nat), i + d = l.length →
    Ev (fun k => laws_markInt64S.l0 k (seqFrom a i ++ l.drop i) (a + (i : Int)) (i : Int)) (a + (l.length : Int), seqFrom a l.length) := by
  intro d
  induction d with
  | zero =>
    intro i hd
    obtain rfl : i = l.length := by omega
    refine Ev.step (fun k => by rw [laws_markInt64S.l0]) ?_
    rw [List.drop_length, List.append_nil]
    exact ifn (by rw [seq_length]; omega) (Ev.now _)
  | succ d ih =>
    intro i hd
    have e1 : wrap64 ((i : Int) + 1) = ((i + 1 : Nat) : Int) := by rw [wrap_id (by omega) (by omega)]; omega
    have e2 : wrap64 (a + (i : Int) + 1) = a + ((i + 1 : Nat) : Int) := by rw [wrap_id (by omega) (by omega)]; omega
    have e3 : (seqFrom a i ++ l.drop i).length = l.length := by simp [seq_length]; omega
    have ih' := ih (i + 1) (by omega)
    refine Ev.step (fun k => by rw [laws_markInt64S.l0]) ?_
    rw [e3, e1, e2, Int.toNat_natCast, set_append_drop _ _ _ _ (seq_length a i) (by omega), ← seq_succ]
    exact ifp (by omega) (ifp (by omega) ih')
theorem markInts (l : List Int) (hl : l.length ≤ 1048576) (a : Int) (ha0 : -1000000000 ≤ a) (ha1 : a ≤ 1000000000) : Ev (fun k => laws_markInt64S.f k l a) (a + (l.length : Int), seqFrom a l.length) := by
  have h := markInts_l0 l hl a ha0 ha1 l.length 0 (by omega)
  simpa [seqFrom, laws_markInt64S.f] using h
theorem heldInts_l0 (n : Nat) (hn : n ≤ 1048576) (a : Int) (ha0 : -1000000000 ≤ a) (ha1 : a ≤ 1000000000) : ∀ (d i : Nat), i + d = n →
    Ev (fun k => laws_heldInt64S.l0 k (seqFrom a n) (a + (i : Int)) (i : Int)) (a + (n : Int)) := by
  intro d
  induction d with
  | zero =>
    intro i hd
    obtain rfl : i = n := by omega
    refine Ev.step (fun k => by rw [laws_heldInt64S.l0]) ?_
    exact ifn (by rw [seq_length]; omega) (Ev.now _)
  | succ d ih =>
    intro i hd
    have e1 : wrap64 ((i : Int) + 1) = ((i + 1 : Nat) : Int) := by rw [wrap_id (by omega) (by omega)]; omega
    have e2 : wrap64 (a + (i : Int) + 1) = a + ((i + 1 : Nat) : Int) := by rw [wrap_id (by omega) (by omega)]; omega
    refine Ev.step (fun k => by rw [laws_heldInt64S.l0]) ?_
    rw [seq_length, e1, e2]
    exact ifp (by omega) (ifp (by omega) (ifp (rd_seq (by omega) (by omega)) (ih (i + 1) (by omega))))
theorem heldInts (n : Nat) (hn : n ≤ 1048576) (a : Int) (ha0 : -1000000000 ≤ a) (ha1 : a ≤ 1000000000) : Ev (fun k => laws_heldInt64S.f k (seqFrom a n) a) (a + (n : Int)) := by
  have h := heldInts_l0 n hn a ha0 ha1 n 0 (by omega)
  simpa [laws_heldInt64S.f] using h

theorem FnExactAllScores (a b c d v : Int) (w0 : (Lit.int .i64 a).wf = true) (w1 : (Lit.int .i64 b).wf = true) (w2 : (Lit.int .i64 c).wf = true) (w3 : (Lit.int .i64 d).wf = true) (w4 : (Lit.int .i64 v).wf = true) : ∃ k, laws_FnExactAllScores.f k a b c d v = some true := by
  refine Ev.rounds ?_
  unfold laws_FnExactAllScores.f
  obtain ⟨r, h1, h2, hl, _⟩ := allScores_both a b c d v
  refine evb rfl (Ev.bind h1 (evb rfl (Ev.bind h2 (Ev.bind (eqInts _ (by omega)) (ifp rfl ?_)))))
  refine Ev.step (fun k => by rw [laws_FnExactAllScores.j0]) (ifn (by simp) ?_)
  refine Ev.bind (markInts _ (by omega) 1 (by omega) (by omega)) ?_
  refine Ev.bind (heldInts _ (by omega) 1 (by omega) (by omega)) ?_
  refine ifn (by omega) (ifp rfl ?_)
  refine evb rfl (Ev.bind h2 (Ev.bind (eqInts _ (by omega)) (ifp rfl ?_)))
  refine Ev.step (fun k => by rw [laws_FnExactAllScores.j1]) (ifn (by simp) ?_)
  refine Ev.bind (heldInts _ (by omega) 1 (by omega) (by omega)) ?_
  exact ifn (by omega) (ifp rfl (Ev.now _))

end Go.Proofs.Ytlcmikhaejfnnaa.Pure
