/- For all lists of numbers and all places the program's BeatenBy answers what the reference's answers, in memory of its own. Conditions: the numbers are of 64 bits. -/
import Derived.Test.YtppkbbgonpdnfaaPFnExactBeatenByx2
import Derived.Test.YtppkbbgonpdnfaaKit
namespace Go.Proofs.Ytppkbbgonpdnfaa.Pure
open Go.RowKit Go.Proofs.Ytppkbbgonpdnfaa.PFnExactBeatenBy Go.Proofs.YtppkbbgonpdnfaaW.PrintWords Go.Proofs.YtppkbbgonpdnfaaW.PrintLast Go.Proofs.YtppkbbgonpdnfaaW.PrintMore Go.Proofs.Ytppkbbgonpdnfaa.Kit
set_option linter.unusedVariables false
set_option linter.unusedSimpArgs false

theorem l01In (a b c : Int) : spec_l01In.f a b c = some (decide (b ≤ a ∧ a ≤ c)) := by
  unfold spec_l01In.f
  by_cases h : b ≤ a <;> simp [h]

open Go.Proofs.Ytppkbbgonpdnfaa.HScores (okScore)
theorem okScore_iff (x : Int) : okScore x = decide (-100000 ≤ x ∧ x ≤ 100000) := by
  unfold okScore
  rw [Bool.decide_and]
def scoresOk (l : List Int) : Bool := decide (l.length ≤ 60) && l.all okScore
theorem scoresOk_iff (l : List Int) : scoresOk l = true ↔ l.length ≤ 60 ∧ ∀ x ∈ l, -100000 ≤ x ∧ x ≤ 100000 := by
  unfold scoresOk
  simp [okScore_iff, List.all_eq_true]
theorem specScores (l : List Int) (hl : l.length ≤ 4611686018427387904) : Ev (fun k => spec_l12Scores.f k l) (scoresOk l) := by
  unfold spec_l12Scores.f
  have h : ∀ (d i : Nat), i + d = l.length → Ev (fun k => spec_l12Scores.l0 k l (i : Int)) (decide (l.length ≤ 60) && (l.drop i).all okScore) := by
    intro d
    induction d with
    | zero =>
      intro i hd
      refine Ev.step (fun k => by rw [spec_l12Scores.l0]) (ifn (by omega) ?_)
      rw [List.drop_of_length_le (by omega)]
      have e : decide ((l.length : Int) ≤ 60) = decide (l.length ≤ 60) := decide_eq_decide.2 (by omega)
      rw [e, List.all_nil, Bool.and_true]
      exact Ev.now _
    | succ d ih =>
      intro i hd
      have e1 : wrap64 ((i : Int) + 1) = ((i + 1 : Nat) : Int) := by rw [wrap_id (by omega) (by omega)]; omega
      have e2 : l.drop i = rd l i :: l.drop (i + 1) := by
        have := drop_rd (xs := l) (i := (i : Int)) (by omega) (by omega)
        rw [Int.toNat_natCast, show ((i : Int) + 1).toNat = i + 1 by omega] at this
        exact this
      refine Ev.step (fun k => by rw [spec_l12Scores.l0]) (ifp (by omega) (ifp (by omega) (evb (l01In _ _ _) ?_)))
      rw [e1, e2, List.all_cons, okScore_iff]
      by_cases hc : -100000 ≤ rd l i ∧ rd l i ≤ 100000
      · rw [decide_eq_true hc, Bool.true_and]
        exact ifp rfl (ih (i + 1) (by omega))
      · rw [decide_eq_false hc, Bool.false_and, Bool.and_false]
        exact ifn (by simp) (Ev.now _)
  exact h l.length 0 (by omega)
theorem implScores (l : List Int) : impl_areScores.f l = some (scoresOk l) := rfl

theorem within (a b c : Int) : impl_within.f a b c = some (decide (b ≤ a ∧ a ≤ c)) := by
  unfold impl_within.f
  by_cases h : b ≤ a <;> simp [h]

/-- The places below n of the scores above x. -/
def beatTo (l : List Int) (x : Int) : Nat → List Int
  | 0 => []
  | n + 1 => if x < rd l n then beatTo l x n ++ [(n : Int)] else beatTo l x n
theorem beatTo_length (l : List Int) (x : Int) : ∀ n, (beatTo l x n).length ≤ n
  | 0 => by simp [beatTo]
  | n + 1 => by
    have := beatTo_length l x n
    unfold beatTo
    split
    · simp; omega
    · omega
theorem beatenBy_impl (l : List Int) (a : Int) (hl : l.length ≤ 60) (ha : 0 ≤ a ∧ a < l.length) : ∀ (d i : Nat), i + d = l.length →
    Ev (fun k => impl_BeatenBy.l0 k l a (beatTo l (rd l a) i) l (l.length : Int) (i : Int)) (beatTo l (rd l a) l.length, 0) := by
  intro d
  induction d with
  | zero =>
    intro i hd
    obtain rfl : i = l.length := by omega
    exact Ev.step (fun k => by rw [impl_BeatenBy.l0]) (ifn (by omega) (Ev.now _))
  | succ d ih =>
    intro i hd
    have ih' := ih (i + 1) (by omega)
    have hb := beatTo_length l (rd l a) i
    have e1 : wrap64 ((i : Int) + 1) = ((i + 1 : Nat) : Int) := by rw [wrap_id (by omega) (by omega)]; omega
    refine Ev.step (fun k => by rw [impl_BeatenBy.l0]) (ifp (by omega) (ifp (by omega) (ifp (by omega) (ifp (by omega) (ifp (by omega) ?_)))))
    rw [e1]
    by_cases h : rd l a < rd l i
    · rw [beatTo, if_pos h] at ih'
      exact ifp h (ifp (by omega) ih')
    · rw [beatTo, if_neg h] at ih'
      exact ifn h ih'
theorem implBeatenBy (l : List Int) (a : Int) (h : l.length ≤ 1048576) : Ev (fun k => impl_BeatenBy.f k l a) (if scoresOk l = true then if 0 ≤ a ∧ a < l.length then (beatTo l (rd l a) l.length, 0) else ([], 2) else ([], 1)) := by
  unfold impl_BeatenBy.f
  have e0 : wrap64 ((l.length : Int) - 1) = (l.length : Int) - 1 := wrap_id (by omega) (by omega)
  rw [e0]
  by_cases hs : scoresOk l = true
  · have hl := ((scoresOk_iff l).1 hs).1
    rw [if_pos hs]
    refine evb (implScores l) (ifp hs (evb (within _ _ _) ?_))
    by_cases ha : 0 ≤ a ∧ a < l.length
    · rw [if_pos ha]
      exact ifp (by simp; omega) (beatenBy_impl l a hl ha l.length 0 (by omega))
    · rw [if_neg ha]
      exact ifn (by simp; omega) (Ev.now _)
  · rw [if_neg hs]
    exact evb (implScores l) (ifn hs (Ev.now _))

theorem toInts_l0 (l : List Int) (hl : l.length ≤ 1048576) : ∀ (d : Nat) (i : Int), 0 ≤ i → i + d = l.length →
    Ev (fun k => laws_toInt64S.l0 k l (l.take i.toNat ++ (List.replicate l.length (0 : Int)).drop i.toNat) i) l := by
  intro d
  induction d with
  | zero =>
    intro i h0 hd
    refine Ev.step (fun k => by rw [laws_toInt64S.l0]) ?_
    refine ifn (by omega) ?_
    rw [List.take_of_length_le (by omega), List.drop_of_length_le (by simp; omega), List.append_nil]
    exact Ev.now _
  | succ d ih =>
    intro i h0 hd
    have e1 : wrap64 (i + 1) = i + 1 := wrap_id (by omega) (by omega)
    have ih' := ih (i + 1) (by omega) (by omega)
    refine Ev.step (fun k => by rw [laws_toInt64S.l0]) ?_
    rw [e1, set_append_drop _ _ _ _ (by simp; omega) (by simp; omega), ← take_rd h0 (by omega), show i.toNat + 1 = (i + 1).toNat by omega]
    exact ifp (by omega) (ifp h0 (ifp (by simp; omega) ih'))
theorem toInts (l : List Int) (hl : l.length ≤ 1048576) : Ev (fun k => laws_toInt64S.f k l) l := by
  unfold laws_toInt64S.f
  refine ifp (by omega) (ifp (by omega) ?_)
  have := toInts_l0 l hl l.length 0 (by omega) (by omega)
  simpa using this

theorem eqInts_l0 (a : List Int) (ha : a.length ≤ 4611686018427387904) : ∀ (d : Nat) (i : Int), 0 ≤ i → i + d = a.length → Ev (fun k => laws_eqInt64S.l0 k a a i) true := by
  intro d
  induction d with
  | zero =>
    intro i h0 hd
    refine Ev.step (fun k => by rw [laws_eqInt64S.l0]) ?_
    exact ifn (by omega) (Ev.now _)
  | succ d ih =>
    intro i h0 hd
    have e1 : wrap64 (i + 1) = i + 1 := wrap_id (by omega) (by omega)
    refine Ev.step (fun k => by rw [laws_eqInt64S.l0]) ?_
    rw [e1]
    exact ifp (by omega) (ifp h0 (ifp (by omega) (ifp rfl (ih (i + 1) (by omega) (by omega)))))
theorem eqInts (a : List Int) (ha : a.length ≤ 4611686018427387904) : Ev (fun k => laws_eqInt64S.f k a a) true := by
  unfold laws_eqInt64S.f
  exact ifp rfl (eqInts_l0 a ha a.length 0 (by omega) (by omega))

theorem markInts_l0 (l : List Int) (hl : l.length ≤ 1048576) (a : Int) (ha0 : -1000000000 ≤ a) (ha1 : a ≤ 1000000000) : ∀ (d i : Nat), i + d = l.length →
    Ev (fun k => laws_markInt64S.l0 k (seqFrom a i ++ l.drop i) (a + (i : Int)) (i : Int)) (a + (l.length : Int), seqFrom a l.length) := by
  intro d
  induction d with
  | zero =>
    intro i hd
    obtain rfl : i = l.length := by omega
    refine Ev.step (fun k => by rw [laws_markInt64S.l0]) ?_
    rw [List.drop_length, List.append_nil]
    exact ifn (by rw [seq_length]; omega) (Ev.now _)
  | succ d ih =>
    intro i hd
    have e1 : wrap64 ((i : Int) + 1) = ((i + 1 : Nat) : Int) := by rw [wrap_id (by omega) (by omega)]; omega
    have e2 : wrap64 (a + (i : Int) + 1) = a + ((i + 1 : Nat) : Int) := by rw [wrap_id (by omega) (by omega)]; omega
    have e3 : (seqFrom a i ++ l.drop i).length = l.length := by simp [seq_length]; omega
    have ih' := ih (i + 1) (by omega)
    refine Ev.step (fun k => by rw [laws_markInt64S.l0]) ?_
    rw [e3, e1, e2, Int.toNat_natCast, set_append_drop _ _ _ _ (seq_length a i) (by omega), ← seq_succ]
    exact ifp (by omega) (ifp (by omega) ih')
theorem markInts (l : List Int) (hl : l.length ≤ 1048576) (a : Int) (ha0 : -1000000000 ≤ a) (ha1 : a ≤ 1000000000) : Ev (fun k => laws_markInt64S.f k l a) (a + (l.length : Int), seqFrom a l.length) := by
  have h := markInts_l0 l hl a ha0 ha1 l.length 0 (by omega)
  simpa [seqFrom, laws_markInt64S.f] using h
theorem heldInts_l0 (n : Nat) (hn : n ≤ 1048576) (a : Int) (ha0 : -1000000000 ≤ a) (ha1 : a ≤ 1000000000) : ∀ (d i : Nat), i + d = n →
    Ev (fun k => laws_heldInt64S.l0 k (seqFrom a n) (a + (i : Int)) (i : Int)) (a + (n : Int)) := by
  intro d
  induction d with
  | zero =>
    intro i hd
    obtain rfl : i = n := by omega
    refine Ev.step (fun k => by rw [laws_heldInt64S.l0]) ?_
    exact ifn (by rw [seq_length]; omega) (Ev.now _)
  | succ d ih =>
    intro i hd
    have e1 : wrap64 ((i : Int) + 1) = ((i + 1 : Nat) : Int) := by rw [wrap_id (by omega) (by omega)]; omega
    have e2 : wrap64 (a + (i : Int) + 1) = a + ((i + 1 : Nat) : Int) := by rw [wrap_id (by omega) (by omega)]; omega
    refine Ev.step (fun k => by rw [laws_heldInt64S.l0]) ?_
    rw [seq_length, e1, e2]
    exact ifp (by omega) (ifp (by omega) (ifp (rd_seq (by omega) (by omega)) (ih (i + 1) (by omega))))
theorem heldInts (n : Nat) (hn : n ≤ 1048576) (a : Int) (ha0 : -1000000000 ≤ a) (ha1 : a ≤ 1000000000) : Ev (fun k => laws_heldInt64S.f k (seqFrom a n) a) (a + (n : Int)) := by
  have h := heldInts_l0 n hn a ha0 ha1 n 0 (by omega)
  simpa [laws_heldInt64S.f] using h

theorem beatenBy_spec (l : List Int) (a : Int) (hl : l.length ≤ 60) (ha : 0 ≤ a ∧ a < l.length) : ∀ (d i : Nat), i + d = l.length →
    Ev (fun k => spec_BeatenBy.l0 k l a (beatTo l (rd l a) i) (i : Int)) (beatTo l (rd l a) l.length, 0) := by
  intro d
  induction d with
  | zero =>
    intro i hd
    obtain rfl : i = l.length := by omega
    exact Ev.step (fun k => by rw [spec_BeatenBy.l0]) (ifn (by omega) (Ev.now _))
  | succ d ih =>
    intro i hd
    have ih' := ih (i + 1) (by omega)
    have hb := beatTo_length l (rd l a) i
    have e1 : wrap64 ((i : Int) + 1) = ((i + 1 : Nat) : Int) := by rw [wrap_id (by omega) (by omega)]; omega
    refine Ev.step (fun k => by rw [spec_BeatenBy.l0]) (ifp (by omega) (ifp (by omega) (ifp (by omega) (ifp (by omega) ?_))))
    rw [e1]
    by_cases h : rd l a < rd l i
    · rw [beatTo, if_pos h] at ih'
      exact ifp h (ifp (by omega) ih')
    · rw [beatTo, if_neg h] at ih'
      exact ifn h ih'
theorem specBeatenBy (l : List Int) (a : Int) (h : l.length ≤ 1048576) : Ev (fun k => spec_BeatenBy.f k l a) (if scoresOk l = true then if 0 ≤ a ∧ a < l.length then (beatTo l (rd l a) l.length, 0) else ([], 2) else ([], 1)) := by
  unfold spec_BeatenBy.f
  have e0 : wrap64 ((l.length : Int) - 1) = (l.length : Int) - 1 := wrap_id (by omega) (by omega)
  rw [e0]
  by_cases hs : scoresOk l = true
  · have hl := ((scoresOk_iff l).1 hs).1
    rw [if_pos hs]
    refine Ev.bind (specScores l (by omega)) (ifp hs (evb (l01In _ _ _) ?_))
    by_cases ha : 0 ≤ a ∧ a < l.length
    · rw [if_pos ha]
      exact ifp (by simp; omega) (beatenBy_spec l a hl ha l.length 0 (by omega))
    · rw [if_neg ha]
      exact ifn (by simp; omega) (Ev.now _)
  · rw [if_neg hs]
    exact Ev.bind (specScores l (by omega)) (ifn hs (Ev.now _))
theorem beatenBy_both (l : List Int) (a : Int) (h : l.length ≤ 1048576) : ∃ r c, Ev (fun k => spec_BeatenBy.f k l a) (r, c) ∧ Ev (fun k => impl_BeatenBy.f k l a) (r, c) ∧ r.length ≤ 1048576 := by
  have h1 := specBeatenBy l a h
  have h2 := implBeatenBy l a h
  have hb := beatTo_length l (rd l a) l.length
  by_cases hs : scoresOk l = true
  · rw [if_pos hs] at h1 h2
    by_cases ha : 0 ≤ a ∧ a < l.length
    · rw [if_pos ha] at h1 h2
      exact ⟨_, _, h1, h2, by omega⟩
    · rw [if_neg ha] at h1 h2
      exact ⟨_, _, h1, h2, by simp⟩
  · rw [if_neg hs] at h1 h2
    exact ⟨_, _, h1, h2, by simp⟩
theorem FnExactBeatenBy : laws_FnExactBeatenBy.Pure := by
  intro l a hl hl8 hw ha
  refine Ev.rounds ?_
  unfold laws_FnExactBeatenBy.f
  by_cases h : l.length ≤ 1048576
  · refine ifn (by omega) ?_
    obtain ⟨r, c, h1, h2, hr⟩ := beatenBy_both l a h
    refine Ev.bind (toInts l h) (Ev.bind h1 (Ev.bind (toInts l h) (Ev.bind h2 (Ev.bind (eqInts r (by omega)) (ifp rfl ?_)))))
    refine Ev.step (fun k => by rw [laws_FnExactBeatenBy.j0]) (ifn (by simp) ?_)
    refine Ev.bind (toInts l h) (Ev.bind (eqInts l (by omega)) (ifp rfl ?_))
    refine Ev.bind (markInts l h 1 (by omega) (by omega)) (ifn (by omega) ?_)
    refine Ev.bind (eqInts r (by omega)) (ifp rfl ?_)
    refine Ev.step (fun k => by rw [laws_FnExactBeatenBy.j1]) (ifn (by simp) ?_)
    refine Ev.bind (markInts r hr 1 (by omega) (by omega)) (Ev.bind (heldInts _ hr 1 (by omega) (by omega)) (ifn (by omega) (ifp rfl ?_)))
    refine Ev.bind (toInts l h) (Ev.bind h2 (Ev.bind (eqInts r (by omega)) (ifp rfl ?_)))
    refine Ev.step (fun k => by rw [laws_FnExactBeatenBy.j2]) (ifn (by simp) ?_)
    exact Ev.bind (heldInts _ hr 1 (by omega) (by omega)) (ifn (by omega) (ifp rfl (Ev.now _)))
  · exact ifp (by omega) (Ev.now _)

end Go.Proofs.Ytppkbbgonpdnfaa.Pure
