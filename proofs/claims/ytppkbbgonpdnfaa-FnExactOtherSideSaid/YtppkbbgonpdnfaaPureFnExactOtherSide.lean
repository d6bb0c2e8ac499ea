/- For all lists of numbers the program's OtherSide answers what the reference's answers, in memory of its own. Conditions: the numbers are of 64 bits. -/
import Derived.Test.YtppkbbgonpdnfaaPFnExactOtherSidex4
import Derived.Test.YtppkbbgonpdnfaaKit
namespace Go.Proofs.Ytppkbbgonpdnfaa.Pure
open Go.RowKit Go.Proofs.Ytppkbbgonpdnfaa.PFnExactOtherSide Go.Proofs.YtppkbbgonpdnfaaW.PrintWords Go.Proofs.YtppkbbgonpdnfaaW.PrintLast Go.Proofs.YtppkbbgonpdnfaaW.PrintMore Go.Proofs.Ytppkbbgonpdnfaa.Kit
set_option linter.unusedVariables false
set_option linter.unusedSimpArgs false

theorem l01In (a b c : Int) : spec_l01In.f a b c = some (decide (b ≤ a ∧ a ≤ c)) := by
  unfold spec_l01In.f
  by_cases h : b ≤ a <;> simp [h]

open Go.Proofs.Ytppkbbgonpdnfaa.HScores (okScore)
theorem okScore_iff (x : Int) : okScore x = decide (-100000 ≤ x ∧ x ≤ 100000) := by
  unfold okScore
  rw [Bool.decide_and]
def scoresOk (l : List Int) : Bool := decide (l.length ≤ 60) && l.all okScore
theorem scoresOk_iff (l : List Int) : scoresOk l = true ↔ l.length ≤ 60 ∧ ∀ x ∈ l, -100000 ≤ x ∧ x ≤ 100000 := by
  unfold scoresOk
  simp [okScore_iff, List.all_eq_true]
theorem specScores (l : List Int) (hl : l.length ≤ 4611686018427387904) : Ev (fun k => spec_l12Scores.f k l) (scoresOk l) := by
  unfold spec_l12Scores.f
  have h : ∀ (d i : Nat), i + d = l.length → Ev (fun k => spec_l12Scores.l0 k l (i : Int)) (decide (l.length ≤ 60) && (l.drop i).all okScore) := by
    intro d
    induction d with
    | zero =>
      intro i hd
      refine Ev.step (fun k => by rw [spec_l12Scores.l0]) (ifn (by omega) ?_)
      rw [List.drop_of_length_le (by omega)]
      have e : decide ((l.length : Int) ≤ 60) = decide (l.length ≤ 60) := decide_eq_decide.2 (by omega)
      rw [e, List.all_nil, Bool.and_true]
      exact Ev.now _
    | succ d ih =>
      intro i hd
      have e1 : wrap64 ((i : Int) + 1) = ((i + 1 : Nat) : Int) := by rw [wrap_id (by omega) (by omega)]; omega
      have e2 : l.drop i = rd l i :: l.drop (i + 1) := by
        have := drop_rd (xs := l) (i := (i : Int)) (by omega) (by omega)
        rw [Int.toNat_natCast, show ((i : Int) + 1).toNat = i + 1 by omega] at this
        exact this
      refine Ev.step (fun k => by rw [spec_l12Scores.l0]) (ifp (by omega) (ifp (by omega) (evb (l01In _ _ _) ?_)))
      rw [e1, e2, List.all_cons, okScore_iff]
      by_cases hc : -100000 ≤ rd l i ∧ rd l i ≤ 100000
      · rw [decide_eq_true hc, Bool.true_and]
        exact ifp rfl (ih (i + 1) (by omega))
      · rw [decide_eq_false hc, Bool.false_and, Bool.and_false]
        exact ifn (by simp) (Ev.now _)
  exact h l.length 0 (by omega)
theorem implScores (l : List Int) : impl_areScores.f l = some (scoresOk l) := rfl

def mpw (x y : Int) : Int := if y < x then 2 else if y = x then 1 else 0
/-- The matchpoints of score i against the first n scores. -/
def mpTo (l : List Int) (i : Nat) : Nat → Int
  | 0 => 0
  | n + 1 => mpTo l i n + (if n = i then 0 else mpw (rd l i) (rd l n))
theorem mpw_bound (x y : Int) : 0 ≤ mpw x y ∧ mpw x y ≤ 2 := by
  unfold mpw
  split
  · omega
  · split <;> omega
theorem mpTo_bound (l : List Int) (i : Nat) : ∀ n : Nat, 0 ≤ mpTo l i n ∧ mpTo l i n ≤ 2 * n
  | 0 => by simp [mpTo]
  | n + 1 => by
    have := mpTo_bound l i n
    have hw := mpw_bound (rd l i) (rd l n)
    unfold mpTo
    split <;> omega
def mp (l : List Int) : List Int := (List.range l.length).map fun i => mpTo l i l.length
theorem mp_length (l : List Int) : (mp l).length = l.length := by simp [mp]
theorem rd_mp {l : List Int} {i : Nat} (h : i < l.length) : rd (mp l) (i : Int) = mpTo l i l.length := by
  simp [rd, mp, List.getD_eq_getElem?_getD, h]
theorem specPoints_l1 (l : List Int) (hl : l.length ≤ 1000) (i : Nat) (hi : i < l.length) (out : List Int) (ho : out.length ≤ 1000) (r : List Int)
    (hr : Ev (fun k => spec_l12Points.l0 k l (out ++ [mpTo l i l.length]) ((i + 1 : Nat) : Int)) r) :
    ∀ (d j : Nat), j + d = l.length → Ev (fun k => spec_l12Points.l1 k l out (i : Int) (mpTo l i j) (j : Int)) r := by
  intro d
  induction d with
  | zero =>
    intro j hd
    obtain rfl : j = l.length := by omega
    have e1 : wrap64 ((i : Int) + 1) = ((i + 1 : Nat) : Int) := by rw [wrap_id (by omega) (by omega)]; omega
    refine Ev.step (fun k => by rw [spec_l12Points.l1]) (ifn (by omega) (ifp (by omega) ?_))
    rw [e1]
    exact hr
  | succ d ih =>
    intro j hd
    have ih' := ih (j + 1) (by omega)
    have hb := mpTo_bound l i j
    have e1 : wrap64 ((j : Int) + 1) = ((j + 1 : Nat) : Int) := by rw [wrap_id (by omega) (by omega)]; omega
    have e2 : wrap64 (mpTo l i j + 2) = mpTo l i j + 2 := wrap_id (by omega) (by omega)
    have e3 : wrap64 (mpTo l i j + 1) = mpTo l i j + 1 := wrap_id (by omega) (by omega)
    refine Ev.step (fun k => by rw [spec_l12Points.l1]) (ifp (by omega) (ifp (by omega) (ifp (by omega) (ifp (by omega) ?_))))
    rw [e1, e2, e3]
    by_cases h1 : rd l j < rd l i
    · refine ifp h1 (ifn (by omega) ?_)
      have : mpTo l i (j + 1) = mpTo l i j + 2 := by
        have hji : j ≠ i := by rintro rfl; omega
        simp [mpTo, hji, mpw, h1]
      rw [← this]
      exact ih'
    · refine ifn h1 ?_
      by_cases h2 : rd l j = rd l i
      · refine ifp h2 ?_
        by_cases h3 : j = i
        · refine ifp (by omega) ?_
          have : mpTo l i (j + 1) = mpTo l i j := by simp [mpTo, h3]
          rw [← this]
          exact ih'
        · refine ifn (by omega) ?_
          have : mpTo l i (j + 1) = mpTo l i j + 1 := by simp [mpTo, h3, mpw, h2]
          rw [← this]
          exact ih'
      · refine ifn h2 ?_
        have : mpTo l i (j + 1) = mpTo l i j := by
          have h3 : j ≠ i := by rintro rfl; exact h2 rfl
          simp [mpTo, h3, mpw, h1, h2]
        rw [← this]
        exact ih'
theorem specPoints_l0 (l : List Int) (hl : l.length ≤ 1000) : ∀ (d i : Nat), i + d = l.length → Ev (fun k => spec_l12Points.l0 k l ((List.range i).map fun a => mpTo l a l.length) (i : Int)) (mp l) := by
  intro d
  induction d with
  | zero =>
    intro i hd
    obtain rfl : i = l.length := by omega
    unfold mp
    exact Ev.step (fun k => by rw [spec_l12Points.l0]) (ifn (by omega) (Ev.now _))
  | succ d ih =>
    intro i hd
    have ih' := ih (i + 1) (by omega)
    rw [List.range_succ, List.map_append, List.map_cons, List.map_nil] at ih'
    refine Ev.step (fun k => by rw [spec_l12Points.l0]) (ifp (by omega) ?_)
    exact specPoints_l1 l hl i (by omega) ((List.range i).map fun a => mpTo l a l.length) (by simp; omega) (mp l) ih' l.length 0 (by omega)
theorem specPoints (l : List Int) (hl : l.length ≤ 1000) : Ev (fun k => spec_l12Points.f k l) (mp l) := by
  unfold spec_l12Points.f
  exact specPoints_l0 l hl l.length 0 (by omega)
theorem set_mid (A B : List Int) (m x : Int) : (A ++ m :: B).set A.length x = A ++ x :: B := by simp
theorem rd_mid (A B : List Int) (m : Int) : rd (A ++ m :: B) (A.length : Int) = m := by simp [rd, List.getD_eq_getElem?_getD]
theorem implPoints_l1 (l : List Int) (hl : l.length ≤ 1000) (A B : List Int) (hAB : A.length + 1 + B.length = l.length) (r : List Int)
    (hr : Ev (fun k => impl_matchpoints.l0 k l (A ++ mpTo l A.length l.length :: B) l (l.length : Int) ((A.length + 1 : Nat) : Int)) r) :
    ∀ (d j : Nat), j + d = l.length → Ev (fun k => impl_matchpoints.l1 k l (A ++ mpTo l A.length j :: B) (A.length : Int) (rd l (A.length : Int)) l (l.length : Int) (A.length : Int) l (l.length : Int) (j : Int)) r := by
  intro d
  induction d with
  | zero =>
    intro j hd
    obtain rfl : j = l.length := by omega
    have e1 : wrap64 ((A.length : Int) + 1) = ((A.length + 1 : Nat) : Int) := by rw [wrap_id (by omega) (by omega)]; omega
    refine Ev.step (fun k => by rw [impl_matchpoints.l1]) (ifn (by omega) ?_)
    rw [e1]
    exact hr
  | succ d ih =>
    intro j hd
    have ih' := ih (j + 1) (by omega)
    have hb := mpTo_bound l A.length j
    have e1 : wrap64 ((j : Int) + 1) = ((j + 1 : Nat) : Int) := by rw [wrap_id (by omega) (by omega)]; omega
    have e2 : wrap64 (mpTo l A.length j + 2) = mpTo l A.length j + 2 := wrap_id (by omega) (by omega)
    have e3 : wrap64 (mpTo l A.length j + 1) = mpTo l A.length j + 1 := wrap_id (by omega) (by omega)
    refine Ev.step (fun k => by rw [impl_matchpoints.l1]) (ifp (by omega) (ifp (by omega) (ifp (by omega) ?_)))
    rw [e1, rd_mid, e2, e3, Int.toNat_natCast, set_mid, set_mid]
    by_cases h3 : j = A.length
    · refine ifp (by omega) ?_
      have : mpTo l A.length (j + 1) = mpTo l A.length j := by simp [mpTo, h3]
      rw [← this]
      exact ih'
    · refine ifn (by omega) ?_
      by_cases h1 : rd l j < rd l A.length
      · refine ifp h1 (ifp (by omega) (ifp (by simp; omega) ?_))
        have : mpTo l A.length (j + 1) = mpTo l A.length j + 2 := by simp [mpTo, h3, mpw, h1]
        rw [← this]
        exact ih'
      · refine ifn h1 ?_
        by_cases h2 : rd l j = rd l A.length
        · refine ifp h2 (ifp (by omega) (ifp (by simp; omega) ?_))
          have : mpTo l A.length (j + 1) = mpTo l A.length j + 1 := by simp [mpTo, h3, mpw, h2]
          rw [← this]
          exact ih'
        · refine ifn h2 ?_
          have : mpTo l A.length (j + 1) = mpTo l A.length j := by simp [mpTo, h3, mpw, h1, h2]
          rw [← this]
          exact ih'
theorem implPoints_l0 (l : List Int) (hl : l.length ≤ 1000) : ∀ (d i : Nat), i + d = l.length → Ev (fun k => impl_matchpoints.l0 k l (((List.range i).map fun a => mpTo l a l.length) ++ List.replicate d 0) l (l.length : Int) (i : Int)) (mp l) := by
  intro d
  induction d with
  | zero =>
    intro i hd
    obtain rfl : i = l.length := by omega
    rw [List.replicate_zero, List.append_nil]
    unfold mp
    exact Ev.step (fun k => by rw [impl_matchpoints.l0]) (ifn (by omega) (Ev.now _))
  | succ d ih =>
    intro i hd
    have ih' := ih (i + 1) (by omega)
    rw [List.range_succ, List.map_append, List.map_cons, List.map_nil, List.append_assoc, List.singleton_append] at ih'
    refine Ev.step (fun k => by rw [impl_matchpoints.l0]) (ifp (by omega) (ifp (by omega) (ifp (by omega) ?_)))
    have hA : ((List.range i).map fun a => mpTo l a l.length).length = i := by simp
    have := implPoints_l1 l hl ((List.range i).map fun a => mpTo l a l.length) (List.replicate d 0) (by simp; omega) (mp l) (by rw [hA]; exact ih') l.length 0 (by omega)
    rw [hA] at this
    exact this
theorem implPoints (l : List Int) (hl : l.length ≤ 1000) : Ev (fun k => impl_matchpoints.f k l) (mp l) := by
  unfold impl_matchpoints.f
  refine ifp (by omega) (ifp (by omega) ?_)
  exact implPoints_l0 l hl l.length 0 (by omega)

def negs (l : List Int) : List Int := l.map fun x => -x
theorem negs_length (l : List Int) : (negs l).length = l.length := by simp [negs]
theorem rd_negs {l : List Int} {i : Nat} (h : i < l.length) : rd (negs l) (i : Int) = -rd l i := by
  simp [rd, negs, List.getD_eq_getElem?_getD, h]
theorem take_negs {l : List Int} {i : Nat} (h : i < l.length) : negs (l.take (i + 1)) = negs (l.take i) ++ [-rd l i] := by
  have := take_rd (xs := l) (i := (i : Int)) (by omega) (by omega)
  rw [Int.toNat_natCast, show ((i : Int) + 1).toNat = i + 1 by omega] at this
  rw [this]
  simp [negs]

theorem implOther_l0 (l : List Int) (hs : scoresOk l = true) : ∀ (d i : Nat), i + d = l.length →
    Ev (fun k => impl_OtherSide.l0 k (negs (l.take i)) l (l.length : Int) (i : Int)) (mp (negs l), 0) := by
  obtain ⟨hl, hx⟩ := (scoresOk_iff l).1 hs
  intro d
  induction d with
  | zero =>
    intro i hd
    obtain rfl : i = l.length := by omega
    rw [List.take_length]
    exact Ev.step (fun k => by rw [impl_OtherSide.l0]) (ifn (by omega) (Ev.bind (implPoints (negs l) (by rw [negs_length]; omega)) (Ev.now _)))
  | succ d ih =>
    intro i hd
    have ih2 := ih (i + 1) (by omega)
    have hr := hx (rd l i) (rd_mem (by omega) (by omega))
    have e1 : wrap64 ((i : Int) + 1) = ((i + 1 : Nat) : Int) := by rw [wrap_id (by omega) (by omega)]; omega
    have e2 : wrap64 (-rd l i) = -rd l i := wrap_id (by omega) (by omega)
    have hlen : (negs (l.take i)).length < 17592186044416 := by rw [negs_length, List.length_take]; omega
    rw [take_negs (by omega)] at ih2
    refine Ev.step (fun k => by rw [impl_OtherSide.l0]) (ifp (by omega) (ifp (by omega) (ifp (by omega) (ifp hlen ?_))))
    rw [e1, e2]
    exact ih2
theorem implOtherSide (l : List Int) (h : l.length ≤ 1048576) : Ev (fun k => impl_OtherSide.f k l) (if scoresOk l = true then (mp (negs l), 0) else ([], 1)) := by
  unfold impl_OtherSide.f
  by_cases hs : scoresOk l = true
  · rw [if_pos hs]
    exact evb (implScores l) (ifp hs (implOther_l0 l hs l.length 0 (by omega)))
  · rw [if_neg hs]
    exact evb (implScores l) (ifn hs (Ev.now _))

theorem specOther_l0 (l : List Int) (hs : scoresOk l = true) : ∀ (d i : Nat), i + d = l.length →
    Ev (fun k => spec_OtherSide.l0 k l (negs (l.take i)) (i : Int)) (mp (negs l), 0) := by
  obtain ⟨hl, hx⟩ := (scoresOk_iff l).1 hs
  intro d
  induction d with
  | zero =>
    intro i hd
    obtain rfl : i = l.length := by omega
    rw [List.take_length]
    exact Ev.step (fun k => by rw [spec_OtherSide.l0]) (ifn (by omega) (Ev.bind (specPoints (negs l) (by rw [negs_length]; omega)) (Ev.now _)))
  | succ d ih =>
    intro i hd
    have ih2 := ih (i + 1) (by omega)
    have hr := hx (rd l i) (rd_mem (by omega) (by omega))
    have e1 : wrap64 ((i : Int) + 1) = ((i + 1 : Nat) : Int) := by rw [wrap_id (by omega) (by omega)]; omega
    have e2 : wrap64 (-rd l i) = -rd l i := wrap_id (by omega) (by omega)
    have hlen : (negs (l.take i)).length < 17592186044416 := by rw [negs_length, List.length_take]; omega
    rw [take_negs (by omega)] at ih2
    refine Ev.step (fun k => by rw [spec_OtherSide.l0]) (ifp (by omega) (ifp (by omega) (ifp hlen ?_)))
    rw [e1, e2]
    exact ih2
theorem specOtherSide (l : List Int) (h : l.length ≤ 1048576) : Ev (fun k => spec_OtherSide.f k l) (if scoresOk l = true then (mp (negs l), 0) else ([], 1)) := by
  unfold spec_OtherSide.f
  by_cases hs : scoresOk l = true
  · rw [if_pos hs]
    exact Ev.bind (specScores l (by omega)) (ifp hs (specOther_l0 l hs l.length 0 (by omega)))
  · rw [if_neg hs]
    exact Ev.bind (specScores l (by omega)) (ifn hs (Ev.now _))
theorem otherSide_both (l : List Int) (h : l.length ≤ 1048576) : ∃ r c, Ev (fun k => spec_OtherSide.f k l) (r, c) ∧ Ev (fun k => impl_OtherSide.f k l) (r, c) ∧ r.length ≤ 1048576 := by
  have h1 := specOtherSide l h
  have h2 := implOtherSide l h
  by_cases hs : scoresOk l = true
  · rw [if_pos hs] at h1 h2
    exact ⟨_, _, h1, h2, by rw [mp_length, negs_length]; exact h⟩
  · rw [if_neg hs] at h1 h2
    exact ⟨_, _, h1, h2, by simp⟩

theorem toInts_l0 (l : List Int) (hl : l.length ≤ 1048576) : ∀ (d : Nat) (i : Int), 0 ≤ i → i + d = l.length →
    Ev (fun k => laws_toInt64S.l0 k l (l.take i.toNat ++ (List.replicate l.length (0 : Int)).drop i.toNat) i) l := by
  intro d
  induction d with
  | zero =>
    intro i h0 hd
    refine Ev.step (fun k => by rw [laws_toInt64S.l0]) ?_
    refine ifn (by omega) ?_
    rw [List.take_of_length_le (by omega), List.drop_of_length_le (by simp; omega), List.append_nil]
    exact Ev.now _
  | succ d ih =>
    intro i h0 hd
    have e1 : wrap64 (i + 1) = i + 1 := wrap_id (by omega) (by omega)
    have ih' := ih (i + 1) (by omega) (by omega)
    refine Ev.step (fun k => by rw [laws_toInt64S.l0]) ?_
    rw [e1, set_append_drop _ _ _ _ (by simp; omega) (by simp; omega), ← take_rd h0 (by omega), show i.toNat + 1 = (i + 1).toNat by omega]
    exact ifp (by omega) (ifp h0 (ifp (by simp; omega) ih'))
theorem toInts (l : List Int) (hl : l.length ≤ 1048576) : Ev (fun k => laws_toInt64S.f k l) l := by
  unfold laws_toInt64S.f
  refine ifp (by omega) (ifp (by omega) ?_)
  have := toInts_l0 l hl l.length 0 (by omega) (by omega)
  simpa using this

theorem eqInts_l0 (a : List Int) (ha : a.length ≤ 4611686018427387904) : ∀ (d : Nat) (i : Int), 0 ≤ i → i + d = a.length → Ev (fun k => laws_eqInt64S.l0 k a a i) true := by
  intro d
  induction d with
  | zero =>
    intro i h0 hd
    refine Ev.step (fun k => by rw [laws_eqInt64S.l0]) ?_
    exact ifn (by omega) (Ev.now _)
  | succ d ih =>
    intro i h0 hd
    have e1 : wrap64 (i + 1) = i + 1 := wrap_id (by omega) (by omega)
    refine Ev.step (fun k => by rw [laws_eqInt64S.l0]) ?_
    rw [e1]
    exact ifp (by omega) (ifp h0 (ifp (by omega) (ifp rfl (ih (i + 1) (by omega) (by omega)))))
theorem eqInts (a : List Int) (ha : a.length ≤ 4611686018427387904) : Ev (fun k => laws_eqInt64S.f k a a) true := by
  unfold laws_eqInt64S.f
  exact ifp rfl (eqInts_l0 a ha a.length 0 (by omega) (by omega))

theorem markInts_l0 (l : List Int) (hl : l.length ≤ 1048576) (a : Int) (ha0 : -1000000000 ≤ a) (ha1 : a ≤ 1000000000) : ∀ (d i : Nat), i + d = l.length →
    Ev (fun k => laws_markInt64S.l0 k (seqFrom a i ++ l.drop i) (a + (i : Int)) (i : Int)) (a + (l.length : Int), seqFrom a l.length) := by
  intro d
  induction d with
  | zero =>
    intro i hd
    obtain rfl : i = l.length := by omega
    refine Ev.step (fun k => by rw [laws_markInt64S.l0]) ?_
    rw [List.drop_length, List.append_nil]
    exact ifn (by rw [seq_length]; omega) (Ev.now _)
  | succ d ih =>
    intro i hd
    have e1 : wrap64 ((i : Int) + 1) = ((i + 1 : Nat) : Int) := by rw [wrap_id (by omega) (by omega)]; omega
    have e2 : wrap64 (a + (i : Int) + 1) = a + ((i + 1 : Nat) : Int) := by rw [wrap_id (by omega) (by omega)]; omega
    have e3 : (seqFrom a i ++ l.drop i).length = l.length := by simp [seq_length]; omega
    have ih' := ih (i + 1) (by omega)
    refine Ev.step (fun k => by rw [laws_markInt64S.l0]) ?_
    rw [e3, e1, e2, Int.toNat_natCast, set_append_drop _ _ _ _ (seq_length a i) (by omega), ← seq_succ]
    exact ifp (by omega) (ifp (by omega) ih')
theorem markInts (l : List Int) (hl : l.length ≤ 1048576) (a : Int) (ha0 : -1000000000 ≤ a) (ha1 : a ≤ 1000000000) : Ev (fun k => laws_markInt64S.f k l a) (a + (l.length : Int), seqFrom a l.length) := by
  have h := markInts_l0 l hl a ha0 ha1 l.length 0 (by omega)
  simpa [seqFrom, laws_markInt64S.f] using h
theorem heldInts_l0 (n : Nat) (hn : n ≤ 1048576) (a : Int) (ha0 : -1000000000 ≤ a) (ha1 : a ≤ 1000000000) : ∀ (d i : Nat), i + d = n →
    Ev (fun k => laws_heldInt64S.l0 k (seqFrom a n) (a + (i : Int)) (i : Int)) (a + (n : Int)) := by
  intro d
  induction d with
  | zero =>
    intro i hd
    obtain rfl : i = n := by omega
    refine Ev.step (fun k => by rw [laws_heldInt64S.l0]) ?_
    exact ifn (by rw [seq_length]; omega) (Ev.now _)
  | succ d ih =>
    intro i hd
    have e1 : wrap64 ((i : Int) + 1) = ((i + 1 : Nat) : Int) := by rw [wrap_id (by omega) (by omega)]; omega
    have e2 : wrap64 (a + (i : Int) + 1) = a + ((i + 1 : Nat) : Int) := by rw [wrap_id (by omega) (by omega)]; omega
    refine Ev.step (fun k => by rw [laws_heldInt64S.l0]) ?_
    rw [seq_length, e1, e2]
    exact ifp (by omega) (ifp (by omega) (ifp (rd_seq (by omega) (by omega)) (ih (i + 1) (by omega))))
theorem heldInts (n : Nat) (hn : n ≤ 1048576) (a : Int) (ha0 : -1000000000 ≤ a) (ha1 : a ≤ 1000000000) : Ev (fun k => laws_heldInt64S.f k (seqFrom a n) a) (a + (n : Int)) := by
  have h := heldInts_l0 n hn a ha0 ha1 n 0 (by omega)
  simpa [laws_heldInt64S.f] using h

theorem FnExactOtherSide : laws_FnExactOtherSide.Pure := by
  intro l hl hl8 hw
  refine Ev.rounds ?_
  unfold laws_FnExactOtherSide.f
  by_cases h : l.length ≤ 1048576
  · refine ifn (by omega) ?_
    obtain ⟨r, c, h1, h2, hr⟩ := otherSide_both l h
    refine Ev.bind (toInts l h) (Ev.bind h1 (Ev.bind (toInts l h) (Ev.bind h2 (Ev.bind (eqInts r (by omega)) (ifp rfl ?_)))))
    refine Ev.step (fun k => by rw [laws_FnExactOtherSide.j0]) (ifn (by simp) ?_)
    refine Ev.bind (toInts l h) (Ev.bind (eqInts l (by omega)) (ifp rfl ?_))
    refine Ev.bind (markInts l h 1 (by omega) (by omega)) (ifn (by omega) ?_)
    refine Ev.bind (eqInts r (by omega)) (ifp rfl ?_)
    refine Ev.step (fun k => by rw [laws_FnExactOtherSide.j1]) (ifn (by simp) ?_)
    refine Ev.bind (markInts r hr 1 (by omega) (by omega)) (Ev.bind (heldInts _ hr 1 (by omega) (by omega)) (ifn (by omega) (ifp rfl ?_)))
    refine Ev.bind (toInts l h) (Ev.bind h2 (Ev.bind (eqInts r (by omega)) (ifp rfl ?_)))
    refine Ev.step (fun k => by rw [laws_FnExactOtherSide.j2]) (ifn (by simp) ?_)
    exact Ev.bind (heldInts _ hr 1 (by omega) (by omega)) (ifn (by omega) (ifp rfl (Ev.now _)))
  · exact ifp (by omega) (Ev.now _)

end Go.Proofs.Ytppkbbgonpdnfaa.Pure
