/- For all auctions and calls the program's AddCall answers what the reference's answers, in memory of its own. Conditions: the numbers are of 64 bits. -/
import Derived.Test.YtbbndelebdackaaPFnExactAddCallx6
import Derived.Test.YtbbndelebdackaaKit
import Derived.Test.YtbbndelebdackaaAuc
namespace Go.Proofs.Ytbbndelebdackaa.Pure
open Go.RowKit Go.Proofs.Ytbbndelebdackaa.PFnExactAddCall Go.Proofs.YtbbndelebdackaaW.PrintWords Go.Proofs.YtbbndelebdackaaW.PrintLast Go.Proofs.YtbbndelebdackaaW.PrintMore Go.Proofs.Ytbbndelebdackaa.Kit Go.Proofs.Ytbbndelebdackaa.Auc
set_option linter.unusedVariables false
set_option linter.unusedSimpArgs false

theorem tw_step {α : Type} (f : α → Bool) : ∀ (r : List α) (p : Nat) (h : p < r.length), p ≤ (r.takeWhile f).length → (f r[p] = true ↔ p < (r.takeWhile f).length)
  | [], p, h, _ => by simp at h
  | x :: r, 0, h, _ => by
    cases hx : f x <;> simp [List.takeWhile_cons, hx]
  | x :: r, p + 1, h, hp => by
    cases hx : f x with
    | false => simp [List.takeWhile_cons, hx] at hp
    | true =>
      simp only [List.takeWhile_cons, hx, if_true, List.length_cons, Nat.add_le_add_iff_right] at hp
      simp only [List.takeWhile_cons, hx, if_true, List.length_cons, List.getElem_cons_succ, Nat.add_lt_add_iff_right]
      exact tw_step f r p (by simpa using h) hp
theorem tz_step (l : List Int) (p : Nat) (h : p < l.length) (hp : p ≤ tz l) : rd l ((l.length : Int) - 1 - p) = 0 ↔ p < tz l := by
  have e := tw_step (fun c : Int => c == 0) l.reverse p (by simpa using h) hp
  unfold tz
  rw [← e, List.getElem_reverse]
  have e2 : ((l.length : Int) - 1 - p) = ((l.length - 1 - p : Nat) : Int) := by omega
  rw [e2, rd_nat]
  have hlt : l.length - 1 - p < l.length := by omega
  simp [List.getD_eq_getElem?_getD, hlt]

theorem specOver_l0 (l : List Int) (hl : l.length ≤ 4611686018427387904) : ∀ (d p : Nat), p + d = tz l → Ev (fun k => spec_l07Over.l0 k l (l.length : Int) (p : Int)) (over l) := by
  intro d
  induction d with
  | zero =>
    intro p hp
    have hle := tz_le l
    have hans : Ev (fun _ : Nat => if (p : Int) ≥ 4 then some true else if (p : Int) = 3 then some (decide ((l.length : Int) > 3)) else some false) (over l) := by
      refine Ev.congr (fun _ => ?_) (Ev.now (over l))
      unfold over
      by_cases h4 : 4 ≤ p
      · rw [if_pos (by omega)]; congr 1; symm; rw [decide_eq_true_eq]; omega
      · rw [if_neg (by omega)]
        by_cases h3 : p = 3
        · rw [if_pos (by omega)]; congr 1; congr 1; apply propext; omega
        · rw [if_neg (by omega)]; congr 1; symm; rw [decide_eq_false_iff_not]; omega
    refine Ev.step (fun k => by rw [spec_l07Over.l0]) ?_
    by_cases hlt : p < l.length
    · have e1 : wrap64 (wrap64 ((l.length : Int) - 1) - (p : Int)) = (l.length : Int) - 1 - p := by rw [wrap_id (x := (l.length : Int) - 1) (by omega) (by omega), wrap_id (by omega) (by omega)]
      rw [e1]
      have hz := tz_step l p hlt (by omega)
      exact ifp (by omega) (ifp (by omega) (ifp (by omega) (ifn (by rw [hz]; omega) hans)))
    · exact ifn (by omega) hans
  | succ d ih =>
    intro p hp
    have hle := tz_le l
    have hlt : p < l.length := by omega
    refine Ev.step (fun k => by rw [spec_l07Over.l0]) ?_
    have e1 : wrap64 (wrap64 ((l.length : Int) - 1) - (p : Int)) = (l.length : Int) - 1 - p := by rw [wrap_id (x := (l.length : Int) - 1) (by omega) (by omega), wrap_id (by omega) (by omega)]
    have e2 : wrap64 ((p : Int) + 1) = ((p + 1 : Nat) : Int) := by rw [wrap_id (by omega) (by omega)]; omega
    rw [e1, e2]
    have hz := tz_step l p hlt (by omega)
    exact ifp (by omega) (ifp (by omega) (ifp (by omega) (ifp (by rw [hz]; omega) (ih (p + 1) (by omega)))))
theorem specOver (l : List Int) (hl : l.length ≤ 4611686018427387904) : Ev (fun k => spec_l07Over.f k l) (over l) := specOver_l0 l hl (tz l) 0 (by omega)

theorem within (a b c : Int) : impl_within.f a b c = some (decide (b ≤ a ∧ a ≤ c)) := by
  unfold impl_within.f
  by_cases h : b ≤ a <;> simp [h]

theorem l01In (a b c : Int) : spec_l01In.f a b c = some (decide (b ≤ a ∧ a ≤ c)) := by
  unfold spec_l01In.f
  by_cases h : b ≤ a <;> simp [h]

theorem implIsBid (c : Int) : impl_isBid.f c = some (decide (3 ≤ c ∧ c ≤ 37)) := by simp [impl_isBid.f, within]
theorem specBid (c : Int) : spec_l06Bid.f c = some (decide (3 ≤ c ∧ c ≤ 37)) := by simp [spec_l06Bid.f, l01In]

def specOf (s : Int × Int × Int) : Int × Int × Int := (if s.2.1 < 0 then -1 else s.1, s.2.2, s.2.1)
theorem specStanding_l0 (l : List Int) (hl : l.length ≤ 4611686018427387904) (hr : ∀ c ∈ l, 0 ≤ c ∧ c ≤ 37) : ∀ (d : Nat) (i : Int) (s : Int × Int × Int), 0 ≤ i → i + d = l.length →
    Ev (fun k => spec_l07Standing.l0 k l (specOf s).1 (specOf s).2.1 (specOf s).2.2 i) (specOf (standFrom i s (l.drop i.toNat))) := by
  intro d
  induction d with
  | zero =>
    intro i s h0 hd
    rw [List.drop_of_length_le (by omega)]
    refine Ev.step (fun k => by rw [spec_l07Standing.l0]) ?_
    exact ifn (by omega) (Ev.now _)
  | succ d ih =>
    intro i s h0 hd
    have hc := hr _ (rd_mem h0 (show i < l.length by omega))
    rw [drop_rd h0 (by omega)]
    have e1 : wrap64 (i + 1) = i + 1 := wrap_id (by omega) (by omega)
    have ih' := ih (i + 1) (bstep i s (rd l i)) (by omega) (by omega)
    simp only [standFrom]
    refine Ev.step (fun k => by rw [spec_l07Standing.l0]) ?_
    rw [e1, specBid]
    refine ifp (by omega) (ifp h0 ?_)
    simp only [Option.bind_some]
    by_cases hb : 3 ≤ rd l i ∧ rd l i ≤ 37
    · refine ifp (by simpa using hb) ?_
      have e : specOf (bstep i s (rd l i)) = (rd l i, 0, i) := by
        simp only [bstep, if_pos hb, specOf]
        rw [if_neg (by omega)]
      rw [e] at ih'
      exact ih'
    · refine ifn (by simpa using hb) ?_
      by_cases h1 : rd l i = 0
      · have e : specOf (bstep i s (rd l i)) = specOf s := by simp only [bstep, if_neg hb, if_pos h1]
        rw [e] at ih'
        exact ifn (by omega) (ifn (by omega) ih')
      · have e : specOf (bstep i s (rd l i)) = ((specOf s).1, rd l i, (specOf s).2.2) := by simp only [bstep, if_neg hb, if_neg h1, specOf]
        rw [e] at ih'
        by_cases h2 : rd l i = 1
        · refine ifp h2 ?_
          simp only [h2] at ih' ⊢
          exact ih'
        · refine ifn h2 ?_
          have h3 : rd l i = 2 := by omega
          refine ifp h3 ?_
          simp only [h3] at ih' ⊢
          exact ih'
theorem specStanding (l : List Int) (hl : l.length ≤ 4611686018427387904) (hr : ∀ c ∈ l, 0 ≤ c ∧ c ≤ 37) : Ev (fun k => spec_l07Standing.f k l) (specOf (stand l)) := by
  have h := specStanding_l0 l hl hr l.length 0 (0, -1, 0) (by omega) (by omega)
  exact h

theorem specLegal (l : List Int) (hl : l.length ≤ 4611686018427387904) (hr : ∀ c ∈ l, 0 ≤ c ∧ c ≤ 37) (c : Int) : Ev (fun k => spec_l07Legal.f k l c) (legal l c) := by
  unfold spec_l07Legal.f
  refine Ev.bind (specStanding l hl hr) (Ev.congr (fun _ => ?_) (Ev.now (legal l c)))
  obtain ⟨h1, h2, h3⟩ := stand_at l
  have e : wrap64 ((l.length : Int) - (stand l).2.1) = (l.length : Int) - (stand l).2.1 := wrap_id (by omega) (by omega)
  have e2 : Int.tmod ((l.length : Int) - (stand l).2.1) 2 = ((l.length : Int) - (stand l).2.1) % 2 := Int.tmod_eq_emod_of_nonneg (by omega)
  unfold legal specOf
  simp only [e, e2, specBid, Option.bind_some]
  by_cases hat : (stand l).2.1 < 0
  · have hz := h3 hat
    simp only [if_pos hat]
    by_cases c0 : c = 0
    · simp [c0]
    · by_cases c1 : c = 1
      · subst c1; simp; omega
      · by_cases c2 : c = 2
        · subst c2; simp; omega
        · by_cases hb : 3 ≤ c ∧ c ≤ 37
          · simp [c0, c1, c2, hb]; omega
          · simp [c0, c1, c2, hb]; omega
  · have hz := h2 (by omega)
    simp only [if_neg hat]
    by_cases c0 : c = 0
    · simp [c0]
    · by_cases c1 : c = 1
      · subst c1
        by_cases hs : (stand l).2.2 = 0
        · rw [if_neg (by decide), if_pos rfl, if_pos (by omega), if_pos hs, if_neg (by decide), if_pos rfl]
          congr 1
          rw [Bool.eq_iff_iff]; simp [hs]; omega
        · rw [if_neg (by decide), if_pos rfl, if_pos (by omega), if_neg hs, if_neg (by decide), if_pos rfl]
          congr 1
          rw [Bool.eq_iff_iff]; simp [hs]
      · by_cases c2 : c = 2
        · subst c2
          by_cases hs : (stand l).2.2 = 1
          · rw [if_neg (by decide), if_neg (by decide), if_pos rfl, if_pos (by omega), if_pos hs, if_neg (by decide), if_neg (by decide), if_pos rfl]
            congr 1
            rw [Bool.eq_iff_iff]; simp [hs]; omega
          · rw [if_neg (by decide), if_neg (by decide), if_pos rfl, if_pos (by omega), if_neg hs, if_neg (by decide), if_neg (by decide), if_pos rfl]
            congr 1
            rw [Bool.eq_iff_iff]; simp [hs]
        · by_cases hb : 3 ≤ c ∧ c ≤ 37
          · simp [c0, c1, c2, hb]
          · simp [c0, c1, c2, hb]; omega

theorem specIsAuction_l0 (dl : Int) (l : List Int) (hl : l.length ≤ 1048576) : ∀ (d : Nat) (i : Int), 0 ≤ i → i + d = l.length → Valid (l.take i.toNat) →
    Ev (fun k => spec_IsAuction.l0 k i dl l) (validB l) := by
  intro d
  induction d with
  | zero =>
    intro i h0 hd hv
    rw [List.take_of_length_le (by omega)] at hv
    refine Ev.step (fun k => by rw [spec_IsAuction.l0]) ?_
    refine ifn (by omega) (Ev.congr (fun _ => ?_) (Ev.now (validB l)))
    rw [(validB_iff l).2 hv]
  | succ d ih =>
    intro i h0 hd hv
    have e1 : wrap64 (i + 1) = i + 1 := wrap_id (by omega) (by omega)
    have hlen : (l.take i.toNat).length ≤ 4611686018427387904 := by simp; omega
    have htk := take_rd h0 (show i < l.length by omega)
    have hno : ¬ Valid (l.take (i + 1).toNat) → validB l = false := by
      intro hn
      rw [Bool.eq_false_iff]
      exact fun hb => hn (valid_take ((validB_iff l).1 hb) _)
    refine Ev.step (fun k => by rw [spec_IsAuction.l0]) ?_
    rw [e1]
    refine ifp (by omega) (ifp h0 (ifp (by omega) ?_))
    refine Ev.bind (specOver _ hlen) ?_
    cases ho : over (l.take i.toNat) with
    | true =>
      refine ifp rfl ?_
      rw [hno (by rw [htk, valid_snoc]; simp [ho])]
      exact Ev.now _
    | false =>
      refine ifn (by decide) ?_
      refine Ev.bind (specLegal _ hlen (known hv).calls _) ?_
      cases hg : legal (l.take i.toNat) (rd l i) with
      | true => exact ifp rfl (ih (i + 1) (by omega) (by omega) (by rw [htk]; exact .snoc hv ho hg))
      | false =>
        refine ifn (by decide) ?_
        rw [hno (by rw [htk, valid_snoc]; simp [hg])]
        exact Ev.now _
theorem specIsAuction (dl : Int) (l : List Int) (hl : l.length ≤ 1048576) : Ev (fun k => spec_IsAuction.f k dl l) (decide (0 ≤ dl ∧ dl ≤ 3) && validB l) := by
  unfold spec_IsAuction.f
  refine evb (l01In _ _ _) ?_
  by_cases h : 0 ≤ dl ∧ dl ≤ 3
  · simp only [h, and_self, decide_true, Bool.true_and]
    exact ifp (by simp) (specIsAuction_l0 dl l hl l.length 0 (by omega) (by omega) .nil)
  · simp only [h, decide_false, Bool.false_and]
    exact ifn (by decide) (Ev.now _)

theorem implEnded_l0 (l : List Int) (hl : l.length ≤ 4611686018427387904) : ∀ (d p : Nat), p + d = tz l → Ev (fun k => impl_isEnded.l0 k l (p : Int)) (ended l) := by
  intro d
  induction d with
  | zero =>
    intro p hp
    have hle := tz_le l
    refine Ev.step (fun k => by rw [impl_isEnded.l0]) ?_
    by_cases hlt : p < l.length
    · have e1 : wrap64 (wrap64 ((l.length : Int) - 1) - (p : Int)) = (l.length : Int) - 1 - p := by rw [wrap_id (x := (l.length : Int) - 1) (by omega) (by omega), wrap_id (by omega) (by omega)]
      rw [e1]
      have hz := tz_step l p hlt (by omega)
      refine ifp (by omega) (ifp (by omega) (ifp (by omega) (ifn (by rw [hz]; omega) (ifn (by omega) (Ev.congr (fun _ => ?_) (Ev.now (ended l)))))))
      unfold ended
      congr 1
      rw [Bool.eq_iff_iff]
      simp
      omega
    · refine ifn (by omega) (ifp (by omega) (Ev.congr (fun _ => ?_) (Ev.now (ended l))))
      unfold ended
      by_cases h4 : p = 4
      · rw [if_pos (by omega)]; congr 1; symm; rw [decide_eq_true_eq]; omega
      · rw [if_neg (by omega)]; congr 1; symm; rw [decide_eq_false_iff_not]; omega
  | succ d ih =>
    intro p hp
    have hle := tz_le l
    have hlt : p < l.length := by omega
    refine Ev.step (fun k => by rw [impl_isEnded.l0]) ?_
    have e1 : wrap64 (wrap64 ((l.length : Int) - 1) - (p : Int)) = (l.length : Int) - 1 - p := by rw [wrap_id (x := (l.length : Int) - 1) (by omega) (by omega), wrap_id (by omega) (by omega)]
    have e2 : wrap64 ((p : Int) + 1) = ((p + 1 : Nat) : Int) := by rw [wrap_id (by omega) (by omega)]; omega
    rw [e1, e2]
    have hz := tz_step l p hlt (by omega)
    exact ifp (by omega) (ifp (by omega) (ifp (by omega) (ifp (by rw [hz]; omega) (ih (p + 1) (by omega)))))
theorem implEnded (l : List Int) (hl : l.length ≤ 4611686018427387904) : Ev (fun k => impl_isEnded.f k l) (ended l) := implEnded_l0 l hl (tz l) 0 (by omega)

theorem implStanding_l0 (l : List Int) (hl : l.length ≤ 4611686018427387904) : ∀ (d : Nat) (i : Int) (s : Int × Int × Int), 0 ≤ i → i + d = l.length →
    Ev (fun k => impl_standing.l0 k s.1 s.2.1 s.2.2 l (l.length : Int) i) (standFrom i s (l.drop i.toNat)) := by
  intro d
  induction d with
  | zero =>
    intro i s h0 hd
    rw [List.drop_of_length_le (by omega)]
    refine Ev.step (fun k => by rw [impl_standing.l0]) ?_
    exact ifn (by omega) (Ev.now _)
  | succ d ih =>
    intro i s h0 hd
    rw [drop_rd h0 (by omega)]
    have e1 : wrap64 (i + 1) = i + 1 := wrap_id (by omega) (by omega)
    have ih' := ih (i + 1) (bstep i s (rd l i)) (by omega) (by omega)
    simp only [standFrom]
    refine Ev.step (fun k => by rw [impl_standing.l0]) ?_
    rw [e1, implIsBid]
    refine ifp (by omega) (ifp h0 (ifp (by omega) ?_))
    simp only [Option.bind_some]
    by_cases hb : 3 ≤ rd l i ∧ rd l i ≤ 37
    · refine ifp (by simpa using hb) ?_
      simp only [bstep, if_pos hb] at ih' ⊢
      exact ih'
    · refine ifn (by simpa using hb) ?_
      by_cases h1 : rd l i = 0
      · refine ifp h1 ?_
        simp only [bstep, if_neg hb, if_pos h1] at ih' ⊢
        exact ih'
      · refine ifn h1 ?_
        simp only [bstep, if_neg hb, if_neg h1] at ih' ⊢
        exact ih'
theorem implStanding (l : List Int) (hl : l.length ≤ 4611686018427387904) : Ev (fun k => impl_standing.f k l) (stand l) :=
  implStanding_l0 l hl l.length 0 (0, -1, 0) (by omega) (by omega)

theorem implLegal (l : List Int) (hl : l.length ≤ 4611686018427387904) (c : Int) : Ev (fun k => impl_isLegal.f k l c) (legal l c) := by
  unfold impl_isLegal.f
  refine Ev.bind (implStanding l hl) (Ev.congr (fun _ => ?_) (Ev.now (legal l c)))
  obtain ⟨h1, h2, h3⟩ := stand_at l
  have e : wrap64 ((l.length : Int) - (stand l).2.1) = (l.length : Int) - (stand l).2.1 := wrap_id (by omega) (by omega)
  have e2 : Int.tmod ((l.length : Int) - (stand l).2.1) 2 = ((l.length : Int) - (stand l).2.1) % 2 := Int.tmod_eq_emod_of_nonneg (by omega)
  unfold legal
  simp only [e, e2, implIsBid, Option.bind_some]
  by_cases hat : (stand l).2.1 < 0
  · have hz := h3 hat
    by_cases c0 : c = 0
    · simp [c0]
    · by_cases c1 : c = 1
      · subst c1; simp [show ¬ (0 ≤ (stand l).2.1) by omega]
      · by_cases c2 : c = 2
        · subst c2; simp [show ¬ (0 ≤ (stand l).2.1) by omega]
        · by_cases hb : 3 ≤ c ∧ c ≤ 37
          · simp [c0, c1, c2, hb] <;> omega
          · simp [c0, c1, c2, hb] <;> omega
  · have hz := h2 (by omega)
    by_cases c0 : c = 0
    · simp [c0]
    · by_cases c1 : c = 1
      · subst c1
        by_cases hs : (stand l).2.2 = 0
        · rw [if_neg (by decide), if_pos rfl, if_pos (by omega), if_pos hs, if_neg (by decide), if_pos rfl]
          congr 1
          rw [Bool.eq_iff_iff]; simp [hs]; omega
        · rw [if_neg (by decide), if_pos rfl, if_pos (by omega), if_neg hs, if_neg (by decide), if_pos rfl]
          congr 1
          rw [Bool.eq_iff_iff]; simp [hs]
      · by_cases c2 : c = 2
        · subst c2
          by_cases hs : (stand l).2.2 = 1
          · rw [if_neg (by decide), if_neg (by decide), if_pos rfl, if_pos (by omega), if_pos hs, if_neg (by decide), if_neg (by decide), if_pos rfl]
            congr 1
            rw [Bool.eq_iff_iff]; simp [hs]; omega
          · rw [if_neg (by decide), if_neg (by decide), if_pos rfl, if_pos (by omega), if_neg hs, if_neg (by decide), if_neg (by decide), if_pos rfl]
            congr 1
            rw [Bool.eq_iff_iff]; simp [hs]
        · by_cases hb : 3 ≤ c ∧ c ≤ 37
          · simp [c0, c1, c2, hb]
          · simp [c0, c1, c2, hb] <;> omega

theorem implIsAuction_l0 (dl : Int) (l : List Int) (hl : l.length ≤ 319) : ∀ (d : Nat) (i : Int), 0 ≤ i → i + d = l.length → Valid (l.take i.toNat) →
    Ev (fun k => impl_IsAuction.l0 k l (l.length : Int) i dl l) (validB l) := by
  intro d
  induction d with
  | zero =>
    intro i h0 hd hv
    rw [List.take_of_length_le (by omega)] at hv
    refine Ev.step (fun k => by rw [impl_IsAuction.l0]) ?_
    refine ifn (by omega) (Ev.congr (fun _ => ?_) (Ev.now (validB l)))
    rw [(validB_iff l).2 hv]
  | succ d ih =>
    intro i h0 hd hv
    have e1 : wrap64 (i + 1) = i + 1 := wrap_id (by omega) (by omega)
    have hlen : (l.take i.toNat).length ≤ 4611686018427387904 := by simp; omega
    have htk := take_rd h0 (show i < l.length by omega)
    have hno : ¬ Valid (l.take (i + 1).toNat) → validB l = false := by
      intro hn
      rw [Bool.eq_false_iff]
      exact fun hb => hn (valid_take ((validB_iff l).1 hb) _)
    refine Ev.step (fun k => by rw [impl_IsAuction.l0]) ?_
    rw [e1]
    refine ifp (by omega) (ifp h0 (ifp (by omega) (ifp (by omega) ?_)))
    refine Ev.bind (implEnded _ hlen) ?_
    rw [ended_over hv]
    cases ho : over (l.take i.toNat) with
    | true =>
      refine ifp (by simp) ?_
      rw [hno (by rw [htk, valid_snoc]; simp [ho])]
      exact Ev.now _
    | false =>
      refine ifn (by decide) ?_
      refine Ev.bind (implLegal _ hlen _) ?_
      cases hg : legal (l.take i.toNat) (rd l i) with
      | true => exact ifp rfl (ih (i + 1) (by omega) (by omega) (by rw [htk]; exact .snoc hv ho hg))
      | false =>
        refine ifn (by decide) ?_
        rw [hno (by rw [htk, valid_snoc]; simp [hg])]
        exact Ev.now _
theorem implIsAuction (dl : Int) (l : List Int) (hl : l.length ≤ 1048576) : Ev (fun k => impl_IsAuction.f k dl l) (decide (0 ≤ dl ∧ dl ≤ 3) && validB l) := by
  unfold impl_IsAuction.f impl_isSeat.f
  refine evb (by rw [within]; rfl) ?_
  by_cases h : 0 ≤ dl ∧ dl ≤ 3
  · simp only [h, and_self, decide_true, Bool.true_and]
    refine ifp (by simp) ?_
    refine Ev.step (fun k => by rw [impl_IsAuction.j0]) ?_
    by_cases h2 : l.length ≤ 319
    · refine ifn (by simp; omega) (implIsAuction_l0 dl l h2 l.length 0 (by omega) (by omega) .nil)
    · have e : validB l = false := by
        rw [Bool.eq_false_iff]
        exact fun hb => h2 (valid_length ((validB_iff l).1 hb))
      rw [e]
      exact ifp (by simp; omega) (Ev.now _)
  · simp only [h, decide_false, Bool.false_and]
    refine ifn (by decide) ?_
    refine Ev.step (fun k => by rw [impl_IsAuction.j0]) ?_
    exact ifp rfl (Ev.now _)

theorem toInts_l0 (l : List Int) (hl : l.length ≤ 1048576) : ∀ (d : Nat) (i : Int), 0 ≤ i → i + d = l.length →
    Ev (fun k => laws_toInt64S.l0 k l (l.take i.toNat ++ (List.replicate l.length (0 : Int)).drop i.toNat) i) l := by
  intro d
  induction d with
  | zero =>
    intro i h0 hd
    refine Ev.step (fun k => by rw [laws_toInt64S.l0]) ?_
    refine ifn (by omega) ?_
    rw [List.take_of_length_le (by omega), List.drop_of_length_le (by simp; omega), List.append_nil]
    exact Ev.now _
  | succ d ih =>
    intro i h0 hd
    have e1 : wrap64 (i + 1) = i + 1 := wrap_id (by omega) (by omega)
    have ih' := ih (i + 1) (by omega) (by omega)
    refine Ev.step (fun k => by rw [laws_toInt64S.l0]) ?_
    rw [e1, set_append_drop _ _ _ _ (by simp; omega) (by simp; omega), ← take_rd h0 (by omega), show i.toNat + 1 = (i + 1).toNat by omega]
    exact ifp (by omega) (ifp h0 (ifp (by simp; omega) ih'))
theorem toInts (l : List Int) (hl : l.length ≤ 1048576) : Ev (fun k => laws_toInt64S.f k l) l := by
  unfold laws_toInt64S.f
  refine ifp (by omega) (ifp (by omega) ?_)
  have := toInts_l0 l hl l.length 0 (by omega) (by omega)
  simpa using this

theorem eqInts_l0 (a : List Int) (ha : a.length ≤ 4611686018427387904) : ∀ (d : Nat) (i : Int), 0 ≤ i → i + d = a.length → Ev (fun k => laws_eqInt64S.l0 k a a i) true := by
  intro d
  induction d with
  | zero =>
    intro i h0 hd
    refine Ev.step (fun k => by rw [laws_eqInt64S.l0]) ?_
    exact ifn (by omega) (Ev.now _)
  | succ d ih =>
    intro i h0 hd
    have e1 : wrap64 (i + 1) = i + 1 := wrap_id (by omega) (by omega)
    refine Ev.step (fun k => by rw [laws_eqInt64S.l0]) ?_
    rw [e1]
    exact ifp (by omega) (ifp h0 (ifp (by omega) (ifp rfl (ih (i + 1) (by omega) (by omega)))))
theorem eqInts (a : List Int) (ha : a.length ≤ 4611686018427387904) : Ev (fun k => laws_eqInt64S.f k a a) true := by
  unfold laws_eqInt64S.f
  exact ifp rfl (eqInts_l0 a ha a.length 0 (by omega) (by omega))

theorem szAuction (d : Int) (l : List Int) (hl : l.length ≤ 9223372036854775807) : laws_szAuction.f d l 1048576 = some (if l.length ≤ 1048576 then 1048576 - (l.length : Int) else -1) := by
  unfold laws_szAuction.f laws_szInt64S.f
  rw [wrap_id (by omega) (by omega)]
  by_cases h : l.length ≤ 1048576
  · rw [if_neg (by omega), Option.bind_some, if_neg (by omega), if_pos h]
  · rw [if_pos (by omega), Option.bind_some, if_pos (by omega), if_neg h]
theorem toAuction (d : Int) (l : List Int) (hl : l.length ≤ 1048576) : Ev (fun k => laws_toAuction.f k d l) (d, l) := by
  unfold laws_toAuction.f
  exact Ev.bind (toInts l hl) (Ev.now _)
theorem eqAuction (d : Int) (l : List Int) (hl : l.length ≤ 1048576) : Ev (fun k => laws_eqAuction.f k d l d l) true := by
  unfold laws_eqAuction.f
  exact ifp rfl (Ev.bind (eqInts l (by omega)) (ifp rfl (Ev.now _)))

theorem markInts_l0 (l : List Int) (hl : l.length ≤ 1048576) (a : Int) (ha0 : -1000000000 ≤ a) (ha1 : a ≤ 1000000000) : ∀ (d i : Nat), i + d = l.length →
    Ev (fun k => laws_markInt64S.l0 k (seqFrom a i ++ l.drop i) (a + (i : Int)) (i : Int)) (a + (l.length : Int), seqFrom a l.length) := by
  intro d
  induction d with
  | zero =>
    intro i hd
    obtain rfl : i = l.length := by omega
    refine Ev.step (fun k => by rw [laws_markInt64S.l0]) ?_
    rw [List.drop_length, List.append_nil]
    exact ifn (by rw [seq_length]; omega) (Ev.now _)
  | succ d ih =>
    intro i hd
    have e1 : wrap64 ((i : Int) + 1) = ((i + 1 : Nat) : Int) := by rw [wrap_id (by omega) (by omega)]; omega
    have e2 : wrap64 (a + (i : Int) + 1) = a + ((i + 1 : Nat) : Int) := by rw [wrap_id (by omega) (by omega)]; omega
    have e3 : (seqFrom a i ++ l.drop i).length = l.length := by simp [seq_length]; omega
    have ih' := ih (i + 1) (by omega)
    refine Ev.step (fun k => by rw [laws_markInt64S.l0]) ?_
    rw [e3, e1, e2, Int.toNat_natCast, set_append_drop _ _ _ _ (seq_length a i) (by omega), ← seq_succ]
    exact ifp (by omega) (ifp (by omega) ih')
theorem markInts (l : List Int) (hl : l.length ≤ 1048576) (a : Int) (ha0 : -1000000000 ≤ a) (ha1 : a ≤ 1000000000) : Ev (fun k => laws_markInt64S.f k l a) (a + (l.length : Int), seqFrom a l.length) := by
  have h := markInts_l0 l hl a ha0 ha1 l.length 0 (by omega)
  simpa [seqFrom, laws_markInt64S.f] using h
theorem heldInts_l0 (n : Nat) (hn : n ≤ 1048576) (a : Int) (ha0 : -1000000000 ≤ a) (ha1 : a ≤ 1000000000) : ∀ (d i : Nat), i + d = n →
    Ev (fun k => laws_heldInt64S.l0 k (seqFrom a n) (a + (i : Int)) (i : Int)) (a + (n : Int)) := by
  intro d
  induction d with
  | zero =>
    intro i hd
    obtain rfl : i = n := by omega
    refine Ev.step (fun k => by rw [laws_heldInt64S.l0]) ?_
    exact ifn (by rw [seq_length]; omega) (Ev.now _)
  | succ d ih =>
    intro i hd
    have e1 : wrap64 ((i : Int) + 1) = ((i + 1 : Nat) : Int) := by rw [wrap_id (by omega) (by omega)]; omega
    have e2 : wrap64 (a + (i : Int) + 1) = a + ((i + 1 : Nat) : Int) := by rw [wrap_id (by omega) (by omega)]; omega
    refine Ev.step (fun k => by rw [laws_heldInt64S.l0]) ?_
    rw [seq_length, e1, e2]
    exact ifp (by omega) (ifp (by omega) (ifp (rd_seq (by omega) (by omega)) (ih (i + 1) (by omega))))
theorem heldInts (n : Nat) (hn : n ≤ 1048576) (a : Int) (ha0 : -1000000000 ≤ a) (ha1 : a ≤ 1000000000) : Ev (fun k => laws_heldInt64S.f k (seqFrom a n) a) (a + (n : Int)) := by
  have h := heldInts_l0 n hn a ha0 ha1 n 0 (by omega)
  simpa [laws_heldInt64S.f] using h

theorem specAdd (d : Int) (l : List Int) (c : Int) (hl : l.length ≤ 1048576) : spec_l07Add.f d l c = some (d, l ++ [c]) := by
  unfold spec_l07Add.f
  simp only [Option.bind_some, List.nil_append, List.length_nil, List.length_append, List.length_singleton]
  rw [if_pos (by omega), if_pos (by omega)]
theorem cloneInts (l : List Int) (hl : l.length ≤ 1048576) : slices_Clone_int64_int64.f l = some l := by
  unfold slices_Clone_int64_int64.f
  simp only [Option.bind_some, List.nil_append, List.length_nil]
  rw [if_pos (by omega)]
/-- What AddCall answers. -/
noncomputable def addM (d : Int) (l : List Int) (c : Int) : Int × List Int × Int :=
  if (decide (0 ≤ d ∧ d ≤ 3) && validB l) = true then if over l = true then (0, [], 5) else if legal l c = true then (d, l ++ [c], 0) else (0, [], 2) else (0, [], 1)
theorem addM_length (d : Int) (l : List Int) (c : Int) : (addM d l c).2.1.length ≤ l.length + 1 := by
  unfold addM
  split
  · split
    · simp
    · split <;> simp
  · simp
theorem specAddCall (d : Int) (l : List Int) (c : Int) (h : l.length ≤ 1048576) : Ev (fun k => spec_AddCall.f k d l c) (addM d l c) := by
  unfold spec_AddCall.f addM
  refine Ev.bind (specIsAuction d l h) ?_
  cases hv : (decide (0 ≤ d ∧ d ≤ 3) && validB l) with
  | false => exact ifn (by simp) (Ev.now _)
  | true =>
    have hV : Valid l := (validB_iff l).1 (by simpa using (Bool.and_eq_true _ _ ▸ hv : _ ∧ _).2)
    refine ifp rfl (Ev.bind (specOver l (by omega)) ?_)
    rw [if_pos rfl]
    cases ho : over l with
    | true => exact ifp rfl (Ev.now _)
    | false =>
      refine ifn (by simp) (Ev.bind (specLegal l (by omega) (known hV).calls c) ?_)
      cases hg : legal l c with
      | true =>
        show Ev _ ((d, l ++ [c], 0) : Int × List Int × Int)
        exact ifp rfl (evb (specAdd d l c h) (Ev.now _))
      | false =>
        show Ev _ ((0, [], 2) : Int × List Int × Int)
        exact ifn (by simp) (Ev.now _)
theorem implAddCall (d : Int) (l : List Int) (c : Int) (h : l.length ≤ 1048576) : Ev (fun k => impl_AddCall.f k d l c) (addM d l c) := by
  unfold impl_AddCall.f addM
  refine Ev.bind (implIsAuction d l h) ?_
  cases hv : (decide (0 ≤ d ∧ d ≤ 3) && validB l) with
  | false => exact ifn (by simp) (Ev.now _)
  | true =>
    have hV : Valid l := (validB_iff l).1 (by simpa using (Bool.and_eq_true _ _ ▸ hv : _ ∧ _).2)
    refine ifp rfl (Ev.bind (implEnded l (by omega)) ?_)
    rw [if_pos rfl, ended_over hV]
    cases ho : over l with
    | true => exact ifp rfl (Ev.now _)
    | false =>
      refine ifn (by simp) (Ev.bind (implLegal l (by omega) c) ?_)
      cases hg : legal l c with
      | true =>
        show Ev _ ((d, l ++ [c], 0) : Int × List Int × Int)
        exact ifp rfl (evb (cloneInts l h) (evb (a := [c]) rfl (ifp (by simp; omega) (Ev.now _))))
      | false =>
        show Ev _ ((0, [], 2) : Int × List Int × Int)
        exact ifn (by simp) (Ev.now _)

theorem eqAuctionG (d : Int) (l : List Int) (hl : l.length ≤ 4611686018427387904) : Ev (fun k => laws_eqAuction.f k d l d l) true := by
  unfold laws_eqAuction.f
  exact ifp rfl (Ev.bind (eqInts l hl) (ifp rfl (Ev.now _)))
theorem markAuction (d : Int) (l : List Int) (hl : l.length ≤ 1048576) : Ev (fun k => laws_markAuction.f k d l 1) (1 + (l.length : Int), seqFrom 1 l.length) := by
  unfold laws_markAuction.f
  exact Ev.bind (markInts l hl 1 (by omega) (by omega)) (Ev.now _)
theorem heldAuction (d : Int) (n : Nat) (hn : n ≤ 1048576) : Ev (fun k => laws_heldAuction.f k d (seqFrom 1 n) 1) (1 + (n : Int)) := by
  unfold laws_heldAuction.f
  exact Ev.bind (heldInts n hn 1 (by omega) (by omega)) (ifn (by omega) (Ev.now _))
theorem FnExactAddCall (d : Int) (l : List Int) (c : Int) (w0 : (Lit.int .i64 d).wf = true) (hl : l.length ≤ 9223372036854775807) (hw : ∀ x ∈ l, (Lit.int .i64 x).wf = true) (w1 : (Lit.int .i64 c).wf = true) : ∃ k, laws_FnExactAddCall.f k d l c = some true := by
  refine Ev.rounds ?_
  unfold laws_FnExactAddCall.f
  refine evb (szAuction d l hl) ?_
  by_cases h : l.length ≤ 1048575
  · rw [if_pos (by omega)]
    have h' : l.length ≤ 1048576 := by omega
    have hs := specAddCall d l c h'
    have hi := implAddCall d l c h'
    have hg := addM_length d l c
    generalize addM d l c = q at hs hi hg
    obtain ⟨q1, q2, q3⟩ := q
    have hg' : q2.length ≤ 1048576 := by simp only at hg; omega
    clear hg
    refine ifn (by omega) ?_
    refine Ev.bind (toAuction d l h') (Ev.bind hs (Ev.bind (toAuction d l h') (Ev.bind hi (Ev.bind (eqAuctionG q1 q2 (by omega)) (ifp rfl ?_)))))
    refine Ev.step (fun k => by rw [laws_FnExactAddCall.j0]) ?_
    refine ifn (by simp) (Ev.bind (toAuction d l h') (Ev.bind (eqAuctionG d l (by omega)) (ifp rfl (Ev.bind (markAuction d l h') (ifn (by omega) (Ev.bind (eqAuctionG q1 q2 (by omega)) (ifp rfl ?_)))))))
    refine Ev.step (fun k => by rw [laws_FnExactAddCall.j1]) ?_
    refine ifn (by simp) (Ev.bind (markAuction q1 q2 hg') (Ev.bind (heldAuction q1 q2.length hg') (ifn (by omega) (ifp rfl ?_))))
    refine Ev.bind (toAuction d l h') (Ev.bind hi (Ev.bind (eqAuctionG q1 q2 (by omega)) (ifp rfl ?_)))
    refine Ev.step (fun k => by rw [laws_FnExactAddCall.j2]) ?_
    exact ifn (by simp) (Ev.bind (heldAuction q1 q2.length hg') (ifn (by omega) (ifp rfl (Ev.now _))))
  · by_cases h2 : l.length ≤ 1048576
    · rw [if_pos h2]
      have hlong : validB l = false := by
        cases hv : validB l with
        | false => rfl
        | true => have := valid_length ((validB_iff l).1 hv); omega
      have hq : addM d l c = (0, [], 1) := by unfold addM; rw [hlong, Bool.and_false, if_neg (by simp)]
      have hs := specAddCall d l c h2
      have hi := implAddCall d l c h2
      rw [hq] at hs hi
      refine ifn (by omega) ?_
      refine Ev.bind (toAuction d l h2) (Ev.bind hs (Ev.bind (toAuction d l h2) (Ev.bind hi (Ev.bind (eqAuctionG 0 [] (by simp)) (ifp rfl ?_)))))
      refine Ev.step (fun k => by rw [laws_FnExactAddCall.j0]) ?_
      refine ifn (by simp) (Ev.bind (toAuction d l h2) (Ev.bind (eqAuctionG d l (by omega)) (ifp rfl (Ev.bind (markAuction d l h2) (ifn (by omega) (Ev.bind (eqAuctionG 0 [] (by simp)) (ifp rfl ?_)))))))
      refine Ev.step (fun k => by rw [laws_FnExactAddCall.j1]) ?_
      refine ifn (by simp) (Ev.bind (markAuction 0 [] (by simp)) (Ev.bind (heldAuction 0 0 (by simp)) (ifn (by omega) (ifp rfl ?_))))
      refine Ev.bind (toAuction d l h2) (Ev.bind hi (Ev.bind (eqAuctionG 0 [] (by simp)) (ifp rfl ?_)))
      refine Ev.step (fun k => by rw [laws_FnExactAddCall.j2]) ?_
      exact ifn (by simp) (Ev.bind (heldAuction 0 0 (by simp)) (ifn (by omega) (ifp rfl (Ev.now _))))
    · rw [if_neg h2]
      exact ifp (by omega) (Ev.now _)

end Go.Proofs.Ytbbndelebdackaa.Pure
