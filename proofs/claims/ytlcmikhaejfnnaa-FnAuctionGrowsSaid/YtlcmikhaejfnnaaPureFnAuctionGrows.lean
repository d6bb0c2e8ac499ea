/- Exactly the legal calls can be added to an auction that is not ended, a pass is one of them, and the turn passes to the next seat, whatever bytes the auction and the call are drawn from. Conditions: a list of bytes. -/
import Derived.Test.YtlcmikhaejfnnaaPFnAuctionGrowsx8
import Derived.Test.YtlcmikhaejfnnaaKit
import Derived.Test.YtlcmikhaejfnnaaAuc
namespace Go.Proofs.Ytlcmikhaejfnnaa.Pure
open Go.RowKit Go.Proofs.Ytlcmikhaejfnnaa.PFnAuctionGrows Go.Proofs.YtlcmikhaejfnnaaW.PrintWords Go.Proofs.YtlcmikhaejfnnaaW.PrintLast Go.Proofs.YtlcmikhaejfnnaaW.PrintMore Go.Proofs.Ytlcmikhaejfnnaa.Kit Go.Proofs.Ytlcmikhaejfnnaa.Auc
set_option linter.unusedVariables false
set_option linter.unusedSimpArgs false

theorem tw_step {α : Type} (f : α → Bool) : ∀ (r : List α) (p : Nat) (h : p < r.length), p ≤ (r.takeWhile f).length → (f r[p] = true ↔ p < (r.takeWhile f).length)
  | [], p, h, _ => by simp at h
  | x :: r, 0, h, _ => by
    cases hx : f x <;> simp [List.takeWhile_cons, hx]
  | x :: r, p + 1, h, hp => by
    cases hx : f x with
    | false => simp [List.takeWhile_cons, hx] at hp
    | true =>
      simp only [List.takeWhile_cons, hx, if_true, List.length_cons, Nat.add_le_add_iff_right] at hp
      simp only [List.takeWhile_cons, hx, if_true, List.length_cons, List.getElem_cons_succ, Nat.add_lt_add_iff_right]
      exact tw_step f r p (by simpa using h) hp
theorem tz_step (l : List Int) (p : Nat) (h : p < l.length) (hp : p ≤ tz l) : rd l ((l.length : Int) - 1 - p) = 0 ↔ p < tz l := by
  have e := tw_step (fun c : Int => c == 0) l.reverse p (by simpa using h) hp
  unfold tz
  rw [← e, List.getElem_reverse]
  have e2 : ((l.length : Int) - 1 - p) = ((l.length - 1 - p : Nat) : Int) := by omega
  rw [e2, rd_nat]
  have hlt : l.length - 1 - p < l.length := by omega
  simp [List.getD_eq_getElem?_getD, hlt]

theorem specOver_l0 (l : List Int) (hl : l.length ≤ 4611686018427387904) : ∀ (d p : Nat), p + d = tz l → Ev (fun k => spec_l07Over.l0 k l (l.length : Int) (p : Int)) (over l) := by
  intro d
  induction d with
  | zero =>
    intro p hp
    have hle := tz_le l
    have hans : Ev (fun _ : Nat => if (p : Int) ≥ 4 then some true else if (p : Int) = 3 then some (decide ((l.length : Int) > 3)) else some false) (over l) := by
      refine Ev.congr (fun _ => ?_) (Ev.now (over l))
      unfold over
      by_cases h4 : 4 ≤ p
      · rw [if_pos (by omega)]; congr 1; symm; rw [decide_eq_true_eq]; omega
      · rw [if_neg (by omega)]
        by_cases h3 : p = 3
        · rw [if_pos (by omega)]; congr 1; congr 1; apply propext; omega
        · rw [if_neg (by omega)]; congr 1; symm; rw [decide_eq_false_iff_not]; omega
    refine Ev.step (fun k => by rw [spec_l07Over.l0]) ?_
    by_cases hlt : p < l.length
    · have e1 : wrap64 (wrap64 ((l.length : Int) - 1) - (p : Int)) = (l.length : Int) - 1 - p := by rw [wrap_id (x := (l.length : Int) - 1) (by omega) (by omega), wrap_id (by omega) (by omega)]
      rw [e1]
      have hz := tz_step l p hlt (by omega)
      exact ifp (by omega) (ifp (by omega) (ifp (by omega) (ifn (by rw [hz]; omega) hans)))
    · exact ifn (by omega) hans
  | succ d ih =>
    intro p hp
    have hle := tz_le l
    have hlt : p < l.length := by omega
    refine Ev.step (fun k => by rw [spec_l07Over.l0]) ?_
    have e1 : wrap64 (wrap64 ((l.length : Int) - 1) - (p : Int)) = (l.length : Int) - 1 - p := by rw [wrap_id (x := (l.length : Int) - 1) (by omega) (by omega), wrap_id (by omega) (by omega)]
    have e2 : wrap64 ((p : Int) + 1) = ((p + 1 : Nat) : Int) := by rw [wrap_id (by omega) (by omega)]; omega
    rw [e1, e2]
    have hz := tz_step l p hlt (by omega)
    exact ifp (by omega) (ifp (by omega) (ifp (by omega) (ifp (by rw [hz]; omega) (ih (p + 1) (by omega)))))
theorem specOver (l : List Int) (hl : l.length ≤ 4611686018427387904) : Ev (fun k => spec_l07Over.f k l) (over l) := specOver_l0 l hl (tz l) 0 (by omega)

theorem within (a b c : Int) : impl_within.f a b c = some (decide (b ≤ a ∧ a ≤ c)) := by
  unfold impl_within.f
  by_cases h : b ≤ a <;> simp [h]

theorem l01In (a b c : Int) : spec_l01In.f a b c = some (decide (b ≤ a ∧ a ≤ c)) := by
  unfold spec_l01In.f
  by_cases h : b ≤ a <;> simp [h]

theorem implIsBid (c : Int) : impl_isBid.f c = some (decide (3 ≤ c ∧ c ≤ 37)) := by simp [impl_isBid.f, within]
theorem specBid (c : Int) : spec_l06Bid.f c = some (decide (3 ≤ c ∧ c ≤ 37)) := by simp [spec_l06Bid.f, l01In]

def specOf (s : Int × Int × Int) : Int × Int × Int := (if s.2.1 < 0 then -1 else s.1, s.2.2, s.2.1)
theorem specStanding_l0 (l : List Int) (hl : l.length ≤ 4611686018427387904) (hr : ∀ c ∈ l, 0 ≤ c ∧ c ≤ 37) : ∀ (d : Nat) (i : Int) (s : Int × Int × Int), 0 ≤ i → i + d = l.length →
    Ev (fun k => spec_l07Standing.l0 k l (specOf s).1 (specOf s).2.1 (specOf s).2.2 i) (specOf (standFrom i s (l.drop i.toNat))) := by
  intro d
  induction d with
  | zero =>
    intro i s h0 hd
    rw [List.drop_of_length_le (by omega)]
    refine Ev.step (fun k => by rw [spec_l07Standing.l0]) ?_
    exact ifn (by omega) (Ev.now _)
  | succ d ih =>
    intro i s h0 hd
    have hc := hr _ (rd_mem h0 (show i < l.length by omega))
    rw [drop_rd h0 (by omega)]
    have e1 : wrap64 (i + 1) = i + 1 := wrap_id (by omega) (by omega)
    have ih' := ih (i + 1) (bstep i s (rd l i)) (by omega) (by omega)
    simp only [standFrom]
    refine Ev.step (fun k => by rw [spec_l07Standing.l0]) ?_
    rw [e1, specBid]
    refine ifp (by omega) (ifp h0 ?_)
    simp only [Option.bind_some]
    by_cases hb : 3 ≤ rd l i ∧ rd l i ≤ 37
    · refine ifp (by simpa using hb) ?_
      have e : specOf (bstep i s (rd l i)) = (rd l i, 0, i) := by
        simp only [bstep, if_pos hb, specOf]
        rw [if_neg (by omega)]
      rw [e] at ih'
      exact ih'
    · refine ifn (by simpa using hb) ?_
      by_cases h1 : rd l i = 0
      · have e : specOf (bstep i s (rd l i)) = specOf s := by simp only [bstep, if_neg hb, if_pos h1]
        rw [e] at ih'
        exact ifn (by omega) (ifn (by omega) ih')
      · have e : specOf (bstep i s (rd l i)) = ((specOf s).1, rd l i, (specOf s).2.2) := by simp only [bstep, if_neg hb, if_neg h1, specOf]
        rw [e] at ih'
        by_cases h2 : rd l i = 1
        · refine ifp h2 ?_
          simp only [h2] at ih' ⊢
          exact ih'
        · refine ifn h2 ?_
          have h3 : rd l i = 2 := by omega
          refine ifp h3 ?_
          simp only [h3] at ih' ⊢
          exact ih'
theorem specStanding (l : List Int) (hl : l.length ≤ 4611686018427387904) (hr : ∀ c ∈ l, 0 ≤ c ∧ c ≤ 37) : Ev (fun k => spec_l07Standing.f k l) (specOf (stand l)) := by
  have h := specStanding_l0 l hl hr l.length 0 (0, -1, 0) (by omega) (by omega)
  exact h

theorem specLegal (l : List Int) (hl : l.length ≤ 4611686018427387904) (hr : ∀ c ∈ l, 0 ≤ c ∧ c ≤ 37) (c : Int) : Ev (fun k => spec_l07Legal.f k l c) (legal l c) := by
  unfold spec_l07Legal.f
  refine Ev.bind (specStanding l hl hr) (Ev.congr (fun _ => ?_) (Ev.now (legal l c)))
  obtain ⟨h1, h2, h3⟩ := stand_at l
  have e : wrap64 ((l.length : Int) - (stand l).2.1) = (l.length : Int) - (stand l).2.1 := wrap_id (by omega) (by omega)
  have e2 : Int.tmod ((l.length : Int) - (stand l).2.1) 2 = ((l.length : Int) - (stand l).2.1) % 2 := Int.tmod_eq_emod_of_nonneg (by omega)
  unfold legal specOf
  simp only [e, e2, specBid, Option.bind_some]
  by_cases hat : (stand l).2.1 < 0
  · have hz := h3 hat
    simp only [if_pos hat]
    by_cases c0 : c = 0
    · simp [c0]
    · by_cases c1 : c = 1
      · subst c1; simp; omega
      · by_cases c2 : c = 2
        · subst c2; simp; omega
        · by_cases hb : 3 ≤ c ∧ c ≤ 37
          · simp [c0, c1, c2, hb]; omega
          · simp [c0, c1, c2, hb]; omega
  · have hz := h2 (by omega)
    simp only [if_neg hat]
    by_cases c0 : c = 0
    · simp [c0]
    · by_cases c1 : c = 1
      · subst c1
        by_cases hs : (stand l).2.2 = 0
        · rw [if_neg (by decide), if_pos rfl, if_pos (by omega), if_pos hs, if_neg (by decide), if_pos rfl]
          congr 1
          rw [Bool.eq_iff_iff]; simp [hs]; omega
        · rw [if_neg (by decide), if_pos rfl, if_pos (by omega), if_neg hs, if_neg (by decide), if_pos rfl]
          congr 1
          rw [Bool.eq_iff_iff]; simp [hs]
      · by_cases c2 : c = 2
        · subst c2
          by_cases hs : (stand l).2.2 = 1
          · rw [if_neg (by decide), if_neg (by decide), if_pos rfl, if_pos (by omega), if_pos hs, if_neg (by decide), if_neg (by decide), if_pos rfl]
            congr 1
            rw [Bool.eq_iff_iff]; simp [hs]; omega
          · rw [if_neg (by decide), if_neg (by decide), if_pos rfl, if_pos (by omega), if_neg hs, if_neg (by decide), if_neg (by decide), if_pos rfl]
            congr 1
            rw [Bool.eq_iff_iff]; simp [hs]
        · by_cases hb : 3 ≤ c ∧ c ≤ 37
          · simp [c0, c1, c2, hb]
          · simp [c0, c1, c2, hb]; omega

theorem specIsAuction_l0 (dl : Int) (l : List Int) (hl : l.length ≤ 1048576) : ∀ (d : Nat) (i : Int), 0 ≤ i → i + d = l.length → Valid (l.take i.toNat) →
    Ev (fun k => spec_IsAuction.l0 k i dl l) (validB l) := by
  intro d
  induction d with
  | zero =>
    intro i h0 hd hv
    rw [List.take_of_length_le (by omega)] at hv
    refine Ev.step (fun k => by rw [spec_IsAuction.l0]) ?_
    refine ifn (by omega) (Ev.congr (fun _ => ?_) (Ev.now (validB l)))
    rw [(validB_iff l).2 hv]
  | succ d ih =>
    intro i h0 hd hv
    have e1 : wrap64 (i + 1) = i + 1 := wrap_id (by omega) (by omega)
    have hlen : (l.take i.toNat).length ≤ 4611686018427387904 := by simp; omega
    have htk := take_rd h0 (show i < l.length by omega)
    have hno : ¬ Valid (l.take (i + 1).toNat) → validB l = false := by
      intro hn
      rw [Bool.eq_false_iff]
      exact fun hb => hn (valid_take ((validB_iff l).1 hb) _)
    refine Ev.step (fun k => by rw [spec_IsAuction.l0]) ?_
    rw [e1]
    refine ifp (by omega) (ifp h0 (ifp (by omega) ?_))
    refine Ev.bind (specOver _ hlen) ?_
    cases ho : over (l.take i.toNat) with
    | true =>
      refine ifp rfl ?_
      rw [hno (by rw [htk, valid_snoc]; simp [ho])]
      exact Ev.now _
    | false =>
      refine ifn (by decide) ?_
      refine Ev.bind (specLegal _ hlen (known hv).calls _) ?_
      cases hg : legal (l.take i.toNat) (rd l i) with
      | true => exact ifp rfl (ih (i + 1) (by omega) (by omega) (by rw [htk]; exact .snoc hv ho hg))
      | false =>
        refine ifn (by decide) ?_
        rw [hno (by rw [htk, valid_snoc]; simp [hg])]
        exact Ev.now _
theorem specIsAuction (dl : Int) (l : List Int) (hl : l.length ≤ 1048576) : Ev (fun k => spec_IsAuction.f k dl l) (decide (0 ≤ dl ∧ dl ≤ 3) && validB l) := by
  unfold spec_IsAuction.f
  refine evb (l01In _ _ _) ?_
  by_cases h : 0 ≤ dl ∧ dl ≤ 3
  · simp only [h, and_self, decide_true, Bool.true_and]
    exact ifp (by simp) (specIsAuction_l0 dl l hl l.length 0 (by omega) (by omega) .nil)
  · simp only [h, decide_false, Bool.false_and]
    exact ifn (by decide) (Ev.now _)

theorem implEnded_l0 (l : List Int) (hl : l.length ≤ 4611686018427387904) : ∀ (d p : Nat), p + d = tz l → Ev (fun k => impl_isEnded.l0 k l (p : Int)) (ended l) := by
  intro d
  induction d with
  | zero =>
    intro p hp
    have hle := tz_le l
    refine Ev.step (fun k => by rw [impl_isEnded.l0]) ?_
    by_cases hlt : p < l.length
    · have e1 : wrap64 (wrap64 ((l.length : Int) - 1) - (p : Int)) = (l.length : Int) - 1 - p := by rw [wrap_id (x := (l.length : Int) - 1) (by omega) (by omega), wrap_id (by omega) (by omega)]
      rw [e1]
      have hz := tz_step l p hlt (by omega)
      refine ifp (by omega) (ifp (by omega) (ifp (by omega) (ifn (by rw [hz]; omega) (ifn (by omega) (Ev.congr (fun _ => ?_) (Ev.now (ended l)))))))
      unfold ended
      congr 1
      rw [Bool.eq_iff_iff]
      simp
      omega
    · refine ifn (by omega) (ifp (by omega) (Ev.congr (fun _ => ?_) (Ev.now (ended l))))
      unfold ended
      by_cases h4 : p = 4
      · rw [if_pos (by omega)]; congr 1; symm; rw [decide_eq_true_eq]; omega
      · rw [if_neg (by omega)]; congr 1; symm; rw [decide_eq_false_iff_not]; omega
  | succ d ih =>
    intro p hp
    have hle := tz_le l
    have hlt : p < l.length := by omega
    refine Ev.step (fun k => by rw [impl_isEnded.l0]) ?_
    have e1 : wrap64 (wrap64 ((l.length : Int) - 1) - (p : Int)) = (l.length : Int) - 1 - p := by rw [wrap_id (x := (l.length : Int) - 1) (by omega) (by omega), wrap_id (by omega) (by omega)]
    have e2 : wrap64 ((p : Int) + 1) = ((p + 1 : Nat) : Int) := by rw [wrap_id (by omega) (by omega)]; omega
    rw [e1, e2]
    have hz := tz_step l p hlt (by omega)
    exact ifp (by omega) (ifp (by omega) (ifp (by omega) (ifp (by rw [hz]; omega) (ih (p + 1) (by omega)))))
theorem implEnded (l : List Int) (hl : l.length ≤ 4611686018427387904) : Ev (fun k => impl_isEnded.f k l) (ended l) := implEnded_l0 l hl (tz l) 0 (by omega)

theorem implStanding_l0 (l : List Int) (hl : l.length ≤ 4611686018427387904) : ∀ (d : Nat) (i : Int) (s : Int × Int × Int), 0 ≤ i → i + d = l.length →
    Ev (fun k => impl_standing.l0 k s.1 s.2.1 s.2.2 l (l.length : Int) i) (standFrom i s (l.drop i.toNat)) := by
  intro d
  induction d with
  | zero =>
    intro i s h0 hd
    rw [List.drop_of_length_le (by omega)]
    refine Ev.step (fun k => by rw [impl_standing.l0]) ?_
    exact ifn (by omega) (Ev.now _)
  | succ d ih =>
    intro i s h0 hd
    rw [drop_rd h0 (by omega)]
    have e1 : wrap64 (i + 1) = i + 1 := wrap_id (by omega) (by omega)
    have ih' := ih (i + 1) (bstep i s (rd l i)) (by omega) (by omega)
    simp only [standFrom]
    refine Ev.step (fun k => by rw [impl_standing.l0]) ?_
    rw [e1, implIsBid]
    refine ifp (by omega) (ifp h0 (ifp (by omega) ?_))
    simp only [Option.bind_some]
    by_cases hb : 3 ≤ rd l i ∧ rd l i ≤ 37
    · refine ifp (by simpa using hb) ?_
      simp only [bstep, if_pos hb] at ih' ⊢
      exact ih'
    · refine ifn (by simpa using hb) ?_
      by_cases h1 : rd l i = 0
      · refine ifp h1 ?_
        simp only [bstep, if_neg hb, if_pos h1] at ih' ⊢
        exact ih'
      · refine ifn h1 ?_
        simp only [bstep, if_neg hb, if_neg h1] at ih' ⊢
        exact ih'
theorem implStanding (l : List Int) (hl : l.length ≤ 4611686018427387904) : Ev (fun k => impl_standing.f k l) (stand l) :=
  implStanding_l0 l hl l.length 0 (0, -1, 0) (by omega) (by omega)

theorem implLegal (l : List Int) (hl : l.length ≤ 4611686018427387904) (c : Int) : Ev (fun k => impl_isLegal.f k l c) (legal l c) := by
  unfold impl_isLegal.f
  refine Ev.bind (implStanding l hl) (Ev.congr (fun _ => ?_) (Ev.now (legal l c)))
  obtain ⟨h1, h2, h3⟩ := stand_at l
  have e : wrap64 ((l.length : Int) - (stand l).2.1) = (l.length : Int) - (stand l).2.1 := wrap_id (by omega) (by omega)
  have e2 : Int.tmod ((l.length : Int) - (stand l).2.1) 2 = ((l.length : Int) - (stand l).2.1) % 2 := Int.tmod_eq_emod_of_nonneg (by omega)
  unfold legal
  simp only [e, e2, implIsBid, Option.bind_some]
  by_cases hat : (stand l).2.1 < 0
  · have hz := h3 hat
    by_cases c0 : c = 0
    · simp [c0]
    · by_cases c1 : c = 1
      · subst c1; simp [show ¬ (0 ≤ (stand l).2.1) by omega]
      · by_cases c2 : c = 2
        · subst c2; simp [show ¬ (0 ≤ (stand l).2.1) by omega]
        · by_cases hb : 3 ≤ c ∧ c ≤ 37
          · simp [c0, c1, c2, hb] <;> omega
          · simp [c0, c1, c2, hb] <;> omega
  · have hz := h2 (by omega)
    by_cases c0 : c = 0
    · simp [c0]
    · by_cases c1 : c = 1
      · subst c1
        by_cases hs : (stand l).2.2 = 0
        · rw [if_neg (by decide), if_pos rfl, if_pos (by omega), if_pos hs, if_neg (by decide), if_pos rfl]
          congr 1
          rw [Bool.eq_iff_iff]; simp [hs]; omega
        · rw [if_neg (by decide), if_pos rfl, if_pos (by omega), if_neg hs, if_neg (by decide), if_pos rfl]
          congr 1
          rw [Bool.eq_iff_iff]; simp [hs]
      · by_cases c2 : c = 2
        · subst c2
          by_cases hs : (stand l).2.2 = 1
          · rw [if_neg (by decide), if_neg (by decide), if_pos rfl, if_pos (by omega), if_pos hs, if_neg (by decide), if_neg (by decide), if_pos rfl]
            congr 1
            rw [Bool.eq_iff_iff]; simp [hs]; omega
          · rw [if_neg (by decide), if_neg (by decide), if_pos rfl, if_pos (by omega), if_neg hs, if_neg (by decide), if_neg (by decide), if_pos rfl]
            congr 1
            rw [Bool.eq_iff_iff]; simp [hs]
        · by_cases hb : 3 ≤ c ∧ c ≤ 37
          · simp [c0, c1, c2, hb]
          · simp [c0, c1, c2, hb] <;> omega

theorem implIsAuction_l0 (dl : Int) (l : List Int) (hl : l.length ≤ 319) : ∀ (d : Nat) (i : Int), 0 ≤ i → i + d = l.length → Valid (l.take i.toNat) →
    Ev (fun k => impl_IsAuction.l0 k l (l.length : Int) i dl l) (validB l) := by
  intro d
  induction d with
  | zero =>
    intro i h0 hd hv
    rw [List.take_of_length_le (by omega)] at hv
    refine Ev.step (fun k => by rw [impl_IsAuction.l0]) ?_
    refine ifn (by omega) (Ev.congr (fun _ => ?_) (Ev.now (validB l)))
    rw [(validB_iff l).2 hv]
  | succ d ih =>
    intro i h0 hd hv
    have e1 : wrap64 (i + 1) = i + 1 := wrap_id (by omega) (by omega)
    have hlen : (l.take i.toNat).length ≤ 4611686018427387904 := by simp; omega
    have htk := take_rd h0 (show i < l.length by omega)
    have hno : ¬ Valid (l.take (i + 1).toNat) → validB l = false := by
      intro hn
      rw [Bool.eq_false_iff]
      exact fun hb => hn (valid_take ((validB_iff l).1 hb) _)
    refine Ev.step (fun k => by rw [impl_IsAuction.l0]) ?_
    rw [e1]
    refine ifp (by omega) (ifp h0 (ifp (by omega) (ifp (by omega) ?_)))
    refine Ev.bind (implEnded _ hlen) ?_
    rw [ended_over hv]
    cases ho : over (l.take i.toNat) with
    | true =>
      refine ifp (by simp) ?_
      rw [hno (by rw [htk, valid_snoc]; simp [ho])]
      exact Ev.now _
    | false =>
      refine ifn (by decide) ?_
      refine Ev.bind (implLegal _ hlen _) ?_
      cases hg : legal (l.take i.toNat) (rd l i) with
      | true => exact ifp rfl (ih (i + 1) (by omega) (by omega) (by rw [htk]; exact .snoc hv ho hg))
      | false =>
        refine ifn (by decide) ?_
        rw [hno (by rw [htk, valid_snoc]; simp [hg])]
        exact Ev.now _
theorem implIsAuction (dl : Int) (l : List Int) (hl : l.length ≤ 1048576) : Ev (fun k => impl_IsAuction.f k dl l) (decide (0 ≤ dl ∧ dl ≤ 3) && validB l) := by
  unfold impl_IsAuction.f impl_isSeat.f
  refine evb (by rw [within]; rfl) ?_
  by_cases h : 0 ≤ dl ∧ dl ≤ 3
  · simp only [h, and_self, decide_true, Bool.true_and]
    refine ifp (by simp) ?_
    refine Ev.step (fun k => by rw [impl_IsAuction.j0]) ?_
    by_cases h2 : l.length ≤ 319
    · refine ifn (by simp; omega) (implIsAuction_l0 dl l h2 l.length 0 (by omega) (by omega) .nil)
    · have e : validB l = false := by
        rw [Bool.eq_false_iff]
        exact fun hb => h2 (valid_length ((validB_iff l).1 hb))
      rw [e]
      exact ifp (by simp; omega) (Ev.now _)
  · simp only [h, decide_false, Bool.false_and]
    refine ifn (by decide) ?_
    refine Ev.step (fun k => by rw [impl_IsAuction.j0]) ?_
    exact ifp rfl (Ev.now _)

/-- Whose turn it is. -/
noncomputable def seatM (d : Int) (l : List Int) : Int := if (decide (0 ≤ d ∧ d ≤ 3) && validB l && !over l) = true then (d + (l.length : Int)) % 4 else -1
theorem implGoesOn (d : Int) (l : List Int) (h : l.length ≤ 1048576) : Ev (fun k => impl_goesOn.f k d l) (decide (0 ≤ d ∧ d ≤ 3) && validB l && !over l) := by
  unfold impl_goesOn.f
  refine Ev.bind (implIsAuction d l h) ?_
  cases hv : (decide (0 ≤ d ∧ d ≤ 3) && validB l) with
  | false => exact ifn (by simp) (by simpa using Ev.now _)
  | true =>
    have hV : Valid l := (validB_iff l).1 (by simpa using (Bool.and_eq_true _ _ ▸ hv : _ ∧ _).2)
    refine ifp rfl (Ev.bind (implEnded l (by omega)) ?_)
    rw [ended_over hV]
    simpa using Ev.now _
theorem implSeatToCall (d : Int) (l : List Int) (h : l.length ≤ 1048576) : Ev (fun k => impl_SeatToCall.f k d l) (seatM d l) := by
  unfold impl_SeatToCall.f seatM
  refine Ev.bind (implGoesOn d l h) ?_
  cases hv : (decide (0 ≤ d ∧ d ≤ 3) && validB l && !over l) with
  | false => exact ifn (by simp) (Ev.now _)
  | true =>
    have hd : 0 ≤ d ∧ d ≤ 3 := by
      simp only [Bool.and_eq_true, decide_eq_true_eq] at hv
      exact hv.1.1
    refine ifp rfl ?_
    rw [wrap_id (by omega) (by omega), Int.tmod_eq_emod_of_nonneg (by omega), if_pos rfl]
    exact Ev.now _

theorem specSeatToCall (d : Int) (l : List Int) (h : l.length ≤ 1048576) : Ev (fun k => spec_SeatToCall.f k d l) (seatM d l) := by
  unfold spec_SeatToCall.f seatM
  refine Ev.bind (specIsAuction d l h) ?_
  cases hv : (decide (0 ≤ d ∧ d ≤ 3) && validB l) with
  | false => exact ifn (by simp) (by simpa using Ev.now _)
  | true =>
    have hd : 0 ≤ d ∧ d ≤ 3 := by
      simp only [Bool.and_eq_true, decide_eq_true_eq] at hv
      exact hv.1
    refine ifp rfl (Ev.bind (specOver l (by omega)) ?_)
    cases over l with
    | true => exact ifp rfl (by simpa using Ev.now _)
    | false =>
      refine ifn (by simp) ?_
      rw [wrap_id (by omega) (by omega), Int.tmod_eq_emod_of_nonneg (by omega)]
      simpa using Ev.now _

def legalsFrom (l : List Int) (c : Int) : Nat → List Int
  | 0 => []
  | n + 1 => if legal l c = true then c :: legalsFrom l (c + 1) n else legalsFrom l (c + 1) n
theorem legalsFrom_length (l : List Int) : ∀ (n : Nat) (c : Int), (legalsFrom l c n).length ≤ n
  | 0, _ => by simp [legalsFrom]
  | n + 1, c => by
    have := legalsFrom_length l n (c + 1)
    unfold legalsFrom
    split
    · simp; omega
    · omega
theorem implLegals_l0 (l : List Int) (hl : l.length ≤ 1048576) : ∀ (n : Nat) (c : Int) (acc : List Int), 0 ≤ c → c + n = 38 → acc.length ≤ c →
    Ev (fun k => impl_legalCalls.l0 k l acc c) (acc ++ legalsFrom l c n) := by
  intro n
  induction n with
  | zero =>
    intro c acc h0 hn ha
    refine Ev.step (fun k => by rw [impl_legalCalls.l0]) ?_
    simp only [legalsFrom, List.append_nil]
    exact ifn (by omega) (Ev.now _)
  | succ n ih =>
    intro c acc h0 hn ha
    have e1 : wrap64 (c + 1) = c + 1 := wrap_id (by omega) (by omega)
    refine Ev.step (fun k => by rw [impl_legalCalls.l0]) ?_
    rw [e1]
    refine ifp (by omega) (Ev.bind (implLegal l (by omega) c) ?_)
    unfold legalsFrom
    cases hg : legal l c with
    | true =>
      refine ifp rfl (ifp (by omega) ?_)
      have := ih (c + 1) (acc ++ [c]) (by omega) (by omega) (by simp; omega)
      simpa using this
    | false =>
      refine ifn (by decide) ?_
      have := ih (c + 1) acc (by omega) (by omega) (by omega)
      simpa using this
noncomputable def legals (d : Int) (l : List Int) : List Int := if (decide (0 ≤ d ∧ d ≤ 3) && validB l && !over l) = true then legalsFrom l 0 38 else []
theorem legals_length (d : Int) (l : List Int) : (legals d l).length ≤ 38 := by
  unfold legals
  split
  · exact legalsFrom_length l 38 0
  · simp
theorem implLegalCalls (d : Int) (l : List Int) (h : l.length ≤ 1048576) : Ev (fun k => impl_LegalCalls.f k d l) (legals d l) := by
  unfold impl_LegalCalls.f
  refine Ev.bind (implGoesOn d l h) ?_
  unfold legals
  cases hv : (decide (0 ≤ d ∧ d ≤ 3) && validB l && !over l) with
  | true =>
    refine ifp rfl (Ev.bind (a := legalsFrom l 0 38) ?_ (by simpa using Ev.now _))
    have := implLegals_l0 l h 38 0 [] (by omega) (by omega) (by simp)
    simpa [impl_legalCalls.f] using this
  | false => exact ifn (by decide) (by simpa using Ev.now _)

theorem cloneInts (l : List Int) (hl : l.length ≤ 1048576) : slices_Clone_int64_int64.f l = some l := by
  unfold slices_Clone_int64_int64.f
  simp only [Option.bind_some, List.nil_append, List.length_nil]
  rw [if_pos (by omega)]
noncomputable def addM (d : Int) (l : List Int) (c : Int) : Int × List Int × Int :=
  if (decide (0 ≤ d ∧ d ≤ 3) && validB l) = true then if over l = true then (0, [], 5) else if legal l c = true then (d, l ++ [c], 0) else (0, [], 2) else (0, [], 1)
theorem addM_length (d : Int) (l : List Int) (c : Int) : (addM d l c).2.1.length ≤ l.length + 1 := by
  unfold addM
  split
  · split
    · simp
    · split <;> simp
  · simp
theorem implAddCall (d : Int) (l : List Int) (c : Int) (h : l.length ≤ 1048576) : Ev (fun k => impl_AddCall.f k d l c) (addM d l c) := by
  unfold impl_AddCall.f addM
  refine Ev.bind (implIsAuction d l h) ?_
  cases hv : (decide (0 ≤ d ∧ d ≤ 3) && validB l) with
  | false => exact ifn (by simp) (Ev.now _)
  | true =>
    have hV : Valid l := (validB_iff l).1 (by simpa using (Bool.and_eq_true _ _ ▸ hv : _ ∧ _).2)
    refine ifp rfl (Ev.bind (implEnded l (by omega)) ?_)
    rw [if_pos rfl, ended_over hV]
    cases ho : over l with
    | true => exact ifp rfl (Ev.now _)
    | false =>
      refine ifn (by simp) (Ev.bind (implLegal l (by omega) c) ?_)
      cases hg : legal l c with
      | true =>
        show Ev _ ((d, l ++ [c], 0) : Int × List Int × Int)
        exact ifp rfl (evb (cloneInts l h) (evb (a := [c]) rfl (ifp (by simp; omega) (Ev.now _))))
      | false =>
        show Ev _ ((0, [], 2) : Int × List Int × Int)
        exact ifn (by simp) (Ev.now _)

theorem rd_byte {xs : List Int} (hx : ∀ x ∈ xs, 0 ≤ x ∧ x ≤ 255) (i : Int) : 0 ≤ rd xs i ∧ rd xs i ≤ 255 := by
  unfold rd
  by_cases h : i.toNat < xs.length
  · have e : xs.getD i.toNat 0 = xs[i.toNat] := by simp [List.getD_eq_getElem?_getD, h]
    rw [e]
    exact hx _ (List.getElem_mem h)
  · have e : xs.getD i.toNat 0 = 0 := by simp [List.getD_eq_getElem?_getD, List.getElem?_eq_none (Nat.not_lt.1 h)]
    omega
/-- The source of numbers: the place in the code, the seed. -/
def Src (code : List Int) (at_ seed : Int) : Prop := 0 ≤ at_ ∧ at_ ≤ code.length ∧ 0 ≤ seed ∧ seed < 2147483647
theorem next_seed {seed : Int} (h0 : 0 ≤ seed) (h1 : seed < 2147483647) : ∃ s, Int.tmod (wrap64 (wrap64 (seed * 48271) + 13)) 2147483647 = s ∧ 0 ≤ s ∧ s < 2147483647 := by
  refine ⟨_, rfl, ?_⟩
  rw [wrap_id (x := seed * 48271) (by omega) (by omega), wrap_id (by omega) (by omega)]
  exact ⟨Int.tmod_nonneg _ (by omega), Int.tmod_lt_of_pos _ (by omega)⟩
theorem l01Next (code : List Int) (hl : code.length ≤ 140737488351232) (hc : ∀ x ∈ code, 0 ≤ x ∧ x ≤ 255) (at_ seed n : Int) (h : Src code at_ seed) :
    ∃ r at' seed', spec_l01Next.f code at_ seed n = some (r, at', seed') ∧ 0 ≤ r ∧ (r < n ∨ (n ≤ 1 ∧ r = 0)) ∧ Src code at' seed' := by
  obtain ⟨h0, h1, h2, h3⟩ := h
  unfold spec_l01Next.f
  by_cases n1 : n ≤ 1
  · exact ⟨0, at_, seed, by rw [if_pos n1], by omega, .inr ⟨n1, rfl⟩, h0, h1, h2, h3⟩
  · rw [if_neg n1]
    obtain ⟨s, es, s0, s1⟩ := next_seed h2 h3
    rw [es]
    have hq : 0 ≤ Int.tdiv s 13 ∧ Int.tdiv s 13 ≤ 2147483647 := by
      rw [Int.tdiv_eq_ediv_of_nonneg s0]
      omega
    by_cases ha : at_ < code.length
    · rw [if_pos ha, if_pos h0]
      have e1 : wrap64 (at_ + 1) = at_ + 1 := wrap_id (by omega) (by omega)
      have e2 : wrap64 (at_ + 1 - 1) = at_ := by rw [wrap_id (by omega) (by omega)]; omega
      rw [e1, e2]
      have hb := rd_byte hc at_
      have e3 : wrap64 (rd code at_) = rd code at_ := wrap_id (by omega) (by omega)
      have e4 : wrap64 (wrap64 (Int.tdiv s 13) + wrap64 (rd code at_)) = Int.tdiv s 13 + rd code at_ := by
        rw [wrap_id (x := Int.tdiv s 13) (by omega) (by omega), e3, wrap_id (by omega) (by omega)]
      rw [e4, e3]
      by_cases n2 : n ≤ 256
      · rw [if_pos n2]
        by_cases n3 : Int.tmod (at_ + 1) 2 = 0
        · rw [if_pos n3, if_pos h0, if_pos ha, if_neg (by omega)]
          exact ⟨_, _, _, rfl, Int.tmod_nonneg _ (by omega), .inl (Int.tmod_lt_of_pos _ (by omega)), by omega, by omega, s0, s1⟩
        · rw [if_neg n3, if_neg (by omega)]
          exact ⟨_, _, _, rfl, Int.tmod_nonneg _ (by omega), .inl (Int.tmod_lt_of_pos _ (by omega)), by omega, by omega, s0, s1⟩
      · rw [if_neg n2, if_neg (by omega)]
        exact ⟨_, _, _, rfl, Int.tmod_nonneg _ (by omega), .inl (Int.tmod_lt_of_pos _ (by omega)), by omega, by omega, s0, s1⟩
    · rw [if_neg ha, if_neg (by omega)]
      have e4 : wrap64 (Int.tdiv s 13) = Int.tdiv s 13 := wrap_id (by omega) (by omega)
      rw [e4]
      exact ⟨_, _, _, rfl, Int.tmod_nonneg _ (by omega), .inl (Int.tmod_lt_of_pos _ (by omega)), h0, h1, s0, s1⟩
theorem from_seed {x b : Int} (h0 : 0 ≤ x) (h1 : x < 2147483647) (hb : 0 ≤ b ∧ b ≤ 255) : ∃ s, Int.tmod (wrap64 (wrap64 (x * 41) + wrap64 b)) 2147483647 = s ∧ 0 ≤ s ∧ s < 2147483647 := by
  refine ⟨_, rfl, ?_⟩
  rw [wrap_id (x := x * 41) (by omega) (by omega), wrap_id (x := b) (by omega) (by omega), wrap_id (by omega) (by omega)]
  exact ⟨Int.tmod_nonneg _ (by omega), Int.tmod_lt_of_pos _ (by omega)⟩
theorem l01From_l0 (code : List Int) (hl : code.length ≤ 140737488351232) (hc : ∀ x ∈ code, 0 ≤ x ∧ x ≤ 255) : ∀ (d : Nat) (i seed : Int), 0 ≤ i → i + d = code.length → 0 ≤ seed → seed < 2147483647 →
    ∃ s, Ev (fun k => spec_l01From.l0 k code i code 0 seed) (code, 0, s) ∧ 0 ≤ s ∧ s < 2147483647 := by
  intro d
  induction d with
  | zero =>
    intro i seed h0 hd s0 s1
    refine ⟨seed, Ev.step (fun k => by rw [spec_l01From.l0]) (ifn (by omega) (Ev.now _)), s0, s1⟩
  | succ d ih =>
    intro i seed h0 hd s0 s1
    have e1 : wrap64 (i + 1) = i + 1 := wrap_id (by omega) (by omega)
    by_cases h64 : i < 64
    · obtain ⟨s, es, t0, t1⟩ := from_seed s0 s1 (rd_byte hc i)
      obtain ⟨s', hs', u0, u1⟩ := ih (i + 1) s (by omega) (by omega) t0 t1
      refine ⟨s', Ev.step (fun k => by rw [spec_l01From.l0]) ?_, u0, u1⟩
      rw [e1, es]
      exact ifp (by omega) (ifp h64 (ifp h0 hs'))
    · exact ⟨seed, Ev.step (fun k => by rw [spec_l01From.l0]) (ifp (by omega) (ifn h64 (Ev.now _))), s0, s1⟩
theorem l01From (code : List Int) (hl : code.length ≤ 140737488351232) (hc : ∀ x ∈ code, 0 ≤ x ∧ x ≤ 255) : ∃ s, Ev (fun k => spec_l01From.f k code) (code, 0, s) ∧ Src code 0 s := by
  obtain ⟨s, hs, s0, s1⟩ := l01From_l0 code hl hc code.length 0 86421 (by omega) (by omega) (by omega) (by omega)
  exact ⟨s, hs, by omega, by omega, s0, s1⟩

theorem l06Draw_j0 (code : List Int) (hl : code.length ≤ 140737488351232) (hc : ∀ x ∈ code, 0 ≤ x ∧ x ≤ 255) (b : Bool) (at_ seed : Int) (h : Src code at_ seed) :
    ∃ c at' seed', Ev (fun k => spec_l06Draw.j0 k b code at_ seed) (c, at', seed') ∧ 0 ≤ c ∧ c ≤ 37 ∧ Src code at' seed' := by
  cases b with
  | true =>
    obtain ⟨r, a, s, e, r0, r1, hs⟩ := l01Next code hl hc at_ seed 3 h
    refine ⟨r, a, s, Ev.step (fun k => by rw [spec_l06Draw.j0]) (ifp rfl (evb e (Ev.now _))), r0, by omega, hs⟩
  | false =>
    obtain ⟨r, a, s, e, r0, r1, hs⟩ := l01Next code hl hc at_ seed 35 h
    have e2 : wrap64 (3 + r) = 3 + r := wrap_id (by omega) (by omega)
    refine ⟨3 + r, a, s, Ev.step (fun k => by rw [spec_l06Draw.j0]) (ifn (by decide) (evb e ?_)), by omega, by omega, hs⟩
    simp only [e2]
    exact Ev.now _
theorem l06Draw (code : List Int) (hl : code.length ≤ 140737488351232) (hc : ∀ x ∈ code, 0 ≤ x ∧ x ≤ 255) (at_ seed : Int) (h : Src code at_ seed) :
    ∃ c at' seed', Ev (fun k => spec_l06Draw.f k code at_ seed) (c, at', seed') ∧ ((-1 ≤ c ∧ c ≤ 38) ∨ c = 1000) ∧ Src code at' seed' := by
  obtain ⟨r, a, s, e, r0, r1, hs⟩ := l01Next code hl hc at_ seed 12 h
  unfold spec_l06Draw.f
  by_cases h0 : r = 0
  · obtain ⟨q, a', s', e', q0, q1, hs'⟩ := l01Next code hl hc a s 3 hs
    refine ⟨rd [-1, 38, 1000] q, a', s', evb e (ifp h0 (evb rfl (evb e' (ifp q0 (ifp (by simp; omega) (Ev.now _)))))), ?_, hs'⟩
    have : q = 0 ∨ q = 1 ∨ q = 2 := by omega
    rcases this with rfl | rfl | rfl
    · left; decide
    · left; decide
    · right; decide
  · have hj : ∀ b, ∃ c at' seed', Ev (fun k => spec_l06Draw.j0 k b code a s) (c, at', seed') ∧ ((-1 ≤ c ∧ c ≤ 38) ∨ c = 1000) ∧ Src code at' seed' := by
      intro b
      obtain ⟨c, a', s', e', c0, c1, hs'⟩ := l06Draw_j0 code hl hc b a s hs
      exact ⟨c, a', s', e', .inl (by omega), hs'⟩
    by_cases h1 : r = 1
    · obtain ⟨c, a', s', e', hc', hs'⟩ := hj (r == 1)
      exact ⟨c, a', s', evb e (ifn h0 (ifp h1 e')), hc', hs'⟩
    · by_cases h2 : r = 2
      · obtain ⟨c, a', s', e', hc', hs'⟩ := hj (r == 2)
        exact ⟨c, a', s', evb e (ifn h0 (ifn h1 (ifp h2 e'))), hc', hs'⟩
      · obtain ⟨c, a', s', e', hc', hs'⟩ := hj (r == 3)
        exact ⟨c, a', s', evb e (ifn h0 (ifn h1 (ifn h2 e'))), hc', hs'⟩

theorem specAdd (d : Int) (l : List Int) (c : Int) (hl : l.length ≤ 100000) : spec_l07Add.f d l c = some (d, l ++ [c]) := by
  unfold spec_l07Add.f
  simp only [Option.bind_some, List.nil_append, List.length_nil, List.length_append, List.length_singleton]
  rw [if_pos (by omega), if_pos (by omega)]
def CallsOk (l : List Int) : Prop := ∀ c ∈ l, 0 ≤ c ∧ c ≤ 37
theorem callsOk_snoc {l : List Int} {c : Int} (h : CallsOk l) (hc : 0 ≤ c ∧ c ≤ 37) : CallsOk (l ++ [c]) := by
  intro x hx
  rcases List.mem_append.1 hx with hx | hx
  · exact h x hx
  · rw [List.mem_singleton.1 hx]; exact hc
section
variable (code : List Int) (hl : code.length ≤ 140737488351232) (hc : ∀ x ∈ code, 0 ≤ x ∧ x ≤ 255)
include hl hc
theorem drawCall_j1 (acc : List Int) (ha : 0 < acc.length) (hb : acc.length ≤ 1000) (hr : CallsOk acc) (q : Int) (b : Bool) (at_ seed : Int) (h : Src code at_ seed) :
    ∃ r at' seed', Ev (fun k => spec_l07DrawCall.j1 k acc q b code at_ seed) (r, at', seed') ∧ (0 ≤ r ∧ r ≤ 37) ∧ Src code at' seed' := by
  cases b with
  | true => exact ⟨_, _, _, Ev.step (fun k => by rw [spec_l07DrawCall.j1]) (ifp rfl (Ev.now _)), by omega, h⟩
  | false =>
    by_cases h3 : q = 3
    · obtain ⟨a, p, s, e, a0, a1, hs⟩ := l01Next code hl hc at_ seed acc.length h
      refine ⟨rd acc a, p, s, Ev.step (fun k => by rw [spec_l07DrawCall.j1]) ?_, hr _ (rd_mem a0 (by omega)), hs⟩
      exact ifn (by simp) (ifp h3 (evb e (ifp a0 (ifp (by omega) (Ev.now _)))))
    · have hm : 1 ≤ mn 5 (acc.length : Int) ∧ mn 5 (acc.length : Int) ≤ acc.length := by unfold mn; split <;> omega
      obtain ⟨a, p, s, e, a0, a1, hs⟩ := l01Next code hl hc at_ seed (mn 5 (acc.length : Int)) h
      refine ⟨rd acc a, p, s, Ev.step (fun k => by rw [spec_l07DrawCall.j1]) ?_, hr _ (rd_mem a0 (by omega)), hs⟩
      exact ifn (by simp) (ifn h3 (evb e (ifp a0 (ifp (by omega) (Ev.now _)))))
theorem drawCall_l0 (l : List Int) (hll : l.length ≤ 1000) (hlr : CallsOk l) : ∀ (n : Nat) (c : Int) (acc : List Int), 0 ≤ c → c + n = 38 → acc.length ≤ c → CallsOk acc → (1 ≤ c → 0 < acc.length) → ∀ (at_ seed : Int) (h : Src code at_ seed),
    ∃ r at' seed', Ev (fun k => spec_l07DrawCall.l0 k l acc c code at_ seed) (r, at', seed') ∧ (0 ≤ r ∧ r ≤ 37) ∧ Src code at' seed' := by
  intro n
  induction n with
  | zero =>
    intro c acc h0 hn ha hr hp at_ seed h
    obtain ⟨a, p, s, e, a0, a1, hs⟩ := l01Next code hl hc at_ seed 6 h
    by_cases e0 : a = 0
    · obtain ⟨r, p', s', e', hr', hs'⟩ := drawCall_j1 code hl hc acc (hp (by omega)) (by omega) hr a (a == 0) p s hs
      refine ⟨r, p', s', Ev.step (fun k => by rw [spec_l07DrawCall.l0]) ?_, hr', hs'⟩
      exact ifn (by omega) (evb e (ifp e0 e'))
    · by_cases e1 : a = 1
      · obtain ⟨r, p', s', e', hr', hs'⟩ := drawCall_j1 code hl hc acc (hp (by omega)) (by omega) hr a (a == 1) p s hs
        refine ⟨r, p', s', Ev.step (fun k => by rw [spec_l07DrawCall.l0]) ?_, hr', hs'⟩
        exact ifn (by omega) (evb e (ifn e0 (ifp e1 e')))
      · obtain ⟨r, p', s', e', hr', hs'⟩ := drawCall_j1 code hl hc acc (hp (by omega)) (by omega) hr a (a == 2) p s hs
        refine ⟨r, p', s', Ev.step (fun k => by rw [spec_l07DrawCall.l0]) ?_, hr', hs'⟩
        exact ifn (by omega) (evb e (ifn e0 (ifn e1 e')))
  | succ n ih =>
    intro c acc h0 hn ha hr hp at_ seed h
    have e1 : wrap64 (c + 1) = c + 1 := wrap_id (by omega) (by omega)
    have hg := specLegal l (by omega) hlr c
    cases hq : legal l c with
    | true =>
      obtain ⟨r, p', s', e', hr', hs'⟩ := ih (c + 1) (acc ++ [c]) (by omega) (by omega) (by simp; omega) (callsOk_snoc hr (by omega)) (fun _ => by simp) at_ seed h
      refine ⟨r, p', s', Ev.step (fun k => by rw [spec_l07DrawCall.l0]) ?_, hr', hs'⟩
      rw [hq] at hg
      rw [e1]
      exact ifp (by omega) (Ev.bind hg (ifp rfl (ifp (by omega) e')))
    | false =>
      have hc1 : 1 ≤ c := by
        rcases (by omega : c = 0 ∨ 1 ≤ c) with rfl | h
        · simp [legal] at hq
        · exact h
      obtain ⟨r, p', s', e', hr', hs'⟩ := ih (c + 1) acc (by omega) (by omega) (by omega) hr (fun _ => hp hc1) at_ seed h
      refine ⟨r, p', s', Ev.step (fun k => by rw [spec_l07DrawCall.l0]) ?_, hr', hs'⟩
      rw [hq] at hg
      rw [e1]
      exact ifp (by omega) (Ev.bind hg (ifn (by simp) e'))
theorem drawCall (l : List Int) (hll : l.length ≤ 1000) (hlr : CallsOk l) (at_ seed : Int) (h : Src code at_ seed) :
    ∃ r at' seed', Ev (fun k => spec_l07DrawCall.f k code at_ seed l) (r, at', seed') ∧ (0 ≤ r ∧ r ≤ 37) ∧ Src code at' seed' := by
  unfold spec_l07DrawCall.f
  exact drawCall_l0 code hl hc l hll hlr 38 0 [] (by omega) (by omega) (by simp) (fun x hx => by simp at hx) (fun h => by omega) at_ seed h
omit hl hc in
theorem drawAuction_l1 (ended : Bool) (at_ seed d : Int) : ∀ (m : Nat) (l : List Int), 4 ≤ m + tz l → l.length + m ≤ 1000 → CallsOk l →
    ∃ l', Ev (fun k => spec_l07DrawAuction.l1 k ended code at_ seed d l) (d, l', at_, seed) ∧ l'.length ≤ l.length + m ∧ CallsOk l' := by
  cases ended with
  | false => exact fun m l _ _ hr => ⟨l, Ev.step (fun k => by rw [spec_l07DrawAuction.l1]) (ifn (by simp) (Ev.now _)), by omega, hr⟩
  | true =>
    intro m
    induction m with
    | zero =>
      intro l hm hll hr
      have ho := specOver l (by omega)
      have : over l = true := by unfold over; simp; omega
      rw [this] at ho
      refine ⟨l, Ev.step (fun k => by rw [spec_l07DrawAuction.l1]) ?_, by omega, hr⟩
      exact ifp rfl (Ev.bind ho (ifp rfl (Ev.now _)))
    | succ m ih =>
      intro l hm hll hr
      have ho := specOver l (by omega)
      cases hq : over l with
      | true =>
        rw [hq] at ho
        refine ⟨l, Ev.step (fun k => by rw [spec_l07DrawAuction.l1]) ?_, by omega, hr⟩
        exact ifp rfl (Ev.bind ho (ifp rfl (Ev.now _)))
      | false =>
        rw [hq] at ho
        obtain ⟨l', e', h1, h2⟩ := ih (l ++ [0]) (by rw [tz_zero]; omega) (by simp; omega) (callsOk_snoc hr (by omega))
        refine ⟨l', Ev.step (fun k => by rw [spec_l07DrawAuction.l1]) ?_, by simp at h1; omega, h2⟩
        exact ifp rfl (Ev.bind ho (ifn (by simp) (evb (specAdd d l 0 (by omega)) e')))
theorem drawAuction_l0 (ended : Bool) (d : Int) : ∀ (n : Nat) (l : List Int), l.length + n ≤ 100 → CallsOk l → ∀ (at_ seed : Int) (h : Src code at_ seed),
    ∃ l' at' seed', Ev (fun k => spec_l07DrawAuction.l0 k ended (n : Int) code at_ seed d l) (d, l', at', seed') ∧ l'.length ≤ 104 ∧ CallsOk l' ∧ Src code at' seed' := by
  intro n
  induction n with
  | zero =>
    intro l hll hr at_ seed h
    obtain ⟨l', e', h1, h2⟩ := drawAuction_l1 code ended at_ seed d 4 l (by omega) (by omega) hr
    refine ⟨l', at_, seed, Ev.step (fun k => by rw [spec_l07DrawAuction.l0]) ?_, by omega, h2, h⟩
    refine ifn (by omega) (Ev.step (fun k => by rw [spec_l07DrawAuction.j1]) ?_)
    exact ifn (by simp) e'
  | succ n ih =>
    intro l hll hr at_ seed h
    have ho := specOver l (by omega)
    have e1 : wrap64 (((n + 1 : Nat) : Int) - 1) = (n : Int) := by rw [wrap_id (by omega) (by omega)]; omega
    cases hq : over l with
    | true =>
      obtain ⟨l', e', h1, h2⟩ := drawAuction_l1 code ended at_ seed d 4 l (by omega) (by omega) hr
      rw [hq] at ho
      refine ⟨l', at_, seed, Ev.step (fun k => by rw [spec_l07DrawAuction.l0]) ?_, by omega, h2, h⟩
      refine ifp (by omega) (Ev.bind ho (Ev.step (fun k => by rw [spec_l07DrawAuction.j1]) ?_))
      exact ifn (by simp) e'
    | false =>
      rw [hq] at ho
      obtain ⟨c, p, s, e, hcr, hs⟩ := drawCall code hl hc l (by omega) hr at_ seed h
      obtain ⟨l', p', s', e', h1, h2, hs'⟩ := ih (l ++ [c]) (by simp; omega) (callsOk_snoc hr hcr) p s hs
      refine ⟨l', p', s', Ev.step (fun k => by rw [spec_l07DrawAuction.l0]) ?_, h1, h2, hs'⟩
      refine ifp (by omega) (Ev.bind ho (Ev.step (fun k => by rw [spec_l07DrawAuction.j1]) ?_))
      rw [e1]
      exact ifp (by simp) (Ev.bind e (evb (specAdd d l c (by omega)) e'))
theorem drawAuction (ended : Bool) (at_ seed : Int) (h : Src code at_ seed) :
    ∃ d l at' seed', Ev (fun k => spec_l07DrawAuction.f k code at_ seed ended) (d, l, at', seed') ∧ (0 ≤ d ∧ d ≤ 3) ∧ l.length ≤ 104 ∧ CallsOk l ∧ Src code at' seed' := by
  obtain ⟨d, p, s, e, d0, d1, hs⟩ := l01Next code hl hc at_ seed 4 h
  obtain ⟨n, p2, s2, e2, n0, n1, hs2⟩ := l01Next code hl hc p s 16 hs
  obtain ⟨l, p3, s3, e3, h1, h2, hs3⟩ := drawAuction_l0 code hl hc ended d n.toNat [] (by simp; omega) (fun x hx => by simp at hx) p2 s2 hs2
  rw [Int.toNat_of_nonneg n0] at e3
  refine ⟨d, l, p3, s3, ?_, by omega, h1, h2, hs3⟩
  unfold spec_l07DrawAuction.f
  exact evb e (evb e2 e3)
theorem l07DrawAny (at_ seed : Int) (h : Src code at_ seed) :
    ∃ d l at' seed', Ev (fun k => spec_l07DrawAny.f k code at_ seed) (d, l, at', seed') ∧ (-1 ≤ d ∧ d ≤ 4) ∧ l.length ≤ 200 ∧ (∀ c ∈ l, -1 ≤ c ∧ c ≤ 1000) ∧ Src code at' seed' := by
  obtain ⟨b, p, s, e, b0, b1, hs⟩ := l01Next code hl hc at_ seed 2 h
  obtain ⟨d, l, p1, s1, e1, hd, hl1, hr1, hs1⟩ := drawAuction code hl hc (b == 0) p s hs
  obtain ⟨q, p2, s2, e2, q0, q1, hs2⟩ := l01Next code hl hc p1 s1 16 hs1
  have hr1' : ∀ c ∈ l, -1 ≤ c ∧ c ≤ 1000 := fun c hc => by have := hr1 c hc; omega
  unfold spec_l07DrawAny.f
  by_cases h0 : q = 0
  · obtain ⟨a, p3, s3, e3, a0, a1, hs3⟩ := l01Next code hl hc p2 s2 2 hs2
    refine ⟨rd [-1, 4] a, l, p3, s3, ?_, ?_, by omega, hr1', hs3⟩
    · refine evb e (Ev.bind e1 (evb e2 (ifp h0 (evb (a := [-1, 4]) rfl (evb e3 (ifp a0 (ifp ?_ (Ev.now _))))))))
      show a < ((([-1, 4] : List Int).length : Nat) : Int)
      simp
      omega
    · rcases (by omega : a = 0 ∨ a = 1) with rfl | rfl
      · show -1 ≤ (-1 : Int) ∧ (-1 : Int) ≤ 4
        omega
      · show -1 ≤ (4 : Int) ∧ (4 : Int) ≤ 4
        omega
  · by_cases h1 : q = 1
    · obtain ⟨c, p3, s3, e3, hcr, hs3⟩ := l06Draw code hl hc p2 s2 hs2
      refine ⟨d, l ++ [c], p3, s3, evb e (Ev.bind e1 (evb e2 (ifn h0 (ifp h1 (Ev.bind e3 (evb (specAdd d l c (by omega)) (Ev.now _))))))), by omega, by simp; omega, ?_, hs3⟩
      intro x hx
      rcases List.mem_append.1 hx with hx | hx
      · exact hr1' x hx
      · rw [List.mem_singleton.1 hx]; omega
    · by_cases h2 : q = 2
      · by_cases hp : (l.length : Int) > 0
        · obtain ⟨a, p3, s3, e3, a0, a1, hs3⟩ := l01Next code hl hc p2 s2 l.length hs2
          obtain ⟨c, p4, s4, e4, hcr, hs4⟩ := l06Draw code hl hc p3 s3 hs3
          refine ⟨d, l.set a.toNat c, p4, s4, evb e (Ev.bind e1 (evb e2 (ifn h0 (ifn h1 (ifp h2 (ifp hp (evb e3 (Ev.bind e4 (ifp a0 (ifp (by show a < (l.length : Int); omega) (Ev.now _))))))))))), by omega, by simp; omega, ?_, hs4⟩
          intro x hx
          rcases List.mem_or_eq_of_mem_set hx with hx | hx
          · exact hr1' x hx
          · rw [hx]; omega
        · exact ⟨d, l, p2, s2, evb e (Ev.bind e1 (evb e2 (ifn h0 (ifn h1 (ifp h2 (ifn hp (Ev.now _))))))), by omega, by omega, hr1', hs2⟩
      · exact ⟨d, l, p2, s2, evb e (Ev.bind e1 (evb e2 (ifn h0 (ifn h1 (ifn h2 (Ev.now _)))))), by omega, by omega, hr1', hs2⟩
end

theorem bigCode (l : List Int) : laws_big.f l = some (decide ((l.length : Int) > 4096)) := rfl
theorem bytesOk {l : List Int} (hw : ∀ x ∈ l, (Lit.int .u8 x).wf = true) : ∀ x ∈ l, 0 ≤ x ∧ x ≤ 255 := fun x hx => wf8 (hw x hx)

theorem implAuctionEnded (d : Int) (l : List Int) (h : l.length ≤ 1048576) : Ev (fun k => impl_AuctionEnded.f k d l) (decide (0 ≤ d ∧ d ≤ 3) && validB l && over l) := by
  unfold impl_AuctionEnded.f
  refine Ev.bind (implIsAuction d l h) ?_
  cases hv : (decide (0 ≤ d ∧ d ≤ 3) && validB l) with
  | true =>
    have hV : Valid l := (validB_iff l).1 (by simpa using (Bool.and_eq_true _ _ ▸ hv : _ ∧ _).2)
    refine ifp rfl (Ev.bind (implEnded l (by omega)) ?_)
    rw [ended_over hV]
    simpa using Ev.now _
  | false => exact ifn (by decide) (Ev.now _)
theorem hasInts (l : List Int) (x : Int) (hl : l.length ≤ 1048576) : Ev (fun k => laws_w5Has.f k l x) (decide (x ∈ l)) := by
  unfold laws_w5Has.f
  have h : ∀ (n i : Nat), i + n = l.length → Ev (fun k => laws_w5Has.l0 k l x (i : Int)) (decide (x ∈ l.drop i)) := by
    intro n
    induction n with
    | zero =>
      intro i hi
      refine Ev.step (fun k => by rw [laws_w5Has.l0]) ?_
      rw [List.drop_of_length_le (by omega)]
      exact ifn (by omega) (by simpa using Ev.now _)
    | succ n ih =>
      intro i hi
      have e1 : wrap64 ((i : Int) + 1) = ((i + 1 : Nat) : Int) := by rw [wrap_id (by omega) (by omega)]; omega
      have e2 : l.drop i = rd l i :: l.drop (i + 1) := by
        have := drop_rd (xs := l) (i := (i : Int)) (by omega) (by omega)
        rw [Int.toNat_natCast, show ((i : Int) + 1).toNat = i + 1 by omega] at this
        exact this
      refine Ev.step (fun k => by rw [laws_w5Has.l0]) ?_
      rw [e1, e2]
      refine ifp (by omega) (ifp (by omega) ?_)
      by_cases hq : rd l i = x
      · rw [decide_eq_true (by rw [hq]; exact List.mem_cons_self)]
        exact ifp hq (Ev.now _)
      · have : decide (x ∈ rd l i :: l.drop (i + 1)) = decide (x ∈ l.drop (i + 1)) := decide_eq_decide.2 (by
          rw [List.mem_cons]
          exact ⟨fun h => h.resolve_left (fun e => hq e.symm), .inr⟩)
        rw [this]
        exact ifn hq (ih (i + 1) (by omega))
  exact h l.length 0 (by omega)
theorem mem_legalsFrom (l : List Int) (x : Int) : ∀ (n : Nat) (c : Int), x ∈ legalsFrom l c n ↔ (c ≤ x ∧ x < c + n ∧ legal l x = true)
  | 0, c => by simp [legalsFrom]; omega
  | n + 1, c => by
    have ih := mem_legalsFrom l x n (c + 1)
    unfold legalsFrom
    by_cases hc : legal l c = true
    · rw [if_pos hc, List.mem_cons, ih]
      constructor
      · rintro (rfl | ⟨h1, h2, h3⟩)
        · exact ⟨Int.le_refl _, by omega, hc⟩
        · exact ⟨by omega, by omega, h3⟩
      · rintro ⟨h1, h2, h3⟩
        by_cases e : x = c
        · exact .inl e
        · exact .inr ⟨by omega, by omega, h3⟩
    · rw [if_neg hc, ih]
      constructor
      · rintro ⟨h1, h2, h3⟩
        exact ⟨by omega, by omega, h3⟩
      · rintro ⟨h1, h2, h3⟩
        have : x ≠ c := fun e => hc (e ▸ h3)
        exact ⟨by omega, by omega, h3⟩
theorem drawAddCall (code : List Int) (hl : code.length ≤ 140737488351232) (hc : ∀ x ∈ code, 0 ≤ x ∧ x ≤ 255) : ∃ d l c, Ev (fun k => spec_DrawAddCall.f k code) (d, l, c) ∧ (-1 ≤ d ∧ d ≤ 4) ∧ l.length ≤ 200 := by
  obtain ⟨s, e, hs⟩ := l01From code hl hc
  obtain ⟨d, l, p1, s1, e1, hd, hl1, hr1, hs1⟩ := l07DrawAny code hl hc 0 s hs
  obtain ⟨c, p2, s2, e2, hc2, hs2⟩ := l06Draw code hl hc p1 s1 hs1
  refine ⟨d, l, c, ?_, hd, hl1⟩
  unfold spec_DrawAddCall.f
  exact Ev.bind e (Ev.bind e1 (Ev.bind e2 (Ev.now _)))
theorem FnAuctionGrows : laws_FnAuctionGrows.Pure := by
  intro code hl hl1 hw
  refine Ev.rounds ?_
  unfold laws_FnAuctionGrows.f
  refine evb (bigCode code) ?_
  by_cases hb : (code.length : Int) > 4096
  · exact ifp (by simpa using hb) (Ev.now _)
  · refine ifn (by simpa using hb) ?_
    obtain ⟨d, l, c, e, hd, hll⟩ := drawAddCall code (by omega) (bytesOk hw)
    refine Ev.bind e (Ev.bind (implLegalCalls d l (by omega)) (Ev.bind (implAddCall d l c (by omega)) (Ev.bind (implSeatToCall d l (by omega)) (Ev.bind (specSeatToCall d l (by omega)) ?_))))
    cases hv : (decide (0 ≤ d ∧ d ≤ 3) && validB l && !over l) with
    | false =>
      have h1 : seatM d l = -1 := by unfold seatM; rw [hv]; rfl
      have h2 : legals d l = [] := by unfold legals; rw [hv]; rfl
      have h3 : (addM d l c).2.2 = 1 ∨ (addM d l c).2.2 = 5 := by
        unfold addM
        cases hq : (decide (0 ≤ d ∧ d ≤ 3) && validB l) with
        | false => exact .inl rfl
        | true =>
          rw [hq] at hv
          have ho : over l = true := by simpa using hv
          rw [ho]
          exact .inr rfl
      rw [h1, h2]
      generalize addM d l c = q at h3
      refine ifp (by omega) (ifp rfl (ifp rfl ?_))
      rcases h3 with h3 | h3
      · rw [h3]; exact ifn (by omega) (Ev.now _)
      · rw [h3]; exact ifn (by omega) (Ev.now _)
    | true =>
      have hv' := hv
      simp only [Bool.and_eq_true, decide_eq_true_eq, Bool.not_eq_true'] at hv'
      obtain ⟨⟨hdd, hV⟩, ho⟩ := hv'
      have hVl := (validB_iff l).1 hV
      have h1 : seatM d l = (d + (l.length : Int)) % 4 := by unfold seatM; rw [if_pos hv]
      have h2 : legals d l = legalsFrom l 0 38 := by unfold legals; rw [if_pos hv]
      have hA : addM d l c = if legal l c = true then (d, l ++ [c], 0) else (0, [], 2) := by
        unfold addM
        rw [if_pos (by simp [hdd, hV]), if_neg (by simp [ho])]
      have hlen := legalsFrom_length l 38 0
      have h0 : decide ((0 : Int) ∈ legalsFrom l 0 38) = true := decide_eq_true ((mem_legalsFrom l 0 38 0).2 ⟨by omega, by omega, rfl⟩)
      have hcm : decide (c ∈ legalsFrom l 0 38) = legal l c := by
        cases hg : legal l c with
        | true =>
          have hr := legal_range hg
          exact decide_eq_true ((mem_legalsFrom l c 38 0).2 ⟨hr.1, by omega, hg⟩)
        | false => exact decide_eq_false (fun h => by have := ((mem_legalsFrom l c 38 0).1 h).2.2; rw [hg] at this; simp at this)
      rw [h1, h2, hA]
      refine ifn (by omega) ?_
      have e0 := hasInts (legalsFrom l 0 38) 0 (by omega)
      have ec := hasInts (legalsFrom l 0 38) c (by omega)
      rw [h0] at e0
      rw [hcm] at ec
      refine Ev.bind e0 (ifp rfl (Ev.bind ec ?_))
      cases hg : legal l c with
      | false =>
        refine Ev.step (fun k => by rw [laws_FnAuctionGrows.j0]) ?_
        exact ifn (by simp) (ifp rfl (Ev.now _))
      | true =>
        have hVn : Valid (l ++ [c]) := valid_snoc.2 ⟨hVl, ho, hg⟩
        have hIA := implIsAuction d (l ++ [c]) (by simp; omega)
        have hIE := implAuctionEnded d (l ++ [c]) (by simp; omega)
        have hIS := implSeatToCall d (l ++ [c]) (by simp; omega)
        have hok : (decide (0 ≤ d ∧ d ≤ 3) && validB (l ++ [c])) = true := by
          rw [decide_eq_true hdd, (validB_iff _).2 hVn]; rfl
        rw [hok] at hIA hIE
        refine Ev.step (fun k => by rw [laws_FnAuctionGrows.j0]) ?_
        refine ifn (by simp) (ifn (by simp) (Ev.bind hIA (ifp rfl (Ev.bind hIE ?_))))
        cases hq : over (l ++ [c]) with
        | true => exact ifp rfl (Ev.now _)
        | false =>
          have hS : seatM d (l ++ [c]) = (d + ((l ++ [c]).length : Int)) % 4 := by unfold seatM; rw [hok, hq]; rfl
          rw [hS] at hIS
          refine ifn (by simp) (Ev.bind hIS ?_)
          rw [wrap_id (by omega) (by omega), Int.tmod_eq_emod_of_nonneg (by omega)]
          have : (d + ((l ++ [c]).length : Int)) % 4 = ((d + (l.length : Int)) % 4 + 1) % 4 := by simp; omega
          rw [this, beq_self_eq_true]
          exact Ev.now _

end Go.Proofs.Ytlcmikhaejfnnaa.Pure
