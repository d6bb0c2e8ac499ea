/- The matchpoints of both sides at a table add up to the top, and all matchpoints to the number of pairs of tables times two, whatever bytes the scores are drawn from. Conditions: a list of bytes. -/
import Derived.Test.YtppkbbgonpdnfaaPFnMatchpointsx4
import Derived.Test.YtppkbbgonpdnfaaKit
namespace Go.Proofs.Ytppkbbgonpdnfaa.Pure
open Go.RowKit Go.Proofs.Ytppkbbgonpdnfaa.PFnMatchpoints Go.Proofs.YtppkbbgonpdnfaaW.PrintWords Go.Proofs.YtppkbbgonpdnfaaW.PrintLast Go.Proofs.YtppkbbgonpdnfaaW.PrintMore Go.Proofs.Ytppkbbgonpdnfaa.Kit
set_option linter.unusedVariables false
set_option linter.unusedSimpArgs false

theorem l01In (a b c : Int) : spec_l01In.f a b c = some (decide (b ≤ a ∧ a ≤ c)) := by
  unfold spec_l01In.f
  by_cases h : b ≤ a <;> simp [h]

open Go.Proofs.Ytppkbbgonpdnfaa.HScores (okScore)
theorem okScore_iff (x : Int) : okScore x = decide (-100000 ≤ x ∧ x ≤ 100000) := by
  unfold okScore
  rw [Bool.decide_and]
def scoresOk (l : List Int) : Bool := decide (l.length ≤ 60) && l.all okScore
theorem scoresOk_iff (l : List Int) : scoresOk l = true ↔ l.length ≤ 60 ∧ ∀ x ∈ l, -100000 ≤ x ∧ x ≤ 100000 := by
  unfold scoresOk
  simp [okScore_iff, List.all_eq_true]
theorem specScores (l : List Int) (hl : l.length ≤ 4611686018427387904) : Ev (fun k => spec_l12Scores.f k l) (scoresOk l) := by
  unfold spec_l12Scores.f
  have h : ∀ (d i : Nat), i + d = l.length → Ev (fun k => spec_l12Scores.l0 k l (i : Int)) (decide (l.length ≤ 60) && (l.drop i).all okScore) := by
    intro d
    induction d with
    | zero =>
      intro i hd
      refine Ev.step (fun k => by rw [spec_l12Scores.l0]) (ifn (by omega) ?_)
      rw [List.drop_of_length_le (by omega)]
      have e : decide ((l.length : Int) ≤ 60) = decide (l.length ≤ 60) := decide_eq_decide.2 (by omega)
      rw [e, List.all_nil, Bool.and_true]
      exact Ev.now _
    | succ d ih =>
      intro i hd
      have e1 : wrap64 ((i : Int) + 1) = ((i + 1 : Nat) : Int) := by rw [wrap_id (by omega) (by omega)]; omega
      have e2 : l.drop i = rd l i :: l.drop (i + 1) := by
        have := drop_rd (xs := l) (i := (i : Int)) (by omega) (by omega)
        rw [Int.toNat_natCast, show ((i : Int) + 1).toNat = i + 1 by omega] at this
        exact this
      refine Ev.step (fun k => by rw [spec_l12Scores.l0]) (ifp (by omega) (ifp (by omega) (evb (l01In _ _ _) ?_)))
      rw [e1, e2, List.all_cons, okScore_iff]
      by_cases hc : -100000 ≤ rd l i ∧ rd l i ≤ 100000
      · rw [decide_eq_true hc, Bool.true_and]
        exact ifp rfl (ih (i + 1) (by omega))
      · rw [decide_eq_false hc, Bool.false_and, Bool.and_false]
        exact ifn (by simp) (Ev.now _)
  exact h l.length 0 (by omega)
theorem implScores (l : List Int) : impl_areScores.f l = some (scoresOk l) := rfl

def mpw (x y : Int) : Int := if y < x then 2 else if y = x then 1 else 0
/-- The matchpoints of score i against the first n scores. -/
def mpTo (l : List Int) (i : Nat) : Nat → Int
  | 0 => 0
  | n + 1 => mpTo l i n + (if n = i then 0 else mpw (rd l i) (rd l n))
theorem mpw_bound (x y : Int) : 0 ≤ mpw x y ∧ mpw x y ≤ 2 := by
  unfold mpw
  split
  · omega
  · split <;> omega
theorem mpTo_bound (l : List Int) (i : Nat) : ∀ n : Nat, 0 ≤ mpTo l i n ∧ mpTo l i n ≤ 2 * n
  | 0 => by simp [mpTo]
  | n + 1 => by
    have := mpTo_bound l i n
    have hw := mpw_bound (rd l i) (rd l n)
    unfold mpTo
    split <;> omega
def mp (l : List Int) : List Int := (List.range l.length).map fun i => mpTo l i l.length
theorem mp_length (l : List Int) : (mp l).length = l.length := by simp [mp]
theorem rd_mp {l : List Int} {i : Nat} (h : i < l.length) : rd (mp l) (i : Int) = mpTo l i l.length := by
  simp [rd, mp, List.getD_eq_getElem?_getD, h]
theorem specPoints_l1 (l : List Int) (hl : l.length ≤ 1000) (i : Nat) (hi : i < l.length) (out : List Int) (ho : out.length ≤ 1000) (r : List Int)
    (hr : Ev (fun k => spec_l12Points.l0 k l (out ++ [mpTo l i l.length]) ((i + 1 : Nat) : Int)) r) :
    ∀ (d j : Nat), j + d = l.length → Ev (fun k => spec_l12Points.l1 k l out (i : Int) (mpTo l i j) (j : Int)) r := by
  intro d
  induction d with
  | zero =>
    intro j hd
    obtain rfl : j = l.length := by omega
    have e1 : wrap64 ((i : Int) + 1) = ((i + 1 : Nat) : Int) := by rw [wrap_id (by omega) (by omega)]; omega
    refine Ev.step (fun k => by rw [spec_l12Points.l1]) (ifn (by omega) (ifp (by omega) ?_))
    rw [e1]
    exact hr
  | succ d ih =>
    intro j hd
    have ih' := ih (j + 1) (by omega)
    have hb := mpTo_bound l i j
    have e1 : wrap64 ((j : Int) + 1) = ((j + 1 : Nat) : Int) := by rw [wrap_id (by omega) (by omega)]; omega
    have e2 : wrap64 (mpTo l i j + 2) = mpTo l i j + 2 := wrap_id (by omega) (by omega)
    have e3 : wrap64 (mpTo l i j + 1) = mpTo l i j + 1 := wrap_id (by omega) (by omega)
    refine Ev.step (fun k => by rw [spec_l12Points.l1]) (ifp (by omega) (ifp (by omega) (ifp (by omega) (ifp (by omega) ?_))))
    rw [e1, e2, e3]
    by_cases h1 : rd l j < rd l i
    · refine ifp h1 (ifn (by omega) ?_)
      have : mpTo l i (j + 1) = mpTo l i j + 2 := by
        have hji : j ≠ i := by rintro rfl; omega
        simp [mpTo, hji, mpw, h1]
      rw [← this]
      exact ih'
    · refine ifn h1 ?_
      by_cases h2 : rd l j = rd l i
      · refine ifp h2 ?_
        by_cases h3 : j = i
        · refine ifp (by omega) ?_
          have : mpTo l i (j + 1) = mpTo l i j := by simp [mpTo, h3]
          rw [← this]
          exact ih'
        · refine ifn (by omega) ?_
          have : mpTo l i (j + 1) = mpTo l i j + 1 := by simp [mpTo, h3, mpw, h2]
          rw [← this]
          exact ih'
      · refine ifn h2 ?_
        have : mpTo l i (j + 1) = mpTo l i j := by
          have h3 : j ≠ i := by rintro rfl; exact h2 rfl
          simp [mpTo, h3, mpw, h1, h2]
        rw [← this]
        exact ih'
theorem specPoints_l0 (l : List Int) (hl : l.length ≤ 1000) : ∀ (d i : Nat), i + d = l.length → Ev (fun k => spec_l12Points.l0 k l ((List.range i).map fun a => mpTo l a l.length) (i : Int)) (mp l) := by
  intro d
  induction d with
  | zero =>
    intro i hd
    obtain rfl : i = l.length := by omega
    unfold mp
    exact Ev.step (fun k => by rw [spec_l12Points.l0]) (ifn (by omega) (Ev.now _))
  | succ d ih =>
    intro i hd
    have ih' := ih (i + 1) (by omega)
    rw [List.range_succ, List.map_append, List.map_cons, List.map_nil] at ih'
    refine Ev.step (fun k => by rw [spec_l12Points.l0]) (ifp (by omega) ?_)
    exact specPoints_l1 l hl i (by omega) ((List.range i).map fun a => mpTo l a l.length) (by simp; omega) (mp l) ih' l.length 0 (by omega)
theorem specPoints (l : List Int) (hl : l.length ≤ 1000) : Ev (fun k => spec_l12Points.f k l) (mp l) := by
  unfold spec_l12Points.f
  exact specPoints_l0 l hl l.length 0 (by omega)
theorem set_mid (A B : List Int) (m x : Int) : (A ++ m :: B).set A.length x = A ++ x :: B := by simp
theorem rd_mid (A B : List Int) (m : Int) : rd (A ++ m :: B) (A.length : Int) = m := by simp [rd, List.getD_eq_getElem?_getD]
theorem implPoints_l1 (l : List Int) (hl : l.length ≤ 1000) (A B : List Int) (hAB : A.length + 1 + B.length = l.length) (r : List Int)
    (hr : Ev (fun k => impl_matchpoints.l0 k l (A ++ mpTo l A.length l.length :: B) l (l.length : Int) ((A.length + 1 : Nat) : Int)) r) :
    ∀ (d j : Nat), j + d = l.length → Ev (fun k => impl_matchpoints.l1 k l (A ++ mpTo l A.length j :: B) (A.length : Int) (rd l (A.length : Int)) l (l.length : Int) (A.length : Int) l (l.length : Int) (j : Int)) r := by
  intro d
  induction d with
  | zero =>
    intro j hd
    obtain rfl : j = l.length := by omega
    have e1 : wrap64 ((A.length : Int) + 1) = ((A.length + 1 : Nat) : Int) := by rw [wrap_id (by omega) (by omega)]; omega
    refine Ev.step (fun k => by rw [impl_matchpoints.l1]) (ifn (by omega) ?_)
    rw [e1]
    exact hr
  | succ d ih =>
    intro j hd
    have ih' := ih (j + 1) (by omega)
    have hb := mpTo_bound l A.length j
    have e1 : wrap64 ((j : Int) + 1) = ((j + 1 : Nat) : Int) := by rw [wrap_id (by omega) (by omega)]; omega
    have e2 : wrap64 (mpTo l A.length j + 2) = mpTo l A.length j + 2 := wrap_id (by omega) (by omega)
    have e3 : wrap64 (mpTo l A.length j + 1) = mpTo l A.length j + 1 := wrap_id (by omega) (by omega)
    refine Ev.step (fun k => by rw [impl_matchpoints.l1]) (ifp (by omega) (ifp (by omega) (ifp (by omega) ?_)))
    rw [e1, rd_mid, e2, e3, Int.toNat_natCast, set_mid, set_mid]
    by_cases h3 : j = A.length
    · refine ifp (by omega) ?_
      have : mpTo l A.length (j + 1) = mpTo l A.length j := by simp [mpTo, h3]
      rw [← this]
      exact ih'
    · refine ifn (by omega) ?_
      by_cases h1 : rd l j < rd l A.length
      · refine ifp h1 (ifp (by omega) (ifp (by simp; omega) ?_))
        have : mpTo l A.length (j + 1) = mpTo l A.length j + 2 := by simp [mpTo, h3, mpw, h1]
        rw [← this]
        exact ih'
      · refine ifn h1 ?_
        by_cases h2 : rd l j = rd l A.length
        · refine ifp h2 (ifp (by omega) (ifp (by simp; omega) ?_))
          have : mpTo l A.length (j + 1) = mpTo l A.length j + 1 := by simp [mpTo, h3, mpw, h2]
          rw [← this]
          exact ih'
        · refine ifn h2 ?_
          have : mpTo l A.length (j + 1) = mpTo l A.length j := by simp [mpTo, h3, mpw, h1, h2]
          rw [← this]
          exact ih'
theorem implPoints_l0 (l : List Int) (hl : l.length ≤ 1000) : ∀ (d i : Nat), i + d = l.length → Ev (fun k => impl_matchpoints.l0 k l (((List.range i).map fun a => mpTo l a l.length) ++ List.replicate d 0) l (l.length : Int) (i : Int)) (mp l) := by
  intro d
  induction d with
  | zero =>
    intro i hd
    obtain rfl : i = l.length := by omega
    rw [List.replicate_zero, List.append_nil]
    unfold mp
    exact Ev.step (fun k => by rw [impl_matchpoints.l0]) (ifn (by omega) (Ev.now _))
  | succ d ih =>
    intro i hd
    have ih' := ih (i + 1) (by omega)
    rw [List.range_succ, List.map_append, List.map_cons, List.map_nil, List.append_assoc, List.singleton_append] at ih'
    refine Ev.step (fun k => by rw [impl_matchpoints.l0]) (ifp (by omega) (ifp (by omega) (ifp (by omega) ?_)))
    have hA : ((List.range i).map fun a => mpTo l a l.length).length = i := by simp
    have := implPoints_l1 l hl ((List.range i).map fun a => mpTo l a l.length) (List.replicate d 0) (by simp; omega) (mp l) (by rw [hA]; exact ih') l.length 0 (by omega)
    rw [hA] at this
    exact this
theorem implPoints (l : List Int) (hl : l.length ≤ 1000) : Ev (fun k => impl_matchpoints.f k l) (mp l) := by
  unfold impl_matchpoints.f
  refine ifp (by omega) (ifp (by omega) ?_)
  exact implPoints_l0 l hl l.length 0 (by omega)

theorem matchpointsOf_is (l : List Int) (h : l.length ≤ 1048576) : Ev (fun k => spec_MatchpointsOf.f k l) (if scoresOk l = true then (mp l, 0) else ([], 1)) ∧ Ev (fun k => impl_MatchpointsOf.f k l) (if scoresOk l = true then (mp l, 0) else ([], 1)) := by
  unfold spec_MatchpointsOf.f impl_MatchpointsOf.f
  by_cases hs : scoresOk l = true
  · have hl := ((scoresOk_iff l).1 hs).1
    rw [if_pos hs]
    exact ⟨Ev.bind (specScores l (by omega)) (ifp hs (Ev.bind (specPoints l (by omega)) (Ev.now _))), evb (implScores l) (ifp hs (Ev.bind (implPoints l (by omega)) (Ev.now _)))⟩
  · rw [if_neg hs]
    exact ⟨Ev.bind (specScores l (by omega)) (ifn hs (Ev.now _)), evb (implScores l) (ifn hs (Ev.now _))⟩
theorem matchpointsOf_both (l : List Int) (h : l.length ≤ 1048576) : ∃ r c, Ev (fun k => spec_MatchpointsOf.f k l) (r, c) ∧ Ev (fun k => impl_MatchpointsOf.f k l) (r, c) ∧ r.length ≤ 1048576 := by
  obtain ⟨h1, h2⟩ := matchpointsOf_is l h
  by_cases hs : scoresOk l = true
  · rw [if_pos hs] at h1 h2
    exact ⟨_, _, h1, h2, by rw [mp_length]; exact h⟩
  · rw [if_neg hs] at h1 h2
    exact ⟨_, _, h1, h2, by simp⟩

def negs (l : List Int) : List Int := l.map fun x => -x
theorem negs_length (l : List Int) : (negs l).length = l.length := by simp [negs]
theorem rd_negs {l : List Int} {i : Nat} (h : i < l.length) : rd (negs l) (i : Int) = -rd l i := by
  simp [rd, negs, List.getD_eq_getElem?_getD, h]
theorem take_negs {l : List Int} {i : Nat} (h : i < l.length) : negs (l.take (i + 1)) = negs (l.take i) ++ [-rd l i] := by
  have := take_rd (xs := l) (i := (i : Int)) (by omega) (by omega)
  rw [Int.toNat_natCast, show ((i : Int) + 1).toNat = i + 1 by omega] at this
  rw [this]
  simp [negs]

theorem implOther_l0 (l : List Int) (hs : scoresOk l = true) : ∀ (d i : Nat), i + d = l.length →
    Ev (fun k => impl_OtherSide.l0 k (negs (l.take i)) l (l.length : Int) (i : Int)) (mp (negs l), 0) := by
  obtain ⟨hl, hx⟩ := (scoresOk_iff l).1 hs
  intro d
  induction d with
  | zero =>
    intro i hd
    obtain rfl : i = l.length := by omega
    rw [List.take_length]
    exact Ev.step (fun k => by rw [impl_OtherSide.l0]) (ifn (by omega) (Ev.bind (implPoints (negs l) (by rw [negs_length]; omega)) (Ev.now _)))
  | succ d ih =>
    intro i hd
    have ih2 := ih (i + 1) (by omega)
    have hr := hx (rd l i) (rd_mem (by omega) (by omega))
    have e1 : wrap64 ((i : Int) + 1) = ((i + 1 : Nat) : Int) := by rw [wrap_id (by omega) (by omega)]; omega
    have e2 : wrap64 (-rd l i) = -rd l i := wrap_id (by omega) (by omega)
    have hlen : (negs (l.take i)).length < 17592186044416 := by rw [negs_length, List.length_take]; omega
    rw [take_negs (by omega)] at ih2
    refine Ev.step (fun k => by rw [impl_OtherSide.l0]) (ifp (by omega) (ifp (by omega) (ifp (by omega) (ifp hlen ?_))))
    rw [e1, e2]
    exact ih2
theorem implOtherSide (l : List Int) (h : l.length ≤ 1048576) : Ev (fun k => impl_OtherSide.f k l) (if scoresOk l = true then (mp (negs l), 0) else ([], 1)) := by
  unfold impl_OtherSide.f
  by_cases hs : scoresOk l = true
  · rw [if_pos hs]
    exact evb (implScores l) (ifp hs (implOther_l0 l hs l.length 0 (by omega)))
  · rw [if_neg hs]
    exact evb (implScores l) (ifn hs (Ev.now _))

theorem within (a b c : Int) : impl_within.f a b c = some (decide (b ≤ a ∧ a ≤ c)) := by
  unfold impl_within.f
  by_cases h : b ≤ a <;> simp [h]

/-- The places below n of the scores above x. -/
def beatTo (l : List Int) (x : Int) : Nat → List Int
  | 0 => []
  | n + 1 => if x < rd l n then beatTo l x n ++ [(n : Int)] else beatTo l x n
theorem beatTo_length (l : List Int) (x : Int) : ∀ n, (beatTo l x n).length ≤ n
  | 0 => by simp [beatTo]
  | n + 1 => by
    have := beatTo_length l x n
    unfold beatTo
    split
    · simp; omega
    · omega
theorem beatenBy_impl (l : List Int) (a : Int) (hl : l.length ≤ 60) (ha : 0 ≤ a ∧ a < l.length) : ∀ (d i : Nat), i + d = l.length →
    Ev (fun k => impl_BeatenBy.l0 k l a (beatTo l (rd l a) i) l (l.length : Int) (i : Int)) (beatTo l (rd l a) l.length, 0) := by
  intro d
  induction d with
  | zero =>
    intro i hd
    obtain rfl : i = l.length := by omega
    exact Ev.step (fun k => by rw [impl_BeatenBy.l0]) (ifn (by omega) (Ev.now _))
  | succ d ih =>
    intro i hd
    have ih' := ih (i + 1) (by omega)
    have hb := beatTo_length l (rd l a) i
    have e1 : wrap64 ((i : Int) + 1) = ((i + 1 : Nat) : Int) := by rw [wrap_id (by omega) (by omega)]; omega
    refine Ev.step (fun k => by rw [impl_BeatenBy.l0]) (ifp (by omega) (ifp (by omega) (ifp (by omega) (ifp (by omega) (ifp (by omega) ?_)))))
    rw [e1]
    by_cases h : rd l a < rd l i
    · rw [beatTo, if_pos h] at ih'
      exact ifp h (ifp (by omega) ih')
    · rw [beatTo, if_neg h] at ih'
      exact ifn h ih'
theorem implBeatenBy (l : List Int) (a : Int) (h : l.length ≤ 1048576) : Ev (fun k => impl_BeatenBy.f k l a) (if scoresOk l = true then if 0 ≤ a ∧ a < l.length then (beatTo l (rd l a) l.length, 0) else ([], 2) else ([], 1)) := by
  unfold impl_BeatenBy.f
  have e0 : wrap64 ((l.length : Int) - 1) = (l.length : Int) - 1 := wrap_id (by omega) (by omega)
  rw [e0]
  by_cases hs : scoresOk l = true
  · have hl := ((scoresOk_iff l).1 hs).1
    rw [if_pos hs]
    refine evb (implScores l) (ifp hs (evb (within _ _ _) ?_))
    by_cases ha : 0 ≤ a ∧ a < l.length
    · rw [if_pos ha]
      exact ifp (by simp; omega) (beatenBy_impl l a hl ha l.length 0 (by omega))
    · rw [if_neg ha]
      exact ifn (by simp; omega) (Ev.now _)
  · rw [if_neg hs]
    exact evb (implScores l) (ifn hs (Ev.now _))

theorem rd_byte {xs : List Int} (hx : ∀ x ∈ xs, 0 ≤ x ∧ x ≤ 255) (i : Int) : 0 ≤ rd xs i ∧ rd xs i ≤ 255 := by
  unfold rd
  by_cases h : i.toNat < xs.length
  · have e : xs.getD i.toNat 0 = xs[i.toNat] := by simp [List.getD_eq_getElem?_getD, h]
    rw [e]
    exact hx _ (List.getElem_mem h)
  · have e : xs.getD i.toNat 0 = 0 := by simp [List.getD_eq_getElem?_getD, List.getElem?_eq_none (Nat.not_lt.1 h)]
    omega
/-- The source of numbers: the place in the code, the seed. -/
def Src (code : List Int) (at_ seed : Int) : Prop := 0 ≤ at_ ∧ at_ ≤ code.length ∧ 0 ≤ seed ∧ seed < 2147483647
theorem next_seed {seed : Int} (h0 : 0 ≤ seed) (h1 : seed < 2147483647) : ∃ s, Int.tmod (wrap64 (wrap64 (seed * 48271) + 13)) 2147483647 = s ∧ 0 ≤ s ∧ s < 2147483647 := by
  refine ⟨_, rfl, ?_⟩
  rw [wrap_id (x := seed * 48271) (by omega) (by omega), wrap_id (by omega) (by omega)]
  exact ⟨Int.tmod_nonneg _ (by omega), Int.tmod_lt_of_pos _ (by omega)⟩
theorem l01Next (code : List Int) (hl : code.length ≤ 140737488351232) (hc : ∀ x ∈ code, 0 ≤ x ∧ x ≤ 255) (at_ seed n : Int) (h : Src code at_ seed) :
    ∃ r at' seed', spec_l01Next.f code at_ seed n = some (r, at', seed') ∧ 0 ≤ r ∧ (r < n ∨ (n ≤ 1 ∧ r = 0)) ∧ Src code at' seed' := by
  obtain ⟨h0, h1, h2, h3⟩ := h
  unfold spec_l01Next.f
  by_cases n1 : n ≤ 1
  · exact ⟨0, at_, seed, by rw [if_pos n1], by omega, .inr ⟨n1, rfl⟩, h0, h1, h2, h3⟩
  · rw [if_neg n1]
    obtain ⟨s, es, s0, s1⟩ := next_seed h2 h3
    rw [es]
    have hq : 0 ≤ Int.tdiv s 13 ∧ Int.tdiv s 13 ≤ 2147483647 := by
      rw [Int.tdiv_eq_ediv_of_nonneg s0]
      omega
    by_cases ha : at_ < code.length
    · rw [if_pos ha, if_pos h0]
      have e1 : wrap64 (at_ + 1) = at_ + 1 := wrap_id (by omega) (by omega)
      have e2 : wrap64 (at_ + 1 - 1) = at_ := by rw [wrap_id (by omega) (by omega)]; omega
      rw [e1, e2]
      have hb := rd_byte hc at_
      have e3 : wrap64 (rd code at_) = rd code at_ := wrap_id (by omega) (by omega)
      have e4 : wrap64 (wrap64 (Int.tdiv s 13) + wrap64 (rd code at_)) = Int.tdiv s 13 + rd code at_ := by
        rw [wrap_id (x := Int.tdiv s 13) (by omega) (by omega), e3, wrap_id (by omega) (by omega)]
      rw [e4, e3]
      by_cases n2 : n ≤ 256
      · rw [if_pos n2]
        by_cases n3 : Int.tmod (at_ + 1) 2 = 0
        · rw [if_pos n3, if_pos h0, if_pos ha, if_neg (by omega)]
          exact ⟨_, _, _, rfl, Int.tmod_nonneg _ (by omega), .inl (Int.tmod_lt_of_pos _ (by omega)), by omega, by omega, s0, s1⟩
        · rw [if_neg n3, if_neg (by omega)]
          exact ⟨_, _, _, rfl, Int.tmod_nonneg _ (by omega), .inl (Int.tmod_lt_of_pos _ (by omega)), by omega, by omega, s0, s1⟩
      · rw [if_neg n2, if_neg (by omega)]
        exact ⟨_, _, _, rfl, Int.tmod_nonneg _ (by omega), .inl (Int.tmod_lt_of_pos _ (by omega)), by omega, by omega, s0, s1⟩
    · rw [if_neg ha, if_neg (by omega)]
      have e4 : wrap64 (Int.tdiv s 13) = Int.tdiv s 13 := wrap_id (by omega) (by omega)
      rw [e4]
      exact ⟨_, _, _, rfl, Int.tmod_nonneg _ (by omega), .inl (Int.tmod_lt_of_pos _ (by omega)), h0, h1, s0, s1⟩
theorem from_seed {x b : Int} (h0 : 0 ≤ x) (h1 : x < 2147483647) (hb : 0 ≤ b ∧ b ≤ 255) : ∃ s, Int.tmod (wrap64 (wrap64 (x * 41) + wrap64 b)) 2147483647 = s ∧ 0 ≤ s ∧ s < 2147483647 := by
  refine ⟨_, rfl, ?_⟩
  rw [wrap_id (x := x * 41) (by omega) (by omega), wrap_id (x := b) (by omega) (by omega), wrap_id (by omega) (by omega)]
  exact ⟨Int.tmod_nonneg _ (by omega), Int.tmod_lt_of_pos _ (by omega)⟩
theorem l01From_l0 (code : List Int) (hl : code.length ≤ 140737488351232) (hc : ∀ x ∈ code, 0 ≤ x ∧ x ≤ 255) : ∀ (d : Nat) (i seed : Int), 0 ≤ i → i + d = code.length → 0 ≤ seed → seed < 2147483647 →
    ∃ s, Ev (fun k => spec_l01From.l0 k code i code 0 seed) (code, 0, s) ∧ 0 ≤ s ∧ s < 2147483647 := by
  intro d
  induction d with
  | zero =>
    intro i seed h0 hd s0 s1
    refine ⟨seed, Ev.step (fun k => by rw [spec_l01From.l0]) (ifn (by omega) (Ev.now _)), s0, s1⟩
  | succ d ih =>
    intro i seed h0 hd s0 s1
    have e1 : wrap64 (i + 1) = i + 1 := wrap_id (by omega) (by omega)
    by_cases h64 : i < 64
    · obtain ⟨s, es, t0, t1⟩ := from_seed s0 s1 (rd_byte hc i)
      obtain ⟨s', hs', u0, u1⟩ := ih (i + 1) s (by omega) (by omega) t0 t1
      refine ⟨s', Ev.step (fun k => by rw [spec_l01From.l0]) ?_, u0, u1⟩
      rw [e1, es]
      exact ifp (by omega) (ifp h64 (ifp h0 hs'))
    · exact ⟨seed, Ev.step (fun k => by rw [spec_l01From.l0]) (ifp (by omega) (ifn h64 (Ev.now _))), s0, s1⟩
theorem l01From (code : List Int) (hl : code.length ≤ 140737488351232) (hc : ∀ x ∈ code, 0 ≤ x ∧ x ≤ 255) : ∃ s, Ev (fun k => spec_l01From.f k code) (code, 0, s) ∧ Src code 0 s := by
  obtain ⟨s, hs, s0, s1⟩ := l01From_l0 code hl hc code.length 0 86421 (by omega) (by omega) (by omega) (by omega)
  exact ⟨s, hs, by omega, by omega, s0, s1⟩

theorem bigCode (l : List Int) : laws_big.f l = some (decide ((l.length : Int) > 4096)) := rfl
theorem bytesOk {l : List Int} (hw : ∀ x ∈ l, (Lit.int .u8 x).wf = true) : ∀ x ∈ l, 0 ≤ x ∧ x ≤ 255 := fun x hx => wf8 (hw x hx)

theorem drawScores_j2 (code : List Int) (hl : code.length ≤ 140737488351232) (hc : ∀ x ∈ code, 0 ≤ x ∧ x ≤ 255) (xs : List Int) (hx : xs.length ≤ 100) (at_ seed : Int) (h : Src code at_ seed) :
    ∃ r at' seed', Ev (fun k => spec_l12DrawScores.j2 k xs code at_ seed) (r, at', seed') ∧ r.length ≤ 100 := by
  obtain ⟨a, p, s, e, a0, a1, hs⟩ := l01Next code hl hc at_ seed 24 h
  by_cases ha : a = 0
  · obtain ⟨b, p', s', e', b0, b1, hs'⟩ := l01Next code hl hc p s 2 hs
    have e1 : wrap64 (60 + b) = 60 + b := wrap_id (by omega) (by omega)
    refine ⟨_, _, _, Ev.step (fun k => by rw [spec_l12DrawScores.j2]) (evb e (ifp ha (evb e' (ifp ?_ (ifp ?_ (Ev.now _)))))), ?_⟩
    · rw [e1]; omega
    · rw [e1]; omega
    · rw [List.length_replicate, e1]; omega
  · exact ⟨_, _, _, Ev.step (fun k => by rw [spec_l12DrawScores.j2]) (evb e (ifn ha (Ev.now _))), hx⟩
theorem drawScores_j1 (code : List Int) (hl : code.length ≤ 140737488351232) (hc : ∀ x ∈ code, 0 ≤ x ∧ x ≤ 255) (xs : List Int) (hx : xs.length ≤ 100) (b : Bool) (hb : b = true → 0 < xs.length) (at_ seed : Int) (h : Src code at_ seed) :
    ∃ r at' seed', Ev (fun k => spec_l12DrawScores.j1 k xs b code at_ seed) (r, at', seed') ∧ r.length ≤ 100 := by
  cases b with
  | true =>
    have hb' := hb rfl
    obtain ⟨a, p, s, e, a0, a1, hs⟩ := l01Next code hl hc at_ seed 3 h
    obtain ⟨r, p', s', e', hr⟩ := drawScores_j2 code hl hc (xs.set 0 (rd [100000, 100001, -100001] a)) (by simpa using hx) p s hs
    refine ⟨r, p', s', Ev.step (fun k => by rw [spec_l12DrawScores.j1]) ?_, hr⟩
    refine ifp rfl (evb (a := [100000, 100001, -100001]) rfl (evb e (ifp a0 (ifp ?_ (ifp (by omega) e')))))
    show a < ((([100000, 100001, -100001] : List Int).length : Nat) : Int)
    simp
    omega
  | false =>
    obtain ⟨r, p', s', e', hr⟩ := drawScores_j2 code hl hc xs hx at_ seed h
    exact ⟨r, p', s', Ev.step (fun k => by rw [spec_l12DrawScores.j1]) (ifn (by simp) e'), hr⟩
theorem drawScores_l0 (code : List Int) (hl : code.length ≤ 140737488351232) (hc : ∀ x ∈ code, 0 ≤ x ∧ x ≤ 255) : ∀ (n : Nat) (xs : List Int) (hx : xs.length + n ≤ 100) (at_ seed : Int) (h : Src code at_ seed),
    ∃ r at' seed', Ev (fun k => spec_l12DrawScores.l0 k xs (n : Int) code at_ seed) (r, at', seed') ∧ r.length ≤ 100 := by
  intro n
  induction n with
  | zero =>
    intro xs hx at_ seed h
    by_cases h0 : (xs.length : Int) > 0
    · obtain ⟨a, p, s, e, a0, a1, hs⟩ := l01Next code hl hc at_ seed 10 h
      obtain ⟨r, p', s', e', hr⟩ := drawScores_j1 code hl hc xs (by omega) (a == 0) (fun _ => by omega) p s hs
      exact ⟨r, p', s', Ev.step (fun k => by rw [spec_l12DrawScores.l0]) (ifn (by omega) (ifp h0 (evb e e'))), hr⟩
    · obtain ⟨r, p', s', e', hr⟩ := drawScores_j1 code hl hc xs (by omega) false (fun h => by simp at h) at_ seed h
      exact ⟨r, p', s', Ev.step (fun k => by rw [spec_l12DrawScores.l0]) (ifn (by omega) (ifn h0 e')), hr⟩
  | succ n ih =>
    intro xs hx at_ seed h
    obtain ⟨a, p, s, e, a0, a1, hs⟩ := l01Next code hl hc at_ seed 13 h
    obtain ⟨r, p', s', e', hr⟩ := ih (xs ++ [wrap64 (10 * wrap64 (a - 6))]) (by simp; omega) p s hs
    have e1 : wrap64 (((n + 1 : Nat) : Int) - 1) = (n : Int) := by rw [wrap_id (by omega) (by omega)]; omega
    refine ⟨r, p', s', Ev.step (fun k => by rw [spec_l12DrawScores.l0]) ?_, hr⟩
    rw [e1]
    exact ifp (by omega) (evb e (ifp (by omega) e'))
theorem drawMatchpointsOf (code : List Int) (hl : code.length ≤ 140737488351232) (hc : ∀ x ∈ code, 0 ≤ x ∧ x ≤ 255) : ∃ r, Ev (fun k => spec_DrawMatchpointsOf.f k code) r ∧ r.length ≤ 100 := by
  obtain ⟨s, e, hs⟩ := l01From code hl hc
  obtain ⟨a, p, s', e', a0, a1, hs'⟩ := l01Next code hl hc 0 s 9 hs
  obtain ⟨r, p', s'', e'', hr⟩ := drawScores_l0 code hl hc a.toNat [] (by simp; omega) p s' hs'
  rw [Int.toNat_of_nonneg a0] at e''
  refine ⟨r, ?_, hr⟩
  unfold spec_DrawMatchpointsOf.f spec_l12DrawScores.f
  exact Ev.bind e (Ev.bind (evb e' e'') (Ev.now _))
/-! ### Sums -/
def sumTo (f : Nat → Int) : Nat → Int
  | 0 => 0
  | n + 1 => sumTo f n + f n
theorem sumTo_congr {f g : Nat → Int} : ∀ n, (∀ i, i < n → f i = g i) → sumTo f n = sumTo g n
  | 0, _ => rfl
  | n + 1, h => by unfold sumTo; rw [sumTo_congr n (fun i hi => h i (by omega)), h n (by omega)]
theorem sumTo_add (f g : Nat → Int) : ∀ n, sumTo (fun i => f i + g i) n = sumTo f n + sumTo g n
  | 0 => rfl
  | n + 1 => by unfold sumTo; rw [sumTo_add f g n]; omega
theorem sumTo_const (c : Int) : ∀ n : Nat, sumTo (fun _ => c) n = c * n
  | 0 => by simp [sumTo]
  | n + 1 => by unfold sumTo; rw [sumTo_const c n, Int.natCast_add, Int.mul_add]; simp
theorem sumTo_bound {f : Nat → Int} {b : Int} (hb : 0 ≤ b) (hf : ∀ i, 0 ≤ f i ∧ f i ≤ b) : ∀ n : Nat, 0 ≤ sumTo f n ∧ sumTo f n ≤ b * n
  | 0 => by simp [sumTo]
  | n + 1 => by
    have := sumTo_bound hb hf n
    have h2 := hf n
    unfold sumTo
    rw [Int.natCast_add, Int.mul_add]
    simp
    omega
theorem w5Sum (l : List Int) (hl : l.length ≤ 1000) (hx : ∀ i : Nat, 0 ≤ rd l i ∧ rd l i ≤ 2000) : Ev (fun k => laws_w5Sum.f k l) (sumTo (fun i => rd l (i : Int)) l.length) := by
  unfold laws_w5Sum.f
  have h : ∀ (d i : Nat), i + d = l.length → Ev (fun k => laws_w5Sum.l0 k l (sumTo (fun i => rd l (i : Int)) i) (i : Int)) (sumTo (fun i => rd l (i : Int)) l.length) := by
    intro d
    induction d with
    | zero =>
      intro i hd
      obtain rfl : i = l.length := by omega
      exact Ev.step (fun k => by rw [laws_w5Sum.l0]) (ifn (by omega) (Ev.now _))
    | succ d ih =>
      intro i hd
      have ih' := ih (i + 1) (by omega)
      have hb := sumTo_bound (f := fun i => rd l (i : Int)) (b := 2000) (by omega) hx i
      have hr := hx i
      have e1 : wrap64 ((i : Int) + 1) = ((i + 1 : Nat) : Int) := by rw [wrap_id (by omega) (by omega)]; omega
      have e2 : wrap64 (sumTo (fun i => rd l (i : Int)) i + rd l i) = sumTo (fun i => rd l (i : Int)) (i + 1) := by rw [wrap_id (by omega) (by omega)]; rfl
      refine Ev.step (fun k => by rw [laws_w5Sum.l0]) (ifp (by omega) (ifp (by omega) ?_))
      rw [e1, e2]
      exact ih'
  exact h l.length 0 (by omega)
theorem mpw_both (x y : Int) : mpw x y + mpw y x = 2 := by
  unfold mpw
  by_cases h1 : y < x
  · rw [if_pos h1, if_neg (by omega), if_neg (by omega)]; omega
  · rw [if_neg h1]
    by_cases h2 : y = x
    · rw [if_pos h2, if_neg (by omega), if_pos h2.symm]; omega
    · rw [if_neg h2, if_pos (by omega)]; omega
theorem mpTo_lower (l : List Int) (i : Nat) : ∀ m, m ≤ i → mpTo l i m = sumTo (fun k => mpw (rd l i) (rd l (k : Int))) m
  | 0, _ => rfl
  | m + 1, h => by
    unfold mpTo sumTo
    rw [mpTo_lower l i m (by omega), if_neg (by omega)]
theorem mp_sum (l : List Int) : ∀ n : Nat, sumTo (fun i => mpTo l i n) n = (n : Int) * ((n : Int) - 1)
  | 0 => by simp [sumTo]
  | n + 1 => by
    have h1 : sumTo (fun i => mpTo l i (n + 1)) n = sumTo (fun i => mpTo l i n) n + sumTo (fun i => mpw (rd l (i : Int)) (rd l n)) n := by
      rw [← sumTo_add]
      refine sumTo_congr n fun i hi => ?_
      show mpTo l i (n + 1) = _
      rw [mpTo, if_neg (by omega)]
    have h2 : mpTo l n (n + 1) = sumTo (fun k => mpw (rd l n) (rd l (k : Int))) n := by
      rw [mpTo, if_pos rfl, mpTo_lower l n n (Nat.le_refl _)]; omega
    have h3 : sumTo (fun i => mpw (rd l (i : Int)) (rd l n)) n + sumTo (fun k => mpw (rd l n) (rd l (k : Int))) n = 2 * n := by
      rw [← sumTo_add, sumTo_congr (g := fun _ => 2) n (fun i _ => mpw_both _ _), sumTo_const]
    have h4 := mp_sum l n
    have h5 : ((n + 1 : Nat) : Int) * (((n + 1 : Nat) : Int) - 1) = (n : Int) * ((n : Int) - 1) + 2 * n := by
      rw [show (((n + 1 : Nat) : Int) - 1) = (n : Int) by omega, show ((n + 1 : Nat) : Int) = (n : Int) + 1 by omega, Int.add_mul, Int.mul_sub]
      omega
    rw [h5]
    unfold sumTo
    rw [h1, h2]
    omega
theorem mpw_negs (x y : Int) : mpw x y + mpw (-x) (-y) = 2 := by
  have := mpw_both x y
  have e : mpw (-x) (-y) = mpw y x := by
    unfold mpw
    by_cases h1 : x < y
    · rw [if_pos (by omega), if_pos h1]
    · rw [if_neg (by omega), if_neg h1]
      by_cases h2 : x = y
      · rw [if_pos (by omega), if_pos h2]
      · rw [if_neg (by omega), if_neg h2]
  omega
theorem mp_both {l : List Int} {i : Nat} (hi : i < l.length) : ∀ n : Nat, n ≤ l.length → mpTo l i n + mpTo (negs l) i n = 2 * ((n : Int) - (if i < n then 1 else 0))
  | 0, _ => by simp [mpTo]
  | n + 1, h => by
    have ih := mp_both hi n (by omega)
    have hw := mpw_negs (rd l i) (rd l n)
    unfold mpTo
    rw [rd_negs hi, rd_negs (i := n) (by omega)]
    by_cases h1 : n = i
    · rw [if_pos h1, if_pos h1, if_pos (by omega)]
      rw [if_neg (by omega)] at ih
      omega
    · rw [if_neg h1, if_neg h1]
      by_cases h2 : i < n
      · rw [if_pos h2] at ih
        rw [if_pos (by omega)]
        omega
      · rw [if_neg h2] at ih
        rw [if_neg (by omega)]
        omega
theorem mp_beaten {l : List Int} {i : Nat} (hi : i < l.length) : ∀ n : Nat, n ≤ l.length → 2 * ((beatTo l (rd l i) n).length : Int) ≤ mpTo (negs l) i n
  | 0, _ => by simp [beatTo, mpTo]
  | n + 1, h => by
    have ih := mp_beaten hi n (by omega)
    have hw := mpw_bound (rd (negs l) i) (rd (negs l) n)
    unfold beatTo mpTo
    by_cases h1 : rd l i < rd l n
    · have hn : n ≠ i := by rintro rfl; omega
      rw [if_pos h1, if_neg hn, rd_negs hi, rd_negs (i := n) (by omega)]
      have : mpw (-rd l i) (-rd l n) = 2 := by unfold mpw; rw [if_pos (by omega)]
      rw [this, List.length_append, List.length_singleton]
      omega
    · rw [if_neg h1]
      split <;> omega
theorem topOf (n : Nat) (h1 : 1 ≤ n) (h : n ≤ 60) : impl_TopOf.f (n : Int) = some (2 * ((n : Int) - 1)) := by
  unfold impl_TopOf.f impl_topOf.f
  rw [within, Option.bind_some, if_pos (by simp; omega), wrap_id (x := (n : Int) - 1) (by omega) (by omega), wrap_id (by omega) (by omega), Option.bind_some]
  congr 1
  unfold mx
  split <;> omega
theorem matchpointsLoop (s : List Int) (hs : scoresOk s = true) : ∀ (d i : Nat), i + d = s.length → Ev (fun k => laws_FnMatchpoints.l0 k s (mp s) (mp (negs s)) (s.length : Int) (i : Int)) true := by
  have hl := ((scoresOk_iff s).1 hs).1
  intro d
  induction d with
  | zero =>
    intro i hd
    exact Ev.step (fun k => by rw [laws_FnMatchpoints.l0]) (ifn (by rw [mp_length]; omega) (Ev.now _))
  | succ d ih =>
    intro i hd
    have hi : i < s.length := by omega
    have e1 : wrap64 ((i : Int) + 1) = ((i + 1 : Nat) : Int) := by rw [wrap_id (by omega) (by omega)]; omega
    have hb := implBeatenBy s i (by omega)
    rw [if_pos hs, if_pos (by omega)] at hb
    have h1 := mp_both hi s.length (Nat.le_refl _)
    rw [if_pos hi] at h1
    have h2 := mp_beaten hi s.length (Nat.le_refl _)
    have hB := beatTo_length s (rd s i) s.length
    have r1 : rd (mp s) i = mpTo s i s.length := rd_mp hi
    have r2 : rd (mp (negs s)) i = mpTo (negs s) i s.length := by
      rw [rd_mp (by rw [negs_length]; exact hi), negs_length]
    refine Ev.step (fun k => by rw [laws_FnMatchpoints.l0]) ?_
    refine ifp (by rw [mp_length]; omega) (Ev.bind hb (ifp (by omega) (ifp (by rw [mp_length, negs_length]; omega) (evb (topOf s.length (by omega) hl) ?_))))
    rw [e1, r1, r2, wrap_id (x := mpTo s i s.length + mpTo (negs s) i s.length) (by omega) (by omega)]
    refine ifp (by omega) (ifp rfl (ifn ?_ (ih (i + 1) (by omega))))
    show ¬ mpTo (negs s) i s.length < wrap64 (2 * ((beatTo s (rd s i) s.length).length : Int))
    rw [wrap_id (by omega) (by omega)]
    omega
theorem FnMatchpoints : laws_FnMatchpoints.Pure := by
  intro l hl hl1 hw
  refine Ev.rounds ?_
  unfold laws_FnMatchpoints.f
  refine evb (bigCode l) ?_
  by_cases hb : (l.length : Int) > 4096
  · exact ifp (by simpa using hb) (Ev.now _)
  · refine ifn (by simpa using hb) ?_
    obtain ⟨s, e, hs⟩ := drawMatchpointsOf l (by omega) (bytesOk hw)
    obtain ⟨m1, m2⟩ := matchpointsOf_is s (by omega)
    have o2 := implOtherSide s (by omega)
    by_cases hk : scoresOk s = true
    · have hl := ((scoresOk_iff s).1 hk).1
      rw [if_pos hk] at m1 m2 o2
      refine Ev.bind e (Ev.bind m2 (Ev.bind o2 (Ev.bind m1 (ifp rfl ?_))))
      refine Ev.step (fun k => by rw [laws_FnMatchpoints.j0]) ?_
      refine ifn (by simp) (ifp rfl (ifp (by rw [mp_length]) (ifp (by rw [mp_length, negs_length]) ?_)))
      have hx : ∀ i : Nat, 0 ≤ rd (mp s) i ∧ rd (mp s) i ≤ 2000 := by
        intro i
        by_cases hi : i < s.length
        · rw [rd_mp hi]
          have := mpTo_bound s i s.length
          omega
        · have : rd (mp s) (i : Int) = 0 := by
            unfold rd
            rw [Int.toNat_natCast, List.getD_eq_getElem?_getD, List.getElem?_eq_none (by rw [mp_length]; omega)]
            rfl
          omega
      have hsum := w5Sum (mp s) (by rw [mp_length]; omega) hx
      have e5 : sumTo (fun i => rd (mp s) (i : Int)) (mp s).length = (s.length : Int) * ((s.length : Int) - 1) := by
        rw [mp_length, sumTo_congr (g := fun i => mpTo s i s.length) _ (fun i hi => rd_mp hi), mp_sum]
      have hbd := sumTo_bound (f := fun i => rd (mp s) (i : Int)) (b := 2000) (by omega) hx (mp s).length
      rw [e5, mp_length] at hbd
      rw [e5] at hsum
      refine Ev.bind hsum ?_
      rw [wrap_id (x := (s.length : Int) - 1) (by omega) (by omega), wrap_id (x := (s.length : Int) * ((s.length : Int) - 1)) (by omega) (by omega)]
      refine Ev.step (fun k => by rw [laws_FnMatchpoints.j1]) ?_
      refine ifn (by simp) ?_
      exact matchpointsLoop s hk s.length 0 (by omega)
    · rw [if_neg hk] at m1 m2 o2
      refine Ev.bind e (Ev.bind m2 (Ev.bind o2 (Ev.bind m1 (ifp rfl ?_))))
      refine Ev.step (fun k => by rw [laws_FnMatchpoints.j0]) ?_
      exact ifn (by simp) (ifn (by simp) (ifp rfl (Ev.now _)))

end Go.Proofs.Ytppkbbgonpdnfaa.Pure
