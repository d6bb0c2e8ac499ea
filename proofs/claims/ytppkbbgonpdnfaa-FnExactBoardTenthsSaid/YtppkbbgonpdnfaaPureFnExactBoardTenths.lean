/- For all lists of entries the program's BoardTenths answers what the reference's answers, in memory of its own. Conditions: the numbers are of 64 bits. -/
import Derived.Test.YtppkbbgonpdnfaaPFnExactBoardTenthsx5
import Derived.Test.YtppkbbgonpdnfaaKit
namespace Go.Proofs.Ytppkbbgonpdnfaa.Pure
open Go.RowKit Go.Proofs.Ytppkbbgonpdnfaa.PFnExactBoardTenths Go.Proofs.YtppkbbgonpdnfaaW.PrintWords Go.Proofs.YtppkbbgonpdnfaaW.PrintLast Go.Proofs.YtppkbbgonpdnfaaW.PrintMore Go.Proofs.Ytppkbbgonpdnfaa.Kit
set_option linter.unusedVariables false
set_option linter.unusedSimpArgs false

def mpw (x y : Int) : Int := if y < x then 2 else if y = x then 1 else 0
/-- The matchpoints of score i against the first n scores. -/
def mpTo (l : List Int) (i : Nat) : Nat → Int
  | 0 => 0
  | n + 1 => mpTo l i n + (if n = i then 0 else mpw (rd l i) (rd l n))
theorem mpw_bound (x y : Int) : 0 ≤ mpw x y ∧ mpw x y ≤ 2 := by
  unfold mpw
  split
  · omega
  · split <;> omega
theorem mpTo_bound (l : List Int) (i : Nat) : ∀ n : Nat, 0 ≤ mpTo l i n ∧ mpTo l i n ≤ 2 * n
  | 0 => by simp [mpTo]
  | n + 1 => by
    have := mpTo_bound l i n
    have hw := mpw_bound (rd l i) (rd l n)
    unfold mpTo
    split <;> omega
def mp (l : List Int) : List Int := (List.range l.length).map fun i => mpTo l i l.length
theorem mp_length (l : List Int) : (mp l).length = l.length := by simp [mp]
theorem rd_mp {l : List Int} {i : Nat} (h : i < l.length) : rd (mp l) (i : Int) = mpTo l i l.length := by
  simp [rd, mp, List.getD_eq_getElem?_getD, h]
theorem specPoints_l1 (l : List Int) (hl : l.length ≤ 1000) (i : Nat) (hi : i < l.length) (out : List Int) (ho : out.length ≤ 1000) (r : List Int)
    (hr : Ev (fun k => spec_l12Points.l0 k l (out ++ [mpTo l i l.length]) ((i + 1 : Nat) : Int)) r) :
    ∀ (d j : Nat), j + d = l.length → Ev (fun k => spec_l12Points.l1 k l out (i : Int) (mpTo l i j) (j : Int)) r := by
  intro d
  induction d with
  | zero =>
    intro j hd
    obtain rfl : j = l.length := by omega
    have e1 : wrap64 ((i : Int) + 1) = ((i + 1 : Nat) : Int) := by rw [wrap_id (by omega) (by omega)]; omega
    refine Ev.step (fun k => by rw [spec_l12Points.l1]) (ifn (by omega) (ifp (by omega) ?_))
    rw [e1]
    exact hr
  | succ d ih =>
    intro j hd
    have ih' := ih (j + 1) (by omega)
    have hb := mpTo_bound l i j
    have e1 : wrap64 ((j : Int) + 1) = ((j + 1 : Nat) : Int) := by rw [wrap_id (by omega) (by omega)]; omega
    have e2 : wrap64 (mpTo l i j + 2) = mpTo l i j + 2 := wrap_id (by omega) (by omega)
    have e3 : wrap64 (mpTo l i j + 1) = mpTo l i j + 1 := wrap_id (by omega) (by omega)
    refine Ev.step (fun k => by rw [spec_l12Points.l1]) (ifp (by omega) (ifp (by omega) (ifp (by omega) (ifp (by omega) ?_))))
    rw [e1, e2, e3]
    by_cases h1 : rd l j < rd l i
    · refine ifp h1 (ifn (by omega) ?_)
      have : mpTo l i (j + 1) = mpTo l i j + 2 := by
        have hji : j ≠ i := by rintro rfl; omega
        simp [mpTo, hji, mpw, h1]
      rw [← this]
      exact ih'
    · refine ifn h1 ?_
      by_cases h2 : rd l j = rd l i
      · refine ifp h2 ?_
        by_cases h3 : j = i
        · refine ifp (by omega) ?_
          have : mpTo l i (j + 1) = mpTo l i j := by simp [mpTo, h3]
          rw [← this]
          exact ih'
        · refine ifn (by omega) ?_
          have : mpTo l i (j + 1) = mpTo l i j + 1 := by simp [mpTo, h3, mpw, h2]
          rw [← this]
          exact ih'
      · refine ifn h2 ?_
        have : mpTo l i (j + 1) = mpTo l i j := by
          have h3 : j ≠ i := by rintro rfl; exact h2 rfl
          simp [mpTo, h3, mpw, h1, h2]
        rw [← this]
        exact ih'
theorem specPoints_l0 (l : List Int) (hl : l.length ≤ 1000) : ∀ (d i : Nat), i + d = l.length → Ev (fun k => spec_l12Points.l0 k l ((List.range i).map fun a => mpTo l a l.length) (i : Int)) (mp l) := by
  intro d
  induction d with
  | zero =>
    intro i hd
    obtain rfl : i = l.length := by omega
    unfold mp
    exact Ev.step (fun k => by rw [spec_l12Points.l0]) (ifn (by omega) (Ev.now _))
  | succ d ih =>
    intro i hd
    have ih' := ih (i + 1) (by omega)
    rw [List.range_succ, List.map_append, List.map_cons, List.map_nil] at ih'
    refine Ev.step (fun k => by rw [spec_l12Points.l0]) (ifp (by omega) ?_)
    exact specPoints_l1 l hl i (by omega) ((List.range i).map fun a => mpTo l a l.length) (by simp; omega) (mp l) ih' l.length 0 (by omega)
theorem specPoints (l : List Int) (hl : l.length ≤ 1000) : Ev (fun k => spec_l12Points.f k l) (mp l) := by
  unfold spec_l12Points.f
  exact specPoints_l0 l hl l.length 0 (by omega)
theorem set_mid (A B : List Int) (m x : Int) : (A ++ m :: B).set A.length x = A ++ x :: B := by simp
theorem rd_mid (A B : List Int) (m : Int) : rd (A ++ m :: B) (A.length : Int) = m := by simp [rd, List.getD_eq_getElem?_getD]
theorem implPoints_l1 (l : List Int) (hl : l.length ≤ 1000) (A B : List Int) (hAB : A.length + 1 + B.length = l.length) (r : List Int)
    (hr : Ev (fun k => impl_matchpoints.l0 k l (A ++ mpTo l A.length l.length :: B) l (l.length : Int) ((A.length + 1 : Nat) : Int)) r) :
    ∀ (d j : Nat), j + d = l.length → Ev (fun k => impl_matchpoints.l1 k l (A ++ mpTo l A.length j :: B) (A.length : Int) (rd l (A.length : Int)) l (l.length : Int) (A.length : Int) l (l.length : Int) (j : Int)) r := by
  intro d
  induction d with
  | zero =>
    intro j hd
    obtain rfl : j = l.length := by omega
    have e1 : wrap64 ((A.length : Int) + 1) = ((A.length + 1 : Nat) : Int) := by rw [wrap_id (by omega) (by omega)]; omega
    refine Ev.step (fun k => by rw [impl_matchpoints.l1]) (ifn (by omega) ?_)
    rw [e1]
    exact hr
  | succ d ih =>
    intro j hd
    have ih' := ih (j + 1) (by omega)
    have hb := mpTo_bound l A.length j
    have e1 : wrap64 ((j : Int) + 1) = ((j + 1 : Nat) : Int) := by rw [wrap_id (by omega) (by omega)]; omega
    have e2 : wrap64 (mpTo l A.length j + 2) = mpTo l A.length j + 2 := wrap_id (by omega) (by omega)
    have e3 : wrap64 (mpTo l A.length j + 1) = mpTo l A.length j + 1 := wrap_id (by omega) (by omega)
    refine Ev.step (fun k => by rw [impl_matchpoints.l1]) (ifp (by omega) (ifp (by omega) (ifp (by omega) ?_)))
    rw [e1, rd_mid, e2, e3, Int.toNat_natCast, set_mid, set_mid]
    by_cases h3 : j = A.length
    · refine ifp (by omega) ?_
      have : mpTo l A.length (j + 1) = mpTo l A.length j := by simp [mpTo, h3]
      rw [← this]
      exact ih'
    · refine ifn (by omega) ?_
      by_cases h1 : rd l j < rd l A.length
      · refine ifp h1 (ifp (by omega) (ifp (by simp; omega) ?_))
        have : mpTo l A.length (j + 1) = mpTo l A.length j + 2 := by simp [mpTo, h3, mpw, h1]
        rw [← this]
        exact ih'
      · refine ifn h1 ?_
        by_cases h2 : rd l j = rd l A.length
        · refine ifp h2 (ifp (by omega) (ifp (by simp; omega) ?_))
          have : mpTo l A.length (j + 1) = mpTo l A.length j + 1 := by simp [mpTo, h3, mpw, h2]
          rw [← this]
          exact ih'
        · refine ifn h2 ?_
          have : mpTo l A.length (j + 1) = mpTo l A.length j := by simp [mpTo, h3, mpw, h1, h2]
          rw [← this]
          exact ih'
theorem implPoints_l0 (l : List Int) (hl : l.length ≤ 1000) : ∀ (d i : Nat), i + d = l.length → Ev (fun k => impl_matchpoints.l0 k l (((List.range i).map fun a => mpTo l a l.length) ++ List.replicate d 0) l (l.length : Int) (i : Int)) (mp l) := by
  intro d
  induction d with
  | zero =>
    intro i hd
    obtain rfl : i = l.length := by omega
    rw [List.replicate_zero, List.append_nil]
    unfold mp
    exact Ev.step (fun k => by rw [impl_matchpoints.l0]) (ifn (by omega) (Ev.now _))
  | succ d ih =>
    intro i hd
    have ih' := ih (i + 1) (by omega)
    rw [List.range_succ, List.map_append, List.map_cons, List.map_nil, List.append_assoc, List.singleton_append] at ih'
    refine Ev.step (fun k => by rw [impl_matchpoints.l0]) (ifp (by omega) (ifp (by omega) (ifp (by omega) ?_)))
    have hA : ((List.range i).map fun a => mpTo l a l.length).length = i := by simp
    have := implPoints_l1 l hl ((List.range i).map fun a => mpTo l a l.length) (List.replicate d 0) (by simp; omega) (mp l) (by rw [hA]; exact ih') l.length 0 (by omega)
    rw [hA] at this
    exact this
theorem implPoints (l : List Int) (hl : l.length ≤ 1000) : Ev (fun k => impl_matchpoints.f k l) (mp l) := by
  unfold impl_matchpoints.f
  refine ifp (by omega) (ifp (by omega) ?_)
  exact implPoints_l0 l hl l.length 0 (by omega)

theorem l01In (a b c : Int) : spec_l01In.f a b c = some (decide (b ≤ a ∧ a ≤ c)) := by
  unfold spec_l01In.f
  by_cases h : b ≤ a <;> simp [h]

open Go.Proofs.Ytppkbbgonpdnfaa.HEntries (badEntry okKind)
theorem set_append_dropG {α : Type} (ys xs : List α) (i : Nat) (x : α) (h : ys.length = i) (hi : i < xs.length) : (ys ++ xs.drop i).set i x = (ys ++ [x]) ++ xs.drop (i + 1) := by
  subst h
  rw [List.drop_eq_getElem_cons hi, List.set_append_right _ _ (Nat.le_refl _), Nat.sub_self, List.set_cons_zero, List.append_assoc]
  rfl
def conv (x : S58) : S49 := ⟨x.f0, x.f1⟩
theorem szEntries (l : List S58) (hl : l.length ≤ 9223372036854775807) : laws_szEntryS.f l 1048576 = some (if l.length ≤ 1048576 then 1048576 - (l.length : Int) else -1) := by
  unfold laws_szEntryS.f
  rw [wrap_id (by omega) (by omega)]
  by_cases h : l.length ≤ 1048576
  · rw [if_neg (by omega), if_pos h]
  · rw [if_pos (by omega), if_neg h]
theorem rdL_getD {l : List S58} {i : Nat} (h : i < l.length) : rd_T58 l (i : Int) = l[i] := by simp [rd_T58, List.getD_eq_getElem?_getD, h]
theorem rdE_getD {l : List S49} {i : Nat} (h : i < l.length) : rd_T49 l (i : Int) = l[i] := by simp [rd_T49, List.getD_eq_getElem?_getD, h]
theorem toEntries_l0 (l : List S58) (hl : l.length ≤ 1048576) : ∀ (d i : Nat), i + d = l.length →
    Ev (fun k => laws_toEntryS.l0 k l ((l.take i).map conv ++ (List.replicate l.length z49).drop i) (i : Int)) (l.map conv) := by
  intro d
  induction d with
  | zero =>
    intro i hd
    obtain rfl : i = l.length := by omega
    refine Ev.step (fun k => by rw [laws_toEntryS.l0]) (ifn (by omega) ?_)
    rw [List.take_length, List.drop_of_length_le (by simp), List.append_nil]
    exact Ev.now _
  | succ d ih =>
    intro i hd
    have ih' := ih (i + 1) (by omega)
    have e1 : wrap64 ((i : Int) + 1) = ((i + 1 : Nat) : Int) := by rw [wrap_id (by omega) (by omega)]; omega
    refine Ev.step (fun k => by rw [laws_toEntryS.l0]) ?_
    refine ifp (by omega) (ifp (by omega) (evb rfl (ifp (by simp; omega) ?_)))
    rw [e1, Int.toNat_natCast, set_append_dropG _ _ _ _ (by simp; omega) (by simp; omega), rdL_getD (by omega)]
    have e2 : (l.take i).map conv ++ [conv l[i]] = (l.take (i + 1)).map conv := by
      rw [List.take_succ_eq_append_getElem (by omega), List.map_append, List.map_cons, List.map_nil]
    have e3 : (⟨l[i].f0, l[i].f1⟩ : S49) = conv l[i] := rfl
    rw [← e2] at ih'
    exact ih'
theorem toEntries (l : List S58) (hl : l.length ≤ 1048576) : Ev (fun k => laws_toEntryS.f k l) (l.map conv) := by
  unfold laws_toEntryS.f
  refine ifp (by omega) (ifp (by omega) ?_)
  have := toEntries_l0 l hl l.length 0 (by omega)
  simpa using this
theorem eqEntries_l0 (l : List S49) (hl : l.length ≤ 1048576) : ∀ (d i : Nat), i + d = l.length → Ev (fun k => laws_eqEntryS.l0 k l l (i : Int)) true := by
  intro d
  induction d with
  | zero =>
    intro i hd
    exact Ev.step (fun k => by rw [laws_eqEntryS.l0]) (ifn (by omega) (Ev.now _))
  | succ d ih =>
    intro i hd
    have e1 : wrap64 ((i : Int) + 1) = ((i + 1 : Nat) : Int) := by rw [wrap_id (by omega) (by omega)]; omega
    refine Ev.step (fun k => by rw [laws_eqEntryS.l0]) (ifp (by omega) (ifp (by omega) (ifp (by omega) ?_)))
    have e2 : ∀ a b : Int, laws_eqEntry.f a b a b = some true := fun a b => by unfold laws_eqEntry.f; simp
    refine evb (e2 _ _) (ifp rfl ?_)
    rw [e1]
    exact ih (i + 1) (by omega)
theorem eqEntries (l : List S49) (hl : l.length ≤ 1048576) : Ev (fun k => laws_eqEntryS.f k l l) true := by
  unfold laws_eqEntryS.f
  exact ifp rfl (eqEntries_l0 l hl l.length 0 (by omega))
def goodE (e : S49) : Bool := !badEntry (e.f0, e.f1)
theorem goodE_iff (e : S49) : goodE e = true ↔ (0 ≤ e.f0 ∧ e.f0 ≤ 4) ∧ (-100000 ≤ e.f1 ∧ e.f1 ≤ 100000) ∧ (e.f0 = 0 ∨ e.f1 = 0) := by
  unfold goodE badEntry okKind Go.Proofs.Ytppkbbgonpdnfaa.HEntries.okScore
  simp [Bool.or_eq_false_iff]
def entriesOk (l : List S49) : Bool := decide (l.length ≤ 60) && l.all goodE
theorem entriesOk_iff (l : List S49) : entriesOk l = true ↔ l.length ≤ 60 ∧ ∀ x ∈ l, goodE x = true := by
  unfold entriesOk
  simp [List.all_eq_true]
theorem implIsEntries (l : List S49) : impl_IsEntries.f l = some (entriesOk l) := by
  unfold impl_IsEntries.f entriesOk
  congr 1
  congr 1
  rw [List.any_map, List.not_any_eq_all_not]
  rfl
theorem specIsEntries (l : List S49) (hl : l.length ≤ 1048576) : Ev (fun k => spec_IsEntries.f k l) (entriesOk l) := by
  unfold spec_IsEntries.f
  have h : ∀ (d i : Nat), i + d = l.length → Ev (fun k => spec_IsEntries.l0 k l (i : Int)) (decide (l.length ≤ 60) && (l.drop i).all goodE) := by
    intro d
    induction d with
    | zero =>
      intro i hd
      refine Ev.step (fun k => by rw [spec_IsEntries.l0]) (ifn (by omega) ?_)
      rw [List.drop_of_length_le (by omega)]
      have e : decide ((l.length : Int) ≤ 60) = decide (l.length ≤ 60) := decide_eq_decide.2 (by omega)
      rw [e, List.all_nil, Bool.and_true]
      exact Ev.now _
    | succ d ih =>
      intro i hd
      have ih' := ih (i + 1) (by omega)
      have e1 : wrap64 ((i : Int) + 1) = ((i + 1 : Nat) : Int) := by rw [wrap_id (by omega) (by omega)]; omega
      have hi : i < l.length := by omega
      refine Ev.step (fun k => by rw [spec_IsEntries.l0]) (ifp (by omega) (ifp (by omega) (evb (l01In _ _ _) ?_)))
      rw [e1, List.drop_eq_getElem_cons hi, List.all_cons, rdE_getD hi]
      have hg := goodE_iff l[i]
      by_cases h1 : 0 ≤ l[i].f0 ∧ l[i].f0 ≤ 4
      · refine ifp (by simpa using h1) (evb (l01In _ _ _) ?_)
        by_cases h2 : -100000 ≤ l[i].f1 ∧ l[i].f1 ≤ 100000
        · refine ifp (by simpa using h2) ?_
          by_cases h3 : l[i].f0 = 0
          · rw [hg.2 ⟨h1, h2, .inl h3⟩, Bool.true_and]
            exact ifp h3 ih'
          · refine ifn h3 ?_
            by_cases h4 : l[i].f1 = 0
            · rw [hg.2 ⟨h1, h2, .inr h4⟩, Bool.true_and]
              exact ifp h4 ih'
            · have : goodE l[i] = false := by
                rw [Bool.eq_false_iff]
                intro h
                rcases (hg.1 h).2.2 with h | h
                · exact h3 h
                · exact h4 h
              rw [this, Bool.false_and, Bool.and_false]
              exact ifn h4 (Ev.now _)
        · have : goodE l[i] = false := by
            rw [Bool.eq_false_iff]
            exact fun h => h2 (hg.1 h).2.1
          rw [this, Bool.false_and, Bool.and_false]
          exact ifn (by simpa using h2) (Ev.now _)
      · have : goodE l[i] = false := by
          rw [Bool.eq_false_iff]
          exact fun h => h1 (hg.1 h).1
        rw [this, Bool.false_and, Bool.and_false]
        exact ifn (by simpa using h1) (Ev.now _)
  exact h l.length 0 (by omega)

/-- The scores of the tables that have played. -/
def played : List S49 → List Int
  | [] => []
  | e :: es => if e.f0 = 0 then e.f1 :: played es else played es
theorem played_append (a : List S49) (e : S49) : played (a ++ [e]) = if e.f0 = 0 then played a ++ [e.f1] else played a := by
  induction a with
  | nil => simp [played]
  | cons x a ih =>
    simp only [List.cons_append, played]
    by_cases hx : x.f0 = 0
    · rw [if_pos hx, if_pos hx, ih]
      split <;> rfl
    · rw [if_neg hx, if_neg hx, ih]
theorem played_length (a : List S49) : (played a).length ≤ a.length := by
  induction a with
  | nil => simp [played]
  | cons x a ih =>
    unfold played
    split
    · simp; exact ih
    · simp; omega
def topM (n : Nat) : Int := mx 0 (2 * ((n : Int) - 1))
theorem topM_bound (n : Nat) (h : n ≤ 1000) : 0 ≤ topM n ∧ topM n ≤ 2000 := by unfold topM mx; split <;> omega
/-- Tenths of the entries, whose matchpoints stand in ps. -/
def tn (top : Int) : List S49 → List Int → List Int
  | [], _ => []
  | e :: es, ps => if e.f0 = 0 then (10 * rd ps 0) :: tn top es (ps.drop 1) else (if e.f0 = 1 then 5 * top else if e.f0 = 2 then 6 * top else if e.f0 = 3 then 4 * top else 0) :: tn top es ps
theorem tn_length (top : Int) : ∀ (es : List S49) (ps : List Int), (tn top es ps).length = es.length
  | [], _ => rfl
  | e :: es, ps => by
    unfold tn
    split
    · simp [tn_length top es]
    · simp [tn_length top es]
theorem rd_drop (ps : List Int) (a : Nat) : rd (ps.drop a) 0 = rd ps (a : Int) := by simp [rd, List.getD_eq_getElem?_getD]
theorem drop_one (ps : List Int) (a : Nat) : (ps.drop a).drop 1 = ps.drop (a + 1) := by simp [List.drop_drop, Nat.add_comm]
def tenthsM (l : List S49) : List Int := tn (topM (played l).length) l (mp (played l))
theorem tenthsM_length (l : List S49) : (tenthsM l).length = l.length := tn_length _ _ _
theorem mp_range {l : List Int} {x : Int} (h : x ∈ mp l) : 0 ≤ x ∧ x ≤ 2 * l.length := by
  unfold mp at h
  obtain ⟨i, _, rfl⟩ := List.mem_map.1 h
  exact mpTo_bound l i l.length
theorem rd_in {ps : List Int} {b : Int} (hb : 0 ≤ b) (hp : ∀ x ∈ ps, 0 ≤ x ∧ x ≤ b) (i : Int) : 0 ≤ rd ps i ∧ rd ps i ≤ b := by
  unfold rd
  by_cases h : i.toNat < ps.length
  · have e : ps.getD i.toNat 0 = ps[i.toNat] := by simp [List.getD_eq_getElem?_getD, h]
    rw [e]
    exact hp _ (List.getElem_mem h)
  · have e : ps.getD i.toNat 0 = 0 := by simp [List.getD_eq_getElem?_getD, List.getElem?_eq_none (Nat.not_lt.1 h)]
    rw [e]
    omega
theorem entry_kind {l : List S49} (hg : ∀ x ∈ l, goodE x = true) {i : Nat} (h : i < l.length) : 0 ≤ l[i].f0 ∧ l[i].f0 ≤ 4 := ((goodE_iff _).1 (hg _ (List.getElem_mem h))).1
theorem played_take {l : List S49} {i : Nat} (h : i < l.length) : played (l.take (i + 1)) = if l[i].f0 = 0 then played (l.take i) ++ [l[i].f1] else played (l.take i) := by
  rw [List.take_succ_eq_append_getElem h, played_append]
theorem specTenths_l1 (l : List S49) (hl : l.length ≤ 1000) (hg : ∀ x ∈ l, goodE x = true) (ps : List Int) (hps : ps.length ≤ 1000) (hp : ∀ x ∈ ps, 0 ≤ x ∧ x ≤ 2000) (top : Int) (ht : 0 ≤ top ∧ top ≤ 2000) :
    ∀ (d i a : Nat) (out : List Int), i + d = l.length → out.length = i → a + (played (l.drop i)).length = ps.length →
      Ev (fun k => spec_l12Tenths.l1 k l ps top out (a : Int) (i : Int)) (out ++ tn top (l.drop i) (ps.drop a)) := by
  intro d
  induction d with
  | zero =>
    intro i a out hd ho ha
    refine Ev.step (fun k => by rw [spec_l12Tenths.l1]) (ifn (by omega) ?_)
    rw [List.drop_of_length_le (by omega), tn, List.append_nil]
    exact Ev.now _
  | succ d ih =>
    intro i a out hd ho ha
    have hi : i < l.length := by omega
    have hk := entry_kind hg hi
    have e1 : wrap64 ((i : Int) + 1) = ((i + 1 : Nat) : Int) := by rw [wrap_id (by omega) (by omega)]; omega
    rw [List.drop_eq_getElem_cons hi, played] at ha
    refine Ev.step (fun k => by rw [spec_l12Tenths.l1]) (ifp (by omega) (ifp (by omega) ?_))
    rw [e1, rdE_getD hi, List.drop_eq_getElem_cons hi, tn]
    by_cases h0 : l[i].f0 = 0
    · rw [if_pos h0] at ha ⊢
      rw [List.length_cons] at ha
      have hr := rd_in (by omega) hp (a : Int)
      have q1 : (0 : Int) ≤ (a : Int) := by omega
      have q2 : (a : Int) < (ps.length : Int) := by omega
      have q3 : out.length < 17592186044416 := by omega
      clear e1
      have e2 : wrap64 ((a : Int) + 1) = ((a + 1 : Nat) : Int) := by rw [wrap_id (by omega) (by omega)]; omega
      refine ifp h0 (ifp q1 (ifp q2 (ifp q3 ?_)))
      rw [e2]
      clear e2
      rw [wrap_id (x := 10 * rd ps a) (by omega) (by omega), rd_drop, drop_one]
      have := ih (i + 1) (a + 1) (out ++ [10 * rd ps a]) (by omega) (by simp; omega) (by omega)
      rw [List.append_assoc, List.singleton_append] at this
      exact this
    · rw [if_neg h0] at ha ⊢
      clear e1
      refine ifn h0 ?_
      by_cases h4 : l[i].f0 = 4
      · refine ifp h4 (ifp (by omega) ?_)
        rw [if_neg (by omega), if_neg (by omega), if_neg (by omega)]
        have := ih (i + 1) a (out ++ [0]) (by omega) (by simp; omega) (by omega)
        rw [List.append_assoc, List.singleton_append] at this
        exact this
      · refine ifn h4 (evb rfl (ifp hk.1 (ifp (by show l[i].f0 < ((([0, 5, 6, 4] : List Int).length : Nat) : Int); simp; omega) (ifp (by omega) ?_))))
        have e4 : wrap64 (top * rd ([0, 5, 6, 4] : List Int) l[i].f0) = if l[i].f0 = 1 then 5 * top else if l[i].f0 = 2 then 6 * top else if l[i].f0 = 3 then 4 * top else 0 := by
          rcases (by omega : l[i].f0 = 1 ∨ l[i].f0 = 2 ∨ l[i].f0 = 3) with h | h | h
          · rw [h]
            show wrap64 (top * 5) = _
            rw [wrap_id (by omega) (by omega)]; simp; omega
          · rw [h]
            show wrap64 (top * 6) = _
            rw [wrap_id (by omega) (by omega)]; simp; omega
          · rw [h]
            show wrap64 (top * 4) = _
            rw [wrap_id (by omega) (by omega)]; simp; omega
        rw [e4]
        have := ih (i + 1) a (out ++ [if l[i].f0 = 1 then 5 * top else if l[i].f0 = 2 then 6 * top else if l[i].f0 = 3 then 4 * top else 0]) (by omega) (by simp; omega) (by omega)
        rw [List.append_assoc, List.singleton_append] at this
        exact this
theorem specTop (n : Nat) (h : n ≤ 1000) : spec_l12Top.f (n : Int) = some (topM n) := by
  unfold spec_l12Top.f topM
  rw [wrap_id (x := (n : Int) - 1) (by omega) (by omega), wrap_id (by omega) (by omega)]
theorem implTop (n : Nat) (h : n ≤ 1000) : impl_topOf.f (n : Int) = some (topM n) := by
  unfold impl_topOf.f topM
  rw [wrap_id (x := (n : Int) - 1) (by omega) (by omega), wrap_id (by omega) (by omega)]
theorem specTenths (l : List S49) (hl : l.length ≤ 1000) (hg : ∀ x ∈ l, goodE x = true) : Ev (fun k => spec_l12Tenths.f k l) (tenthsM l) := by
  unfold spec_l12Tenths.f
  have h : ∀ (d i : Nat), i + d = l.length → Ev (fun k => spec_l12Tenths.l0 k l (played (l.take i)) (i : Int)) (tenthsM l) := by
    intro d
    induction d with
    | zero =>
      intro i hd
      obtain rfl : i = l.length := by omega
      have hp := played_length l
      rw [List.take_length]
      refine Ev.step (fun k => by rw [spec_l12Tenths.l0]) (ifn (by omega) (Ev.bind (specPoints (played l) (by omega)) (evb (specTop (played l).length (by omega)) ?_)))
      have := specTenths_l1 l hl hg (mp (played l)) (by rw [mp_length]; omega) (fun x hx => by have := mp_range hx; omega) (topM (played l).length) (topM_bound _ (by omega)) l.length 0 0 [] (by omega) rfl (by rw [mp_length]; simp)
      exact this
    | succ d ih =>
      intro i hd
      have hi : i < l.length := by omega
      have ih' := ih (i + 1) (by omega)
      have hp := played_length (l.take i)
      rw [List.length_take] at hp
      have e1 : wrap64 ((i : Int) + 1) = ((i + 1 : Nat) : Int) := by rw [wrap_id (by omega) (by omega)]; omega
      refine Ev.step (fun k => by rw [spec_l12Tenths.l0]) (ifp (by omega) (ifp (by omega) ?_))
      rw [e1, rdE_getD hi]
      rw [played_take hi] at ih'
      by_cases h0 : l[i].f0 = 0
      · rw [if_pos h0] at ih'
        exact ifp h0 (ifp (by omega) ih')
      · rw [if_neg h0] at ih'
        exact ifn h0 ih'
  exact h l.length 0 (by omega)
theorem implTenths_l1 (l : List S49) (hl : l.length ≤ 1000) (hg : ∀ x ∈ l, goodE x = true) (top : Int) (ht : 0 ≤ top ∧ top ≤ 2000) :
    ∀ (d i : Nat) (ps : List Int) (hp : ∀ x ∈ ps, 0 ≤ x ∧ x ≤ 2000) (out : List Int), i + d = l.length → out.length = i → (played (l.drop i)).length = ps.length →
      Ev (fun k => impl_tenths.l1 k ps top out l (l.length : Int) (i : Int)) (out ++ tn top (l.drop i) ps) := by
  intro d
  induction d with
  | zero =>
    intro i ps hp out hd ho ha
    refine Ev.step (fun k => by rw [impl_tenths.l1]) (ifn (by omega) ?_)
    rw [List.drop_of_length_le (by omega), tn, List.append_nil]
    exact Ev.now _
  | succ d ih =>
    intro i ps hp out hd ho ha
    have hi : i < l.length := by omega
    have hk := entry_kind hg hi
    have e1 : wrap64 ((i : Int) + 1) = ((i + 1 : Nat) : Int) := by rw [wrap_id (by omega) (by omega)]; omega
    rw [List.drop_eq_getElem_cons hi, played] at ha
    refine Ev.step (fun k => by rw [impl_tenths.l1]) (ifp (by omega) (ifp (by omega) (ifp (by omega) ?_)))
    rw [e1, rdE_getD hi, List.drop_eq_getElem_cons hi, tn]
    by_cases h0 : l[i].f0 = 0
    · rw [if_pos h0] at ha ⊢
      rw [List.length_cons] at ha
      have hr := rd_in (by omega) hp 0
      clear e1
      refine ifp h0 (ifp (by omega) (ifp (by omega) (ifp (by omega) ?_)))
      rw [wrap_id (x := 10 * rd ps 0) (by omega) (by omega)]
      have := ih (i + 1) (ps.drop 1) (fun x hx => hp x (List.mem_of_mem_drop hx)) (out ++ [10 * rd ps 0]) (by omega) (by simp; omega) (by simp; omega)
      rw [List.append_assoc, List.singleton_append] at this
      exact this
    · rw [if_neg h0] at ha ⊢
      refine ifn h0 ?_
      clear e1
      have w5 : wrap64 (5 * top) = 5 * top := wrap_id (by omega) (by omega)
      have w6 : wrap64 (6 * top) = 6 * top := wrap_id (by omega) (by omega)
      have w4 : wrap64 (4 * top) = 4 * top := wrap_id (by omega) (by omega)
      rw [w5, w6, w4]
      have go : ∀ z : Int, Ev (fun k => impl_tenths.l1 k ps top (out ++ [z]) l (l.length : Int) ((i + 1 : Nat) : Int)) (out ++ z :: tn top (l.drop (i + 1)) ps) := by
        intro z
        have := ih (i + 1) ps hp (out ++ [z]) (by omega) (by simp; omega) (by omega)
        rw [List.append_assoc, List.singleton_append] at this
        exact this
      by_cases h1 : l[i].f0 = 1
      · rw [if_pos h1]
        exact ifp h1 (ifp (by omega) (go _))
      · rw [if_neg h1]
        refine ifn h1 ?_
        by_cases h2 : l[i].f0 = 2
        · rw [if_pos h2]
          exact ifp h2 (ifp (by omega) (go _))
        · rw [if_neg h2]
          refine ifn h2 ?_
          by_cases h3 : l[i].f0 = 3
          · rw [if_pos h3]
            exact ifp h3 (ifp (by omega) (go _))
          · rw [if_neg h3]
            exact ifn h3 (ifp (by omega) (go _))
theorem implTenths (l : List S49) (hl : l.length ≤ 1000) (hg : ∀ x ∈ l, goodE x = true) : Ev (fun k => impl_tenths.f k l) (tenthsM l) := by
  unfold impl_tenths.f
  have h : ∀ (d i : Nat), i + d = l.length → Ev (fun k => impl_tenths.l0 k l (played (l.take i)) l (l.length : Int) (i : Int)) (tenthsM l) := by
    intro d
    induction d with
    | zero =>
      intro i hd
      obtain rfl : i = l.length := by omega
      have hp := played_length l
      rw [List.take_length]
      refine Ev.step (fun k => by rw [impl_tenths.l0]) (ifn (by omega) (Ev.bind (implPoints (played l) (by omega)) (evb (implTop (played l).length (by omega)) ?_)))
      have := implTenths_l1 l hl hg (topM (played l).length) (topM_bound _ (by omega)) l.length 0 (mp (played l)) (fun x hx => by have := mp_range hx; omega) [] (by omega) rfl (by rw [mp_length]; simp)
      exact this
    | succ d ih =>
      intro i hd
      have hi : i < l.length := by omega
      have ih' := ih (i + 1) (by omega)
      have hp := played_length (l.take i)
      rw [List.length_take] at hp
      have e1 : wrap64 ((i : Int) + 1) = ((i + 1 : Nat) : Int) := by rw [wrap_id (by omega) (by omega)]; omega
      refine Ev.step (fun k => by rw [impl_tenths.l0]) (ifp (by omega) (ifp (by omega) (ifp (by omega) ?_)))
      rw [e1, rdE_getD hi]
      rw [played_take hi] at ih'
      by_cases h0 : l[i].f0 = 0
      · rw [if_pos h0] at ih'
        exact ifp h0 (ifp (by omega) ih')
      · rw [if_neg h0] at ih'
        exact ifn h0 ih'
  exact h l.length 0 (by omega)

theorem eqInts_l0 (a : List Int) (ha : a.length ≤ 4611686018427387904) : ∀ (d : Nat) (i : Int), 0 ≤ i → i + d = a.length → Ev (fun k => laws_eqInt64S.l0 k a a i) true := by
  intro d
  induction d with
  | zero =>
    intro i h0 hd
    refine Ev.step (fun k => by rw [laws_eqInt64S.l0]) ?_
    exact ifn (by omega) (Ev.now _)
  | succ d ih =>
    intro i h0 hd
    have e1 : wrap64 (i + 1) = i + 1 := wrap_id (by omega) (by omega)
    refine Ev.step (fun k => by rw [laws_eqInt64S.l0]) ?_
    rw [e1]
    exact ifp (by omega) (ifp h0 (ifp (by omega) (ifp rfl (ih (i + 1) (by omega) (by omega)))))
theorem eqInts (a : List Int) (ha : a.length ≤ 4611686018427387904) : Ev (fun k => laws_eqInt64S.f k a a) true := by
  unfold laws_eqInt64S.f
  exact ifp rfl (eqInts_l0 a ha a.length 0 (by omega) (by omega))

theorem markInts_l0 (l : List Int) (hl : l.length ≤ 1048576) (a : Int) (ha0 : -1000000000 ≤ a) (ha1 : a ≤ 1000000000) : ∀ (d i : Nat), i + d = l.length →
    Ev (fun k => laws_markInt64S.l0 k (seqFrom a i ++ l.drop i) (a + (i : Int)) (i : Int)) (a + (l.length : Int), seqFrom a l.length) := by
  intro d
  induction d with
  | zero =>
    intro i hd
    obtain rfl : i = l.length := by omega
    refine Ev.step (fun k => by rw [laws_markInt64S.l0]) ?_
    rw [List.drop_length, List.append_nil]
    exact ifn (by rw [seq_length]; omega) (Ev.now _)
  | succ d ih =>
    intro i hd
    have e1 : wrap64 ((i : Int) + 1) = ((i + 1 : Nat) : Int) := by rw [wrap_id (by omega) (by omega)]; omega
    have e2 : wrap64 (a + (i : Int) + 1) = a + ((i + 1 : Nat) : Int) := by rw [wrap_id (by omega) (by omega)]; omega
    have e3 : (seqFrom a i ++ l.drop i).length = l.length := by simp [seq_length]; omega
    have ih' := ih (i + 1) (by omega)
    refine Ev.step (fun k => by rw [laws_markInt64S.l0]) ?_
    rw [e3, e1, e2, Int.toNat_natCast, set_append_drop _ _ _ _ (seq_length a i) (by omega), ← seq_succ]
    exact ifp (by omega) (ifp (by omega) ih')
theorem markInts (l : List Int) (hl : l.length ≤ 1048576) (a : Int) (ha0 : -1000000000 ≤ a) (ha1 : a ≤ 1000000000) : Ev (fun k => laws_markInt64S.f k l a) (a + (l.length : Int), seqFrom a l.length) := by
  have h := markInts_l0 l hl a ha0 ha1 l.length 0 (by omega)
  simpa [seqFrom, laws_markInt64S.f] using h
theorem heldInts_l0 (n : Nat) (hn : n ≤ 1048576) (a : Int) (ha0 : -1000000000 ≤ a) (ha1 : a ≤ 1000000000) : ∀ (d i : Nat), i + d = n →
    Ev (fun k => laws_heldInt64S.l0 k (seqFrom a n) (a + (i : Int)) (i : Int)) (a + (n : Int)) := by
  intro d
  induction d with
  | zero =>
    intro i hd
    obtain rfl : i = n := by omega
    refine Ev.step (fun k => by rw [laws_heldInt64S.l0]) ?_
    exact ifn (by rw [seq_length]; omega) (Ev.now _)
  | succ d ih =>
    intro i hd
    have e1 : wrap64 ((i : Int) + 1) = ((i + 1 : Nat) : Int) := by rw [wrap_id (by omega) (by omega)]; omega
    have e2 : wrap64 (a + (i : Int) + 1) = a + ((i + 1 : Nat) : Int) := by rw [wrap_id (by omega) (by omega)]; omega
    refine Ev.step (fun k => by rw [laws_heldInt64S.l0]) ?_
    rw [seq_length, e1, e2]
    exact ifp (by omega) (ifp (by omega) (ifp (rd_seq (by omega) (by omega)) (ih (i + 1) (by omega))))
theorem heldInts (n : Nat) (hn : n ≤ 1048576) (a : Int) (ha0 : -1000000000 ≤ a) (ha1 : a ≤ 1000000000) : Ev (fun k => laws_heldInt64S.f k (seqFrom a n) a) (a + (n : Int)) := by
  have h := heldInts_l0 n hn a ha0 ha1 n 0 (by omega)
  simpa [laws_heldInt64S.f] using h

theorem boardTenths_both (l : List S49) (h : l.length ≤ 1048576) : ∃ r c, Ev (fun k => spec_BoardTenths.f k l) (r, c) ∧ Ev (fun k => impl_BoardTenths.f k l) (r, c) ∧ r.length ≤ 1048576 := by
  unfold spec_BoardTenths.f impl_BoardTenths.f
  by_cases hs : entriesOk l = true
  · obtain ⟨hl, hg⟩ := (entriesOk_iff l).1 hs
    exact ⟨_, _, Ev.bind (specIsEntries l h) (ifp hs (Ev.bind (specTenths l (by omega) hg) (Ev.now _))), evb (implIsEntries l) (ifp hs (Ev.bind (implTenths l (by omega) hg) (Ev.now _))), by rw [tenthsM_length]; exact h⟩
  · exact ⟨_, _, Ev.bind (specIsEntries l h) (ifn hs (Ev.now _)), evb (implIsEntries l) (ifn hs (Ev.now _)), by simp⟩
theorem markEntries (n : Nat) (hn : n ≤ 1048576) : ∀ (d i : Nat) (l : List S49), l.length = n → i + d = n → ∃ l', Ev (fun k => laws_markEntryS.l0 k l (1 + 2 * (i : Int)) (i : Int)) (1 + 2 * (n : Int), l') := by
  intro d
  induction d with
  | zero =>
    intro i l hl hd
    obtain rfl : i = n := by omega
    exact ⟨l, Ev.step (fun k => by rw [laws_markEntryS.l0]) (ifn (by omega) (Ev.now _))⟩
  | succ d ih =>
    intro i l hl hd
    have e1 : wrap64 ((i : Int) + 1) = ((i + 1 : Nat) : Int) := by rw [wrap_id (by omega) (by omega)]; omega
    have e2 : wrap64 (1 + 2 * (i : Int) + 1) = 2 + 2 * (i : Int) := by rw [wrap_id (by omega) (by omega)]; omega
    have e3 : wrap64 (2 + 2 * (i : Int) + 1) = 1 + 2 * ((i + 1 : Nat) : Int) := by rw [wrap_id (by omega) (by omega)]; omega
    obtain ⟨l', h'⟩ := ih (i + 1) (((l.set i ⟨1 + 2 * (i : Int), (rd_T49 l i).f1⟩).set i ⟨(rd_T49 (l.set i ⟨1 + 2 * (i : Int), (rd_T49 l i).f1⟩) i).f0, 2 + 2 * (i : Int)⟩)) (by simp [hl]) (by omega)
    refine ⟨l', Ev.step (fun k => by rw [laws_markEntryS.l0]) (ifp (by omega) (ifp (by omega) (evb rfl ?_)))⟩
    rw [e1, e2, e3, Int.toNat_natCast]
    exact h'
theorem FnExactBoardTenths (l : List S58) (hl : l.length ≤ 9223372036854775807) (hw : ∀ x ∈ l, (Lit.int .i64 x.f0).wf = true ∧ (Lit.int .i64 x.f1).wf = true) : ∃ k, laws_FnExactBoardTenths.f k l = some true := by
  refine Ev.rounds ?_
  unfold laws_FnExactBoardTenths.f
  refine evb (szEntries l hl) ?_
  by_cases h : l.length ≤ 1048576
  · rw [if_pos h]
    have hm : (l.map conv).length ≤ 1048576 := by simpa using h
    obtain ⟨r, c, h1, h2, hr⟩ := boardTenths_both (l.map conv) hm
    obtain ⟨l', h3⟩ := markEntries (l.map conv).length hm (l.map conv).length 0 (l.map conv) rfl (by omega)
    have h4 : Ev (fun k => laws_markEntryS.f k (l.map conv) 1) (1 + 2 * ((l.map conv).length : Int), l') := h3
    refine ifn (by omega) ?_
    refine Ev.bind (toEntries l h) (Ev.bind h1 (Ev.bind (toEntries l h) (Ev.bind h2 (Ev.bind (eqInts r (by omega)) (ifp rfl ?_)))))
    refine Ev.step (fun k => by rw [laws_FnExactBoardTenths.j0]) (ifn (by simp) ?_)
    refine Ev.bind (toEntries l h) (Ev.bind (eqEntries _ hm) (ifp rfl ?_))
    refine Ev.bind h4 (ifn (by omega) ?_)
    refine Ev.bind (eqInts r (by omega)) (ifp rfl ?_)
    refine Ev.step (fun k => by rw [laws_FnExactBoardTenths.j1]) (ifn (by simp) ?_)
    refine Ev.bind (markInts r hr 1 (by omega) (by omega)) (Ev.bind (heldInts _ hr 1 (by omega) (by omega)) (ifn (by omega) (ifp rfl ?_)))
    refine Ev.bind (toEntries l h) (Ev.bind h2 (Ev.bind (eqInts r (by omega)) (ifp rfl ?_)))
    refine Ev.step (fun k => by rw [laws_FnExactBoardTenths.j2]) (ifn (by simp) ?_)
    exact Ev.bind (heldInts _ hr 1 (by omega) (by omega)) (ifn (by omega) (ifp rfl (Ev.now _)))
  · rw [if_neg h]
    exact ifp (by omega) (Ev.now _)

end Go.Proofs.Ytppkbbgonpdnfaa.Pure
