/- For all lists of entries the program's IsEntries answers what the reference's answers. Conditions: the numbers are of 64 bits. -/
import Derived.Test.YtppkbbgonpdnfaaPFnExactIsEntriesx2
import Derived.Test.YtppkbbgonpdnfaaKit
namespace Go.Proofs.Ytppkbbgonpdnfaa.Pure
open Go.RowKit Go.Proofs.Ytppkbbgonpdnfaa.PFnExactIsEntries Go.Proofs.YtppkbbgonpdnfaaW.PrintWords Go.Proofs.YtppkbbgonpdnfaaW.PrintLast Go.Proofs.YtppkbbgonpdnfaaW.PrintMore Go.Proofs.Ytppkbbgonpdnfaa.Kit
set_option linter.unusedVariables false
set_option linter.unusedSimpArgs false

theorem l01In (a b c : Int) : spec_l01In.f a b c = some (decide (b ≤ a ∧ a ≤ c)) := by
  unfold spec_l01In.f
  by_cases h : b ≤ a <;> simp [h]

open Go.Proofs.Ytppkbbgonpdnfaa.HEntries (badEntry okKind)
theorem set_append_dropG {α : Type} (ys xs : List α) (i : Nat) (x : α) (h : ys.length = i) (hi : i < xs.length) : (ys ++ xs.drop i).set i x = (ys ++ [x]) ++ xs.drop (i + 1) := by
  subst h
  rw [List.drop_eq_getElem_cons hi, List.set_append_right _ _ (Nat.le_refl _), Nat.sub_self, List.set_cons_zero, List.append_assoc]
  rfl
def conv (x : S58) : S49 := ⟨x.f0, x.f1⟩
theorem szEntries (l : List S58) (hl : l.length ≤ 9223372036854775807) : laws_szEntryS.f l 1048576 = some (if l.length ≤ 1048576 then 1048576 - (l.length : Int) else -1) := by
  unfold laws_szEntryS.f
  rw [wrap_id (by omega) (by omega)]
  by_cases h : l.length ≤ 1048576
  · rw [if_neg (by omega), if_pos h]
  · rw [if_pos (by omega), if_neg h]
theorem rdL_getD {l : List S58} {i : Nat} (h : i < l.length) : rd_T58 l (i : Int) = l[i] := by simp [rd_T58, List.getD_eq_getElem?_getD, h]
theorem rdE_getD {l : List S49} {i : Nat} (h : i < l.length) : rd_T49 l (i : Int) = l[i] := by simp [rd_T49, List.getD_eq_getElem?_getD, h]
theorem toEntries_l0 (l : List S58) (hl : l.length ≤ 1048576) : ∀ (d i : Nat), i + d = l.length →
    Ev (fun k => laws_toEntryS.l0 k l ((l.take i).map conv ++ (List.replicate l.length z49).drop i) (i : Int)) (l.map conv) := by
  intro d
  induction d with
  | zero =>
    intro i hd
    obtain rfl : i = l.length := by omega
    refine Ev.step (fun k => by rw [laws_toEntryS.l0]) (ifn (by omega) ?_)
    rw [List.take_length, List.drop_of_length_le (by simp), List.append_nil]
    exact Ev.now _
  | succ d ih =>
    intro i hd
    have ih' := ih (i + 1) (by omega)
    have e1 : wrap64 ((i : Int) + 1) = ((i + 1 : Nat) : Int) := by rw [wrap_id (by omega) (by omega)]; omega
    refine Ev.step (fun k => by rw [laws_toEntryS.l0]) ?_
    refine ifp (by omega) (ifp (by omega) (evb rfl (ifp (by simp; omega) ?_)))
    rw [e1, Int.toNat_natCast, set_append_dropG _ _ _ _ (by simp; omega) (by simp; omega), rdL_getD (by omega)]
    have e2 : (l.take i).map conv ++ [conv l[i]] = (l.take (i + 1)).map conv := by
      rw [List.take_succ_eq_append_getElem (by omega), List.map_append, List.map_cons, List.map_nil]
    have e3 : (⟨l[i].f0, l[i].f1⟩ : S49) = conv l[i] := rfl
    rw [← e2] at ih'
    exact ih'
theorem toEntries (l : List S58) (hl : l.length ≤ 1048576) : Ev (fun k => laws_toEntryS.f k l) (l.map conv) := by
  unfold laws_toEntryS.f
  refine ifp (by omega) (ifp (by omega) ?_)
  have := toEntries_l0 l hl l.length 0 (by omega)
  simpa using this
theorem eqEntries_l0 (l : List S49) (hl : l.length ≤ 1048576) : ∀ (d i : Nat), i + d = l.length → Ev (fun k => laws_eqEntryS.l0 k l l (i : Int)) true := by
  intro d
  induction d with
  | zero =>
    intro i hd
    exact Ev.step (fun k => by rw [laws_eqEntryS.l0]) (ifn (by omega) (Ev.now _))
  | succ d ih =>
    intro i hd
    have e1 : wrap64 ((i : Int) + 1) = ((i + 1 : Nat) : Int) := by rw [wrap_id (by omega) (by omega)]; omega
    refine Ev.step (fun k => by rw [laws_eqEntryS.l0]) (ifp (by omega) (ifp (by omega) (ifp (by omega) ?_)))
    have e2 : ∀ a b : Int, laws_eqEntry.f a b a b = some true := fun a b => by unfold laws_eqEntry.f; simp
    refine evb (e2 _ _) (ifp rfl ?_)
    rw [e1]
    exact ih (i + 1) (by omega)
theorem eqEntries (l : List S49) (hl : l.length ≤ 1048576) : Ev (fun k => laws_eqEntryS.f k l l) true := by
  unfold laws_eqEntryS.f
  exact ifp rfl (eqEntries_l0 l hl l.length 0 (by omega))
def goodE (e : S49) : Bool := !badEntry (e.f0, e.f1)
theorem goodE_iff (e : S49) : goodE e = true ↔ (0 ≤ e.f0 ∧ e.f0 ≤ 4) ∧ (-100000 ≤ e.f1 ∧ e.f1 ≤ 100000) ∧ (e.f0 = 0 ∨ e.f1 = 0) := by
  unfold goodE badEntry okKind Go.Proofs.Ytppkbbgonpdnfaa.HEntries.okScore
  simp [Bool.or_eq_false_iff]
def entriesOk (l : List S49) : Bool := decide (l.length ≤ 60) && l.all goodE
theorem entriesOk_iff (l : List S49) : entriesOk l = true ↔ l.length ≤ 60 ∧ ∀ x ∈ l, goodE x = true := by
  unfold entriesOk
  simp [List.all_eq_true]
theorem implIsEntries (l : List S49) : impl_IsEntries.f l = some (entriesOk l) := by
  unfold impl_IsEntries.f entriesOk
  congr 1
  congr 1
  rw [List.any_map, List.not_any_eq_all_not]
  rfl
theorem specIsEntries (l : List S49) (hl : l.length ≤ 1048576) : Ev (fun k => spec_IsEntries.f k l) (entriesOk l) := by
  unfold spec_IsEntries.f
  have h : ∀ (d i : Nat), i + d = l.length → Ev (fun k => spec_IsEntries.l0 k l (i : Int)) (decide (l.length ≤ 60) && (l.drop i).all goodE) := by
    intro d
    induction d with
    | zero =>
      intro i hd
      refine Ev.step (fun k => by rw [spec_IsEntries.l0]) (ifn (by omega) ?_)
      rw [List.drop_of_length_le (by omega)]
      have e : decide ((l.length : Int) ≤ 60) = decide (l.length ≤ 60) := decide_eq_decide.2 (by omega)
      rw [e, List.all_nil, Bool.and_true]
      exact Ev.now _
    | succ d ih =>
      intro i hd
      have ih' := ih (i + 1) (by omega)
      have e1 : wrap64 ((i : Int) + 1) = ((i + 1 : Nat) : Int) := by rw [wrap_id (by omega) (by omega)]; omega
      have hi : i < l.length := by omega
      refine Ev.step (fun k => by rw [spec_IsEntries.l0]) (ifp (by omega) (ifp (by omega) (evb (l01In _ _ _) ?_)))
      rw [e1, List.drop_eq_getElem_cons hi, List.all_cons, rdE_getD hi]
      have hg := goodE_iff l[i]
      by_cases h1 : 0 ≤ l[i].f0 ∧ l[i].f0 ≤ 4
      · refine ifp (by simpa using h1) (evb (l01In _ _ _) ?_)
        by_cases h2 : -100000 ≤ l[i].f1 ∧ l[i].f1 ≤ 100000
        · refine ifp (by simpa using h2) ?_
          by_cases h3 : l[i].f0 = 0
          · rw [hg.2 ⟨h1, h2, .inl h3⟩, Bool.true_and]
            exact ifp h3 ih'
          · refine ifn h3 ?_
            by_cases h4 : l[i].f1 = 0
            · rw [hg.2 ⟨h1, h2, .inr h4⟩, Bool.true_and]
              exact ifp h4 ih'
            · have : goodE l[i] = false := by
                rw [Bool.eq_false_iff]
                intro h
                rcases (hg.1 h).2.2 with h | h
                · exact h3 h
                · exact h4 h
              rw [this, Bool.false_and, Bool.and_false]
              exact ifn h4 (Ev.now _)
        · have : goodE l[i] = false := by
            rw [Bool.eq_false_iff]
            exact fun h => h2 (hg.1 h).2.1
          rw [this, Bool.false_and, Bool.and_false]
          exact ifn (by simpa using h2) (Ev.now _)
      · have : goodE l[i] = false := by
          rw [Bool.eq_false_iff]
          exact fun h => h1 (hg.1 h).1
        rw [this, Bool.false_and, Bool.and_false]
        exact ifn (by simpa using h1) (Ev.now _)
  exact h l.length 0 (by omega)

theorem FnExactIsEntries (l : List S58) (hl : l.length ≤ 9223372036854775807) (hw : ∀ x ∈ l, (Lit.int .i64 x.f0).wf = true ∧ (Lit.int .i64 x.f1).wf = true) : ∃ k, laws_FnExactIsEntries.f k l = some true := by
  refine Ev.rounds ?_
  unfold laws_FnExactIsEntries.f
  refine evb (szEntries l hl) ?_
  by_cases h : l.length ≤ 1048576
  · rw [if_pos h]
    have hm : (l.map conv).length ≤ 1048576 := by simpa using h
    refine ifn (by omega) ?_
    refine Ev.bind (toEntries l h) (Ev.bind (specIsEntries _ hm) (Ev.bind (toEntries l h) (evb (implIsEntries _) (ifn (by simp) ?_))))
    exact Ev.bind (toEntries l h) (Ev.bind (eqEntries _ hm) (ifp rfl (Ev.now _)))
  · rw [if_neg h]
    exact ifp (by omega) (Ev.now _)

end Go.Proofs.Ytppkbbgonpdnfaa.Pure
