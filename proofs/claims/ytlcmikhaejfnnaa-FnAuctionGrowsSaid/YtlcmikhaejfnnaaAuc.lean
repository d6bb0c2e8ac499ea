/- Auctions of contract bridge as lists of whole numbers, in plain Lean: the standing bid, passes at the end, what is legal, what is valid; a valid auction has at most 319 calls. Conditions: none. -/
import Derived.Test.YtlcmikhaejfnnaaKit
namespace Go.Proofs.Ytlcmikhaejfnnaa.Auc
open Go.Proofs.Ytlcmikhaejfnnaa.Kit Go.RowKit Go.Proofs.YtlcmikhaejfnnaaW.PrintWords

theorem snoc_ind {α : Type} {P : List α → Prop} (h0 : P []) (h1 : ∀ l c, P l → P (l ++ [c])) : ∀ l, P l := by
  intro l
  rw [← List.reverse_reverse l]
  induction l.reverse with
  | nil => exact h0
  | cons c r ih => rw [List.reverse_cons]; exact h1 _ _ ih

/-- One call more: the standing bid, its place, its state. -/
def bstep (i : Int) (s : Int × Int × Int) (c : Int) : Int × Int × Int :=
  if 3 ≤ c ∧ c ≤ 37 then (c, i, 0) else if c = 0 then s else (s.1, s.2.1, c)

def standFrom : Int → Int × Int × Int → List Int → Int × Int × Int
  | _, s, [] => s
  | i, s, c :: cs => standFrom (i + 1) (bstep i s c) cs
def stand (l : List Int) : Int × Int × Int := standFrom 0 (0, -1, 0) l

theorem standFrom_snoc (c : Int) : ∀ (l : List Int) (i : Int) (s : Int × Int × Int), standFrom i s (l ++ [c]) = bstep (i + l.length) (standFrom i s l) c
  | [], i, s => by simp [standFrom]
  | x :: l, i, s => by
    simp only [List.cons_append, standFrom, List.length_cons]
    rw [standFrom_snoc c l]
    congr 1
    omega
theorem stand_nil : stand [] = (0, -1, 0) := rfl
theorem stand_snoc (l : List Int) (c : Int) : stand (l ++ [c]) = bstep l.length (stand l) c := by
  unfold stand
  rw [standFrom_snoc]
  congr 1
  omega

/-- Passes at the end. -/
def tz (l : List Int) : Nat := (l.reverse.takeWhile (fun c => c == 0)).length
theorem tz_nil : tz [] = 0 := rfl
theorem tz_zero (l : List Int) : tz (l ++ [0]) = tz l + 1 := by simp [tz]
theorem tz_other (l : List Int) {c : Int} (h : c ≠ 0) : tz (l ++ [c]) = 0 := by simp [tz, h]
theorem tz_le (l : List Int) : tz l ≤ l.length := by
  unfold tz
  have := (List.takeWhile_sublist (l := l.reverse) (fun c : Int => c == 0)).length_le
  simpa using this

/-- The end of an auction, as the reference has it, and as the program has it. -/
def over (l : List Int) : Bool := decide (4 ≤ tz l ∨ (tz l = 3 ∧ 3 < l.length))
def ended (l : List Int) : Bool := decide ((tz l = l.length ∧ tz l = 4) ∨ (tz l < l.length ∧ tz l = 3))

def legal (l : List Int) (c : Int) : Bool :=
  if c = 0 then true
  else if c = 1 then decide (0 ≤ (stand l).2.1 ∧ (stand l).2.2 = 0 ∧ ((l.length : Int) - (stand l).2.1) % 2 ≠ 0)
  else if c = 2 then decide (0 ≤ (stand l).2.1 ∧ (stand l).2.2 = 1 ∧ ((l.length : Int) - (stand l).2.1) % 2 = 0)
  else decide (3 ≤ c ∧ c ≤ 37 ∧ (stand l).1 < c)

/-- Valid calls, from the last one back. -/
inductive Valid : List Int → Prop
  | nil : Valid []
  | snoc {l : List Int} {c : Int} (h : Valid l) (ho : over l = false) (hl : legal l c = true) : Valid (l ++ [c])

theorem valid_snoc {l : List Int} {c : Int} : Valid (l ++ [c]) ↔ Valid l ∧ over l = false ∧ legal l c = true := by
  constructor
  · intro h
    generalize e : l ++ [c] = m at h
    cases h with
    | nil => simp at e
    | snoc h ho hl =>
      obtain ⟨rfl, e2⟩ := List.append_inj' e rfl
      obtain rfl : c = _ := by simpa using e2
      exact ⟨h, ho, hl⟩
  · rintro ⟨h, ho, hl⟩
    exact .snoc h ho hl

theorem valid_take {l : List Int} (h : Valid l) : ∀ i, Valid (l.take i) := by
  induction h with
  | nil => intro i; simp; exact .nil
  | @snoc l c h ho hl ih =>
    intro i
    by_cases hi : i ≤ l.length
    · rw [List.take_append_of_le_length hi]; exact ih i
    · rw [List.take_of_length_le (by simp; omega)]; exact .snoc h ho hl

theorem legal_range {l : List Int} {c : Int} (h : legal l c = true) : 0 ≤ c ∧ c ≤ 37 := by
  unfold legal at h
  split at h
  · omega
  · split at h
    · omega
    · split at h
      · omega
      · simp at h; omega

/-- What is known of valid calls. -/
structure Known (l : List Int) : Prop where
  calls : ∀ c ∈ l, 0 ≤ c ∧ c ≤ 37
  none_ : (stand l).2.1 < 0 → (stand l).2.1 = -1 ∧ (stand l).1 = 0 ∧ (stand l).2.2 = 0 ∧ l.length = tz l ∧ tz l ≤ 4
  some_ : 0 ≤ (stand l).2.1 → 3 ≤ (stand l).1 ∧ (stand l).1 ≤ 37 ∧ (stand l).2.1 < l.length ∧ 0 ≤ (stand l).2.2 ∧ (stand l).2.2 ≤ 2 ∧ tz l ≤ 3 ∧ tz l < l.length ∧ (l.length : Int) ≤ 3 + 9 * ((stand l).1 - 3) + 1 + 3 * (stand l).2.2 + tz l

theorem known {l : List Int} (h : Valid l) : Known l := by
  induction h with
  | nil => exact ⟨by simp, fun _ => by simp [stand_nil, tz_nil], fun h => by simp [stand_nil] at h⟩
  | @snoc l c h ho hl ih =>
    have hr := legal_range hl
    have ho' : ¬ (4 ≤ tz l ∨ (tz l = 3 ∧ 3 < l.length)) := by simpa [over] using ho
    have hle := tz_le l
    have hc : ∀ x ∈ l ++ [c], 0 ≤ x ∧ x ≤ 37 := by
      intro x hx
      rcases List.mem_append.1 hx with hx | hx
      · exact ih.calls x hx
      · obtain rfl : x = c := by simpa using hx
        exact hr
    have hn := ih.none_
    have hs := ih.some_
    have hlen : (l ++ [c]).length = l.length + 1 := by simp
    by_cases h0 : c = 0
    · subst h0
      have e : stand (l ++ [0]) = stand l := by rw [stand_snoc]; simp [bstep]
      refine ⟨hc, ?_, ?_⟩
      · rw [e, tz_zero]; intro hneg
        obtain ⟨a1, a2, a3, a4, a5⟩ := hn hneg
        refine ⟨a1, a2, a3, by omega, by omega⟩
      · rw [e, tz_zero]; intro hpos
        obtain ⟨a1, a2, a3, a4, a5, a6, a8, a7⟩ := hs hpos
        refine ⟨a1, a2, by omega, a4, a5, by omega, by omega, by omega⟩
    · have htz : tz (l ++ [c]) = 0 := tz_other l h0
      by_cases hb : 3 ≤ c ∧ c ≤ 37
      · have e : stand (l ++ [c]) = (c, (l.length : Int), 0) := by rw [stand_snoc]; simp [bstep, hb]
        have hlt : (stand l).1 < c := by
          unfold legal at hl
          rw [if_neg h0, if_neg (by omega), if_neg (by omega)] at hl
          simp at hl; omega
        refine ⟨hc, ?_, ?_⟩
        · rw [e, htz]; intro hneg; simp only at hneg; omega
        · rw [e, htz]; intro _
          simp only
          refine ⟨hb.1, hb.2, by omega, by omega, by omega, by omega, by omega, ?_⟩
          by_cases hat : 0 ≤ (stand l).2.1
          · obtain ⟨a1, a2, a3, a4, a5, a6, a8, a7⟩ := hs hat
            omega
          · obtain ⟨a1, a2, a3, a4, a5⟩ := hn (by omega)
            omega
      · have e : stand (l ++ [c]) = ((stand l).1, (stand l).2.1, c) := by rw [stand_snoc]; simp [bstep, hb, h0]
        have h12 : c = 1 ∨ c = 2 := by omega
        have hat : 0 ≤ (stand l).2.1 ∧ (stand l).2.2 = c - 1 := by
          unfold legal at hl
          rw [if_neg h0] at hl
          rcases h12 with rfl | rfl
          · simp at hl; omega
          · simp at hl; omega
        obtain ⟨a1, a2, a3, a4, a5, a6, a8, a7⟩ := hs hat.1
        refine ⟨hc, ?_, ?_⟩
        · rw [e, htz]; intro hneg; simp only at hneg; omega
        · rw [e, htz]; intro _
          simp only
          refine ⟨a1, a2, by omega, by omega, by omega, by omega, by omega, by omega⟩

theorem valid_length {l : List Int} (h : Valid l) : l.length ≤ 319 := by
  have k := known h
  by_cases hat : 0 ≤ (stand l).2.1
  · obtain ⟨a1, a2, a3, a4, a5, a6, a8, a7⟩ := k.some_ hat
    omega
  · obtain ⟨a1, a2, a3, a4, a5⟩ := k.none_ (by omega)
    omega

/-- The standing bid's place: below the length; -1 (and no bid) where there is none. -/
theorem stand_at (l : List Int) : -1 ≤ (stand l).2.1 ∧ (0 ≤ (stand l).2.1 → 3 ≤ (stand l).1 ∧ (stand l).2.1 < l.length) ∧ ((stand l).2.1 < 0 → (stand l).2.1 = -1 ∧ (stand l).1 = 0) := by
  refine snoc_ind (P := fun l => -1 ≤ (stand l).2.1 ∧ (0 ≤ (stand l).2.1 → 3 ≤ (stand l).1 ∧ (stand l).2.1 < l.length) ∧ ((stand l).2.1 < 0 → (stand l).2.1 = -1 ∧ (stand l).1 = 0)) ?_ ?_ l
  · simp [stand_nil]
  · intro l c h
    rw [stand_snoc]
    unfold bstep
    split
    · simp; omega
    · split
      · simp; omega
      · simp; omega

/-- The standing bid stands at its place. -/
theorem stand_rd (l : List Int) : 0 ≤ (stand l).2.1 → rd l (stand l).2.1 = (stand l).1 ∧ 3 ≤ (stand l).1 ∧ (stand l).1 ≤ 37 := by
  refine snoc_ind (P := fun l => 0 ≤ (stand l).2.1 → rd l (stand l).2.1 = (stand l).1 ∧ 3 ≤ (stand l).1 ∧ (stand l).1 ≤ 37) ?_ ?_ l
  · simp [stand_nil]
  · intro l c ih
    have hat := stand_at l
    rw [stand_snoc]
    unfold bstep
    split
    · intro _
      simp only
      exact ⟨rd_last l c, by omega⟩
    · split
      · intro h
        rw [rd_left l [c] h (hat.2.1 h).2]
        exact ih h
      · intro h
        simp only at h ⊢
        rw [rd_left l [c] h (hat.2.1 h).2]
        exact ih h

/-- The level and the strain of a call. -/
def level (c : Int) : Int := if 3 ≤ c ∧ c ≤ 37 then (c - 3) / 5 + 1 else 0
def strain (c : Int) : Int := if 3 ≤ c ∧ c ≤ 37 then (c - 3) % 5 else -1
/-- The first call of the side that made the standing bid that has its strain. -/
def PlayerAt (l : List Int) (at_ s i : Int) : Prop := (at_ - i) % 2 = 0 ∧ strain (rd l i) = s
def FirstAt (l : List Int) (at_ s f : Int) : Prop := 0 ≤ f ∧ f ≤ at_ ∧ PlayerAt l at_ s f ∧ ∀ j, 0 ≤ j → j < f → ¬ PlayerAt l at_ s j
theorem firstAt_unique {l : List Int} {at_ s f g : Int} (hf : FirstAt l at_ s f) (hg : FirstAt l at_ s g) : f = g := by
  obtain ⟨a0, a1, a2, a3⟩ := hf
  obtain ⟨b0, b1, b2, b3⟩ := hg
  rcases Int.lt_trichotomy f g with h | h | h
  · exact absurd a2 (b3 f a0 h)
  · exact h
  · exact absurd b2 (a3 g b0 h)

open Classical in
/-- Are calls valid? -/
noncomputable def validB (l : List Int) : Bool := decide (Valid l)
theorem validB_iff (l : List Int) : validB l = true ↔ Valid l := by simp [validB]

/-- On valid calls both ends are one. -/
theorem ended_over {l : List Int} (h : Valid l) : ended l = over l := by
  have k := known h
  have hle := tz_le l
  unfold ended over
  by_cases hat : 0 ≤ (stand l).2.1
  · obtain ⟨a1, a2, a3, a4, a5, a6, a8, a7⟩ := k.some_ hat
    congr 1
    apply propext
    omega
  · obtain ⟨a1, a2, a3, a4, a5⟩ := k.none_ (by omega)
    congr 1
    apply propext
    omega
end Go.Proofs.Ytlcmikhaejfnnaa.Auc
