/- IsEntries by a walk of its own text, of slices.ContainsFunc and slices.IndexFunc: at most 60 entries, each of a kind and a score. Conditions: the slice's cells read as two numbers an entry. -/
import Derived.Test.YtppkbbgonpdnfaaWMore
import Derived.Test.YtppkbbgonpdnfaaProg
import Derived.Below
import Derived.WalkKit
import Derived.KernelRfl
import Derived.Deep.LoopGhost
import Derived.Deep.QuietTactic
import Derived.BigQuiet
import Derived.WideLaws
import Derived.RowKit3
import Derived.Laws.Rows
import Derived.Shelf.Abstract
namespace Go.Proofs.Ytppkbbgonpdnfaa.HEntries
open Go.RowKit Go.Proofs.YtppkbbgonpdnfaaW.PrintWords Go.Proofs.YtppkbbgonpdnfaaW.PrintLast Go.Proofs.YtppkbbgonpdnfaaW.PrintMore
set_option linter.unusedVariables false
set_option linter.unusedSimpArgs false

theorem within_any (n lo hi : Int) (w : World) : Calls Try.prog 45 #[.int .i64 n, .int .i64 lo, .int .i64 hi] w fun e w' => e = .returned (.bool (decide (lo ≤ n) && decide (n ≤ hi))) ∧ w' = w := by
  by_cases h : lo ≤ n
  · have h1 : decide (lo ≤ n) = true := decide_eq_true h
    go_enter Try.func45, Try.ntmps45
    go_wp2
    go_ret
    exact ⟨by simp [h1], rfl⟩
  · have h1 : decide (lo ≤ n) = false := decide_eq_false h
    go_enter Try.func45, Try.ntmps45
    go_wp2
    go_ret
    exact ⟨by simp [h1], rfl⟩
def okScore (n : Int) : Bool := decide (-100000 ≤ n) && decide (n ≤ 100000)
theorem isScore_any (n : Int) (w : World) : Calls Try.prog 46 #[.int .i64 n] w fun e w' => e = .returned (.bool (okScore n)) ∧ w' = w := by
  go_enter Try.func46, Try.ntmps46
  go_wp2_with (go_at_call 45; refine (within_any _ _ _ _).mono ?_; rintro e w' ⟨rfl, rfl⟩)
  go_ret
  exact ⟨rfl, rfl⟩
def okKind (n : Int) : Bool := decide (0 ≤ n) && decide (n ≤ 4)
theorem isKind_any (n : Int) (w : World) : Calls Try.prog 45 #[.int .i64 n, .int .i64 0, .int .i64 4] w fun e w' => e = .returned (.bool (okKind n)) ∧ w' = w := within_any n 0 4 w
/-- What the closure says of an entry. -/
def badEntry (x : Int × Int) : Bool := !okKind x.1 || (!okScore x.2 || (x.1 != 0 && x.2 != 0))

theorem ne_tok {x : Int} (h : x ≠ 0) : (x != 0) = true := by simpa using h
set_option maxHeartbeats 1000000 in
theorem badEntry_any (x : Int × Int) (w : World) : Calls Try.prog 44 #[.agg #[.int .i64 x.1, .int .i64 x.2]] w fun e w' => e = .returned (.bool (badEntry x)) ∧ Below w.heap.size w w' := by
  obtain ⟨k, s⟩ := x
  have hu := Try.underlying49
  have hk := fun W => isKind_any k W
  have hs := fun W => isScore_any s W
  cases h1 : okKind k with
  | false =>
    have e1 : badEntry (k, s) = true := by simp [badEntry, h1]
    rw [e1]
    rw [h1] at hk
    clear h1 e1 hs
    go_enter Try.func44, Try.ntmps44
    go_wp2_with (go_at_call 45; refine (hk _).mono ?_; rintro e w' ⟨rfl, rfl⟩)
    go_ret
    exact ⟨rfl, (Below.refl _ _).alloc (Nat.le_refl _) _⟩
  | true =>
    rw [h1] at hk
    cases h2 : okScore s with
    | false =>
      have e1 : badEntry (k, s) = true := by simp [badEntry, h1, h2]
      rw [e1]
      rw [h2] at hs
      clear h1 h2 e1
      go_enter Try.func44, Try.ntmps44
      go_wp2_with (first | (go_at_call 45; refine (hk _).mono ?_; rintro e w' ⟨rfl, rfl⟩) | (go_at_call 46; refine (hs _).mono ?_; rintro e w' ⟨rfl, rfl⟩))
      go_ret
      exact ⟨rfl, (Below.refl _ _).alloc (Nat.le_refl _) _⟩
    | true =>
      rw [h2] at hs
      have e0 : badEntry (k, s) = (k != 0 && s != 0) := by simp [badEntry, h1, h2]
      rw [e0]
      clear h1 h2 e0
      by_cases h3 : k = 0
      · subst h3
        go_enter Try.func44, Try.ntmps44
        go_wp2_with (first | (go_at_call 45; refine (hk _).mono ?_; rintro e w' ⟨rfl, rfl⟩) | (go_at_call 46; refine (hs _).mono ?_; rintro e w' ⟨rfl, rfl⟩))
        go_ret
        exact ⟨rfl, (Below.refl _ _).alloc (Nat.le_refl _) _⟩
      · have h3' := ne_tok h3
        clear h3
        go_enter Try.func44, Try.ntmps44
        go_wp2_with (first | (go_at_call 45; refine (hk _).mono ?_; rintro e w' ⟨rfl, rfl⟩) | (go_at_call 46; refine (hs _).mono ?_; rintro e w' ⟨rfl, rfl⟩))
        go_ret
        exact ⟨by simp [h3'], (Below.refl _ _).alloc (Nat.le_refl _) _⟩
/-- The first place at which p holds, from i on. -/
def idx (p : Int × Int → Bool) : Int → List (Int × Int) → Int
  | _, [] => -1
  | i, x :: xs => if p x = true then i else idx p (i + 1) xs
theorem idx_nonneg (p : Int × Int → Bool) : ∀ (xs : List (Int × Int)) (i : Int), 0 ≤ i → decide (idx p i xs ≥ 0) = xs.any p
  | [], i, h => by simp [idx]
  | x :: xs, i, h => by
    unfold idx
    by_cases hp : p x = true
    · rw [if_pos hp]; simp [hp, h]
    · rw [if_neg hp, idx_nonneg p xs (i + 1) (by omega)]; simp [hp]
/-- The cells of a slice of entries. -/
def Cells (w : World) (A : Option Addr) (xs : List (Int × Int)) : Prop :=
  ∀ i, i < xs.length → ∃ ad, A = some ad ∧ w.cell? (ad.add (i * 2)) = some (.int .i64 (xs.getD i (0, 0)).1) ∧ w.cell? ⟨(ad.add (i * 2)).block, (ad.add (i * 2)).off + 1, none⟩ = some (.int .i64 (xs.getD i (0, 0)).2)
theorem Cells.below {w W : World} {A : Option Addr} {xs : List (Int × Int)} (h : Cells w A xs) (hb : Below w.heap.size w W) : Cells W A xs := by
  intro i hi
  obtain ⟨ad, e, h1, h2⟩ := h i hi
  exact ⟨ad, e, pw_cell_below hb h1, pw_cell_below hb h2⟩
set_option maxHeartbeats 2000000 in
theorem indexFunc (A : Option Addr) (c : Nat) (xs : List (Int × Int)) (w : World) (hbig : xs.length ≤ 9223372036854775807) (hr : Cells w A xs) :
    Calls Try.prog 62 #[.slice A xs.length c, .func (.func 44) #[] #[]] w fun e w' => e = .returned (.int .i64 (idx badEntry 0 xs)) ∧ Below w.heap.size w w' := by
  have hu := Try.underlying49
  have HG := Aside0.mk hr
  clear hr
  go_enter Try.func62, Try.ntmps62
  go_wp2
  go_loopg [5, 8] xs.length (fun gg _ s8 wr => ∃ kk : Nat, kk ≤ xs.length ∧ xs.length - kk ≤ gg ∧ s8 = .int .i64 kk ∧ Aside0 (idx badEntry 0 xs = idx badEntry kk (xs.drop kk)) ∧ Aside0 (Below w.heap.size w wr))
  case atStart => exact ⟨0, Nat.zero_le _, by omega, rfl, ⟨rfl⟩, ⟨Below.refl _ _⟩⟩
  case round =>
    obtain ⟨kk, hkk, hg, rfl, B, BW⟩ := hrel
    by_cases hlt : kk < xs.length
    · have hltz : (kk : Int) < (xs.length : Int) := by omega
      obtain ⟨ad, e, hc1, hc2⟩ := (HG.out.below BW.out) kk hlt
      subst e
      have hcall := badEntry_any (xs.getD kk (0, 0)) wr
      have B2 : idx badEntry kk (xs.drop kk) = if badEntry (xs.getD kk (0, 0)) = true then (kk : Int) else idx badEntry ((kk + 1 : Nat) : Int) (xs.drop (kk + 1)) := by
        rw [List.drop_eq_getElem_cons hlt]
        simp [idx, List.getD_eq_getElem?_getD, hlt]
      have B3 := Aside0.mk (B.out.trans B2)
      clear B2
      generalize hy : xs.getD kk (0, 0) = y at hc1 hc2 hcall B3
      have HY := Aside0.mk hy
      clear hy
      cases hq : badEntry y with
      | true =>
        rw [hq] at hcall
        go_wp2_with (go_at_call 44; refine hcall.mono ?_; rintro e w' ⟨rfl, hb'⟩)
        go_ret
        exact ⟨by rw [B3.out, if_pos hq]; rfl, BW.out.trans (hb'.mono BW.out.size)⟩
      | false =>
        rw [hq] at hcall
        go_wp2_with (go_at_call 44; refine hcall.mono ?_; rintro e w' ⟨rfl, hb'⟩)
        go_roundg (xs.length - (kk + 1))
        case measure => omega
        case rel => exact ⟨kk + 1, by omega, by omega, by go_num, ⟨by rw [B3.out, if_neg (by simp [hq])]⟩, ⟨BW.out.trans (hb'.mono BW.out.size)⟩⟩
    · have hltz : ¬ (kk : Int) < (xs.length : Int) := by omega
      have hk : kk = xs.length := by omega
      have B3 : Aside0 (idx badEntry 0 xs = -1) := ⟨by rw [B.out, hk, List.drop_length]; rfl⟩
      clear B
      subst hk
      go_wp2
      go_ret
      exact ⟨by rw [B3.out]; rfl, BW.out⟩
set_option maxHeartbeats 400000 in
theorem containsFunc (A : Option Addr) (c : Nat) (xs : List (Int × Int)) (w : World) (hbig : xs.length ≤ 9223372036854775807) (hr : Cells w A xs) :
    Calls Try.prog 43 #[.slice A xs.length c, .func (.func 44) #[] #[]] w fun e w' => e = .returned (.bool (xs.any badEntry)) ∧ Below w.heap.size w w' := by
  rw [← idx_nonneg badEntry xs 0 (by omega)]
  go_enter Try.func43, Try.ntmps43
  go_wp2_with (go_at_call 62; refine (indexFunc A c xs _ hbig hr).mono ?_; rintro e w' ⟨rfl, hb⟩)
  go_ret
  exact ⟨rfl, hb⟩
set_option maxHeartbeats 400000 in
theorem isEntries_any (A : Option Addr) (c : Nat) (xs : List (Int × Int)) (w : World) (hbig : xs.length ≤ 9223372036854775807) (hr : Cells w A xs) :
    Calls Try.prog 14 #[.slice A xs.length c] w fun e w' => e = .returned (.bool (decide (xs.length ≤ 60) && !xs.any badEntry)) ∧ Below w.heap.size w w' := by
  by_cases h : xs.length ≤ 60
  · have h1 : decide (xs.length ≤ 60) = true := decide_eq_true h
    have h2 : decide ((xs.length : Int) ≤ 60) = true := decide_eq_true (by omega)
    rw [h1]
    go_enter Try.func14, Try.ntmps14
    go_wp2_with (go_at_call 43; refine (containsFunc A c xs _ hbig hr).mono ?_; rintro e w' ⟨rfl, hb⟩)
    go_ret
    exact ⟨by simp, hb⟩
  · have h1 : decide (xs.length ≤ 60) = false := decide_eq_false h
    have h2 : decide ((xs.length : Int) ≤ 60) = false := decide_eq_false (by omega)
    rw [h1]
    go_enter Try.func14, Try.ntmps14
    go_wp2
    go_ret
    exact ⟨by simp, Below.refl _ _⟩
end Go.Proofs.Ytppkbbgonpdnfaa.HEntries
