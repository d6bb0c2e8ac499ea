/- areScores by a walk of its own text, of slices.ContainsFunc and slices.IndexFunc: at most 60 numbers, each within 100000. Conditions: the slice reads as a list. -/
import Derived.Test.YtppkbbgonpdnfaaWMore
import Derived.Test.YtppkbbgonpdnfaaProg
import Derived.Below
import Derived.WalkKit
import Derived.KernelRfl
import Derived.Deep.LoopGhost
import Derived.Deep.QuietTactic
import Derived.BigQuiet
import Derived.WideLaws
import Derived.RowKit3
import Derived.Shelf.Abstract
namespace Go.Proofs.Ytppkbbgonpdnfaa.HScores
open Go.RowKit Go.Proofs.YtppkbbgonpdnfaaW.PrintWords Go.Proofs.YtppkbbgonpdnfaaW.PrintLast Go.Proofs.YtppkbbgonpdnfaaW.PrintMore
set_option linter.unusedVariables false
set_option linter.unusedSimpArgs false

set_option maxHeartbeats 400000 in
theorem within_any (n lo hi : Int) (w : World) : Calls Try.prog 45 #[.int .i64 n, .int .i64 lo, .int .i64 hi] w fun e w' => e = .returned (.bool (decide (lo ≤ n) && decide (n ≤ hi))) ∧ w' = w := by
  by_cases h : lo ≤ n
  · have h1 : decide (lo ≤ n) = true := decide_eq_true h
    go_enter Try.func45, Try.ntmps45
    go_wp2
    go_ret
    exact ⟨by simp [h1], rfl⟩
  · have h1 : decide (lo ≤ n) = false := decide_eq_false h
    go_enter Try.func45, Try.ntmps45
    go_wp2
    go_ret
    exact ⟨by simp [h1], rfl⟩

def okScore (n : Int) : Bool := decide (-100000 ≤ n) && decide (n ≤ 100000)
theorem isScore_any (n : Int) (w : World) : Calls Try.prog 46 #[.int .i64 n] w fun e w' => e = .returned (.bool (okScore n)) ∧ w' = w := by
  go_enter Try.func46, Try.ntmps46
  go_wp2_with (go_at_call 45; refine (within_any _ _ _ _).mono ?_; rintro e w' ⟨rfl, rfl⟩)
  go_ret
  exact ⟨rfl, rfl⟩
theorem notScore_any (n : Int) (w : World) : Calls Try.prog 64 #[.int .i64 n] w fun e w' => e = .returned (.bool (!okScore n)) ∧ w' = w := by
  go_enter Try.func64, Try.ntmps64
  go_wp2_with (go_at_call 46; refine (isScore_any _ _).mono ?_; rintro e w' ⟨rfl, rfl⟩)
  go_ret
  exact ⟨rfl, rfl⟩

/-- The first place at which p holds, from i on. -/
def idx (p : Int → Bool) : Int → List Int → Int
  | _, [] => -1
  | i, x :: xs => if p x = true then i else idx p (i + 1) xs
theorem idx_nonneg (p : Int → Bool) : ∀ (xs : List Int) (i : Int), 0 ≤ i → decide (idx p i xs ≥ 0) = xs.any p
  | [], i, h => by simp [idx]
  | x :: xs, i, h => by
    unfold idx
    by_cases hp : p x = true
    · rw [if_pos hp]; simp [hp, h]
    · rw [if_neg hp, idx_nonneg p xs (i + 1) (by omega)]; simp [hp]
set_option maxHeartbeats 2000000 in
theorem indexFunc (p : Int → Bool) (hp : ∀ (x : Int) (W : World), Calls Try.prog 64 #[.int .i64 x] W fun e w' => e = .returned (.bool (p x)) ∧ w' = W)
    (A : Option Addr) (c : Nat) (xs : List Int) (w : World) (hr : Kd.C (Kd.int .i64) w A xs.length xs) :
    Calls Try.prog 67 #[.slice A xs.length c, .func (.func 64) #[] #[]] w fun e w' => e = .returned (.int .i64 (idx p 0 xs)) ∧ w' = w := by
  obtain ⟨h1, hbig, hcells⟩ := hr
  have hget : ∀ i, i < xs.length → ∃ ad, A = some ad ∧ w.cell? (ad.add i) = some (.int .i64 (xs.getD i 0)) := by
    intro i hi
    obtain ⟨ad, e, hc⟩ := hcells (by omega)
    obtain ⟨c', hl, hk, hcell⟩ := hc i _ (List.getElem?_eq_getElem hi)
    refine ⟨ad, e, ?_⟩
    have := hcell 0 (.int .i64 (xs.getD i 0)) (by rw [show c' = [.int .i64 xs[i]] from hk]; simp [List.getD_eq_getElem?_getD, hi])
    simpa [Kd.int, Kd.scalar] using this
  clear hcells
  have HG := Aside0.mk hget
  clear hget h1
  go_enter Try.func67, Try.ntmps67
  go_wp2
  go_loopg [5, 8] xs.length (fun gg _ s8 wr => ∃ kk : Nat, kk ≤ xs.length ∧ xs.length - kk ≤ gg ∧ s8 = .int .i64 kk ∧ Aside0 (idx p 0 xs = idx p kk (xs.drop kk)) ∧ wr = w)
  case atStart => exact ⟨0, Nat.zero_le _, by omega, rfl, ⟨rfl⟩, rfl⟩
  case round =>
    obtain ⟨kk, hkk, hg, rfl, B, rfl⟩ := hrel
    by_cases hlt : kk < xs.length
    · have hltz : (kk : Int) < (xs.length : Int) := by omega
      obtain ⟨ad, e, hcell⟩ := HG.out kk hlt
      subst e
      have hcall := hp (xs.getD kk 0) wr
      have B2 : idx p kk (xs.drop kk) = if p (xs.getD kk 0) = true then (kk : Int) else idx p ((kk + 1 : Nat) : Int) (xs.drop (kk + 1)) := by
        rw [List.drop_eq_getElem_cons hlt]
        simp [idx, List.getD_eq_getElem?_getD, hlt]
      have B3 := Aside0.mk (B.out.trans B2)
      clear B2 hp
      generalize hy : xs.getD kk 0 = y at hcell hcall B3
      cases hq : p y with
      | true =>
        rw [hq] at hcall
        go_wp2_with (go_at_call 64; refine hcall.mono ?_; rintro e w' ⟨rfl, rfl⟩)
        go_ret
        exact ⟨by rw [B3.out, if_pos hq]; rfl, rfl⟩
      | false =>
        rw [hq] at hcall
        go_wp2_with (go_at_call 64; refine hcall.mono ?_; rintro e w' ⟨rfl, rfl⟩)
        go_roundg (xs.length - (kk + 1))
        case measure => omega
        case rel => exact ⟨kk + 1, by omega, by omega, by go_num, ⟨by rw [B3.out, if_neg (by simp [hq])]⟩, rfl⟩
    · have hltz : ¬ (kk : Int) < (xs.length : Int) := by omega
      have hk : kk = xs.length := by omega
      have B3 : Aside0 (idx p 0 xs = -1) := ⟨by rw [B.out, hk, List.drop_length]; rfl⟩
      clear B
      subst hk
      go_wp2
      go_ret
      exact ⟨by rw [B3.out]; rfl, rfl⟩
set_option maxHeartbeats 400000 in
theorem containsFunc (p : Int → Bool) (hp : ∀ (x : Int) (W : World), Calls Try.prog 64 #[.int .i64 x] W fun e w' => e = .returned (.bool (p x)) ∧ w' = W)
    (A : Option Addr) (c : Nat) (xs : List Int) (w : World) (hr : Kd.C (Kd.int .i64) w A xs.length xs) :
    Calls Try.prog 63 #[.slice A xs.length c, .func (.func 64) #[] #[]] w fun e w' => e = .returned (.bool (xs.any p)) ∧ w' = w := by
  rw [← idx_nonneg p xs 0 (by omega)]
  go_enter Try.func63, Try.ntmps63
  go_wp2_with (go_at_call 67; refine (indexFunc p hp A c xs _ hr).mono ?_; rintro e w' ⟨rfl, rfl⟩)
  go_ret
  exact ⟨rfl, rfl⟩
set_option maxHeartbeats 400000 in
theorem areScores_any (A : Option Addr) (c : Nat) (xs : List Int) (w : World) (hr : Kd.C (Kd.int .i64) w A xs.length xs) :
    Calls Try.prog 49 #[.slice A xs.length c] w fun e w' => e = .returned (.bool (decide (xs.length ≤ 60) && xs.all okScore)) ∧ Drawn0 w w' := by
  have hall : xs.all okScore = !(xs.any fun n => !okScore n) := by simp [List.all_eq_not_any_not]
  rw [hall]
  clear hall
  by_cases h : xs.length ≤ 60
  · have h1 : decide (xs.length ≤ 60) = true := decide_eq_true h
    have h2 : decide ((xs.length : Int) ≤ 60) = true := decide_eq_true (by omega)
    rw [h1]
    go_enter Try.func49, Try.ntmps49
    go_wp2_with (go_at_call 63; refine (containsFunc (fun n => !okScore n) notScore_any A c xs _ hr).mono ?_; rintro e w' ⟨rfl, rfl⟩)
    go_ret
    exact ⟨by simp, Drawn0.refl _⟩
  · have h1 : decide (xs.length ≤ 60) = false := decide_eq_false h
    have h2 : decide ((xs.length : Int) ≤ 60) = false := decide_eq_false (by omega)
    rw [h1]
    go_enter Try.func49, Try.ntmps49
    go_wp2
    go_ret
    exact ⟨by simp, Drawn0.refl _⟩
end Go.Proofs.Ytppkbbgonpdnfaa.HScores
