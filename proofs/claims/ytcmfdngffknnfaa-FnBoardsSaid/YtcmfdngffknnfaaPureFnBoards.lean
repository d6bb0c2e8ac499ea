/- Among sixteen boards in sequence every pair of a dealer and a vulnerability occurs once, whatever bytes the first board is drawn from. Conditions: a list of bytes. -/
import Derived.Test.YtcmfdngffknnfaaPFnBoardsx1
import Derived.Test.YtcmfdngffknnfaaKit
namespace Go.Proofs.Ytcmfdngffknnfaa.Pure
open Go.RowKit Go.Proofs.Ytcmfdngffknnfaa.PFnBoards Go.Proofs.YtcmfdngffknnfaaW.PrintWords Go.Proofs.YtcmfdngffknnfaaW.PrintLast Go.Proofs.YtcmfdngffknnfaaW.PrintMore Go.Proofs.Ytcmfdngffknnfaa.Kit
set_option linter.unusedVariables false
set_option linter.unusedSimpArgs false

theorem bits_u64 (op : BinOp) (x y : Int) : 0 ≤ Go.bits op .u64 x y := by
  unfold Go.bits
  rw [IntKind.wrap_u64]
  omega
theorem pick_l0 (xs : List Int) (hl : xs.length ≤ 140737488351232) (n : Int) (h0 : 0 < n) (h1 : n ≤ 4611686018427387904) : ∀ (d : Nat) (i h : Int), 0 ≤ h → 0 ≤ i → i + d = xs.length → ∃ r, Ev (fun k => laws_w5Pick.l0 k xs n h i) r ∧ 0 ≤ r ∧ r < n := by
  intro d
  induction d with
  | zero =>
    intro i h hh hi hd
    have hx : 0 ≤ Int.tmod (wrap64 (Int.tmod (Go.bits .xor .u64 h (h / 536870912)) 1000003)) n ∧ Int.tmod (wrap64 (Int.tmod (Go.bits .xor .u64 h (h / 536870912)) 1000003)) n < n := by
      have b0 := bits_u64 .xor h (h / 536870912)
      have b1 := Int.tmod_nonneg 1000003 b0
      have b2 := Int.tmod_lt_of_pos (Go.bits .xor .u64 h (h / 536870912)) (b := 1000003) (by omega)
      rw [wrap_id (by omega) (by omega)]
      exact ⟨Int.tmod_nonneg _ b1, Int.tmod_lt_of_pos _ h0⟩
    refine ⟨_, ?_, hx.1, hx.2⟩
    refine Ev.step (fun k => by rw [laws_w5Pick.l0]) ?_
    exact ifn (by omega) (ifn (by omega) (Ev.now _))
  | succ d ih =>
    intro i h hh hi hd
    have e : wrap64 (i + 1) = i + 1 := wrap_id (by omega) (by omega)
    obtain ⟨r, hr, r0, r1⟩ := ih (i + 1) (IntKind.u64.wrap ((Go.bits .xor .u64 h (IntKind.u64.wrap (rd xs i))) * 1099511628211)) (by rw [IntKind.wrap_u64]; omega) (by omega) (by omega)
    refine ⟨r, ?_, r0, r1⟩
    refine Ev.step (fun k => by rw [laws_w5Pick.l0]) ?_
    refine ifp (by omega) (ifp (by omega) ?_)
    rw [e]
    exact hr
theorem w5Pick (xs : List Int) (hl : xs.length ≤ 140737488351232) (k n : Int) (h0 : 0 < n) (h1 : n ≤ 4611686018427387904) : ∃ r, Ev (fun q => laws_w5Pick.f q xs k n) r ∧ 0 ≤ r ∧ r < n :=
  pick_l0 xs hl n h0 h1 xs.length 0 _ (by rw [IntKind.wrap_u64]; omega) (by omega) (by omega)

theorem within (a b c : Int) : impl_within.f a b c = some (decide (b ≤ a ∧ a ≤ c)) := by
  unfold impl_within.f
  by_cases h : b ≤ a <;> simp [h]

def vulOf (r : Nat) : Int := rd [0, 1, 2, 3, 1, 2, 3, 0, 2, 3, 0, 1, 3, 0, 1, 2] r
def cellOf (r : Nat) : Int := 4 * ((r % 4 : Nat) : Int) + vulOf r
def bump (xs : List Int) (j : Int) : List Int := xs.set j.toNat (wrap64 (rd xs j + 1))
def run : Nat → Nat → List Int → List Int
  | _, 0, xs => xs
  | s, n + 1, xs => run (s + 1) n (bump xs (cellOf (s % 16)))
theorem run_mod : ∀ (n s t : Nat) (xs : List Int), s % 16 = t % 16 → run s n xs = run t n xs
  | 0, _, _, _, _ => rfl
  | n + 1, s, t, xs, h => by
    simp only [run]
    rw [h]
    exact run_mod n _ _ _ (by omega)
theorem run_all : ∀ s : Fin 16, run s.val 16 (List.replicate 16 0) = List.replicate 16 1 := by decide +kernel
theorem vul_range : ∀ r : Fin 16, 0 ≤ vulOf r.val ∧ vulOf r.val ≤ 3 := by decide +kernel
theorem dealer (b : Int) (h0 : 1 ≤ b) (h1 : b ≤ 1000) : impl_BoardDealer.f b = some (((b - 1).toNat % 4 : Nat) : Int) := by
  have e : wrap64 (b - 1) = b - 1 := wrap_id (by omega) (by omega)
  have e2 : Int.tmod (b - 1) 4 = (((b - 1).toNat % 4 : Nat) : Int) := by rw [Int.tmod_eq_emod_of_nonneg (by omega)]; omega
  simp [impl_BoardDealer.f, impl_isBoard.f, within, h0, h1, e, e2]
theorem vulnerable (b : Int) (h0 : 1 ≤ b) (h1 : b ≤ 1000) : impl_BoardVulnerability.f b = some (vulOf ((b - 1).toNat % 16)) := by
  have e : wrap64 (b - 1) = b - 1 := wrap_id (by omega) (by omega)
  have e2 : Int.tmod (b - 1) 16 = (((b - 1).toNat % 16 : Nat) : Int) := by rw [Int.tmod_eq_emod_of_nonneg (by omega)]; omega
  have e3 : (((b - 1).toNat % 16 : Nat) : Int) < 16 := by omega
  unfold impl_BoardVulnerability.f impl_isBoard.f
  rw [within, Option.bind_some, Option.bind_some, if_pos (by simp; omega), Option.bind_some, e, e2, if_pos (by omega), if_pos (by simpa using e3)]
  rfl
theorem boards_l1 : laws_FnBoards.l1 20 (List.replicate 16 1) 0 = some true := by decide +kernel
theorem boards_l0 (s : Int) (hs : 1 ≤ s) (hs2 : s ≤ 900) : ∀ (n : Nat) (b : Int) (xs : List Int), xs.length = 16 → s ≤ b → b + n = s + 16 → run (b - 1).toNat n xs = List.replicate 16 1 → Ev (fun k => laws_FnBoards.l0 k s xs b) true
  | 0, b, xs, hl, hb, hn, hr => by
    refine Ev.step (fun k => by rw [laws_FnBoards.l0]) ?_
    have e : wrap64 (s + 16) = s + 16 := wrap_id (by omega) (by omega)
    rw [e]
    refine ifn (by omega) ?_
    simp only [run] at hr
    rw [hr]
    exact Ev.of (fun k => (laws_FnBoards.mono_l k).2 _ _) boards_l1
  | n + 1, b, xs, hl, hb, hn, hr => by
    have hv : 0 ≤ vulOf ((b - 1).toNat % 16) ∧ vulOf ((b - 1).toNat % 16) ≤ 3 := vul_range ⟨(b - 1).toNat % 16, by omega⟩
    have e : wrap64 (s + 16) = s + 16 := wrap_id (by omega) (by omega)
    have e1 : wrap64 (b + 1) = b + 1 := wrap_id (by omega) (by omega)
    have hc : wrap64 (wrap64 (4 * (((b - 1).toNat % 4 : Nat) : Int)) + vulOf ((b - 1).toNat % 16)) = cellOf ((b - 1).toNat % 16) := by
      rw [wrap_id (x := 4 * (((b - 1).toNat % 4 : Nat) : Int)) (by omega) (by omega), wrap_id (by omega) (by omega)]
      unfold cellOf
      rw [Nat.mod_mod_of_dvd _ (by decide : 4 ∣ 16)]
    have hc2 : 0 ≤ cellOf ((b - 1).toNat % 16) ∧ cellOf ((b - 1).toNat % 16) < 16 := by unfold cellOf; omega
    have ih := boards_l0 s hs hs2 n (b + 1) (bump xs (cellOf ((b - 1).toNat % 16))) (by simp [bump, hl]) (by omega) (by omega) (by
      rw [← hr]
      simp only [run]
      rw [show (b + 1 - 1).toNat = (b - 1).toNat + 1 by omega])
    refine Ev.step (fun k => by rw [laws_FnBoards.l0]) ?_
    rw [e, e1, dealer b (by omega) (by omega), vulnerable b (by omega) (by omega)]
    refine ifp (by omega) ?_
    simp only [Option.bind_some]
    rw [hc]
    refine ifn (by omega) (ifn (by omega) (ifn (by omega) (ifn (by omega) (ifp hc2.1 (ifp (by omega) ?_)))))
    exact ih
theorem FnBoards : laws_FnBoards.Pure := by
  intro l hl hl1 hw
  refine Ev.rounds ?_
  unfold laws_FnBoards.f
  refine evb rfl ?_
  by_cases hb : (l.length : Int) > 4096
  · exact ifp (by simpa using hb) (Ev.now _)
  · refine ifn (by simpa using hb) ?_
    obtain ⟨r, hr, r0, r1⟩ := w5Pick l (by omega) 3 900 (by omega) (by omega)
    refine Ev.bind hr ?_
    refine ifp (by omega) ?_
    have e : wrap64 (1 + r) = 1 + r := wrap_id (by omega) (by omega)
    simp only [e]
    refine boards_l0 (1 + r) (by omega) (by omega) 16 (1 + r) _ (by simp) (by omega) (by omega) ?_
    rw [run_mod 16 _ ((1 + r - 1).toNat % 16) _ (by omega)]
    exact run_all ⟨(1 + r - 1).toNat % 16, by omega⟩

end Go.Proofs.Ytcmfdngffknnfaa.Pure
