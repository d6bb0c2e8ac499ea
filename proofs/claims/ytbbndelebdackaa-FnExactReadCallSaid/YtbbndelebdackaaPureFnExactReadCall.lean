/- For all strings the program's ReadCall answers what the reference's answers. Conditions: a string. -/
import Derived.Test.YtbbndelebdackaaPFnExactReadCallx1
import Derived.Test.YtbbndelebdackaaKit
namespace Go.Proofs.Ytbbndelebdackaa.Pure
open Go.RowKit Go.Proofs.Ytbbndelebdackaa.PFnExactReadCall Go.Proofs.YtbbndelebdackaaW.PrintWords Go.Proofs.YtbbndelebdackaaW.PrintLast Go.Proofs.YtbbndelebdackaaW.PrintMore Go.Proofs.Ytbbndelebdackaa.Kit
set_option linter.unusedVariables false
set_option linter.unusedSimpArgs false

theorem within (a b c : Int) : impl_within.f a b c = some (decide (b ≤ a ∧ a ≤ c)) := by
  unfold impl_within.f
  by_cases h : b ≤ a <;> simp [h]

theorem l01In (a b c : Int) : spec_l01In.f a b c = some (decide (b ≤ a ∧ a ≤ c)) := by
  unfold spec_l01In.f
  by_cases h : b ≤ a <;> simp [h]

def readPair (l : List UInt8) : Int × Bool :=
  match l with
  | [a, b] => if (1 ≤ (a.toNat : Int) - 48 ∧ (a.toNat : Int) - 48 ≤ 7) ∧ 0 ≤ Lib.indexByte [67, 68, 72, 83, 78] b then (3 + 5 * ((a.toNat : Int) - 49) + Lib.indexByte [67, 68, 72, 83, 78] b, true) else (0, false)
  | _ => (0, false)
/-- What a text reads as: a call, or none. -/
def readL (l : List UInt8) : Int × Bool :=
  if l = [80] then (0, true) else if l = [88] then (1, true) else if l = [88, 88] then (2, true) else readPair l
theorem place_range (b : UInt8) : -1 ≤ Lib.indexByte [67, 68, 72, 83, 78] b ∧ Lib.indexByte [67, 68, 72, 83, 78] b ≤ 4 := by
  simp only [Lib.indexByte]
  split
  · omega
  · split <;> (try split) <;> (try split) <;> (try split) <;> (try split) <;> simp_all
theorem implReadCall (s : ByteArray) : impl_ReadCall.f s = some (readL s.data.toList) := by
  obtain ⟨⟨l⟩⟩ := s
  have e0 : (⟨⟨l⟩⟩ : ByteArray).toList = l := ByteArray.toList_eq _
  have e1 : (⟨⟨l⟩⟩ : ByteArray).size = l.length := rfl
  show impl_ReadCall.f ⟨⟨l⟩⟩ = some (readL l)
  unfold impl_ReadCall.f readL
  rw [e0, e1]
  by_cases h1 : l = [80]
  · rw [if_pos h1, if_pos h1]
  rw [if_neg h1, if_neg h1]
  by_cases h2 : l = [88]
  · rw [if_pos h2, if_pos h2]
  rw [if_neg h2, if_neg h2]
  by_cases h3 : l = [88, 88]
  · rw [if_pos h3, if_pos h3]
  rw [if_neg h3, if_neg h3]
  clear h1 h2 h3 e0 e1
  match l with
  | [] => rfl
  | [a] => rfl
  | a :: b :: c :: t =>
    rw [if_neg (by simp; omega)]
    rfl
  | [a, b] =>
    rw [if_pos (by simp), if_pos (by simp), if_pos (by simp)]
    have b0 : bt ⟨⟨[a, b]⟩⟩ 0 = (a.toNat : Int) := rfl
    have b1 : bt ⟨⟨[a, b]⟩⟩ 1 = (b.toNat : Int) := rfl
    rw [b0, b1]
    have hb : ((b.toNat : Int)).toNat.toUInt8 = b := by simp
    unfold strings_IndexByte.f
    rw [hb, Option.bind_some]
    show ((impl_BidOf.f (wrap64 (wrap64 (a.toNat : Int) - 48)) (Lib.indexByte [67, 68, 72, 83, 78] b)).bind fun t120 => if t120 < 0 then some (0, false) else some (t120, true)) = some (if (1 ≤ (a.toNat : Int) - 48 ∧ (a.toNat : Int) - 48 ≤ 7) ∧ 0 ≤ Lib.indexByte [67, 68, 72, 83, 78] b then (3 + 5 * ((a.toNat : Int) - 49) + Lib.indexByte [67, 68, 72, 83, 78] b, true) else (0, false))
    have hr := place_range b
    generalize Lib.indexByte [67, 68, 72, 83, 78] b = i at hr ⊢
    have ha : (a.toNat : Int) < 256 := by have := a.toNat_lt; omega
    have ha0 : 0 ≤ (a.toNat : Int) := by omega
    generalize (a.toNat : Int) = n at ha ha0 ⊢
    rw [wrap_id (x := n) (by omega) (by omega), wrap_id (x := n - 48) (by omega) (by omega)]
    unfold impl_BidOf.f impl_isStrain.f
    rw [within, Option.bind_some]
    by_cases h4 : 1 ≤ n - 48 ∧ n - 48 ≤ 7
    · rw [if_pos (by simpa using h4), within, Option.bind_some, Option.bind_some]
      by_cases h5 : 0 ≤ i
      · rw [if_pos (by simp; omega), Option.bind_some, wrap_id (x := n - 48 - 1) (by omega) (by omega), wrap_id (x := 5 * (n - 48 - 1)) (by omega) (by omega), wrap_id (x := 3 + 5 * (n - 48 - 1)) (by omega) (by omega), wrap_id (by omega) (by omega), if_neg (by omega), if_pos ⟨h4, h5⟩]
        congr 2
        omega
      · rw [if_neg (by simp; omega), Option.bind_some, if_pos (by omega), if_neg (fun h => h5 h.2)]
    · rw [if_neg (by simpa using h4), Option.bind_some, if_pos (by omega), if_neg (fun h => h4 h.1)]
def textL (c : Int) : List UInt8 := if c = 0 then [80] else if c = 1 then [88] else if c = 2 then [88, 88] else [UInt8.ofNat (49 + ((c - 3) / 5).toNat), ([67, 68, 72, 83, 78] : List UInt8).getD ((c - 3) % 5).toNat 0]
theorem read_text {c : Int} (h0 : 0 ≤ c) (h1 : c ≤ 37) : readL (textL c) = (c, true) :=
  all_fin 38 (P := fun c => readL (textL c) = (c, true)) (by decide +kernel) h0 (by omega)
theorem place_byte (b : UInt8) (h : 0 ≤ Lib.indexByte [67, 68, 72, 83, 78] b) : b = 67 ∨ b = 68 ∨ b = 72 ∨ b = 83 ∨ b = 78 := by
  by_cases h1 : b = 67
  · exact .inl h1
  by_cases h2 : b = 68
  · exact .inr (.inl h2)
  by_cases h3 : b = 72
  · exact .inr (.inr (.inl h3))
  by_cases h4 : b = 83
  · exact .inr (.inr (.inr (.inl h4)))
  by_cases h5 : b = 78
  · exact .inr (.inr (.inr (.inr h5)))
  exfalso
  have q1 : ((67 : UInt8) == b) = false := by simpa using fun e => h1 (Eq.symm e)
  have q2 : ((68 : UInt8) == b) = false := by simpa using fun e => h2 (Eq.symm e)
  have q3 : ((72 : UInt8) == b) = false := by simpa using fun e => h3 (Eq.symm e)
  have q4 : ((83 : UInt8) == b) = false := by simpa using fun e => h4 (Eq.symm e)
  have q5 : ((78 : UInt8) == b) = false := by simpa using fun e => h5 (Eq.symm e)
  simp [Lib.indexByte, q1, q2, q3, q4, q5] at h
theorem level_byte (a : UInt8) (h0 : 1 ≤ (a.toNat : Int) - 48) (h1 : (a.toNat : Int) - 48 ≤ 7) : a = 49 ∨ a = 50 ∨ a = 51 ∨ a = 52 ∨ a = 53 ∨ a = 54 ∨ a = 55 := by
  have e : ∀ n : Nat, n < 256 → a.toNat = n → a = UInt8.ofNat n := fun n hn h => by
    apply UInt8.toNat_inj.1
    rw [h]
    simp
    omega
  rcases (by omega : a.toNat = 49 ∨ a.toNat = 50 ∨ a.toNat = 51 ∨ a.toNat = 52 ∨ a.toNat = 53 ∨ a.toNat = 54 ∨ a.toNat = 55) with h | h | h | h | h | h | h
  · exact .inl (e 49 (by omega) h)
  · exact .inr (.inl (e 50 (by omega) h))
  · exact .inr (.inr (.inl (e 51 (by omega) h)))
  · exact .inr (.inr (.inr (.inl (e 52 (by omega) h))))
  · exact .inr (.inr (.inr (.inr (.inl (e 53 (by omega) h)))))
  · exact .inr (.inr (.inr (.inr (.inr (.inl (e 54 (by omega) h))))))
  · exact .inr (.inr (.inr (.inr (.inr (.inr (e 55 (by omega) h))))))
theorem readL_text (l : List UInt8) (h : (readL l).2 = true) : 0 ≤ (readL l).1 ∧ (readL l).1 ≤ 37 ∧ textL (readL l).1 = l := by
  by_cases h1 : l = [80]
  · subst h1; decide +kernel
  by_cases h2 : l = [88]
  · subst h2; decide +kernel
  by_cases h3 : l = [88, 88]
  · subst h3; decide +kernel
  have e : readL l = readPair l := by
    unfold readL
    rw [if_neg h1, if_neg h2, if_neg h3]
  rw [e] at h ⊢
  clear e h1 h2 h3
  match l, h with
  | [], h => simp [readPair] at h
  | [a], h => simp [readPair] at h
  | a :: b :: c :: t, h => simp [readPair] at h
  | [a, b], h =>
    by_cases hc : (1 ≤ (a.toNat : Int) - 48 ∧ (a.toNat : Int) - 48 ≤ 7) ∧ 0 ≤ Lib.indexByte [67, 68, 72, 83, 78] b
    · have hb := place_byte b hc.2
      have ha := level_byte a hc.1.1 hc.1.2
      clear h hc
      rcases ha with rfl | rfl | rfl | rfl | rfl | rfl | rfl <;> rcases hb with rfl | rfl | rfl | rfl | rfl <;> decide +kernel
    · exfalso
      unfold readPair at h
      simp only [] at h
      rw [if_neg hc] at h
      simp at h
theorem readL_false (l : List UInt8) (h : (readL l).2 = false) : readL l = (0, false) := by
  revert h
  unfold readL readPair
  split
  · simp
  split
  · simp
  split
  · simp
  split
  · split
    · simp
    · simp
  · simp

theorem specText {c : Int} (h0 : 0 ≤ c) (h1 : c ≤ 37) : spec_CallText.f c = some ⟨⟨textL c⟩⟩ :=
  all_fin 38 (P := fun c => spec_CallText.f c = some ⟨⟨textL c⟩⟩) (by decide +kernel) h0 (by omega)
theorem specReadCall (s : ByteArray) : Ev (fun k => spec_ReadCall.f k s) (readL s.data.toList) := by
  unfold spec_ReadCall.f
  have h : ∀ (n : Nat) (c : Int), 0 ≤ c → c + n = 38 → (∀ j, 0 ≤ j → j < c → textL j ≠ s.data.toList) → Ev (fun k => spec_ReadCall.l0 k s c) (readL s.data.toList) := by
    intro n
    induction n with
    | zero =>
      intro c h0 hn hj
      have hf : (readL s.data.toList).2 = false := by
        cases hq : (readL s.data.toList).2 with
        | false => rfl
        | true =>
          obtain ⟨a, b, e⟩ := readL_text _ hq
          exact absurd e (hj _ a (by omega))
      rw [readL_false _ hf]
      refine Ev.step (fun k => by rw [spec_ReadCall.l0]) ?_
      exact ifn (by omega) (Ev.now _)
    | succ n ih =>
      intro c h0 hn hj
      have e1 := specText (c := c) h0 (by omega)
      generalize ht : (⟨⟨textL c⟩⟩ : ByteArray) = t at e1
      have et : textL c = t.data.toList := by rw [← ht]
      have ew : wrap64 (c + 1) = c + 1 := wrap_id (by omega) (by omega)
      refine Ev.step (fun k => by rw [spec_ReadCall.l0]) ?_
      rw [ew]
      refine ifp (by omega) (evb e1 ?_)
      by_cases hq : t.toList = s.toList
      · have hq' : textL c = s.data.toList := by rw [et, ← ByteArray.toList_eq, ← ByteArray.toList_eq, hq]
        rw [← hq', read_text h0 (by omega)]
        exact ifp hq (Ev.now _)
      · refine ifn hq (ih (c + 1) (by omega) (by omega) fun j j0 j1 => ?_)
        by_cases hjc : j = c
        · subst hjc
          intro e
          apply hq
          rw [ByteArray.toList_eq, ByteArray.toList_eq, ← et, e]
        · exact hj j j0 (by omega)
  exact h 38 0 (by omega) (by omega) (fun j j0 j1 => by omega)
theorem FnExactReadCall : laws_FnExactReadCall.Pure := by
  intro s hs
  refine Ev.rounds ?_
  unfold laws_FnExactReadCall.f
  by_cases h : (s.size : Int) > 1048576
  · exact ifp h (Ev.now _)
  · exact ifn h (Ev.bind (specReadCall s) (evb (implReadCall s) (ifp rfl (ifn (by simp) (Ev.now _)))))

end Go.Proofs.Ytbbndelebdackaa.Pure
