/- A call is recovered from its text, whatever bytes the call is drawn from. Conditions: a list of bytes. -/
import Derived.Test.YtbbndelebdackaaPFnCallTextx2
import Derived.Test.YtbbndelebdackaaKit
namespace Go.Proofs.Ytbbndelebdackaa.Pure
open Go.RowKit Go.Proofs.Ytbbndelebdackaa.PFnCallText Go.Proofs.YtbbndelebdackaaW.PrintWords Go.Proofs.YtbbndelebdackaaW.PrintLast Go.Proofs.YtbbndelebdackaaW.PrintMore Go.Proofs.Ytbbndelebdackaa.Kit
set_option linter.unusedVariables false
set_option linter.unusedSimpArgs false

theorem within (a b c : Int) : impl_within.f a b c = some (decide (b ≤ a ∧ a ≤ c)) := by
  unfold impl_within.f
  by_cases h : b ≤ a <;> simp [h]

theorem l01In (a b c : Int) : spec_l01In.f a b c = some (decide (b ≤ a ∧ a ≤ c)) := by
  unfold spec_l01In.f
  by_cases h : b ≤ a <;> simp [h]

def readPair (l : List UInt8) : Int × Bool :=
  match l with
  | [a, b] => if (1 ≤ (a.toNat : Int) - 48 ∧ (a.toNat : Int) - 48 ≤ 7) ∧ 0 ≤ Lib.indexByte [67, 68, 72, 83, 78] b then (3 + 5 * ((a.toNat : Int) - 49) + Lib.indexByte [67, 68, 72, 83, 78] b, true) else (0, false)
  | _ => (0, false)
/-- What a text reads as: a call, or none. -/
def readL (l : List UInt8) : Int × Bool :=
  if l = [80] then (0, true) else if l = [88] then (1, true) else if l = [88, 88] then (2, true) else readPair l
theorem place_range (b : UInt8) : -1 ≤ Lib.indexByte [67, 68, 72, 83, 78] b ∧ Lib.indexByte [67, 68, 72, 83, 78] b ≤ 4 := by
  simp only [Lib.indexByte]
  split
  · omega
  · split <;> (try split) <;> (try split) <;> (try split) <;> (try split) <;> simp_all
theorem implReadCall (s : ByteArray) : impl_ReadCall.f s = some (readL s.data.toList) := by
  obtain ⟨⟨l⟩⟩ := s
  have e0 : (⟨⟨l⟩⟩ : ByteArray).toList = l := ByteArray.toList_eq _
  have e1 : (⟨⟨l⟩⟩ : ByteArray).size = l.length := rfl
  show impl_ReadCall.f ⟨⟨l⟩⟩ = some (readL l)
  unfold impl_ReadCall.f readL
  rw [e0, e1]
  by_cases h1 : l = [80]
  · rw [if_pos h1, if_pos h1]
  rw [if_neg h1, if_neg h1]
  by_cases h2 : l = [88]
  · rw [if_pos h2, if_pos h2]
  rw [if_neg h2, if_neg h2]
  by_cases h3 : l = [88, 88]
  · rw [if_pos h3, if_pos h3]
  rw [if_neg h3, if_neg h3]
  clear h1 h2 h3 e0 e1
  match l with
  | [] => rfl
  | [a] => rfl
  | a :: b :: c :: t =>
    rw [if_neg (by simp; omega)]
    rfl
  | [a, b] =>
    rw [if_pos (by simp), if_pos (by simp), if_pos (by simp)]
    have b0 : bt ⟨⟨[a, b]⟩⟩ 0 = (a.toNat : Int) := rfl
    have b1 : bt ⟨⟨[a, b]⟩⟩ 1 = (b.toNat : Int) := rfl
    rw [b0, b1]
    have hb : ((b.toNat : Int)).toNat.toUInt8 = b := by simp
    unfold strings_IndexByte.f
    rw [hb, Option.bind_some]
    show ((impl_BidOf.f (wrap64 (wrap64 (a.toNat : Int) - 48)) (Lib.indexByte [67, 68, 72, 83, 78] b)).bind fun t120 => if t120 < 0 then some (0, false) else some (t120, true)) = some (if (1 ≤ (a.toNat : Int) - 48 ∧ (a.toNat : Int) - 48 ≤ 7) ∧ 0 ≤ Lib.indexByte [67, 68, 72, 83, 78] b then (3 + 5 * ((a.toNat : Int) - 49) + Lib.indexByte [67, 68, 72, 83, 78] b, true) else (0, false))
    have hr := place_range b
    generalize Lib.indexByte [67, 68, 72, 83, 78] b = i at hr ⊢
    have ha : (a.toNat : Int) < 256 := by have := a.toNat_lt; omega
    have ha0 : 0 ≤ (a.toNat : Int) := by omega
    generalize (a.toNat : Int) = n at ha ha0 ⊢
    rw [wrap_id (x := n) (by omega) (by omega), wrap_id (x := n - 48) (by omega) (by omega)]
    unfold impl_BidOf.f impl_isStrain.f
    rw [within, Option.bind_some]
    by_cases h4 : 1 ≤ n - 48 ∧ n - 48 ≤ 7
    · rw [if_pos (by simpa using h4), within, Option.bind_some, Option.bind_some]
      by_cases h5 : 0 ≤ i
      · rw [if_pos (by simp; omega), Option.bind_some, wrap_id (x := n - 48 - 1) (by omega) (by omega), wrap_id (x := 5 * (n - 48 - 1)) (by omega) (by omega), wrap_id (x := 3 + 5 * (n - 48 - 1)) (by omega) (by omega), wrap_id (by omega) (by omega), if_neg (by omega), if_pos ⟨h4, h5⟩]
        congr 2
        omega
      · rw [if_neg (by simp; omega), Option.bind_some, if_pos (by omega), if_neg (fun h => h5 h.2)]
    · rw [if_neg (by simpa using h4), Option.bind_some, if_pos (by omega), if_neg (fun h => h4 h.1)]
def textL (c : Int) : List UInt8 := if c = 0 then [80] else if c = 1 then [88] else if c = 2 then [88, 88] else [UInt8.ofNat (49 + ((c - 3) / 5).toNat), ([67, 68, 72, 83, 78] : List UInt8).getD ((c - 3) % 5).toNat 0]
theorem read_text {c : Int} (h0 : 0 ≤ c) (h1 : c ≤ 37) : readL (textL c) = (c, true) :=
  all_fin 38 (P := fun c => readL (textL c) = (c, true)) (by decide +kernel) h0 (by omega)
theorem place_byte (b : UInt8) (h : 0 ≤ Lib.indexByte [67, 68, 72, 83, 78] b) : b = 67 ∨ b = 68 ∨ b = 72 ∨ b = 83 ∨ b = 78 := by
  by_cases h1 : b = 67
  · exact .inl h1
  by_cases h2 : b = 68
  · exact .inr (.inl h2)
  by_cases h3 : b = 72
  · exact .inr (.inr (.inl h3))
  by_cases h4 : b = 83
  · exact .inr (.inr (.inr (.inl h4)))
  by_cases h5 : b = 78
  · exact .inr (.inr (.inr (.inr h5)))
  exfalso
  have q1 : ((67 : UInt8) == b) = false := by simpa using fun e => h1 (Eq.symm e)
  have q2 : ((68 : UInt8) == b) = false := by simpa using fun e => h2 (Eq.symm e)
  have q3 : ((72 : UInt8) == b) = false := by simpa using fun e => h3 (Eq.symm e)
  have q4 : ((83 : UInt8) == b) = false := by simpa using fun e => h4 (Eq.symm e)
  have q5 : ((78 : UInt8) == b) = false := by simpa using fun e => h5 (Eq.symm e)
  simp [Lib.indexByte, q1, q2, q3, q4, q5] at h
theorem level_byte (a : UInt8) (h0 : 1 ≤ (a.toNat : Int) - 48) (h1 : (a.toNat : Int) - 48 ≤ 7) : a = 49 ∨ a = 50 ∨ a = 51 ∨ a = 52 ∨ a = 53 ∨ a = 54 ∨ a = 55 := by
  have e : ∀ n : Nat, n < 256 → a.toNat = n → a = UInt8.ofNat n := fun n hn h => by
    apply UInt8.toNat_inj.1
    rw [h]
    simp
    omega
  rcases (by omega : a.toNat = 49 ∨ a.toNat = 50 ∨ a.toNat = 51 ∨ a.toNat = 52 ∨ a.toNat = 53 ∨ a.toNat = 54 ∨ a.toNat = 55) with h | h | h | h | h | h | h
  · exact .inl (e 49 (by omega) h)
  · exact .inr (.inl (e 50 (by omega) h))
  · exact .inr (.inr (.inl (e 51 (by omega) h)))
  · exact .inr (.inr (.inr (.inl (e 52 (by omega) h))))
  · exact .inr (.inr (.inr (.inr (.inl (e 53 (by omega) h)))))
  · exact .inr (.inr (.inr (.inr (.inr (.inl (e 54 (by omega) h))))))
  · exact .inr (.inr (.inr (.inr (.inr (.inr (e 55 (by omega) h))))))
theorem readL_text (l : List UInt8) (h : (readL l).2 = true) : 0 ≤ (readL l).1 ∧ (readL l).1 ≤ 37 ∧ textL (readL l).1 = l := by
  by_cases h1 : l = [80]
  · subst h1; decide +kernel
  by_cases h2 : l = [88]
  · subst h2; decide +kernel
  by_cases h3 : l = [88, 88]
  · subst h3; decide +kernel
  have e : readL l = readPair l := by
    unfold readL
    rw [if_neg h1, if_neg h2, if_neg h3]
  rw [e] at h ⊢
  clear e h1 h2 h3
  match l, h with
  | [], h => simp [readPair] at h
  | [a], h => simp [readPair] at h
  | a :: b :: c :: t, h => simp [readPair] at h
  | [a, b], h =>
    by_cases hc : (1 ≤ (a.toNat : Int) - 48 ∧ (a.toNat : Int) - 48 ≤ 7) ∧ 0 ≤ Lib.indexByte [67, 68, 72, 83, 78] b
    · have hb := place_byte b hc.2
      have ha := level_byte a hc.1.1 hc.1.2
      clear h hc
      rcases ha with rfl | rfl | rfl | rfl | rfl | rfl | rfl <;> rcases hb with rfl | rfl | rfl | rfl | rfl <;> decide +kernel
    · exfalso
      unfold readPair at h
      simp only [] at h
      rw [if_neg hc] at h
      simp at h
theorem readL_false (l : List UInt8) (h : (readL l).2 = false) : readL l = (0, false) := by
  revert h
  unfold readL readPair
  split
  · simp
  split
  · simp
  split
  · simp
  split
  · split
    · simp
    · simp
  · simp

theorem rd_byte {xs : List Int} (hx : ∀ x ∈ xs, 0 ≤ x ∧ x ≤ 255) (i : Int) : 0 ≤ rd xs i ∧ rd xs i ≤ 255 := by
  unfold rd
  by_cases h : i.toNat < xs.length
  · have e : xs.getD i.toNat 0 = xs[i.toNat] := by simp [List.getD_eq_getElem?_getD, h]
    rw [e]
    exact hx _ (List.getElem_mem h)
  · have e : xs.getD i.toNat 0 = 0 := by simp [List.getD_eq_getElem?_getD, List.getElem?_eq_none (Nat.not_lt.1 h)]
    omega
/-- The source of numbers: the place in the code, the seed. -/
def Src (code : List Int) (at_ seed : Int) : Prop := 0 ≤ at_ ∧ at_ ≤ code.length ∧ 0 ≤ seed ∧ seed < 2147483647
theorem next_seed {seed : Int} (h0 : 0 ≤ seed) (h1 : seed < 2147483647) : ∃ s, Int.tmod (wrap64 (wrap64 (seed * 48271) + 13)) 2147483647 = s ∧ 0 ≤ s ∧ s < 2147483647 := by
  refine ⟨_, rfl, ?_⟩
  rw [wrap_id (x := seed * 48271) (by omega) (by omega), wrap_id (by omega) (by omega)]
  exact ⟨Int.tmod_nonneg _ (by omega), Int.tmod_lt_of_pos _ (by omega)⟩
theorem l01Next (code : List Int) (hl : code.length ≤ 140737488351232) (hc : ∀ x ∈ code, 0 ≤ x ∧ x ≤ 255) (at_ seed n : Int) (h : Src code at_ seed) :
    ∃ r at' seed', spec_l01Next.f code at_ seed n = some (r, at', seed') ∧ 0 ≤ r ∧ (r < n ∨ (n ≤ 1 ∧ r = 0)) ∧ Src code at' seed' := by
  obtain ⟨h0, h1, h2, h3⟩ := h
  unfold spec_l01Next.f
  by_cases n1 : n ≤ 1
  · exact ⟨0, at_, seed, by rw [if_pos n1], by omega, .inr ⟨n1, rfl⟩, h0, h1, h2, h3⟩
  · rw [if_neg n1]
    obtain ⟨s, es, s0, s1⟩ := next_seed h2 h3
    rw [es]
    have hq : 0 ≤ Int.tdiv s 13 ∧ Int.tdiv s 13 ≤ 2147483647 := by
      rw [Int.tdiv_eq_ediv_of_nonneg s0]
      omega
    by_cases ha : at_ < code.length
    · rw [if_pos ha, if_pos h0]
      have e1 : wrap64 (at_ + 1) = at_ + 1 := wrap_id (by omega) (by omega)
      have e2 : wrap64 (at_ + 1 - 1) = at_ := by rw [wrap_id (by omega) (by omega)]; omega
      rw [e1, e2]
      have hb := rd_byte hc at_
      have e3 : wrap64 (rd code at_) = rd code at_ := wrap_id (by omega) (by omega)
      have e4 : wrap64 (wrap64 (Int.tdiv s 13) + wrap64 (rd code at_)) = Int.tdiv s 13 + rd code at_ := by
        rw [wrap_id (x := Int.tdiv s 13) (by omega) (by omega), e3, wrap_id (by omega) (by omega)]
      rw [e4, e3]
      by_cases n2 : n ≤ 256
      · rw [if_pos n2]
        by_cases n3 : Int.tmod (at_ + 1) 2 = 0
        · rw [if_pos n3, if_pos h0, if_pos ha, if_neg (by omega)]
          exact ⟨_, _, _, rfl, Int.tmod_nonneg _ (by omega), .inl (Int.tmod_lt_of_pos _ (by omega)), by omega, by omega, s0, s1⟩
        · rw [if_neg n3, if_neg (by omega)]
          exact ⟨_, _, _, rfl, Int.tmod_nonneg _ (by omega), .inl (Int.tmod_lt_of_pos _ (by omega)), by omega, by omega, s0, s1⟩
      · rw [if_neg n2, if_neg (by omega)]
        exact ⟨_, _, _, rfl, Int.tmod_nonneg _ (by omega), .inl (Int.tmod_lt_of_pos _ (by omega)), by omega, by omega, s0, s1⟩
    · rw [if_neg ha, if_neg (by omega)]
      have e4 : wrap64 (Int.tdiv s 13) = Int.tdiv s 13 := wrap_id (by omega) (by omega)
      rw [e4]
      exact ⟨_, _, _, rfl, Int.tmod_nonneg _ (by omega), .inl (Int.tmod_lt_of_pos _ (by omega)), h0, h1, s0, s1⟩
theorem from_seed {x b : Int} (h0 : 0 ≤ x) (h1 : x < 2147483647) (hb : 0 ≤ b ∧ b ≤ 255) : ∃ s, Int.tmod (wrap64 (wrap64 (x * 41) + wrap64 b)) 2147483647 = s ∧ 0 ≤ s ∧ s < 2147483647 := by
  refine ⟨_, rfl, ?_⟩
  rw [wrap_id (x := x * 41) (by omega) (by omega), wrap_id (x := b) (by omega) (by omega), wrap_id (by omega) (by omega)]
  exact ⟨Int.tmod_nonneg _ (by omega), Int.tmod_lt_of_pos _ (by omega)⟩
theorem l01From_l0 (code : List Int) (hl : code.length ≤ 140737488351232) (hc : ∀ x ∈ code, 0 ≤ x ∧ x ≤ 255) : ∀ (d : Nat) (i seed : Int), 0 ≤ i → i + d = code.length → 0 ≤ seed → seed < 2147483647 →
    ∃ s, Ev (fun k => spec_l01From.l0 k code i code 0 seed) (code, 0, s) ∧ 0 ≤ s ∧ s < 2147483647 := by
  intro d
  induction d with
  | zero =>
    intro i seed h0 hd s0 s1
    refine ⟨seed, Ev.step (fun k => by rw [spec_l01From.l0]) (ifn (by omega) (Ev.now _)), s0, s1⟩
  | succ d ih =>
    intro i seed h0 hd s0 s1
    have e1 : wrap64 (i + 1) = i + 1 := wrap_id (by omega) (by omega)
    by_cases h64 : i < 64
    · obtain ⟨s, es, t0, t1⟩ := from_seed s0 s1 (rd_byte hc i)
      obtain ⟨s', hs', u0, u1⟩ := ih (i + 1) s (by omega) (by omega) t0 t1
      refine ⟨s', Ev.step (fun k => by rw [spec_l01From.l0]) ?_, u0, u1⟩
      rw [e1, es]
      exact ifp (by omega) (ifp h64 (ifp h0 hs'))
    · exact ⟨seed, Ev.step (fun k => by rw [spec_l01From.l0]) (ifp (by omega) (ifn h64 (Ev.now _))), s0, s1⟩
theorem l01From (code : List Int) (hl : code.length ≤ 140737488351232) (hc : ∀ x ∈ code, 0 ≤ x ∧ x ≤ 255) : ∃ s, Ev (fun k => spec_l01From.f k code) (code, 0, s) ∧ Src code 0 s := by
  obtain ⟨s, hs, s0, s1⟩ := l01From_l0 code hl hc code.length 0 86421 (by omega) (by omega) (by omega) (by omega)
  exact ⟨s, hs, by omega, by omega, s0, s1⟩

theorem l06Draw_j0 (code : List Int) (hl : code.length ≤ 140737488351232) (hc : ∀ x ∈ code, 0 ≤ x ∧ x ≤ 255) (b : Bool) (at_ seed : Int) (h : Src code at_ seed) :
    ∃ c at' seed', Ev (fun k => spec_l06Draw.j0 k b code at_ seed) (c, at', seed') ∧ 0 ≤ c ∧ c ≤ 37 ∧ Src code at' seed' := by
  cases b with
  | true =>
    obtain ⟨r, a, s, e, r0, r1, hs⟩ := l01Next code hl hc at_ seed 3 h
    refine ⟨r, a, s, Ev.step (fun k => by rw [spec_l06Draw.j0]) (ifp rfl (evb e (Ev.now _))), r0, by omega, hs⟩
  | false =>
    obtain ⟨r, a, s, e, r0, r1, hs⟩ := l01Next code hl hc at_ seed 35 h
    have e2 : wrap64 (3 + r) = 3 + r := wrap_id (by omega) (by omega)
    refine ⟨3 + r, a, s, Ev.step (fun k => by rw [spec_l06Draw.j0]) (ifn (by decide) (evb e ?_)), by omega, by omega, hs⟩
    simp only [e2]
    exact Ev.now _
theorem l06Draw (code : List Int) (hl : code.length ≤ 140737488351232) (hc : ∀ x ∈ code, 0 ≤ x ∧ x ≤ 255) (at_ seed : Int) (h : Src code at_ seed) :
    ∃ c at' seed', Ev (fun k => spec_l06Draw.f k code at_ seed) (c, at', seed') ∧ ((-1 ≤ c ∧ c ≤ 38) ∨ c = 1000) ∧ Src code at' seed' := by
  obtain ⟨r, a, s, e, r0, r1, hs⟩ := l01Next code hl hc at_ seed 12 h
  unfold spec_l06Draw.f
  by_cases h0 : r = 0
  · obtain ⟨q, a', s', e', q0, q1, hs'⟩ := l01Next code hl hc a s 3 hs
    refine ⟨rd [-1, 38, 1000] q, a', s', evb e (ifp h0 (evb rfl (evb e' (ifp q0 (ifp (by simp; omega) (Ev.now _)))))), ?_, hs'⟩
    have : q = 0 ∨ q = 1 ∨ q = 2 := by omega
    rcases this with rfl | rfl | rfl
    · left; decide
    · left; decide
    · right; decide
  · have hj : ∀ b, ∃ c at' seed', Ev (fun k => spec_l06Draw.j0 k b code a s) (c, at', seed') ∧ ((-1 ≤ c ∧ c ≤ 38) ∨ c = 1000) ∧ Src code at' seed' := by
      intro b
      obtain ⟨c, a', s', e', c0, c1, hs'⟩ := l06Draw_j0 code hl hc b a s hs
      exact ⟨c, a', s', e', .inl (by omega), hs'⟩
    by_cases h1 : r = 1
    · obtain ⟨c, a', s', e', hc', hs'⟩ := hj (r == 1)
      exact ⟨c, a', s', evb e (ifn h0 (ifp h1 e')), hc', hs'⟩
    · by_cases h2 : r = 2
      · obtain ⟨c, a', s', e', hc', hs'⟩ := hj (r == 2)
        exact ⟨c, a', s', evb e (ifn h0 (ifn h1 (ifp h2 e'))), hc', hs'⟩
      · obtain ⟨c, a', s', e', hc', hs'⟩ := hj (r == 3)
        exact ⟨c, a', s', evb e (ifn h0 (ifn h1 (ifn h2 e'))), hc', hs'⟩

theorem bigCode (l : List Int) : laws_big.f l = some (decide ((l.length : Int) > 4096)) := rfl
theorem bytesOk {l : List Int} (hw : ∀ x ∈ l, (Lit.int .u8 x).wf = true) : ∀ x ∈ l, 0 ≤ x ∧ x ≤ 255 := fun x hx => wf8 (hw x hx)

theorem implText {c : Int} (h0 : 0 ≤ c) (h1 : c ≤ 37) : impl_CallText.f c = some ⟨⟨textL c⟩⟩ :=
  all_fin 38 (P := fun c => impl_CallText.f c = some ⟨⟨textL c⟩⟩) (by decide +kernel) h0 (by omega)
theorem implText_out (c : Int) (h : ¬ (0 ≤ c ∧ c ≤ 37)) : impl_CallText.f c = some ⟨#[]⟩ := by simp [impl_CallText.f, impl_IsCall.f, within, h]
theorem FnCallText : laws_FnCallText.Pure := by
  intro code hl hl1 hw
  refine Ev.rounds ?_
  unfold laws_FnCallText.f
  refine evb (bigCode code) ?_
  by_cases hb : (code.length : Int) > 4096
  · exact ifp (by simpa using hb) (Ev.now _)
  · refine ifn (by simpa using hb) ?_
    obtain ⟨s, e, hs⟩ := l01From code (by omega) (bytesOk hw)
    obtain ⟨c, p, s', e', hc, hs'⟩ := l06Draw code (by omega) (bytesOk hw) 0 s hs
    have ed : Ev (fun k => spec_DrawCallText.f k code) c := by
      unfold spec_DrawCallText.f
      exact Ev.bind e (Ev.bind e' (Ev.now _))
    refine Ev.bind ed ?_
    by_cases hr : 0 ≤ c ∧ c ≤ 37
    · have e2 := implText hr.1 hr.2
      generalize ht : (⟨⟨textL c⟩⟩ : ByteArray) = t at e2
      have et : textL c = t.data.toList := by rw [← ht]
      have er : readL t.data.toList = (c, true) := by rw [← et]; exact read_text hr.1 hr.2
      have ei : spec_IsCall.f c = some true := by
        unfold spec_IsCall.f
        rw [l01In, decide_eq_true hr]; rfl
      refine evb e2 (evb (implReadCall t) (evb ei ?_))
      rw [er]
      refine ifp rfl (ifp rfl ?_)
      show Ev (fun k => some (c == c)) true
      rw [beq_self_eq_true]
      exact Ev.now _
    · have e2 := implText_out c hr
      have ei : spec_IsCall.f c = some false := by
        unfold spec_IsCall.f
        rw [l01In, decide_eq_false hr]; rfl
      refine evb e2 (evb (implReadCall _) (evb ei ?_))
      exact ifp (by decide +kernel) (ifn (by decide +kernel) (Ev.now _))

end Go.Proofs.Ytbbndelebdackaa.Pure
