/- A contract that is made scores more than its contract points, and one that is not made loses the penalty points, whatever bytes the contract is drawn from. Conditions: a list of bytes. -/
import Derived.Test.YtlcmikhaejfnnaaPFnMadex6
import Derived.Test.YtlcmikhaejfnnaaKit
import Derived.Test.YtlcmikhaejfnnaaSco
namespace Go.Proofs.Ytlcmikhaejfnnaa.Pure
open Go.RowKit Go.Proofs.Ytlcmikhaejfnnaa.PFnMade Go.Proofs.YtlcmikhaejfnnaaW.PrintWords Go.Proofs.YtlcmikhaejfnnaaW.PrintLast Go.Proofs.YtlcmikhaejfnnaaW.PrintMore Go.Proofs.Ytlcmikhaejfnnaa.Kit Go.Proofs.Ytlcmikhaejfnnaa.Sco
set_option linter.unusedVariables false
set_option linter.unusedSimpArgs false

theorem within (a b c : Int) : impl_within.f a b c = some (decide (b ≤ a ∧ a ≤ c)) := by
  unfold impl_within.f
  by_cases h : b ≤ a <;> simp [h]

theorem l01In (a b c : Int) : spec_l01In.f a b c = some (decide (b ≤ a ∧ a ≤ c)) := by
  unfold spec_l01In.f
  by_cases h : b ≤ a <;> simp [h]

theorem specIsContract (a b c d : Int) : spec_IsContract.f a b c d = some (decide ((a = 0 ∧ b = 0 ∧ c = 0 ∧ d = 0) ∨ (1 ≤ a ∧ a ≤ 7 ∧ 0 ≤ b ∧ b ≤ 4 ∧ 0 ≤ c ∧ c ≤ 2 ∧ 0 ≤ d ∧ d ≤ 3))) := by
  unfold spec_IsContract.f
  by_cases h0 : a = 0 ∧ b = 0 ∧ c = 0 ∧ d = 0
  · simp [h0]
  · rw [if_neg (by simpa using h0)]
    by_cases h1 : 1 ≤ a ∧ a ≤ 7 <;> by_cases h2 : 0 ≤ b ∧ b ≤ 4 <;> by_cases h3 : 0 ≤ c ∧ c ≤ 2 <;> simp [l01In, h0, h1, h2, h3] <;> omega
theorem implIsContract (a b c d : Int) : impl_IsContract.f a b c d = some (decide ((a = 0 ∧ b = 0 ∧ c = 0 ∧ d = 0) ∨ (1 ≤ a ∧ a ≤ 7 ∧ 0 ≤ b ∧ b ≤ 4 ∧ 0 ≤ c ∧ c ≤ 2 ∧ 0 ≤ d ∧ d ≤ 3))) := by
  unfold impl_IsContract.f impl_isPassedOut.f
  rw [Option.bind_some]
  by_cases h0 : a = 0 ∧ b = 0 ∧ c = 0 ∧ d = 0
  · simp [h0]
  · rw [if_neg (by simpa using h0)]
    by_cases h1 : 1 ≤ a ∧ a ≤ 7 <;> by_cases h2 : 0 ≤ b ∧ b ≤ 4 <;> by_cases h3 : 0 ≤ c ∧ c ≤ 2 <;> simp [within, impl_isStrain.f, impl_isSeat.f, h0, h1, h2, h3] <;> omega

theorem specMade_any (k : Nat) (v : Bool) (o s a b c d : Int) : spec_l10Made.j0 k v o s a b c d = spec_l10Made.j0 k v o s a b c 0 := by
  have h2 : ∀ (k : Nat) (s : Int), spec_l10Made.j2 k v o s a b c d = spec_l10Made.j2 k v o s a b c 0 := by intro k s; cases k <;> rfl
  have h1 : ∀ (k : Nat) (s : Int), spec_l10Made.j1 k v o s a b c d = spec_l10Made.j1 k v o s a b c 0 := by intro k s; cases k <;> simp only [spec_l10Made.j1, h2]
  cases k <;> simp only [spec_l10Made.j0, h1]
theorem specScore_any (k : Nat) (v : Bool) (a b c d t : Int) : spec_l10Score.f k a b c d v t = spec_l10Score.f k a b c 0 v t := by
  unfold spec_l10Score.f spec_l10Made.f
  simp only [specMade_any k _ _ _ _ _ _ d]
  rfl
theorem implPrem_any (k : Nat) (v : Bool) (t x y a b c d : Int) : impl_premiums.j0 k v t x y a b c d = impl_premiums.j0 k v t x y a b c 0 := by
  cases k <;> rfl
theorem implScore_any (k : Nat) (v : Bool) (a b c d t : Int) (ha : 1 ≤ a) : impl_score.f k a b c d v t = impl_score.f k a b c 0 v t := by
  have e : ∀ d, impl_isPassedOut.f a b c d = some false := by
    intro d
    unfold impl_isPassedOut.f
    have : (a == 0) = false := by simp; omega
    simp [this]
  unfold impl_score.f impl_premiums.f
  simp only [implPrem_any k _ _ _ _ _ _ _ d, e]
  rfl
theorem scoreTable : ∀ (i : Fin 7) (j : Fin 5) (k : Fin 3) (v : Bool) (t : Fin 14), spec_l10Score.f 60 ((i.val : Int) + 1) (j.val : Int) (k.val : Int) 0 v (t.val : Int) = some (scoreM ((i.val : Int) + 1) (j.val : Int) (k.val : Int) v (t.val : Int)) ∧
    impl_score.f 60 ((i.val : Int) + 1) (j.val : Int) (k.val : Int) 0 v (t.val : Int) = some (scoreM ((i.val : Int) + 1) (j.val : Int) (k.val : Int) v (t.val : Int)) := by
  decide +kernel
theorem scoreAt {a b c t : Int} (v : Bool) (ha : 1 ≤ a ∧ a ≤ 7) (hb : 0 ≤ b ∧ b ≤ 4) (hc : 0 ≤ c ∧ c ≤ 2) (ht : 0 ≤ t ∧ t ≤ 13) : spec_l10Score.f 60 a b c 0 v t = some (scoreM a b c v t) ∧ impl_score.f 60 a b c 0 v t = some (scoreM a b c v t) := by
  have e := all_fin 7 (P := fun i => spec_l10Score.f 60 (i + 1) b c 0 v t = some (scoreM (i + 1) b c v t) ∧ impl_score.f 60 (i + 1) b c 0 v t = some (scoreM (i + 1) b c v t))
    (fun i => all_fin3 5 3 14 (P := fun b c t => spec_l10Score.f 60 ((i.val : Int) + 1) b c 0 v t = some (scoreM ((i.val : Int) + 1) b c v t) ∧ impl_score.f 60 ((i.val : Int) + 1) b c 0 v t = some (scoreM ((i.val : Int) + 1) b c v t))
      (fun j k t => scoreTable i j k v t) hb.1 (by omega) hc.1 (by omega) ht.1 (by omega)) (x := a - 1) (by omega) (by omega)
  simpa using e
theorem specScore {a b c d t : Int} (v : Bool) (h : RangesM a b c d) (ht : 0 ≤ t ∧ t ≤ 13) : Ev (fun k => spec_l10Score.f k a b c d v t) (scoreM a b c v t) := by
  obtain ⟨h1, h2, h3, h4, h5, h6, h7, h8⟩ := h
  exact Ev.of (fun k => spec_l10Score.mono _ _ _ _ _ _ _) (k := 60) (by rw [specScore_any]; exact (scoreAt v ⟨h1, h2⟩ ⟨h3, h4⟩ ⟨h5, h6⟩ ht).1)
theorem implScore {a b c d t : Int} (v : Bool) (h : RangesM a b c d) (ht : 0 ≤ t ∧ t ≤ 13) : Ev (fun k => impl_score.f k a b c d v t) (scoreM a b c v t) := by
  obtain ⟨h1, h2, h3, h4, h5, h6, h7, h8⟩ := h
  exact Ev.of (fun k => impl_score.mono _ _ _ _ _ _ _) (k := 60) (by rw [implScore_any _ _ _ _ _ _ _ h1]; exact (scoreAt v ⟨h1, h2⟩ ⟨h3, h4⟩ ⟨h5, h6⟩ ht).2)
/-- The score of any contract. -/
def scoreAny (a b c : Int) (v : Bool) (t : Int) : Int := if a = 0 then 0 else scoreM a b c v t
theorem specScoreAny {a b c d t : Int} (v : Bool) (h : PassedM a b c d ∨ RangesM a b c d) (ht : 0 ≤ t ∧ t ≤ 13) : Ev (fun k => spec_l10Score.f k a b c d v t) (scoreAny a b c v t) := by
  unfold scoreAny
  rcases h with ⟨rfl, rfl, rfl, rfl⟩ | h
  · rw [if_pos rfl]
    exact Ev.congr (fun k => rfl) (Ev.now 0)
  · rw [if_neg (by have := h.1; omega)]
    exact specScore v h ht
theorem implScoreAny {a b c d t : Int} (v : Bool) (h : PassedM a b c d ∨ RangesM a b c d) (ht : 0 ≤ t ∧ t ≤ 13) : Ev (fun k => impl_score.f k a b c d v t) (scoreAny a b c v t) := by
  unfold scoreAny
  rcases h with ⟨rfl, rfl, rfl, rfl⟩ | h
  · rw [if_pos rfl]
    exact Ev.congr (fun k => rfl) (Ev.now 0)
  · rw [if_neg (by have := h.1; omega)]
    exact implScore v h ht

theorem contractScore_both (a b c d : Int) (v : Bool) (t : Int) : ∃ r, Ev (fun k => spec_ContractScore.f k a b c d v t) r ∧ Ev (fun k => impl_ContractScore.f k a b c d v t) r ∧
    (¬ (PassedM a b c d ∨ RangesM a b c d) → r = (0, 1)) ∧ ((PassedM a b c d ∨ RangesM a b c d) → ¬ (0 ≤ t ∧ t ≤ 13) → r = (0, 2)) ∧ ((PassedM a b c d ∨ RangesM a b c d) → (0 ≤ t ∧ t ≤ 13) → r = (scoreAny a b c v t, 0)) := by
  unfold spec_ContractScore.f impl_ContractScore.f impl_areTricks.f
  by_cases h : PassedM a b c d ∨ RangesM a b c d
  · have hs : spec_IsContract.f a b c d = some true := by rw [specIsContract]; congr 1; exact decide_eq_true h
    have hi : impl_IsContract.f a b c d = some true := by rw [implIsContract]; congr 1; exact decide_eq_true h
    by_cases ht : 0 ≤ t ∧ t ≤ 13
    · refine ⟨_, evb hs (ifp rfl (evb (l01In _ _ _) (ifp (by simpa using ht) (Ev.bind (specScoreAny v h ht) (Ev.now _))))), evb hi (ifp rfl (evb (by rw [within]; rfl) (ifp (by simpa using ht) (Ev.bind (implScoreAny v h ht) (Ev.now _))))), fun n => absurd h n, fun _ n => absurd ht n, fun _ _ => rfl⟩
    · refine ⟨_, evb hs (ifp rfl (evb (l01In _ _ _) (ifn (by simpa using ht) (Ev.now _)))), evb hi (ifp rfl (evb (by rw [within]; rfl) (ifn (by simpa using ht) (Ev.now _)))), fun n => absurd h n, fun _ _ => rfl, fun _ n => absurd n ht⟩
  · have hs : spec_IsContract.f a b c d = some false := by rw [specIsContract]; congr 1; exact decide_eq_false h
    have hi : impl_IsContract.f a b c d = some false := by rw [implIsContract]; congr 1; exact decide_eq_false h
    exact ⟨_, evb hs (ifn (by decide) (Ev.now _)), evb hi (ifn (by decide) (Ev.now _)), fun _ => rfl, fun n => absurd n h, fun n => absurd n h⟩

theorem rd_byte {xs : List Int} (hx : ∀ x ∈ xs, 0 ≤ x ∧ x ≤ 255) (i : Int) : 0 ≤ rd xs i ∧ rd xs i ≤ 255 := by
  unfold rd
  by_cases h : i.toNat < xs.length
  · have e : xs.getD i.toNat 0 = xs[i.toNat] := by simp [List.getD_eq_getElem?_getD, h]
    rw [e]
    exact hx _ (List.getElem_mem h)
  · have e : xs.getD i.toNat 0 = 0 := by simp [List.getD_eq_getElem?_getD, List.getElem?_eq_none (Nat.not_lt.1 h)]
    omega
/-- The source of numbers: the place in the code, the seed. -/
def Src (code : List Int) (at_ seed : Int) : Prop := 0 ≤ at_ ∧ at_ ≤ code.length ∧ 0 ≤ seed ∧ seed < 2147483647
theorem next_seed {seed : Int} (h0 : 0 ≤ seed) (h1 : seed < 2147483647) : ∃ s, Int.tmod (wrap64 (wrap64 (seed * 48271) + 13)) 2147483647 = s ∧ 0 ≤ s ∧ s < 2147483647 := by
  refine ⟨_, rfl, ?_⟩
  rw [wrap_id (x := seed * 48271) (by omega) (by omega), wrap_id (by omega) (by omega)]
  exact ⟨Int.tmod_nonneg _ (by omega), Int.tmod_lt_of_pos _ (by omega)⟩
theorem l01Next (code : List Int) (hl : code.length ≤ 140737488351232) (hc : ∀ x ∈ code, 0 ≤ x ∧ x ≤ 255) (at_ seed n : Int) (h : Src code at_ seed) :
    ∃ r at' seed', spec_l01Next.f code at_ seed n = some (r, at', seed') ∧ 0 ≤ r ∧ (r < n ∨ (n ≤ 1 ∧ r = 0)) ∧ Src code at' seed' := by
  obtain ⟨h0, h1, h2, h3⟩ := h
  unfold spec_l01Next.f
  by_cases n1 : n ≤ 1
  · exact ⟨0, at_, seed, by rw [if_pos n1], by omega, .inr ⟨n1, rfl⟩, h0, h1, h2, h3⟩
  · rw [if_neg n1]
    obtain ⟨s, es, s0, s1⟩ := next_seed h2 h3
    rw [es]
    have hq : 0 ≤ Int.tdiv s 13 ∧ Int.tdiv s 13 ≤ 2147483647 := by
      rw [Int.tdiv_eq_ediv_of_nonneg s0]
      omega
    by_cases ha : at_ < code.length
    · rw [if_pos ha, if_pos h0]
      have e1 : wrap64 (at_ + 1) = at_ + 1 := wrap_id (by omega) (by omega)
      have e2 : wrap64 (at_ + 1 - 1) = at_ := by rw [wrap_id (by omega) (by omega)]; omega
      rw [e1, e2]
      have hb := rd_byte hc at_
      have e3 : wrap64 (rd code at_) = rd code at_ := wrap_id (by omega) (by omega)
      have e4 : wrap64 (wrap64 (Int.tdiv s 13) + wrap64 (rd code at_)) = Int.tdiv s 13 + rd code at_ := by
        rw [wrap_id (x := Int.tdiv s 13) (by omega) (by omega), e3, wrap_id (by omega) (by omega)]
      rw [e4, e3]
      by_cases n2 : n ≤ 256
      · rw [if_pos n2]
        by_cases n3 : Int.tmod (at_ + 1) 2 = 0
        · rw [if_pos n3, if_pos h0, if_pos ha, if_neg (by omega)]
          exact ⟨_, _, _, rfl, Int.tmod_nonneg _ (by omega), .inl (Int.tmod_lt_of_pos _ (by omega)), by omega, by omega, s0, s1⟩
        · rw [if_neg n3, if_neg (by omega)]
          exact ⟨_, _, _, rfl, Int.tmod_nonneg _ (by omega), .inl (Int.tmod_lt_of_pos _ (by omega)), by omega, by omega, s0, s1⟩
      · rw [if_neg n2, if_neg (by omega)]
        exact ⟨_, _, _, rfl, Int.tmod_nonneg _ (by omega), .inl (Int.tmod_lt_of_pos _ (by omega)), by omega, by omega, s0, s1⟩
    · rw [if_neg ha, if_neg (by omega)]
      have e4 : wrap64 (Int.tdiv s 13) = Int.tdiv s 13 := wrap_id (by omega) (by omega)
      rw [e4]
      exact ⟨_, _, _, rfl, Int.tmod_nonneg _ (by omega), .inl (Int.tmod_lt_of_pos _ (by omega)), h0, h1, s0, s1⟩
theorem from_seed {x b : Int} (h0 : 0 ≤ x) (h1 : x < 2147483647) (hb : 0 ≤ b ∧ b ≤ 255) : ∃ s, Int.tmod (wrap64 (wrap64 (x * 41) + wrap64 b)) 2147483647 = s ∧ 0 ≤ s ∧ s < 2147483647 := by
  refine ⟨_, rfl, ?_⟩
  rw [wrap_id (x := x * 41) (by omega) (by omega), wrap_id (x := b) (by omega) (by omega), wrap_id (by omega) (by omega)]
  exact ⟨Int.tmod_nonneg _ (by omega), Int.tmod_lt_of_pos _ (by omega)⟩
theorem l01From_l0 (code : List Int) (hl : code.length ≤ 140737488351232) (hc : ∀ x ∈ code, 0 ≤ x ∧ x ≤ 255) : ∀ (d : Nat) (i seed : Int), 0 ≤ i → i + d = code.length → 0 ≤ seed → seed < 2147483647 →
    ∃ s, Ev (fun k => spec_l01From.l0 k code i code 0 seed) (code, 0, s) ∧ 0 ≤ s ∧ s < 2147483647 := by
  intro d
  induction d with
  | zero =>
    intro i seed h0 hd s0 s1
    refine ⟨seed, Ev.step (fun k => by rw [spec_l01From.l0]) (ifn (by omega) (Ev.now _)), s0, s1⟩
  | succ d ih =>
    intro i seed h0 hd s0 s1
    have e1 : wrap64 (i + 1) = i + 1 := wrap_id (by omega) (by omega)
    by_cases h64 : i < 64
    · obtain ⟨s, es, t0, t1⟩ := from_seed s0 s1 (rd_byte hc i)
      obtain ⟨s', hs', u0, u1⟩ := ih (i + 1) s (by omega) (by omega) t0 t1
      refine ⟨s', Ev.step (fun k => by rw [spec_l01From.l0]) ?_, u0, u1⟩
      rw [e1, es]
      exact ifp (by omega) (ifp h64 (ifp h0 hs'))
    · exact ⟨seed, Ev.step (fun k => by rw [spec_l01From.l0]) (ifp (by omega) (ifn h64 (Ev.now _))), s0, s1⟩
theorem l01From (code : List Int) (hl : code.length ≤ 140737488351232) (hc : ∀ x ∈ code, 0 ≤ x ∧ x ≤ 255) : ∃ s, Ev (fun k => spec_l01From.f k code) (code, 0, s) ∧ Src code 0 s := by
  obtain ⟨s, hs, s0, s1⟩ := l01From_l0 code hl hc code.length 0 86421 (by omega) (by omega) (by omega) (by omega)
  exact ⟨s, hs, by omega, by omega, s0, s1⟩

theorem drawContract (code : List Int) (hl : code.length ≤ 140737488351232) (hc : ∀ x ∈ code, 0 ≤ x ∧ x ≤ 255) (at_ seed : Int) (h : Src code at_ seed) :
    ∃ a b c d at' seed', spec_l07DrawContract.f code at_ seed = some (a, b, c, d, at', seed') ∧ (0 ≤ a ∧ a ≤ 8) ∧ (0 ≤ b ∧ b ≤ 5) ∧ (0 ≤ c ∧ c ≤ 3) ∧ (0 ≤ d ∧ d ≤ 4) ∧ Src code at' seed' := by
  unfold spec_l07DrawContract.f
  obtain ⟨r, p, s, e, r0, r1, hs⟩ := l01Next code hl hc at_ seed 16 h
  rw [e, Option.bind_some]
  by_cases hr : r = 0
  · rw [if_pos hr]
    obtain ⟨a, p1, s1, e1, a0, a1, h1⟩ := l01Next code hl hc p s 9 hs
    obtain ⟨b, p2, s2, e2, b0, b1, h2⟩ := l01Next code hl hc p1 s1 6 h1
    obtain ⟨c, p3, s3, e3, c0, c1, h3⟩ := l01Next code hl hc p2 s2 4 h2
    obtain ⟨d, p4, s4, e4, d0, d1, h4⟩ := l01Next code hl hc p3 s3 5 h3
    refine ⟨a, b, c, d, p4, s4, ?_, by omega, by omega, by omega, by omega, h4⟩
    rw [e1, Option.bind_some, e2, Option.bind_some, e3, Option.bind_some, e4, Option.bind_some]
  · rw [if_neg hr]
    obtain ⟨q, p0, s0, e0, q0, q1, h0⟩ := l01Next code hl hc p s 16 hs
    rw [e0, Option.bind_some]
    by_cases hq : q = 0
    · rw [if_pos hq]
      exact ⟨0, 0, 0, 0, p0, s0, rfl, by omega, by omega, by omega, by omega, h0⟩
    · rw [if_neg hq]
      obtain ⟨a, p1, s1, e1, a0, a1, h1⟩ := l01Next code hl hc p0 s0 7 h0
      obtain ⟨b, p2, s2, e2, b0, b1, h2⟩ := l01Next code hl hc p1 s1 5 h1
      obtain ⟨c, p3, s3, e3, c0, c1, h3⟩ := l01Next code hl hc p2 s2 3 h2
      obtain ⟨d, p4, s4, e4, d0, d1, h4⟩ := l01Next code hl hc p3 s3 4 h3
      refine ⟨1 + a, b, c, d, p4, s4, ?_, by omega, by omega, by omega, by omega, h4⟩
      rw [e1, Option.bind_some, e2, Option.bind_some, e3, Option.bind_some, e4, Option.bind_some, wrap_id (by omega) (by omega)]

theorem bigCode (l : List Int) : laws_big.f l = some (decide ((l.length : Int) > 4096)) := rfl
theorem bytesOk {l : List Int} (hw : ∀ x ∈ l, (Lit.int .u8 x).wf = true) : ∀ x ∈ l, 0 ≤ x ∧ x ≤ 255 := fun x hx => wf8 (hw x hx)

theorem drawScore (code : List Int) (hl : code.length ≤ 140737488351232) (hc : ∀ x ∈ code, 0 ≤ x ∧ x ≤ 255) : ∃ a b c d v t, Ev (fun k => spec_DrawContractScore.f k code) (a, b, c, d, v, t) ∧ (0 ≤ a ∧ a ≤ 8) ∧ (-1 ≤ t ∧ t ≤ 14) := by
  unfold spec_DrawContractScore.f
  obtain ⟨s, e, hs⟩ := l01From code hl hc
  obtain ⟨a, b, c, d, p1, s1, e1, ha, hb, hcc, hd, h1⟩ := drawContract code hl hc 0 s hs
  obtain ⟨v, p2, s2, e2, v0, v1, h2⟩ := l01Next code hl hc p1 s1 2 h1
  obtain ⟨t, p3, s3, e3, t0, t1, h3⟩ := l01Next code hl hc p2 s2 15 h2
  obtain ⟨u, p4, s4, e4, u0, u1, h4⟩ := l01Next code hl hc p3 s3 12 h3
  have hu : wrap64 (Int.tdiv u 11) = u / 11 := by rw [Int.tdiv_eq_ediv_of_nonneg u0, wrap_id (by omega) (by omega)]
  have ht : wrap64 (t - u / 11) = t - u / 11 := wrap_id (by omega) (by omega)
  refine ⟨a, b, c, d, v == 0, t - u / 11, Ev.bind e (evb e1 (evb e2 (evb e3 (evb e4 ?_)))), ha, by omega⟩
  simp only [hu, ht]
  exact Ev.now _
theorem penTable : ∀ (n : Fin 14) (c : Fin 3) (v : Bool), impl_PenaltyPoints.f 80 (n.val : Int) (c.val : Int) v = some (penM (n.val : Int) (c.val : Int) v, 0) ∧ (0 < n.val → 0 < penM (n.val : Int) (c.val : Int) v ∧ penM (n.val : Int) (c.val : Int) v ≤ 10000) := by decide +kernel
theorem ptsTable : ∀ (a : Fin 7) (b : Fin 5) (c : Fin 3), impl_contractPoints.f ((a.val : Int) + 1) (b.val : Int) (c.val : Int) 0 = some (ptsM ((a.val : Int) + 1) (b.val : Int) (c.val : Int)) ∧ 0 < ptsM ((a.val : Int) + 1) (b.val : Int) (c.val : Int) ∧
    ∀ (v : Bool) (t : Fin 14), (t.val : Int) < 6 + ((a.val : Int) + 1) ∨ ptsM ((a.val : Int) + 1) (b.val : Int) (c.val : Int) < scoreM ((a.val : Int) + 1) (b.val : Int) (c.val : Int) v (t.val : Int) := by decide +kernel
theorem pen_at {n c : Int} (v : Bool) (hn : 1 ≤ n ∧ n ≤ 13) (hc : 0 ≤ c ∧ c ≤ 2) : Ev (fun k => impl_PenaltyPoints.f k n c v) (penM n c v, 0) ∧ 0 < penM n c v ∧ penM n c v ≤ 10000 := by
  have e := all_fin2 14 3 (P := fun n c => impl_PenaltyPoints.f 80 n c v = some (penM n c v, 0) ∧ (0 < n → 0 < penM n c v ∧ penM n c v ≤ 10000)) (fun n c => ⟨(penTable n c v).1, fun h => (penTable n c v).2 (by omega)⟩) (x := n) (y := c) (by omega) (by omega) hc.1 (by omega)
  exact ⟨Ev.of (fun k => impl_PenaltyPoints.mono _ _ _ _) e.1, e.2 (by omega)⟩
theorem pts_at {a b c t : Int} (d : Int) (v : Bool) (h : RangesM a b c d) (ht : 0 ≤ t ∧ t ≤ 13) : impl_ContractPoints.f a b c d = some (ptsM a b c, 0) ∧ 0 < ptsM a b c ∧ (t < 6 + a ∨ ptsM a b c < scoreM a b c v t) := by
  have hi : impl_IsContract.f a b c d = some true := by rw [implIsContract]; congr 1; exact decide_eq_true (.inr h)
  obtain ⟨h1, h2, h3, h4, h5, h6, h7, h8⟩ := h
  have e := all_fin3 7 5 3 (P := fun i b c => impl_contractPoints.f (i + 1) b c 0 = some (ptsM (i + 1) b c) ∧ 0 < ptsM (i + 1) b c ∧ ∀ (v : Bool) (t : Fin 14), (t.val : Int) < 6 + (i + 1) ∨ ptsM (i + 1) b c < scoreM (i + 1) b c v (t.val : Int)) ptsTable (x := a - 1) (y := b) (z := c) (by omega) (by omega) h3 (by omega) h5 (by omega)
  simp only [Int.sub_add_cancel] at e
  obtain ⟨e1, e2, e3⟩ := e
  have e4 := e3 v ⟨t.toNat, by omega⟩
  simp only [Int.toNat_of_nonneg ht.1] at e4
  refine ⟨?_, e2, e4⟩
  unfold impl_ContractPoints.f
  have e0 : impl_contractPoints.f a b c d = impl_contractPoints.f a b c 0 := rfl
  rw [hi, Option.bind_some, if_pos rfl, e0, e1, Option.bind_some]
theorem FnMade : laws_FnMade.Pure := by
  intro l hl hl1 hw
  refine Ev.rounds ?_
  unfold laws_FnMade.f
  refine evb (bigCode l) ?_
  by_cases hb : (l.length : Int) > 4096
  · exact ifp (by simpa using hb) (Ev.now _)
  · refine ifn (by simpa using hb) ?_
    obtain ⟨a, b, c, d, v, t, e, ha, ht⟩ := drawScore l (by omega) (bytesOk hw)
    obtain ⟨r, h1, h2, h3, h4, h5⟩ := contractScore_both a b c d v t
    refine Ev.bind e (Ev.bind h2 (Ev.bind h1 (ifp rfl ?_)))
    have hbad : r.2 ≠ 0 → r.1 = 0 → Ev (fun n => if r.2 = 0 then laws_FnMade.j0 n v t r.1 (a == 0) a b c d else laws_FnMade.j0 n v t r.1 true a b c d) true := by
      intro n1 n2
      refine ifn n1 (Ev.step (fun k => by rw [laws_FnMade.j0]) (ifp rfl ?_))
      rw [n2]
      exact Ev.now _
    by_cases hC : PassedM a b c d ∨ RangesM a b c d
    · by_cases hT : 0 ≤ t ∧ t ≤ 13
      · obtain rfl := h5 hC hT
        refine ifp rfl (Ev.step (fun k => by rw [laws_FnMade.j0]) ?_)
        rcases hC with ⟨rfl, rfl, rfl, rfl⟩ | hR
        · exact ifp rfl (Ev.now _)
        · have hR' := hR
          obtain ⟨g1, g2, g3, g4, g5, g6, g7, g8⟩ := hR'
          refine ifn (by simp; omega) ?_
          have e6 : wrap64 (6 + a) = 6 + a := wrap_id (by omega) (by omega)
          have es : scoreAny a b c v t = scoreM a b c v t := by unfold scoreAny; rw [if_neg (by omega)]
          simp only [e6, es]
          by_cases hm : t < 6 + a
          · refine ifp hm ?_
            have e7 : wrap64 (6 + a - t) = 6 + a - t := wrap_id (by omega) (by omega)
            obtain ⟨p1, p2, p3⟩ := pen_at (n := 6 + a - t) (c := c) v (by omega) ⟨g5, g6⟩
            rw [e7]
            refine Ev.bind p1 ?_
            have e8 : wrap64 (-penM (6 + a - t) c v) = -penM (6 + a - t) c v := wrap_id (by omega) (by omega)
            have e9 : scoreM a b c v t = -penM (6 + a - t) c v := by unfold scoreM; rw [if_pos (by omega)]
            simp only [e8]
            refine ifp e9 (Ev.congr (fun _ => ?_) (Ev.now true))
            congr 1
            exact decide_eq_true p2
          · refine ifn hm ?_
            obtain ⟨q1, q2, q3⟩ := pts_at d v hR hT
            refine evb q1 (ifp (by simp only; omega) (Ev.congr (fun _ => ?_) (Ev.now true)))
            congr 1
            exact decide_eq_true q2
      · obtain rfl := h4 hC hT
        exact hbad (by decide) rfl
    · obtain rfl := h3 hC
      exact hbad (by decide) rfl

end Go.Proofs.Ytlcmikhaejfnnaa.Pure
