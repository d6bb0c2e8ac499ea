/- A bid is determined by its level and strain, and the lowest bid of a strain above a call is the smallest number that is one, whatever bytes the call and the strain are drawn from. Conditions: a list of bytes. -/
import Derived.Test.YtbbndelebdackaaPFnBidsx2
import Derived.Test.YtbbndelebdackaaKit
namespace Go.Proofs.Ytbbndelebdackaa.Pure
open Go.RowKit Go.Proofs.Ytbbndelebdackaa.PFnBids Go.Proofs.YtbbndelebdackaaW.PrintWords Go.Proofs.YtbbndelebdackaaW.PrintLast Go.Proofs.YtbbndelebdackaaW.PrintMore Go.Proofs.Ytbbndelebdackaa.Kit
set_option linter.unusedVariables false
set_option linter.unusedSimpArgs false

theorem rd_byte {xs : List Int} (hx : ∀ x ∈ xs, 0 ≤ x ∧ x ≤ 255) (i : Int) : 0 ≤ rd xs i ∧ rd xs i ≤ 255 := by
  unfold rd
  by_cases h : i.toNat < xs.length
  · have e : xs.getD i.toNat 0 = xs[i.toNat] := by simp [List.getD_eq_getElem?_getD, h]
    rw [e]
    exact hx _ (List.getElem_mem h)
  · have e : xs.getD i.toNat 0 = 0 := by simp [List.getD_eq_getElem?_getD, List.getElem?_eq_none (Nat.not_lt.1 h)]
    omega
/-- The source of numbers: the place in the code, the seed. -/
def Src (code : List Int) (at_ seed : Int) : Prop := 0 ≤ at_ ∧ at_ ≤ code.length ∧ 0 ≤ seed ∧ seed < 2147483647
theorem next_seed {seed : Int} (h0 : 0 ≤ seed) (h1 : seed < 2147483647) : ∃ s, Int.tmod (wrap64 (wrap64 (seed * 48271) + 13)) 2147483647 = s ∧ 0 ≤ s ∧ s < 2147483647 := by
  refine ⟨_, rfl, ?_⟩
  rw [wrap_id (x := seed * 48271) (by omega) (by omega), wrap_id (by omega) (by omega)]
  exact ⟨Int.tmod_nonneg _ (by omega), Int.tmod_lt_of_pos _ (by omega)⟩
theorem l01Next (code : List Int) (hl : code.length ≤ 140737488351232) (hc : ∀ x ∈ code, 0 ≤ x ∧ x ≤ 255) (at_ seed n : Int) (h : Src code at_ seed) :
    ∃ r at' seed', spec_l01Next.f code at_ seed n = some (r, at', seed') ∧ 0 ≤ r ∧ (r < n ∨ (n ≤ 1 ∧ r = 0)) ∧ Src code at' seed' := by
  obtain ⟨h0, h1, h2, h3⟩ := h
  unfold spec_l01Next.f
  by_cases n1 : n ≤ 1
  · exact ⟨0, at_, seed, by rw [if_pos n1], by omega, .inr ⟨n1, rfl⟩, h0, h1, h2, h3⟩
  · rw [if_neg n1]
    obtain ⟨s, es, s0, s1⟩ := next_seed h2 h3
    rw [es]
    have hq : 0 ≤ Int.tdiv s 13 ∧ Int.tdiv s 13 ≤ 2147483647 := by
      rw [Int.tdiv_eq_ediv_of_nonneg s0]
      omega
    by_cases ha : at_ < code.length
    · rw [if_pos ha, if_pos h0]
      have e1 : wrap64 (at_ + 1) = at_ + 1 := wrap_id (by omega) (by omega)
      have e2 : wrap64 (at_ + 1 - 1) = at_ := by rw [wrap_id (by omega) (by omega)]; omega
      rw [e1, e2]
      have hb := rd_byte hc at_
      have e3 : wrap64 (rd code at_) = rd code at_ := wrap_id (by omega) (by omega)
      have e4 : wrap64 (wrap64 (Int.tdiv s 13) + wrap64 (rd code at_)) = Int.tdiv s 13 + rd code at_ := by
        rw [wrap_id (x := Int.tdiv s 13) (by omega) (by omega), e3, wrap_id (by omega) (by omega)]
      rw [e4, e3]
      by_cases n2 : n ≤ 256
      · rw [if_pos n2]
        by_cases n3 : Int.tmod (at_ + 1) 2 = 0
        · rw [if_pos n3, if_pos h0, if_pos ha, if_neg (by omega)]
          exact ⟨_, _, _, rfl, Int.tmod_nonneg _ (by omega), .inl (Int.tmod_lt_of_pos _ (by omega)), by omega, by omega, s0, s1⟩
        · rw [if_neg n3, if_neg (by omega)]
          exact ⟨_, _, _, rfl, Int.tmod_nonneg _ (by omega), .inl (Int.tmod_lt_of_pos _ (by omega)), by omega, by omega, s0, s1⟩
      · rw [if_neg n2, if_neg (by omega)]
        exact ⟨_, _, _, rfl, Int.tmod_nonneg _ (by omega), .inl (Int.tmod_lt_of_pos _ (by omega)), by omega, by omega, s0, s1⟩
    · rw [if_neg ha, if_neg (by omega)]
      have e4 : wrap64 (Int.tdiv s 13) = Int.tdiv s 13 := wrap_id (by omega) (by omega)
      rw [e4]
      exact ⟨_, _, _, rfl, Int.tmod_nonneg _ (by omega), .inl (Int.tmod_lt_of_pos _ (by omega)), h0, h1, s0, s1⟩
theorem from_seed {x b : Int} (h0 : 0 ≤ x) (h1 : x < 2147483647) (hb : 0 ≤ b ∧ b ≤ 255) : ∃ s, Int.tmod (wrap64 (wrap64 (x * 41) + wrap64 b)) 2147483647 = s ∧ 0 ≤ s ∧ s < 2147483647 := by
  refine ⟨_, rfl, ?_⟩
  rw [wrap_id (x := x * 41) (by omega) (by omega), wrap_id (x := b) (by omega) (by omega), wrap_id (by omega) (by omega)]
  exact ⟨Int.tmod_nonneg _ (by omega), Int.tmod_lt_of_pos _ (by omega)⟩
theorem l01From_l0 (code : List Int) (hl : code.length ≤ 140737488351232) (hc : ∀ x ∈ code, 0 ≤ x ∧ x ≤ 255) : ∀ (d : Nat) (i seed : Int), 0 ≤ i → i + d = code.length → 0 ≤ seed → seed < 2147483647 →
    ∃ s, Ev (fun k => spec_l01From.l0 k code i code 0 seed) (code, 0, s) ∧ 0 ≤ s ∧ s < 2147483647 := by
  intro d
  induction d with
  | zero =>
    intro i seed h0 hd s0 s1
    refine ⟨seed, Ev.step (fun k => by rw [spec_l01From.l0]) (ifn (by omega) (Ev.now _)), s0, s1⟩
  | succ d ih =>
    intro i seed h0 hd s0 s1
    have e1 : wrap64 (i + 1) = i + 1 := wrap_id (by omega) (by omega)
    by_cases h64 : i < 64
    · obtain ⟨s, es, t0, t1⟩ := from_seed s0 s1 (rd_byte hc i)
      obtain ⟨s', hs', u0, u1⟩ := ih (i + 1) s (by omega) (by omega) t0 t1
      refine ⟨s', Ev.step (fun k => by rw [spec_l01From.l0]) ?_, u0, u1⟩
      rw [e1, es]
      exact ifp (by omega) (ifp h64 (ifp h0 hs'))
    · exact ⟨seed, Ev.step (fun k => by rw [spec_l01From.l0]) (ifp (by omega) (ifn h64 (Ev.now _))), s0, s1⟩
theorem l01From (code : List Int) (hl : code.length ≤ 140737488351232) (hc : ∀ x ∈ code, 0 ≤ x ∧ x ≤ 255) : ∃ s, Ev (fun k => spec_l01From.f k code) (code, 0, s) ∧ Src code 0 s := by
  obtain ⟨s, hs, s0, s1⟩ := l01From_l0 code hl hc code.length 0 86421 (by omega) (by omega) (by omega) (by omega)
  exact ⟨s, hs, by omega, by omega, s0, s1⟩

theorem l06Draw_j0 (code : List Int) (hl : code.length ≤ 140737488351232) (hc : ∀ x ∈ code, 0 ≤ x ∧ x ≤ 255) (b : Bool) (at_ seed : Int) (h : Src code at_ seed) :
    ∃ c at' seed', Ev (fun k => spec_l06Draw.j0 k b code at_ seed) (c, at', seed') ∧ 0 ≤ c ∧ c ≤ 37 ∧ Src code at' seed' := by
  cases b with
  | true =>
    obtain ⟨r, a, s, e, r0, r1, hs⟩ := l01Next code hl hc at_ seed 3 h
    refine ⟨r, a, s, Ev.step (fun k => by rw [spec_l06Draw.j0]) (ifp rfl (evb e (Ev.now _))), r0, by omega, hs⟩
  | false =>
    obtain ⟨r, a, s, e, r0, r1, hs⟩ := l01Next code hl hc at_ seed 35 h
    have e2 : wrap64 (3 + r) = 3 + r := wrap_id (by omega) (by omega)
    refine ⟨3 + r, a, s, Ev.step (fun k => by rw [spec_l06Draw.j0]) (ifn (by decide) (evb e ?_)), by omega, by omega, hs⟩
    simp only [e2]
    exact Ev.now _
theorem l06Draw (code : List Int) (hl : code.length ≤ 140737488351232) (hc : ∀ x ∈ code, 0 ≤ x ∧ x ≤ 255) (at_ seed : Int) (h : Src code at_ seed) :
    ∃ c at' seed', Ev (fun k => spec_l06Draw.f k code at_ seed) (c, at', seed') ∧ ((-1 ≤ c ∧ c ≤ 38) ∨ c = 1000) ∧ Src code at' seed' := by
  obtain ⟨r, a, s, e, r0, r1, hs⟩ := l01Next code hl hc at_ seed 12 h
  unfold spec_l06Draw.f
  by_cases h0 : r = 0
  · obtain ⟨q, a', s', e', q0, q1, hs'⟩ := l01Next code hl hc a s 3 hs
    refine ⟨rd [-1, 38, 1000] q, a', s', evb e (ifp h0 (evb rfl (evb e' (ifp q0 (ifp (by simp; omega) (Ev.now _)))))), ?_, hs'⟩
    have : q = 0 ∨ q = 1 ∨ q = 2 := by omega
    rcases this with rfl | rfl | rfl
    · left; decide
    · left; decide
    · right; decide
  · have hj : ∀ b, ∃ c at' seed', Ev (fun k => spec_l06Draw.j0 k b code a s) (c, at', seed') ∧ ((-1 ≤ c ∧ c ≤ 38) ∨ c = 1000) ∧ Src code at' seed' := by
      intro b
      obtain ⟨c, a', s', e', c0, c1, hs'⟩ := l06Draw_j0 code hl hc b a s hs
      exact ⟨c, a', s', e', .inl (by omega), hs'⟩
    by_cases h1 : r = 1
    · obtain ⟨c, a', s', e', hc', hs'⟩ := hj (r == 1)
      exact ⟨c, a', s', evb e (ifn h0 (ifp h1 e')), hc', hs'⟩
    · by_cases h2 : r = 2
      · obtain ⟨c, a', s', e', hc', hs'⟩ := hj (r == 2)
        exact ⟨c, a', s', evb e (ifn h0 (ifn h1 (ifp h2 e'))), hc', hs'⟩
      · obtain ⟨c, a', s', e', hc', hs'⟩ := hj (r == 3)
        exact ⟨c, a', s', evb e (ifn h0 (ifn h1 (ifn h2 e'))), hc', hs'⟩

theorem bigCode (l : List Int) : laws_big.f l = some (decide ((l.length : Int) > 4096)) := rfl
theorem bytesOk {l : List Int} (hw : ∀ x ∈ l, (Lit.int .u8 x).wf = true) : ∀ x ∈ l, 0 ≤ x ∧ x ≤ 255 := fun x hx => wf8 (hw x hx)

theorem drawLowestBid (code : List Int) (hl : code.length ≤ 140737488351232) (hc : ∀ x ∈ code, 0 ≤ x ∧ x ≤ 255) : ∃ c s, Ev (fun k => spec_DrawLowestBid.f k code) (c, s) ∧ ((-1 ≤ c ∧ c ≤ 38) ∨ c = 1000) ∧ -1 ≤ s ∧ s ≤ 5 := by
  unfold spec_DrawLowestBid.f
  obtain ⟨s, e, hs⟩ := l01From code hl hc
  obtain ⟨c, a, s', e', hc', hs'⟩ := l06Draw code hl hc 0 s hs
  obtain ⟨r, a2, s2, e2, r0, r1, _⟩ := l01Next code hl hc a s' 7 hs'
  have e3 : wrap64 (r - 1) = r - 1 := wrap_id (by omega) (by omega)
  refine ⟨c, r - 1, Ev.bind e (Ev.bind e' (evb e2 ?_)), hc', by omega, by omega⟩
  simp only [e3]
  exact Ev.now _
def rest (c s : Int) : Option Bool := (impl_LowestBid.f 60 c s).bind fun t => laws_FnBids.l0 60 c s t (-1) 37
theorem rest_in (c s : Int) (hc : (-1 ≤ c ∧ c ≤ 38) ∨ c = 1000) (hs : -1 ≤ s ∧ s ≤ 5) : rest c s = some true := by
  rcases hc with hc | rfl
  · have e := all_fin2 40 7 (P := fun x y => rest (x - 1) (y - 1) = some true) (by decide +kernel) (x := c + 1) (y := s + 1) (by omega) (by omega) (by omega) (by omega)
    simpa using e
  · have e := all_fin 7 (P := fun y => rest 1000 (y - 1) = some true) (by decide +kernel) (x := s + 1) (by omega) (by omega)
    simpa using e
theorem FnBids : laws_FnBids.Pure := by
  intro l hl hl1 hw
  refine Ev.rounds ?_
  unfold laws_FnBids.f
  refine evb (bigCode l) ?_
  by_cases hb : (l.length : Int) > 4096
  · exact ifp (by simpa using hb) (Ev.now _)
  · refine ifn (by simpa using hb) ?_
    obtain ⟨c, s, e, hc, hs⟩ := drawLowestBid l (by omega) (bytesOk hw)
    refine Ev.bind e ?_
    refine Ev.of (k := 60) (fun k => LeO.bind (impl_LowestBid.mono _ _ _) (fun _ => (laws_FnBids.mono_l k).1 _ _ _ _ _)) ?_
    exact rest_in c s hc hs

end Go.Proofs.Ytbbndelebdackaa.Pure
