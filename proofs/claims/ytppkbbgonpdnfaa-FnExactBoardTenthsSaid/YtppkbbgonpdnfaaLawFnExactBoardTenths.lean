/- The row of the statement FnExactBoardTenths: over the printed contract of the law's function and the plain theorem. Conditions: those of the statement alone. -/
import Derived.Test.YtppkbbgonpdnfaaRows
import Derived.Test.YtppkbbgonpdnfaaPFnExactBoardTenthsx5
import Derived.Test.YtppkbbgonpdnfaaPureFnExactBoardTenths
import Derived.Test.YtppkbbgonpdnfaaOpen
import Derived.Test.YtppkbbgonpdnfaaWSized
import Derived.WalkKit
import Derived.ProofKit
import Derived.OpenShut
import Derived.ShutString
import Derived.ChangeOld
import Derived.Below
import Derived.SizedLaws
import Derived.Lib.SmallJoins
namespace Go.Proofs.Ytppkbbgonpdnfaa.fnExactBoardTenths
open Go.ChangeShapes Go.WideShapes Go.ChangeAt Go.RowKit Go.Proofs.YtppkbbgonpdnfaaW.PrintWords
open Go.ChangeMaps (open_string shut_string)
set_option linter.unusedVariables false
set_option linter.unusedSimpArgs false
theorem own : ownKnob Try.prog.godebug = none := by kernel_rfl
theorem laidOut : laidOutB Try.prog = true := by kernel_rfl
theorem opens_T58 {H : Type} {enc : TypeId × Value → H} {w : World} {base : Nat} {spare : Nat → Bool} {held : Bool} :
    Opn.Opens enc Try.prog w base spare held PFnExactBoardTenths.k58 58 (fun x => (Lit.int .i64 x.f0).wf = true ∧ (Lit.int .i64 x.f1).wf = true) :=
  ⟨by kernel_rfl, fun fuel cs y h => by
    have ci : Try.prog.cellsOf 2 = 1 := by kernel_rfl
    have ct : Try.prog.cellsOf 58 = 2 := by kernel_rfl
    obtain ⟨y0, y1, n, _, hl, h0, h1⟩ := trod_struct2 Try.underlying58 h
    rw [ct] at hl
    match cs, hl with
    | [c0, c1], _ =>
      simp [ci] at h0 h1
      obtain ⟨a0, e0, _, w0⟩ := DataW.trod_int Try.underlying2 h0
      obtain ⟨a1, e1, _, w1⟩ := DataW.trod_int Try.underlying2 h1
      simp at e0 e1
      subst e0 e1
      exact ⟨⟨a0, a1⟩, ⟨w0, w1⟩, PFnExactBoardTenths.k58_mk w ⟨a0, a1⟩⟩⟩
set_option maxRecDepth 100000 in
theorem lifted (os : Os) (started : os.Started) (H : Type) (enc : TypeId × Value → H) :
    ReturnsInHanded {} Try.checked os 8 .any (Rows.fnExactBoardTenthsSpec.pre6 enc Try.prog Try.f8 Rows.fnExactBoardTenthsRow.domain false) (Rows.fnExactBoardTenthsSpec.post enc Try.prog Try.f8 false true false false) := by
  refine returnsInHanded_of_change_sized (C := Try.checked) own started (by kernel_rfl) Try.func8
    (ChangeSpec.witness6 (enc := enc) (C := Try.checked) false ⟨#[], #[.slice none 0 0], []⟩ 8 (by kernel_rfl) (by kernel_rfl) (by kernel_rfl) (by kernel_rfl)) ?_
  intro W base args ds gs before hval0 hW hcnd hsz0 _
  have hval : ∀ (j : Nat) t v, Try.f8.params[j]? = some t → args[j]? = some v → Value.okWide Try.prog W .any base t v := hval0
  have hW' := hW
  obtain ⟨p, q, hA0, hV, rfl, hfz, hnd⟩ := hW
  have hA : DataW.TrodAll enc Try.prog W 0 (fun _ => true) true Try.f8.params.toList args.toList ds p := hA0
  have hsz : (DataW.weightsEach Try.prog (Try.f8.params.toList ++ Rows.fnExactBoardTenthsSpec.plain.varTypes Try.prog) (ds ++ gs)).all (· ≤ reachBytes) = true := hsz0
  rw [Try.params8] at hA hval hsz
  obtain ⟨v0, vs0, d0, ds0, p0, q0, hargs, rfl, rfl, h0, r0⟩ := trodAll_cons hA
  obtain ⟨rfl, rfl, rfl⟩ := trodAll_nil r0
  obtain rfl : args = #[v0] := by cases args; simp_all
  obtain ⟨rfl, rfl⟩ := trodVars_none hV
  have k0 := h0
  have lt0 : ∀ x ∈ p0, x.block < W.heap.size := by obtain ⟨m, hm⟩ := k0; exact DataW.trod_lt m _ _ _ hm
  obtain ⟨A0, n0, c0, rfl⟩ := okWide_slice Try.underlying22 (hval 0 22 v0 rfl rfl)
  obtain ⟨fuel0, hf0⟩ := h0
  obtain ⟨l0, rfl, hc0, hr0, g0⟩ := Opn.opens_row Try.underlying22 opens_T58 (by simpa [Value.cells] using hf0)
  clear hA0 hval0 hsz0 hsz
  obtain ⟨k, hk⟩ := Pure.FnExactBoardTenths _ hr0.2.1 g0
  refine (PFnExactBoardTenths.laws_FnExactBoardTenths.calls k _ _ _ true W hr0 hc0 hk).mono fun e W' ⟨he, bel⟩ => ?_
  subst he
  exact ⟨_, rfl, _, _, _, [], _, [], hW', trodAll_mk1 (shut_bool Try.underlying4 _), (trodAll_cons_mk (Below.trod laidOut (by kernel_rfl) (of_decide_eq_true (by kernel_rfl)) k0 bel lt0) trodAll_mk0), rfl, bel.frame _, fun h => by cases h⟩
theorem over : Rows.fnExactBoardTenthsRow.holds Try.pinned (OpenSpec.ofChange Rows.fnExactBoardTenthsSpec) :=
  OpenClaim.holds_of_wide 8 Try.f8 rfl rfl rfl rfl rfl rfl rfl ⟨rfl, rfl, rfl, rfl, rfl⟩ rfl rfl rfl rfl rfl (by kernel_rfl) Try.func8 (by kernel_rfl)
    (of_decide_eq_true (by kernel_rfl)) (by unfold Func.isWrapper; first | (rw [if_pos (by decide +kernel)]; kernel_rfl) | (rw [if_neg (by decide +kernel)]; exact ⟨rfl, rfl⟩))
    (fun os started H enc _ => lifted os started H enc)
theorem proved : Rows.FnExactBoardTenthsSaid := over
#print axioms proved
end Go.Proofs.Ytppkbbgonpdnfaa.fnExactBoardTenths
namespace Go.Proofs.Ytppkbbgonpdnfaa
theorem fnExactBoardTenths_holds : Rows.FnExactBoardTenthsSaid := fnExactBoardTenths.proved
end Go.Proofs.Ytppkbbgonpdnfaa
