/- Plain helpers for the proofs of this seat: numbers of 64 bits, ranges that are tried one by one, rounds of loops. Conditions: none. -/
import Derived.Test.YtlcmikhaejfnnaaWMore
namespace Go.Proofs.Ytlcmikhaejfnnaa.Kit
open Go.RowKit Go.Proofs.YtlcmikhaejfnnaaW.PrintWords Go.Proofs.YtlcmikhaejfnnaaW.PrintMore
set_option linter.unusedVariables false
set_option linter.unusedSimpArgs false

theorem wrap_id {x : Int} (h0 : -9223372036854775808 ≤ x) (h1 : x ≤ 9223372036854775807) : wrap64 x = x := by
  unfold wrap64
  omega

theorem wf64 {x : Int} (h : (Lit.int .i64 x).wf = true) : -9223372036854775808 ≤ x ∧ x ≤ 9223372036854775807 := by
  have e : (Lit.int .i64 x).wf = (decide ((-9223372036854775808 : Int) ≤ x) && decide (x ≤ (9223372036854775807 : Int))) := rfl
  rw [e] at h
  simpa using h

theorem wf8 {x : Int} (h : (Lit.int .u8 x).wf = true) : 0 ≤ x ∧ x ≤ 255 := by
  have e : (Lit.int .u8 x).wf = (decide ((0 : Int) ≤ x) && decide (x ≤ (255 : Int))) := rfl
  rw [e] at h
  simpa using h

theorem all_fin (n : Nat) {P : Int → Prop} (h : ∀ i : Fin n, P (i.val : Int)) {x : Int} (h0 : 0 ≤ x) (h1 : x < n) : P x := by
  have e := h ⟨x.toNat, by omega⟩
  have e2 : ((x.toNat : Nat) : Int) = x := Int.toNat_of_nonneg h0
  simpa [e2] using e

theorem all_fin2 (n m : Nat) {P : Int → Int → Prop} (h : ∀ (i : Fin n) (j : Fin m), P (i.val : Int) (j.val : Int)) {x y : Int} (h0 : 0 ≤ x) (h1 : x < n) (g0 : 0 ≤ y) (g1 : y < m) : P x y :=
  all_fin n (P := fun x => P x y) (fun i => all_fin m (P := fun y => P (i.val : Int) y) (fun j => h i j) g0 g1) h0 h1

theorem all_fin3 (n m l : Nat) {P : Int → Int → Int → Prop} (h : ∀ (i : Fin n) (j : Fin m) (k : Fin l), P (i.val : Int) (j.val : Int) (k.val : Int)) {x y z : Int} (h0 : 0 ≤ x) (h1 : x < n) (g0 : 0 ≤ y) (g1 : y < m) (f0 : 0 ≤ z) (f1 : z < l) : P x y z :=
  all_fin2 n m (P := fun x y => P x y z) (fun i j => all_fin l (P := fun z => P (i.val : Int) (j.val : Int) z) (fun k => h i j k) f0 f1) h0 h1 g0 g1

/-! ### Rounds -/
theorem ifp {α : Type} {c : Prop} [Decidable c] {f g : Nat → Option α} {r : α} (h : c) (k : Ev f r) : Ev (fun n => if c then f n else g n) r :=
  Ev.congr (fun n => if_pos h) k
theorem ifn {α : Type} {c : Prop} [Decidable c] {f g : Nat → Option α} {r : α} (h : ¬ c) (k : Ev g r) : Ev (fun n => if c then f n else g n) r :=
  Ev.congr (fun n => if_neg h) k
/-- A callee without rounds. -/
theorem evb {α β : Type} {o : Option α} {f : Nat → α → Option β} {a : α} {r : β} (h : o = some a) (k : Ev (fun n => f n a) r) : Ev (fun n => o.bind (f n)) r := by
  subst h
  exact k

/-! ### Lists -/
theorem rd_nat (xs : List Int) (i : Nat) : rd xs (i : Int) = xs.getD i 0 := by simp [rd]
theorem drop_rd {xs : List Int} {i : Int} (h0 : 0 ≤ i) (h1 : i < xs.length) : xs.drop i.toNat = rd xs i :: xs.drop (i + 1).toNat := by
  have hlt : i.toNat < xs.length := by omega
  rw [List.drop_eq_getElem_cons hlt, show (i + 1).toNat = i.toNat + 1 by omega]
  congr 1
  simp [rd, List.getD_eq_getElem?_getD, hlt]
theorem take_rd {xs : List Int} {i : Int} (h0 : 0 ≤ i) (h1 : i < xs.length) : xs.take (i + 1).toNat = xs.take i.toNat ++ [rd xs i] := by
  have hlt : i.toNat < xs.length := by omega
  rw [show (i + 1).toNat = i.toNat + 1 by omega, List.take_succ_eq_append_getElem hlt]
  congr 2
  simp [rd, List.getD_eq_getElem?_getD, hlt]
theorem rd_mem {xs : List Int} {i : Int} (h0 : 0 ≤ i) (h1 : i < xs.length) : rd xs i ∈ xs := by
  have hlt : i.toNat < xs.length := by omega
  have : rd xs i = xs[i.toNat] := by simp [rd, List.getD_eq_getElem?_getD, hlt]
  rw [this]
  exact List.getElem_mem hlt
/-- a, a + 1, .. -/
def seqFrom (a : Int) (n : Nat) : List Int := (List.range n).map fun i : Nat => a + (i : Int)
theorem seq_length (a : Int) (n : Nat) : (seqFrom a n).length = n := by simp [seqFrom]
theorem seq_succ (a : Int) (n : Nat) : seqFrom a (n + 1) = seqFrom a n ++ [a + (n : Int)] := by simp [seqFrom, List.range_succ]
theorem rd_seq {a : Int} {n : Nat} {i : Int} (h0 : 0 ≤ i) (h1 : i < n) : rd (seqFrom a n) i = a + i := by
  have hlt : i.toNat < n := by omega
  simp [rd, seqFrom, List.getD_eq_getElem?_getD, hlt]
  omega
theorem set_append_drop (ys xs : List Int) (i : Nat) (x : Int) (h : ys.length = i) (hi : i < xs.length) : (ys ++ xs.drop i).set i x = (ys ++ [x]) ++ xs.drop (i + 1) := by
  subst h
  rw [List.drop_eq_getElem_cons hi, List.set_append_right _ _ (Nat.le_refl _), Nat.sub_self, List.set_cons_zero, List.append_assoc]
  rfl
theorem rd_left (xs ys : List Int) {i : Int} (h0 : 0 ≤ i) (h1 : i < xs.length) : rd (xs ++ ys) i = rd xs i := by
  have hlt : i.toNat < xs.length := by omega
  simp [rd, List.getD_eq_getElem?_getD, List.getElem?_append_left hlt]
theorem rd_last (xs : List Int) (c : Int) : rd (xs ++ [c]) (xs.length : Int) = c := by simp [rd, List.getD_eq_getElem?_getD]
end Go.Proofs.Ytlcmikhaejfnnaa.Kit
