/- Scores of contract bridge in plain Lean: contract points, penalties, scores, by closed formulas. Conditions: none. -/
import Derived.Test.YtlcmikhaejfnnaaKit
namespace Go.Proofs.Ytlcmikhaejfnnaa.Sco
/-- What missing tricks cost. -/
def penM (n c : Int) (v : Bool) : Int :=
  if n ≤ 0 then 0
  else if c = 0 then n * (if v then 100 else 50)
  else c * (if v then 300 * n - 100 else if n ≤ 3 then 200 * n - 100 else 300 * n - 400)
def ptsM (a b c : Int) : Int := ((if b < 2 then 20 else 30) * a + (if b = 4 then 10 else 0)) * (if c = 0 then 1 else if c = 1 then 2 else 4)
def extraM (a b c : Int) (v : Bool) (o : Int) : Int :=
  (if a = 6 then (if v then 750 else 500) else if a = 7 then (if v then 1500 else 1000) else 0) + (if c = 0 then o * (if b < 2 then 20 else 30) else 50 * c + o * c * (if v then 200 else 100))
def scoreM (a b c : Int) (v : Bool) (t : Int) : Int :=
  if t - 6 - a < 0 then -penM (6 + a - t) c v
  else ptsM a b c + (if ptsM a b c < 100 then 50 else if v then 500 else 300) + extraM a b c v (t - 6 - a)
/-- A contract of four numbers is one: passed out, or in its ranges. -/
def PassedM (a b c d : Int) : Prop := a = 0 ∧ b = 0 ∧ c = 0 ∧ d = 0
def RangesM (a b c d : Int) : Prop := 1 ≤ a ∧ a ≤ 7 ∧ 0 ≤ b ∧ b ≤ 4 ∧ 0 ≤ c ∧ c ≤ 2 ∧ 0 ≤ d ∧ d ≤ 3
/-- Is a side vulnerable. -/
def vulM (v d : Int) : Bool := decide (v = 3 ∨ (v = 1 ∧ d % 2 = 0) ∨ (v = 2 ∧ d % 2 = 1))
end Go.Proofs.Ytlcmikhaejfnnaa.Sco
