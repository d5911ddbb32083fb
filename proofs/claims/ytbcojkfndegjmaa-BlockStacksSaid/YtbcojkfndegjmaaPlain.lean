/- Margins as pairs of integers, and what joining does: plain, nothing of the program. -/
namespace Go.Proofs.Ytbcojkfndegjmaa
/-- a margin: Up, Down -/
structure Mg where
  up : Int
  dn : Int
def mz : Mg := ⟨0, 0⟩
def mj (a b : Mg) : Mg := ⟨max a.up b.up, min a.dn b.dn⟩
def mJoin : List Mg → Mg
  | [] => mz
  | x :: r => r.foldl mj x
theorem mJoin_snoc (l : List Mg) (x : Mg) (h : l ≠ []) : mJoin (l ++ [x]) = mj (mJoin l) x := by
  cases l with
  | nil => exact absurd rfl h
  | cons y r => simp [mJoin, List.foldl_append]
def mayB (m : Mg) : Bool := decide (0 ≤ m.up) && decide (m.up ≤ 1099511627776) && decide (m.dn ≤ 0) && decide (-1099511627776 ≤ m.dn)
theorem mayB_iff (m : Mg) : mayB m = true ↔ 0 ≤ m.up ∧ m.up ≤ 1099511627776 ∧ m.dn ≤ 0 ∧ -1099511627776 ≤ m.dn := by
  simp [mayB, and_assoc]
end Go.Proofs.Ytbcojkfndegjmaa
