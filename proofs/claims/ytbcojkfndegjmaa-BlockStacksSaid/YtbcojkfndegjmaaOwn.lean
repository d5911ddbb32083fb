/- Slices of the call's own: kept below, read as lists. -/
import Derived.Test.YtbcojkfndegjmaaMAwake
import Derived.OwnWalk
namespace Go.Proofs.Ytbcojkfndegjmaa
open Go.RowKit
theorem own_below {w w' : World} {base : Nat} {e : TypeId} {size n : Nat} {v : Value} {xs : List Value} (h : w.ownsRow base e size v n xs) (hb : Below w.heap.size w w') : w'.ownsRow base e size v n xs :=
  h.kept (row := none) ⟨hb.os, hb.tape, hb.output, hb.size, fun k hk _ => hb.block k hk⟩ (by cases v.ownBlock <;> simp)
theorem own_slice {w : World} {base : Nat} {e : TypeId} {size n : Nat} {v : Value} {xs : List Value} (h : w.ownsRow base e size v n xs) : ∃ A c, v = .slice A n c ∧ Rd w w.heap.size size A n xs := by
  have h' := h
  rcases h'.2 with ⟨rfl, rfl⟩ | ⟨g, cap, cur, rfl, _⟩
  · exact ⟨none, 0, rfl, Rd.of_own h⟩
  · exact ⟨_, _, rfl, Rd.of_own h⟩
theorem info24 : (Try.prog.info? 24).map (fun i => (i.zero, i.size, i.bytes)) = some (some (.agg #[.int .i64 0, .int .i64 0]), 2, 16) := by kernel_rfl
theorem mcells_snoc (l : List Mg) (x : Mg) : mcells (l ++ [x]) = mcells l ++ [.int .i64 x.up, .int .i64 x.dn] := by simp [mcells, Mg.cs]
theorem below_grown {w w1 w2 : World} {o : Obj} {v : Value} {e : TypeId} {size n : Nat} {xs : List Value} (h : Below w.heap.size w w1) (hown : w1.ownsRow w.heap.size e size v n xs) (hg : (w1.alloc o).grownBy w2 v.ownBlock) : Below w.heap.size w w2 :=
  (below_al h o).grown hg (below_al h o).size (fun k hk => (hown.lt k hk).1)
end Go.Proofs.Ytbcojkfndegjmaa
