/- Small words on kids for the walks of chapter 14. -/
import Derived.Test.YtbcojkfndegjmaaAwake14
namespace Go.Proofs.Ytbcojkfndegjmaa
open Go.RowKit
set_option linter.unusedVariables false
theorem icell (ps : List Int) (i : Nat) (x : Int) (h : ps[i]? = some x) : (icells ps)[i]? = some (.int .i64 x) := by
  have hl := (List.getElem?_eq_some_iff.1 h).1
  have := flat1 ps i hl
  rw [(List.getElem?_eq_some_iff.1 h).2] at this
  exact this
theorem near_closed (l : List Kd) (h1 : l.length ≤ 201) (h2 : ∀ k ∈ l, nearK k = true) : stackF l false false = ⟨⟨(runK l false).ps, max 0 (totC l), ⟨0, 0⟩, ⟨0, 0⟩, false⟩, 0⟩ := by
  rw [near_stack h1 h2]
  unfold fin
  rw [(closed l).1, (closed l).2]
  rfl
theorem kcells_snoc (l : List Kd) (k : Kd) : kcells (l ++ [k]) = kcells l ++ [.int .i64 k.tp.up, .int .i64 k.tp.dn, .int .i64 k.bt.up, .int .i64 k.bt.dn, .int .i64 k.ht, .bool k.th] := by simp [kcells, Kd.cs]
theorem info48 : (Try.prog.info? 48).map (fun i => (i.zero, i.size, i.bytes)) = some (some (.agg #[.int .i64 0, .int .i64 0, .int .i64 0, .int .i64 0, .int .i64 0, .bool false]), 6, 48) := by kernel_rfl
theorem kcells_one (l : List Kd) : ∀ u ∈ kcells l, u.oneCell' = true := by
  intro u hu
  simp only [kcells, List.mem_flatMap, Kd.cs] at hu
  obtain ⟨s, _, hs⟩ := hu
  simp at hs
  rcases hs with rfl | rfl | rfl | rfl | rfl | rfl <;> rfl
theorem near_sw {k : Kd} (h : nearK k = true) : nearK (sw k) = true := by
  simp only [nearK, Bool.and_eq_true] at h ⊢
  obtain ⟨⟨⟨⟨h1, h2⟩, h3⟩, h4⟩, h5⟩ := h
  exact ⟨⟨⟨⟨h1, h2⟩, rfl⟩, h5⟩, h4⟩
theorem near_turn (l : List Kd) (h : ∀ k ∈ l, nearK k = true) : ∀ k ∈ turn l, nearK k = true := by
  intro k hk
  simp only [turn, List.mem_reverse, List.mem_map] at hk
  obtain ⟨x, hx, rfl⟩ := hk
  exact near_sw (h x hx)
end Go.Proofs.Ytbcojkfndegjmaa
