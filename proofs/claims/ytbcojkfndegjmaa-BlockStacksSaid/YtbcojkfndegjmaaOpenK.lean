/- How kids that came in read. -/
import Derived.Test.YtbcojkfndegjmaaOpen
import Derived.Test.YtbcojkfndegjmaaCheck
namespace Go.Proofs.Ytbcojkfndegjmaa
open Go.ChangeShapes Go.WideShapes Go.ChangeAt Go.RowKit Go.Deep Go.Joins

theorem cells48 : Try.prog.cellsOf 48 = 6 := by kernel_rfl
theorem cells4 : Try.prog.cellsOf 4 = 1 := by kernel_rfl
def Kd.fits (k : Kd) : Prop := k.tp.fits ∧ k.bt.fits ∧ i64 k.ht
section
variable {H : Type} {enc : TypeId × Value → H} {w : World} {base : Nat} {spare : Nat → Bool} {held : Bool}
theorem trod_kid {n : Nat} {cs : List Value} {x : DataW H × List MemPlace} (h : DataW.trod enc Try.prog w base spare held n 48 cs = some x) : ∃ m : Kd, cs = m.cs ∧ m.fits := by
  obtain ⟨xs, k, _, _, hlen, hxl, hf⟩ := DataW.trod_struct Try.underlying48 h
  rw [cells48] at hlen
  match cs, hlen with
  | [c0, c1, c2, c3, c4, c5], _ =>
    match xs, hxl with
    | [y0, y1, y2, y3], _ =>
      have f0 := hf 0 _ rfl
      have f1 := hf 1 _ rfl
      have f2 := hf 2 _ rfl
      have f3 := hf 3 _ rfl
      simp [cells3, cells4, cells24] at f0 f1 f2 f3
      obtain ⟨m, em, wm⟩ := trod_mg f0
      obtain ⟨m2, em2, wm2⟩ := trod_mg f1
      obtain ⟨a, ea, _, wa⟩ := DataW.trod_int Try.underlying3 f2
      obtain ⟨b, eb, _⟩ := DataW.trod_bool Try.underlying4 f3
      simp [Mg.cs] at em em2 ea eb
      exact ⟨⟨m, m2, a, b⟩, by simp [Kd.cs, em, em2, ea, eb], wm, wm2, i64_of wa⟩
theorem trod_kid_val {r : Reach} {b0 : Nat} {v : Value} {d : DataW H} {p : List MemPlace} (hv : Value.okWide Try.prog w r b0 48 v) (h : DataW.Trod enc Try.prog w base spare held 48 v d p) :
    ∃ m : Kd, v = .agg #[.int .i64 m.tp.up, .int .i64 m.tp.dn, .int .i64 m.bt.up, .int .i64 m.bt.dn, .int .i64 m.ht, .bool m.th] ∧ m.fits := by
  obtain ⟨⟨cs⟩, rfl, _⟩ := okWide_struct Try.underlying48 hv
  obtain ⟨fuel, hf⟩ := h
  obtain ⟨m, hm, hw⟩ := trod_kid hf
  simp [Value.cells, Kd.cs] at hm
  exact ⟨m, by rw [hm], hw⟩
theorem trod_kids {r : Reach} {b0 : Nat} {v : Value} {d : DataW H} {p : List MemPlace} (hv : Value.okWide Try.prog w r b0 38 v) (h : DataW.Trod enc Try.prog w base spare held 38 v d p) :
    ∃ (A : Option Addr) (cap : Nat) (l : List Kd), v = .slice A l.length cap ∧ cap ≤ maxLen ∧ l.length ≤ cap ∧ Rd w w.heap.size 6 A l.length (kcells l) ∧ ∀ m ∈ l, m.fits := by
  obtain ⟨A, len, cap, rfl⟩ := okWide_slice Try.underlying38 hv
  obtain ⟨fuel, hf⟩ := h
  obtain ⟨A', cap', l, he, h1, h2, h3, h4⟩ := read_slice Kd.cs 6 (fun _ => rfl) (by omega) Kd.fits Try.underlying38 cells48 (fun _ _ _ h => trod_kid h) hf
  simp [Value.cells] at he
  obtain ⟨rfl, rfl, rfl⟩ := he
  exact ⟨_, _, l, rfl, h1, h2, h3, h4⟩
end
end Go.Proofs.Ytbcojkfndegjmaa
