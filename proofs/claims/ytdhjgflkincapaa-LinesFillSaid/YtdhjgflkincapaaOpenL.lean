/- How a slice of items that came in reads. -/
import Derived.Test.YtdhjgflkincapaaOpen
import Derived.Test.YtdhjgflkincapaaLIs
namespace Go.Proofs.Ytdhjgflkincapaa
open Go.ChangeShapes Go.WideShapes Go.ChangeAt Go.RowKit Go.Deep Go.Joins

theorem cells27 : Try.prog.cellsOf 27 = 2 := by kernel_rfl
def It.wide (x : It) : Prop := (0 ≤ x.kd ∧ x.kd ≤ 255) ∧ i64 x.wd
section
variable {H : Type} {enc : TypeId × Value → H} {w : World} {base : Nat} {spare : Nat → Bool} {held : Bool}
theorem trod_item {n : Nat} {cs : List Value} {x : DataW H × List MemPlace} (h : DataW.trod enc Try.prog w base spare held n 27 cs = some x) : ∃ m : It, cs = m.cs ∧ m.wide := by
  obtain ⟨xs, k, _, _, hlen, hxl, hf⟩ := DataW.trod_struct Try.underlying27 h
  rw [cells27] at hlen
  match cs, hlen with
  | [c0, c1], _ =>
    match xs, hxl with
    | [y0, y1], _ =>
      have f0 := hf 0 _ rfl
      have f1 := hf 1 _ rfl
      simp [cells3, cells5] at f0 f1
      obtain ⟨a, ea, _, wa⟩ := DataW.trod_int Try.underlying5 f0
      obtain ⟨b, eb, _, wb⟩ := DataW.trod_int Try.underlying3 f1
      have ha := bounds_u8 wa
      simp at ea eb
      have h1 : 0 ≤ a := by omega
      have h2 : a ≤ 255 := by omega
      exact ⟨⟨a, b⟩, by simp [It.cs, ea, eb], ⟨h1, h2⟩, i64_of wb⟩
theorem trod_items {r : Reach} {b0 : Nat} {v : Value} {d : DataW H} {p : List MemPlace} (hv : Value.okWide Try.prog w r b0 22 v) (h : DataW.Trod enc Try.prog w base spare held 22 v d p) :
    ∃ (A : Option Addr) (cap : Nat) (l : List It), v = .slice A l.length cap ∧ cap ≤ maxLen ∧ l.length ≤ cap ∧ Rd w w.heap.size 2 A l.length (tcells l) ∧ ∀ m ∈ l, m.wide := by
  obtain ⟨A, len, cap, rfl⟩ := okWide_slice Try.underlying22 hv
  obtain ⟨fuel, hf⟩ := h
  obtain ⟨A', cap', l, he, h1, h2, h3, h4⟩ := read_slice It.cs 2 (fun _ => rfl) (by omega) It.wide Try.underlying22 cells27 (fun _ _ _ h => trod_item h) hf
  simp [Value.cells] at he
  obtain ⟨rfl, rfl, rfl⟩ := he
  exact ⟨_, _, l, rfl, h1, h2, h3, h4⟩
end
end Go.Proofs.Ytdhjgflkincapaa
