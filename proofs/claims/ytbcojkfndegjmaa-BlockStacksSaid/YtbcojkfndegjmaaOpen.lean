/- How margins and slices that came in read. -/
import Derived.Test.YtbcojkfndegjmaaMargin
import Derived.Test.YtbcojkfndegjmaaRead
import Derived.ProofKit
import Derived.OpenShut
import Derived.ShutString
import Derived.ChangeOld
import Derived.Lib.SmallJoins
namespace Go.Proofs.Ytbcojkfndegjmaa
open Go.ChangeShapes Go.WideShapes Go.ChangeAt Go.RowKit Go.Deep Go.Joins

theorem own : ownKnob Try.prog.godebug = none := by kernel_rfl
theorem laidOut : laidOutB Try.prog = true := by kernel_rfl
theorem cells24 : Try.prog.cellsOf 24 = 2 := by kernel_rfl
theorem cells3 : Try.prog.cellsOf 3 = 1 := by kernel_rfl

def i64 (n : Int) : Prop := -9223372036854775808 ≤ n ∧ n ≤ 9223372036854775807
def Mg.fits (m : Mg) : Prop := i64 m.up ∧ i64 m.dn
theorem i64_of {n : Int} (h : (Lit.int .i64 n).wf = true) : i64 n := bounds_i64 h

section
variable {H : Type} {enc : TypeId × Value → H} {w : World} {base : Nat} {spare : Nat → Bool} {held : Bool}
theorem trod_mg {n : Nat} {cs : List Value} {x : DataW H × List MemPlace} (h : DataW.trod enc Try.prog w base spare held n 24 cs = some x) : ∃ m : Mg, cs = m.cs ∧ m.fits := by
  obtain ⟨xs, k, _, _, hlen, hxl, hf⟩ := DataW.trod_struct Try.underlying24 h
  rw [cells24] at hlen
  match cs, hlen with
  | [c0, c1], _ =>
    match xs, hxl with
    | [y0, y1], _ =>
      have f0 := hf 0 _ rfl
      have f1 := hf 1 _ rfl
      simp [cells3] at f0 f1
      obtain ⟨a, ea, _, wa⟩ := DataW.trod_int Try.underlying3 f0
      obtain ⟨b, eb, _, wb⟩ := DataW.trod_int Try.underlying3 f1
      simp at ea eb
      exact ⟨⟨a, b⟩, by simp [Mg.cs, ea, eb], i64_of wa, i64_of wb⟩
theorem trod_mg_val {r : Reach} {b0 : Nat} {v : Value} {d : DataW H} {p : List MemPlace} (hv : Value.okWide Try.prog w r b0 24 v) (h : DataW.Trod enc Try.prog w base spare held 24 v d p) :
    ∃ m : Mg, v = .agg #[.int .i64 m.up, .int .i64 m.dn] ∧ m.fits := by
  obtain ⟨⟨cs⟩, rfl, _⟩ := okWide_struct Try.underlying24 hv
  obtain ⟨fuel, hf⟩ := h
  obtain ⟨m, hm, hw⟩ := trod_mg hf
  simp [Value.cells, Mg.cs] at hm
  exact ⟨m, by rw [hm], hw⟩
theorem trod_mgs {r : Reach} {b0 : Nat} {v : Value} {d : DataW H} {p : List MemPlace} (hv : Value.okWide Try.prog w r b0 22 v) (h : DataW.Trod enc Try.prog w base spare held 22 v d p) :
    ∃ (A : Option Addr) (cap : Nat) (l : List Mg), v = .slice A l.length cap ∧ cap ≤ maxLen ∧ l.length ≤ cap ∧ Rd w w.heap.size 2 A l.length (mcells l) ∧ ∀ m ∈ l, m.fits := by
  obtain ⟨A, len, cap, rfl⟩ := okWide_slice Try.underlying22 hv
  obtain ⟨fuel, hf⟩ := h
  obtain ⟨A', cap', l, he, h1, h2, h3, h4⟩ := read_slice Mg.cs 2 (fun _ => rfl) (by omega) Mg.fits Try.underlying22 cells24 (fun _ _ _ h => trod_mg h) hf
  simp [Value.cells] at he
  obtain ⟨rfl, rfl, rfl⟩ := he
  exact ⟨_, _, l, rfl, h1, h2, h3, h4⟩
theorem trod_ints {r : Reach} {b0 : Nat} {v : Value} {d : DataW H} {p : List MemPlace} (hv : Value.okWide Try.prog w r b0 35 v) (h : DataW.Trod enc Try.prog w base spare held 35 v d p) :
    ∃ (A : Option Addr) (cap : Nat) (l : List Int), v = .slice A l.length cap ∧ cap ≤ maxLen ∧ l.length ≤ cap ∧ Rd w w.heap.size 1 A l.length (l.flatMap fun n => [.int .i64 n]) ∧ ∀ m ∈ l, i64 m := by
  obtain ⟨A, len, cap, rfl⟩ := okWide_slice Try.underlying35 hv
  obtain ⟨fuel, hf⟩ := h
  obtain ⟨A', cap', l, he, h1, h2, h3, h4⟩ := read_slice (fun n : Int => [Value.int .i64 n]) 1 (fun _ => rfl) (by omega) i64 Try.underlying35 cells3 (fun _ _ _ h => by
    obtain ⟨n, rfl, _, hw⟩ := DataW.trod_int Try.underlying3 h
    exact ⟨n, rfl, i64_of hw⟩) hf
  simp [Value.cells] at he
  obtain ⟨rfl, rfl, rfl⟩ := he
  exact ⟨_, _, l, rfl, h1, h2, h3, h4⟩
end
end Go.Proofs.Ytbcojkfndegjmaa
