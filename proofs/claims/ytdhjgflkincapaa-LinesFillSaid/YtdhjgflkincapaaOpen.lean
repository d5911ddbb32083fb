/- How spots, slices of them, and a line's own numbers that came in read. -/
import Derived.Test.YtdhjgflkincapaaOf
import Derived.Test.YtdhjgflkincapaaRead
import Derived.ProofKit
import Derived.OpenShut
import Derived.ShutString
import Derived.ChangeOld
import Derived.Lib.SmallJoins
namespace Go.Proofs.Ytdhjgflkincapaa
open Go.ChangeShapes Go.WideShapes Go.ChangeAt Go.RowKit Go.Deep Go.Joins

theorem own : ownKnob Try.prog.godebug = none := by kernel_rfl
theorem laidOut : laidOutB Try.prog = true := by kernel_rfl
theorem cells45 : Try.prog.cellsOf 45 = 4 := by kernel_rfl
theorem cells37 : Try.prog.cellsOf 37 = 4 := by kernel_rfl
theorem cells3 : Try.prog.cellsOf 3 = 1 := by kernel_rfl
theorem cells5 : Try.prog.cellsOf 5 = 1 := by kernel_rfl

def i64 (n : Int) : Prop := -9223372036854775808 ≤ n ∧ n ≤ 9223372036854775807
def Sp.wide (s : Sp) : Prop := i64 s.wd ∧ i64 s.up ∧ i64 s.dn ∧ s.al ≤ 255
/-- a line's font, how wide it is, how its pieces stand -/
structure Ow where
  up : Int
  dn : Int
  wd : Int
  ls : Nat
def Ow.cs (x : Ow) : List Value := [.int .i64 x.up, .int .i64 x.dn, .int .i64 x.wd, .int .u8 x.ls]
def Ow.wide (x : Ow) : Prop := i64 x.up ∧ i64 x.dn ∧ i64 x.wd ∧ x.ls ≤ 255
theorem i64_of {n : Int} (h : (Lit.int .i64 n).wf = true) : i64 n := bounds_i64 h

section
variable {H : Type} {enc : TypeId × Value → H} {w : World} {base : Nat} {spare : Nat → Bool} {held : Bool}
theorem trod_spot {n : Nat} {cs : List Value} {x : DataW H × List MemPlace} (h : DataW.trod enc Try.prog w base spare held n 45 cs = some x) : ∃ m : Sp, cs = m.cs ∧ m.wide := by
  obtain ⟨xs, k, _, _, hlen, hxl, hf⟩ := DataW.trod_struct Try.underlying45 h
  rw [cells45] at hlen
  match cs, hlen with
  | [c0, c1, c2, c3], _ =>
    match xs, hxl with
    | [y0, y1, y2, y3], _ =>
      have f0 := hf 0 _ rfl
      have f1 := hf 1 _ rfl
      have f2 := hf 2 _ rfl
      have f3 := hf 3 _ rfl
      simp [cells3, cells5] at f0 f1 f2 f3
      obtain ⟨a, ea, _, wa⟩ := DataW.trod_int Try.underlying3 f0
      obtain ⟨b, eb, _, wb⟩ := DataW.trod_int Try.underlying3 f1
      obtain ⟨c, ec, _, wc⟩ := DataW.trod_int Try.underlying3 f2
      obtain ⟨d, ed, _, wd⟩ := DataW.trod_int Try.underlying5 f3
      have hd := bounds_u8 wd
      simp at ea eb ec ed
      have hdn : d = ((d.toNat : Nat) : Int) := by omega
      rw [hdn] at ed
      exact ⟨⟨a, b, c, d.toNat⟩, by simp [Sp.cs, ea, eb, ec, ed], i64_of wa, i64_of wb, i64_of wc, by simp; omega⟩
theorem trod_own {n : Nat} {cs : List Value} {x : DataW H × List MemPlace} (h : DataW.trod enc Try.prog w base spare held n 37 cs = some x) : ∃ m : Ow, cs = m.cs ∧ m.wide := by
  obtain ⟨xs, k, _, _, hlen, hxl, hf⟩ := DataW.trod_struct Try.underlying37 h
  rw [cells37] at hlen
  match cs, hlen with
  | [c0, c1, c2, c3], _ =>
    match xs, hxl with
    | [y0, y1, y2, y3], _ =>
      have f0 := hf 0 _ rfl
      have f1 := hf 1 _ rfl
      have f2 := hf 2 _ rfl
      have f3 := hf 3 _ rfl
      simp [cells3, cells5] at f0 f1 f2 f3
      obtain ⟨a, ea, _, wa⟩ := DataW.trod_int Try.underlying3 f0
      obtain ⟨b, eb, _, wb⟩ := DataW.trod_int Try.underlying3 f1
      obtain ⟨c, ec, _, wc⟩ := DataW.trod_int Try.underlying3 f2
      obtain ⟨d, ed, _, wd⟩ := DataW.trod_int Try.underlying5 f3
      have hd := bounds_u8 wd
      simp at ea eb ec ed
      have hdn : d = ((d.toNat : Nat) : Int) := by omega
      rw [hdn] at ed
      exact ⟨⟨a, b, c, d.toNat⟩, by simp [Ow.cs, ea, eb, ec, ed], i64_of wa, i64_of wb, i64_of wc, by simp; omega⟩
theorem trod_own_val {r : Reach} {b0 : Nat} {v : Value} {d : DataW H} {p : List MemPlace} (hv : Value.okWide Try.prog w r b0 37 v) (h : DataW.Trod enc Try.prog w base spare held 37 v d p) :
    ∃ m : Ow, v = .agg #[.int .i64 m.up, .int .i64 m.dn, .int .i64 m.wd, .int .u8 m.ls] ∧ m.wide := by
  obtain ⟨⟨cs⟩, rfl, _⟩ := okWide_struct Try.underlying37 hv
  obtain ⟨fuel, hf⟩ := h
  obtain ⟨m, hm, hw⟩ := trod_own hf
  simp [Value.cells, Ow.cs] at hm
  exact ⟨m, by rw [hm], hw⟩
theorem trod_spots {r : Reach} {b0 : Nat} {v : Value} {d : DataW H} {p : List MemPlace} (hv : Value.okWide Try.prog w r b0 35 v) (h : DataW.Trod enc Try.prog w base spare held 35 v d p) :
    ∃ (A : Option Addr) (cap : Nat) (l : List Sp), v = .slice A l.length cap ∧ cap ≤ maxLen ∧ l.length ≤ cap ∧ Rd w w.heap.size 4 A l.length (scells l) ∧ ∀ m ∈ l, m.wide := by
  obtain ⟨A, len, cap, rfl⟩ := okWide_slice Try.underlying35 hv
  obtain ⟨fuel, hf⟩ := h
  obtain ⟨A', cap', l, he, h1, h2, h3, h4⟩ := read_slice Sp.cs 4 (fun _ => rfl) (by omega) Sp.wide Try.underlying35 cells45 (fun _ _ _ h => trod_spot h) hf
  simp [Value.cells] at he
  obtain ⟨rfl, rfl, rfl⟩ := he
  exact ⟨_, _, l, rfl, h1, h2, h3, h4⟩
end
end Go.Proofs.Ytdhjgflkincapaa
