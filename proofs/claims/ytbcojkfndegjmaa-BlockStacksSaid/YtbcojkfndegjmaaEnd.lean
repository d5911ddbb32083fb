/- Contract: block's pile.end. -/
import Derived.Test.YtbcojkfndegjmaaPutAll
namespace Go.Proofs.Ytbcojkfndegjmaa
open Go.RowKit
set_option linter.unusedVariables false
attribute [local go_sem ↓] run_max run_min

def SkVal (v : Value) (k : Sk) : Value := .agg #[v, .int .i64 k.ht, .int .i64 k.tp.up, .int .i64 k.tp.dn, .int .i64 k.bt.up, .int .i64 k.bt.dn, .bool k.th]

set_option maxRecDepth 100000 in
set_option maxHeartbeats 8000000 in
theorem end_o (tu td y wu wd : Int) (below : Bool) (A : Option Addr) (n c g B : Nat) (xs : List Value) (w : World) (hBw : B ≤ w.heap.size) (hBg : B ≤ g) (hg : Blk w g 60 (pcs (.slice A n c) tu td y wu wd true)) (hown : w.ownsRow B 3 1 (.slice A n c) n xs) :
    Calls Try.prog 37 #[.pointer (some ⟨g, 0, none⟩), .bool below] w
      fun e w' => e = .returned (.agg #[(.slice A n c), .int .i64 0, .int .i64 wu, .int .i64 wd, .int .i64 0, .int .i64 0, .bool below]) ∧ w'.ownsRow B 3 1 (.slice A n c) n xs ∧ Below B w w' := by
  go_enter Try.func37, Try.ntmps37
  go_upto_region 2 with (fail)
  have hg0 := hg.alloc (.cells #[.slice none 0 0, .int .i64 0, .int .i64 0, .int .i64 0, .int .i64 0, .int .i64 0, .bool false] 40)
  have hk0 := Blk.new w 40 #[.slice none 0 0, .int .i64 0, .int .i64 0, .int .i64 0, .int .i64 0, .int .i64 0, .bool false]
  have ow0 := hown.alloc (.cells #[.slice none 0 0, .int .i64 0, .int .i64 0, .int .i64 0, .int .i64 0, .int .i64 0, .bool false] 40)
  have hC0 := (Below.refl B w).alloc hBw (.cells #[.slice none 0 0, .int .i64 0, .int .i64 0, .int .i64 0, .int .i64 0, .int .i64 0, .bool false] 40)
  have hne : w.heap.size ≠ g := by have := hg.lt; omega
  obtain ⟨W0, hW0⟩ : ∃ W, w.alloc (.cells #[.slice none 0 0, .int .i64 0, .int .i64 0, .int .i64 0, .int .i64 0, .int .i64 0, .bool false] 40) = W := ⟨_, rfl⟩
  rw [hW0] at hg0 hk0 ow0 hC0 ⊢
  obtain ⟨gk, hgk⟩ : ∃ k, w.heap.size = k := ⟨_, rfl⟩
  have hBk : B ≤ gk := by rw [← hgk]; exact hBw
  rw [hgk] at hk0 hne ⊢
  have hne2 : g ≠ gk := fun e => hne e.symm
  clear hW0 hgk hg hown
  have p0 := hg0.cell 0
  have p1 := hg0.cell 1
  have p2 := hg0.cell 2
  have p3 := hg0.cell 3
  have p4 := hg0.cell 4
  have p5 := hg0.cell 5
  have p6 := hg0.cell 6
  have p7 := hg0.cell 7
  have p8 := hg0.cell 8
  have p9 := hg0.cell 9
  have p10 := hg0.cell 10
  simp [pcs] at p0 p1 p2 p3 p4 p5 p6 p7 p8 p9 p10
  have fz := hg0.frozen
  have k0 := hk0.cell 0
  have k1 := hk0.cell 1
  have k2 := hk0.cell 2
  have k3 := hk0.cell 3
  have k4 := hk0.cell 4
  have k5 := hk0.cell 5
  have k6 := hk0.cell 6
  simp at k0 k1 k2 k3 k4 k5 k6
  have kz := hk0.frozen
  go_upto_region 4 with (fail)
  have hg1 : Blk (((W0.setCell ⟨g, 2, none⟩ (.int .i64 wu)).setCell ⟨g, 3, none⟩ (.int .i64 wd)).setCell ⟨g, 6, none⟩ (.bool below)) g 60 (#[(.slice A n c), .int .i64 0, .int .i64 wu, .int .i64 wd, .int .i64 0, .int .i64 0, .bool below, .int .i64 y, .int .i64 wu, .int .i64 wd, .bool true]) := Blk.to (((hg0.set_ 2 (.int .i64 wu)).set_ 3 (.int .i64 wd)).set_ 6 (.bool below)) (by simp [pcs])
  have hk1 : Blk (((W0.setCell ⟨g, 2, none⟩ (.int .i64 wu)).setCell ⟨g, 3, none⟩ (.int .i64 wd)).setCell ⟨g, 6, none⟩ (.bool below)) gk 40 #[.slice none 0 0, .int .i64 0, .int .i64 0, .int .i64 0, .int .i64 0, .int .i64 0, .bool false] := (((hk0.far (p := ⟨g, 2, none⟩) (fun e => hne2 e.symm) (.int .i64 wu)).far (p := ⟨g, 3, none⟩) (fun e => hne2 e.symm) (.int .i64 wd)).far (p := ⟨g, 6, none⟩) (fun e => hne2 e.symm) (.bool below))
  have ow1 : (((W0.setCell ⟨g, 2, none⟩ (.int .i64 wu)).setCell ⟨g, 3, none⟩ (.int .i64 wd)).setCell ⟨g, 6, none⟩ (.bool below)).ownsRow B 3 1 (.slice A n c) n xs := (own_far (own_far (own_far ow0 (p := ⟨g, 2, none⟩) (own_ne ow0 hg0 (by decide)) (.int .i64 wu)) (p := ⟨g, 3, none⟩) (own_ne ow0 hg0 (by decide)) (.int .i64 wd)) (p := ⟨g, 6, none⟩) (own_ne ow0 hg0 (by decide)) (.bool below))
  have hC1 : Below B w (((W0.setCell ⟨g, 2, none⟩ (.int .i64 wu)).setCell ⟨g, 3, none⟩ (.int .i64 wd)).setCell ⟨g, 6, none⟩ (.bool below)) := (((hC0.setCell (p := ⟨g, 2, none⟩) hBg (.int .i64 wu)).setCell (p := ⟨g, 3, none⟩) hBg (.int .i64 wd)).setCell (p := ⟨g, 6, none⟩) hBg (.bool below))
  obtain ⟨W1, hW1⟩ : ∃ W, (((W0.setCell ⟨g, 2, none⟩ (.int .i64 wu)).setCell ⟨g, 3, none⟩ (.int .i64 wd)).setCell ⟨g, 6, none⟩ (.bool below)) = W := ⟨_, rfl⟩
  rw [hW1] at hg1 hk1 ow1 hC1 ⊢
  clear hW1 p0 p1 p2 p3 p4 p5 p6 p7 p8 p9 p10 fz k0 k1 k2 k3 k4 k5 k6 kz hg0 hk0 ow0 hC0
  have p0 := hg1.cell 0
  have p1 := hg1.cell 1
  have p2 := hg1.cell 2
  have p3 := hg1.cell 3
  have p4 := hg1.cell 4
  have p5 := hg1.cell 5
  have p6 := hg1.cell 6
  have p7 := hg1.cell 7
  have p8 := hg1.cell 8
  have p9 := hg1.cell 9
  have p10 := hg1.cell 10
  simp at p0 p1 p2 p3 p4 p5 p6 p7 p8 p9 p10
  have fz := hg1.frozen
  have k0 := hk1.cell 0
  have k1 := hk1.cell 1
  have k2 := hk1.cell 2
  have k3 := hk1.cell 3
  have k4 := hk1.cell 4
  have k5 := hk1.cell 5
  have k6 := hk1.cell 6
  simp at k0 k1 k2 k3 k4 k5 k6
  have kz := hk1.frozen
  go_wp2_with (fail)
  refine bodyPost_ret (v := .agg #[(.slice A n c), (.int .i64 0), (.int .i64 wu), (.int .i64 wd), (.int .i64 0), (.int .i64 0), (.bool below)]) (by simp [results, Try.results37, go_sem, k0, k1, k2, k3, k4, k5, k6]) rfl ⟨rfl, (own_far (own_far (own_far (own_far (own_far (own_far (own_far ow1 (p := ⟨gk, 0, none⟩) (own_ne ow1 hk1 (by decide)) (.slice A n c)) (p := ⟨gk, 1, none⟩) (own_ne ow1 hk1 (by decide)) (.int .i64 0)) (p := ⟨gk, 2, none⟩) (own_ne ow1 hk1 (by decide)) (.int .i64 wu)) (p := ⟨gk, 3, none⟩) (own_ne ow1 hk1 (by decide)) (.int .i64 wd)) (p := ⟨gk, 4, none⟩) (own_ne ow1 hk1 (by decide)) (.int .i64 0)) (p := ⟨gk, 5, none⟩) (own_ne ow1 hk1 (by decide)) (.int .i64 0)) (p := ⟨gk, 6, none⟩) (own_ne ow1 hk1 (by decide)) (.bool below)), (((((((hC1.setCell (p := ⟨gk, 0, none⟩) hBk (.slice A n c)).setCell (p := ⟨gk, 1, none⟩) hBk (.int .i64 0)).setCell (p := ⟨gk, 2, none⟩) hBk (.int .i64 wu)).setCell (p := ⟨gk, 3, none⟩) hBk (.int .i64 wd)).setCell (p := ⟨gk, 4, none⟩) hBk (.int .i64 0)).setCell (p := ⟨gk, 5, none⟩) hBk (.int .i64 0)).setCell (p := ⟨gk, 6, none⟩) hBk (.bool below))⟩

set_option maxRecDepth 100000 in
set_option maxHeartbeats 8000000 in
theorem end_b (tu td y wu wd : Int) (A : Option Addr) (n c g B : Nat) (xs : List Value) (w : World) (hBw : B ≤ w.heap.size) (hBg : B ≤ g) (hg : Blk w g 60 (pcs (.slice A n c) tu td y wu wd false)) (hown : w.ownsRow B 3 1 (.slice A n c) n xs) (H : Int) (hH : max 0 y = H) :
    Calls Try.prog 37 #[.pointer (some ⟨g, 0, none⟩), .bool true] w
      fun e w' => e = .returned (.agg #[(.slice A n c), .int .i64 H, .int .i64 tu, .int .i64 td, .int .i64 wu, .int .i64 wd, .bool false]) ∧ w'.ownsRow B 3 1 (.slice A n c) n xs ∧ Below B w w' := by
  have HH := hidd hH
  clear hH
  go_enter Try.func37, Try.ntmps37
  go_upto_region 2 with (fail)
  have hg0 := hg.alloc (.cells #[.slice none 0 0, .int .i64 0, .int .i64 0, .int .i64 0, .int .i64 0, .int .i64 0, .bool false] 40)
  have hk0 := Blk.new w 40 #[.slice none 0 0, .int .i64 0, .int .i64 0, .int .i64 0, .int .i64 0, .int .i64 0, .bool false]
  have ow0 := hown.alloc (.cells #[.slice none 0 0, .int .i64 0, .int .i64 0, .int .i64 0, .int .i64 0, .int .i64 0, .bool false] 40)
  have hC0 := (Below.refl B w).alloc hBw (.cells #[.slice none 0 0, .int .i64 0, .int .i64 0, .int .i64 0, .int .i64 0, .int .i64 0, .bool false] 40)
  have hne : w.heap.size ≠ g := by have := hg.lt; omega
  obtain ⟨W0, hW0⟩ : ∃ W, w.alloc (.cells #[.slice none 0 0, .int .i64 0, .int .i64 0, .int .i64 0, .int .i64 0, .int .i64 0, .bool false] 40) = W := ⟨_, rfl⟩
  rw [hW0] at hg0 hk0 ow0 hC0 ⊢
  obtain ⟨gk, hgk⟩ : ∃ k, w.heap.size = k := ⟨_, rfl⟩
  have hBk : B ≤ gk := by rw [← hgk]; exact hBw
  rw [hgk] at hk0 hne ⊢
  have hne2 : g ≠ gk := fun e => hne e.symm
  clear hW0 hgk hg hown
  have p0 := hg0.cell 0
  have p1 := hg0.cell 1
  have p2 := hg0.cell 2
  have p3 := hg0.cell 3
  have p4 := hg0.cell 4
  have p5 := hg0.cell 5
  have p6 := hg0.cell 6
  have p7 := hg0.cell 7
  have p8 := hg0.cell 8
  have p9 := hg0.cell 9
  have p10 := hg0.cell 10
  simp [pcs] at p0 p1 p2 p3 p4 p5 p6 p7 p8 p9 p10
  have fz := hg0.frozen
  have k0 := hk0.cell 0
  have k1 := hk0.cell 1
  have k2 := hk0.cell 2
  have k3 := hk0.cell 3
  have k4 := hk0.cell 4
  have k5 := hk0.cell 5
  have k6 := hk0.cell 6
  simp at k0 k1 k2 k3 k4 k5 k6
  have kz := hk0.frozen
  go_upto_region 7 with (fail)
  have hg1 : Blk ((W0.setCell ⟨g, 4, none⟩ (.int .i64 wu)).setCell ⟨g, 5, none⟩ (.int .i64 wd)) g 60 (#[(.slice A n c), .int .i64 0, .int .i64 tu, .int .i64 td, .int .i64 wu, .int .i64 wd, .bool false, .int .i64 y, .int .i64 wu, .int .i64 wd, .bool false]) := Blk.to ((hg0.set_ 4 (.int .i64 wu)).set_ 5 (.int .i64 wd)) (by simp [pcs])
  have hk1 : Blk ((W0.setCell ⟨g, 4, none⟩ (.int .i64 wu)).setCell ⟨g, 5, none⟩ (.int .i64 wd)) gk 40 #[.slice none 0 0, .int .i64 0, .int .i64 0, .int .i64 0, .int .i64 0, .int .i64 0, .bool false] := ((hk0.far (p := ⟨g, 4, none⟩) (fun e => hne2 e.symm) (.int .i64 wu)).far (p := ⟨g, 5, none⟩) (fun e => hne2 e.symm) (.int .i64 wd))
  have ow1 : ((W0.setCell ⟨g, 4, none⟩ (.int .i64 wu)).setCell ⟨g, 5, none⟩ (.int .i64 wd)).ownsRow B 3 1 (.slice A n c) n xs := (own_far (own_far ow0 (p := ⟨g, 4, none⟩) (own_ne ow0 hg0 (by decide)) (.int .i64 wu)) (p := ⟨g, 5, none⟩) (own_ne ow0 hg0 (by decide)) (.int .i64 wd))
  have hC1 : Below B w ((W0.setCell ⟨g, 4, none⟩ (.int .i64 wu)).setCell ⟨g, 5, none⟩ (.int .i64 wd)) := ((hC0.setCell (p := ⟨g, 4, none⟩) hBg (.int .i64 wu)).setCell (p := ⟨g, 5, none⟩) hBg (.int .i64 wd))
  obtain ⟨W1, hW1⟩ : ∃ W, ((W0.setCell ⟨g, 4, none⟩ (.int .i64 wu)).setCell ⟨g, 5, none⟩ (.int .i64 wd)) = W := ⟨_, rfl⟩
  rw [hW1] at hg1 hk1 ow1 hC1 ⊢
  clear hW1 p0 p1 p2 p3 p4 p5 p6 p7 p8 p9 p10 fz k0 k1 k2 k3 k4 k5 k6 kz hg0 hk0 ow0 hC0
  have p0 := hg1.cell 0
  have p1 := hg1.cell 1
  have p2 := hg1.cell 2
  have p3 := hg1.cell 3
  have p4 := hg1.cell 4
  have p5 := hg1.cell 5
  have p6 := hg1.cell 6
  have p7 := hg1.cell 7
  have p8 := hg1.cell 8
  have p9 := hg1.cell 9
  have p10 := hg1.cell 10
  simp at p0 p1 p2 p3 p4 p5 p6 p7 p8 p9 p10
  have fz := hg1.frozen
  have k0 := hk1.cell 0
  have k1 := hk1.cell 1
  have k2 := hk1.cell 2
  have k3 := hk1.cell 3
  have k4 := hk1.cell 4
  have k5 := hk1.cell 5
  have k6 := hk1.cell 6
  simp at k0 k1 k2 k3 k4 k5 k6
  have kz := hk1.frozen
  go_upto_region 8 with (fail)
  rw [HH.out]
  have hg2 : Blk (W1.setCell ⟨g, 1, none⟩ (.int .i64 H)) g 60 (#[(.slice A n c), .int .i64 H, .int .i64 tu, .int .i64 td, .int .i64 wu, .int .i64 wd, .bool false, .int .i64 y, .int .i64 wu, .int .i64 wd, .bool false]) := Blk.to (hg1.set_ 1 (.int .i64 H)) (by simp)
  have hk2 : Blk (W1.setCell ⟨g, 1, none⟩ (.int .i64 H)) gk 40 #[.slice none 0 0, .int .i64 0, .int .i64 0, .int .i64 0, .int .i64 0, .int .i64 0, .bool false] := (hk1.far (p := ⟨g, 1, none⟩) (fun e => hne2 e.symm) (.int .i64 H))
  have ow2 : (W1.setCell ⟨g, 1, none⟩ (.int .i64 H)).ownsRow B 3 1 (.slice A n c) n xs := (own_far ow1 (p := ⟨g, 1, none⟩) (own_ne ow1 hg1 (by decide)) (.int .i64 H))
  have hC2 : Below B w (W1.setCell ⟨g, 1, none⟩ (.int .i64 H)) := (hC1.setCell (p := ⟨g, 1, none⟩) hBg (.int .i64 H))
  obtain ⟨W2, hW2⟩ : ∃ W, (W1.setCell ⟨g, 1, none⟩ (.int .i64 H)) = W := ⟨_, rfl⟩
  rw [hW2] at hg2 hk2 ow2 hC2 ⊢
  clear hW2 p0 p1 p2 p3 p4 p5 p6 p7 p8 p9 p10 fz k0 k1 k2 k3 k4 k5 k6 kz hg1 hk1 ow1 hC1
  have p0 := hg2.cell 0
  have p1 := hg2.cell 1
  have p2 := hg2.cell 2
  have p3 := hg2.cell 3
  have p4 := hg2.cell 4
  have p5 := hg2.cell 5
  have p6 := hg2.cell 6
  have p7 := hg2.cell 7
  have p8 := hg2.cell 8
  have p9 := hg2.cell 9
  have p10 := hg2.cell 10
  simp at p0 p1 p2 p3 p4 p5 p6 p7 p8 p9 p10
  have fz := hg2.frozen
  have k0 := hk2.cell 0
  have k1 := hk2.cell 1
  have k2 := hk2.cell 2
  have k3 := hk2.cell 3
  have k4 := hk2.cell 4
  have k5 := hk2.cell 5
  have k6 := hk2.cell 6
  simp at k0 k1 k2 k3 k4 k5 k6
  have kz := hk2.frozen
  go_wp2_with (fail)
  refine bodyPost_ret (v := .agg #[(.slice A n c), (.int .i64 H), (.int .i64 tu), (.int .i64 td), (.int .i64 wu), (.int .i64 wd), (.bool false)]) (by simp [results, Try.results37, go_sem, k0, k1, k2, k3, k4, k5, k6]) rfl ⟨rfl, (own_far (own_far (own_far (own_far (own_far (own_far (own_far ow2 (p := ⟨gk, 0, none⟩) (own_ne ow2 hk2 (by decide)) (.slice A n c)) (p := ⟨gk, 1, none⟩) (own_ne ow2 hk2 (by decide)) (.int .i64 H)) (p := ⟨gk, 2, none⟩) (own_ne ow2 hk2 (by decide)) (.int .i64 tu)) (p := ⟨gk, 3, none⟩) (own_ne ow2 hk2 (by decide)) (.int .i64 td)) (p := ⟨gk, 4, none⟩) (own_ne ow2 hk2 (by decide)) (.int .i64 wu)) (p := ⟨gk, 5, none⟩) (own_ne ow2 hk2 (by decide)) (.int .i64 wd)) (p := ⟨gk, 6, none⟩) (own_ne ow2 hk2 (by decide)) (.bool false)), (((((((hC2.setCell (p := ⟨gk, 0, none⟩) hBk (.slice A n c)).setCell (p := ⟨gk, 1, none⟩) hBk (.int .i64 H)).setCell (p := ⟨gk, 2, none⟩) hBk (.int .i64 tu)).setCell (p := ⟨gk, 3, none⟩) hBk (.int .i64 td)).setCell (p := ⟨gk, 4, none⟩) hBk (.int .i64 wu)).setCell (p := ⟨gk, 5, none⟩) hBk (.int .i64 wd)).setCell (p := ⟨gk, 6, none⟩) hBk (.bool false))⟩

set_option maxRecDepth 100000 in
set_option maxHeartbeats 8000000 in
theorem end_c (tu td y wu wd : Int) (A : Option Addr) (n c g B : Nat) (xs : List Value) (w : World) (hBw : B ≤ w.heap.size) (hBg : B ≤ g) (hg : Blk w g 60 (pcs (.slice A n c) tu td y wu wd false)) (hown : w.ownsRow B 3 1 (.slice A n c) n xs) (U Y H : Int) (hU : wrap64 (wu + wd) = U) (hY : wrap64 (y + U) = Y) (hH : max 0 Y = H) :
    Calls Try.prog 37 #[.pointer (some ⟨g, 0, none⟩), .bool false] w
      fun e w' => e = .returned (.agg #[(.slice A n c), .int .i64 H, .int .i64 tu, .int .i64 td, .int .i64 0, .int .i64 0, .bool false]) ∧ w'.ownsRow B 3 1 (.slice A n c) n xs ∧ Below B w w' := by
  have HH := hidd hH
  have HV := hidd hU
  clear hH hU
  have hY2 : IntKind.i64.wrap (y + U) = Y := by rw [IntKind.wrap_i64]; unfold wrap64 at hY; exact hY
  go_enter Try.func37, Try.ntmps37
  go_upto_region 2 with (fail)
  have hg0 := hg.alloc (.cells #[.slice none 0 0, .int .i64 0, .int .i64 0, .int .i64 0, .int .i64 0, .int .i64 0, .bool false] 40)
  have hk0 := Blk.new w 40 #[.slice none 0 0, .int .i64 0, .int .i64 0, .int .i64 0, .int .i64 0, .int .i64 0, .bool false]
  have ow0 := hown.alloc (.cells #[.slice none 0 0, .int .i64 0, .int .i64 0, .int .i64 0, .int .i64 0, .int .i64 0, .bool false] 40)
  have hC0 := (Below.refl B w).alloc hBw (.cells #[.slice none 0 0, .int .i64 0, .int .i64 0, .int .i64 0, .int .i64 0, .int .i64 0, .bool false] 40)
  have hne : w.heap.size ≠ g := by have := hg.lt; omega
  obtain ⟨W0, hW0⟩ : ∃ W, w.alloc (.cells #[.slice none 0 0, .int .i64 0, .int .i64 0, .int .i64 0, .int .i64 0, .int .i64 0, .bool false] 40) = W := ⟨_, rfl⟩
  rw [hW0] at hg0 hk0 ow0 hC0 ⊢
  obtain ⟨gk, hgk⟩ : ∃ k, w.heap.size = k := ⟨_, rfl⟩
  have hBk : B ≤ gk := by rw [← hgk]; exact hBw
  rw [hgk] at hk0 hne ⊢
  have hne2 : g ≠ gk := fun e => hne e.symm
  clear hW0 hgk hg hown
  have p10 := hg0.cell 10
  simp [pcs] at p10
  go_wp2_with (fail)
  clear p10
  have p7 := hg0.cell 7
  have p8 := hg0.cell 8
  have p9 := hg0.cell 9
  simp [pcs] at p7 p8 p9
  have hgD : Blk W0.drew g 60 _ := hg0
  have hkD : Blk W0.drew gk 40 _ := hk0
  have owD : W0.drew.ownsRow B 3 1 (.slice A n c) n xs := ow0
  have hCD : Below B w W0.drew := Below.drew hC0
  refine region_ord [(0, true), (1, true), (2, true), (3, true), (4, true), (5, true), (6, true), (7, true), (8, false), (9, true), (10, false), (11, false), (12, false)]
    (fun w' => (∀ o, w'.cell? ⟨g, o, none⟩ = W0.cell? ⟨g, o, none⟩) ∧ (∀ o, w'.cell? ⟨gk, o, none⟩ = W0.cell? ⟨gk, o, none⟩)) 12 (by kernel_rfl) (by kernel_rfl) (by kernel_rfl) (by kernel_rfl) (by intro c a d v w h; cases d <;> exact h) (cls hg0 hgD hk0 hkD) ?_
  simp only [List.map_cons, List.map_nil, List.getElem?_toArray, List.getElem?_cons_succ, List.getElem?_cons_zero]
  iterate 8 (first
    | (with_reducible refine L_yes ?_ ?_
       focus (go_simp; done)
       apply Exists.intro
       refine ⟨?_, ?_⟩
       (rintro w' ⟨_, hce⟩
        go_simp
        first | done | rfl | (rw [ite_next]))
       simp only [Act.put, List.setIfInBounds_toArray, List.set_cons_zero, List.set_cons_succ])
    | (with_reducible refine L_no ?_ ?_
       focus (go_simp; done)
       simp only [Act.put, List.setIfInBounds_toArray, List.set_cons_zero, List.set_cons_succ]))
  with_reducible refine L_main ?_ ?_
  focus (go_simp; done)
  intro K hK
  go_simp
  refine (value_val wu wd U HV.out _).mono ?_
  rintro e X1 ⟨rfl, hbN⟩
  have hgM1 := hgD.below hbN hgD.lt
  have hkM1 := hkD.below hbN hkD.lt
  have owM1 := own_below owD hbN
  have hCM1 := hCD.trans (hbN.mono (Nat.le_trans hBw hCD.size))
  clear hbN
  dsimp only
  refine hK _ _ (fun _ => cls hg0 hgM1 hk0 hkM1) (fun hSx => ?_)
  clear hSx hK K
  iterate 1 (first
    | (with_reducible refine L_yes ?_ ?_
       focus (go_simp; done)
       apply Exists.intro
       refine ⟨?_, ?_⟩
       (rintro w' ⟨_, hce⟩
        go_simp
        first | done | rfl | (rw [ite_next]))
       simp only [Act.put, List.setIfInBounds_toArray, List.set_cons_zero, List.set_cons_succ])
    | (with_reducible refine L_no ?_ ?_
       focus (go_simp; done)
       simp only [Act.put, List.setIfInBounds_toArray, List.set_cons_zero, List.set_cons_succ]))
  with_reducible refine L_main ?_ ?_
  focus (go_simp; done)
  intro K hK
  go_simp
  refine hK _ _ (fun _ => cls hg0 hgM1 hk0 hkM1) (fun hSx => ?_)
  clear hSx hK K
  with_reducible refine L_main ?_ ?_
  focus (go_simp; done)
  intro K hK
  go_simp
  refine hK _ _ (fun _ => cls hg0 hgM1 hk0 hkM1) (fun hSx => ?_)
  clear hSx hK K
  have fz := hgM1.frozen
  have z7 := hgM1.cell 7
  simp [pcs] at z7
  with_reducible refine L_main ?_ ?_
  focus (go_simp; done)
  intro K hK
  go_simp
  refine hK _ _ (fun h => absurd rfl h) (fun hSx => ?_)
  clear hSx hK K
  refine L_nil ?_
  have hg1 : Blk (((X1).setCell ⟨g, 7, none⟩ (.int .i64 Y))) g 60 (pcs (.slice A n c) tu td Y wu wd false) := Blk.to (hgM1.set_ 7 (.int .i64 Y)) (by simp [pcs])
  have hk1 : Blk (((X1).setCell ⟨g, 7, none⟩ (.int .i64 Y))) gk 40 #[.slice none 0 0, .int .i64 0, .int .i64 0, .int .i64 0, .int .i64 0, .int .i64 0, .bool false] := (hkM1.far (p := ⟨g, 7, none⟩) hne (.int .i64 Y))
  have ow1 : (((X1).setCell ⟨g, 7, none⟩ (.int .i64 Y))).ownsRow B 3 1 (.slice A n c) n xs := (own_far owM1 (p := ⟨g, 7, none⟩) (own_ne owM1 hgM1 (by decide)) (.int .i64 Y))
  have hC1 : Below B w (((X1).setCell ⟨g, 7, none⟩ (.int .i64 Y))) := (hCM1.setCell (p := ⟨g, 7, none⟩) hBg (.int .i64 Y))
  obtain ⟨W1, hW1⟩ : ∃ W, (((X1).setCell ⟨g, 7, none⟩ (.int .i64 Y))) = W := ⟨_, rfl⟩
  rw [hW1] at hg1 hk1 ow1 hC1 ⊢
  clear hW1 fz z7 p7 p8 p9 hgD hkD owD hCD hgM1 hkM1 owM1 hCM1 hg0 hk0 ow0 hC0
  clear hY hY2
  have p0 := hg1.cell 0
  have p1 := hg1.cell 1
  have p2 := hg1.cell 2
  have p3 := hg1.cell 3
  have p4 := hg1.cell 4
  have p5 := hg1.cell 5
  have p6 := hg1.cell 6
  have p7 := hg1.cell 7
  have p8 := hg1.cell 8
  have p9 := hg1.cell 9
  have p10 := hg1.cell 10
  simp [pcs] at p0 p1 p2 p3 p4 p5 p6 p7 p8 p9 p10
  have fz := hg1.frozen
  have k0 := hk1.cell 0
  have k1 := hk1.cell 1
  have k2 := hk1.cell 2
  have k3 := hk1.cell 3
  have k4 := hk1.cell 4
  have k5 := hk1.cell 5
  have k6 := hk1.cell 6
  simp at k0 k1 k2 k3 k4 k5 k6
  have kz := hk1.frozen
  go_upto_region 8 with (fail)
  rw [HH.out]
  have hg2 : Blk (W1.setCell ⟨g, 1, none⟩ (.int .i64 H)) g 60 (#[(.slice A n c), .int .i64 H, .int .i64 tu, .int .i64 td, .int .i64 0, .int .i64 0, .bool false, .int .i64 Y, .int .i64 wu, .int .i64 wd, .bool false]) := Blk.to (hg1.set_ 1 (.int .i64 H)) (by simp [pcs])
  have hk2 : Blk (W1.setCell ⟨g, 1, none⟩ (.int .i64 H)) gk 40 #[.slice none 0 0, .int .i64 0, .int .i64 0, .int .i64 0, .int .i64 0, .int .i64 0, .bool false] := (hk1.far (p := ⟨g, 1, none⟩) (fun e => hne2 e.symm) (.int .i64 H))
  have ow2 : (W1.setCell ⟨g, 1, none⟩ (.int .i64 H)).ownsRow B 3 1 (.slice A n c) n xs := (own_far ow1 (p := ⟨g, 1, none⟩) (own_ne ow1 hg1 (by decide)) (.int .i64 H))
  have hC2 : Below B w (W1.setCell ⟨g, 1, none⟩ (.int .i64 H)) := (hC1.setCell (p := ⟨g, 1, none⟩) hBg (.int .i64 H))
  obtain ⟨W2, hW2⟩ : ∃ W, (W1.setCell ⟨g, 1, none⟩ (.int .i64 H)) = W := ⟨_, rfl⟩
  rw [hW2] at hg2 hk2 ow2 hC2 ⊢
  clear hW2 p0 p1 p2 p3 p4 p5 p6 p7 p8 p9 p10 fz k0 k1 k2 k3 k4 k5 k6 kz hg1 hk1 ow1 hC1
  have p0 := hg2.cell 0
  have p1 := hg2.cell 1
  have p2 := hg2.cell 2
  have p3 := hg2.cell 3
  have p4 := hg2.cell 4
  have p5 := hg2.cell 5
  have p6 := hg2.cell 6
  have p7 := hg2.cell 7
  have p8 := hg2.cell 8
  have p9 := hg2.cell 9
  have p10 := hg2.cell 10
  simp at p0 p1 p2 p3 p4 p5 p6 p7 p8 p9 p10
  have fz := hg2.frozen
  have k0 := hk2.cell 0
  have k1 := hk2.cell 1
  have k2 := hk2.cell 2
  have k3 := hk2.cell 3
  have k4 := hk2.cell 4
  have k5 := hk2.cell 5
  have k6 := hk2.cell 6
  simp at k0 k1 k2 k3 k4 k5 k6
  have kz := hk2.frozen
  go_wp2_with (fail)
  refine bodyPost_ret (v := .agg #[(.slice A n c), (.int .i64 H), (.int .i64 tu), (.int .i64 td), (.int .i64 0), (.int .i64 0), (.bool false)]) (by simp [results, Try.results37, go_sem, k0, k1, k2, k3, k4, k5, k6]) rfl ⟨rfl, (own_far (own_far (own_far (own_far (own_far (own_far (own_far ow2 (p := ⟨gk, 0, none⟩) (own_ne ow2 hk2 (by decide)) (.slice A n c)) (p := ⟨gk, 1, none⟩) (own_ne ow2 hk2 (by decide)) (.int .i64 H)) (p := ⟨gk, 2, none⟩) (own_ne ow2 hk2 (by decide)) (.int .i64 tu)) (p := ⟨gk, 3, none⟩) (own_ne ow2 hk2 (by decide)) (.int .i64 td)) (p := ⟨gk, 4, none⟩) (own_ne ow2 hk2 (by decide)) (.int .i64 0)) (p := ⟨gk, 5, none⟩) (own_ne ow2 hk2 (by decide)) (.int .i64 0)) (p := ⟨gk, 6, none⟩) (own_ne ow2 hk2 (by decide)) (.bool false)), (((((((hC2.setCell (p := ⟨gk, 0, none⟩) hBk (.slice A n c)).setCell (p := ⟨gk, 1, none⟩) hBk (.int .i64 H)).setCell (p := ⟨gk, 2, none⟩) hBk (.int .i64 tu)).setCell (p := ⟨gk, 3, none⟩) hBk (.int .i64 td)).setCell (p := ⟨gk, 4, none⟩) hBk (.int .i64 0)).setCell (p := ⟨gk, 5, none⟩) hBk (.int .i64 0)).setCell (p := ⟨gk, 6, none⟩) hBk (.bool false))⟩

theorem end_any (s : St) (below : Bool) (g B n : Nat) (w : World) (hBw : B ≤ w.heap.size) (hBg : B ≤ g) (hn : n ≤ 2048) (hp : Piled s g B n w) (hs : gdS 1099511627776 n s) :
    Calls Try.prog 37 #[.pointer (some ⟨g, 0, none⟩), .bool below] w fun e w' => (∃ A c, e = .returned (SkVal (.slice A n c) (fin s below)) ∧ w'.ownsRow B 3 1 (.slice A n c) n (icells s.ps)) ∧ Below B w w' := by
  obtain ⟨A, c, hb, ho⟩ := hp
  have hv := inM_v hs.1
  have hy := hs.2.2.1
  rw [bnd_eq] at hy
  obtain ⟨ps, ⟨tu, td⟩, y, ⟨wu, wd⟩, out⟩ := s
  simp only at hv hy
  obtain ⟨v1, v2⟩ := hv
  have v1' : -1099511627776 ≤ wu + wd := v1
  have v2' : wu + wd ≤ 1099511627776 := v2
  cases out with
  | true =>
    refine (end_o tu td y wu wd below A n c g B _ w hBw hBg hb ho).mono ?_
    rintro e w' ⟨rfl, h2, h3⟩
    exact ⟨⟨A, c, rfl, h2⟩, h3⟩
  | false =>
    cases below with
    | true =>
      refine (end_b tu td y wu wd A n c g B _ w hBw hBg hb ho _ rfl).mono ?_
      rintro e w' ⟨rfl, h2, h3⟩
      exact ⟨⟨A, c, rfl, h2⟩, h3⟩
    | false =>
      have w1 : wrap64 (wu + wd) = wu + wd := IntWalk.wrap64_in _ ⟨by omega, by omega⟩
      have w2 : wrap64 (y + (wu + wd)) = y + (wu + wd) := IntWalk.wrap64_in _ ⟨by omega, by omega⟩
      refine (end_c tu td y wu wd A n c g B _ w hBw hBg hb ho _ _ _ w1 w2 rfl).mono ?_
      rintro e w' ⟨rfl, h2, h3⟩
      exact ⟨⟨A, c, rfl, h2⟩, h3⟩
end Go.Proofs.Ytbcojkfndegjmaa
