/- awake of chapter 13 answers true. -/
import Derived.Test.YtbcojkfndegjmaaMargin2
namespace Go.Proofs.Ytbcojkfndegjmaa
open Go.RowKit
theorem one_val (n u d : Int) (hu : max n 0 = u) (hd : min n 0 = d) (w : World) :
    Calls Try.prog 18 #[.int .i64 n] w fun e w' => e = .returned (.agg #[.int .i64 u, .int .i64 d]) ∧ Below w.heap.size w w' := by
  subst hu; subst hd; exact one_any n w
theorem join_lit (l : List Mg) (u d : Int) (cs : Array Value) (n : Nat) (hn : l.length = n) (hcs : cs = (mcells l).toArray) (hu : mJoin l = ⟨u, d⟩) (hl : n ≤ 4611686018427387904) (w : World) :
    Calls Try.prog 14 #[.slice (some ⟨w.heap.size, 0, none⟩) n n] (w.alloc (.cells cs 24)) fun e w' => e = .returned (.agg #[.int .i64 u, .int .i64 d]) ∧ Below (w.alloc (.cells cs 24)).heap.size (w.alloc (.cells cs 24)) w' := by
  subst hcs
  subst hn
  have h := join_any l (some ⟨w.heap.size, 0, none⟩) l.length (w.alloc (.cells (mcells l).toArray 24)) (by simpa using Rd.lit_ w (mcells l).toArray 24 l.length 2 (by simp [mcells_length])) hl
  rw [hu] at h
  exact h
theorem join_blk (l : List Mg) (u d : Int) (g n c : Nat) (cs : Array Value) (w : World) (hb : Blk w g 24 cs) (hcs : cs = (mcells l).toArray) (hn : l.length = n) (hu : mJoin l = ⟨u, d⟩) (hl : n ≤ 4611686018427387904) :
    Calls Try.prog 14 #[.slice (some ⟨g, 0, none⟩) n c] w fun e w' => e = .returned (.agg #[.int .i64 u, .int .i64 d]) ∧ Below w.heap.size w w' := by
  subst hcs
  subst hn
  have h := join_any l (some ⟨g, 0, none⟩) c w ⟨mcells_length l, fun _ => ⟨g, 0, rfl, hb.lt, fun j x hx => by rw [hb.cell (0 + j)]; simpa using hx⟩⟩ hl
  rw [hu] at h
  exact h
theorem join_none (A : Option Addr) (w : World) :
    Calls Try.prog 14 #[.slice A 0 0] w fun e w' => e = .returned (.agg #[.int .i64 0, .int .i64 0]) ∧ Below w.heap.size w w' :=
  join_any [] A 0 w (Rd.nil_ _) (by simp)
theorem may_yes (u d : Int) (h : mayB ⟨u, d⟩ = true) (w : World) :
    Calls Try.prog 16 #[.agg #[.int .i64 u, .int .i64 d]] w fun e w' => e = .returned (.bool true) ∧ Below w.heap.size w w' := by
  have := may_any ⟨u, d⟩ w
  rw [h] at this; exact this
theorem may_no (u d : Int) (h : mayB ⟨u, d⟩ = false) (w : World) :
    Calls Try.prog 16 #[.agg #[.int .i64 u, .int .i64 d]] w fun e w' => e = .returned (.bool false) ∧ Below w.heap.size w w' := by
  have := may_any ⟨u, d⟩ w
  rw [h] at this; exact this
theorem value_val (u d v : Int) (h : wrap64 (u + d) = v) (w : World) :
    Calls Try.prog 20 #[.agg #[.int .i64 u, .int .i64 d]] w fun e w' => e = .returned (.int .i64 v) ∧ Below w.heap.size w w' := by
  have := value_any ⟨u, d⟩ w
  subst h; exact this
set_option maxRecDepth 100000 in
set_option maxHeartbeats 1000000 in
theorem awake13 (w : World) :
    Calls Try.prog 22 #[] w fun e w' => e = .returned (.bool true) ∧ Below w.heap.size w w' := by
  go_enter Try.func22, Try.ntmps22
  go_wp2_with (fail)
  refine (one_val 5 5 0 rfl rfl _).mono ?_; rintro e w1 ⟨rfl, hb1⟩
  go_wp2_with (fail)
  refine (one_val 8 8 0 rfl rfl _).mono ?_; rintro e w2 ⟨rfl, hb2⟩
  go_wp2_with (fail)
  refine (one_val (-3) 0 (-3) rfl rfl _).mono ?_; rintro e w3 ⟨rfl, hb3⟩
  go_wp2_with (fail)
  refine (join_lit [⟨5, 0⟩, ⟨8, 0⟩, ⟨0, -3⟩] 8 (-3) _ 3 rfl rfl rfl (by decide) _).mono ?_; rintro e w4 ⟨rfl, hb4⟩
  have H := ((hb1.trans (hb2.mono hb1.size)).trans (hb3.mono (Nat.le_trans hb1.size hb2.size)))
  have H4 := (H.alloc H.size _).trans (hb4.mono (by have := H.size; simp; omega))
  clear hb1 hb2 hb3 hb4 H
  go_wp2_with (fail)
  refine (one_val 5 5 0 rfl rfl _).mono ?_; rintro e w5 ⟨rfl, hb5⟩
  have hm := (Blk.new w4 24 #[.int .i64 8, .int .i64 (-3)]).below hb5 (by simp)
  have H5 := (H4.alloc H4.size _).trans (hb5.mono (by have := H4.size; simp; omega))
  have hs5 : w4.heap.size < w5.heap.size := by have := hb5.size; simp at this; omega
  clear H4 hb5
  have hm0 := hm.cell 0
  have hm1 := hm.cell 1
  simp at hm0 hm1
  go_wp2_with (fail)
  refine (one_val (-3) 0 (-3) rfl rfl _).mono ?_; rintro e w6 ⟨rfl, hb⟩
  replace hm := hm.below hb hs5
  have H6 := H5.trans (hb.mono H5.size)
  have hs6 := Nat.lt_of_lt_of_le hs5 hb.size
  clear H5 hs5 hb hm0 hm1
  have hm0 := hm.cell 0
  have hm1 := hm.cell 1
  simp at hm0 hm1
  go_wp2_with (fail)
  refine (one_val 0 0 0 rfl rfl _).mono ?_; rintro e w7 ⟨rfl, hb⟩
  replace hm := hm.below hb hs6
  have H7 := H6.trans (hb.mono H6.size)
  have hs7 := Nat.lt_of_lt_of_le hs6 hb.size
  clear H6 hs6 hb hm0 hm1
  have hm0 := hm.cell 0
  have hm1 := hm.cell 1
  simp at hm0 hm1
  go_wp2_with (fail)
  refine (join_none _ _).mono ?_; rintro e w8 ⟨rfl, hb⟩
  replace hm := hm.below hb hs7
  have H8 := H7.trans (hb.mono H7.size)
  have hs8 := Nat.lt_of_lt_of_le hs7 hb.size
  clear H7 hs7 hb hm0 hm1
  have hm0 := hm.cell 0
  have hm1 := hm.cell 1
  simp at hm0 hm1
  go_wp2_with (fail)
  refine (value_val 8 (-3) 5 (by unfold wrap64; decide) _).mono ?_; rintro e w9 ⟨rfl, hb⟩
  replace hm := hm.below hb hs8
  have H9 := H8.trans (hb.mono H8.size)
  have hs9 := Nat.lt_of_lt_of_le hs8 hb.size
  clear H8 hs8 hb hm0 hm1
  have hm0 := hm.cell 0
  have hm1 := hm.cell 1
  simp at hm0 hm1
  go_wp2_with (fail)
  refine (may_yes 8 (-3) (by decide) _).mono ?_; rintro e w10 ⟨rfl, hb⟩
  replace hm := hm.below hb hs9
  have H10 := H9.trans (hb.mono H9.size)
  have hs10 := Nat.lt_of_lt_of_le hs9 hb.size
  clear H9 hs9 hb hm0 hm1
  have hm0 := hm.cell 0
  have hm1 := hm.cell 1
  simp at hm0 hm1
  go_wp2_with (fail)
  refine (may_no (-1) 0 (by decide) _).mono ?_; rintro e w11 ⟨rfl, hb⟩
  replace hm := hm.below hb hs10
  have H11 := H10.trans (hb.mono H10.size)
  have hs11 := Nat.lt_of_lt_of_le hs10 hb.size
  clear H10 hs10 hb hm0 hm1
  have hm0 := hm.cell 0
  have hm1 := hm.cell 1
  simp at hm0 hm1
  go_wp2_with (fail)
  go_ret
  exact ⟨rfl, H11⟩
end Go.Proofs.Ytbcojkfndegjmaa
