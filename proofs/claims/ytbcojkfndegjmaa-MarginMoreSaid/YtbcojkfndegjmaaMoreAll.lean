/- MarginMore: the walk, whatever the margins and the length. -/
import Derived.Test.YtbcojkfndegjmaaMMore
namespace Go.Proofs.Ytbcojkfndegjmaa
open Go.RowKit
set_option maxRecDepth 100000 in
set_option maxHeartbeats 1000000 in
theorem more_no1 (a b : Mg) (n : Int) (w : World) (ha : mayB a = false) :
    Calls Try.prog 6 #[.agg #[.int .i64 a.up, .int .i64 a.dn], .agg #[.int .i64 b.up, .int .i64 b.dn], .int .i64 n] w fun e w' => e = .returned (.bool true) ∧ Below w.heap.size w w' := by
  go_enter Try.func6, Try.ntmps6
  go_wp2_with (fail)
  refine (awake13 _).mono ?_; rintro e w1 ⟨rfl, hb1⟩
  have h3 := ((Blk.new w 24 #[.int .i64 a.up, .int .i64 a.dn]).alloc (.cells #[.int .i64 b.up, .int .i64 b.dn] 24)).below hb1 (by simp; omega)
  have H1 := (((Below.refl w.heap.size w).alloc (Nat.le_refl _) _).alloc (by simp) _).trans (hb1.mono (by simp; omega))
  clear hb1
  have c30 := h3.cell 0
  have c31 := h3.cell 1
  simp at c30 c31
  go_wp2_with (fail)
  refine (may_no _ _ ha _).mono ?_; rintro e w2 ⟨rfl, hbN⟩
  have H2 := H1.trans (hbN.mono H1.size)
  go_wp2_with (fail)
  go_ret
  exact ⟨rfl, H2⟩
set_option maxRecDepth 100000 in
set_option maxHeartbeats 1000000 in
theorem more_no2 (a b : Mg) (n : Int) (w : World) (ha : mayB a = true) (hb : mayB b = false) :
    Calls Try.prog 6 #[.agg #[.int .i64 a.up, .int .i64 a.dn], .agg #[.int .i64 b.up, .int .i64 b.dn], .int .i64 n] w fun e w' => e = .returned (.bool true) ∧ Below w.heap.size w w' := by
  go_enter Try.func6, Try.ntmps6
  go_wp2_with (fail)
  refine (awake13 _).mono ?_; rintro e w1 ⟨rfl, hb1⟩
  have h3 := ((Blk.new w 24 #[.int .i64 a.up, .int .i64 a.dn]).alloc (.cells #[.int .i64 b.up, .int .i64 b.dn] 24)).below hb1 (by simp; omega)
  have h4 := (Blk.new (w.alloc (.cells #[.int .i64 a.up, .int .i64 a.dn] 24)) 24 #[.int .i64 b.up, .int .i64 b.dn]).below hb1 (by simp)
  simp at h4
  have H1 := (((Below.refl w.heap.size w).alloc (Nat.le_refl _) _).alloc (by simp) _).trans (hb1.mono (by simp; omega))
  clear hb1
  have c30 := h3.cell 0
  have c31 := h3.cell 1
  simp at c30 c31
  go_wp2_with (fail)
  refine (may_yes _ _ ha _).mono ?_; rintro e w2 ⟨rfl, hbN⟩
  replace h4 := h4.below hbN h4.lt
  have H2 := H1.trans (hbN.mono H1.size)
  clear hbN H1 c30 c31 h3
  have c40 := h4.cell 0
  have c41 := h4.cell 1
  simp at c40 c41
  go_wp2_with (fail)
  refine (may_no _ _ hb _).mono ?_; rintro e w3 ⟨rfl, hbN⟩
  have H3 := H2.trans (hbN.mono H2.size)
  go_wp2_with (fail)
  go_ret
  exact ⟨rfl, H3⟩
theorem more_walk (a b : Mg) (n : Int) (w : World) :
    Calls Try.prog 6 #[.agg #[.int .i64 a.up, .int .i64 a.dn], .agg #[.int .i64 b.up, .int .i64 b.dn], .int .i64 n] w fun e w' => e = .returned (.bool true) ∧ Below w.heap.size w w' := by
  cases ha : mayB a with
  | false => exact more_no1 a b n w ha
  | true =>
    cases hb : mayB b with
    | false => exact more_no2 a b n w ha hb
    | true =>
      by_cases hu : b.up ≤ a.up <;> by_cases hd : a.dn ≤ b.dn
      · exact more_ff a b n a.up a.dn w ha hb (by simp [mJoin, mj]; omega) (by simp [mJoin, mj]; omega) (by simp) (by simp) (by simp) (by simp) (by simp) (by simp)
      · exact more_ft a b n a.up b.dn w ha hb (by simp [mJoin, mj]; omega) (by simp [mJoin, mj]; omega) (by simp) (by simp; omega) (by simp) (by simp; omega) (by simp) (by simp)
      · exact more_tf a b n b.up a.dn w ha hb (by simp [mJoin, mj]; omega) (by simp [mJoin, mj]; omega) (by simp; omega) (by simp) (by simp; omega) (by simp) (by simp) (by simp)
      · exact more_tt a b n b.up b.dn w ha hb (by simp [mJoin, mj]; omega) (by simp [mJoin, mj]; omega) (by simp; omega) (by simp; omega) (by simp; omega) (by simp; omega) (by simp) (by simp)
end Go.Proofs.Ytbcojkfndegjmaa
