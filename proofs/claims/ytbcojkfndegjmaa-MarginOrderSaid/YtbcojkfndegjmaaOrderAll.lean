/- MarginOrder: the walk, whatever the margins and the places. -/
import Derived.Test.YtbcojkfndegjmaaMOrder
import Derived.Test.YtbcojkfndegjmaaOpen
namespace Go.Proofs.Ytbcojkfndegjmaa
open Go.RowKit
set_option linter.unusedVariables false
set_option maxHeartbeats 400000 in
theorem order_none (A : Option Addr) (cap : Nat) (f c : Int) (w : World) :
    Calls Try.prog 4 #[.slice A 0 cap, .int .i64 f, .int .i64 c] w fun e w' => e = .returned (.bool true) ∧ Below w.heap.size w w' := by
  go_enter Try.func4, Try.ntmps4
  go_wp2_with (fail)
  refine (awake13 _).mono ?_; rintro e w1 ⟨rfl, hb1⟩
  go_wp2_with (fail)
  refine (join_none _ _).mono ?_; rintro e w2 ⟨rfl, hb2⟩
  have hB2 := hb1.trans (hb2.mono hb1.size)
  go_wp2_with (fail)
  go_ret
  exact ⟨rfl, hB2⟩
set_option maxHeartbeats 400000 in
theorem order_long (l : List Mg) (A : Option Addr) (cap : Nat) (f c : Int) (w : World) (hl : 500 < l.length) (hm : cap ≤ maxLen) (hlc : l.length ≤ cap) :
    Calls Try.prog 4 #[.slice A l.length cap, .int .i64 f, .int .i64 c] w fun e w' => e = .returned (.bool true) ∧ Below w.heap.size w w' := by
  unfold maxLen at hm
  have h1 : decide ((500 : Int) < (l.length : Int)) = true := by simp; omega
  have hne : ((l.length : Int) == 0) = false := by rw [beq_eq_false_iff_ne]; omega
  go_enter Try.func4, Try.ntmps4
  go_wp2_with (fail)
  refine (awake13 _).mono ?_; rintro e w1 ⟨rfl, hb1⟩
  go_wp2_with (fail)
  refine (join_none _ _).mono ?_; rintro e w2 ⟨rfl, hb2⟩
  have hB2 := hb1.trans (hb2.mono hb1.size)
  go_wp2_with (fail)
  go_ret
  exact ⟨rfl, hB2⟩
theorem order_walk (l : List Mg) (f c : Int) (A : Option Addr) (cap : Nat) (w : World) (hR : Rd w w.heap.size 2 A l.length (mcells l)) (hm : cap ≤ maxLen) (hlc : l.length ≤ cap) (hw : ∀ m ∈ l, m.fits)
    (hf : (Lit.int .i64 f).wf = true) (hc : (Lit.int .i64 c).wf = true) :
    Calls Try.prog 4 #[.slice A l.length cap, .int .i64 f, .int .i64 c] w fun e w' => e = .returned (.bool true) ∧ Below w.heap.size w w' := by
  by_cases h0 : l.length = 0
  · rw [h0]; exact order_none A cap f c w
  · by_cases h : l.length ≤ 500
    · exact order_main l f c A cap w hR (by omega) h hlc hm
    · exact order_long l A cap f c w (by omega) hm hlc
end Go.Proofs.Ytbcojkfndegjmaa
