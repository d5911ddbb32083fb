/- MarginOpposite: the walk, whatever the lengths. -/
import Derived.Test.YtbcojkfndegjmaaMOpp
import Derived.Test.YtbcojkfndegjmaaOpen
namespace Go.Proofs.Ytbcojkfndegjmaa
open Go.RowKit
set_option linter.unusedVariables false
set_option maxHeartbeats 400000 in
theorem opp_long (l : List Int) (A : Option Addr) (cap : Nat) (w : World) (hl : 500 < l.length) (hm : cap ≤ maxLen) (hlc : l.length ≤ cap) :
    Calls Try.prog 7 #[.slice A l.length cap] w fun e w' => e = .returned (.bool true) ∧ Below w.heap.size w w' := by
  unfold maxLen at hm
  have h1 : decide ((500 : Int) < (l.length : Int)) = true := by simp; omega
  go_enter Try.func7, Try.ntmps7
  go_wp2_with (fail)
  refine (awake13 _).mono ?_; rintro e w1 ⟨rfl, hb1⟩
  go_wp2_with (fail)
  go_ret
  exact ⟨rfl, hb1⟩
theorem opp_walk (l : List Int) (A : Option Addr) (cap : Nat) (w : World) (hR : Rd w w.heap.size 1 A l.length (l.flatMap fun n => [.int .i64 n])) (hm : cap ≤ maxLen) (hlc : l.length ≤ cap) (hw : ∀ m ∈ l, i64 m) :
    Calls Try.prog 7 #[.slice A l.length cap] w fun e w' => e = .returned (.bool true) ∧ Below w.heap.size w w' := by
  by_cases h : l.length ≤ 500
  · exact opp_main l A cap w hR h
  · exact opp_long l A cap w (by omega) hm hlc
end Go.Proofs.Ytbcojkfndegjmaa
