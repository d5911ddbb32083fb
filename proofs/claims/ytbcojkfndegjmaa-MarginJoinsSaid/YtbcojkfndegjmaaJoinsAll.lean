/- MarginJoins: the walk, whatever the length and the margins. -/
import Derived.Test.YtbcojkfndegjmaaMJoins
import Derived.Test.YtbcojkfndegjmaaOpen
namespace Go.Proofs.Ytbcojkfndegjmaa
open Go.RowKit
set_option linter.unusedVariables false
set_option maxHeartbeats 400000 in
theorem joins_long (n : Int) (l : List Mg) (A : Option Addr) (cap : Nat) (w : World) (hl : 1000 < l.length) (hm : cap ≤ maxLen) (hlc : l.length ≤ cap) :
    Calls Try.prog 3 #[.int .i64 n, .slice A l.length cap] w fun e w' => e = .returned (.bool true) ∧ Below w.heap.size w w' := by
  unfold maxLen at hm
  have h1 : decide ((1000 : Int) < (l.length : Int)) = true := by simp; omega
  go_enter Try.func3, Try.ntmps3
  go_wp2_with (fail)
  go_ret
  exact ⟨rfl, Below.refl _ _⟩
theorem joins_walk (n : Int) (l : List Mg) (A : Option Addr) (cap : Nat) (w : World) (hR : Rd w w.heap.size 2 A l.length (mcells l)) (hm : cap ≤ maxLen) (hlc : l.length ≤ cap) (hw : ∀ m ∈ l, m.fits) :
    Calls Try.prog 3 #[.int .i64 n, .slice A l.length cap] w fun e w' => e = .returned (.bool true) ∧ Below w.heap.size w w' := by
  by_cases h : l.length ≤ 1000
  · exact joins_main n l A cap w hR h
  · exact joins_long n l A cap w (by omega) hm hlc
end Go.Proofs.Ytbcojkfndegjmaa
