/- Contracts: inline.ways, onBase, onTop, onBottom, lead; over. -/
import Derived.Test.YtdhjgflkincapaaOf
import Derived.Laws.EntriesVeiled
namespace Go.Proofs.Ytdhjgflkincapaa
open Go.RowKit
set_option linter.unusedVariables false
attribute [local go_sem ↓] run_max run_min

set_option maxHeartbeats 1000000 in
theorem ways_any (h b : Int) (w : World) :
    Calls Try.prog 37 #[.agg #[.int .i64 h, .int .i64 b]] w fun e w' => e = .returned (.agg #[.func (.func 52) #[.agg #[.int .i64 h, .int .i64 b]] #[], .func (.func 53) #[.agg #[.int .i64 h, .int .i64 b]] #[], .func (.func 54) #[.agg #[.int .i64 h, .int .i64 b]] #[]]) ∧ Below w.heap.size w w' := by
  have hmf : ∀ (fn : Fn) (first cap : Array Value) (w : World), (Instr.makeFunc fn first cap).run Try.prog w = .ok (.func fn first cap) w := fun _ _ _ _ => rfl
  go_enter Try.func37, Try.ntmps37
  go_wp2
  exact bodyPost_ret (v := .agg #[.func (.func 52) #[.agg #[.int .i64 h, .int .i64 b]] #[], .func (.func 53) #[.agg #[.int .i64 h, .int .i64 b]] #[], .func (.func 54) #[.agg #[.int .i64 h, .int .i64 b]] #[]]) (by simp [results, Try.results37, go_sem]) rfl
    ⟨rfl, below_al (below_al (Below.refl _ _) _) _⟩
set_option maxHeartbeats 1000000 in
theorem onBase_any (h b : Int) (s : Sp) (w : World) :
    Calls Try.prog 52 #[.agg #[.int .i64 h, .int .i64 b], .agg #[.int .i64 s.wd, .int .i64 s.up, .int .i64 s.dn, .int .u8 s.al]] w fun e w' => e = .returned (.int .i64 (wrap64 (b - s.up))) ∧ Below w.heap.size w w' := by
  go_enter Try.func52, Try.ntmps52
  go_wp2
  go_ret
  exact ⟨rfl, below_al (below_al (Below.refl _ _) _) _⟩
set_option maxHeartbeats 1000000 in
theorem onTop_any (h b : Int) (s : Sp) (w : World) :
    Calls Try.prog 53 #[.agg #[.int .i64 h, .int .i64 b], .agg #[.int .i64 s.wd, .int .i64 s.up, .int .i64 s.dn, .int .u8 s.al]] w fun e w' => e = .returned (.int .i64 0) ∧ Below w.heap.size w w' := by
  go_enter Try.func53, Try.ntmps53
  go_wp2
  go_ret
  exact ⟨rfl, below_al (below_al (Below.refl _ _) _) _⟩
set_option maxHeartbeats 1000000 in
theorem onBottom_any (h b : Int) (s : Sp) (w : World) :
    Calls Try.prog 54 #[.agg #[.int .i64 h, .int .i64 b], .agg #[.int .i64 s.wd, .int .i64 s.up, .int .i64 s.dn, .int .u8 s.al]] w fun e w' => e = .returned (.int .i64 (wrap64 (wrap64 (h - s.up) - s.dn))) ∧ Below w.heap.size w w' := by
  go_enter Try.func54, Try.ntmps54
  go_wp2
  go_ret
  exact ⟨rfl, below_al (below_al (Below.refl _ _) _) _⟩
set_option maxHeartbeats 1000000 in
theorem lead_any (free : Int) (lines : Nat) (w : World) (hl : lines ≤ 2) (hf : -9000000000000000000 ≤ free ∧ free ≤ 9000000000000000000) :
    Calls Try.prog 38 #[.int .i64 free, .int .u8 lines] w fun e w' => e = .returned (.int .i64 (leadF free lines)) ∧ Below w.heap.size w w' := by
  obtain ⟨h1, h2⟩ := hf
  obtain ⟨M, hM⟩ : ∃ M, max 0 free = M := ⟨_, rfl⟩
  have m1 : 0 ≤ M := by omega
  have m2 : M ≤ 9000000000000000000 := by omega
  have hE : leadF free lines = if lines = 1 then M else if lines = 2 then M / 2 else 0 := by unfold leadF; rw [hM]
  have HE := hidd hE
  clear hE
  have hl3 : lines = 0 ∨ lines = 1 ∨ lines = 2 := by omega
  rcases hl3 with rfl | rfl | rfl
  all_goals
    go_enter Try.func38, Try.ntmps38
    go_wp2
    go_ret
    exact ⟨ret_int (by rw [HE.out]; simp), Below.refl _ _⟩
set_option maxHeartbeats 1000000 in
theorem rfits_any (n : Int) (w : World) : Calls Try.prog 39 #[.int .i64 n] w fun e w' => e = .returned (.bool (fitB n)) ∧ w = w' := by
  go_enter Try.func39, Try.ntmps39
  go_wp2
  all_goals
    go_ret
    exact ⟨ret_bool (by rw [Bool.eq_iff_iff]; simp [fitB]; try omega), rfl⟩
set_option maxHeartbeats 1000000 in
theorem over_any (n : Int) (w : World) : Calls Try.prog 35 #[.int .i64 n] w fun e w' => e = .returned (.bool (!fitB n)) ∧ w = w' := by
  go_enter Try.func35, Try.ntmps35
  go_wp2_with (go_at_call 39; refine (rfits_any _ _).mono ?_; rintro e w' ⟨rfl, rfl⟩)
  go_ret
  exact ⟨rfl, rfl⟩
end Go.Proofs.Ytdhjgflkincapaa
