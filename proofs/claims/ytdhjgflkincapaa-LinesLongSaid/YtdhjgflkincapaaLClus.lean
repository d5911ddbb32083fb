/- Contract: clusters, of one cluster. -/
import Derived.Test.YtdhjgflkincapaaLSmall
namespace Go.Proofs.Ytdhjgflkincapaa
open Go.RowKit
set_option linter.unusedVariables false

set_option maxRecDepth 100000 in
set_option maxHeartbeats 4000000 in
theorem clusters_one (q : Int) (n b off c : Nat) (w : World) (hq : q = 0 ∨ (q = 3 ∧ n = 1)) (hn : 0 < n) (hn2 : n ≤ 4096) (H : ∀ k, k < n → w.cell? ⟨b, off + k * 2, none⟩ = some (.int .u8 q)) :
    Calls Try.prog 28 #[.slice (some ⟨b, off, none⟩) n c] w fun e w' => e = .returned (.int .i64 1) ∧ w = w' := by
  have HC := hidd H
  have HQ := hidd hq
  clear H hq
  go_enter Try.func28, Try.ntmps28
  go_wp2_with (fail)
  go_loop [3, 4] (fun s i => ∃ k : Nat, k ≤ n ∧ i = .int .i64 k ∧ Hid ((k = 0 ∧ s = .int .i64 0) ∨ (0 < k ∧ s = .int .i64 1)))
    (fun _ i => n - (intOf i).toNat)
  case atStart => exact ⟨0, Nat.zero_le _, rfl, .inl ⟨rfl, rfl⟩⟩
  case round =>
    obtain ⟨k, hk, rfl, hs⟩ := hrel
    by_cases hlt : k < n
    · have x0 := HC.out k hlt
      have k0 : (0 : Int) ≤ (k : Int) := Int.natCast_nonneg _
      have k1 : (k : Int) < (n : Int) := by omega
      rcases hs.out with ⟨rfl, rfl⟩ | ⟨hk0, rfl⟩
      · simp only [Nat.zero_mul, Nat.add_zero] at x0
        rcases HQ.out with rfl | ⟨rfl, _⟩
        · clear hs
          go_wp2_with (fail)
          go_round
          case rel => exact ⟨1, by omega, by go_num, .inr ⟨by omega, by go_num⟩⟩
          case measure => simp [intOf]; omega
        · clear hs
          go_wp2_with (fail)
          go_round
          case rel => exact ⟨1, by omega, by go_num, .inr ⟨by omega, by go_num⟩⟩
          case measure => simp [intOf]; omega
      · rcases HQ.out with rfl | ⟨rfl, rfl⟩
        · obtain ⟨j, rfl⟩ : ∃ j, k = j + 1 := ⟨k - 1, by omega⟩
          have x1 := HC.out j (by omega)
          have e0 : ((j : Int) + 1 == 0) = false := by rw [beq_eq_false_iff_ne]; omega
          have e1 : (((j + 1 : Nat) : Int) == 0) = false := by rw [beq_eq_false_iff_ne]; omega
          have j0 : (0 : Int) ≤ (j : Int) := Int.natCast_nonneg _
          have j1 : (j : Int) < (n : Int) := by omega
          have e2 : IntKind.i64.wrap (j : Int) = (j : Int) := IntWalk.i64_in _ ⟨by omega, by omega⟩
          clear hs
          go_wp2_with (fail)
          clear e2
          go_round
          case rel => exact ⟨j + 1 + 1, by omega, by go_num, .inr ⟨by omega, by go_num⟩⟩
          case measure => simp [intOf]; omega
        · omega
    · have hkk : k = n := by omega
      subst hkk
      rcases hs.out with ⟨rfl, _⟩ | ⟨_, rfl⟩
      · omega
      · clear hs
        go_wp2_with (fail)
        go_ret
        exact ⟨rfl, rfl⟩
end Go.Proofs.Ytdhjgflkincapaa
