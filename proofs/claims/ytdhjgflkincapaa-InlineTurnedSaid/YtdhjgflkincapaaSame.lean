/- Contract: the reference's Same, of places that are the same. -/
import Derived.Test.YtdhjgflkincapaaPlace
import Derived.Deep.RegionHeld3
import Derived.Deep.DeepCutAuto
namespace Go.Proofs.Ytdhjgflkincapaa
open Go.RowKit
set_option linter.unusedVariables false

theorem pcell (l : List Ps) (k j : Nat) (h : k < l.length) (hj : j < 2) : (pcells l)[k * 2 + j]? = (Ps.cs l[k])[j]? := flat_get Ps.cs 2 (fun _ => rfl) l k j h hj
set_option maxRecDepth 100000 in
set_option maxHeartbeats 4000000 in
theorem same_any (l : List Ps) (A B : Option Addr) (c1 c2 : Nat) (w : World) (hA : Rd w w.heap.size 2 A l.length (pcells l)) (hB : Rd w w.heap.size 2 B l.length (pcells l)) (hl : l.length ≤ 4096) :
    Calls Try.prog 20 #[.slice A l.length c1, .slice B l.length c2] w fun e w' => e = .returned (.bool true) ∧ Below w.heap.size w w' := by
  have hne : ((l.length : Int) != (l.length : Int)) = false := by simp
  go_enter Try.func20, Try.ntmps20
  go_wp2_with (fail)
  go_loopw [5] (fun i wx => ∃ k : Nat, k ≤ l.length ∧ i = .int .i64 k ∧ Below w.heap.size w wx)
    (fun i _ => l.length - (intOf i).toNat)
  case atStart => exact ⟨0, Nat.zero_le _, rfl, Below.refl _ _⟩
  case round =>
    obtain ⟨k, hk, rfl, hb⟩ := hrel
    by_cases hlt : k < l.length
    · obtain ⟨b, off, rfl, hbB, hc⟩ := hA.2 (by omega)
      obtain ⟨b2, off2, rfl, hbB2, hc2⟩ := hB.2 (by omega)
      have hx0 := (hb.cell (p := ⟨b, off + (k * 2 + 0), none⟩) hbB).trans (hc _ _ (pcell l k 0 hlt (by omega)))
      have hx1 := (hb.cell (p := ⟨b, off + (k * 2 + 1), none⟩) hbB).trans (hc _ _ (pcell l k 1 hlt (by omega)))
      have hy0 := (hb.cell (p := ⟨b2, off2 + (k * 2 + 0), none⟩) hbB2).trans (hc2 _ _ (pcell l k 0 hlt (by omega)))
      have hy1 := (hb.cell (p := ⟨b2, off2 + (k * 2 + 1), none⟩) hbB2).trans (hc2 _ _ (pcell l k 1 hlt (by omega)))
      obtain ⟨s, hs⟩ : ∃ s, l[k] = s := ⟨_, rfl⟩
      rw [hs] at hx0 hx1 hy0 hy1
      simp only [← Nat.add_assoc, Nat.add_zero] at hx0 hx1 hy0 hy1
      clear hc hc2 hA hB hs
      go_wp2_with (fail)
      go_quiet (fail)
      go_wp2_with (fail)
      go_roundw
      case rel => exact ⟨k + 1, by omega, by go_num, below_drewN hb _⟩
      case measure => simp [intOf]; omega
    · have hkk : k = l.length := by omega
      subst hkk
      go_wp2_with (fail)
      go_ret
      exact ⟨rfl, hb⟩
end Go.Proofs.Ytdhjgflkincapaa
