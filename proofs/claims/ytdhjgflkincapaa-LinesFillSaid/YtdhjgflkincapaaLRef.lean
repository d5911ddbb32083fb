/- Contracts: the reference's small functions of chapter 10. -/
import Derived.Test.YtdhjgflkincapaaLSmall
import Derived.Test.YtdhjgflkincapaaPlainLO
namespace Go.Proofs.Ytdhjgflkincapaa
open Go.RowKit
set_option linter.unusedVariables false

theorem kd_is {l : List It} {j : Nat} {q kd wd : Int} (h : isK l j q = true) (hl : j < l.length) (ht : l[j] = ⟨kd, wd⟩) : kd = q := by
  rw [isK_some l j q hl, ht, beq_iff_eq] at h
  exact h
theorem kd_not {l : List It} {j : Nat} {q kd wd : Int} (h : isK l j q = false) (hl : j < l.length) (ht : l[j] = ⟨kd, wd⟩) : (kd == q) = false := by
  rw [isK_some l j q hl, ht] at h
  exact h
set_option maxRecDepth 100000 in
set_option maxHeartbeats 4000000 in
theorem behind_any (l : List It) (A : Option Addr) (c a r : Nat) (w : World) (hR : Rd w w.heap.size 2 A l.length (tcells l)) (hl : l.length ≤ 4096) (ha : a ≤ l.length) (hr : run 1 l a = r) :
    Calls Try.prog 40 #[.slice A l.length c, .int .i64 a] w fun e w' => e = .returned (.int .i64 r) ∧ w = w' := by
  have h1 := le_run 1 l a
  have h2 := run_le 1 ha
  have h3 := run_all 1 l a
  have h4 := run_stop 1 l a
  rw [hr] at h1 h2 h3 h4
  have HR := hidd (And.intro h3 h4)
  clear h3 h4 hr
  go_enter Try.func40, Try.ntmps40
  go_wp2_with (fail)
  go_loop [1] (fun i => ∃ k : Nat, a ≤ k ∧ k ≤ r ∧ i = .int .i64 k) (fun i => r - (intOf i).toNat)
  case atStart => exact ⟨a, Nat.le_refl _, h1, rfl⟩
  case round =>
    obtain ⟨k, hk1, hk2, rfl⟩ := hrel
    have k0 : (0 : Int) ≤ (k : Int) := Int.natCast_nonneg _
    by_cases hkl : k < l.length
    · obtain ⟨b, off, rfl, hbB, hc⟩ := hR.2 (by omega)
      have y0 := hc _ _ (tcell l k 0 hkl (by omega))
      have k1 : (k : Int) < (l.length : Int) := by omega
      have f0 : decide ((k : Int) < (l.length : Int)) = true := by simp; omega
      obtain ⟨s, hs⟩ : ∃ s, l[k] = s := ⟨_, rfl⟩
      rw [hs] at y0
      obtain ⟨kd, wd⟩ := s
      simp only [Nat.add_zero] at y0
      by_cases hkr : k < r
      · have := kd_is (HR.out.1 k hk1 hkr) hkl hs
        subst this
        clear hc hR hs
        go_wp2_with (fail)
        go_round
        case rel => exact ⟨k + 1, by omega, by omega, by go_num⟩
        case measure => simp [intOf]; omega
      · have hkk : k = r := by omega
        subst hkk
        have n1 := kd_not HR.out.2 hkl hs
        clear hc hR hs
        go_wp2_with (fail)
        go_ret
        exact ⟨rfl, rfl⟩
    · have hkk : k = r := by omega
      subst hkk
      have f0 : decide ((k : Int) < (l.length : Int)) = false := by simp; omega
      clear hR
      go_wp2_with (fail)
      go_ret
      exact ⟨rfl, rfl⟩

set_option maxRecDepth 100000 in
set_option maxHeartbeats 4000000 in
theorem rcluster_any (l : List It) (A : Option Addr) (c a r : Nat) (w : World) (hR : Rd w w.heap.size 2 A l.length (tcells l)) (hl : l.length ≤ 4096) (ha : a ≤ l.length) (hr : cl l a = r) :
    Calls Try.prog 41 #[.slice A l.length c, .int .i64 a] w fun e w' => e = .returned (.int .i64 r) ∧ w = w' := by
  have a0 : (0 : Int) ≤ (a : Int) := Int.natCast_nonneg _
  cases h3 : isK l a 3 with
  | true =>
    have hal := isK_lt h3
    obtain ⟨b, off, rfl, hbB, hc⟩ := hR.2 (by omega)
    have y0 := hc _ _ (tcell l a 0 hal (by omega))
    have a1 : (a : Int) < (l.length : Int) := by omega
    have hra : r = a + 1 := by rw [← hr]; unfold cl; rw [if_pos h3]
    subst hra
    have f0 : decide ((a : Int) < (l.length : Int)) = true := by simp; omega
    obtain ⟨s, hs⟩ : ∃ s, l[a] = s := ⟨_, rfl⟩
    rw [hs] at y0
    obtain ⟨kd, wd⟩ := s
    have := kd_is h3 hal hs
    subst this
    simp only [Nat.add_zero] at y0
    have e1 : IntKind.i64.wrap ((a : Int) + 1) = (a : Int) + 1 := IntWalk.i64_in _ ⟨by omega, by omega⟩
    clear hc hR hs h3 hr
    go_enter Try.func41, Try.ntmps41
    go_wp2_with (fail)
    go_ret
    exact ⟨by go_num, rfl⟩
  | false =>
    have hra : run 0 l a = r := by rw [← hr]; unfold cl; rw [if_neg (by rw [h3]; exact Bool.noConfusion)]
    have h1 := le_run 0 l a
    have h2 := run_le 0 ha
    have h5 := run_all 0 l a
    have h4 := run_stop 0 l a
    rw [hra] at h1 h2 h5 h4
    have HR := hidd (And.intro h5 (And.intro h4 h3))
    clear h3 h4 h5 hr hra
    go_enter Try.func41, Try.ntmps41
    by_cases hal : a < l.length
    · obtain ⟨b, off, rfl, hbB, hc⟩ := hR.2 (by omega)
      have y0 := hc _ _ (tcell l a 0 hal (by omega))
      have a1 : (a : Int) < (l.length : Int) := by omega
      have f0 : decide ((a : Int) < (l.length : Int)) = true := by simp; omega
      obtain ⟨s, hs⟩ : ∃ s, l[a] = s := ⟨_, rfl⟩
      rw [hs] at y0
      obtain ⟨kd, wd⟩ := s
      have n1 := kd_not HR.out.2.2 hal hs
      simp only [Nat.add_zero] at y0
      have HC := hidd hc
      clear hc hs
      go_wp2_with (fail)
      clear f0 n1 y0 a1
      go_loop [1] (fun i => ∃ k : Nat, a ≤ k ∧ k ≤ r ∧ i = .int .i64 k) (fun i => r - (intOf i).toNat)
      case atStart => exact ⟨a, Nat.le_refl _, h1, rfl⟩
      case round =>
        obtain ⟨k, hk1, hk2, rfl⟩ := hrel
        have k0 : (0 : Int) ≤ (k : Int) := Int.natCast_nonneg _
        by_cases hkl : k < l.length
        · have y0 := HC.out _ _ (tcell l k 0 hkl (by omega))
          have k1 : (k : Int) < (l.length : Int) := by omega
          have f0 : decide ((k : Int) < (l.length : Int)) = true := by simp; omega
          obtain ⟨s, hs⟩ : ∃ s, l[k] = s := ⟨_, rfl⟩
          rw [hs] at y0
          obtain ⟨kd, wd⟩ := s
          simp only [Nat.add_zero] at y0
          by_cases hkr : k < r
          · have := kd_is (HR.out.1 k hk1 hkr) hkl hs
            subst this
            clear hR hs
            go_wp2_with (fail)
            go_round
            case rel => exact ⟨k + 1, by omega, by omega, by go_num⟩
            case measure => simp [intOf]; omega
          · have hkk : k = r := by omega
            subst hkk
            have n1 := kd_not HR.out.2.1 hkl hs
            clear hR hs
            go_wp2_with (fail)
            go_ret
            exact ⟨rfl, rfl⟩
        · have hkk : k = r := by omega
          subst hkk
          have f0 : decide ((k : Int) < (l.length : Int)) = false := by simp; omega
          clear hR
          go_wp2_with (fail)
          go_ret
          exact ⟨rfl, rfl⟩
    · have har : a = r := by omega
      subst har
      have f0 : decide ((a : Int) < (l.length : Int)) = false := by simp; omega
      have f0' : decide (a < l.length) = false := by simp; omega
      clear hR
      go_wp2_with (fail)
      go_loop [1] (fun i => i = .int .i64 a) (fun i => 0)
      case atStart => rfl
      case round =>
        subst hrel
        go_wp2_with (fail)
        go_ret
        exact ⟨rfl, rfl⟩
set_option maxRecDepth 100000 in
set_option maxHeartbeats 4000000 in
theorem rsum_any (l : List It) (A : Option Addr) (c fr en : Nat) (n : Int) (w : World) (hR : Rd w w.heap.size 2 A l.length (tcells l)) (hl : l.length ≤ 2048) (h1 : fr ≤ en) (h2 : en ≤ l.length) (hf : fitI l = true) (hn : sm l fr en = n) :
    Calls Try.prog 42 #[.slice A l.length c, .int .i64 fr, .int .i64 en] w fun e w' => e = .returned (.int .i64 n) ∧ w = w' := by
  have HN := hidd (And.intro hn hf)
  clear hn hf
  go_enter Try.func42, Try.ntmps42
  go_wp2_with (fail)
  go_loop [7, 8] (fun s i => ∃ (k : Nat) (S : Int), fr ≤ k ∧ k ≤ en ∧ i = .int .i64 k ∧ s = .int .i64 S ∧ Hid (sm l fr k = S)) (fun _ i => en - (intOf i).toNat)
  case atStart => exact ⟨fr, 0, Nat.le_refl _, h1, rfl, rfl, sm_self l fr⟩
  case round =>
    obtain ⟨k, S, hk1, hk2, rfl, rfl, HS⟩ := hrel
    have k0 : (0 : Int) ≤ (k : Int) := Int.natCast_nonneg _
    by_cases hlt : k < en
    · have hkl : k < l.length := by omega
      obtain ⟨b, off, rfl, hbB, hc⟩ := hR.2 (by omega)
      have y1 := hc _ _ (tcell l k 1 hkl (by omega))
      have k1 : (k : Int) < (l.length : Int) := by omega
      have hss := sm_succ l fr k hk1 hkl
      have hs2 := sm_in HN.out.2 hl fr (k + 1) (by omega) (by omega)
      rw [HS.out] at hss
      rw [hss] at hs2
      obtain ⟨s, hs⟩ : ∃ s, l[k] = s := ⟨_, rfl⟩
      rw [hs] at y1 hss hs2
      obtain ⟨kd, wd⟩ := s
      simp only [← Nat.add_assoc] at y1
      simp only at hss hs2
      have f1 : IntKind.i64.wrap (S + wd) = S + wd := IntWalk.i64_in _ ⟨by omega, by omega⟩
      have f2 : wrap64 (S + wd) = S + wd := IntWalk.wrap64_in _ ⟨by omega, by omega⟩
      have f0 : decide ((k : Int) < (en : Int)) = true := by simp; omega
      have HSS := hidd hss
      clear hc hR hs hss hs2 HS
      go_wp2_with (fail)
      clear f0 f1 f2
      go_round
      case rel => exact ⟨k + 1, _, by omega, by omega, by go_num, rfl, HSS⟩
      case measure => simp [intOf]; omega
    · have hkk : k = en := by omega
      subst hkk
      have f0 : decide ((k : Int) < (k : Int)) = false := by simp
      have hSn : S = n := by rw [← HS.out, HN.out.1]
      subst hSn
      clear hR HS
      go_wp2_with (fail)
      go_ret
      exact ⟨rfl, rfl⟩

set_option maxRecDepth 100000 in
set_option maxHeartbeats 4000000 in
theorem same_lines (l : List Ln) (A B : Option Addr) (n c1 c2 : Nat) (w : World) (hA : Rd w w.heap.size 3 A n (lcells l)) (hB : Rd w w.heap.size 3 B n (lcells l)) (hn : l.length = n) (hl : n ≤ 4096) :
    Calls Try.prog 26 #[.slice A n c1, .slice B n c2] w fun e w' => e = .returned (.bool true) ∧ Below w.heap.size w w' := by
  subst hn
  have hne : ((l.length : Int) != (l.length : Int)) = false := by simp
  go_enter Try.func26, Try.ntmps26
  go_wp2_with (fail)
  go_loopw [5] (fun i wx => ∃ k : Nat, k ≤ l.length ∧ i = .int .i64 k ∧ Below w.heap.size w wx)
    (fun i _ => l.length - (intOf i).toNat)
  case atStart => exact ⟨0, Nat.zero_le _, rfl, Below.refl _ _⟩
  case round =>
    obtain ⟨k, hk, rfl, hb⟩ := hrel
    by_cases hlt : k < l.length
    · obtain ⟨b, off, rfl, hbB, hc⟩ := hA.2 (by omega)
      obtain ⟨b2, off2, rfl, hbB2, hc2⟩ := hB.2 (by omega)
      have hx0 := (hb.cell (p := ⟨b, off + (k * 3 + 0), none⟩) hbB).trans (hc _ _ (lcell l k 0 hlt (by omega)))
      have hx1 := (hb.cell (p := ⟨b, off + (k * 3 + 1), none⟩) hbB).trans (hc _ _ (lcell l k 1 hlt (by omega)))
      have hx2 := (hb.cell (p := ⟨b, off + (k * 3 + 2), none⟩) hbB).trans (hc _ _ (lcell l k 2 hlt (by omega)))
      have hy0 := (hb.cell (p := ⟨b2, off2 + (k * 3 + 0), none⟩) hbB2).trans (hc2 _ _ (lcell l k 0 hlt (by omega)))
      have hy1 := (hb.cell (p := ⟨b2, off2 + (k * 3 + 1), none⟩) hbB2).trans (hc2 _ _ (lcell l k 1 hlt (by omega)))
      have hy2 := (hb.cell (p := ⟨b2, off2 + (k * 3 + 2), none⟩) hbB2).trans (hc2 _ _ (lcell l k 2 hlt (by omega)))
      obtain ⟨s, hs⟩ : ∃ s, l[k] = s := ⟨_, rfl⟩
      rw [hs] at hx0 hx1 hx2 hy0 hy1 hy2
      obtain ⟨fr, en, wd⟩ := s
      simp only [← Nat.add_assoc, Nat.add_zero] at hx0 hx1 hx2 hy0 hy1 hy2
      have k0 : (0 : Int) ≤ (k : Int) := Int.natCast_nonneg _
      have k1 : (k : Int) < (l.length : Int) := by omega
      have hbW := Nat.lt_of_lt_of_le hbB hb.size
      have hbW2 := Nat.lt_of_lt_of_le hbB2 hb.size
      clear hc hc2 hA hB hs
      go_wp2_with (fail)
      go_quiet (fail)
      go_wp2_with (fail)
      go_roundw
      case rel => exact ⟨k + 1, by omega, by go_num, below_drewN hb _⟩
      case measure => simp [intOf]; omega
    · have hkk : k = l.length := by omega
      subst hkk
      go_wp2_with (fail)
      go_ret
      exact ⟨rfl, hb⟩

set_option maxRecDepth 100000 in
set_option maxHeartbeats 4000000 in
theorem rwidest_any (l : List Ln) (A : Option Addr) (n c : Nat) (w : World) (hR : Rd w w.heap.size 3 A n (lcells l)) (hn : l.length = n) (hl : n ≤ 4096) (v : Int) (hv : widF l = v) :
    Calls Try.prog 27 #[.slice A n c] w fun e w' => e = .returned (.int .i64 v) ∧ w = w' := by
  subst hn
  have HV := hidd hv
  clear hv
  go_enter Try.func27, Try.ntmps27
  go_wp2_with (fail)
  go_loop [3, 4] (fun m i => ∃ (k : Nat) (x : Int), k ≤ l.length ∧ i = .int .i64 k ∧ m = .int .i64 x ∧ Hid (widF (l.take k) = x))
    (fun _ i => l.length - (intOf i).toNat)
  case atStart => exact ⟨0, 0, Nat.zero_le _, rfl, rfl, rfl⟩
  case round =>
    obtain ⟨k, x, hk, rfl, rfl, HX⟩ := hrel
    by_cases hlt : k < l.length
    · obtain ⟨b, off, rfl, hbB, hc⟩ := hR.2 (by omega)
      have hx2 := hc _ _ (lcell l k 2 hlt (by omega))
      have hs := widF_snoc (l.take k) l[k]
      rw [← take_snoc l k hlt, HX.out] at hs
      obtain ⟨s, hsx⟩ : ∃ s, l[k] = s := ⟨_, rfl⟩
      rw [hsx] at hx2 hs
      obtain ⟨fr, en, wd⟩ := s
      simp only [← Nat.add_assoc] at hx2
      simp only at hs
      have k0 : (0 : Int) ≤ (k : Int) := Int.natCast_nonneg _
      have k1 : (k : Int) < (l.length : Int) := by omega
      by_cases hw : x < wd
      · have d1 : decide (x < wd) = true := by simpa using hw
        rw [show max x wd = wd from by omega] at hs
        have HS := hidd hs
        clear hc hR hsx hs HX
        go_wp2_with (fail)
        go_round
        case rel => exact ⟨k + 1, _, by omega, by go_num, rfl, HS⟩
        case measure => simp [intOf]; omega
      · have d1 : decide (x < wd) = false := by simpa using hw
        rw [show max x wd = x from by omega] at hs
        have HS := hidd hs
        clear hc hR hsx hs HX
        go_wp2_with (fail)
        go_round
        case rel => exact ⟨k + 1, _, by omega, by go_num, rfl, HS⟩
        case measure => simp [intOf]; omega
    · have hkk : k = l.length := by omega
      subst hkk
      have hxv : x = v := by rw [← HX.out, ← HV.out, List.take_length]
      subst hxv
      clear hR HX
      go_wp2_with (fail)
      go_ret
      exact ⟨rfl, rfl⟩
end Go.Proofs.Ytdhjgflkincapaa
