/- Contract: the reference's Height. -/
import Derived.Test.YtdhjgflkincapaaPlace
import Derived.Deep.RegionHeld3
import Derived.Deep.DeepCutAuto
namespace Go.Proofs.Ytdhjgflkincapaa
open Go.RowKit
set_option linter.unusedVariables false
attribute [local go_sem ↓] run_max run_min

set_option maxRecDepth 100000 in
set_option maxHeartbeats 4000000 in
theorem height_any (l : List Sp) (up dn : Int) (A : Option Addr) (cap : Nat) (w : World) (hR : Rd w w.heap.size 4 A l.length (scells l)) (hl : l.length ≤ 2048) (hf : FitL l) (hu : fitB up = true) (hd : fitB dn = true) :
    Calls Try.prog 34 #[.slice A l.length cap, .int .i64 up, .int .i64 dn] w fun e w' => e = .returned (.tuple #[.int .i64 (htOf l up dn), .int .i64 (hUp l up)]) ∧ Below w.heap.size w w' := by
  obtain ⟨hu1, hu2⟩ := (fitB_iff up).1 hu
  obtain ⟨hd1, hd2⟩ := (fitB_iff dn).1 hd
  have HF := hidd hf
  clear hf hu hd
  go_enter Try.func34, Try.ntmps34
  go_wp2_with (fail)
  go_loopw [1, 2, 8] (fun a b i wr => ∃ k : Nat, k ≤ l.length ∧ i = .int .i64 k ∧ a = .int .i64 (hUp (l.take k) up) ∧ b = .int .i64 (hDn (l.take k) dn) ∧ wr = w)
    (fun _ _ i _ => l.length - (intOf i).toNat)
  case atStart => exact ⟨0, Nat.zero_le _, rfl, rfl, rfl, rfl⟩
  case round =>
    obtain ⟨k, hk, rfl, rfl, rfl, rfl⟩ := hrel
    by_cases hlt : k < l.length
    · obtain ⟨b, off, rfl, hbB, hc⟩ := hR.2 (by omega)
      have hx1 := hc _ _ (scell l k 1 hlt (by omega))
      have hx2 := hc _ _ (scell l k 2 hlt (by omega))
      have hx3 := hc _ _ (scell l k 3 hlt (by omega))
      have eu := hUp_snoc (l.take k) l[k] up
      have ed := hDn_snoc (l.take k) l[k] dn
      rw [← take_snoc l k hlt] at eu ed
      obtain ⟨s, hs⟩ : ∃ s, l[k] = s := ⟨_, rfl⟩
      rw [hs] at hx1 hx2 hx3 eu ed
      simp only [← Nat.add_assoc] at hx1 hx2 hx3
      obtain ⟨U, hU⟩ : ∃ U, hUp (l.take k) up = U := ⟨_, rfl⟩
      obtain ⟨D, hD⟩ : ∃ U, hDn (l.take k) dn = U := ⟨_, rfl⟩
      rw [hU] at eu ⊢
      rw [hD] at ed ⊢
      have HE := hidd (And.intro eu ed)
      clear hc hR hs eu ed hU hD
      by_cases ha : s.al = 0
      · have h0 : ((s.al : Int) == 0) = true := by rw [beq_iff_eq]; omega
        have hE := HE.out
        rw [if_pos ha, if_pos ha] at hE
        clear HE
        have HE := hidd hE
        clear hE ha
        by_cases c1 : U < s.up
        · have d1 : decide (U < s.up) = true := by simpa using c1
          have m1 : max U s.up = s.up := by omega
          by_cases c2 : D < s.dn
          · have d2 : decide (D < s.dn) = true := by simpa using c2
            have m2 : max D s.dn = s.dn := by omega
            rw [m1, m2] at HE
            clear m1 m2 c1 c2
            go_wp2_with (fail)
            go_roundw
            case rel => exact ⟨k + 1, by omega, by go_num, by rw [HE.out.1], by rw [HE.out.2], trivial⟩
            case measure => simp [intOf]; omega
          · have d2 : decide (D < s.dn) = false := by simpa using c2
            have m2 : max D s.dn = D := by omega
            rw [m1, m2] at HE
            clear m1 m2 c1 c2
            go_wp2_with (fail)
            go_roundw
            case rel => exact ⟨k + 1, by omega, by go_num, by rw [HE.out.1], by rw [HE.out.2], trivial⟩
            case measure => simp [intOf]; omega
        · have d1 : decide (U < s.up) = false := by simpa using c1
          have m1 : max U s.up = U := by omega
          by_cases c2 : D < s.dn
          · have d2 : decide (D < s.dn) = true := by simpa using c2
            have m2 : max D s.dn = s.dn := by omega
            rw [m1, m2] at HE
            clear m1 m2 c1 c2
            go_wp2_with (fail)
            go_roundw
            case rel => exact ⟨k + 1, by omega, by go_num, by rw [HE.out.1], by rw [HE.out.2], trivial⟩
            case measure => simp [intOf]; omega
          · have d2 : decide (D < s.dn) = false := by simpa using c2
            have m2 : max D s.dn = D := by omega
            rw [m1, m2] at HE
            clear m1 m2 c1 c2
            go_wp2_with (fail)
            go_roundw
            case rel => exact ⟨k + 1, by omega, by go_num, by rw [HE.out.1], by rw [HE.out.2], trivial⟩
            case measure => simp [intOf]; omega
      · have h0 : ((s.al : Int) == 0) = false := by rw [beq_eq_false_iff_ne]; omega
        have hE := HE.out
        rw [if_neg ha, if_neg ha] at hE
        clear HE
        have HE := hidd hE
        clear hE ha
        go_wp2_with (fail)
        go_roundw
        case rel => exact ⟨k + 1, by omega, by go_num, by rw [HE.out.1], by rw [HE.out.2], trivial⟩
        case measure => simp [intOf]; omega
    · have hkk : k = l.length := by omega
      subst hkk
      obtain ⟨⟨b1, b2⟩, b3, b4⟩ := bound_of l HF.out l.length (Nat.le_refl _) up hu1 hu2
      obtain ⟨⟨_, _⟩, b5, b6⟩ := bound_of l HF.out l.length (Nat.le_refl _) dn hd1 hd2
      have b7 := fun k hk => bound_ht l HF.out k hk (hUp l up + hDn l dn)
      rw [List.take_length] at b1 b2 b5 b6 ⊢
      obtain ⟨U, hU⟩ : ∃ U, hUp l up = U := ⟨_, rfl⟩
      obtain ⟨D, hD⟩ : ∃ D, hDn l dn = D := ⟨_, rfl⟩
      have ehd : htOf l up dn = hHt l (U + D) := by unfold htOf; rw [hU, hD]
      rw [hU] at b1 b2 b7 ⊢
      rw [hD] at b5 b6 b7 ⊢
      have EH := hidd (And.intro ehd hU)
      have b8 : ∀ k, k ≤ l.length → -2199023255552 ≤ hHt (l.take k) (U + D) ∧ hHt (l.take k) (U + D) ≤ 2199023255552 := fun k hk => b7 k hk (by omega) (by omega)
      have HB := hidd b8
      clear ehd hU hD b3 b4 b7 b8
      have hw : wrap64 (U + D) = U + D := IntWalk.wrap64_in _ ⟨by omega, by omega⟩
      go_wp2_with (fail)
      go_loopw [9, 10] (fun h i w2 => ∃ k : Nat, k ≤ l.length ∧ i = .int .i64 k ∧ h = .int .i64 (hHt (l.take k) (U + D)) ∧ Below wr.heap.size wr w2)
        (fun _ i _ => l.length - (intOf i).toNat)
      case atStart => exact ⟨0, Nat.zero_le _, rfl, by first | rfl | (rw [hw]; rfl), Below.refl _ _⟩
      case round =>
        obtain ⟨k, hk, rfl, rfl, hb⟩ := hrel
        by_cases hlt : k < l.length
        · obtain ⟨b, off, rfl, hbB, hc⟩ := hR.2 (by omega)
          have hx1 := (hb.cell (p := ⟨b, off + (k * 4 + 1), none⟩) hbB).trans (hc _ _ (scell l k 1 hlt (by omega)))
          have hx2 := (hb.cell (p := ⟨b, off + (k * 4 + 2), none⟩) hbB).trans (hc _ _ (scell l k 2 hlt (by omega)))
          have hx3 := (hb.cell (p := ⟨b, off + (k * 4 + 3), none⟩) hbB).trans (hc _ _ (scell l k 3 hlt (by omega)))
          have eu := hHt_snoc (l.take k) l[k] (U + D)
          rw [← take_snoc l k hlt] at eu
          have hfs := (fitS_iff _).1 (HF.out l[k] (List.getElem_mem _))
          obtain ⟨s, hs⟩ : ∃ s, l[k] = s := ⟨_, rfl⟩
          rw [hs] at hx1 hx2 hx3 eu hfs
          simp only [← Nat.add_assoc] at hx1 hx2 hx3
          obtain ⟨H, hH⟩ : ∃ V, hHt (l.take k) (U + D) = V := ⟨_, rfl⟩
          rw [hH] at eu ⊢
          obtain ⟨_, ⟨q1, q2⟩, q3, q4⟩ := hfs
          clear hc hR hs hH
          by_cases ha : s.al = 0
          · have h0 : ((s.al : Int) == 0) = true := by rw [beq_iff_eq]; omega
            have h0' : ((s.al : Int) != 0) = false := by simp; omega
            rw [if_pos ha] at eu
            have HE := hidd eu
            clear eu ha
            go_wp2_with (fail)
            go_quiet (fail)
            go_wp2_with (fail)
            go_roundw
            case rel => exact ⟨k + 1, by omega, by go_num, by rw [HE.out], by first | exact below_drewN hb _ | exact hb⟩
            case measure => simp [intOf]; omega
          · have h0 : ((s.al : Int) == 0) = false := by rw [beq_eq_false_iff_ne]; omega
            have h0' : ((s.al : Int) != 0) = true := by simp; omega
            rw [if_neg ha] at eu
            by_cases c1 : H < s.up + s.dn
            · have d1 : decide (H < s.up + s.dn) = true := by simpa using c1
              have m1 : max H (s.up + s.dn) = s.up + s.dn := by omega
              rw [m1] at eu
              have HE := hidd eu
              clear eu ha m1 c1
              go_wp2_with (fail)
              go_quiet (fail)
              go_wp2_with (fail)
              go_quiet (fail)
              go_wp2_with (fail)
              go_roundw
              case rel => exact ⟨k + 1, by omega, by go_num, by rw [HE.out], by first | exact below_drewN hb _ | exact hb⟩
              case measure => simp [intOf]; omega
            · have d1 : decide (H < s.up + s.dn) = false := by simpa using c1
              have m1 : max H (s.up + s.dn) = H := by omega
              rw [m1] at eu
              have HE := hidd eu
              clear eu ha m1 c1
              go_wp2_with (fail)
              go_quiet (fail)
              go_wp2_with (fail)
              go_roundw
              case rel => exact ⟨k + 1, by omega, by go_num, by rw [HE.out], by first | exact below_drewN hb _ | exact hb⟩
              case measure => simp [intOf]; omega
        · have hkk : k = l.length := by omega
          subst hkk
          rw [List.take_length]
          go_wp2_with (fail)
          exact bodyPost_ret (v := .tuple #[.int .i64 (hHt l (U + D)), .int .i64 U]) (by simp [results, Try.results34, go_sem]) rfl ⟨by rw [EH.out.1, EH.out.2], hb⟩
end Go.Proofs.Ytdhjgflkincapaa
