/- Contract: near of chapter 14. -/
import Derived.Test.YtbcojkfndegjmaaLaw14
namespace Go.Proofs.Ytbcojkfndegjmaa
open Go.RowKit
set_option linter.unusedVariables false

set_option maxRecDepth 100000 in
set_option maxHeartbeats 8000000 in
theorem near14 (l : List Kd) (A : Option Addr) (cap : Nat) (w : World) (hR : Rd w w.heap.size 6 A l.length (kcells l)) (r : Bool) (hr : nearL l = r) :
    Calls Try.prog 27 #[.slice A l.length cap] w fun e w' => e = .returned (.bool r) ∧ Below w.heap.size w w' := by
  by_cases h1 : 200 < l.length
  · have hd : decide ((200 : Int) < (l.length : Int)) = true := by simp; omega
    have hrf : r = false := by rw [← hr]; simp [nearL]; omega
    subst hrf
    clear hr hR h1
    go_enter Try.func27, Try.ntmps27
    go_wp2_with (fail)
    go_ret
    exact ⟨rfl, Below.refl _ _⟩
  have hd : decide ((200 : Int) < (l.length : Int)) = false := by simp; omega
  have hX : l.all nearK = r := by
    rw [← hr]; unfold nearL
    have : decide (l.length ≤ 200) = true := by simp; omega
    rw [this, Bool.true_and]
  have hlb : l.length ≤ 200 := by omega
  have HX := hidd hX
  clear hX hr h1
  go_enter Try.func27, Try.ntmps27
  go_wp2_with (fail)
  go_loopw [3] (fun i wr => ∃ k : Nat, k ≤ l.length ∧ i = .int .i64 k ∧ (l.take k).all nearK = true ∧ Below w.heap.size w wr)
    (fun i _ => l.length - (intOf i).toNat)
  case atStart => exact ⟨0, Nat.zero_le _, rfl, by simp, Below.refl _ _⟩
  case round =>
    obtain ⟨k, hk, rfl, hall, hb⟩ := hrel
    by_cases hlt : k < l.length
    · obtain ⟨b, off, rfl, hbB, hc⟩ := hR.2 (by omega)
      have hx0 := (hb.cell (p := ⟨b, off + (k * 6 + 0), none⟩) hbB).trans (hc _ _ (kcell l k 0 hlt (by omega)))
      have hx1 := (hb.cell (p := ⟨b, off + (k * 6 + 1), none⟩) hbB).trans (hc _ _ (kcell l k 1 hlt (by omega)))
      have hx2 := (hb.cell (p := ⟨b, off + (k * 6 + 2), none⟩) hbB).trans (hc _ _ (kcell l k 2 hlt (by omega)))
      have hx3 := (hb.cell (p := ⟨b, off + (k * 6 + 3), none⟩) hbB).trans (hc _ _ (kcell l k 3 hlt (by omega)))
      have hx4 := (hb.cell (p := ⟨b, off + (k * 6 + 4), none⟩) hbB).trans (hc _ _ (kcell l k 4 hlt (by omega)))
      have hx5 := (hb.cell (p := ⟨b, off + (k * 6 + 5), none⟩) hbB).trans (hc _ _ (kcell l k 5 hlt (by omega)))
      have hstep : nearK l[k] = true → (l.take (k + 1)).all nearK = true := fun h => by rw [take_snoc l k hlt, List.all_append, hall]; simp [h]
      have hbad : nearK l[k] = false → r = false := fun h => by
        rw [← HX.out, Bool.eq_false_iff]
        intro hh
        rw [List.all_eq_true] at hh
        rw [hh l[k] (List.getElem_mem _)] at h
        cases h
      obtain ⟨s, hs⟩ : ∃ s, l[k] = s := ⟨_, rfl⟩
      rw [hs] at hx0 hx1 hx2 hx3 hx4 hx5 hbad hstep
      simp only [← Nat.add_assoc, Nat.add_zero] at hx0 hx1 hx2 hx3 hx4 hx5
      obtain ⟨⟨u, d⟩, ⟨u2, d2⟩, ht, th⟩ := s
      simp only at hx0 hx1 hx2 hx3 hx4 hx5
      obtain ⟨q, hq⟩ : ∃ q, nearK ⟨⟨u, d⟩, ⟨u2, d2⟩, ht, th⟩ = q := ⟨_, rfl⟩
      rw [hq] at hstep hbad
      have HS := hidd (And.intro hbad hstep)
      have HQ := hidd hq
      clear hc hR hs hbad hstep hall hq
      have hg0 := Blk.new wr 48 #[.int .i64 u, .int .i64 d, .int .i64 u2, .int .i64 d2, .int .i64 ht, .bool th]
      have hB0 := below_al hb (.cells #[.int .i64 u, .int .i64 d, .int .i64 u2, .int .i64 d2, .int .i64 ht, .bool th] 48)
      obtain ⟨r1, h1⟩ : ∃ r, nearM ⟨u, d⟩ = r := ⟨_, rfl⟩
      obtain ⟨r2, h2⟩ : ∃ r, nearM ⟨u2, d2⟩ = r := ⟨_, rfl⟩
      have H1 := hidd h1
      have H2 := hidd h2
      clear h1 h2
      go_upto_region 7 with (fail)
      go_cut [46] (fun c wx => c = .bool (!q) ∧ Below w.heap.size w wx)
      case first =>
        by_cases a0 : ht < 0
        · have d0 : decide (ht < 0) = true := by simpa using a0
          have hqf : q = false := by rw [← HQ.out]; simp [nearK, a0]
          subst hqf
          clear a0 HS HQ
          go_wp2_with (fail)
          go_meet
          exact ⟨rfl, hB0⟩
        have d0 : decide (ht < 0) = false := by simpa using a0
        by_cases a1 : 268435456 < ht
        · have d1 : decide (268435456 < ht) = true := by simpa using a1
          have hqf : q = false := by rw [← HQ.out]; simp [nearK]; omega
          subst hqf
          clear a0 a1 HS HQ
          go_wp2_with (fail)
          go_meet
          exact ⟨rfl, hB0⟩
        have d1 : decide (268435456 < ht) = false := by simpa using a1
        by_cases a2 : th = true ∧ ht ≠ 0
        · obtain ⟨rfl, a2⟩ := a2
          have d2' : (ht != 0) = true := by simpa using a2
          have hqf : q = false := by rw [← HQ.out]; simp [nearK, a2]
          subst hqf
          clear a0 a1 a2 HS HQ
          go_wp2_with (fail)
          go_meet
          exact ⟨rfl, hB0⟩
        have d2' : th = true → (ht != 0) = false := fun h => by rw [bne_eq_false_iff_eq]; exact Decidable.byContradiction fun h2 => a2 ⟨h, h2⟩
        have hqq : q = (r1 && r2) := by
          rw [← HQ.out, ← H1.out, ← H2.out]
          have e1 : (!decide (ht < 0)) = true := by simp; omega
          have e2 : decide (ht ≤ 268435456) = true := by simp; omega
          have e3 : (!(th && (ht != 0))) = true := by cases th <;> simp_all
          simp only [nearK, e1, e2, e3, Bool.true_and]
        have HQQ := hidd hqq
        clear hqq HQ HS a0 a1 a2
        have hg00 := hg0.cell 0
        cases r1 with
        | false =>
          cases th
          all_goals
            try have d2'' := d2' rfl
            go_wp2_with (fail)
            refine (small_val ⟨u, d⟩ false H1.out _).mono ?_
            rintro e w2 ⟨rfl, hbN⟩
            have hB1 := below_step hB0 hbN
            clear hbN hg0 hg00 hB0
            go_wp2_with (fail)
            go_meet
            exact ⟨by rw [HQQ.out]; rfl, hB1⟩
        | true =>
          cases th
          all_goals
            try have d2'' := d2' rfl
            go_wp2_with (fail)
            refine (small_val ⟨u, d⟩ true H1.out _).mono ?_
            rintro e w2 ⟨rfl, hbN⟩
            have hg1 := hg0.below hbN hg0.lt
            have hB1 := below_step hB0 hbN
            clear hbN hg0 hg00 hB0
            have hg12 := hg1.cell 2
            have hg13 := hg1.cell 3
            simp at hg12 hg13
            go_wp2_with (fail)
            refine (small_val ⟨u2, d2⟩ r2 H2.out _).mono ?_
            rintro e w3 ⟨rfl, hbN⟩
            have hB2 := below_step hB1 hbN
            clear hbN hg1 hg12 hg13 hB1
            go_wp2_with (fail)
            go_meet
            exact ⟨by rw [HQQ.out]; simp, hB2⟩
      case rest =>
      obtain ⟨rfl, hB1⟩ := hcut
      obtain ⟨W1, hW1⟩ : ∃ W, wc = W := ⟨_, rfl⟩
      rw [hW1] at hB1 ⊢
      clear hW1
      clear wc
      clear hg0 hB0 hx0 hx1 hx2 hx3 hx4 hx5 HQ H1 H2
      cases q with
      | false =>
        have hrf := HS.out.1 rfl
        subst hrf
        clear HS
        go_wp2_with (fail)
        go_ret
        exact ⟨rfl, hB1⟩
      | true =>
        have HN := hidd (HS.out.2 rfl)
        clear HS
        go_wp2_with (fail)
        go_roundw
        case rel => exact ⟨k + 1, by omega, by go_num, HN.out, hB1⟩
        case measure => simp [intOf]; omega
    · have hkk : k = l.length := by omega
      subst hkk
      rw [List.take_length, HX.out] at hall
      subst hall
      go_wp2_with (fail)
      go_ret
      exact ⟨rfl, hb⟩
end Go.Proofs.Ytbcojkfndegjmaa
