/- LinesLong: the walk. -/
import Derived.Test.YtdhjgflkincapaaMBlanks
import Derived.Test.YtdhjgflkincapaaPlainLO
import Derived.Test.YtdhjgflkincapaaLClus
import Derived.Test.YtdhjgflkincapaaOpenL
namespace Go.Proofs.Ytdhjgflkincapaa
open Go.RowKit
set_option linter.unusedVariables false

theorem cl_kind {l : List It} {a : Nat} (h : solidAt l a) : ∃ q : Int, (q = 0 ∨ (q = 3 ∧ cl l a - a = 1)) ∧ a < cl l a ∧ ∀ j, a ≤ j → j < cl l a → isK l j q = true := by
  rcases h with h | h
  · have h3 := isK_two h (q' := 3) (by decide)
    have e : cl l a = run 0 l a := by unfold cl; rw [if_neg (by rw [h3]; exact Bool.noConfusion)]
    refine ⟨0, .inl rfl, cl_more (.inl h), fun j h1 h2 => ?_⟩
    rw [e] at h2
    exact run_all 0 l a j h1 h2
  · have e : cl l a = a + 1 := by unfold cl; rw [if_pos h]
    refine ⟨3, .inr ⟨rfl, by omega⟩, by omega, fun j h1 h2 => ?_⟩
    obtain rfl : j = a := by omega
    exact h
theorem cl_words {l : List It} {a j : Nat} (h1 : a < j) (h2 : j < cl l a) : isK l j 0 = true ∧ isK l (j - 1) 0 = true := by
  unfold cl at h2
  split at h2
  · omega
  · exact ⟨run_all 0 l a j (by omega) h2, run_all 0 l a (j - 1) (by omega) (by omega)⟩
theorem kd_of {l : List It} {j : Nat} {q kd wd : Int} (h : isK l j q = true) (hl : j < l.length) (ht : l[j] = ⟨kd, wd⟩) : kd = q := by
  rw [isK_some l j q hl, ht, beq_iff_eq] at h
  exact h
theorem kd_no {l : List It} {j : Nat} {q kd wd : Int} (h : isK l j q = false) (hl : j < l.length) (ht : l[j] = ⟨kd, wd⟩) : (kd == q) = false := by
  rw [isK_some l j q hl, ht] at h
  exact h

set_option maxRecDepth 100000 in
set_option maxHeartbeats 16000000 in
theorem long_walk (l : List It) (Wd : Int) (A : Option Addr) (cap : Nat) (w : World) (hR : Rd w w.heap.size 2 A l.length (tcells l)) (hlc : l.length ≤ cap) (hcm : cap ≤ maxLen) (hwl : ∀ x ∈ l, x.wide) :
    Calls Try.prog 12 #[.slice A l.length cap, .int .i64 Wd] w fun e w' => e = .returned (.bool true) ∧ Below w.heap.size w w' := by
  obtain ⟨G, hG⟩ : ∃ G, greatF l Wd = G := ⟨_, rfl⟩
  have HG := hidd hG
  have HW := hidd hwl
  clear hG hwl
  go_enter Try.func12, Try.ntmps12
  go_wp2_with (fail)
  refine (awake10 _).mono ?_
  rintro e w1 ⟨rfl, hB1⟩
  go_wp2_with (fail)
  refine (great_any l Wd A cap w1 ((hR.below hB1).more hB1.size) G HG.out).mono ?_
  rintro e w1' ⟨rfl, rfl⟩
  cases G with
  | true =>
    clear hR
    go_wp2_with (fail)
    go_ret
    exact ⟨rfl, hB1⟩
  | false =>
  obtain ⟨hl5, hW0, hW1, hkd, hwd⟩ := great_no HG.out
  have hfl := near_fill (l := l) (W := Wd) (by omega) hW0 hW1 hkd hwd
  have hcl := lines_count l Wd
  have hk2 : ∀ x ∈ l, 0 ≤ x.kd ∧ x.kd ≤ 3 := fun x hx => ⟨(HW.out x hx).1.1, hkd x hx⟩
  have hlo := lines_long l hk2 Wd hW0
  have hsm := fun x hx => line_wd l Wd (l.length + 1) (l.length + 1) 0 (Nat.zero_le _) x hx
  change ∀ x ∈ lines l Wd, x.wd = sm l x.fr x.en ∧ x.fr ≤ x.en ∧ x.en ≤ l.length at hsm
  obtain ⟨X, hX⟩ : ∃ X, lines l Wd = X := ⟨_, rfl⟩
  simp only [hX] at hfl hcl hlo hsm
  have HF := hidd (And.intro hfl (And.intro hlo (And.intro hsm (And.intro hk2 hwd))))
  clear hfl hlo hsm hk2 hX hkd hwd HW HG
  go_wp2_with (fail)
  refine (fill_lit l Wd A l.length cap X.length w1 _ ((hR.below hB1).more hB1.size) rfl hlc hcm HF.out.1 rfl).mono ?_
  rintro e w2 ⟨A2, c2, rfl, rd2, hb2⟩
  have hB2 := below_step hB1 hb2
  have rl := (hR.below hB2).more hB2.size
  simp only at rd2
  clear hb2 hB1 hR
  unfold maxLen at hcm
  go_wp2_with (fail)
  go_loopw [7] (fun i wx => ∃ k : Nat, k ≤ X.length ∧ i = .int .i64 k ∧ Below w2.heap.size w2 wx)
    (fun i _ => X.length - (intOf i).toNat)
  case atStart => exact ⟨0, Nat.zero_le _, rfl, Below.refl _ _⟩
  case round =>
    obtain ⟨k, hk, rfl, hb⟩ := hrel
    by_cases hlt : k < X.length
    · obtain ⟨b, off, rfl, hbB, hc⟩ := rd2.2 (by omega)
      have hx0 := (hb.cell (p := ⟨b, off + (k * 3 + 0), none⟩) hbB).trans (hc _ _ (lcell X k 0 hlt (by omega)))
      have hx1 := (hb.cell (p := ⟨b, off + (k * 3 + 1), none⟩) hbB).trans (hc _ _ (lcell X k 1 hlt (by omega)))
      have hx2 := (hb.cell (p := ⟨b, off + (k * 3 + 2), none⟩) hbB).trans (hc _ _ (lcell X k 2 hlt (by omega)))
      have hlo := HF.out.2.1 X[k] (List.getElem_mem _)
      obtain ⟨hs1, hs2, hs3⟩ := HF.out.2.2.1 X[k] (List.getElem_mem _)
      obtain ⟨s, hsx⟩ : ∃ s, X[k] = s := ⟨_, rfl⟩
      rw [hsx] at hx0 hx1 hx2 hlo hs1 hs2 hs3
      obtain ⟨fr, en, wd⟩ := s
      simp only [← Nat.add_assoc, Nat.add_zero] at hx0 hx1 hx2
      simp only at hs1 hs2 hs3
      obtain ⟨hlo1, hlo2⟩ := hlo
      simp only at hlo1 hlo2
      have HS := hidd (And.intro hs1 (And.intro hlo1 hlo2))
      have k0 : (0 : Int) ≤ (k : Int) := Int.natCast_nonneg _
      have k1 : (k : Int) < (X.length : Int) := by omega
      have hbW := Nat.lt_of_lt_of_le hbB hb.size
      clear hc hsx hs1 hlo1 hlo2
      go_upto_region 12 with (fail)
      have hg := Blk.new wr 33 #[.int .i64 (fr : Int), .int .i64 (en : Int), .int .i64 wd]
      have hB := below_al hb (.cells #[.int .i64 (fr : Int), .int .i64 (en : Int), .int .i64 wd] 33)
      obtain ⟨W1, hW1⟩ : ∃ Z, wr.alloc (.cells #[.int .i64 (fr : Int), .int .i64 (en : Int), .int .i64 wd] 33) = Z := ⟨_, rfl⟩
      rw [hW1] at hg hB ⊢
      obtain ⟨g, hgE⟩ : ∃ g, wr.heap.size = g := ⟨_, rfl⟩
      rw [hgE] at hg ⊢
      obtain ⟨b1, off1, rfl, hbB1, hc1⟩ := ((rl.below hB).more hB.size).2 (by omega)
      have HC := hidd hc1
      clear hW1 hgE hb hx0 hx1 hx2 hbW hc1 k0 k1
      clear wr
      have t0 := hg.cell 0
      have t1 := hg.cell 1
      have t2 := hg.cell 2
      simp at t0 t1 t2
      have hgl := hg.lt
      have z0 : (0 : Int) ≤ (fr : Int) := Int.natCast_nonneg _
      have z1 : (fr : Int) ≤ (en : Int) := by omega
      have z2 : (en : Int) ≤ (cap : Int) := by omega
      go_cut [66] (fun v wx => v = .bool false ∧ wx = W1)
      case first =>
        have d0 : decide ((fr : Int) < 0) = false := by simp
        have d1 : decide ((en : Int) < (fr : Int)) = false := by simp; omega
        have d2 : decide ((l.length : Int) < (en : Int)) = false := by simp; omega
        by_cases hw : Wd < wd
        · have d3 : decide (Wd < wd) = true := by simpa using hw
          obtain ⟨he, hso⟩ := HS.out.2.1 hw
          obtain ⟨q, hq1, hq2, hq3⟩ := cl_kind hso
          rw [← he] at hq1 hq2 hq3
          have HH : Hid (∀ i, i < en - fr → W1.cell? ⟨b1, off1 + fr * 2 + i * 2, none⟩ = some (.int .u8 q)) := by
            intro i hi
            have hjl : fr + i < l.length := by omega
            have y0 := HC.out _ _ (tcell l (fr + i) 0 hjl (by omega))
            have hkq := hq3 (fr + i) (by omega) (by omega)
            obtain ⟨t, ht⟩ : ∃ t, l[fr + i] = t := ⟨_, rfl⟩
            rw [ht] at y0
            obtain ⟨kd, wt⟩ := t
            have := kd_of hkq hjl ht
            subst this
            rw [show off1 + fr * 2 + i * 2 = off1 + ((fr + i) * 2 + 0) from by omega]
            exact y0
          have HQ := hidd hq1
          clear hq1 hq3 he hso
          go_wp2_with (fail)
          refine (clusters_one q (en - fr) b1 (off1 + fr * 2) _ W1 HQ.out (by omega) (by omega) HH.out).mono ?_
          rintro e w' ⟨rfl, rfl⟩
          go_wp2_with (fail)
          go_meet
          exact ⟨by simp; omega, rfl⟩
        · have d3 : decide (Wd < wd) = false := by simpa using hw
          go_wp2_with (fail)
          go_meet
          exact ⟨by simp; omega, rfl⟩
      case rest =>
        obtain ⟨rfl, hwc⟩ := hcut
        rw [hwc]
        clear hwc z0 z1 z2
        clear wc
        have hB9 := hB
        by_cases hfe : en = fr
        · have e0 : ((en : Int) == (fr : Int)) = true := by rw [beq_iff_eq]; omega
          go_wp2_with (fail)
          go_roundw
          case rel => exact ⟨k + 1, by omega, by go_num, hB9⟩
          case measure => simp [intOf]; omega
        have e0 : ((en : Int) == (fr : Int)) = false := by rw [beq_eq_false_iff_ne]; omega
        by_cases hel : en = l.length
        · have e1 : ((en : Int) == (l.length : Int)) = true := by rw [beq_iff_eq]; omega
          go_wp2_with (fail)
          go_roundw
          case rel => exact ⟨k + 1, by omega, by go_num, hB9⟩
          case measure => simp [intOf]; omega
        have e1 : ((en : Int) == (l.length : Int)) = false := by rw [beq_eq_false_iff_ne]; omega
        obtain ⟨hst, hen⟩ := HS.out.2.2 (by omega)
        unfold Stops at hst
        have hb1 := le_run 1 l en
        have hb2 := run_le 1 hs3
        have hb3 := run_all 1 l en
        have hb4 := run_stop 1 l en
        obtain ⟨B, hBe⟩ : ∃ B, run 1 l en = B := ⟨_, rfl⟩
        rw [hBe] at hst hb1 hb2 hb3 hb4
        have HE := hidd (And.intro hst (And.intro hen (And.intro hb3 hb4)))
        clear hst hen hb3 hb4 hBe
        go_upto_region 15 with (fail)
        go_quiet (fail)
        go_wp2_with (fail)
        clear e0 e1 t0 t1 t2
        go_loopw [9, 10] (fun n a wx => ∃ (j : Nat) (S : Int), en ≤ j ∧ j ≤ B ∧ a = .int .i64 j ∧ n = .int .i64 S ∧ Hid (sm l fr j = S) ∧ Below W1.heap.size W1 wx)
          (fun _ a _ => l.length - (intOf a).toNat)
        case atStart => exact ⟨en, wd, Nat.le_refl _, hb1, rfl, rfl, HS.out.1.symm, below_drewN (Below.refl _ _) _⟩
        case round =>
          obtain ⟨j, S, hj1, hj2, rfl, rfl, HSM, hb⟩ := hrel
          have hgq := hg.below hb hg.lt
          have hgl2 := hgq.lt
          have hbW1 := Nat.lt_of_lt_of_le hbB1 hb.size
          have j0 : (0 : Int) ≤ (j : Int) := Int.natCast_nonneg _
          by_cases hjb : j < B
          · have hjl : j < l.length := by omega
            have j1 : (j : Int) < (l.length : Int) := by omega
            have f0 : decide ((j : Int) < (l.length : Int)) = true := by simp; omega
            have y0 := (hb.cell (p := ⟨b1, off1 + (j * 2 + 0), none⟩) hbB1).trans (HC.out _ _ (tcell l j 0 hjl (by omega)))
            have y1 := (hb.cell (p := ⟨b1, off1 + (j * 2 + 1), none⟩) hbB1).trans (HC.out _ _ (tcell l j 1 hjl (by omega)))
            have hk1 := HE.out.2.2.1 j hj1 hjb
            have hss := sm_succ l fr j (by omega) hjl
            have hb5 := sm_near HF.out.2.2.2.2 fr (j - fr) (by omega)
            have hb6 := HF.out.2.2.2.2 l[j] (List.getElem_mem _)
            rw [show fr + (j - fr) = j from by omega, HSM.out] at hb5
            rw [HSM.out] at hss
            obtain ⟨t, ht⟩ : ∃ t, l[j] = t := ⟨_, rfl⟩
            rw [ht] at y0 y1 hss hb6
            obtain ⟨kd3, wt3⟩ := t
            have := kd_of hk1 hjl ht
            subst this
            simp only [← Nat.add_assoc, Nat.add_zero] at y0 y1
            simp only at hss hb6
            have f1 : IntKind.i64.wrap (S + wt3) = S + wt3 := IntWalk.i64_in _ ⟨by omega, by omega⟩
            have f2 : wrap64 (S + wt3) = S + wt3 := IntWalk.wrap64_in _ ⟨by omega, by omega⟩
            have HSS := hidd hss
            clear hss hb5 hb6 ht HSM hgq hk1
            go_wp2_with (fail)
            clear f0 f1 f2
            go_roundw
            case rel => exact ⟨j + 1, _, by omega, by omega, by go_num, rfl, HSS, hb⟩
            case measure => simp [intOf]; omega
          · have hjj : j = B := by omega
            subst hjj
            by_cases hjl : j < l.length
            · have j1 : (j : Int) < (l.length : Int) := by omega
              have f0 : decide ((j : Int) < (l.length : Int)) = true := by simp; omega
              have f0' : ((j : Int) == (l.length : Int)) = false := by rw [beq_eq_false_iff_ne]; omega
              have y0 := (hb.cell (p := ⟨b1, off1 + (j * 2 + 0), none⟩) hbB1).trans (HC.out _ _ (tcell l j 0 hjl (by omega)))
              have y1 := (hb.cell (p := ⟨b1, off1 + (j * 2 + 1), none⟩) hbB1).trans (HC.out _ _ (tcell l j 1 hjl (by omega)))
              have hss := sm_succ l fr j (by omega) hjl
              have hb5 := sm_near HF.out.2.2.2.2 fr (j - fr) (by omega)
              have hb6 := HF.out.2.2.2.2 l[j] (List.getElem_mem _)
              rw [show fr + (j - fr) = j from by omega, HSM.out] at hb5
              rw [HSM.out] at hss
              obtain ⟨t, ht⟩ : ∃ t, l[j] = t := ⟨_, rfl⟩
              rw [ht] at y0 y1 hss hb6
              obtain ⟨kd3, wt3⟩ := t
              have n1 := kd_no HE.out.2.2.2 hjl ht
              simp only [← Nat.add_assoc, Nat.add_zero] at y0 y1
              simp only at hss hb6
              by_cases hk2 : kd3 = 2
              · subst hk2
                clear hss hb5 hb6 ht HSM hgq
                have hB8 := hB.trans (hb.mono hB.size)
                go_wp2_with (fail)
                clear f0 f0'
                go_roundw
                case rel => exact ⟨k + 1, by omega, by go_num, hB8⟩
                case measure => simp [intOf]; omega
              · have n2 : (kd3 == 2) = false := by rw [beq_eq_false_iff_ne]; exact hk2
                have hcm : j < cl l j := by
                  rcases kind_cases HF.out.2.2.2.1 j hjl with h6 | h6 | h6 | h6
                  · exact cl_more (.inl h6)
                  · rw [HE.out.2.2.2] at h6; cases h6
                  · exact absurd (kd_of h6 hjl ht) hk2
                  · exact cl_more (.inr h6)
                have hgt := HE.out.1 hcm
                have hce := cl_ends hcm
                have hcl3 := cl_le (l := l) (Nat.le_of_lt hjl)
                have hcw : ∀ q, j < q → q < cl l j → isK l q 0 = true ∧ isK l (q - 1) 0 = true := fun q h1 h2 => cl_words h1 h2
                obtain ⟨c, hc⟩ : ∃ c, cl l j = c := ⟨_, rfl⟩
                rw [hc] at hcm hgt hce hcl3 hcw
                have f1 : IntKind.i64.wrap (S + wt3) = S + wt3 := IntWalk.i64_in _ ⟨by omega, by omega⟩
                have f2 : wrap64 (S + wt3) = S + wt3 := IntWalk.wrap64_in _ ⟨by omega, by omega⟩
                have HSS := hidd hss
                have HCC := hidd (And.intro hgt (And.intro hce hcw))
                obtain ⟨V, hV⟩ : ∃ Z, wr = Z := ⟨_, rfl⟩
                rw [hV] at hb y0 y1 hgq hgl2 hbW1 ⊢
                clear hss hb5 hb6 ht HSM hgt hce hcw hV hc hgq hk2
                clear wr
                go_wp2_with (fail)
                clear f0 f0' f1 f2 y0 y1
                obtain ⟨p, hp⟩ : ∃ p, p + 1 = en := ⟨en - 1, by omega⟩
                have hpl : p < l.length := by omega
                have hel2 : en < l.length := by omega
                have HBV := hidd hb
                go_loopw [9, 10] (fun n a wx => ∃ (q : Nat) (T : Int), j < q ∧ q ≤ c ∧ a = .int .i64 q ∧ n = .int .i64 T ∧ Hid (sm l fr q = T) ∧ Below V.heap.size V wx)
                  (fun _ a _ => l.length - (intOf a).toNat)
                case atStart => exact ⟨j + 1, S + wt3, by omega, by omega, by go_num, rfl, HSS.out, Below.refl _ _⟩
                case round =>
                  obtain ⟨q, T, hq1, hq2, rfl, rfl, HSM, hbx⟩ := hrel
                  have hbT := HBV.out.trans (hbx.mono HBV.out.size)
                  have hgq := hg.below hbT hg.lt
                  have p1 := hgq.cell 1
                  simp at p1
                  have hgl3 := hgq.lt
                  have hbW2 := Nat.lt_of_lt_of_le hbB1 hbT.size
                  have q0 : (0 : Int) ≤ (q : Int) := Int.natCast_nonneg _
                  obtain ⟨r, rfl⟩ : ∃ r, q = r + 1 := ⟨q - 1, by omega⟩
                  have r0 : (0 : Int) ≤ (r : Int) := Int.natCast_nonneg _
                  have hrl : r < l.length := by omega
                  have r1 : (r : Int) < (l.length : Int) := by omega
                  have r2 : (r : Int) + 1 - 1 = (r : Int) := by omega
                  have r3 : IntKind.i64.wrap (r : Int) = (r : Int) := IntWalk.i64_in _ ⟨by omega, by omega⟩
                  have u0 := (hbT.cell (p := ⟨b1, off1 + (r * 2 + 0), none⟩) hbB1).trans (HC.out _ _ (tcell l r 0 hrl (by omega)))
                  obtain ⟨tr, htr⟩ : ∃ t, l[r] = t := ⟨_, rfl⟩
                  rw [htr] at u0
                  obtain ⟨kdr, wtr⟩ := tr
                  by_cases hqc : r + 1 < c
                  · have hql : r + 1 < l.length := by omega
                    have q1 : (r : Int) + 1 < (l.length : Int) := by omega
                    have f0 : decide ((r : Int) + 1 < (l.length : Int)) = true := by simp; omega
                    have y0 := (hbT.cell (p := ⟨b1, off1 + ((r + 1) * 2 + 0), none⟩) hbB1).trans (HC.out _ _ (tcell l (r + 1) 0 hql (by omega)))
                    have y1 := (hbT.cell (p := ⟨b1, off1 + ((r + 1) * 2 + 1), none⟩) hbB1).trans (HC.out _ _ (tcell l (r + 1) 1 hql (by omega)))
                    obtain ⟨hw1, hw2⟩ := HCC.out.2.2 (r + 1) hq1 hqc
                    rw [show r + 1 - 1 = r from by omega] at hw2
                    have := kd_of hw2 hrl htr
                    subst this
                    have hss := sm_succ l fr (r + 1) (by omega) hql
                    have hb5 := sm_near HF.out.2.2.2.2 fr (r + 1 - fr) (by omega)
                    have hb6 := HF.out.2.2.2.2 l[r + 1] (List.getElem_mem _)
                    rw [show fr + (r + 1 - fr) = r + 1 from by omega, HSM.out] at hb5
                    rw [HSM.out] at hss
                    obtain ⟨t, ht⟩ : ∃ t, l[r + 1] = t := ⟨_, rfl⟩
                    rw [ht] at y0 y1 hss hb6
                    obtain ⟨kd4, wt4⟩ := t
                    have := kd_of hw1 hql ht
                    subst this
                    simp only [← Nat.add_assoc, Nat.add_zero] at y0 y1 u0
                    simp only at hss hb6
                    have f1 : IntKind.i64.wrap (T + wt4) = T + wt4 := IntWalk.i64_in _ ⟨by omega, by omega⟩
                    have f2 : wrap64 (T + wt4) = T + wt4 := IntWalk.wrap64_in _ ⟨by omega, by omega⟩
                    have HST := hidd hss
                    clear hss hb5 hb6 ht htr HSM hgq p1 hw1 hw2 hg
                    go_wp2_with (fail)
                    clear f0 f1 f2 r2 r3
                    go_roundw
                    case rel => exact ⟨r + 1 + 1, _, by omega, by omega, by go_num, rfl, HST, hbx⟩
                    case measure => simp [intOf]; omega
                  · have hqq : r + 1 = c := by omega
                    subst hqq
                    have s0 : decide (T ≤ Wd) = false := by have := HCC.out.1; rw [HSM.out] at this; simp; omega
                    have s1 : (en : Int) - 1 = (p : Int) := by omega
                    have s2 : IntKind.i64.wrap (p : Int) = (p : Int) := IntWalk.i64_in _ ⟨by omega, by omega⟩
                    have p0 : (0 : Int) ≤ (p : Int) := Int.natCast_nonneg _
                    have e0 : (0 : Int) ≤ (en : Int) := Int.natCast_nonneg _
                    have p2 : (p : Int) < (l.length : Int) := by omega
                    have e1 : (en : Int) < (l.length : Int) := by omega
                    have v0 := (hbT.cell (p := ⟨b1, off1 + (en * 2 + 0), none⟩) hbB1).trans (HC.out _ _ (tcell l en 0 hel2 (by omega)))
                    have v1 := (hbT.cell (p := ⟨b1, off1 + (p * 2 + 0), none⟩) hbB1).trans (HC.out _ _ (tcell l p 0 hpl (by omega)))
                    obtain ⟨te, hte⟩ : ∃ t, l[en] = t := ⟨_, rfl⟩
                    rw [hte] at v0
                    obtain ⟨kde, wte⟩ := te
                    obtain ⟨tp, htp⟩ : ∃ t, l[p] = t := ⟨_, rfl⟩
                    rw [htp] at v1
                    obtain ⟨kdp, wtp⟩ := tp
                    simp only [Nat.add_zero] at u0 v0 v1
                    have HZ : Hid ((kde = 0 ∧ (kdp == 0) = false) ∨ (kde == 0) = false) := by
                      by_cases h0 : kde = 0
                      · refine .inl ⟨h0, ?_⟩
                        rw [beq_eq_false_iff_ne]
                        rintro rfl
                        refine HE.out.2.1 ⟨?_, ?_⟩
                        · rw [isK_some l en 0 hel2, hte, h0]; rfl
                        · rw [show en - 1 = p from by omega, isK_some l p 0 hpl, htp]; rfl
                      · exact .inr (by rw [beq_eq_false_iff_ne]; exact h0)
                    have hB8 := hB.trans (hbT.mono hB.size)
                    by_cases hql : r + 1 < l.length
                    · have q1 : (r : Int) + 1 < (l.length : Int) := by omega
                      have f0 : decide ((r : Int) + 1 < (l.length : Int)) = true := by simp; omega
                      have y0 := (hbT.cell (p := ⟨b1, off1 + ((r + 1) * 2 + 0), none⟩) hbB1).trans (HC.out _ _ (tcell l (r + 1) 0 hql (by omega)))
                      have HZ2 : Hid (((l[r + 1].kd = 0) ∧ (kdr == 0) = false) ∨ (l[r + 1].kd == 0) = false) := by
                        by_cases h0 : l[r + 1].kd = 0
                        · refine .inl ⟨h0, ?_⟩
                          rw [beq_eq_false_iff_ne]
                          rintro rfl
                          refine HCC.out.2.1 ⟨?_, ?_⟩
                          · rw [isK_some l (r + 1) 0 hql, h0]; rfl
                          · rw [show r + 1 - 1 = r from by omega, isK_some l r 0 hrl, htr]; rfl
                        · exact .inr (by rw [beq_eq_false_iff_ne]; exact h0)
                      obtain ⟨t, ht⟩ : ∃ t, l[r + 1] = t := ⟨_, rfl⟩
                      rw [ht] at y0 HZ2
                      obtain ⟨kd4, wt4⟩ := t
                      simp only [Nat.add_zero] at y0
                      have HZ3 : Hid ((kd4 = 0 ∧ (kdr == 0) = false) ∨ (kd4 == 0) = false) := HZ2
                      clear ht htr hte htp HSM hgq HZ2 hbx hbT hg hp
                      rcases HZ3.out with ⟨rfl, n3⟩ | n3
                      · clear HZ3
                        rcases HZ.out with ⟨rfl, n5⟩ | n4
                        · go_wp2_with (fail)
                          clear s2
                          go_roundw
                          case rel => exact ⟨k + 1, by omega, by go_num, hB8⟩
                          case measure => simp [intOf]; omega
                        · go_wp2_with (fail)
                          clear s2
                          go_roundw
                          case rel => exact ⟨k + 1, by omega, by go_num, hB8⟩
                          case measure => simp [intOf]; omega
                      · clear HZ3
                        rcases HZ.out with ⟨rfl, n5⟩ | n4
                        · go_wp2_with (fail)
                          clear s2
                          go_roundw
                          case rel => exact ⟨k + 1, by omega, by go_num, hB8⟩
                          case measure => simp [intOf]; omega
                        · go_wp2_with (fail)
                          clear s2
                          go_roundw
                          case rel => exact ⟨k + 1, by omega, by go_num, hB8⟩
                          case measure => simp [intOf]; omega
                    · have hqe : r + 1 = l.length := by omega
                      have f0 : decide ((r : Int) + 1 < (l.length : Int)) = false := by simp; omega
                      clear htr hte htp HSM hgq hbx hbT hg hp
                      rcases HZ.out with ⟨rfl, n5⟩ | n4
                      · go_wp2_with (fail)
                        clear s2
                        go_roundw
                        case rel => exact ⟨k + 1, by omega, by go_num, hB8⟩
                        case measure => simp [intOf]; omega
                      · go_wp2_with (fail)
                        clear s2
                        go_roundw
                        case rel => exact ⟨k + 1, by omega, by go_num, hB8⟩
                        case measure => simp [intOf]; omega
            · have hjl2 : j = l.length := by omega
              subst hjl2
              have f0 : decide ((l.length : Int) < (l.length : Int)) = false := by simp
              have f0' : ((l.length : Int) == (l.length : Int)) = true := by simp
              have hB8 := hB.trans (hb.mono hB.size)
              clear HSM hgq
              go_wp2_with (fail)
              clear f0 f0'
              go_roundw
              case rel => exact ⟨k + 1, by omega, by go_num, hB8⟩
              case measure => simp [intOf]; omega
    · have hkk : k = X.length := by omega
      subst hkk
      go_wp2_with (fail)
      go_ret
      exact ⟨rfl, hB2.trans (hb.mono hB2.size)⟩
end Go.Proofs.Ytdhjgflkincapaa
