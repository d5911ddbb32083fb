/- LinesWider: the walk. -/
import Derived.Test.YtdhjgflkincapaaMBlanks
import Derived.Test.YtdhjgflkincapaaPlainLW
import Derived.Test.YtdhjgflkincapaaOpenL
namespace Go.Proofs.Ytdhjgflkincapaa
open Go.RowKit
set_option linter.unusedVariables false

theorem hds_snoc (l : List It) (x : It) : hds (l ++ [x]) = hds l + (if (x.kd == 2) = true then 1 else 0) := by
  unfold hds
  rw [List.countP_append, List.countP_cons]
  simp
set_option maxRecDepth 100000 in
set_option maxHeartbeats 16000000 in
theorem wider_walk (l : List It) (Wd Md : Int) (A : Option Addr) (cap : Nat) (w : World) (hR : Rd w w.heap.size 2 A l.length (tcells l)) (hlc : l.length ≤ cap) (hcm : cap ≤ maxLen) (hwl : ∀ x ∈ l, x.wide) :
    Calls Try.prog 13 #[.slice A l.length cap, .int .i64 Wd, .int .i64 Md] w fun e w' => e = .returned (.bool true) ∧ Below w.heap.size w w' := by
  obtain ⟨G, hG⟩ : ∃ G, greatF l Wd = G := ⟨_, rfl⟩
  obtain ⟨G2, hG2⟩ : ∃ G, greatF l Md = G := ⟨_, rfl⟩
  have HG := hidd (And.intro hG hG2)
  have HW := hidd hwl
  clear hG hG2 hwl
  go_enter Try.func13, Try.ntmps13
  go_wp2_with (fail)
  refine (awake10 _).mono ?_
  rintro e w1 ⟨rfl, hB1⟩
  go_wp2_with (fail)
  refine (great_any l Wd A cap w1 ((hR.below hB1).more hB1.size) G HG.out.1).mono ?_
  rintro e w1' ⟨rfl, rfl⟩
  cases G with
  | true =>
    clear hR
    go_wp2_with (fail)
    go_ret
    exact ⟨rfl, hB1⟩
  | false =>
  go_wp2_with (fail)
  refine (great_any l Md A cap w1 ((hR.below hB1).more hB1.size) G2 HG.out.2).mono ?_
  rintro e w1' ⟨rfl, rfl⟩
  cases G2 with
  | true =>
    clear hR
    go_wp2_with (fail)
    go_ret
    exact ⟨rfl, hB1⟩
  | false =>
  obtain ⟨hl5, hW0, hW1, hkd, hwd⟩ := great_no HG.out.1
  obtain ⟨_, hM0, hM1, _, _⟩ := great_no HG.out.2
  by_cases hlt0 : Md < Wd
  · have d1 : decide (Md < Wd) = true := by simpa using hlt0
    clear hR hkd hwd
    go_wp2_with (fail)
    go_ret
    exact ⟨rfl, hB1⟩
  have d1 : decide (Md < Wd) = false := by simpa using hlt0
  have hk2 : ∀ x ∈ l, 0 ≤ x.kd ∧ x.kd ≤ 3 := fun x hx => ⟨(HW.out x hx).1.1, hkd x hx⟩
  have hf1 := near_fill (l := l) (W := Wd) (by omega) hW0 hW1 hkd hwd
  have hf2 := near_fill (l := l) (W := Md) (by omega) hM0 hM1 hkd hwd
  have hf3 := near_fill (l := l) (W := 1099511627776) (by omega) (by omega) (by omega) hkd hwd
  have hwi := fun hp => lines_wider l hk2 hp hl5 hwd Wd Md (by omega) hM1
  have hc1 := lines_count l Wd
  have hc2 := lines_count l Md
  have hc3 := lines_count l 1099511627776
  obtain ⟨X, hX⟩ : ∃ X, lines l Wd = X := ⟨_, rfl⟩
  obtain ⟨Y, hY⟩ : ∃ X, lines l Md = X := ⟨_, rfl⟩
  obtain ⟨Z, hZ⟩ : ∃ X, lines l 1099511627776 = X := ⟨_, rfl⟩
  simp only [hX, hY, hZ] at hf1 hf2 hf3 hwi hc1 hc2 hc3
  have HF := hidd (And.intro hf1 (And.intro hf2 (And.intro hf3 hwi)))
  have HK := hidd (And.intro hk2 hwd)
  have rl := (hR.below hB1).more hB1.size
  clear hf1 hf2 hf3 hwi hX hY hZ hk2 hkd hwd HW HG hR
  go_wp2_with (fail)
  clear d1
  go_loop [7, 8] (fun c i => ∃ k E : Nat, k ≤ l.length ∧ E ≤ k ∧ i = .int .i64 k ∧ c = .int .i64 E ∧ Hid (hds (l.take k) = E ∧ ∀ x ∈ l.take k, 0 ≤ x.wd))
    (fun _ i => l.length - (intOf i).toNat)
  case atStart => exact ⟨0, 0, Nat.zero_le _, Nat.le_refl _, rfl, rfl, ⟨by simp [hds], by simp⟩⟩
  case round =>
    obtain ⟨k, E, hk, hE, rfl, rfl, HH⟩ := hrel
    by_cases hlt : k < l.length
    · obtain ⟨b, off, rfl, hbB, hc⟩ := rl.2 (by omega)
      have y0 := hc _ _ (tcell l k 0 hlt (by omega))
      have y1 := hc _ _ (tcell l k 1 hlt (by omega))
      have hsn := hds_snoc (l.take k) l[k]
      have hts := take_snoc l k hlt
      rw [← hts, HH.out.1] at hsn
      have hps : 0 ≤ l[k].wd → ∀ x ∈ l.take (k + 1), 0 ≤ x.wd := fun h x hx => by
        rw [hts] at hx
        rcases List.mem_append.1 hx with hx | hx
        · exact HH.out.2 x hx
        · rw [List.mem_singleton] at hx; subst hx; exact h
      obtain ⟨s, hs⟩ : ∃ s, l[k] = s := ⟨_, rfl⟩
      rw [hs] at y0 y1 hsn hps
      obtain ⟨kd, wd⟩ := s
      simp only [← Nat.add_assoc, Nat.add_zero] at y0 y1
      simp only at hsn hps
      have k0 : (0 : Int) ≤ (k : Int) := Int.natCast_nonneg _
      have k1 : (k : Int) < (l.length : Int) := by omega
      by_cases hw : wd < 0
      · have d1 : decide (wd < 0) = true := by simpa using hw
        clear hc hs hsn hts hps HH
        go_wp2_with (fail)
        go_ret
        exact ⟨rfl, hB1⟩
      have d1 : decide (wd < 0) = false := by simpa using hw
      have hps2 := hps (by omega)
      by_cases h2 : kd = 2
      · subst h2
        rw [if_pos (by rfl)] at hsn
        have HS := hidd (And.intro hsn hps2)
        have e1 : IntKind.i64.wrap ((E : Int) + 1) = (E : Int) + 1 := IntWalk.i64_in _ ⟨by omega, by omega⟩
        have e2 : wrap64 ((E : Int) + 1) = (E : Int) + 1 := IntWalk.wrap64_in _ ⟨by omega, by omega⟩
        clear hc hs hsn hts hps HH hps2
        go_wp2_with (fail)
        clear e1 e2
        go_round
        case rel => exact ⟨k + 1, E + 1, by omega, by omega, by go_num, by go_num, HS.out⟩
        case measure => simp [intOf]; omega
      · have d2 : (kd == 2) = false := by rw [beq_eq_false_iff_ne]; exact h2
        rw [d2, if_neg Bool.noConfusion, Nat.add_zero] at hsn
        have HS := hidd (And.intro hsn hps2)
        clear hc hs hsn hts hps HH hps2
        go_wp2_with (fail)
        go_round
        case rel => exact ⟨k + 1, E, by omega, by omega, by go_num, rfl, HS.out⟩
        case measure => simp [intOf]; omega
    · have hkk : k = l.length := by omega
      subst hkk
      have HP := HH.out
      rw [List.take_length] at HP
      obtain ⟨i1, i2, i3, i4, i5⟩ := HF.out.2.2.2 HP.2
      rw [HP.1] at i3
      have HI := hidd (And.intro i4 i5)
      have d1 : decide ((X.length : Int) < (Y.length : Int)) = false := by simp; omega
      have d2 : decide ((Y.length : Int) < (Z.length : Int)) = false := by simp; omega
      have d3 : decide ((E : Int) + 1 < (Z.length : Int)) = false := by simp; omega
      have e1 : IntKind.i64.wrap ((E : Int) + 1) = (E : Int) + 1 := IntWalk.i64_in _ ⟨by omega, by omega⟩
      have e2 : wrap64 ((E : Int) + 1) = (E : Int) + 1 := IntWalk.wrap64_in _ ⟨by omega, by omega⟩
      clear HP HH i4 i5
      go_wp2_with (fail)
      refine (fill_lit l Wd A l.length cap X.length w1 _ rl rfl hlc hcm HF.out.1 rfl).mono ?_
      rintro e w2 ⟨A2, c2, rfl, rd2, hb2⟩
      have hB2 := below_step hB1 hb2
      replace rl := (rl.below hb2).more hb2.size
      clear hb2 hB1
      go_wp2_with (fail)
      refine (fill_lit l Md A l.length cap Y.length w2 _ rl rfl hlc hcm HF.out.2.1 rfl).mono ?_
      rintro e w3 ⟨A3, c3, rfl, rd3, hb3⟩
      have hB3 := below_step hB2 hb3
      replace rl := (rl.below hb3).more hb3.size
      replace rd2 := (rd2.below hb3).more hb3.size
      clear hb3 hB2
      go_wp2_with (fail)
      refine (fill_lit l 1099511627776 A l.length cap Z.length w3 _ rl rfl hlc hcm HF.out.2.2.1 rfl).mono ?_
      rintro e w4 ⟨A4, c4, rfl, rd4, hb4⟩
      have hB4 := below_step hB3 hb4
      replace rd2 := (rd2.below hb4).more hb4.size
      replace rd3 := (rd3.below hb4).more hb4.size
      clear hb4 hB3 rl
      simp only at rd2 rd3 rd4
      go_wp2_with (fail)
      clear d1 d2 d3 e1 e2
      go_loopw [15] (fun i wx => ∃ q : Nat, q ≤ Y.length ∧ i = .int .i64 q ∧ Below w4.heap.size w4 wx)
        (fun i _ => Y.length - (intOf i).toNat)
      case atStart => exact ⟨0, Nat.zero_le _, rfl, Below.refl _ _⟩
      case round =>
        obtain ⟨q, hq, rfl, hb⟩ := hrel
        by_cases hqy : q < Y.length
        · have hqx : q < X.length := by omega
          obtain ⟨b, off, rfl, hbB, hc⟩ := rd2.2 (by omega)
          obtain ⟨b2, off2, rfl, hbB2, hc2⟩ := rd3.2 (by omega)
          have hx1 := (hb.cell (p := ⟨b, off + (q * 3 + 1), none⟩) hbB).trans (hc _ _ (lcell X q 1 hqx (by omega)))
          have hy1 := (hb.cell (p := ⟨b2, off2 + (q * 3 + 1), none⟩) hbB2).trans (hc2 _ _ (lcell Y q 1 hqy (by omega)))
          have hle := HI.out.1 q _ _ (List.getElem?_eq_getElem hqx) (List.getElem?_eq_getElem hqy)
          obtain ⟨s, hsx⟩ : ∃ s, X[q] = s := ⟨_, rfl⟩
          rw [hsx] at hx1 hle
          obtain ⟨t, htx⟩ : ∃ s, Y[q] = s := ⟨_, rfl⟩
          rw [htx] at hy1 hle
          obtain ⟨fr, en, wd⟩ := s
          obtain ⟨fr2, en2, wd2⟩ := t
          simp only [← Nat.add_assoc] at hx1 hy1
          simp only at hle
          have d1 : decide ((en2 : Int) < (en : Int)) = false := by simp; omega
          have d2 : decide (en2 < en) = false := by simp; omega
          have q0 : (0 : Int) ≤ (q : Int) := Int.natCast_nonneg _
          have q1 : (q : Int) < (X.length : Int) := by omega
          have q2 : (q : Int) < (Y.length : Int) := by omega
          have hbW := Nat.lt_of_lt_of_le hbB hb.size
          have hbW2 := Nat.lt_of_lt_of_le hbB2 hb.size
          clear hc hc2 rd2 rd3 rd4 hsx htx
          go_wp2_with (fail)
          go_quiet (fail)
          go_wp2_with (fail)
          go_roundw
          case rel => exact ⟨q + 1, by omega, by go_num, below_drewN hb _⟩
          case measure => simp [intOf]; omega
        · have hqq : q = Y.length := by omega
          subst hqq
          have rd2' := (rd2.below hb).more hb.size
          have rd4' := (rd4.below hb).more hb.size
          have hB5 := hB4.trans (hb.mono hB4.size)
          have hww := HI.out.2
          clear rd2 rd3 rd4 hb hB4
          obtain ⟨V, hV⟩ : ∃ V, widF X = V := ⟨_, rfl⟩
          obtain ⟨V2, hV2⟩ : ∃ V, widF Z = V := ⟨_, rfl⟩
          change widF X ≤ widF Z at hww
          rw [hV, hV2] at hww
          have HV := hidd (And.intro hV hV2)
          have d1 : decide (V ≤ V2) = true := by simpa using hww
          clear hV hV2 HI
          go_wp2_with (fail)
          refine (widest_any Z A4 Z.length c4 _ rd4' rfl (by omega) V2 HV.out.2).mono ?_
          rintro e w5 ⟨rfl, hb5⟩
          replace rd2' := (rd2'.below hb5).more hb5.size
          replace hB5 := below_step hB5 hb5
          clear rd4' hb5
          go_wp2_with (fail)
          refine (widest_any X A2 X.length c2 _ rd2' rfl (by omega) V HV.out.1).mono ?_
          rintro e w6 ⟨rfl, hb6⟩
          replace hB5 := below_step hB5 hb6
          clear rd2' hb6
          go_wp2_with (fail)
          go_ret
          exact ⟨by simp, hB5⟩
end Go.Proofs.Ytdhjgflkincapaa
