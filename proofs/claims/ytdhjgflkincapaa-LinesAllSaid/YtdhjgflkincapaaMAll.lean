/- LinesAll: the walk. -/
import Derived.Test.YtdhjgflkincapaaMApart
import Derived.Test.YtdhjgflkincapaaPlainLG
namespace Go.Proofs.Ytdhjgflkincapaa
open Go.RowKit
set_option linter.unusedVariables false

theorem solidK_yes {l : List It} {a : Nat} (h : a < l.length) (hs : solidAt l a) : solidK l[a] = true := by
  unfold solidAt at hs
  rw [isK_some l a 0 h, isK_some l a 3 h] at hs
  simpa [solidK] using hs
theorem solidK_no {l : List It} {a : Nat} (h : a < l.length) (hs : ¬ solidAt l a) : solidK l[a] = false := by
  cases hq : solidK l[a] with
  | false => rfl
  | true => exact absurd (solid_at h hq) hs

set_option maxRecDepth 100000 in
set_option maxHeartbeats 16000000 in
theorem all_walk (l : List It) (Wd : Int) (A : Option Addr) (cap : Nat) (w : World) (hR : Rd w w.heap.size 2 A l.length (tcells l)) (hlc : l.length ≤ cap) (hcm : cap ≤ maxLen) (hwl : ∀ x ∈ l, x.wide) :
    Calls Try.prog 11 #[.slice A l.length cap, .int .i64 Wd] w fun e w' => e = .returned (.bool true) ∧ Below w.heap.size w w' := by
  obtain ⟨G, hG⟩ : ∃ G, greatF l Wd = G := ⟨_, rfl⟩
  have HG := hidd hG
  have HW := hidd hwl
  clear hG hwl
  go_enter Try.func11, Try.ntmps11
  go_wp2_with (fail)
  refine (awake10 _).mono ?_
  rintro e w1 ⟨rfl, hB1⟩
  go_wp2_with (fail)
  refine (great_any l Wd A cap w1 ((hR.below hB1).more hB1.size) G HG.out).mono ?_
  rintro e w1' ⟨rfl, rfl⟩
  cases G with
  | true =>
    clear hR
    go_wp2_with (fail)
    go_ret
    exact ⟨rfl, hB1⟩
  | false =>
  obtain ⟨hl5, hW0, hW1, hkd, hwd⟩ := great_no HG.out
  have hfl := near_fill (l := l) (W := Wd) (by omega) hW0 hW1 hkd hwd
  have hcl := lines_count l Wd
  have hgd := good_all l (fun x hx => ⟨(HW.out x hx).1.1, hkd x hx⟩) Wd
  obtain ⟨X, hX⟩ : ∃ X, lines l Wd = X := ⟨_, rfl⟩
  simp only [hX] at hfl hcl hgd
  have HF := hidd (And.intro hfl (And.intro hgd hwd))
  clear hfl hgd hX hkd hwd HW HG
  go_wp2_with (fail)
  refine (fill_lit l Wd A l.length cap X.length w1 _ ((hR.below hB1).more hB1.size) rfl hlc hcm HF.out.1 rfl).mono ?_
  rintro e w2 ⟨A2, c2, rfl, rd2, hb2⟩
  have hB2 := below_step hB1 hb2
  have rl := (hR.below hB2).more hB2.size
  simp only at rd2
  clear hb2 hB1 hR
  go_wp2_with (fail)
  go_loopw [7, 8] (fun a i wx => ∃ k p : Nat, k ≤ X.length ∧ p ≤ l.length ∧ i = .int .i64 k ∧ a = .int .i64 p ∧ Hid (Good l p (X.drop k)) ∧ Below w2.heap.size w2 wx)
    (fun _ i _ => X.length - (intOf i).toNat)
  case atStart => exact ⟨0, 0, Nat.zero_le _, Nat.zero_le _, rfl, rfl, HF.out.2.1, Below.refl _ _⟩
  case round =>
    obtain ⟨k, p, hk, hp, rfl, rfl, HGD, hb⟩ := hrel
    by_cases hlt : k < X.length
    · obtain ⟨b, off, rfl, hbB, hc⟩ := rd2.2 (by omega)
      have hx0 := (hb.cell (p := ⟨b, off + (k * 3 + 0), none⟩) hbB).trans (hc _ _ (lcell X k 0 hlt (by omega)))
      have hx1 := (hb.cell (p := ⟨b, off + (k * 3 + 1), none⟩) hbB).trans (hc _ _ (lcell X k 1 hlt (by omega)))
      have hx2 := (hb.cell (p := ⟨b, off + (k * 3 + 2), none⟩) hbB).trans (hc _ _ (lcell X k 2 hlt (by omega)))
      have hgd := HGD.out
      rw [List.drop_eq_getElem_cons hlt] at hgd
      obtain ⟨s, hsx⟩ : ∃ s, X[k] = s := ⟨_, rfl⟩
      rw [hsx] at hx0 hx1 hx2 hgd
      obtain ⟨fr, en, wd⟩ := s
      simp only [← Nat.add_assoc, Nat.add_zero] at hx0 hx1 hx2
      obtain ⟨⟨g1, g2, g3, g4⟩, g5, g6, g7, g8, g9, g10⟩ := hgd
      simp only at g1 g2 g3 g4 g5 g6 g7 g8 g9 g10
      have HS := hidd (And.intro g5 (And.intro g6 (And.intro g7 (And.intro g8 (And.intro g9 g10)))))
      have k0 : (0 : Int) ≤ (k : Int) := Int.natCast_nonneg _
      have k1 : (k : Int) < (X.length : Int) := by omega
      have d0 : decide ((fr : Int) < (p : Int)) = false := by simp; omega
      have d1 : decide ((en : Int) < (fr : Int)) = false := by simp; omega
      have d2 : decide ((l.length : Int) < (en : Int)) = false := by simp; omega
      have d3 : decide ((l.length : Int) ≤ (fr : Int)) = false := by simp; omega
      have d4 : decide (fr < p) = false := by simp; omega
      have d5 : decide (en < fr) = false := by simp; omega
      have d6 : decide (l.length < en) = false := by simp; omega
      have d7 : decide (l.length ≤ fr) = false := by simp; omega
      have hbW := Nat.lt_of_lt_of_le hbB hb.size
      clear hc hsx HGD g5 g6 g7 g8 g9 g10
      go_wp2_with (fail)
      have hg := Blk.new wr 33 #[.int .i64 (fr : Int), .int .i64 (en : Int), .int .i64 wd]
      have hB := below_al hb (.cells #[.int .i64 (fr : Int), .int .i64 (en : Int), .int .i64 wd] 33)
      obtain ⟨W1, hW1⟩ : ∃ Z, wr.alloc (.cells #[.int .i64 (fr : Int), .int .i64 (en : Int), .int .i64 wd] 33) = Z := ⟨_, rfl⟩
      rw [hW1] at hg hB ⊢
      obtain ⟨g, hgE⟩ : ∃ g, wr.heap.size = g := ⟨_, rfl⟩
      rw [hgE] at hg ⊢
      have rl1 := (rl.below hB).more hB.size
      clear hW1 hgE hb hx0 hx1 hx2 hbW d0 d1 d2 d3 d4 d5 d6 d7
      clear wr
      go_loopw [7] (fun a wx => ∃ q : Nat, p ≤ q ∧ q ≤ fr ∧ a = .int .i64 q ∧ Below W1.heap.size W1 wx)
        (fun a _ => fr - (intOf a).toNat)
      case atStart => exact ⟨p, Nat.le_refl _, g1, rfl, Below.refl _ _⟩
      case round =>
        obtain ⟨q, hq1, hq2, rfl, hb⟩ := hrel
        have hgr := hg.below hb hg.lt
        have q0 := hgr.cell 0
        have q1 := hgr.cell 1
        have q2 := hgr.cell 2
        simp at q0 q1 q2
        have hgl := hgr.lt
        obtain ⟨b1, off1, rfl, hbB1, hc1⟩ := rl1.2 (by omega)
        have hbW1 := Nat.lt_of_lt_of_le hbB1 hb.size
        have z0 : (0 : Int) ≤ (q : Int) := Int.natCast_nonneg _
        have z1 : (q : Int) < (l.length : Int) := by omega
        by_cases hqf : q < fr
        · have e0 : decide ((q : Int) < (fr : Int)) = true := by simp; omega
          have hql : q < l.length := by omega
          have y0 := (hb.cell (p := ⟨b1, off1 + (q * 2 + 0), none⟩) hbB1).trans (hc1 _ _ (tcell l q 0 hql (by omega)))
          have y1 := (hb.cell (p := ⟨b1, off1 + (q * 2 + 1), none⟩) hbB1).trans (hc1 _ _ (tcell l q 1 hql (by omega)))
          have hsk := solidK_no hql (HS.out.1 q hq1 hqf)
          obtain ⟨t, ht⟩ : ∃ t, l[q] = t := ⟨_, rfl⟩
          rw [ht] at y0 y1 hsk
          obtain ⟨kd, wt⟩ := t
          simp only [← Nat.add_assoc, Nat.add_zero] at y0 y1
          have HSK := hidd hsk
          clear hc1 ht hsk
          go_wp2_with (fail)
          refine (solid_val kd wt false HSK.out _).mono ?_
          rintro e w3 ⟨rfl, hb3⟩
          replace hb := below_step hb hb3
          clear hb3 y0 y1 q0 q1 q2 hgr e0
          go_wp2_with (fail)
          go_roundw
          case rel => exact ⟨q + 1, by omega, by omega, by go_num, hb⟩
          case measure => simp [intOf]; omega
        · have hqq : q = fr := by omega
          subst hqq
          have e0 : decide ((q : Int) < (q : Int)) = false := by simp
          have y0 := (hb.cell (p := ⟨b1, off1 + (q * 2 + 0), none⟩) hbB1).trans (hc1 _ _ (tcell l q 0 g4 (by omega)))
          have y1 := (hb.cell (p := ⟨b1, off1 + (q * 2 + 1), none⟩) hbB1).trans (hc1 _ _ (tcell l q 1 g4 (by omega)))
          by_cases hfe : en = q
          · subst hfe
            have hk2 := HS.out.2.1 rfl
            rw [isK_some l en 2 g4, beq_iff_eq] at hk2
            have hw0 : wd = 0 := by rw [HS.out.2.2.2.2.1, sm_self]
            obtain ⟨t, ht⟩ : ∃ t, l[en] = t := ⟨_, rfl⟩
            rw [ht] at y0 y1 hk2
            obtain ⟨kd, wt⟩ := t
            simp only at hk2
            subst hk2
            subst hw0
            simp only [← Nat.add_assoc, Nat.add_zero] at y0 y1
            have e1 : ((en : Int) == (en : Int)) = true := by simp
            have hBB := hB.trans (hb.mono hB.size)
            obtain ⟨W2, hW2⟩ : ∃ Z, wr = Z := ⟨_, rfl⟩
            rw [hW2] at y0 y1 q0 q1 q2 hgr hgl hbW1 hBB ⊢
            clear hc1 ht hW2 hb
            clear wr
            go_wp2_with (fail)
            go_loopw [7, 10] (fun a n wx => a = .int .i64 en ∧ n = .int .i64 0 ∧ Below W2.heap.size W2 wx) (fun _ _ _ => 0)
            case atStart => exact ⟨rfl, rfl, Below.refl _ _⟩
            case round =>
              obtain ⟨rfl, rfl, hb⟩ := hrel
              have hgq := hgr.below hb hgr.lt
              have p1 := hgq.cell 1
              have p2 := hgq.cell 2
              simp at p1 p2
              have hgl2 := hgq.lt
              have hB3 := hBB.trans (hb.mono hBB.size)
              clear y0 y1 q0 q1 q2
              go_wp2_with (fail)
              go_roundw
              case rel => exact ⟨k + 1, en, by omega, by omega, by go_num, rfl, HS.out.2.2.2.2.2, hB3⟩
              case measure => simp [intOf]; omega
          · have hlt2 : q < en := by omega
            obtain ⟨hs1, hs2⟩ := HS.out.2.2.1 hlt2
            obtain ⟨r, hr⟩ : ∃ r, r + 1 = en := ⟨en - 1, by omega⟩
            rw [show en - 1 = r from by omega] at hs2
            have hrl : r < l.length := by omega
            have v0 := (hb.cell (p := ⟨b1, off1 + (r * 2 + 0), none⟩) hbB1).trans (hc1 _ _ (tcell l r 0 hrl (by omega)))
            have v1 := (hb.cell (p := ⟨b1, off1 + (r * 2 + 1), none⟩) hbB1).trans (hc1 _ _ (tcell l r 1 hrl (by omega)))
            have hk1 := solidK_yes g4 hs1
            have hk2 := solidK_yes hrl hs2
            obtain ⟨t, ht⟩ : ∃ t, l[q] = t := ⟨_, rfl⟩
            rw [ht] at y0 y1 hk1
            obtain ⟨kd, wt⟩ := t
            obtain ⟨t2, ht2⟩ : ∃ t, l[r] = t := ⟨_, rfl⟩
            rw [ht2] at v0 v1 hk2
            obtain ⟨kd2, wt2⟩ := t2
            simp only [← Nat.add_assoc, Nat.add_zero] at y0 y1 v0 v1
            have HK := hidd (And.intro hk1 hk2)
            have e1 : ((en : Int) == (q : Int)) = false := by rw [beq_eq_false_iff_ne]; omega
            have e2 : decide ((q : Int) < (en : Int)) = true := by simp; omega
            have e3 : (en : Int) - 1 = (r : Int) := by omega
            have e4 : IntKind.i64.wrap (r : Int) = (r : Int) := IntWalk.i64_in _ ⟨by omega, by omega⟩
            have z2 : (0 : Int) ≤ (r : Int) := Int.natCast_nonneg _
            have z3 : (r : Int) < (l.length : Int) := by omega
            have hBB := hB.trans (hb.mono hB.size)
            obtain ⟨W2, hW2⟩ : ∃ Z, wr = Z := ⟨_, rfl⟩
            rw [hW2] at y0 y1 v0 v1 q0 q1 q2 hgr hgl hbW1 hBB ⊢
            clear hc1 ht ht2 hW2 hb hs1 hs2 hk1 hk2 hr
            clear wr
            go_wp2_with (fail)
            refine (solid_val kd wt true HK.out.1 _).mono ?_
            rintro e w3 ⟨rfl, hb3⟩
            replace v0 := (hb3.cell (p := ⟨b1, off1 + r * 2, none⟩) hbW1).trans v0
            replace v1 := (hb3.cell (p := ⟨b1, off1 + r * 2 + 1, none⟩) hbW1).trans v1
            have hg3 := hgr.below hb3 hgr.lt
            have t0 := hg3.cell 0
            have t1 := hg3.cell 1
            simp at t0 t1
            have hgl3 := hg3.lt
            have hBB3 := below_step hBB hb3
            have hbW3 := Nat.lt_of_lt_of_le hbW1 hb3.size
            clear q0 q1 q2 y0 y1 hgr hgl hbW1 hb3 hBB
            go_wp2_with (fail)
            refine (solid_val kd2 wt2 true HK.out.2 _).mono ?_
            rintro e w4 ⟨rfl, hb4⟩
            have hg4 := hg3.below hb4 hg3.lt
            have hBB4 := below_step hBB3 hb4
            clear v0 v1 t0 t1 hg3 hgl3 hbW3 hb4 hBB3 HK
            have rl4 := (rl.below hBB4).more hBB4.size
            go_wp2_with (fail)
            clear e0 e1 e2 e3 e4
            go_loopw [7, 10] (fun a n wx => ∃ (j : Nat) (S : Int), q ≤ j ∧ j ≤ en ∧ a = .int .i64 j ∧ n = .int .i64 S ∧ Hid (sm l q j = S) ∧ Below w4.heap.size w4 wx)
              (fun a _ _ => en - (intOf a).toNat)
            case atStart => exact ⟨q, 0, Nat.le_refl _, g2, rfl, rfl, sm_self l q, Below.refl _ _⟩
            case round =>
              obtain ⟨j, S, hj1, hj2, rfl, rfl, HSM, hb⟩ := hrel
              have hgq := hg4.below hb hg4.lt
              have p1 := hgq.cell 1
              have p2 := hgq.cell 2
              simp at p1 p2
              have hgl2 := hgq.lt
              by_cases hje : j < en
              · have hjl : j < l.length := by omega
                have j0 : (0 : Int) ≤ (j : Int) := Int.natCast_nonneg _
                have j1 : (j : Int) < (l.length : Int) := by omega
                have f0 : decide ((j : Int) < (en : Int)) = true := by simp; omega
                obtain ⟨b2, off2, hAe, hbB2, hc2⟩ := rl4.2 (by omega)
                obtain ⟨rfl, rfl⟩ : b1 = b2 ∧ off1 = off2 := by simpa using hAe
                have y0 := (hb.cell (p := ⟨b1, off1 + (j * 2 + 0), none⟩) hbB2).trans (hc2 _ _ (tcell l j 0 hjl (by omega)))
                have y1 := (hb.cell (p := ⟨b1, off1 + (j * 2 + 1), none⟩) hbB2).trans (hc2 _ _ (tcell l j 1 hjl (by omega)))
                have hk := HS.out.2.2.2.1 j hj1 hje
                rw [isK_some l j 2 hjl] at hk
                have hss := sm_succ l q j hj1 hjl
                have hb5 := sm_near HF.out.2.2 q (j - q) (by omega)
                have hb6 := HF.out.2.2 l[j] (List.getElem_mem _)
                rw [show q + (j - q) = j from by omega, HSM.out] at hb5
                rw [HSM.out] at hss
                obtain ⟨t, ht⟩ : ∃ t, l[j] = t := ⟨_, rfl⟩
                rw [ht] at y0 y1 hk hss hb6
                obtain ⟨kd3, wt3⟩ := t
                simp only [← Nat.add_assoc, Nat.add_zero] at y0 y1
                simp only at hk hss hb6
                have f1 : IntKind.i64.wrap (S + wt3) = S + wt3 := IntWalk.i64_in _ ⟨by omega, by omega⟩
                have f2 : wrap64 (S + wt3) = S + wt3 := IntWalk.wrap64_in _ ⟨by omega, by omega⟩
                have HSS := hidd hss
                have hbW2 := Nat.lt_of_lt_of_le hbB2 hb.size
                clear hAe hc2 hss hb5 hb6 ht HSM hgq hg4 rl4
                go_wp2_with (fail)
                clear f1 f2
                go_roundw
                case rel => exact ⟨j + 1, _, by omega, by omega, by go_num, rfl, HSS, hb⟩
                case measure => simp [intOf]; omega
              · have hjj : j = en := by omega
                subst hjj
                have hSw : S = wd := by rw [← HSM.out, HS.out.2.2.2.2.1]
                subst hSw
                have f0 : decide ((j : Int) < (j : Int)) = false := by simp
                have f1 : (S != S) = false := by simp
                have hB3 := hBB4.trans (hb.mono hBB4.size)
                clear hgq hg4 rl4 HSM
                go_wp2_with (fail)
                go_roundw
                case rel => exact ⟨k + 1, j, by omega, by omega, by go_num, rfl, HS.out.2.2.2.2.2, hB3⟩
                case measure => simp [intOf]; omega
    · have hkk : k = X.length := by omega
      subst hkk
      have HGE : Hid (∀ j, p ≤ j → j < l.length → ¬ solidAt l j) := by
        have := HGD.out
        rw [List.drop_eq_nil_of_le (Nat.le_refl _)] at this
        exact this
      have hBW := hB2.trans (hb.mono hB2.size)
      have rl1 := (rl.below hb).more hb.size
      obtain ⟨W1, hW1⟩ : ∃ Z, wr = Z := ⟨_, rfl⟩
      rw [hW1] at hBW rl1 ⊢
      clear hW1 hb HGD
      clear wr
      go_wp2_with (fail)
      go_loopw [7] (fun a wx => ∃ q : Nat, p ≤ q ∧ q ≤ l.length ∧ a = .int .i64 q ∧ Below W1.heap.size W1 wx)
        (fun a _ => l.length - (intOf a).toNat)
      case atStart => exact ⟨p, Nat.le_refl _, hp, rfl, Below.refl _ _⟩
      case round =>
        obtain ⟨q, hq1, hq2, rfl, hb⟩ := hrel
        by_cases hqf : q < l.length
        · obtain ⟨b1, off1, rfl, hbB1, hc1⟩ := rl1.2 (by omega)
          have hbW1 := Nat.lt_of_lt_of_le hbB1 hb.size
          have z0 : (0 : Int) ≤ (q : Int) := Int.natCast_nonneg _
          have z1 : (q : Int) < (l.length : Int) := by omega
          have y0 := (hb.cell (p := ⟨b1, off1 + (q * 2 + 0), none⟩) hbB1).trans (hc1 _ _ (tcell l q 0 hqf (by omega)))
          have y1 := (hb.cell (p := ⟨b1, off1 + (q * 2 + 1), none⟩) hbB1).trans (hc1 _ _ (tcell l q 1 hqf (by omega)))
          have hsk := solidK_no hqf (HGE.out q hq1 hqf)
          obtain ⟨t, ht⟩ : ∃ t, l[q] = t := ⟨_, rfl⟩
          rw [ht] at y0 y1 hsk
          obtain ⟨kd, wt⟩ := t
          simp only [← Nat.add_assoc, Nat.add_zero] at y0 y1
          have HSK := hidd hsk
          clear hc1 ht hsk
          go_wp2_with (fail)
          refine (solid_val kd wt false HSK.out _).mono ?_
          rintro e w3 ⟨rfl, hb3⟩
          replace hb := below_step hb hb3
          clear hb3 y0 y1
          go_wp2_with (fail)
          go_roundw
          case rel => exact ⟨q + 1, by omega, by omega, by go_num, hb⟩
          case measure => simp [intOf]; omega
        · have hqq : q = l.length := by omega
          subst hqq
          go_wp2_with (fail)
          go_ret
          exact ⟨rfl, hBW.trans (hb.mono hBW.size)⟩
end Go.Proofs.Ytdhjgflkincapaa
