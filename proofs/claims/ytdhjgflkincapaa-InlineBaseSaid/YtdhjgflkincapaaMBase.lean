/- InlineBase: the walk. -/
import Derived.Test.YtdhjgflkincapaaPlainB
import Derived.Test.YtdhjgflkincapaaOrd
namespace Go.Proofs.Ytdhjgflkincapaa
open Go.RowKit
set_option linter.unusedVariables false

set_option maxRecDepth 100000 in
set_option maxHeartbeats 8000000 in
theorem base_walk (l : List Sp) (x : Ow) (A : Option Addr) (cap : Nat) (w : World) (hR : Rd w w.heap.size 4 A l.length (scells l)) (hlc : l.length ≤ cap) (hm : cap ≤ maxLen) (hx8 : x.ls ≤ 255) :
    Calls Try.prog 7 #[.slice A l.length cap, .agg #[.int .i64 x.up, .int .i64 x.dn, .int .i64 x.wd, .int .u8 x.ls]] w fun e w' => e = .returned (.bool true) ∧ Below w.heap.size w w' := by
  unfold maxLen at hm
  obtain ⟨N, hN⟩ : ∃ N, nearB l x = N := ⟨_, rfl⟩
  have hnear := fun W hR => near_any l x A cap W hR
  rw [hN] at hnear
  have HNR := hidd hnear
  clear hnear
  go_enter Try.func7, Try.ntmps7
  go_wp2_with (fail)
  refine (awake_any _).mono ?_
  rintro e w1 ⟨rfl, hb1⟩
  have hg1 := (Blk.new w 37 #[.int .i64 x.up, .int .i64 x.dn, .int .i64 x.wd, .int .u8 x.ls]).below hb1 (by simp)
  have hB1 := below_step (below_al (Below.refl w.heap.size w) _) hb1
  have q0 := hg1.cell 0
  have q1 := hg1.cell 1
  have q2 := hg1.cell 2
  have q3 := hg1.cell 3
  simp at q0 q1 q2 q3
  clear hb1
  go_wp2_with (fail)
  refine (HNR.out w1 ((hR.below hB1).more hB1.size)).mono ?_
  rintro e w2 ⟨rfl, hb2⟩
  have hg2 := hg1.below hb2 hg1.lt
  have hB2 := below_step hB1 hb2
  clear q0 q1 q2 q3 hb2 hg1 hB1 HNR
  cases N with
  | false =>
    clear hg2 hR
    go_wp2_with (fail)
    go_ret
    exact ⟨rfl, hB2⟩
  | true =>
    have hN2 := (near_iff l x).1 hN
    obtain ⟨hl2, ⟨n1, n2, n3, n4⟩, hns⟩ := hN2
    have d1 : ((l.length : Int) != (l.length : Int)) = false := by simp
    obtain ⟨S, hS⟩ : ∃ S, sumW l = S := ⟨_, rfl⟩
    obtain ⟨X, hX⟩ : ∃ X, leadF (x.wd - S) x.ls = X := ⟨_, rfl⟩
    have hub := near_bounds hN
    have hyin := yOf_in l x.up x.dn hns n1.1 n2.1
    have hup := upB_all l x.up
    have hdt := dt_all l x.up x.dn
    obtain ⟨H, hH⟩ : ∃ H, htOf l x.up x.dn = H := ⟨_, rfl⟩
    obtain ⟨U, hU⟩ : ∃ H, hUp l x.up = H := ⟨_, rfl⟩
    have hp : placeF l x.up x.dn x.wd x.ls = ⟨posL H U X l, H, U, 0⟩ := by
      rw [near_place hN]; unfold posOf; rw [hS, hX, hH, hU]
    simp only [hH, hU] at hub hyin hup hdt
    obtain ⟨⟨u1, u2⟩, u3, u4⟩ := hub
    have hpl := fun W hR => place_lit l x.up x.dn x.wd x.ls A l.length cap l.length W _ hR rfl (by omega) hp (posL_length _ _ _ _)
    have HPL := hidd hpl
    have HN := hidd (And.intro hns (And.intro hyin (And.intro hup hdt)))
    clear hpl hp hH hU hS hX hN hns hyin hup hdt
    have d2 : decide (U < x.up) = false := by simp; omega
    have d3 : decide (H < U + x.dn) = false := by simp; omega
    have q0 := hg2.cell 0
    have q1 := hg2.cell 1
    have q2 := hg2.cell 2
    have q3 := hg2.cell 3
    simp at q0 q1 q2 q3
    go_wp2_with (fail)
    refine (HPL.out w2 ((hR.below hB2).more hB2.size)).mono ?_
    rintro e w3 ⟨A5, c5, rfl, rd5, hb3⟩
    have hg3 := hg2.below hb3 hg2.lt
    have hB3 := below_step hB2 hb3
    clear q0 q1 q2 q3 hb3 hg2 hB2 HPL
    have q0 := hg3.cell 0
    have q1 := hg3.cell 1
    simp at q0 q1
    go_wp2_with (fail)
    go_quiet (fail)
    go_wp2_with (fail)
    obtain ⟨W3, hW3⟩ : ∃ W, w3 = W := ⟨_, rfl⟩
    rw [hW3] at hB3 rd5 ⊢
    clear hW3 q0 q1 hg3 d1 d2 d3
    go_loopw [9, 10, 11, 12] (fun a b c i wx => ∃ k : Nat, k ≤ l.length ∧ i = .int .i64 k ∧ a = .bool (upB U x.up (l.take k)) ∧ b = .bool (dnB H U x.dn (l.take k)) ∧ c = .bool (tlB H (l.take k)) ∧ Below W3.heap.size W3 wx)
      (fun _ _ _ i _ => l.length - (intOf i).toNat)
    case atStart => exact ⟨0, Nat.zero_le _, rfl, by simp [upB], by simp [dnB], by simp [tlB], below_drewN (Below.refl _ _) _⟩
    case round =>
      obtain ⟨k, hk, rfl, rfl, rfl, rfl, hb⟩ := hrel
      by_cases hlt : k < l.length
      · obtain ⟨b, off, rfl, hbB, hc⟩ := hR.2 (by omega)
        obtain ⟨b5, o5, rfl, hbB5, hc5⟩ := rd5.2 (by omega)
        have hB := hB3.trans (hb.mono hB3.size)
        have hx0 := (hB.cell (p := ⟨b, off + (k * 4 + 0), none⟩) hbB).trans (hc _ _ (scell l k 0 hlt (by omega)))
        have hx1 := (hB.cell (p := ⟨b, off + (k * 4 + 1), none⟩) hbB).trans (hc _ _ (scell l k 1 hlt (by omega)))
        have hx2 := (hB.cell (p := ⟨b, off + (k * 4 + 2), none⟩) hbB).trans (hc _ _ (scell l k 2 hlt (by omega)))
        have hx3 := (hB.cell (p := ⟨b, off + (k * 4 + 3), none⟩) hbB).trans (hc _ _ (scell l k 3 hlt (by omega)))
        have hy := (hb.cell (p := ⟨b5, o5 + (k * 2 + 1), none⟩) hbB5).trans (hc5 _ _ (pcellY H U X l k hlt))
        have hs := (nearS_iff _).1 (HN.out.1 l[k] (List.getElem_mem _))
        have hyk := HN.out.2.1 l[k] (List.getElem_mem _)
        have hsa := upB_snoc U x.up (l.take k) l[k]
        have hsb := dnB_snoc H U x.dn (l.take k) l[k]
        have hsc := tlB_snoc H (l.take k) l[k]
        rw [← take_snoc l k hlt] at hsa hsb hsc
        obtain ⟨s, hs9⟩ : ∃ s, l[k] = s := ⟨_, rfl⟩
        rw [hs9] at hx0 hx1 hx2 hx3 hs hyk hy hsa hsb hsc
        obtain ⟨Y, hY⟩ : ∃ Y, yOf H U s = Y := ⟨_, rfl⟩
        rw [hY] at hy hyk
        obtain ⟨Ub, hUb⟩ : ∃ B, upB U x.up (l.take k) = B := ⟨_, rfl⟩
        obtain ⟨Db, hDb⟩ : ∃ B, dnB H U x.dn (l.take k) = B := ⟨_, rfl⟩
        obtain ⟨Tb, hTb⟩ : ∃ B, tlB H (l.take k) = B := ⟨_, rfl⟩
        rw [hUb] at hsa ⊢
        rw [hDb] at hsb ⊢
        rw [hTb] at hsc ⊢
        have HS := hidd (And.intro hsa (And.intro hsb hsc))
        simp only [← Nat.add_assoc, Nat.add_zero] at hx0 hx1 hx2 hx3 hy
        have hbW : b < wr.heap.size := Nat.lt_of_lt_of_le hbB hB.size
        have hbW5 : b5 < wr.heap.size := Nat.lt_of_lt_of_le hbB5 hb.size
        clear hc hc5 hR hsa hsb hsc hs9 hY hUb hDb hTb rd5 hB
        obtain ⟨⟨s1, s2⟩, ⟨s3, s4⟩, ⟨s5, s6⟩, s7⟩ := hs
        obtain ⟨y1, y2, y3, y4, y5⟩ := hyk
        have HY := hidd (And.intro y3 (And.intro y4 y5))
        clear y3 y4 y5
        have k0 : (0 : Int) ≤ (k : Int) := Int.natCast_nonneg _
        have k1 : (k : Int) < (l.length : Int) := by omega
        go_wp2_with (fail)
        obtain ⟨W, hW⟩ : ∃ W, wr = W := ⟨_, rfl⟩
        rw [hW] at hb hx0 hx1 hx2 hx3 hy hbW hbW5 ⊢
        clear hW
        refine region_ord [(0, true), (1, true), (2, true), (3, true), (4, true), (5, true), (6, true), (7, true), (8, true), (9, false), (10, false), (11, true)]
          (fun w' => Below W.heap.size W w' ∧ ∀ b o, b < W.heap.size → w'.cell? ⟨b, o, none⟩ = W.cell? ⟨b, o, none⟩) 999 (by kernel_rfl) (by kernel_rfl) (by kernel_rfl) (by kernel_rfl) (by intro c a d v w h; cases d <;> exact h) (ext_of (Below.drew (Below.refl _ _))) ?_
        simp only [List.map_cons, List.map_nil, List.getElem?_toArray, List.getElem?_cons_succ, List.getElem?_cons_zero]
        have hB0 : Below W.heap.size W W.drew := Below.drew (Below.refl _ _)
        iterate 9 (first
          | (with_reducible refine L_yes ?_ ?_
             focus (go_simp; done)
             apply Exists.intro
             refine ⟨?_, ?_⟩
             (rintro w' ⟨_, hce⟩
              go_simp
              first | done | rfl | (rw [ite_next]))
             simp only [Act.put, List.setIfInBounds_toArray, List.set_cons_zero, List.set_cons_succ])
          | (with_reducible refine L_no ?_ ?_
             focus (go_simp; done)
             simp only [Act.put, List.setIfInBounds_toArray, List.set_cons_zero, List.set_cons_succ]))
        with_reducible refine L_main ?_ ?_
        focus (go_simp; done)
        intro K hK
        go_simp
        have hB0_1 := below_al hB0 (.cells #[.int .i64 0, .int .i64 0, .int .i64 0, .int .u8 0] 45)
        refine hK _ _ (fun _ => ext_of hB0_1) (fun hSx => ?_)
        clear hSx hK K
        with_reducible refine L_main ?_ ?_
        focus (go_simp; done)
        intro K hK
        go_simp
        have hB0_2 := below_al hB0 (.cells #[.int .i64 s.wd, .int .i64 s.up, .int .i64 s.dn, .int .u8 s.al] 45)
        refine hK _ _ (fun _ => ext_of hB0_2) (fun hSx => ?_)
        clear hSx hK K
        iterate 1 (first
          | (with_reducible refine L_yes ?_ ?_
             focus (go_simp; done)
             apply Exists.intro
             refine ⟨?_, ?_⟩
             (rintro w' ⟨_, hce⟩
              go_simp
              first | done | rfl | (rw [ite_next]))
             simp only [Act.put, List.setIfInBounds_toArray, List.set_cons_zero, List.set_cons_succ])
          | (with_reducible refine L_no ?_ ?_
             focus (go_simp; done)
             simp only [Act.put, List.setIfInBounds_toArray, List.set_cons_zero, List.set_cons_succ]))
        refine L_nil ?_
        have hs0 := (Blk.new W 45 #[.int .i64 s.wd, .int .i64 s.up, .int .i64 s.dn, .int .u8 s.al]).drew
        have hb3 : Below W3.heap.size W3 (W.alloc (.cells #[.int .i64 s.wd, .int .i64 s.up, .int .i64 s.dn, .int .u8 s.al] 45)).drew := Below.drew (below_al hb _)
        have ls : W.heap.size < ((W.alloc (.cells #[.int .i64 s.wd, .int .i64 s.up, .int .i64 s.dn, .int .u8 s.al] 45)).drew).heap.size := hs0.lt
        obtain ⟨W2, hW2⟩ : ∃ W2, (W.alloc (.cells #[.int .i64 s.wd, .int .i64 s.up, .int .i64 s.dn, .int .u8 s.al] 45)).drew = W2 := ⟨_, rfl⟩
        rw [hW2] at hs0 hb3 ls ⊢
        obtain ⟨g, hg⟩ : ∃ g, W.heap.size = g := ⟨_, rfl⟩
        rw [hg] at hs0 ls ⊢
        clear hW2 hB0 hB0_1 hB0_2 hb hy hx0 hx1 hx2 hx3 hbW hbW5 hg
        have t0 := hs0.cell 0
        have t1 := hs0.cell 1
        have t2 := hs0.cell 2
        have t3 := hs0.cell 3
        simp at t0 t1 t2 t3
        clear hs0
        obtain ⟨V9, hV9⟩ : ∃ V, (Ub || (((s.al : Int) == 0) && (s.up == U))) = V := ⟨_, rfl⟩
        obtain ⟨V10, hV10⟩ : ∃ V, (Db || (((s.al : Int) == 0) && (U + s.dn == H))) = V := ⟨_, rfl⟩
        obtain ⟨V11, hV11⟩ : ∃ V, (Tb || (((s.al : Int) != 0) && (s.up + s.dn == H))) = V := ⟨_, rfl⟩
        have HS2 := HS.out
        rw [hV9, hV10, hV11] at HS2
        have HS3 := hidd HS2
        have HV := hidd (And.intro hV9 (And.intro hV10 hV11))
        clear HS HS2 hV9 hV10 hV11
        go_upto_region 13 with (fail)
        go_cut [134] (fun c wx => c = .bool false ∧ wx = W2)
        case first =>
          have e0 : decide (Y < 0) = false := by simp; omega
          have e1 : decide (H < Y + s.up + s.dn) = false := by simp; omega
          have hY := HY.out
          have al3 : s.al = 0 ∨ s.al = 1 ∨ s.al = 2 := by omega
          clear HS3 HV HN
          rcases al3 with ha | ha | ha
          · have h0 : ((s.al : Int) == 0) = true := by rw [beq_iff_eq]; omega
            have h1 : ((s.al : Int) == 1) = false := by rw [beq_eq_false_iff_ne]; omega
            have h2 : ((s.al : Int) == 2) = false := by rw [beq_eq_false_iff_ne]; omega
            have h3 : (Y + s.up != U) = false := by simp; exact hY.1 ha
            clear hY HY ha
            go_wp2_with (fail)
            go_meet
            exact ⟨rfl, rfl⟩
          · have h0 : ((s.al : Int) == 0) = false := by rw [beq_eq_false_iff_ne]; omega
            have h1 : ((s.al : Int) == 1) = true := by rw [beq_iff_eq]; omega
            have h2 : ((s.al : Int) == 2) = false := by rw [beq_eq_false_iff_ne]; omega
            have h3 : (Y != 0) = false := by simp; exact hY.2.1 ha
            clear hY HY ha
            go_wp2_with (fail)
            go_meet
            exact ⟨rfl, rfl⟩
          · have h0 : ((s.al : Int) == 0) = false := by rw [beq_eq_false_iff_ne]; omega
            have h1 : ((s.al : Int) == 1) = false := by rw [beq_eq_false_iff_ne]; omega
            have h2 : ((s.al : Int) == 2) = true := by rw [beq_iff_eq]; omega
            have h3 : (Y + s.up + s.dn != H) = false := by simp; exact hY.2.2 ha
            clear hY HY ha
            go_wp2_with (fail)
            go_meet
            exact ⟨rfl, rfl⟩
        case rest =>
        obtain ⟨rfl, hwc⟩ := hcut
        rw [hwc]
        clear hwc wc HY
        have hv9 := HV.out.1
        go_upto_region 15 with (fail)
        go_cut [9] (fun c wx => c = .bool V9 ∧ wx = W2)
        case first =>
          by_cases ha : s.al = 0
          · have h0 : ((s.al : Int) == 0) = true := by rw [beq_iff_eq]; omega
            have h1 : ((s.al : Int) != 0) = false := by simp; omega
            have HE := hidd (hv9)
            clear ha hv9
            cases Ub
            all_goals
              go_wp2_with (fail)
              go_meet
              exact ⟨by rw [← HE.out]; simp [h0], rfl⟩
          · have h0 : ((s.al : Int) == 0) = false := by rw [beq_eq_false_iff_ne]; omega
            have h1 : ((s.al : Int) != 0) = true := by simp; omega
            have HE := hidd (hv9)
            clear ha hv9
            cases Ub
            all_goals
              go_wp2_with (fail)
              go_meet
              exact ⟨by rw [← HE.out]; simp [h0], rfl⟩
        case rest =>
        obtain ⟨rfl, hwc⟩ := hcut
        rw [hwc]
        clear hwc wc
        have hv10 := HV.out.2.1
        go_upto_region 16 with (fail)
        go_cut [10] (fun c wx => c = .bool V10 ∧ wx = W2)
        case first =>
          by_cases ha : s.al = 0
          · have h0 : ((s.al : Int) == 0) = true := by rw [beq_iff_eq]; omega
            have h1 : ((s.al : Int) != 0) = false := by simp; omega
            have HE := hidd (hv10)
            clear ha hv10
            cases Db
            all_goals
              go_wp2_with (fail)
              go_meet
              exact ⟨by rw [← HE.out]; simp [h0], rfl⟩
          · have h0 : ((s.al : Int) == 0) = false := by rw [beq_eq_false_iff_ne]; omega
            have h1 : ((s.al : Int) != 0) = true := by simp; omega
            have HE := hidd (hv10)
            clear ha hv10
            cases Db
            all_goals
              go_wp2_with (fail)
              go_meet
              exact ⟨by rw [← HE.out]; simp [h0], rfl⟩
        case rest =>
        obtain ⟨rfl, hwc⟩ := hcut
        rw [hwc]
        clear hwc wc
        have hv11 := HV.out.2.2
        have HE := hidd hv11
        clear HV hv11
        by_cases ha : s.al = 0
        · have h0 : ((s.al : Int) == 0) = true := by rw [beq_iff_eq]; omega
          have h1 : ((s.al : Int) != 0) = false := by simp; omega
          clear ha
          cases Tb
          all_goals
            go_wp2_with (fail)
            go_roundw
            case rel => exact ⟨k + 1, by omega, by go_num, by rw [HS3.out.1], by rw [HS3.out.2.1], by rw [HS3.out.2.2, ← HE.out]; simp [h1], hb3⟩
            case measure => simp [intOf]; omega
        · have h0 : ((s.al : Int) == 0) = false := by rw [beq_eq_false_iff_ne]; omega
          have h1 : ((s.al : Int) != 0) = true := by simp; omega
          clear ha
          cases Tb
          all_goals
            go_wp2_with (fail)
            go_roundw
            case rel => exact ⟨k + 1, by omega, by go_num, by rw [HS3.out.1], by rw [HS3.out.2.1], by rw [HS3.out.2.2, ← HE.out]; simp [h1], hb3⟩
            case measure => simp [intOf]; omega
      · have hkk : k = l.length := by omega
        subst hkk
        have hlast := HN.out.2.2
        rw [List.take_length]
        obtain ⟨Db, hDb⟩ : ∃ B, dnB H U x.dn l = B := ⟨_, rfl⟩
        obtain ⟨Tb, hTb⟩ : ∃ B, tlB H l = B := ⟨_, rfl⟩
        obtain ⟨Ub, hUb⟩ : ∃ B, upB U x.up l = B := ⟨_, rfl⟩
        rw [hDb, hTb, hUb] at hlast
        rw [hDb, hTb, hUb]
        obtain ⟨rfl, hor⟩ := hlast
        have HO := hidd hor
        clear hDb hTb hUb hor HN hR rd5
        have hB9 := hB3.trans (hb.mono hB3.size)
        cases Db with
        | true =>
          go_wp2_with (fail)
          go_ret
          exact ⟨rfl, hB9⟩
        | false =>
          have ht : Tb = true := by simpa using HO.out
          subst ht
          go_wp2_with (fail)
          go_ret
          exact ⟨rfl, hB9⟩
end Go.Proofs.Ytdhjgflkincapaa
