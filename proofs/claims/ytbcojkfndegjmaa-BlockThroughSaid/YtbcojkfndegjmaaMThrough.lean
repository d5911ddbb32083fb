/- BlockThrough: the walk. -/
import Derived.Test.YtbcojkfndegjmaaKids
namespace Go.Proofs.Ytbcojkfndegjmaa
open Go.RowKit
set_option linter.unusedVariables false
attribute [local go_sem ↓] run_max run_min

theorem fin_thr (l : List Kd) : (fin (runK l true) true).th = l.all Kd.th ∧ (l.all Kd.th = true → (fin (runK l true) true).ht = 0 ∧ (fin (runK l true) true).tp = allM l ∧ (fin (runK l true) true).bt = ⟨0, 0⟩ ∧ max 0 (totC l) = max 0 (allM l).v) := by
  have h := all_through l l.length (Nat.le_refl _)
  rw [List.take_length] at h
  obtain ⟨h1, h2⟩ := h
  unfold fin
  rw [h1]
  cases ha : l.all Kd.th with
  | false => simp
  | true =>
    obtain ⟨c1, c2, c3⟩ := h2 ha
    refine ⟨rfl, fun _ => ⟨rfl, c1, rfl, ?_⟩⟩
    unfold totC
    rw [c2, c3, Int.zero_add]
theorem allM_in {M : Int} (hM : 0 ≤ M) (l : List Kd) (hg : ∀ k ∈ l, gdK M k) : ∀ k, k ≤ l.length → inM M (allM (l.take k))
  | 0, _ => by simpa [allM] using inM_z hM
  | k + 1, h => by
    have h1 := hg _ (List.getElem_mem (show k < l.length by omega))
    rw [take_snoc l k (by omega), allM_snoc]
    exact inM_mj (inM_mj (allM_in hM l hg k (by omega)) h1.2.1) h1.2.2
set_option maxRecDepth 100000 in
set_option maxHeartbeats 16000000 in
theorem through_walk (l : List Kd) (A : Option Addr) (cap : Nat) (w : World) (hR : Rd w w.heap.size 6 A l.length (kcells l)) :
    Calls Try.prog 12 #[.slice A l.length cap] w fun e w' => e = .returned (.bool true) ∧ Below w.heap.size w w' := by
  obtain ⟨N, hN⟩ : ∃ N, nearL l = N := ⟨_, rfl⟩
  have HNR := hidd hN
  clear hN
  go_enter Try.func12, Try.ntmps12
  go_wp2_with (fail)
  refine (awake14 _).mono ?_
  rintro e w1 ⟨rfl, hB1⟩
  go_wp2_with (fail)
  refine (near14 l A cap w1 ((hR.below hB1).more hB1.size) N HNR.out).mono ?_
  rintro e w2 ⟨rfl, hb2⟩
  have hB2 := below_step hB1 hb2
  clear hB1 hb2
  cases N with
  | false =>
    clear hR
    go_wp2_with (fail)
    go_ret
    exact ⟨rfl, hB2⟩
  | true =>
  have hl200 : l.length ≤ 200 := ((nearL_iff l).1 HNR.out).1
  have hnear := ((nearL_iff l).1 HNR.out).2
  have hgd : ∀ k ∈ l, gdK 268435456 k := fun k hk => (nearK_gd (hnear k hk)).1
  have hst := near_stack (show l.length ≤ 201 by omega) hnear true true
  have hst2 := near_closed l (by omega) hnear
  have hthr := fin_thr l
  have hlen : (fin (runK l true) true).ps.length = l.length := by rw [fin_ps]; exact run_length l true
  have hlen2 := run_length l false
  have hal := allM_in (M := 268435456) (by omega) l hgd
  obtain ⟨H, hH⟩ : ∃ H, max 0 (totC l) = H := ⟨_, rfl⟩
  rw [hH] at hst2 hthr
  obtain ⟨X, hX⟩ : ∃ X, fin (runK l true) true = X := ⟨_, rfl⟩
  rw [hX] at hst hlen hthr
  obtain ⟨P, hx, ⟨xu, xd⟩, ⟨bu0, bd0⟩, thr⟩ := X
  obtain ⟨P2, hP2⟩ : ∃ ps, (runK l false).ps = ps := ⟨_, rfl⟩
  rw [hP2] at hst2 hlen2
  simp only at hthr hlen
  have hlit := fun W hR => stack_lit l true true A l.length cap l.length W _ hR rfl (by omega) hst hlen
  have hlit2 := fun W hR => stack_lit l false false A l.length cap l.length W _ hR rfl (by omega) hst2 hlen2
  have HPL := hidd (And.intro hlit hlit2)
  have HF := hidd (And.intro hgd (And.intro hthr hal))
  clear hst hst2 hlen hlen2 hP2 hH hX hlit hlit2 hthr hal hnear hgd HNR
  go_wp2_with (fail)
  refine (HPL.out.1 w2 ((hR.below hB2).more hB2.size)).mono ?_
  rintro e x5 ⟨A5, c5, rfl, rd5, hbN⟩
  replace hB2 := below_step hB2 hbN
  clear hbN
  go_upto_region 6 with (fail)
  have hal := below_al (Below.refl (x5).heap.size (x5)) (.cells #[.slice A5 l.length c5, .int .i64 hx, .int .i64 xu, .int .i64 xd, .int .i64 bu0, .int .i64 bd0, .bool thr] 40)
  replace hB2 := below_step hB2 hal
  have X5 : Res ((x5).alloc (.cells #[.slice A5 l.length c5, .int .i64 hx, .int .i64 xu, .int .i64 xd, .int .i64 bu0, .int .i64 bd0, .bool thr] 40)) (x5).heap.size l.length ⟨P, hx, ⟨xu, xd⟩, ⟨bu0, bd0⟩, thr⟩ := Res.new (k := ⟨P, hx, ⟨xu, xd⟩, ⟨bu0, bd0⟩, thr⟩) rd5
  clear hal
  clear rd5
  obtain ⟨g5, hg5⟩ : ∃ g, (x5).heap.size = g := ⟨_, rfl⟩
  rw [hg5] at X5 ⊢
  clear hg5
  obtain ⟨v5, hv5⟩ : ∃ W, (x5).alloc (.cells #[.slice A5 l.length c5, .int .i64 hx, .int .i64 xu, .int .i64 xd, .int .i64 bu0, .int .i64 bd0, .bool thr] 40) = W := ⟨_, rfl⟩
  rw [hv5] at hB2 X5 ⊢
  clear hv5
  go_wp2_with (fail)
  refine (HPL.out.2 v5 ((hR.below hB2).more hB2.size)).mono ?_
  rintro e x6 ⟨A6, c6, rfl, rd6, hbN⟩
  replace hB2 := below_step hB2 hbN
  replace X5 := X5.below hbN
  clear hbN
  go_upto_region 7 with (fail)
  have hal := below_al (Below.refl (x6).heap.size (x6)) (.cells #[.slice A6 l.length c6, .int .i64 H, .int .i64 0, .int .i64 0, .int .i64 0, .int .i64 0, .bool false] 40)
  replace hB2 := below_step hB2 hal
  replace X5 := X5.below hal
  have X6 : Res ((x6).alloc (.cells #[.slice A6 l.length c6, .int .i64 H, .int .i64 0, .int .i64 0, .int .i64 0, .int .i64 0, .bool false] 40)) (x6).heap.size l.length ⟨P2, H, ⟨0, 0⟩, ⟨0, 0⟩, false⟩ := Res.new (k := ⟨P2, H, ⟨0, 0⟩, ⟨0, 0⟩, false⟩) rd6
  clear hal
  clear rd6
  obtain ⟨g6, hg6⟩ : ∃ g, (x6).heap.size = g := ⟨_, rfl⟩
  rw [hg6] at X6 ⊢
  clear hg6
  obtain ⟨v6, hv6⟩ : ∃ W, (x6).alloc (.cells #[.slice A6 l.length c6, .int .i64 H, .int .i64 0, .int .i64 0, .int .i64 0, .int .i64 0, .bool false] 40) = W := ⟨_, rfl⟩
  rw [hv6] at hB2 X5 X6 ⊢
  clear hv6
  clear HPL
  have X5' := X5
  have X6' := X6
  obtain ⟨a5, d5, b5, r5⟩ := X5'
  obtain ⟨a6, d6, b6, r6⟩ := X6'
  clear X5 X6 r5 r6
  have g5l := b5.lt
  have g6l := b6.lt
  go_wp2_with (fail)
  go_loopw [8, 9] (fun c i wx => ∃ (k : Nat) (tb : Bool) (au ad : Int), k ≤ l.length ∧ i = .int .i64 k ∧ c = .bool tb ∧ tb = (l.take k).all Kd.th ∧ allM (l.take k) = ⟨au, ad⟩ ∧ Blk wx v6.heap.size 24 #[.int .i64 au, .int .i64 ad] ∧ Below v6.heap.size v6 wx)
    (fun _ i _ => l.length - (intOf i).toNat)
  case atStart => exact ⟨0, true, 0, 0, Nat.zero_le _, rfl, rfl, by simp, rfl, Blk.new _ _ _, below_al (Below.refl _ _) _⟩
  case round =>
    obtain ⟨k, tb, au, ad, hk, rfl, rfl, htb, hall, h7, hb⟩ := hrel
    obtain ⟨W, hW⟩ : ∃ W, wr = W := ⟨_, rfl⟩
    rw [hW] at h7 hb ⊢
    clear hW
    clear wr
    have hBW := hB2.trans (hb.mono hB2.size)
    have g7l := h7.lt
    have B5 := b5.below hb g5l
    have B6 := b6.below hb g6l
    by_cases hlt : k < l.length
    · obtain ⟨b, off, rfl, hbB, hc⟩ := hR.2 (by omega)
      have hbW : b < W.heap.size := Nat.lt_of_lt_of_le hbB hBW.size
      have hx0 := (hBW.cell (p := ⟨b, off + (k * 6 + 0), none⟩) hbB).trans (hc _ _ (kcell l k 0 hlt (by omega)))
      have hx1 := (hBW.cell (p := ⟨b, off + (k * 6 + 1), none⟩) hbB).trans (hc _ _ (kcell l k 1 hlt (by omega)))
      have hx2 := (hBW.cell (p := ⟨b, off + (k * 6 + 2), none⟩) hbB).trans (hc _ _ (kcell l k 2 hlt (by omega)))
      have hx3 := (hBW.cell (p := ⟨b, off + (k * 6 + 3), none⟩) hbB).trans (hc _ _ (kcell l k 3 hlt (by omega)))
      have hx5 := (hBW.cell (p := ⟨b, off + (k * 6 + 5), none⟩) hbB).trans (hc _ _ (kcell l k 5 hlt (by omega)))
      have hv5 := (hB2.cell (p := ⟨b, off + (k * 6 + 5), none⟩) hbB).trans (hc _ _ (kcell l k 5 hlt (by omega)))
      have ha : (l.take (k + 1)).all Kd.th = (tb && l[k].th) := by rw [take_snoc l k hlt, List.all_append, htb]; simp
      have hm : allM (l.take (k + 1)) = mj (mj ⟨au, ad⟩ l[k].tp) l[k].bt := by rw [take_snoc l k hlt, allM_snoc, hall]
      obtain ⟨s, hs⟩ : ∃ s, l[k] = s := ⟨_, rfl⟩
      rw [hs] at hx0 hx1 hx2 hx3 hx5 hv5 ha hm
      obtain ⟨⟨tu, td⟩, ⟨bu, bd⟩, ht, th⟩ := s
      simp only at hx0 hx1 hx2 hx3 hx5 hv5
      simp only [← Nat.add_assoc, Nat.add_zero] at hx0 hx1 hx2 hx3 hx5 hv5
      obtain ⟨M1, hM1⟩ : ∃ M, mj (mj (⟨au, ad⟩ : Mg) ⟨tu, td⟩) ⟨bu, bd⟩ = M := ⟨_, rfl⟩
      rw [hM1] at hm
      obtain ⟨U, D⟩ := M1
      have HJ : Hid (mJoin [⟨au, ad⟩, ⟨tu, td⟩, ⟨bu, bd⟩] = ⟨U, D⟩) := hM1
      have HS := hidd (And.intro ha hm)
      have y0 := h7.cell 0
      have y1 := h7.cell 1
      simp at y0 y1
      have k0 : (0 : Int) ≤ (k : Int) := Int.natCast_nonneg _
      have k1 : (k : Int) < (l.length : Int) := by omega
      clear hc hR hs ha hm hM1 hall htb
      go_wp2_with (fail)
      refine region_ord [(0, true), (1, true), (2, true), (3, true), (4, true), (5, true), (6, true), (7, true), (8, true), (9, true), (10, true), (11, false), (12, false), (13, false)]
        (fun w' => Below W.heap.size W w' ∧ ∀ b o, b < W.heap.size → w'.cell? ⟨b, o, none⟩ = W.cell? ⟨b, o, none⟩) 13 (by kernel_rfl) (by kernel_rfl) (by kernel_rfl) (by kernel_rfl) (by intro c a d v w h; cases d <;> exact h) (ext_of (Below.drew (Below.refl _ _))) ?_
      simp only [List.map_cons, List.map_nil, List.getElem?_toArray, List.getElem?_cons_succ, List.getElem?_cons_zero]
      have hD0 : Below W.heap.size W W.drew := Below.drew (Below.refl _ _)
      iterate 11 (first
        | (with_reducible refine L_yes ?_ ?_
           focus (go_simp; done)
           apply Exists.intro
           refine ⟨?_, ?_⟩
           (rintro w' ⟨_, hce⟩
            go_simp
            first | done | rfl | (rw [ite_next]))
           simp only [Act.put, List.setIfInBounds_toArray, List.set_cons_zero, List.set_cons_succ])
        | (with_reducible refine L_no ?_ ?_
           focus (go_simp; first | done | (intro h; cases h))
           simp only [Act.put, List.setIfInBounds_toArray, List.set_cons_zero, List.set_cons_succ]))
      with_reducible refine L_main ?_ ?_
      focus (go_simp; done)
      intro K hK
      go_simp
      have hD0_1 := below_al hD0 (.cells #[.int .i64 au, .int .i64 ad, .int .i64 tu, .int .i64 td, .int .i64 bu, .int .i64 bd] 24)
      have h7A := h7.drew.alloc (.cells #[.int .i64 au, .int .i64 ad, .int .i64 tu, .int .i64 td, .int .i64 bu, .int .i64 bd] 24)
      refine hK _ _ (fun _ => ext_of hD0_1) (fun hSx => ?_)
      clear hSx hK K
      with_reducible refine L_main ?_ ?_
      focus (go_simp; done)
      intro K hK
      go_simp
      refine (join_blk [⟨au, ad⟩, ⟨tu, td⟩, ⟨bu, bd⟩] U D W.heap.size 3 3 #[.int .i64 au, .int .i64 ad, .int .i64 tu, .int .i64 td, .int .i64 bu, .int .i64 bd] _ (Blk.new W 24 #[.int .i64 au, .int .i64 ad, .int .i64 tu, .int .i64 td, .int .i64 bu, .int .i64 bd]).drew rfl rfl HJ.out (by decide)).mono ?_
      rintro e v9 ⟨rfl, hbN⟩
      have hD0_2 := below_step hD0_1 hbN
      have h7B := h7A.below hbN h7A.lt
      have fz := h7B.frozen
      have z0 := h7B.cell 0
      have z1 := h7B.cell 1
      simp at z0 z1
      clear hbN
      dsimp only
      refine hK _ _ (fun _ => ext_of hD0_2) (fun hSx => ?_)
      clear hSx hK K
      with_reducible refine L_main ?_ ?_
      focus (go_simp; done)
      intro K hK
      go_simp
      refine hK _ _ (fun h => absurd rfl h) (fun hSx => ?_)
      clear hSx hK K
      refine L_nil ?_
      have hDn := hD0_2
      have hb9 := hb.trans (hDn.mono hb.size)
      have hBn := hBW.trans (hDn.mono hBW.size)
      have h7n := Blk.to ((h7B.set_ 0 (.int .i64 U)).set_ 1 (.int .i64 D)) (cs' := #[.int .i64 U, .int .i64 D]) (by simp)
      have hbn := (hb9.setCell (p := ⟨v6.heap.size, 0, none⟩) (Nat.le_refl _) (.int .i64 U)).setCell (p := ⟨v6.heap.size, 1, none⟩) (Nat.le_refl _) (.int .i64 D)
      have hbV : b < v6.heap.size := Nat.lt_of_lt_of_le hbB hB2.size
      obtain ⟨W9, hW9⟩ : ∃ W, (v9.setCell ⟨v6.heap.size, 0, none⟩ (.int .i64 U)).setCell ⟨v6.heap.size, 1, none⟩ (.int .i64 D) = W := ⟨_, rfl⟩
      rw [hW9] at h7n hbn ⊢
      have e5n : W9.cell? ⟨b, off + k * 6 + 5, none⟩ = some (.bool th) := (hbn.cell (p := ⟨b, off + k * 6 + 5, none⟩) hbV).trans hv5
      clear hW9 hD0 hD0_1 hD0_2 hDn hb9 hBn h7A h7B fz z0 z1 hx0 hx1 hx2 hx3 hx5 y0 y1 h7 hb hBW HJ hv5 B5 B6 hB2
      cases tb
      all_goals
        go_wp2_with (fail)
        go_roundw
        case rel => exact ⟨k + 1, _, U, D, by omega, by go_num, rfl, by rw [HS.out.1]; first | rfl | simp, HS.out.2, h7n, hbn⟩
        case measure => simp [intOf]; omega
    · have hkk : k = l.length := by omega
      subst hkk
      rw [List.take_length] at htb hall
      have hv := inM_v (HF.out.2.2 l.length (Nat.le_refl _))
      rw [List.take_length, hall] at hv
      have hthr := HF.out.2.1.1
      rw [← htb] at hthr
      subst hthr
      have hF2 := HF.out.2.1.2
      rw [← htb, hall] at hF2
      have h0 := B5.cell 1
      have p1 := B5.cell 2
      have p2 := B5.cell 3
      have p3 := B5.cell 4
      have p4 := B5.cell 5
      have p5 := B5.cell 6
      have q1 := B6.cell 1
      have q6 := B6.cell 6
      have z0 := h7.cell 0
      have z1 := h7.cell 1
      simp at h0 p1 p2 p3 p4 p5 q1 q6 z0 z1
      have g5W := B5.lt
      have g6W := B6.lt
      clear hR htb hall HF
      have hbb : (thr != thr) = false := by simp
      cases thr with
      | false =>
        clear hF2 hv
        go_wp2_with (fail)
        refine region_ord [(0, true), (1, true), (2, true), (3, true), (4, true), (5, true), (6, true), (7, true), (8, true), (9, true), (10, true), (11, true), (12, true), (13, true), (14, true), (15, true), (16, true), (17, true), (18, true), (19, true), (20, true), (21, true), (22, false), (23, true), (24, true), (25, true), (26, true), (27, true)]
          (fun w' => Below W.heap.size W w' ∧ ∀ b o, b < W.heap.size → w'.cell? ⟨b, o, none⟩ = W.cell? ⟨b, o, none⟩) 999 (by kernel_rfl) (by kernel_rfl) (by kernel_rfl) (by kernel_rfl) (by intro c a d v w h; cases d <;> exact h) (ext_of (Below.drew (Below.refl _ _))) ?_
        simp only [List.map_cons, List.map_nil, List.getElem?_toArray, List.getElem?_cons_succ, List.getElem?_cons_zero]
        have hE0 : Below W.heap.size W W.drew := Below.drew (Below.refl _ _)
        iterate 22 (first
          | (with_reducible refine L_yes ?_ ?_
             focus (go_simp; done)
             apply Exists.intro
             refine ⟨?_, ?_⟩
             (rintro w' ⟨_, hce⟩
              go_simp
              first | done | rfl | (rw [ite_next]))
             simp only [Act.put, List.setIfInBounds_toArray, List.set_cons_zero, List.set_cons_succ])
          | (with_reducible refine L_no ?_ ?_
             focus (go_simp; first | done | (intro h; cases h))
             simp only [Act.put, List.setIfInBounds_toArray, List.set_cons_zero, List.set_cons_succ]))
        with_reducible refine L_main_no ?_ ?_ ?_
        focus (go_simp; first | done | (intro h; cases h))
        exact ext_of hE0
        have hE0_1 := hE0
        simp only [Act.put, List.setIfInBounds_toArray, List.set_cons_zero, List.set_cons_succ]
        iterate 5 (first
          | (with_reducible refine L_yes ?_ ?_
             focus (go_simp; done)
             apply Exists.intro
             refine ⟨?_, ?_⟩
             (rintro w' ⟨_, hce⟩
              go_simp
              first | done | rfl | (rw [ite_next]))
             simp only [Act.put, List.setIfInBounds_toArray, List.set_cons_zero, List.set_cons_succ])
          | (with_reducible refine L_no ?_ ?_
             focus (go_simp; first | done | (intro h; cases h))
             simp only [Act.put, List.setIfInBounds_toArray, List.set_cons_zero, List.set_cons_succ]))
        refine L_nil ?_
        go_wp2_with (fail)
        go_ret
        exact ⟨rfl, Below.drew hBW⟩
      | true =>
        obtain ⟨f1, f2, f3, f4⟩ := hF2 rfl
        clear hF2
        injection f2 with f5 f6
        injection f3 with f7 f8
        subst f1 f5 f6 f7 f8
        have hV0 : (⟨xu, xd⟩ : Mg).v = xu + xd := rfl
        rw [hV0] at f4 hv
        obtain ⟨V, hV⟩ : ∃ V, xu + xd = V := ⟨_, rfl⟩
        rw [hV] at f4 hv
        obtain ⟨hv1, hv2⟩ := hv
        have HV : Hid (wrap64 (xu + xd) = V) := by show wrap64 _ = _; rw [hV]; exact IntWalk.wrap64_in _ ⟨by omega, by omega⟩
        subst f4
        clear hV hV0
        go_wp2_with (fail)
        refine region_ord [(0, true), (1, true), (2, true), (3, true), (4, true), (5, true), (6, true), (7, true), (8, true), (9, true), (10, true), (11, true), (12, true), (13, true), (14, true), (15, true), (16, true), (17, true), (18, true), (19, true), (20, true), (21, true), (22, false), (23, true), (24, true), (25, true), (26, true), (27, true)]
          (fun w' => Below W.heap.size W w' ∧ ∀ b o, b < W.heap.size → w'.cell? ⟨b, o, none⟩ = W.cell? ⟨b, o, none⟩) 999 (by kernel_rfl) (by kernel_rfl) (by kernel_rfl) (by kernel_rfl) (by intro c a d v w h; cases d <;> exact h) (ext_of (Below.drew (Below.refl _ _))) ?_
        simp only [List.map_cons, List.map_nil, List.getElem?_toArray, List.getElem?_cons_succ, List.getElem?_cons_zero]
        have hE0 : Below W.heap.size W W.drew := Below.drew (Below.refl _ _)
        iterate 22 (first
          | (with_reducible refine L_yes ?_ ?_
             focus (go_simp; done)
             apply Exists.intro
             refine ⟨?_, ?_⟩
             (rintro w' ⟨_, hce⟩
              go_simp
              first | done | rfl | (rw [ite_next]))
             simp only [Act.put, List.setIfInBounds_toArray, List.set_cons_zero, List.set_cons_succ])
          | (with_reducible refine L_no ?_ ?_
             focus (go_simp; first | done | (intro h; cases h))
             simp only [Act.put, List.setIfInBounds_toArray, List.set_cons_zero, List.set_cons_succ]))
        with_reducible refine L_main ?_ ?_
        focus (go_simp; done)
        intro K hK
        go_simp
        refine (value_val xu xd V HV.out _).mono ?_
        rintro e x9 ⟨rfl, hbN⟩
        have hE0_1 := below_step hE0 hbN
        clear hbN
        dsimp only
        refine hK _ _ (fun _ => ext_of hE0_1) (fun hSx => ?_)
        clear hSx hK K
        iterate 5 (first
          | (with_reducible refine L_yes ?_ ?_
             focus (go_simp; done)
             apply Exists.intro
             refine ⟨?_, ?_⟩
             (rintro w' ⟨_, hce⟩
              go_simp
              first | done | rfl | (rw [ite_next]))
             simp only [Act.put, List.setIfInBounds_toArray, List.set_cons_zero, List.set_cons_succ])
          | (with_reducible refine L_no ?_ ?_
             focus (go_simp; first | done | (intro h; cases h))
             simp only [Act.put, List.setIfInBounds_toArray, List.set_cons_zero, List.set_cons_succ]))
        refine L_nil ?_
        go_wp2_with (fail)
        go_ret
        exact ⟨rfl, hBW.trans (hE0_1.mono hBW.size)⟩
end Go.Proofs.Ytbcojkfndegjmaa
