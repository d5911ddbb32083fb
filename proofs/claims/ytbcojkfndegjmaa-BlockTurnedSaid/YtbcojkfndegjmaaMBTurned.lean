/- BlockTurned: the walk. -/
import Derived.Test.YtbcojkfndegjmaaKids
namespace Go.Proofs.Ytbcojkfndegjmaa
open Go.RowKit
set_option linter.unusedVariables false
attribute [local go_sem ↓] run_max run_min

theorem last_lt {n k : Nat} (hk : k < n) : n - 1 - k < n := by omega
set_option maxRecDepth 100000 in
set_option maxHeartbeats 16000000 in
theorem bturned_walk (l : List Kd) (A : Option Addr) (cap : Nat) (w : World) (hR : Rd w w.heap.size 6 A l.length (kcells l)) :
    Calls Try.prog 10 #[.slice A l.length cap] w fun e w' => e = .returned (.bool true) ∧ Below w.heap.size w w' := by
  obtain ⟨N, hN⟩ : ∃ N, nearL l = N := ⟨_, rfl⟩
  obtain ⟨So, hSo⟩ : ∃ N, (l.all fun k => !k.th) = N := ⟨_, rfl⟩
  have HNR := hidd hN
  have HSO := hidd hSo
  clear hN hSo
  go_enter Try.func10, Try.ntmps10
  go_wp2_with (fail)
  refine (awake14 _).mono ?_
  rintro e w1 ⟨rfl, hB1⟩
  go_wp2_with (fail)
  refine (near14 l A cap w1 ((hR.below hB1).more hB1.size) N HNR.out).mono ?_
  rintro e w2 ⟨rfl, hb2⟩
  have hB2 := below_step hB1 hb2
  clear hB1 hb2
  cases N with
  | false =>
    clear hR
    go_wp2_with (fail)
    go_ret
    exact ⟨rfl, hB2⟩
  | true =>
  have hl200 : l.length ≤ 200 := ((nearL_iff l).1 HNR.out).1
  go_wp2_with (fail)
  refine (solid_any l A cap w2 ((hR.below hB2).more hB2.size) (by omega) So HSO.out).mono ?_
  rintro e w2' ⟨rfl, rfl⟩
  cases So with
  | false =>
    clear hR
    go_wp2_with (fail)
    go_ret
    exact ⟨rfl, hB2⟩
  | true =>
  have hnear := ((nearL_iff l).1 HNR.out).2
  have hsol : ∀ k ∈ l, k.th = false := fun k hk => by
    have := List.all_eq_true.1 HSO.out k hk
    simpa using this
  have hgd : ∀ k ∈ l, gdK 268435456 k := fun k hk => (nearK_gd (hnear k hk)).1
  have htl := turn_length l
  have htg := turn_get l
  have hst := near_closed l (by omega) hnear
  have hst2 := near_closed (turn l) (by omega) (near_turn l hnear)
  rw [turn_tot l hsol hgd] at hst2
  have hlen := run_length l false
  have hlen2 := run_length (turn l) false
  rw [htl] at hlen2
  have hpo := fun k hk => run_get l false k hk
  have hpo2 := fun k hk => run_get (turn l) false k hk
  have hat := turn_at l hsol hgd
  obtain ⟨T0, hT0⟩ : ∃ T, totC l = T := ⟨_, rfl⟩
  rw [hT0] at hst hst2
  simp only [hT0] at hat
  obtain ⟨H, hH⟩ : ∃ H, max 0 T0 = H := ⟨_, rfl⟩
  rw [hH] at hst hst2
  obtain ⟨P, hP⟩ : ∃ ps, (runK l false).ps = ps := ⟨_, rfl⟩
  obtain ⟨P2, hP2⟩ : ∃ ps, (runK (turn l) false).ps = ps := ⟨_, rfl⟩
  rw [hP] at hst hlen hpo
  rw [hP2] at hst2 hlen2 hpo2
  obtain ⟨TL, hTL⟩ : ∃ T, turn l = T := ⟨_, rfl⟩
  have hlit := fun W hR => stack_lit l false false A l.length cap l.length W _ hR rfl (by omega) hst hlen
  have hlit2 := fun A cap W hR => stack_lit (turn l) false false A l.length cap l.length W _ hR htl (by omega) hst2 hlen2
  rw [hTL] at hlit2
  have HPL := hidd (And.intro hlit hlit2)
  have hat2 : ∀ (i : Nat) (hi : i < l.length), ∃ x y : Int, P[i]? = some x ∧ P2[l.length - 1 - i]? = some y ∧ y = T0 - x - (l[i]).ht := fun i hi => by
    have h1 := hpo i hi
    have h2 := hpo2 (l.length - 1 - i) (by rw [htl]; omega)
    have h3 := hat (l.length - 1 - i) (by omega)
    have e : l.length - 1 - (l.length - 1 - i) = i := by omega
    simp only [e] at h3
    refine ⟨_, _, h1, h2, ?_⟩
    unfold posC at h3
    omega
  have hgs : ∀ x ∈ P, -107911053312 ≤ x ∧ x ≤ 107911053312 := by
    have := (gdS_run (M := 268435456) (by omega) l false hgd l.length (Nat.le_refl _)).2.2.2
    rw [List.take_length, bnd_eq, hP] at this
    intro x hx
    have := this x hx
    omega
  have hHb : H ≤ 107911053312 := by
    have h1 := gdS_run (M := 268435456) (by omega) l false hgd l.length (Nat.le_refl _)
    rw [List.take_length] at h1
    have h2 := inM_v h1.1
    have h3 := h1.2.2.1
    rw [bnd_eq] at h3
    rw [← hH, ← hT0]
    unfold totC
    omega
  have hH0 : 0 ≤ H := by omega
  have hHT : 0 < H → T0 = H := fun h => by omega
  have htT : ∀ (k : Nat) (hk : k < l.length), TL.take (k + 1) = TL.take k ++ [sw (l[l.length - 1 - k]'(last_lt hk))] := fun k hk => by
    subst hTL
    rw [take_snoc (turn l) k (by rw [htl]; exact hk), turn_get l k hk]
  have hTll : TL.length = l.length := by rw [← hTL]; exact htl
  have HF := hidd (And.intro hgd (And.intro hat2 (And.intro hgs (And.intro hHT (And.intro htT hTll)))))
  clear hst hst2 hlen hlen2 hpo hpo2 hat hat2 hT0 hH hP hP2 hTL hlit hlit2 htl htg hnear hsol hgd HNR HSO hgs hHT htT hTll
  obtain ⟨i0, hi, hz0, hz1, hz2⟩ := info_parts info48
  have HI := hidd (And.intro hi (And.intro hz0 (And.intro hz1 hz2)))
  clear hi hz0 hz1 hz2
  go_wp2_with (fail)
  go_loopw [3, 4] (fun v i wx => ∃ k : Nat, k ≤ l.length ∧ i = .int .i64 ((l.length : Int) - 1 - (k : Int)) ∧ wx.ownsRow w2.heap.size 48 6 v k (kcells (TL.take k)) ∧ Below w2.heap.size w2 wx)
    (fun _ i _ => (intOf i + 1).toNat)
  case atStart => exact ⟨0, Nat.zero_le _, by simp, World.ownsRow_nil _ _ _ _, Below.refl _ _⟩
  case round =>
    obtain ⟨k, hk, rfl, hown, hb⟩ := hrel
    obtain ⟨v3, hv3⟩ : ∃ v, u3 = v := ⟨_, rfl⟩
    rw [hv3] at hown ⊢
    clear hv3
    clear u3
    by_cases hlt : k < l.length
    · obtain ⟨b, off, rfl, hbB, hc⟩ := hR.2 (by omega)
      have hbw2 : b < w2.heap.size := Nat.lt_of_lt_of_le hbB hB2.size
      have hsn := HF.out.2.2.2.2.1 k hlt
      obtain ⟨j, hj⟩ : ∃ j, l.length - 1 - k = j := ⟨_, rfl⟩
      have hjl : j < l.length := by omega
      have hji : (l.length : Int) - 1 - (k : Int) = (j : Int) := by omega
      have hjj : ((l.length : Int) - 1 - ((k + 1 : Nat) : Int)) = (j : Int) - 1 := by omega
      simp only [hj] at hsn
      have hw0 := (hB2.cell (p := ⟨b, off + (j * 6 + 0), none⟩) hbB).trans (hc _ _ (kcell l j 0 hjl (by omega)))
      have hw1 := (hB2.cell (p := ⟨b, off + (j * 6 + 1), none⟩) hbB).trans (hc _ _ (kcell l j 1 hjl (by omega)))
      have hw2 := (hB2.cell (p := ⟨b, off + (j * 6 + 2), none⟩) hbB).trans (hc _ _ (kcell l j 2 hjl (by omega)))
      have hw3 := (hB2.cell (p := ⟨b, off + (j * 6 + 3), none⟩) hbB).trans (hc _ _ (kcell l j 3 hjl (by omega)))
      have hw4 := (hB2.cell (p := ⟨b, off + (j * 6 + 4), none⟩) hbB).trans (hc _ _ (kcell l j 4 hjl (by omega)))
      obtain ⟨s, hs⟩ : ∃ s, l[j] = s := ⟨_, rfl⟩
      rw [hs] at hw0 hw1 hw2 hw3 hw4 hsn
      obtain ⟨⟨tu, td⟩, ⟨bu, bd⟩, ht, th⟩ := s
      simp only at hw0 hw1 hw2 hw3 hw4
      simp only [← Nat.add_assoc, Nat.add_zero] at hw0 hw1 hw2 hw3 hw4
      have hsn2 : kcells (TL.take (k + 1)) = kcells (TL.take k) ++ [.int .i64 bu, .int .i64 bd, .int .i64 tu, .int .i64 td, .int .i64 ht, .bool false] := by rw [hsn, kcells_snoc]; rfl
      have HS := hidd hsn2
      have HJ := hidd hjj
      have j0 : (0 : Int) ≤ (j : Int) := Int.natCast_nonneg _
      have j1 : (j : Int) < (l.length : Int) := by omega
      rw [hji]
      clear hc hR hs hsn hsn2 hj hji hjj
      go_wp2_with (fail)
      obtain ⟨hi, hz0, hz1, hz2⟩ := HI.out
      obtain ⟨W, hW⟩ : ∃ W, wr = W := ⟨_, rfl⟩
      rw [hW] at hb hown ⊢
      clear hW
      clear wr
      have owD : W.drew.ownsRow w2.heap.size 48 6 v3 k (kcells (TL.take k)) := hown
      refine region_ord [(0, true), (1, true), (2, true), (3, true), (4, true), (5, true), (6, true), (7, true), (8, true), (9, true), (10, true), (11, true), (12, true), (13, true), (14, true), (15, true), (16, true), (17, false), (18, false), (19, true)]
        (fun w' => Below w2.heap.size w2 w' ∧ ∀ b o, b < w2.heap.size → w'.cell? ⟨b, o, none⟩ = w2.cell? ⟨b, o, none⟩) 999 (by kernel_rfl) (by kernel_rfl) (by kernel_rfl) (by kernel_rfl) (by intro c a d v w h; cases d <;> exact h) (ext_of (Below.drew (hb))) ?_
      simp only [List.map_cons, List.map_nil, List.getElem?_toArray, List.getElem?_cons_succ, List.getElem?_cons_zero]
      have hD0 : Below w2.heap.size w2 W.drew := Below.drew (hb)
      iterate 17 (first
        | (with_reducible refine L_yes ?_ ?_
           focus (go_simp; done)
           apply Exists.intro
           refine ⟨?_, ?_⟩
           (rintro w' ⟨_, hce⟩
            go_simp
            first | done | rfl | (rw [ite_next]))
           simp only [Act.put, List.setIfInBounds_toArray, List.set_cons_zero, List.set_cons_succ])
        | (with_reducible refine L_no ?_ ?_
           focus (go_simp; done)
           simp only [Act.put, List.setIfInBounds_toArray, List.set_cons_zero, List.set_cons_succ]))
      with_reducible refine L_main ?_ ?_
      focus (go_simp; done)
      intro K hK
      go_simp
      have hD0_1 := below_al hD0 (.cells #[.int .i64 bu, .int .i64 bd, .int .i64 tu, .int .i64 td, .int .i64 ht, .bool false] 48)
      have owA : (W.drew.alloc (.cells #[.int .i64 bu, .int .i64 bd, .int .i64 tu, .int .i64 td, .int .i64 ht, .bool false] 48)).ownsRow w2.heap.size 48 6 v3 k _ := owD.alloc _
      refine hK _ _ (fun _ => ext_of hD0_1) (fun hSx => ?_)
      clear hSx hK K
      with_reducible refine L_main ?_ ?_
      focus (go_simp; done)
      intro K hK
      refine wp_append_src _ _ _ 38 (by rfl) w2.heap.size 48 i0 (.agg #[.int .i64 0, .int .i64 0, .int .i64 0, .int .i64 0, .int .i64 0, .bool false]) 6 48 Try.underlying38 hi hz0 hz1 hz2 rfl (by decide) v3 k _ (by rfl) owA (W.drew.alloc (.cells #[.int .i64 bu, .int .i64 bd, .int .i64 tu, .int .i64 td, .int .i64 ht, .bool false] 48)).heap.size (some ⟨W.drew.heap.size, 0, none⟩) 1 1 [.int .i64 bu, .int .i64 bd, .int .i64 tu, .int .i64 td, .int .i64 ht, .bool false] (by rfl) (Rd.blk (Blk.new W.drew 48 #[.int .i64 bu, .int .i64 bd, .int .i64 tu, .int .i64 td, .int .i64 ht, .bool false]) 1 6 rfl) (by simp [Value.oneCell']) (by unfold maxLen; omega) (by omega) (hD0_1.size) ?_
      intro v' v9 owB hgr hpr
      have hD0_2 := (hD0_1).grown hgr (hD0_1).size (fun q hq => (owA.lt q hq).1)
      refine hK _ _ (fun _ => ext_of hD0_2) (fun hSx => ?_)
      clear hSx hK K
      simp only [Act.put, List.setIfInBounds_toArray, List.set_cons_zero, List.set_cons_succ]
      iterate 1 (first
        | (with_reducible refine L_yes ?_ ?_
           focus (go_simp; done)
           apply Exists.intro
           refine ⟨?_, ?_⟩
           (rintro w' ⟨_, hce⟩
            go_simp
            first | done | rfl | (rw [ite_next]))
           simp only [Act.put, List.setIfInBounds_toArray, List.set_cons_zero, List.set_cons_succ])
        | (with_reducible refine L_no ?_ ?_
           focus (go_simp; done)
           simp only [Act.put, List.setIfInBounds_toArray, List.set_cons_zero, List.set_cons_succ]))
      refine L_nil ?_
      have HA : Hid (v9.ownsRow w2.heap.size 48 6 v' (k + 1) (kcells (TL.take (k + 1)))) := by rw [HS.out]; exact owB
      clear owB owA owD hgr hpr hD0 hD0_1 hown hw0 hw1 hw2 hw3 hw4 hi hz0 hz1 hz2 hb
      go_wp2_with (fail)
      go_roundw
      case rel => exact ⟨k + 1, by omega, by rw [HJ.out], HA.out, hD0_2⟩
      case measure => simp [intOf]
    · have hkk : k = l.length := by omega
      subst hkk
      have hm1 : (l.length : Int) - 1 - (l.length : Int) = -1 := by omega
      rw [hm1]
      rw [← HF.out.2.2.2.2.2, List.take_length, HF.out.2.2.2.2.2] at hown
      obtain ⟨A11, c11, rfl, rdT⟩ := own_slice hown
      have hB4 := hB2.trans (hb.mono hB2.size)
      clear hown hm1 hb HI
      obtain ⟨W4, hW4⟩ : ∃ W, wr = W := ⟨_, rfl⟩
      rw [hW4] at rdT hB4 ⊢
      clear hW4
      clear wr
      go_wp2_with (fail)
      refine (HPL.out.1 W4 ((hR.below hB4).more hB4.size)).mono ?_
      rintro e x5 ⟨A5, c5, rfl, rd5, hbN⟩
      replace hB4 := below_step hB4 hbN
      replace rdT := (rdT.below hbN).more hbN.size
      clear hbN
      go_upto_region 11 with (fail)
      have hal := below_al (Below.refl (x5).heap.size (x5)) (.cells #[.slice A5 l.length c5, .int .i64 H, .int .i64 0, .int .i64 0, .int .i64 0, .int .i64 0, .bool false] 40)
      replace hB4 := below_step hB4 hal
      replace rdT := (rdT.below hal).more hal.size
      have X5 : Res ((x5).alloc (.cells #[.slice A5 l.length c5, .int .i64 H, .int .i64 0, .int .i64 0, .int .i64 0, .int .i64 0, .bool false] 40)) (x5).heap.size l.length ⟨P, H, ⟨0, 0⟩, ⟨0, 0⟩, false⟩ := Res.new (k := ⟨P, H, ⟨0, 0⟩, ⟨0, 0⟩, false⟩) rd5
      clear hal
      clear rd5
      obtain ⟨g5, hg5⟩ : ∃ g, (x5).heap.size = g := ⟨_, rfl⟩
      rw [hg5] at X5 ⊢
      clear hg5
      obtain ⟨v5, hv5⟩ : ∃ W, (x5).alloc (.cells #[.slice A5 l.length c5, .int .i64 H, .int .i64 0, .int .i64 0, .int .i64 0, .int .i64 0, .bool false] 40) = W := ⟨_, rfl⟩
      rw [hv5] at hB4 rdT X5 ⊢
      clear hv5
      go_wp2_with (fail)
      refine (HPL.out.2 _ _ v5 rdT).mono ?_
      rintro e x6 ⟨A6, c6, rfl, rd6, hbN⟩
      replace hB4 := below_step hB4 hbN
      replace rdT := (rdT.below hbN).more hbN.size
      replace X5 := X5.below hbN
      clear hbN
      go_upto_region 12 with (fail)
      have hal := below_al (Below.refl (x6).heap.size (x6)) (.cells #[.slice A6 l.length c6, .int .i64 H, .int .i64 0, .int .i64 0, .int .i64 0, .int .i64 0, .bool false] 40)
      replace hB4 := below_step hB4 hal
      replace rdT := (rdT.below hal).more hal.size
      replace X5 := X5.below hal
      have X6 : Res ((x6).alloc (.cells #[.slice A6 l.length c6, .int .i64 H, .int .i64 0, .int .i64 0, .int .i64 0, .int .i64 0, .bool false] 40)) (x6).heap.size l.length ⟨P2, H, ⟨0, 0⟩, ⟨0, 0⟩, false⟩ := Res.new (k := ⟨P2, H, ⟨0, 0⟩, ⟨0, 0⟩, false⟩) rd6
      clear hal
      clear rd6
      obtain ⟨g6, hg6⟩ : ∃ g, (x6).heap.size = g := ⟨_, rfl⟩
      rw [hg6] at X6 ⊢
      clear hg6
      obtain ⟨v6, hv6⟩ : ∃ W, (x6).alloc (.cells #[.slice A6 l.length c6, .int .i64 H, .int .i64 0, .int .i64 0, .int .i64 0, .int .i64 0, .bool false] 40) = W := ⟨_, rfl⟩
      rw [hv6] at hB4 rdT X5 X6 ⊢
      clear hv6
      clear rdT HPL
      have X5' := X5
      have X6' := X6
      obtain ⟨a5, d5, b5, r5⟩ := X5'
      obtain ⟨a6, d6, b6, r6⟩ := X6'
      have p0 := b5.cell 0
      have p1 := b5.cell 1
      have q0 := b6.cell 0
      have q1 := b6.cell 1
      simp at p0 p1 q0 q1
      have d1 : ((l.length : Int) != (l.length : Int)) = false := by simp
      have d2 : (H != H) = false := by simp
      go_wp2_with (fail)
      clear d1 d2 p0 p1 q0 q1 X5 X6
      have g5l := b5.lt
      have g6l := b6.lt
      by_cases hH1 : 0 < H
      · have dH : decide (0 < H) = true := by simpa using hH1
        have hTH := HF.out.2.2.2.1 hH1
        go_loopw [9] (fun i wx => ∃ k : Nat, k ≤ l.length ∧ i = .int .i64 k ∧ Below v6.heap.size v6 wx)
          (fun i _ => l.length - (intOf i).toNat)
        case atStart => exact ⟨0, Nat.zero_le _, rfl, Below.refl _ _⟩
        case round =>
          obtain ⟨k, hk, rfl, hb⟩ := hrel
          obtain ⟨W, hW⟩ : ∃ W, wr = W := ⟨_, rfl⟩
          rw [hW] at hb ⊢
          clear hW
          clear wr
          have B5 := b5.below hb g5l
          have B6 := b6.below hb g6l
          have p0 := B5.cell 0
          have p1 := B5.cell 1
          have q0 := B6.cell 0
          simp at p0 p1 q0
          by_cases hlt : k < l.length
          · obtain ⟨x, y, hx, hy, hxy⟩ := HF.out.2.1 k hlt
            have hgd := (HF.out.1 l[k] (List.getElem_mem _)).1
            have hxb := HF.out.2.2.1 x (List.mem_of_getElem? hx)
            obtain ⟨b, off, rfl, hbB, hc⟩ := hR.2 (by omega)
            obtain ⟨ga, oa, rfl, hga, hca⟩ := r5.2 (by omega)
            obtain ⟨gb, ob, rfl, hgb, hcb⟩ := r6.2 (by omega)
            have hBW := hB4.trans (hb.mono hB4.size)
            have hx4 := (hBW.cell (p := ⟨b, off + (k * 6 + 4), none⟩) hbB).trans (hc _ _ (kcell l k 4 hlt (by omega)))
            obtain ⟨j, hj⟩ : ∃ j, l.length - 1 - k = j := ⟨_, rfl⟩
            rw [hj] at hy
            have hji : (l.length : Int) - 1 - (k : Int) = (j : Int) := by omega
            have hxx := (hb.cell (p := ⟨ga, oa + k, none⟩) hga).trans (hca _ _ (icell P k _ hx))
            have hyy := (hb.cell (p := ⟨gb, ob + j, none⟩) hgb).trans (hcb _ _ (icell P2 j _ hy))
            have gaW := Nat.lt_of_lt_of_le hga hb.size
            have gbW := Nat.lt_of_lt_of_le hgb hb.size
            have bW := Nat.lt_of_lt_of_le hbB hBW.size
            have g5W := B5.lt
            have g6W := B6.lt
            obtain ⟨s, hs⟩ : ∃ s, l[k] = s := ⟨_, rfl⟩
            rw [hs] at hx4 hgd hxy
            obtain ⟨⟨tu, td⟩, ⟨bu, bd⟩, ht, th⟩ := s
            simp only at hgd hxy
            simp only at hx4
            simp only [← Nat.add_assoc] at hx4
            rw [hTH] at hxy
            obtain ⟨g1, g2⟩ := hgd
            obtain ⟨x1, x2⟩ := hxb
            have hyb : y = H - x - ht := hxy
            subst hyb
            have hyy2 : (H - x - ht != H - x - ht) = false := by simp
            have e1 : IntKind.i64.wrap (H - x) = H - x := IntWalk.i64_in _ ⟨by omega, by omega⟩
            have e2 : IntKind.i64.wrap (H - x - ht) = H - x - ht := IntWalk.i64_in _ ⟨by omega, by omega⟩
            have k0 : (0 : Int) ≤ (k : Int) := Int.natCast_nonneg _
            have k1 : (k : Int) < (l.length : Int) := by omega
            have j0 : (0 : Int) ≤ (j : Int) := Int.natCast_nonneg _
            have j1 : (j : Int) < (l.length : Int) := by omega
            have e3 : IntKind.i64.wrap ((l.length : Int) - 1) = (l.length : Int) - 1 := IntWalk.i64_in _ ⟨by omega, by omega⟩
            have e4 : IntKind.i64.wrap ((j : Int)) = (j : Int) := IntWalk.i64_in _ ⟨by omega, by omega⟩
            have HH := hidd hTH
            clear hc hca hcb hR r5 r6 hs hx hy hj hTH HF hxy B5 B6 hB4 hBW
            go_wp2_with (fail)
            refine region_ord [(0, true), (1, true), (2, true), (3, true), (4, true), (5, true), (6, true), (7, true), (8, true), (9, true), (10, true), (11, true), (12, true), (13, true), (14, true), (15, true), (16, true), (17, true), (18, true), (19, true), (20, true), (21, true), (22, true), (23, true)]
              (fun w' => Below W.heap.size W w' ∧ ∀ b o, b < W.heap.size → w'.cell? ⟨b, o, none⟩ = W.cell? ⟨b, o, none⟩) 999 (by kernel_rfl) (by kernel_rfl) (by kernel_rfl) (by kernel_rfl) (by intro c a d v w h; cases d <;> exact h) (ext_of (Below.drew (Below.refl _ _))) ?_
            simp only [List.map_cons, List.map_nil, List.getElem?_toArray, List.getElem?_cons_succ, List.getElem?_cons_zero]
            have hE0 : Below W.heap.size W W.drew := Below.drew (Below.refl _ _)
            iterate 24 (first
              | (with_reducible refine L_yes ?_ ?_
                 focus (go_simp; done)
                 apply Exists.intro
                 refine ⟨?_, ?_⟩
                 (rintro w' ⟨_, hce⟩
                  go_simp
                  first | done | rfl | (rw [ite_next]))
                 simp only [Act.put, List.setIfInBounds_toArray, List.set_cons_zero, List.set_cons_succ])
              | (with_reducible refine L_no ?_ ?_
                 focus (go_simp; done)
                 simp only [Act.put, List.setIfInBounds_toArray, List.set_cons_zero, List.set_cons_succ]))
            refine L_nil ?_
            go_wp2_with (fail)
            go_roundw
            case rel => exact ⟨k + 1, by omega, by go_num, Below.drew hb⟩
            case measure => simp [intOf]; omega
          · have hkk : k = l.length := by omega
            subst hkk
            have HH := hidd hTH
            clear hTH
            go_wp2_with (fail)
            go_ret
            exact ⟨rfl, hB4.trans (hb.mono hB4.size)⟩
      · have dH : decide (0 < H) = false := by simpa using hH1
        have p1 := b5.cell 1
        simp at p1
        go_loopw [9] (fun i wx => i = .int .i64 0 ∧ wx = v6)
          (fun i _ => 0)
        case atStart => exact ⟨rfl, rfl⟩
        case round =>
          obtain ⟨rfl, rfl⟩ := hrel
          by_cases hl0 : 0 < l.length
          · have dl : decide ((0 : Int) < (l.length : Int)) = true := by simp; omega
            go_wp2_with (fail)
            go_ret
            exact ⟨rfl, hB4⟩
          · have dl : decide ((0 : Int) < (l.length : Int)) = false := by rw [decide_eq_false_iff_not]; omega
            go_wp2_with (fail)
            go_ret
            exact ⟨rfl, hB4⟩
end Go.Proofs.Ytbcojkfndegjmaa
