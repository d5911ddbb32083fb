/- BlockOpen: the walk. -/
import Derived.Test.YtbcojkfndegjmaaKids
namespace Go.Proofs.Ytbcojkfndegjmaa
open Go.RowKit
set_option linter.unusedVariables false
attribute [local go_sem ↓] run_max run_min

/-- what the law asks of the places -/
theorem open_facts (l : List Kd) (f : Nat) (hfl : f < l.length) (hf : thru l f) (hs : l[f].th = false) (i : Nat) (hi : i < l.length) :
    ∃ x : Int, (runK l false).ps[i]? = some x ∧ (f ≤ i → (runK l true).ps[i]? = some (x - (topO l f hfl).v)) ∧ (i < f → (runK l true).ps[i]? = some 0) := by
  obtain ⟨h1, h2⟩ := open_at l f hfl hf hs i hi
  refine ⟨_, run_get l false i hi, fun h => ?_, fun h => ?_⟩
  · rw [run_get l true i hi, h2 h]
  · rw [run_get l true i hi, h1 h]
theorem fin_open (l : List Kd) (f : Nat) (hfl : f < l.length) (hf : thru l f) (hs : l[f].th = false) : fin (runK l true) false = ⟨(runK l true).ps, max 0 ((runK l true).y + (runK l true).w.v), topO l f hfl, ⟨0, 0⟩, false⟩ := by
  obtain ⟨h1, h2, _⟩ := open_end l f hfl hf hs
  unfold fin
  rw [h1, h2]
  rfl
theorem fin_below (l : List Kd) : fin (runK l false) true = ⟨(runK l false).ps, max 0 (runK l false).y, ⟨0, 0⟩, (runK l false).w, false⟩ := by
  unfold fin
  rw [(closed l).1, (closed l).2]
  rfl
theorem topO_in {M : Int} (hM : 0 ≤ M) (l : List Kd) (f : Nat) (hfl : f < l.length) (hg : ∀ k ∈ l, gdK M k) : inM M (topO l f hfl) :=
  inM_mj (gdS_run hM l false hg f (by omega)).1 (hg _ (List.getElem_mem _)).2.1
set_option maxRecDepth 100000 in
set_option maxHeartbeats 16000000 in
theorem bopen_walk (l : List Kd) (A : Option Addr) (cap : Nat) (w : World) (hR : Rd w w.heap.size 6 A l.length (kcells l)) (hlc : l.length ≤ cap) (hcm : cap ≤ maxLen) :
    Calls Try.prog 11 #[.slice A l.length cap] w fun e w' => e = .returned (.bool true) ∧ Below w.heap.size w w' := by
  unfold maxLen at hcm
  obtain ⟨N, hN⟩ : ∃ N, nearL l = N := ⟨_, rfl⟩
  have HNR := hidd hN
  clear hN
  go_enter Try.func11, Try.ntmps11
  go_wp2_with (fail)
  refine (awake14 _).mono ?_
  rintro e w1 ⟨rfl, hB1⟩
  go_wp2_with (fail)
  go_loop [3] (fun i => ∃ k : Nat, k ≤ l.length ∧ i = .int .i64 k ∧ Hid (thru l k))
    (fun i => l.length - (intOf i).toNat)
  case atStart => exact ⟨0, Nat.zero_le _, rfl, hidd (fun i _ h => absurd h (by omega))⟩
  case round =>
    obtain ⟨f, hk, rfl, hthru⟩ := hrel
    by_cases hlt : f < l.length
    · have hfl : f < l.length := hlt
      obtain ⟨b0, off0, rfl, hbB0, hc0⟩ := hR.2 (by omega)
      have hx5 := (hB1.cell (p := ⟨b0, off0 + (f * 6 + 5), none⟩) hbB0).trans (hc0 _ _ (kcell l f 5 hlt (by omega)))
      simp only [← Nat.add_assoc] at hx5
      obtain ⟨th, hth⟩ : ∃ t, l[f].th = t := ⟨_, rfl⟩
      rw [hth] at hx5
      have HTH := hidd hth
      have HC0 := hidd hc0
      clear hth hc0
      cases th with
      | true =>
        have HT2 : Hid (thru l (f + 1)) := fun i hi h => by
          rcases Nat.lt_or_ge i f with h1 | h1
          · exact hthru i hi h1
          · obtain rfl : i = f := by omega
            exact HTH.out
        clear HTH hthru
        go_wp2_with (fail)
        go_round
        case rel => exact ⟨f + 1, by omega, by go_num, HT2⟩
        case measure => simp [intOf]; omega
      | false =>
        go_wp2_with (fail)
        clear hx5
        refine (near14 l _ cap w1 ((hR.below hB1).more hB1.size) N HNR.out).mono ?_
        rintro e w2 ⟨rfl, hb2⟩
        have hB2 := below_step hB1 hb2
        clear hB1 hb2
        cases N with
        | false =>
          clear hR
          go_wp2_with (fail)
          go_ret
          exact ⟨rfl, hB2⟩
        | true =>
          have hl200 : l.length ≤ 200 := ((nearL_iff l).1 HNR.out).1
          have hnear := ((nearL_iff l).1 HNR.out).2
          have hgd : ∀ k ∈ l, gdK 268435456 k := fun k hk => (nearK_gd (hnear k hk)).1
          have hst1 := near_closed l (by omega) hnear
          have hst2 := near_stack (show l.length ≤ 201 by omega) hnear true false
          have hst3 := near_stack (show l.length ≤ 201 by omega) hnear false true
          rw [fin_open l f hfl hthru HTH.out] at hst2
          rw [fin_below] at hst3
          have hat := open_facts l f hfl hthru HTH.out
          have hte := topO_in (M := 268435456) (by omega) l f hfl hgd
          have hfe := (open_end l f hfl hthru HTH.out).2.2
          have hfe2 := run_get l false f hfl
          rw [hfe] at hfe2
          have hlen1 := run_length l false
          have hlen2 := run_length l true
          have hpo := fun k hk => run_get l false k hk
          have hgs := gdS_run (M := 268435456) (by omega) l false hgd l.length (Nat.le_refl _)
          rw [List.take_length] at hgs
          have hw0 := inM_v hgs.1
          have hy0 := hgs.2.2.1
          have hps := hgs.2.2.2
          rw [bnd_eq] at hy0 hps
          have hg0 := gath_0 l (M := 268435456) (by omega) hgd (by omega)
          have hgst := fun m W => gath_step l m W
          have hgen := fun m W => gath_end l m W
          obtain ⟨T0, hT0⟩ : ∃ T, topO l f hfl = T := ⟨_, rfl⟩
          simp only [hT0] at hat hte hst2 hfe2
          obtain ⟨tu0, td0⟩ := T0
          have hV0 : (⟨tu0, td0⟩ : Mg).v = tu0 + td0 := rfl
          have hv := inM_v hte
          rw [hV0] at hfe2 hv
          simp only [hV0] at hat
          obtain ⟨V, hV⟩ : ∃ V, tu0 + td0 = V := ⟨_, rfl⟩
          rw [hV] at hfe2 hv
          simp only [hV] at hat
          obtain ⟨hv1, hv2⟩ := hv
          have HV : Hid (wrap64 (tu0 + td0) = V) := by show wrap64 _ = _; rw [hV]; exact IntWalk.wrap64_in _ ⟨by omega, by omega⟩
          obtain ⟨P, hP⟩ : ∃ P, (runK l false).ps = P := ⟨_, rfl⟩
          obtain ⟨P2, hP2⟩ : ∃ P, (runK l true).ps = P := ⟨_, rfl⟩
          simp only [hP, hP2] at hst1 hst2 hst3 hat hfe2 hlen1 hlen2 hpo hps
          obtain ⟨y, hy⟩ : ∃ y, (runK l false).y = y := ⟨_, rfl⟩
          obtain ⟨wm, hwm⟩ : ∃ y, (runK l false).w = y := ⟨_, rfl⟩
          have htot : totC l = y + wm.v := by unfold totC; rw [hy, hwm]
          rw [htot] at hst1
          simp only [hy, hwm] at hst3 hw0 hy0 hgen
          obtain ⟨wu, wd⟩ := wm
          have hV20 : (⟨wu, wd⟩ : Mg).v = wu + wd := rfl
          rw [hV20] at hst1 hw0
          obtain ⟨V2, hV2⟩ : ∃ V, wu + wd = V := ⟨_, rfl⟩
          rw [hV2] at hst1 hw0
          have HV2 : Hid (wrap64 (wu + wd) = V2) := by show wrap64 _ = _; rw [hV2]; exact IntWalk.wrap64_in _ ⟨by omega, by omega⟩
          obtain ⟨H1, hH1⟩ : ∃ H, max 0 (y + V2) = H := ⟨_, rfl⟩
          obtain ⟨H2, hH2⟩ : ∃ H, max 0 ((runK l true).y + (runK l true).w.v) = H := ⟨_, rfl⟩
          obtain ⟨H3, hH3⟩ : ∃ H, max 0 y = H := ⟨_, rfl⟩
          rw [hH1] at hst1
          rw [hH2] at hst2
          rw [hH3] at hst3
          have hlit1 := fun W hR => stack_lit l false false (some ⟨b0, off0, none⟩) l.length cap l.length W _ hR rfl (by omega) hst1 hlen1
          have hlit2 := fun W hR => stack_lit l true false (some ⟨b0, off0, none⟩) l.length cap l.length W _ hR rfl (by omega) hst2 hlen2
          have hlit3 := fun W hR => stack_lit l false true (some ⟨b0, off0, none⟩) l.length cap l.length W _ hR rfl (by omega) hst3 hlen1
          have HPL := hidd (And.intro hlit1 (And.intro hlit2 hlit3))
          have hat2 : ∀ i, i < l.length → ∃ x : Int, P[i]? = some x ∧ (f ≤ i → P2[i]? = some (x - V)) ∧ (i < f → P2[i]? = some 0) ∧ -107911053312 ≤ x ∧ x ≤ 107911053312 := fun i hi => by
            obtain ⟨x, h1, h2, h3⟩ := hat i hi
            have h4 := hps x (List.mem_of_getElem? h1)
            exact ⟨x, h1, h2, h3, by omega, by omega⟩
          have hgd2 : ∀ k ∈ l, 0 ≤ k.ht ∧ k.ht ≤ 268435456 := fun k hk => (hgd k hk).1
          have HF := hidd (And.intro hat2 (And.intro hfe2 (And.intro hpo (And.intro hg0 (And.intro hgst (And.intro hgen hgd2))))))
          have HW := hidd (And.intro hw0 (And.intro hy0 (And.intro hH1 hH3)))
          have hfb : P[f]? = some V := hfe2
          clear hst1 hst2 hst3 hat hte hfe hfe2 hlen1 hlen2 hpo hgs hw0 hy0 hps hg0 hgst hgen hT0 hV0 hV hP hP2 hy hwm htot hV20 hV2 hH1 hH2 hH3 hlit1 hlit2 hlit3 hat2 hgd hgd2 hnear HNR hfb
          have dfl : ((f : Int) == (l.length : Int)) = false := by simp; omega
          go_wp2_with (fail)
          clear dfl
          go_wp2_with (fail)
          refine (HPL.out.1 w2 ((hR.below hB2).more hB2.size)).mono ?_
          rintro e x5 ⟨A5, c5, rfl, rd5, hbN⟩
          replace hB2 := below_step hB2 hbN
          clear hbN
          go_upto_region 9 with (fail)
          have hal := below_al (Below.refl (x5).heap.size (x5)) (.cells #[.slice A5 l.length c5, .int .i64 H1, .int .i64 0, .int .i64 0, .int .i64 0, .int .i64 0, .bool false] 40)
          replace hB2 := below_step hB2 hal
          have X5 : Res ((x5).alloc (.cells #[.slice A5 l.length c5, .int .i64 H1, .int .i64 0, .int .i64 0, .int .i64 0, .int .i64 0, .bool false] 40)) (x5).heap.size l.length ⟨P, H1, ⟨0, 0⟩, ⟨0, 0⟩, false⟩ := Res.new (k := ⟨P, H1, ⟨0, 0⟩, ⟨0, 0⟩, false⟩) rd5
          clear hal
          clear rd5
          obtain ⟨g5, hg5⟩ : ∃ g, (x5).heap.size = g := ⟨_, rfl⟩
          rw [hg5] at X5 ⊢
          clear hg5
          obtain ⟨v5, hv5⟩ : ∃ W, (x5).alloc (.cells #[.slice A5 l.length c5, .int .i64 H1, .int .i64 0, .int .i64 0, .int .i64 0, .int .i64 0, .bool false] 40) = W := ⟨_, rfl⟩
          rw [hv5] at hB2 X5 ⊢
          clear hv5
          go_wp2_with (fail)
          refine (HPL.out.2.1 v5 ((hR.below hB2).more hB2.size)).mono ?_
          rintro e x6 ⟨A6, c6, rfl, rd6, hbN⟩
          replace hB2 := below_step hB2 hbN
          replace X5 := X5.below hbN
          clear hbN
          go_upto_region 10 with (fail)
          have hal := below_al (Below.refl (x6).heap.size (x6)) (.cells #[.slice A6 l.length c6, .int .i64 H2, .int .i64 tu0, .int .i64 td0, .int .i64 0, .int .i64 0, .bool false] 40)
          replace hB2 := below_step hB2 hal
          replace X5 := X5.below hal
          have X6 : Res ((x6).alloc (.cells #[.slice A6 l.length c6, .int .i64 H2, .int .i64 tu0, .int .i64 td0, .int .i64 0, .int .i64 0, .bool false] 40)) (x6).heap.size l.length ⟨P2, H2, ⟨tu0, td0⟩, ⟨0, 0⟩, false⟩ := Res.new (k := ⟨P2, H2, ⟨tu0, td0⟩, ⟨0, 0⟩, false⟩) rd6
          clear hal
          clear rd6
          obtain ⟨g6, hg6⟩ : ∃ g, (x6).heap.size = g := ⟨_, rfl⟩
          rw [hg6] at X6 ⊢
          clear hg6
          obtain ⟨v6, hv6⟩ : ∃ W, (x6).alloc (.cells #[.slice A6 l.length c6, .int .i64 H2, .int .i64 tu0, .int .i64 td0, .int .i64 0, .int .i64 0, .bool false] 40) = W := ⟨_, rfl⟩
          rw [hv6] at hB2 X5 X6 ⊢
          clear hv6
          go_wp2_with (fail)
          refine (HPL.out.2.2 v6 ((hR.below hB2).more hB2.size)).mono ?_
          rintro e x7 ⟨A7, c7, rfl, rd7, hbN⟩
          replace hB2 := below_step hB2 hbN
          replace X5 := X5.below hbN
          replace X6 := X6.below hbN
          clear hbN
          go_upto_region 11 with (fail)
          have hal := below_al (Below.refl (x7).heap.size (x7)) (.cells #[.slice A7 l.length c7, .int .i64 H3, .int .i64 0, .int .i64 0, .int .i64 wu, .int .i64 wd, .bool false] 40)
          replace hB2 := below_step hB2 hal
          replace X5 := X5.below hal
          replace X6 := X6.below hal
          have X7 : Res ((x7).alloc (.cells #[.slice A7 l.length c7, .int .i64 H3, .int .i64 0, .int .i64 0, .int .i64 wu, .int .i64 wd, .bool false] 40)) (x7).heap.size l.length ⟨P, H3, ⟨0, 0⟩, ⟨wu, wd⟩, false⟩ := Res.new (k := ⟨P, H3, ⟨0, 0⟩, ⟨wu, wd⟩, false⟩) rd7
          clear hal
          clear rd7
          obtain ⟨g7, hg7⟩ : ∃ g, (x7).heap.size = g := ⟨_, rfl⟩
          rw [hg7] at X7 ⊢
          clear hg7
          obtain ⟨v7, hv7⟩ : ∃ W, (x7).alloc (.cells #[.slice A7 l.length c7, .int .i64 H3, .int .i64 0, .int .i64 0, .int .i64 wu, .int .i64 wd, .bool false] 40) = W := ⟨_, rfl⟩
          rw [hv7] at hB2 X5 X6 X7 ⊢
          clear hv7
          clear HPL
          have X5' := X5
          have X6' := X6
          have X7' := X7
          obtain ⟨a5, d5, b5, r5⟩ := X5'
          obtain ⟨a6, d6, b6, r6⟩ := X6'
          obtain ⟨a7, d7, b7, r7⟩ := X7'
          clear X5 X6 X7
          have g5l := b5.lt
          have g6l := b6.lt
          have g7v := b7.lt
          have p0 := b5.cell 0
          have q0 := b6.cell 0
          have s0 := b7.cell 0
          simp at p0 q0 s0
          have d1 : ((l.length : Int) != (l.length : Int)) = false := by simp
          go_wp2_with (fail)
          clear p0 q0 s0 d1
          go_loopw [10] (fun i wx => ∃ k : Nat, k ≤ l.length ∧ i = .int .i64 k ∧ Below v7.heap.size v7 wx)
            (fun i _ => l.length - (intOf i).toNat)
          case atStart => exact ⟨0, Nat.zero_le _, rfl, Below.refl _ _⟩
          case round =>
            obtain ⟨k, hk, rfl, hb⟩ := hrel
            obtain ⟨W, hW⟩ : ∃ W, wr = W := ⟨_, rfl⟩
            rw [hW] at hb ⊢
            clear hW
            clear wr
            have B5 := b5.below hb g5l
            have B6 := b6.below hb g6l
            have B7 := b7.below hb g7v
            have hBW := hB2.trans (hb.mono hB2.size)
            by_cases hlk : k < l.length
            · obtain ⟨x, e1, e2, e3, x1, x2⟩ := HF.out.1 k hlk
              obtain ⟨ga, oa, rfl, hga, hca⟩ := r5.2 (by omega)
              obtain ⟨gb, ob, rfl, hgb, hcb⟩ := r6.2 (by omega)
              obtain ⟨gc, oc, rfl, hgc, hcc⟩ := r7.2 (by omega)
              have hax := (hb.cell (p := ⟨ga, oa + k, none⟩) hga).trans (hca _ _ (icell P k _ e1))
              have hcx := (hb.cell (p := ⟨gc, oc + k, none⟩) hgc).trans (hcc _ _ (icell P k _ e1))
              have p0 := B5.cell 0
              have q0 := B6.cell 0
              have q2 := B6.cell 2
              have q3 := B6.cell 3
              have s0 := B7.cell 0
              simp at p0 q0 q2 q3 s0
              have gaW := Nat.lt_of_lt_of_le hga hb.size
              have gbW := Nat.lt_of_lt_of_le hgb hb.size
              have gcW := Nat.lt_of_lt_of_le hgc hb.size
              have g5W := B5.lt
              have g6W := B6.lt
              have g7W := B7.lt
              have hxx : (x != x) = false := by simp
              have k0 : (0 : Int) ≤ (k : Int) := Int.natCast_nonneg _
              have k1 : (k : Int) < (l.length : Int) := by omega
              by_cases hfk : f ≤ k
              · have hbx := (hb.cell (p := ⟨gb, ob + k, none⟩) hgb).trans (hcb _ _ (icell P2 k _ (e2 hfk)))
                obtain ⟨Q, hQ⟩ : ∃ Q, x - V = Q := ⟨_, rfl⟩
                rw [hQ] at hbx
                have hw1 : IntKind.i64.wrap (x - V) = Q := by rw [IntWalk.i64_in _ ⟨by omega, by omega⟩]; exact hQ
                have hw1' : wrap64 (x - V) = Q := by rw [IntWalk.wrap64_in _ ⟨by omega, by omega⟩]; exact hQ
                have hqq : (Q != Q) = false := by simp
                have f1 : decide ((f : Int) ≤ (k : Int)) = true := by simp; omega
                have f2 : decide ((k : Int) < (f : Int)) = false := by simp; omega
                have f3 : decide (f ≤ k) = true := by simp; omega
                have f4 : decide (k < f) = false := by simp; omega
                clear e1 e2 e3 hca hcb hcc hQ B5 B6 B7 hBW hthru HF
                go_wp2_with (fail)
                refine region_ord [(0, true), (1, true), (2, true), (3, true), (4, true), (5, true), (6, true), (7, true), (8, true), (9, true), (10, true), (11, true), (12, true), (13, true), (14, true), (15, true), (16, true), (17, true), (18, true), (19, true), (20, true), (21, true), (22, true), (23, true), (24, true), (25, true), (26, true), (27, true), (28, false), (29, true), (30, true), (31, true), (32, true), (33, true), (34, true), (35, true), (36, true), (37, true), (38, true), (39, true), (40, true), (41, true), (42, true), (43, true), (44, true), (45, true)]
                  (fun w' => Below W.heap.size W w' ∧ ∀ b o, b < W.heap.size → w'.cell? ⟨b, o, none⟩ = W.cell? ⟨b, o, none⟩) 999 (by kernel_rfl) (by kernel_rfl) (by kernel_rfl) (by kernel_rfl) (by intro c a d v w h; cases d <;> exact h) (ext_of (Below.drew (Below.refl _ _))) ?_
                simp only [List.map_cons, List.map_nil, List.getElem?_toArray, List.getElem?_cons_succ, List.getElem?_cons_zero]
                have hD0 : Below W.heap.size W W.drew := Below.drew (Below.refl _ _)
                iterate 28 (first
                  | (with_reducible refine L_yes ?_ ?_
                     focus (go_simp; done)
                     apply Exists.intro
                     refine ⟨?_, ?_⟩
                     (rintro w' ⟨_, hce⟩
                      go_simp
                      first | done | rfl | (rw [ite_next]))
                     simp only [Act.put, List.setIfInBounds_toArray, List.set_cons_zero, List.set_cons_succ])
                  | (with_reducible refine L_no ?_ ?_
                     focus (go_simp; first | done | (intro h; cases h))
                     simp only [Act.put, List.setIfInBounds_toArray, List.set_cons_zero, List.set_cons_succ]))
                with_reducible refine L_main ?_ ?_
                focus (go_simp; done)
                intro K hK
                go_simp
                refine (value_val tu0 td0 V HV.out _).mono ?_
                rintro e x9 ⟨rfl, hbN⟩
                have hD0_1 := below_step hD0 hbN
                clear hbN
                dsimp only
                refine hK _ _ (fun _ => ext_of hD0_1) (fun hSx => ?_)
                clear hSx hK K
                iterate 17 (first
                  | (with_reducible refine L_yes ?_ ?_
                     focus (go_simp; done)
                     apply Exists.intro
                     refine ⟨?_, ?_⟩
                     (rintro w' ⟨_, hce⟩
                      go_simp
                      first | done | rfl | (rw [ite_next]))
                     simp only [Act.put, List.setIfInBounds_toArray, List.set_cons_zero, List.set_cons_succ])
                  | (with_reducible refine L_no ?_ ?_
                     focus (go_simp; first | done | (intro h; cases h))
                     simp only [Act.put, List.setIfInBounds_toArray, List.set_cons_zero, List.set_cons_succ]))
                refine L_nil ?_
                clear f1 f2 f3 f4 hw1 hw1' hqq hxx
                go_wp2_with (fail)
                go_roundw
                case rel => exact ⟨k + 1, by omega, by go_num, hb.trans (hD0_1.mono hb.size)⟩
                case measure => simp [intOf]; omega
              · have hbx := (hb.cell (p := ⟨gb, ob + k, none⟩) hgb).trans (hcb _ _ (icell P2 k _ (e3 (by omega))))
                have f1 : decide ((f : Int) ≤ (k : Int)) = false := by simp; omega
                have f2 : decide ((k : Int) < (f : Int)) = true := by simp; omega
                have f3 : decide (f ≤ k) = false := by simp; omega
                have f4 : decide (k < f) = true := by simp; omega
                clear e1 e2 e3 hca hcb hcc B5 B6 B7 hBW hthru HF
                go_wp2_with (fail)
                refine region_ord [(0, true), (1, true), (2, true), (3, true), (4, true), (5, true), (6, true), (7, true), (8, true), (9, true), (10, true), (11, true), (12, true), (13, true), (14, true), (15, true), (16, true), (17, true), (18, true), (19, true), (20, true), (21, true), (22, true), (23, true), (24, true), (25, true), (26, true), (27, true), (28, false), (29, true), (30, true), (31, true), (32, true), (33, true), (34, true), (35, true), (36, true), (37, true), (38, true), (39, true), (40, true), (41, true), (42, true), (43, true), (44, true), (45, true)]
                  (fun w' => Below W.heap.size W w' ∧ ∀ b o, b < W.heap.size → w'.cell? ⟨b, o, none⟩ = W.cell? ⟨b, o, none⟩) 999 (by kernel_rfl) (by kernel_rfl) (by kernel_rfl) (by kernel_rfl) (by intro c a d v w h; cases d <;> exact h) (ext_of (Below.drew (Below.refl _ _))) ?_
                simp only [List.map_cons, List.map_nil, List.getElem?_toArray, List.getElem?_cons_succ, List.getElem?_cons_zero]
                have hD0 : Below W.heap.size W W.drew := Below.drew (Below.refl _ _)
                iterate 28 (first
                  | (with_reducible refine L_yes ?_ ?_
                     focus (go_simp; done)
                     apply Exists.intro
                     refine ⟨?_, ?_⟩
                     (rintro w' ⟨_, hce⟩
                      go_simp
                      first | done | rfl | (rw [ite_next]))
                     simp only [Act.put, List.setIfInBounds_toArray, List.set_cons_zero, List.set_cons_succ])
                  | (with_reducible refine L_no ?_ ?_
                     focus (go_simp; first | done | (intro h; cases h))
                     simp only [Act.put, List.setIfInBounds_toArray, List.set_cons_zero, List.set_cons_succ]))
                with_reducible refine L_main_no ?_ ?_ ?_
                focus (go_simp; first | done | (intro h; cases h))
                exact ext_of hD0
                have hD0_1 := hD0
                simp only [Act.put, List.setIfInBounds_toArray, List.set_cons_zero, List.set_cons_succ]
                iterate 17 (first
                  | (with_reducible refine L_yes ?_ ?_
                     focus (go_simp; done)
                     apply Exists.intro
                     refine ⟨?_, ?_⟩
                     (rintro w' ⟨_, hce⟩
                      go_simp
                      first | done | rfl | (rw [ite_next]))
                     simp only [Act.put, List.setIfInBounds_toArray, List.set_cons_zero, List.set_cons_succ])
                  | (with_reducible refine L_no ?_ ?_
                     focus (go_simp; first | done | (intro h; cases h))
                     simp only [Act.put, List.setIfInBounds_toArray, List.set_cons_zero, List.set_cons_succ]))
                refine L_nil ?_
                clear f1 f2 f3 f4 hxx
                go_wp2_with (fail)
                go_roundw
                case rel => exact ⟨k + 1, by omega, by go_num, hb.trans (hD0_1.mono hb.size)⟩
                case measure => simp [intOf]; omega
            · have hkk : k = l.length := by omega
              subst hkk
              have dll : decide ((l.length : Int) < (l.length : Int)) = false := by simp
              go_wp2_with (fail)
              clear dll hk
              obtain ⟨M, hM⟩ : ∃ M, l.length - 1 = M := ⟨_, rfl⟩
              have hM1 : (l.length : Int) - 1 = (M : Int) := by omega
              have hM2 : f ≤ M := by omega
              have hM3 : M < l.length := by omega
              have hg0 := HF.out.2.2.2.1
              rw [hM] at hg0
              have HG0 := hidd hg0
              have HM := hidd hM1
              clear hM hM1 hg0
              obtain ⟨X, hX⟩ : ∃ X, W = X := ⟨_, rfl⟩
              rw [hX] at hb hBW B5 B6 B7 ⊢
              clear hX
              clear W
              go_wp2_with (fail)
              go_loopw [11] (fun i wx => ∃ (m : Nat) (au ad : Int), m < l.length ∧ f ≤ m ∧ i = .int .i64 m ∧ Hid (Gath l m ⟨au, ad⟩) ∧ Blk wx X.heap.size 24 #[.int .i64 au, .int .i64 ad] ∧ Below X.heap.size X wx)
                (fun i _ => (intOf i).toNat)
              case atStart => exact ⟨M, 0, 0, hM3, hM2, by rw [HM.out], HG0, Blk.new _ _ _, below_al (Below.refl _ _) _⟩
              case round =>
                obtain ⟨m, au, ad, hm, hfm, rfl, HG, h7, hbx⟩ := hrel
                obtain ⟨W, hW⟩ : ∃ W, wr = W := ⟨_, rfl⟩
                rw [hW] at h7 hbx ⊢
                clear hW
                clear wr
                have hBX := hBW.trans (hbx.mono hBW.size)
                have hbW : b0 < W.heap.size := Nat.lt_of_lt_of_le hbB0 hBX.size
                have hx2 := (hBX.cell (p := ⟨b0, off0 + (m * 6 + 2), none⟩) hbB0).trans (HC0.out _ _ (kcell l m 2 hm (by omega)))
                have hx3 := (hBX.cell (p := ⟨b0, off0 + (m * 6 + 3), none⟩) hbB0).trans (HC0.out _ _ (kcell l m 3 hm (by omega)))
                have hx5 := (hBX.cell (p := ⟨b0, off0 + (m * 6 + 5), none⟩) hbB0).trans (HC0.out _ _ (kcell l m 5 hm (by omega)))
                have m0 : (0 : Int) ≤ (m : Int) := Int.natCast_nonneg _
                have m1 : (m : Int) < (l.length : Int) := by omega
                have g7l := h7.lt
                have y0 := h7.cell 0
                have y1 := h7.cell 1
                simp at y0 y1
                obtain ⟨th, hth⟩ : ∃ t, l[m].th = t := ⟨_, rfl⟩
                cases th with
                | true =>
                  have hx0 := (hBX.cell (p := ⟨b0, off0 + (m * 6 + 0), none⟩) hbB0).trans (HC0.out _ _ (kcell l m 0 hm (by omega)))
                  have hx1 := (hBX.cell (p := ⟨b0, off0 + (m * 6 + 1), none⟩) hbB0).trans (HC0.out _ _ (kcell l m 1 hm (by omega)))
                  have hfm2 : f ≠ m := fun h => by
                    subst h
                    rw [HTH.out] at hth
                    cases hth
                  obtain ⟨j, hj⟩ : ∃ j, m = j + 1 := ⟨m - 1, by omega⟩
                  have hgs : Gath l j (mj (mj ⟨au, ad⟩ l[m].tp) l[m].bt) := by
                    subst hj
                    exact HF.out.2.2.2.2.1 j _ hm HG.out hth
                  obtain ⟨s, hs⟩ : ∃ s, l[m] = s := ⟨_, rfl⟩
                  rw [hs] at hx0 hx1 hx2 hx3 hx5 hgs hth
                  obtain ⟨⟨tu, td⟩, ⟨bu, bd⟩, ht, th⟩ := s
                  simp only at hx0 hx1 hx2 hx3 hx5 hgs hth
                  subst hth
                  simp only [← Nat.add_assoc, Nat.add_zero] at hx0 hx1 hx2 hx3 hx5
                  obtain ⟨M1, hM1⟩ : ∃ M, mj (mj (⟨au, ad⟩ : Mg) ⟨tu, td⟩) ⟨bu, bd⟩ = M := ⟨_, rfl⟩
                  rw [hM1] at hgs
                  obtain ⟨U, D⟩ := M1
                  have HJ : Hid (mJoin [⟨au, ad⟩, ⟨tu, td⟩, ⟨bu, bd⟩] = ⟨U, D⟩) := hM1
                  have HS := hidd hgs
                  have HI : Hid ((m : Int) - 1 = (j : Int)) := hidd (by omega)
                  have hjl : j < l.length := by omega
                  have hfj : f ≤ j := by omega
                  have hjm : j < m := by omega
                  clear hs hj hgs hM1 hfm2 HF HG
                  go_wp2_with (fail)
                  refine region_ord [(0, true), (1, true), (2, true), (3, true), (4, true), (5, true), (6, true), (7, true), (8, true), (9, true), (10, true), (11, false), (12, false), (13, false)]
                    (fun w' => Below W.heap.size W w' ∧ ∀ b o, b < W.heap.size → w'.cell? ⟨b, o, none⟩ = W.cell? ⟨b, o, none⟩) 13 (by kernel_rfl) (by kernel_rfl) (by kernel_rfl) (by kernel_rfl) (by intro c a d v w h; cases d <;> exact h) (ext_of (Below.drew (Below.refl _ _))) ?_
                  simp only [List.map_cons, List.map_nil, List.getElem?_toArray, List.getElem?_cons_succ, List.getElem?_cons_zero]
                  have hD0 : Below W.heap.size W W.drew := Below.drew (Below.refl _ _)
                  iterate 11 (first
                    | (with_reducible refine L_yes ?_ ?_
                       focus (go_simp; done)
                       apply Exists.intro
                       refine ⟨?_, ?_⟩
                       (rintro w' ⟨_, hce⟩
                        go_simp
                        first | done | rfl | (rw [ite_next]))
                       simp only [Act.put, List.setIfInBounds_toArray, List.set_cons_zero, List.set_cons_succ])
                    | (with_reducible refine L_no ?_ ?_
                       focus (go_simp; first | done | (intro h; cases h))
                       simp only [Act.put, List.setIfInBounds_toArray, List.set_cons_zero, List.set_cons_succ]))
                  with_reducible refine L_main ?_ ?_
                  focus (go_simp; done)
                  intro K hK
                  go_simp
                  have hD0_1 := below_al hD0 (.cells #[.int .i64 au, .int .i64 ad, .int .i64 tu, .int .i64 td, .int .i64 bu, .int .i64 bd] 24)
                  have h7A := h7.drew.alloc (.cells #[.int .i64 au, .int .i64 ad, .int .i64 tu, .int .i64 td, .int .i64 bu, .int .i64 bd] 24)
                  refine hK _ _ (fun _ => ext_of hD0_1) (fun hSx => ?_)
                  clear hSx hK K
                  with_reducible refine L_main ?_ ?_
                  focus (go_simp; done)
                  intro K hK
                  go_simp
                  refine (join_blk [⟨au, ad⟩, ⟨tu, td⟩, ⟨bu, bd⟩] U D W.heap.size 3 3 #[.int .i64 au, .int .i64 ad, .int .i64 tu, .int .i64 td, .int .i64 bu, .int .i64 bd] _ (Blk.new W 24 #[.int .i64 au, .int .i64 ad, .int .i64 tu, .int .i64 td, .int .i64 bu, .int .i64 bd]).drew rfl rfl HJ.out (by decide)).mono ?_
                  rintro e v9 ⟨rfl, hbN⟩
                  have hD0_2 := below_step hD0_1 hbN
                  have h7B := h7A.below hbN h7A.lt
                  have fz := h7B.frozen
                  have z0 := h7B.cell 0
                  have z1 := h7B.cell 1
                  simp at z0 z1
                  clear hbN
                  dsimp only
                  refine hK _ _ (fun _ => ext_of hD0_2) (fun hSx => ?_)
                  clear hSx hK K
                  with_reducible refine L_main ?_ ?_
                  focus (go_simp; done)
                  intro K hK
                  go_simp
                  refine hK _ _ (fun h => absurd rfl h) (fun hSx => ?_)
                  clear hSx hK K
                  refine L_nil ?_
                  have hDn := hD0_2
                  have hb9 := hbx.trans (hDn.mono hbx.size)
                  have h7n := Blk.to ((h7B.set_ 0 (.int .i64 U)).set_ 1 (.int .i64 D)) (cs' := #[.int .i64 U, .int .i64 D]) (by simp)
                  have hbn := (hb9.setCell (p := ⟨X.heap.size, 0, none⟩) (Nat.le_refl _) (.int .i64 U)).setCell (p := ⟨X.heap.size, 1, none⟩) (Nat.le_refl _) (.int .i64 D)
                  clear hD0 hD0_1 hD0_2 hDn hb9 h7A h7B fz z0 z1 hx0 hx1 hx2 hx3 hx5 y0 y1 h7 HJ
                  go_wp2_with (fail)
                  go_roundw
                  case rel => exact ⟨j, U, D, hjl, hfj, by rw [HI.out], HS, h7n, hbn⟩
                  case measure => simp [intOf]; omega
                | false =>
                  have hx4 := (hBX.cell (p := ⟨b0, off0 + (m * 6 + 4), none⟩) hbB0).trans (HC0.out _ _ (kcell l m 4 hm (by omega)))
                  obtain ⟨hge1, hge2⟩ := HF.out.2.2.2.2.2.1 m _ hm HG.out hth
                  have hpm := HF.out.2.2.1 m hm
                  obtain ⟨x, e1, _, _, x1, x2⟩ := HF.out.1 m hm
                  have hxe : x = posK (runK (l.take m) false) l[m] := by
                    rw [hpm] at e1
                    injection e1 with e1
                    exact e1.symm
                  rw [← hxe] at hge2
                  have hhg := HF.out.2.2.2.2.2.2 l[m] (List.getElem_mem _)
                  obtain ⟨s, hs⟩ : ∃ s, l[m] = s := ⟨_, rfl⟩
                  rw [hs] at hx2 hx3 hx4 hx5 hge1 hge2 hth hhg
                  obtain ⟨⟨tu, td⟩, ⟨bu, bd⟩, ht, th⟩ := s
                  simp only at hx2 hx3 hx4 hx5 hge1 hge2 hth hhg
                  subst hth
                  simp only [← Nat.add_assoc] at hx2 hx3 hx4 hx5
                  have HJ : Hid (mJoin [⟨au, ad⟩, ⟨bu, bd⟩] = ⟨wu, wd⟩) := hge1.symm
                  have HE := hidd e1
                  have HHT : Hid (l[m].ht = ht) := hidd (by rw [hs])
                  have HY := hidd hge2
                  obtain ⟨hh1, hh2⟩ := hhg
                  clear hs hpm hxe hge1 hge2 e1 HG
                  go_wp2_with (fail)
                  refine region_ord [(0, true), (1, true), (2, true), (3, true), (4, true), (5, true), (6, false), (7, false), (8, false)]
                    (fun w' => Below W.heap.size W w' ∧ ∀ b o, b < W.heap.size → w'.cell? ⟨b, o, none⟩ = W.cell? ⟨b, o, none⟩) 8 (by kernel_rfl) (by kernel_rfl) (by kernel_rfl) (by kernel_rfl) (by intro c a d v w h; cases d <;> exact h) (ext_of (Below.drew (Below.refl _ _))) ?_
                  simp only [List.map_cons, List.map_nil, List.getElem?_toArray, List.getElem?_cons_succ, List.getElem?_cons_zero]
                  have hD0 : Below W.heap.size W W.drew := Below.drew (Below.refl _ _)
                  iterate 6 (first
                    | (with_reducible refine L_yes ?_ ?_
                       focus (go_simp; done)
                       apply Exists.intro
                       refine ⟨?_, ?_⟩
                       (rintro w' ⟨_, hce⟩
                        go_simp
                        first | done | rfl | (rw [ite_next]))
                       simp only [Act.put, List.setIfInBounds_toArray, List.set_cons_zero, List.set_cons_succ])
                    | (with_reducible refine L_no ?_ ?_
                       focus (go_simp; first | done | (intro h; cases h))
                       simp only [Act.put, List.setIfInBounds_toArray, List.set_cons_zero, List.set_cons_succ]))
                  with_reducible refine L_main ?_ ?_
                  focus (go_simp; done)
                  intro K hK
                  go_simp
                  have hD0_1 := below_al hD0 (.cells #[.int .i64 au, .int .i64 ad, .int .i64 bu, .int .i64 bd] 24)
                  have h7A := h7.drew.alloc (.cells #[.int .i64 au, .int .i64 ad, .int .i64 bu, .int .i64 bd] 24)
                  refine hK _ _ (fun _ => ext_of hD0_1) (fun hSx => ?_)
                  clear hSx hK K
                  with_reducible refine L_main ?_ ?_
                  focus (go_simp; done)
                  intro K hK
                  go_simp
                  refine (join_blk [⟨au, ad⟩, ⟨bu, bd⟩] wu wd W.heap.size 2 2 #[.int .i64 au, .int .i64 ad, .int .i64 bu, .int .i64 bd] _ (Blk.new W 24 #[.int .i64 au, .int .i64 ad, .int .i64 bu, .int .i64 bd]).drew rfl rfl HJ.out (by decide)).mono ?_
                  rintro e v9 ⟨rfl, hbN⟩
                  have hD0_2 := below_step hD0_1 hbN
                  have h7B := h7A.below hbN h7A.lt
                  have fz := h7B.frozen
                  have z0 := h7B.cell 0
                  have z1 := h7B.cell 1
                  simp at z0 z1
                  clear hbN
                  dsimp only
                  refine hK _ _ (fun _ => ext_of hD0_2) (fun hSx => ?_)
                  clear hSx hK K
                  with_reducible refine L_main ?_ ?_
                  focus (go_simp; done)
                  intro K hK
                  go_simp
                  refine hK _ _ (fun h => absurd rfl h) (fun hSx => ?_)
                  clear hSx hK K
                  refine L_nil ?_
                  have hDn := hD0_2
                  have hb9 := hbx.trans (hDn.mono hbx.size)
                  have h7n := Blk.to ((h7B.set_ 0 (.int .i64 wu)).set_ 1 (.int .i64 wd)) (cs' := #[.int .i64 wu, .int .i64 wd]) (by simp)
                  have hbn := (hb9.setCell (p := ⟨X.heap.size, 0, none⟩) (Nat.le_refl _) (.int .i64 wu)).setCell (p := ⟨X.heap.size, 1, none⟩) (Nat.le_refl _) (.int .i64 wd)
                  clear hD0 hD0_1 hD0_2 hDn hb9 h7A h7B fz z0 z1 hx2 hx3 hx4 hx5 y0 y1 h7 HJ hbx hBX
                  go_wp2_with (fail)
                  obtain ⟨W, hW⟩ : ∃ W, (v9.setCell ⟨X.heap.size, 0, none⟩ (.int .i64 wu)).setCell ⟨X.heap.size, 1, none⟩ (.int .i64 wd) = W := ⟨_, rfl⟩
                  rw [hW] at h7n hbn ⊢
                  clear hW
                  clear v9
                  have hBX := hBW.trans (hbn.mono hBW.size)
                  have hVX := hb.trans (hbn.mono hb.size)
                  obtain ⟨ga, oa, rfl, hga, hca⟩ := r5.2 (by omega)
                  obtain ⟨gc, oc, rfl, hgc, hcc⟩ := r7.2 (by omega)
                  have hx4 := (hBX.cell (p := ⟨b0, off0 + (m * 6 + 4), none⟩) hbB0).trans (HC0.out _ _ (kcell l m 4 hm (by omega)))
                  rw [show l[m].ht = ht from HHT.out] at hx4
                  simp only [← Nat.add_assoc] at hx4
                  have hcx := (hVX.cell (p := ⟨gc, oc + m, none⟩) hgc).trans (hcc _ _ (icell P m _ HE.out))
                  have C7 := b7.below hVX g7v
                  have s0 := C7.cell 0
                  simp at s0
                  have gcW := Nat.lt_of_lt_of_le hgc hVX.size
                  have g7W := C7.lt
                  have bW := Nat.lt_of_lt_of_le hbB0 hBX.size
                  have hy1 := HW.out.2.1
                  have hlb : (l.length : Int) ≤ 200 := by omega
                  have hyb : -107911053312 ≤ y ∧ y ≤ 107911053312 := by omega
                  obtain ⟨hyb1, hyb2⟩ := hyb
                  have hv2b := HW.out.1
                  obtain ⟨hv2a, hv2c⟩ := hv2b
                  have hw1 : IntKind.i64.wrap (x + ht) = y := by rw [IntWalk.i64_in _ ⟨by omega, by omega⟩]; exact HY.out.symm
                  have hw1' : wrap64 (x + ht) = y := by rw [IntWalk.wrap64_in _ ⟨by omega, by omega⟩]; exact HY.out.symm
                  clear hy1 hca hcc C7
                  refine region_ord [(0, true), (1, true), (2, true), (3, true), (4, true), (5, true), (6, true), (7, true), (8, true), (9, true), (10, true), (11, true)]
                    (fun w' => Below W.heap.size W w' ∧ ∀ b o, b < W.heap.size → w'.cell? ⟨b, o, none⟩ = W.cell? ⟨b, o, none⟩) 999 (by kernel_rfl) (by kernel_rfl) (by kernel_rfl) (by kernel_rfl) (by intro c a d v w h; cases d <;> exact h) (ext_of (Below.drew (Below.refl _ _))) ?_
                  simp only [List.map_cons, List.map_nil, List.getElem?_toArray, List.getElem?_cons_succ, List.getElem?_cons_zero]
                  have hE0 : Below W.heap.size W W.drew := Below.drew (Below.refl _ _)
                  iterate 12 (first
                    | (with_reducible refine L_yes ?_ ?_
                       focus (go_simp; done)
                       apply Exists.intro
                       refine ⟨?_, ?_⟩
                       (rintro w' ⟨_, hce⟩
                        go_simp
                        first | done | rfl | (rw [ite_next]))
                       simp only [Act.put, List.setIfInBounds_toArray, List.set_cons_zero, List.set_cons_succ])
                    | (with_reducible refine L_no ?_ ?_
                       focus (go_simp; first | done | (intro h; cases h))
                       simp only [Act.put, List.setIfInBounds_toArray, List.set_cons_zero, List.set_cons_succ]))
                  refine L_nil ?_
                  clear hw1 hw1' hx4 hcx s0 hE0 gcW g7W bW
                  go_wp2_with (fail)
                  have hBY : Below w.heap.size w W.drew := Below.drew hBX
                  have hVY : Below v7.heap.size v7 W.drew := Below.drew hVX
                  have h7y : Blk W.drew X.heap.size 24 #[.int .i64 wu, .int .i64 wd] := h7n
                  clear hBX hVX h7n hbn
                  obtain ⟨W, hW⟩ : ∃ Z, W.drew = Z := ⟨_, rfl⟩
                  rw [hW] at hBY hVY h7y ⊢
                  clear hW
                  obtain ⟨ga, oa, he, hga, hca⟩ := r5.2 (by omega)
                  have hax := (hVY.cell (p := ⟨ga, oa + f, none⟩) hga).trans (hca _ _ (icell P f _ HF.out.2.1))
                  injection he with he
                  injection he with he1 he2
                  subst he1
                  subst he2
                  have hH1 := HW.out.2.2.1
                  have hH3 := HW.out.2.2.2
                  subst hH1
                  subst hH3
                  have C5 := b5.below hVY g5l
                  have C6 := b6.below hVY g6l
                  have C7 := b7.below hVY g7v
                  have p0 := C5.cell 0
                  have p1 := C5.cell 1
                  have p6 := C5.cell 6
                  have q2 := C6.cell 2
                  have q3 := C6.cell 3
                  have q6 := C6.cell 6
                  have s1 := C7.cell 1
                  have s4 := C7.cell 4
                  have s5 := C7.cell 5
                  have s6 := C7.cell 6
                  have y0 := h7y.cell 0
                  have y1 := h7y.cell 1
                  simp at p0 p1 p6 q2 q3 q6 s1 s4 s5 s6 y0 y1
                  have gaW := Nat.lt_of_lt_of_le hga hVY.size
                  have g5W := C5.lt
                  have g6W := C6.lt
                  have g7W := C7.lt
                  have gyW := h7y.lt
                  have f0 : (0 : Int) ≤ (f : Int) := Int.natCast_nonneg _
                  have f1 : (f : Int) < (l.length : Int) := by omega
                  have hw2 : IntKind.i64.wrap (y + V2) = y + V2 := IntWalk.i64_in _ ⟨by omega, by omega⟩
                  have hm1 : (max 0 (y + V2) == max 0 (y + V2)) = true := by simp
                  have hm2 : (max 0 y == max 0 y) = true := by simp
                  have hvv : (V == V) = true := by simp
                  clear hca C5 C6 C7 r5 r6 r7 b5 b6 b7 B5 B6 B7 HF HC0 HTH hthru
                  refine region_ord [(0, true), (1, true), (2, true), (3, true), (4, true), (5, true), (6, true), (7, true), (8, true), (9, true), (10, true), (11, true), (12, true), (13, true), (14, true), (15, true), (16, true), (17, true), (18, true), (19, true), (20, true), (21, true), (22, true), (23, true), (24, true), (25, true), (26, true), (27, true), (28, true), (29, true), (30, true), (31, false), (32, true), (33, true), (34, true), (35, true), (36, true), (37, true), (38, true), (39, true), (40, true), (41, true), (42, true), (43, true), (44, false), (45, true), (46, true), (47, true)]
                    (fun w' => Below W.heap.size W w' ∧ ∀ b o, b < W.heap.size → w'.cell? ⟨b, o, none⟩ = W.cell? ⟨b, o, none⟩) 999 (by kernel_rfl) (by kernel_rfl) (by kernel_rfl) (by kernel_rfl) (by intro c a d v w h; cases d <;> exact h) (ext_of (Below.drew (Below.refl _ _))) ?_
                  simp only [List.map_cons, List.map_nil, List.getElem?_toArray, List.getElem?_cons_succ, List.getElem?_cons_zero]
                  have hG0 : Below W.heap.size W W.drew := Below.drew (Below.refl _ _)
                  iterate 31 (first
                    | (with_reducible refine L_yes ?_ ?_
                       focus (go_simp; done)
                       apply Exists.intro
                       refine ⟨?_, ?_⟩
                       (rintro w' ⟨_, hce⟩
                        go_simp
                        first | done | rfl | (rw [ite_next]))
                       simp only [Act.put, List.setIfInBounds_toArray, List.set_cons_zero, List.set_cons_succ])
                    | (with_reducible refine L_no ?_ ?_
                       focus (go_simp; first | done | (intro h; cases h))
                       simp only [Act.put, List.setIfInBounds_toArray, List.set_cons_zero, List.set_cons_succ]))
                  with_reducible refine L_main ?_ ?_
                  focus (go_simp; done)
                  intro K hK
                  go_simp
                  refine (value_val wu wd V2 HV2.out _).mono ?_
                  rintro e y1 ⟨rfl, hbN⟩
                  have hG0_1 := below_step hG0 hbN
                  clear hbN
                  dsimp only
                  refine hK _ _ (fun _ => ext_of hG0_1) (fun hSx => ?_)
                  clear hSx hK K
                  iterate 12 (first
                    | (with_reducible refine L_yes ?_ ?_
                       focus (go_simp; done)
                       apply Exists.intro
                       refine ⟨?_, ?_⟩
                       (rintro w' ⟨_, hce⟩
                        go_simp
                        first | done | rfl | (rw [ite_next]))
                       simp only [Act.put, List.setIfInBounds_toArray, List.set_cons_zero, List.set_cons_succ])
                    | (with_reducible refine L_no ?_ ?_
                       focus (go_simp; first | done | (intro h; cases h))
                       simp only [Act.put, List.setIfInBounds_toArray, List.set_cons_zero, List.set_cons_succ]))
                  with_reducible refine L_main ?_ ?_
                  focus (go_simp; done)
                  intro K hK
                  go_simp
                  refine (value_val tu0 td0 V HV.out _).mono ?_
                  rintro e y2 ⟨rfl, hbN⟩
                  have hG0_2 := below_step hG0_1 hbN
                  clear hbN
                  dsimp only
                  refine hK _ _ (fun _ => ext_of hG0_2) (fun hSx => ?_)
                  clear hSx hK K
                  iterate 3 (first
                    | (with_reducible refine L_yes ?_ ?_
                       focus (go_simp; done)
                       apply Exists.intro
                       refine ⟨?_, ?_⟩
                       (rintro w' ⟨_, hce⟩
                        go_simp
                        first | done | rfl | (rw [ite_next]))
                       simp only [Act.put, List.setIfInBounds_toArray, List.set_cons_zero, List.set_cons_succ])
                    | (with_reducible refine L_no ?_ ?_
                       focus (go_simp; first | done | (intro h; cases h))
                       simp only [Act.put, List.setIfInBounds_toArray, List.set_cons_zero, List.set_cons_succ]))
                  refine L_nil ?_
                  go_wp2_with (fail)
                  go_ret
                  exact ⟨rfl, hBY.trans (hG0_2.mono hBY.size)⟩
    · have hkk : f = l.length := by omega
      subst hkk
      have dll : decide ((l.length : Int) < (l.length : Int)) = false := by simp
      go_wp2_with (fail)
      refine (near14 l A cap w1 ((hR.below hB1).more hB1.size) N HNR.out).mono ?_
      rintro e w2 ⟨rfl, hb2⟩
      have hB2 := below_step hB1 hb2
      clear hB1 hb2 hR hthru HNR
      cases N with
      | false =>
        go_wp2_with (fail)
        go_ret
        exact ⟨rfl, hB2⟩
      | true =>
        go_wp2_with (fail)
        go_ret
        exact ⟨rfl, hB2⟩
end Go.Proofs.Ytbcojkfndegjmaa
