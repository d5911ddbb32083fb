/- BlockBelow: the walk. -/
import Derived.Test.YtbcojkfndegjmaaAwake14
namespace Go.Proofs.Ytbcojkfndegjmaa
open Go.RowKit
set_option linter.unusedVariables false
attribute [local go_sem ↓] run_max run_min

theorem icell (ps : List Int) (i : Nat) (x : Int) (h : ps[i]? = some x) : (icells ps)[i]? = some (.int .i64 x) := by
  have hl := (List.getElem?_eq_some_iff.1 h).1
  have := flat1 ps i hl
  rw [(List.getElem?_eq_some_iff.1 h).2] at this
  exact this
theorem near_closed (l : List Kd) (h1 : l.length ≤ 201) (h2 : ∀ k ∈ l, nearK k = true) : stackF l false false = ⟨⟨(runK l false).ps, max 0 (totC l), ⟨0, 0⟩, ⟨0, 0⟩, false⟩, 0⟩ := by
  rw [near_stack h1 h2]
  unfold fin
  rw [(closed l).1, (closed l).2]
  rfl
set_option maxRecDepth 100000 in
set_option maxHeartbeats 8000000 in
theorem below_walk (l : List Kd) (A : Option Addr) (cap : Nat) (w : World) (hR : Rd w w.heap.size 6 A l.length (kcells l)) :
    Calls Try.prog 9 #[.slice A l.length cap] w fun e w' => e = .returned (.bool true) ∧ Below w.heap.size w w' := by
  obtain ⟨N, hN⟩ : ∃ N, nearL l = N := ⟨_, rfl⟩
  obtain ⟨So, hSo⟩ : ∃ N, (l.all fun k => !k.th) = N := ⟨_, rfl⟩
  have HNR := hidd hN
  have HSO := hidd hSo
  clear hN hSo
  go_enter Try.func9, Try.ntmps9
  go_wp2_with (fail)
  refine (awake14 _).mono ?_
  rintro e w1 ⟨rfl, hB1⟩
  go_wp2_with (fail)
  refine (near14 l A cap w1 ((hR.below hB1).more hB1.size) N HNR.out).mono ?_
  rintro e w2 ⟨rfl, hb2⟩
  have hB2 := below_step hB1 hb2
  clear hB1 hb2
  cases N with
  | false =>
    clear hR
    go_wp2_with (fail)
    go_ret
    exact ⟨rfl, hB2⟩
  | true =>
  have hl200 : l.length ≤ 200 := ((nearL_iff l).1 HNR.out).1
  go_wp2_with (fail)
  refine (solid_any l A cap w2 ((hR.below hB2).more hB2.size) (by omega) So HSO.out).mono ?_
  rintro e w2' ⟨rfl, rfl⟩
  cases So with
  | false =>
    clear hR
    go_wp2_with (fail)
    go_ret
    exact ⟨rfl, hB2⟩
  | true =>
  have hnear := ((nearL_iff l).1 HNR.out).2
  have hsol : ∀ k ∈ l, k.th = false := fun k hk => by
    have := List.all_eq_true.1 HSO.out k hk
    simpa using this
  have hgd : ∀ k ∈ l, gdK 268435456 k := fun k hk => (nearK_gd (hnear k hk)).1
  have hst := near_closed l (by omega) hnear
  have hlen := run_length l false
  have hgs := fun k hk => gdS_run (M := 268435456) (by omega) l false hgd k hk
  have hpo := fun k hk => run_get l false k hk
  obtain ⟨H, hH⟩ : ∃ H, max 0 (totC l) = H := ⟨_, rfl⟩
  rw [hH] at hst
  obtain ⟨ps, hps⟩ : ∃ ps, (runK l false).ps = ps := ⟨_, rfl⟩
  rw [hps] at hst hlen hpo
  have hlit := stack_lit l false false A l.length cap l.length w2 _ ((hR.below hB2).more hB2.size) rfl (by omega) hst hlen
  have HLIT := hidd hlit
  have HF := hidd (And.intro hsol (And.intro hgd (And.intro hgs (And.intro hpo hH))))
  clear hst hlen hgs hpo hH hps hlit hnear hsol hgd HNR HSO
  have d1 : ((l.length : Int) != (l.length : Int)) = false := by simp
  go_wp2_with (fail)
  refine (HLIT.out).mono ?_
  rintro e w3 ⟨A5, c5, rfl, rd5, hb3⟩
  have hB3 := below_step hB2 hb3
  clear HLIT hb3 hB2
  simp only at rd5
  go_upto_region 6 with (fail)
  have h3 := Blk.new w3 40 #[.slice A5 l.length c5, .int .i64 H, .int .i64 0, .int .i64 0, .int .i64 0, .int .i64 0, .bool false]
  have hal := below_al (Below.refl w3.heap.size w3) (.cells #[.slice A5 l.length c5, .int .i64 H, .int .i64 0, .int .i64 0, .int .i64 0, .int .i64 0, .bool false] 40)
  replace hB3 := below_step hB3 hal
  replace rd5 := (rd5.below hal).more hal.size
  obtain ⟨W3, hW3⟩ : ∃ W, w3.alloc (.cells #[.slice A5 l.length c5, .int .i64 H, .int .i64 0, .int .i64 0, .int .i64 0, .int .i64 0, .bool false] 40) = W := ⟨_, rfl⟩
  rw [hW3] at h3 hB3 rd5 ⊢
  obtain ⟨g3, hg3⟩ : ∃ g, w3.heap.size = g := ⟨_, rfl⟩
  rw [hg3] at h3 ⊢
  clear hW3 hg3 hal
  have q0 := h3.cell 0
  have q1 := h3.cell 1
  have q2 := h3.cell 2
  have q3 := h3.cell 3
  have q4 := h3.cell 4
  have q5 := h3.cell 5
  have q6 := h3.cell 6
  simp at q0 q1 q2 q3 q4 q5 q6
  go_wp2_with (fail)
  clear q0 q1 q2 q3 q4 q5 q6 d1
  have g3l := h3.lt
  go_loopw [5, 7] (fun e i wx => ∃ (k : Nat) (y wu wd : Int), k ≤ l.length ∧ i = .int .i64 k ∧ e = .int .i64 y ∧ (runK (l.take k) false).y = y ∧ (runK (l.take k) false).w = ⟨wu, wd⟩ ∧ Blk wx W3.heap.size 24 #[.int .i64 wu, .int .i64 wd] ∧ Below W3.heap.size W3 wx)
    (fun _ i _ => l.length - (intOf i).toNat)
  case atStart => exact ⟨0, 0, 0, 0, Nat.zero_le _, rfl, rfl, rfl, rfl, Blk.new _ _ _, below_al (Below.refl _ _) _⟩
  case round =>
    obtain ⟨k, y, wu, wd, hk, rfl, rfl, hy, hw, h6, hb⟩ := hrel
    obtain ⟨W, hW⟩ : ∃ W, wr = W := ⟨_, rfl⟩
    rw [hW] at h6 hb ⊢
    clear hW
    clear wr
    have hBW := hB3.trans (hb.mono hB3.size)
    have h3W := h3.below hb g3l
    have g6l := h6.lt
    have g3W := h3W.lt
    by_cases hlt : k < l.length
    · obtain ⟨b, off, rfl, hbB, hc⟩ := hR.2 (by omega)
      obtain ⟨b5, o5, rfl, hbB5, hc5⟩ := rd5.2 (by omega)
      have hbW : b < W.heap.size := Nat.lt_of_lt_of_le hbB hBW.size
      have hbW5 : b5 < W.heap.size := Nat.lt_of_lt_of_le hbB5 hb.size
      have hx0 := (hBW.cell (p := ⟨b, off + (k * 6 + 0), none⟩) hbB).trans (hc _ _ (kcell l k 0 hlt (by omega)))
      have hx1 := (hBW.cell (p := ⟨b, off + (k * 6 + 1), none⟩) hbB).trans (hc _ _ (kcell l k 1 hlt (by omega)))
      have hx2 := (hBW.cell (p := ⟨b, off + (k * 6 + 2), none⟩) hbB).trans (hc _ _ (kcell l k 2 hlt (by omega)))
      have hx3 := (hBW.cell (p := ⟨b, off + (k * 6 + 3), none⟩) hbB).trans (hc _ _ (kcell l k 3 hlt (by omega)))
      have hx4 := (hBW.cell (p := ⟨b, off + (k * 6 + 4), none⟩) hbB).trans (hc _ _ (kcell l k 4 hlt (by omega)))
      have hp := (hb.cell (p := ⟨b5, o5 + k, none⟩) hbB5).trans (hc5 _ _ (icell ps k _ (HF.out.2.2.2.1 k hlt)))
      have hg := HF.out.2.1 l[k] (List.getElem_mem _)
      have hs := HF.out.2.2.1 k (by omega)
      have hv := inM_v (inM_mj hs.1 hg.2.1)
      have hy2 := hs.2.2.1
      rw [bnd_eq, hy] at hy2
      obtain ⟨n1, n2, _, _⟩ := solid_step l false k hlt (HF.out.1 _ (List.getElem_mem _))
      rw [posK_closed l k (by omega), hy, hw] at hp n1
      rw [hw] at hv
      obtain ⟨s, hs9⟩ : ∃ s, l[k] = s := ⟨_, rfl⟩
      rw [hs9] at hx0 hx1 hx2 hx3 hx4 hp hg hv n1 n2
      obtain ⟨⟨tu, td⟩, ⟨bu, bd⟩, ht, th⟩ := s
      simp only at hx0 hx1 hx2 hx3 hx4
      simp only [← Nat.add_assoc, Nat.add_zero] at hx0 hx1 hx2 hx3 hx4
      have hV0 : (mj (⟨wu, wd⟩ : Mg) ⟨tu, td⟩).v = max wu tu + min wd td := rfl
      rw [hV0] at hp hv n1
      obtain ⟨V, hV⟩ : ∃ V, max wu tu + min wd td = V := ⟨_, rfl⟩
      rw [hV] at hp hv n1
      obtain ⟨hg1, hg2⟩ := hg.1
      obtain ⟨hv1, hv2⟩ := hv
      obtain ⟨hy3, hy4⟩ := hy2
      simp only at hg1 hg2
      have HV : Hid (wrap64 (max wu tu + min wd td) = V) := by show wrap64 _ = _; rw [hV]; exact IntWalk.wrap64_in _ ⟨by omega, by omega⟩
      obtain ⟨Q, hQ⟩ : ∃ Q, y + V = Q := ⟨_, rfl⟩
      rw [hQ] at hp n1
      obtain ⟨Q2, hQ2⟩ : ∃ Q2, Q + ht = Q2 := ⟨_, rfl⟩
      rw [hQ2] at n1
      have hw1 : IntKind.i64.wrap (y + V) = Q := by rw [IntWalk.i64_in _ ⟨by omega, by omega⟩]; exact hQ
      have hw1' : wrap64 (y + V) = Q := by rw [IntWalk.wrap64_in _ ⟨by omega, by omega⟩]; exact hQ
      have hw2 : IntKind.i64.wrap (Q + ht) = Q2 := by rw [IntWalk.i64_in _ ⟨by omega, by omega⟩]; exact hQ2
      have hw2' : wrap64 (Q + ht) = Q2 := by rw [IntWalk.wrap64_in _ ⟨by omega, by omega⟩]; exact hQ2
      have hqq : (Q != Q) = false := by simp
      have HNX := hidd (And.intro n1 n2)
      have q0 := h3W.cell 0
      have z0 := h6.cell 0
      have z1 := h6.cell 1
      simp at q0 z0 z1
      have k0 : (0 : Int) ≤ (k : Int) := Int.natCast_nonneg _
      have k1 : (k : Int) < (l.length : Int) := by omega
      clear hc hc5 hR rd5 hg hs hs9 hV hV0 hQ hQ2 n1 n2 hy hw
      go_wp2_with (fail)
      refine region_ord [(0, true), (1, true), (2, true), (3, true), (4, true), (5, true), (6, true), (7, true), (8, true), (9, true), (10, true), (11, true), (12, false), (13, false), (14, false), (15, true), (16, true)]
        (fun w' => Below W.heap.size W w' ∧ ∀ b o, b < W.heap.size → w'.cell? ⟨b, o, none⟩ = W.cell? ⟨b, o, none⟩) 999 (by kernel_rfl) (by kernel_rfl) (by kernel_rfl) (by kernel_rfl) (by intro c a d v w h; cases d <;> exact h) (ext_of (Below.drew (Below.refl _ _))) ?_
      simp only [List.map_cons, List.map_nil, List.getElem?_toArray, List.getElem?_cons_succ, List.getElem?_cons_zero]
      have hD0 : Below W.heap.size W W.drew := Below.drew (Below.refl _ _)
      iterate 12 (first
        | (with_reducible refine L_yes ?_ ?_
           focus (go_simp; done)
           apply Exists.intro
           refine ⟨?_, ?_⟩
           (rintro w' ⟨_, hce⟩
            go_simp
            first | done | rfl | (rw [ite_next]))
           simp only [Act.put, List.setIfInBounds_toArray, List.set_cons_zero, List.set_cons_succ])
        | (with_reducible refine L_no ?_ ?_
           focus (go_simp; done)
           simp only [Act.put, List.setIfInBounds_toArray, List.set_cons_zero, List.set_cons_succ]))
      with_reducible refine L_main ?_ ?_
      focus (go_simp; done)
      intro K hK
      go_simp
      have hD0_1 := below_al hD0 (.cells #[.int .i64 wu, .int .i64 wd, .int .i64 tu, .int .i64 td] 24)
      refine hK _ _ (fun _ => ext_of hD0_1) (fun hSx => ?_)
      clear hSx hK K
      with_reducible refine L_main ?_ ?_
      focus (go_simp; done)
      intro K hK
      go_simp
      refine (join_blk [⟨wu, wd⟩, ⟨tu, td⟩] (max wu tu) (min wd td) W.heap.size 2 2 #[.int .i64 wu, .int .i64 wd, .int .i64 tu, .int .i64 td] _ (Blk.new W 24 #[.int .i64 wu, .int .i64 wd, .int .i64 tu, .int .i64 td]).drew rfl rfl rfl (by decide)).mono ?_
      rintro e v1 ⟨rfl, hbN⟩
      have hD0_2 := below_step hD0_1 hbN
      clear hbN
      dsimp only
      refine hK _ _ (fun _ => ext_of hD0_2) (fun hSx => ?_)
      clear hSx hK K
      with_reducible refine L_main ?_ ?_
      focus (go_simp; done)
      intro K hK
      go_simp
      refine (value_val (max wu tu) (min wd td) V HV.out _).mono ?_
      rintro e v2 ⟨rfl, hbN⟩
      have hD0_3 := below_step hD0_2 hbN
      clear hbN
      dsimp only
      refine hK _ _ (fun _ => ext_of hD0_3) (fun hSx => ?_)
      clear hSx hK K
      iterate 2 (first
        | (with_reducible refine L_yes ?_ ?_
           focus (go_simp; done)
           apply Exists.intro
           refine ⟨?_, ?_⟩
           (rintro w' ⟨_, hce⟩
            go_simp
            first | done | rfl | (rw [ite_next]))
           simp only [Act.put, List.setIfInBounds_toArray, List.set_cons_zero, List.set_cons_succ])
        | (with_reducible refine L_no ?_ ?_
           focus (go_simp; done)
           simp only [Act.put, List.setIfInBounds_toArray, List.set_cons_zero, List.set_cons_succ]))
      refine L_nil ?_
      clear hw1 hw1' HV hv1 hv2 hy3 hy4
      go_wp2_with (fail)
      have hDn := hD0_3
      have hB9 := hBW.trans (hDn.mono hBW.size)
      have hb9 := hb.trans (hDn.mono hb.size)
      have h69 := h6.below hDn g6l
      have e0 := (hDn.cell (p := ⟨b, off + k * 6, none⟩) hbW).trans hx0
      have e2 := (hDn.cell (p := ⟨b, off + k * 6 + 2, none⟩) hbW).trans hx2
      have e3 := (hDn.cell (p := ⟨b, off + k * 6 + 3, none⟩) hbW).trans hx3
      have e4 := (hDn.cell (p := ⟨b, off + k * 6 + 4, none⟩) hbW).trans hx4
      have ep := (hDn.cell (p := ⟨b5, o5 + k, none⟩) hbW5).trans hp
      have eq0 := (hDn.cell (p := ⟨g3, 0, none⟩) g3W).trans q0
      have ebW := Nat.lt_of_lt_of_le hbW hDn.size
      have ebW5 := Nat.lt_of_lt_of_le hbW5 hDn.size
      have eg3 := Nat.lt_of_lt_of_le g3W hDn.size
      have eg6 := Nat.lt_of_lt_of_le g6l hDn.size
      clear hx0 hx1 hx2 hx3 hx4 hp q0 z0 z1 hD0 hD0_1 hD0_2 hD0_3 hDn hb hBW h6 g6l hbW hbW5 g3W h3W hB3
      obtain ⟨W, hW⟩ : ∃ W, v2 = W := ⟨_, rfl⟩
      rw [hW] at hB9 hb9 h69 e0 e2 e3 e4 ep eq0 ebW ebW5 eg3 eg6 ⊢
      clear hW
      have h6 := h69
      refine region_ord [(0, true), (1, true), (2, true), (3, true), (4, true), (5, true), (6, true), (7, true), (8, true), (9, true), (10, true), (11, true), (12, true), (13, true), (14, true), (15, true), (16, true), (17, false)]
        (fun w' => Below W.heap.size W w' ∧ ∀ b o, b < W.heap.size → w'.cell? ⟨b, o, none⟩ = W.cell? ⟨b, o, none⟩) 17 (by kernel_rfl) (by kernel_rfl) (by kernel_rfl) (by kernel_rfl) (by intro c a d v w h; cases d <;> exact h) (ext_of (Below.drew (Below.refl _ _))) ?_
      simp only [List.map_cons, List.map_nil, List.getElem?_toArray, List.getElem?_cons_succ, List.getElem?_cons_zero]
      have hE0 : Below W.heap.size W W.drew := Below.drew (Below.refl _ _)
      iterate 17 (first
        | (with_reducible refine L_yes ?_ ?_
           focus (go_simp; done)
           apply Exists.intro
           refine ⟨?_, ?_⟩
           (rintro w' ⟨_, hce⟩
            go_simp
            first | done | rfl | (rw [ite_next]))
           simp only [Act.put, List.setIfInBounds_toArray, List.set_cons_zero, List.set_cons_succ])
        | (with_reducible refine L_no ?_ ?_
           focus (go_simp; done)
           simp only [Act.put, List.setIfInBounds_toArray, List.set_cons_zero, List.set_cons_succ]))
      have fz := h6.frozen
      have z0 := h6.cell 0
      have z1 := h6.cell 1
      simp at z0 z1
      with_reducible refine L_main ?_ ?_
      focus (go_simp; done)
      intro K hK
      go_simp
      refine hK _ _ (fun h => absurd rfl h) (fun hSx => ?_)
      clear hSx hK K
      refine L_nil ?_
      have h6n := Blk.to ((h69.set_ 0 (.int .i64 bu)).set_ 1 (.int .i64 bd)) (cs' := #[.int .i64 bu, .int .i64 bd]) (by simp)
      have hbn := (hb9.setCell (p := ⟨W3.heap.size, 0, none⟩) (Nat.le_refl _) (.int .i64 bu)).setCell (p := ⟨W3.heap.size, 1, none⟩) (Nat.le_refl _) (.int .i64 bd)
      clear hE0 fz h6 h69 hb9 e0 e2 e3 e4 ep eq0 hw2 hw2' hqq
      go_wp2_with (fail)
      go_roundw
      case rel => exact ⟨k + 1, Q2, bu, bd, by omega, by go_num, rfl, HNX.out.1, HNX.out.2, h6n.drew, Below.drew hbn⟩
      case measure => simp [intOf]; omega
    · have hkk : k = l.length := by omega
      subst hkk
      rw [List.take_length] at hy hw
      have hs := HF.out.2.2.1 l.length (Nat.le_refl _)
      have hv := inM_v hs.1
      have hy2 := hs.2.2.1
      rw [List.take_length] at hv hy2
      rw [bnd_eq, hy] at hy2
      rw [hw] at hv
      have hH : H = max 0 (y + (wu + wd)) := by
        rw [← HF.out.2.2.2.2]; unfold totC; rw [hy, hw]; rfl
      have hV0 : (⟨wu, wd⟩ : Mg).v = wu + wd := rfl
      rw [hV0] at hv
      obtain ⟨V, hV⟩ : ∃ V, wu + wd = V := ⟨_, rfl⟩
      rw [hV] at hv hH
      obtain ⟨hv1, hv2⟩ := hv
      obtain ⟨hy3, hy4⟩ := hy2
      have HV : Hid (wrap64 (wu + wd) = V) := by show wrap64 _ = _; rw [hV]; exact IntWalk.wrap64_in _ ⟨by omega, by omega⟩
      obtain ⟨Q, hQ⟩ : ∃ Q, y + V = Q := ⟨_, rfl⟩
      rw [hQ] at hH
      have hw1 : IntKind.i64.wrap (y + V) = Q := by rw [IntWalk.i64_in _ ⟨by omega, by omega⟩]; exact hQ
      have hw1' : wrap64 (y + V) = Q := by rw [IntWalk.wrap64_in _ ⟨by omega, by omega⟩]; exact hQ
      subst hH
      have hqq : (max 0 Q == max 0 Q) = true := by simp
      have q1 := h3W.cell 1
      have z0 := h6.cell 0
      have z1 := h6.cell 1
      simp at q1 z0 z1
      clear hR rd5 hs hV hV0 hQ hy hw HF hB3
      go_wp2_with (fail)
      refine region_ord [(0, true), (1, true), (2, true), (3, true), (4, false), (5, true), (6, true), (7, true), (8, true)]
        (fun w' => Below W.heap.size W w' ∧ ∀ b o, b < W.heap.size → w'.cell? ⟨b, o, none⟩ = W.cell? ⟨b, o, none⟩) 999 (by kernel_rfl) (by kernel_rfl) (by kernel_rfl) (by kernel_rfl) (by intro c a d v w h; cases d <;> exact h) (ext_of (Below.drew (Below.refl _ _))) ?_
      simp only [List.map_cons, List.map_nil, List.getElem?_toArray, List.getElem?_cons_succ, List.getElem?_cons_zero]
      have hD0 : Below W.heap.size W W.drew := Below.drew (Below.refl _ _)
      iterate 4 (first
        | (with_reducible refine L_yes ?_ ?_
           focus (go_simp; done)
           apply Exists.intro
           refine ⟨?_, ?_⟩
           (rintro w' ⟨_, hce⟩
            go_simp
            first | done | rfl | (rw [ite_next]))
           simp only [Act.put, List.setIfInBounds_toArray, List.set_cons_zero, List.set_cons_succ])
        | (with_reducible refine L_no ?_ ?_
           focus (go_simp; done)
           simp only [Act.put, List.setIfInBounds_toArray, List.set_cons_zero, List.set_cons_succ]))
      with_reducible refine L_main ?_ ?_
      focus (go_simp; done)
      intro K hK
      go_simp
      refine (value_val wu wd V HV.out _).mono ?_
      rintro e v3 ⟨rfl, hbN⟩
      have hD0_1 := below_step hD0 hbN
      clear hbN
      dsimp only
      refine hK _ _ (fun _ => ext_of hD0_1) (fun hSx => ?_)
      clear hSx hK K
      iterate 4 (first
        | (with_reducible refine L_yes ?_ ?_
           focus (go_simp; done)
           apply Exists.intro
           refine ⟨?_, ?_⟩
           (rintro w' ⟨_, hce⟩
            go_simp
            first | done | rfl | (rw [ite_next]))
           simp only [Act.put, List.setIfInBounds_toArray, List.set_cons_zero, List.set_cons_succ])
        | (with_reducible refine L_no ?_ ?_
           focus (go_simp; done)
           simp only [Act.put, List.setIfInBounds_toArray, List.set_cons_zero, List.set_cons_succ]))
      refine L_nil ?_
      go_wp2_with (fail)
      go_ret
      exact ⟨rfl, hBW.trans (hD0_1.mono hBW.size)⟩
end Go.Proofs.Ytbcojkfndegjmaa
