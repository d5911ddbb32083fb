/- MarginOpposite: the walk. -/
import Derived.Test.YtbcojkfndegjmaaOwn
import Derived.Test.YtbcojkfndegjmaaOrd
import Derived.Test.YtbcojkfndegjmaaSrc2
import Derived.Test.YtbcojkfndegjmaaPlain3
import Derived.Test.YtbcojkfndegjmaaMComes
namespace Go.Proofs.Ytbcojkfndegjmaa
open Go.RowKit
set_option linter.unusedVariables false

set_option maxRecDepth 100000 in
set_option maxHeartbeats 8000000 in
theorem opp_main (l : List Int) (A : Option Addr) (cap : Nat) (w : World) (hR : Rd w w.heap.size 1 A l.length (l.flatMap fun n => [.int .i64 n])) (hl : l.length ≤ 500) :
    Calls Try.prog 7 #[.slice A l.length cap] w fun e w' => e = .returned (.bool true) ∧ Below w.heap.size w w' := by
  obtain ⟨i0, hi, hz0, hz1, hz2⟩ := info_parts info24
  go_enter Try.func7, Try.ntmps7
  go_wp2_with (fail)
  refine (awake13 _).mono ?_; rintro e w1 ⟨rfl, hb1⟩
  have HI := hidd (And.intro hi (And.intro hz0 (And.intro hz1 hz2)))
  clear hi hz0 hz1 hz2
  go_wp2_with (fail)
  go_loopw [3, 4, 5] (fun va vb i wr => ∃ k : Nat, k ≤ l.length ∧ i = .int .i64 k ∧ wr.ownsRow w.heap.size 24 2 va k (mcells ((l.take k).map oneM)) ∧ wr.ownsRow w.heap.size 24 2 vb k (mcells ((l.take k).map fun n => oneM (-n))) ∧
      (vb.ownBlock = none ∨ vb.ownBlock ≠ va.ownBlock) ∧ Below w.heap.size w wr ∧ ∀ n ∈ l.take k, n ≤ 1099511627776 ∧ -1099511627776 ≤ n)
    (fun _ _ i _ => l.length - (intOf i).toNat)
  case atStart => exact ⟨0, Nat.zero_le _, rfl, World.ownsRow_nil _ _ _ _, World.ownsRow_nil _ _ _ _, .inl rfl, hb1, by simp⟩
  case round =>
    obtain ⟨k, hk, rfl, owa0', owb0', hne, hb, hbd⟩ := hrel
    by_cases hlt : k < l.length
    · obtain ⟨b, off, rfl, hbB, hc⟩ := hR.2 (by omega)
      have hw0 := hc k (.int .i64 l[k]) (by have := flat1 l k hlt; simpa using this)
      have hx := (hb.cell (p := ⟨b, off + k, none⟩) hbB).trans hw0
      have HD := hidd hbd
      clear hc hR hbd
      obtain ⟨x, hxe⟩ : ∃ x, l[k] = x := ⟨_, rfl⟩
      have HX := hidd hxe
      rw [hxe] at hx hw0
      clear hxe
      by_cases hb1 : x ≤ 1099511627776 ∧ -1099511627776 ≤ x
      · obtain ⟨hb1, hb2⟩ := hb1
        have h30 : decide (1099511627776 < x) = false := by simp; omega
        have h31 : decide (x < -1099511627776) = false := by simp; omega
        have k0 : (0 : Int) ≤ (k : Int) := Int.natCast_nonneg _
        have k1 : (k : Int) < (l.length : Int) := by omega
        have hng : IntKind.i64.wrap (-x) = -x := by rw [IntKind.wrap_i64]; omega
        go_wp2
        obtain ⟨hi, hz0, hz1, hz2⟩ := HI.out
        obtain ⟨W, hW⟩ : ∃ W, wr = W := ⟨_, rfl⟩
        rw [hW] at hb hx owa0' owb0' ⊢
        have hbW := hb
        have owa0 : W.drew.ownsRow w.heap.size 24 2 u3 k (mcells ((l.take k).map oneM)) := owa0'
        have owb0 : W.drew.ownsRow w.heap.size 24 2 u4 k (mcells ((l.take k).map fun n => oneM (-n))) := owb0'
        clear hW hb owa0' owb0'
        refine region_ord [(0, true), (1, true), (2, true), (3, true), (4, true), (8, true), (9, true), (10, true), (11, true), (12, true), (13, true), (5, false), (6, false), (7, false), (14, false), (15, false), (16, false), (17, true), (18, true)]
          (fun w' => Below w.heap.size w w' ∧ ∀ b o, b < w.heap.size → w'.cell? ⟨b, o, none⟩ = w.cell? ⟨b, o, none⟩) 999 (by kernel_rfl) (by kernel_rfl) (by kernel_rfl) (by kernel_rfl) (by intro c a d v w h; cases d <;> exact h) (ext_of (Below.drew (hbW))) ?_
        simp only [List.map_cons, List.map_nil, List.getElem?_toArray, List.getElem?_cons_succ, List.getElem?_cons_zero]
        have hB0 : Below w.heap.size w W.drew := Below.drew (hbW)
        iterate 11 (first
          | (with_reducible refine L_yes ?_ ?_
             focus (go_simp; done)
             apply Exists.intro
             refine ⟨?_, ?_⟩
             (rintro w' ⟨_, hce⟩
              go_simp
              first | done | rfl | (rw [ite_next]))
             simp only [Act.put, List.setIfInBounds_toArray, List.set_cons_zero, List.set_cons_succ])
          | (with_reducible refine L_no ?_ ?_
             focus (go_simp; done)
             simp only [Act.put, List.setIfInBounds_toArray, List.set_cons_zero, List.set_cons_succ]))
        with_reducible refine L_main ?_ ?_
        focus (go_simp; done)
        intro K hK
        go_simp
        refine (one_any x _).mono ?_
        rintro e wa ⟨rfl, hbN⟩
        have hB0_1 := below_step hB0 hbN
        have owa := own_below owa0 hbN
        have owb := own_below owb0 hbN
        clear hbN
        dsimp only
        refine hK _ _ (fun _ => ext_of hB0_1) (fun hSx => ?_)
        clear hSx hK K
        with_reducible refine L_main ?_ ?_
        focus (go_simp; done)
        intro K hK
        go_simp
        have hB0_2 := below_al hB0_1 (.cells #[.int .i64 (max x 0), .int .i64 (min x 0)] 24)
        have owa2 := owa.alloc (.cells #[.int .i64 (max x 0), .int .i64 (min x 0)] 24)
        have owb2 := owb.alloc (.cells #[.int .i64 (max x 0), .int .i64 (min x 0)] 24)
        have rda := Rd.blk (Blk.new wa 24 #[.int .i64 (max x 0), .int .i64 (min x 0)]) 1 2 rfl
        refine hK _ _ (fun _ => ext_of hB0_2) (fun hSx => ?_)
        clear hSx hK K
        with_reducible refine L_main ?_ ?_
        focus (go_simp; done)
        intro K hK
        refine wp_append_src _ _ _ 22 (by rfl) w.heap.size 24 i0 (.agg #[.int .i64 0, .int .i64 0]) 2 16 Try.underlying22 hi hz0 hz1 hz2 rfl (by decide) u3 k _ (by rfl) owa2 (wa.alloc (.cells #[.int .i64 (max x 0), .int .i64 (min x 0)] 24)).heap.size (some ⟨wa.heap.size, 0, none⟩) 1 1 [.int .i64 (max x 0), .int .i64 (min x 0)] (by rfl) rda (by simp [Value.oneCell']) (by unfold maxLen; omega) (by omega) (hB0_2).size ?_
        intro va' wb owa3 hga hpa
        have hB0_3 := (hB0_2).grown hga (hB0_2).size (fun k hk => (owa2.lt k hk).1)
        have owb3 := owb2.kept hga (by rcases hne with h | h; exact .inl h; exact .inr h)
        have hne3 : u4.ownBlock = none ∨ u4.ownBlock ≠ va'.ownBlock := by
          rcases hne with h | h
          · exact .inl h
          · rcases hpa with hp | hp
            · exact .inr (by rw [hp]; exact h)
            · refine .inr (fun e => ?_)
              rw [hp] at e
              have := (owb2.lt _ e).2
              omega
        refine hK _ _ (fun _ => ext_of hB0_3) (fun hSx => ?_)
        clear hSx hK K
        simp only [Act.put, List.setIfInBounds_toArray, List.set_cons_zero, List.set_cons_succ]
        with_reducible refine L_main ?_ ?_
        focus (go_simp; done)
        intro K hK
        go_simp
        refine (one_any (-x) _).mono ?_
        rintro e wc ⟨rfl, hbN⟩
        have hB0_4 := below_step hB0_3 hbN
        have owa4 := own_below owa3 hbN
        have owb4 := own_below owb3 hbN
        clear hbN
        dsimp only
        refine hK _ _ (fun _ => ext_of hB0_4) (fun hSx => ?_)
        clear hSx hK K
        with_reducible refine L_main ?_ ?_
        focus (go_simp; done)
        intro K hK
        go_simp
        have hB0_5 := below_al hB0_4 (.cells #[.int .i64 (max (-x) 0), .int .i64 (min (-x) 0)] 24)
        have owa5 := owa4.alloc (.cells #[.int .i64 (max (-x) 0), .int .i64 (min (-x) 0)] 24)
        have owb5 := owb4.alloc (.cells #[.int .i64 (max (-x) 0), .int .i64 (min (-x) 0)] 24)
        have rdb := Rd.blk (Blk.new wc 24 #[.int .i64 (max (-x) 0), .int .i64 (min (-x) 0)]) 1 2 rfl
        refine hK _ _ (fun _ => ext_of hB0_5) (fun hSx => ?_)
        clear hSx hK K
        with_reducible refine L_main ?_ ?_
        focus (go_simp; done)
        intro K hK
        refine wp_append_src _ _ _ 22 (by rfl) w.heap.size 24 i0 (.agg #[.int .i64 0, .int .i64 0]) 2 16 Try.underlying22 hi hz0 hz1 hz2 rfl (by decide) u4 k _ (by rfl) owb5 (wc.alloc (.cells #[.int .i64 (max (-x) 0), .int .i64 (min (-x) 0)] 24)).heap.size (some ⟨wc.heap.size, 0, none⟩) 1 1 [.int .i64 (max (-x) 0), .int .i64 (min (-x) 0)] (by rfl) rdb (by simp [Value.oneCell']) (by unfold maxLen; omega) (by omega) hB0_5.size ?_
        intro vb' wd owb6 hgb hpb
        have hB0_6 := (hB0_5).grown hgb (hB0_5).size (fun k hk => (owb5.lt k hk).1)
        have hne5 : va'.ownBlock = none ∨ va'.ownBlock ≠ u4.ownBlock := by
          cases hv : va'.ownBlock with
          | none => exact .inl rfl
          | some q =>
            refine .inr (fun e => ?_)
            rcases hne3 with h | h
            · rw [h] at e; cases e
            · exact h (e.symm.trans hv.symm)
        have owa6 := owa5.kept hgb hne5
        refine hK _ _ (fun _ => ext_of hB0_6) (fun hSx => ?_)
        clear hSx hK K
        simp only [Act.put, List.setIfInBounds_toArray, List.set_cons_zero, List.set_cons_succ]
        iterate 2 (first
          | (with_reducible refine L_yes ?_ ?_
             focus (go_simp; done)
             apply Exists.intro
             refine ⟨?_, ?_⟩
             (rintro w' ⟨_, hce⟩
              go_simp
              first | done | rfl | (rw [ite_next]))
             simp only [Act.put, List.setIfInBounds_toArray, List.set_cons_zero, List.set_cons_succ])
          | (with_reducible refine L_no ?_ ?_
             focus (go_simp; done)
             simp only [Act.put, List.setIfInBounds_toArray, List.set_cons_zero, List.set_cons_succ]))
        refine L_nil ?_
        have hne6 : vb'.ownBlock = none ∨ vb'.ownBlock ≠ va'.ownBlock := by
          rcases hpb with hp | hp
          · rw [hp]; exact hne3
          · refine .inr (fun e => ?_)
            rw [hp] at e
            have := (owa5.lt _ e.symm).2
            omega
        have e : l.take (k + 1) = l.take k ++ [x] := by rw [List.take_succ_eq_append_getElem hlt, HX.out]
        have ea : mcells ((l.take (k + 1)).map oneM) = mcells ((l.take k).map oneM) ++ [.int .i64 (max x 0), .int .i64 (min x 0)] := by
          rw [e, List.map_append]; exact mcells_snoc _ _
        have eb : mcells ((l.take (k + 1)).map fun n => oneM (-n)) = mcells ((l.take k).map fun n => oneM (-n)) ++ [.int .i64 (max (-x) 0), .int .i64 (min (-x) 0)] := by
          rw [e, List.map_append]; exact mcells_snoc _ _
        have HA : Hid (wd.ownsRow w.heap.size 24 2 va' (k + 1) (mcells ((l.take (k + 1)).map oneM))) := by rw [ea]; exact owa6
        have HB : Hid (wd.ownsRow w.heap.size 24 2 vb' (k + 1) (mcells ((l.take (k + 1)).map fun n => oneM (-n)))) := by rw [eb]; exact owb6
        have HE := hidd e
        have HN := hidd hne6
        clear e ea eb hne6 owa6 owb6 hne3 hne5 hgb hga owa0 owb0 owa owb owa2 owb2 owa3 owb3 owa4 owb4 owa5 owb5 hpa hpb rda rdb hB0 hB0_1 hB0_2 hB0_3 hB0_4 hB0_5 hbW hx hne hng
        go_wp2_with (fail)
        go_roundw
        case rel =>
          refine ⟨k + 1, by omega, by go_num, HA.out, HB.out, HN.out, hB0_6, fun n hn => ?_⟩
          rw [HE.out, List.mem_append] at hn
          rcases hn with hn | hn
          · exact HD.out n hn
          · simp at hn; subst hn; exact ⟨hb1, hb2⟩
        case measure => simp [intOf]; omega
      · clear owa0' owb0' hne
        by_cases hb2 : x ≤ 1099511627776
        · have h30 : decide (1099511627776 < x) = false := by simp; omega
          have h31 : decide (x < -1099511627776) = true := by simp; omega
          go_wp2
          go_ret
          exact ⟨rfl, hb⟩
        · have h30 : decide (1099511627776 < x) = true := by simp; omega
          go_wp2
          go_ret
          exact ⟨rfl, hb⟩
    · have hkk : k = l.length := by omega
      subst hkk
      have hj : jn l l.length = mJoin (l.map oneM) := by unfold jn; rw [List.take_length]
      obtain ⟨s1, s2⟩ := jn_sign l l.length (Nat.le_refl _)
      obtain ⟨d1, d2⟩ := jn_bound l 1099511627776 (by omega) l.length (Nat.le_refl _) hbd
      have ho := mJoin_opp l
      rw [List.take_length] at owa0' owb0'
      rw [hj] at s1 s2 d1 d2
      obtain ⟨U, D, hq⟩ : ∃ U D, mJoin (l.map oneM) = ⟨U, D⟩ := ⟨_, _, rfl⟩
      rw [hq] at s1 s2 d1 d2 ho
      simp only [oppM] at s1 s2 d1 d2 ho
      obtain ⟨U2, hU2⟩ : ∃ U2, -D = U2 := ⟨_, rfl⟩
      obtain ⟨D2, hD2⟩ : ∃ D2, -U = D2 := ⟨_, rfl⟩
      rw [hU2, hD2] at ho
      have e1 : IntKind.i64.wrap (-D2) = U := by rw [IntKind.wrap_i64]; omega
      have e2 : IntKind.i64.wrap (-U2) = D := by rw [IntKind.wrap_i64]; omega
      obtain ⟨V, hV⟩ : ∃ V, U + D = V := ⟨_, rfl⟩
      obtain ⟨V2, hV2⟩ : ∃ V, U2 + D2 = V := ⟨_, rfl⟩
      have e3 : IntKind.i64.wrap (-V2) = V := by rw [IntKind.wrap_i64]; omega
      have v1 : wrap64 (U + D) = V := by rw [← hV]; exact IntWalk.wrap64_in _ ⟨by omega, by omega⟩
      have v2 : wrap64 (U2 + D2) = V2 := by rw [← hV2]; exact IntWalk.wrap64_in _ ⟨by omega, by omega⟩
      have HQ := hidd (And.intro hq (And.intro ho (And.intro v1 v2)))
      clear hq hj v1 v2 ho hU2 hD2 hV hV2 s1 s2 d1 d2 hbd hne hR
      obtain ⟨Aa, ca, rfl, hRa⟩ := own_slice owa0'
      obtain ⟨Ab, cb, rfl, hRb⟩ := own_slice owb0'
      clear owa0' owb0'
      have E1 := hidd e1
      have E2 := hidd e2
      have E3 := hidd e3
      clear e1 e2 e3
      go_wp2_with (fail)
      have hja := join_any (l.map oneM) Aa ca wr (by rw [List.length_map]; exact hRa) (by rw [List.length_map]; omega)
      rw [HQ.out.1, List.length_map] at hja
      refine hja.mono ?_
      rintro e w2 ⟨rfl, hb3⟩
      have hB2 := hb.trans (hb3.mono hb.size)
      have hRb2 := (hRb.below hb3).more hb3.size
      clear hja hRa hRb hb3 hb
      go_wp2_with (fail)
      have hjb := join_any (l.map fun n => oneM (-n)) Ab cb w2 (by rw [List.length_map]; exact hRb2) (by rw [List.length_map]; omega)
      rw [HQ.out.2.1, List.length_map] at hjb
      refine hjb.mono ?_
      rintro e w3 ⟨rfl, hb3⟩
      have hB3 := hB2.trans (hb3.mono hB2.size)
      clear hjb hRb2 hb3 hB2
      have h6 := (Blk.new w3 24 #[.int .i64 U, .int .i64 D]).alloc (.cells #[.int .i64 U2, .int .i64 D2] 24)
      have h7 := Blk.new (w3.alloc (.cells #[.int .i64 U, .int .i64 D] 24)) 24 #[.int .i64 U2, .int .i64 D2]
      simp at h7
      have hB4 := below_al (below_al hB3 (.cells #[.int .i64 U, .int .i64 D] 24)) (.cells #[.int .i64 U2, .int .i64 D2] 24)
      clear hB3
      go_wp2_with (fail)
      obtain ⟨W, hW⟩ : ∃ W, (w3.alloc (.cells #[.int .i64 U, .int .i64 D] 24)).alloc (.cells #[.int .i64 U2, .int .i64 D2] 24) = W := ⟨_, rfl⟩
      obtain ⟨g6, hg6⟩ : ∃ g, w3.heap.size = g := ⟨_, rfl⟩
      rw [hW] at h6 h7 hB4 ⊢
      rw [hg6] at h6 h7 ⊢
      clear hW hg6
      have c60 := h6.cell 0
      have c61 := h6.cell 1
      have c70 := h7.cell 0
      have c71 := h7.cell 1
      have l6 := h6.lt
      have l7 := h7.lt
      simp at c60 c61 c70 c71
      clear h6 h7
      have e1 := E1.out
      have e2 := E2.out
      have e3 := E3.out
      refine region_ord [(0, true), (1, true), (2, true), (3, true), (4, true), (5, true), (6, true), (7, true), (8, true), (9, true), (10, true), (11, true), (12, true), (13, true), (14, true), (15, true), (17, true), (16, false), (18, false), (19, true), (20, true), (21, true), (22, true)]
        (fun w' => Below W.heap.size W w' ∧ ∀ b o, b < W.heap.size → w'.cell? ⟨b, o, none⟩ = W.cell? ⟨b, o, none⟩) 999 (by kernel_rfl) (by kernel_rfl) (by kernel_rfl) (by kernel_rfl) (by intro c a d v w h; cases d <;> exact h) (ext_of (Below.drew (Below.refl _ _))) ?_
      simp only [List.map_cons, List.map_nil, List.getElem?_toArray, List.getElem?_cons_succ, List.getElem?_cons_zero]
      have hD0 : Below W.heap.size W W.drew := Below.drew (Below.refl _ _)
      iterate 17 (first
        | (with_reducible refine L_yes ?_ ?_
           focus (go_simp; done)
           apply Exists.intro
           refine ⟨?_, ?_⟩
           (rintro w' ⟨_, hce⟩
            go_simp
            first | done | rfl | (rw [ite_next]))
           simp only [Act.put, List.setIfInBounds_toArray, List.set_cons_zero, List.set_cons_succ])
        | (with_reducible refine L_no ?_ ?_
           focus (go_simp; done)
           simp only [Act.put, List.setIfInBounds_toArray, List.set_cons_zero, List.set_cons_succ]))
      with_reducible refine L_main ?_ ?_
      focus (go_simp; done)
      intro K hK
      go_simp
      refine (value_val U D V HQ.out.2.2.1 _).mono ?_
      rintro e x1 ⟨rfl, hbN⟩
      have hD0_1 := below_step hD0 hbN
      clear hbN
      dsimp only
      refine hK _ _ (fun _ => ext_of hD0_1) (fun hSx => ?_)
      clear hSx hK K
      with_reducible refine L_main ?_ ?_
      focus (go_simp; done)
      intro K hK
      go_simp
      refine (value_val U2 D2 V2 HQ.out.2.2.2 _).mono ?_
      rintro e x2 ⟨rfl, hbN⟩
      have hD0_2 := below_step hD0_1 hbN
      clear hbN
      dsimp only
      refine hK _ _ (fun _ => ext_of hD0_2) (fun hSx => ?_)
      clear hSx hK K
      iterate 4 (first
        | (with_reducible refine L_yes ?_ ?_
           focus (go_simp; done)
           apply Exists.intro
           refine ⟨?_, ?_⟩
           (rintro w' ⟨_, hce⟩
            go_simp
            first | done | rfl | (rw [ite_next]))
           simp only [Act.put, List.setIfInBounds_toArray, List.set_cons_zero, List.set_cons_succ])
        | (with_reducible refine L_no ?_ ?_
           focus (go_simp; done)
           simp only [Act.put, List.setIfInBounds_toArray, List.set_cons_zero, List.set_cons_succ]))
      refine L_nil ?_
      have hb5 := hB4.trans (hD0_2.mono hB4.size)
      go_wp2_with (fail)
      go_ret
      exact ⟨rfl, hb5⟩
end Go.Proofs.Ytbcojkfndegjmaa
