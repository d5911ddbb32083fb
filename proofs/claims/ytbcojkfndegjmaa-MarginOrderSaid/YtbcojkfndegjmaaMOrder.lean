/- MarginOrder: the walk. -/
import Derived.Test.YtbcojkfndegjmaaOwn
import Derived.Test.YtbcojkfndegjmaaOrd
import Derived.Test.YtbcojkfndegjmaaSrc2
import Derived.Test.YtbcojkfndegjmaaPlain4
import Derived.Deep.QuietTactic
import Derived.BigQuiet
namespace Go.Proofs.Ytbcojkfndegjmaa
open Go.RowKit
set_option linter.unusedVariables false

theorem mod_small (f : Int) (n : Nat) (h : 0 < n) (h2 : n ≤ 500) : ∃ F : Nat, wrap64 ((IntKind.u64.wrap f).tmod (n : Int)) = (F : Int) ∧ F < n := by
  have hu : 0 ≤ IntKind.u64.wrap f := by rw [IntKind.wrap_u64]; omega
  rw [Int.tmod_eq_emod_of_nonneg hu]
  have h3 := Int.emod_nonneg (IntKind.u64.wrap f) (show (n : Int) ≠ 0 by omega)
  have h4 := Int.emod_lt_of_pos (IntKind.u64.wrap f) (show (0 : Int) < n by omega)
  rw [IntWalk.wrap64_in _ ⟨by omega, by omega⟩]
  exact ⟨((IntKind.u64.wrap f) % (n : Int)).toNat, by omega, by omega⟩

set_option maxRecDepth 100000 in
set_option maxHeartbeats 8000000 in
theorem order_main (l : List Mg) (f c : Int) (A : Option Addr) (cap : Nat) (w : World) (hR : Rd w w.heap.size 2 A l.length (mcells l)) (h0 : 0 < l.length) (hl : l.length ≤ 500) (hlc : l.length ≤ cap) (hm : cap ≤ maxLen) :
    Calls Try.prog 4 #[.slice A l.length cap, .int .i64 f, .int .i64 c] w fun e w' => e = .returned (.bool true) ∧ Below w.heap.size w w' := by
  obtain ⟨i0, hi, hz0, hz1, hz2⟩ := info_parts info24
  have hne : ((l.length : Int) == 0) = false := by rw [beq_eq_false_iff_ne]; omega
  go_enter Try.func4, Try.ntmps4
  go_wp2_with (fail)
  refine (awake13 _).mono ?_; rintro e w1 ⟨rfl, hb1⟩
  have HI := hidd (And.intro hi (And.intro hz0 (And.intro hz1 hz2)))
  clear hi hz0 hz1 hz2
  go_wp2_with (fail)
  go_quiet (fail)
  go_wp2_with (fail)
  obtain ⟨F, hF, hFl⟩ := mod_small f l.length h0 hl
  obtain ⟨C, hC, hCl⟩ := mod_small c l.length h0 hl
  rw [hF, hC]
  clear hF hC
  have hbn := below_drewN hb1 nq
  obtain ⟨b, off, rfl, hbB, hc⟩ := hR.2 h0
  go_loopw [7, 8] (fun v i wr => ∃ k : Nat, k ≤ l.length ∧ i = .int .i64 k ∧ wr.ownsRow w.heap.size 24 2 v k (mcells (turnedM l F k)) ∧ Below w.heap.size w wr ∧ ∀ m ∈ l.take k, mayB m = true)
    (fun _ i _ => l.length - (intOf i).toNat)
  case atStart => exact ⟨0, Nat.zero_le _, rfl, World.ownsRow_nil _ _ _ _, hbn, by simp⟩
  case round =>
    obtain ⟨k, hk, rfl, hown, hb, hmy⟩ := hrel
    by_cases hlt : k < l.length
    · obtain ⟨J, hJ⟩ : ∃ J, (F + k) % l.length = J := ⟨_, rfl⟩
      have hJl : J < l.length := by rw [← hJ]; exact Nat.mod_lt _ h0
      have hx0 := (hb.cell (p := ⟨b, off + k * 2, none⟩) hbB).trans (hc _ _ (mcells_up l k hlt))
      have hx1 := (hb.cell (p := ⟨b, off + (k * 2 + 1), none⟩) hbB).trans (hc _ _ (mcells_dn l k hlt))
      have hy0 := (hb.cell (p := ⟨b, off + J * 2, none⟩) hbB).trans (hc _ _ (mcells_up l J hJl))
      have hy1 := (hb.cell (p := ⟨b, off + (J * 2 + 1), none⟩) hbB).trans (hc _ _ (mcells_dn l J hJl))
      rw [← Nat.add_assoc] at hx1 hy1
      have HC := hidd hc
      have HM := hidd hmy
      have HJ := hidd hJ
      have hJi : ((F : Int) + (k : Int)) % (l.length : Int) = (J : Int) := by rw [← hJ]; simp
      obtain ⟨x, hx⟩ : ∃ x, l[k] = x := ⟨_, rfl⟩
      obtain ⟨y, hy⟩ : ∃ y, l[J] = y := ⟨_, rfl⟩
      have HX := hidd hx
      have HY := hidd hy
      rw [hx] at hx0 hx1
      rw [hy] at hy0 hy1
      clear hc hR hmy hx hy hJ
      cases hmx : mayB x with
      | false =>
        go_wp2_with (fail)
        refine (may_no _ _ hmx _).mono ?_; rintro e w2 ⟨rfl, hb2⟩
        have hB2 := hb.trans (hb2.mono hb.size)
        go_wp2_with (fail)
        go_ret
        exact ⟨rfl, hB2⟩
      | true =>
        have HMX := hidd hmx
        go_wp2_with (fail)
        refine (may_yes _ _ hmx _).mono ?_; rintro e w2 ⟨rfl, hb2⟩
        have hB2 := hb.trans (hb2.mono hb.size)
        have own2 := own_below hown hb2
        have y0 := (hb2.cell (p := ⟨b, off + J * 2, none⟩) (Nat.lt_of_lt_of_le hbB hb.size)).trans hy0
        have y1 := (hb2.cell (p := ⟨b, off + J * 2 + 1, none⟩) (Nat.lt_of_lt_of_le hbB hb.size)).trans hy1
        clear hx0 hx1 hy0 hy1 hb2 hown hb
        obtain ⟨hi, hz0, hz1, hz2⟩ := HI.out
        go_wp2_with (at_builtin; refine wpList_append_src _ rfl _ _ 22 rfl w.heap.size 24 i0 (.agg #[.int .i64 0, .int .i64 0]) 2 16 Try.underlying22 hi hz0 hz1 hz2 rfl (by decide) u7 k _ rfl (own2.alloc _) (w2.alloc (.cells #[.int .i64 y.up, .int .i64 y.dn] 24)).heap.size (some ⟨w2.heap.size, 0, none⟩) 1 1 [.int .i64 y.up, .int .i64 y.dn] rfl (Rd.blk (Blk.new w2 24 #[.int .i64 y.up, .int .i64 y.dn]) 1 2 rfl) (by simp [Value.oneCell']) ?c3 ?c4 ?c5 ?_)
        case c3 => unfold maxLen; omega
        case c4 => omega
        case c5 => have := hB2.size; simp; omega
        intro v' w3 own3 hgrow
        have hB3 := below_grown hB2 own2 hgrow
        have e : mcells (turnedM l F (k + 1)) = mcells (turnedM l F k) ++ [.int .i64 y.up, .int .i64 y.dn] := by
          rw [turnedM_succ l F k (by rw [HJ.out]; exact hJl), mcells_snoc]
          have hyy : l[(F + k) % l.length]'(by rw [HJ.out]; exact hJl) = y := by
            have := HY.out
            simp only [HJ.out]
            exact this
          rw [hyy]
        have HE := hidd e
        clear e hgrow own2 hB2 y0 y1 hi hz0 hz1 hz2
        go_wp2_with (fail)
        go_roundw
        case rel =>
          refine ⟨k + 1, by omega, by go_num, by rw [HE.out]; exact own3, hB3, fun m hm => ?_⟩
          rw [List.take_succ_eq_append_getElem hlt, List.mem_append] at hm
          rcases hm with hm | hm
          · exact HM.out m hm
          · simp at hm; rw [hm, HX.out]; exact HMX.out
        case measure => simp [intOf]; omega
    · have hkk : k = l.length := by omega
      subst hkk
      rw [List.take_length] at hmy
      have hsg : Sgn l := fun m hm => by have := (mayB_iff m).1 (hmy m hm); exact ⟨this.1, this.2.2.1⟩
      have hsp : Sgn (l.take C) := fun m hm => hsg m (List.mem_of_mem_take hm)
      have hss : Sgn (l.drop C) := fun m hm => hsg m (List.mem_of_mem_drop hm)
      have hqm := mJoin_may l hmy
      have hqt := mJoin_same l (turnedM l F l.length) hsg (turnedM_mem l F hFl)
      have hqp := mJoin_parts (l.take C) (l.drop C) hsp hss
      rw [List.take_append_drop] at hqp
      have hq1 := mJoin_one l hsg l[F] (List.getElem_mem hFl)
      have hx0 := (hb.cell (p := ⟨b, off + F * 2, none⟩) hbB).trans (hc _ _ (mcells_up l F hFl))
      have hx1 := (hb.cell (p := ⟨b, off + (F * 2 + 1), none⟩) hbB).trans (hc _ _ (mcells_dn l F hFl))
      rw [← Nat.add_assoc] at hx1
      obtain ⟨U, D, hq⟩ : ∃ U D, mJoin l = ⟨U, D⟩ := ⟨_, _, rfl⟩
      obtain ⟨U1, D1, hp⟩ : ∃ U D, mJoin (l.take C) = ⟨U, D⟩ := ⟨_, _, rfl⟩
      obtain ⟨U2, D2, hs⟩ : ∃ U D, mJoin (l.drop C) = ⟨U, D⟩ := ⟨_, _, rfl⟩
      obtain ⟨y, hy⟩ : ∃ y, l[F] = y := ⟨_, rfl⟩
      rw [hq] at hqm hqt hqp hq1
      rw [hp, hs] at hqp
      rw [hy] at hq1 hx0 hx1
      have hself : mJoin [⟨U, D⟩, ⟨U, D⟩] = ⟨U, D⟩ := mJoin_self _
      have hjl := fun (W' : World) (hbb : Below wr.heap.size wr W') => join_any l (some ⟨b, off, none⟩) cap W' ((hR.below (hb.trans (hbb.mono hb.size))).more (hb.trans (hbb.mono hb.size)).size) (by omega)
      rw [hq] at hjl
      have hRp : Rd w w.heap.size 2 (some ⟨b, off, none⟩) C (mcells (l.take C)) := ⟨by rw [mcells_length, List.length_take]; omega, fun _ => ⟨b, off, rfl, hbB, fun j u hu => hc j u (by
        have e : mcells l = mcells (l.take C) ++ mcells (l.drop C) := by unfold mcells; rw [← List.flatMap_append, List.take_append_drop]
        rw [e, List.getElem?_append_left (List.getElem?_eq_some_iff.1 hu).1]; exact hu)⟩⟩
      have hRs : Rd w w.heap.size 2 (some ⟨b, off + C * 2, none⟩) (l.length - C) (mcells (l.drop C)) := ⟨by rw [mcells_length, List.length_drop], fun _ => ⟨b, off + C * 2, rfl, hbB, fun j u hu => by
        rw [Nat.add_assoc]
        refine hc (C * 2 + j) u ?_
        have e : mcells l = mcells (l.take C) ++ mcells (l.drop C) := by unfold mcells; rw [← List.flatMap_append, List.take_append_drop]
        have e2 : (mcells (l.take C)).length = C * 2 := by rw [mcells_length, List.length_take]; omega
        rw [e, List.getElem?_append_right (by omega), e2, Nat.add_sub_cancel_left]; exact hu⟩⟩
      have hjp := fun (W' : World) (hbb : Below wr.heap.size wr W') => join_any (l.take C) (some ⟨b, off, none⟩) cap W' (by rw [List.length_take, Nat.min_eq_left (by omega)]; exact (hRp.below (hb.trans (hbb.mono hb.size))).more (hb.trans (hbb.mono hb.size)).size) (by rw [List.length_take]; omega)
      rw [hp, List.length_take, Nat.min_eq_left (by omega : C ≤ l.length)] at hjp
      have hjs := fun (W' : World) (hbb : Below wr.heap.size wr W') => join_any (l.drop C) (some ⟨b, off + C * 2, none⟩) (cap - C) W' (by rw [List.length_drop]; exact (hRs.below (hb.trans (hbb.mono hb.size))).more (hb.trans (hbb.mono hb.size)).size) (by rw [List.length_drop]; omega)
      rw [hs, List.length_drop] at hjs
      obtain ⟨At, ct, rfl, hRt⟩ := own_slice hown
      have hjt := fun (W' : World) (hbb : Below wr.heap.size wr W') => join_any (turnedM l F l.length) At ct W' (by rw [turnedM_length]; exact (hRt.below hbb).more hbb.size) (by rw [turnedM_length]; omega)
      rw [hqt, turnedM_length] at hjt
      have HT := hidd hjt
      have HP := hidd hjp
      have HS := hidd hjs
      have HL := hidd hjl
      have HQ := hidd (And.intro hqm (And.intro hqp (And.intro hq1 hself)))
      have HY := hidd hy
      clear hjt hjp hjs hjl hqm hqp hq1 hself hy hq hp hs hqt hRp hRs hRt hown hR hc hsg hsp hss hmy
      have hcap : ¬ cap = C := by omega
      unfold maxLen at hm
      have f0 : (0 : Int) ≤ (F : Int) := Int.natCast_nonneg _
      have f1 : (F : Int) < (l.length : Int) := by omega
      have c0' : (0 : Int) ≤ (C : Int) := Int.natCast_nonneg _
      have c1' : (C : Int) ≤ (l.length : Int) := by omega
      have c2' : (C : Int) ≤ (cap : Int) := by omega
      go_wp2_with (fail)
      refine (HL.out wr (Below.refl _ _)).mono ?_
      rintro e w2 ⟨rfl, hb2⟩
      go_wp2_with (fail)
      have h9 := Blk.new w2 24 #[.int .i64 U, .int .i64 D]
      have hbr := below_al hb2 (.cells #[.int .i64 U, .int .i64 D] 24)
      obtain ⟨W, hW⟩ : ∃ W, w2.alloc (.cells #[.int .i64 U, .int .i64 D] 24) = W := ⟨_, rfl⟩
      obtain ⟨g9, hg9⟩ : ∃ g, w2.heap.size = g := ⟨_, rfl⟩
      rw [hW] at h9 hbr ⊢
      rw [hg9] at h9 ⊢
      have hbW := hb.trans (hbr.mono hb.size)
      have x0 := (hbr.cell (p := ⟨b, off + F * 2, none⟩) (Nat.lt_of_lt_of_le hbB hb.size)).trans hx0
      have x1 := (hbr.cell (p := ⟨b, off + F * 2 + 1, none⟩) (Nat.lt_of_lt_of_le hbB hb.size)).trans hx1
      have lb := Nat.lt_of_lt_of_le hbB hbW.size
      clear hW hg9 hx0 hx1 hb2
      have c90 := h9.cell 0
      have c91 := h9.cell 1
      have l9 := h9.lt
      simp at c90 c91
      clear h9
      refine region_ord [(0, true), (1, false), (2, true), (3, true), (5, true), (4, false), (6, true), (7, true), (8, true), (9, true), (10, true), (11, true), (13, true), (14, true), (15, true), (19, true), (12, false), (16, false), (17, false), (18, false), (20, true), (21, true), (22, true), (23, true), (24, true), (27, true), (25, false), (26, false), (28, true), (29, true), (30, true), (31, true), (32, true), (33, true), (34, true), (35, true), (38, true), (36, false), (37, false), (39, true), (40, true), (41, true)]
        (fun w' => Below W.heap.size W w' ∧ ∀ b o, b < W.heap.size → w'.cell? ⟨b, o, none⟩ = W.cell? ⟨b, o, none⟩) 999 (by kernel_rfl) (by kernel_rfl) (by kernel_rfl) (by kernel_rfl) (by intro c a d v w h; cases d <;> exact h) (ext_of (Below.drew (Below.refl _ _))) ?_
      simp only [List.map_cons, List.map_nil, List.getElem?_toArray, List.getElem?_cons_succ, List.getElem?_cons_zero]
      have hD0 : Below W.heap.size W W.drew := Below.drew (Below.refl _ _)
      iterate 1 (first
        | (with_reducible refine L_yes ?_ ?_
           focus (go_simp; done)
           apply Exists.intro
           refine ⟨?_, ?_⟩
           (rintro w' ⟨_, hce⟩
            go_simp
            first | done | rfl | (rw [ite_next]))
           simp only [Act.put, List.setIfInBounds_toArray, List.set_cons_zero, List.set_cons_succ])
        | (with_reducible refine L_no ?_ ?_
           focus (go_simp; done)
           simp only [Act.put, List.setIfInBounds_toArray, List.set_cons_zero, List.set_cons_succ]))
      with_reducible refine L_main ?_ ?_
      focus (go_simp; done)
      intro K hK
      go_simp
      refine (may_yes U D HQ.out.1 _).mono ?_
      rintro e z1 ⟨rfl, hbN⟩
      have hD0_1 := below_step hD0 hbN
      clear hbN
      dsimp only
      refine hK _ _ (fun _ => ext_of hD0_1) (fun hSx => ?_)
      clear hSx hK K
      iterate 3 (first
        | (with_reducible refine L_yes ?_ ?_
           focus (go_simp; done)
           apply Exists.intro
           refine ⟨?_, ?_⟩
           (rintro w' ⟨_, hce⟩
            go_simp
            first | done | rfl | (rw [ite_next]))
           simp only [Act.put, List.setIfInBounds_toArray, List.set_cons_zero, List.set_cons_succ])
        | (with_reducible refine L_no ?_ ?_
           focus (go_simp; done)
           simp only [Act.put, List.setIfInBounds_toArray, List.set_cons_zero, List.set_cons_succ]))
      with_reducible refine L_main ?_ ?_
      focus (go_simp; done)
      intro K hK
      go_simp
      refine (HT.out _ (hbr.trans (hD0_1.mono hbr.size))).mono ?_
      rintro e z2 ⟨rfl, hbN⟩
      have hD0_2 := below_step hD0_1 hbN
      clear hbN
      dsimp only
      refine hK _ _ (fun _ => ext_of hD0_2) (fun hSx => ?_)
      clear hSx hK K
      iterate 10 (first
        | (with_reducible refine L_yes ?_ ?_
           focus (go_simp; done)
           apply Exists.intro
           refine ⟨?_, ?_⟩
           (rintro w' ⟨_, hce⟩
            go_simp
            first | done | rfl | (rw [ite_next]))
           simp only [Act.put, List.setIfInBounds_toArray, List.set_cons_zero, List.set_cons_succ])
        | (with_reducible refine L_no ?_ ?_
           focus (go_simp; done)
           simp only [Act.put, List.setIfInBounds_toArray, List.set_cons_zero, List.set_cons_succ]))
      with_reducible refine L_main ?_ ?_
      focus (go_simp; done)
      intro K hK
      go_simp
      refine (HP.out _ (hbr.trans (hD0_2.mono hbr.size))).mono ?_
      rintro e z3 ⟨rfl, hbN⟩
      have hD0_3 := below_step hD0_2 hbN
      clear hbN
      dsimp only
      refine hK _ _ (fun _ => ext_of hD0_3) (fun hSx => ?_)
      clear hSx hK K
      with_reducible refine L_main ?_ ?_
      focus (go_simp; done)
      intro K hK
      go_simp
      refine (HS.out _ (hbr.trans (hD0_3.mono hbr.size))).mono ?_
      rintro e z4 ⟨rfl, hbN⟩
      have hD0_4 := below_step hD0_3 hbN
      clear hbN
      dsimp only
      refine hK _ _ (fun _ => ext_of hD0_4) (fun hSx => ?_)
      clear hSx hK K
      with_reducible refine L_main ?_ ?_
      focus (go_simp; done)
      intro K hK
      go_simp
      have hD0_5 := below_al hD0_4 (.cells #[.int .i64 U1, .int .i64 D1, .int .i64 U2, .int .i64 D2] 24)
      refine hK _ _ (fun _ => ext_of hD0_5) (fun hSx => ?_)
      clear hSx hK K
      with_reducible refine L_main ?_ ?_
      focus (go_simp; done)
      intro K hK
      go_simp
      refine (join_blk [⟨U1, D1⟩, ⟨U2, D2⟩] U D z4.heap.size 2 2 #[.int .i64 U1, .int .i64 D1, .int .i64 U2, .int .i64 D2] _ (Blk.new z4 24 _) rfl rfl HQ.out.2.1 (by decide)).mono ?_
      rintro e z5 ⟨rfl, hbN⟩
      have hD0_6 := below_step hD0_5 hbN
      clear hbN
      dsimp only
      refine hK _ _ (fun _ => ext_of hD0_6) (fun hSx => ?_)
      clear hSx hK K
      iterate 6 (first
        | (with_reducible refine L_yes ?_ ?_
           focus (go_simp; done)
           apply Exists.intro
           refine ⟨?_, ?_⟩
           (rintro w' ⟨_, hce⟩
            go_simp
            first | done | rfl | (rw [ite_next]))
           simp only [Act.put, List.setIfInBounds_toArray, List.set_cons_zero, List.set_cons_succ])
        | (with_reducible refine L_no ?_ ?_
           focus (go_simp; done)
           simp only [Act.put, List.setIfInBounds_toArray, List.set_cons_zero, List.set_cons_succ]))
      with_reducible refine L_main ?_ ?_
      focus (go_simp; done)
      intro K hK
      go_simp
      have hD0_7 := below_al hD0_6 (.cells #[.int .i64 U, .int .i64 D, .int .i64 U, .int .i64 D] 24)
      refine hK _ _ (fun _ => ext_of hD0_7) (fun hSx => ?_)
      clear hSx hK K
      with_reducible refine L_main ?_ ?_
      focus (go_simp; done)
      intro K hK
      go_simp
      refine (join_blk [⟨U, D⟩, ⟨U, D⟩] U D z5.heap.size 2 2 #[.int .i64 U, .int .i64 D, .int .i64 U, .int .i64 D] _ (Blk.new z5 24 _) rfl rfl HQ.out.2.2.2 (by decide)).mono ?_
      rintro e z6 ⟨rfl, hbN⟩
      have hD0_8 := below_step hD0_7 hbN
      clear hbN
      dsimp only
      refine hK _ _ (fun _ => ext_of hD0_8) (fun hSx => ?_)
      clear hSx hK K
      iterate 9 (first
        | (with_reducible refine L_yes ?_ ?_
           focus (go_simp; done)
           apply Exists.intro
           refine ⟨?_, ?_⟩
           (rintro w' ⟨_, hce⟩
            go_simp
            first | done | rfl | (rw [ite_next]))
           simp only [Act.put, List.setIfInBounds_toArray, List.set_cons_zero, List.set_cons_succ])
        | (with_reducible refine L_no ?_ ?_
           focus (go_simp; done)
           simp only [Act.put, List.setIfInBounds_toArray, List.set_cons_zero, List.set_cons_succ]))
      with_reducible refine L_main ?_ ?_
      focus (go_simp; done)
      intro K hK
      go_simp
      have hD0_9 := below_al hD0_8 (.cells #[.int .i64 U, .int .i64 D, .int .i64 y.up, .int .i64 y.dn] 24)
      refine hK _ _ (fun _ => ext_of hD0_9) (fun hSx => ?_)
      clear hSx hK K
      with_reducible refine L_main ?_ ?_
      focus (go_simp; done)
      intro K hK
      go_simp
      refine (join_blk [⟨U, D⟩, y] U D z6.heap.size 2 2 #[.int .i64 U, .int .i64 D, .int .i64 y.up, .int .i64 y.dn] _ (Blk.new z6 24 _) rfl rfl HQ.out.2.2.1 (by decide)).mono ?_
      rintro e z7 ⟨rfl, hbN⟩
      have hD0_10 := below_step hD0_9 hbN
      clear hbN
      dsimp only
      refine hK _ _ (fun _ => ext_of hD0_10) (fun hSx => ?_)
      clear hSx hK K
      iterate 3 (first
        | (with_reducible refine L_yes ?_ ?_
           focus (go_simp; done)
           apply Exists.intro
           refine ⟨?_, ?_⟩
           (rintro w' ⟨_, hce⟩
            go_simp
            first | done | rfl | (rw [ite_next]))
           simp only [Act.put, List.setIfInBounds_toArray, List.set_cons_zero, List.set_cons_succ])
        | (with_reducible refine L_no ?_ ?_
           focus (go_simp; done)
           simp only [Act.put, List.setIfInBounds_toArray, List.set_cons_zero, List.set_cons_succ]))
      refine L_nil ?_
      have hb5 := hbW.trans (hD0_10.mono hbW.size)
      go_wp2_with (fail)
      go_ret
      exact ⟨rfl, hb5⟩
end Go.Proofs.Ytbcojkfndegjmaa
