/- MarginJoins: the walk. -/
import Derived.Test.YtbcojkfndegjmaaOwn
import Derived.Test.YtbcojkfndegjmaaOrd
import Derived.Test.YtbcojkfndegjmaaSrc
namespace Go.Proofs.Ytbcojkfndegjmaa
open Go.RowKit
set_option linter.unusedVariables false

theorem rjoin_any (l : List Mg) (A : Option Addr) (cap : Nat) (w : World) (hR : Rd w w.heap.size 2 A l.length (mcells l)) (hl : l.length ≤ 4611686018427387904) :
    Calls Try.prog 15 #[.slice A l.length cap] w fun e w' => e = .returned (.agg #[.int .i64 (mJoin l).up, .int .i64 (mJoin l).dn]) ∧ Below w.heap.size w w' := by
  cases l with
  | nil => exact rjoin_nil A cap w
  | cons x r => exact rjoin_some (x :: r) A cap w hR hl (by simp)
theorem mcells_one (l : List Mg) : ∀ u ∈ mcells l, u.oneCell' = true := by
  intro u hu
  simp only [mcells, List.mem_flatMap, Mg.cs, List.mem_cons, List.not_mem_nil, or_false] at hu
  obtain ⟨m, _, h | h⟩ := hu <;> subst h <;> rfl

set_option maxRecDepth 100000 in
set_option maxHeartbeats 8000000 in
theorem joins_main (n : Int) (l : List Mg) (A : Option Addr) (cap : Nat) (w : World) (hR : Rd w w.heap.size 2 A l.length (mcells l)) (hl : l.length ≤ 1000) :
    Calls Try.prog 3 #[.int .i64 n, .slice A l.length cap] w fun e w' => e = .returned (.bool true) ∧ Below w.heap.size w w' := by
  obtain ⟨i0, hi, hz0, hz1, hz2⟩ := info_parts info24
  go_enter Try.func3, Try.ntmps3
  go_wp2_with (at_builtin; refine wpList_append_src _ rfl _ _ 22 rfl w.heap.size 24 i0 (.agg #[.int .i64 0, .int .i64 0]) 2 16 Try.underlying22 hi hz0 hz1 hz2 rfl (by decide) (.slice none 0 0) 0 [] rfl (World.ownsRow_nil _ _ _ _) w.heap.size A l.length cap (mcells l) rfl hR (mcells_one l) ?c3 ?c4 (Nat.le_refl _) ?_)
  case c3 => unfold maxLen; omega
  case c4 => omega
  intro v w1 hown hgrow
  have hb1 : Below w.heap.size w w1 := (Below.refl _ _).grown hgrow (Nat.le_refl _) (fun k hk => by simp [Value.ownBlock] at hk)
  obtain ⟨A1, c1, rfl, hR1⟩ := own_slice hown
  clear hi hz0 hz1 hz2 hgrow hown
  go_wp2_with (fail)
  refine (join_any l A1 c1 _ hR1 (by omega)).mono ?_
  rintro e w2 ⟨rfl, hb2⟩
  have hB2 := hb1.trans (hb2.mono hb1.size)
  replace hR1 := (hR1.below hb2).more hb2.size
  go_wp2_with (fail)
  refine (rjoin_any l A cap _ ((hR.below hB2).more hB2.size) (by omega)).mono ?_
  rintro e w3 ⟨rfl, hb3⟩
  have hB3 := hB2.trans (hb3.mono hB2.size)
  replace hR1 := (hR1.below hb3).more hb3.size
  clear hb1 hb2 hb3 hB2
  generalize mJoin l = q
  go_wp2_with (fail)
  have h6 := (Blk.new w3 24 #[.int .i64 q.up, .int .i64 q.dn]).alloc (.cells #[.int .i64 q.up, .int .i64 q.dn] 24)
  have h7 := Blk.new (w3.alloc (.cells #[.int .i64 q.up, .int .i64 q.dn] 24)) 24 #[.int .i64 q.up, .int .i64 q.dn]
  simp at h7
  have hB4 := below_al (below_al hB3 (.cells #[.int .i64 q.up, .int .i64 q.dn] 24)) (.cells #[.int .i64 q.up, .int .i64 q.dn] 24)
  have hbx : Below w3.heap.size w3 ((w3.alloc (.cells #[.int .i64 q.up, .int .i64 q.dn] 24)).alloc (.cells #[.int .i64 q.up, .int .i64 q.dn] 24)) := below_al (below_al (Below.refl _ _) _) _
  replace hR1 := (hR1.below hbx).more hbx.size
  clear hbx hB3
  obtain ⟨W0, hW0⟩ : ∃ W, (w3.alloc (.cells #[.int .i64 q.up, .int .i64 q.dn] 24)).alloc (.cells #[.int .i64 q.up, .int .i64 q.dn] 24) = W := ⟨_, rfl⟩
  obtain ⟨g6, hg6⟩ : ∃ g, w3.heap.size = g := ⟨_, rfl⟩
  rw [hW0] at h6 h7 hB4 hR1 ⊢
  rw [hg6] at h6 h7 ⊢
  clear hW0 hg6
  go_loopw [8] (fun i wr => ∃ k : Nat, k ≤ l.length ∧ i = .int .i64 k ∧ Below W0.heap.size W0 wr) (fun i _ => l.length - (intOf i).toNat)
  case atStart => exact ⟨0, Nat.zero_le _, rfl, Below.refl _ _⟩
  case round =>
    obtain ⟨k, hk, rfl, hb⟩ := hrel
    have hbw := hB4.trans (hb.mono hB4.size)
    by_cases hlt : k < l.length
    · obtain ⟨b, off, rfl, hbB, hc⟩ := hR.2 (by omega)
      obtain ⟨b1, off1, rfl, hbB1, hc1⟩ := hR1.2 (by omega)
      have hx0 := (hbw.cell (p := ⟨b, off + k * 2, none⟩) hbB).trans (hc _ _ (mcells_up l k hlt))
      have hx1 := (hbw.cell (p := ⟨b, off + (k * 2 + 1), none⟩) hbB).trans (hc _ _ (mcells_dn l k hlt))
      have hy0 := (hb.cell (p := ⟨b1, off1 + k * 2, none⟩) hbB1).trans (hc1 _ _ (mcells_up l k hlt))
      have hy1 := (hb.cell (p := ⟨b1, off1 + (k * 2 + 1), none⟩) hbB1).trans (hc1 _ _ (mcells_dn l k hlt))
      rw [← Nat.add_assoc] at hx1 hy1
      generalize l[k] = x at hx0 hx1 hy0 hy1
      have l1 := Nat.lt_of_lt_of_le hbB hbw.size
      have l2 := Nat.lt_of_lt_of_le hbB1 hb.size
      have k0 : (0 : Int) ≤ (k : Int) := Int.natCast_nonneg _
      have k1 : (k : Int) < (l.length : Int) := by omega
      clear hc hR hc1 hR1 h6 h7
      go_wp2
      obtain ⟨W, hW⟩ : ∃ W, wr = W := ⟨_, rfl⟩
      rw [hW] at hb hbw hx0 hx1 hy0 hy1 l1 l2 ⊢
      clear hW
      refine region_ord [(0, true), (1, true), (2, true), (3, true), (4, true), (5, true), (6, true), (7, true), (8, true), (9, true), (10, true), (11, true), (12, true), (13, true), (15, true), (16, true), (17, true), (18, true), (14, false), (19, false), (20, true), (21, true)]
        (fun w' => Below W.heap.size W w' ∧ ∀ b o, b < W.heap.size → w'.cell? ⟨b, o, none⟩ = W.cell? ⟨b, o, none⟩) 999 (by kernel_rfl) (by kernel_rfl) (by kernel_rfl) (by kernel_rfl) (by intro c a d v w h; cases d <;> exact h) (ext_of (Below.drew (Below.refl _ _))) ?_
      simp only [List.map_cons, List.map_nil, List.getElem?_toArray, List.getElem?_cons_succ, List.getElem?_cons_zero]
      have hB0 : Below W.heap.size W W.drew := Below.drew (Below.refl _ _)
      iterate 18 (first
        | (with_reducible refine L_yes ?_ ?_
           focus (go_simp; done)
           apply Exists.intro
           refine ⟨?_, ?_⟩
           (rintro w' ⟨_, hce⟩
            go_simp
            first | done | rfl | (rw [ite_next]))
           simp only [Act.put, List.setIfInBounds_toArray, List.set_cons_zero, List.set_cons_succ])
        | (with_reducible refine L_no ?_ ?_
           focus (go_simp; done)
           simp only [Act.put, List.setIfInBounds_toArray, List.set_cons_zero, List.set_cons_succ]))
      with_reducible refine L_main ?_ ?_
      focus (go_simp; done)
      intro K hK
      go_simp
      refine (may_any x _).mono ?_
      rintro e w9 ⟨rfl, hbN⟩
      have hB0_1 := below_step hB0 hbN
      clear hbN
      dsimp only
      refine hK _ _ (fun _ => ext_of hB0_1) (fun hSx => ?_)
      clear hSx hK K
      with_reducible refine L_main ?_ ?_
      focus (go_simp; done)
      intro K hK
      go_simp
      refine (rmay_any x _).mono ?_
      rintro e w10 ⟨rfl, hbN⟩
      have hB0_2 := below_step hB0_1 hbN
      clear hbN
      dsimp only
      refine hK _ _ (fun _ => ext_of hB0_2) (fun hSx => ?_)
      clear hSx hK K
      iterate 2 (first
        | (with_reducible refine L_yes ?_ ?_
           focus (go_simp; done)
           apply Exists.intro
           refine ⟨?_, ?_⟩
           (rintro w' ⟨_, hce⟩
            go_simp
            first | done | rfl | (rw [ite_next]))
           simp only [Act.put, List.setIfInBounds_toArray, List.set_cons_zero, List.set_cons_succ])
        | (with_reducible refine L_no ?_ ?_
           focus (go_simp; done)
           simp only [Act.put, List.setIfInBounds_toArray, List.set_cons_zero, List.set_cons_succ]))
      refine L_nil ?_
      replace hb := hb.trans (hB0_2.mono hb.size)
      go_wp2
      go_roundw
      case rel => exact ⟨k + 1, by omega, by go_num, hb⟩
      case measure => simp [intOf]; omega
    · have c60 := (h6.below hb h6.lt).cell 0
      have c61 := (h6.below hb h6.lt).cell 1
      have c70 := (h7.below hb h7.lt).cell 0
      have c71 := (h7.below hb h7.lt).cell 1
      have l6 := Nat.lt_of_lt_of_le h6.lt hb.size
      have l7 := Nat.lt_of_lt_of_le h7.lt hb.size
      simp at c60 c61 c70 c71
      clear hR hR1 h6 h7
      go_wp2
      obtain ⟨W, hW⟩ : ∃ W, wr = W := ⟨_, rfl⟩
      rw [hW] at hb hbw c60 c61 c70 c71 l6 l7 ⊢
      clear hW
      refine region_ord [(0, true), (2, true), (1, false), (3, false), (4, true), (5, true), (6, true), (7, true), (8, true), (9, true), (10, true), (11, true), (13, true), (12, false), (14, false), (15, true), (16, true), (17, true), (18, true), (20, true), (19, false), (21, false), (22, true), (23, true), (24, true)]
        (fun w' => Below W.heap.size W w' ∧ ∀ b o, b < W.heap.size → w'.cell? ⟨b, o, none⟩ = W.cell? ⟨b, o, none⟩) 999 (by kernel_rfl) (by kernel_rfl) (by kernel_rfl) (by kernel_rfl) (by intro c a d v w h; cases d <;> exact h) (ext_of (Below.drew (Below.refl _ _))) ?_
      simp only [List.map_cons, List.map_nil, List.getElem?_toArray, List.getElem?_cons_succ, List.getElem?_cons_zero]
      have hB0 : Below W.heap.size W W.drew := Below.drew (Below.refl _ _)
      iterate 2 (first
        | (with_reducible refine L_yes ?_ ?_
           focus (go_simp; done)
           apply Exists.intro
           refine ⟨?_, ?_⟩
           (rintro w' ⟨_, hce⟩
            go_simp
            first | done | rfl | (rw [ite_next]))
           simp only [Act.put, List.setIfInBounds_toArray, List.set_cons_zero, List.set_cons_succ])
        | (with_reducible refine L_no ?_ ?_
           focus (go_simp; done)
           simp only [Act.put, List.setIfInBounds_toArray, List.set_cons_zero, List.set_cons_succ]))
      with_reducible refine L_main ?_ ?_
      focus (go_simp; done)
      intro K hK
      go_simp
      refine (one_any n _).mono ?_
      rintro e x1 ⟨rfl, hbN⟩
      have hB0_1 := below_step hB0 hbN
      clear hbN
      dsimp only
      refine hK _ _ (fun _ => ext_of hB0_1) (fun hSx => ?_)
      clear hSx hK K
      with_reducible refine L_main ?_ ?_
      focus (go_simp; done)
      intro K hK
      go_simp
      refine (rone_any n _).mono ?_
      rintro e x2 ⟨rfl, hbN⟩
      have hB0_2 := below_step hB0_1 hbN
      clear hbN
      dsimp only
      refine hK _ _ (fun _ => ext_of hB0_2) (fun hSx => ?_)
      clear hSx hK K
      iterate 9 (first
        | (with_reducible refine L_yes ?_ ?_
           focus (go_simp; done)
           apply Exists.intro
           refine ⟨?_, ?_⟩
           (rintro w' ⟨_, hce⟩
            go_simp
            first | done | rfl | (rw [ite_next]))
           simp only [Act.put, List.setIfInBounds_toArray, List.set_cons_zero, List.set_cons_succ])
        | (with_reducible refine L_no ?_ ?_
           focus (go_simp; done)
           simp only [Act.put, List.setIfInBounds_toArray, List.set_cons_zero, List.set_cons_succ]))
      with_reducible refine L_main ?_ ?_
      focus (go_simp; done)
      intro K hK
      go_simp
      refine (value_any q _).mono ?_
      rintro e x3 ⟨rfl, hbN⟩
      have hB0_3 := below_step hB0_2 hbN
      clear hbN
      dsimp only
      refine hK _ _ (fun _ => ext_of hB0_3) (fun hSx => ?_)
      clear hSx hK K
      with_reducible refine L_main ?_ ?_
      focus (go_simp; done)
      intro K hK
      go_simp
      refine (rvalue_any q _).mono ?_
      rintro e x4 ⟨rfl, hbN⟩
      have hB0_4 := below_step hB0_3 hbN
      clear hbN
      dsimp only
      refine hK _ _ (fun _ => ext_of hB0_4) (fun hSx => ?_)
      clear hSx hK K
      iterate 5 (first
        | (with_reducible refine L_yes ?_ ?_
           focus (go_simp; done)
           apply Exists.intro
           refine ⟨?_, ?_⟩
           (rintro w' ⟨_, hce⟩
            go_simp
            first | done | rfl | (rw [ite_next]))
           simp only [Act.put, List.setIfInBounds_toArray, List.set_cons_zero, List.set_cons_succ])
        | (with_reducible refine L_no ?_ ?_
           focus (go_simp; done)
           simp only [Act.put, List.setIfInBounds_toArray, List.set_cons_zero, List.set_cons_succ]))
      with_reducible refine L_main ?_ ?_
      focus (go_simp; done)
      intro K hK
      go_simp
      refine (may_any q _).mono ?_
      rintro e x5 ⟨rfl, hbN⟩
      have hB0_5 := below_step hB0_4 hbN
      clear hbN
      dsimp only
      refine hK _ _ (fun _ => ext_of hB0_5) (fun hSx => ?_)
      clear hSx hK K
      with_reducible refine L_main ?_ ?_
      focus (go_simp; done)
      intro K hK
      go_simp
      refine (rmay_any q _).mono ?_
      rintro e x6 ⟨rfl, hbN⟩
      have hB0_6 := below_step hB0_5 hbN
      clear hbN
      dsimp only
      refine hK _ _ (fun _ => ext_of hB0_6) (fun hSx => ?_)
      clear hSx hK K
      iterate 3 (first
        | (with_reducible refine L_yes ?_ ?_
           focus (go_simp; done)
           apply Exists.intro
           refine ⟨?_, ?_⟩
           (rintro w' ⟨_, hce⟩
            go_simp
            first | done | rfl | (rw [ite_next]))
           simp only [Act.put, List.setIfInBounds_toArray, List.set_cons_zero, List.set_cons_succ])
        | (with_reducible refine L_no ?_ ?_
           focus (go_simp; done)
           simp only [Act.put, List.setIfInBounds_toArray, List.set_cons_zero, List.set_cons_succ]))
      refine L_nil ?_
      have hb2 := hbw.trans (hB0_6.mono hbw.size)
      go_wp2_with (fail)
      go_ret
      exact ⟨rfl, hb2⟩
end Go.Proofs.Ytbcojkfndegjmaa
