/- MarginMore: the walk. -/
import Derived.Test.YtbcojkfndegjmaaMAwake
import Derived.Test.YtbcojkfndegjmaaOrd
namespace Go.Proofs.Ytbcojkfndegjmaa
open Go.RowKit
set_option linter.unusedVariables false

set_option maxRecDepth 100000 in
set_option maxHeartbeats 4000000 in
theorem more_ff (a b : Mg) (n U D : Int) (w : World) (ha : mayB a = true) (hb : mayB b = true) (hab : mJoin [a, b] = ⟨U, D⟩) (hba : mJoin [b, a] = ⟨U, D⟩)
    (hU1 : decide (U < a.up) = false) (hD1 : decide (a.dn < D) = false) (hU2 : (U != a.up) = false) (hD2 : (D != a.dn) = false) (hU3 : (U != b.up) = false ∨ (U != a.up) = false) (hD3 : (D != b.dn) = false ∨ (D != a.dn) = false) :
    Calls Try.prog 6 #[.agg #[.int .i64 a.up, .int .i64 a.dn], .agg #[.int .i64 b.up, .int .i64 b.dn], .int .i64 n] w fun e w' => e = .returned (.bool true) ∧ Below w.heap.size w w' := by
  clear hU3
  have hU3 := True.intro
  clear hD3
  have hD3 := True.intro
  have hm := (mayB_iff a).1 ha
  obtain ⟨m1, m2, m3, m4⟩ := hm
  go_enter Try.func6, Try.ntmps6
  go_wp2_with (fail)
  refine (awake13 _).mono ?_; rintro e w1 ⟨rfl, hb1⟩
  have h3 := ((Blk.new w 24 #[.int .i64 a.up, .int .i64 a.dn]).alloc (.cells #[.int .i64 b.up, .int .i64 b.dn] 24)).below hb1 (by simp; omega)
  have h4 := (Blk.new (w.alloc (.cells #[.int .i64 a.up, .int .i64 a.dn] 24)) 24 #[.int .i64 b.up, .int .i64 b.dn]).below hb1 (by simp)
  simp at h4
  have H1 := (((Below.refl w.heap.size w).alloc (Nat.le_refl _) _).alloc (by simp) _).trans (hb1.mono (by simp; omega))
  clear hb1
  have c30 := h3.cell 0
  have c31 := h3.cell 1
  have c40 := h4.cell 0
  have c41 := h4.cell 1
  simp at c30 c31 c40 c41
  go_wp2_with (fail)
  refine (may_yes _ _ ha _).mono ?_; rintro e w2 ⟨rfl, hbN⟩
  replace h3 := h3.below hbN h3.lt
  replace h4 := h4.below hbN h4.lt
  have H2 := H1.trans (hbN.mono H1.size)
  clear hbN H1
  clear c30 c31 c40 c41
  have c30 := h3.cell 0
  have c31 := h3.cell 1
  have c40 := h4.cell 0
  have c41 := h4.cell 1
  simp at c30 c31 c40 c41
  go_wp2_with (fail)
  refine (may_yes _ _ hb _).mono ?_; rintro e w3 ⟨rfl, hbN⟩
  replace h3 := h3.below hbN h3.lt
  replace h4 := h4.below hbN h4.lt
  have H3 := H2.trans (hbN.mono H2.size)
  clear hbN H2
  clear c30 c31 c40 c41
  have c30 := h3.cell 0
  have c31 := h3.cell 1
  have c40 := h4.cell 0
  have c41 := h4.cell 1
  simp at c30 c31 c40 c41
  go_wp2_with (fail)
  refine (join_lit [a, b] U D _ 2 rfl rfl hab (by decide) _).mono ?_; rintro e w4 ⟨rfl, hb4⟩
  replace h3 := (h3.alloc _).below hb4 (h3.alloc _).lt
  replace h4 := (h4.alloc _).below hb4 (h4.alloc _).lt
  have H4 := (H3.alloc H3.size _).trans (hb4.mono (by have := H3.size; simp; omega))
  clear hb4 H3
  clear c30 c31 c40 c41
  have c30 := h3.cell 0
  have c31 := h3.cell 1
  have c40 := h4.cell 0
  have c41 := h4.cell 1
  simp at c30 c31 c40 c41
  go_wp2_with (fail)
  have h7 := Blk.new w4 24 #[.int .i64 U, .int .i64 D]
  replace h3 := h3.alloc (.cells #[.int .i64 U, .int .i64 D] 24)
  replace h4 := h4.alloc (.cells #[.int .i64 U, .int .i64 D] 24)
  have H5 := H4.alloc H4.size (.cells #[.int .i64 U, .int .i64 D] 24)
  obtain ⟨W, hW⟩ : ∃ W, w4.alloc (.cells #[.int .i64 U, .int .i64 D] 24) = W := ⟨_, rfl⟩
  obtain ⟨g7, hg7⟩ : ∃ g, w4.heap.size = g := ⟨_, rfl⟩
  rw [hW] at h3 h4 h7 H5 ⊢
  rw [hg7] at h7 ⊢
  clear hW hg7 H4
  clear c30 c31 c40 c41
  have c30 := h3.cell 0
  have c31 := h3.cell 1
  have c40 := h4.cell 0
  have c41 := h4.cell 1
  simp at c30 c31 c40 c41
  have c70 := h7.cell 0
  have c71 := h7.cell 1
  simp at c70 c71
  have l3 := h3.lt
  have l4 := h4.lt
  have l7 := h7.lt
  refine region_ord [(0, true), (1, true), (2, true), (3, true), (4, true), (5, true), (6, true), (7, true), (8, true), (9, true), (10, true), (11, true), (12, true), (13, true), (14, true), (15, true), (16, true), (17, true), (18, true), (19, true), (20, true), (21, true), (22, true), (23, true), (24, true), (25, true), (26, true), (27, true), (28, true), (29, true), (30, true), (31, true), (32, true), (33, true), (34, true), (35, true), (36, true), (37, true), (38, true), (39, true), (40, true), (41, true), (42, true), (43, true), (44, false), (45, false), (46, true), (47, true)]
    (fun w' => Below W.heap.size W w' ∧ ∀ b o, b < W.heap.size → w'.cell? ⟨b, o, none⟩ = W.cell? ⟨b, o, none⟩) 999 (by kernel_rfl) (by kernel_rfl) (by kernel_rfl) (by kernel_rfl) (by intro c a d v w h; cases d <;> exact h) (ext_of (Below.drew (Below.refl _ _))) ?_
  simp only [List.map_cons, List.map_nil, List.getElem?_toArray, List.getElem?_cons_succ, List.getElem?_cons_zero]
  have hB0 : Below W.heap.size W W.drew := Below.drew (Below.refl _ _)
  iterate 44 (first
    | (with_reducible refine L_yes ?_ ?_
       focus (go_simp; done)
       apply Exists.intro
       refine ⟨?_, ?_⟩
       (rintro w' ⟨_, hce⟩
        go_simp
        first | done | rfl | (rw [ite_next]))
       simp only [Act.put, List.setIfInBounds_toArray, List.set_cons_zero, List.set_cons_succ])
    | (with_reducible refine L_no ?_ ?_
       focus (go_simp; done)
       simp only [Act.put, List.setIfInBounds_toArray, List.set_cons_zero, List.set_cons_succ]))
  with_reducible refine L_main ?_ ?_
  focus (go_simp; done)
  intro K hK
  go_simp
  have hB1 := below_al hB0 (.cells #[.int .i64 b.up, .int .i64 b.dn, .int .i64 a.up, .int .i64 a.dn] 24)
  refine hK _ _ (fun _ => ext_of hB1) (fun hSx => ?_)
  clear hSx hK K
  with_reducible refine L_main ?_ ?_
  focus (go_simp; done)
  intro K hK
  go_simp
  refine (join_blk [b, a] U D W.heap.size 2 2 #[.int .i64 b.up, .int .i64 b.dn, .int .i64 a.up, .int .i64 a.dn] _ (Blk.new W 24 _).drew rfl rfl hba (by decide)).mono ?_
  rintro e w6 ⟨rfl, hbN⟩
  have hB2 := below_step hB1 hbN
  clear hbN
  dsimp only
  refine hK _ _ (fun _ => ext_of hB2) (fun hSx => ?_)
  clear hSx hK K
  iterate 2 (first
    | (with_reducible refine L_yes ?_ ?_
       focus (go_simp; done)
       apply Exists.intro
       refine ⟨?_, ?_⟩
       (rintro w' ⟨_, hce⟩
        go_simp
        first | done | rfl | (rw [ite_next]))
       simp only [Act.put, List.setIfInBounds_toArray, List.set_cons_zero, List.set_cons_succ])
    | (with_reducible refine L_no ?_ ?_
       focus (go_simp; done)
       simp only [Act.put, List.setIfInBounds_toArray, List.set_cons_zero, List.set_cons_succ]))
  refine L_nil ?_
  have H6 := H5.trans (hB2.mono H5.size)
  replace h3 := h3.below hB2 l3
  clear H5 h4 h7 l4 l7 hB0 hB1 hB2 l3 hab hba hU1 hD1 hU2 hD2 hU3 hD3 c70 c71 ha hb
  clear c30 c31 c40 c41
  have c30 := h3.cell 0
  have c31 := h3.cell 1
  simp at c30 c31
  have l3 := h3.lt
  go_wp2_with (fail)
  by_cases hn : n ≤ a.up
  · have hT : decide (n ≤ a.up) = true := by simpa using hn
    have hj : mJoin [a, ⟨max n 0, min n 0⟩] = ⟨a.up, min a.dn (min n 0)⟩ := by simp [mJoin, mj]; omega
    have HE := hidd (show (decide (min a.dn (min n 0) = a.dn) == decide (a.dn ≤ n)) = true by
      rw [beq_iff_eq, Bool.eq_iff_iff]; simp; omega)
    have HN := hidd hn
    clear hn
    refine region_ord [(0, true), (1, true), (5, true), (7, true), (8, true), (9, true), (10, true), (2, false), (3, false), (4, false), (6, true), (11, true), (12, true), (13, true), (14, true), (15, true), (16, true), (17, true), (18, true)]
      (fun w' => Below w6.heap.size w6 w' ∧ ∀ b o, b < w6.heap.size → w'.cell? ⟨b, o, none⟩ = w6.cell? ⟨b, o, none⟩) 999 (by kernel_rfl) (by kernel_rfl) (by kernel_rfl) (by kernel_rfl) (by intro c a d v w h; cases d <;> exact h) (ext_of (Below.drew (Below.refl _ _))) ?_
    simp only [List.map_cons, List.map_nil, List.getElem?_toArray, List.getElem?_cons_succ, List.getElem?_cons_zero]
    have hB0 : Below w6.heap.size w6 w6.drew := Below.drew (Below.refl _ _)
    iterate 7 (first
      | (with_reducible refine L_yes ?_ ?_
         focus (go_simp; done)
         apply Exists.intro
         refine ⟨?_, ?_⟩
         (rintro w' ⟨_, hce⟩
          go_simp
          first | done | rfl | (rw [ite_next]))
         simp only [Act.put, List.setIfInBounds_toArray, List.set_cons_zero, List.set_cons_succ])
      | (with_reducible refine L_no ?_ ?_
         focus (go_simp; done)
         simp only [Act.put, List.setIfInBounds_toArray, List.set_cons_zero, List.set_cons_succ]))
    with_reducible refine L_main ?_ ?_
    focus (go_simp; done)
    intro K hK
    go_simp
    refine (one_any n _).mono ?_
    rintro e w7 ⟨rfl, hbN⟩
    have hB1 := below_step hB0 hbN
    clear hbN
    dsimp only
    refine hK _ _ (fun _ => ext_of hB1) (fun hSx => ?_)
    clear hSx hK K
    with_reducible refine L_main ?_ ?_
    focus (go_simp; done)
    intro K hK
    go_simp
    have hB2 := below_al hB1 (.cells #[.int .i64 a.up, .int .i64 a.dn, .int .i64 (max n 0), .int .i64 (min n 0)] 24)
    refine hK _ _ (fun _ => ext_of hB2) (fun hSx => ?_)
    clear hSx hK K
    with_reducible refine L_main ?_ ?_
    focus (go_simp; done)
    intro K hK
    go_simp
    refine (join_blk [a, ⟨max n 0, min n 0⟩] a.up (min a.dn (min n 0)) w7.heap.size 2 2 #[.int .i64 a.up, .int .i64 a.dn, .int .i64 (max n 0), .int .i64 (min n 0)] _ (Blk.new w7 24 _) rfl rfl hj (by decide)).mono ?_
    rintro e w8 ⟨rfl, hbN⟩
    have hB3 := below_step hB2 hbN
    clear hbN
    dsimp only
    refine hK _ _ (fun _ => ext_of hB3) (fun hSx => ?_)
    clear hSx hK K
    iterate 9 (first
      | (with_reducible refine L_yes ?_ ?_
         focus (go_simp; done)
         apply Exists.intro
         refine ⟨?_, ?_⟩
         (rintro w' ⟨_, hce⟩
          go_simp
          first | done | rfl | (rw [ite_next]))
         simp only [Act.put, List.setIfInBounds_toArray, List.set_cons_zero, List.set_cons_succ])
      | (with_reducible refine L_no ?_ ?_
         focus (go_simp; done)
         simp only [Act.put, List.setIfInBounds_toArray, List.set_cons_zero, List.set_cons_succ]))
    refine L_nil ?_
    have H8 := H6.trans (hB3.mono H6.size)
    go_wp2_with (fail)
    go_ret
    exact ⟨ret_bool HE.out, H8⟩
  · have hT : decide (n ≤ a.up) = false := by simpa using hn
    have hj : mJoin [a, ⟨max n 0, min n 0⟩] = ⟨n, a.dn⟩ := by simp [mJoin, mj]; omega
    have hE : ¬ n = a.up := by omega
    clear hn
    refine region_ord [(0, true), (1, true), (5, true), (7, true), (8, true), (9, true), (10, true), (2, false), (3, false), (4, false), (6, true), (11, true), (12, true), (13, true), (14, true), (15, true), (16, true), (17, true), (18, true)]
      (fun w' => Below w6.heap.size w6 w' ∧ ∀ b o, b < w6.heap.size → w'.cell? ⟨b, o, none⟩ = w6.cell? ⟨b, o, none⟩) 999 (by kernel_rfl) (by kernel_rfl) (by kernel_rfl) (by kernel_rfl) (by intro c a d v w h; cases d <;> exact h) (ext_of (Below.drew (Below.refl _ _))) ?_
    simp only [List.map_cons, List.map_nil, List.getElem?_toArray, List.getElem?_cons_succ, List.getElem?_cons_zero]
    have hB0 : Below w6.heap.size w6 w6.drew := Below.drew (Below.refl _ _)
    iterate 7 (first
      | (with_reducible refine L_yes ?_ ?_
         focus (go_simp; done)
         apply Exists.intro
         refine ⟨?_, ?_⟩
         (rintro w' ⟨_, hce⟩
          go_simp
          first | done | rfl | (rw [ite_next]))
         simp only [Act.put, List.setIfInBounds_toArray, List.set_cons_zero, List.set_cons_succ])
      | (with_reducible refine L_no ?_ ?_
         focus (go_simp; done)
         simp only [Act.put, List.setIfInBounds_toArray, List.set_cons_zero, List.set_cons_succ]))
    with_reducible refine L_main ?_ ?_
    focus (go_simp; done)
    intro K hK
    go_simp
    refine (one_any n _).mono ?_
    rintro e w7 ⟨rfl, hbN⟩
    have hB1 := below_step hB0 hbN
    clear hbN
    dsimp only
    refine hK _ _ (fun _ => ext_of hB1) (fun hSx => ?_)
    clear hSx hK K
    with_reducible refine L_main ?_ ?_
    focus (go_simp; done)
    intro K hK
    go_simp
    have hB2 := below_al hB1 (.cells #[.int .i64 a.up, .int .i64 a.dn, .int .i64 (max n 0), .int .i64 (min n 0)] 24)
    refine hK _ _ (fun _ => ext_of hB2) (fun hSx => ?_)
    clear hSx hK K
    with_reducible refine L_main ?_ ?_
    focus (go_simp; done)
    intro K hK
    go_simp
    refine (join_blk [a, ⟨max n 0, min n 0⟩] n a.dn w7.heap.size 2 2 #[.int .i64 a.up, .int .i64 a.dn, .int .i64 (max n 0), .int .i64 (min n 0)] _ (Blk.new w7 24 _) rfl rfl hj (by decide)).mono ?_
    rintro e w8 ⟨rfl, hbN⟩
    have hB3 := below_step hB2 hbN
    clear hbN
    dsimp only
    refine hK _ _ (fun _ => ext_of hB3) (fun hSx => ?_)
    clear hSx hK K
    iterate 9 (first
      | (with_reducible refine L_yes ?_ ?_
         focus (go_simp; done)
         apply Exists.intro
         refine ⟨?_, ?_⟩
         (rintro w' ⟨_, hce⟩
          go_simp
          first | done | rfl | (rw [ite_next]))
         simp only [Act.put, List.setIfInBounds_toArray, List.set_cons_zero, List.set_cons_succ])
      | (with_reducible refine L_no ?_ ?_
         focus (go_simp; done)
         simp only [Act.put, List.setIfInBounds_toArray, List.set_cons_zero, List.set_cons_succ]))
    refine L_nil ?_
    have H8 := H6.trans (hB3.mono H6.size)
    go_wp2_with (fail)
    go_ret
    exact ⟨ret_bool (by simp), H8⟩

set_option maxRecDepth 100000 in
set_option maxHeartbeats 4000000 in
theorem more_ft (a b : Mg) (n U D : Int) (w : World) (ha : mayB a = true) (hb : mayB b = true) (hab : mJoin [a, b] = ⟨U, D⟩) (hba : mJoin [b, a] = ⟨U, D⟩)
    (hU1 : decide (U < a.up) = false) (hD1 : decide (a.dn < D) = false) (hU2 : (U != a.up) = false) (hD2 : (D != a.dn) = true) (hU3 : (U != b.up) = false ∨ (U != a.up) = false) (hD3 : (D != b.dn) = false ∨ (D != a.dn) = false) :
    Calls Try.prog 6 #[.agg #[.int .i64 a.up, .int .i64 a.dn], .agg #[.int .i64 b.up, .int .i64 b.dn], .int .i64 n] w fun e w' => e = .returned (.bool true) ∧ Below w.heap.size w w' := by
  clear hU3
  have hU3 := True.intro
  replace hD3 : (D != b.dn) = false := by rcases hD3 with h | h
                                          · exact h
                                          · rw [hD2] at h; cases h
  have hm := (mayB_iff a).1 ha
  obtain ⟨m1, m2, m3, m4⟩ := hm
  go_enter Try.func6, Try.ntmps6
  go_wp2_with (fail)
  refine (awake13 _).mono ?_; rintro e w1 ⟨rfl, hb1⟩
  have h3 := ((Blk.new w 24 #[.int .i64 a.up, .int .i64 a.dn]).alloc (.cells #[.int .i64 b.up, .int .i64 b.dn] 24)).below hb1 (by simp; omega)
  have h4 := (Blk.new (w.alloc (.cells #[.int .i64 a.up, .int .i64 a.dn] 24)) 24 #[.int .i64 b.up, .int .i64 b.dn]).below hb1 (by simp)
  simp at h4
  have H1 := (((Below.refl w.heap.size w).alloc (Nat.le_refl _) _).alloc (by simp) _).trans (hb1.mono (by simp; omega))
  clear hb1
  have c30 := h3.cell 0
  have c31 := h3.cell 1
  have c40 := h4.cell 0
  have c41 := h4.cell 1
  simp at c30 c31 c40 c41
  go_wp2_with (fail)
  refine (may_yes _ _ ha _).mono ?_; rintro e w2 ⟨rfl, hbN⟩
  replace h3 := h3.below hbN h3.lt
  replace h4 := h4.below hbN h4.lt
  have H2 := H1.trans (hbN.mono H1.size)
  clear hbN H1
  clear c30 c31 c40 c41
  have c30 := h3.cell 0
  have c31 := h3.cell 1
  have c40 := h4.cell 0
  have c41 := h4.cell 1
  simp at c30 c31 c40 c41
  go_wp2_with (fail)
  refine (may_yes _ _ hb _).mono ?_; rintro e w3 ⟨rfl, hbN⟩
  replace h3 := h3.below hbN h3.lt
  replace h4 := h4.below hbN h4.lt
  have H3 := H2.trans (hbN.mono H2.size)
  clear hbN H2
  clear c30 c31 c40 c41
  have c30 := h3.cell 0
  have c31 := h3.cell 1
  have c40 := h4.cell 0
  have c41 := h4.cell 1
  simp at c30 c31 c40 c41
  go_wp2_with (fail)
  refine (join_lit [a, b] U D _ 2 rfl rfl hab (by decide) _).mono ?_; rintro e w4 ⟨rfl, hb4⟩
  replace h3 := (h3.alloc _).below hb4 (h3.alloc _).lt
  replace h4 := (h4.alloc _).below hb4 (h4.alloc _).lt
  have H4 := (H3.alloc H3.size _).trans (hb4.mono (by have := H3.size; simp; omega))
  clear hb4 H3
  clear c30 c31 c40 c41
  have c30 := h3.cell 0
  have c31 := h3.cell 1
  have c40 := h4.cell 0
  have c41 := h4.cell 1
  simp at c30 c31 c40 c41
  go_wp2_with (fail)
  have h7 := Blk.new w4 24 #[.int .i64 U, .int .i64 D]
  replace h3 := h3.alloc (.cells #[.int .i64 U, .int .i64 D] 24)
  replace h4 := h4.alloc (.cells #[.int .i64 U, .int .i64 D] 24)
  have H5 := H4.alloc H4.size (.cells #[.int .i64 U, .int .i64 D] 24)
  obtain ⟨W, hW⟩ : ∃ W, w4.alloc (.cells #[.int .i64 U, .int .i64 D] 24) = W := ⟨_, rfl⟩
  obtain ⟨g7, hg7⟩ : ∃ g, w4.heap.size = g := ⟨_, rfl⟩
  rw [hW] at h3 h4 h7 H5 ⊢
  rw [hg7] at h7 ⊢
  clear hW hg7 H4
  clear c30 c31 c40 c41
  have c30 := h3.cell 0
  have c31 := h3.cell 1
  have c40 := h4.cell 0
  have c41 := h4.cell 1
  simp at c30 c31 c40 c41
  have c70 := h7.cell 0
  have c71 := h7.cell 1
  simp at c70 c71
  have l3 := h3.lt
  have l4 := h4.lt
  have l7 := h7.lt
  refine region_ord [(0, true), (1, true), (2, true), (3, true), (4, true), (5, true), (6, true), (7, true), (8, true), (9, true), (10, true), (11, true), (12, true), (13, true), (14, true), (15, true), (16, true), (17, true), (18, true), (19, true), (20, true), (21, true), (22, true), (23, true), (24, true), (25, true), (26, true), (27, true), (28, true), (29, true), (30, true), (31, true), (32, true), (33, true), (34, true), (35, true), (36, true), (37, true), (38, true), (39, true), (40, true), (41, true), (42, true), (43, true), (44, false), (45, false), (46, true), (47, true)]
    (fun w' => Below W.heap.size W w' ∧ ∀ b o, b < W.heap.size → w'.cell? ⟨b, o, none⟩ = W.cell? ⟨b, o, none⟩) 999 (by kernel_rfl) (by kernel_rfl) (by kernel_rfl) (by kernel_rfl) (by intro c a d v w h; cases d <;> exact h) (ext_of (Below.drew (Below.refl _ _))) ?_
  simp only [List.map_cons, List.map_nil, List.getElem?_toArray, List.getElem?_cons_succ, List.getElem?_cons_zero]
  have hB0 : Below W.heap.size W W.drew := Below.drew (Below.refl _ _)
  iterate 44 (first
    | (with_reducible refine L_yes ?_ ?_
       focus (go_simp; done)
       apply Exists.intro
       refine ⟨?_, ?_⟩
       (rintro w' ⟨_, hce⟩
        go_simp
        first | done | rfl | (rw [ite_next]))
       simp only [Act.put, List.setIfInBounds_toArray, List.set_cons_zero, List.set_cons_succ])
    | (with_reducible refine L_no ?_ ?_
       focus (go_simp; done)
       simp only [Act.put, List.setIfInBounds_toArray, List.set_cons_zero, List.set_cons_succ]))
  with_reducible refine L_main ?_ ?_
  focus (go_simp; done)
  intro K hK
  go_simp
  have hB1 := below_al hB0 (.cells #[.int .i64 b.up, .int .i64 b.dn, .int .i64 a.up, .int .i64 a.dn] 24)
  refine hK _ _ (fun _ => ext_of hB1) (fun hSx => ?_)
  clear hSx hK K
  with_reducible refine L_main ?_ ?_
  focus (go_simp; done)
  intro K hK
  go_simp
  refine (join_blk [b, a] U D W.heap.size 2 2 #[.int .i64 b.up, .int .i64 b.dn, .int .i64 a.up, .int .i64 a.dn] _ (Blk.new W 24 _).drew rfl rfl hba (by decide)).mono ?_
  rintro e w6 ⟨rfl, hbN⟩
  have hB2 := below_step hB1 hbN
  clear hbN
  dsimp only
  refine hK _ _ (fun _ => ext_of hB2) (fun hSx => ?_)
  clear hSx hK K
  iterate 2 (first
    | (with_reducible refine L_yes ?_ ?_
       focus (go_simp; done)
       apply Exists.intro
       refine ⟨?_, ?_⟩
       (rintro w' ⟨_, hce⟩
        go_simp
        first | done | rfl | (rw [ite_next]))
       simp only [Act.put, List.setIfInBounds_toArray, List.set_cons_zero, List.set_cons_succ])
    | (with_reducible refine L_no ?_ ?_
       focus (go_simp; done)
       simp only [Act.put, List.setIfInBounds_toArray, List.set_cons_zero, List.set_cons_succ]))
  refine L_nil ?_
  have H6 := H5.trans (hB2.mono H5.size)
  replace h3 := h3.below hB2 l3
  clear H5 h4 h7 l4 l7 hB0 hB1 hB2 l3 hab hba hU1 hD1 hU2 hD2 hU3 hD3 c70 c71 ha hb
  clear c30 c31 c40 c41
  have c30 := h3.cell 0
  have c31 := h3.cell 1
  simp at c30 c31
  have l3 := h3.lt
  go_wp2_with (fail)
  by_cases hn : n ≤ a.up
  · have hT : decide (n ≤ a.up) = true := by simpa using hn
    have hj : mJoin [a, ⟨max n 0, min n 0⟩] = ⟨a.up, min a.dn (min n 0)⟩ := by simp [mJoin, mj]; omega
    have HE := hidd (show (decide (min a.dn (min n 0) = a.dn) == decide (a.dn ≤ n)) = true by
      rw [beq_iff_eq, Bool.eq_iff_iff]; simp; omega)
    have HN := hidd hn
    clear hn
    refine region_ord [(0, true), (1, true), (5, true), (7, true), (8, true), (9, true), (10, true), (2, false), (3, false), (4, false), (6, true), (11, true), (12, true), (13, true), (14, true), (15, true), (16, true), (17, true), (18, true)]
      (fun w' => Below w6.heap.size w6 w' ∧ ∀ b o, b < w6.heap.size → w'.cell? ⟨b, o, none⟩ = w6.cell? ⟨b, o, none⟩) 999 (by kernel_rfl) (by kernel_rfl) (by kernel_rfl) (by kernel_rfl) (by intro c a d v w h; cases d <;> exact h) (ext_of (Below.drew (Below.refl _ _))) ?_
    simp only [List.map_cons, List.map_nil, List.getElem?_toArray, List.getElem?_cons_succ, List.getElem?_cons_zero]
    have hB0 : Below w6.heap.size w6 w6.drew := Below.drew (Below.refl _ _)
    iterate 7 (first
      | (with_reducible refine L_yes ?_ ?_
         focus (go_simp; done)
         apply Exists.intro
         refine ⟨?_, ?_⟩
         (rintro w' ⟨_, hce⟩
          go_simp
          first | done | rfl | (rw [ite_next]))
         simp only [Act.put, List.setIfInBounds_toArray, List.set_cons_zero, List.set_cons_succ])
      | (with_reducible refine L_no ?_ ?_
         focus (go_simp; done)
         simp only [Act.put, List.setIfInBounds_toArray, List.set_cons_zero, List.set_cons_succ]))
    with_reducible refine L_main ?_ ?_
    focus (go_simp; done)
    intro K hK
    go_simp
    refine (one_any n _).mono ?_
    rintro e w7 ⟨rfl, hbN⟩
    have hB1 := below_step hB0 hbN
    clear hbN
    dsimp only
    refine hK _ _ (fun _ => ext_of hB1) (fun hSx => ?_)
    clear hSx hK K
    with_reducible refine L_main ?_ ?_
    focus (go_simp; done)
    intro K hK
    go_simp
    have hB2 := below_al hB1 (.cells #[.int .i64 a.up, .int .i64 a.dn, .int .i64 (max n 0), .int .i64 (min n 0)] 24)
    refine hK _ _ (fun _ => ext_of hB2) (fun hSx => ?_)
    clear hSx hK K
    with_reducible refine L_main ?_ ?_
    focus (go_simp; done)
    intro K hK
    go_simp
    refine (join_blk [a, ⟨max n 0, min n 0⟩] a.up (min a.dn (min n 0)) w7.heap.size 2 2 #[.int .i64 a.up, .int .i64 a.dn, .int .i64 (max n 0), .int .i64 (min n 0)] _ (Blk.new w7 24 _) rfl rfl hj (by decide)).mono ?_
    rintro e w8 ⟨rfl, hbN⟩
    have hB3 := below_step hB2 hbN
    clear hbN
    dsimp only
    refine hK _ _ (fun _ => ext_of hB3) (fun hSx => ?_)
    clear hSx hK K
    iterate 9 (first
      | (with_reducible refine L_yes ?_ ?_
         focus (go_simp; done)
         apply Exists.intro
         refine ⟨?_, ?_⟩
         (rintro w' ⟨_, hce⟩
          go_simp
          first | done | rfl | (rw [ite_next]))
         simp only [Act.put, List.setIfInBounds_toArray, List.set_cons_zero, List.set_cons_succ])
      | (with_reducible refine L_no ?_ ?_
         focus (go_simp; done)
         simp only [Act.put, List.setIfInBounds_toArray, List.set_cons_zero, List.set_cons_succ]))
    refine L_nil ?_
    have H8 := H6.trans (hB3.mono H6.size)
    go_wp2_with (fail)
    go_ret
    exact ⟨ret_bool HE.out, H8⟩
  · have hT : decide (n ≤ a.up) = false := by simpa using hn
    have hj : mJoin [a, ⟨max n 0, min n 0⟩] = ⟨n, a.dn⟩ := by simp [mJoin, mj]; omega
    have hE : ¬ n = a.up := by omega
    clear hn
    refine region_ord [(0, true), (1, true), (5, true), (7, true), (8, true), (9, true), (10, true), (2, false), (3, false), (4, false), (6, true), (11, true), (12, true), (13, true), (14, true), (15, true), (16, true), (17, true), (18, true)]
      (fun w' => Below w6.heap.size w6 w' ∧ ∀ b o, b < w6.heap.size → w'.cell? ⟨b, o, none⟩ = w6.cell? ⟨b, o, none⟩) 999 (by kernel_rfl) (by kernel_rfl) (by kernel_rfl) (by kernel_rfl) (by intro c a d v w h; cases d <;> exact h) (ext_of (Below.drew (Below.refl _ _))) ?_
    simp only [List.map_cons, List.map_nil, List.getElem?_toArray, List.getElem?_cons_succ, List.getElem?_cons_zero]
    have hB0 : Below w6.heap.size w6 w6.drew := Below.drew (Below.refl _ _)
    iterate 7 (first
      | (with_reducible refine L_yes ?_ ?_
         focus (go_simp; done)
         apply Exists.intro
         refine ⟨?_, ?_⟩
         (rintro w' ⟨_, hce⟩
          go_simp
          first | done | rfl | (rw [ite_next]))
         simp only [Act.put, List.setIfInBounds_toArray, List.set_cons_zero, List.set_cons_succ])
      | (with_reducible refine L_no ?_ ?_
         focus (go_simp; done)
         simp only [Act.put, List.setIfInBounds_toArray, List.set_cons_zero, List.set_cons_succ]))
    with_reducible refine L_main ?_ ?_
    focus (go_simp; done)
    intro K hK
    go_simp
    refine (one_any n _).mono ?_
    rintro e w7 ⟨rfl, hbN⟩
    have hB1 := below_step hB0 hbN
    clear hbN
    dsimp only
    refine hK _ _ (fun _ => ext_of hB1) (fun hSx => ?_)
    clear hSx hK K
    with_reducible refine L_main ?_ ?_
    focus (go_simp; done)
    intro K hK
    go_simp
    have hB2 := below_al hB1 (.cells #[.int .i64 a.up, .int .i64 a.dn, .int .i64 (max n 0), .int .i64 (min n 0)] 24)
    refine hK _ _ (fun _ => ext_of hB2) (fun hSx => ?_)
    clear hSx hK K
    with_reducible refine L_main ?_ ?_
    focus (go_simp; done)
    intro K hK
    go_simp
    refine (join_blk [a, ⟨max n 0, min n 0⟩] n a.dn w7.heap.size 2 2 #[.int .i64 a.up, .int .i64 a.dn, .int .i64 (max n 0), .int .i64 (min n 0)] _ (Blk.new w7 24 _) rfl rfl hj (by decide)).mono ?_
    rintro e w8 ⟨rfl, hbN⟩
    have hB3 := below_step hB2 hbN
    clear hbN
    dsimp only
    refine hK _ _ (fun _ => ext_of hB3) (fun hSx => ?_)
    clear hSx hK K
    iterate 9 (first
      | (with_reducible refine L_yes ?_ ?_
         focus (go_simp; done)
         apply Exists.intro
         refine ⟨?_, ?_⟩
         (rintro w' ⟨_, hce⟩
          go_simp
          first | done | rfl | (rw [ite_next]))
         simp only [Act.put, List.setIfInBounds_toArray, List.set_cons_zero, List.set_cons_succ])
      | (with_reducible refine L_no ?_ ?_
         focus (go_simp; done)
         simp only [Act.put, List.setIfInBounds_toArray, List.set_cons_zero, List.set_cons_succ]))
    refine L_nil ?_
    have H8 := H6.trans (hB3.mono H6.size)
    go_wp2_with (fail)
    go_ret
    exact ⟨ret_bool (by simp), H8⟩

set_option maxRecDepth 100000 in
set_option maxHeartbeats 4000000 in
theorem more_tf (a b : Mg) (n U D : Int) (w : World) (ha : mayB a = true) (hb : mayB b = true) (hab : mJoin [a, b] = ⟨U, D⟩) (hba : mJoin [b, a] = ⟨U, D⟩)
    (hU1 : decide (U < a.up) = false) (hD1 : decide (a.dn < D) = false) (hU2 : (U != a.up) = true) (hD2 : (D != a.dn) = false) (hU3 : (U != b.up) = false ∨ (U != a.up) = false) (hD3 : (D != b.dn) = false ∨ (D != a.dn) = false) :
    Calls Try.prog 6 #[.agg #[.int .i64 a.up, .int .i64 a.dn], .agg #[.int .i64 b.up, .int .i64 b.dn], .int .i64 n] w fun e w' => e = .returned (.bool true) ∧ Below w.heap.size w w' := by
  replace hU3 : (U != b.up) = false := by rcases hU3 with h | h
                                          · exact h
                                          · rw [hU2] at h; cases h
  clear hD3
  have hD3 := True.intro
  have hm := (mayB_iff a).1 ha
  obtain ⟨m1, m2, m3, m4⟩ := hm
  go_enter Try.func6, Try.ntmps6
  go_wp2_with (fail)
  refine (awake13 _).mono ?_; rintro e w1 ⟨rfl, hb1⟩
  have h3 := ((Blk.new w 24 #[.int .i64 a.up, .int .i64 a.dn]).alloc (.cells #[.int .i64 b.up, .int .i64 b.dn] 24)).below hb1 (by simp; omega)
  have h4 := (Blk.new (w.alloc (.cells #[.int .i64 a.up, .int .i64 a.dn] 24)) 24 #[.int .i64 b.up, .int .i64 b.dn]).below hb1 (by simp)
  simp at h4
  have H1 := (((Below.refl w.heap.size w).alloc (Nat.le_refl _) _).alloc (by simp) _).trans (hb1.mono (by simp; omega))
  clear hb1
  have c30 := h3.cell 0
  have c31 := h3.cell 1
  have c40 := h4.cell 0
  have c41 := h4.cell 1
  simp at c30 c31 c40 c41
  go_wp2_with (fail)
  refine (may_yes _ _ ha _).mono ?_; rintro e w2 ⟨rfl, hbN⟩
  replace h3 := h3.below hbN h3.lt
  replace h4 := h4.below hbN h4.lt
  have H2 := H1.trans (hbN.mono H1.size)
  clear hbN H1
  clear c30 c31 c40 c41
  have c30 := h3.cell 0
  have c31 := h3.cell 1
  have c40 := h4.cell 0
  have c41 := h4.cell 1
  simp at c30 c31 c40 c41
  go_wp2_with (fail)
  refine (may_yes _ _ hb _).mono ?_; rintro e w3 ⟨rfl, hbN⟩
  replace h3 := h3.below hbN h3.lt
  replace h4 := h4.below hbN h4.lt
  have H3 := H2.trans (hbN.mono H2.size)
  clear hbN H2
  clear c30 c31 c40 c41
  have c30 := h3.cell 0
  have c31 := h3.cell 1
  have c40 := h4.cell 0
  have c41 := h4.cell 1
  simp at c30 c31 c40 c41
  go_wp2_with (fail)
  refine (join_lit [a, b] U D _ 2 rfl rfl hab (by decide) _).mono ?_; rintro e w4 ⟨rfl, hb4⟩
  replace h3 := (h3.alloc _).below hb4 (h3.alloc _).lt
  replace h4 := (h4.alloc _).below hb4 (h4.alloc _).lt
  have H4 := (H3.alloc H3.size _).trans (hb4.mono (by have := H3.size; simp; omega))
  clear hb4 H3
  clear c30 c31 c40 c41
  have c30 := h3.cell 0
  have c31 := h3.cell 1
  have c40 := h4.cell 0
  have c41 := h4.cell 1
  simp at c30 c31 c40 c41
  go_wp2_with (fail)
  have h7 := Blk.new w4 24 #[.int .i64 U, .int .i64 D]
  replace h3 := h3.alloc (.cells #[.int .i64 U, .int .i64 D] 24)
  replace h4 := h4.alloc (.cells #[.int .i64 U, .int .i64 D] 24)
  have H5 := H4.alloc H4.size (.cells #[.int .i64 U, .int .i64 D] 24)
  obtain ⟨W, hW⟩ : ∃ W, w4.alloc (.cells #[.int .i64 U, .int .i64 D] 24) = W := ⟨_, rfl⟩
  obtain ⟨g7, hg7⟩ : ∃ g, w4.heap.size = g := ⟨_, rfl⟩
  rw [hW] at h3 h4 h7 H5 ⊢
  rw [hg7] at h7 ⊢
  clear hW hg7 H4
  clear c30 c31 c40 c41
  have c30 := h3.cell 0
  have c31 := h3.cell 1
  have c40 := h4.cell 0
  have c41 := h4.cell 1
  simp at c30 c31 c40 c41
  have c70 := h7.cell 0
  have c71 := h7.cell 1
  simp at c70 c71
  have l3 := h3.lt
  have l4 := h4.lt
  have l7 := h7.lt
  refine region_ord [(0, true), (1, true), (2, true), (3, true), (4, true), (5, true), (6, true), (7, true), (8, true), (9, true), (10, true), (11, true), (12, true), (13, true), (14, true), (15, true), (16, true), (17, true), (18, true), (19, true), (20, true), (21, true), (22, true), (23, true), (24, true), (25, true), (26, true), (27, true), (28, true), (29, true), (30, true), (31, true), (32, true), (33, true), (34, true), (35, true), (36, true), (37, true), (38, true), (39, true), (40, true), (41, true), (42, true), (43, true), (44, false), (45, false), (46, true), (47, true)]
    (fun w' => Below W.heap.size W w' ∧ ∀ b o, b < W.heap.size → w'.cell? ⟨b, o, none⟩ = W.cell? ⟨b, o, none⟩) 999 (by kernel_rfl) (by kernel_rfl) (by kernel_rfl) (by kernel_rfl) (by intro c a d v w h; cases d <;> exact h) (ext_of (Below.drew (Below.refl _ _))) ?_
  simp only [List.map_cons, List.map_nil, List.getElem?_toArray, List.getElem?_cons_succ, List.getElem?_cons_zero]
  have hB0 : Below W.heap.size W W.drew := Below.drew (Below.refl _ _)
  iterate 44 (first
    | (with_reducible refine L_yes ?_ ?_
       focus (go_simp; done)
       apply Exists.intro
       refine ⟨?_, ?_⟩
       (rintro w' ⟨_, hce⟩
        go_simp
        first | done | rfl | (rw [ite_next]))
       simp only [Act.put, List.setIfInBounds_toArray, List.set_cons_zero, List.set_cons_succ])
    | (with_reducible refine L_no ?_ ?_
       focus (go_simp; done)
       simp only [Act.put, List.setIfInBounds_toArray, List.set_cons_zero, List.set_cons_succ]))
  with_reducible refine L_main ?_ ?_
  focus (go_simp; done)
  intro K hK
  go_simp
  have hB1 := below_al hB0 (.cells #[.int .i64 b.up, .int .i64 b.dn, .int .i64 a.up, .int .i64 a.dn] 24)
  refine hK _ _ (fun _ => ext_of hB1) (fun hSx => ?_)
  clear hSx hK K
  with_reducible refine L_main ?_ ?_
  focus (go_simp; done)
  intro K hK
  go_simp
  refine (join_blk [b, a] U D W.heap.size 2 2 #[.int .i64 b.up, .int .i64 b.dn, .int .i64 a.up, .int .i64 a.dn] _ (Blk.new W 24 _).drew rfl rfl hba (by decide)).mono ?_
  rintro e w6 ⟨rfl, hbN⟩
  have hB2 := below_step hB1 hbN
  clear hbN
  dsimp only
  refine hK _ _ (fun _ => ext_of hB2) (fun hSx => ?_)
  clear hSx hK K
  iterate 2 (first
    | (with_reducible refine L_yes ?_ ?_
       focus (go_simp; done)
       apply Exists.intro
       refine ⟨?_, ?_⟩
       (rintro w' ⟨_, hce⟩
        go_simp
        first | done | rfl | (rw [ite_next]))
       simp only [Act.put, List.setIfInBounds_toArray, List.set_cons_zero, List.set_cons_succ])
    | (with_reducible refine L_no ?_ ?_
       focus (go_simp; done)
       simp only [Act.put, List.setIfInBounds_toArray, List.set_cons_zero, List.set_cons_succ]))
  refine L_nil ?_
  have H6 := H5.trans (hB2.mono H5.size)
  replace h3 := h3.below hB2 l3
  clear H5 h4 h7 l4 l7 hB0 hB1 hB2 l3 hab hba hU1 hD1 hU2 hD2 hU3 hD3 c70 c71 ha hb
  clear c30 c31 c40 c41
  have c30 := h3.cell 0
  have c31 := h3.cell 1
  simp at c30 c31
  have l3 := h3.lt
  go_wp2_with (fail)
  by_cases hn : n ≤ a.up
  · have hT : decide (n ≤ a.up) = true := by simpa using hn
    have hj : mJoin [a, ⟨max n 0, min n 0⟩] = ⟨a.up, min a.dn (min n 0)⟩ := by simp [mJoin, mj]; omega
    have HE := hidd (show (decide (min a.dn (min n 0) = a.dn) == decide (a.dn ≤ n)) = true by
      rw [beq_iff_eq, Bool.eq_iff_iff]; simp; omega)
    have HN := hidd hn
    clear hn
    refine region_ord [(0, true), (1, true), (5, true), (7, true), (8, true), (9, true), (10, true), (2, false), (3, false), (4, false), (6, true), (11, true), (12, true), (13, true), (14, true), (15, true), (16, true), (17, true), (18, true)]
      (fun w' => Below w6.heap.size w6 w' ∧ ∀ b o, b < w6.heap.size → w'.cell? ⟨b, o, none⟩ = w6.cell? ⟨b, o, none⟩) 999 (by kernel_rfl) (by kernel_rfl) (by kernel_rfl) (by kernel_rfl) (by intro c a d v w h; cases d <;> exact h) (ext_of (Below.drew (Below.refl _ _))) ?_
    simp only [List.map_cons, List.map_nil, List.getElem?_toArray, List.getElem?_cons_succ, List.getElem?_cons_zero]
    have hB0 : Below w6.heap.size w6 w6.drew := Below.drew (Below.refl _ _)
    iterate 7 (first
      | (with_reducible refine L_yes ?_ ?_
         focus (go_simp; done)
         apply Exists.intro
         refine ⟨?_, ?_⟩
         (rintro w' ⟨_, hce⟩
          go_simp
          first | done | rfl | (rw [ite_next]))
         simp only [Act.put, List.setIfInBounds_toArray, List.set_cons_zero, List.set_cons_succ])
      | (with_reducible refine L_no ?_ ?_
         focus (go_simp; done)
         simp only [Act.put, List.setIfInBounds_toArray, List.set_cons_zero, List.set_cons_succ]))
    with_reducible refine L_main ?_ ?_
    focus (go_simp; done)
    intro K hK
    go_simp
    refine (one_any n _).mono ?_
    rintro e w7 ⟨rfl, hbN⟩
    have hB1 := below_step hB0 hbN
    clear hbN
    dsimp only
    refine hK _ _ (fun _ => ext_of hB1) (fun hSx => ?_)
    clear hSx hK K
    with_reducible refine L_main ?_ ?_
    focus (go_simp; done)
    intro K hK
    go_simp
    have hB2 := below_al hB1 (.cells #[.int .i64 a.up, .int .i64 a.dn, .int .i64 (max n 0), .int .i64 (min n 0)] 24)
    refine hK _ _ (fun _ => ext_of hB2) (fun hSx => ?_)
    clear hSx hK K
    with_reducible refine L_main ?_ ?_
    focus (go_simp; done)
    intro K hK
    go_simp
    refine (join_blk [a, ⟨max n 0, min n 0⟩] a.up (min a.dn (min n 0)) w7.heap.size 2 2 #[.int .i64 a.up, .int .i64 a.dn, .int .i64 (max n 0), .int .i64 (min n 0)] _ (Blk.new w7 24 _) rfl rfl hj (by decide)).mono ?_
    rintro e w8 ⟨rfl, hbN⟩
    have hB3 := below_step hB2 hbN
    clear hbN
    dsimp only
    refine hK _ _ (fun _ => ext_of hB3) (fun hSx => ?_)
    clear hSx hK K
    iterate 9 (first
      | (with_reducible refine L_yes ?_ ?_
         focus (go_simp; done)
         apply Exists.intro
         refine ⟨?_, ?_⟩
         (rintro w' ⟨_, hce⟩
          go_simp
          first | done | rfl | (rw [ite_next]))
         simp only [Act.put, List.setIfInBounds_toArray, List.set_cons_zero, List.set_cons_succ])
      | (with_reducible refine L_no ?_ ?_
         focus (go_simp; done)
         simp only [Act.put, List.setIfInBounds_toArray, List.set_cons_zero, List.set_cons_succ]))
    refine L_nil ?_
    have H8 := H6.trans (hB3.mono H6.size)
    go_wp2_with (fail)
    go_ret
    exact ⟨ret_bool HE.out, H8⟩
  · have hT : decide (n ≤ a.up) = false := by simpa using hn
    have hj : mJoin [a, ⟨max n 0, min n 0⟩] = ⟨n, a.dn⟩ := by simp [mJoin, mj]; omega
    have hE : ¬ n = a.up := by omega
    clear hn
    refine region_ord [(0, true), (1, true), (5, true), (7, true), (8, true), (9, true), (10, true), (2, false), (3, false), (4, false), (6, true), (11, true), (12, true), (13, true), (14, true), (15, true), (16, true), (17, true), (18, true)]
      (fun w' => Below w6.heap.size w6 w' ∧ ∀ b o, b < w6.heap.size → w'.cell? ⟨b, o, none⟩ = w6.cell? ⟨b, o, none⟩) 999 (by kernel_rfl) (by kernel_rfl) (by kernel_rfl) (by kernel_rfl) (by intro c a d v w h; cases d <;> exact h) (ext_of (Below.drew (Below.refl _ _))) ?_
    simp only [List.map_cons, List.map_nil, List.getElem?_toArray, List.getElem?_cons_succ, List.getElem?_cons_zero]
    have hB0 : Below w6.heap.size w6 w6.drew := Below.drew (Below.refl _ _)
    iterate 7 (first
      | (with_reducible refine L_yes ?_ ?_
         focus (go_simp; done)
         apply Exists.intro
         refine ⟨?_, ?_⟩
         (rintro w' ⟨_, hce⟩
          go_simp
          first | done | rfl | (rw [ite_next]))
         simp only [Act.put, List.setIfInBounds_toArray, List.set_cons_zero, List.set_cons_succ])
      | (with_reducible refine L_no ?_ ?_
         focus (go_simp; done)
         simp only [Act.put, List.setIfInBounds_toArray, List.set_cons_zero, List.set_cons_succ]))
    with_reducible refine L_main ?_ ?_
    focus (go_simp; done)
    intro K hK
    go_simp
    refine (one_any n _).mono ?_
    rintro e w7 ⟨rfl, hbN⟩
    have hB1 := below_step hB0 hbN
    clear hbN
    dsimp only
    refine hK _ _ (fun _ => ext_of hB1) (fun hSx => ?_)
    clear hSx hK K
    with_reducible refine L_main ?_ ?_
    focus (go_simp; done)
    intro K hK
    go_simp
    have hB2 := below_al hB1 (.cells #[.int .i64 a.up, .int .i64 a.dn, .int .i64 (max n 0), .int .i64 (min n 0)] 24)
    refine hK _ _ (fun _ => ext_of hB2) (fun hSx => ?_)
    clear hSx hK K
    with_reducible refine L_main ?_ ?_
    focus (go_simp; done)
    intro K hK
    go_simp
    refine (join_blk [a, ⟨max n 0, min n 0⟩] n a.dn w7.heap.size 2 2 #[.int .i64 a.up, .int .i64 a.dn, .int .i64 (max n 0), .int .i64 (min n 0)] _ (Blk.new w7 24 _) rfl rfl hj (by decide)).mono ?_
    rintro e w8 ⟨rfl, hbN⟩
    have hB3 := below_step hB2 hbN
    clear hbN
    dsimp only
    refine hK _ _ (fun _ => ext_of hB3) (fun hSx => ?_)
    clear hSx hK K
    iterate 9 (first
      | (with_reducible refine L_yes ?_ ?_
         focus (go_simp; done)
         apply Exists.intro
         refine ⟨?_, ?_⟩
         (rintro w' ⟨_, hce⟩
          go_simp
          first | done | rfl | (rw [ite_next]))
         simp only [Act.put, List.setIfInBounds_toArray, List.set_cons_zero, List.set_cons_succ])
      | (with_reducible refine L_no ?_ ?_
         focus (go_simp; done)
         simp only [Act.put, List.setIfInBounds_toArray, List.set_cons_zero, List.set_cons_succ]))
    refine L_nil ?_
    have H8 := H6.trans (hB3.mono H6.size)
    go_wp2_with (fail)
    go_ret
    exact ⟨ret_bool (by simp), H8⟩

set_option maxRecDepth 100000 in
set_option maxHeartbeats 4000000 in
theorem more_tt (a b : Mg) (n U D : Int) (w : World) (ha : mayB a = true) (hb : mayB b = true) (hab : mJoin [a, b] = ⟨U, D⟩) (hba : mJoin [b, a] = ⟨U, D⟩)
    (hU1 : decide (U < a.up) = false) (hD1 : decide (a.dn < D) = false) (hU2 : (U != a.up) = true) (hD2 : (D != a.dn) = true) (hU3 : (U != b.up) = false ∨ (U != a.up) = false) (hD3 : (D != b.dn) = false ∨ (D != a.dn) = false) :
    Calls Try.prog 6 #[.agg #[.int .i64 a.up, .int .i64 a.dn], .agg #[.int .i64 b.up, .int .i64 b.dn], .int .i64 n] w fun e w' => e = .returned (.bool true) ∧ Below w.heap.size w w' := by
  replace hU3 : (U != b.up) = false := by rcases hU3 with h | h
                                          · exact h
                                          · rw [hU2] at h; cases h
  replace hD3 : (D != b.dn) = false := by rcases hD3 with h | h
                                          · exact h
                                          · rw [hD2] at h; cases h
  have hm := (mayB_iff a).1 ha
  obtain ⟨m1, m2, m3, m4⟩ := hm
  go_enter Try.func6, Try.ntmps6
  go_wp2_with (fail)
  refine (awake13 _).mono ?_; rintro e w1 ⟨rfl, hb1⟩
  have h3 := ((Blk.new w 24 #[.int .i64 a.up, .int .i64 a.dn]).alloc (.cells #[.int .i64 b.up, .int .i64 b.dn] 24)).below hb1 (by simp; omega)
  have h4 := (Blk.new (w.alloc (.cells #[.int .i64 a.up, .int .i64 a.dn] 24)) 24 #[.int .i64 b.up, .int .i64 b.dn]).below hb1 (by simp)
  simp at h4
  have H1 := (((Below.refl w.heap.size w).alloc (Nat.le_refl _) _).alloc (by simp) _).trans (hb1.mono (by simp; omega))
  clear hb1
  have c30 := h3.cell 0
  have c31 := h3.cell 1
  have c40 := h4.cell 0
  have c41 := h4.cell 1
  simp at c30 c31 c40 c41
  go_wp2_with (fail)
  refine (may_yes _ _ ha _).mono ?_; rintro e w2 ⟨rfl, hbN⟩
  replace h3 := h3.below hbN h3.lt
  replace h4 := h4.below hbN h4.lt
  have H2 := H1.trans (hbN.mono H1.size)
  clear hbN H1
  clear c30 c31 c40 c41
  have c30 := h3.cell 0
  have c31 := h3.cell 1
  have c40 := h4.cell 0
  have c41 := h4.cell 1
  simp at c30 c31 c40 c41
  go_wp2_with (fail)
  refine (may_yes _ _ hb _).mono ?_; rintro e w3 ⟨rfl, hbN⟩
  replace h3 := h3.below hbN h3.lt
  replace h4 := h4.below hbN h4.lt
  have H3 := H2.trans (hbN.mono H2.size)
  clear hbN H2
  clear c30 c31 c40 c41
  have c30 := h3.cell 0
  have c31 := h3.cell 1
  have c40 := h4.cell 0
  have c41 := h4.cell 1
  simp at c30 c31 c40 c41
  go_wp2_with (fail)
  refine (join_lit [a, b] U D _ 2 rfl rfl hab (by decide) _).mono ?_; rintro e w4 ⟨rfl, hb4⟩
  replace h3 := (h3.alloc _).below hb4 (h3.alloc _).lt
  replace h4 := (h4.alloc _).below hb4 (h4.alloc _).lt
  have H4 := (H3.alloc H3.size _).trans (hb4.mono (by have := H3.size; simp; omega))
  clear hb4 H3
  clear c30 c31 c40 c41
  have c30 := h3.cell 0
  have c31 := h3.cell 1
  have c40 := h4.cell 0
  have c41 := h4.cell 1
  simp at c30 c31 c40 c41
  go_wp2_with (fail)
  have h7 := Blk.new w4 24 #[.int .i64 U, .int .i64 D]
  replace h3 := h3.alloc (.cells #[.int .i64 U, .int .i64 D] 24)
  replace h4 := h4.alloc (.cells #[.int .i64 U, .int .i64 D] 24)
  have H5 := H4.alloc H4.size (.cells #[.int .i64 U, .int .i64 D] 24)
  obtain ⟨W, hW⟩ : ∃ W, w4.alloc (.cells #[.int .i64 U, .int .i64 D] 24) = W := ⟨_, rfl⟩
  obtain ⟨g7, hg7⟩ : ∃ g, w4.heap.size = g := ⟨_, rfl⟩
  rw [hW] at h3 h4 h7 H5 ⊢
  rw [hg7] at h7 ⊢
  clear hW hg7 H4
  clear c30 c31 c40 c41
  have c30 := h3.cell 0
  have c31 := h3.cell 1
  have c40 := h4.cell 0
  have c41 := h4.cell 1
  simp at c30 c31 c40 c41
  have c70 := h7.cell 0
  have c71 := h7.cell 1
  simp at c70 c71
  have l3 := h3.lt
  have l4 := h4.lt
  have l7 := h7.lt
  refine region_ord [(0, true), (1, true), (2, true), (3, true), (4, true), (5, true), (6, true), (7, true), (8, true), (9, true), (10, true), (11, true), (12, true), (13, true), (14, true), (15, true), (16, true), (17, true), (18, true), (19, true), (20, true), (21, true), (22, true), (23, true), (24, true), (25, true), (26, true), (27, true), (28, true), (29, true), (30, true), (31, true), (32, true), (33, true), (34, true), (35, true), (36, true), (37, true), (38, true), (39, true), (40, true), (41, true), (42, true), (43, true), (44, false), (45, false), (46, true), (47, true)]
    (fun w' => Below W.heap.size W w' ∧ ∀ b o, b < W.heap.size → w'.cell? ⟨b, o, none⟩ = W.cell? ⟨b, o, none⟩) 999 (by kernel_rfl) (by kernel_rfl) (by kernel_rfl) (by kernel_rfl) (by intro c a d v w h; cases d <;> exact h) (ext_of (Below.drew (Below.refl _ _))) ?_
  simp only [List.map_cons, List.map_nil, List.getElem?_toArray, List.getElem?_cons_succ, List.getElem?_cons_zero]
  have hB0 : Below W.heap.size W W.drew := Below.drew (Below.refl _ _)
  iterate 44 (first
    | (with_reducible refine L_yes ?_ ?_
       focus (go_simp; done)
       apply Exists.intro
       refine ⟨?_, ?_⟩
       (rintro w' ⟨_, hce⟩
        go_simp
        first | done | rfl | (rw [ite_next]))
       simp only [Act.put, List.setIfInBounds_toArray, List.set_cons_zero, List.set_cons_succ])
    | (with_reducible refine L_no ?_ ?_
       focus (go_simp; done)
       simp only [Act.put, List.setIfInBounds_toArray, List.set_cons_zero, List.set_cons_succ]))
  with_reducible refine L_main ?_ ?_
  focus (go_simp; done)
  intro K hK
  go_simp
  have hB1 := below_al hB0 (.cells #[.int .i64 b.up, .int .i64 b.dn, .int .i64 a.up, .int .i64 a.dn] 24)
  refine hK _ _ (fun _ => ext_of hB1) (fun hSx => ?_)
  clear hSx hK K
  with_reducible refine L_main ?_ ?_
  focus (go_simp; done)
  intro K hK
  go_simp
  refine (join_blk [b, a] U D W.heap.size 2 2 #[.int .i64 b.up, .int .i64 b.dn, .int .i64 a.up, .int .i64 a.dn] _ (Blk.new W 24 _).drew rfl rfl hba (by decide)).mono ?_
  rintro e w6 ⟨rfl, hbN⟩
  have hB2 := below_step hB1 hbN
  clear hbN
  dsimp only
  refine hK _ _ (fun _ => ext_of hB2) (fun hSx => ?_)
  clear hSx hK K
  iterate 2 (first
    | (with_reducible refine L_yes ?_ ?_
       focus (go_simp; done)
       apply Exists.intro
       refine ⟨?_, ?_⟩
       (rintro w' ⟨_, hce⟩
        go_simp
        first | done | rfl | (rw [ite_next]))
       simp only [Act.put, List.setIfInBounds_toArray, List.set_cons_zero, List.set_cons_succ])
    | (with_reducible refine L_no ?_ ?_
       focus (go_simp; done)
       simp only [Act.put, List.setIfInBounds_toArray, List.set_cons_zero, List.set_cons_succ]))
  refine L_nil ?_
  have H6 := H5.trans (hB2.mono H5.size)
  replace h3 := h3.below hB2 l3
  clear H5 h4 h7 l4 l7 hB0 hB1 hB2 l3 hab hba hU1 hD1 hU2 hD2 hU3 hD3 c70 c71 ha hb
  clear c30 c31 c40 c41
  have c30 := h3.cell 0
  have c31 := h3.cell 1
  simp at c30 c31
  have l3 := h3.lt
  go_wp2_with (fail)
  by_cases hn : n ≤ a.up
  · have hT : decide (n ≤ a.up) = true := by simpa using hn
    have hj : mJoin [a, ⟨max n 0, min n 0⟩] = ⟨a.up, min a.dn (min n 0)⟩ := by simp [mJoin, mj]; omega
    have HE := hidd (show (decide (min a.dn (min n 0) = a.dn) == decide (a.dn ≤ n)) = true by
      rw [beq_iff_eq, Bool.eq_iff_iff]; simp; omega)
    have HN := hidd hn
    clear hn
    refine region_ord [(0, true), (1, true), (5, true), (7, true), (8, true), (9, true), (10, true), (2, false), (3, false), (4, false), (6, true), (11, true), (12, true), (13, true), (14, true), (15, true), (16, true), (17, true), (18, true)]
      (fun w' => Below w6.heap.size w6 w' ∧ ∀ b o, b < w6.heap.size → w'.cell? ⟨b, o, none⟩ = w6.cell? ⟨b, o, none⟩) 999 (by kernel_rfl) (by kernel_rfl) (by kernel_rfl) (by kernel_rfl) (by intro c a d v w h; cases d <;> exact h) (ext_of (Below.drew (Below.refl _ _))) ?_
    simp only [List.map_cons, List.map_nil, List.getElem?_toArray, List.getElem?_cons_succ, List.getElem?_cons_zero]
    have hB0 : Below w6.heap.size w6 w6.drew := Below.drew (Below.refl _ _)
    iterate 7 (first
      | (with_reducible refine L_yes ?_ ?_
         focus (go_simp; done)
         apply Exists.intro
         refine ⟨?_, ?_⟩
         (rintro w' ⟨_, hce⟩
          go_simp
          first | done | rfl | (rw [ite_next]))
         simp only [Act.put, List.setIfInBounds_toArray, List.set_cons_zero, List.set_cons_succ])
      | (with_reducible refine L_no ?_ ?_
         focus (go_simp; done)
         simp only [Act.put, List.setIfInBounds_toArray, List.set_cons_zero, List.set_cons_succ]))
    with_reducible refine L_main ?_ ?_
    focus (go_simp; done)
    intro K hK
    go_simp
    refine (one_any n _).mono ?_
    rintro e w7 ⟨rfl, hbN⟩
    have hB1 := below_step hB0 hbN
    clear hbN
    dsimp only
    refine hK _ _ (fun _ => ext_of hB1) (fun hSx => ?_)
    clear hSx hK K
    with_reducible refine L_main ?_ ?_
    focus (go_simp; done)
    intro K hK
    go_simp
    have hB2 := below_al hB1 (.cells #[.int .i64 a.up, .int .i64 a.dn, .int .i64 (max n 0), .int .i64 (min n 0)] 24)
    refine hK _ _ (fun _ => ext_of hB2) (fun hSx => ?_)
    clear hSx hK K
    with_reducible refine L_main ?_ ?_
    focus (go_simp; done)
    intro K hK
    go_simp
    refine (join_blk [a, ⟨max n 0, min n 0⟩] a.up (min a.dn (min n 0)) w7.heap.size 2 2 #[.int .i64 a.up, .int .i64 a.dn, .int .i64 (max n 0), .int .i64 (min n 0)] _ (Blk.new w7 24 _) rfl rfl hj (by decide)).mono ?_
    rintro e w8 ⟨rfl, hbN⟩
    have hB3 := below_step hB2 hbN
    clear hbN
    dsimp only
    refine hK _ _ (fun _ => ext_of hB3) (fun hSx => ?_)
    clear hSx hK K
    iterate 9 (first
      | (with_reducible refine L_yes ?_ ?_
         focus (go_simp; done)
         apply Exists.intro
         refine ⟨?_, ?_⟩
         (rintro w' ⟨_, hce⟩
          go_simp
          first | done | rfl | (rw [ite_next]))
         simp only [Act.put, List.setIfInBounds_toArray, List.set_cons_zero, List.set_cons_succ])
      | (with_reducible refine L_no ?_ ?_
         focus (go_simp; done)
         simp only [Act.put, List.setIfInBounds_toArray, List.set_cons_zero, List.set_cons_succ]))
    refine L_nil ?_
    have H8 := H6.trans (hB3.mono H6.size)
    go_wp2_with (fail)
    go_ret
    exact ⟨ret_bool HE.out, H8⟩
  · have hT : decide (n ≤ a.up) = false := by simpa using hn
    have hj : mJoin [a, ⟨max n 0, min n 0⟩] = ⟨n, a.dn⟩ := by simp [mJoin, mj]; omega
    have hE : ¬ n = a.up := by omega
    clear hn
    refine region_ord [(0, true), (1, true), (5, true), (7, true), (8, true), (9, true), (10, true), (2, false), (3, false), (4, false), (6, true), (11, true), (12, true), (13, true), (14, true), (15, true), (16, true), (17, true), (18, true)]
      (fun w' => Below w6.heap.size w6 w' ∧ ∀ b o, b < w6.heap.size → w'.cell? ⟨b, o, none⟩ = w6.cell? ⟨b, o, none⟩) 999 (by kernel_rfl) (by kernel_rfl) (by kernel_rfl) (by kernel_rfl) (by intro c a d v w h; cases d <;> exact h) (ext_of (Below.drew (Below.refl _ _))) ?_
    simp only [List.map_cons, List.map_nil, List.getElem?_toArray, List.getElem?_cons_succ, List.getElem?_cons_zero]
    have hB0 : Below w6.heap.size w6 w6.drew := Below.drew (Below.refl _ _)
    iterate 7 (first
      | (with_reducible refine L_yes ?_ ?_
         focus (go_simp; done)
         apply Exists.intro
         refine ⟨?_, ?_⟩
         (rintro w' ⟨_, hce⟩
          go_simp
          first | done | rfl | (rw [ite_next]))
         simp only [Act.put, List.setIfInBounds_toArray, List.set_cons_zero, List.set_cons_succ])
      | (with_reducible refine L_no ?_ ?_
         focus (go_simp; done)
         simp only [Act.put, List.setIfInBounds_toArray, List.set_cons_zero, List.set_cons_succ]))
    with_reducible refine L_main ?_ ?_
    focus (go_simp; done)
    intro K hK
    go_simp
    refine (one_any n _).mono ?_
    rintro e w7 ⟨rfl, hbN⟩
    have hB1 := below_step hB0 hbN
    clear hbN
    dsimp only
    refine hK _ _ (fun _ => ext_of hB1) (fun hSx => ?_)
    clear hSx hK K
    with_reducible refine L_main ?_ ?_
    focus (go_simp; done)
    intro K hK
    go_simp
    have hB2 := below_al hB1 (.cells #[.int .i64 a.up, .int .i64 a.dn, .int .i64 (max n 0), .int .i64 (min n 0)] 24)
    refine hK _ _ (fun _ => ext_of hB2) (fun hSx => ?_)
    clear hSx hK K
    with_reducible refine L_main ?_ ?_
    focus (go_simp; done)
    intro K hK
    go_simp
    refine (join_blk [a, ⟨max n 0, min n 0⟩] n a.dn w7.heap.size 2 2 #[.int .i64 a.up, .int .i64 a.dn, .int .i64 (max n 0), .int .i64 (min n 0)] _ (Blk.new w7 24 _) rfl rfl hj (by decide)).mono ?_
    rintro e w8 ⟨rfl, hbN⟩
    have hB3 := below_step hB2 hbN
    clear hbN
    dsimp only
    refine hK _ _ (fun _ => ext_of hB3) (fun hSx => ?_)
    clear hSx hK K
    iterate 9 (first
      | (with_reducible refine L_yes ?_ ?_
         focus (go_simp; done)
         apply Exists.intro
         refine ⟨?_, ?_⟩
         (rintro w' ⟨_, hce⟩
          go_simp
          first | done | rfl | (rw [ite_next]))
         simp only [Act.put, List.setIfInBounds_toArray, List.set_cons_zero, List.set_cons_succ])
      | (with_reducible refine L_no ?_ ?_
         focus (go_simp; done)
         simp only [Act.put, List.setIfInBounds_toArray, List.set_cons_zero, List.set_cons_succ]))
    refine L_nil ?_
    have H8 := H6.trans (hB3.mono H6.size)
    go_wp2_with (fail)
    go_ret
    exact ⟨ret_bool (by simp), H8⟩

end Go.Proofs.Ytbcojkfndegjmaa
