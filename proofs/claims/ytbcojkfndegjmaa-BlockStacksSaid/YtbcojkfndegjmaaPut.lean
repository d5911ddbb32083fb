/- Contract: block's pile.put. -/
import Derived.Test.YtbcojkfndegjmaaCheck
import Derived.Test.YtbcojkfndegjmaaOwn
import Derived.Test.YtbcojkfndegjmaaOrd
import Derived.Test.YtbcojkfndegjmaaSrc2
namespace Go.Proofs.Ytbcojkfndegjmaa
open Go.RowKit
set_option linter.unusedVariables false

theorem own_far {w : World} {base : Nat} {e : TypeId} {size n : Nat} {v : Value} {xs : List Value} (h : w.ownsRow base e size v n xs) {p : Addr} (hp : v.ownBlock ≠ some p.block) (u : Value) : (w.setCell p u).ownsRow base e size v n xs :=
  h.kept (row := some p.block) ⟨rfl, rfl, rfl, by simp, fun k _ hne => Below.heap_setCell w p u k (fun e => hne (by rw [e]))⟩ (.inr hp)
theorem own_ne {w : World} {base g : Nat} {e t : TypeId} {size n : Nat} {v : Value} {xs : List Value} {cs : Array Value} (h : w.ownsRow base e size v n xs) (hg : Blk w g t cs) (hne : t ≠ e) : v.ownBlock ≠ some g := by
  rcases h.2 with ⟨h1, _⟩ | ⟨g', cap, cur, h1, h2, h3, h4⟩
  · rw [h1]; simp [Value.ownBlock]
  · subst h1
    intro he
    simp [Value.ownBlock] at he
    subst he
    have hb : Blk w g' e cur := h3
    exact hg.ne_ hb hne rfl
theorem info3 : (Try.prog.info? 3).map (fun i => (i.zero, i.size, i.bytes)) = some (some (.int .i64 0), 1, 8) := by kernel_rfl
theorem icells_snoc (l : List Int) (x : Int) : icells (l ++ [x]) = icells l ++ [.int .i64 x] := by simp [icells]
theorem cls {W X : World} {g k : Nat} {t t' : TypeId} {a b : Array Value} (h1 : Blk W g t a) (h2 : Blk X g t a) (h3 : Blk W k t' b) (h4 : Blk X k t' b) : (∀ o, X.cell? ⟨g, o, none⟩ = W.cell? ⟨g, o, none⟩) ∧ (∀ o, X.cell? ⟨k, o, none⟩ = W.cell? ⟨k, o, none⟩) :=
  ⟨fun o => by rw [h1.cell, h2.cell], fun o => by rw [h3.cell, h4.cell]⟩
def pcs (v : Value) (tu td y wu wd : Int) (out : Bool) : Array Value := #[v, .int .i64 0, .int .i64 tu, .int .i64 td, .int .i64 0, .int .i64 0, .bool false, .int .i64 y, .int .i64 wu, .int .i64 wd, .bool out]
def PileOf (v : Value) (s : St) : Array Value := pcs v s.tp.up s.tp.dn s.y s.w.up s.w.dn s.out
def Piled (s : St) (g B n : Nat) (w : World) : Prop := ∃ A c, Blk w g 60 (PileOf (.slice A n c) s) ∧ w.ownsRow B 3 1 (.slice A n c) n (icells s.ps)
def PutPost (s : St) (g B n : Nat) (w : World) (e : Ending) (w' : World) : Prop := (∃ r, e = .returned r) ∧ Piled s g B n w' ∧ Below B w w'

set_option maxRecDepth 100000 in
set_option maxHeartbeats 8000000 in
theorem put_tt (ku kd ku2 kd2 ht tu td y wu wd : Int) (A : Option Addr) (n c g B : Nat) (xs : List Value) (w : World) (hBw : B ≤ w.heap.size) (hBg : B ≤ g) (hn : n ≤ 4096) (hg : Blk w g 60 (pcs (.slice A n c) tu td y wu wd true)) (hown : w.ownsRow B 3 1 (.slice A n c) n xs) (U1 D1 : Int) (hJ1 : mj ⟨wu, wd⟩ ⟨ku, kd⟩ = ⟨U1, D1⟩) (U2 D2 : Int) (hJ2 : mj ⟨U1, D1⟩ ⟨ku2, kd2⟩ = ⟨U2, D2⟩) :
    Calls Try.prog 36 #[.pointer (some ⟨g, 0, none⟩), .agg #[.int .i64 ku, .int .i64 kd, .int .i64 ku2, .int .i64 kd2, .int .i64 ht, .bool true]] w
      fun e w' => (∃ r, e = .returned r) ∧ (∃ A' c', Blk w' g 60 (pcs (.slice A' (n + 1) c') tu td y U2 D2 true) ∧ w'.ownsRow B 3 1 (.slice A' (n + 1) c') (n + 1) (xs ++ [.int .i64 y])) ∧ Below B w w' := by
  obtain ⟨i0, hi, hz0, hz1, hz2⟩ := info_parts info3
  have HJ1 := hidd hJ1
  clear hJ1
  have HJ2 := hidd hJ2
  clear hJ2
  go_enter Try.func36, Try.ntmps36
  go_wp2_with (fail)
  have hg0 := hg.alloc (.cells #[.int .i64 ku, .int .i64 kd, .int .i64 ku2, .int .i64 kd2, .int .i64 ht, .bool true] 48)
  have hk0 := Blk.new w 48 #[.int .i64 ku, .int .i64 kd, .int .i64 ku2, .int .i64 kd2, .int .i64 ht, .bool true]
  have ow0 := hown.alloc (.cells #[.int .i64 ku, .int .i64 kd, .int .i64 ku2, .int .i64 kd2, .int .i64 ht, .bool true] 48)
  have hC0 := (Below.refl B w).alloc hBw (.cells #[.int .i64 ku, .int .i64 kd, .int .i64 ku2, .int .i64 kd2, .int .i64 ht, .bool true] 48)
  have hne : w.heap.size ≠ g := by have := hg.lt; omega
  obtain ⟨W0, hW0⟩ : ∃ W, w.alloc (.cells #[.int .i64 ku, .int .i64 kd, .int .i64 ku2, .int .i64 kd2, .int .i64 ht, .bool true] 48) = W := ⟨_, rfl⟩
  rw [hW0] at hg0 hk0 ow0 hC0 ⊢
  obtain ⟨gk, hgk⟩ : ∃ k, w.heap.size = k := ⟨_, rfl⟩
  rw [hgk] at hk0 hne ⊢
  clear hW0 hgk hg hown
  have p8 := hg0.cell 8
  have p9 := hg0.cell 9
  have k0 := hk0.cell 0
  have k1 := hk0.cell 1
  simp [pcs] at p8 p9 k0 k1
  have hgD : Blk W0.drew g 60 _ := hg0
  have hkD : Blk W0.drew gk 48 _ := hk0
  have owD : W0.drew.ownsRow B 3 1 (.slice A n c) n xs := ow0
  have hCD : Below B w W0.drew := Below.drew hC0
  refine region_ord [(0, true), (1, true), (2, true), (3, true), (4, true), (5, true), (6, true), (7, false), (8, false), (9, false), (10, false), (11, false)]
    (fun w' => (∀ o, w'.cell? ⟨g, o, none⟩ = W0.cell? ⟨g, o, none⟩) ∧ (∀ o, w'.cell? ⟨gk, o, none⟩ = W0.cell? ⟨gk, o, none⟩)) 11 (by kernel_rfl) (by kernel_rfl) (by kernel_rfl) (by kernel_rfl) (by intro c a d v w h; cases d <;> exact h) (cls hg0 hgD hk0 hkD) ?_
  simp only [List.map_cons, List.map_nil, List.getElem?_toArray, List.getElem?_cons_succ, List.getElem?_cons_zero]
  iterate 7 (first
    | (with_reducible refine L_yes ?_ ?_
       focus (go_simp; done)
       apply Exists.intro
       refine ⟨?_, ?_⟩
       (rintro w' ⟨_, hce⟩
        go_simp
        first | done | rfl | (rw [ite_next]))
       simp only [Act.put, List.setIfInBounds_toArray, List.set_cons_zero, List.set_cons_succ])
    | (with_reducible refine L_no ?_ ?_
       focus (go_simp; done)
       simp only [Act.put, List.setIfInBounds_toArray, List.set_cons_zero, List.set_cons_succ]))
  with_reducible refine L_main ?_ ?_
  focus (go_simp; done)
  intro K hK
  go_simp
  have hgM1 := hgD.alloc (.cells #[.int .i64 wu, .int .i64 wd, .int .i64 ku, .int .i64 kd] 24)
  have hkM1 := hkD.alloc (.cells #[.int .i64 wu, .int .i64 wd, .int .i64 ku, .int .i64 kd] 24)
  have owM1 := owD.alloc (.cells #[.int .i64 wu, .int .i64 wd, .int .i64 ku, .int .i64 kd] 24)
  have hCM1 := hCD.alloc (Nat.le_trans hBw hCD.size) (.cells #[.int .i64 wu, .int .i64 wd, .int .i64 ku, .int .i64 kd] 24)
  refine hK _ _ (fun _ => cls hg0 hgM1 hk0 hkM1) (fun hSx => ?_)
  clear hSx hK K
  with_reducible refine L_main ?_ ?_
  focus (go_simp; done)
  intro K hK
  go_simp
  refine (join_blk [⟨wu, wd⟩, ⟨ku, kd⟩] U1 D1 W0.heap.size 2 2 #[.int .i64 wu, .int .i64 wd, .int .i64 ku, .int .i64 kd] _ (Blk.new W0 24 #[.int .i64 wu, .int .i64 wd, .int .i64 ku, .int .i64 kd]).drew rfl rfl HJ1.out (by decide)).mono ?_
  rintro e V0 ⟨rfl, hbN⟩
  have hgM2 := hgM1.below hbN hgM1.lt
  have hkM2 := hkM1.below hbN hkM1.lt
  have owM2 := own_below owM1 hbN
  have hCM2 := hCM1.trans (hbN.mono (Nat.le_trans hBw hCM1.size))
  clear hbN
  dsimp only
  refine hK _ _ (fun _ => cls hg0 hgM2 hk0 hkM2) (fun hSx => ?_)
  clear hSx hK K
  with_reducible refine L_main ?_ ?_
  focus (go_simp; done)
  intro K hK
  go_simp
  refine hK _ _ (fun _ => cls hg0 hgM2 hk0 hkM2) (fun hSx => ?_)
  clear hSx hK K
  with_reducible refine L_main ?_ ?_
  focus (go_simp; done)
  intro K hK
  go_simp
  refine hK _ _ (fun _ => cls hg0 hgM2 hk0 hkM2) (fun hSx => ?_)
  clear hSx hK K
  have fz := hgM2.frozen
  have z8 := hgM2.cell 8
  have z9 := hgM2.cell 9
  simp [pcs] at z8 z9
  with_reducible refine L_main ?_ ?_
  focus (go_simp; done)
  intro K hK
  go_simp
  refine hK _ _ (fun h => absurd rfl h) (fun hSx => ?_)
  clear hSx hK K
  refine L_nil ?_
  have hg1 : Blk (((((V0).setCell ⟨g, 8, none⟩ (.int .i64 U1))).setCell ⟨g, 9, none⟩ (.int .i64 D1))) g 60 (pcs (.slice A n c) tu td y U1 D1 true) := Blk.to ((hgM2.set_ 8 (.int .i64 U1)).set_ 9 (.int .i64 D1)) (by simp [pcs])
  have hk1 : Blk (((((V0).setCell ⟨g, 8, none⟩ (.int .i64 U1))).setCell ⟨g, 9, none⟩ (.int .i64 D1))) gk 48 #[.int .i64 ku, .int .i64 kd, .int .i64 ku2, .int .i64 kd2, .int .i64 ht, .bool true] := ((hkM2.far (p := ⟨g, 8, none⟩) hne (.int .i64 U1)).far (p := ⟨g, 9, none⟩) hne (.int .i64 D1))
  have ow1 : (((((V0).setCell ⟨g, 8, none⟩ (.int .i64 U1))).setCell ⟨g, 9, none⟩ (.int .i64 D1))).ownsRow B 3 1 (.slice A n c) n xs := (own_far (own_far owM2 (p := ⟨g, 8, none⟩) (own_ne owM2 hgM2 (by decide)) (.int .i64 U1)) (p := ⟨g, 9, none⟩) (own_ne owM2 hgM2 (by decide)) (.int .i64 D1))
  have hC1 : Below B w (((((V0).setCell ⟨g, 8, none⟩ (.int .i64 U1))).setCell ⟨g, 9, none⟩ (.int .i64 D1))) := ((hCM2.setCell (p := ⟨g, 8, none⟩) hBg (.int .i64 U1)).setCell (p := ⟨g, 9, none⟩) hBg (.int .i64 D1))
  obtain ⟨W1, hW1⟩ : ∃ W, (((((V0).setCell ⟨g, 8, none⟩ (.int .i64 U1))).setCell ⟨g, 9, none⟩ (.int .i64 D1))) = W := ⟨_, rfl⟩
  rw [hW1] at hg1 hk1 ow1 hC1 ⊢
  clear hW1 fz z8 z9 p8 p9 k0 k1 hgD hkD owD hCD hgM1 hkM1 owM1 hCM1 hgM2 hkM2 owM2 hCM2 hg0 hk0 ow0 hC0
  have k5 := hk1.cell 5
  have p10 := hg1.cell 10
  simp [pcs] at k5 p10
  go_wp2_with (fail)
  clear k5 p10
  have p0 := hg1.cell 0
  have p7 := hg1.cell 7
  simp [pcs] at p0 p7
  have hgD : Blk W1.drew g 60 _ := hg1
  have hkD : Blk W1.drew gk 48 _ := hk1
  have owD : W1.drew.ownsRow B 3 1 (.slice A n c) n xs := ow1
  have hCD : Below B w W1.drew := Below.drew hC1
  refine region_ord [(0, true), (1, true), (2, true), (3, true), (4, true), (5, true), (6, true), (7, true), (8, true), (9, true), (10, false), (11, false), (12, false), (13, false), (14, false), (15, false)]
    (fun w' => (∀ o, w'.cell? ⟨g, o, none⟩ = W1.cell? ⟨g, o, none⟩) ∧ (∀ o, w'.cell? ⟨gk, o, none⟩ = W1.cell? ⟨gk, o, none⟩)) 15 (by kernel_rfl) (by kernel_rfl) (by kernel_rfl) (by kernel_rfl) (by intro c a d v w h; cases d <;> exact h) (cls hg1 hgD hk1 hkD) ?_
  simp only [List.map_cons, List.map_nil, List.getElem?_toArray, List.getElem?_cons_succ, List.getElem?_cons_zero]
  iterate 10 (first
    | (with_reducible refine L_yes ?_ ?_
       focus (go_simp; done)
       apply Exists.intro
       refine ⟨?_, ?_⟩
       (rintro w' ⟨_, hce⟩
        go_simp
        first | done | rfl | (rw [ite_next]))
       simp only [Act.put, List.setIfInBounds_toArray, List.set_cons_zero, List.set_cons_succ])
    | (with_reducible refine L_no ?_ ?_
       focus (go_simp; done)
       simp only [Act.put, List.setIfInBounds_toArray, List.set_cons_zero, List.set_cons_succ]))
  with_reducible refine L_main ?_ ?_
  focus (go_simp; done)
  intro K hK
  go_simp
  have hgM1 := hgD.alloc (.cells #[.int .i64 y] 3)
  have hkM1 := hkD.alloc (.cells #[.int .i64 y] 3)
  have owM1 := owD.alloc (.cells #[.int .i64 y] 3)
  have hCM1 := hCD.alloc (Nat.le_trans hBw hCD.size) (.cells #[.int .i64 y] 3)
  refine hK _ _ (fun _ => cls hg1 hgM1 hk1 hkM1) (fun hSx => ?_)
  clear hSx hK K
  with_reducible refine L_main ?_ ?_
  focus (go_simp; done)
  intro K hK
  refine wp_append_src _ _ _ 35 (by rfl) B 3 i0 (.int .i64 0) 1 8 Try.underlying35 hi hz0 hz1 hz2 rfl (by decide) (.slice A n c) n _ (by rfl) owM1 ((W1.drew).alloc (.cells #[.int .i64 y] 3)).heap.size (some ⟨(W1.drew).heap.size, 0, none⟩) 1 1 [.int .i64 y] (by rfl) (Rd.blk (Blk.new (W1.drew) 3 #[.int .i64 y]) 1 1 rfl) (by simp [Value.oneCell']) (by unfold maxLen; omega) (by omega) (Nat.le_trans hBw hCM1.size) ?_
  intro v' V1 owM2' hgr hpr
  have hgM2 := hgM1.grown hgr (fun e => own_ne owM1 hgM1 (by decide) e.symm)
  have hkM2 := hkM1.grown hgr (fun e => own_ne owM1 hkM1 (by decide) e.symm)
  have hCM2 := hCM1.grown hgr (Nat.le_trans hBw hCM1.size) (fun q hq => (owM1.lt q hq).1)
  obtain ⟨A', c', rfl, _⟩ := own_slice owM2'
  have owM2 := owM2'
  clear owM2' hgr hpr
  refine hK _ _ (fun _ => cls hg1 hgM2 hk1 hkM2) (fun hSx => ?_)
  clear hSx hK K
  simp only [Act.put, List.setIfInBounds_toArray, List.set_cons_zero, List.set_cons_succ]
  with_reducible refine L_main ?_ ?_
  focus (go_simp; done)
  intro K hK
  go_simp
  refine hK _ _ (fun _ => cls hg1 hgM2 hk1 hkM2) (fun hSx => ?_)
  clear hSx hK K
  with_reducible refine L_main ?_ ?_
  focus (go_simp; done)
  intro K hK
  go_simp
  refine hK _ _ (fun _ => cls hg1 hgM2 hk1 hkM2) (fun hSx => ?_)
  clear hSx hK K
  with_reducible refine L_main ?_ ?_
  focus (go_simp; done)
  intro K hK
  go_simp
  refine hK _ _ (fun _ => cls hg1 hgM2 hk1 hkM2) (fun hSx => ?_)
  clear hSx hK K
  have fz := hgM2.frozen
  have z0 := hgM2.cell 0
  simp [pcs] at z0
  with_reducible refine L_main ?_ ?_
  focus (go_simp; done)
  intro K hK
  go_simp
  refine hK _ _ (fun h => absurd rfl h) (fun hSx => ?_)
  clear hSx hK K
  refine L_nil ?_
  have hg2 : Blk (((V1).setCell ⟨g, 0, none⟩ (.slice A' (n + 1) c'))) g 60 (pcs (.slice A' (n + 1) c') tu td y U1 D1 true) := Blk.to (hgM2.set_ 0 (.slice A' (n + 1) c')) (by simp [pcs])
  have hk2 : Blk (((V1).setCell ⟨g, 0, none⟩ (.slice A' (n + 1) c'))) gk 48 #[.int .i64 ku, .int .i64 kd, .int .i64 ku2, .int .i64 kd2, .int .i64 ht, .bool true] := (hkM2.far (p := ⟨g, 0, none⟩) hne (.slice A' (n + 1) c'))
  have ow2 : (((V1).setCell ⟨g, 0, none⟩ (.slice A' (n + 1) c'))).ownsRow B 3 1 (.slice A' (n + 1) c') (n + 1) (xs ++ [.int .i64 y]) := (own_far owM2 (p := ⟨g, 0, none⟩) (own_ne owM2 hgM2 (by decide)) (.slice A' (n + 1) c'))
  have hC2 : Below B w (((V1).setCell ⟨g, 0, none⟩ (.slice A' (n + 1) c'))) := (hCM2.setCell (p := ⟨g, 0, none⟩) hBg (.slice A' (n + 1) c'))
  obtain ⟨W2, hW2⟩ : ∃ W, (((V1).setCell ⟨g, 0, none⟩ (.slice A' (n + 1) c'))) = W := ⟨_, rfl⟩
  rw [hW2] at hg2 hk2 ow2 hC2 ⊢
  clear hW2 fz z0 p0 p7 hgD hkD owD hCD hgM1 hkM1 owM1 hCM1 hgM2 hkM2 owM2 hCM2 hg1 hk1 ow1 hC1
  go_wp2_with (fail)
  have p8 := hg2.cell 8
  have p9 := hg2.cell 9
  have k2 := hk2.cell 2
  have k3 := hk2.cell 3
  simp [pcs] at p8 p9 k2 k3
  have hgD : Blk W2.drew g 60 _ := hg2
  have hkD : Blk W2.drew gk 48 _ := hk2
  have owD : W2.drew.ownsRow B 3 1 (.slice A' (n + 1) c') (n + 1) (xs ++ [.int .i64 y]) := ow2
  have hCD : Below B w W2.drew := Below.drew hC2
  refine region_ord [(0, true), (1, true), (2, true), (3, true), (4, true), (5, true), (6, true), (7, false), (8, false), (9, false), (10, false), (11, false)]
    (fun w' => (∀ o, w'.cell? ⟨g, o, none⟩ = W2.cell? ⟨g, o, none⟩) ∧ (∀ o, w'.cell? ⟨gk, o, none⟩ = W2.cell? ⟨gk, o, none⟩)) 11 (by kernel_rfl) (by kernel_rfl) (by kernel_rfl) (by kernel_rfl) (by intro c a d v w h; cases d <;> exact h) (cls hg2 hgD hk2 hkD) ?_
  simp only [List.map_cons, List.map_nil, List.getElem?_toArray, List.getElem?_cons_succ, List.getElem?_cons_zero]
  iterate 7 (first
    | (with_reducible refine L_yes ?_ ?_
       focus (go_simp; done)
       apply Exists.intro
       refine ⟨?_, ?_⟩
       (rintro w' ⟨_, hce⟩
        go_simp
        first | done | rfl | (rw [ite_next]))
       simp only [Act.put, List.setIfInBounds_toArray, List.set_cons_zero, List.set_cons_succ])
    | (with_reducible refine L_no ?_ ?_
       focus (go_simp; done)
       simp only [Act.put, List.setIfInBounds_toArray, List.set_cons_zero, List.set_cons_succ]))
  with_reducible refine L_main ?_ ?_
  focus (go_simp; done)
  intro K hK
  go_simp
  have hgM1 := hgD.alloc (.cells #[.int .i64 U1, .int .i64 D1, .int .i64 ku2, .int .i64 kd2] 24)
  have hkM1 := hkD.alloc (.cells #[.int .i64 U1, .int .i64 D1, .int .i64 ku2, .int .i64 kd2] 24)
  have owM1 := owD.alloc (.cells #[.int .i64 U1, .int .i64 D1, .int .i64 ku2, .int .i64 kd2] 24)
  have hCM1 := hCD.alloc (Nat.le_trans hBw hCD.size) (.cells #[.int .i64 U1, .int .i64 D1, .int .i64 ku2, .int .i64 kd2] 24)
  refine hK _ _ (fun _ => cls hg2 hgM1 hk2 hkM1) (fun hSx => ?_)
  clear hSx hK K
  with_reducible refine L_main ?_ ?_
  focus (go_simp; done)
  intro K hK
  go_simp
  refine (join_blk [⟨U1, D1⟩, ⟨ku2, kd2⟩] U2 D2 W2.heap.size 2 2 #[.int .i64 U1, .int .i64 D1, .int .i64 ku2, .int .i64 kd2] _ (Blk.new W2 24 #[.int .i64 U1, .int .i64 D1, .int .i64 ku2, .int .i64 kd2]).drew rfl rfl HJ2.out (by decide)).mono ?_
  rintro e V2 ⟨rfl, hbN⟩
  have hgM2 := hgM1.below hbN hgM1.lt
  have hkM2 := hkM1.below hbN hkM1.lt
  have owM2 := own_below owM1 hbN
  have hCM2 := hCM1.trans (hbN.mono (Nat.le_trans hBw hCM1.size))
  clear hbN
  dsimp only
  refine hK _ _ (fun _ => cls hg2 hgM2 hk2 hkM2) (fun hSx => ?_)
  clear hSx hK K
  with_reducible refine L_main ?_ ?_
  focus (go_simp; done)
  intro K hK
  go_simp
  refine hK _ _ (fun _ => cls hg2 hgM2 hk2 hkM2) (fun hSx => ?_)
  clear hSx hK K
  with_reducible refine L_main ?_ ?_
  focus (go_simp; done)
  intro K hK
  go_simp
  refine hK _ _ (fun _ => cls hg2 hgM2 hk2 hkM2) (fun hSx => ?_)
  clear hSx hK K
  have fz := hgM2.frozen
  have z8 := hgM2.cell 8
  have z9 := hgM2.cell 9
  simp [pcs] at z8 z9
  with_reducible refine L_main ?_ ?_
  focus (go_simp; done)
  intro K hK
  go_simp
  refine hK _ _ (fun h => absurd rfl h) (fun hSx => ?_)
  clear hSx hK K
  refine L_nil ?_
  have hg3 : Blk (((((V2).setCell ⟨g, 8, none⟩ (.int .i64 U2))).setCell ⟨g, 9, none⟩ (.int .i64 D2))) g 60 (pcs (.slice A' (n + 1) c') tu td y U2 D2 true) := Blk.to ((hgM2.set_ 8 (.int .i64 U2)).set_ 9 (.int .i64 D2)) (by simp [pcs])
  have hk3 : Blk (((((V2).setCell ⟨g, 8, none⟩ (.int .i64 U2))).setCell ⟨g, 9, none⟩ (.int .i64 D2))) gk 48 #[.int .i64 ku, .int .i64 kd, .int .i64 ku2, .int .i64 kd2, .int .i64 ht, .bool true] := ((hkM2.far (p := ⟨g, 8, none⟩) hne (.int .i64 U2)).far (p := ⟨g, 9, none⟩) hne (.int .i64 D2))
  have ow3 : (((((V2).setCell ⟨g, 8, none⟩ (.int .i64 U2))).setCell ⟨g, 9, none⟩ (.int .i64 D2))).ownsRow B 3 1 (.slice A' (n + 1) c') (n + 1) (xs ++ [.int .i64 y]) := (own_far (own_far owM2 (p := ⟨g, 8, none⟩) (own_ne owM2 hgM2 (by decide)) (.int .i64 U2)) (p := ⟨g, 9, none⟩) (own_ne owM2 hgM2 (by decide)) (.int .i64 D2))
  have hC3 : Below B w (((((V2).setCell ⟨g, 8, none⟩ (.int .i64 U2))).setCell ⟨g, 9, none⟩ (.int .i64 D2))) := ((hCM2.setCell (p := ⟨g, 8, none⟩) hBg (.int .i64 U2)).setCell (p := ⟨g, 9, none⟩) hBg (.int .i64 D2))
  obtain ⟨W3, hW3⟩ : ∃ W, (((((V2).setCell ⟨g, 8, none⟩ (.int .i64 U2))).setCell ⟨g, 9, none⟩ (.int .i64 D2))) = W := ⟨_, rfl⟩
  rw [hW3] at hg3 hk3 ow3 hC3 ⊢
  clear hW3 fz z8 z9 p8 p9 k2 k3 hgD hkD owD hCD hgM1 hkM1 owM1 hCM1 hgM2 hkM2 owM2 hCM2 hg2 hk2 ow2 hC2
  go_wp2_with (fail)
  refine bodyPost_ret (results_none rfl _ _ _) rfl ⟨⟨_, rfl⟩, ⟨_, _, hg3, ow3⟩, hC3⟩

set_option maxRecDepth 100000 in
set_option maxHeartbeats 8000000 in
theorem put_tf (ku kd ku2 kd2 ht tu td y wu wd : Int) (A : Option Addr) (n c g B : Nat) (xs : List Value) (w : World) (hBw : B ≤ w.heap.size) (hBg : B ≤ g) (hn : n ≤ 4096) (hg : Blk w g 60 (pcs (.slice A n c) tu td y wu wd false)) (hown : w.ownsRow B 3 1 (.slice A n c) n xs) (U1 D1 : Int) (hJ1 : mj ⟨wu, wd⟩ ⟨ku, kd⟩ = ⟨U1, D1⟩) (U2 D2 : Int) (hJ2 : mj ⟨U1, D1⟩ ⟨ku2, kd2⟩ = ⟨U2, D2⟩) (V Y : Int) (hV : wrap64 (U1 + D1) = V) (hY : wrap64 (y + V) = Y) :
    Calls Try.prog 36 #[.pointer (some ⟨g, 0, none⟩), .agg #[.int .i64 ku, .int .i64 kd, .int .i64 ku2, .int .i64 kd2, .int .i64 ht, .bool true]] w
      fun e w' => (∃ r, e = .returned r) ∧ (∃ A' c', Blk w' g 60 (pcs (.slice A' (n + 1) c') tu td y U2 D2 false) ∧ w'.ownsRow B 3 1 (.slice A' (n + 1) c') (n + 1) (xs ++ [.int .i64 Y])) ∧ Below B w w' := by
  obtain ⟨i0, hi, hz0, hz1, hz2⟩ := info_parts info3
  have HJ1 := hidd hJ1
  clear hJ1
  have HJ2 := hidd hJ2
  clear hJ2
  have HV := hidd hV
  have hY2 : IntKind.i64.wrap (y + V) = Y := by rw [IntKind.wrap_i64]; unfold wrap64 at hY; exact hY
  clear hV
  go_enter Try.func36, Try.ntmps36
  go_wp2_with (fail)
  have hg0 := hg.alloc (.cells #[.int .i64 ku, .int .i64 kd, .int .i64 ku2, .int .i64 kd2, .int .i64 ht, .bool true] 48)
  have hk0 := Blk.new w 48 #[.int .i64 ku, .int .i64 kd, .int .i64 ku2, .int .i64 kd2, .int .i64 ht, .bool true]
  have ow0 := hown.alloc (.cells #[.int .i64 ku, .int .i64 kd, .int .i64 ku2, .int .i64 kd2, .int .i64 ht, .bool true] 48)
  have hC0 := (Below.refl B w).alloc hBw (.cells #[.int .i64 ku, .int .i64 kd, .int .i64 ku2, .int .i64 kd2, .int .i64 ht, .bool true] 48)
  have hne : w.heap.size ≠ g := by have := hg.lt; omega
  obtain ⟨W0, hW0⟩ : ∃ W, w.alloc (.cells #[.int .i64 ku, .int .i64 kd, .int .i64 ku2, .int .i64 kd2, .int .i64 ht, .bool true] 48) = W := ⟨_, rfl⟩
  rw [hW0] at hg0 hk0 ow0 hC0 ⊢
  obtain ⟨gk, hgk⟩ : ∃ k, w.heap.size = k := ⟨_, rfl⟩
  rw [hgk] at hk0 hne ⊢
  clear hW0 hgk hg hown
  have p8 := hg0.cell 8
  have p9 := hg0.cell 9
  have k0 := hk0.cell 0
  have k1 := hk0.cell 1
  simp [pcs] at p8 p9 k0 k1
  have hgD : Blk W0.drew g 60 _ := hg0
  have hkD : Blk W0.drew gk 48 _ := hk0
  have owD : W0.drew.ownsRow B 3 1 (.slice A n c) n xs := ow0
  have hCD : Below B w W0.drew := Below.drew hC0
  refine region_ord [(0, true), (1, true), (2, true), (3, true), (4, true), (5, true), (6, true), (7, false), (8, false), (9, false), (10, false), (11, false)]
    (fun w' => (∀ o, w'.cell? ⟨g, o, none⟩ = W0.cell? ⟨g, o, none⟩) ∧ (∀ o, w'.cell? ⟨gk, o, none⟩ = W0.cell? ⟨gk, o, none⟩)) 11 (by kernel_rfl) (by kernel_rfl) (by kernel_rfl) (by kernel_rfl) (by intro c a d v w h; cases d <;> exact h) (cls hg0 hgD hk0 hkD) ?_
  simp only [List.map_cons, List.map_nil, List.getElem?_toArray, List.getElem?_cons_succ, List.getElem?_cons_zero]
  iterate 7 (first
    | (with_reducible refine L_yes ?_ ?_
       focus (go_simp; done)
       apply Exists.intro
       refine ⟨?_, ?_⟩
       (rintro w' ⟨_, hce⟩
        go_simp
        first | done | rfl | (rw [ite_next]))
       simp only [Act.put, List.setIfInBounds_toArray, List.set_cons_zero, List.set_cons_succ])
    | (with_reducible refine L_no ?_ ?_
       focus (go_simp; done)
       simp only [Act.put, List.setIfInBounds_toArray, List.set_cons_zero, List.set_cons_succ]))
  with_reducible refine L_main ?_ ?_
  focus (go_simp; done)
  intro K hK
  go_simp
  have hgM1 := hgD.alloc (.cells #[.int .i64 wu, .int .i64 wd, .int .i64 ku, .int .i64 kd] 24)
  have hkM1 := hkD.alloc (.cells #[.int .i64 wu, .int .i64 wd, .int .i64 ku, .int .i64 kd] 24)
  have owM1 := owD.alloc (.cells #[.int .i64 wu, .int .i64 wd, .int .i64 ku, .int .i64 kd] 24)
  have hCM1 := hCD.alloc (Nat.le_trans hBw hCD.size) (.cells #[.int .i64 wu, .int .i64 wd, .int .i64 ku, .int .i64 kd] 24)
  refine hK _ _ (fun _ => cls hg0 hgM1 hk0 hkM1) (fun hSx => ?_)
  clear hSx hK K
  with_reducible refine L_main ?_ ?_
  focus (go_simp; done)
  intro K hK
  go_simp
  refine (join_blk [⟨wu, wd⟩, ⟨ku, kd⟩] U1 D1 W0.heap.size 2 2 #[.int .i64 wu, .int .i64 wd, .int .i64 ku, .int .i64 kd] _ (Blk.new W0 24 #[.int .i64 wu, .int .i64 wd, .int .i64 ku, .int .i64 kd]).drew rfl rfl HJ1.out (by decide)).mono ?_
  rintro e V0 ⟨rfl, hbN⟩
  have hgM2 := hgM1.below hbN hgM1.lt
  have hkM2 := hkM1.below hbN hkM1.lt
  have owM2 := own_below owM1 hbN
  have hCM2 := hCM1.trans (hbN.mono (Nat.le_trans hBw hCM1.size))
  clear hbN
  dsimp only
  refine hK _ _ (fun _ => cls hg0 hgM2 hk0 hkM2) (fun hSx => ?_)
  clear hSx hK K
  with_reducible refine L_main ?_ ?_
  focus (go_simp; done)
  intro K hK
  go_simp
  refine hK _ _ (fun _ => cls hg0 hgM2 hk0 hkM2) (fun hSx => ?_)
  clear hSx hK K
  with_reducible refine L_main ?_ ?_
  focus (go_simp; done)
  intro K hK
  go_simp
  refine hK _ _ (fun _ => cls hg0 hgM2 hk0 hkM2) (fun hSx => ?_)
  clear hSx hK K
  have fz := hgM2.frozen
  have z8 := hgM2.cell 8
  have z9 := hgM2.cell 9
  simp [pcs] at z8 z9
  with_reducible refine L_main ?_ ?_
  focus (go_simp; done)
  intro K hK
  go_simp
  refine hK _ _ (fun h => absurd rfl h) (fun hSx => ?_)
  clear hSx hK K
  refine L_nil ?_
  have hg1 : Blk (((((V0).setCell ⟨g, 8, none⟩ (.int .i64 U1))).setCell ⟨g, 9, none⟩ (.int .i64 D1))) g 60 (pcs (.slice A n c) tu td y U1 D1 false) := Blk.to ((hgM2.set_ 8 (.int .i64 U1)).set_ 9 (.int .i64 D1)) (by simp [pcs])
  have hk1 : Blk (((((V0).setCell ⟨g, 8, none⟩ (.int .i64 U1))).setCell ⟨g, 9, none⟩ (.int .i64 D1))) gk 48 #[.int .i64 ku, .int .i64 kd, .int .i64 ku2, .int .i64 kd2, .int .i64 ht, .bool true] := ((hkM2.far (p := ⟨g, 8, none⟩) hne (.int .i64 U1)).far (p := ⟨g, 9, none⟩) hne (.int .i64 D1))
  have ow1 : (((((V0).setCell ⟨g, 8, none⟩ (.int .i64 U1))).setCell ⟨g, 9, none⟩ (.int .i64 D1))).ownsRow B 3 1 (.slice A n c) n xs := (own_far (own_far owM2 (p := ⟨g, 8, none⟩) (own_ne owM2 hgM2 (by decide)) (.int .i64 U1)) (p := ⟨g, 9, none⟩) (own_ne owM2 hgM2 (by decide)) (.int .i64 D1))
  have hC1 : Below B w (((((V0).setCell ⟨g, 8, none⟩ (.int .i64 U1))).setCell ⟨g, 9, none⟩ (.int .i64 D1))) := ((hCM2.setCell (p := ⟨g, 8, none⟩) hBg (.int .i64 U1)).setCell (p := ⟨g, 9, none⟩) hBg (.int .i64 D1))
  obtain ⟨W1, hW1⟩ : ∃ W, (((((V0).setCell ⟨g, 8, none⟩ (.int .i64 U1))).setCell ⟨g, 9, none⟩ (.int .i64 D1))) = W := ⟨_, rfl⟩
  rw [hW1] at hg1 hk1 ow1 hC1 ⊢
  clear hW1 fz z8 z9 p8 p9 k0 k1 hgD hkD owD hCD hgM1 hkM1 owM1 hCM1 hgM2 hkM2 owM2 hCM2 hg0 hk0 ow0 hC0
  have k5 := hk1.cell 5
  have p10 := hg1.cell 10
  simp [pcs] at k5 p10
  go_wp2_with (fail)
  clear k5 p10
  have p0 := hg1.cell 0
  have p7 := hg1.cell 7
  have p8 := hg1.cell 8
  have p9 := hg1.cell 9
  simp [pcs] at p0 p7 p8 p9
  have hgD : Blk W1.drew g 60 _ := hg1
  have hkD : Blk W1.drew gk 48 _ := hk1
  have owD : W1.drew.ownsRow B 3 1 (.slice A n c) n xs := ow1
  have hCD : Below B w W1.drew := Below.drew hC1
  refine region_ord [(0, true), (1, true), (2, true), (3, true), (4, true), (5, true), (6, true), (7, true), (8, true), (9, true), (10, true), (11, true), (12, true), (13, true), (14, false), (15, true), (16, false), (17, false), (18, false), (19, false), (20, false), (21, false)]
    (fun w' => (∀ o, w'.cell? ⟨g, o, none⟩ = W1.cell? ⟨g, o, none⟩) ∧ (∀ o, w'.cell? ⟨gk, o, none⟩ = W1.cell? ⟨gk, o, none⟩)) 21 (by kernel_rfl) (by kernel_rfl) (by kernel_rfl) (by kernel_rfl) (by intro c a d v w h; cases d <;> exact h) (cls hg1 hgD hk1 hkD) ?_
  simp only [List.map_cons, List.map_nil, List.getElem?_toArray, List.getElem?_cons_succ, List.getElem?_cons_zero]
  iterate 14 (first
    | (with_reducible refine L_yes ?_ ?_
       focus (go_simp; done)
       apply Exists.intro
       refine ⟨?_, ?_⟩
       (rintro w' ⟨_, hce⟩
        go_simp
        first | done | rfl | (rw [ite_next]))
       simp only [Act.put, List.setIfInBounds_toArray, List.set_cons_zero, List.set_cons_succ])
    | (with_reducible refine L_no ?_ ?_
       focus (go_simp; done)
       simp only [Act.put, List.setIfInBounds_toArray, List.set_cons_zero, List.set_cons_succ]))
  with_reducible refine L_main ?_ ?_
  focus (go_simp; done)
  intro K hK
  go_simp
  refine (value_val U1 D1 V HV.out _).mono ?_
  rintro e X1 ⟨rfl, hbN⟩
  have hgM1 := hgD.below hbN hgD.lt
  have hkM1 := hkD.below hbN hkD.lt
  have owM1 := own_below owD hbN
  have hCM1 := hCD.trans (hbN.mono (Nat.le_trans hBw hCD.size))
  clear hbN
  dsimp only
  refine hK _ _ (fun _ => cls hg1 hgM1 hk1 hkM1) (fun hSx => ?_)
  clear hSx hK K
  iterate 1 (first
    | (with_reducible refine L_yes ?_ ?_
       focus (go_simp; done)
       apply Exists.intro
       refine ⟨?_, ?_⟩
       (rintro w' ⟨_, hce⟩
        go_simp
        first | done | rfl | (rw [ite_next]))
       simp only [Act.put, List.setIfInBounds_toArray, List.set_cons_zero, List.set_cons_succ])
    | (with_reducible refine L_no ?_ ?_
       focus (go_simp; done)
       simp only [Act.put, List.setIfInBounds_toArray, List.set_cons_zero, List.set_cons_succ]))
  with_reducible refine L_main ?_ ?_
  focus (go_simp; done)
  intro K hK
  go_simp
  have hgM2 := hgM1.alloc (.cells #[.int .i64 Y] 3)
  have hkM2 := hkM1.alloc (.cells #[.int .i64 Y] 3)
  have owM2 := owM1.alloc (.cells #[.int .i64 Y] 3)
  have hCM2 := hCM1.alloc (Nat.le_trans hBw hCM1.size) (.cells #[.int .i64 Y] 3)
  refine hK _ _ (fun _ => cls hg1 hgM2 hk1 hkM2) (fun hSx => ?_)
  clear hSx hK K
  with_reducible refine L_main ?_ ?_
  focus (go_simp; done)
  intro K hK
  refine wp_append_src _ _ _ 35 (by rfl) B 3 i0 (.int .i64 0) 1 8 Try.underlying35 hi hz0 hz1 hz2 rfl (by decide) (.slice A n c) n _ (by rfl) owM2 ((X1).alloc (.cells #[.int .i64 Y] 3)).heap.size (some ⟨(X1).heap.size, 0, none⟩) 1 1 [.int .i64 Y] (by rfl) (Rd.blk (Blk.new (X1) 3 #[.int .i64 Y]) 1 1 rfl) (by simp [Value.oneCell']) (by unfold maxLen; omega) (by omega) (Nat.le_trans hBw hCM2.size) ?_
  intro v' V1 owM3' hgr hpr
  have hgM3 := hgM2.grown hgr (fun e => own_ne owM2 hgM2 (by decide) e.symm)
  have hkM3 := hkM2.grown hgr (fun e => own_ne owM2 hkM2 (by decide) e.symm)
  have hCM3 := hCM2.grown hgr (Nat.le_trans hBw hCM2.size) (fun q hq => (owM2.lt q hq).1)
  obtain ⟨A', c', rfl, _⟩ := own_slice owM3'
  have owM3 := owM3'
  clear owM3' hgr hpr
  refine hK _ _ (fun _ => cls hg1 hgM3 hk1 hkM3) (fun hSx => ?_)
  clear hSx hK K
  simp only [Act.put, List.setIfInBounds_toArray, List.set_cons_zero, List.set_cons_succ]
  with_reducible refine L_main ?_ ?_
  focus (go_simp; done)
  intro K hK
  go_simp
  refine hK _ _ (fun _ => cls hg1 hgM3 hk1 hkM3) (fun hSx => ?_)
  clear hSx hK K
  with_reducible refine L_main ?_ ?_
  focus (go_simp; done)
  intro K hK
  go_simp
  refine hK _ _ (fun _ => cls hg1 hgM3 hk1 hkM3) (fun hSx => ?_)
  clear hSx hK K
  with_reducible refine L_main ?_ ?_
  focus (go_simp; done)
  intro K hK
  go_simp
  refine hK _ _ (fun _ => cls hg1 hgM3 hk1 hkM3) (fun hSx => ?_)
  clear hSx hK K
  have fz := hgM3.frozen
  have z0 := hgM3.cell 0
  simp [pcs] at z0
  with_reducible refine L_main ?_ ?_
  focus (go_simp; done)
  intro K hK
  go_simp
  refine hK _ _ (fun h => absurd rfl h) (fun hSx => ?_)
  clear hSx hK K
  refine L_nil ?_
  have hg2 : Blk (((V1).setCell ⟨g, 0, none⟩ (.slice A' (n + 1) c'))) g 60 (pcs (.slice A' (n + 1) c') tu td y U1 D1 false) := Blk.to (hgM3.set_ 0 (.slice A' (n + 1) c')) (by simp [pcs])
  have hk2 : Blk (((V1).setCell ⟨g, 0, none⟩ (.slice A' (n + 1) c'))) gk 48 #[.int .i64 ku, .int .i64 kd, .int .i64 ku2, .int .i64 kd2, .int .i64 ht, .bool true] := (hkM3.far (p := ⟨g, 0, none⟩) hne (.slice A' (n + 1) c'))
  have ow2 : (((V1).setCell ⟨g, 0, none⟩ (.slice A' (n + 1) c'))).ownsRow B 3 1 (.slice A' (n + 1) c') (n + 1) (xs ++ [.int .i64 Y]) := (own_far owM3 (p := ⟨g, 0, none⟩) (own_ne owM3 hgM3 (by decide)) (.slice A' (n + 1) c'))
  have hC2 : Below B w (((V1).setCell ⟨g, 0, none⟩ (.slice A' (n + 1) c'))) := (hCM3.setCell (p := ⟨g, 0, none⟩) hBg (.slice A' (n + 1) c'))
  obtain ⟨W2, hW2⟩ : ∃ W, (((V1).setCell ⟨g, 0, none⟩ (.slice A' (n + 1) c'))) = W := ⟨_, rfl⟩
  rw [hW2] at hg2 hk2 ow2 hC2 ⊢
  clear hW2 fz z0 p0 p7 p8 p9 hgD hkD owD hCD hgM1 hkM1 owM1 hCM1 hgM2 hkM2 owM2 hCM2 hgM3 hkM3 owM3 hCM3 hg1 hk1 ow1 hC1
  go_wp2_with (fail)
  have p8 := hg2.cell 8
  have p9 := hg2.cell 9
  have k2 := hk2.cell 2
  have k3 := hk2.cell 3
  simp [pcs] at p8 p9 k2 k3
  have hgD : Blk W2.drew g 60 _ := hg2
  have hkD : Blk W2.drew gk 48 _ := hk2
  have owD : W2.drew.ownsRow B 3 1 (.slice A' (n + 1) c') (n + 1) (xs ++ [.int .i64 Y]) := ow2
  have hCD : Below B w W2.drew := Below.drew hC2
  refine region_ord [(0, true), (1, true), (2, true), (3, true), (4, true), (5, true), (6, true), (7, false), (8, false), (9, false), (10, false), (11, false)]
    (fun w' => (∀ o, w'.cell? ⟨g, o, none⟩ = W2.cell? ⟨g, o, none⟩) ∧ (∀ o, w'.cell? ⟨gk, o, none⟩ = W2.cell? ⟨gk, o, none⟩)) 11 (by kernel_rfl) (by kernel_rfl) (by kernel_rfl) (by kernel_rfl) (by intro c a d v w h; cases d <;> exact h) (cls hg2 hgD hk2 hkD) ?_
  simp only [List.map_cons, List.map_nil, List.getElem?_toArray, List.getElem?_cons_succ, List.getElem?_cons_zero]
  iterate 7 (first
    | (with_reducible refine L_yes ?_ ?_
       focus (go_simp; done)
       apply Exists.intro
       refine ⟨?_, ?_⟩
       (rintro w' ⟨_, hce⟩
        go_simp
        first | done | rfl | (rw [ite_next]))
       simp only [Act.put, List.setIfInBounds_toArray, List.set_cons_zero, List.set_cons_succ])
    | (with_reducible refine L_no ?_ ?_
       focus (go_simp; done)
       simp only [Act.put, List.setIfInBounds_toArray, List.set_cons_zero, List.set_cons_succ]))
  with_reducible refine L_main ?_ ?_
  focus (go_simp; done)
  intro K hK
  go_simp
  have hgM1 := hgD.alloc (.cells #[.int .i64 U1, .int .i64 D1, .int .i64 ku2, .int .i64 kd2] 24)
  have hkM1 := hkD.alloc (.cells #[.int .i64 U1, .int .i64 D1, .int .i64 ku2, .int .i64 kd2] 24)
  have owM1 := owD.alloc (.cells #[.int .i64 U1, .int .i64 D1, .int .i64 ku2, .int .i64 kd2] 24)
  have hCM1 := hCD.alloc (Nat.le_trans hBw hCD.size) (.cells #[.int .i64 U1, .int .i64 D1, .int .i64 ku2, .int .i64 kd2] 24)
  refine hK _ _ (fun _ => cls hg2 hgM1 hk2 hkM1) (fun hSx => ?_)
  clear hSx hK K
  with_reducible refine L_main ?_ ?_
  focus (go_simp; done)
  intro K hK
  go_simp
  refine (join_blk [⟨U1, D1⟩, ⟨ku2, kd2⟩] U2 D2 W2.heap.size 2 2 #[.int .i64 U1, .int .i64 D1, .int .i64 ku2, .int .i64 kd2] _ (Blk.new W2 24 #[.int .i64 U1, .int .i64 D1, .int .i64 ku2, .int .i64 kd2]).drew rfl rfl HJ2.out (by decide)).mono ?_
  rintro e V2 ⟨rfl, hbN⟩
  have hgM2 := hgM1.below hbN hgM1.lt
  have hkM2 := hkM1.below hbN hkM1.lt
  have owM2 := own_below owM1 hbN
  have hCM2 := hCM1.trans (hbN.mono (Nat.le_trans hBw hCM1.size))
  clear hbN
  dsimp only
  refine hK _ _ (fun _ => cls hg2 hgM2 hk2 hkM2) (fun hSx => ?_)
  clear hSx hK K
  with_reducible refine L_main ?_ ?_
  focus (go_simp; done)
  intro K hK
  go_simp
  refine hK _ _ (fun _ => cls hg2 hgM2 hk2 hkM2) (fun hSx => ?_)
  clear hSx hK K
  with_reducible refine L_main ?_ ?_
  focus (go_simp; done)
  intro K hK
  go_simp
  refine hK _ _ (fun _ => cls hg2 hgM2 hk2 hkM2) (fun hSx => ?_)
  clear hSx hK K
  have fz := hgM2.frozen
  have z8 := hgM2.cell 8
  have z9 := hgM2.cell 9
  simp [pcs] at z8 z9
  with_reducible refine L_main ?_ ?_
  focus (go_simp; done)
  intro K hK
  go_simp
  refine hK _ _ (fun h => absurd rfl h) (fun hSx => ?_)
  clear hSx hK K
  refine L_nil ?_
  have hg3 : Blk (((((V2).setCell ⟨g, 8, none⟩ (.int .i64 U2))).setCell ⟨g, 9, none⟩ (.int .i64 D2))) g 60 (pcs (.slice A' (n + 1) c') tu td y U2 D2 false) := Blk.to ((hgM2.set_ 8 (.int .i64 U2)).set_ 9 (.int .i64 D2)) (by simp [pcs])
  have hk3 : Blk (((((V2).setCell ⟨g, 8, none⟩ (.int .i64 U2))).setCell ⟨g, 9, none⟩ (.int .i64 D2))) gk 48 #[.int .i64 ku, .int .i64 kd, .int .i64 ku2, .int .i64 kd2, .int .i64 ht, .bool true] := ((hkM2.far (p := ⟨g, 8, none⟩) hne (.int .i64 U2)).far (p := ⟨g, 9, none⟩) hne (.int .i64 D2))
  have ow3 : (((((V2).setCell ⟨g, 8, none⟩ (.int .i64 U2))).setCell ⟨g, 9, none⟩ (.int .i64 D2))).ownsRow B 3 1 (.slice A' (n + 1) c') (n + 1) (xs ++ [.int .i64 Y]) := (own_far (own_far owM2 (p := ⟨g, 8, none⟩) (own_ne owM2 hgM2 (by decide)) (.int .i64 U2)) (p := ⟨g, 9, none⟩) (own_ne owM2 hgM2 (by decide)) (.int .i64 D2))
  have hC3 : Below B w (((((V2).setCell ⟨g, 8, none⟩ (.int .i64 U2))).setCell ⟨g, 9, none⟩ (.int .i64 D2))) := ((hCM2.setCell (p := ⟨g, 8, none⟩) hBg (.int .i64 U2)).setCell (p := ⟨g, 9, none⟩) hBg (.int .i64 D2))
  obtain ⟨W3, hW3⟩ : ∃ W, (((((V2).setCell ⟨g, 8, none⟩ (.int .i64 U2))).setCell ⟨g, 9, none⟩ (.int .i64 D2))) = W := ⟨_, rfl⟩
  rw [hW3] at hg3 hk3 ow3 hC3 ⊢
  clear hW3 fz z8 z9 p8 p9 k2 k3 hgD hkD owD hCD hgM1 hkM1 owM1 hCM1 hgM2 hkM2 owM2 hCM2 hg2 hk2 ow2 hC2
  go_wp2_with (fail)
  refine bodyPost_ret (results_none rfl _ _ _) rfl ⟨⟨_, rfl⟩, ⟨_, _, hg3, ow3⟩, hC3⟩

set_option maxRecDepth 100000 in
set_option maxHeartbeats 8000000 in
theorem put_ft (ku kd ku2 kd2 ht tu td y wu wd : Int) (A : Option Addr) (n c g B : Nat) (xs : List Value) (w : World) (hBw : B ≤ w.heap.size) (hBg : B ≤ g) (hn : n ≤ 4096) (hg : Blk w g 60 (pcs (.slice A n c) tu td y wu wd true)) (hown : w.ownsRow B 3 1 (.slice A n c) n xs) (U1 D1 : Int) (hJ1 : mj ⟨wu, wd⟩ ⟨ku, kd⟩ = ⟨U1, D1⟩) (Z : Int) (hZ : wrap64 (y + ht) = Z) :
    Calls Try.prog 36 #[.pointer (some ⟨g, 0, none⟩), .agg #[.int .i64 ku, .int .i64 kd, .int .i64 ku2, .int .i64 kd2, .int .i64 ht, .bool false]] w
      fun e w' => (∃ r, e = .returned r) ∧ (∃ A' c', Blk w' g 60 (pcs (.slice A' (n + 1) c') U1 D1 Z ku2 kd2 false) ∧ w'.ownsRow B 3 1 (.slice A' (n + 1) c') (n + 1) (xs ++ [.int .i64 y])) ∧ Below B w w' := by
  obtain ⟨i0, hi, hz0, hz1, hz2⟩ := info_parts info3
  have HJ1 := hidd hJ1
  clear hJ1
  have hZ2 : IntKind.i64.wrap (y + ht) = Z := by rw [IntKind.wrap_i64]; unfold wrap64 at hZ; exact hZ
  go_enter Try.func36, Try.ntmps36
  go_wp2_with (fail)
  have hg0 := hg.alloc (.cells #[.int .i64 ku, .int .i64 kd, .int .i64 ku2, .int .i64 kd2, .int .i64 ht, .bool false] 48)
  have hk0 := Blk.new w 48 #[.int .i64 ku, .int .i64 kd, .int .i64 ku2, .int .i64 kd2, .int .i64 ht, .bool false]
  have ow0 := hown.alloc (.cells #[.int .i64 ku, .int .i64 kd, .int .i64 ku2, .int .i64 kd2, .int .i64 ht, .bool false] 48)
  have hC0 := (Below.refl B w).alloc hBw (.cells #[.int .i64 ku, .int .i64 kd, .int .i64 ku2, .int .i64 kd2, .int .i64 ht, .bool false] 48)
  have hne : w.heap.size ≠ g := by have := hg.lt; omega
  obtain ⟨W0, hW0⟩ : ∃ W, w.alloc (.cells #[.int .i64 ku, .int .i64 kd, .int .i64 ku2, .int .i64 kd2, .int .i64 ht, .bool false] 48) = W := ⟨_, rfl⟩
  rw [hW0] at hg0 hk0 ow0 hC0 ⊢
  obtain ⟨gk, hgk⟩ : ∃ k, w.heap.size = k := ⟨_, rfl⟩
  rw [hgk] at hk0 hne ⊢
  clear hW0 hgk hg hown
  have p8 := hg0.cell 8
  have p9 := hg0.cell 9
  have k0 := hk0.cell 0
  have k1 := hk0.cell 1
  simp [pcs] at p8 p9 k0 k1
  have hgD : Blk W0.drew g 60 _ := hg0
  have hkD : Blk W0.drew gk 48 _ := hk0
  have owD : W0.drew.ownsRow B 3 1 (.slice A n c) n xs := ow0
  have hCD : Below B w W0.drew := Below.drew hC0
  refine region_ord [(0, true), (1, true), (2, true), (3, true), (4, true), (5, true), (6, true), (7, false), (8, false), (9, false), (10, false), (11, false)]
    (fun w' => (∀ o, w'.cell? ⟨g, o, none⟩ = W0.cell? ⟨g, o, none⟩) ∧ (∀ o, w'.cell? ⟨gk, o, none⟩ = W0.cell? ⟨gk, o, none⟩)) 11 (by kernel_rfl) (by kernel_rfl) (by kernel_rfl) (by kernel_rfl) (by intro c a d v w h; cases d <;> exact h) (cls hg0 hgD hk0 hkD) ?_
  simp only [List.map_cons, List.map_nil, List.getElem?_toArray, List.getElem?_cons_succ, List.getElem?_cons_zero]
  iterate 7 (first
    | (with_reducible refine L_yes ?_ ?_
       focus (go_simp; done)
       apply Exists.intro
       refine ⟨?_, ?_⟩
       (rintro w' ⟨_, hce⟩
        go_simp
        first | done | rfl | (rw [ite_next]))
       simp only [Act.put, List.setIfInBounds_toArray, List.set_cons_zero, List.set_cons_succ])
    | (with_reducible refine L_no ?_ ?_
       focus (go_simp; done)
       simp only [Act.put, List.setIfInBounds_toArray, List.set_cons_zero, List.set_cons_succ]))
  with_reducible refine L_main ?_ ?_
  focus (go_simp; done)
  intro K hK
  go_simp
  have hgM1 := hgD.alloc (.cells #[.int .i64 wu, .int .i64 wd, .int .i64 ku, .int .i64 kd] 24)
  have hkM1 := hkD.alloc (.cells #[.int .i64 wu, .int .i64 wd, .int .i64 ku, .int .i64 kd] 24)
  have owM1 := owD.alloc (.cells #[.int .i64 wu, .int .i64 wd, .int .i64 ku, .int .i64 kd] 24)
  have hCM1 := hCD.alloc (Nat.le_trans hBw hCD.size) (.cells #[.int .i64 wu, .int .i64 wd, .int .i64 ku, .int .i64 kd] 24)
  refine hK _ _ (fun _ => cls hg0 hgM1 hk0 hkM1) (fun hSx => ?_)
  clear hSx hK K
  with_reducible refine L_main ?_ ?_
  focus (go_simp; done)
  intro K hK
  go_simp
  refine (join_blk [⟨wu, wd⟩, ⟨ku, kd⟩] U1 D1 W0.heap.size 2 2 #[.int .i64 wu, .int .i64 wd, .int .i64 ku, .int .i64 kd] _ (Blk.new W0 24 #[.int .i64 wu, .int .i64 wd, .int .i64 ku, .int .i64 kd]).drew rfl rfl HJ1.out (by decide)).mono ?_
  rintro e V0 ⟨rfl, hbN⟩
  have hgM2 := hgM1.below hbN hgM1.lt
  have hkM2 := hkM1.below hbN hkM1.lt
  have owM2 := own_below owM1 hbN
  have hCM2 := hCM1.trans (hbN.mono (Nat.le_trans hBw hCM1.size))
  clear hbN
  dsimp only
  refine hK _ _ (fun _ => cls hg0 hgM2 hk0 hkM2) (fun hSx => ?_)
  clear hSx hK K
  with_reducible refine L_main ?_ ?_
  focus (go_simp; done)
  intro K hK
  go_simp
  refine hK _ _ (fun _ => cls hg0 hgM2 hk0 hkM2) (fun hSx => ?_)
  clear hSx hK K
  with_reducible refine L_main ?_ ?_
  focus (go_simp; done)
  intro K hK
  go_simp
  refine hK _ _ (fun _ => cls hg0 hgM2 hk0 hkM2) (fun hSx => ?_)
  clear hSx hK K
  have fz := hgM2.frozen
  have z8 := hgM2.cell 8
  have z9 := hgM2.cell 9
  simp [pcs] at z8 z9
  with_reducible refine L_main ?_ ?_
  focus (go_simp; done)
  intro K hK
  go_simp
  refine hK _ _ (fun h => absurd rfl h) (fun hSx => ?_)
  clear hSx hK K
  refine L_nil ?_
  have hg1 : Blk (((((V0).setCell ⟨g, 8, none⟩ (.int .i64 U1))).setCell ⟨g, 9, none⟩ (.int .i64 D1))) g 60 (pcs (.slice A n c) tu td y U1 D1 true) := Blk.to ((hgM2.set_ 8 (.int .i64 U1)).set_ 9 (.int .i64 D1)) (by simp [pcs])
  have hk1 : Blk (((((V0).setCell ⟨g, 8, none⟩ (.int .i64 U1))).setCell ⟨g, 9, none⟩ (.int .i64 D1))) gk 48 #[.int .i64 ku, .int .i64 kd, .int .i64 ku2, .int .i64 kd2, .int .i64 ht, .bool false] := ((hkM2.far (p := ⟨g, 8, none⟩) hne (.int .i64 U1)).far (p := ⟨g, 9, none⟩) hne (.int .i64 D1))
  have ow1 : (((((V0).setCell ⟨g, 8, none⟩ (.int .i64 U1))).setCell ⟨g, 9, none⟩ (.int .i64 D1))).ownsRow B 3 1 (.slice A n c) n xs := (own_far (own_far owM2 (p := ⟨g, 8, none⟩) (own_ne owM2 hgM2 (by decide)) (.int .i64 U1)) (p := ⟨g, 9, none⟩) (own_ne owM2 hgM2 (by decide)) (.int .i64 D1))
  have hC1 : Below B w (((((V0).setCell ⟨g, 8, none⟩ (.int .i64 U1))).setCell ⟨g, 9, none⟩ (.int .i64 D1))) := ((hCM2.setCell (p := ⟨g, 8, none⟩) hBg (.int .i64 U1)).setCell (p := ⟨g, 9, none⟩) hBg (.int .i64 D1))
  obtain ⟨W1, hW1⟩ : ∃ W, (((((V0).setCell ⟨g, 8, none⟩ (.int .i64 U1))).setCell ⟨g, 9, none⟩ (.int .i64 D1))) = W := ⟨_, rfl⟩
  rw [hW1] at hg1 hk1 ow1 hC1 ⊢
  clear hW1 fz z8 z9 p8 p9 k0 k1 hgD hkD owD hCD hgM1 hkM1 owM1 hCM1 hgM2 hkM2 owM2 hCM2 hg0 hk0 ow0 hC0
  have k5 := hk1.cell 5
  have p10 := hg1.cell 10
  simp [pcs] at k5 p10
  have p8 := hg1.cell 8
  have p9 := hg1.cell 9
  have p2 := hg1.cell 2
  have p3 := hg1.cell 3
  have fz := hg1.frozen
  simp [pcs] at p8 p9 p2 p3
  go_wp2_with (fail)
  have hg2 := Blk.to (((hg1.set_ 2 (.int .i64 U1)).set_ 3 (.int .i64 D1)).set_ 10 (.bool false)) (cs' := pcs (.slice A n c) U1 D1 y U1 D1 false) (by simp [pcs])
  have hk2 := ((hk1.far (p := ⟨g, 2, none⟩) hne (.int .i64 U1)).far (p := ⟨g, 3, none⟩) hne (.int .i64 D1)).far (p := ⟨g, 10, none⟩) hne (.bool false)
  have ow2 := own_far (own_far (own_far ow1 (p := ⟨g, 2, none⟩) (own_ne ow1 hg1 (by decide)) (.int .i64 U1)) (p := ⟨g, 3, none⟩) (own_ne ow1 hg1 (by decide)) (.int .i64 D1)) (p := ⟨g, 10, none⟩) (own_ne ow1 hg1 (by decide)) (.bool false)
  have hC2 := ((hC1.setCell (p := ⟨g, 2, none⟩) hBg (.int .i64 U1)).setCell (p := ⟨g, 3, none⟩) hBg (.int .i64 D1)).setCell (p := ⟨g, 10, none⟩) hBg (.bool false)
  obtain ⟨W2, hW2⟩ : ∃ W, ((W1.setCell ⟨g, 2, none⟩ (.int .i64 U1)).setCell ⟨g, 3, none⟩ (.int .i64 D1)).setCell ⟨g, 10, none⟩ (.bool false) = W := ⟨_, rfl⟩
  rw [hW2] at hg2 hk2 ow2 hC2 ⊢
  clear hW2 k5 p10 p8 p9 p2 p3 fz hg1 hk1 ow1 hC1
  have p0 := hg2.cell 0
  have p7 := hg2.cell 7
  simp [pcs] at p0 p7
  have hgD : Blk W2.drew g 60 _ := hg2
  have hkD : Blk W2.drew gk 48 _ := hk2
  have owD : W2.drew.ownsRow B 3 1 (.slice A n c) n xs := ow2
  have hCD : Below B w W2.drew := Below.drew hC2
  refine region_ord [(0, true), (1, true), (2, true), (3, true), (4, true), (5, true), (6, true), (7, true), (8, true), (9, true), (10, false), (11, false), (12, false), (13, false), (14, false), (15, false)]
    (fun w' => (∀ o, w'.cell? ⟨g, o, none⟩ = W2.cell? ⟨g, o, none⟩) ∧ (∀ o, w'.cell? ⟨gk, o, none⟩ = W2.cell? ⟨gk, o, none⟩)) 15 (by kernel_rfl) (by kernel_rfl) (by kernel_rfl) (by kernel_rfl) (by intro c a d v w h; cases d <;> exact h) (cls hg2 hgD hk2 hkD) ?_
  simp only [List.map_cons, List.map_nil, List.getElem?_toArray, List.getElem?_cons_succ, List.getElem?_cons_zero]
  iterate 10 (first
    | (with_reducible refine L_yes ?_ ?_
       focus (go_simp; done)
       apply Exists.intro
       refine ⟨?_, ?_⟩
       (rintro w' ⟨_, hce⟩
        go_simp
        first | done | rfl | (rw [ite_next]))
       simp only [Act.put, List.setIfInBounds_toArray, List.set_cons_zero, List.set_cons_succ])
    | (with_reducible refine L_no ?_ ?_
       focus (go_simp; done)
       simp only [Act.put, List.setIfInBounds_toArray, List.set_cons_zero, List.set_cons_succ]))
  with_reducible refine L_main ?_ ?_
  focus (go_simp; done)
  intro K hK
  go_simp
  have hgM1 := hgD.alloc (.cells #[.int .i64 y] 3)
  have hkM1 := hkD.alloc (.cells #[.int .i64 y] 3)
  have owM1 := owD.alloc (.cells #[.int .i64 y] 3)
  have hCM1 := hCD.alloc (Nat.le_trans hBw hCD.size) (.cells #[.int .i64 y] 3)
  refine hK _ _ (fun _ => cls hg2 hgM1 hk2 hkM1) (fun hSx => ?_)
  clear hSx hK K
  with_reducible refine L_main ?_ ?_
  focus (go_simp; done)
  intro K hK
  refine wp_append_src _ _ _ 35 (by rfl) B 3 i0 (.int .i64 0) 1 8 Try.underlying35 hi hz0 hz1 hz2 rfl (by decide) (.slice A n c) n _ (by rfl) owM1 ((W2.drew).alloc (.cells #[.int .i64 y] 3)).heap.size (some ⟨(W2.drew).heap.size, 0, none⟩) 1 1 [.int .i64 y] (by rfl) (Rd.blk (Blk.new (W2.drew) 3 #[.int .i64 y]) 1 1 rfl) (by simp [Value.oneCell']) (by unfold maxLen; omega) (by omega) (Nat.le_trans hBw hCM1.size) ?_
  intro v' V2 owM2' hgr hpr
  have hgM2 := hgM1.grown hgr (fun e => own_ne owM1 hgM1 (by decide) e.symm)
  have hkM2 := hkM1.grown hgr (fun e => own_ne owM1 hkM1 (by decide) e.symm)
  have hCM2 := hCM1.grown hgr (Nat.le_trans hBw hCM1.size) (fun q hq => (owM1.lt q hq).1)
  obtain ⟨A', c', rfl, _⟩ := own_slice owM2'
  have owM2 := owM2'
  clear owM2' hgr hpr
  refine hK _ _ (fun _ => cls hg2 hgM2 hk2 hkM2) (fun hSx => ?_)
  clear hSx hK K
  simp only [Act.put, List.setIfInBounds_toArray, List.set_cons_zero, List.set_cons_succ]
  with_reducible refine L_main ?_ ?_
  focus (go_simp; done)
  intro K hK
  go_simp
  refine hK _ _ (fun _ => cls hg2 hgM2 hk2 hkM2) (fun hSx => ?_)
  clear hSx hK K
  with_reducible refine L_main ?_ ?_
  focus (go_simp; done)
  intro K hK
  go_simp
  refine hK _ _ (fun _ => cls hg2 hgM2 hk2 hkM2) (fun hSx => ?_)
  clear hSx hK K
  with_reducible refine L_main ?_ ?_
  focus (go_simp; done)
  intro K hK
  go_simp
  refine hK _ _ (fun _ => cls hg2 hgM2 hk2 hkM2) (fun hSx => ?_)
  clear hSx hK K
  have fz := hgM2.frozen
  have z0 := hgM2.cell 0
  simp [pcs] at z0
  with_reducible refine L_main ?_ ?_
  focus (go_simp; done)
  intro K hK
  go_simp
  refine hK _ _ (fun h => absurd rfl h) (fun hSx => ?_)
  clear hSx hK K
  refine L_nil ?_
  have hg3 : Blk (((V2).setCell ⟨g, 0, none⟩ (.slice A' (n + 1) c'))) g 60 (pcs (.slice A' (n + 1) c') U1 D1 y U1 D1 false) := Blk.to (hgM2.set_ 0 (.slice A' (n + 1) c')) (by simp [pcs])
  have hk3 : Blk (((V2).setCell ⟨g, 0, none⟩ (.slice A' (n + 1) c'))) gk 48 #[.int .i64 ku, .int .i64 kd, .int .i64 ku2, .int .i64 kd2, .int .i64 ht, .bool false] := (hkM2.far (p := ⟨g, 0, none⟩) hne (.slice A' (n + 1) c'))
  have ow3 : (((V2).setCell ⟨g, 0, none⟩ (.slice A' (n + 1) c'))).ownsRow B 3 1 (.slice A' (n + 1) c') (n + 1) (xs ++ [.int .i64 y]) := (own_far owM2 (p := ⟨g, 0, none⟩) (own_ne owM2 hgM2 (by decide)) (.slice A' (n + 1) c'))
  have hC3 : Below B w (((V2).setCell ⟨g, 0, none⟩ (.slice A' (n + 1) c'))) := (hCM2.setCell (p := ⟨g, 0, none⟩) hBg (.slice A' (n + 1) c'))
  obtain ⟨W3, hW3⟩ : ∃ W, (((V2).setCell ⟨g, 0, none⟩ (.slice A' (n + 1) c'))) = W := ⟨_, rfl⟩
  rw [hW3] at hg3 hk3 ow3 hC3 ⊢
  clear hW3 fz z0 p0 p7 hgD hkD owD hCD hgM1 hkM1 owM1 hCM1 hgM2 hkM2 owM2 hCM2 hg2 hk2 ow2 hC2
  go_wp2_with (fail)
  have p7 := hg3.cell 7
  have k4 := hk3.cell 4
  simp [pcs] at p7 k4
  have hgD : Blk W3.drew g 60 _ := hg3
  have hkD : Blk W3.drew gk 48 _ := hk3
  have owD : W3.drew.ownsRow B 3 1 (.slice A' (n + 1) c') (n + 1) (xs ++ [.int .i64 y]) := ow3
  have hCD : Below B w W3.drew := Below.drew hC3
  refine region_ord [(0, true), (1, true), (2, true), (3, true), (4, true), (5, true), (6, true), (7, false), (8, false), (9, false)]
    (fun w' => (∀ o, w'.cell? ⟨g, o, none⟩ = W3.cell? ⟨g, o, none⟩) ∧ (∀ o, w'.cell? ⟨gk, o, none⟩ = W3.cell? ⟨gk, o, none⟩)) 9 (by kernel_rfl) (by kernel_rfl) (by kernel_rfl) (by kernel_rfl) (by intro c a d v w h; cases d <;> exact h) (cls hg3 hgD hk3 hkD) ?_
  simp only [List.map_cons, List.map_nil, List.getElem?_toArray, List.getElem?_cons_succ, List.getElem?_cons_zero]
  iterate 7 (first
    | (with_reducible refine L_yes ?_ ?_
       focus (go_simp; done)
       apply Exists.intro
       refine ⟨?_, ?_⟩
       (rintro w' ⟨_, hce⟩
        go_simp
        first | done | rfl | (rw [ite_next]))
       simp only [Act.put, List.setIfInBounds_toArray, List.set_cons_zero, List.set_cons_succ])
    | (with_reducible refine L_no ?_ ?_
       focus (go_simp; done)
       simp only [Act.put, List.setIfInBounds_toArray, List.set_cons_zero, List.set_cons_succ]))
  with_reducible refine L_main ?_ ?_
  focus (go_simp; done)
  intro K hK
  go_simp
  refine hK _ _ (fun _ => cls hg3 hgD hk3 hkD) (fun hSx => ?_)
  clear hSx hK K
  with_reducible refine L_main ?_ ?_
  focus (go_simp; done)
  intro K hK
  go_simp
  refine hK _ _ (fun _ => cls hg3 hgD hk3 hkD) (fun hSx => ?_)
  clear hSx hK K
  have fz := hgD.frozen
  have z7 := hgD.cell 7
  simp [pcs] at z7
  with_reducible refine L_main ?_ ?_
  focus (go_simp; done)
  intro K hK
  go_simp
  refine hK _ _ (fun h => absurd rfl h) (fun hSx => ?_)
  clear hSx hK K
  refine L_nil ?_
  have hg4 : Blk (((W3).setCell ⟨g, 7, none⟩ (.int .i64 Z))).drew g 60 (pcs (.slice A' (n + 1) c') U1 D1 Z U1 D1 false) := Blk.to (hgD.set_ 7 (.int .i64 Z)) (by simp [pcs])
  have hk4 : Blk (((W3).setCell ⟨g, 7, none⟩ (.int .i64 Z))).drew gk 48 #[.int .i64 ku, .int .i64 kd, .int .i64 ku2, .int .i64 kd2, .int .i64 ht, .bool false] := (hkD.far (p := ⟨g, 7, none⟩) hne (.int .i64 Z))
  have ow4 : (((W3).setCell ⟨g, 7, none⟩ (.int .i64 Z))).drew.ownsRow B 3 1 (.slice A' (n + 1) c') (n + 1) (xs ++ [.int .i64 y]) := (own_far owD (p := ⟨g, 7, none⟩) (own_ne owD hgD (by decide)) (.int .i64 Z))
  have hC4 : Below B w (((W3).setCell ⟨g, 7, none⟩ (.int .i64 Z))).drew := (hCD.setCell (p := ⟨g, 7, none⟩) hBg (.int .i64 Z))
  obtain ⟨W4, hW4⟩ : ∃ W, (((W3).setCell ⟨g, 7, none⟩ (.int .i64 Z))).drew = W := ⟨_, rfl⟩
  rw [hW4] at hg4 hk4 ow4 hC4 ⊢
  clear hW4 fz z7 p7 k4 hgD hkD owD hCD hg3 hk3 ow3 hC3
  have k2 := hk4.cell 2
  have k3 := hk4.cell 3
  have p8 := hg4.cell 8
  have p9 := hg4.cell 9
  have fz := hg4.frozen
  simp [pcs] at k2 k3 p8 p9
  go_wp2_with (fail)
  go_end0
  exact ⟨⟨_, rfl⟩, ⟨_, _, Blk.to ((hg4.set_ 8 (.int .i64 ku2)).set_ 9 (.int .i64 kd2)) (by simp [pcs]), own_far (own_far ow4 (p := ⟨g, 8, none⟩) (own_ne ow4 hg4 (by decide)) (.int .i64 ku2)) (p := ⟨g, 9, none⟩) (own_ne ow4 hg4 (by decide)) (.int .i64 kd2)⟩, (hC4.setCell (p := ⟨g, 8, none⟩) hBg (.int .i64 ku2)).setCell (p := ⟨g, 9, none⟩) hBg (.int .i64 kd2)⟩

set_option maxRecDepth 100000 in
set_option maxHeartbeats 8000000 in
theorem put_ff (ku kd ku2 kd2 ht tu td y wu wd : Int) (A : Option Addr) (n c g B : Nat) (xs : List Value) (w : World) (hBw : B ≤ w.heap.size) (hBg : B ≤ g) (hn : n ≤ 4096) (hg : Blk w g 60 (pcs (.slice A n c) tu td y wu wd false)) (hown : w.ownsRow B 3 1 (.slice A n c) n xs) (U1 D1 : Int) (hJ1 : mj ⟨wu, wd⟩ ⟨ku, kd⟩ = ⟨U1, D1⟩) (V Y : Int) (hV : wrap64 (U1 + D1) = V) (hY : wrap64 (y + V) = Y) (Z : Int) (hZ : wrap64 (Y + ht) = Z) :
    Calls Try.prog 36 #[.pointer (some ⟨g, 0, none⟩), .agg #[.int .i64 ku, .int .i64 kd, .int .i64 ku2, .int .i64 kd2, .int .i64 ht, .bool false]] w
      fun e w' => (∃ r, e = .returned r) ∧ (∃ A' c', Blk w' g 60 (pcs (.slice A' (n + 1) c') tu td Z ku2 kd2 false) ∧ w'.ownsRow B 3 1 (.slice A' (n + 1) c') (n + 1) (xs ++ [.int .i64 Y])) ∧ Below B w w' := by
  obtain ⟨i0, hi, hz0, hz1, hz2⟩ := info_parts info3
  have HJ1 := hidd hJ1
  clear hJ1
  have HV := hidd hV
  have hY2 : IntKind.i64.wrap (y + V) = Y := by rw [IntKind.wrap_i64]; unfold wrap64 at hY; exact hY
  clear hV
  have hZ2 : IntKind.i64.wrap (Y + ht) = Z := by rw [IntKind.wrap_i64]; unfold wrap64 at hZ; exact hZ
  go_enter Try.func36, Try.ntmps36
  go_wp2_with (fail)
  have hg0 := hg.alloc (.cells #[.int .i64 ku, .int .i64 kd, .int .i64 ku2, .int .i64 kd2, .int .i64 ht, .bool false] 48)
  have hk0 := Blk.new w 48 #[.int .i64 ku, .int .i64 kd, .int .i64 ku2, .int .i64 kd2, .int .i64 ht, .bool false]
  have ow0 := hown.alloc (.cells #[.int .i64 ku, .int .i64 kd, .int .i64 ku2, .int .i64 kd2, .int .i64 ht, .bool false] 48)
  have hC0 := (Below.refl B w).alloc hBw (.cells #[.int .i64 ku, .int .i64 kd, .int .i64 ku2, .int .i64 kd2, .int .i64 ht, .bool false] 48)
  have hne : w.heap.size ≠ g := by have := hg.lt; omega
  obtain ⟨W0, hW0⟩ : ∃ W, w.alloc (.cells #[.int .i64 ku, .int .i64 kd, .int .i64 ku2, .int .i64 kd2, .int .i64 ht, .bool false] 48) = W := ⟨_, rfl⟩
  rw [hW0] at hg0 hk0 ow0 hC0 ⊢
  obtain ⟨gk, hgk⟩ : ∃ k, w.heap.size = k := ⟨_, rfl⟩
  rw [hgk] at hk0 hne ⊢
  clear hW0 hgk hg hown
  have p8 := hg0.cell 8
  have p9 := hg0.cell 9
  have k0 := hk0.cell 0
  have k1 := hk0.cell 1
  simp [pcs] at p8 p9 k0 k1
  have hgD : Blk W0.drew g 60 _ := hg0
  have hkD : Blk W0.drew gk 48 _ := hk0
  have owD : W0.drew.ownsRow B 3 1 (.slice A n c) n xs := ow0
  have hCD : Below B w W0.drew := Below.drew hC0
  refine region_ord [(0, true), (1, true), (2, true), (3, true), (4, true), (5, true), (6, true), (7, false), (8, false), (9, false), (10, false), (11, false)]
    (fun w' => (∀ o, w'.cell? ⟨g, o, none⟩ = W0.cell? ⟨g, o, none⟩) ∧ (∀ o, w'.cell? ⟨gk, o, none⟩ = W0.cell? ⟨gk, o, none⟩)) 11 (by kernel_rfl) (by kernel_rfl) (by kernel_rfl) (by kernel_rfl) (by intro c a d v w h; cases d <;> exact h) (cls hg0 hgD hk0 hkD) ?_
  simp only [List.map_cons, List.map_nil, List.getElem?_toArray, List.getElem?_cons_succ, List.getElem?_cons_zero]
  iterate 7 (first
    | (with_reducible refine L_yes ?_ ?_
       focus (go_simp; done)
       apply Exists.intro
       refine ⟨?_, ?_⟩
       (rintro w' ⟨_, hce⟩
        go_simp
        first | done | rfl | (rw [ite_next]))
       simp only [Act.put, List.setIfInBounds_toArray, List.set_cons_zero, List.set_cons_succ])
    | (with_reducible refine L_no ?_ ?_
       focus (go_simp; done)
       simp only [Act.put, List.setIfInBounds_toArray, List.set_cons_zero, List.set_cons_succ]))
  with_reducible refine L_main ?_ ?_
  focus (go_simp; done)
  intro K hK
  go_simp
  have hgM1 := hgD.alloc (.cells #[.int .i64 wu, .int .i64 wd, .int .i64 ku, .int .i64 kd] 24)
  have hkM1 := hkD.alloc (.cells #[.int .i64 wu, .int .i64 wd, .int .i64 ku, .int .i64 kd] 24)
  have owM1 := owD.alloc (.cells #[.int .i64 wu, .int .i64 wd, .int .i64 ku, .int .i64 kd] 24)
  have hCM1 := hCD.alloc (Nat.le_trans hBw hCD.size) (.cells #[.int .i64 wu, .int .i64 wd, .int .i64 ku, .int .i64 kd] 24)
  refine hK _ _ (fun _ => cls hg0 hgM1 hk0 hkM1) (fun hSx => ?_)
  clear hSx hK K
  with_reducible refine L_main ?_ ?_
  focus (go_simp; done)
  intro K hK
  go_simp
  refine (join_blk [⟨wu, wd⟩, ⟨ku, kd⟩] U1 D1 W0.heap.size 2 2 #[.int .i64 wu, .int .i64 wd, .int .i64 ku, .int .i64 kd] _ (Blk.new W0 24 #[.int .i64 wu, .int .i64 wd, .int .i64 ku, .int .i64 kd]).drew rfl rfl HJ1.out (by decide)).mono ?_
  rintro e V0 ⟨rfl, hbN⟩
  have hgM2 := hgM1.below hbN hgM1.lt
  have hkM2 := hkM1.below hbN hkM1.lt
  have owM2 := own_below owM1 hbN
  have hCM2 := hCM1.trans (hbN.mono (Nat.le_trans hBw hCM1.size))
  clear hbN
  dsimp only
  refine hK _ _ (fun _ => cls hg0 hgM2 hk0 hkM2) (fun hSx => ?_)
  clear hSx hK K
  with_reducible refine L_main ?_ ?_
  focus (go_simp; done)
  intro K hK
  go_simp
  refine hK _ _ (fun _ => cls hg0 hgM2 hk0 hkM2) (fun hSx => ?_)
  clear hSx hK K
  with_reducible refine L_main ?_ ?_
  focus (go_simp; done)
  intro K hK
  go_simp
  refine hK _ _ (fun _ => cls hg0 hgM2 hk0 hkM2) (fun hSx => ?_)
  clear hSx hK K
  have fz := hgM2.frozen
  have z8 := hgM2.cell 8
  have z9 := hgM2.cell 9
  simp [pcs] at z8 z9
  with_reducible refine L_main ?_ ?_
  focus (go_simp; done)
  intro K hK
  go_simp
  refine hK _ _ (fun h => absurd rfl h) (fun hSx => ?_)
  clear hSx hK K
  refine L_nil ?_
  have hg1 : Blk (((((V0).setCell ⟨g, 8, none⟩ (.int .i64 U1))).setCell ⟨g, 9, none⟩ (.int .i64 D1))) g 60 (pcs (.slice A n c) tu td y U1 D1 false) := Blk.to ((hgM2.set_ 8 (.int .i64 U1)).set_ 9 (.int .i64 D1)) (by simp [pcs])
  have hk1 : Blk (((((V0).setCell ⟨g, 8, none⟩ (.int .i64 U1))).setCell ⟨g, 9, none⟩ (.int .i64 D1))) gk 48 #[.int .i64 ku, .int .i64 kd, .int .i64 ku2, .int .i64 kd2, .int .i64 ht, .bool false] := ((hkM2.far (p := ⟨g, 8, none⟩) hne (.int .i64 U1)).far (p := ⟨g, 9, none⟩) hne (.int .i64 D1))
  have ow1 : (((((V0).setCell ⟨g, 8, none⟩ (.int .i64 U1))).setCell ⟨g, 9, none⟩ (.int .i64 D1))).ownsRow B 3 1 (.slice A n c) n xs := (own_far (own_far owM2 (p := ⟨g, 8, none⟩) (own_ne owM2 hgM2 (by decide)) (.int .i64 U1)) (p := ⟨g, 9, none⟩) (own_ne owM2 hgM2 (by decide)) (.int .i64 D1))
  have hC1 : Below B w (((((V0).setCell ⟨g, 8, none⟩ (.int .i64 U1))).setCell ⟨g, 9, none⟩ (.int .i64 D1))) := ((hCM2.setCell (p := ⟨g, 8, none⟩) hBg (.int .i64 U1)).setCell (p := ⟨g, 9, none⟩) hBg (.int .i64 D1))
  obtain ⟨W1, hW1⟩ : ∃ W, (((((V0).setCell ⟨g, 8, none⟩ (.int .i64 U1))).setCell ⟨g, 9, none⟩ (.int .i64 D1))) = W := ⟨_, rfl⟩
  rw [hW1] at hg1 hk1 ow1 hC1 ⊢
  clear hW1 fz z8 z9 p8 p9 k0 k1 hgD hkD owD hCD hgM1 hkM1 owM1 hCM1 hgM2 hkM2 owM2 hCM2 hg0 hk0 ow0 hC0
  have k5 := hk1.cell 5
  have p10 := hg1.cell 10
  simp [pcs] at k5 p10
  go_wp2_with (fail)
  clear k5 p10
  have p7 := hg1.cell 7
  have p8 := hg1.cell 8
  have p9 := hg1.cell 9
  simp [pcs] at p7 p8 p9
  have hgD : Blk W1.drew g 60 _ := hg1
  have hkD : Blk W1.drew gk 48 _ := hk1
  have owD : W1.drew.ownsRow B 3 1 (.slice A n c) n xs := ow1
  have hCD : Below B w W1.drew := Below.drew hC1
  refine region_ord [(0, true), (1, true), (2, true), (3, true), (4, true), (5, true), (6, true), (7, true), (8, false), (9, true), (10, false), (11, false), (12, false)]
    (fun w' => (∀ o, w'.cell? ⟨g, o, none⟩ = W1.cell? ⟨g, o, none⟩) ∧ (∀ o, w'.cell? ⟨gk, o, none⟩ = W1.cell? ⟨gk, o, none⟩)) 12 (by kernel_rfl) (by kernel_rfl) (by kernel_rfl) (by kernel_rfl) (by intro c a d v w h; cases d <;> exact h) (cls hg1 hgD hk1 hkD) ?_
  simp only [List.map_cons, List.map_nil, List.getElem?_toArray, List.getElem?_cons_succ, List.getElem?_cons_zero]
  iterate 8 (first
    | (with_reducible refine L_yes ?_ ?_
       focus (go_simp; done)
       apply Exists.intro
       refine ⟨?_, ?_⟩
       (rintro w' ⟨_, hce⟩
        go_simp
        first | done | rfl | (rw [ite_next]))
       simp only [Act.put, List.setIfInBounds_toArray, List.set_cons_zero, List.set_cons_succ])
    | (with_reducible refine L_no ?_ ?_
       focus (go_simp; done)
       simp only [Act.put, List.setIfInBounds_toArray, List.set_cons_zero, List.set_cons_succ]))
  with_reducible refine L_main ?_ ?_
  focus (go_simp; done)
  intro K hK
  go_simp
  refine (value_val U1 D1 V HV.out _).mono ?_
  rintro e X1 ⟨rfl, hbN⟩
  have hgM1 := hgD.below hbN hgD.lt
  have hkM1 := hkD.below hbN hkD.lt
  have owM1 := own_below owD hbN
  have hCM1 := hCD.trans (hbN.mono (Nat.le_trans hBw hCD.size))
  clear hbN
  dsimp only
  refine hK _ _ (fun _ => cls hg1 hgM1 hk1 hkM1) (fun hSx => ?_)
  clear hSx hK K
  iterate 1 (first
    | (with_reducible refine L_yes ?_ ?_
       focus (go_simp; done)
       apply Exists.intro
       refine ⟨?_, ?_⟩
       (rintro w' ⟨_, hce⟩
        go_simp
        first | done | rfl | (rw [ite_next]))
       simp only [Act.put, List.setIfInBounds_toArray, List.set_cons_zero, List.set_cons_succ])
    | (with_reducible refine L_no ?_ ?_
       focus (go_simp; done)
       simp only [Act.put, List.setIfInBounds_toArray, List.set_cons_zero, List.set_cons_succ]))
  with_reducible refine L_main ?_ ?_
  focus (go_simp; done)
  intro K hK
  go_simp
  refine hK _ _ (fun _ => cls hg1 hgM1 hk1 hkM1) (fun hSx => ?_)
  clear hSx hK K
  with_reducible refine L_main ?_ ?_
  focus (go_simp; done)
  intro K hK
  go_simp
  refine hK _ _ (fun _ => cls hg1 hgM1 hk1 hkM1) (fun hSx => ?_)
  clear hSx hK K
  have fz := hgM1.frozen
  have z7 := hgM1.cell 7
  simp [pcs] at z7
  with_reducible refine L_main ?_ ?_
  focus (go_simp; done)
  intro K hK
  go_simp
  refine hK _ _ (fun h => absurd rfl h) (fun hSx => ?_)
  clear hSx hK K
  refine L_nil ?_
  have hg2 : Blk (((X1).setCell ⟨g, 7, none⟩ (.int .i64 Y))) g 60 (pcs (.slice A n c) tu td Y U1 D1 false) := Blk.to (hgM1.set_ 7 (.int .i64 Y)) (by simp [pcs])
  have hk2 : Blk (((X1).setCell ⟨g, 7, none⟩ (.int .i64 Y))) gk 48 #[.int .i64 ku, .int .i64 kd, .int .i64 ku2, .int .i64 kd2, .int .i64 ht, .bool false] := (hkM1.far (p := ⟨g, 7, none⟩) hne (.int .i64 Y))
  have ow2 : (((X1).setCell ⟨g, 7, none⟩ (.int .i64 Y))).ownsRow B 3 1 (.slice A n c) n xs := (own_far owM1 (p := ⟨g, 7, none⟩) (own_ne owM1 hgM1 (by decide)) (.int .i64 Y))
  have hC2 : Below B w (((X1).setCell ⟨g, 7, none⟩ (.int .i64 Y))) := (hCM1.setCell (p := ⟨g, 7, none⟩) hBg (.int .i64 Y))
  obtain ⟨W2, hW2⟩ : ∃ W, (((X1).setCell ⟨g, 7, none⟩ (.int .i64 Y))) = W := ⟨_, rfl⟩
  rw [hW2] at hg2 hk2 ow2 hC2 ⊢
  clear hW2 fz z7 p7 p8 p9 hgD hkD owD hCD hgM1 hkM1 owM1 hCM1 hg1 hk1 ow1 hC1
  go_wp2_with (fail)
  have p0 := hg2.cell 0
  have p7 := hg2.cell 7
  simp [pcs] at p0 p7
  have hgD : Blk W2.drew g 60 _ := hg2
  have hkD : Blk W2.drew gk 48 _ := hk2
  have owD : W2.drew.ownsRow B 3 1 (.slice A n c) n xs := ow2
  have hCD : Below B w W2.drew := Below.drew hC2
  refine region_ord [(0, true), (1, true), (2, true), (3, true), (4, true), (5, true), (6, true), (7, true), (8, true), (9, true), (10, false), (11, false), (12, false), (13, false), (14, false), (15, false)]
    (fun w' => (∀ o, w'.cell? ⟨g, o, none⟩ = W2.cell? ⟨g, o, none⟩) ∧ (∀ o, w'.cell? ⟨gk, o, none⟩ = W2.cell? ⟨gk, o, none⟩)) 15 (by kernel_rfl) (by kernel_rfl) (by kernel_rfl) (by kernel_rfl) (by intro c a d v w h; cases d <;> exact h) (cls hg2 hgD hk2 hkD) ?_
  simp only [List.map_cons, List.map_nil, List.getElem?_toArray, List.getElem?_cons_succ, List.getElem?_cons_zero]
  iterate 10 (first
    | (with_reducible refine L_yes ?_ ?_
       focus (go_simp; done)
       apply Exists.intro
       refine ⟨?_, ?_⟩
       (rintro w' ⟨_, hce⟩
        go_simp
        first | done | rfl | (rw [ite_next]))
       simp only [Act.put, List.setIfInBounds_toArray, List.set_cons_zero, List.set_cons_succ])
    | (with_reducible refine L_no ?_ ?_
       focus (go_simp; done)
       simp only [Act.put, List.setIfInBounds_toArray, List.set_cons_zero, List.set_cons_succ]))
  with_reducible refine L_main ?_ ?_
  focus (go_simp; done)
  intro K hK
  go_simp
  have hgM1 := hgD.alloc (.cells #[.int .i64 Y] 3)
  have hkM1 := hkD.alloc (.cells #[.int .i64 Y] 3)
  have owM1 := owD.alloc (.cells #[.int .i64 Y] 3)
  have hCM1 := hCD.alloc (Nat.le_trans hBw hCD.size) (.cells #[.int .i64 Y] 3)
  refine hK _ _ (fun _ => cls hg2 hgM1 hk2 hkM1) (fun hSx => ?_)
  clear hSx hK K
  with_reducible refine L_main ?_ ?_
  focus (go_simp; done)
  intro K hK
  refine wp_append_src _ _ _ 35 (by rfl) B 3 i0 (.int .i64 0) 1 8 Try.underlying35 hi hz0 hz1 hz2 rfl (by decide) (.slice A n c) n _ (by rfl) owM1 ((W2.drew).alloc (.cells #[.int .i64 Y] 3)).heap.size (some ⟨(W2.drew).heap.size, 0, none⟩) 1 1 [.int .i64 Y] (by rfl) (Rd.blk (Blk.new (W2.drew) 3 #[.int .i64 Y]) 1 1 rfl) (by simp [Value.oneCell']) (by unfold maxLen; omega) (by omega) (Nat.le_trans hBw hCM1.size) ?_
  intro v' V2 owM2' hgr hpr
  have hgM2 := hgM1.grown hgr (fun e => own_ne owM1 hgM1 (by decide) e.symm)
  have hkM2 := hkM1.grown hgr (fun e => own_ne owM1 hkM1 (by decide) e.symm)
  have hCM2 := hCM1.grown hgr (Nat.le_trans hBw hCM1.size) (fun q hq => (owM1.lt q hq).1)
  obtain ⟨A', c', rfl, _⟩ := own_slice owM2'
  have owM2 := owM2'
  clear owM2' hgr hpr
  refine hK _ _ (fun _ => cls hg2 hgM2 hk2 hkM2) (fun hSx => ?_)
  clear hSx hK K
  simp only [Act.put, List.setIfInBounds_toArray, List.set_cons_zero, List.set_cons_succ]
  with_reducible refine L_main ?_ ?_
  focus (go_simp; done)
  intro K hK
  go_simp
  refine hK _ _ (fun _ => cls hg2 hgM2 hk2 hkM2) (fun hSx => ?_)
  clear hSx hK K
  with_reducible refine L_main ?_ ?_
  focus (go_simp; done)
  intro K hK
  go_simp
  refine hK _ _ (fun _ => cls hg2 hgM2 hk2 hkM2) (fun hSx => ?_)
  clear hSx hK K
  with_reducible refine L_main ?_ ?_
  focus (go_simp; done)
  intro K hK
  go_simp
  refine hK _ _ (fun _ => cls hg2 hgM2 hk2 hkM2) (fun hSx => ?_)
  clear hSx hK K
  have fz := hgM2.frozen
  have z0 := hgM2.cell 0
  simp [pcs] at z0
  with_reducible refine L_main ?_ ?_
  focus (go_simp; done)
  intro K hK
  go_simp
  refine hK _ _ (fun h => absurd rfl h) (fun hSx => ?_)
  clear hSx hK K
  refine L_nil ?_
  have hg3 : Blk (((V2).setCell ⟨g, 0, none⟩ (.slice A' (n + 1) c'))) g 60 (pcs (.slice A' (n + 1) c') tu td Y U1 D1 false) := Blk.to (hgM2.set_ 0 (.slice A' (n + 1) c')) (by simp [pcs])
  have hk3 : Blk (((V2).setCell ⟨g, 0, none⟩ (.slice A' (n + 1) c'))) gk 48 #[.int .i64 ku, .int .i64 kd, .int .i64 ku2, .int .i64 kd2, .int .i64 ht, .bool false] := (hkM2.far (p := ⟨g, 0, none⟩) hne (.slice A' (n + 1) c'))
  have ow3 : (((V2).setCell ⟨g, 0, none⟩ (.slice A' (n + 1) c'))).ownsRow B 3 1 (.slice A' (n + 1) c') (n + 1) (xs ++ [.int .i64 Y]) := (own_far owM2 (p := ⟨g, 0, none⟩) (own_ne owM2 hgM2 (by decide)) (.slice A' (n + 1) c'))
  have hC3 : Below B w (((V2).setCell ⟨g, 0, none⟩ (.slice A' (n + 1) c'))) := (hCM2.setCell (p := ⟨g, 0, none⟩) hBg (.slice A' (n + 1) c'))
  obtain ⟨W3, hW3⟩ : ∃ W, (((V2).setCell ⟨g, 0, none⟩ (.slice A' (n + 1) c'))) = W := ⟨_, rfl⟩
  rw [hW3] at hg3 hk3 ow3 hC3 ⊢
  clear hW3 fz z0 p0 p7 hgD hkD owD hCD hgM1 hkM1 owM1 hCM1 hgM2 hkM2 owM2 hCM2 hg2 hk2 ow2 hC2
  go_wp2_with (fail)
  have p7 := hg3.cell 7
  have k4 := hk3.cell 4
  simp [pcs] at p7 k4
  have hgD : Blk W3.drew g 60 _ := hg3
  have hkD : Blk W3.drew gk 48 _ := hk3
  have owD : W3.drew.ownsRow B 3 1 (.slice A' (n + 1) c') (n + 1) (xs ++ [.int .i64 Y]) := ow3
  have hCD : Below B w W3.drew := Below.drew hC3
  refine region_ord [(0, true), (1, true), (2, true), (3, true), (4, true), (5, true), (6, true), (7, false), (8, false), (9, false)]
    (fun w' => (∀ o, w'.cell? ⟨g, o, none⟩ = W3.cell? ⟨g, o, none⟩) ∧ (∀ o, w'.cell? ⟨gk, o, none⟩ = W3.cell? ⟨gk, o, none⟩)) 9 (by kernel_rfl) (by kernel_rfl) (by kernel_rfl) (by kernel_rfl) (by intro c a d v w h; cases d <;> exact h) (cls hg3 hgD hk3 hkD) ?_
  simp only [List.map_cons, List.map_nil, List.getElem?_toArray, List.getElem?_cons_succ, List.getElem?_cons_zero]
  iterate 7 (first
    | (with_reducible refine L_yes ?_ ?_
       focus (go_simp; done)
       apply Exists.intro
       refine ⟨?_, ?_⟩
       (rintro w' ⟨_, hce⟩
        go_simp
        first | done | rfl | (rw [ite_next]))
       simp only [Act.put, List.setIfInBounds_toArray, List.set_cons_zero, List.set_cons_succ])
    | (with_reducible refine L_no ?_ ?_
       focus (go_simp; done)
       simp only [Act.put, List.setIfInBounds_toArray, List.set_cons_zero, List.set_cons_succ]))
  with_reducible refine L_main ?_ ?_
  focus (go_simp; done)
  intro K hK
  go_simp
  refine hK _ _ (fun _ => cls hg3 hgD hk3 hkD) (fun hSx => ?_)
  clear hSx hK K
  with_reducible refine L_main ?_ ?_
  focus (go_simp; done)
  intro K hK
  go_simp
  refine hK _ _ (fun _ => cls hg3 hgD hk3 hkD) (fun hSx => ?_)
  clear hSx hK K
  have fz := hgD.frozen
  have z7 := hgD.cell 7
  simp [pcs] at z7
  with_reducible refine L_main ?_ ?_
  focus (go_simp; done)
  intro K hK
  go_simp
  refine hK _ _ (fun h => absurd rfl h) (fun hSx => ?_)
  clear hSx hK K
  refine L_nil ?_
  have hg4 : Blk (((W3).setCell ⟨g, 7, none⟩ (.int .i64 Z))).drew g 60 (pcs (.slice A' (n + 1) c') tu td Z U1 D1 false) := Blk.to (hgD.set_ 7 (.int .i64 Z)) (by simp [pcs])
  have hk4 : Blk (((W3).setCell ⟨g, 7, none⟩ (.int .i64 Z))).drew gk 48 #[.int .i64 ku, .int .i64 kd, .int .i64 ku2, .int .i64 kd2, .int .i64 ht, .bool false] := (hkD.far (p := ⟨g, 7, none⟩) hne (.int .i64 Z))
  have ow4 : (((W3).setCell ⟨g, 7, none⟩ (.int .i64 Z))).drew.ownsRow B 3 1 (.slice A' (n + 1) c') (n + 1) (xs ++ [.int .i64 Y]) := (own_far owD (p := ⟨g, 7, none⟩) (own_ne owD hgD (by decide)) (.int .i64 Z))
  have hC4 : Below B w (((W3).setCell ⟨g, 7, none⟩ (.int .i64 Z))).drew := (hCD.setCell (p := ⟨g, 7, none⟩) hBg (.int .i64 Z))
  obtain ⟨W4, hW4⟩ : ∃ W, (((W3).setCell ⟨g, 7, none⟩ (.int .i64 Z))).drew = W := ⟨_, rfl⟩
  rw [hW4] at hg4 hk4 ow4 hC4 ⊢
  clear hW4 fz z7 p7 k4 hgD hkD owD hCD hg3 hk3 ow3 hC3
  have k2 := hk4.cell 2
  have k3 := hk4.cell 3
  have p8 := hg4.cell 8
  have p9 := hg4.cell 9
  have fz := hg4.frozen
  simp [pcs] at k2 k3 p8 p9
  go_wp2_with (fail)
  go_end0
  exact ⟨⟨_, rfl⟩, ⟨_, _, Blk.to ((hg4.set_ 8 (.int .i64 ku2)).set_ 9 (.int .i64 kd2)) (by simp [pcs]), own_far (own_far ow4 (p := ⟨g, 8, none⟩) (own_ne ow4 hg4 (by decide)) (.int .i64 ku2)) (p := ⟨g, 9, none⟩) (own_ne ow4 hg4 (by decide)) (.int .i64 kd2)⟩, (hC4.setCell (p := ⟨g, 8, none⟩) hBg (.int .i64 ku2)).setCell (p := ⟨g, 9, none⟩) hBg (.int .i64 kd2)⟩

end Go.Proofs.Ytbcojkfndegjmaa
