/- BlockBehind: the walk. -/
import Derived.Test.YtbcojkfndegjmaaKids
namespace Go.Proofs.Ytbcojkfndegjmaa
open Go.RowKit
set_option linter.unusedVariables false
attribute [local go_sem ↓] run_max run_min

theorem near_beh {k : Kd} (h : nearK k = true) : nearK (behO k) = true := by
  have hg := (nearK_gd h).1.2.2
  simp only [nearK, Bool.and_eq_true] at h
  simp only [behO, nearK, h.2]
  rfl
theorem fin_behind (l : List Kd) : fin (runK l false) true = ⟨(runK l false).ps, max 0 (runK l false).y, ⟨0, 0⟩, (runK l false).w, false⟩ := by
  unfold fin
  rw [(closed l).1, (closed l).2]
  rfl
theorem beh_facts (l : List Kd) (K : Kd) (m : List Kd) (hK : K.th = false) (E : Int) (hE : posK (runK l false) K + K.ht = E) (i : Nat) (hi : i < m.length) :
    ∃ P : Int, (runK (l ++ K :: m) false).ps[l.length + 1 + i]? = some (E + P) ∧ (runK (behO K :: m) false).ps[1 + i]? = some P := by
  obtain ⟨P, h1, h2⟩ := beh_at l K m hK i hi
  rw [hE, Int.add_comm] at h1
  exact ⟨P, h1, h2⟩
set_option maxRecDepth 100000 in
set_option maxHeartbeats 16000000 in
theorem behind_walk (l : List Kd) (k : Kd) (m : List Kd) (A Am : Option Addr) (cap capm : Nat) (w : World) (hR : Rd w w.heap.size 6 A l.length (kcells l)) (hRm : Rd w w.heap.size 6 Am m.length (kcells m)) :
    Calls Try.prog 13 #[.slice A l.length cap, .agg #[.int .i64 k.tp.up, .int .i64 k.tp.dn, .int .i64 k.bt.up, .int .i64 k.bt.dn, .int .i64 k.ht, .bool k.th], .slice Am m.length capm] w fun e w' => e = .returned (.bool true) ∧ Below w.heap.size w w' := by
  obtain ⟨⟨tu, td⟩, ⟨bu, bd⟩, ht, th⟩ := k
  obtain ⟨N1, hN1⟩ : ∃ N, nearL l = N := ⟨_, rfl⟩
  obtain ⟨N2, hN2⟩ : ∃ N, nearL m = N := ⟨_, rfl⟩
  obtain ⟨N3, hN3⟩ : ∃ N, nearL [(⟨⟨tu, td⟩, ⟨bu, bd⟩, ht, false⟩ : Kd)] = N := ⟨_, rfl⟩
  have HN1 := hidd hN1
  have HN2 := hidd hN2
  have HN3 := hidd hN3
  clear hN1 hN2 hN3
  obtain ⟨i0, hi, hz0, hz1, hz2⟩ := info_parts info48
  have HI := hidd (And.intro hi (And.intro hz0 (And.intro hz1 hz2)))
  clear hi hz0 hz1 hz2
  have hk0 := Blk.new w 48 #[.int .i64 tu, .int .i64 td, .int .i64 bu, .int .i64 bd, .int .i64 ht, .bool th]
  have hal := below_al (Below.refl w.heap.size w) (.cells #[.int .i64 tu, .int .i64 td, .int .i64 bu, .int .i64 bd, .int .i64 ht, .bool th] 48)
  go_enter Try.func13, Try.ntmps13
  go_wp2_with (fail)
  refine (awake14 _).mono ?_
  rintro e w1 ⟨rfl, hb1⟩
  have hk1 := hk0.below hb1 hk0.lt
  have hB1 := below_step hal hb1
  clear hk0 hb1 hal
  have z5 := hk1.cell 5
  have zf := hk1.frozen
  simp at z5
  go_upto_region 4 with (fail)
  have hk2 := Blk.to (hk1.set_ 5 (.bool false)) (cs' := #[.int .i64 tu, .int .i64 td, .int .i64 bu, .int .i64 bd, .int .i64 ht, .bool false]) (by simp)
  have hB2 := hB1.setCell (p := ⟨w.heap.size, 5, none⟩) (Nat.le_refl _) (.bool false)
  obtain ⟨w2, hw2⟩ : ∃ W, w1.setCell ⟨w.heap.size, 5, none⟩ (.bool false) = W := ⟨_, rfl⟩
  rw [hw2] at hk2 hB2 ⊢
  clear hw2 z5 zf hk1 hB1
  go_wp2_with (fail)
  refine (near14 l A cap w2 ((hR.below hB2).more hB2.size) N1 HN1.out).mono ?_
  rintro e w3 ⟨rfl, hb3⟩
  have hk3 := hk2.below hb3 hk2.lt
  have hB3 := below_step hB2 hb3
  clear hk2 hb3 hB2
  cases N1 with
  | false =>
    clear hR hRm
    go_wp2_with (fail)
    go_ret
    exact ⟨rfl, hB3⟩
  | true =>
  go_wp2_with (fail)
  refine (near14 m Am capm w3 ((hRm.below hB3).more hB3.size) N2 HN2.out).mono ?_
  rintro e w4 ⟨rfl, hb4⟩
  have hk4 := hk3.below hb4 hk3.lt
  have hB4 := below_step hB3 hb4
  clear hk3 hb4 hB3
  have z0 := hk4.cell 0
  have z1 := hk4.cell 1
  have z2 := hk4.cell 2
  have z3 := hk4.cell 3
  have z4 := hk4.cell 4
  have z5 := hk4.cell 5
  simp at z0 z1 z2 z3 z4 z5
  cases N2 with
  | false =>
    clear hR hRm
    go_wp2_with (fail)
    go_ret
    exact ⟨rfl, hB4⟩
  | true =>
  go_wp2_with (fail)
  refine (near14 [(⟨⟨tu, td⟩, ⟨bu, bd⟩, ht, false⟩ : Kd)] (some ⟨w4.heap.size, 0, none⟩) 1 _ (Kd.cells_blk (Blk.new w4 48 #[.int .i64 tu, .int .i64 td, .int .i64 bu, .int .i64 bd, .int .i64 ht, .bool false]) _ rfl 1 rfl) N3 HN3.out).mono ?_
  rintro e w5 ⟨rfl, hb5⟩
  have hal := below_al (Below.refl w4.heap.size w4) (.cells #[.int .i64 tu, .int .i64 td, .int .i64 bu, .int .i64 bd, .int .i64 ht, .bool false] 48)
  have hb45 := below_step hal hb5
  have hk5 := hk4.below hb45 hk4.lt
  have hB5 := below_step hB4 hb45
  clear hk4 hb5 hB4 hal hb45 z0 z1 z2 z3 z4 z5
  cases N3 with
  | false =>
    clear hR hRm
    go_wp2_with (fail)
    go_ret
    exact ⟨rfl, hB5⟩
  | true =>
  by_cases a1 : 100 < l.length
  · have d1 : decide ((100 : Int) < (l.length : Int)) = true := by simp; omega
    clear hR hRm
    go_wp2_with (fail)
    go_ret
    exact ⟨rfl, hB5⟩
  have d1 : decide ((100 : Int) < (l.length : Int)) = false := by simp; omega
  by_cases a2 : 100 < m.length
  · have d2 : decide ((100 : Int) < (m.length : Int)) = true := by simp; omega
    clear hR hRm
    go_wp2_with (fail)
    go_ret
    exact ⟨rfl, hB5⟩
  have d2 : decide ((100 : Int) < (m.length : Int)) = false := by simp; omega
  have hn1 := ((nearL_iff l).1 HN1.out).2
  have hn2 := ((nearL_iff m).1 HN2.out).2
  have hn3 := ((nearL_iff _).1 HN3.out).2 _ (List.mem_singleton.2 rfl)
  have hna : ∀ q ∈ l ++ (⟨⟨tu, td⟩, ⟨bu, bd⟩, ht, false⟩ : Kd) :: m, nearK q = true := by
    intro q hq
    rcases List.mem_append.1 hq with hq | hq
    · exact hn1 q hq
    · rcases List.mem_cons.1 hq with rfl | hq
      · exact hn3
      · exact hn2 q hq
  have hnb : ∀ q ∈ behO (⟨⟨tu, td⟩, ⟨bu, bd⟩, ht, false⟩ : Kd) :: m, nearK q = true := by
    intro q hq
    rcases List.mem_cons.1 hq with rfl | hq
    · exact near_beh hn3
    · exact hn2 q hq
  have hla : (l ++ (⟨⟨tu, td⟩, ⟨bu, bd⟩, ht, false⟩ : Kd) :: m).length = l.length + 1 + m.length := by simp; omega
  have hlb : (behO (⟨⟨tu, td⟩, ⟨bu, bd⟩, ht, false⟩ : Kd) :: m).length = 1 + m.length := by simp; omega
  have hs1 := near_stack (show _ ≤ 201 by rw [hla]; omega) hna false true
  have hs2 := near_stack (show _ ≤ 201 by rw [hlb]; omega) hnb false true
  rw [fin_behind] at hs1 hs2
  have hp1 := run_length (l ++ (⟨⟨tu, td⟩, ⟨bu, bd⟩, ht, false⟩ : Kd) :: m) false
  have hp2 := run_length (behO (⟨⟨tu, td⟩, ⟨bu, bd⟩, ht, false⟩ : Kd) :: m) false
  rw [hla] at hp1
  rw [hlb] at hp2
  obtain ⟨E, hE⟩ : ∃ E, posK (runK l false) (⟨⟨tu, td⟩, ⟨bu, bd⟩, ht, false⟩ : Kd) + ht = E := ⟨_, rfl⟩
  have hat := beh_facts l ⟨⟨tu, td⟩, ⟨bu, bd⟩, ht, false⟩ m rfl E hE
  have hkk := beh_k l ⟨⟨tu, td⟩, ⟨bu, bd⟩, ht, false⟩ m
  have hbw := beh_end l ⟨⟨tu, td⟩, ⟨bu, bd⟩, ht, false⟩ m rfl
  have hg1 := (gdS_run (M := 268435456) (by omega) (l ++ (⟨⟨tu, td⟩, ⟨bu, bd⟩, ht, false⟩ : Kd) :: m) false (fun q hq => (nearK_gd (hna q hq)).1) _ (Nat.le_refl _)).2.2.2
  have hg2 := (gdS_run (M := 268435456) (by omega) (behO (⟨⟨tu, td⟩, ⟨bu, bd⟩, ht, false⟩ : Kd) :: m) false (fun q hq => (nearK_gd (hnb q hq)).1) _ (Nat.le_refl _)).2.2.2
  rw [List.take_length, hla, bnd_eq] at hg1
  rw [List.take_length, hlb, bnd_eq] at hg2
  have hht := (nearK_gd hn3).1.1
  simp only at hht
  obtain ⟨S1, hS1⟩ : ∃ S, runK (l ++ (⟨⟨tu, td⟩, ⟨bu, bd⟩, ht, false⟩ : Kd) :: m) false = S := ⟨_, rfl⟩
  obtain ⟨S2, hS2⟩ : ∃ S, runK (behO (⟨⟨tu, td⟩, ⟨bu, bd⟩, ht, false⟩ : Kd) :: m) false = S := ⟨_, rfl⟩
  simp only [hS1, hS2] at hs1 hs2 hp1 hp2 hat hkk hbw hg1 hg2
  obtain ⟨Q, hQ⟩ : ∃ Q, posK (runK l false) (⟨⟨tu, td⟩, ⟨bu, bd⟩, ht, false⟩ : Kd) = Q := ⟨_, rfl⟩
  rw [hQ] at hE hkk
  obtain ⟨P1, tp1, y1, ⟨wu, wd⟩, o1⟩ := S1
  obtain ⟨P2, tp2, y2, w2', o2⟩ := S2
  simp only at hs1 hs2 hp1 hp2 hat hkk hbw hg1 hg2
  subst hbw
  obtain ⟨h1, hh1⟩ : ∃ h, max 0 y1 = h := ⟨_, rfl⟩
  obtain ⟨h2, hh2⟩ : ∃ h, max 0 y2 = h := ⟨_, rfl⟩
  rw [hh1] at hs1
  rw [hh2] at hs2
  have hQb := hg1 Q (List.mem_of_getElem? hkk)
  have hE1 : -150000000000 ≤ E ∧ E ≤ 150000000000 := by omega
  have hQ1 : -150000000000 ≤ Q ∧ Q ≤ 150000000000 := by omega
  have hat2 : ∀ i, i < m.length → ∃ P : Int, P1[l.length + 1 + i]? = some (E + P) ∧ P2[1 + i]? = some P ∧ -150000000000 ≤ P ∧ P ≤ 150000000000 := fun i hi => by
    obtain ⟨P, e1, e2⟩ := hat i hi
    have := hg2 P (List.mem_of_getElem? e2)
    exact ⟨P, e1, e2, by omega, by omega⟩
  have ka : kcells (l ++ [(⟨⟨tu, td⟩, ⟨bu, bd⟩, ht, false⟩ : Kd)]) = kcells l ++ [.int .i64 tu, .int .i64 td, .int .i64 bu, .int .i64 bd, .int .i64 ht, .bool false] := kcells_snoc _ _
  have kb : kcells (l ++ (⟨⟨tu, td⟩, ⟨bu, bd⟩, ht, false⟩ : Kd) :: m) = kcells l ++ .int .i64 tu :: .int .i64 td :: .int .i64 bu :: .int .i64 bd :: .int .i64 ht :: .bool false :: kcells m := by simp [kcells, Kd.cs]
  have kd : kcells (behO (⟨⟨tu, td⟩, ⟨bu, bd⟩, ht, false⟩ : Kd) :: m) = .int .i64 0 :: .int .i64 0 :: .int .i64 bu :: .int .i64 bd :: .int .i64 0 :: .bool false :: kcells m := by simp [kcells, Kd.cs, behO, mz]
  obtain ⟨N7, hN7⟩ : ∃ N, l.length + 1 + m.length = N := ⟨_, rfl⟩
  obtain ⟨N8, hN8⟩ : ∃ N, 1 + m.length = N := ⟨_, rfl⟩
  rw [hN7] at hla hp1
  rw [hN8] at hlb hp2
  have hN7b : N7 ≤ 201 := by omega
  have hN8b : N8 ≤ 101 := by omega
  have hl1 := fun A cap W hR => stack_lit _ false true A N7 cap N7 W _ hR hla (by omega) hs1 hp1
  have hl2 := fun A cap W hR => stack_lit _ false true A N8 cap N8 W _ hR hlb (by omega) hs2 hp2
  rw [kb] at hl1
  rw [kd] at hl2
  have HPL := hidd (And.intro hl1 hl2)
  have HF := hidd (And.intro hat2 (And.intro hkk (And.intro hE (And.intro hN7 hN8))))
  clear hs1 hs2 hp1 hp2 hat hkk hg1 hg2 hS1 hS2 hQ hQb hh1 hh2 hat2 ka kb kd hl1 hl2 hla hlb hna hnb hn1 hn2 hn3 HN1 HN2 HN3 hE hN7 hN8
  obtain ⟨hi, hz0, hz1, hz2⟩ := HI.out
  have rdl := (hR.below hB5).more hB5.size
  have rdm := (hRm.below hB5).more hB5.size
  clear hR
  go_wp2_with (at_builtin; refine wpList_append_src _ rfl _ _ 38 rfl w5.heap.size 48 i0 (.agg #[.int .i64 0, .int .i64 0, .int .i64 0, .int .i64 0, .int .i64 0, .bool false]) 6 48 Try.underlying38 hi hz0 hz1 hz2 rfl (by decide) (.slice none 0 0) 0 [] rfl (World.ownsRow_nil _ _ _ _) w5.heap.size A l.length cap (kcells l) rfl rdl (kcells_one l) ?c3a ?c4a (Nat.le_refl _) ?_)
  case c3a => unfold maxLen; omega
  case c4a => omega
  intro v7 w6 own7 hgr
  have hbb := (Below.refl w5.heap.size _).grown hgr (Nat.le_refl _) (fun q hq => by simp [Value.ownBlock] at hq)
  have hk6 := hk5.below hbb hk5.lt
  have hB6 := below_step hB5 hbb
  have rdm6 := (rdm.below hbb).more hbb.size
  have hk5l := hk5.lt
  clear hk5 hgr rdl d1 d2
  have z0 := hk6.cell 0
  have z1 := hk6.cell 1
  have z2 := hk6.cell 2
  have z3 := hk6.cell 3
  have z4 := hk6.cell 4
  have z5 := hk6.cell 5
  simp at z0 z1 z2 z3 z4 z5
  go_wp2_with (at_builtin; refine wpList_append_src _ rfl _ _ 38 rfl w5.heap.size 48 i0 (.agg #[.int .i64 0, .int .i64 0, .int .i64 0, .int .i64 0, .int .i64 0, .bool false]) 6 48 Try.underlying38 hi hz0 hz1 hz2 rfl (by decide) v7 l.length (kcells l) rfl (own7.alloc _) (w6.alloc (.cells #[.int .i64 tu, .int .i64 td, .int .i64 bu, .int .i64 bd, .int .i64 ht, .bool false] 48)).heap.size (some ⟨w6.heap.size, 0, none⟩) 1 1 [.int .i64 tu, .int .i64 td, .int .i64 bu, .int .i64 bd, .int .i64 ht, .bool false] rfl (Rd.blk (Blk.new w6 48 #[.int .i64 tu, .int .i64 td, .int .i64 bu, .int .i64 bd, .int .i64 ht, .bool false]) 1 6 rfl) (by simp [Value.oneCell']) ?c3b ?c4b (Nat.le_trans hbb.size (by simp)) ?_)
  case c3b => unfold maxLen; omega
  case c4b => omega
  intro v7b w7 own7b hgr
  have hbb2 : Below w5.heap.size w5 w7 := (below_al hbb _).grown hgr (below_al hbb _).size (fun q hq => (own7.lt q hq).1)
  have hk7 := (hk6.alloc (.cells #[.int .i64 tu, .int .i64 td, .int .i64 bu, .int .i64 bd, .int .i64 ht, .bool false] 48)).grown hgr (fun e => by
    have h := (own7.lt _ e.symm).1
    omega)
  have hB7 := hB5.trans (hbb2.mono hB5.size)
  have rdm7 := (rdm.below hbb2).more hbb2.size
  clear own7 hgr hk6 hB6 rdm6 hbb z0 z1 z2 z3 z4 z5
  go_wp2_with (at_builtin; refine wpList_append_src _ rfl _ _ 38 rfl w5.heap.size 48 i0 (.agg #[.int .i64 0, .int .i64 0, .int .i64 0, .int .i64 0, .int .i64 0, .bool false]) 6 48 Try.underlying38 hi hz0 hz1 hz2 rfl (by decide) v7b (l.length + 1) (kcells l ++ [.int .i64 tu, .int .i64 td, .int .i64 bu, .int .i64 bd, .int .i64 ht, .bool false]) rfl own7b w7.heap.size Am m.length capm (kcells m) rfl rdm7 (kcells_one m) ?c3c ?c4c hbb2.size ?_)
  case c3c => unfold maxLen; omega
  case c4c => omega
  intro v7c w8 own7c hgr
  have hbb3 : Below w5.heap.size w5 w8 := hbb2.grown hgr hbb2.size (fun q hq => (own7b.lt q hq).1)
  have hk8 := hk7.grown hgr (fun e => by
    have h := (own7b.lt _ e.symm).1
    omega)
  have hB8 := hB5.trans (hbb3.mono hB5.size)
  have rdm8 := (rdm.below hbb3).more hbb3.size
  clear own7b hgr hk7 hB7 rdm7 hbb2 rdm hB5
  rw [HF.out.2.2.2.1] at own7c
  obtain ⟨A7, c7, rfl, rd7⟩ := own_slice own7c
  clear own7c hbb3
  have z2 := hk8.cell 2
  have z3 := hk8.cell 3
  simp at z2 z3
  go_wp2_with (at_builtin; refine wpList_append_src _ rfl _ _ 38 rfl w8.heap.size 48 i0 (.agg #[.int .i64 0, .int .i64 0, .int .i64 0, .int .i64 0, .int .i64 0, .bool false]) 6 48 Try.underlying38 hi hz0 hz1 hz2 rfl (by decide) (.slice none 0 0) 0 [] rfl (World.ownsRow_nil _ _ _ _) (w8.alloc (.cells #[.int .i64 0, .int .i64 0, .int .i64 bu, .int .i64 bd, .int .i64 0, .bool false] 48)).heap.size (some ⟨w8.heap.size, 0, none⟩) 1 1 [.int .i64 0, .int .i64 0, .int .i64 bu, .int .i64 bd, .int .i64 0, .bool false] rfl (Rd.blk (Blk.new w8 48 #[.int .i64 0, .int .i64 0, .int .i64 bu, .int .i64 bd, .int .i64 0, .bool false]) 1 6 rfl) (by simp [Value.oneCell']) ?c3d ?c4d (by simp) ?_)
  case c3d => unfold maxLen; omega
  case c4d => omega
  intro v8 w9 own8 hgr
  have hbb := (below_al (Below.refl w8.heap.size w8) (.cells #[.int .i64 0, .int .i64 0, .int .i64 bu, .int .i64 bd, .int .i64 0, .bool false] 48)).grown hgr (by simp) (fun q hq => by simp [Value.ownBlock] at hq)
  have rdm9 := (rdm8.below hbb).more hbb.size
  clear hgr z2 z3
  go_wp2_with (at_builtin; refine wpList_append_src _ rfl _ _ 38 rfl w8.heap.size 48 i0 (.agg #[.int .i64 0, .int .i64 0, .int .i64 0, .int .i64 0, .int .i64 0, .bool false]) 6 48 Try.underlying38 hi hz0 hz1 hz2 rfl (by decide) v8 1 [.int .i64 0, .int .i64 0, .int .i64 bu, .int .i64 bd, .int .i64 0, .bool false] rfl own8 w9.heap.size Am m.length capm (kcells m) rfl rdm9 (kcells_one m) ?c3e ?c4e hbb.size ?_)
  case c3e => unfold maxLen; omega
  case c4e => omega
  intro v8b W9 own8b hgr
  have hbb2 : Below w8.heap.size w8 W9 := hbb.grown hgr hbb.size (fun q hq => (own8.lt q hq).1)
  have hk9 := hk8.below hbb2 hk8.lt
  have hB9 := below_step hB8 hbb2
  replace rd7 := (rd7.below hbb2).more hbb2.size
  rw [HF.out.2.2.2.2] at own8b
  obtain ⟨A8, c8, rfl, rd8⟩ := own_slice own8b
  clear own8 own8b hgr hk8 hB8 rdm8 rdm9 hbb hbb2 hi hz0 hz1 hz2 HI
  go_wp2_with (fail)
  refine (HPL.out.1 _ _ W9 rd7).mono ?_
  rintro e x5 ⟨A5, c5, rfl, rd5, hbN⟩
  replace hB9 := below_step hB9 hbN
  replace rd7 := (rd7.below hbN).more hbN.size
  replace rd8 := (rd8.below hbN).more hbN.size
  replace hk9 := hk9.below hbN hk9.lt
  clear hbN
  go_upto_region 13 with (fail)
  have hal := below_al (Below.refl (x5).heap.size (x5)) (.cells #[.slice A5 N7 c5, .int .i64 h1, .int .i64 0, .int .i64 0, .int .i64 wu, .int .i64 wd, .bool false] 40)
  replace hB9 := below_step hB9 hal
  replace rd7 := (rd7.below hal).more hal.size
  replace rd8 := (rd8.below hal).more hal.size
  replace hk9 := hk9.below hal hk9.lt
  have X5 : Res ((x5).alloc (.cells #[.slice A5 N7 c5, .int .i64 h1, .int .i64 0, .int .i64 0, .int .i64 wu, .int .i64 wd, .bool false] 40)) (x5).heap.size N7 ⟨P1, h1, ⟨0, 0⟩, ⟨wu, wd⟩, false⟩ := Res.new (k := ⟨P1, h1, ⟨0, 0⟩, ⟨wu, wd⟩, false⟩) rd5
  clear hal
  clear rd5
  obtain ⟨g5, hg5⟩ : ∃ g, (x5).heap.size = g := ⟨_, rfl⟩
  rw [hg5] at X5 ⊢
  clear hg5
  obtain ⟨v5, hv5⟩ : ∃ W, (x5).alloc (.cells #[.slice A5 N7 c5, .int .i64 h1, .int .i64 0, .int .i64 0, .int .i64 wu, .int .i64 wd, .bool false] 40) = W := ⟨_, rfl⟩
  rw [hv5] at hB9 rd7 rd8 hk9 X5 ⊢
  clear hv5
  go_wp2_with (fail)
  refine (HPL.out.2 _ _ v5 rd8).mono ?_
  rintro e x6 ⟨A6, c6, rfl, rd6, hbN⟩
  replace hB9 := below_step hB9 hbN
  replace rd7 := (rd7.below hbN).more hbN.size
  replace rd8 := (rd8.below hbN).more hbN.size
  replace hk9 := hk9.below hbN hk9.lt
  replace X5 := X5.below hbN
  clear hbN
  go_upto_region 14 with (fail)
  have hal := below_al (Below.refl (x6).heap.size (x6)) (.cells #[.slice A6 N8 c6, .int .i64 h2, .int .i64 0, .int .i64 0, .int .i64 wu, .int .i64 wd, .bool false] 40)
  replace hB9 := below_step hB9 hal
  replace rd7 := (rd7.below hal).more hal.size
  replace rd8 := (rd8.below hal).more hal.size
  replace hk9 := hk9.below hal hk9.lt
  replace X5 := X5.below hal
  have X6 : Res ((x6).alloc (.cells #[.slice A6 N8 c6, .int .i64 h2, .int .i64 0, .int .i64 0, .int .i64 wu, .int .i64 wd, .bool false] 40)) (x6).heap.size N8 ⟨P2, h2, ⟨0, 0⟩, ⟨wu, wd⟩, false⟩ := Res.new (k := ⟨P2, h2, ⟨0, 0⟩, ⟨wu, wd⟩, false⟩) rd6
  clear hal
  clear rd6
  obtain ⟨g6, hg6⟩ : ∃ g, (x6).heap.size = g := ⟨_, rfl⟩
  rw [hg6] at X6 ⊢
  clear hg6
  obtain ⟨v6, hv6⟩ : ∃ W, (x6).alloc (.cells #[.slice A6 N8 c6, .int .i64 h2, .int .i64 0, .int .i64 0, .int .i64 wu, .int .i64 wd, .bool false] 40) = W := ⟨_, rfl⟩
  rw [hv6] at hB9 rd7 rd8 hk9 X5 X6 ⊢
  clear hv6
  clear rd7 rd8 HPL
  have X5' := X5
  have X6' := X6
  obtain ⟨a5, d5, b5, r5⟩ := X5'
  obtain ⟨a6, d6, b6, r6⟩ := X6'
  clear X5 X6
  have hl7 := HF.out.2.2.2.1
  have hl8 := HF.out.2.2.2.2
  obtain ⟨ga, oa, rfl, hga, hca⟩ := r5.2 (by omega)
  obtain ⟨gb, ob, rfl, hgb, hcb⟩ := r6.2 (by omega)
  have p0 := b5.cell 0
  have p4 := b5.cell 4
  have p5 := b5.cell 5
  have q0 := b6.cell 0
  have q4 := b6.cell 4
  have q5 := b6.cell 5
  have z4 := hk9.cell 4
  simp at p0 p4 p5 q0 q4 q5 z4
  have d1 : ((N7 : Int) != (N7 : Int)) = false := by simp
  have d2 : ((N8 : Int) != (N8 : Int)) = false := by simp
  have hx := hca _ _ (icell P1 _ _ HF.out.2.1)
  have hEE := HF.out.2.2.1
  have hw1 : IntKind.i64.wrap (Q + ht) = E := by rw [IntWalk.i64_in _ ⟨by omega, by omega⟩]; exact hEE
  have hw1' : wrap64 (Q + ht) = E := by rw [IntWalk.wrap64_in _ ⟨by omega, by omega⟩]; exact hEE
  have g5l := b5.lt
  have g6l := b6.lt
  have gkl := hk9.lt
  have l0 : (0 : Int) ≤ (l.length : Int) := Int.natCast_nonneg _
  have l1 : (l.length : Int) < (N7 : Int) := by omega
  have HH := hidd (And.intro hl7 (And.intro hl8 hEE))
  clear hl7 hl8 hEE
  go_wp2_with (fail)
  refine region_ord [(0, true), (1, true), (2, true), (3, true), (4, true), (5, true), (6, true), (7, true), (8, true), (9, true)]
    (fun w' => Below v6.heap.size v6 w' ∧ ∀ b o, b < v6.heap.size → w'.cell? ⟨b, o, none⟩ = v6.cell? ⟨b, o, none⟩) 999 (by kernel_rfl) (by kernel_rfl) (by kernel_rfl) (by kernel_rfl) (by intro c a d v w h; cases d <;> exact h) (ext_of (Below.drew (Below.refl _ _))) ?_
  simp only [List.map_cons, List.map_nil, List.getElem?_toArray, List.getElem?_cons_succ, List.getElem?_cons_zero]
  have hD0 : Below v6.heap.size v6 v6.drew := Below.drew (Below.refl _ _)
  iterate 10 (first
    | (with_reducible refine L_yes ?_ ?_
       focus (go_simp; done)
       apply Exists.intro
       refine ⟨?_, ?_⟩
       (rintro w' ⟨_, hce⟩
        go_simp
        first | done | rfl | (rw [ite_next]))
       simp only [Act.put, List.setIfInBounds_toArray, List.set_cons_zero, List.set_cons_succ])
    | (with_reducible refine L_no ?_ ?_
       focus (go_simp; first | done | (intro h; cases h))
       simp only [Act.put, List.setIfInBounds_toArray, List.set_cons_zero, List.set_cons_succ]))
  refine L_nil ?_
  clear p0 p4 p5 q0 q4 q5 z4 d1 d2 hx hw1 hw1' hD0
  go_wp2_with (fail)
  go_loopw [14] (fun i wx => ∃ k : Nat, k ≤ m.length ∧ i = .int .i64 k ∧ Below v6.heap.size v6 wx)
    (fun i _ => m.length - (intOf i).toNat)
  case atStart => exact ⟨0, Nat.zero_le _, rfl, Below.drew (Below.refl _ _)⟩
  case round =>
    obtain ⟨k, hk, rfl, hb⟩ := hrel
    obtain ⟨W, hW⟩ : ∃ W, wr = W := ⟨_, rfl⟩
    rw [hW] at hb ⊢
    clear hW
    clear wr
    by_cases hlt : k < m.length
    · obtain ⟨P, e1, e2, e3, e4⟩ := HF.out.1 k hlt
      have hl7 := HH.out.1
      have hl8 := HH.out.2.1
      obtain ⟨j, hj⟩ : ∃ j, l.length + 1 + k = j := ⟨_, rfl⟩
      obtain ⟨j2, hj2⟩ : ∃ j, 1 + k = j := ⟨_, rfl⟩
      rw [hj] at e1
      rw [hj2] at e2
      have hji : (l.length : Int) + 1 + (k : Int) = (j : Int) := by omega
      have hji2 : 1 + (k : Int) = (j2 : Int) := by omega
      have hxx := (hb.cell (p := ⟨ga, oa + j, none⟩) hga).trans (hca _ _ (icell P1 j _ e1))
      have hyy := (hb.cell (p := ⟨gb, ob + j2, none⟩) hgb).trans (hcb _ _ (icell P2 j2 _ e2))
      have p0 := (b5.below hb g5l).cell 0
      have q0 := (b6.below hb g6l).cell 0
      simp at p0 q0
      have gaW := Nat.lt_of_lt_of_le hga hb.size
      have gbW := Nat.lt_of_lt_of_le hgb hb.size
      have g5W := Nat.lt_of_lt_of_le g5l hb.size
      have g6W := Nat.lt_of_lt_of_le g6l hb.size
      have j0 : (0 : Int) ≤ (j : Int) := Int.natCast_nonneg _
      have j1 : (j : Int) < (N7 : Int) := by omega
      have j2' : (0 : Int) ≤ (j2 : Int) := Int.natCast_nonneg _
      have j3 : (j2 : Int) < (N8 : Int) := by omega
      have hw1 : IntKind.i64.wrap (E + P) = E + P := IntWalk.i64_in _ ⟨by omega, by omega⟩
      have hqq : (E + P != E + P) = false := by simp
      have hw2 : IntKind.i64.wrap ((l.length : Int) + 1) = (l.length : Int) + 1 := IntWalk.i64_in _ ⟨by omega, by omega⟩
      have hw3 : IntKind.i64.wrap ((j : Int)) = (j : Int) := IntWalk.i64_in _ ⟨by omega, by omega⟩
      have hw4 : IntKind.i64.wrap ((j2 : Int)) = (j2 : Int) := IntWalk.i64_in _ ⟨by omega, by omega⟩
      have k0 : (0 : Int) ≤ (k : Int) := Int.natCast_nonneg _
      have k1 : (k : Int) < (m.length : Int) := by omega
      clear hl7 hl8 hj hj2 e1 e2
      go_wp2_with (fail)
      refine region_ord [(0, true), (1, true), (2, true), (3, true), (4, true), (5, true), (6, true), (7, true), (8, true), (9, true), (10, true), (11, true), (12, true), (13, true), (14, true), (15, true), (16, true), (17, true)]
        (fun w' => Below W.heap.size W w' ∧ ∀ b o, b < W.heap.size → w'.cell? ⟨b, o, none⟩ = W.cell? ⟨b, o, none⟩) 999 (by kernel_rfl) (by kernel_rfl) (by kernel_rfl) (by kernel_rfl) (by intro c a d v w h; cases d <;> exact h) (ext_of (Below.drew (Below.refl _ _))) ?_
      simp only [List.map_cons, List.map_nil, List.getElem?_toArray, List.getElem?_cons_succ, List.getElem?_cons_zero]
      have hE0 : Below W.heap.size W W.drew := Below.drew (Below.refl _ _)
      iterate 18 (first
        | (with_reducible refine L_yes ?_ ?_
           focus (go_simp; done)
           apply Exists.intro
           refine ⟨?_, ?_⟩
           (rintro w' ⟨_, hce⟩
            go_simp
            first | done | rfl | (rw [ite_next]))
           simp only [Act.put, List.setIfInBounds_toArray, List.set_cons_zero, List.set_cons_succ])
        | (with_reducible refine L_no ?_ ?_
           focus (go_simp; first | done | (intro h; cases h))
           simp only [Act.put, List.setIfInBounds_toArray, List.set_cons_zero, List.set_cons_succ]))
      refine L_nil ?_
      clear hw1 hqq hw2 hw3 hw4 hji hji2 hxx hyy
      go_wp2_with (fail)
      go_roundw
      case rel => exact ⟨k + 1, by omega, by go_num, Below.drew hb⟩
      case measure => simp [intOf]; omega
    · have hkk : k = m.length := by omega
      subst hkk
      go_wp2_with (fail)
      go_ret
      exact ⟨rfl, hB9.trans (hb.mono hB9.size)⟩
end Go.Proofs.Ytbcojkfndegjmaa
