/- BlockStacks: the walk. -/
import Derived.Test.YtbcojkfndegjmaaRStack
import Derived.Test.YtbcojkfndegjmaaKids
namespace Go.Proofs.Ytbcojkfndegjmaa
open Go.RowKit
set_option linter.unusedVariables false
attribute [local go_sem ↓] run_max run_min

set_option maxHeartbeats 4000000 in
theorem rsame14 (ps : List Int) (A B : Option Addr) (n c1 c2 : Nat) (ht tu td bu bd : Int) (th : Bool) (w : World) (hn : ps.length = n) (hA : Rd w w.heap.size 1 A n (icells ps)) (hB : Rd w w.heap.size 1 B n (icells ps)) (hl : n ≤ 4611686018427387904) :
    Calls Try.prog 25 #[.agg #[.slice A n c1, .int .i64 ht, .int .i64 tu, .int .i64 td, .int .i64 bu, .int .i64 bd, .bool th], .agg #[.slice B n c2, .int .i64 ht, .int .i64 tu, .int .i64 td, .int .i64 bu, .int .i64 bd, .bool th]] w fun e w' => e = .returned (.bool true) ∧ Below w.heap.size w w' := by
  have hb0 := below_al (below_al (Below.refl w.heap.size w) (.cells #[.slice A n c1, .int .i64 ht, .int .i64 tu, .int .i64 td, .int .i64 bu, .int .i64 bd, .bool th] 40)) (.cells #[.slice B n c2, .int .i64 ht, .int .i64 tu, .int .i64 td, .int .i64 bu, .int .i64 bd, .bool th] 40)
  have g1 := (Blk.new w 40 #[.slice A n c1, .int .i64 ht, .int .i64 tu, .int .i64 td, .int .i64 bu, .int .i64 bd, .bool th]).alloc (.cells #[.slice B n c2, .int .i64 ht, .int .i64 tu, .int .i64 td, .int .i64 bu, .int .i64 bd, .bool th] 40)
  have g2 := Blk.new (w.alloc (.cells #[.slice A n c1, .int .i64 ht, .int .i64 tu, .int .i64 td, .int .i64 bu, .int .i64 bd, .bool th] 40)) 40 #[.slice B n c2, .int .i64 ht, .int .i64 tu, .int .i64 td, .int .i64 bu, .int .i64 bd, .bool th]
  rw [World.size_alloc] at g2
  have hA2 := (hA.below hb0).more hb0.size
  have hB2 := (hB.below hb0).more hb0.size
  go_enter Try.func25, Try.ntmps25
  go_wp2_with (fail)
  refine (rsame_yes ps A B n c1 c2 _ hn hA2 hB2 hl).mono ?_
  rintro e w1 ⟨rfl, hb1⟩
  replace g1 := g1.below hb1 g1.lt
  replace g2 := g2.below hb1 g2.lt
  have hB1 := below_step hb0 hb1
  clear hA hB hA2 hB2 hb0 hb1
  have p1 := g1.cell 1
  have q1 := g2.cell 1
  have p2 := g1.cell 2
  have q2 := g2.cell 2
  have p3 := g1.cell 3
  have q3 := g2.cell 3
  have p4 := g1.cell 4
  have q4 := g2.cell 4
  have p5 := g1.cell 5
  have q5 := g2.cell 5
  have p6 := g1.cell 6
  have q6 := g2.cell 6
  simp at p1 q1 p2 q2 p3 q3 p4 q4 p5 q5 p6 q6
  go_wp2_with (fail)
  go_ret
  exact ⟨ret_bool (by cases th <;> rfl), hB1⟩

set_option maxRecDepth 100000 in
set_option maxHeartbeats 16000000 in
theorem stacks_walk (l : List Kd) (a b : Bool) (A : Option Addr) (cap : Nat) (w : World) (hR : Rd w w.heap.size 6 A l.length (kcells l)) (hlc : l.length ≤ cap) (hcm : cap ≤ maxLen) :
    Calls Try.prog 8 #[.slice A l.length cap, .bool a, .bool b] w fun e w' => e = .returned (.bool true) ∧ Below w.heap.size w w' := by
  by_cases hbig : 2100 < l.length
  · have dbig : decide ((2100 : Int) < (l.length : Int)) = true := by simp; omega
    clear hR hbig
    go_enter Try.func8, Try.ntmps8
    go_wp2_with (fail)
    go_ret
    exact ⟨rfl, Below.refl _ _⟩
  have dbig : decide ((2100 : Int) < (l.length : Int)) = false := by simp; omega
  have hl : l.length ≤ 2100 := by omega
  clear hbig hlc hcm
  obtain ⟨i0, hi, hz0, hz1, hz2⟩ := info_parts info48
  obtain ⟨RR, hRR⟩ : ∃ R, stackF l a b = R := ⟨_, rfl⟩
  obtain ⟨n, hn⟩ : ∃ n, RR.sk.ps.length = n := ⟨_, rfl⟩
  have HST := hidd (fun A cap W hR => rstack_any l a b A cap W hR (by omega) RR hRR n hn)
  have HSY := hidd (fun A cap W hR => stack_any l a b A cap W hR (by omega))
  have hnl : n ≤ 2100 := by
    rw [← hn, ← hRR]
    unfold stackF
    split
    · split
      · rw [fin_ps, run_length]; exact hl
      · simp [sk0]
    · simp [sk0]
  have HRR := hidd (And.intro hRR hn)
  clear hRR hn
  go_enter Try.func8, Try.ntmps8
  go_wp2_with (at_builtin; refine wpList_append_src _ rfl _ _ 38 rfl w.heap.size 48 i0 (.agg #[.int .i64 0, .int .i64 0, .int .i64 0, .int .i64 0, .int .i64 0, .bool false]) 6 48 Try.underlying38 hi hz0 hz1 hz2 rfl (by decide) (.slice none 0 0) 0 [] rfl (World.ownsRow_nil _ _ _ _) w.heap.size A l.length cap (kcells l) rfl hR (kcells_one l) ?c3 ?c4 (Nat.le_refl _) ?_)
  case c3 => unfold maxLen; omega
  case c4 => omega
  intro v w1 hown hgrow
  have hB1 : Below w.heap.size w w1 := (Below.refl _ _).grown hgrow (Nat.le_refl _) (fun k hk => by simp [Value.ownBlock] at hk)
  obtain ⟨A1, c1, rfl, hM⟩ := own_slice hown
  clear hi hz0 hz1 hz2 hgrow hown dbig
  go_wp2_with (fail)
  refine (HST.out A cap w1 ((hR.below hB1).more hB1.size)).mono ?_
  rintro e w2 ⟨A2, c2, rfl, hW, hb2⟩
  have hB2 := below_step hB1 hb2
  replace hM := (hM.below hb2).more hb2.size
  have hRR := HRR.out
  obtain ⟨⟨ps, ht, ⟨tu, td⟩, ⟨bu, bd⟩, th⟩, E⟩ := RR
  simp only at hW
  simp only at hRR
  obtain ⟨hRR1, hn⟩ := hRR
  have HN := hidd hn
  have HS2 := hidd hRR1
  clear HST hb2 hB1 HRR hn hRR1
  go_upto_region 6 with (fail)
  have h8 := Blk.new w2 40 #[.slice A2 n c2, .int .i64 ht, .int .i64 tu, .int .i64 td, .int .i64 bu, .int .i64 bd, .bool th]
  have hal := below_al (Below.refl w2.heap.size w2) (.cells #[.slice A2 n c2, .int .i64 ht, .int .i64 tu, .int .i64 td, .int .i64 bu, .int .i64 bd, .bool th] 40)
  replace hB2 := below_step hB2 hal
  replace hM := (hM.below hal).more hal.size
  replace hW := (hW.below hal).more hal.size
  obtain ⟨X, hX⟩ : ∃ Z, w2.alloc (.cells #[.slice A2 n c2, .int .i64 ht, .int .i64 tu, .int .i64 td, .int .i64 bu, .int .i64 bd, .bool th] 40) = Z := ⟨_, rfl⟩
  rw [hX] at h8 hB2 hM hW ⊢
  obtain ⟨g8, hg8⟩ : ∃ g, w2.heap.size = g := ⟨_, rfl⟩
  rw [hg8] at h8 ⊢
  clear hX hg8 hal
  have g8l := h8.lt
  go_wp2_with (fail)
  go_loopw [10] (fun i wx => ∃ k : Nat, k ≤ 2 ∧ i = .int .i64 k ∧ Below X.heap.size X wx)
    (fun i _ => 2 - (intOf i).toNat)
  case atStart => exact ⟨0, by omega, rfl, Below.refl _ _⟩
  case round =>
    obtain ⟨k, hk, rfl, hb⟩ := hrel
    obtain ⟨W, hW9⟩ : ∃ W, wr = W := ⟨_, rfl⟩
    rw [hW9] at hb ⊢
    clear hW9
    clear wr
    by_cases hk2 : k < 2
    · have dk : decide ((k : Int) < 2) = true := by simp; omega
      have hm := (hM.below hb).more hb.size
      go_wp2_with (fail)
      refine (HSY.out A1 c1 W hm).mono ?_
      rintro e w3 hpost
      rw [HS2.out] at hpost
      obtain ⟨A3, c3, rfl, hown, hb3⟩ := hpost
      simp only at hown
      rw [HN.out] at hown
      have hb3' := below_step hb hb3
      have hRRn := HN.out
      unfold SkVal
      simp only [hRRn]
      clear hm hRRn dk
      go_upto_region 10 with (fail)
      have h11 := Blk.new w3 40 #[.slice A3 n c3, .int .i64 ht, .int .i64 tu, .int .i64 td, .int .i64 bu, .int .i64 bd, .bool th]
      have hal := below_al (Below.refl w3.heap.size w3) (.cells #[.slice A3 n c3, .int .i64 ht, .int .i64 tu, .int .i64 td, .int .i64 bu, .int .i64 bd, .bool th] 40)
      have hb4 := below_step hb3' hal
      have own4 := hown.alloc (.cells #[.slice A3 n c3, .int .i64 ht, .int .i64 tu, .int .i64 td, .int .i64 bu, .int .i64 bd, .bool th] 40)
      obtain ⟨Y, hY⟩ : ∃ Z, w3.alloc (.cells #[.slice A3 n c3, .int .i64 ht, .int .i64 tu, .int .i64 td, .int .i64 bu, .int .i64 bd, .bool th] 40) = Z := ⟨_, rfl⟩
      rw [hY] at h11 hb4 own4 ⊢
      have hbW : W.heap.size ≤ w3.heap.size := hb3.size
      have hg11 : X.heap.size ≤ w3.heap.size := by have := hb.size; omega
      have hbX : X.heap.size ≤ W.heap.size := hb.size
      have hy : w3.heap.size < Y.heap.size := by rw [← hY]; simp
      obtain ⟨g11, hg⟩ : ∃ g, w3.heap.size = g := ⟨_, rfl⟩
      rw [hg] at h11 hg11 hbW hy ⊢
      clear hY hg hal hb3' hown hb3
      have rd3 := Rd.of_own own4
      have hm := (hM.below hb4).more hb4.size
      have hw := (hW.below hb4).more hb4.size
      have h8Y := h8.below hb4 g8l
      have p0 := h11.cell 0
      have q0 := h8Y.cell 0
      have p1 := h11.cell 1
      have q1 := h8Y.cell 1
      have p2 := h11.cell 2
      have q2 := h8Y.cell 2
      have p3 := h11.cell 3
      have q3 := h8Y.cell 3
      have p4 := h11.cell 4
      have q4 := h8Y.cell 4
      have p5 := h11.cell 5
      have q5 := h8Y.cell 5
      have p6 := h11.cell 6
      have q6 := h8Y.cell 6
      simp at p0 q0 p1 q1 p2 q2 p3 q3 p4 q4 p5 q5 p6 q6
      go_wp2_with (fail)
      refine (rsame14 ps A3 A2 n c3 c2 ht tu td bu bd th Y HN.out rd3 hw (by omega)).mono ?_
      rintro e w4 ⟨rfl, hb5⟩
      have hee : (E != E) = false := by simp
      have h11b := h11.below hb5 h11.lt
      have own5 := own_below own4 hb5
      have hb6 := hb4.trans (hb5.mono hb4.size)
      clear rd3 hm hw h8Y p0 q0 p1 q1 p2 q2 p3 q3 p4 q4 p5 q5 p6 q6 h11 own4 hb4
      have hy2 : g11 < w4.heap.size := h11b.lt
      go_wp2_with (fail)
      clear hee
      go_loopw [13] (fun i wx => ∃ j : Nat, j ≤ l.length ∧ i = .int .i64 j ∧ Below w4.heap.size w4 wx)
        (fun i _ => l.length - (intOf i).toNat)
      case atStart => exact ⟨0, Nat.zero_le _, rfl, Below.refl _ _⟩
      case round =>
        obtain ⟨j, hj, rfl, hbj⟩ := hrel
        by_cases hjl : j < l.length
        · have hB9 := hB2.trans ((hb6.trans (hbj.mono hb6.size)).mono hB2.size)
          have hb9 := hb6.trans (hbj.mono hb6.size)
          obtain ⟨b1, off1, rfl, hbB1, hc1⟩ := hM.2 (by omega)
          obtain ⟨b0, off0, rfl, hbB0, hc0⟩ := hR.2 (by omega)
          have hx0 := (hb9.cell (p := ⟨b1, off1 + (j * 6 + 0), none⟩) hbB1).trans (hc1 _ _ (kcell l j 0 hjl (by omega)))
          have hx1 := (hb9.cell (p := ⟨b1, off1 + (j * 6 + 1), none⟩) hbB1).trans (hc1 _ _ (kcell l j 1 hjl (by omega)))
          have hx2 := (hb9.cell (p := ⟨b1, off1 + (j * 6 + 2), none⟩) hbB1).trans (hc1 _ _ (kcell l j 2 hjl (by omega)))
          have hx3 := (hb9.cell (p := ⟨b1, off1 + (j * 6 + 3), none⟩) hbB1).trans (hc1 _ _ (kcell l j 3 hjl (by omega)))
          have hx4 := (hb9.cell (p := ⟨b1, off1 + (j * 6 + 4), none⟩) hbB1).trans (hc1 _ _ (kcell l j 4 hjl (by omega)))
          have hx5 := (hb9.cell (p := ⟨b1, off1 + (j * 6 + 5), none⟩) hbB1).trans (hc1 _ _ (kcell l j 5 hjl (by omega)))
          have hy0 := (hB9.cell (p := ⟨b0, off0 + (j * 6 + 0), none⟩) hbB0).trans (hc0 _ _ (kcell l j 0 hjl (by omega)))
          have hy1 := (hB9.cell (p := ⟨b0, off0 + (j * 6 + 1), none⟩) hbB0).trans (hc0 _ _ (kcell l j 1 hjl (by omega)))
          have hy2 := (hB9.cell (p := ⟨b0, off0 + (j * 6 + 2), none⟩) hbB0).trans (hc0 _ _ (kcell l j 2 hjl (by omega)))
          have hy3 := (hB9.cell (p := ⟨b0, off0 + (j * 6 + 3), none⟩) hbB0).trans (hc0 _ _ (kcell l j 3 hjl (by omega)))
          have hy4 := (hB9.cell (p := ⟨b0, off0 + (j * 6 + 4), none⟩) hbB0).trans (hc0 _ _ (kcell l j 4 hjl (by omega)))
          have hy5 := (hB9.cell (p := ⟨b0, off0 + (j * 6 + 5), none⟩) hbB0).trans (hc0 _ _ (kcell l j 5 hjl (by omega)))
          obtain ⟨s, hs⟩ : ∃ s, l[j] = s := ⟨_, rfl⟩
          rw [hs] at hx0 hx1 hx2 hx3 hx4 hx5 hy0 hy1 hy2 hy3 hy4 hy5
          simp only [← Nat.add_assoc, Nat.add_zero] at hx0 hx1 hx2 hx3 hx4 hx5 hy0 hy1 hy2 hy3 hy4 hy5
          obtain ⟨⟨u, d⟩, ⟨u2, d2⟩, ht2, th2⟩ := s
          have j0 : (0 : Int) ≤ (j : Int) := Int.natCast_nonneg _
          have j1 : (j : Int) < (l.length : Int) := by omega
          clear hc1 hc0 hM hR hs
          go_wp2_with (fail)
          go_quiet (fail)
          go_wp2_with (fail)
          go_roundw
          case rel => exact ⟨j + 1, by omega, by go_num, below_drewN hbj _⟩
          case measure => simp [intOf]; omega
        · have hjj : j = l.length := by omega
          subst hjj
          have own6 := own_below own5 hbj
          have h11c := h11b.below hbj hy2
          have hb7 := hb6.trans (hbj.mono hb6.size)
          obtain ⟨V, hV⟩ : ∃ V, wr = V := ⟨_, rfl⟩
          rw [hV] at own6 h11c hb7 ⊢
          clear hV hbj
          clear wr
          have hform : 0 < n → ∃ (g : Nat) (cur : Array Value), A3 = some ⟨g, 0, none⟩ ∧ X.heap.size ≤ g ∧ Blk V g 3 cur ∧ n ≤ cur.size := fun hn0 => by
            rcases own6.2 with ⟨_, h0⟩ | ⟨g, cap, cur, h1, h2, h3, h4, h5, h6, h7⟩
            · omega
            · injection h1 with h1
              exact ⟨g, cur, h1, by omega, h3, by omega⟩
          clear own5 own6
          have dll : decide ((l.length : Int) < (l.length : Int)) = false := by simp
          go_wp2_with (fail)
          clear dll
          go_loopw [14] (fun i wx => ∃ j : Nat, j ≤ n ∧ i = .int .i64 j ∧ Blk wx g11 40 #[.slice A3 n c3, .int .i64 ht, .int .i64 tu, .int .i64 td, .int .i64 bu, .int .i64 bd, .bool th] ∧ (0 < n → ∃ (g : Nat) (cur : Array Value), A3 = some ⟨g, 0, none⟩ ∧ X.heap.size ≤ g ∧ Blk wx g 3 cur ∧ n ≤ cur.size) ∧ Below X.heap.size X wx)
            (fun i _ => n - (intOf i).toNat)
          case atStart => exact ⟨0, Nat.zero_le _, rfl, h11c, hform, hb7⟩
          case round =>
            obtain ⟨j, hj, rfl, h11d, hfm, hbx⟩ := hrel
            have e0 := h11d.cell 0
            simp at e0
            have g11l := h11d.lt
            by_cases hjn : j < n
            · obtain ⟨g, cur, rfl, hg, hcur, hcs⟩ := hfm (by omega)
              have hz := hcur.cell j
              rw [Array.getElem?_eq_getElem (by omega)] at hz
              have hzf := hcur.frozen
              have j0 : (0 : Int) ≤ (j : Int) := Int.natCast_nonneg _
              have j1 : (j : Int) < (n : Int) := by omega
              have gl := hcur.lt
              have hne : g11 ≠ g := h11d.ne_ hcur (by decide)
              have HR : Hid (Blk (wr.setCell ⟨g, j, none⟩ (.int .i64 (-5))) g11 40 #[.slice (some ⟨g, 0, none⟩) n c3, .int .i64 ht, .int .i64 tu, .int .i64 td, .int .i64 bu, .int .i64 bd, .bool th] ∧ Blk (wr.setCell ⟨g, j, none⟩ (.int .i64 (-5))) g 3 (cur.setIfInBounds j (.int .i64 (-5))) ∧ Below X.heap.size X (wr.setCell ⟨g, j, none⟩ (.int .i64 (-5)))) := hidd ⟨h11d.far hne _, hcur.set_ j _, hbx.setCell (p := ⟨g, j, none⟩) hg _⟩
              clear hform h11c hfm h11d hcur hne
              go_wp2_with (fail)
              go_roundw
              case rel => exact ⟨j + 1, by omega, by go_num, HR.out.1, fun _ => ⟨g, _, rfl, hg, HR.out.2.1, by simpa using hcs⟩, HR.out.2.2⟩
              case measure => simp [intOf]; omega
            · have hjj : j = n := by omega
              subst hjj
              go_wp2_with (fail)
              go_roundw
              case rel => exact ⟨k + 1, by omega, by go_num, hbx⟩
              case measure => simp [intOf]; omega
    · have hkk : k = 2 := by omega
      subst hkk
      go_wp2_with (fail)
      go_ret
      exact ⟨rfl, hB2.trans (hb.mono hB2.size)⟩
end Go.Proofs.Ytbcojkfndegjmaa
