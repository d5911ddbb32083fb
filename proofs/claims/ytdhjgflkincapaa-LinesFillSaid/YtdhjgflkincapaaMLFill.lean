/- LinesFill: the walk. -/
import Derived.Test.YtdhjgflkincapaaLRFill
namespace Go.Proofs.Ytdhjgflkincapaa
open Go.RowKit
set_option linter.unusedVariables false

def CopyPost (l : List It) (w : World) (e : Ending) (w' : World) : Prop :=
  ∃ A c, e = .returned (.slice A l.length c) ∧ Rd w' w'.heap.size 2 A l.length (tcells l) ∧ l.length ≤ c ∧ c ≤ maxLen ∧ Below w.heap.size w w'
theorem tcells_cell (l : List It) : ∀ u ∈ tcells l, u.oneCell' = true := by
  intro u hu
  simp only [tcells, List.mem_flatMap, It.cs] at hu
  obtain ⟨s, _, hs⟩ := hu
  simp at hs
  rcases hs with rfl | rfl <;> rfl
set_option maxRecDepth 100000 in
set_option maxHeartbeats 4000000 in
theorem copy_any (l : List It) (A : Option Addr) (cap : Nat) (w : World) (hR : Rd w w.heap.size 2 A l.length (tcells l)) (hl : l.length ≤ 4096) :
    Calls Try.prog 24 #[.slice A l.length cap] w (CopyPost l w) := by
  obtain ⟨i0, hi, hz0, hz1, hz2⟩ := info_parts info27
  go_enter Try.func24, Try.ntmps24
  go_wp2_with (at_builtin; refine wpList_append_src _ rfl _ _ 22 rfl w.heap.size 27 i0 (.agg #[.int .u8 0, .int .i64 0]) 2 16 Try.underlying22 hi hz0 hz1 hz2 rfl (by decide) (.slice none 0 0) 0 [] rfl (World.ownsRow_nil _ _ _ _) w.heap.size A l.length cap (tcells l) rfl hR (tcells_cell l) ?c1 ?c2 (Nat.le_refl _) ?_)
  case c1 => unfold maxLen; omega
  case c2 => omega
  intro v w3 own3 hgr
  have hb3 := (Below.refl w.heap.size w).grown hgr (Nat.le_refl _) (fun q hq => by simp [Value.ownBlock] at hq)
  obtain ⟨A', c', rfl, hrd⟩ := own_slice own3
  obtain ⟨k1, k2⟩ := own_cap own3
  clear hgr own3 hi hz0 hz1 hz2 hR
  go_wp2_with (fail)
  go_ret
  exact ⟨A', c', rfl, hrd, k1, k2, hb3⟩
theorem fillF_len (l : List It) (W : Int) : (fillF l W).ls.length ≤ l.length := by
  have := lines_cnt l W
  unfold fillF
  split
  · exact Nat.zero_le _
  · split
    · exact Nat.zero_le _
    · split
      · exact Nat.zero_le _
      · split
        · exact this
        · exact Nat.zero_le _

set_option maxRecDepth 100000 in
set_option maxHeartbeats 16000000 in
theorem lfill_walk (l : List It) (Wd : Int) (A : Option Addr) (cap : Nat) (w : World) (hR : Rd w w.heap.size 2 A l.length (tcells l)) (hlc : l.length ≤ cap) (hcm : cap ≤ maxLen) (hwl : ∀ x ∈ l, x.wide) :
    Calls Try.prog 10 #[.slice A l.length cap, .int .i64 Wd] w fun e w' => e = .returned (.bool true) ∧ Below w.heap.size w w' := by
  by_cases hl : 2100 < l.length
  · have d1 : decide ((2100 : Int) < (l.length : Int)) = true := by simp; omega
    clear hR hwl
    go_enter Try.func10, Try.ntmps10
    go_wp2_with (fail)
    go_ret
    exact ⟨rfl, Below.refl _ _⟩
  have d1 : decide ((2100 : Int) < (l.length : Int)) = false := by simp; omega
  have hml := fillF_len l Wd
  obtain ⟨r, hr⟩ : ∃ r, fillF l Wd = r := ⟨_, rfl⟩
  rw [hr] at hml
  obtain ⟨X, E⟩ := r
  simp only at hml
  have HW := hidd (And.intro hwl hr)
  clear hwl hr
  go_enter Try.func10, Try.ntmps10
  go_wp2_with (fail)
  refine (copy_any l A cap w hR (by omega)).mono ?_
  rintro e w1 ⟨A1, c1, rfl, rd1, k1, k2, hB1⟩
  go_wp2_with (fail)
  refine (rfill_any l Wd A cap w1 ((hR.below hB1).more hB1.size) HW.out.1 (by omega) _ HW.out.2 X.length rfl).mono ?_
  rintro e w2 ⟨A2, c2, rfl, rd2, hb2⟩
  have hB2 := below_step hB1 hb2
  replace rd1 := (rd1.below hb2).more hb2.size
  have rl := (hR.below hB2).more hB2.size
  simp only at rd2
  clear hb2 hB1 hR d1
  go_wp2_with (fail)
  go_loopw [8] (fun t wx => ∃ k : Nat, k ≤ 2 ∧ t = .int .i64 k ∧ Below w2.heap.size w2 wx) (fun t _ => 2 - (intOf t).toNat)
  case atStart => exact ⟨0, by omega, rfl, Below.refl _ _⟩
  case round =>
    obtain ⟨k, hk, rfl, hb⟩ := hrel
    obtain ⟨W, hW⟩ : ∃ Z, wr = Z := ⟨_, rfl⟩
    rw [hW] at hb ⊢
    clear hW
    clear wr
    by_cases hk2 : k < 2
    · have d2 : decide ((k : Int) < 2) = true := by simp; omega
      have d3 : (E != E) = false := by simp
      go_wp2_with (fail)
      refine (fill_any l Wd A1 c1 W ((rd1.below hb).more hb.size) k1 k2 _ HW.out.2 X.length rfl).mono ?_
      rintro e w3 ⟨A3, c3, rfl, own3, hb3⟩
      have hbw3 := hb.trans (hb3.mono hb.size)
      simp only at own3
      have rd3 := Rd.of_own own3
      have hg : ∃ g, w2.heap.size ≤ g ∧ (0 < X.length → A3 = some ⟨g, 0, none⟩ ∧ ∃ cur, Blk w3 g 33 cur ∧ X.length * 3 ≤ cur.size) := by
        rcases own3.2 with ⟨_, h2⟩ | ⟨g, cp, cur, h1, h2, h3, h4, h5, h6, h7⟩
        · exact ⟨w2.heap.size, Nat.le_refl _, fun h => by omega⟩
        · injection h1 with h1
          refine ⟨g, by have := hb.size; omega, fun _ => ⟨h1, cur, h3, ?_⟩⟩
          have h8 := congrArg List.length h7
          rw [List.length_take, show (lcells X).length = X.length * 3 from flat_length Ln.cs 3 (fun _ => rfl) X] at h8
          simp at h8
          omega
      obtain ⟨g, hg2, hg3⟩ := hg
      have HG := hidd hg3
      clear hg3 own3 hb3 hb
      go_wp2_with (fail)
      refine (same_lines X A3 A2 X.length c3 c2 w3 rd3 ((rd2.below hbw3).more hbw3.size) rfl (by omega)).mono ?_
      rintro e w4 ⟨rfl, hb4⟩
      have hbw4 := hbw3.trans (hb4.mono hbw3.size)
      have HG4 : Hid (0 < X.length → A3 = some ⟨g, 0, none⟩ ∧ ∃ cur, Blk w4 g 33 cur ∧ X.length * 3 ≤ cur.size) := fun h => by
        obtain ⟨h1, cur, h2, h3⟩ := HG.out h
        exact ⟨h1, cur, h2.below hb4 h2.lt, h3⟩
      have ra := (rd1.below hbw4).more hbw4.size
      have rb := (rl.below hbw4).more hbw4.size
      clear hbw3 hb4 HG rd3
      go_wp2_with (fail)
      clear d2 d3
      go_loopw [11] (fun i wx => ∃ q : Nat, q ≤ l.length ∧ i = .int .i64 q ∧ Below w4.heap.size w4 wx) (fun i _ => l.length - (intOf i).toNat)
      case atStart => exact ⟨0, Nat.zero_le _, rfl, Below.refl _ _⟩
      case round =>
        obtain ⟨q, hq, rfl, hb⟩ := hrel
        by_cases hql : q < l.length
        · obtain ⟨b, off, rfl, hbB, hc⟩ := ra.2 (by omega)
          obtain ⟨b2, off2, rfl, hbB2, hc2⟩ := rb.2 (by omega)
          have x0 := (hb.cell (p := ⟨b, off + (q * 2 + 0), none⟩) hbB).trans (hc _ _ (tcell l q 0 hql (by omega)))
          have x1 := (hb.cell (p := ⟨b, off + (q * 2 + 1), none⟩) hbB).trans (hc _ _ (tcell l q 1 hql (by omega)))
          have y0 := (hb.cell (p := ⟨b2, off2 + (q * 2 + 0), none⟩) hbB2).trans (hc2 _ _ (tcell l q 0 hql (by omega)))
          have y1 := (hb.cell (p := ⟨b2, off2 + (q * 2 + 1), none⟩) hbB2).trans (hc2 _ _ (tcell l q 1 hql (by omega)))
          obtain ⟨s, hs⟩ : ∃ s, l[q] = s := ⟨_, rfl⟩
          rw [hs] at x0 x1 y0 y1
          obtain ⟨kd, wd⟩ := s
          simp only [← Nat.add_assoc, Nat.add_zero] at x0 x1 y0 y1
          have q0 : (0 : Int) ≤ (q : Int) := Int.natCast_nonneg _
          have q1 : (q : Int) < (l.length : Int) := by omega
          have e0 : (kd != kd) = false := by simp
          have e1 : (wd != wd) = false := by simp
          have hbW := Nat.lt_of_lt_of_le hbB hb.size
          have hbW2 := Nat.lt_of_lt_of_le hbB2 hb.size
          clear hc hc2 ra rb rl rd1 hs HG4 rd2
          go_wp2_with (fail)
          go_quiet (fail)
          go_wp2_with (fail)
          go_roundw
          case rel => exact ⟨q + 1, by omega, by go_num, below_drewN hb _⟩
          case measure => simp [intOf]; omega
        · have hqq : q = l.length := by omega
          subst hqq
          have hbw5 := hbw4.trans (hb.mono hbw4.size)
          have HG5 : Hid (0 < X.length → A3 = some ⟨g, 0, none⟩ ∧ ∃ cur, Blk wr g 33 cur ∧ X.length * 3 ≤ cur.size) := fun h => by
            obtain ⟨h1, cur, h2, h3⟩ := HG4.out h
            exact ⟨h1, cur, h2.below hb h2.lt, h3⟩
          obtain ⟨V, hV⟩ : ∃ Z, wr = Z := ⟨_, rfl⟩
          rw [hV] at hbw5 HG5 ⊢
          clear hV hb HG4 ra rb
          clear wr
          go_wp2_with (fail)
          go_loopw [12] (fun i wx => ∃ q : Nat, q ≤ X.length ∧ i = .int .i64 q ∧ Hid (0 < X.length → A3 = some ⟨g, 0, none⟩ ∧ ∃ cur, Blk wx g 33 cur ∧ X.length * 3 ≤ cur.size) ∧ Below w2.heap.size w2 wx)
            (fun i _ => X.length - (intOf i).toNat)
          case atStart => exact ⟨0, Nat.zero_le _, rfl, HG5.out, hbw5⟩
          case round =>
            clear HG5 hbw5
            obtain ⟨q, hq, rfl, HG, hb⟩ := hrel
            by_cases hqx : q < X.length
            · obtain ⟨rfl, cur, hcur, hcs⟩ := HG.out (by omega)
              have hqc : q * 3 < cur.size := by omega
              have x0 := hcur.cell (q * 3)
              rw [Array.getElem?_eq_getElem hqc] at x0
              obtain ⟨u, hu⟩ : ∃ u, cur[q * 3] = u := ⟨_, rfl⟩
              rw [hu] at x0
              have hcf := hcur.frozen
              have hcl := hcur.lt
              have q0 : (0 : Int) ≤ (q : Int) := Int.natCast_nonneg _
              have q1 : (q : Int) < (X.length : Int) := by omega
              have HN : Hid ((0 < X.length → some (⟨g, 0, none⟩ : Addr) = some ⟨g, 0, none⟩ ∧ ∃ cur, Blk (wr.setCell ⟨g, q * 3, none⟩ (.int .i64 (-5))) g 33 cur ∧ X.length * 3 ≤ cur.size) ∧ Below w2.heap.size w2 (wr.setCell ⟨g, q * 3, none⟩ (.int .i64 (-5)))) :=
                ⟨fun _ => ⟨rfl, _, hcur.set_ (q * 3) (.int .i64 (-5)), by simpa using hcs⟩, hb.setCell (p := ⟨g, q * 3, none⟩) hg2 _⟩
              clear hcur hu HG
              go_wp2_with (fail)
              go_roundw
              case rel => exact ⟨q + 1, by omega, by go_num, fun h => ⟨trivial, (HN.out.1 h).2⟩, HN.out.2⟩
              case measure => simp [intOf]; omega
            · have hqq : q = X.length := by omega
              subst hqq
              have HB := hidd hb
              clear HG hb
              go_wp2_with (fail)
              go_roundw
              case rel => exact ⟨k + 1, by omega, by go_num, HB.out⟩
              case measure => simp [intOf]; omega
    · have hkk : ¬ k < 2 := hk2
      have d2 : decide ((k : Int) < 2) = false := by simp; omega
      have rdW := (rd2.below hb).more hb.size
      have hBW := hB2.trans (hb.mono hB2.size)
      obtain ⟨V, hV⟩ : ∃ V, widF X = V := ⟨_, rfl⟩
      have HV := hidd hV
      have d3 : (V == V) = true := by simp
      clear hV rd2 rd1 rl hb hB2
      go_wp2_with (fail)
      refine (widest_any X A2 X.length c2 W rdW rfl (by omega) V HV.out).mono ?_
      rintro e w5 ⟨rfl, hb5⟩
      replace rdW := (rdW.below hb5).more hb5.size
      replace hBW := below_step hBW hb5
      clear hb5
      go_wp2_with (fail)
      refine (rwidest_any X A2 X.length c2 w5 rdW rfl (by omega) V HV.out).mono ?_
      rintro e w6 ⟨rfl, rfl⟩
      go_wp2_with (fail)
      go_ret
      exact ⟨by simp, hBW⟩
end Go.Proofs.Ytdhjgflkincapaa
