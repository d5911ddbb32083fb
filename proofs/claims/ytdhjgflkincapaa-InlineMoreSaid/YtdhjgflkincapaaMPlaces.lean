/- InlinePlaces: the walk. -/
import Derived.Test.YtdhjgflkincapaaRPlace
import Derived.Test.YtdhjgflkincapaaSame
import Derived.Test.YtdhjgflkincapaaOpen
namespace Go.Proofs.Ytdhjgflkincapaa
open Go.RowKit
set_option linter.unusedVariables false

theorem info45 : (Try.prog.info? 45).map (fun i => (i.zero, i.size, i.bytes)) = some (some (.agg #[.int .i64 0, .int .i64 0, .int .i64 0, .int .u8 0]), 4, 32) := by kernel_rfl
theorem scells_one (l : List Sp) : ∀ u ∈ scells l, u.oneCell' = true := by
  intro u hu
  simp only [scells, List.mem_flatMap, Sp.cs] at hu
  obtain ⟨s, _, hs⟩ := hu
  simp at hs
  rcases hs with rfl | rfl | rfl | rfl <;> rfl

set_option maxRecDepth 100000 in
set_option maxHeartbeats 4000000 in
theorem place_arg2 (l : List Sp) (up dn width : Int) (lines : Nat) (A : Option Addr) (cap : Nat) (w : World) (hm : l.length ≤ 4096) (h : 2048 < l.length ∨ 2 < lines) :
    Calls Try.prog 19 #[.slice A l.length cap, .int .i64 up, .int .i64 dn, .int .i64 width, .int .u8 lines] w (PlacePost ⟨[], 0, 0, 2⟩ w) := by
  by_cases h1 : 2048 < l.length
  · have hd : decide ((2048 : Int) < (l.length : Int)) = true := by simp; omega
    go_enter Try.func19, Try.ntmps19
    go_wp2_with (fail)
    exact bodyPost_ret (v := .tuple #[.slice none 0 0, .int .i64 0, .int .i64 0, .int .i64 2]) (by simp [results, Try.results19, go_sem]) rfl ⟨_, rfl, World.ownsRow_nil _ _ _ _, Below.refl _ _⟩
  · have hd : decide ((2048 : Int) < (l.length : Int)) = false := by simp; omega
    have hd2 : decide ((2 : Int) < (lines : Int)) = true := by simp; omega
    go_enter Try.func19, Try.ntmps19
    go_wp2_with (fail)
    exact bodyPost_ret (v := .tuple #[.slice none 0 0, .int .i64 0, .int .i64 0, .int .i64 2]) (by simp [results, Try.results19, go_sem]) rfl ⟨_, rfl, World.ownsRow_nil _ _ _ _, Below.refl _ _⟩
theorem place_any2 (l : List Sp) (up dn width : Int) (lines : Nat) (A : Option Addr) (cap : Nat) (w : World) (hR : Rd w w.heap.size 4 A l.length (scells l)) (hm : l.length ≤ 4096) :
    Calls Try.prog 19 #[.slice A l.length cap, .int .i64 up, .int .i64 dn, .int .i64 width, .int .u8 lines] w (PlacePost (placeF l up dn width lines) w) := by
  by_cases h : 2048 < l.length ∨ 2 < lines
  · have e : placeF l up dn width lines = ⟨[], 0, 0, 2⟩ := by
      have : askedF l up dn width lines = 2 := by unfold askedF; rw [if_pos h]
      unfold placeF; rw [if_neg (by rw [this]; decide), this]
    rw [e]
    exact place_arg2 l up dn width lines A cap w hm h
  · exact place_main l up dn width lines A cap w hR (by omega) (by omega)
theorem placeF_length (l : List Sp) (up dn width : Int) (lines : Nat) : (placeF l up dn width lines).ps.length ≤ l.length := by
  unfold placeF
  split
  · split
    · simp [posOf, posL_length]
    · simp
  · simp

/-- What is owned may be written. -/
theorem own_blk {w : World} {base n c : Nat} {A : Option Addr} {xs : List Value} (h : w.ownsRow base 47 2 (.slice A n c) n xs) (hn : 0 < n) :
    ∃ g cur, A = some ⟨g, 0, none⟩ ∧ base ≤ g ∧ Blk w g 47 cur ∧ n * 2 ≤ cur.size := by
  have hr := Rd.of_own h
  rcases h.2 with ⟨h1, h2⟩ | ⟨g, cap, cur, h1, h2, h3, h4⟩
  · omega
  · simp at h1
    obtain ⟨rfl, rfl⟩ := h1
    refine ⟨g, cur, rfl, h2, h3, ?_⟩
    obtain ⟨b, off, hb, hbB, hc⟩ := hr.2 hn
    simp at hb
    obtain ⟨rfl, rfl⟩ := hb
    have hB : Blk w g 47 cur := h3
    have hx := hc (n * 2 - 1) (xs[n * 2 - 1]'(by rw [hr.1]; omega)) (List.getElem?_eq_getElem _)
    rw [hB.cell] at hx
    have := (Array.getElem?_eq_some_iff.1 hx).1
    omega

set_option maxRecDepth 100000 in
set_option maxHeartbeats 8000000 in
theorem places_walk (l : List Sp) (x : Ow) (A : Option Addr) (cap : Nat) (w : World) (hR : Rd w w.heap.size 4 A l.length (scells l)) (hlc : l.length ≤ cap) (hm : cap ≤ maxLen) (hx8 : x.ls ≤ 255) :
    Calls Try.prog 4 #[.slice A l.length cap, .agg #[.int .i64 x.up, .int .i64 x.dn, .int .i64 x.wd, .int .u8 x.ls]] w fun e w' => e = .returned (.bool true) ∧ Below w.heap.size w w' := by
  unfold maxLen at hm
  by_cases h1 : 2100 < l.length
  · have hd : decide ((2100 : Int) < (l.length : Int)) = true := by simp; omega
    clear hR
    go_enter Try.func4, Try.ntmps4
    go_wp2_with (fail)
    go_ret
    exact ⟨rfl, below_al (Below.refl _ _) _⟩
  have hd : decide ((2100 : Int) < (l.length : Int)) = false := by simp; omega
  obtain ⟨i0, hi, hz0, hz1, hz2⟩ := info_parts info45
  have hg3 := Blk.new w 37 #[.int .i64 x.up, .int .i64 x.dn, .int .i64 x.wd, .int .u8 x.ls]
  have hb1 := below_al (Below.refl w.heap.size w) (.cells #[.int .i64 x.up, .int .i64 x.dn, .int .i64 x.wd, .int .u8 x.ls] 37)
  have hR1 := hR.below hb1
  obtain ⟨P, hP⟩ : ∃ P, placeF l x.up x.dn x.wd x.ls = P := ⟨_, rfl⟩
  have hPl : P.ps.length ≤ 4096 := by rw [← hP]; have := placeF_length l x.up x.dn x.wd x.ls; omega
  have hcr := fun A cap W hR => rplace_any l x.up x.dn x.wd x.ls A cap W hR (by omega) hx8
  have hcp := fun A cap W hR => place_any2 l x.up x.dn x.wd x.ls A cap W hR (by omega)
  rw [hP] at hcr hcp
  have HC := hidd (And.intro hcr hcp)
  clear hP hcr hcp
  obtain ⟨ps, H, U, E⟩ := P
  have k1 : (H != H) = false := by simp
  have k2 : (U != U) = false := by simp
  have k3 : (E != E) = false := by simp
  go_enter Try.func4, Try.ntmps4
  go_wp2_with (at_builtin; refine wpList_append_src _ rfl _ _ 35 rfl (w.alloc (.cells #[.int .i64 x.up, .int .i64 x.dn, .int .i64 x.wd, .int .u8 x.ls] 37)).heap.size 45 i0 (.agg #[.int .i64 0, .int .i64 0, .int .i64 0, .int .u8 0]) 4 32 Try.underlying35 hi hz0 hz1 hz2 rfl (by decide) (.slice none 0 0) 0 [] rfl (World.ownsRow_nil _ _ _ _) w.heap.size A l.length cap (scells l) rfl hR1 (scells_one l) ?c3 ?c4 (Nat.le_refl _) ?_)
  case c3 => unfold maxLen; omega
  case c4 => omega
  intro v5 w1 own5 hgrow
  have hbb := (Below.refl (w.alloc (.cells #[.int .i64 x.up, .int .i64 x.dn, .int .i64 x.wd, .int .u8 x.ls] 37)).heap.size _).grown hgrow (Nat.le_refl _) (fun q hq => by simp [Value.ownBlock] at hq)
  have hB1 := below_step hb1 hbb
  have hg1 := hg3.below hbb (by simp)
  clear hgrow hbb hg3 hR1 hi hz0 hz1 hz2 hb1
  obtain ⟨A5, c5, rfl, rd5⟩ := own_slice own5
  clear own5
  have q0 := hg1.cell 0
  have q1 := hg1.cell 1
  have q2 := hg1.cell 2
  have q3 := hg1.cell 3
  simp at q0 q1 q2 q3
  go_wp2_with (fail)
  refine (HC.out.1 A cap w1 ((hR.below hB1).more hB1.size)).mono ?_
  rintro e w2 ⟨v6, rfl, own6, hb2⟩
  obtain ⟨A6, c6, rfl, rd6⟩ := own_slice own6
  have hB2 := below_step hB1 hb2
  have hg2 := hg1.below hb2 hg1.lt
  have rd52 := (rd5.below hb2).more hb2.size
  have rdl := (hR.below hB2).more hB2.size
  clear q0 q1 q2 q3 own6 rd5 hb2 hB1 hg1 hR
  go_wp2_with (fail)
  go_loopw [10] (fun i wx => ∃ t : Nat, t ≤ 2 ∧ i = .int .i64 t ∧ Below w2.heap.size w2 wx)
    (fun i _ => 2 - (intOf i).toNat)
  case atStart => exact ⟨0, by omega, rfl, Below.refl _ _⟩
  case round =>
    obtain ⟨t, ht, rfl, hb⟩ := hrel
    obtain ⟨W1, hW1⟩ : ∃ W, wr = W := ⟨_, rfl⟩
    rw [hW1] at hb ⊢
    clear hW1
    clear wr
    by_cases hlt : t < 2
    · have hd2 : decide ((t : Int) < 2) = true := by simp; omega
      have hgr := hg2.below hb hg2.lt
      have q0 := hgr.cell 0
      have q1 := hgr.cell 1
      have q2 := hgr.cell 2
      have q3 := hgr.cell 3
      simp at q0 q1 q2 q3
      go_wp2_with (fail)
      refine (HC.out.2 A5 c5 W1 ((rd52.below hb).more hb.size)).mono ?_
      rintro e w3 ⟨v11, rfl, own11, hb3⟩
      clear q0 q1 q2 q3 hgr
      have hB3 := hb.trans (hb3.mono hb.size)
      obtain ⟨A11, c11, rfl, rd11⟩ := own_slice own11
      go_wp2_with (fail)
      refine (same_any ps A11 A6 c11 c6 w3 rd11 ((rd6.below hB3).more hB3.size) hPl).mono ?_
      rintro e w4 ⟨rfl, hb4⟩
      have hB4 := hB3.trans (hb4.mono hB3.size)
      have own114 := own_below own11 hb4
      clear own11 rd11
      go_wp2_with (fail)
      go_loopw [15] (fun i wx => ∃ k : Nat, k ≤ l.length ∧ i = .int .i64 k ∧ Below w4.heap.size w4 wx)
        (fun i _ => l.length - (intOf i).toNat)
      case atStart => exact ⟨0, by omega, rfl, Below.refl _ _⟩
      case round =>
        obtain ⟨k, hk, rfl, hb5⟩ := hrel
        have hB5 := hB4.trans (hb5.mono hB4.size)
        by_cases hlt2 : k < l.length
        · obtain ⟨b, off, rfl, hbB, hc⟩ := rdl.2 (by omega)
          obtain ⟨b2, off2, rfl, hbB2, hc2⟩ := rd52.2 (by omega)
          have hx0 := (hB5.cell (p := ⟨b, off + (k * 4 + 0), none⟩) hbB).trans (hc _ _ (scell l k 0 hlt2 (by omega)))
          have hx1 := (hB5.cell (p := ⟨b, off + (k * 4 + 1), none⟩) hbB).trans (hc _ _ (scell l k 1 hlt2 (by omega)))
          have hx2 := (hB5.cell (p := ⟨b, off + (k * 4 + 2), none⟩) hbB).trans (hc _ _ (scell l k 2 hlt2 (by omega)))
          have hx3 := (hB5.cell (p := ⟨b, off + (k * 4 + 3), none⟩) hbB).trans (hc _ _ (scell l k 3 hlt2 (by omega)))
          have hy0 := (hB5.cell (p := ⟨b2, off2 + (k * 4 + 0), none⟩) hbB2).trans (hc2 _ _ (scell l k 0 hlt2 (by omega)))
          have hy1 := (hB5.cell (p := ⟨b2, off2 + (k * 4 + 1), none⟩) hbB2).trans (hc2 _ _ (scell l k 1 hlt2 (by omega)))
          have hy2 := (hB5.cell (p := ⟨b2, off2 + (k * 4 + 2), none⟩) hbB2).trans (hc2 _ _ (scell l k 2 hlt2 (by omega)))
          have hy3 := (hB5.cell (p := ⟨b2, off2 + (k * 4 + 3), none⟩) hbB2).trans (hc2 _ _ (scell l k 3 hlt2 (by omega)))
          obtain ⟨s, hs⟩ : ∃ s, l[k] = s := ⟨_, rfl⟩
          rw [hs] at hx0 hx1 hx2 hx3 hy0 hy1 hy2 hy3
          simp only [← Nat.add_assoc, Nat.add_zero] at hx0 hx1 hx2 hx3 hy0 hy1 hy2 hy3
          clear hc hc2 rdl rd52 hs own114 HC rd6
          go_wp2_with (fail)
          go_quiet (fail)
          go_wp2_with (fail)
          go_roundw
          case rel => exact ⟨k + 1, by omega, by go_num, below_drewN hb5 _⟩
          case measure => simp [intOf]; omega
        · have hkk : k = l.length := by omega
          subst hkk
          have own115 := own_below own114 hb5
          have hBr := hb3.trans ((hb4.mono hb3.size).trans (hb5.mono (Nat.le_trans hb3.size hb4.size)))
          clear own114
          go_wp2_with (fail)
          go_loopw [16] (fun i wx => ∃ k : Nat, k ≤ ps.length ∧ i = .int .i64 k ∧ Below W1.heap.size W1 wx ∧ (0 < ps.length → ∃ g cur, A11 = some ⟨g, 0, none⟩ ∧ W1.heap.size ≤ g ∧ Blk wx g 47 cur ∧ ps.length * 2 ≤ cur.size))
            (fun i _ => ps.length - (intOf i).toNat)
          case atStart => exact ⟨0, by omega, rfl, hBr, fun hn => own_blk own115 hn⟩
          case round =>
            obtain ⟨k, hk, rfl, hb6, hg⟩ := hrel
            by_cases hlt3 : k < ps.length
            · obtain ⟨g, cur, rfl, hge, hq, hsz⟩ := hg (by omega)
              have hq0 := hq.cell (k * 2)
              rw [Array.getElem?_eq_getElem (by omega)] at hq0
              have hqf := hq.frozen (k * 2)
              have hsN := hq.set_ (k * 2) (.int .i64 (-5))
              have hbN := hb6.setCell (p := ⟨g, k * 2, none⟩) hge (.int .i64 (-5))
              go_wp2_with (fail)
              go_roundw
              case rel => exact ⟨k + 1, by omega, by go_num, hbN, fun _ => ⟨g, _, rfl, hge, hsN, by simpa using hsz⟩⟩
              case measure => simp [intOf]; omega
            · have hkk : k = ps.length := by omega
              subst hkk
              go_wp2_with (fail)
              go_roundw
              case rel => exact ⟨t + 1, by omega, by go_num, hb.trans (hb6.mono hb.size)⟩
              case measure => simp [intOf]; omega
    · have hd2 : decide ((t : Int) < 2) = false := by simp; omega
      go_wp2_with (fail)
      go_ret
      exact ⟨rfl, hB2.trans (hb.mono hB2.size)⟩
end Go.Proofs.Ytdhjgflkincapaa
