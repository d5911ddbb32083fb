/- Contract: the reference's Place; inline.Place whole. -/
import Derived.Test.YtdhjgflkincapaaAsked
import Derived.Test.YtdhjgflkincapaaHeight
import Derived.Test.YtdhjgflkincapaaPlace2
namespace Go.Proofs.Ytdhjgflkincapaa
open Go.RowKit
set_option linter.unusedVariables false
attribute [local go_sem ↓] run_max run_min

theorem place_any (l : List Sp) (up dn width : Int) (lines : Nat) (A : Option Addr) (cap : Nat) (w : World) (hR : Rd w w.heap.size 4 A l.length (scells l)) (hlc : l.length ≤ cap) (hm : cap ≤ maxLen) :
    Calls Try.prog 19 #[.slice A l.length cap, .int .i64 up, .int .i64 dn, .int .i64 width, .int .u8 lines] w (PlacePost (placeF l up dn width lines) w) := by
  by_cases h : 2048 < l.length ∨ 2 < lines
  · have e : placeF l up dn width lines = ⟨[], 0, 0, 2⟩ := by
      have : askedF l up dn width lines = 2 := by unfold askedF; rw [if_pos h]
      unfold placeF; rw [if_neg (by rw [this]; decide), this]
    rw [e]
    exact place_arg l up dn width lines A cap w hlc hm h
  · exact place_main l up dn width lines A cap w hR (by omega) (by omega)

theorem asked_ok {l : List Sp} {up dn width : Int} {lines : Nat} (h : askedF l up dn width lines = 0) :
    l.length ≤ 2048 ∧ lines ≤ 2 ∧ (∀ s ∈ l, s.al ≤ 2) ∧ fitB up = true ∧ fitB dn = true ∧ fitB width = true ∧ FitL l := by
  unfold askedF at h
  split at h
  · cases h
  · rename_i h1
    split at h
    · cases h
    · rename_i h2
      split at h
      · rename_i h3
        simp only [Bool.and_eq_true, List.all_eq_true, fitsB, List.all_cons, List.all_nil, Bool.and_true] at h3
        refine ⟨by omega, by omega, fun s hs => ?_, h3.1.1, h3.1.2.1, h3.1.2.2, h3.2⟩
        by_cases hh : 2 < s.al
        · exact absurd (List.any_eq_true.2 ⟨s, hs, by simpa using hh⟩) h2
        · omega
      · cases h

set_option maxRecDepth 100000 in
set_option maxHeartbeats 8000000 in
theorem rplace_any (l : List Sp) (up dn width : Int) (lines : Nat) (A : Option Addr) (cap : Nat) (w : World) (hR : Rd w w.heap.size 4 A l.length (scells l)) (hm : l.length ≤ 4096) (hl8 : lines ≤ 255) :
    Calls Try.prog 18 #[.slice A l.length cap, .int .i64 up, .int .i64 dn, .int .i64 width, .int .u8 lines] w (PlacePost (placeF l up dn width lines) w) := by
  obtain ⟨i0, hi, hz0, hz1, hz2⟩ := info_parts info47
  have HI := hidd (And.intro hi (And.intro hz0 (And.intro hz1 hz2)))
  clear hi hz0 hz1 hz2
  have hask := asked_any l up dn width lines A cap w hR hm hl8
  by_cases h0 : askedF l up dn width lines ≠ 0
  · have hp : placeF l up dn width lines = ⟨[], 0, 0, askedF l up dn width lines⟩ := by unfold placeF; rw [if_neg h0]
    obtain ⟨e, he⟩ : ∃ e, askedF l up dn width lines = e := ⟨_, rfl⟩
    rw [he] at hask hp h0
    have hne : (e != 0) = true := by simpa using h0
    rw [hp]
    clear he hp h0 hR
    go_enter Try.func18, Try.ntmps18
    go_wp2_with (go_at_call 33; refine hask.mono ?_; rintro e w' ⟨rfl, rfl⟩)
    exact bodyPost_ret (v := .tuple #[.slice none 0 0, .int .i64 0, .int .i64 0, .int .i64 e]) (by simp [results, Try.results18, go_sem]) rfl ⟨_, rfl, World.ownsRow_nil _ _ _ _, Below.refl _ _⟩
  · have h0' : askedF l up dn width lines = 0 := by omega
    obtain ⟨hl, hln, halL, f1, f2, f3, hFL⟩ := asked_ok h0'
    rw [h0'] at hask
    obtain ⟨g1, g2⟩ := (fitB_iff up).1 f1
    obtain ⟨g3, g4⟩ := (fitB_iff dn).1 f2
    obtain ⟨g5, g6⟩ := (fitB_iff width).1 f3
    obtain ⟨⟨b1, b2⟩, _⟩ := bound_of l hFL l.length (Nat.le_refl _) up g1 g2
    obtain ⟨_, b3, b4⟩ := bound_of l hFL l.length (Nat.le_refl _) dn g3 g4
    have b5 := bound_ht l hFL l.length (Nat.le_refl _) (hUp l up + hDn l dn) (by rw [List.take_length] at b1 b3; omega) (by rw [List.take_length] at b2 b4; omega)
    obtain ⟨b7, b8⟩ := bound_sum l hFL l.length (Nat.le_refl _)
    rw [List.take_length] at b1 b2 b5 b7 b8
    obtain ⟨b5, b6⟩ := b5
    have hht0 := fun (W : World) (hb : Below w.heap.size w W) => height_any l up dn A cap W ((hR.below hb).more hb.size) hl hFL f1 f2
    obtain ⟨X, hX⟩ : ∃ X, leadF (width - sumW l) lines = X := ⟨_, rfl⟩
    have xb : -9000000000000000 ≤ X ∧ X ≤ 9000000000000000 := by rw [← hX]; unfold leadF; split <;> (try split) <;> omega
    have hpos : posOf l up dn width lines = posL (htOf l up dn) (hUp l up) X l := by unfold posOf; rw [hX]
    have hht : htOf l up dn = hHt l (hUp l up + hDn l dn) := rfl
    rw [← hht] at b5 b6
    obtain ⟨H, hH⟩ : ∃ H, htOf l up dn = H := ⟨_, rfl⟩
    obtain ⟨U, hU⟩ : ∃ U, hUp l up = U := ⟨_, rfl⟩
    have hplace : placeF l up dn width lines = if (fitsB [H, U] && fitP (posL H U X l)) = true then ⟨posL H U X l, H, U, 0⟩ else ⟨[], 0, 0, 10⟩ := by
      unfold placeF; rw [if_pos h0', hpos, hH, hU]
    simp only [hH, hU] at hht0 b1 b2 b5 b6
    obtain ⟨P, hP⟩ : ∃ P, placeF l up dn width lines = P := ⟨_, rfl⟩
    rw [hP] at hplace ⊢
    have HP := hidd hplace
    clear hP
    have HO := hidd (And.intro hFL halL)
    obtain ⟨xb1, xb2⟩ := xb
    have HX := hidd hX
    clear hplace hht hpos hH hU hX h0 h0' hFL halL f1 f2 f3 b3 b4
    obtain ⟨B0, hB0⟩ : ∃ B, ((lines : Int) != 0) = B := ⟨_, rfl⟩
    have HT := hidd hht0
    clear hht0
    go_enter Try.func18, Try.ntmps18
    go_upto_if 40 with (first | (go_at_call 33; refine hask.mono ?_; rintro e w' ⟨rfl, rfl⟩) | (go_at_call 34; refine (HT.out _ (Below.refl _ _)).mono ?_; rintro e w2 ⟨rfl, hb2⟩))
    go_cut [17] (fun a wx => a = .int .i64 X ∧ wx = w2)
    case first =>
      cases B0 with
      | false =>
        have : lines = 0 := by simp at hB0; omega
        have hXX := HX.out
        subst this
        simp [leadF] at hXX
        subst hXX
        clear hB0
        go_wp2_with (fail)
        go_meet
        exact ⟨rfl, rfl⟩
      | true =>
        have hln2 : lines = 1 ∨ lines = 2 := by simp at hB0; omega
        clear hB0
        go_wp2_with (fail)
        go_loopw [17, 18] (fun a i wx => ∃ k : Nat, k ≤ l.length ∧ i = .int .i64 k ∧ a = .int .i64 (-(sumW (l.take k))) ∧ wx = w2)
          (fun _ i _ => l.length - (intOf i).toNat)
        case atStart => exact ⟨0, Nat.zero_le _, rfl, by simp [sumW], rfl⟩
        case round =>
          obtain ⟨k, hk, rfl, rfl, rfl⟩ := hrel
          by_cases hlt : k < l.length
          · obtain ⟨b, off, rfl, hbB, hc⟩ := hR.2 (by omega)
            have hx0 := (hb2.cell (p := ⟨b, off + (k * 4 + 0), none⟩) hbB).trans (hc _ _ (scell l k 0 hlt (by omega)))
            have hs4 := (fitS_iff _).1 (HO.out.1 l[k] (List.getElem_mem _))
            have hsw := sumW_snoc (l.take k) l[k]
            rw [← take_snoc l k hlt] at hsw
            obtain ⟨c7, c8⟩ := bound_sum l HO.out.1 k (by omega)
            obtain ⟨s, hs⟩ : ∃ s, l[k] = s := ⟨_, rfl⟩
            rw [hs] at hx0 hs4 hsw
            obtain ⟨⟨s1, s2⟩, _⟩ := hs4
            obtain ⟨Z, hZ⟩ : ∃ Z, sumW (l.take k) = Z := ⟨_, rfl⟩
            rw [hZ] at hsw c7 c8 ⊢
            have z1 : -4000000000000000 ≤ Z := by omega
            have z2 : Z ≤ 4000000000000000 := by omega
            simp only [Nat.add_zero] at hx0
            have hw : wrap64 (-Z - s.wd) = -(Z + s.wd) := by rw [IntWalk.wrap64_in _ ⟨by omega, by omega⟩]; omega
            have HS := hidd hsw
            clear hc hR hs hsw hZ c7 c8
            go_wp2_with (fail)
            go_roundw
            case rel => exact ⟨k + 1, by omega, by go_num, by rw [HS.out]; first | rfl | (rw [hw]) | (congr 1; omega), trivial⟩
            case measure => simp [intOf]; omega
          · have hkk : k = l.length := by omega
            subst hkk
            rw [List.take_length]
            obtain ⟨Z, hZ⟩ : ∃ Z, sumW l = Z := ⟨_, rfl⟩
            rw [hZ] at b7 b8 HX ⊢
            have z1 : -4000000000000000 ≤ Z := by omega
            have z2 : Z ≤ 4000000000000000 := by omega
            obtain ⟨V, hV⟩ : ∃ V, -Z + width = V := ⟨_, rfl⟩
            have hV2 : width - Z = V := by omega
            have hw : wrap64 (-Z + width) = V := by rw [IntWalk.wrap64_in _ ⟨by omega, by omega⟩]; exact hV
            have v1 : -9000000000000000 ≤ V := by omega
            have v2 : V ≤ 9000000000000000 := by omega
            rw [hV2] at HX
            have HXX := HX.out
            clear HX hZ b7 b8
            by_cases hn : V < 0
            · have d1 : decide (V < 0) = true := by simpa using hn
              have m1 : max 0 V = 0 := by omega
              rcases hln2 with rfl | rfl
              · have hE : X = 0 := by rw [← HXX]; simp [leadF, m1]
                have HE := hidd hE
                clear hE HXX m1 hn
                go_wp2_with (fail)
                go_meet
                exact ⟨by rw [HE.out] <;> first | rfl | (congr 1; omega), rfl⟩
              · have hE : X = 0 := by rw [← HXX]; simp [leadF, m1]
                have HE := hidd hE
                clear hE HXX m1 hn
                go_wp2_with (fail)
                go_meet
                exact ⟨by rw [HE.out] <;> first | rfl | (congr 1; omega), rfl⟩
            · have d1 : decide (V < 0) = false := by simpa using hn
              have m1 : max 0 V = V := by omega
              rcases hln2 with rfl | rfl
              · have hE : X = V := by rw [← HXX]; simp [leadF, m1]
                have HE := hidd hE
                clear hE HXX m1 hn
                go_wp2_with (fail)
                go_meet
                exact ⟨by rw [HE.out] <;> first | rfl | (congr 1; omega), rfl⟩
              · have hE : X = V / 2 := by rw [← HXX]; simp [leadF, m1]
                have hq : V.tdiv 2 = V / 2 := Int.tdiv_eq_ediv_of_nonneg (by omega)
                have HE := hidd hE
                have HQ := hidd hq
                clear hE hq HXX m1 hn
                go_wp2_with (fail)
                go_meet
                exact ⟨by rw [HE.out, ← HQ.out], rfl⟩
    case rest =>
      obtain ⟨rfl, rfl⟩ := hcut
      clear HT hask HX hB0
      obtain ⟨Y1, hY1⟩ : ∃ F, (!fitB H) = F := ⟨_, rfl⟩
      obtain ⟨Y2, hY2⟩ : ∃ F, (!fitB U) = F := ⟨_, rfl⟩
      have o1 : ∀ w, Calls Try.prog 35 #[.int .i64 H] w fun e w' => e = .returned (.bool Y1) ∧ w = w' := fun w => by rw [← hY1]; exact over_any _ _
      have o2 : ∀ w, Calls Try.prog 35 #[.int .i64 U] w fun e w' => e = .returned (.bool Y2) ∧ w = w' := fun w => by rw [← hY2]; exact over_any _ _
      obtain ⟨R1, hR1⟩ : ∃ F, (Y1 || Y2) = F := ⟨_, rfl⟩
      have hR2 : fitsB [H, U] = !R1 := by rw [← hR1, ← hY1, ← hY2]; simp [fitsB]
      rw [hR2] at HP
      clear hY1 hY2 hR2
      obtain ⟨W0, hW0⟩ : ∃ W, wc = W := ⟨_, rfl⟩
      rw [hW0] at hb2 ⊢
      clear hW0
      go_upto_region 16 with (fail)
      go_cut [19] (fun f wx => f = .bool R1 ∧ wx = W0)
      case first =>
        go_wp2_with (fail)
        refine (o1 _).mono ?_
        rintro e w' ⟨rfl, rfl⟩
        cases Y1 with
        | true =>
          go_wp2_with (fail)
          go_meet
          exact ⟨by rw [← hR1] <;> rfl, rfl⟩
        | false =>
          go_wp2_with (fail)
          refine (o2 _).mono ?_
          rintro e w' ⟨rfl, rfl⟩
          go_wp2_with (fail)
          go_meet
          exact ⟨by rw [← hR1] <;> rfl, rfl⟩
      case rest =>
        obtain ⟨rfl, hwc⟩ := hcut
        rw [hwc]
        clear hwc o1 o2 hR1
        clear wc
        go_wp2_with (fail)
        go_loopw [17, 19, 20, 21, 22] (fun a f v i y wx => ∃ (k : Nat) (F : Bool), k ≤ l.length ∧ i = .int .i64 k ∧ f = .bool F ∧ F = (R1 || !fitP (posL H U X (l.take k))) ∧ a = .int .i64 (X + sumW (l.take k)) ∧
            wx.ownsRow W0.heap.size 47 2 v k (pcells (posL H U X (l.take k))) ∧ Below W0.heap.size W0 wx)
          (fun _ _ _ i _ _ => l.length - (intOf i).toNat)
        case atStart => exact ⟨0, R1, Nat.zero_le _, rfl, rfl, by simp [posL, fitP], by simp [sumW], World.ownsRow_nil _ _ _ _, Below.refl _ _⟩
        case round =>
          obtain ⟨k, F, hk, rfl, rfl, hF, rfl, hown, hb0⟩ := hrel
          by_cases hlt : k < l.length
          · obtain ⟨b, off, rfl, hbB, hc⟩ := hR.2 (by omega)
            have hbx := hb2.trans (hb0.mono hb2.size)
            have hx0 := (hbx.cell (p := ⟨b, off + (k * 4 + 0), none⟩) hbB).trans (hc _ _ (scell l k 0 hlt (by omega)))
            have hx1 := (hbx.cell (p := ⟨b, off + (k * 4 + 1), none⟩) hbB).trans (hc _ _ (scell l k 1 hlt (by omega)))
            have hx2 := (hbx.cell (p := ⟨b, off + (k * 4 + 2), none⟩) hbB).trans (hc _ _ (scell l k 2 hlt (by omega)))
            have hx3 := (hbx.cell (p := ⟨b, off + (k * 4 + 3), none⟩) hbB).trans (hc _ _ (scell l k 3 hlt (by omega)))
            have hs4 := (fitS_iff _).1 (HO.out.1 l[k] (List.getElem_mem _))
            have hal := HO.out.2 l[k] (List.getElem_mem _)
            have hp := posL_snoc H U l[k] (l.take k) X
            rw [← take_snoc l k hlt] at hp
            have hsw := sumW_snoc (l.take k) l[k]
            rw [← take_snoc l k hlt] at hsw
            obtain ⟨c7, c8⟩ := bound_sum l HO.out.1 k (by omega)
            obtain ⟨s, hs⟩ : ∃ s, l[k] = s := ⟨_, rfl⟩
            rw [hs] at hx0 hx1 hx2 hx3 hs4 hal hp hsw
            obtain ⟨⟨s1, s2⟩, ⟨s3, s4⟩, s5, s6⟩ := hs4
            obtain ⟨Z, hZ⟩ : ∃ Z, X + sumW (l.take k) = Z := ⟨_, rfl⟩
            rw [hZ] at hp ⊢
            have hZ2 : X + sumW (l.take (k + 1)) = Z + s.wd := by rw [hsw, ← hZ]; omega
            have z1 : -20000000000000000 ≤ Z := by omega
            have z2 : Z ≤ 20000000000000000 := by omega
            simp only [← Nat.add_assoc, Nat.add_zero] at hx0 hx1 hx2 hx3
            have hyb : -9000000000000000 ≤ yOf H U s ∧ yOf H U s ≤ 9000000000000000 := by unfold yOf; split <;> (try split) <;> omega
            obtain ⟨Y, hY⟩ : ∃ Y, yOf H U s = Y := ⟨_, rfl⟩
            rw [hY] at hp hyb
            have HY := hidd hY
            have HPk := hidd (And.intro hp (And.intro hZ2 hF))
            clear hc hR hs hp hZ hZ2 hsw hF hY c7 c8 hm
            obtain ⟨W9, hW9⟩ : ∃ W, wr = W := ⟨_, rfl⟩
            rw [hW9] at hx0 hx1 hx2 hx3 hown hb0 hbx ⊢
            clear hW9
            obtain ⟨y1, hy1⟩ : ∃ y : Int, (if s.al = 0 then U - s.up else 0) = y := ⟨_, rfl⟩
            have hy1b : -9000000000000000 ≤ y1 ∧ y1 ≤ 9000000000000000 := by rw [← hy1]; split <;> omega
            have hY1 := hidd hy1
            have hYq : Y = if s.al = 2 then H - s.up - s.dn else y1 := by
              rw [← HY.out, ← hy1]; unfold yOf
              have : s.al = 0 ∨ s.al = 1 ∨ s.al = 2 := by omega
              rcases this with h | h | h <;> simp [h]
            have hYY := hidd hYq
            clear hy1 hYq
            go_upto_if 80 with (fail)
            go_cut [22] (fun y wx => y = .int .i64 y1 ∧ wx = W9)
            case first =>
              by_cases ha : s.al = 0
              · have h0 : ((s.al : Int) == 0) = true := by rw [beq_iff_eq]; omega
                have he := hY1.out
                rw [if_pos ha] at he
                have HE := hidd he
                clear he ha
                go_wp2_with (fail)
                go_meet
                exact ⟨by rw [HE.out], rfl⟩
              · have h0 : ((s.al : Int) == 0) = false := by rw [beq_eq_false_iff_ne]; omega
                have he := hY1.out
                rw [if_neg ha] at he
                have HE := hidd he
                clear he ha
                go_wp2_with (fail)
                go_meet
                exact ⟨by rw [HE.out], rfl⟩
            case rest =>
              obtain ⟨rfl, hwc⟩ := hcut
              rw [hwc]
              clear hwc hY1 HY
              clear wc
              go_upto_if 93 with (fail)
              go_cut [22] (fun y wx => y = .int .i64 Y ∧ Below W9.heap.size W9 wx)
              case first =>
                by_cases ha : s.al = 2
                · have h0 : ((s.al : Int) == 2) = true := by rw [beq_iff_eq]; omega
                  have he := hYY.out
                  rw [if_pos ha] at he
                  have HE := hidd he
                  clear he ha
                  go_wp2_with (fail)
                  go_quiet (fail)
                  go_wp2_with (fail)
                  go_meet
                  exact ⟨by rw [HE.out], below_drewN (Below.refl _ _) _⟩
                · have h0 : ((s.al : Int) == 2) = false := by rw [beq_eq_false_iff_ne]; omega
                  have he := hYY.out
                  rw [if_neg ha] at he
                  have HE := hidd he
                  clear he ha
                  go_wp2_with (fail)
                  go_meet
                  exact ⟨by rw [HE.out], Below.refl _ _⟩
              case rest =>
                obtain ⟨rfl, hbc⟩ := hcut
                have hbc0 := hb0.trans (hbc.mono hb0.size)
                have hown2 := own_below hown hbc
                have hb1 : b < W0.heap.size := Nat.lt_of_lt_of_le hbB hb2.size
                have hx00 := (hb0.cell (p := ⟨b, off + k * 4, none⟩) hb1).symm.trans hx0
                obtain ⟨hi, hz0, hz1, hz2⟩ := HI.out
                clear hYY hx0 hx1 hx2 hx3 hown hbc hb0 hbx
                go_wp2_with (at_builtin; refine wpList_append_src _ rfl _ _ 38 rfl W0.heap.size 47 i0 (.agg #[.int .i64 0, .int .i64 0]) 2 16 Try.underlying38 hi hz0 hz1 hz2 rfl (by decide) u20 k _ rfl (hown2.alloc _) (wc.alloc (.cells #[.int .i64 Z, .int .i64 Y] 47)).heap.size (some ⟨wc.heap.size, 0, none⟩) 1 1 [.int .i64 Z, .int .i64 Y] rfl (Rd.blk (Blk.new wc 47 #[.int .i64 Z, .int .i64 Y]) 1 2 rfl) (by simp [Value.oneCell']) ?c3 ?c4 ?c5 ?_)
                case c3 => unfold maxLen; omega
                case c4 => omega
                case c5 => have := hbc0.size; simp; omega
                intro v' w7 hown7 hgrow
                have hb7 : Below W0.heap.size W0 w7 := (below_al hbc0 _).grown hgrow (below_al hbc0 _).size (fun q hq => (hown2.lt q hq).1)
                have hx0 := (hb7.cell (p := ⟨b, off + k * 4, none⟩) hb1).trans hx00
                clear hgrow hown2 hbc0 hi hz0 hz1 hz2 hx00
                obtain ⟨Y1, hY1⟩ : ∃ F, (!fitB Z) = F := ⟨_, rfl⟩
                obtain ⟨Y2, hY2⟩ : ∃ F, (!fitB Y) = F := ⟨_, rfl⟩
                have o1 : ∀ w, Calls Try.prog 35 #[.int .i64 Z] w fun e w' => e = .returned (.bool Y1) ∧ w = w' := fun w => by rw [← hY1]; exact over_any _ _
                have o2 : ∀ w, Calls Try.prog 35 #[.int .i64 Y] w fun e w' => e = .returned (.bool Y2) ∧ w = w' := fun w => by rw [← hY2]; exact over_any _ _
                obtain ⟨F2, hF2⟩ : ∃ F', (F || (Y1 || Y2)) = F' := ⟨_, rfl⟩
                have hZY : fitsB [Z, Y] = !(Y1 || Y2) := by rw [← hY1, ← hY2]; simp [fitsB]
                have hnew : F2 = (R1 || !fitP (posL H U X (l.take (k + 1)))) := by
                  rw [HPk.out.1, fitP_snoc, hZY, ← hF2, HPk.out.2.2]
                  cases R1 <;> cases fitP (posL H U X (l.take k)) <;> simp
                have HN := hidd hnew
                clear hY1 hY2 hZY hnew
                go_upto_region 27 with (fail)
                go_cut [19] (fun f wx => f = .bool F2 ∧ wx = w7)
                case first =>
                  cases F with
                  | true =>
                    go_wp2_with (fail)
                    go_meet
                    exact ⟨by rw [← hF2] <;> rfl, rfl⟩
                  | false =>
                    go_wp2_with (fail)
                    refine (o1 _).mono ?_
                    rintro e w' ⟨rfl, rfl⟩
                    cases Y1 with
                    | true =>
                      go_wp2_with (fail)
                      go_meet
                      exact ⟨by rw [← hF2] <;> rfl, rfl⟩
                    | false =>
                      go_wp2_with (fail)
                      refine (o2 _).mono ?_
                      rintro e w' ⟨rfl, rfl⟩
                      go_wp2_with (fail)
                      go_meet
                      exact ⟨by rw [← hF2] <;> simp, rfl⟩
                case rest =>
                  obtain ⟨rfl, hwc⟩ := hcut
                  rw [hwc]
                  clear hwc o1 o2 hF2
                  go_wp2_with (fail)
                  go_roundw
                  case rel =>
                    refine ⟨k + 1, F2, by omega, by go_num, rfl, HN.out, ?_, ?_, hb7⟩
                    · rw [HPk.out.2.1]
                    · rw [HPk.out.1, pcells_snoc]; exact hown7
                  case measure => simp [intOf]; omega
          · have hkk : k = l.length := by omega
            subst hkk
            rw [List.take_length] at hF hown
            have hlen := posL_length H U X l
            have hpl := HP.out
            have hbx := hb2.trans (hb0.mono hb2.size)
            have hc0 : (!R1 && fitP (posL H U X l)) = !F := by rw [hF]; cases R1 <;> simp
            rw [hc0] at hpl
            have HPX := hidd (And.intro hpl hlen)
            clear hpl hlen hF hR hc0
            cases F with
            | true =>
              go_wp2_with (fail)
              exact bodyPost_ret (v := .tuple #[.slice none 0 0, .int .i64 0, .int .i64 0, .int .i64 10]) (by simp [results, Try.results18, go_sem]) rfl ⟨.slice none 0 0, by rw [HPX.out.1]; rfl, by rw [HPX.out.1]; exact World.ownsRow_nil _ _ _ _, hbx⟩
            | false =>
              go_wp2_with (fail)
              exact bodyPost_ret (v := .tuple #[u20, .int .i64 H, .int .i64 U, .int .i64 0]) (by simp [results, Try.results18, go_sem]) rfl ⟨u20, by rw [HPX.out.1]; rfl, by rw [HPX.out.1, if_pos (by rfl)]; simp only [HPX.out.2]; exact own_base hown hb2.size, hbx⟩
end Go.Proofs.Ytdhjgflkincapaa
