/- Contract: inline.Place: the walk. -/
import Derived.Test.YtdhjgflkincapaaPlace
import Derived.Test.YtdhjgflkincapaaExt
import Derived.Deep.RegionHeld3
import Derived.Deep.DeepCutAuto
namespace Go.Proofs.Ytdhjgflkincapaa
open Go.RowKit
set_option linter.unusedVariables false
attribute [local go_sem ↓] run_max run_min

theorem info47 : (Try.prog.info? 47).map (fun i => (i.zero, i.size, i.bytes)) = some (some (.agg #[.int .i64 0, .int .i64 0]), 2, 16) := by kernel_rfl
set_option maxRecDepth 100000 in
set_option maxHeartbeats 8000000 in
theorem place_main (l : List Sp) (up dn width : Int) (lines : Nat) (A : Option Addr) (cap : Nat) (w : World) (hR : Rd w w.heap.size 4 A l.length (scells l)) (hl : l.length ≤ 2048) (hln : lines ≤ 2) :
    Calls Try.prog 19 #[.slice A l.length cap, .int .i64 up, .int .i64 dn, .int .i64 width, .int .u8 lines] w (PlacePost (placeF l up dn width lines) w) := by
  obtain ⟨i0, hi, hz0, hz1, hz2⟩ := info_parts info47
  have HI := hidd (And.intro hi (And.intro hz0 (And.intro hz1 hz2)))
  clear hi hz0 hz1 hz2
  have hd : decide ((2048 : Int) < (l.length : Int)) = false := by simp; omega
  have hd2 : decide ((2 : Int) < (lines : Int)) = false := by simp; omega
  obtain ⟨F0, hF0⟩ : ∃ F, fitsB [up, dn, width] = F := ⟨_, rfl⟩
  go_enter Try.func19, Try.ntmps19
  go_wp2_with (fail)
  refine (fits_blk [up, dn, width] F0 w.heap.size 3 3 #[.int .i64 up, .int .i64 dn, .int .i64 width] _ (Blk.new w 3 _) rfl rfl hF0 (by decide)).mono ?_
  rintro e w' ⟨rfl, rfl⟩
  have HF0 := hidd hF0
  clear hF0
  go_wp2_with (fail)
  go_loopw [14, 15, 39] (fun f a i wr => ∃ (k : Nat) (F : Bool) (x : Int), k ≤ l.length ∧ i = .int .i64 k ∧ f = .bool F ∧ a = .int .i64 x ∧ Fst l F0 k F x ∧ Below w.heap.size w wr)
    (fun _ _ i _ => l.length - (intOf i).toNat)
  case atStart => exact ⟨0, F0, 0, Nat.zero_le _, rfl, rfl, rfl, Fst.zero l F0, below_al (Below.refl _ _) _⟩
  case round =>
    obtain ⟨k, F, x, hk, rfl, rfl, rfl, hst, hb⟩ := hrel
    by_cases hlt : k < l.length
    · obtain ⟨b, off, rfl, hbB, hc⟩ := hR.2 (by omega)
      have hx0 := (hb.cell (p := ⟨b, off + (k * 4 + 0), none⟩) hbB).trans (hc _ _ (scell l k 0 hlt (by omega)))
      have hx1 := (hb.cell (p := ⟨b, off + (k * 4 + 1), none⟩) hbB).trans (hc _ _ (scell l k 1 hlt (by omega)))
      have hx2 := (hb.cell (p := ⟨b, off + (k * 4 + 2), none⟩) hbB).trans (hc _ _ (scell l k 2 hlt (by omega)))
      have hx3 := (hb.cell (p := ⟨b, off + (k * 4 + 3), none⟩) hbB).trans (hc _ _ (scell l k 3 hlt (by omega)))
      have hstep := fun ha => hst.step hlt hl ha
      have hbad : 2 < l[k].al → l.any (fun s => decide (2 < s.al)) = true := fun h => List.any_eq_true.2 ⟨l[k], List.getElem_mem _, by simpa using h⟩
      obtain ⟨s, hs⟩ : ∃ s, l[k] = s := ⟨_, rfl⟩
      rw [hs] at hx0 hx1 hx2 hx3 hstep hbad
      simp only [← Nat.add_assoc, Nat.add_zero] at hx0 hx1 hx2 hx3
      have HS := hidd hstep
      have HB := hidd hbad
      clear hc hR hs hstep hbad hst
      by_cases ha : 2 < s.al
      · have h0 : decide ((2 : Int) < (s.al : Int)) = true := by simp; omega
        have hp : placeF l up dn width lines = ⟨[], 0, 0, 2⟩ := by
          have : askedF l up dn width lines = 2 := by unfold askedF; rw [if_neg (by omega), if_pos (HB.out ha)]
          unfold placeF; rw [if_neg (by rw [this]; decide), this]
        have HP := hidd hp
        clear hp ha
        go_wp2_with (fail)
        exact bodyPost_ret (v := .tuple #[.slice none 0 0, .int .i64 0, .int .i64 0, .int .i64 2]) (by simp [results, Try.results19, go_sem]) rfl ⟨.slice none 0 0, by rw [HP.out], by rw [HP.out]; exact World.ownsRow_nil _ _ _ _, below_al hb _⟩
      · have h0 : decide ((2 : Int) < (s.al : Int)) = false := by simp; omega
        have HA := hidd (show s.al ≤ 2 by omega)
        clear ha
        cases F with
        | false =>
          go_wp2_with (fail)
          go_roundw
          case rel => exact ⟨k + 1, false, _, by omega, by go_num, rfl, rfl, HS.out HA.out, below_al hb _⟩
          case measure => simp [intOf]; omega
        | true =>
          go_wp2_with (fail)
          refine (fits_blk [s.wd, s.up, s.dn] (fitS s) (wr.heap.size + 1) 3 3 #[.int .i64 s.wd, .int .i64 s.up, .int .i64 s.dn] _ (by simpa using Blk.new (wr.alloc _) 3 _) rfl rfl rfl (by decide)).mono ?_
          rintro e w' ⟨rfl, rfl⟩
          obtain ⟨G, hG⟩ : ∃ G, fitS s = G := ⟨_, rfl⟩
          have HS2 : Hid (s.al ≤ 2 → Fst l F0 (k + 1) G (wrap64 (x + s.wd))) := by have hh := HS.out; rw [hG, Bool.true_and] at hh; exact hh
          rw [hG]
          clear hG HS
          go_wp2_with (fail)
          go_roundw
          case rel => exact ⟨k + 1, G, _, by omega, by go_num, rfl, rfl, HS2.out HA.out, below_al (below_al hb _) _⟩
          case measure => simp [intOf]; omega
    · have hkk : k = l.length := by omega
      subst hkk
      unfold Fst at hst
      rw [List.take_length] at hst
      obtain ⟨hF, hx, hal⟩ := hst
      have hany : ¬ l.any (fun s => decide (2 < s.al)) = true := by
        simp only [List.any_eq_true, decide_eq_true_eq, not_exists, not_and]
        intro s hs; have := hal s hs; omega
      have hask : askedF l up dn width lines = if F = true then 0 else 10 := by
        unfold askedF; rw [if_neg (by omega), if_neg hany, HF0.out, ← hF]
      cases F with
      | false =>
        have hp : placeF l up dn width lines = ⟨[], 0, 0, 10⟩ := by
          rw [if_neg (by decide)] at hask
          unfold placeF; rw [if_neg (by rw [hask]; decide), hask]
        have HP := hidd hp
        clear hp hask hF hx hal hany hR
        go_wp2_with (fail)
        exact bodyPost_ret (v := .tuple #[.slice none 0 0, .int .i64 0, .int .i64 0, .int .i64 10]) (by simp [results, Try.results19, go_sem]) rfl ⟨.slice none 0 0, by rw [HP.out], by rw [HP.out]; exact World.ownsRow_nil _ _ _ _, hb⟩
      | true =>
        rw [if_pos rfl] at hask
        have hx' := hx rfl
        subst hx'
        have hFL : FitL l := by
          intro s hs
          have := hF.symm
          simp only [Bool.and_eq_true, List.all_eq_true] at this
          exact this.2 s hs
        have hF0t : F0 = true := by
          have := hF.symm
          simp only [Bool.and_eq_true] at this
          exact this.1
        have h3 := HF0.out
        rw [hF0t] at h3
        simp only [fitsB, List.all_cons, List.all_nil, Bool.and_true, Bool.and_eq_true] at h3
        obtain ⟨f1, f2, f3⟩ := h3
        obtain ⟨g1, g2⟩ := (fitB_iff up).1 f1
        obtain ⟨g3, g4⟩ := (fitB_iff dn).1 f2
        obtain ⟨g5, g6⟩ := (fitB_iff width).1 f3
        obtain ⟨⟨b1, b2⟩, _⟩ := bound_of l hFL l.length (Nat.le_refl _) up g1 g2
        obtain ⟨_, b3, b4⟩ := bound_of l hFL l.length (Nat.le_refl _) dn g3 g4
        have b5 := bound_ht l hFL l.length (Nat.le_refl _) (hUp l up + hDn l dn) (by rw [List.take_length] at b1 b3; omega) (by rw [List.take_length] at b2 b4; omega)
        obtain ⟨b7, b8⟩ := bound_sum l hFL l.length (Nat.le_refl _)
        rw [List.take_length] at b1 b2 b5 b7 b8
        obtain ⟨b5, b6⟩ := b5
        have hof := fun (W : World) (hbb : Below wr.heap.size wr W) => of_any l up dn A cap W ((hR.below (hb.trans (hbb.mono hb.size))).more (hb.trans (hbb.mono hb.size)).size) hl hFL f1 f2
        have HO := hidd (And.intro hask (And.intro hFL hal))
        obtain ⟨X, hX⟩ : ∃ X, leadF (width - sumW l) lines = X := ⟨_, rfl⟩
        have hlead := fun (W : World) => lead_any (width - sumW l) lines W hln ⟨by omega, by omega⟩
        have xb : -9000000000000000 ≤ X ∧ X ≤ 9000000000000000 := by rw [← hX]; unfold leadF; split <;> (try split) <;> omega
        rw [hX] at hlead
        have hpos : posOf l up dn width lines = posL (htOf l up dn) (hUp l up) X l := by unfold posOf; rw [hX]
        have hht : htOf l up dn = hHt l (hUp l up + hDn l dn) := rfl
        rw [← hht] at b5 b6
        obtain ⟨H, hH⟩ : ∃ H, htOf l up dn = H := ⟨_, rfl⟩
        obtain ⟨U, hU⟩ : ∃ U, hUp l up = U := ⟨_, rfl⟩
        have hplace : placeF l up dn width lines = if (fitsB [H, U] && fitP (posL H U X l)) = true then ⟨posL H U X l, H, U, 0⟩ else ⟨[], 0, 0, 10⟩ := by
          unfold placeF; rw [if_pos hask, hpos, hH, hU]
        simp only [hH, hU] at hof b1 b2 b5 b6
        have HPl := hidd hplace
        obtain ⟨xb1, xb2⟩ := xb
        clear hplace hht hpos hH hU hX hask hFL hal hany hF hF0t f1 f2 f3 b3 b4 hx
        have HOF := hidd hof
        have HLD := hidd hlead
        clear hof hlead
        go_wp2_with (fail)
        refine (HOF.out wr (Below.refl _ _)).mono ?_
        rintro e w2 ⟨rfl, hb2⟩
        have hB2 := hb.trans (hb2.mono hb.size)
        clear hb2
        go_wp2_with (fail)
        refine (ways_any H U _).mono ?_
        rintro e w3 ⟨rfl, hb3⟩
        have h18 := (Blk.new w2 72 #[.int .i64 H, .int .i64 U]).below hb3 (by simp)
        have hB3 := below_step (below_al hB2 (.cells #[.int .i64 H, .int .i64 U] 72)) hb3
        clear hb3 hB2
        have c0 := h18.cell 0
        have c1 := h18.cell 1
        have l18 := h18.lt
        simp at c0 c1
        obtain ⟨R1, hR1⟩ : ∃ R, fitsB [H, U] = R := ⟨_, rfl⟩
        have FV : Array Value := #[.func (.func 52) #[.agg #[.int .i64 H, .int .i64 U]] #[], .func (.func 53) #[.agg #[.int .i64 H, .int .i64 U]] #[], .func (.func 54) #[.agg #[.int .i64 H, .int .i64 U]] #[]]
        have h19 := Blk.new w3 75 #[.func (.func 52) #[.agg #[.int .i64 H, .int .i64 U]] #[], .func (.func 53) #[.agg #[.int .i64 H, .int .i64 U]] #[], .func (.func 54) #[.agg #[.int .i64 H, .int .i64 U]] #[]]
        replace h18 := h18.alloc (.cells #[.func (.func 52) #[.agg #[.int .i64 H, .int .i64 U]] #[], .func (.func 53) #[.agg #[.int .i64 H, .int .i64 U]] #[], .func (.func 54) #[.agg #[.int .i64 H, .int .i64 U]] #[]] 75)
        replace hB3 := below_al hB3 (.cells #[.func (.func 52) #[.agg #[.int .i64 H, .int .i64 U]] #[], .func (.func 53) #[.agg #[.int .i64 H, .int .i64 U]] #[], .func (.func 54) #[.agg #[.int .i64 H, .int .i64 U]] #[]] 75)
        go_wp2_with (fail)
        refine (fits_blk [H, U] R1 (w3.heap.size + 1) 2 2 #[.int .i64 H, .int .i64 U] _ (by simpa using Blk.new (w3.alloc _) 3 _) rfl rfl hR1 (by decide)).mono ?_
        rintro e w' ⟨rfl, rfl⟩
        replace h18 := h18.alloc (.cells #[.int .i64 H, .int .i64 U] 3)
        replace h19 := h19.alloc (.cells #[.int .i64 H, .int .i64 U] 3)
        replace hB3 := below_al hB3 (.cells #[.int .i64 H, .int .i64 U] 3)
        have HR1 := hidd hR1
        clear hR1
        go_wp2_with (fail)
        refine (HLD.out _).mono ?_
        rintro e w5 ⟨rfl, hb5⟩
        replace h18 := h18.below hb5 h18.lt
        replace h19 := h19.below hb5 h19.lt
        replace hB3 := below_step hB3 hb5
        clear hb5 c0 c1 l18 FV
        go_wp2_with (fail)
        obtain ⟨g18, hg18⟩ : ∃ g, w2.heap.size = g := ⟨_, rfl⟩
        obtain ⟨g19, hg19⟩ : ∃ g, w3.heap.size = g := ⟨_, rfl⟩
        obtain ⟨W0, hW0⟩ : ∃ W, w5 = W := ⟨_, rfl⟩
        rw [hg18] at h18 ⊢
        rw [hg19] at h19 ⊢
        rw [hW0] at h18 h19 hB3 ⊢
        clear hg18 hg19 hW0
        go_loopw [14, 20, 21, 83] (fun f v a i wx => ∃ (k : Nat) (F : Bool), k ≤ l.length ∧ i = .int .i64 k ∧ f = .bool F ∧ F = (R1 && fitP (posL H U X (l.take k))) ∧ a = .int .i64 (X + sumW (l.take k)) ∧
            wx.ownsRow W0.heap.size 47 2 v k (pcells (posL H U X (l.take k))) ∧ Below W0.heap.size W0 wx)
          (fun _ _ _ i _ => l.length - (intOf i).toNat)
        case atStart => exact ⟨0, R1, Nat.zero_le _, rfl, rfl, by simp [posL, fitP], by simp [sumW], World.ownsRow_nil _ _ _ _, Below.refl _ _⟩
        case round =>
          obtain ⟨k, F, hk, rfl, rfl, hF, rfl, hown, hb0⟩ := hrel
          by_cases hlt : k < l.length
          · obtain ⟨b, off, rfl, hbB, hc⟩ := hR.2 (by omega)
            have hbx := hB3.trans (hb0.mono hB3.size)
            have hx0 := (hbx.cell (p := ⟨b, off + (k * 4 + 0), none⟩) hbB).trans (hc _ _ (scell l k 0 hlt (by omega)))
            have hx1 := (hbx.cell (p := ⟨b, off + (k * 4 + 1), none⟩) hbB).trans (hc _ _ (scell l k 1 hlt (by omega)))
            have hx2 := (hbx.cell (p := ⟨b, off + (k * 4 + 2), none⟩) hbB).trans (hc _ _ (scell l k 2 hlt (by omega)))
            have hx3 := (hbx.cell (p := ⟨b, off + (k * 4 + 3), none⟩) hbB).trans (hc _ _ (scell l k 3 hlt (by omega)))
            have hs4 := (fitS_iff _).1 (HO.out.2.1 l[k] (List.getElem_mem _))
            have hal := HO.out.2.2 l[k] (List.getElem_mem _)
            have hp := posL_snoc H U l[k] (l.take k) X
            rw [← take_snoc l k hlt] at hp
            have hsw := sumW_snoc (l.take k) l[k]
            rw [← take_snoc l k hlt] at hsw
            obtain ⟨c7, c8⟩ := bound_sum l HO.out.2.1 k (by omega)
            obtain ⟨s, hs⟩ : ∃ s, l[k] = s := ⟨_, rfl⟩
            rw [hs] at hx0 hx1 hx2 hx3 hs4 hal hp hsw
            obtain ⟨⟨s1, s2⟩, ⟨s3, s4⟩, s5, s6⟩ := hs4
            obtain ⟨Z, hZ⟩ : ∃ Z, X + sumW (l.take k) = Z := ⟨_, rfl⟩
            rw [hZ] at hp ⊢
            have hZ2 : X + sumW (l.take (k + 1)) = Z + s.wd := by rw [hsw, ← hZ]; omega
            have z1 : -20000000000000000 ≤ Z := by omega
            have z2 : Z ≤ 20000000000000000 := by omega
            simp only [← Nat.add_assoc, Nat.add_zero] at hx0 hx1 hx2 hx3
            have h19x := h19.below hb0 h19.lt
            have HP := hidd (And.intro hp (And.intro hZ2 hF))
            clear hc hs hp hZ hZ2 hsw hF c7 c8
            have l19 := h19x.lt
            have q0 := h19x.cell 0
            have q1 := h19x.cell 1
            have q2 := h19x.cell 2
            simp at q0 q1 q2
            go_upto_region 22 with (fail)
            go_cut [24] (fun p wx => ∃ g, p = .pointer (some ⟨g, 0, none⟩) ∧ Blk wx g 47 #[.int .i64 Z, .int .i64 (yOf H U s)] ∧ Below wr.heap.size wr wx ∧
              Blk wx wr.heap.size 45 #[.int .i64 s.wd, .int .i64 s.up, .int .i64 s.dn, .int .u8 s.al])
            case first =>
              have hal3 : s.al = 0 ∨ s.al = 1 ∨ s.al = 2 := by omega
              clear hR HOF hb0 hown h18 h19 HLD HPl HR1 HO HP b7 b8 hbx hB3 hk hl hln
              obtain ⟨wd, upp, dnn, al⟩ := s
              simp only at hal3 hx0 hx1 hx2 hx3 s1 s2 s3 s4 s5 s6 ⊢
              have hs0 := Blk.new wr 45 #[.int .i64 wd, .int .i64 upp, .int .i64 dnn, .int .u8 al]
              have hbW : Below wr.heap.size wr (wr.alloc (.cells #[.int .i64 wd, .int .i64 upp, .int .i64 dnn, .int .u8 al] 45)) := below_al (Below.refl _ _) _
              have h19W := h19x.alloc (.cells #[.int .i64 wd, .int .i64 upp, .int .i64 dnn, .int .u8 al] 45)
              obtain ⟨W, hW⟩ : ∃ W, wr.alloc (.cells #[.int .i64 wd, .int .i64 upp, .int .i64 dnn, .int .u8 al] 45) = W := ⟨_, rfl⟩
              rw [hW] at hs0 hbW h19W ⊢
              clear hW
              have q0 := h19W.cell 0
              have q1 := h19W.cell 1
              have q2 := h19W.cell 2
              have t0 := hs0.cell 0
              have t1 := hs0.cell 1
              have t2 := hs0.cell 2
              have t3 := hs0.cell 3
              have lg := h19W.lt
              have ls := hs0.lt
              simp at q0 q1 q2 t0 t1 t2 t3
              clear hx0 hx1 hx2 hx3 h19x l19
              rcases hal3 with rfl | rfl | rfl
              · have hv : yOf H U ⟨wd, upp, dnn, 0⟩ = wrap64 (U - upp) := by rw [IntWalk.wrap64_in _ ⟨by omega, by omega⟩]; simp [yOf]
                have HY := hidd hv
                clear hv
                simp at t3
                go_region_held3 (fun w' => Below W.heap.size W w' ∧ ∀ b o, b < W.heap.size → w'.cell? ⟨b, o, none⟩ = W.cell? ⟨b, o, none⟩)
                  (first
                    | exact ext_of (Below.drew (Below.refl _ _))
                    | exact ext_of (by assumption)
                    | exact ext_al (by assumption) _
                    | exact ext_set (by assumption) (by simp) (by simp) _ _
                    | exact ext_of (below_al (by assumption) _))
                  ((first
                    | (go_at_call 52; refine (onBase_any H U ⟨wd, upp, dnn, 0⟩ _).mono ?_; rintro e w6 ⟨rfl, hb6⟩; have hB6 := ext_step (W := W) (by assumption) hb6; first | (have hq := Blk.below (w := (W.alloc (.cells #[.int .i64 0, .int .i64 0] 47)).drew) (Blk.new W 47 #[.int .i64 0, .int .i64 0]).drew hb6 (by simp); have hq0 := hq.cell 0; have hq1 := hq.cell 1; have hqf := hq.frozen; simp at hq0 hq1) | skip)))
                · go_wp2_with (fail)
                  go_meet
                  exact ⟨_, rfl, by rw [HY.out]; exact Blk.new w6 47 _, hbW.trans (Below.mono (And.left (by assumption)) hbW.size), hs0.below (And.left (by assumption)) ls⟩
                · go_wp2_with (fail)
                  go_meet
                  exact ⟨_, rfl, by rw [HY.out]; simpa using (hq.set_ 0 _).set_ 1 _, hbW.trans (Below.mono (And.left (by assumption)) hbW.size), hs0.below (And.left (by assumption)) ls⟩
              · have hv : yOf H U ⟨wd, upp, dnn, 1⟩ = 0 := by simp [yOf]
                have HY := hidd hv
                clear hv
                simp at t3
                go_region_held3 (fun w' => Below W.heap.size W w' ∧ ∀ b o, b < W.heap.size → w'.cell? ⟨b, o, none⟩ = W.cell? ⟨b, o, none⟩)
                  (first
                    | exact ext_of (Below.drew (Below.refl _ _))
                    | exact ext_of (by assumption)
                    | exact ext_al (by assumption) _
                    | exact ext_set (by assumption) (by simp) (by simp) _ _
                    | exact ext_of (below_al (by assumption) _))
                  ((first
                    | (go_at_call 53; refine (onTop_any H U ⟨wd, upp, dnn, 1⟩ _).mono ?_; rintro e w6 ⟨rfl, hb6⟩; have hB6 := ext_step (W := W) (by assumption) hb6; first | (have hq := Blk.below (w := (W.alloc (.cells #[.int .i64 0, .int .i64 0] 47)).drew) (Blk.new W 47 #[.int .i64 0, .int .i64 0]).drew hb6 (by simp); have hq0 := hq.cell 0; have hq1 := hq.cell 1; have hqf := hq.frozen; simp at hq0 hq1) | skip)))
                · go_wp2_with (fail)
                  go_meet
                  exact ⟨_, rfl, by rw [HY.out]; exact Blk.new w6 47 _, hbW.trans (Below.mono (And.left (by assumption)) hbW.size), hs0.below (And.left (by assumption)) ls⟩
                · go_wp2_with (fail)
                  go_meet
                  exact ⟨_, rfl, by rw [HY.out]; simpa using (hq.set_ 0 _).set_ 1 _, hbW.trans (Below.mono (And.left (by assumption)) hbW.size), hs0.below (And.left (by assumption)) ls⟩
              · have hv : yOf H U ⟨wd, upp, dnn, 2⟩ = wrap64 (wrap64 (H - upp) - dnn) := by rw [IntWalk.wrap64_in (H - upp) ⟨by omega, by omega⟩, IntWalk.wrap64_in _ ⟨by omega, by omega⟩]; simp [yOf]
                have HY := hidd hv
                clear hv
                simp at t3
                go_region_held3 (fun w' => Below W.heap.size W w' ∧ ∀ b o, b < W.heap.size → w'.cell? ⟨b, o, none⟩ = W.cell? ⟨b, o, none⟩)
                  (first
                    | exact ext_of (Below.drew (Below.refl _ _))
                    | exact ext_of (by assumption)
                    | exact ext_al (by assumption) _
                    | exact ext_set (by assumption) (by simp) (by simp) _ _
                    | exact ext_of (below_al (by assumption) _))
                  ((first
                    | (go_at_call 54; refine (onBottom_any H U ⟨wd, upp, dnn, 2⟩ _).mono ?_; rintro e w6 ⟨rfl, hb6⟩; have hB6 := ext_step (W := W) (by assumption) hb6; first | (have hq := Blk.below (w := (W.alloc (.cells #[.int .i64 0, .int .i64 0] 47)).drew) (Blk.new W 47 #[.int .i64 0, .int .i64 0]).drew hb6 (by simp); have hq0 := hq.cell 0; have hq1 := hq.cell 1; have hqf := hq.frozen; simp at hq0 hq1) | skip)))
                · go_wp2_with (fail)
                  go_meet
                  exact ⟨_, rfl, by rw [HY.out]; exact Blk.new w6 47 _, hbW.trans (Below.mono (And.left (by assumption)) hbW.size), hs0.below (And.left (by assumption)) ls⟩
                · go_wp2_with (fail)
                  go_meet
                  exact ⟨_, rfl, by rw [HY.out]; simpa using (hq.set_ 0 _).set_ 1 _, hbW.trans (Below.mono (And.left (by assumption)) hbW.size), hs0.below (And.left (by assumption)) ls⟩
            case rest =>
              obtain ⟨g24, rfl, h24, hbc, h23⟩ := hcut
              have hyb : -9000000000000000 ≤ yOf H U s ∧ yOf H U s ≤ 9000000000000000 := by unfold yOf; split <;> (try split) <;> omega
              obtain ⟨Y, hY⟩ : ∃ Y, yOf H U s = Y := ⟨_, rfl⟩
              have HP2 : Hid (posL H U X (l.take (k + 1)) = posL H U X (l.take k) ++ [⟨Z, Y⟩] ∧ X + sumW (l.take (k + 1)) = Z + s.wd ∧ F = (R1 && fitP (posL H U X (l.take k)))) := by rw [← hY]; exact HP.out
              rw [hY] at h24 hyb
              clear hY HP hyb q0 q1 q2 hx0 hx1 hx2 hx3 hR HOF h19x
              have hbc0 := hb0.trans (hbc.mono hb0.size)
              have hown2 := own_below hown hbc
              have hlt20 : ∀ q, u20.ownBlock = some q → q < wr.heap.size := fun q hq => (hown.lt q hq).2
              clear hown hbc hb0 hbx
              obtain ⟨hi, hz0, hz1, hz2⟩ := HI.out
              obtain ⟨W9, hW9⟩ : ∃ W, wc = W := ⟨_, rfl⟩
              rw [hW9] at h24 h23 hbc0 hown2 ⊢
              clear hW9
              have e0 := h24.cell 0
              have e1 := h24.cell 1
              have e2 := h23.cell 0
              have le := h24.lt
              have le2 := h23.lt
              simp at e0 e1 e2
              obtain ⟨G, hG⟩ : ∃ G, fitsB [Z, Y] = G := ⟨_, rfl⟩
              have HG := hidd hG
              clear hG
              cases F with
              | false =>
                go_wp2_with (at_builtin; refine wpList_append_src _ rfl _ _ 38 rfl W0.heap.size 47 i0 (.agg #[.int .i64 0, .int .i64 0]) 2 16 Try.underlying38 hi hz0 hz1 hz2 rfl (by decide) u20 k _ rfl (hown2.alloc _) (W9.alloc (.cells #[.int .i64 Z, .int .i64 Y] 47)).heap.size (some ⟨W9.heap.size, 0, none⟩) 1 1 [.int .i64 Z, .int .i64 Y] rfl (Rd.blk (Blk.new W9 47 #[.int .i64 Z, .int .i64 Y]) 1 2 rfl) (by simp [Value.oneCell']) ?c3 ?c4 ?c5 ?_)
                case c3 => unfold maxLen; omega
                case c4 => omega
                case c5 => have := hbc0.size; simp; omega
                intro v' w7 hown7 hgrow
                have hb7 : Below W0.heap.size W0 w7 := (below_al hbc0 _).grown hgrow (below_al hbc0 _).size (fun q hq => (hown2.lt q hq).1)
                have h237 := (h23.alloc (.cells #[.int .i64 Z, .int .i64 Y] 47)).grown hgrow (by
                  intro e; have := hlt20 _ e.symm; omega)
                have e27 := h237.cell 0
                simp at e27
                clear hgrow hown2 hbc0 h24 h23 hi hz0 hz1 hz2 e0 e1 e2
                go_wp2_with (fail)
                go_roundw
                case rel =>
                  refine ⟨k + 1, false, by omega, by go_num, rfl, ?_, ?_, ?_, hb7⟩
                  · rw [HP2.out.1, fitP_snoc, ← Bool.and_assoc, ← HP2.out.2.2]; rfl
                  · rw [HP2.out.2.1]
                  · rw [HP2.out.1, pcells_snoc]; exact hown7
                case measure => simp [intOf]; omega
              | true =>
                go_wp2_with (fail)
                refine (fits_blk [Z, Y] G W9.heap.size 2 2 #[.int .i64 Z, .int .i64 Y] _ (Blk.new W9 3 _) rfl rfl HG.out (by decide)).mono ?_
                rintro e w6 ⟨rfl, rfl⟩
                have hbc1 := below_al hbc0 (.cells #[.int .i64 Z, .int .i64 Y] 3)
                have hown3 := hown2.alloc (.cells #[.int .i64 Z, .int .i64 Y] 3)
                have h233 := h23.alloc (.cells #[.int .i64 Z, .int .i64 Y] 3)
                clear hbc0 hown2 h23 h24
                obtain ⟨W8, hW8⟩ : ∃ W, W9.alloc (.cells #[.int .i64 Z, .int .i64 Y] 3) = W := ⟨_, rfl⟩
                have x0 : W8.cell? ⟨g24, 0, none⟩ = some (.int .i64 Z) := by rw [← hW8]; exact (World.cell?_alloc_lt _ _ _ le).trans e0
                have x1 : W8.cell? ⟨g24, 1, none⟩ = some (.int .i64 Y) := by rw [← hW8]; exact (World.cell?_alloc_lt _ _ _ le).trans e1
                have le8 : g24 < W8.heap.size := by rw [← hW8]; simp; omega
                rw [hW8] at hbc1 hown3 h233 ⊢
                clear hW8 e0 e1 e2 le le2
                go_wp2_with (at_builtin; refine wpList_append_src _ rfl _ _ 38 rfl W0.heap.size 47 i0 (.agg #[.int .i64 0, .int .i64 0]) 2 16 Try.underlying38 hi hz0 hz1 hz2 rfl (by decide) u20 k _ rfl (hown3.alloc _) (W8.alloc (.cells #[.int .i64 Z, .int .i64 Y] 47)).heap.size (some ⟨W8.heap.size, 0, none⟩) 1 1 [.int .i64 Z, .int .i64 Y] rfl (Rd.blk (Blk.new W8 47 #[.int .i64 Z, .int .i64 Y]) 1 2 rfl) (by simp [Value.oneCell']) ?d3 ?d4 ?d5 ?_)
                case d3 => unfold maxLen; omega
                case d4 => omega
                case d5 => have := hbc1.size; simp; omega
                intro v' w7 hown7 hgrow
                have hb7 : Below W0.heap.size W0 w7 := (below_al hbc1 _).grown hgrow (below_al hbc1 _).size (fun q hq => (hown3.lt q hq).1)
                have h237 := (h233.alloc (.cells #[.int .i64 Z, .int .i64 Y] 47)).grown hgrow (by
                  intro e; have := hlt20 _ e.symm; omega)
                have e27 := h237.cell 0
                simp at e27
                clear hgrow hown3 hbc1 h233 hi hz0 hz1 hz2 x0 x1
                go_wp2_with (fail)
                go_roundw
                case rel =>
                  refine ⟨k + 1, G, by omega, by go_num, rfl, ?_, ?_, ?_, hb7⟩
                  · rw [HP2.out.1, fitP_snoc, ← Bool.and_assoc, ← HP2.out.2.2, ← HG.out]; rfl
                  · rw [HP2.out.2.1]
                  · rw [HP2.out.1, pcells_snoc]; exact hown7
                case measure => simp [intOf]; omega
          · have hkk : k = l.length := by omega
            subst hkk
            rw [List.take_length] at hF hown
            have hlen := posL_length H U X l
            have hpl := HPl.out
            rw [HR1.out, ← hF] at hpl
            have hbx := hB3.trans (hb0.mono hB3.size)
            have e0 := (h18.below hb0 h18.lt).cell 0
            have e1 := (h18.below hb0 h18.lt).cell 1
            simp at e0 e1
            have HPX := hidd (And.intro hpl hlen)
            clear hpl hlen hF hR HOF HLD
            cases F with
            | false =>
              go_wp2_with (fail)
              exact bodyPost_ret (v := .tuple #[.slice none 0 0, .int .i64 0, .int .i64 0, .int .i64 10]) (by simp [results, Try.results19, go_sem]) rfl ⟨.slice none 0 0, by rw [HPX.out.1]; rfl, by rw [HPX.out.1]; exact World.ownsRow_nil _ _ _ _, hbx⟩
            | true =>
              go_wp2_with (fail)
              go_quiet (fail)
              go_wp2_with (fail)
              exact bodyPost_ret (v := .tuple #[u20, .int .i64 H, .int .i64 U, .int .i64 0]) (by simp [results, Try.results19, go_sem]) rfl ⟨u20, by rw [HPX.out.1]; rfl, by rw [HPX.out.1, if_pos trivial]; simp only [HPX.out.2]; exact own_base hown hB3.size, below_drewN hbx _⟩
end Go.Proofs.Ytdhjgflkincapaa
