/- InlineTurned: the walk. -/
import Derived.Test.YtdhjgflkincapaaPlainB
import Derived.Test.YtdhjgflkincapaaOrd
namespace Go.Proofs.Ytdhjgflkincapaa
open Go.RowKit
set_option linter.unusedVariables false

theorem scells_snoc2 (l : List Sp) (s : Sp) : scells (l ++ [s]) = scells l ++ [.int .i64 s.wd, .int .i64 s.up, .int .i64 s.dn, .int .u8 s.al] := by simp [scells, Sp.cs]
theorem turn_from (n : Int) (m : Nat) (h0 : 0 < m) (hm : m ≤ 4096) : ∃ F : Nat, F < m ∧ wrap64 ((IntKind.u64.wrap n).tmod (m : Int)) = (F : Int) := by
  have hu : 0 ≤ IntKind.u64.wrap n := by simp only [IntKind.wrap, IntKind.bits, IntKind.signed]; simp; omega
  rw [Int.tmod_eq_emod_of_nonneg hu]
  have h1 : 0 ≤ IntKind.u64.wrap n % (m : Int) := Int.emod_nonneg _ (by omega)
  have h2 : IntKind.u64.wrap n % (m : Int) < (m : Int) := Int.emod_lt_of_pos _ (by omega)
  rw [IntWalk.wrap64_in _ ⟨by omega, by omega⟩]
  exact ⟨(IntKind.u64.wrap n % (m : Int)).toNat, by omega, by omega⟩
set_option maxRecDepth 100000 in
set_option maxHeartbeats 8000000 in
theorem turned_walk (l : List Sp) (x : Ow) (n : Int) (A : Option Addr) (cap : Nat) (w : World) (hR : Rd w w.heap.size 4 A l.length (scells l)) (hlc : l.length ≤ cap) (hm : cap ≤ maxLen) (hx8 : x.ls ≤ 255) :
    Calls Try.prog 8 #[.slice A l.length cap, .agg #[.int .i64 x.up, .int .i64 x.dn, .int .i64 x.wd, .int .u8 x.ls], .int .i64 n] w fun e w' => e = .returned (.bool true) ∧ Below w.heap.size w w' := by
  unfold maxLen at hm
  obtain ⟨N, hN⟩ : ∃ N, nearB l x = N := ⟨_, rfl⟩
  have hnear := fun W hR => near_any l x A cap W hR
  rw [hN] at hnear
  have HNR := hidd hnear
  clear hnear
  go_enter Try.func8, Try.ntmps8
  go_wp2_with (fail)
  refine (awake_any _).mono ?_
  rintro e w1 ⟨rfl, hb1⟩
  have hg1 := (Blk.new w 37 #[.int .i64 x.up, .int .i64 x.dn, .int .i64 x.wd, .int .u8 x.ls]).below hb1 (by simp)
  have hB1 := below_step (below_al (Below.refl w.heap.size w) _) hb1
  have q0 := hg1.cell 0
  have q1 := hg1.cell 1
  have q2 := hg1.cell 2
  have q3 := hg1.cell 3
  simp at q0 q1 q2 q3
  clear hb1
  go_wp2_with (fail)
  refine (HNR.out w1 ((hR.below hB1).more hB1.size)).mono ?_
  rintro e w2 ⟨rfl, hb2⟩
  have hg2 := hg1.below hb2 hg1.lt
  have hB2 := below_step hB1 hb2
  clear q0 q1 q2 q3 hb2 hg1 hB1 HNR
  cases N with
  | false =>
    clear hg2 hR
    go_wp2_with (fail)
    refine (place_lit [] 3 5 9 1 none 0 0 0 w2 ⟨[], 8, 3, 0⟩ (Rd.nil_ _) rfl (by decide) rfl rfl).mono ?_
    rintro e w3 ⟨A3, c3, rfl, _, hb3⟩
    have hB3 := below_step hB2 hb3
    go_wp2_with (fail)
    go_ret
    exact ⟨rfl, hB3⟩
  | true =>
    by_cases hl0 : l.length = 0
    · have d0 : ((l.length : Int) == 0) = true := by rw [beq_iff_eq]; omega
      clear hg2 hR
      go_wp2_with (fail)
      refine (place_lit [] 3 5 9 1 none 0 0 0 w2 ⟨[], 8, 3, 0⟩ (Rd.nil_ _) rfl (by decide) rfl rfl).mono ?_
      rintro e w3 ⟨A3, c3, rfl, _, hb3⟩
      have hB3 := below_step hB2 hb3
      go_wp2_with (fail)
      go_ret
      exact ⟨rfl, hB3⟩
    have d0 : ((l.length : Int) == 0) = false := by rw [beq_eq_false_iff_ne]; omega
    have hN2 := (near_iff l x).1 hN
    obtain ⟨hl2, ⟨n1, n2, n3, n4⟩, hns⟩ := hN2
    obtain ⟨F, hF, hFe⟩ := turn_from n l.length (by omega) (by omega)
    obtain ⟨S, hS⟩ : ∃ S, sumW l = S := ⟨_, rfl⟩
    obtain ⟨X, hX⟩ : ∃ X, leadF (x.wd - S) x.ls = X := ⟨_, rfl⟩
    obtain ⟨H, hH⟩ : ∃ H, htOf l x.up x.dn = H := ⟨_, rfl⟩
    obtain ⟨U, hU⟩ : ∃ H, hUp l x.up = H := ⟨_, rfl⟩
    have hp : placeF l x.up x.dn x.wd x.ls = ⟨posL H U X l, H, U, 0⟩ := by
      rw [near_place hN]; unfold posOf; rw [hS, hX, hH, hU]
    obtain ⟨T, hT⟩ : ∃ T, rot F l = T := ⟨_, rfl⟩
    have hp2 : placeF T x.up x.dn x.wd x.ls = ⟨posL H U X T, H, U, 0⟩ := by
      rw [← hT, near_place_rot F hN, hS, hX, hH, hU]
    have hTl : T.length = l.length := by rw [← hT]; exact rot_length F l
    have hTg : ∀ k (hk : k < l.length) (hk2 : k < T.length), T[k] = l[(F + k) % l.length]'(Nat.mod_lt _ (Nat.lt_of_le_of_lt (Nat.zero_le _) hk)) := fun k hk hk2 => by
      subst hT; exact rot_get F l k hF hk
    have hpl := fun A cap W hR => place_lit l x.up x.dn x.wd x.ls A l.length cap l.length W _ hR rfl (by omega) hp (posL_length _ _ _ _)
    have hpt := fun A cap W hR => place_lit T x.up x.dn x.wd x.ls A l.length cap l.length W _ hR hTl (by omega) hp2 ((posL_length _ _ _ _).trans hTl)
    have HPL := hidd (And.intro hpl hpt)
    have HT := hidd (And.intro hTl hTg)
    clear hpl hpt hp hp2 hH hU hS hX hN hns hT hTl hTg
    obtain ⟨i0, hi, hz0, hz1, hz2⟩ := info_parts info45
    have HI := hidd (And.intro hi (And.intro hz0 (And.intro hz1 hz2)))
    clear hi hz0 hz1 hz2
    have hl3 : 0 < (l.length : Int) := by omega
    have hl4 : (l.length : Int) ≤ 200 := by omega
    have HF := hidd hFe
    clear hFe
    have hgF := hg2
    go_wp2_with (fail)
    rw [HF.out]
    clear HF
    go_loopw [11, 12] (fun v i wx => ∃ k : Nat, k ≤ l.length ∧ i = .int .i64 k ∧ wx.ownsRow w2.heap.size 45 4 v k (scells (T.take k)) ∧ Below w2.heap.size w2 wx)
      (fun _ i _ => l.length - (intOf i).toNat)
    case atStart => exact ⟨0, Nat.zero_le _, rfl, World.ownsRow_nil _ _ _ _, Below.refl _ _⟩
    case round =>
      obtain ⟨k, hk, rfl, hown, hb⟩ := hrel
      by_cases hlt : k < l.length
      · obtain ⟨b, off, rfl, hbB, hc⟩ := hR.2 (by omega)
        have hB := hB2.trans (hb.mono hB2.size)
        have hkT : k < T.length := by rw [HT.out.1]; exact hlt
        have hTk := HT.out.2 k hlt hkT
        have hsn := scells_snoc2 (T.take k) T[k]
        rw [← take_snoc T k hkT, hTk] at hsn
        obtain ⟨j, hj⟩ : ∃ j, (F + k) % l.length = j := ⟨_, rfl⟩
        have hjl : j < l.length := by rw [← hj]; exact Nat.mod_lt _ (by omega)
        have hji : ((F : Int) + (k : Int)) % (l.length : Int) = (j : Int) := by rw [← hj]; simp
        simp only [hj] at hsn
        have hx0 := (hB.cell (p := ⟨b, off + (j * 4 + 0), none⟩) hbB).trans (hc _ _ (scell l j 0 hjl (by omega)))
        have hx1 := (hB.cell (p := ⟨b, off + (j * 4 + 1), none⟩) hbB).trans (hc _ _ (scell l j 1 hjl (by omega)))
        have hx2 := (hB.cell (p := ⟨b, off + (j * 4 + 2), none⟩) hbB).trans (hc _ _ (scell l j 2 hjl (by omega)))
        have hx3 := (hB.cell (p := ⟨b, off + (j * 4 + 3), none⟩) hbB).trans (hc _ _ (scell l j 3 hjl (by omega)))
        obtain ⟨s, hs⟩ : ∃ s, l[j] = s := ⟨_, rfl⟩
        rw [hs] at hx0 hx1 hx2 hx3 hsn
        simp only [← Nat.add_assoc, Nat.add_zero] at hx0 hx1 hx2 hx3
        have HS := hidd hsn
        clear hc hR hs hsn hj hTk hkT
        have k0 : (0 : Int) ≤ (k : Int) := Int.natCast_nonneg _
        have k1 : (k : Int) < (l.length : Int) := by omega
        have f0 : (0 : Int) ≤ (F : Int) := Int.natCast_nonneg _
        have f1 : (F : Int) < (l.length : Int) := by omega
        obtain ⟨hi, hz0, hz1, hz2⟩ := HI.out
        go_wp2_with (at_builtin; refine wpList_append_src _ rfl _ _ 35 rfl w2.heap.size 45 i0 (.agg #[.int .i64 0, .int .i64 0, .int .i64 0, .int .u8 0]) 4 32 Try.underlying35 hi hz0 hz1 hz2 rfl (by decide) u11 k _ rfl (hown.alloc _) (wr.alloc (.cells #[.int .i64 s.wd, .int .i64 s.up, .int .i64 s.dn, .int .u8 s.al] 45)).heap.size (some ⟨wr.heap.size, 0, none⟩) 1 1 [.int .i64 s.wd, .int .i64 s.up, .int .i64 s.dn, .int .u8 s.al] rfl (Rd.blk (Blk.new wr 45 #[.int .i64 s.wd, .int .i64 s.up, .int .i64 s.dn, .int .u8 s.al]) 1 4 rfl) (by simp [Value.oneCell']) ?c3 ?c4 ?c5 ?_)
        case c3 => unfold maxLen; omega
        case c4 => omega
        case c5 => have := hb.size; simp; omega
        intro v' w4 own4 hgrow
        have hb4 : Below w2.heap.size w2 w4 := (below_al hb _).grown hgrow (below_al hb _).size (fun q hq => (hown.lt q hq).1)
        have H4 : Hid (w4.ownsRow w2.heap.size 45 4 v' (k + 1) (scells (T.take (k + 1)))) := by rw [HS.out]; exact own4
        clear hgrow own4 hown hi hz0 hz1 hz2 hx0 hx1 hx2 hx3
        go_wp2_with (fail)
        go_roundw
        case rel => exact ⟨k + 1, by omega, by go_num, H4.out, hb4⟩
        case measure => simp [intOf]; omega
      · have hkk : k = l.length := by omega
        subst hkk
        rw [← HT.out.1, List.take_length, HT.out.1] at hown
        obtain ⟨A11, c11, rfl, rd11⟩ := own_slice hown
        have hg4 := hg2.below hb hg2.lt
        have hB4 := hB2.trans (hb.mono hB2.size)
        have rdl := (hR.below hB4).more hB4.size
        clear hown hB2 hg2 hb hgF hR
        obtain ⟨W4, hW4⟩ : ∃ W, wr = W := ⟨_, rfl⟩
        rw [hW4] at hg4 hB4 rdl rd11 ⊢
        clear hW4
        clear wr
        have q0 := hg4.cell 0
        have q1 := hg4.cell 1
        have q2 := hg4.cell 2
        have q3 := hg4.cell 3
        simp at q0 q1 q2 q3
        go_wp2_with (fail)
        refine (HPL.out.1 _ _ W4 rdl).mono ?_
        rintro e w5 ⟨A5, c5, rfl, rd5, hb5⟩
        have hg5 := hg4.below hb5 hg4.lt
        have hB5 := below_step hB4 hb5
        have rd115 := (rd11.below hb5).more hb5.size
        clear q0 q1 q2 q3 hb5 hg4 hB4 rd11 rdl
        have q0 := hg5.cell 0
        have q1 := hg5.cell 1
        have q2 := hg5.cell 2
        have q3 := hg5.cell 3
        simp at q0 q1 q2 q3
        go_wp2_with (fail)
        refine (HPL.out.2 _ _ w5 rd115).mono ?_
        rintro e w6 ⟨A6, c6, rfl, rd6, hb6⟩
        have hB6 := below_step hB5 hb6
        have rd56 := (rd5.below hb6).more hb6.size
        clear q0 q1 q2 q3 hb6 hg5 hB5 rd5 rd115 HPL
        obtain ⟨W6, hW6⟩ : ∃ W, w6 = W := ⟨_, rfl⟩
        rw [hW6] at rd6 hB6 rd56 ⊢
        clear hW6
        obtain ⟨b5, o5, rfl, hbB5, hc5⟩ := rd56.2 (by omega)
        obtain ⟨b6, o6, rfl, hbB6, hc6⟩ := rd6.2 (by omega)
        have hm2 : ((l.length : Int) != (l.length : Int)) = false := by simp
        have hH2 : (H != H) = false := by simp
        have hU2 : (U != U) = false := by simp
        have hX2 : (X != X) = false := by simp
        have h0l : (0 : Int) < (l.length : Int) := by omega
        have x0 := hc5 _ _ (pcellX H U X l 0 (by omega))
        have y0 := hc6 _ _ (pcellX H U X T 0 (by rw [HT.out.1]; omega))
        simp [sumW] at x0 y0
        have HC := hidd (And.intro hc5 hc6)
        clear hc5 hc6 rd56 rd6
        go_wp2_with (fail)
        go_quiet (fail)
        go_wp2_with (fail)
        clear x0 y0 hX2 hH2 hU2 hm2
        go_loopw [21] (fun i wx => ∃ k : Nat, k ≤ l.length ∧ i = .int .i64 k ∧ Below W6.heap.size W6 wx)
          (fun i _ => l.length - (intOf i).toNat)
        case atStart => exact ⟨0, Nat.zero_le _, rfl, below_drewN (Below.refl _ _) _⟩
        case round =>
          obtain ⟨k, hk, rfl, hb⟩ := hrel
          by_cases hlt : k < l.length
          · have hkT : k < T.length := by rw [HT.out.1]; exact hlt
            have hTk := HT.out.2 k hlt hkT
            have hy := (hb.cell (p := ⟨b6, o6 + (k * 2 + 1), none⟩) hbB6).trans (HC.out.2 _ _ (pcellY H U X T k hkT))
            rw [hTk] at hy
            obtain ⟨j, hj⟩ : ∃ j, (F + k) % l.length = j := ⟨_, rfl⟩
            have hjl : j < l.length := by rw [← hj]; exact Nat.mod_lt _ (by omega)
            have hji : ((F : Int) + (k : Int)) % (l.length : Int) = (j : Int) := by rw [← hj]; simp
            have hx := (hb.cell (p := ⟨b5, o5 + (j * 2 + 1), none⟩) hbB5).trans (HC.out.1 _ _ (pcellY H U X l j hjl))
            simp only [hj] at hy
            obtain ⟨Y, hY⟩ : ∃ Y, yOf H U l[j] = Y := ⟨_, rfl⟩
            rw [hY] at hx hy
            simp only [← Nat.add_assoc] at hx hy
            have hY2 : (Y != Y) = false := by simp
            clear hj hTk hkT hY
            have k0 : (0 : Int) ≤ (k : Int) := Int.natCast_nonneg _
            have k1 : (k : Int) < (l.length : Int) := by omega
            have f0 : (0 : Int) ≤ (F : Int) := Int.natCast_nonneg _
            have f1 : (F : Int) < (l.length : Int) := by omega
            have j0 : (0 : Int) ≤ (j : Int) := Int.natCast_nonneg _
            have j1 : (j : Int) < (l.length : Int) := by omega
            go_wp2_with (fail)
            go_quiet (fail)
            go_wp2_with (fail)
            go_roundw
            case rel => exact ⟨k + 1, by omega, by go_num, below_drewN hb _⟩
            case measure => simp [intOf]; omega
          · have hkk : k = l.length := by omega
            subst hkk
            go_wp2_with (fail)
            go_ret
            exact ⟨rfl, hB6.trans (hb.mono hB6.size)⟩
end Go.Proofs.Ytdhjgflkincapaa
