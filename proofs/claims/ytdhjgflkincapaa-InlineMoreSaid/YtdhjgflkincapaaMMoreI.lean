/- InlineMore: the walk. -/
import Derived.Test.YtdhjgflkincapaaPlainB
import Derived.Test.YtdhjgflkincapaaOrd
namespace Go.Proofs.Ytdhjgflkincapaa
open Go.RowKit
set_option linter.unusedVariables false

theorem scells_snoc3 (l : List Sp) (s : Sp) : scells (l ++ [s]) = scells l ++ [.int .i64 s.wd, .int .i64 s.up, .int .i64 s.dn, .int .u8 s.al] := by simp [scells, Sp.cs]
set_option maxRecDepth 100000 in
set_option maxHeartbeats 8000000 in
theorem imore_walk (l : List Sp) (x : Ow) (n : Int) (A : Option Addr) (cap : Nat) (w : World) (hR : Rd w w.heap.size 4 A l.length (scells l)) (hlc : l.length ≤ cap) (hm : cap ≤ maxLen) (hx8 : x.ls ≤ 255) :
    Calls Try.prog 9 #[.slice A l.length cap, .agg #[.int .i64 x.up, .int .i64 x.dn, .int .i64 x.wd, .int .u8 x.ls], .int .i64 n] w fun e w' => e = .returned (.bool true) ∧ Below w.heap.size w w' := by
  unfold maxLen at hm
  obtain ⟨N, hN⟩ : ∃ N, nearB l x = N := ⟨_, rfl⟩
  have hnear := fun W hR => near_any l x A cap W hR
  rw [hN] at hnear
  have HNR := hidd hnear
  clear hnear
  go_enter Try.func9, Try.ntmps9
  go_wp2_with (fail)
  refine (awake_any _).mono ?_
  rintro e w1 ⟨rfl, hb1⟩
  have hg1 := (Blk.new w 37 #[.int .i64 x.up, .int .i64 x.dn, .int .i64 x.wd, .int .u8 x.ls]).below hb1 (by simp)
  have hB1 := below_step (below_al (Below.refl w.heap.size w) _) hb1
  have q0 := hg1.cell 0
  have q1 := hg1.cell 1
  have q2 := hg1.cell 2
  have q3 := hg1.cell 3
  simp at q0 q1 q2 q3
  clear hb1
  go_wp2_with (fail)
  refine (HNR.out w1 ((hR.below hB1).more hB1.size)).mono ?_
  rintro e w2 ⟨rfl, hb2⟩
  have hg2 := hg1.below hb2 hg1.lt
  have hB2 := below_step hB1 hb2
  clear q0 q1 q2 q3 hb2 hg1 hB1 HNR
  cases N with
  | false =>
    clear hg2 hR
    go_wp2_with (fail)
    go_ret
    exact ⟨rfl, hB2⟩
  | true =>
    by_cases a1 : n < 0
    · have d1 : decide (n < 0) = true := by simpa using a1
      clear hg2 hR a1
      go_wp2_with (fail)
      go_ret
      exact ⟨rfl, hB2⟩
    have d1 : decide (n < 0) = false := by simpa using a1
    by_cases a2 : 268435456 < n
    · have d2 : decide (268435456 < n) = true := by simpa using a2
      clear hg2 hR a1 a2
      go_wp2_with (fail)
      go_ret
      exact ⟨rfl, hB2⟩
    have d2 : decide (268435456 < n) = false := by simpa using a2
    by_cases a3 : 199 < l.length
    · have d3 : decide ((199 : Int) < (l.length : Int)) = true := by simp; omega
      clear hg2 hR a1 a2 a3
      go_wp2_with (fail)
      go_ret
      exact ⟨rfl, hB2⟩
    have d3 : decide ((199 : Int) < (l.length : Int)) = false := by simp; omega
    have hN2 := (near_iff l x).1 hN
    obtain ⟨hl2, ⟨n1, n2, n3, n4⟩, hns⟩ := hN2
    have hub := near_bounds hN
    obtain ⟨S, hS⟩ : ∃ S, sumW l = S := ⟨_, rfl⟩
    obtain ⟨H, hH⟩ : ∃ H, htOf l x.up x.dn = H := ⟨_, rfl⟩
    obtain ⟨U, hU⟩ : ∃ H, hUp l x.up = H := ⟨_, rfl⟩
    have hp := place_zero hN
    have hp2 := place_more (wd := n) hN (by omega) (by omega) (by omega)
    rw [hH, hU] at hp hp2
    rw [hS] at hp2
    simp only [hH, hU] at hub
    obtain ⟨⟨u1, u2⟩, u3, u4⟩ := hub
    have hlen2 : (posL H U 0 l ++ [(⟨S, U - x.up⟩ : Ps)]).length = l.length + 1 := by rw [List.length_append, posL_length]; rfl
    have hpl := fun A cap W hR => place_lit l x.up x.dn x.wd 0 A l.length cap l.length W _ hR rfl (by omega) hp (posL_length _ _ _ _)
    have hpt := fun A cap W hR => place_lit (l ++ [⟨n, x.up, x.dn, 0⟩]) x.up x.dn x.wd 0 A (l.length + 1) cap (l.length + 1) W _ hR (by simp) (by omega) hp2 hlen2
    have HPL := hidd (And.intro hpl hpt)
    clear hpl hpt hp hp2 hH hU hS hN hns hlen2
    obtain ⟨i0, hi, hz0, hz1, hz2⟩ := info_parts info45
    have HI := hidd (And.intro hi (And.intro hz0 (And.intro hz1 hz2)))
    clear hi hz0 hz1 hz2
    have q0 := hg2.cell 0
    have q1 := hg2.cell 1
    have q2 := hg2.cell 2
    have q3 := hg2.cell 3
    simp at q0 q1 q2 q3
    go_wp2_with (fail)
    refine (HPL.out.1 A cap w2 ((hR.below hB2).more hB2.size)).mono ?_
    rintro e w3 ⟨A5, c5, rfl, rd5, hb3⟩
    have hg3 := hg2.below hb3 hg2.lt
    have hB3 := below_step hB2 hb3
    have rdl := (hR.below hB3).more hB3.size
    clear q0 q1 q2 q3 hb3 hg2 hB2 hR
    have q0 := hg3.cell 0
    have q1 := hg3.cell 1
    have q2 := hg3.cell 2
    simp at q0 q1 q2
    obtain ⟨hi, hz0, hz1, hz2⟩ := HI.out
    go_wp2_with (at_builtin; refine wpList_append_src _ rfl _ _ 35 rfl w3.heap.size 45 i0 (.agg #[.int .i64 0, .int .i64 0, .int .i64 0, .int .u8 0]) 4 32 Try.underlying35 hi hz0 hz1 hz2 rfl (by decide) (.slice none 0 0) 0 [] rfl (World.ownsRow_nil _ _ _ _) w3.heap.size A l.length cap (scells l) rfl rdl (scells_one l) ?c3 ?c4 (Nat.le_refl _) ?_)
    case c3 => unfold maxLen; omega
    case c4 => omega
    intro v7 w4 own7 hgrow
    have hbb := (Below.refl w3.heap.size _).grown hgrow (Nat.le_refl _) (fun q hq => by simp [Value.ownBlock] at hq)
    have hB4 := below_step hB3 hbb
    have hg4 := hg3.below hbb hg3.lt
    clear hgrow q0 q1 q2 rdl
    have q0 := hg4.cell 0
    have q1 := hg4.cell 1
    have q2 := hg4.cell 2
    simp at q0 q1 q2
    go_wp2_with (at_builtin; refine wpList_append_src _ rfl _ _ 35 rfl w3.heap.size 45 i0 (.agg #[.int .i64 0, .int .i64 0, .int .i64 0, .int .u8 0]) 4 32 Try.underlying35 hi hz0 hz1 hz2 rfl (by decide) v7 l.length (scells l) rfl (own7.alloc _) (w4.alloc (.cells #[.int .i64 n, .int .i64 x.up, .int .i64 x.dn, .int .u8 0] 45)).heap.size (some ⟨w4.heap.size, 0, none⟩) 1 1 [.int .i64 n, .int .i64 x.up, .int .i64 x.dn, .int .u8 0] rfl (Rd.blk (Blk.new w4 45 #[.int .i64 n, .int .i64 x.up, .int .i64 x.dn, .int .u8 0]) 1 4 rfl) (by simp [Value.oneCell']) ?d3 ?d4 ?d5 ?_)
    case d3 => unfold maxLen; omega
    case d4 => omega
    case d5 => have := hbb.size; simp; omega
    intro v8 w5 own8 hgrow
    have hb5 : Below w3.heap.size w3 w5 := (below_al hbb _).grown hgrow (below_al hbb _).size (fun q hq => (own7.lt q hq).1)
    have H8 : Hid (w5.ownsRow w3.heap.size 45 4 v8 (l.length + 1) (scells (l ++ [⟨n, x.up, x.dn, 0⟩]))) := by rw [scells_snoc3]; exact own8
    have hB5 := hB3.trans (hb5.mono hB3.size)
    have rd55 := (rd5.below hb5).more hb5.size
    have hg5 := hg3.below hb5 hg3.lt
    clear hgrow own8 own7 hbb hB4 hg4 q0 q1 q2 hB3 hg3 hb5 rd5 hi hz0 hz1 hz2
    obtain ⟨A11, c11, rfl, rd11⟩ := own_slice H8.out
    clear H8
    have q0 := hg5.cell 0
    have q1 := hg5.cell 1
    have q2 := hg5.cell 2
    simp at q0 q1 q2
    go_wp2_with (fail)
    refine (HPL.out.2 _ _ w5 rd11).mono ?_
    rintro e w6 ⟨A6, c6, rfl, rd6, hb6⟩
    have hB6 := below_step hB5 hb6
    have rd56 := (rd55.below hb6).more hb6.size
    have hg6 := hg5.below hb6 hg5.lt
    clear q0 q1 q2 hb6 hg5 hB5 rd55 rd11 HPL
    obtain ⟨W6, hW6⟩ : ∃ W, w6 = W := ⟨_, rfl⟩
    rw [hW6] at rd6 hB6 rd56 hg6 ⊢
    clear hW6
    have hm2 : ((l.length : Int) != (l.length : Int)) = false := by simp
    have hm3 : ((l.length : Int) + 1 != (l.length : Int) + 1) = false := by simp
    have hH2 : (H != H) = false := by simp
    have hU2 : (U != U) = false := by simp
    obtain ⟨b6, o6, rfl, hbB6, hc6⟩ := rd6.2 (by omega)
    have hyl : W6.cell? ⟨b6, o6 + l.length * 2 + 1, none⟩ = some (.int .i64 (U - x.up)) := by
      refine hc6 (l.length * 2 + 1) _ ?_
      rw [pcells_snoc, List.getElem?_append_right (by rw [show (pcells (posL H U 0 l)).length = _ from flat_length Ps.cs 2 (fun _ => rfl) _, posL_length]; omega), show (pcells (posL H U 0 l)).length = _ from flat_length Ps.cs 2 (fun _ => rfl) _, posL_length]
      simp
    have hyk : ∀ k (hk : k < l.length), W6.cell? ⟨b6, o6 + (k * 2 + 0), none⟩ = some (.int .i64 (0 + sumW (l.take k))) ∧ W6.cell? ⟨b6, o6 + (k * 2 + 1), none⟩ = some (.int .i64 (yOf H U l[k])) := fun k hk => by
      have hlen : (pcells (posL H U 0 l)).length = l.length * 2 := by rw [show (pcells (posL H U 0 l)).length = _ from flat_length Ps.cs 2 (fun _ => rfl) _, posL_length]
      refine ⟨hc6 _ _ ?_, hc6 _ _ ?_⟩
      · rw [pcells_snoc, List.getElem?_append_left (by omega)]; exact pcellX H U 0 l k hk
      · rw [pcells_snoc, List.getElem?_append_left (by omega)]; exact pcellY H U 0 l k hk
    have HC := hidd (And.intro hyl hyk)
    clear hc6 hyl hyk rd6
    go_wp2_with (fail)
    clear hm2 hm3 hH2 hU2
    go_loopw [16] (fun i wx => ∃ k : Nat, k ≤ l.length ∧ i = .int .i64 k ∧ Below W6.heap.size W6 wx)
      (fun i _ => l.length - (intOf i).toNat)
    case atStart => exact ⟨0, Nat.zero_le _, rfl, Below.refl _ _⟩
    case round =>
      obtain ⟨k, hk, rfl, hb⟩ := hrel
      by_cases hlt : k < l.length
      · obtain ⟨b5, o5, rfl, hbB5, hc5⟩ := rd56.2 (by omega)
        have hx := (hb.cell (p := ⟨b5, o5 + (k * 2 + 0), none⟩) hbB5).trans (hc5 _ _ (pcellX H U 0 l k hlt))
        have hy := (hb.cell (p := ⟨b5, o5 + (k * 2 + 1), none⟩) hbB5).trans (hc5 _ _ (pcellY H U 0 l k hlt))
        have hx2 := (hb.cell (p := ⟨b6, o6 + (k * 2 + 0), none⟩) hbB6).trans (HC.out.2 k hlt).1
        have hy2 := (hb.cell (p := ⟨b6, o6 + (k * 2 + 1), none⟩) hbB6).trans (HC.out.2 k hlt).2
        obtain ⟨Y, hY⟩ : ∃ Y, yOf H U l[k] = Y := ⟨_, rfl⟩
        rw [hY] at hy hy2
        obtain ⟨Z, hZ⟩ : ∃ Z, 0 + sumW (l.take k) = Z := ⟨_, rfl⟩
        rw [hZ] at hx hx2
        simp only [← Nat.add_assoc, Nat.add_zero] at hx hy hx2 hy2
        have hY2 : (Y == Y) = true := by simp
        have hZ2 : (Z == Z) = true := by simp
        clear hc5 hY hZ rd56
        have k0 : (0 : Int) ≤ (k : Int) := Int.natCast_nonneg _
        have k1 : (k : Int) < (l.length : Int) := by omega
        have k2 : (k : Int) < (l.length : Int) + 1 := by omega
        go_wp2_with (fail)
        go_quiet (fail)
        go_wp2_with (fail)
        go_roundw
        case rel => exact ⟨k + 1, by omega, by go_num, below_drewN hb _⟩
        case measure => simp [intOf]; omega
      · have hkk : k = l.length := by omega
        subst hkk
        have hg9 := hg6.below hb hg6.lt
        have q0 := hg9.cell 0
        simp at q0
        have hyl := (hb.cell (p := ⟨b6, o6 + l.length * 2 + 1, none⟩) hbB6).trans HC.out.1
        have k0 : (0 : Int) ≤ (l.length : Int) := Int.natCast_nonneg _
        have k2 : (l.length : Int) < (l.length : Int) + 1 := by omega
        have hsub : (U - x.up == U - x.up) = true := by simp
        have hB9 := hB6.trans (hb.mono hB6.size)
        clear hg9 rd56
        go_wp2_with (fail)
        go_quiet (fail)
        go_wp2_with (fail)
        go_ret
        exact ⟨rfl, below_drewN hB9 _⟩
end Go.Proofs.Ytdhjgflkincapaa
