/- InlineBeside: the walk. -/
import Derived.Test.YtdhjgflkincapaaPlainN
namespace Go.Proofs.Ytdhjgflkincapaa
open Go.RowKit
set_option linter.unusedVariables false

set_option maxRecDepth 100000 in
set_option maxHeartbeats 8000000 in
theorem beside_walk (l : List Sp) (x : Ow) (A : Option Addr) (cap : Nat) (w : World) (hR : Rd w w.heap.size 4 A l.length (scells l)) (hlc : l.length ≤ cap) (hm : cap ≤ maxLen) (hx8 : x.ls ≤ 255) :
    Calls Try.prog 6 #[.slice A l.length cap, .agg #[.int .i64 x.up, .int .i64 x.dn, .int .i64 x.wd, .int .u8 x.ls]] w fun e w' => e = .returned (.bool true) ∧ Below w.heap.size w w' := by
  unfold maxLen at hm
  obtain ⟨N, hN⟩ : ∃ N, nearB l x = N := ⟨_, rfl⟩
  have hnear := fun W hR => near_any l x A cap W hR
  rw [hN] at hnear
  have HNR := hidd hnear
  clear hnear
  go_enter Try.func6, Try.ntmps6
  go_wp2_with (fail)
  refine (awake_any _).mono ?_
  rintro e w1 ⟨rfl, hb1⟩
  have hg1 := (Blk.new w 37 #[.int .i64 x.up, .int .i64 x.dn, .int .i64 x.wd, .int .u8 x.ls]).below hb1 (by simp)
  have hB1 := below_step (below_al (Below.refl w.heap.size w) _) hb1
  have q0 := hg1.cell 0
  have q1 := hg1.cell 1
  have q2 := hg1.cell 2
  have q3 := hg1.cell 3
  simp at q0 q1 q2 q3
  clear hb1
  go_wp2_with (fail)
  refine (HNR.out w1 ((hR.below hB1).more hB1.size)).mono ?_
  rintro e w2 ⟨rfl, hb2⟩
  have hg2 := hg1.below hb2 hg1.lt
  have hB2 := below_step hB1 hb2
  clear q0 q1 q2 q3 hb2 hg1 hB1 HNR
  cases N with
  | false =>
    clear hg2 hR
    go_wp2_with (fail)
    go_ret
    exact ⟨rfl, hB2⟩
  | true =>
    have hN2 := (near_iff l x).1 hN
    obtain ⟨hl2, ⟨n1, n2, n3, n4⟩, hns⟩ := hN2
    by_cases hl0 : l.length = 0
    · have d0 : ((l.length : Int) == 0) = true := by rw [beq_iff_eq]; omega
      clear hg2 hR
      go_wp2_with (fail)
      go_ret
      exact ⟨rfl, hB2⟩
    have d0 : ((l.length : Int) == 0) = false := by rw [beq_eq_false_iff_ne]; omega
    have d1 : ((l.length : Int) != (l.length : Int)) = false := by simp
    obtain ⟨S, hS⟩ : ∃ S, sumW l = S := ⟨_, rfl⟩
    have hsum := nsum hns l.length (Nat.le_refl _)
    rw [List.take_length, hS] at hsum
    obtain ⟨X, hX⟩ : ∃ X, leadF (x.wd - S) x.ls = X := ⟨_, rfl⟩
    have hXb : 0 ≤ X ∧ X ≤ 274877906944 := by rw [← hX]; unfold leadF; split <;> (try split) <;> omega
    obtain ⟨H, hH⟩ : ∃ H, htOf l x.up x.dn = H := ⟨_, rfl⟩
    obtain ⟨U, hU⟩ : ∃ H, hUp l x.up = H := ⟨_, rfl⟩
    have hp : placeF l x.up x.dn x.wd x.ls = ⟨posL H U X l, H, U, 0⟩ := by
      rw [near_place hN]; unfold posOf; rw [hS, hX, hH, hU]
    have hpl := fun W hR => place_lit l x.up x.dn x.wd x.ls A l.length cap l.length W _ hR rfl (by omega) hp (posL_length _ _ _ _)
    have HPL := hidd hpl
    have HN := hidd (And.intro hns (And.intro hS hX))
    clear hpl hp hH hU hS hX hN hns
    have q0 := hg2.cell 0
    have q1 := hg2.cell 1
    have q2 := hg2.cell 2
    have q3 := hg2.cell 3
    simp at q0 q1 q2 q3
    go_wp2_with (fail)
    refine (HPL.out w2 ((hR.below hB2).more hB2.size)).mono ?_
    rintro e w3 ⟨A5, c5, rfl, rd5, hb3⟩
    have hg3 := hg2.below hb3 hg2.lt
    have hB3 := below_step hB2 hb3
    clear q0 q1 q2 q3 hb3 hg2 hB2 HPL
    obtain ⟨b5, o5, rfl, hb5, hc5⟩ := rd5.2 (by omega)
    have hp0 : ∀ k (hk : k < l.length), w3.cell? ⟨b5, o5 + k * 2, none⟩ = some (.int .i64 (X + sumW (l.take k))) := fun k hk => by
      have hk2 : k < (posL H U X l).length := by rw [posL_length]; exact hk
      have hg := posL_get H U l X k hk
      rw [List.getElem?_eq_getElem hk2] at hg
      have e := Option.some.inj hg
      have hh := pcell (posL H U X l) k 0 hk2 (by omega)
      rw [e] at hh
      exact hc5 (k * 2) _ hh
    have HP0 := hidd hp0
    have x0 := hp0 0 (by omega)
    simp [sumW] at x0
    clear hp0 hc5 rd5
    go_wp2_with (fail)
    go_loopw [9, 10] (fun a i wx => ∃ k : Nat, k ≤ l.length ∧ i = .int .i64 k ∧ a = .int .i64 (X + sumW (l.take k)) ∧ wx = w3)
      (fun _ i _ => l.length - (intOf i).toNat)
    case atStart => exact ⟨0, Nat.zero_le _, rfl, by simp [sumW], rfl⟩
    case round =>
      obtain ⟨k, hk, rfl, rfl, rfl⟩ := hrel
      by_cases hlt : k < l.length
      · obtain ⟨b, off, rfl, hbB, hc⟩ := hR.2 (by omega)
        have hy0 := (hB3.cell (p := ⟨b, off + (k * 4 + 0), none⟩) hbB).trans (hc _ _ (scell l k 0 hlt (by omega)))
        have hx0 := HP0.out k hlt
        have hs := (nearS_iff _).1 (HN.out.1 l[k] (List.getElem_mem _))
        have hsu := nsum HN.out.1 k (by omega)
        have hsw := sumW_snoc (l.take k) l[k]
        rw [← take_snoc l k hlt] at hsw
        obtain ⟨s, hs9⟩ : ∃ s, l[k] = s := ⟨_, rfl⟩
        rw [hs9] at hy0 hs hsw
        obtain ⟨Z, hZ⟩ : ∃ Z, sumW (l.take k) = Z := ⟨_, rfl⟩
        rw [hZ] at hx0 hsu hsw ⊢
        obtain ⟨V, hV⟩ : ∃ V, X + Z = V := ⟨_, rfl⟩
        have hsw2 : X + sumW (l.take (k + 1)) = V + s.wd := by omega
        rw [hV] at hx0 ⊢
        have v1 : 0 ≤ V := by omega
        have v2 : V ≤ 1000000000000 := by omega
        have hw : wrap64 (V + s.wd) = V + s.wd := IntWalk.wrap64_in _ ⟨by omega, by omega⟩
        have dv : (V != V) = false := by simp
        have HS := hidd hsw2
        simp only [Nat.add_zero] at hy0
        clear hc hR hsw hsw2 hs9 hZ hsu hV
        go_wp2_with (fail)
        go_roundw
        case rel => exact ⟨k + 1, by omega, by go_num, by rw [HS.out], trivial⟩
        case measure => simp [intOf]; omega
      · have hkk : k = l.length := by omega
        subst hkk
        rw [List.take_length, HN.out.2.1]
        have q2 := hg3.cell 2
        have q3 := hg3.cell 3
        simp at q2 q3
        have hXX := HN.out.2.2
        obtain ⟨E, hE⟩ : ∃ E, X + S = E := ⟨_, rfl⟩
        rw [hE]
        obtain ⟨B, hB⟩ : ∃ B, x.wd - E = B := ⟨_, rfl⟩
        have hw : wrap64 (x.wd - E) = B := by rw [IntWalk.wrap64_in _ ⟨by omega, by omega⟩]; exact hB
        have hw2 : wrap64 (X + 1) = X + 1 := IntWalk.wrap64_in _ ⟨by omega, by omega⟩
        have hX3 : (B < 0 ∨ x.ls = 0 → X = 0) ∧ (¬ B < 0 → x.ls = 1 → B = 0) ∧ (¬ B < 0 → x.ls = 2 → X = B ∨ X + 1 = B) := by
          rw [← hB, ← hE, ← hXX]
          unfold leadF
          have : x.ls = 0 ∨ x.ls = 1 ∨ x.ls = 2 := by omega
          rcases this with h | h | h <;> simp only [h] <;> simp <;> omega
        have hbb : -1000000000000 ≤ B ∧ B ≤ 1000000000000 := by omega
        have h3 := hidd hX3
        have ls3 : x.ls = 0 ∨ x.ls = 1 ∨ x.ls = 2 := by omega
        clear hX3 hXX HN HP0 hE hB hR hg3
        have hpos : 0 < l.length := by omega
        by_cases c0 : B < 0
        · have d3 : decide (B < 0) = true := by simpa using c0
          have d4 : (X == 0) = true := by rw [beq_iff_eq]; exact h3.out.1 (.inl c0)
          clear c0
          go_wp2_with (fail)
          go_quiet (fail)
          go_wp2_with (fail)
          go_ret
          exact ⟨rfl, below_drewN hB3 _⟩
        have d3 : decide (B < 0) = false := by simpa using c0
        rcases ls3 with e | e | e
        · have d4 : (X == 0) = true := by rw [beq_iff_eq]; exact h3.out.1 (.inr e)
          have d5 : ((x.ls : Int) == 0) = true := by rw [beq_iff_eq]; omega
          clear c0 e
          go_wp2_with (fail)
          go_quiet (fail)
          go_wp2_with (fail)
          go_ret
          exact ⟨rfl, below_drewN hB3 _⟩
        · have d4 : (B == 0) = true := by rw [beq_iff_eq]; exact h3.out.2.1 c0 e
          have d5 : ((x.ls : Int) == 0) = false := by rw [beq_eq_false_iff_ne]; omega
          have d6 : ((x.ls : Int) == 1) = true := by rw [beq_iff_eq]; omega
          clear c0 e
          go_wp2_with (fail)
          go_quiet (fail)
          go_wp2_with (fail)
          go_ret
          exact ⟨rfl, below_drewN hB3 _⟩
        · have d5 : ((x.ls : Int) == 0) = false := by rw [beq_eq_false_iff_ne]; omega
          have d6 : ((x.ls : Int) == 1) = false := by rw [beq_eq_false_iff_ne]; omega
          have h9 := h3.out.2.2 c0 e
          clear c0 e
          by_cases c1 : X = B
          · have d7 : (X == B) = true := by rw [beq_iff_eq]; exact c1
            clear c1 h9
            go_wp2_with (fail)
            go_quiet (fail)
            go_wp2_with (fail)
            go_ret
            exact ⟨rfl, below_drewN hB3 _⟩
          · have d7 : (X == B) = false := by rw [beq_eq_false_iff_ne]; exact c1
            have d8 : (X + 1 == B) = true := by rw [beq_iff_eq]; omega
            clear c1 h9
            go_wp2_with (fail)
            go_quiet (fail)
            go_wp2_with (fail)
            go_ret
            exact ⟨rfl, below_drewN hB3 _⟩
end Go.Proofs.Ytdhjgflkincapaa
