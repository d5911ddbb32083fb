/- Contract: near of chapter 11. -/
import Derived.Test.YtdhjgflkincapaaAwake
namespace Go.Proofs.Ytdhjgflkincapaa
open Go.RowKit
set_option linter.unusedVariables false

def nearX (x : Ow) : Bool := decide (0 ≤ x.up) && decide (x.up ≤ 268435456) && decide (0 ≤ x.dn) && decide (x.dn ≤ 268435456) && decide (0 ≤ x.wd) && decide (x.wd ≤ 274877906944) && decide (x.ls ≤ 2)
def nearS (s : Sp) : Bool := decide (0 ≤ s.wd) && decide (s.wd ≤ 268435456) && decide (0 ≤ s.up) && decide (s.up ≤ 268435456) && decide (0 ≤ s.dn) && decide (s.dn ≤ 268435456) && decide (s.al ≤ 2)
def nearB (l : List Sp) (x : Ow) : Bool := (decide (l.length ≤ 200) && nearX x) && l.all nearS

set_option maxRecDepth 100000 in
set_option maxHeartbeats 8000000 in
theorem near_any (l : List Sp) (x : Ow) (A : Option Addr) (cap : Nat) (w : World) (hR : Rd w w.heap.size 4 A l.length (scells l)) :
    Calls Try.prog 23 #[.slice A l.length cap, .agg #[.int .i64 x.up, .int .i64 x.dn, .int .i64 x.wd, .int .u8 x.ls]] w fun e w' => e = .returned (.bool (nearB l x)) ∧ Below w.heap.size w w' := by
  by_cases a0 : 200 < l.length
  · have d0 : decide ((200 : Int) < (l.length : Int)) = true := by simp; omega
    have hr : nearB l x = false := by simp [nearB, nearX]; omega
    rw [hr]
    clear hr a0 hR
    go_enter Try.func23, Try.ntmps23
    go_wp2_with (fail)
    go_ret
    exact ⟨rfl, below_al (Below.refl _ _) _⟩
  have d0 : decide ((200 : Int) < (l.length : Int)) = false := by simp; omega
  by_cases a1 : x.up < 0
  · have d1 : decide (x.up < 0) = true := by simp; omega
    have hr : nearB l x = false := by simp [nearB, nearX]; omega
    rw [hr]
    clear hr a1 hR
    go_enter Try.func23, Try.ntmps23
    go_wp2_with (fail)
    go_ret
    exact ⟨rfl, below_al (Below.refl _ _) _⟩
  have d1 : decide (x.up < 0) = false := by simp; omega
  by_cases a2 : 268435456 < x.up
  · have d2 : decide (268435456 < x.up) = true := by simp; omega
    have hr : nearB l x = false := by simp [nearB, nearX]; omega
    rw [hr]
    clear hr a2 hR
    go_enter Try.func23, Try.ntmps23
    go_wp2_with (fail)
    go_ret
    exact ⟨rfl, below_al (Below.refl _ _) _⟩
  have d2 : decide (268435456 < x.up) = false := by simp; omega
  by_cases a3 : x.dn < 0
  · have d3 : decide (x.dn < 0) = true := by simp; omega
    have hr : nearB l x = false := by simp [nearB, nearX]; omega
    rw [hr]
    clear hr a3 hR
    go_enter Try.func23, Try.ntmps23
    go_wp2_with (fail)
    go_ret
    exact ⟨rfl, below_al (Below.refl _ _) _⟩
  have d3 : decide (x.dn < 0) = false := by simp; omega
  by_cases a4 : 268435456 < x.dn
  · have d4 : decide (268435456 < x.dn) = true := by simp; omega
    have hr : nearB l x = false := by simp [nearB, nearX]; omega
    rw [hr]
    clear hr a4 hR
    go_enter Try.func23, Try.ntmps23
    go_wp2_with (fail)
    go_ret
    exact ⟨rfl, below_al (Below.refl _ _) _⟩
  have d4 : decide (268435456 < x.dn) = false := by simp; omega
  by_cases a5 : x.wd < 0
  · have d5 : decide (x.wd < 0) = true := by simp; omega
    have hr : nearB l x = false := by simp [nearB, nearX]; omega
    rw [hr]
    clear hr a5 hR
    go_enter Try.func23, Try.ntmps23
    go_wp2_with (fail)
    go_ret
    exact ⟨rfl, below_al (Below.refl _ _) _⟩
  have d5 : decide (x.wd < 0) = false := by simp; omega
  by_cases a6 : 274877906944 < x.wd
  · have d6 : decide (274877906944 < x.wd) = true := by simp; omega
    have hr : nearB l x = false := by simp [nearB, nearX]; omega
    rw [hr]
    clear hr a6 hR
    go_enter Try.func23, Try.ntmps23
    go_wp2_with (fail)
    go_ret
    exact ⟨rfl, below_al (Below.refl _ _) _⟩
  have d6 : decide (274877906944 < x.wd) = false := by simp; omega
  by_cases a7 : 2 < x.ls
  · have d7 : decide ((2 : Int) < (x.ls : Int)) = true := by simp; omega
    have hr : nearB l x = false := by simp [nearB, nearX]; omega
    rw [hr]
    clear hr a7 hR
    go_enter Try.func23, Try.ntmps23
    go_wp2_with (fail)
    go_ret
    exact ⟨rfl, below_al (Below.refl _ _) _⟩
  have d7 : decide ((2 : Int) < (x.ls : Int)) = false := by simp; omega
  have hX : nearB l x = l.all nearS := by
    have h1 : nearX x = true := by simp [nearX]; omega
    have h2 : decide (l.length ≤ 200) = true := by simp; omega
    simp [nearB, h1, h2]
  rw [hX]
  obtain ⟨T, hT⟩ : ∃ T, l.all nearS = T := ⟨_, rfl⟩
  rw [hT]
  have hm : l.length ≤ 200 := by omega
  clear hX a0 a1 a2 a3 a4 a5 a6 a7
  go_enter Try.func23, Try.ntmps23
  go_wp2_with (fail)
  go_loopw [5] (fun i wx => ∃ k : Nat, k ≤ l.length ∧ i = .int .i64 k ∧ (l.take k).all nearS = true ∧ Below w.heap.size w wx)
    (fun i _ => l.length - (intOf i).toNat)
  case atStart => exact ⟨0, Nat.zero_le _, rfl, by simp, below_al (Below.refl _ _) _⟩
  case round =>
    obtain ⟨k, hk, rfl, hall, hb⟩ := hrel
    by_cases hlt : k < l.length
    · obtain ⟨b, off, rfl, hbB, hc⟩ := hR.2 (by omega)
      have hx0 := (hb.cell (p := ⟨b, off + (k * 4 + 0), none⟩) hbB).trans (hc _ _ (scell l k 0 hlt (by omega)))
      have hx1 := (hb.cell (p := ⟨b, off + (k * 4 + 1), none⟩) hbB).trans (hc _ _ (scell l k 1 hlt (by omega)))
      have hx2 := (hb.cell (p := ⟨b, off + (k * 4 + 2), none⟩) hbB).trans (hc _ _ (scell l k 2 hlt (by omega)))
      have hx3 := (hb.cell (p := ⟨b, off + (k * 4 + 3), none⟩) hbB).trans (hc _ _ (scell l k 3 hlt (by omega)))
      have hstep : nearS l[k] = true → (l.take (k + 1)).all nearS = true := fun h => by rw [take_snoc l k hlt, List.all_append, hall]; simp [h]
      have hbad : nearS l[k] = false → T = false := fun h => by
        rw [← hT, Bool.eq_false_iff]
        intro hh
        rw [List.all_eq_true] at hh
        rw [hh l[k] (List.getElem_mem _)] at h
        cases h
      obtain ⟨s, hs⟩ : ∃ s, l[k] = s := ⟨_, rfl⟩
      rw [hs] at hx0 hx1 hx2 hx3 hstep hbad
      simp only [← Nat.add_assoc, Nat.add_zero] at hx0 hx1 hx2 hx3
      have HN := hidd (And.intro hstep hbad)
      clear hc hR hs hstep hbad hall hT
      by_cases a0 : s.wd < 0
      · have d0 : decide (s.wd < 0) = true := by simp; omega
        have hs2 : nearS s = false := by simp [nearS]; omega
        have hr := HN.out.2 hs2
        subst hr
        clear hs2 a0 HN
        go_wp2_with (fail)
        go_ret
        exact ⟨rfl, below_al hb _⟩
      have d0 : decide (s.wd < 0) = false := by simp; omega
      by_cases a1 : 268435456 < s.wd
      · have d1 : decide (268435456 < s.wd) = true := by simp; omega
        have hs2 : nearS s = false := by simp [nearS]; omega
        have hr := HN.out.2 hs2
        subst hr
        clear hs2 a1 HN
        go_wp2_with (fail)
        go_ret
        exact ⟨rfl, below_al hb _⟩
      have d1 : decide (268435456 < s.wd) = false := by simp; omega
      by_cases a2 : s.up < 0
      · have d2 : decide (s.up < 0) = true := by simp; omega
        have hs2 : nearS s = false := by simp [nearS]; omega
        have hr := HN.out.2 hs2
        subst hr
        clear hs2 a2 HN
        go_wp2_with (fail)
        go_ret
        exact ⟨rfl, below_al hb _⟩
      have d2 : decide (s.up < 0) = false := by simp; omega
      by_cases a3 : 268435456 < s.up
      · have d3 : decide (268435456 < s.up) = true := by simp; omega
        have hs2 : nearS s = false := by simp [nearS]; omega
        have hr := HN.out.2 hs2
        subst hr
        clear hs2 a3 HN
        go_wp2_with (fail)
        go_ret
        exact ⟨rfl, below_al hb _⟩
      have d3 : decide (268435456 < s.up) = false := by simp; omega
      by_cases a4 : s.dn < 0
      · have d4 : decide (s.dn < 0) = true := by simp; omega
        have hs2 : nearS s = false := by simp [nearS]; omega
        have hr := HN.out.2 hs2
        subst hr
        clear hs2 a4 HN
        go_wp2_with (fail)
        go_ret
        exact ⟨rfl, below_al hb _⟩
      have d4 : decide (s.dn < 0) = false := by simp; omega
      by_cases a5 : 268435456 < s.dn
      · have d5 : decide (268435456 < s.dn) = true := by simp; omega
        have hs2 : nearS s = false := by simp [nearS]; omega
        have hr := HN.out.2 hs2
        subst hr
        clear hs2 a5 HN
        go_wp2_with (fail)
        go_ret
        exact ⟨rfl, below_al hb _⟩
      have d5 : decide (268435456 < s.dn) = false := by simp; omega
      by_cases a6 : 2 < s.al
      · have d6 : decide ((2 : Int) < (s.al : Int)) = true := by simp; omega
        have hs2 : nearS s = false := by simp [nearS]; omega
        have hr := HN.out.2 hs2
        subst hr
        clear hs2 a6 HN
        go_wp2_with (fail)
        go_ret
        exact ⟨rfl, below_al hb _⟩
      have d6 : decide ((2 : Int) < (s.al : Int)) = false := by simp; omega
      have hs2 : nearS s = true := by simp [nearS]; omega
      have hn := HN.out.1 hs2
      clear hs2 HN a0 a1 a2 a3 a4 a5 a6
      go_wp2_with (fail)
      go_roundw
      case rel => exact ⟨k + 1, by omega, by go_num, hn, below_al hb _⟩
      case measure => simp [intOf]; omega
    · have hkk : k = l.length := by omega
      subst hkk
      rw [List.take_length] at hall
      have hT2 : T = true := by rw [← hT]; exact hall
      subst hT2
      clear hall hT
      go_wp2_with (fail)
      go_ret
      exact ⟨rfl, hb⟩
end Go.Proofs.Ytdhjgflkincapaa
