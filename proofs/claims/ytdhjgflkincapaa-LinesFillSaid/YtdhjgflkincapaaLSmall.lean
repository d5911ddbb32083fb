/- Contracts: what the laws of chapter 10 call: solid, great, Widest, told. -/
import Derived.Test.YtdhjgflkincapaaLFill
namespace Go.Proofs.Ytdhjgflkincapaa
open Go.RowKit
set_option linter.unusedVariables false
attribute [local go_sem ↓] run_max run_min

def solidK (x : It) : Bool := (x.kd == 0) || (x.kd == 3)
set_option maxHeartbeats 1000000 in
theorem solid_val (kd wd : Int) (r : Bool) (hr : solidK ⟨kd, wd⟩ = r) (w : World) : Calls Try.prog 16 #[.agg #[.int .u8 kd, .int .i64 wd]] w fun e w' => e = .returned (.bool r) ∧ Below w.heap.size w w' := by
  subst hr
  have hb := below_al (Below.refl w.heap.size w) (.cells #[.int .u8 kd, .int .i64 wd] 27)
  unfold solidK
  by_cases h0 : kd = 0
  · subst h0
    go_enter Try.func16, Try.ntmps16
    go_wp2
    go_ret
    exact ⟨rfl, hb⟩
  · have d0 : (kd == 0) = false := by simpa using h0
    go_enter Try.func16, Try.ntmps16
    go_wp2
    go_ret
    exact ⟨ret_bool (by simp [d0]), hb⟩

/-- items more than are gone through, or with widths such as are refused -/
def nearI (l : List It) : Bool := l.all fun x => decide (x.kd ≤ 3) && decide (-1073741824 ≤ x.wd) && decide (x.wd ≤ 1073741824)
def greatF (l : List It) (W : Int) : Bool := decide (500 < l.length) || decide (W < 0) || decide (1099511627776 < W) || !nearI l
theorem near_step (l : List It) (k : Nat) (h : k < l.length) : nearI (l.take (k + 1)) = (nearI (l.take k) && (decide (l[k].kd ≤ 3) && decide (-1073741824 ≤ l[k].wd) && decide (l[k].wd ≤ 1073741824))) := by
  unfold nearI; rw [take_snoc l k h, List.all_append]; simp
theorem near_bad (l : List It) (k : Nat) (h : k < l.length) (hk : (decide (l[k].kd ≤ 3) && decide (-1073741824 ≤ l[k].wd) && decide (l[k].wd ≤ 1073741824)) = false) : nearI l = false := by
  rw [Bool.eq_false_iff]
  intro hh
  have := List.all_eq_true.1 hh l[k] (List.getElem_mem _)
  rw [hk] at this
  cases this
set_option maxRecDepth 100000 in
set_option maxHeartbeats 4000000 in
theorem great_any (l : List It) (W : Int) (A : Option Addr) (cap : Nat) (w : World) (hR : Rd w w.heap.size 2 A l.length (tcells l)) (r : Bool) (hr : greatF l W = r) :
    Calls Try.prog 15 #[.slice A l.length cap, .int .i64 W] w fun e w' => e = .returned (.bool r) ∧ w = w' := by
  by_cases h1 : 500 < l.length
  · have d1 : decide ((500 : Int) < (l.length : Int)) = true := by simp; omega
    have hrt : r = true := by rw [← hr]; simp [greatF, h1]
    subst hrt
    clear hr hR h1
    go_enter Try.func15, Try.ntmps15
    go_wp2_with (fail)
    go_ret
    exact ⟨rfl, rfl⟩
  have d1 : decide ((500 : Int) < (l.length : Int)) = false := by simp; omega
  by_cases h2 : W < 0
  · have d2 : decide (W < 0) = true := by simpa using h2
    have hrt : r = true := by rw [← hr]; simp [greatF, h2]
    subst hrt
    clear hr hR h1 h2
    go_enter Try.func15, Try.ntmps15
    go_wp2_with (fail)
    go_ret
    exact ⟨rfl, rfl⟩
  have d2 : decide (W < 0) = false := by simpa using h2
  by_cases h3 : 1099511627776 < W
  · have d3 : decide (1099511627776 < W) = true := by simpa using h3
    have hrt : r = true := by rw [← hr]; simp [greatF, h3]
    subst hrt
    clear hr hR h1 h2 h3
    go_enter Try.func15, Try.ntmps15
    go_wp2_with (fail)
    go_ret
    exact ⟨rfl, rfl⟩
  have d3 : decide (1099511627776 < W) = false := by simpa using h3
  have hrn : nearI l = !r := by
    rw [← hr]
    have d4 : decide (500 < l.length) = false := by simpa using h1
    simp only [greatF, d2, d3, d4, Bool.false_or, Bool.not_not]
  have HR := hidd hrn
  have hl : l.length ≤ 500 := by omega
  clear hr hrn h1 h2 h3
  go_enter Try.func15, Try.ntmps15
  go_wp2_with (fail)
  go_loop [5] (fun i => ∃ k : Nat, k ≤ l.length ∧ i = .int .i64 k ∧ nearI (l.take k) = true)
    (fun i => l.length - (intOf i).toNat)
  case atStart => exact ⟨0, Nat.zero_le _, rfl, by simp [nearI]⟩
  case round =>
    obtain ⟨k, hk, rfl, hall⟩ := hrel
    by_cases hlt : k < l.length
    · obtain ⟨b, off, rfl, hbB, hc⟩ := hR.2 (by omega)
      have hx0 := hc _ _ (tcell l k 0 hlt (by omega))
      have hx1 := hc _ _ (tcell l k 1 hlt (by omega))
      have hs1 := near_step l k hlt
      have hs2 := near_bad l k hlt
      rw [hall, Bool.true_and] at hs1
      rw [HR.out] at hs2
      obtain ⟨s, hs⟩ : ∃ s, l[k] = s := ⟨_, rfl⟩
      rw [hs] at hx0 hx1 hs1 hs2
      obtain ⟨kd, wd⟩ := s
      simp only [← Nat.add_assoc, Nat.add_zero] at hx0 hx1
      simp only at hs1 hs2
      have k0 : (0 : Int) ≤ (k : Int) := Int.natCast_nonneg _
      have k1 : (k : Int) < (l.length : Int) := by omega
      have HS := hidd (And.intro hs1 hs2)
      clear hc hR hs hs1 hs2 hall
      by_cases c1 : 3 < kd
      · have e1 : decide (3 < kd) = true := by simpa using c1
        have hrt : r = true := by
          have := HS.out.2 (by simp; omega)
          simpa using this
        subst hrt
        clear HS c1
        go_wp2_with (fail)
        go_ret
        exact ⟨rfl, rfl⟩
      have e1 : decide (3 < kd) = false := by simpa using c1
      by_cases c2 : wd < -1073741824
      · have e2 : decide (wd < -1073741824) = true := by simpa using c2
        have hrt : r = true := by
          have := HS.out.2 (by simp; omega)
          simpa using this
        subst hrt
        clear HS c1 c2
        go_wp2_with (fail)
        go_ret
        exact ⟨rfl, rfl⟩
      have e2 : decide (wd < -1073741824) = false := by simpa using c2
      by_cases c3 : 1073741824 < wd
      · have e3 : decide (1073741824 < wd) = true := by simpa using c3
        have hrt : r = true := by
          have := HS.out.2 (by simp; omega)
          simpa using this
        subst hrt
        clear HS c1 c2 c3
        go_wp2_with (fail)
        go_ret
        exact ⟨rfl, rfl⟩
      have e3 : decide (1073741824 < wd) = false := by simpa using c3
      have HN : Hid (nearI (l.take (k + 1)) = true) := by rw [HS.out.1]; simp [Hid]; omega
      clear HS c1 c2 c3
      go_wp2_with (fail)
      go_round
      case rel => exact ⟨k + 1, by omega, by go_num, HN.out⟩
      case measure => simp [intOf]; omega
    · have hkk : k = l.length := by omega
      subst hkk
      rw [List.take_length, HR.out] at hall
      have hrf : r = false := by simpa using hall
      subst hrf
      clear hall
      go_wp2_with (fail)
      go_ret
      exact ⟨rfl, rfl⟩

def widF (l : List Ln) : Int := l.foldl (fun n x => max n x.wd) 0
theorem widF_snoc (l : List Ln) (x : Ln) : widF (l ++ [x]) = max (widF l) x.wd := by simp [widF, List.foldl_append]
set_option maxRecDepth 100000 in
set_option maxHeartbeats 4000000 in
theorem widest_any (l : List Ln) (A : Option Addr) (n c : Nat) (w : World) (hR : Rd w w.heap.size 3 A n (lcells l)) (hn : l.length = n) (hl : n ≤ 4096) (v : Int) (hv : widF l = v) :
    Calls Try.prog 21 #[.slice A n c] w fun e w' => e = .returned (.int .i64 v) ∧ Below w.heap.size w w' := by
  subst hn
  have HV := hidd hv
  clear hv
  go_enter Try.func21, Try.ntmps21
  go_wp2_with (fail)
  go_loopw [3, 8] (fun m i wx => ∃ (k : Nat) (x : Int), k ≤ l.length ∧ i = .int .i64 k ∧ m = .int .i64 x ∧ Hid (widF (l.take k) = x) ∧ Below w.heap.size w wx)
    (fun _ i _ => l.length - (intOf i).toNat)
  case atStart => exact ⟨0, 0, Nat.zero_le _, rfl, rfl, rfl, Below.refl _ _⟩
  case round =>
    obtain ⟨k, x, hk, rfl, rfl, HX, hb⟩ := hrel
    by_cases hlt : k < l.length
    · obtain ⟨b, off, rfl, hbB, hc⟩ := hR.2 (by omega)
      have hx0 := (hb.cell (p := ⟨b, off + (k * 3 + 0), none⟩) hbB).trans (hc _ _ (lcell l k 0 hlt (by omega)))
      have hx1 := (hb.cell (p := ⟨b, off + (k * 3 + 1), none⟩) hbB).trans (hc _ _ (lcell l k 1 hlt (by omega)))
      have hx2 := (hb.cell (p := ⟨b, off + (k * 3 + 2), none⟩) hbB).trans (hc _ _ (lcell l k 2 hlt (by omega)))
      have hs := widF_snoc (l.take k) l[k]
      rw [← take_snoc l k hlt, HX.out] at hs
      obtain ⟨s, hsx⟩ : ∃ s, l[k] = s := ⟨_, rfl⟩
      rw [hsx] at hx0 hx1 hx2 hs
      obtain ⟨fr, en, wd⟩ := s
      simp only [← Nat.add_assoc, Nat.add_zero] at hx0 hx1 hx2
      simp only at hs
      have HS := hidd hs
      have hB := below_al hb (.cells #[.int .i64 (fr : Int), .int .i64 (en : Int), .int .i64 wd] 33)
      have k0 : (0 : Int) ≤ (k : Int) := Int.natCast_nonneg _
      have k1 : (k : Int) < (l.length : Int) := by omega
      have hbW := Nat.lt_of_lt_of_le hbB hb.size
      clear hc hR hsx hs HX
      go_wp2_with (fail)
      go_roundw
      case rel => exact ⟨k + 1, _, by omega, by go_num, rfl, HS, hB⟩
      case measure => simp [intOf]; omega
    · have hkk : k = l.length := by omega
      subst hkk
      have hxv : x = v := by rw [← HX.out, ← HV.out, List.take_length]
      subst hxv
      go_wp2_with (fail)
      go_ret
      exact ⟨rfl, hb⟩

set_option maxRecDepth 100000 in
set_option maxHeartbeats 4000000 in
theorem told_yes (l : List Ln) (A B : Option Addr) (n m c c2 : Nat) (w : World) (hR : Rd w w.heap.size 3 A n (lcells l)) (hn : l.length = n) (hl : n ≤ 4096) (hW : Rd w w.heap.size 1 B m (lcells l)) (hm : 3 * n = m) :
    Calls Try.prog 30 #[.slice A n c, .int .i64 0, .slice B m c2] w fun e w' => e = .returned (.bool true) ∧ Below w.heap.size w w' := by
  subst hn
  have hw0 : IntKind.i64.wrap (3 * (l.length : Int)) = (m : Int) := by rw [IntWalk.i64_in _ ⟨by omega, by omega⟩]; omega
  have hw0' : wrap64 (3 * (l.length : Int)) = (m : Int) := by rw [IntWalk.wrap64_in _ ⟨by omega, by omega⟩]; omega
  have hm0 : 3 * (l.length : Int) = (m : Int) := by omega
  have hne : ((m : Int) != (m : Int)) = false := by simp
  have HM := hidd hm
  clear hm
  go_enter Try.func30, Try.ntmps30
  go_wp2_with (fail)
  clear hw0 hw0' hne hm0
  go_loopw [7] (fun i wx => ∃ k : Nat, k ≤ l.length ∧ i = .int .i64 k ∧ Below w.heap.size w wx)
    (fun i _ => l.length - (intOf i).toNat)
  case atStart => exact ⟨0, Nat.zero_le _, rfl, Below.refl _ _⟩
  case round =>
    obtain ⟨k, hk, rfl, hb⟩ := hrel
    by_cases hlt : k < l.length
    · have hmm := HM.out
      obtain ⟨b, off, rfl, hbB, hc⟩ := hR.2 (by omega)
      obtain ⟨b2, off2, rfl, hbB2, hc2⟩ := hW.2 (by omega)
      have hx0 := (hb.cell (p := ⟨b, off + (k * 3 + 0), none⟩) hbB).trans (hc _ _ (lcell l k 0 hlt (by omega)))
      have hx1 := (hb.cell (p := ⟨b, off + (k * 3 + 1), none⟩) hbB).trans (hc _ _ (lcell l k 1 hlt (by omega)))
      have hx2 := (hb.cell (p := ⟨b, off + (k * 3 + 2), none⟩) hbB).trans (hc _ _ (lcell l k 2 hlt (by omega)))
      have hy0 := (hb.cell (p := ⟨b2, off2 + (k * 3 + 0), none⟩) hbB2).trans (hc2 _ _ (lcell l k 0 hlt (by omega)))
      have hy1 := (hb.cell (p := ⟨b2, off2 + (k * 3 + 1), none⟩) hbB2).trans (hc2 _ _ (lcell l k 1 hlt (by omega)))
      have hy2 := (hb.cell (p := ⟨b2, off2 + (k * 3 + 2), none⟩) hbB2).trans (hc2 _ _ (lcell l k 2 hlt (by omega)))
      obtain ⟨s, hsx⟩ : ∃ s, l[k] = s := ⟨_, rfl⟩
      rw [hsx] at hx0 hx1 hx2 hy0 hy1 hy2
      obtain ⟨fr, en, wd⟩ := s
      obtain ⟨j, hj⟩ : ∃ j, k * 3 = j := ⟨_, rfl⟩
      rw [hj] at hy0 hy1 hy2
      simp only [← Nat.add_assoc, Nat.add_zero] at hx0 hx1 hx2
      rw [Nat.add_zero] at hy0
      have q0 : 3 * (k : Int) = (j : Int) := by omega
      have q1 : IntKind.i64.wrap (j : Int) = (j : Int) := IntWalk.i64_in _ ⟨by omega, by omega⟩
      have k0 : (0 : Int) ≤ (k : Int) := Int.natCast_nonneg _
      have k1 : (k : Int) < (l.length : Int) := by omega
      have j0 : (0 : Int) ≤ (j : Int) := Int.natCast_nonneg _
      have j1 : (j : Int) + 2 < (m : Int) := by omega
      have q2 : IntKind.i64.wrap ((j : Int) + 1) = (j : Int) + 1 := IntWalk.i64_in _ ⟨by omega, by omega⟩
      have q3 : IntKind.i64.wrap ((j : Int) + 2) = (j : Int) + 2 := IntWalk.i64_in _ ⟨by omega, by omega⟩
      have j2 : (0 : Int) ≤ (j : Int) + 1 := by omega
      have j3 : (0 : Int) ≤ (j : Int) + 2 := by omega
      have j4 : (j : Int) < (m : Int) := by omega
      have j5 : (j : Int) + 1 < (m : Int) := by omega
      have t1 : ((j : Int) + 1).toNat = j + 1 := by omega
      have t2 : ((j : Int) + 2).toNat = j + 2 := by omega
      have hbW := Nat.lt_of_lt_of_le hbB hb.size
      have hbW2 := Nat.lt_of_lt_of_le hbB2 hb.size
      clear hc hc2 hR hW hsx hj hmm
      go_wp2_with (fail)
      go_quiet (fail)
      go_wp2_with (fail)
      clear q0 q1 q2 q3 t1 t2
      go_roundw
      case rel => exact ⟨k + 1, by omega, by go_num, below_drewN hb _⟩
      case measure => simp [intOf]; omega
    · have hkk : k = l.length := by omega
      subst hkk
      go_wp2_with (fail)
      go_ret
      exact ⟨rfl, hb⟩
end Go.Proofs.Ytdhjgflkincapaa
