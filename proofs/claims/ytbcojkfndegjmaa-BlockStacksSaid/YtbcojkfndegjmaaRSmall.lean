/- Contracts: what the reference's Stack calls: Fits, All, Same of lists, join of two. -/
import Derived.Test.YtbcojkfndegjmaaLaw14
import Derived.Test.YtbcojkfndegjmaaMJoins
namespace Go.Proofs.Ytbcojkfndegjmaa
open Go.RowKit
set_option linter.unusedVariables false
attribute [local go_sem ↓] run_max run_min

theorem rfit_val (n : Int) (r : Bool) (hr : fitB n = r) (w : World) : Calls Try.prog 34 #[.int .i64 n] w fun e w' => e = .returned (.bool r) ∧ w = w' := by
  subst hr
  go_enter Try.func34, Try.ntmps34
  go_wp2
  all_goals
    go_ret
    exact ⟨ret_bool (by rw [Bool.eq_iff_iff]; simp [fitB]; try omega), rfl⟩

set_option maxHeartbeats 4000000 in
theorem rall_any (l : List Int) (A : Option Addr) (n c : Nat) (w : World) (hA : Rd w w.heap.size 1 A n (icells l)) (hn : l.length = n) (hl : n ≤ 4611686018427387904) (r : Bool) (hr : fitsB l = r) :
    Calls Try.prog 33 #[.slice A n c] w fun e w' => e = .returned (.bool r) ∧ w = w' := by
  subst hn
  have HR := hidd hr
  clear hr
  go_enter Try.func33, Try.ntmps33
  go_wp2_with (fail)
  go_loop [3] (fun i => ∃ k : Nat, k ≤ l.length ∧ i = .int .i64 k ∧ fitsB (l.take k) = true)
    (fun i => l.length - (intOf i).toNat)
  case atStart => exact ⟨0, Nat.zero_le _, rfl, by simp [fitsB]⟩
  case round =>
    obtain ⟨k, hk, rfl, hall⟩ := hrel
    by_cases hlt : k < l.length
    · obtain ⟨b, off, rfl, hbB, hc⟩ := hA.2 (by omega)
      have hx := hc k _ (flat1 l k hlt)
      have hst := fits_take l k hlt
      rw [hall, Bool.true_and] at hst
      have hbad := fits_false l k hlt
      rw [HR.out] at hbad
      obtain ⟨x, hxe⟩ : ∃ x, l[k] = x := ⟨_, rfl⟩
      rw [hxe] at hx hst hbad
      obtain ⟨q, hq⟩ : ∃ q, fitB x = q := ⟨_, rfl⟩
      rw [hq] at hst hbad
      have HQ := hidd hq
      have HS := hidd hst
      have HB := hidd hbad
      have k0 : (0 : Int) ≤ (k : Int) := Int.natCast_nonneg _
      have k1 : (k : Int) < (l.length : Int) := by omega
      clear hc hA hxe hall hst hbad hq
      go_wp2_with (fail)
      refine (rfit_val x q HQ.out _).mono ?_
      rintro e w' ⟨rfl, rfl⟩
      cases q with
      | false =>
        have hrf := HB.out rfl
        subst hrf
        clear HB
        go_wp2_with (fail)
        go_ret
        exact ⟨rfl, rfl⟩
      | true =>
        clear HB
        go_wp2_with (fail)
        go_round
        case rel => exact ⟨k + 1, by omega, by go_num, HS.out⟩
        case measure => simp [intOf]; omega
    · have hkk : k = l.length := by omega
      subst hkk
      rw [List.take_length, HR.out] at hall
      subst hall
      go_wp2_with (fail)
      go_ret
      exact ⟨rfl, rfl⟩

set_option maxHeartbeats 4000000 in
theorem rsame_yes (l : List Int) (A B : Option Addr) (n c1 c2 : Nat) (w : World) (hn : l.length = n) (hA : Rd w w.heap.size 1 A n (icells l)) (hB : Rd w w.heap.size 1 B n (icells l)) (hl : n ≤ 4611686018427387904) :
    Calls Try.prog 39 #[.slice A n c1, .slice B n c2] w fun e w' => e = .returned (.bool true) ∧ Below w.heap.size w w' := by
  subst hn
  have hne : ((l.length : Int) != (l.length : Int)) = false := by simp
  go_enter Try.func39, Try.ntmps39
  go_wp2_with (fail)
  clear hne
  go_loopw [5] (fun i wx => ∃ k : Nat, k ≤ l.length ∧ i = .int .i64 k ∧ Below w.heap.size w wx)
    (fun i _ => l.length - (intOf i).toNat)
  case atStart => exact ⟨0, Nat.zero_le _, rfl, Below.refl _ _⟩
  case round =>
    obtain ⟨k, hk, rfl, hb⟩ := hrel
    by_cases hlt : k < l.length
    · obtain ⟨b, off, rfl, hbB, hc⟩ := hA.2 (by omega)
      obtain ⟨b2, off2, rfl, hbB2, hc2⟩ := hB.2 (by omega)
      have hx := (hb.cell (p := ⟨b, off + k, none⟩) hbB).trans (hc k _ (flat1 l k hlt))
      have hy := (hb.cell (p := ⟨b2, off2 + k, none⟩) hbB2).trans (hc2 k _ (flat1 l k hlt))
      obtain ⟨x, hxe⟩ : ∃ x, l[k] = x := ⟨_, rfl⟩
      rw [hxe] at hx hy
      have hxx : (x != x) = false := by simp
      have k0 : (0 : Int) ≤ (k : Int) := Int.natCast_nonneg _
      have k1 : (k : Int) < (l.length : Int) := by omega
      clear hc hc2 hA hB hxe
      go_wp2_with (fail)
      go_quiet (fail)
      go_wp2_with (fail)
      go_roundw
      case rel => exact ⟨k + 1, by omega, by go_num, below_drewN hb _⟩
      case measure => simp [intOf]; omega
    · have hkk : k = l.length := by omega
      subst hkk
      go_wp2_with (fail)
      go_ret
      exact ⟨rfl, hb⟩

theorem rjoin_blk (l : List Mg) (u d : Int) (g n c : Nat) (cs : Array Value) (w : World) (hb : Blk w g 24 cs) (hcs : cs = (mcells l).toArray) (hn : l.length = n) (hu : mJoin l = ⟨u, d⟩) (hl : n ≤ 4611686018427387904) :
    Calls Try.prog 15 #[.slice (some ⟨g, 0, none⟩) n c] w fun e w' => e = .returned (.agg #[.int .i64 u, .int .i64 d]) ∧ Below w.heap.size w w' := by
  subst hcs
  subst hn
  have h := rjoin_any l (some ⟨g, 0, none⟩) c w ⟨mcells_length l, fun _ => ⟨g, 0, rfl, hb.lt, fun j x hx => by rw [hb.cell (0 + j)]; simpa using hx⟩⟩ hl
  rw [hu] at h
  exact h
set_option maxHeartbeats 2000000 in
theorem rjoin2_val (au ad bu bd u d : Int) (h : mj ⟨au, ad⟩ ⟨bu, bd⟩ = ⟨u, d⟩) (w : World) :
    Calls Try.prog 32 #[.agg #[.int .i64 au, .int .i64 ad], .agg #[.int .i64 bu, .int .i64 bd]] w fun e w' => e = .returned (.agg #[.int .i64 u, .int .i64 d]) ∧ Below w.heap.size w w' := by
  have HJ : Hid (mJoin [⟨au, ad⟩, ⟨bu, bd⟩] = ⟨u, d⟩) := h
  clear h
  have g4 := Blk.new ((w.alloc (.cells #[.int .i64 au, .int .i64 ad] 24)).alloc (.cells #[.int .i64 bu, .int .i64 bd] 24)) 24 #[.int .i64 0, .int .i64 0]
  have hb0 := below_al (below_al (below_al (Below.refl w.heap.size w) (.cells #[.int .i64 au, .int .i64 ad] 24)) (.cells #[.int .i64 bu, .int .i64 bd] 24)) (.cells #[.int .i64 0, .int .i64 0] 24)
  simp only [World.size_alloc] at g4
  go_enter Try.func32, Try.ntmps32
  go_wp2_with (fail)
  have g5 := Blk.new (((w.alloc (.cells #[.int .i64 au, .int .i64 ad] 24)).alloc (.cells #[.int .i64 bu, .int .i64 bd] 24)).alloc (.cells #[.int .i64 0, .int .i64 0] 24)) 24 #[.int .i64 au, .int .i64 ad, .int .i64 bu, .int .i64 bd]
  simp only [World.size_alloc] at g5
  have hb1 := below_al hb0 (.cells #[.int .i64 au, .int .i64 ad, .int .i64 bu, .int .i64 bd] 24)
  have g4' := g4.alloc (.cells #[.int .i64 au, .int .i64 ad, .int .i64 bu, .int .i64 bd] 24)
  refine (rjoin_blk [⟨au, ad⟩, ⟨bu, bd⟩] u d (w.heap.size + 1 + 1 + 1) 2 2 _ _ g5 rfl rfl HJ.out (by decide)).mono ?_
  rintro e w1 ⟨rfl, hb2⟩
  have g6 := g4'.below hb2 g4'.lt
  have hB := below_step hb1 hb2
  have f6 := g6.frozen
  have c0 := g6.cell 0
  have c1 := g6.cell 1
  simp at c0 c1
  clear g5 g4' hb0 hb1 hb2 g4
  go_wp2_with (fail)
  refine bodyPost_ret (v := .agg #[.int .i64 u, .int .i64 d]) (by simp [results, Try.results32, go_sem, c0, c1]) rfl ⟨rfl, ?_⟩
  exact (hB.setCell (by simp; omega) _).setCell (by simp; omega) _
end Go.Proofs.Ytbcojkfndegjmaa
