/- Contracts of the margin functions: Join, May, Value, and the document's own. -/
import Derived.Test.YtbcojkfndegjmaaMargin
import Derived.Deep.QuietTactic
import Derived.BigQuiet
namespace Go.Proofs.Ytbcojkfndegjmaa
open Go.RowKit
attribute [local go_sem ↓] run_max run_min

set_option maxHeartbeats 400000 in
theorem join_any (l : List Mg) (A : Option Addr) (cap : Nat) (w : World) (hR : Rd w w.heap.size 2 A l.length (mcells l)) (hl : l.length ≤ 4611686018427387904) :
    Calls Try.prog 14 #[.slice A l.length cap] w fun e w' => e = .returned (.agg #[.int .i64 (mJoin l).up, .int .i64 (mJoin l).dn]) ∧ Below w.heap.size w w' := by
  have hR2 : ∀ o, Rd (w.alloc o) (w.alloc o).heap.size 2 A l.length (mcells l) := fun o => (hR.below ((Below.refl _ _).alloc (Nat.le_refl _) o)).more (by simp)
  clear hR
  go_enter Try.func14, Try.ntmps14
  go_wp2_with (go_at_call 29; refine (folded_any l A cap _ (hR2 _) hl).mono ?_; rintro e w' ⟨rfl, hb⟩; have hk := (Blk.new w 24 #[.int .i64 0, .int .i64 0]).below hb (by simp); have hk0 := hk.cell 0; have hk1 := hk.cell 1; have hkf := hk.frozen; simp at hk0 hk1)
  have hB := ((Below.refl w.heap.size w).alloc (Nat.le_refl _) (.cells #[.int .i64 0, .int .i64 0] 24)).trans (hb.mono (by simp))
  exact bodyPost_ret (v := .agg #[.int .i64 (mJoin l).up, .int .i64 (mJoin l).dn]) (by simp [results, Try.results14, go_sem, hk0, hk1]) rfl
    ⟨rfl, (hB.setCell (by simp) _).setCell (by simp) _⟩

set_option maxHeartbeats 400000 in
theorem may_any (m : Mg) (w : World) :
    Calls Try.prog 16 #[.agg #[.int .i64 m.up, .int .i64 m.dn]] w fun e w' => e = .returned (.bool (mayB m)) ∧ Below w.heap.size w w' := by
  go_enter Try.func16, Try.ntmps16
  go_wp2
  all_goals
    go_ret
    exact ⟨ret_bool (by rw [Bool.eq_iff_iff, mayB_iff]; simp; try omega), (Below.refl _ _).alloc (Nat.le_refl _) _⟩

set_option maxHeartbeats 400000 in
theorem rmay_any (m : Mg) (w : World) :
    Calls Try.prog 17 #[.agg #[.int .i64 m.up, .int .i64 m.dn]] w fun e w' => e = .returned (.bool (mayB m)) ∧ Below w.heap.size w w' := by
  go_enter Try.func17, Try.ntmps17
  go_wp2
  all_goals
    go_ret
    exact ⟨ret_bool (by rw [Bool.eq_iff_iff, mayB_iff]; simp; try omega), (Below.refl _ _).alloc (Nat.le_refl _) _⟩

set_option maxHeartbeats 400000 in
theorem value_any (m : Mg) (w : World) :
    Calls Try.prog 20 #[.agg #[.int .i64 m.up, .int .i64 m.dn]] w fun e w' => e = .returned (.int .i64 (wrap64 (m.up + m.dn))) ∧ Below w.heap.size w w' := by
  go_enter Try.func20, Try.ntmps20
  go_wp2
  go_ret
  exact ⟨rfl, (Below.refl _ _).alloc (Nat.le_refl _) _⟩

set_option maxHeartbeats 400000 in
theorem rvalue_any (m : Mg) (w : World) :
    Calls Try.prog 21 #[.agg #[.int .i64 m.up, .int .i64 m.dn]] w fun e w' => e = .returned (.int .i64 (wrap64 (m.up + m.dn))) ∧ Below w.heap.size w w' := by
  go_enter Try.func21, Try.ntmps21
  go_wp2
  go_ret
  exact ⟨rfl, (Below.refl _ _).alloc (Nat.le_refl _) _⟩

set_option maxHeartbeats 400000 in
theorem rone_any (n : Int) (w : World) :
    Calls Try.prog 19 #[.int .i64 n] w fun e w' => e = .returned (.agg #[.int .i64 (max n 0), .int .i64 (min n 0)]) ∧ Below w.heap.size w w' := by
  by_cases h : 0 < n
  · have h1 : max n 0 = n := by omega
    have h2 : min n 0 = 0 := by omega
    rw [h1, h2]
    clear h1 h2
    go_enter Try.func19, Try.ntmps19
    go_wp2
    exact bodyPost_ret (v := .agg #[.int .i64 n, .int .i64 0]) (by simp [results, Try.results19, go_sem]) rfl ⟨rfl, (Below.refl _ _).alloc (Nat.le_refl _) _⟩
  · have h1 : max n 0 = 0 := by omega
    have h2 : min n 0 = n := by omega
    rw [h1, h2]
    clear h1 h2
    go_enter Try.func19, Try.ntmps19
    go_wp2
    exact bodyPost_ret (v := .agg #[.int .i64 0, .int .i64 n]) (by simp [results, Try.results19, go_sem]) rfl ⟨rfl, (Below.refl _ _).alloc (Nat.le_refl _) _⟩

set_option maxHeartbeats 400000 in
theorem rjoin_nil (A : Option Addr) (cap : Nat) (w : World) :
    Calls Try.prog 15 #[.slice A 0 cap] w fun e w' => e = .returned (.agg #[.int .i64 0, .int .i64 0]) ∧ Below w.heap.size w w' := by
  go_enter Try.func15, Try.ntmps15
  go_wp2
  exact bodyPost_ret (v := .agg #[.int .i64 0, .int .i64 0]) (by simp [results, Try.results15, go_sem]) rfl
    ⟨rfl, (Below.refl _ _).alloc (Nat.le_refl _) _⟩

set_option maxHeartbeats 800000 in
theorem rjoin_some (l : List Mg) (A : Option Addr) (cap : Nat) (w : World) (hR : Rd w w.heap.size 2 A l.length (mcells l)) (hl : l.length ≤ 4611686018427387904) (h0 : 0 < l.length) :
    Calls Try.prog 15 #[.slice A l.length cap] w fun e w' => e = .returned (.agg #[.int .i64 (mJoin l).up, .int .i64 (mJoin l).dn]) ∧ Below w.heap.size w w' := by
  obtain ⟨b, off, rfl, hbB, hc⟩ := hR.2 h0
  have hx0 := hc _ _ (mcells_up l 0 h0)
  have hx1 := hc _ _ (mcells_dn l 0 h0)
  rw [Nat.zero_mul, Nat.add_zero] at hx0
  rw [Nat.zero_mul, Nat.zero_add] at hx1
  have hne : ((l.length : Int) == 0) = false := by rw [beq_eq_false_iff_ne]; omega
  clear hR
  have HC := hidd hc
  clear hc
  go_enter Try.func15, Try.ntmps15
  go_wp2
  clear hx0 hx1
  go_loopw [4] (fun i wr => ∃ k : Nat, 1 ≤ k ∧ k ≤ l.length ∧ i = .int .i64 k ∧ Blk wr (w.heap.size + 1) 24 #[.int .i64 (mJoin (l.take k)).up, .int .i64 (mJoin (l.take k)).dn] ∧ Blk wr w.heap.size 24 #[.int .i64 0, .int .i64 0] ∧ Below w.heap.size w wr)
    (fun i _ => l.length - (intOf i).toNat)
  case atStart =>
    have hz : w.heap.size ≤ (w.alloc (.cells #[.int .i64 0, .int .i64 0] 24)).heap.size := by simp
    refine ⟨1, Nat.le_refl _, by omega, rfl, ?_, (Blk.new _ 24 _).alloc _, ((Below.refl _ _).alloc (Nat.le_refl _) (.cells #[.int .i64 0, .int .i64 0] 24)).alloc hz _⟩
    have hj : mJoin (l.take 1) = l[0] := by
      cases l with
      | nil => simp at h0
      | cons y r => rfl
    rw [hj]
    simpa using Blk.new (w.alloc (.cells #[.int .i64 0, .int .i64 0] 24)) 24 #[.int .i64 l[0].up, .int .i64 l[0].dn]
  case round =>
    obtain ⟨k, hk1, hk, rfl, hm, hr, hb⟩ := hrel
    have hm0 := hm.cell 0
    have hm1 := hm.cell 1
    have hmf := hm.frozen
    have hr0 := hr.cell 0
    have hr1 := hr.cell 1
    have hrf := hr.frozen
    have hlt1 := hm.lt
    simp at hm0 hm1 hr0 hr1
    by_cases hlt : k < l.length
    · have hx0 := (hb.cell (p := ⟨b, off + k * 2, none⟩) hbB).trans (HC.out _ _ (mcells_up l k hlt))
      have hx1 := (hb.cell (p := ⟨b, off + (k * 2 + 1), none⟩) hbB).trans (HC.out _ _ (mcells_dn l k hlt))
      rw [← Nat.add_assoc] at hx1
      have hj : mJoin (l.take (k + 1)) = mj (mJoin (l.take k)) l[k] := by
        rw [List.take_succ_eq_append_getElem hlt, mJoin_snoc _ _ (by intro h; rw [List.take_eq_nil_iff] at h; rcases h with h | h <;> simp_all)]
      have HJ := hidd hj
      clear hj
      go_wp2
      go_quiet (fail)
      go_wp2
      all_goals
        go_quiet (fail)
        go_wp2
        all_goals
          go_roundw
          case rel =>
            refine ⟨k + 1, by omega, by omega, by go_num, ?_, ?_, ?_⟩
            · rw [HJ.out]
              first
              | with_reducible exact Blk.to ((((hm.drewN _).set_ 0 _).drewN _).set_ 1 _) (by simp [mj]; omega)
              | with_reducible exact Blk.to (((hm.drewN _).set_ 0 _).drewN _) (by simp [mj]; omega)
              | with_reducible exact Blk.to ((hm.drewN _).set_ 1 _) (by simp [mj]; omega)
              | with_reducible exact Blk.to (hm.drewN _) (by simp [mj]; omega)
            · repeat first | exact hr | with_reducible refine Blk.drewN ?_ _ | (with_reducible refine Blk.far ?_ (by simp) _)
            · repeat first | exact hb | with_reducible refine below_drewN ?_ _ | (with_reducible refine Below.setCell ?_ (by simp) _)
          case measure => simp [intOf]; omega
    · have hkk : l.take k = l := List.take_of_length_le (by omega)
      rw [hkk] at hm0 hm1
      clear hm hkk
      go_wp2
      exact bodyPost_ret (v := .agg #[.int .i64 (mJoin l).up, .int .i64 (mJoin l).dn]) (by simp [results, Try.results15, go_sem, hr0, hr1]) rfl
        ⟨rfl, (hb.setCell (by simp) _).setCell (by simp) _⟩
end Go.Proofs.Ytbcojkfndegjmaa
