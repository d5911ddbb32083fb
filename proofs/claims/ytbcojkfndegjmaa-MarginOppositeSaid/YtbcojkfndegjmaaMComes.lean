/- MarginComes: the walk. -/
import Derived.Test.YtbcojkfndegjmaaOwn
import Derived.Test.YtbcojkfndegjmaaPlain2
import Derived.OwnWalk
import Derived.BigQuiet
import Derived.Deep.QuietTactic
namespace Go.Proofs.Ytbcojkfndegjmaa
open Go.RowKit
set_option linter.unusedVariables false
attribute [local go_sem ↓] run_max run_min

theorem flat1 (l : List Int) (k : Nat) (h : k < l.length) : (l.flatMap fun n => [Value.int .i64 n])[k]? = some (.int .i64 l[k]) := by
  induction l generalizing k with
  | nil => simp at h
  | cons x r ih =>
    cases k with
    | zero => simp
    | succ k => simpa using ih k (by simpa using h)
def okLen (n : Int) : Bool := decide (n ≤ 1099511627776) && decide (-1099511627776 ≤ n)

set_option maxRecDepth 100000 in
set_option maxHeartbeats 4000000 in
theorem comes_main (l : List Int) (A : Option Addr) (cap : Nat) (w : World) (hR : Rd w w.heap.size 1 A l.length (l.flatMap fun n => [.int .i64 n])) (hl : l.length ≤ 500) :
    Calls Try.prog 5 #[.slice A l.length cap] w fun e w' => e = .returned (.bool true) ∧ Below w.heap.size w w' := by
  obtain ⟨i0, hi, hz0, hz1, hz2⟩ := info_parts info24
  go_enter Try.func5, Try.ntmps5
  go_wp2_with (fail)
  refine (awake13 _).mono ?_; rintro e w1 ⟨rfl, hb1⟩
  have HI := hidd (And.intro hi (And.intro hz0 (And.intro hz1 hz2)))
  clear hi hz0 hz1 hz2
  go_wp2_with (fail)
  go_loopw [3, 4, 5, 6] (fun g s v i wr => ∃ k : Nat, k ≤ l.length ∧ i = .int .i64 k ∧ g = .int .i64 (jn l k).up ∧ s = .int .i64 (jn l k).dn ∧ wr.ownsRow w.heap.size 24 2 v k (mcells ((l.take k).map oneM)) ∧ Below w.heap.size w wr ∧
      (jn l k).up ≤ 1099511627776 ∧ -1099511627776 ≤ (jn l k).dn)
    (fun _ _ _ i _ => l.length - (intOf i).toNat)
  case atStart => exact ⟨0, Nat.zero_le _, rfl, by rw [jn_zero], by rw [jn_zero], World.ownsRow_nil _ _ _ _, hb1, by rw [jn_zero]; simp, by rw [jn_zero]; simp⟩
  case round =>
    obtain ⟨k, hk, rfl, rfl, rfl, hown, hb, hu, hd⟩ := hrel
    obtain ⟨hs1, hs2⟩ := jn_sign l k hk
    by_cases hlt : k < l.length
    · obtain ⟨b, off, rfl, hbB, hc⟩ := hR.2 (by omega)
      have hx := (hb.cell (p := ⟨b, off + k, none⟩) hbB).trans (hc k (.int .i64 l[k]) (by have := flat1 l k hlt; simpa using this))
      have HJ := hidd (jn_step l k hlt hs1 hs2)
      clear hc hR
      by_cases hb1 : l[k] ≤ 1099511627776 ∧ -1099511627776 ≤ l[k]
      · obtain ⟨hb1, hb2⟩ := hb1
        have h30 : decide (1099511627776 < l[k]) = false := by simp; omega
        have h31 : decide (l[k] < -1099511627776) = false := by simp; omega
        go_wp2
        go_quiet (fail)
        have hown1 : (wr.drewN nq).ownsRow w.heap.size 24 2 u5 k (mcells ((l.take k).map oneM)) := hown
        have hbW := below_drewN hb nq
        have hxW : (wr.drewN nq).cell? ⟨b, off + k, none⟩ = some (.int .i64 l[k]) := hx
        clear hown hb hx
        generalize wr.drewN nq = W at hown1 hbW hxW ⊢
        go_wp2_with (fail)
        refine (one_any _ _).mono ?_
        rintro e w2 ⟨rfl, hb3⟩
        have hown2 := own_below hown1 hb3
        have hB2 := hbW.trans (hb3.mono hbW.size)
        obtain ⟨hi, hz0, hz1, hz2⟩ := HI.out
        go_wp2_with (at_builtin; refine wpList_append_own _ rfl _ _ 22 rfl w.heap.size 24 i0 (.agg #[.int .i64 0, .int .i64 0]) 2 16 Try.underlying22 hi hz0 hz1 hz2 rfl (by decide) u5 k _ rfl (hown2.alloc _) ⟨w2.heap.size, 0, none⟩ 1 1 [.int .i64 (max l[k] 0), .int .i64 (min l[k] 0)] rfl rfl ?c1 ?c2 ?c3 ?c4 ?c5 ?_)
        case c1 => exact World.news_of_block (cs := #[.int .i64 (max l[k] 0), .int .i64 (min l[k] 0)]) (t := 24) (fr := (0, 0)) (heap_alloc_new w2 _)
        case c2 => simp [Value.oneCell']
        case c3 => unfold maxLen; omega
        case c4 => omega
        case c5 => have := hB2.size; simp; omega
        intro v' w3 hown3 hgrow _
        clear hi hz0 hz1 hz2
        have hB3 := below_grown hB2 hown2 hgrow
        have e : mcells ((l.take (k + 1)).map oneM) = mcells ((l.take k).map oneM) ++ [.int .i64 (max l[k] 0), .int .i64 (min l[k] 0)] := by
          rw [List.take_succ_eq_append_getElem hlt, List.map_append]; exact mcells_snoc _ _
        have HE := hidd e
        clear e hgrow hown2 hown1 hB2 hb3 hbW hxW
        go_wp2_with (fail)
        go_roundw
        case rel => exact ⟨k + 1, by omega, by go_num, by rw [HJ.out], by rw [HJ.out], by rw [HE.out]; simpa using hown3, hB3, by rw [HJ.out]; simp; omega, by rw [HJ.out]; simp; omega⟩
        case measure => simp [intOf]; omega
      · by_cases hb2 : l[k] ≤ 1099511627776
        · have h30 : decide (1099511627776 < l[k]) = false := by simp; omega
          have h31 : decide (l[k] < -1099511627776) = true := by simp; omega
          go_wp2
          go_ret
          exact ⟨rfl, hb⟩
        · have h30 : decide (1099511627776 < l[k]) = true := by simp; omega
          go_wp2
          go_ret
          exact ⟨rfl, hb⟩
    · have hkk : k = l.length := by omega
      subst hkk
      have hj : jn l l.length = mJoin (l.map oneM) := by unfold jn; rw [List.take_length]
      rw [List.take_length] at hown
      rw [hj] at hu hd hs1 hs2 ⊢
      generalize hq : mJoin (l.map oneM) = q at hu hd hs1 hs2 ⊢
      obtain ⟨U, D⟩ := q
      have hm : mayB ⟨U, D⟩ = true := (mayB_iff _).2 ⟨hs1, hu, hs2, hd⟩
      have hv : wrap64 (U + D) = U + D := IntWalk.wrap64_in _ ⟨by simp at hs1 hd; omega, by simp at hu hs2; omega⟩
      have HQ := hidd (And.intro hq (And.intro hm hv))
      clear hq hj hv hm
      simp only at hu hd hs1 hs2
      obtain ⟨A', c', rfl, hRd⟩ := own_slice hown
      clear hown hR
      go_wp2_with (fail)
      have hjn := join_any (l.map oneM) A' c' wr (by rw [List.length_map]; exact hRd) (by rw [List.length_map]; omega)
      rw [HQ.out.1, List.length_map] at hjn
      refine hjn.mono ?_
      rintro e w2 ⟨rfl, hb3⟩
      have hB2 := hb.trans (hb3.mono hb.size)
      have h7 := Blk.new w2 24 #[.int .i64 U, .int .i64 D]
      have hB3 := hB2.alloc hB2.size (.cells #[.int .i64 U, .int .i64 D] 24)
      clear hjn hRd hb hb3 hB2
      go_wp2_with (fail)
      refine (value_val U D (U + D) HQ.out.2.2 _).mono ?_
      rintro e w4 ⟨rfl, hb4⟩
      have h74 := h7.below hb4 h7.lt
      have hB4 := hB3.trans (hb4.mono hB3.size)
      clear h7 hb4 hB3
      have c0 := h74.cell 0
      have c1 := h74.cell 1
      simp at c0 c1
      go_wp2_with (fail)
      refine (may_yes U D HQ.out.2.1 _).mono ?_
      rintro e w5 ⟨rfl, hb5⟩
      have hB5 := hB4.trans (hb5.mono hB4.size)
      go_wp2_with (fail)
      go_ret
      exact ⟨rfl, hB5⟩
end Go.Proofs.Ytbcojkfndegjmaa
