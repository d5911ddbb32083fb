/- Contracts: what the laws of chapter 14 call: kid, told, small, near, solid; block.Stack of kids that are known. -/
import Derived.Test.YtbcojkfndegjmaaStack
import Derived.Test.YtbcojkfndegjmaaPlainK2
namespace Go.Proofs.Ytbcojkfndegjmaa
open Go.RowKit
set_option linter.unusedVariables false
attribute [local go_sem ↓] run_max run_min

set_option maxHeartbeats 1000000 in
theorem kid_val (t h b u d u2 d2 H : Int) (th : Bool) (h1 : max t 0 = u) (h2 : min t 0 = d) (h3 : max b 0 = u2) (h4 : min b 0 = d2) (h5 : max 0 h = H) (h6 : decide (h < 0) = th) (w : World) :
    Calls Try.prog 40 #[.int .i64 t, .int .i64 h, .int .i64 b] w fun e w' => e = .returned (.agg #[.int .i64 u, .int .i64 d, .int .i64 u2, .int .i64 d2, .int .i64 H, .bool th]) ∧ Below w.heap.size w w' := by
  have H1 := hidd h1
  have H2 := hidd h2
  have H3 := hidd h3
  have H4 := hidd h4
  have H5 := hidd h5
  have H6 := hidd h6
  clear h1 h2 h3 h4 h5 h6
  have g0 := Blk.new w 48 #[.int .i64 0, .int .i64 0, .int .i64 0, .int .i64 0, .int .i64 0, .bool false]
  have hb0 := below_al (Below.refl w.heap.size w) (.cells #[.int .i64 0, .int .i64 0, .int .i64 0, .int .i64 0, .int .i64 0, .bool false] 48)
  go_enter Try.func40, Try.ntmps40
  go_wp2_with (fail)
  refine (one_val t u d H1.out H2.out _).mono ?_
  rintro e w1 ⟨rfl, hb1⟩
  have g1 := g0.below hb1 g0.lt
  have hB1 := below_step hb0 hb1
  clear g0 hb0 hb1
  go_wp2_with (fail)
  refine (one_val b u2 d2 H3.out H4.out _).mono ?_
  rintro e w2 ⟨rfl, hb2⟩
  have g2 := g1.below hb2 g1.lt
  have hB2 := below_step hB1 hb2
  clear g1 hB1 hb2
  have c0 := g2.cell 0
  have c1 := g2.cell 1
  have c2 := g2.cell 2
  have c3 := g2.cell 3
  have c4 := g2.cell 4
  have c5 := g2.cell 5
  have cf := g2.frozen
  simp at c0 c1 c2 c3 c4 c5
  go_upto_region 1 with (fail)
  go_wp2_with (fail)
  refine bodyPost_ret (v := .agg #[.int .i64 u, .int .i64 d, .int .i64 u2, .int .i64 d2, .int .i64 (max 0 h), .bool (decide (h < 0))]) (by simp [results, Try.results40, go_sem, c0, c1, c2, c3, c4, c5]) rfl ⟨by rw [H5.out, H6.out], ?_⟩
  exact (((((hB2.setCell (by simp) _).setCell (by simp) _).setCell (by simp) _).setCell (by simp) _).setCell (by simp) _).setCell (by simp) _

set_option maxHeartbeats 4000000 in
theorem told_yes (l : List Int) (A B : Option Addr) (n c1 c2 : Nat) (w : World) (hn : l.length = n) (hA : Rd w w.heap.size 1 A n (icells l)) (hB : Rd w w.heap.size 1 B n (icells l)) (hl : n ≤ 4096) :
    Calls Try.prog 41 #[.slice A n c1, .slice B n c2] w fun e w' => e = .returned (.bool true) ∧ Below w.heap.size w w' := by
  subst hn
  have hne : ((l.length : Int) != (l.length : Int)) = false := by simp
  go_enter Try.func41, Try.ntmps41
  go_wp2_with (fail)
  clear hne
  go_loopw [5] (fun i wx => ∃ k : Nat, k ≤ l.length ∧ i = .int .i64 k ∧ Below w.heap.size w wx)
    (fun i _ => l.length - (intOf i).toNat)
  case atStart => exact ⟨0, Nat.zero_le _, rfl, Below.refl _ _⟩
  case round =>
    obtain ⟨k, hk, rfl, hb⟩ := hrel
    by_cases hlt : k < l.length
    · obtain ⟨b, off, rfl, hbB, hc⟩ := hA.2 (by omega)
      obtain ⟨b2, off2, rfl, hbB2, hc2⟩ := hB.2 (by omega)
      have hx := (hb.cell (p := ⟨b, off + k, none⟩) hbB).trans (hc k _ (flat1 l k hlt))
      have hy := (hb.cell (p := ⟨b2, off2 + k, none⟩) hbB2).trans (hc2 k _ (flat1 l k hlt))
      obtain ⟨x, hxe⟩ : ∃ x, l[k] = x := ⟨_, rfl⟩
      rw [hxe] at hx hy
      have hxx : (x != x) = false := by simp
      have k0 : (0 : Int) ≤ (k : Int) := Int.natCast_nonneg _
      have k1 : (k : Int) < (l.length : Int) := by omega
      clear hc hc2 hA hB hxe
      go_wp2_with (fail)
      go_quiet (fail)
      go_wp2_with (fail)
      go_roundw
      case rel => exact ⟨k + 1, by omega, by go_num, below_drewN hb _⟩
      case measure => simp [intOf]; omega
    · have hkk : k = l.length := by omega
      subst hkk
      go_wp2_with (fail)
      go_ret
      exact ⟨rfl, hb⟩

set_option maxHeartbeats 1000000 in
theorem small_val (m : Mg) (r : Bool) (hr : nearM m = r) (w : World) : Calls Try.prog 42 #[.agg #[.int .i64 m.up, .int .i64 m.dn]] w fun e w' => e = .returned (.bool r) ∧ Below w.heap.size w w' := by
  subst hr
  obtain ⟨q, hq⟩ : ∃ q, mayB m = q := ⟨_, rfl⟩
  have HQ := hidd hq
  have hnm : nearM m = (q && decide (m.up ≤ 268435456) && decide (-268435456 ≤ m.dn)) := by unfold nearM; rw [hq]
  have HN := hidd hnm
  have g0 := Blk.new w 24 #[.int .i64 m.up, .int .i64 m.dn]
  have hb0 := below_al (Below.refl w.heap.size w) (.cells #[.int .i64 m.up, .int .i64 m.dn] 24)
  clear hq hnm
  go_enter Try.func42, Try.ntmps42
  go_wp2_with (fail)
  refine (may_val m q HQ.out _).mono ?_
  rintro e w1 ⟨rfl, hb1⟩
  have g1 := g0.below hb1 g0.lt
  have hB1 := below_step hb0 hb1
  clear g0 hb0 hb1 HQ
  have c0 := g1.cell 0
  have c1 := g1.cell 1
  simp at c0 c1
  clear g1
  cases q with
  | false =>
    go_wp2_with (fail)
    go_ret
    exact ⟨ret_bool (by rw [HN.out]; rfl), hB1⟩
  | true =>
    by_cases a1 : m.up ≤ 268435456
    · have d1 : decide (m.up ≤ 268435456) = true := by simpa using a1
      go_wp2_with (fail)
      go_ret
      exact ⟨ret_bool (by rw [HN.out, d1]; rfl), hB1⟩
    · have d1 : decide (m.up ≤ 268435456) = false := by simpa using a1
      go_wp2_with (fail)
      go_ret
      exact ⟨ret_bool (by rw [HN.out, d1]; rfl), hB1⟩

set_option maxRecDepth 100000 in
set_option maxHeartbeats 8000000 in
theorem solid_any (l : List Kd) (A : Option Addr) (cap : Nat) (w : World) (hR : Rd w w.heap.size 6 A l.length (kcells l)) (hl : l.length ≤ 4096) (r : Bool) (hr : (l.all fun k => !k.th) = r) :
    Calls Try.prog 28 #[.slice A l.length cap] w fun e w' => e = .returned (.bool r) ∧ w = w' := by
  have HR := hidd hr
  clear hr
  go_enter Try.func28, Try.ntmps28
  go_wp2_with (fail)
  go_loop [3] (fun i => ∃ k : Nat, k ≤ l.length ∧ i = .int .i64 k ∧ ((l.take k).all fun k => !k.th) = true)
    (fun i => l.length - (intOf i).toNat)
  case atStart => exact ⟨0, Nat.zero_le _, rfl, by simp⟩
  case round =>
    obtain ⟨k, hk, rfl, hall⟩ := hrel
    by_cases hlt : k < l.length
    · obtain ⟨b, off, rfl, hbB, hc⟩ := hR.2 (by omega)
      have hx5 := hc _ _ (kcell l k 5 hlt (by omega))
      have hstep : l[k].th = false → ((l.take (k + 1)).all fun k => !k.th) = true := fun h => by rw [take_snoc l k hlt, List.all_append, hall]; simp [h]
      have hbad : l[k].th = true → r = false := fun h => by
        rw [← HR.out, Bool.eq_false_iff]
        intro hh
        rw [List.all_eq_true] at hh
        have := hh l[k] (List.getElem_mem _)
        rw [h] at this
        cases this
      obtain ⟨s, hs⟩ : ∃ s, l[k] = s := ⟨_, rfl⟩
      rw [hs] at hx5 hstep hbad
      simp only [← Nat.add_assoc] at hx5
      have HN := hidd (And.intro hstep hbad)
      obtain ⟨tp, bt, ht, th⟩ := s
      simp only at hx5
      clear hc hR hs hstep hbad hall
      cases th with
      | true =>
        have hr := HN.out.2 rfl
        subst hr
        clear HN
        go_wp2_with (fail)
        go_ret
        exact ⟨rfl, rfl⟩
      | false =>
        have hn := HN.out.1 rfl
        have HN2 := hidd hn
        clear HN hn
        go_wp2_with (fail)
        go_round
        case rel => exact ⟨k + 1, by omega, by go_num, HN2.out⟩
        case measure => simp [intOf]; omega
    · have hkk : k = l.length := by omega
      subst hkk
      rw [List.take_length, HR.out] at hall
      subst hall
      go_wp2_with (fail)
      go_ret
      exact ⟨rfl, rfl⟩

/-- block.Stack of kids whose answer is known -/
def LitPost (k : Nat) (R : Rs) (w : World) (e : Ending) (w' : World) : Prop :=
  ∃ A c, e = .returned (.tuple #[.agg #[.slice A k c, .int .i64 R.sk.ht, .int .i64 R.sk.tp.up, .int .i64 R.sk.tp.dn, .int .i64 R.sk.bt.up, .int .i64 R.sk.bt.dn, .bool R.sk.th], .int .i64 R.e]) ∧ Rd w' w'.heap.size 1 A k (icells R.sk.ps) ∧ Below w.heap.size w w'
theorem stack_lit (l : List Kd) (a b : Bool) (A : Option Addr) (n c k : Nat) (w : World) (R : Rs) (hR : Rd w w.heap.size 6 A n (kcells l)) (hn : l.length = n) (hl : n ≤ 4096) (hr : stackF l a b = R) (hk : R.sk.ps.length = k) :
    Calls Try.prog 24 #[.slice A n c, .bool a, .bool b] w (LitPost k R w) := by
  subst hn
  subst hr
  subst hk
  refine (stack_any l a b A c w hR hl).mono ?_
  rintro e w' ⟨A', c', rfl, ho, hb⟩
  exact ⟨A', c', rfl, Rd.of_own ho, hb⟩
/-- what is told, in a block -/
def Res (W : World) (g n : Nat) (k : Sk) : Prop :=
  ∃ A c, Blk W g 40 #[.slice A n c, .int .i64 k.ht, .int .i64 k.tp.up, .int .i64 k.tp.dn, .int .i64 k.bt.up, .int .i64 k.bt.dn, .bool k.th] ∧ Rd W W.heap.size 1 A n (icells k.ps)
theorem Res.below {W W' : World} {g n : Nat} {k : Sk} (h : Res W g n k) (hb : Below W.heap.size W W') : Res W' g n k := by
  obtain ⟨A, c, h1, h2⟩ := h
  exact ⟨A, c, h1.below hb h1.lt, (h2.below hb).more hb.size⟩
theorem Res.new {W : World} {A : Option Addr} {n c : Nat} {k : Sk} (h : Rd W W.heap.size 1 A n (icells k.ps)) :
    Res (W.alloc (.cells #[.slice A n c, .int .i64 k.ht, .int .i64 k.tp.up, .int .i64 k.tp.dn, .int .i64 k.bt.up, .int .i64 k.bt.dn, .bool k.th] 40)) W.heap.size n k := by
  have hb := below_al (Below.refl W.heap.size W) (.cells #[.slice A n c, .int .i64 k.ht, .int .i64 k.tp.up, .int .i64 k.tp.dn, .int .i64 k.bt.up, .int .i64 k.bt.dn, .bool k.th] 40)
  exact ⟨A, c, Blk.new _ _ _, (h.below hb).more hb.size⟩
end Go.Proofs.Ytbcojkfndegjmaa
