/- Contract: the reference's asked. -/
import Derived.Test.YtbcojkfndegjmaaRSmall
namespace Go.Proofs.Ytbcojkfndegjmaa
open Go.RowKit
set_option linter.unusedVariables false
attribute [local go_sem ↓] run_max run_min

theorem rall_blk (xs : List Int) (r : Bool) (g n c : Nat) (cs : Array Value) (w : World) {t : TypeId} (hb : Blk w g t cs) (hcs : cs = (icells xs).toArray) (hn : xs.length = n) (hr : fitsB xs = r) (hl : n ≤ 4611686018427387904) :
    Calls Try.prog 33 #[.slice (some ⟨g, 0, none⟩) n c] w fun e w' => e = .returned (.bool r) ∧ w = w' := by
  subst hcs
  subst hn
  have hlen : (icells xs).length = xs.length * 1 := flat_length (fun n : Int => [Value.int .i64 n]) 1 (fun _ => rfl) xs
  exact rall_any xs (some ⟨g, 0, none⟩) xs.length c w ⟨hlen, fun _ => ⟨g, 0, rfl, hb.lt, fun j x hx => by rw [hb.cell (0 + j)]; simpa using hx⟩⟩ rfl hl r hr
theorem ok_fits (u d u2 d2 ht : Int) (th : Bool) (h : badK ⟨⟨u, d⟩, ⟨u2, d2⟩, ht, th⟩ = false) : fitsB [ht, u, d, u2, d2] = okK ⟨⟨u, d⟩, ⟨u2, d2⟩, ht, th⟩ := by
  simp only [badK, Bool.or_eq_false_iff, oddB, decide_eq_false_iff_not] at h
  obtain ⟨⟨⟨h1, _⟩, h3, h4⟩, h5, h6⟩ := h
  rw [Bool.eq_iff_iff]
  simp only [fitsB, List.all_cons, List.all_nil, Bool.and_true, okK, Bool.and_eq_true, fitB_iff, mayB_iff]
  omega

set_option maxRecDepth 100000 in
set_option maxHeartbeats 8000000 in
theorem rasked_any (l : List Kd) (A : Option Addr) (cap : Nat) (w : World) (hR : Rd w w.heap.size 6 A l.length (kcells l)) (hl : l.length ≤ 4096) (T : Int) (hT : askedK l = T) :
    Calls Try.prog 31 #[.slice A l.length cap] w fun e w' => e = .returned (.int .i64 T) ∧ Below w.heap.size w w' := by
  by_cases h1 : 2048 < l.length
  · have hd : decide ((2048 : Int) < (l.length : Int)) = true := by simp; omega
    have hr : askedK l = 2 := by unfold askedK; rw [if_pos h1]
    rw [hr] at hT
    subst hT
    clear hr hR h1
    go_enter Try.func31, Try.ntmps31
    go_wp2_with (fail)
    go_ret
    exact ⟨rfl, Below.refl _ _⟩
  have hd : decide ((2048 : Int) < (l.length : Int)) = false := by simp; omega
  have hbadT : l.any badK = true → T = 2 := fun h => by rw [← hT]; unfold askedK; rw [if_neg h1, if_pos h]
  have hokT : l.any badK = false → l.all okK = true → T = 0 := fun h h2 => by rw [← hT]; unfold askedK; rw [if_neg h1, if_neg (by rw [h]; exact Bool.false_ne_true), if_pos h2]
  have hnoT : l.any badK = false → l.all okK = false → T = 10 := fun h h2 => by rw [← hT]; unfold askedK; rw [if_neg h1, if_neg (by rw [h]; exact Bool.false_ne_true), if_neg (by rw [h2]; exact Bool.false_ne_true)]
  have HT := hidd (And.intro hbadT (And.intro hokT hnoT))
  clear hbadT hokT hnoT hT h1
  go_enter Try.func31, Try.ntmps31
  go_wp2_with (fail)
  go_loopw [3, 4] (fun c i wr => ∃ (k : Nat) (F : Bool), k ≤ l.length ∧ i = .int .i64 k ∧ c = .bool F ∧ F = !(l.take k).all okK ∧ (l.take k).any badK = false ∧ Below w.heap.size w wr)
    (fun _ i _ => l.length - (intOf i).toNat)
  case atStart => exact ⟨0, false, Nat.zero_le _, rfl, rfl, by simp, by simp, Below.refl _ _⟩
  case round =>
    obtain ⟨k, F, hk, rfl, rfl, hF, hall, hb⟩ := hrel
    by_cases hlt : k < l.length
    · obtain ⟨b, off, rfl, hbB, hc⟩ := hR.2 (by omega)
      have hx0 := (hb.cell (p := ⟨b, off + (k * 6 + 0), none⟩) hbB).trans (hc _ _ (kcell l k 0 hlt (by omega)))
      have hx1 := (hb.cell (p := ⟨b, off + (k * 6 + 1), none⟩) hbB).trans (hc _ _ (kcell l k 1 hlt (by omega)))
      have hx2 := (hb.cell (p := ⟨b, off + (k * 6 + 2), none⟩) hbB).trans (hc _ _ (kcell l k 2 hlt (by omega)))
      have hx3 := (hb.cell (p := ⟨b, off + (k * 6 + 3), none⟩) hbB).trans (hc _ _ (kcell l k 3 hlt (by omega)))
      have hx4 := (hb.cell (p := ⟨b, off + (k * 6 + 4), none⟩) hbB).trans (hc _ _ (kcell l k 4 hlt (by omega)))
      have hx5 := (hb.cell (p := ⟨b, off + (k * 6 + 5), none⟩) hbB).trans (hc _ _ (kcell l k 5 hlt (by omega)))
      have hbad : badK l[k] = true → T = 2 := fun h => HT.out.1 (List.any_eq_true.2 ⟨l[k], List.getElem_mem _, h⟩)
      have hnb : badK l[k] = false → (l.take (k + 1)).any badK = false := fun h => by rw [take_snoc l k hlt, List.any_append, hall]; simp [h]
      have hok : (!(l.take (k + 1)).all okK) = (F || !okK l[k]) := by rw [take_snoc l k hlt, List.all_append, hF]; simp
      obtain ⟨s, hs⟩ : ∃ s, l[k] = s := ⟨_, rfl⟩
      rw [hs] at hx0 hx1 hx2 hx3 hx4 hx5 hbad hnb hok
      simp only [← Nat.add_assoc, Nat.add_zero] at hx0 hx1 hx2 hx3 hx4 hx5
      have HS := hidd (And.intro hbad (And.intro hnb hok))
      clear hc hR hs hbad hnb hok hall hF
      obtain ⟨⟨u, d⟩, ⟨u2, d2⟩, ht, th⟩ := s
      simp only at hx0 hx1 hx2 hx3 hx4 hx5
      have hB0 := below_al hb (.cells #[.int .i64 u, .int .i64 d, .int .i64 u2, .int .i64 d2, .int .i64 ht, .bool th] 48)
      have g1 := Blk.new (wr.alloc (.cells #[.int .i64 u, .int .i64 d, .int .i64 u2, .int .i64 d2, .int .i64 ht, .bool th] 48)) 3 #[.int .i64 ht, .int .i64 u, .int .i64 d, .int .i64 u2, .int .i64 d2]
      have hB1 := below_al hB0 (.cells #[.int .i64 ht, .int .i64 u, .int .i64 d, .int .i64 u2, .int .i64 d2] 3)
      rw [World.size_alloc] at g1
      by_cases a0 : ht < 0
      · have d0 : decide (ht < 0) = true := by simpa using a0
        have hr := HS.out.1 (by simp only [badK, Bool.or_eq_true]; exact .inl (.inl (.inl d0)))
        subst hr
        clear HS a0
        go_wp2_with (fail)
        go_ret
        exact ⟨rfl, hB0⟩
      have d0 : decide (ht < 0) = false := by simpa using a0
      by_cases a1 : th = true ∧ ht ≠ 0
      · obtain ⟨rfl, a1⟩ := a1
        have d1 : (ht != 0) = true := by simpa using a1
        have hr := HS.out.1 (by simp only [badK, Bool.or_eq_true, Bool.and_eq_true, decide_eq_true_eq]; exact .inl (.inl (.inr ⟨trivial, by omega⟩)))
        subst hr
        clear HS a0 a1
        go_wp2_with (fail)
        go_ret
        exact ⟨rfl, hB0⟩
      have d1 : th = true → (ht != 0) = false := fun h => by rw [bne_eq_false_iff_eq]; exact Decidable.byContradiction fun h2 => a1 ⟨h, h2⟩
      have hth : (th && decide (0 < ht)) = false := by
        cases th with
        | false => rfl
        | true =>
          have := d1 rfl
          rw [bne_eq_false_iff_eq] at this
          simp [this]
      have HTH := hidd hth
      clear a1 hth
      have hbk : ∀ r, (oddB ⟨u, d⟩ || oddB ⟨u2, d2⟩) = r → badK ⟨⟨u, d⟩, ⟨u2, d2⟩, ht, th⟩ = r := fun r hr => by
        rw [← hr]; simp only [badK, d0, HTH.out, Bool.false_or]
      have HBK := hidd hbk
      clear hbk HTH a0
      cases th
      all_goals
        try replace d1 := d1 rfl
        by_cases b0 : u < 0
        · have e0 : decide (u < 0) = true := by simpa using b0
          have hr := HS.out.1 (HBK.out _ (by simp [oddB, b0]))
          subst hr
          clear HS HBK b0
          go_wp2_with (fail)
          go_ret
          exact ⟨rfl, hB0⟩
        have e0 : decide (u < 0) = false := by simpa using b0
        by_cases b1 : 0 < d
        · have e1 : decide (0 < d) = true := by simpa using b1
          have hr := HS.out.1 (HBK.out _ (by simp [oddB, b1]))
          subst hr
          clear HS HBK b0 b1
          go_wp2_with (fail)
          go_ret
          exact ⟨rfl, hB0⟩
        have e1 : decide (0 < d) = false := by simpa using b1
        by_cases b2 : u2 < 0
        · have e2 : decide (u2 < 0) = true := by simpa using b2
          have hr := HS.out.1 (HBK.out _ (by simp [oddB, b2]))
          subst hr
          clear HS HBK b0 b1 b2
          go_wp2_with (fail)
          go_ret
          exact ⟨rfl, hB0⟩
        have e2 : decide (u2 < 0) = false := by simpa using b2
        by_cases b3 : 0 < d2
        · have e3 : decide (0 < d2) = true := by simpa using b3
          have hr := HS.out.1 (HBK.out _ (by simp [oddB, b3]))
          subst hr
          clear HS HBK b0 b1 b2 b3
          go_wp2_with (fail)
          go_ret
          exact ⟨rfl, hB0⟩
        have e3 : decide (0 < d2) = false := by simpa using b3
        have hbn := HBK.out false (by simp only [oddB, e0, e1, e2, e3]; rfl)
        have hfo := ok_fits u d u2 d2 ht _ hbn
        have hn := HS.out.2.1 hbn
        have ho := HS.out.2.2
        rw [← hfo] at ho
        obtain ⟨r, hr⟩ : ∃ r, fitsB [ht, u, d, u2, d2] = r := ⟨_, rfl⟩
        rw [hr] at ho
        have HN := hidd (And.intro hn ho)
        have HFO := hidd hr
        clear HS HBK b0 b1 b2 b3 hbn hfo hn ho hr
        have d3 : decide (d ≤ 0) = true := by simpa using e1
        cases F with
        | true =>
          go_wp2_with (fail)
          go_roundw
          case rel => exact ⟨k + 1, true, by omega, by go_num, rfl, by rw [HN.out.2]; rfl, HN.out.1, hB0⟩
          case measure => simp [intOf]; omega
        | false =>
          go_wp2_with (fail)
          refine (rall_blk [ht, u, d, u2, d2] r _ 5 5 _ _ g1 rfl rfl HFO.out (by decide)).mono ?_
          rintro e w2 ⟨rfl, rfl⟩
          clear g1 HFO
          go_wp2_with (fail)
          go_roundw
          case rel => exact ⟨k + 1, !r, by omega, by go_num, rfl, by rw [HN.out.2]; rfl, HN.out.1, hB1⟩
          case measure => simp [intOf]; omega
    · have hkk : k = l.length := by omega
      subst hkk
      rw [List.take_length] at hF hall
      cases F with
      | true =>
        have hT := HT.out.2.2 hall (by simpa using hF.symm)
        subst hT
        clear HT hF hall
        go_wp2_with (fail)
        go_ret
        exact ⟨rfl, hb⟩
      | false =>
        have hT := HT.out.2.1 hall (by simpa using hF.symm)
        subst hT
        clear HT hF hall
        go_wp2_with (fail)
        go_ret
        exact ⟨rfl, hb⟩
end Go.Proofs.Ytbcojkfndegjmaa
