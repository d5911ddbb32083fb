/- Contracts: block.odd, block.check. -/
import Derived.Test.YtbcojkfndegjmaaFits
import Derived.Test.YtbcojkfndegjmaaMAwake
import Derived.Test.YtbcojkfndegjmaaRead
import Derived.Deep.DeepCutAuto
namespace Go.Proofs.Ytbcojkfndegjmaa
open Go.RowKit
set_option linter.unusedVariables false
attribute [local go_sem ↓] run_max run_min

def Kd.cs (k : Kd) : List Value := [.int .i64 k.tp.up, .int .i64 k.tp.dn, .int .i64 k.bt.up, .int .i64 k.bt.dn, .int .i64 k.ht, .bool k.th]
def kcells (l : List Kd) : List Value := l.flatMap Kd.cs
theorem kcell (l : List Kd) (k j : Nat) (h : k < l.length) (hj : j < 6) : (kcells l)[k * 6 + j]? = (Kd.cs l[k])[j]? := flat_get Kd.cs 6 (fun _ => rfl) l k j h hj
theorem fits_blk (xs : List Int) (r : Bool) (g n c : Nat) (cs : Array Value) (w : World) {t : TypeId} (hb : Blk w g t cs) (hcs : cs = (icells xs).toArray) (hn : xs.length = n) (hr : fitsB xs = r) (hl : n ≤ 4611686018427387904) :
    Calls Try.prog 38 #[.slice (some ⟨g, 0, none⟩) n c] w fun e w' => e = .returned (.bool r) ∧ w = w' := by
  subst hcs
  subst hn
  subst hr
  have hlen : (icells xs).length = xs.length * 1 := flat_length (fun n : Int => [Value.int .i64 n]) 1 (fun _ => rfl) xs
  exact fits_any xs (some ⟨g, 0, none⟩) c w ⟨hlen, fun _ => ⟨g, 0, rfl, hb.lt, fun j x hx => by rw [hb.cell (0 + j)]; simpa using hx⟩⟩ hl

set_option maxHeartbeats 1000000 in
theorem odd_val (m : Mg) (r : Bool) (hr : oddB m = r) (w : World) : Calls Try.prog 43 #[.agg #[.int .i64 m.up, .int .i64 m.dn]] w fun e w' => e = .returned (.bool r) ∧ Below w.heap.size w w' := by
  subst hr
  go_enter Try.func43, Try.ntmps43
  go_wp2
  all_goals
    go_ret
    exact ⟨ret_bool (by rw [Bool.eq_iff_iff]; simp [oddB]; try omega), below_al (Below.refl _ _) _⟩
theorem may_val (m : Mg) (r : Bool) (hr : mayB m = r) (w : World) : Calls Try.prog 16 #[.agg #[.int .i64 m.up, .int .i64 m.dn]] w fun e w' => e = .returned (.bool r) ∧ Below w.heap.size w w' := by
  subst hr
  exact may_any m w

set_option maxRecDepth 100000 in
set_option maxHeartbeats 8000000 in
theorem check_any (l : List Kd) (A : Option Addr) (cap : Nat) (w : World) (hR : Rd w w.heap.size 6 A l.length (kcells l)) (hl : l.length ≤ 4096) :
    Calls Try.prog 35 #[.slice A l.length cap] w fun e w' => e = .returned (.int .i64 (askedK l)) ∧ Below w.heap.size w w' := by
  by_cases h1 : 2048 < l.length
  · have hd : decide ((2048 : Int) < (l.length : Int)) = true := by simp; omega
    have hr : askedK l = 2 := by unfold askedK; rw [if_pos h1]
    rw [hr]
    clear hr hR h1
    go_enter Try.func35, Try.ntmps35
    go_wp2_with (fail)
    go_ret
    exact ⟨rfl, Below.refl _ _⟩
  have hd : decide ((2048 : Int) < (l.length : Int)) = false := by simp; omega
  obtain ⟨T, hT⟩ : ∃ T, askedK l = T := ⟨_, rfl⟩
  rw [hT]
  have hbadT : l.any badK = true → T = 2 := fun h => by rw [← hT]; unfold askedK; rw [if_neg h1, if_pos h]
  have hokT : l.any badK = false → l.all okK = true → T = 0 := fun h h2 => by rw [← hT]; unfold askedK; rw [if_neg h1, if_neg (by rw [h]; exact Bool.false_ne_true), if_pos h2]
  have hnoT : l.any badK = false → l.all okK = false → T = 10 := fun h h2 => by rw [← hT]; unfold askedK; rw [if_neg h1, if_neg (by rw [h]; exact Bool.false_ne_true), if_neg (by rw [h2]; exact Bool.false_ne_true)]
  have HT := hidd (And.intro hbadT (And.intro hokT hnoT))
  clear hbadT hokT hnoT hT h1
  go_enter Try.func35, Try.ntmps35
  go_wp2_with (fail)
  go_loopw [3, 11] (fun c i wr => ∃ (k : Nat) (F : Bool) (E : Int), k ≤ l.length ∧ i = .int .i64 k ∧ c = .int .i64 E ∧ F = (l.take k).all okK ∧ (F = true → E = 0) ∧ (F = false → E = 10) ∧ (l.take k).any badK = false ∧ Below w.heap.size w wr)
    (fun _ i _ => l.length - (intOf i).toNat)
  case atStart => exact ⟨0, true, 0, Nat.zero_le _, rfl, rfl, by simp, fun _ => rfl, fun h => (by cases h), by simp, Below.refl _ _⟩
  case round =>
    obtain ⟨k, F, E, hk, rfl, rfl, hF, hE1, hE2, hall, hb⟩ := hrel
    by_cases hlt : k < l.length
    · obtain ⟨b, off, rfl, hbB, hc⟩ := hR.2 (by omega)
      have hx0 := (hb.cell (p := ⟨b, off + (k * 6 + 0), none⟩) hbB).trans (hc _ _ (kcell l k 0 hlt (by omega)))
      have hx1 := (hb.cell (p := ⟨b, off + (k * 6 + 1), none⟩) hbB).trans (hc _ _ (kcell l k 1 hlt (by omega)))
      have hx2 := (hb.cell (p := ⟨b, off + (k * 6 + 2), none⟩) hbB).trans (hc _ _ (kcell l k 2 hlt (by omega)))
      have hx3 := (hb.cell (p := ⟨b, off + (k * 6 + 3), none⟩) hbB).trans (hc _ _ (kcell l k 3 hlt (by omega)))
      have hx4 := (hb.cell (p := ⟨b, off + (k * 6 + 4), none⟩) hbB).trans (hc _ _ (kcell l k 4 hlt (by omega)))
      have hx5 := (hb.cell (p := ⟨b, off + (k * 6 + 5), none⟩) hbB).trans (hc _ _ (kcell l k 5 hlt (by omega)))
      have hbad : badK l[k] = true → T = 2 := fun h => HT.out.1 (List.any_eq_true.2 ⟨l[k], List.getElem_mem _, h⟩)
      have hnb : badK l[k] = false → (l.take (k + 1)).any badK = false := fun h => by rw [take_snoc l k hlt, List.any_append, hall]; simp [h]
      have hok : (l.take (k + 1)).all okK = (F && okK l[k]) := by rw [take_snoc l k hlt, List.all_append, hF]; simp
      obtain ⟨s, hs⟩ : ∃ s, l[k] = s := ⟨_, rfl⟩
      rw [hs] at hx0 hx1 hx2 hx3 hx4 hx5 hbad hnb hok
      simp only [← Nat.add_assoc, Nat.add_zero] at hx0 hx1 hx2 hx3 hx4 hx5
      have HS := hidd (And.intro hbad (And.intro hnb (And.intro hok (And.intro hE1 hE2))))
      clear hc hR hs hbad hnb hok hall hF hE1 hE2
      obtain ⟨⟨u, d⟩, ⟨u2, d2⟩, ht, th⟩ := s
      simp only at hx0 hx1 hx2 hx3 hx4 hx5
      have hg0 := Blk.new wr 48 #[.int .i64 u, .int .i64 d, .int .i64 u2, .int .i64 d2, .int .i64 ht, .bool th]
      have hB0 := below_al hb (.cells #[.int .i64 u, .int .i64 d, .int .i64 u2, .int .i64 d2, .int .i64 ht, .bool th] 48)
      by_cases a0 : ht < 0
      · have d0 : decide (ht < 0) = true := by simpa using a0
        have hr := HS.out.1 (by simp only [badK, Bool.or_eq_true]; exact .inl (.inl (.inl d0)))
        subst hr
        clear HS a0
        go_wp2_with (fail)
        go_ret
        exact ⟨rfl, hB0⟩
      have d0 : decide (ht < 0) = false := by simpa using a0
      by_cases a1 : th = true ∧ 0 < ht
      · obtain ⟨rfl, a1⟩ := a1
        have d1 : decide (0 < ht) = true := by simpa using a1
        have hr := HS.out.1 (by simp only [badK, Bool.or_eq_true, Bool.and_eq_true]; exact .inl (.inl (.inr ⟨trivial, d1⟩)))
        subst hr
        clear HS a0 a1
        go_wp2_with (fail)
        go_ret
        exact ⟨rfl, hB0⟩
      have d1 : th = true → decide (0 < ht) = false := fun h => by rw [decide_eq_false_iff_not]; exact fun h2 => a1 ⟨h, h2⟩
      have hth : (th && decide (0 < ht)) = false := by cases th <;> simp_all
      obtain ⟨r1, h1⟩ : ∃ r, oddB ⟨u, d⟩ = r := ⟨_, rfl⟩
      obtain ⟨r2, h2⟩ : ∃ r, oddB ⟨u2, d2⟩ = r := ⟨_, rfl⟩
      have H1 := hidd h1
      have H2 := hidd h2
      have HTH := hidd hth
      clear h1 h2 hth a1
      go_upto_region 7 with (fail)
      go_cut [36] (fun c wx => c = .bool (r1 || r2) ∧ Below w.heap.size w wx ∧ Blk wx wr.heap.size 48 #[.int .i64 u, .int .i64 d, .int .i64 u2, .int .i64 d2, .int .i64 ht, .bool th])
      case first =>
        have hg00 := hg0.cell 0
        cases r1 with
        | true =>
          cases th
          all_goals
            try have d1 := d1 rfl
            go_wp2_with (fail)
            refine (odd_val ⟨u, d⟩ true H1.out _).mono ?_
            rintro e w2 ⟨rfl, hbN⟩
            have hg1 := hg0.below hbN hg0.lt
            have hB1 := below_step hB0 hbN
            clear hbN hg0 hg00 hB0
            go_wp2_with (fail)
            go_meet
            exact ⟨rfl, hB1, hg1⟩
        | false =>
          cases th
          all_goals
            try have d1 := d1 rfl
            go_wp2_with (fail)
            refine (odd_val ⟨u, d⟩ false H1.out _).mono ?_
            rintro e w2 ⟨rfl, hbN⟩
            have hg1 := hg0.below hbN hg0.lt
            have hB1 := below_step hB0 hbN
            clear hbN hg0 hg00 hB0
            have hg12 := hg1.cell 2
            have hg13 := hg1.cell 3
            simp at hg12 hg13
            go_wp2_with (fail)
            refine (odd_val ⟨u2, d2⟩ r2 H2.out _).mono ?_
            rintro e w3 ⟨rfl, hbN⟩
            have hg2 := hg1.below hbN hg1.lt
            have hB2 := below_step hB1 hbN
            clear hbN hg1 hg12 hg13 hB1
            go_wp2_with (fail)
            go_meet
            exact ⟨by simp, hB2, hg2⟩
      case rest =>
      obtain ⟨rfl, hB1, hg1⟩ := hcut
      obtain ⟨W1, hW1⟩ : ∃ W, wc = W := ⟨_, rfl⟩
      rw [hW1] at hB1 hg1 ⊢
      clear hW1
      clear wc
      clear hg0 hB0 hx0 hx1 hx2 hx3 hx4 hx5
      obtain ⟨rb, hrb⟩ : ∃ r, (r1 || r2) = r := ⟨_, rfl⟩
      rw [hrb]
      have hbk : badK ⟨⟨u, d⟩, ⟨u2, d2⟩, ht, th⟩ = rb := by
        rw [← hrb]
        simp only [badK, d0, H1.out, H2.out, HTH.out, Bool.false_or]
      clear hrb HTH H1 H2 d1 a0
      cases rb with
      | true =>
        have hr := HS.out.1 hbk
        subst hr
        clear HS hbk
        go_wp2_with (fail)
        go_ret
        exact ⟨rfl, hB1⟩
      | false =>
        have hnb := HS.out.2.1 hbk
        have HN := hidd hnb
        clear hnb hbk
        obtain ⟨f1, hf1⟩ : ∃ f, fitB ht = f := ⟨_, rfl⟩
        obtain ⟨f2, hf2⟩ : ∃ f, mayB ⟨u, d⟩ = f := ⟨_, rfl⟩
        obtain ⟨f3, hf3⟩ : ∃ f, mayB ⟨u2, d2⟩ = f := ⟨_, rfl⟩
        have hok2 : (l.take (k + 1)).all okK = (F && (f1 && f2 && f3)) := by rw [HS.out.2.2.1, ← hf1, ← hf2, ← hf3]; rfl
        have hE := HS.out.2.2.2
        have HK := hidd (And.intro hok2 hE)
        have HF1 := hidd (show fitsB [ht] = f1 by simp [fitsB, hf1])
        have HF2 := hidd hf2
        have HF3 := hidd hf3
        clear HS hf1 hf2 hf3 hok2 hE
        go_upto_region 9 with (fail)
        go_cut [53] (fun c wx => c = .bool (!f1 || (!f2 || !f3)) ∧ Below w.heap.size w wx)
        case first =>
          have g10 := hg1.cell 0
          have g11 := hg1.cell 1
          have g12 := hg1.cell 2
          have g13 := hg1.cell 3
          have g14 := hg1.cell 4
          simp at g10 g11 g12 g13 g14
          go_wp2_with (fail)
          refine (fits_blk [ht] f1 W1.heap.size 1 1 #[.int .i64 ht] _ (Blk.new W1 3 _) rfl rfl HF1.out (by decide)).mono ?_
          rintro e w4 ⟨rfl, rfl⟩
          have hg2 := hg1.alloc (.cells #[.int .i64 ht] 3)
          have hB2 := below_al hB1 (.cells #[.int .i64 ht] 3)
          clear hg1 hB1 g10 g11 g12 g13 g14
          have g10 := hg2.cell 0
          have g11 := hg2.cell 1
          simp at g10 g11
          cases f1 with
          | false =>
            go_wp2_with (fail)
            go_meet
            exact ⟨rfl, hB2⟩
          | true =>
            go_wp2_with (fail)
            refine (may_val ⟨u, d⟩ f2 HF2.out _).mono ?_
            rintro e w5 ⟨rfl, hbN⟩
            have hg3 := hg2.below hbN hg2.lt
            have hB3 := below_step hB2 hbN
            clear hbN hg2 hB2 g10 g11
            have g12 := hg3.cell 2
            have g13 := hg3.cell 3
            simp at g12 g13
            cases f2 with
            | false =>
              go_wp2_with (fail)
              go_meet
              exact ⟨rfl, hB3⟩
            | true =>
              go_wp2_with (fail)
              refine (may_val ⟨u2, d2⟩ f3 HF3.out _).mono ?_
              rintro e w6 ⟨rfl, hbN⟩
              have hB4 := below_step hB3 hbN
              clear hbN hg3 hB3 g12 g13
              go_wp2_with (fail)
              go_meet
              exact ⟨by simp, hB4⟩
        case rest =>
        obtain ⟨rfl, hB5⟩ := hcut
        obtain ⟨W2, hW2⟩ : ∃ W, wc = W := ⟨_, rfl⟩
        rw [hW2] at hB5 ⊢
        clear hW2
        clear wc
        clear hg1 hB1 HF1 HF2 HF3
        obtain ⟨q, hq⟩ : ∃ q, (f1 && f2 && f3) = q := ⟨_, rfl⟩
        have hq2 : (!f1 || (!f2 || !f3)) = !q := by rw [← hq]; cases f1 <;> cases f2 <;> cases f3 <;> rfl
        rw [hq2]
        have HK2 : Hid ((l.take (k + 1)).all okK = (F && q) ∧ (F = true → E = 0) ∧ (F = false → E = 10)) := by rw [← hq]; exact HK.out
        clear hq hq2 HK
        cases q with
        | true =>
          go_wp2_with (fail)
          go_roundw
          case rel => exact ⟨k + 1, F, E, by omega, by go_num, rfl, by rw [HK2.out.1, Bool.and_true], HK2.out.2.1, HK2.out.2.2, HN.out, hB5⟩
          case measure => simp [intOf]; omega
        | false =>
          go_wp2_with (fail)
          go_roundw
          case rel => exact ⟨k + 1, false, 10, by omega, by go_num, rfl, by rw [HK2.out.1, Bool.and_false], fun h => (by cases h), fun _ => rfl, HN.out, hB5⟩
          case measure => simp [intOf]; omega
    · have hkk : k = l.length := by omega
      subst hkk
      rw [List.take_length] at hF hall
      have hTE : T = E := by
        cases F with
        | true => rw [HT.out.2.1 hall hF.symm, hE1 rfl]
        | false => rw [HT.out.2.2 hall hF.symm, hE2 rfl]
      have HE := hidd hTE
      clear hTE hF hE1 hE2 hall hR
      go_wp2_with (fail)
      go_ret
      exact ⟨ret_int HE.out.symm, hb⟩
end Go.Proofs.Ytbcojkfndegjmaa
