/- Contract: block.Stack. -/
import Derived.Test.YtbcojkfndegjmaaEnd
namespace Go.Proofs.Ytbcojkfndegjmaa
open Go.RowKit
set_option linter.unusedVariables false
attribute [local go_sem ↓] run_max run_min

def StackPost (r : Rs) (w : World) (e : Ending) (w' : World) : Prop :=
  ∃ A c, e = .returned (.tuple #[SkVal (.slice A r.sk.ps.length c) r.sk, .int .i64 r.e]) ∧ w'.ownsRow w.heap.size 3 1 (.slice A r.sk.ps.length c) r.sk.ps.length (icells r.sk.ps) ∧ Below w.heap.size w w'
theorem fits_len (xs : List Int) (A : Option Addr) (n c : Nat) (w : World) (hR : Rd w w.heap.size 1 A n (icells xs)) (hn : xs.length = n) (hl : n ≤ 4611686018427387904) (r : Bool) (hr : fitsB xs = r) :
    Calls Try.prog 38 #[.slice A n c] w fun e w' => e = .returned (.bool r) ∧ w = w' := by
  subst hn
  subst hr
  exact fits_any xs A c w hR hl
theorem own_base {w : World} {base base' : Nat} {e : TypeId} {size n : Nat} {v : Value} {xs : List Value} (h : w.ownsRow base' e size v n xs) (hb : base ≤ base') : w.ownsRow base e size v n xs := by
  refine ⟨h.1, ?_⟩
  rcases h.2 with h2 | ⟨g, cap, cur, h1, h2, h3⟩
  · exact .inl h2
  · exact .inr ⟨g, cap, cur, h1, by omega, h3⟩
theorem stack_no (l : List Kd) (a b : Bool) (E : Int) (h : askedK l = E) (h0 : E ≠ 0) : stackF l a b = ⟨sk0, E⟩ := by
  unfold stackF; rw [if_neg (by rw [h]; exact h0), h]
theorem asked_0 (l : List Kd) (h : askedK l = 0) : l.length ≤ 2048 ∧ ∀ k ∈ l, gdK 1099511627776 k := by
  unfold askedK at h
  split at h
  · cases h
  · split at h
    · cases h
    · rename_i h1 h2
      split at h
      · rename_i h3
        refine ⟨by omega, fun k hk => ok_gd ?_ (List.all_eq_true.1 h3 k hk)⟩
        cases hb : badK k with
        | false => rfl
        | true => exact absurd (List.any_eq_true.2 ⟨k, hk, hb⟩) h2
      · cases h

set_option maxRecDepth 100000 in
set_option maxHeartbeats 8000000 in
theorem stack_any (l : List Kd) (above below : Bool) (A : Option Addr) (cap : Nat) (w : World) (hR : Rd w w.heap.size 6 A l.length (kcells l)) (hl : l.length ≤ 4096) :
    Calls Try.prog 24 #[.slice A l.length cap, .bool above, .bool below] w (StackPost (stackF l above below) w) := by
  obtain ⟨E, hE⟩ : ∃ E, askedK l = E := ⟨_, rfl⟩
  have hck := fun W hR => check_any l A cap W hR hl
  rw [hE] at hck
  have HCK := hidd hck
  obtain ⟨RR, hRR⟩ : ∃ R, stackF l above below = R := ⟨_, rfl⟩
  rw [hRR]
  have HRR := hidd hRR
  have HE := hidd hE
  have hb1 := below_al (Below.refl w.heap.size w) (.cells #[.slice none 0 0, .int .i64 0, .int .i64 0, .int .i64 0, .int .i64 0, .int .i64 0, .bool false] 40)
  have h6 := Blk.new w 40 #[.slice none 0 0, .int .i64 0, .int .i64 0, .int .i64 0, .int .i64 0, .int .i64 0, .bool false]
  clear hck hRR hE
  go_enter Try.func24, Try.ntmps24
  go_upto_region 1 with (fail)
  obtain ⟨W1, hW1⟩ : ∃ W, w.alloc (.cells #[.slice none 0 0, .int .i64 0, .int .i64 0, .int .i64 0, .int .i64 0, .int .i64 0, .bool false] 40) = W := ⟨_, rfl⟩
  have hsz : W1.heap.size = w.heap.size + 1 := by rw [← hW1]; simp
  rw [hW1] at hb1 h6 ⊢
  obtain ⟨g6, hg6⟩ : ∃ k, w.heap.size = k := ⟨_, rfl⟩
  have hsz2 : W1.heap.size = g6 + 1 := by rw [hsz, hg6]
  have HSZ := hidd (And.intro hsz2 hg6)
  have hle6 : w.heap.size ≤ g6 := by omega
  have hle6' : g6 ≤ w.heap.size := by omega
  rw [hg6] at h6 ⊢
  clear hW1 hg6 hsz hsz2
  go_wp2_with (fail)
  refine (HCK.out W1 ((hR.below hb1).more hb1.size)).mono ?_
  rintro e w2 ⟨rfl, hb2⟩
  have hB2 := below_step hb1 hb2
  have h62 := h6.below hb2 h6.lt
  have hs2 : g6 + 1 ≤ w2.heap.size := by have := hb2.size; rw [HSZ.out.1] at this; exact this
  clear HCK hb1 h6 hb2
  by_cases hE0 : E = 0
  · have hne : (E != 0) = false := by simpa using hE0
    obtain ⟨hl2, hgd⟩ := asked_0 l (by rw [HE.out, hE0])
    obtain ⟨S, hS⟩ : ∃ S, runK l above = S := ⟨_, rfl⟩
    have hst : RR = if (fitsB (fin S below).ps && fitB (fin S below).ht) = true then ⟨fin S below, 0⟩ else ⟨sk0, 10⟩ := by
      rw [← HRR.out]; unfold stackF; rw [if_pos (by rw [HE.out, hE0]), hS]
    have hlenS : S.ps.length = l.length := by rw [← hS]; exact run_length l above
    have hgs := fun k hk => gdS_run (M := 1099511627776) (by omega) l above hgd k hk
    have HST := hidd (And.intro hst (And.intro hS (And.intro hlenS (And.intro hgd hgs))))
    clear hst hS hlenS hgd hgs hE0 HE HRR
    go_upto_region 5 with (fail)
    have hgp := Blk.new w2 60 (pcs (.slice none 0 0) 0 0 0 0 0 above)
    have h63 := h62.alloc (.cells (pcs (.slice none 0 0) 0 0 0 0 0 above) 60)
    have hB3 := below_al hB2 (.cells (pcs (.slice none 0 0) 0 0 0 0 0 above) 60)
    have hsg : w2.heap.size < (w2.alloc (.cells (pcs (.slice none 0 0) 0 0 0 0 0 above) 60)).heap.size := by simp
    obtain ⟨W3, hW3⟩ : ∃ W, w2.alloc (.cells #[.slice none 0 0, .int .i64 0, .int .i64 0, .int .i64 0, .int .i64 0, .int .i64 0, .bool false, .int .i64 0, .int .i64 0, .int .i64 0, .bool above] 60) = W := ⟨_, rfl⟩
    have hW3' : w2.alloc (.cells (pcs (.slice none 0 0) 0 0 0 0 0 above) 60) = W3 := hW3
    rw [hW3]
    rw [hW3'] at hgp h63 hB3 hsg
    obtain ⟨g, hg⟩ : ∃ g, w2.heap.size = g := ⟨_, rfl⟩
    rw [hg] at hgp hs2 hsg ⊢
    clear hW3 hW3' hg h62 hB2
    go_wp2_with (fail)
    go_loopw [24] (fun i wr => ∃ k : Nat, k ≤ l.length ∧ i = .int .i64 k ∧ Piled (runK (l.take k) above) g (g6 + 1) k wr ∧ Below (g6 + 1) W3 wr)
      (fun i _ => l.length - (intOf i).toNat)
    case atStart => exact ⟨0, Nat.zero_le _, rfl, ⟨none, 0, hgp, World.ownsRow_nil _ _ _ _⟩, Below.refl _ _⟩
    case round =>
      clear hgp
      obtain ⟨k, hk, rfl, hpl, hb⟩ := hrel
      obtain ⟨W, hW⟩ : ∃ W, wr = W := ⟨_, rfl⟩
      rw [hW] at hpl hb ⊢
      clear hW
      clear wr
      have hBW := hB3.trans (hb.mono (by omega))
      have hbs : g6 + 1 ≤ W.heap.size := by have := hb.size; omega
      by_cases hlt : k < l.length
      · obtain ⟨b, off, rfl, hbB, hc⟩ := hR.2 (by omega)
        have hx0 := (hBW.cell (p := ⟨b, off + (k * 6 + 0), none⟩) hbB).trans (hc _ _ (kcell l k 0 hlt (by omega)))
        have hx1 := (hBW.cell (p := ⟨b, off + (k * 6 + 1), none⟩) hbB).trans (hc _ _ (kcell l k 1 hlt (by omega)))
        have hx2 := (hBW.cell (p := ⟨b, off + (k * 6 + 2), none⟩) hbB).trans (hc _ _ (kcell l k 2 hlt (by omega)))
        have hx3 := (hBW.cell (p := ⟨b, off + (k * 6 + 3), none⟩) hbB).trans (hc _ _ (kcell l k 3 hlt (by omega)))
        have hx4 := (hBW.cell (p := ⟨b, off + (k * 6 + 4), none⟩) hbB).trans (hc _ _ (kcell l k 4 hlt (by omega)))
        have hx5 := (hBW.cell (p := ⟨b, off + (k * 6 + 5), none⟩) hbB).trans (hc _ _ (kcell l k 5 hlt (by omega)))
        have hstep := run_step l above k hlt
        have hgk := HST.out.2.2.2.1 l[k] (List.getElem_mem _)
        have hgS := HST.out.2.2.2.2 k (by omega)
        obtain ⟨s, hs⟩ : ∃ s, l[k] = s := ⟨_, rfl⟩
        rw [hs] at hx0 hx1 hx2 hx3 hx4 hx5 hstep hgk
        simp only [← Nat.add_assoc, Nat.add_zero] at hx0 hx1 hx2 hx3 hx4 hx5
        have hput : ∀ W', Below W.heap.size W W' → Calls Try.prog 36 #[.pointer (some ⟨g, 0, none⟩), .agg #[.int .i64 s.tp.up, .int .i64 s.tp.dn, .int .i64 s.bt.up, .int .i64 s.bt.dn, .int .i64 s.ht, .bool s.th]] W' (PutPost (runK (l.take (k + 1)) above) g (g6 + 1) (k + 1) W') := fun W' hbb => by
          obtain ⟨A', c', h1, h2⟩ := hpl
          rw [hstep]
          exact put_any _ s g (g6 + 1) k W' (Nat.le_trans hbs hbb.size) hs2 (by omega) ⟨A', c', h1.below hbb h1.lt, own_below h2 hbb⟩ hgS hgk
        have HPUT := hidd hput
        clear hput hstep hgk hgS hc hs hpl hR
        go_wp2_with (fail)
        refine (HPUT.out _ (below_al (Below.refl _ _) _)).mono ?_
        rintro e W5 ⟨⟨r, rfl⟩, hpl5, hb5⟩
        have hb6 := hb.trans ((Below.alloc (Below.refl (g6 + 1) W) hbs _).trans hb5)
        clear HPUT hx0 hx1 hx2 hx3 hx4 hx5 hb5 hb hBW
        go_wp2_with (fail)
        go_roundw
        case rel => exact ⟨k + 1, by omega, by go_num, hpl5, hb6⟩
        case measure => simp [intOf]; omega
      · have hkk : k = l.length := by omega
        subst hkk
        rw [List.take_length, HST.out.2.1] at hpl
        have hgS := HST.out.2.2.2.2 l.length (Nat.le_refl _)
        rw [List.take_length, HST.out.2.1] at hgS
        have hend := end_any S below g (g6 + 1) l.length W hbs hs2 (by omega) hpl hgS
        have HEND := hidd hend
        have h6W := h63.below hb (by omega)
        have hps := fin_ps S below
        obtain ⟨F, hF⟩ : ∃ F, fin S below = F := ⟨_, rfl⟩
        have HST2 : Hid (RR = (if (fitsB F.ps && fitB F.ht) = true then ⟨F, 0⟩ else ⟨sk0, 10⟩) ∧ F.ps.length = l.length ∧ F.ps = S.ps) := by
          rw [← hF]; exact ⟨HST.out.1, by rw [hps]; exact HST.out.2.2.1, hps⟩
        rw [hF] at hend
        have HEND2 := hidd hend
        clear hend hgS hpl h63 hB3 hps hF HST HEND hb hR
        unfold SkVal at HEND2
        go_wp2_with (fail)
        refine (HEND2.out).mono ?_
        rintro e W5 ⟨⟨A5, c5, rfl, own5⟩, hb5⟩
        have h65 := h6W.below hb5 (by omega)
        have hB5 := hBW.trans (hb5.mono (by omega))
        have hbs5 : g6 + 1 ≤ W5.heap.size := Nat.le_trans hbs hb5.size
        clear HEND2 h6W hb5 hBW hbs
        obtain ⟨ps, fh, ⟨ftu, ftd⟩, ⟨fbu, fbd⟩, fth⟩ := F
        have hpl := HST2.out.2.1
        have hpe := HST2.out.2.2
        simp only at hpl hpe
        subst hpe
        have hlp : Hid (S.ps.length = l.length) := hpl
        clear hpl
        obtain ⟨r1, hr1⟩ : ∃ r, fitsB S.ps = r := ⟨_, rfl⟩
        obtain ⟨r2, hr2⟩ : ∃ r, fitB fh = r := ⟨_, rfl⟩
        have HR1 := hidd hr1
        have HR2 := hidd (show fitsB [fh] = r2 by simp [fitsB, hr2])
        have HRF : Hid (RR = if (r1 && r2) = true then ⟨⟨S.ps, fh, ⟨ftu, ftd⟩, ⟨fbu, fbd⟩, fth⟩, 0⟩ else ⟨sk0, 10⟩) := by
          have := HST2.out.1
          simp only [hr1, hr2] at this
          exact this
        clear hr1 hr2 HST2
        go_upto_region 11 with (fail)
        have h12 := Blk.new W5 40 #[.slice A5 l.length c5, .int .i64 fh, .int .i64 ftu, .int .i64 ftd, .int .i64 fbu, .int .i64 fbd, .bool fth]
        have hq5 := below_al (Below.refl W5.heap.size W5) (.cells #[.slice A5 l.length c5, .int .i64 fh, .int .i64 ftu, .int .i64 ftd, .int .i64 fbu, .int .i64 fbd, .bool fth] 40)
        have rd5 := ((Rd.of_own own5).below hq5).more hq5.size
        clear hq5
        have own6 := own5.alloc (.cells #[.slice A5 l.length c5, .int .i64 fh, .int .i64 ftu, .int .i64 ftd, .int .i64 fbu, .int .i64 fbd, .bool fth] 40)
        replace h65 := h65.alloc (.cells #[.slice A5 l.length c5, .int .i64 fh, .int .i64 ftu, .int .i64 ftd, .int .i64 fbu, .int .i64 fbd, .bool fth] 40)
        replace hB5 := below_al hB5 (.cells #[.slice A5 l.length c5, .int .i64 fh, .int .i64 ftu, .int .i64 ftd, .int .i64 fbu, .int .i64 fbd, .bool fth] 40)
        have hbs6 : g6 < W5.heap.size := by omega
        have h12l := h12.lt
        clear own5
        obtain ⟨W6, hW6⟩ : ∃ W, W5.alloc (.cells #[.slice A5 l.length c5, .int .i64 fh, .int .i64 ftu, .int .i64 ftd, .int .i64 fbu, .int .i64 fbd, .bool fth] 40) = W := ⟨_, rfl⟩
        rw [hW6] at h12 own6 h65 hB5 rd5 h12l ⊢
        obtain ⟨g12, hg12⟩ : ∃ k, W5.heap.size = k := ⟨_, rfl⟩
        rw [hg12] at h12 h12l hbs6 ⊢
        clear hW6 hg12
        have e0 := h12.cell 0
        have e1 := h12.cell 1
        simp at e0 e1
        have HRD := hidd rd5
        clear rd5
        go_wp2_with (fail)
        refine (fits_len S.ps A5 l.length c5 W6 HRD.out hlp.out (by omega) r1 HR1.out).mono ?_
        rintro e W7 ⟨rfl, rfl⟩
        clear HRD
        cases r1 with
        | false =>
          have c0 := h65.cell 0
          have c1 := h65.cell 1
          have c2 := h65.cell 2
          have c3 := h65.cell 3
          have c4 := h65.cell 4
          have c5' := h65.cell 5
          have c6 := h65.cell 6
          have cf := h65.frozen
          simp at c0 c1 c2 c3 c4 c5' c6
          clear e0 e1
          go_wp2_with (fail)
          refine bodyPost_ret (v := .tuple #[.agg #[.slice none 0 0, .int .i64 0, .int .i64 0, .int .i64 0, .int .i64 0, .int .i64 0, .bool false], .int .i64 10]) (by simp [results, Try.results24, go_sem, c0, c1, c2, c3, c4, c5', c6]) rfl ?_
          rw [HRF.out]
          exact ⟨none, 0, rfl, World.ownsRow_nil _ _ _ _, (((((((hB5.setCell (p := ⟨g6, 0, none⟩) hle6 _).setCell (p := ⟨g6, 1, none⟩) hle6 _).setCell (p := ⟨g6, 2, none⟩) hle6 _).setCell (p := ⟨g6, 3, none⟩) hle6 _).setCell (p := ⟨g6, 4, none⟩) hle6 _).setCell (p := ⟨g6, 5, none⟩) hle6 _).setCell (p := ⟨g6, 6, none⟩) hle6 _)⟩
        | true =>
          go_wp2_with (fail)
          refine (fits_blk [fh] r2 W6.heap.size 1 1 #[.int .i64 fh] _ (Blk.new W6 3 _) rfl rfl HR2.out (by decide)).mono ?_
          rintro e W8 ⟨rfl, rfl⟩
          clear e0 e1
          replace h12 := h12.alloc (.cells #[.int .i64 fh] 3)
          replace h65 := h65.alloc (.cells #[.int .i64 fh] 3)
          replace own6 := own6.alloc (.cells #[.int .i64 fh] 3)
          replace hB5 := below_al hB5 (.cells #[.int .i64 fh] 3)
          obtain ⟨W8, hW8⟩ : ∃ W, W6.alloc (.cells #[.int .i64 fh] 3) = W := ⟨_, rfl⟩
          rw [hW8] at h12 own6 h65 hB5 ⊢
          clear hW8
          have c0 := h65.cell 0
          have c1 := h65.cell 1
          have c2 := h65.cell 2
          have c3 := h65.cell 3
          have c4 := h65.cell 4
          have c5' := h65.cell 5
          have c6 := h65.cell 6
          have cf := h65.frozen
          simp at c0 c1 c2 c3 c4 c5' c6
          cases r2 with
          | false =>
            go_wp2_with (fail)
            refine bodyPost_ret (v := .tuple #[.agg #[.slice none 0 0, .int .i64 0, .int .i64 0, .int .i64 0, .int .i64 0, .int .i64 0, .bool false], .int .i64 10]) (by simp [results, Try.results24, go_sem, c0, c1, c2, c3, c4, c5', c6]) rfl ?_
            rw [HRF.out]
            exact ⟨none, 0, rfl, World.ownsRow_nil _ _ _ _, (((((((hB5.setCell (p := ⟨g6, 0, none⟩) hle6 _).setCell (p := ⟨g6, 1, none⟩) hle6 _).setCell (p := ⟨g6, 2, none⟩) hle6 _).setCell (p := ⟨g6, 3, none⟩) hle6 _).setCell (p := ⟨g6, 4, none⟩) hle6 _).setCell (p := ⟨g6, 5, none⟩) hle6 _).setCell (p := ⟨g6, 6, none⟩) hle6 _)⟩
          | true =>
            have e0 := h12.cell 0
            have e1 := h12.cell 1
            have e2 := h12.cell 2
            have e3 := h12.cell 3
            have e4 := h12.cell 4
            have e5 := h12.cell 5
            have e6 := h12.cell 6
            simp at e0 e1 e2 e3 e4 e5 e6
            go_wp2_with (fail)
            refine bodyPost_ret (v := .tuple #[.agg #[.slice A5 l.length c5, .int .i64 fh, .int .i64 ftu, .int .i64 ftd, .int .i64 fbu, .int .i64 fbd, .bool fth], .int .i64 0]) (by simp [results, Try.results24, go_sem, c0, c1, c2, c3, c4, c5', c6]) rfl ?_
            rw [HRF.out]
            simp only [Bool.and_self, if_true]
            refine ⟨A5, c5, ?_, ?_, (((((((hB5.setCell (p := ⟨g6, 0, none⟩) hle6 _).setCell (p := ⟨g6, 1, none⟩) hle6 _).setCell (p := ⟨g6, 2, none⟩) hle6 _).setCell (p := ⟨g6, 3, none⟩) hle6 _).setCell (p := ⟨g6, 4, none⟩) hle6 _).setCell (p := ⟨g6, 5, none⟩) hle6 _).setCell (p := ⟨g6, 6, none⟩) hle6 _)⟩
            · simp only [SkVal, hlp.out]
            · simp only [hlp.out]
              refine own_base (base' := g6 + 1) ?_ (by omega)
              have hnb := own_ne own6 h65 (by decide)
              exact own_far (own_far (own_far (own_far (own_far (own_far (own_far own6 (p := ⟨g6, 0, none⟩) hnb _) (p := ⟨g6, 1, none⟩) hnb _) (p := ⟨g6, 2, none⟩) hnb _) (p := ⟨g6, 3, none⟩) hnb _) (p := ⟨g6, 4, none⟩) hnb _) (p := ⟨g6, 5, none⟩) hnb _) (p := ⟨g6, 6, none⟩) hnb _
  · have hne : (E != 0) = true := by simpa using hE0
    have c0 := h62.cell 0
    have c1 := h62.cell 1
    have c2 := h62.cell 2
    have c3 := h62.cell 3
    have c4 := h62.cell 4
    have c5 := h62.cell 5
    have c6 := h62.cell 6
    have cf := h62.frozen
    simp at c0 c1 c2 c3 c4 c5 c6
    have HN := hidd (stack_no l above below E HE.out hE0)
    clear hE0 HE
    go_wp2_with (fail)
    refine bodyPost_ret (v := .tuple #[.agg #[.slice none 0 0, .int .i64 0, .int .i64 0, .int .i64 0, .int .i64 0, .int .i64 0, .bool false], .int .i64 E]) (by simp [results, Try.results24, go_sem, c0, c1, c2, c3, c4, c5, c6]) rfl ?_
    rw [← HRR.out, HN.out]
    exact ⟨none, 0, rfl, World.ownsRow_nil _ _ _ _, ((((((hB2.setCell (p := ⟨g6, 0, none⟩) hle6 _).setCell (p := ⟨g6, 1, none⟩) hle6 _).setCell (p := ⟨g6, 2, none⟩) hle6 _).setCell (p := ⟨g6, 3, none⟩) hle6 _).setCell (p := ⟨g6, 4, none⟩) hle6 _).setCell (p := ⟨g6, 5, none⟩) hle6 _).setCell (p := ⟨g6, 6, none⟩) hle6 _⟩
end Go.Proofs.Ytbcojkfndegjmaa
