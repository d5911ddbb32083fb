/- Contract: the reference's Stack. -/
import Derived.Test.YtbcojkfndegjmaaRAsked
namespace Go.Proofs.Ytbcojkfndegjmaa
open Go.RowKit
set_option linter.unusedVariables false
attribute [local go_sem ↓] run_max run_min

def RSt (s : St) (go gw g6 B n : Nat) (W : World) : Prop := ∃ A c, Blk W go 40 #[.slice A n c, .int .i64 0, .int .i64 s.tp.up, .int .i64 s.tp.dn, .int .i64 0, .int .i64 0, .bool false] ∧ Blk W gw 24 #[.int .i64 s.w.up, .int .i64 s.w.dn] ∧
  Blk W g6 40 #[.slice none 0 0, .int .i64 0, .int .i64 0, .int .i64 0, .int .i64 0, .int .i64 0, .bool false] ∧ W.ownsRow B 3 1 (.slice A n c) n (icells s.ps)
theorem sum3 (y u d P : Int) (h1 : -2000000000000000000 ≤ y) (h2 : y ≤ 2000000000000000000) (h3 : 0 ≤ u) (h4 : u ≤ 1099511627776) (h5 : -1099511627776 ≤ d) (h6 : d ≤ 0) (h : y + (u + d) = P) :
    (IntKind.i64.wrap (y + u) = y + u ∧ IntKind.i64.wrap (y + u + d) = P) ∧ wrap64 (y + u) = y + u ∧ wrap64 (y + u + d) = P := by
  refine ⟨⟨IntWalk.i64_in _ ⟨by omega, by omega⟩, ?_⟩, IntWalk.wrap64_in _ ⟨by omega, by omega⟩, ?_⟩
  · rw [IntWalk.i64_in _ ⟨by omega, by omega⟩]; omega
  · rw [IntWalk.wrap64_in _ ⟨by omega, by omega⟩]; omega
set_option maxRecDepth 100000 in
set_option maxHeartbeats 16000000 in
theorem rstack_any (l : List Kd) (above below : Bool) (A : Option Addr) (cap : Nat) (w : World) (hR : Rd w w.heap.size 6 A l.length (kcells l)) (hl : l.length ≤ 4096) (RR : Rs) (hRR : stackF l above below = RR) (n : Nat) (hn : RR.sk.ps.length = n) :
    Calls Try.prog 23 #[.slice A l.length cap, .bool above, .bool below] w (LitPost n RR w) := by
  obtain ⟨i0, hi, hz0, hz1, hz2⟩ := info_parts info3
  have HI := hidd (And.intro hi (And.intro hz0 (And.intro hz1 hz2)))
  clear hi hz0 hz1 hz2
  obtain ⟨E, hE⟩ : ∃ E, askedK l = E := ⟨_, rfl⟩
  have HCK := hidd (fun W hR => rasked_any l A cap W hR hl E hE)
  have HRR := hidd hRR
  have HE := hidd hE
  have HN := hidd hn
  clear hRR hE hn
  have hb1 := below_al (Below.refl w.heap.size w) (.cells #[.slice none 0 0, .int .i64 0, .int .i64 0, .int .i64 0, .int .i64 0, .int .i64 0, .bool false] 40)
  have h6 := Blk.new w 40 #[.slice none 0 0, .int .i64 0, .int .i64 0, .int .i64 0, .int .i64 0, .int .i64 0, .bool false]
  go_enter Try.func23, Try.ntmps23
  go_upto_region 1 with (fail)
  obtain ⟨W1, hW1⟩ : ∃ W, w.alloc (.cells #[.slice none 0 0, .int .i64 0, .int .i64 0, .int .i64 0, .int .i64 0, .int .i64 0, .bool false] 40) = W := ⟨_, rfl⟩
  rw [hW1] at hb1 h6 ⊢
  obtain ⟨g6, hg6⟩ : ∃ k, w.heap.size = k := ⟨_, rfl⟩
  have hle6 : w.heap.size ≤ g6 := by omega
  rw [hg6] at h6 ⊢
  clear hW1 hg6
  go_wp2_with (fail)
  refine (HCK.out W1 ((hR.below hb1).more hb1.size)).mono ?_
  rintro e w2 ⟨rfl, hb2⟩
  have hB2 := below_step hb1 hb2
  have h62 := h6.below hb2 h6.lt
  clear HCK hb1 h6 hb2
  have y0 := h62.cell 0
  have y1 := h62.cell 1
  have y2 := h62.cell 2
  have y3 := h62.cell 3
  have y4 := h62.cell 4
  have y5 := h62.cell 5
  have y6 := h62.cell 6
  have yf := h62.frozen
  simp at y0 y1 y2 y3 y4 y5 y6
  by_cases hE0 : E = 0
  · have hne : (E != 0) = false := by simpa using hE0
    obtain ⟨hl2, hgd⟩ := asked_0 l (by rw [HE.out, hE0])
    have hst : RR = if (fitsB (fin (runK l above) below).ps && fitB (fin (runK l above) below).ht) = true then ⟨fin (runK l above) below, 0⟩ else ⟨sk0, 10⟩ := by
      rw [← HRR.out]; unfold stackF; rw [if_pos (by rw [HE.out, hE0])]
    have hlenS := run_length l above
    have hgs := fun k hk => gdS_run (M := 1099511627776) (by omega) l above hgd k hk
    have HF := hidd (And.intro hst (And.intro hlenS (And.intro hgd hgs)))
    clear hst hlenS hgd hgs hE0 HE HRR y0 y1 y2 y3 y4 y5 y6 yf
    go_upto_region 6 with (fail)
    have hgo0 := (Blk.new w2 40 #[.slice none 0 0, .int .i64 0, .int .i64 0, .int .i64 0, .int .i64 0, .int .i64 0, .bool false]).alloc (.cells #[.int .i64 0, .int .i64 0] 24)
    have hgw0 := Blk.new (w2.alloc (.cells #[.slice none 0 0, .int .i64 0, .int .i64 0, .int .i64 0, .int .i64 0, .int .i64 0, .bool false] 40)) 24 #[.int .i64 0, .int .i64 0]
    have hg60 := (h62.alloc (.cells #[.slice none 0 0, .int .i64 0, .int .i64 0, .int .i64 0, .int .i64 0, .int .i64 0, .bool false] 40)).alloc (.cells #[.int .i64 0, .int .i64 0] 24)
    have hB0 := below_al (below_al hB2 (.cells #[.slice none 0 0, .int .i64 0, .int .i64 0, .int .i64 0, .int .i64 0, .int .i64 0, .bool false] 40)) (.cells #[.int .i64 0, .int .i64 0] 24)
    rw [World.size_alloc] at hgw0
    have h62l := h62.lt
    have hle2 : w.heap.size ≤ w2.heap.size := hB2.size
    obtain ⟨W3, hW3⟩ : ∃ Z, (w2.alloc (.cells #[.slice none 0 0, .int .i64 0, .int .i64 0, .int .i64 0, .int .i64 0, .int .i64 0, .bool false] 40)).alloc (.cells #[.int .i64 0, .int .i64 0] 24) = Z := ⟨_, rfl⟩
    rw [hW3] at hgo0 hgw0 hg60 hB0 ⊢
    clear hW3
    obtain ⟨gw, hgwe⟩ : ∃ g, w2.heap.size + 1 = g := ⟨_, rfl⟩
    obtain ⟨go, hgoe⟩ : ∃ g, w2.heap.size = g := ⟨_, rfl⟩
    have hle : w.heap.size ≤ gw := by omega
    have hne1 : go ≠ gw := by omega
    have hne2 : g6 ≠ gw := by omega
    have hne3 : g6 ≠ go := by omega
    rw [hgwe] at hgw0 ⊢
    rw [hgoe] at hgo0 hle2 ⊢
    clear hgwe hgoe h62 h62l hB2
    go_wp2_with (fail)
    go_loopw [10, 12, 13] (fun yv ov i wr => ∃ (k : Nat) (y : Int) (out : Bool), k ≤ l.length ∧ i = .int .i64 k ∧ yv = .int .i64 y ∧ ov = .bool out ∧ Hid ((runK (l.take k) above).y = y ∧ (runK (l.take k) above).out = out) ∧ RSt (runK (l.take k) above) go gw g6 w.heap.size k wr ∧ Below w.heap.size w wr)
      (fun _ _ i _ => l.length - (intOf i).toNat)
    case atStart => exact ⟨0, 0, above, Nat.zero_le _, rfl, rfl, rfl, hidd ⟨rfl, rfl⟩, ⟨none, 0, hgo0, hgw0, hg60, World.ownsRow_nil _ _ _ _⟩, hB0⟩
    case round =>
      clear hgo0 hgw0 hg60 hB0
      obtain ⟨k, y9, out9, hk, rfl, rfl, rfl, hyo, hst, hB⟩ := hrel
      obtain ⟨W, hW⟩ : ∃ W, wr = W := ⟨_, rfl⟩
      rw [hW] at hst hB ⊢
      clear hW
      clear wr
      by_cases hlt : k < l.length
      · obtain ⟨b, off, rfl, hbB, hc⟩ := hR.2 (by omega)
        have hc0 := hc _ _ (kcell l k 0 hlt (by omega))
        have hc1 := hc _ _ (kcell l k 1 hlt (by omega))
        have hc2 := hc _ _ (kcell l k 2 hlt (by omega))
        have hc3 := hc _ _ (kcell l k 3 hlt (by omega))
        have hc4 := hc _ _ (kcell l k 4 hlt (by omega))
        have hc5 := hc _ _ (kcell l k 5 hlt (by omega))
        have hstep := run_step l above k hlt
        have hgk := HF.out.2.2.1 l[k] (List.getElem_mem _)
        have hgS := HF.out.2.2.2 k (by omega)
        have hpb := posK_in (by omega) hgS hgk
        have hgS2 := HF.out.2.2.2 (k + 1) (by omega)
        rw [bnd_eq] at hpb
        obtain ⟨s, hs⟩ : ∃ s, l[k] = s := ⟨_, rfl⟩
        rw [hs] at hc0 hc1 hc2 hc3 hc4 hc5 hstep hgk hpb
        obtain ⟨q, hq⟩ : ∃ q, runK (l.take k) above = q := ⟨_, rfl⟩
        obtain ⟨hy9, ho9⟩ := hyo.out
        rw [hq] at hstep hst hgS hpb hy9 ho9
        obtain ⟨ps, ⟨tu, td⟩, y, ⟨wu, wd⟩, out⟩ := q
        simp only at hy9 ho9
        subst hy9
        subst ho9
        clear hyo
        obtain ⟨⟨ku, kd⟩, ⟨bu, bd⟩, ht, th⟩ := s
        simp only [← Nat.add_assoc, Nat.add_zero] at hc0 hc1 hc2 hc3 hc4 hc5
        have HCC := hidd (And.intro hc0 (And.intro hc1 (And.intro hc2 (And.intro hc3 (And.intro hc4 hc5)))))
        obtain ⟨A, c, hgo, hgw, hg6, hown⟩ := hst
        simp only at hgo hgw hown
        obtain ⟨⟨s1, s2⟩, s3, s4⟩ := hgS.1
        obtain ⟨s5, s6⟩ := hgS.2.2.1
        obtain ⟨⟨k1, k2⟩, ⟨⟨k3, k4⟩, k5, k6⟩, ⟨k7, k8⟩, k9, ka⟩ := hgk
        rw [bnd_eq] at s5 s6
        simp only at s1 s2 s3 s4 s5 s6 k1 k2 k3 k4 k5 k6 k7 k8 k9 ka
        obtain ⟨M1, hM1⟩ : ∃ M, mj (⟨wu, wd⟩ : Mg) ⟨ku, kd⟩ = M := ⟨_, rfl⟩
        have hU : M1.up = max wu ku := by rw [← hM1]; rfl
        have hD : M1.dn = min wd kd := by rw [← hM1]; rfl
        obtain ⟨U1, D1⟩ := M1
        simp only at hU hD
        have u1 : 0 ≤ U1 := by omega
        have u2 : U1 ≤ 1099511627776 := by omega
        have u3 : -1099511627776 ≤ D1 := by omega
        have u4 : D1 ≤ 0 := by omega
        have HJ1 := hidd hM1
        obtain ⟨M2, hM2⟩ : ∃ M, mj (⟨U1, D1⟩ : Mg) ⟨bu, bd⟩ = M := ⟨_, rfl⟩
        obtain ⟨U2, D2⟩ := M2
        have HJ2 := hidd hM2
        obtain ⟨P, hP⟩ : ∃ P, y + (U1 + D1) = P := ⟨_, rfl⟩
        have hp0 : posK ⟨ps, ⟨tu, td⟩, y, ⟨wu, wd⟩, out⟩ ⟨⟨ku, kd⟩, ⟨bu, bd⟩, ht, th⟩ = if out = true then y else P := by
          unfold posK
          simp only [hM1, Mg.v, hP]
        rw [hp0] at hpb
        have hput : put ⟨ps, ⟨tu, td⟩, y, ⟨wu, wd⟩, out⟩ ⟨⟨ku, kd⟩, ⟨bu, bd⟩, ht, th⟩ = if th = true then ⟨ps ++ [if out = true then y else P], ⟨tu, td⟩, y, ⟨U2, D2⟩, out⟩ else ⟨ps ++ [if out = true then y else P], if out = true then ⟨U1, D1⟩ else ⟨tu, td⟩, (if out = true then y else P) + ht, ⟨bu, bd⟩, false⟩ := by
          unfold put
          rw [hp0]
          simp only [hM1, hM2]
        rw [hput] at hstep
        have hs3 := sum3 y U1 D1 P (by omega) (by omega) u1 u2 u3 u4 hP
        have HPW := hidd hs3
        have HSX := hidd (And.intro hstep hpb)
        obtain ⟨hi, hz0, hz1, hz2⟩ := HI.out
        have hne10 : gw ≠ go := Ne.symm hne1
        clear hc hR hs hq hc0 hc1 hc2 hc3 hc4 hc5 hstep hM1 hM2 hP hp0 hput hpb hs3 hgS hgS2 HF HN hU hD s1 s2 s3 s4
        have z0 := hgw.cell 0
        have z1 := hgw.cell 1
        simp at z0 z1
        have hx0 := (hB.cell (p := ⟨b, off + k * 6, none⟩) hbB).trans HCC.out.1
        have hx1 := (hB.cell (p := ⟨b, off + k * 6 + 1, none⟩) hbB).trans HCC.out.2.1
        have bW := Nat.lt_of_lt_of_le hbB hB.size
        have gwl := hgw.lt
        have k0 : (0 : Int) ≤ (k : Int) := Int.natCast_nonneg _
        have kk1 : (k : Int) < (l.length : Int) := by omega
        go_wp2_with (fail)
        refine region_ord [(0, true), (1, true), (2, true), (3, true), (4, true), (5, true), (6, false), (7, false)]
          (fun w' => Below W.heap.size W w' ∧ ∀ b o, b < W.heap.size → w'.cell? ⟨b, o, none⟩ = W.cell? ⟨b, o, none⟩) 7 (by kernel_rfl) (by kernel_rfl) (by kernel_rfl) (by kernel_rfl) (by intro c a d v w h; cases d <;> exact h) (ext_of (Below.drew (Below.refl _ _))) ?_
        simp only [List.map_cons, List.map_nil, List.getElem?_toArray, List.getElem?_cons_succ, List.getElem?_cons_zero]
        have hD0 : Below W.heap.size W W.drew := Below.drew (Below.refl _ _)
        iterate 6 (first
          | (with_reducible refine L_yes ?_ ?_
             focus (go_simp; done)
             apply Exists.intro
             refine ⟨?_, ?_⟩
             (rintro w' ⟨_, hce⟩
              go_simp
              first | done | rfl | (rw [ite_next]))
             simp only [Act.put, List.setIfInBounds_toArray, List.set_cons_zero, List.set_cons_succ])
          | (with_reducible refine L_no ?_ ?_
             focus (go_simp; first | done | (intro h; cases h))
             simp only [Act.put, List.setIfInBounds_toArray, List.set_cons_zero, List.set_cons_succ]))
        with_reducible refine L_main ?_ ?_
        focus (go_simp; done)
        intro K hK
        go_simp
        refine (rjoin2_val wu wd ku kd U1 D1 HJ1.out _).mono ?_
        rintro e v9 ⟨rfl, hbN⟩
        have hD0_1 := below_step hD0 hbN
        have hwB := hgw.drew.below hbN hgw.lt
        have fz := hwB.frozen
        have z0 := hwB.cell 0
        have z1 := hwB.cell 1
        simp at z0 z1
        clear hbN
        dsimp only
        refine hK _ _ (fun _ => ext_of hD0_1) (fun hSx => ?_)
        clear hSx hK K
        with_reducible refine L_main ?_ ?_
        focus (go_simp; done)
        intro K hK
        go_simp
        refine hK _ _ (fun h => absurd rfl h) (fun hSx => ?_)
        clear hSx hK K
        refine L_nil ?_
        clear hx0 hx1 bW gwl
        have hgo9 := hgo.below hD0_1 hgo.lt
        have hg69 := hg6.below hD0_1 hg6.lt
        have hgw9 := hgw.below hD0_1 hgw.lt
        have hown9 := own_below hown hD0_1
        have hB9 := hB.trans (hD0_1.mono hB.size)
        have hgoN := (hgo9.far (p := ⟨gw, 0, none⟩) hne1 (.int .i64 U1)).far (p := ⟨gw, 1, none⟩) hne1 (.int .i64 D1)
        have hg6N := (hg69.far (p := ⟨gw, 0, none⟩) hne2 (.int .i64 U1)).far (p := ⟨gw, 1, none⟩) hne2 (.int .i64 D1)
        have hgwN := Blk.to ((hgw9.set_ 0 (.int .i64 U1)).set_ 1 (.int .i64 D1)) (cs' := #[.int .i64 U1, .int .i64 D1]) (by simp)
        have hownN := own_far (own_far hown9 (p := ⟨gw, 0, none⟩) (own_ne hown9 hgw9 (by decide)) (.int .i64 U1)) (p := ⟨gw, 1, none⟩) (own_ne hown9 hgw9 (by decide)) (.int .i64 D1)
        have hBN := (hB9.setCell (p := ⟨gw, 0, none⟩) hle (.int .i64 U1)).setCell (p := ⟨gw, 1, none⟩) hle (.int .i64 D1)
        obtain ⟨W1, hW1⟩ : ∃ Z, (v9.setCell ⟨gw, 0, none⟩ (.int .i64 U1)).setCell ⟨gw, 1, none⟩ (.int .i64 D1) = Z := ⟨_, rfl⟩
        rw [hW1] at hgoN hg6N hgwN hownN hBN ⊢
        clear hW1 hgo9 hg69 hgw9 hown9 hB9 hgo hg6 hgw hown hB hD0 hD0_1 hwB fz z0 z1
        obtain ⟨W, hW⟩ : ∃ Z, W1 = Z := ⟨_, rfl⟩
        rw [hW] at hgoN hg6N hgwN hownN hBN ⊢
        clear hW
        have hgo := hgoN
        have hg6 := hg6N
        have hgw := hgwN
        have hown := hownN
        have hB := hBN
        clear hgoN hg6N hgwN hownN hBN
        cases out with
        | true =>
          cases th with
          | true =>
            have HST : Hid (runK (l.take (k + 1)) above = ⟨ps ++ [y], ⟨tu, td⟩, y, ⟨U2, D2⟩, true⟩) := HSX.out.1
            clear HSX HPW
            have hw0 := hgo.cell 0
            simp at hw0
            have hwf := hgo.frozen
            go_wp2_with (at_builtin; refine wpList_append_src _ rfl _ _ 35 rfl w.heap.size 3 i0 (.int .i64 0) 1 8 Try.underlying35 hi hz0 hz1 hz2 rfl (by decide) (.slice A k c) k _ rfl (hown.alloc (.cells #[.int .i64 y] 3)) (W.alloc (.cells #[.int .i64 y] 3)).heap.size (some ⟨W.heap.size, 0, none⟩) 1 1 [.int .i64 y] rfl (Rd.blk (Blk.new W 3 #[.int .i64 y]) 1 1 rfl) (by simp [Value.oneCell']) (by unfold maxLen; omega) (by omega) (by have := hB.size; simp; omega) ?_)
            intro v' w2 hown' hgr
            have hgoM := (hgo.alloc (.cells #[.int .i64 y] 3)).grown hgr (fun e => own_ne hown hgo (by decide) e.symm)
            have hg6M := (hg6.alloc (.cells #[.int .i64 y] 3)).grown hgr (fun e => own_ne hown hg6 (by decide) e.symm)
            have hgwM := (hgw.alloc (.cells #[.int .i64 y] 3)).grown hgr (fun e => own_ne hown hgw (by decide) e.symm)
            have hBM := (below_al hB (.cells #[.int .i64 y] 3)).grown hgr (below_al hB _).size (fun q hq => (hown.lt q hq).1)
            obtain ⟨A', c', rfl, hrdx⟩ := own_slice hown'
            have hwf2 := hgoM.frozen
            have hw02 := hgoM.cell 0
            simp at hw02
            clear hrdx hgr hwf hw0 hgo hg6 hgw hown hB
            go_upto_region 14 with (fail)
            have hgoN := Blk.to (hgoM.set_ 0 (.slice A' (k + 1) c')) (cs' := #[.slice A' (k + 1) c', .int .i64 0, .int .i64 tu, .int .i64 td, .int .i64 0, .int .i64 0, .bool false]) (by simp)
            have hg6N := hg6M.far (p := ⟨go, 0, none⟩) hne3 (.slice A' (k + 1) c')
            have hgwN := hgwM.far (p := ⟨go, 0, none⟩) (Ne.symm hne1) (.slice A' (k + 1) c')
            have hownN := own_far hown' (p := ⟨go, 0, none⟩) (own_ne hown' hgoM (by decide)) (.slice A' (k + 1) c')
            have hBN := hBM.setCell (p := ⟨go, 0, none⟩) hle2 (.slice A' (k + 1) c')
            clear hgoM hg6M hgwM hBM hown' hwf2 hw02
            obtain ⟨W, hW⟩ : ∃ Z, w2.setCell ⟨go, 0, none⟩ (.slice A' (k + 1) c') = Z := ⟨_, rfl⟩
            rw [hW] at hgoN hg6N hgwN hownN hBN ⊢
            clear hW
            have hgo := hgoN
            have hg6 := hg6N
            have hgw := hgwN
            have hown := hownN
            have hB := hBN
            clear hgoN hg6N hgwN hownN hBN
            clear w2
            have hx2 := (hB.cell (p := ⟨b, off + k * 6 + 2, none⟩) hbB).trans HCC.out.2.2.1
            have hx3 := (hB.cell (p := ⟨b, off + k * 6 + 3, none⟩) hbB).trans HCC.out.2.2.2.1
            have hx5 := (hB.cell (p := ⟨b, off + k * 6 + 5, none⟩) hbB).trans HCC.out.2.2.2.2.2
            have bW := Nat.lt_of_lt_of_le hbB hB.size
            have z0 := hgw.cell 0
            have z1 := hgw.cell 1
            simp at z0 z1
            go_wp2_with (fail)
            have gwl := hgw.lt
            refine region_ord [(0, true), (1, true), (2, true), (3, true), (4, true), (5, true), (6, false), (7, false)]
              (fun w' => Below W.heap.size W w' ∧ ∀ b o, b < W.heap.size → w'.cell? ⟨b, o, none⟩ = W.cell? ⟨b, o, none⟩) 7 (by kernel_rfl) (by kernel_rfl) (by kernel_rfl) (by kernel_rfl) (by intro c a d v w h; cases d <;> exact h) (ext_of (Below.drew (Below.refl _ _))) ?_
            simp only [List.map_cons, List.map_nil, List.getElem?_toArray, List.getElem?_cons_succ, List.getElem?_cons_zero]
            have hD0 : Below W.heap.size W W.drew := Below.drew (Below.refl _ _)
            iterate 6 (first
              | (with_reducible refine L_yes ?_ ?_
                 focus (go_simp; done)
                 apply Exists.intro
                 refine ⟨?_, ?_⟩
                 (rintro w' ⟨_, hce⟩
                  go_simp
                  first | done | rfl | (rw [ite_next]))
                 simp only [Act.put, List.setIfInBounds_toArray, List.set_cons_zero, List.set_cons_succ])
              | (with_reducible refine L_no ?_ ?_
                 focus (go_simp; first | done | (intro h; cases h))
                 simp only [Act.put, List.setIfInBounds_toArray, List.set_cons_zero, List.set_cons_succ]))
            with_reducible refine L_main ?_ ?_
            focus (go_simp; done)
            intro K hK
            go_simp
            refine (rjoin2_val U1 D1 bu bd U2 D2 HJ2.out _).mono ?_
            rintro e v9 ⟨rfl, hbN⟩
            have hD0_1 := below_step hD0 hbN
            have hwB := hgw.drew.below hbN hgw.lt
            have fz := hwB.frozen
            have z0 := hwB.cell 0
            have z1 := hwB.cell 1
            simp at z0 z1
            clear hbN
            dsimp only
            refine hK _ _ (fun _ => ext_of hD0_1) (fun hSx => ?_)
            clear hSx hK K
            with_reducible refine L_main ?_ ?_
            focus (go_simp; done)
            intro K hK
            go_simp
            refine hK _ _ (fun h => absurd rfl h) (fun hSx => ?_)
            clear hSx hK K
            refine L_nil ?_
            have hgo9 := hgo.below hD0_1 hgo.lt
            have hg69 := hg6.below hD0_1 hg6.lt
            have hgw9 := hgw.below hD0_1 hgw.lt
            have hown9 := own_below hown hD0_1
            have hB9 := hB.trans (hD0_1.mono hB.size)
            have hgoN := (hgo9.far (p := ⟨gw, 0, none⟩) hne1 (.int .i64 U2)).far (p := ⟨gw, 1, none⟩) hne1 (.int .i64 D2)
            have hg6N := (hg69.far (p := ⟨gw, 0, none⟩) hne2 (.int .i64 U2)).far (p := ⟨gw, 1, none⟩) hne2 (.int .i64 D2)
            have hgwN := Blk.to ((hgw9.set_ 0 (.int .i64 U2)).set_ 1 (.int .i64 D2)) (cs' := #[.int .i64 U2, .int .i64 D2]) (by simp)
            have hownN := own_far (own_far hown9 (p := ⟨gw, 0, none⟩) (own_ne hown9 hgw9 (by decide)) (.int .i64 U2)) (p := ⟨gw, 1, none⟩) (own_ne hown9 hgw9 (by decide)) (.int .i64 D2)
            have hBN := (hB9.setCell (p := ⟨gw, 0, none⟩) hle (.int .i64 U2)).setCell (p := ⟨gw, 1, none⟩) hle (.int .i64 D2)
            obtain ⟨W1, hW1⟩ : ∃ Z, (v9.setCell ⟨gw, 0, none⟩ (.int .i64 U2)).setCell ⟨gw, 1, none⟩ (.int .i64 D2) = Z := ⟨_, rfl⟩
            rw [hW1] at hgoN hg6N hgwN hownN hBN ⊢
            clear hW1 hgo9 hg69 hgw9 hown9 hB9 hgo hg6 hgw hown hB hD0 hD0_1 hwB fz
            clear hx2 hx3 hx5 bW gwl
            obtain ⟨W, hW⟩ : ∃ Z, W1 = Z := ⟨_, rfl⟩
            rw [hW] at hgoN hg6N hgwN hownN hBN ⊢
            clear hW
            have hgo := hgoN
            have hg6 := hg6N
            have hgw := hgwN
            have hown := hownN
            have hB := hBN
            clear hgoN hg6N hgwN hownN hBN
            have HR : Hid (RSt (runK (l.take (k + 1)) above) go gw g6 w.heap.size (k + 1) W ∧ Below w.heap.size w W) := hidd ⟨⟨A', c', by rw [HST.out]; exact hgo, by rw [HST.out]; exact hgw, hg6, by rw [HST.out, icells_snoc]; exact hown⟩, hB⟩
            have HS1 : Hid ((runK (l.take (k + 1)) above).y = y ∧ (runK (l.take (k + 1)) above).out = true) := hidd (by rw [HST.out]; exact ⟨rfl, rfl⟩)
            clear hgo hgw hg6 hown hB
            go_wp2_with (fail)
            go_roundw
            case rel => exact ⟨k + 1, _, _, by omega, by go_num, rfl, rfl, HS1, HR.out.1, HR.out.2⟩
            case measure => simp [intOf]; omega
          | false =>
            obtain ⟨Y2, hY2⟩ : ∃ Y, y + ht = Y := ⟨_, rfl⟩
            have HST : Hid (runK (l.take (k + 1)) above = ⟨ps ++ [y], ⟨U1, D1⟩, Y2, ⟨bu, bd⟩, false⟩) := by rw [← hY2]; exact HSX.out.1
            have hpb := HSX.out.2
            simp only [if_true] at hpb
            have hyw : IntKind.i64.wrap (y + ht) = Y2 := by rw [IntWalk.i64_in _ ⟨by omega, by omega⟩]; exact hY2
            have hyw' : wrap64 (y + ht) = Y2 := by rw [IntWalk.wrap64_in _ ⟨by omega, by omega⟩]; exact hY2
            clear HSX HPW hY2 hpb
            have hw0 := hgo.cell 0
            simp at hw0
            have hwf := hgo.frozen
            go_wp2_with (at_builtin; refine wpList_append_src _ rfl _ _ 35 rfl w.heap.size 3 i0 (.int .i64 0) 1 8 Try.underlying35 hi hz0 hz1 hz2 rfl (by decide) (.slice A k c) k _ rfl (hown.alloc (.cells #[.int .i64 y] 3)) (W.alloc (.cells #[.int .i64 y] 3)).heap.size (some ⟨W.heap.size, 0, none⟩) 1 1 [.int .i64 y] rfl (Rd.blk (Blk.new W 3 #[.int .i64 y]) 1 1 rfl) (by simp [Value.oneCell']) (by unfold maxLen; omega) (by omega) (by have := hB.size; simp; omega) ?_)
            intro v' w2 hown' hgr
            have hgoM := (hgo.alloc (.cells #[.int .i64 y] 3)).grown hgr (fun e => own_ne hown hgo (by decide) e.symm)
            have hg6M := (hg6.alloc (.cells #[.int .i64 y] 3)).grown hgr (fun e => own_ne hown hg6 (by decide) e.symm)
            have hgwM := (hgw.alloc (.cells #[.int .i64 y] 3)).grown hgr (fun e => own_ne hown hgw (by decide) e.symm)
            have hBM := (below_al hB (.cells #[.int .i64 y] 3)).grown hgr (below_al hB _).size (fun q hq => (hown.lt q hq).1)
            obtain ⟨A', c', rfl, hrdx⟩ := own_slice hown'
            have hwf2 := hgoM.frozen
            have hw02 := hgoM.cell 0
            simp at hw02
            clear hrdx hgr hwf hw0 hgo hg6 hgw hown hB
            go_upto_region 14 with (fail)
            have hgoN := Blk.to (hgoM.set_ 0 (.slice A' (k + 1) c')) (cs' := #[.slice A' (k + 1) c', .int .i64 0, .int .i64 tu, .int .i64 td, .int .i64 0, .int .i64 0, .bool false]) (by simp)
            have hg6N := hg6M.far (p := ⟨go, 0, none⟩) hne3 (.slice A' (k + 1) c')
            have hgwN := hgwM.far (p := ⟨go, 0, none⟩) (Ne.symm hne1) (.slice A' (k + 1) c')
            have hownN := own_far hown' (p := ⟨go, 0, none⟩) (own_ne hown' hgoM (by decide)) (.slice A' (k + 1) c')
            have hBN := hBM.setCell (p := ⟨go, 0, none⟩) hle2 (.slice A' (k + 1) c')
            clear hgoM hg6M hgwM hBM hown' hwf2 hw02
            obtain ⟨W, hW⟩ : ∃ Z, w2.setCell ⟨go, 0, none⟩ (.slice A' (k + 1) c') = Z := ⟨_, rfl⟩
            rw [hW] at hgoN hg6N hgwN hownN hBN ⊢
            clear hW
            have hgo := hgoN
            have hg6 := hg6N
            have hgw := hgwN
            have hown := hownN
            have hB := hBN
            clear hgoN hg6N hgwN hownN hBN
            clear w2
            have hx1 := (hB.cell (p := ⟨b, off + k * 6 + 1, none⟩) hbB).trans HCC.out.2.1
            have hx2 := (hB.cell (p := ⟨b, off + k * 6 + 2, none⟩) hbB).trans HCC.out.2.2.1
            have hx3 := (hB.cell (p := ⟨b, off + k * 6 + 3, none⟩) hbB).trans HCC.out.2.2.2.1
            have hx4 := (hB.cell (p := ⟨b, off + k * 6 + 4, none⟩) hbB).trans HCC.out.2.2.2.2.1
            have hx5 := (hB.cell (p := ⟨b, off + k * 6 + 5, none⟩) hbB).trans HCC.out.2.2.2.2.2
            have bW := Nat.lt_of_lt_of_le hbB hB.size
            have z0 := hgw.cell 0
            have z1 := hgw.cell 1
            have o2 := hgo.cell 2
            have o3 := hgo.cell 3
            simp at z0 z1 o2 o3
            have of := hgo.frozen
            have wf := hgw.frozen
            go_upto_region 19 with (fail)
            have hgoN := Blk.to ((hgo.set_ 2 (.int .i64 U1)).set_ 3 (.int .i64 D1)) (cs' := #[.slice A' (k + 1) c', .int .i64 0, .int .i64 U1, .int .i64 D1, .int .i64 0, .int .i64 0, .bool false]) (by simp)
            have hg6N := (hg6.far (p := ⟨go, 2, none⟩) hne3 (.int .i64 U1)).far (p := ⟨go, 3, none⟩) hne3 (.int .i64 D1)
            have hgwN := (hgw.far (p := ⟨go, 2, none⟩) (Ne.symm hne1) (.int .i64 U1)).far (p := ⟨go, 3, none⟩) (Ne.symm hne1) (.int .i64 D1)
            have hownN := own_far (own_far hown (p := ⟨go, 2, none⟩) (own_ne hown hgo (by decide)) (.int .i64 U1)) (p := ⟨go, 3, none⟩) (own_ne hown hgo (by decide)) (.int .i64 D1)
            have hBN := (hB.setCell (p := ⟨go, 2, none⟩) hle2 (.int .i64 U1)).setCell (p := ⟨go, 3, none⟩) hle2 (.int .i64 D1)
            obtain ⟨W2, hW2⟩ : ∃ Z, (W.setCell ⟨go, 2, none⟩ (.int .i64 U1)).setCell ⟨go, 3, none⟩ (.int .i64 D1) = Z := ⟨_, rfl⟩
            rw [hW2] at hgoN hg6N hgwN hownN hBN ⊢
            clear hW2 hx1 hx2 hx3 hx4 hx5 hgo hg6 hgw hown hB z0 z1 o2 o3 of wf
            obtain ⟨W, hW⟩ : ∃ Z, W2 = Z := ⟨_, rfl⟩
            rw [hW] at hgoN hg6N hgwN hownN hBN ⊢
            clear hW
            have hgo := hgoN
            have hg6 := hg6N
            have hgw := hgwN
            have hown := hownN
            have hB := hBN
            clear hgoN hg6N hgwN hownN hBN
            have hx2 := (hB.cell (p := ⟨b, off + k * 6 + 2, none⟩) hbB).trans HCC.out.2.2.1
            have hx3 := (hB.cell (p := ⟨b, off + k * 6 + 3, none⟩) hbB).trans HCC.out.2.2.2.1
            have hx4 := (hB.cell (p := ⟨b, off + k * 6 + 4, none⟩) hbB).trans HCC.out.2.2.2.2.1
            have z0 := hgw.cell 0
            have z1 := hgw.cell 1
            simp at z0 z1
            have wf := hgw.frozen
            go_wp2_with (fail)
            have hgoN := (hgo.far (p := ⟨gw, 0, none⟩) hne1 (.int .i64 bu)).far (p := ⟨gw, 1, none⟩) hne1 (.int .i64 bd)
            have hg6N := (hg6.far (p := ⟨gw, 0, none⟩) hne2 (.int .i64 bu)).far (p := ⟨gw, 1, none⟩) hne2 (.int .i64 bd)
            have hgwN := Blk.to ((hgw.set_ 0 (.int .i64 bu)).set_ 1 (.int .i64 bd)) (cs' := #[.int .i64 bu, .int .i64 bd]) (by simp)
            have hownN := own_far (own_far hown (p := ⟨gw, 0, none⟩) (own_ne hown hgw (by decide)) (.int .i64 bu)) (p := ⟨gw, 1, none⟩) (own_ne hown hgw (by decide)) (.int .i64 bd)
            have hBN := (hB.setCell (p := ⟨gw, 0, none⟩) hle (.int .i64 bu)).setCell (p := ⟨gw, 1, none⟩) hle (.int .i64 bd)
            have HR : Hid (RSt (runK (l.take (k + 1)) above) go gw g6 w.heap.size (k + 1) _ ∧ Below w.heap.size w _) := hidd ⟨⟨A', c', by rw [HST.out]; exact hgoN, by rw [HST.out]; exact hgwN, hg6N, by rw [HST.out, icells_snoc]; exact hownN⟩, hBN⟩
            have HS1 : Hid ((runK (l.take (k + 1)) above).y = Y2 ∧ (runK (l.take (k + 1)) above).out = false) := hidd (by rw [HST.out]; exact ⟨rfl, rfl⟩)
            clear hgo hgw hg6 hown hB hgoN hg6N hgwN hownN hBN
            go_roundw
            case rel => exact ⟨k + 1, _, _, by omega, by go_num, rfl, rfl, HS1, HR.out.1, HR.out.2⟩
            case measure => simp [intOf]; omega
        | false =>
          obtain ⟨⟨hw1, hw2⟩, hw1', hw2'⟩ := HPW.out
          have v0 := hgw.cell 0
          have v1 := hgw.cell 1
          simp at v0 v1
          cases th with
          | true =>
            have HST : Hid (runK (l.take (k + 1)) above = ⟨ps ++ [P], ⟨tu, td⟩, y, ⟨U2, D2⟩, false⟩) := HSX.out.1
            clear HSX HPW
            have hw0 := hgo.cell 0
            simp at hw0
            have hwf := hgo.frozen
            go_wp2_with (at_builtin; refine wpList_append_src _ rfl _ _ 35 rfl w.heap.size 3 i0 (.int .i64 0) 1 8 Try.underlying35 hi hz0 hz1 hz2 rfl (by decide) (.slice A k c) k _ rfl (hown.alloc (.cells #[.int .i64 P] 3)) (W.alloc (.cells #[.int .i64 P] 3)).heap.size (some ⟨W.heap.size, 0, none⟩) 1 1 [.int .i64 P] rfl (Rd.blk (Blk.new W 3 #[.int .i64 P]) 1 1 rfl) (by simp [Value.oneCell']) (by unfold maxLen; omega) (by omega) (by have := hB.size; simp; omega) ?_)
            intro v' w2 hown' hgr
            have hgoM := (hgo.alloc (.cells #[.int .i64 P] 3)).grown hgr (fun e => own_ne hown hgo (by decide) e.symm)
            have hg6M := (hg6.alloc (.cells #[.int .i64 P] 3)).grown hgr (fun e => own_ne hown hg6 (by decide) e.symm)
            have hgwM := (hgw.alloc (.cells #[.int .i64 P] 3)).grown hgr (fun e => own_ne hown hgw (by decide) e.symm)
            have hBM := (below_al hB (.cells #[.int .i64 P] 3)).grown hgr (below_al hB _).size (fun q hq => (hown.lt q hq).1)
            obtain ⟨A', c', rfl, hrdx⟩ := own_slice hown'
            have hwf2 := hgoM.frozen
            have hw02 := hgoM.cell 0
            simp at hw02
            clear hw1 hw2 hw1' hw2' v0 v1 hrdx hgr hwf hw0 hgo hg6 hgw hown hB
            go_upto_region 14 with (fail)
            have hgoN := Blk.to (hgoM.set_ 0 (.slice A' (k + 1) c')) (cs' := #[.slice A' (k + 1) c', .int .i64 0, .int .i64 tu, .int .i64 td, .int .i64 0, .int .i64 0, .bool false]) (by simp)
            have hg6N := hg6M.far (p := ⟨go, 0, none⟩) hne3 (.slice A' (k + 1) c')
            have hgwN := hgwM.far (p := ⟨go, 0, none⟩) (Ne.symm hne1) (.slice A' (k + 1) c')
            have hownN := own_far hown' (p := ⟨go, 0, none⟩) (own_ne hown' hgoM (by decide)) (.slice A' (k + 1) c')
            have hBN := hBM.setCell (p := ⟨go, 0, none⟩) hle2 (.slice A' (k + 1) c')
            clear hgoM hg6M hgwM hBM hown' hwf2 hw02
            obtain ⟨W, hW⟩ : ∃ Z, w2.setCell ⟨go, 0, none⟩ (.slice A' (k + 1) c') = Z := ⟨_, rfl⟩
            rw [hW] at hgoN hg6N hgwN hownN hBN ⊢
            clear hW
            have hgo := hgoN
            have hg6 := hg6N
            have hgw := hgwN
            have hown := hownN
            have hB := hBN
            clear hgoN hg6N hgwN hownN hBN
            clear w2
            have hx2 := (hB.cell (p := ⟨b, off + k * 6 + 2, none⟩) hbB).trans HCC.out.2.2.1
            have hx3 := (hB.cell (p := ⟨b, off + k * 6 + 3, none⟩) hbB).trans HCC.out.2.2.2.1
            have hx5 := (hB.cell (p := ⟨b, off + k * 6 + 5, none⟩) hbB).trans HCC.out.2.2.2.2.2
            have bW := Nat.lt_of_lt_of_le hbB hB.size
            have z0 := hgw.cell 0
            have z1 := hgw.cell 1
            simp at z0 z1
            go_wp2_with (fail)
            have gwl := hgw.lt
            refine region_ord [(0, true), (1, true), (2, true), (3, true), (4, true), (5, true), (6, false), (7, false)]
              (fun w' => Below W.heap.size W w' ∧ ∀ b o, b < W.heap.size → w'.cell? ⟨b, o, none⟩ = W.cell? ⟨b, o, none⟩) 7 (by kernel_rfl) (by kernel_rfl) (by kernel_rfl) (by kernel_rfl) (by intro c a d v w h; cases d <;> exact h) (ext_of (Below.drew (Below.refl _ _))) ?_
            simp only [List.map_cons, List.map_nil, List.getElem?_toArray, List.getElem?_cons_succ, List.getElem?_cons_zero]
            have hD0 : Below W.heap.size W W.drew := Below.drew (Below.refl _ _)
            iterate 6 (first
              | (with_reducible refine L_yes ?_ ?_
                 focus (go_simp; done)
                 apply Exists.intro
                 refine ⟨?_, ?_⟩
                 (rintro w' ⟨_, hce⟩
                  go_simp
                  first | done | rfl | (rw [ite_next]))
                 simp only [Act.put, List.setIfInBounds_toArray, List.set_cons_zero, List.set_cons_succ])
              | (with_reducible refine L_no ?_ ?_
                 focus (go_simp; first | done | (intro h; cases h))
                 simp only [Act.put, List.setIfInBounds_toArray, List.set_cons_zero, List.set_cons_succ]))
            with_reducible refine L_main ?_ ?_
            focus (go_simp; done)
            intro K hK
            go_simp
            refine (rjoin2_val U1 D1 bu bd U2 D2 HJ2.out _).mono ?_
            rintro e v9 ⟨rfl, hbN⟩
            have hD0_1 := below_step hD0 hbN
            have hwB := hgw.drew.below hbN hgw.lt
            have fz := hwB.frozen
            have z0 := hwB.cell 0
            have z1 := hwB.cell 1
            simp at z0 z1
            clear hbN
            dsimp only
            refine hK _ _ (fun _ => ext_of hD0_1) (fun hSx => ?_)
            clear hSx hK K
            with_reducible refine L_main ?_ ?_
            focus (go_simp; done)
            intro K hK
            go_simp
            refine hK _ _ (fun h => absurd rfl h) (fun hSx => ?_)
            clear hSx hK K
            refine L_nil ?_
            have hgo9 := hgo.below hD0_1 hgo.lt
            have hg69 := hg6.below hD0_1 hg6.lt
            have hgw9 := hgw.below hD0_1 hgw.lt
            have hown9 := own_below hown hD0_1
            have hB9 := hB.trans (hD0_1.mono hB.size)
            have hgoN := (hgo9.far (p := ⟨gw, 0, none⟩) hne1 (.int .i64 U2)).far (p := ⟨gw, 1, none⟩) hne1 (.int .i64 D2)
            have hg6N := (hg69.far (p := ⟨gw, 0, none⟩) hne2 (.int .i64 U2)).far (p := ⟨gw, 1, none⟩) hne2 (.int .i64 D2)
            have hgwN := Blk.to ((hgw9.set_ 0 (.int .i64 U2)).set_ 1 (.int .i64 D2)) (cs' := #[.int .i64 U2, .int .i64 D2]) (by simp)
            have hownN := own_far (own_far hown9 (p := ⟨gw, 0, none⟩) (own_ne hown9 hgw9 (by decide)) (.int .i64 U2)) (p := ⟨gw, 1, none⟩) (own_ne hown9 hgw9 (by decide)) (.int .i64 D2)
            have hBN := (hB9.setCell (p := ⟨gw, 0, none⟩) hle (.int .i64 U2)).setCell (p := ⟨gw, 1, none⟩) hle (.int .i64 D2)
            obtain ⟨W1, hW1⟩ : ∃ Z, (v9.setCell ⟨gw, 0, none⟩ (.int .i64 U2)).setCell ⟨gw, 1, none⟩ (.int .i64 D2) = Z := ⟨_, rfl⟩
            rw [hW1] at hgoN hg6N hgwN hownN hBN ⊢
            clear hW1 hgo9 hg69 hgw9 hown9 hB9 hgo hg6 hgw hown hB hD0 hD0_1 hwB fz
            clear hx2 hx3 hx5 bW gwl
            obtain ⟨W, hW⟩ : ∃ Z, W1 = Z := ⟨_, rfl⟩
            rw [hW] at hgoN hg6N hgwN hownN hBN ⊢
            clear hW
            have hgo := hgoN
            have hg6 := hg6N
            have hgw := hgwN
            have hown := hownN
            have hB := hBN
            clear hgoN hg6N hgwN hownN hBN
            have HR : Hid (RSt (runK (l.take (k + 1)) above) go gw g6 w.heap.size (k + 1) W ∧ Below w.heap.size w W) := hidd ⟨⟨A', c', by rw [HST.out]; exact hgo, by rw [HST.out]; exact hgw, hg6, by rw [HST.out, icells_snoc]; exact hown⟩, hB⟩
            have HS1 : Hid ((runK (l.take (k + 1)) above).y = y ∧ (runK (l.take (k + 1)) above).out = false) := hidd (by rw [HST.out]; exact ⟨rfl, rfl⟩)
            clear hgo hgw hg6 hown hB
            go_wp2_with (fail)
            go_roundw
            case rel => exact ⟨k + 1, _, _, by omega, by go_num, rfl, rfl, HS1, HR.out.1, HR.out.2⟩
            case measure => simp [intOf]; omega
          | false =>
            obtain ⟨Y2, hY2⟩ : ∃ Y, P + ht = Y := ⟨_, rfl⟩
            have HST : Hid (runK (l.take (k + 1)) above = ⟨ps ++ [P], ⟨tu, td⟩, Y2, ⟨bu, bd⟩, false⟩) := by rw [← hY2]; exact HSX.out.1
            have hpb := HSX.out.2
            simp only [Bool.false_eq_true, if_false] at hpb
            have hyw : IntKind.i64.wrap (P + ht) = Y2 := by rw [IntWalk.i64_in _ ⟨by omega, by omega⟩]; exact hY2
            have hyw' : wrap64 (P + ht) = Y2 := by rw [IntWalk.wrap64_in _ ⟨by omega, by omega⟩]; exact hY2
            clear HSX HPW hY2 hpb
            have hw0 := hgo.cell 0
            simp at hw0
            have hwf := hgo.frozen
            go_wp2_with (at_builtin; refine wpList_append_src _ rfl _ _ 35 rfl w.heap.size 3 i0 (.int .i64 0) 1 8 Try.underlying35 hi hz0 hz1 hz2 rfl (by decide) (.slice A k c) k _ rfl (hown.alloc (.cells #[.int .i64 P] 3)) (W.alloc (.cells #[.int .i64 P] 3)).heap.size (some ⟨W.heap.size, 0, none⟩) 1 1 [.int .i64 P] rfl (Rd.blk (Blk.new W 3 #[.int .i64 P]) 1 1 rfl) (by simp [Value.oneCell']) (by unfold maxLen; omega) (by omega) (by have := hB.size; simp; omega) ?_)
            intro v' w2 hown' hgr
            have hgoM := (hgo.alloc (.cells #[.int .i64 P] 3)).grown hgr (fun e => own_ne hown hgo (by decide) e.symm)
            have hg6M := (hg6.alloc (.cells #[.int .i64 P] 3)).grown hgr (fun e => own_ne hown hg6 (by decide) e.symm)
            have hgwM := (hgw.alloc (.cells #[.int .i64 P] 3)).grown hgr (fun e => own_ne hown hgw (by decide) e.symm)
            have hBM := (below_al hB (.cells #[.int .i64 P] 3)).grown hgr (below_al hB _).size (fun q hq => (hown.lt q hq).1)
            obtain ⟨A', c', rfl, hrdx⟩ := own_slice hown'
            have hwf2 := hgoM.frozen
            have hw02 := hgoM.cell 0
            simp at hw02
            clear hw1 hw2 hw1' hw2' v0 v1 hrdx hgr hwf hw0 hgo hg6 hgw hown hB
            go_upto_region 14 with (fail)
            have hgoN := Blk.to (hgoM.set_ 0 (.slice A' (k + 1) c')) (cs' := #[.slice A' (k + 1) c', .int .i64 0, .int .i64 tu, .int .i64 td, .int .i64 0, .int .i64 0, .bool false]) (by simp)
            have hg6N := hg6M.far (p := ⟨go, 0, none⟩) hne3 (.slice A' (k + 1) c')
            have hgwN := hgwM.far (p := ⟨go, 0, none⟩) (Ne.symm hne1) (.slice A' (k + 1) c')
            have hownN := own_far hown' (p := ⟨go, 0, none⟩) (own_ne hown' hgoM (by decide)) (.slice A' (k + 1) c')
            have hBN := hBM.setCell (p := ⟨go, 0, none⟩) hle2 (.slice A' (k + 1) c')
            clear hgoM hg6M hgwM hBM hown' hwf2 hw02
            obtain ⟨W, hW⟩ : ∃ Z, w2.setCell ⟨go, 0, none⟩ (.slice A' (k + 1) c') = Z := ⟨_, rfl⟩
            rw [hW] at hgoN hg6N hgwN hownN hBN ⊢
            clear hW
            have hgo := hgoN
            have hg6 := hg6N
            have hgw := hgwN
            have hown := hownN
            have hB := hBN
            clear hgoN hg6N hgwN hownN hBN
            clear w2
            have hx1 := (hB.cell (p := ⟨b, off + k * 6 + 1, none⟩) hbB).trans HCC.out.2.1
            have hx2 := (hB.cell (p := ⟨b, off + k * 6 + 2, none⟩) hbB).trans HCC.out.2.2.1
            have hx3 := (hB.cell (p := ⟨b, off + k * 6 + 3, none⟩) hbB).trans HCC.out.2.2.2.1
            have hx4 := (hB.cell (p := ⟨b, off + k * 6 + 4, none⟩) hbB).trans HCC.out.2.2.2.2.1
            have hx5 := (hB.cell (p := ⟨b, off + k * 6 + 5, none⟩) hbB).trans HCC.out.2.2.2.2.2
            have bW := Nat.lt_of_lt_of_le hbB hB.size
            have z0 := hgw.cell 0
            have z1 := hgw.cell 1
            simp at z0 z1
            have wf := hgw.frozen
            go_wp2_with (fail)
            have hgoN := (hgo.far (p := ⟨gw, 0, none⟩) hne1 (.int .i64 bu)).far (p := ⟨gw, 1, none⟩) hne1 (.int .i64 bd)
            have hg6N := (hg6.far (p := ⟨gw, 0, none⟩) hne2 (.int .i64 bu)).far (p := ⟨gw, 1, none⟩) hne2 (.int .i64 bd)
            have hgwN := Blk.to ((hgw.set_ 0 (.int .i64 bu)).set_ 1 (.int .i64 bd)) (cs' := #[.int .i64 bu, .int .i64 bd]) (by simp)
            have hownN := own_far (own_far hown (p := ⟨gw, 0, none⟩) (own_ne hown hgw (by decide)) (.int .i64 bu)) (p := ⟨gw, 1, none⟩) (own_ne hown hgw (by decide)) (.int .i64 bd)
            have hBN := (hB.setCell (p := ⟨gw, 0, none⟩) hle (.int .i64 bu)).setCell (p := ⟨gw, 1, none⟩) hle (.int .i64 bd)
            have HR : Hid (RSt (runK (l.take (k + 1)) above) go gw g6 w.heap.size (k + 1) _ ∧ Below w.heap.size w _) := hidd ⟨⟨A', c', by rw [HST.out]; exact hgoN, by rw [HST.out]; exact hgwN, hg6N, by rw [HST.out, icells_snoc]; exact hownN⟩, hBN⟩
            have HS1 : Hid ((runK (l.take (k + 1)) above).y = Y2 ∧ (runK (l.take (k + 1)) above).out = false) := hidd (by rw [HST.out]; exact ⟨rfl, rfl⟩)
            clear hgo hgw hg6 hown hB hgoN hg6N hgwN hownN hBN
            go_roundw
            case rel => exact ⟨k + 1, _, _, by omega, by go_num, rfl, rfl, HS1, HR.out.1, HR.out.2⟩
            case measure => simp [intOf]; omega
      · have hkk : k = l.length := by omega
        subst hkk
        rw [List.take_length] at hst hyo
        have hX := HF.out.1
        have hlen := HF.out.2.1
        have hgS := HF.out.2.2.2 l.length (Nat.le_refl _)
        rw [List.take_length] at hgS
        obtain ⟨hy9, ho9⟩ := hyo.out
        obtain ⟨q, hq⟩ : ∃ q, runK l above = q := ⟨_, rfl⟩
        rw [hq] at hst hX hlen hgS hy9 ho9
        obtain ⟨ps, ⟨tu, td⟩, y, ⟨wu, wd⟩, out⟩ := q
        simp only at hy9 ho9
        subst hy9
        subst ho9
        simp only at hlen
        obtain ⟨A, c, hgo, hgw, hg6, hown⟩ := hst
        simp only at hgo hgw hown
        obtain ⟨⟨s1, s2⟩, s3, s4⟩ := hgS.1
        obtain ⟨s5, s6⟩ := hgS.2.2.1
        rw [bnd_eq] at s5 s6
        simp only at s1 s2 s3 s4 s5 s6
        have HL := hidd hlen
        have gf := hgo.frozen
        have z0 := hgw.cell 0
        have z1 := hgw.cell 1
        simp at z0 z1
        clear hyo hq hlen hgS HF hR HI
        cases out with
        | true =>
          have hX2 : RR = if (fitsB ps && fitB 0) = true then ⟨⟨ps, 0, ⟨wu, wd⟩, ⟨0, 0⟩, below⟩, 0⟩ else ⟨sk0, 10⟩ := hX
          have o2 := hgo.cell 2
          have o3 := hgo.cell 3
          have o6 := hgo.cell 6
          simp at o2 o3 o6
          have HXX := hidd hX2
          clear hX hX2
          go_upto_region 29 with (fail)
          have hX := HXX.out
          clear HXX o2 o3 o6
          have hgoN := Blk.to (((hgo.set_ 2 (.int .i64 wu)).set_ 3 (.int .i64 wd)).set_ 6 (.bool below)) (cs' := #[.slice A l.length c, .int .i64 0, .int .i64 wu, .int .i64 wd, .int .i64 0, .int .i64 0, .bool below]) (by simp)
          have hg6N := (((hg6.far (p := ⟨go, 2, none⟩) hne3 (.int .i64 wu)).far (p := ⟨go, 3, none⟩) hne3 (.int .i64 wd)).far (p := ⟨go, 6, none⟩) hne3 (.bool below))
          have hownN := (own_far (own_far (own_far hown (p := ⟨go, 2, none⟩) (own_ne hown hgo (by decide)) (.int .i64 wu)) (p := ⟨go, 3, none⟩) (own_ne hown hgo (by decide)) (.int .i64 wd)) (p := ⟨go, 6, none⟩) (own_ne hown hgo (by decide)) (.bool below))
          have hBN := (((hB.setCell (p := ⟨go, 2, none⟩) hle2 (.int .i64 wu)).setCell (p := ⟨go, 3, none⟩) hle2 (.int .i64 wd)).setCell (p := ⟨go, 6, none⟩) hle2 (.bool below))
          obtain ⟨W2, hW2⟩ : ∃ Z, (((W).setCell ⟨go, 2, none⟩ (.int .i64 wu)).setCell ⟨go, 3, none⟩ (.int .i64 wd)).setCell ⟨go, 6, none⟩ (.bool below) = Z := ⟨_, rfl⟩
          rw [hW2] at hgoN hg6N hownN hBN ⊢
          clear hW2 hgo hg6 hgw hown hB gf z0 z1
          obtain ⟨W, hW⟩ : ∃ Z, W2 = Z := ⟨_, rfl⟩
          rw [hW] at hgoN hg6N hownN hBN ⊢
          clear hW
          clear W2
          have hgo := hgoN
          have hg6 := hg6N
          have hown := hownN
          have hB := hBN
          clear hgoN hg6N hownN hBN
          obtain ⟨F1, hF1⟩ : ∃ F, fitsB ps = F := ⟨_, rfl⟩
          obtain ⟨F2, hF2⟩ : ∃ F, fitB (0) = F := ⟨_, rfl⟩
          rw [hF1, hF2] at hX
          have HX := hidd hX
          have HF1 := hidd hF1
          have HF2 := hidd hF2
          clear hX hF1 hF2
          have rdp := Rd.of_own hown
          have o0 := hgo.cell 0
          have o1 := hgo.cell 1
          have o2 := hgo.cell 2
          have o3 := hgo.cell 3
          have o4 := hgo.cell 4
          have o5 := hgo.cell 5
          have o6 := hgo.cell 6
          have y0 := hg6.cell 0
          have y1 := hg6.cell 1
          have y2 := hg6.cell 2
          have y3 := hg6.cell 3
          have y4 := hg6.cell 4
          have y5 := hg6.cell 5
          have y6 := hg6.cell 6
          simp at o0 o1 o2 o3 o4 o5 o6 y0 y1 y2 y3 y4 y5 y6
          have yf := hg6.frozen
          go_wp2_with (fail)
          refine (rall_any ps A l.length c _ rdp HL.out (by omega) F1 HF1.out).mono ?_
          rintro e w' ⟨rfl, rfl⟩
          cases F1 with
          | false =>
            have hst : RR = ⟨sk0, 10⟩ := HX.out
            subst hst
            have h0 := HN.out
            simp only [sk0, List.length_nil] at h0
            subst h0
            clear HX HN HF1 HF2 hown rdp
            go_wp2_with (fail)
            refine bodyPost_ret (v := .tuple #[.agg #[.slice none 0 0, .int .i64 0, .int .i64 0, .int .i64 0, .int .i64 0, .int .i64 0, .bool false], .int .i64 10]) (by simp [results, Try.results23, go_sem, y0, y1, y2, y3, y4, y5, y6]) rfl ?_
            exact ⟨none, 0, rfl, Rd.nil_ _, (((((((hB.setCell (p := ⟨g6, 0, none⟩) hle6 _).setCell (p := ⟨g6, 1, none⟩) hle6 _).setCell (p := ⟨g6, 2, none⟩) hle6 _).setCell (p := ⟨g6, 3, none⟩) hle6 _).setCell (p := ⟨g6, 4, none⟩) hle6 _).setCell (p := ⟨g6, 5, none⟩) hle6 _).setCell (p := ⟨g6, 6, none⟩) hle6 _)⟩
          | true =>
            go_wp2_with (fail)
            refine (rfit_val (0) F2 HF2.out _).mono ?_
            rintro e w' ⟨rfl, rfl⟩
            cases F2 with
            | false =>
              have hst : RR = ⟨sk0, 10⟩ := HX.out
              subst hst
              have h0 := HN.out
              simp only [sk0, List.length_nil] at h0
              subst h0
              clear HX HN HF1 HF2 hown rdp
              go_wp2_with (fail)
              refine bodyPost_ret (v := .tuple #[.agg #[.slice none 0 0, .int .i64 0, .int .i64 0, .int .i64 0, .int .i64 0, .int .i64 0, .bool false], .int .i64 10]) (by simp [results, Try.results23, go_sem, y0, y1, y2, y3, y4, y5, y6]) rfl ?_
              exact ⟨none, 0, rfl, Rd.nil_ _, (((((((hB.setCell (p := ⟨g6, 0, none⟩) hle6 _).setCell (p := ⟨g6, 1, none⟩) hle6 _).setCell (p := ⟨g6, 2, none⟩) hle6 _).setCell (p := ⟨g6, 3, none⟩) hle6 _).setCell (p := ⟨g6, 4, none⟩) hle6 _).setCell (p := ⟨g6, 5, none⟩) hle6 _).setCell (p := ⟨g6, 6, none⟩) hle6 _)⟩
            | true =>
              have hst : RR = ⟨⟨ps, 0, ⟨wu, wd⟩, ⟨0, 0⟩, below⟩, 0⟩ := HX.out
              subst hst
              have hnl : l.length = n := by
                have h0 := HN.out
                have h1 := HL.out
                simp only at h0
                omega
              have HNL := hidd hnl
              clear HX HN HF1 HF2 hnl
              go_wp2_with (fail)
              refine bodyPost_ret (v := .tuple #[.agg #[.slice A l.length c, .int .i64 0, .int .i64 wu, .int .i64 wd, .int .i64 0, .int .i64 0, .bool below], .int .i64 0]) (by simp [results, Try.results23, go_sem, y0, y1, y2, y3, y4, y5, y6]) rfl ?_
              have hnl := HNL.out
              subst hnl
              exact ⟨A, c, rfl, Rd.of_own (own_far (own_far (own_far (own_far (own_far (own_far (own_far hown (p := ⟨g6, 0, none⟩) (own_ne hown hg6 (by decide)) (.slice A l.length c)) (p := ⟨g6, 1, none⟩) (own_ne hown hg6 (by decide)) (.int .i64 0)) (p := ⟨g6, 2, none⟩) (own_ne hown hg6 (by decide)) (.int .i64 wu)) (p := ⟨g6, 3, none⟩) (own_ne hown hg6 (by decide)) (.int .i64 wd)) (p := ⟨g6, 4, none⟩) (own_ne hown hg6 (by decide)) (.int .i64 0)) (p := ⟨g6, 5, none⟩) (own_ne hown hg6 (by decide)) (.int .i64 0)) (p := ⟨g6, 6, none⟩) (own_ne hown hg6 (by decide)) (.bool below)), (((((((hB.setCell (p := ⟨g6, 0, none⟩) hle6 _).setCell (p := ⟨g6, 1, none⟩) hle6 _).setCell (p := ⟨g6, 2, none⟩) hle6 _).setCell (p := ⟨g6, 3, none⟩) hle6 _).setCell (p := ⟨g6, 4, none⟩) hle6 _).setCell (p := ⟨g6, 5, none⟩) hle6 _).setCell (p := ⟨g6, 6, none⟩) hle6 _)⟩
        | false =>
          cases below with
          | true =>
            have hX2 : RR = if (fitsB ps && fitB (max 0 y)) = true then ⟨⟨ps, max 0 y, ⟨tu, td⟩, ⟨wu, wd⟩, false⟩, 0⟩ else ⟨sk0, 10⟩ := hX
            have o4 := hgo.cell 4
            have o5 := hgo.cell 5
            simp at o4 o5
            have HXX := hidd hX2
            clear hX hX2
            go_upto_region 27 with (fail)
            have hX := HXX.out
            clear HXX o4 o5
            have hgoN := Blk.to ((hgo.set_ 4 (.int .i64 wu)).set_ 5 (.int .i64 wd)) (cs' := #[.slice A l.length c, .int .i64 0, .int .i64 tu, .int .i64 td, .int .i64 wu, .int .i64 wd, .bool false]) (by simp)
            have hg6N := ((hg6.far (p := ⟨go, 4, none⟩) hne3 (.int .i64 wu)).far (p := ⟨go, 5, none⟩) hne3 (.int .i64 wd))
            have hownN := (own_far (own_far hown (p := ⟨go, 4, none⟩) (own_ne hown hgo (by decide)) (.int .i64 wu)) (p := ⟨go, 5, none⟩) (own_ne hown hgo (by decide)) (.int .i64 wd))
            have hBN := ((hB.setCell (p := ⟨go, 4, none⟩) hle2 (.int .i64 wu)).setCell (p := ⟨go, 5, none⟩) hle2 (.int .i64 wd))
            obtain ⟨W2, hW2⟩ : ∃ Z, ((W).setCell ⟨go, 4, none⟩ (.int .i64 wu)).setCell ⟨go, 5, none⟩ (.int .i64 wd) = Z := ⟨_, rfl⟩
            rw [hW2] at hgoN hg6N hownN hBN ⊢
            clear hW2 hgo hg6 hgw hown hB gf z0 z1
            obtain ⟨W, hW⟩ : ∃ Z, W2 = Z := ⟨_, rfl⟩
            rw [hW] at hgoN hg6N hownN hBN ⊢
            clear hW
            clear W2
            have hgo := hgoN
            have hg6 := hg6N
            have hown := hownN
            have hB := hBN
            clear hgoN hg6N hownN hBN
            by_cases hy0 : 0 < y
            · have dy : decide (0 < y) = true := by simpa using hy0
              have hm : max 0 y = y := by omega
              rw [hm] at hX
              have gf := hgo.frozen
              have z0 := hgo.cell 1
              have z1 := hgo.cell 1
              simp at z0 z1
              clear hm
              have HXX := hidd hX
              clear hX
              go_upto_region 29 with (fail)
              have hX := HXX.out
              clear HXX
              have hgw := hgo
              have hgoN := Blk.to (hgo.set_ 1 (.int .i64 y)) (cs' := #[.slice A l.length c, .int .i64 y, .int .i64 tu, .int .i64 td, .int .i64 wu, .int .i64 wd, .bool false]) (by simp)
              have hg6N := (hg6.far (p := ⟨go, 1, none⟩) hne3 (.int .i64 y))
              have hownN := (own_far hown (p := ⟨go, 1, none⟩) (own_ne hown hgo (by decide)) (.int .i64 y))
              have hBN := (hB.setCell (p := ⟨go, 1, none⟩) hle2 (.int .i64 y))
              obtain ⟨W2, hW2⟩ : ∃ Z, (W).setCell ⟨go, 1, none⟩ (.int .i64 y) = Z := ⟨_, rfl⟩
              rw [hW2] at hgoN hg6N hownN hBN ⊢
              clear hW2 hgo hg6 hgw hown hB gf z0 z1
              obtain ⟨W, hW⟩ : ∃ Z, W2 = Z := ⟨_, rfl⟩
              rw [hW] at hgoN hg6N hownN hBN ⊢
              clear hW
              clear W2
              have hgo := hgoN
              have hg6 := hg6N
              have hown := hownN
              have hB := hBN
              clear hgoN hg6N hownN hBN
              obtain ⟨F1, hF1⟩ : ∃ F, fitsB ps = F := ⟨_, rfl⟩
              obtain ⟨F2, hF2⟩ : ∃ F, fitB (y) = F := ⟨_, rfl⟩
              rw [hF1, hF2] at hX
              have HX := hidd hX
              have HF1 := hidd hF1
              have HF2 := hidd hF2
              clear hX hF1 hF2
              have rdp := Rd.of_own hown
              have o0 := hgo.cell 0
              have o1 := hgo.cell 1
              have o2 := hgo.cell 2
              have o3 := hgo.cell 3
              have o4 := hgo.cell 4
              have o5 := hgo.cell 5
              have o6 := hgo.cell 6
              have y0 := hg6.cell 0
              have y1 := hg6.cell 1
              have y2 := hg6.cell 2
              have y3 := hg6.cell 3
              have y4 := hg6.cell 4
              have y5 := hg6.cell 5
              have y6 := hg6.cell 6
              simp at o0 o1 o2 o3 o4 o5 o6 y0 y1 y2 y3 y4 y5 y6
              have yf := hg6.frozen
              go_wp2_with (fail)
              refine (rall_any ps A l.length c _ rdp HL.out (by omega) F1 HF1.out).mono ?_
              rintro e w' ⟨rfl, rfl⟩
              cases F1 with
              | false =>
                have hst : RR = ⟨sk0, 10⟩ := HX.out
                subst hst
                have h0 := HN.out
                simp only [sk0, List.length_nil] at h0
                subst h0
                clear HX HN HF1 HF2 hown rdp
                go_wp2_with (fail)
                refine bodyPost_ret (v := .tuple #[.agg #[.slice none 0 0, .int .i64 0, .int .i64 0, .int .i64 0, .int .i64 0, .int .i64 0, .bool false], .int .i64 10]) (by simp [results, Try.results23, go_sem, y0, y1, y2, y3, y4, y5, y6]) rfl ?_
                exact ⟨none, 0, rfl, Rd.nil_ _, (((((((hB.setCell (p := ⟨g6, 0, none⟩) hle6 _).setCell (p := ⟨g6, 1, none⟩) hle6 _).setCell (p := ⟨g6, 2, none⟩) hle6 _).setCell (p := ⟨g6, 3, none⟩) hle6 _).setCell (p := ⟨g6, 4, none⟩) hle6 _).setCell (p := ⟨g6, 5, none⟩) hle6 _).setCell (p := ⟨g6, 6, none⟩) hle6 _)⟩
              | true =>
                go_wp2_with (fail)
                refine (rfit_val (y) F2 HF2.out _).mono ?_
                rintro e w' ⟨rfl, rfl⟩
                cases F2 with
                | false =>
                  have hst : RR = ⟨sk0, 10⟩ := HX.out
                  subst hst
                  have h0 := HN.out
                  simp only [sk0, List.length_nil] at h0
                  subst h0
                  clear HX HN HF1 HF2 hown rdp
                  go_wp2_with (fail)
                  refine bodyPost_ret (v := .tuple #[.agg #[.slice none 0 0, .int .i64 0, .int .i64 0, .int .i64 0, .int .i64 0, .int .i64 0, .bool false], .int .i64 10]) (by simp [results, Try.results23, go_sem, y0, y1, y2, y3, y4, y5, y6]) rfl ?_
                  exact ⟨none, 0, rfl, Rd.nil_ _, (((((((hB.setCell (p := ⟨g6, 0, none⟩) hle6 _).setCell (p := ⟨g6, 1, none⟩) hle6 _).setCell (p := ⟨g6, 2, none⟩) hle6 _).setCell (p := ⟨g6, 3, none⟩) hle6 _).setCell (p := ⟨g6, 4, none⟩) hle6 _).setCell (p := ⟨g6, 5, none⟩) hle6 _).setCell (p := ⟨g6, 6, none⟩) hle6 _)⟩
                | true =>
                  have hst : RR = ⟨⟨ps, y, ⟨tu, td⟩, ⟨wu, wd⟩, false⟩, 0⟩ := HX.out
                  subst hst
                  have hnl : l.length = n := by
                    have h0 := HN.out
                    have h1 := HL.out
                    simp only at h0
                    omega
                  have HNL := hidd hnl
                  clear HX HN HF1 HF2 hnl
                  go_wp2_with (fail)
                  refine bodyPost_ret (v := .tuple #[.agg #[.slice A l.length c, .int .i64 y, .int .i64 tu, .int .i64 td, .int .i64 wu, .int .i64 wd, .bool false], .int .i64 0]) (by simp [results, Try.results23, go_sem, y0, y1, y2, y3, y4, y5, y6]) rfl ?_
                  have hnl := HNL.out
                  subst hnl
                  exact ⟨A, c, rfl, Rd.of_own (own_far (own_far (own_far (own_far (own_far (own_far (own_far hown (p := ⟨g6, 0, none⟩) (own_ne hown hg6 (by decide)) (.slice A l.length c)) (p := ⟨g6, 1, none⟩) (own_ne hown hg6 (by decide)) (.int .i64 y)) (p := ⟨g6, 2, none⟩) (own_ne hown hg6 (by decide)) (.int .i64 tu)) (p := ⟨g6, 3, none⟩) (own_ne hown hg6 (by decide)) (.int .i64 td)) (p := ⟨g6, 4, none⟩) (own_ne hown hg6 (by decide)) (.int .i64 wu)) (p := ⟨g6, 5, none⟩) (own_ne hown hg6 (by decide)) (.int .i64 wd)) (p := ⟨g6, 6, none⟩) (own_ne hown hg6 (by decide)) (.bool false)), (((((((hB.setCell (p := ⟨g6, 0, none⟩) hle6 _).setCell (p := ⟨g6, 1, none⟩) hle6 _).setCell (p := ⟨g6, 2, none⟩) hle6 _).setCell (p := ⟨g6, 3, none⟩) hle6 _).setCell (p := ⟨g6, 4, none⟩) hle6 _).setCell (p := ⟨g6, 5, none⟩) hle6 _).setCell (p := ⟨g6, 6, none⟩) hle6 _)⟩
            · have dy : decide (0 < y) = false := by simpa using hy0
              have hm : max 0 y = 0 := by omega
              rw [hm] at hX
              clear hm
              have HXX := hidd hX
              clear hX
              go_upto_region 29 with (fail)
              have hX := HXX.out
              clear HXX
              obtain ⟨F1, hF1⟩ : ∃ F, fitsB ps = F := ⟨_, rfl⟩
              obtain ⟨F2, hF2⟩ : ∃ F, fitB (0) = F := ⟨_, rfl⟩
              rw [hF1, hF2] at hX
              have HX := hidd hX
              have HF1 := hidd hF1
              have HF2 := hidd hF2
              clear hX hF1 hF2
              have rdp := Rd.of_own hown
              have o0 := hgo.cell 0
              have o1 := hgo.cell 1
              have o2 := hgo.cell 2
              have o3 := hgo.cell 3
              have o4 := hgo.cell 4
              have o5 := hgo.cell 5
              have o6 := hgo.cell 6
              have y0 := hg6.cell 0
              have y1 := hg6.cell 1
              have y2 := hg6.cell 2
              have y3 := hg6.cell 3
              have y4 := hg6.cell 4
              have y5 := hg6.cell 5
              have y6 := hg6.cell 6
              simp at o0 o1 o2 o3 o4 o5 o6 y0 y1 y2 y3 y4 y5 y6
              have yf := hg6.frozen
              go_wp2_with (fail)
              refine (rall_any ps A l.length c _ rdp HL.out (by omega) F1 HF1.out).mono ?_
              rintro e w' ⟨rfl, rfl⟩
              cases F1 with
              | false =>
                have hst : RR = ⟨sk0, 10⟩ := HX.out
                subst hst
                have h0 := HN.out
                simp only [sk0, List.length_nil] at h0
                subst h0
                clear HX HN HF1 HF2 hown rdp
                go_wp2_with (fail)
                refine bodyPost_ret (v := .tuple #[.agg #[.slice none 0 0, .int .i64 0, .int .i64 0, .int .i64 0, .int .i64 0, .int .i64 0, .bool false], .int .i64 10]) (by simp [results, Try.results23, go_sem, y0, y1, y2, y3, y4, y5, y6]) rfl ?_
                exact ⟨none, 0, rfl, Rd.nil_ _, (((((((hB.setCell (p := ⟨g6, 0, none⟩) hle6 _).setCell (p := ⟨g6, 1, none⟩) hle6 _).setCell (p := ⟨g6, 2, none⟩) hle6 _).setCell (p := ⟨g6, 3, none⟩) hle6 _).setCell (p := ⟨g6, 4, none⟩) hle6 _).setCell (p := ⟨g6, 5, none⟩) hle6 _).setCell (p := ⟨g6, 6, none⟩) hle6 _)⟩
              | true =>
                go_wp2_with (fail)
                refine (rfit_val (0) F2 HF2.out _).mono ?_
                rintro e w' ⟨rfl, rfl⟩
                cases F2 with
                | false =>
                  have hst : RR = ⟨sk0, 10⟩ := HX.out
                  subst hst
                  have h0 := HN.out
                  simp only [sk0, List.length_nil] at h0
                  subst h0
                  clear HX HN HF1 HF2 hown rdp
                  go_wp2_with (fail)
                  refine bodyPost_ret (v := .tuple #[.agg #[.slice none 0 0, .int .i64 0, .int .i64 0, .int .i64 0, .int .i64 0, .int .i64 0, .bool false], .int .i64 10]) (by simp [results, Try.results23, go_sem, y0, y1, y2, y3, y4, y5, y6]) rfl ?_
                  exact ⟨none, 0, rfl, Rd.nil_ _, (((((((hB.setCell (p := ⟨g6, 0, none⟩) hle6 _).setCell (p := ⟨g6, 1, none⟩) hle6 _).setCell (p := ⟨g6, 2, none⟩) hle6 _).setCell (p := ⟨g6, 3, none⟩) hle6 _).setCell (p := ⟨g6, 4, none⟩) hle6 _).setCell (p := ⟨g6, 5, none⟩) hle6 _).setCell (p := ⟨g6, 6, none⟩) hle6 _)⟩
                | true =>
                  have hst : RR = ⟨⟨ps, 0, ⟨tu, td⟩, ⟨wu, wd⟩, false⟩, 0⟩ := HX.out
                  subst hst
                  have hnl : l.length = n := by
                    have h0 := HN.out
                    have h1 := HL.out
                    simp only at h0
                    omega
                  have HNL := hidd hnl
                  clear HX HN HF1 HF2 hnl
                  go_wp2_with (fail)
                  refine bodyPost_ret (v := .tuple #[.agg #[.slice A l.length c, .int .i64 0, .int .i64 tu, .int .i64 td, .int .i64 wu, .int .i64 wd, .bool false], .int .i64 0]) (by simp [results, Try.results23, go_sem, y0, y1, y2, y3, y4, y5, y6]) rfl ?_
                  have hnl := HNL.out
                  subst hnl
                  exact ⟨A, c, rfl, Rd.of_own (own_far (own_far (own_far (own_far (own_far (own_far (own_far hown (p := ⟨g6, 0, none⟩) (own_ne hown hg6 (by decide)) (.slice A l.length c)) (p := ⟨g6, 1, none⟩) (own_ne hown hg6 (by decide)) (.int .i64 0)) (p := ⟨g6, 2, none⟩) (own_ne hown hg6 (by decide)) (.int .i64 tu)) (p := ⟨g6, 3, none⟩) (own_ne hown hg6 (by decide)) (.int .i64 td)) (p := ⟨g6, 4, none⟩) (own_ne hown hg6 (by decide)) (.int .i64 wu)) (p := ⟨g6, 5, none⟩) (own_ne hown hg6 (by decide)) (.int .i64 wd)) (p := ⟨g6, 6, none⟩) (own_ne hown hg6 (by decide)) (.bool false)), (((((((hB.setCell (p := ⟨g6, 0, none⟩) hle6 _).setCell (p := ⟨g6, 1, none⟩) hle6 _).setCell (p := ⟨g6, 2, none⟩) hle6 _).setCell (p := ⟨g6, 3, none⟩) hle6 _).setCell (p := ⟨g6, 4, none⟩) hle6 _).setCell (p := ⟨g6, 5, none⟩) hle6 _).setCell (p := ⟨g6, 6, none⟩) hle6 _)⟩
          | false =>
            have hX2 : RR = if (fitsB ps && fitB (max 0 (y + (wu + wd)))) = true then ⟨⟨ps, max 0 (y + (wu + wd)), ⟨tu, td⟩, ⟨0, 0⟩, false⟩, 0⟩ else ⟨sk0, 10⟩ := hX
            obtain ⟨Y, hY⟩ : ∃ Y, y + (wu + wd) = Y := ⟨_, rfl⟩
            rw [hY] at hX2
            obtain ⟨⟨hw1, hw2⟩, hw1', hw2'⟩ := sum3 y wu wd Y (by omega) (by omega) s1 s2 s3 s4 hY
            have HXX := hidd hX2
            clear hX hX2 hY
            go_upto_region 27 with (fail)
            have hX := HXX.out
            clear HXX hw1 hw2 hw1' hw2' z0 z1 gf
            by_cases hy0 : 0 < Y
            · have dy : decide (0 < Y) = true := by simpa using hy0
              have hm : max 0 Y = Y := by omega
              rw [hm] at hX
              have gf := hgo.frozen
              have z0 := hgo.cell 1
              have z1 := hgo.cell 1
              simp at z0 z1
              clear hm
              have HXX := hidd hX
              clear hX
              go_upto_region 29 with (fail)
              have hX := HXX.out
              clear HXX
              have hgw := hgo
              have hgoN := Blk.to (hgo.set_ 1 (.int .i64 Y)) (cs' := #[.slice A l.length c, .int .i64 Y, .int .i64 tu, .int .i64 td, .int .i64 0, .int .i64 0, .bool false]) (by simp)
              have hg6N := (hg6.far (p := ⟨go, 1, none⟩) hne3 (.int .i64 Y))
              have hownN := (own_far hown (p := ⟨go, 1, none⟩) (own_ne hown hgo (by decide)) (.int .i64 Y))
              have hBN := (hB.setCell (p := ⟨go, 1, none⟩) hle2 (.int .i64 Y))
              obtain ⟨W2, hW2⟩ : ∃ Z, (W).setCell ⟨go, 1, none⟩ (.int .i64 Y) = Z := ⟨_, rfl⟩
              rw [hW2] at hgoN hg6N hownN hBN ⊢
              clear hW2 hgo hg6 hgw hown hB gf z0 z1
              obtain ⟨W, hW⟩ : ∃ Z, W2 = Z := ⟨_, rfl⟩
              rw [hW] at hgoN hg6N hownN hBN ⊢
              clear hW
              clear W2
              have hgo := hgoN
              have hg6 := hg6N
              have hown := hownN
              have hB := hBN
              clear hgoN hg6N hownN hBN
              obtain ⟨F1, hF1⟩ : ∃ F, fitsB ps = F := ⟨_, rfl⟩
              obtain ⟨F2, hF2⟩ : ∃ F, fitB (Y) = F := ⟨_, rfl⟩
              rw [hF1, hF2] at hX
              have HX := hidd hX
              have HF1 := hidd hF1
              have HF2 := hidd hF2
              clear hX hF1 hF2
              have rdp := Rd.of_own hown
              have o0 := hgo.cell 0
              have o1 := hgo.cell 1
              have o2 := hgo.cell 2
              have o3 := hgo.cell 3
              have o4 := hgo.cell 4
              have o5 := hgo.cell 5
              have o6 := hgo.cell 6
              have y0 := hg6.cell 0
              have y1 := hg6.cell 1
              have y2 := hg6.cell 2
              have y3 := hg6.cell 3
              have y4 := hg6.cell 4
              have y5 := hg6.cell 5
              have y6 := hg6.cell 6
              simp at o0 o1 o2 o3 o4 o5 o6 y0 y1 y2 y3 y4 y5 y6
              have yf := hg6.frozen
              go_wp2_with (fail)
              refine (rall_any ps A l.length c _ rdp HL.out (by omega) F1 HF1.out).mono ?_
              rintro e w' ⟨rfl, rfl⟩
              cases F1 with
              | false =>
                have hst : RR = ⟨sk0, 10⟩ := HX.out
                subst hst
                have h0 := HN.out
                simp only [sk0, List.length_nil] at h0
                subst h0
                clear HX HN HF1 HF2 hown rdp
                go_wp2_with (fail)
                refine bodyPost_ret (v := .tuple #[.agg #[.slice none 0 0, .int .i64 0, .int .i64 0, .int .i64 0, .int .i64 0, .int .i64 0, .bool false], .int .i64 10]) (by simp [results, Try.results23, go_sem, y0, y1, y2, y3, y4, y5, y6]) rfl ?_
                exact ⟨none, 0, rfl, Rd.nil_ _, (((((((hB.setCell (p := ⟨g6, 0, none⟩) hle6 _).setCell (p := ⟨g6, 1, none⟩) hle6 _).setCell (p := ⟨g6, 2, none⟩) hle6 _).setCell (p := ⟨g6, 3, none⟩) hle6 _).setCell (p := ⟨g6, 4, none⟩) hle6 _).setCell (p := ⟨g6, 5, none⟩) hle6 _).setCell (p := ⟨g6, 6, none⟩) hle6 _)⟩
              | true =>
                go_wp2_with (fail)
                refine (rfit_val (Y) F2 HF2.out _).mono ?_
                rintro e w' ⟨rfl, rfl⟩
                cases F2 with
                | false =>
                  have hst : RR = ⟨sk0, 10⟩ := HX.out
                  subst hst
                  have h0 := HN.out
                  simp only [sk0, List.length_nil] at h0
                  subst h0
                  clear HX HN HF1 HF2 hown rdp
                  go_wp2_with (fail)
                  refine bodyPost_ret (v := .tuple #[.agg #[.slice none 0 0, .int .i64 0, .int .i64 0, .int .i64 0, .int .i64 0, .int .i64 0, .bool false], .int .i64 10]) (by simp [results, Try.results23, go_sem, y0, y1, y2, y3, y4, y5, y6]) rfl ?_
                  exact ⟨none, 0, rfl, Rd.nil_ _, (((((((hB.setCell (p := ⟨g6, 0, none⟩) hle6 _).setCell (p := ⟨g6, 1, none⟩) hle6 _).setCell (p := ⟨g6, 2, none⟩) hle6 _).setCell (p := ⟨g6, 3, none⟩) hle6 _).setCell (p := ⟨g6, 4, none⟩) hle6 _).setCell (p := ⟨g6, 5, none⟩) hle6 _).setCell (p := ⟨g6, 6, none⟩) hle6 _)⟩
                | true =>
                  have hst : RR = ⟨⟨ps, Y, ⟨tu, td⟩, ⟨0, 0⟩, false⟩, 0⟩ := HX.out
                  subst hst
                  have hnl : l.length = n := by
                    have h0 := HN.out
                    have h1 := HL.out
                    simp only at h0
                    omega
                  have HNL := hidd hnl
                  clear HX HN HF1 HF2 hnl
                  go_wp2_with (fail)
                  refine bodyPost_ret (v := .tuple #[.agg #[.slice A l.length c, .int .i64 Y, .int .i64 tu, .int .i64 td, .int .i64 0, .int .i64 0, .bool false], .int .i64 0]) (by simp [results, Try.results23, go_sem, y0, y1, y2, y3, y4, y5, y6]) rfl ?_
                  have hnl := HNL.out
                  subst hnl
                  exact ⟨A, c, rfl, Rd.of_own (own_far (own_far (own_far (own_far (own_far (own_far (own_far hown (p := ⟨g6, 0, none⟩) (own_ne hown hg6 (by decide)) (.slice A l.length c)) (p := ⟨g6, 1, none⟩) (own_ne hown hg6 (by decide)) (.int .i64 Y)) (p := ⟨g6, 2, none⟩) (own_ne hown hg6 (by decide)) (.int .i64 tu)) (p := ⟨g6, 3, none⟩) (own_ne hown hg6 (by decide)) (.int .i64 td)) (p := ⟨g6, 4, none⟩) (own_ne hown hg6 (by decide)) (.int .i64 0)) (p := ⟨g6, 5, none⟩) (own_ne hown hg6 (by decide)) (.int .i64 0)) (p := ⟨g6, 6, none⟩) (own_ne hown hg6 (by decide)) (.bool false)), (((((((hB.setCell (p := ⟨g6, 0, none⟩) hle6 _).setCell (p := ⟨g6, 1, none⟩) hle6 _).setCell (p := ⟨g6, 2, none⟩) hle6 _).setCell (p := ⟨g6, 3, none⟩) hle6 _).setCell (p := ⟨g6, 4, none⟩) hle6 _).setCell (p := ⟨g6, 5, none⟩) hle6 _).setCell (p := ⟨g6, 6, none⟩) hle6 _)⟩
            · have dy : decide (0 < Y) = false := by simpa using hy0
              have hm : max 0 Y = 0 := by omega
              rw [hm] at hX
              clear hm
              have HXX := hidd hX
              clear hX
              go_upto_region 29 with (fail)
              have hX := HXX.out
              clear HXX
              obtain ⟨F1, hF1⟩ : ∃ F, fitsB ps = F := ⟨_, rfl⟩
              obtain ⟨F2, hF2⟩ : ∃ F, fitB (0) = F := ⟨_, rfl⟩
              rw [hF1, hF2] at hX
              have HX := hidd hX
              have HF1 := hidd hF1
              have HF2 := hidd hF2
              clear hX hF1 hF2
              have rdp := Rd.of_own hown
              have o0 := hgo.cell 0
              have o1 := hgo.cell 1
              have o2 := hgo.cell 2
              have o3 := hgo.cell 3
              have o4 := hgo.cell 4
              have o5 := hgo.cell 5
              have o6 := hgo.cell 6
              have y0 := hg6.cell 0
              have y1 := hg6.cell 1
              have y2 := hg6.cell 2
              have y3 := hg6.cell 3
              have y4 := hg6.cell 4
              have y5 := hg6.cell 5
              have y6 := hg6.cell 6
              simp at o0 o1 o2 o3 o4 o5 o6 y0 y1 y2 y3 y4 y5 y6
              have yf := hg6.frozen
              go_wp2_with (fail)
              refine (rall_any ps A l.length c _ rdp HL.out (by omega) F1 HF1.out).mono ?_
              rintro e w' ⟨rfl, rfl⟩
              cases F1 with
              | false =>
                have hst : RR = ⟨sk0, 10⟩ := HX.out
                subst hst
                have h0 := HN.out
                simp only [sk0, List.length_nil] at h0
                subst h0
                clear HX HN HF1 HF2 hown rdp
                go_wp2_with (fail)
                refine bodyPost_ret (v := .tuple #[.agg #[.slice none 0 0, .int .i64 0, .int .i64 0, .int .i64 0, .int .i64 0, .int .i64 0, .bool false], .int .i64 10]) (by simp [results, Try.results23, go_sem, y0, y1, y2, y3, y4, y5, y6]) rfl ?_
                exact ⟨none, 0, rfl, Rd.nil_ _, (((((((hB.setCell (p := ⟨g6, 0, none⟩) hle6 _).setCell (p := ⟨g6, 1, none⟩) hle6 _).setCell (p := ⟨g6, 2, none⟩) hle6 _).setCell (p := ⟨g6, 3, none⟩) hle6 _).setCell (p := ⟨g6, 4, none⟩) hle6 _).setCell (p := ⟨g6, 5, none⟩) hle6 _).setCell (p := ⟨g6, 6, none⟩) hle6 _)⟩
              | true =>
                go_wp2_with (fail)
                refine (rfit_val (0) F2 HF2.out _).mono ?_
                rintro e w' ⟨rfl, rfl⟩
                cases F2 with
                | false =>
                  have hst : RR = ⟨sk0, 10⟩ := HX.out
                  subst hst
                  have h0 := HN.out
                  simp only [sk0, List.length_nil] at h0
                  subst h0
                  clear HX HN HF1 HF2 hown rdp
                  go_wp2_with (fail)
                  refine bodyPost_ret (v := .tuple #[.agg #[.slice none 0 0, .int .i64 0, .int .i64 0, .int .i64 0, .int .i64 0, .int .i64 0, .bool false], .int .i64 10]) (by simp [results, Try.results23, go_sem, y0, y1, y2, y3, y4, y5, y6]) rfl ?_
                  exact ⟨none, 0, rfl, Rd.nil_ _, (((((((hB.setCell (p := ⟨g6, 0, none⟩) hle6 _).setCell (p := ⟨g6, 1, none⟩) hle6 _).setCell (p := ⟨g6, 2, none⟩) hle6 _).setCell (p := ⟨g6, 3, none⟩) hle6 _).setCell (p := ⟨g6, 4, none⟩) hle6 _).setCell (p := ⟨g6, 5, none⟩) hle6 _).setCell (p := ⟨g6, 6, none⟩) hle6 _)⟩
                | true =>
                  have hst : RR = ⟨⟨ps, 0, ⟨tu, td⟩, ⟨0, 0⟩, false⟩, 0⟩ := HX.out
                  subst hst
                  have hnl : l.length = n := by
                    have h0 := HN.out
                    have h1 := HL.out
                    simp only at h0
                    omega
                  have HNL := hidd hnl
                  clear HX HN HF1 HF2 hnl
                  go_wp2_with (fail)
                  refine bodyPost_ret (v := .tuple #[.agg #[.slice A l.length c, .int .i64 0, .int .i64 tu, .int .i64 td, .int .i64 0, .int .i64 0, .bool false], .int .i64 0]) (by simp [results, Try.results23, go_sem, y0, y1, y2, y3, y4, y5, y6]) rfl ?_
                  have hnl := HNL.out
                  subst hnl
                  exact ⟨A, c, rfl, Rd.of_own (own_far (own_far (own_far (own_far (own_far (own_far (own_far hown (p := ⟨g6, 0, none⟩) (own_ne hown hg6 (by decide)) (.slice A l.length c)) (p := ⟨g6, 1, none⟩) (own_ne hown hg6 (by decide)) (.int .i64 0)) (p := ⟨g6, 2, none⟩) (own_ne hown hg6 (by decide)) (.int .i64 tu)) (p := ⟨g6, 3, none⟩) (own_ne hown hg6 (by decide)) (.int .i64 td)) (p := ⟨g6, 4, none⟩) (own_ne hown hg6 (by decide)) (.int .i64 0)) (p := ⟨g6, 5, none⟩) (own_ne hown hg6 (by decide)) (.int .i64 0)) (p := ⟨g6, 6, none⟩) (own_ne hown hg6 (by decide)) (.bool false)), (((((((hB.setCell (p := ⟨g6, 0, none⟩) hle6 _).setCell (p := ⟨g6, 1, none⟩) hle6 _).setCell (p := ⟨g6, 2, none⟩) hle6 _).setCell (p := ⟨g6, 3, none⟩) hle6 _).setCell (p := ⟨g6, 4, none⟩) hle6 _).setCell (p := ⟨g6, 5, none⟩) hle6 _).setCell (p := ⟨g6, 6, none⟩) hle6 _)⟩
  · have hne : (E != 0) = true := by simpa using hE0
    have hst := stack_no l above below E HE.out hE0
    rw [HRR.out] at hst
    subst hst
    have HE0 := hidd hE0
    have h0 := HN.out
    simp only [sk0, List.length_nil] at h0
    subst h0
    clear hE0 HN HRR
    go_wp2_with (fail)
    refine bodyPost_ret (v := .tuple #[.agg #[.slice none 0 0, .int .i64 0, .int .i64 0, .int .i64 0, .int .i64 0, .int .i64 0, .bool false], .int .i64 E]) (by simp [results, Try.results23, go_sem, y0, y1, y2, y3, y4, y5, y6]) rfl ?_
    refine ⟨none, 0, rfl, Rd.nil_ _, ?_⟩
    exact ((((((hB2.setCell (by simp; omega) _).setCell (by simp; omega) _).setCell (by simp; omega) _).setCell (by simp; omega) _).setCell (by simp; omega) _).setCell (by simp; omega) _).setCell (by simp; omega) _
end Go.Proofs.Ytbcojkfndegjmaa
