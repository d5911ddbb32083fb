/- LinesApart: the walk. -/
import Derived.Test.YtdhjgflkincapaaMBlanks
import Derived.Test.YtdhjgflkincapaaPlainLA
import Derived.Test.YtdhjgflkincapaaOpenL
namespace Go.Proofs.Ytdhjgflkincapaa
open Go.RowKit
set_option linter.unusedVariables false

theorem solid_at {l : List It} {a : Nat} (h : a < l.length) (hs : solidK l[a] = true) : solidAt l a := by
  unfold solidAt
  rw [isK_some l a 0 h, isK_some l a 3 h]
  simpa [solidK] using hs
/-- the lines of which the first k have been moved on -/
def mvd (Y : List Ln) (d k : Nat) : List Ln := (Y.take k).map (sh d) ++ Y.drop k
theorem mvd_get (Y : List Ln) (d k j : Nat) (hj : j < Y.length) : (mvd Y d k)[j]? = some (if j < k then sh d Y[j] else Y[j]) := by
  unfold mvd
  by_cases h : j < k
  · rw [if_pos h, List.getElem?_append_left (by simp; omega), List.getElem?_map, List.getElem?_take, if_pos h, List.getElem?_eq_getElem hj]
    rfl
  · rw [if_neg h, List.getElem?_append_right (by simp; omega), List.getElem?_drop, List.length_map, List.length_take]
    rw [show k + (j - min k Y.length) = j from by omega, List.getElem?_eq_getElem hj]
/-- a row that holds lines -/
def RowL (cur : Array Value) (Y : List Ln) (d k : Nat) : Prop := ∀ j (hj : j < Y.length), cur[j * 3]? = some (.int .i64 ((if j < k then d + Y[j].fr else Y[j].fr : Nat) : Int)) ∧ cur[j * 3 + 1]? = some (.int .i64 ((if j < k then d + Y[j].en else Y[j].en : Nat) : Int)) ∧ cur[j * 3 + 2]? = some (.int .i64 Y[j].wd)
theorem RowL.start {cur : Array Value} {Y : List Ln} {d : Nat} {xs : List Value} (hx : xs = lcells Y) (h : cur.toList.take (Y.length * 3) = xs) : RowL cur Y d 0 := by
  intro j hj
  have hc : ∀ i, i < 3 → cur[j * 3 + i]? = (Ln.cs Y[j])[i]? := fun i hi => by
    rw [← lcell Y j i hj hi, ← hx, ← h, List.getElem?_take, if_pos (by omega), Array.getElem?_toList]
  have h0 := hc 0 (by omega)
  have h1 := hc 1 (by omega)
  have h2 := hc 2 (by omega)
  exact ⟨h0, h1, h2⟩
theorem RowL.step {cur : Array Value} {Y : List Ln} {d k : Nat} (h : RowL cur Y d k) (hk : k < Y.length) (x y : Int) (hx : x = ((d + Y[k].fr : Nat) : Int)) (hy : y = ((d + Y[k].en : Nat) : Int)) : RowL ((cur.setIfInBounds (k * 3) (.int .i64 x)).setIfInBounds (k * 3 + 1) (.int .i64 y)) Y d (k + 1) := by
  intro j hj
  obtain ⟨a0, a1, a2⟩ := h j hj
  obtain ⟨b0, b1, b2⟩ := h k hk
  have s0 := (Array.getElem?_eq_some_iff.1 b0).1
  have s1 := (Array.getElem?_eq_some_iff.1 b1).1
  by_cases hjk : j = k
  · subst hjk
    rw [if_pos (by omega), if_pos (by omega)]
    refine ⟨?_, ?_, ?_⟩
    · rw [Array.getElem?_setIfInBounds_ne (by omega), Array.getElem?_setIfInBounds_self_of_lt s0, hx]
    · rw [Array.getElem?_setIfInBounds_self_of_lt (by simpa using s1), hy]
    · rw [Array.getElem?_setIfInBounds_ne (by omega), Array.getElem?_setIfInBounds_ne (by omega)]; exact a2
  · refine ⟨?_, ?_, ?_⟩
    · rw [Array.getElem?_setIfInBounds_ne (by omega), Array.getElem?_setIfInBounds_ne (by omega), a0]
      by_cases hh : j < k
      · rw [if_pos hh, if_pos (by omega)]
      · rw [if_neg hh, if_neg (by omega)]
    · rw [Array.getElem?_setIfInBounds_ne (by omega), Array.getElem?_setIfInBounds_ne (by omega), a1]
      by_cases hh : j < k
      · rw [if_pos hh, if_pos (by omega)]
      · rw [if_neg hh, if_neg (by omega)]
    · rw [Array.getElem?_setIfInBounds_ne (by omega), Array.getElem?_setIfInBounds_ne (by omega)]; exact a2
theorem mv4 (f n y : Int) (h1 : 0 ≤ f) (h2 : f ≤ 1000) (h3 : 0 ≤ n) (h4 : n ≤ 1000) (hy : f + n + 1 = y) : (IntKind.i64.wrap (f + n) = f + n ∧ IntKind.i64.wrap (f + n + 1) = y) ∧ wrap64 (f + n) = f + n ∧ wrap64 (f + n + 1) = y := by
  refine ⟨⟨IntWalk.i64_in _ ⟨by omega, by omega⟩, ?_⟩, IntWalk.wrap64_in _ ⟨by omega, by omega⟩, ?_⟩
  · rw [IntWalk.i64_in _ ⟨by omega, by omega⟩]; exact hy
  · rw [IntWalk.wrap64_in _ ⟨by omega, by omega⟩]; exact hy
def OwnPost (k : Nat) (r : Lr) (w : World) (e : Ending) (w' : World) : Prop :=
  ∃ A c, e = .returned (.tuple #[.slice A k c, .int .i64 r.e]) ∧ w'.ownsRow w.heap.size 33 3 (.slice A k c) k (lcells r.ls) ∧ Below w.heap.size w w'
theorem fill_own (l : List It) (W : Int) (A : Option Addr) (n c k : Nat) (w : World) (r : Lr) (hR : Rd w w.heap.size 2 A n (tcells l)) (hn : l.length = n) (hc : n ≤ c) (hcm : c ≤ maxLen) (hr : fillF l W = r) (hk : r.ls.length = k) :
    Calls Try.prog 17 #[.slice A n c, .int .i64 W] w (OwnPost k r w) := by
  subst hn
  exact fill_any l W A c w hR hc hcm r hr k hk

set_option maxRecDepth 100000 in
set_option maxHeartbeats 16000000 in
theorem apart_walk (l m : List It) (Wd : Int) (A : Option Addr) (cap : Nat) (Am : Option Addr) (capm : Nat) (w : World) (hR : Rd w w.heap.size 2 A l.length (tcells l)) (hlc : l.length ≤ cap) (hcm : cap ≤ maxLen)
    (hRm : Rd w w.heap.size 2 Am m.length (tcells m)) (hmc : m.length ≤ capm) (hcmm : capm ≤ maxLen) (hwl : ∀ x ∈ l, x.wide) (hwm : ∀ x ∈ m, x.wide) :
    Calls Try.prog 3 #[.slice A l.length cap, .slice Am m.length capm, .int .i64 Wd] w fun e w' => e = .returned (.bool true) ∧ Below w.heap.size w w' := by
  obtain ⟨i0, hi, hz0, hz1, hz2⟩ := info_parts info27
  have HI := hidd (And.intro hi (And.intro hz0 (And.intro hz1 hz2)))
  clear hi hz0 hz1 hz2
  obtain ⟨G, hG⟩ : ∃ G, greatF l Wd = G := ⟨_, rfl⟩
  obtain ⟨G2, hG2⟩ : ∃ G, greatF m Wd = G := ⟨_, rfl⟩
  have HG := hidd (And.intro hG hG2)
  have HW := hidd (And.intro hwl hwm)
  clear hG hG2 hwl hwm
  go_enter Try.func3, Try.ntmps3
  go_wp2_with (fail)
  refine (awake10 _).mono ?_
  rintro e w1 ⟨rfl, hB1⟩
  go_wp2_with (fail)
  refine (great_any l Wd A cap w1 ((hR.below hB1).more hB1.size) G HG.out.1).mono ?_
  rintro e w1' ⟨rfl, rfl⟩
  cases G with
  | true =>
    clear hR hRm
    go_wp2_with (fail)
    go_ret
    exact ⟨rfl, hB1⟩
  | false =>
  go_wp2_with (fail)
  refine (great_any m Wd Am capm w1 ((hRm.below hB1).more hB1.size) G2 HG.out.2).mono ?_
  rintro e w1' ⟨rfl, rfl⟩
  cases G2 with
  | true =>
    clear hR hRm
    go_wp2_with (fail)
    go_ret
    exact ⟨rfl, hB1⟩
  | false =>
  obtain ⟨hl5, hW0, hW1, hkd, hwd⟩ := great_no HG.out.1
  obtain ⟨hm5, _, _, hkd2, hwd2⟩ := great_no HG.out.2
  by_cases hl : 250 < l.length
  · have d1 : decide ((250 : Int) < (l.length : Int)) = true := by simp; omega
    clear hR hRm hkd hwd hkd2 hwd2
    go_wp2_with (fail)
    go_ret
    exact ⟨rfl, hB1⟩
  have d1 : decide ((250 : Int) < (l.length : Int)) = false := by simp; omega
  by_cases hm : 250 < m.length
  · have d2 : decide ((250 : Int) < (m.length : Int)) = true := by simp; omega
    clear hR hRm hkd hwd hkd2 hwd2
    go_wp2_with (fail)
    go_ret
    exact ⟨rfl, hB1⟩
  have d2 : decide ((250 : Int) < (m.length : Int)) = false := by simp; omega
  by_cases hl0 : l.length = 0
  · have d3 : ((l.length : Int) == 0) = true := by simp; exact List.eq_nil_of_length_eq_zero hl0
    clear hR hRm hkd hwd hkd2 hwd2
    go_wp2_with (fail)
    go_ret
    exact ⟨rfl, hB1⟩
  have d3 : ((l.length : Int) == 0) = false := by simp; intro hh; subst hh; exact hl0 rfl
  obtain ⟨p, hp⟩ : ∃ p, p + 1 = l.length := ⟨l.length - 1, by omega⟩
  have hpl : p < l.length := by omega
  obtain ⟨b0, off0, rfl, hbB, hc⟩ := hR.2 (by omega)
  have hx0 := (hB1.cell (p := ⟨b0, off0 + (p * 2 + 0), none⟩) hbB).trans (hc _ _ (tcell l p 0 hpl (by omega)))
  have hx1 := (hB1.cell (p := ⟨b0, off0 + (p * 2 + 1), none⟩) hbB).trans (hc _ _ (tcell l p 1 hpl (by omega)))
  have hsl := solid_at hpl
  obtain ⟨s, hs⟩ : ∃ s, l[p] = s := ⟨_, rfl⟩
  rw [hs] at hx0 hx1 hsl
  obtain ⟨kd, wd⟩ := s
  simp only [← Nat.add_assoc, Nat.add_zero] at hx0 hx1
  obtain ⟨q, hq⟩ : ∃ q, solidK ⟨kd, wd⟩ = q := ⟨_, rfl⟩
  rw [hq] at hsl
  have HQ := hidd hq
  have hpi : (l.length : Int) - 1 = (p : Int) := by omega
  have p0 : (0 : Int) ≤ (p : Int) := Int.natCast_nonneg _
  have p1 : (p : Int) < (l.length : Int) := by omega
  have hw0 : IntKind.i64.wrap (p : Int) = (p : Int) := IntWalk.i64_in _ ⟨by omega, by omega⟩
  have HSL := hidd hsl
  have HP := hidd hp
  have HKD := hidd (And.intro hkd (And.intro hwd (And.intro hkd2 hwd2)))
  clear hc hs hq hsl hp hkd hwd hkd2 hwd2
  go_wp2_with (fail)
  refine (solid_val kd wd q HQ.out _).mono ?_
  rintro e w2 ⟨rfl, hb2⟩
  have hB2 := below_step hB1 hb2
  clear hB1 hb2 hx0 hx1 HQ
  cases q with
  | false =>
    clear hR hRm
    go_wp2_with (fail)
    go_ret
    exact ⟨rfl, hB2⟩
  | true =>
  have hsol : solidAt l (l.length - 1) := by
    have := HSL.out rfl
    rw [show l.length - 1 = p from by have := HP.out; omega]
    exact this
  have hfl := near_fill (l := l) (W := Wd) (by omega) hW0 hW1 HKD.out.1 HKD.out.2.1
  have hfm := near_fill (l := m) (W := Wd) (by omega) hW0 hW1 HKD.out.2.2.1 HKD.out.2.2.2
  have hfa := near_fill (l := l ++ ⟨2, 0⟩ :: m) (W := Wd) (by simp; omega) hW0 hW1
    (by
      intro x hx
      rcases List.mem_append.1 hx with hx | hx
      · exact HKD.out.1 x hx
      · rcases List.mem_cons.1 hx with rfl | hx
        · decide
        · exact HKD.out.2.2.1 x hx)
    (by
      intro x hx
      rcases List.mem_append.1 hx with hx | hx
      · exact HKD.out.2.1 x hx
      · rcases List.mem_cons.1 hx with rfl | hx
        · decide
        · exact HKD.out.2.2.2 x hx)
  rw [lines_apart l ⟨2, 0⟩ m rfl (by omega) hsol (fun x hx => ⟨(HW.out.1 x hx).1.1, HKD.out.1 x hx⟩) Wd] at hfa
  have hcl := lines_count l Wd
  have hcm2 := lines_count m Wd
  have hlm := lines_le m Wd
  obtain ⟨X, hX⟩ : ∃ X, lines l Wd = X := ⟨_, rfl⟩
  obtain ⟨Y, hY⟩ : ∃ X, lines m Wd = X := ⟨_, rfl⟩
  simp only [hX, hY] at hfl hfm hfa hcl hcm2 hlm
  have HF := hidd (And.intro hfl (And.intro hfm (And.intro hfa hlm)))
  clear hfl hfm hfa hlm hX hY hsol HSL HKD HW HG
  obtain ⟨hi, hz0, hz1, hz2⟩ := HI.out
  have hRW := (hR.below hB2).more hB2.size
  have hRmW := (hRm.below hB2).more hB2.size
  clear hR hRm
  go_wp2_with (at_builtin; refine wpList_append_src _ rfl _ _ 22 rfl w2.heap.size 27 i0 (.agg #[.int .u8 0, .int .i64 0]) 2 16 Try.underlying22 hi hz0 hz1 hz2 rfl (by decide) (.slice none 0 0) 0 [] rfl (World.ownsRow_nil _ _ _ _) w2.heap.size (some ⟨b0, off0, none⟩) l.length cap (tcells l) rfl hRW (tcells_one l) ?c1 ?c2 (Nat.le_refl _) ?_)
  case c1 => unfold maxLen; omega
  case c2 => omega
  intro v7 w3 own3 hgr
  have hb3 := (Below.refl w2.heap.size w2).grown hgr (Nat.le_refl _) (fun q hq => by simp [Value.ownBlock] at hq)
  clear hgr d1 d2 d3 hw0 hpi
  go_wp2_with (at_builtin; refine wpList_append_src _ rfl _ _ 22 rfl w2.heap.size 27 i0 (.agg #[.int .u8 0, .int .i64 0]) 2 16 Try.underlying22 hi hz0 hz1 hz2 rfl (by decide) v7 l.length (tcells l) rfl (own3.alloc (.cells #[.int .u8 2, .int .i64 0] 27)) (w3.alloc (.cells #[.int .u8 2, .int .i64 0] 27)).heap.size (some ⟨w3.heap.size, 0, none⟩) 1 1 [.int .u8 2, .int .i64 0] rfl (Rd.blk (Blk.new w3 27 #[.int .u8 2, .int .i64 0]) 1 2 rfl) (by simp [Value.oneCell']) ?c3 ?c4 ?c5 ?_)
  case c3 => unfold maxLen; omega
  case c4 => omega
  case c5 => have := hb3.size; simp; omega
  intro v7b w4 own4 hgr
  have hb4 := (below_al hb3 (.cells #[.int .u8 2, .int .i64 0] 27)).grown hgr (below_al hb3 _).size (fun q hq => (own3.lt q hq).1)
  clear hgr own3 hb3
  have hRm4 := (hRmW.below hb4).more hb4.size
  go_wp2_with (at_builtin; refine wpList_append_src _ rfl _ _ 22 rfl w2.heap.size 27 i0 (.agg #[.int .u8 0, .int .i64 0]) 2 16 Try.underlying22 hi hz0 hz1 hz2 rfl (by decide) v7b (l.length + 1) (tcells l ++ [.int .u8 2, .int .i64 0]) rfl own4 w4.heap.size Am m.length capm (tcells m) rfl hRm4 (tcells_one m) ?c6 ?c7 hb4.size ?_)
  case c6 => unfold maxLen; omega
  case c7 => omega
  intro v7c w5 own5 hgr
  have hb5 := hb4.grown hgr hb4.size (fun q hq => (own4.lt q hq).1)
  clear hgr own4 hb4 hRm4 hi hz0 hz1 hz2 HI
  have hB5 := hB2.trans (hb5.mono hB2.size)
  have rl := (hRW.below hb5).more hb5.size
  have rm := (hRmW.below hb5).more hb5.size
  have htc : tcells l ++ .int .u8 2 :: .int .i64 0 :: tcells m = tcells (l ++ ⟨2, 0⟩ :: m) := by simp [tcells, It.cs]
  rw [htc] at own5
  obtain ⟨A7, c7, rfl, rd7⟩ := own_slice own5
  obtain ⟨k7, k8⟩ := own_cap own5
  clear own5 hRW hRmW hb5 hB2 htc
  obtain ⟨M, hM⟩ : ∃ M, l.length + 1 + m.length = M := ⟨_, rfl⟩
  rw [hM] at rd7 k7 ⊢
  have HM := hidd hM
  clear hM
  go_wp2_with (fail)
  refine (fill_own l Wd (some ⟨b0, off0, none⟩) l.length cap X.length w5 _ rl rfl hlc hcm HF.out.1 rfl).mono ?_
  rintro e w6 ⟨A8, c8, rfl, own8, hb6⟩
  have hB6 := below_step hB5 hb6
  replace rm := (rm.below hb6).more hb6.size
  replace rd7 := (rd7.below hb6).more hb6.size
  have rx := Rd.of_own own8
  clear own8 hb6 hB5 rl
  go_wp2_with (fail)
  refine (fill_own m Wd Am m.length capm Y.length w6 _ rm rfl hmc hcmm HF.out.2.1 rfl).mono ?_
  rintro e w7 ⟨A9, c9, rfl, own9, hb7⟩
  have hB7 := below_step hB6 hb7
  replace rd7 := (rd7.below hb7).more hb7.size
  replace rx := rx.below hb7
  have hs67 := hb7.size
  clear hb7 rm
  go_wp2_with (fail)
  refine (fill_own (l ++ ⟨2, 0⟩ :: m) Wd A7 M c7 (X.length + Y.length) w7 _ rd7 (by rw [← HM.out]; simp; omega) k7 k8 HF.out.2.2.1 (by simp)).mono ?_
  rintro e w8 ⟨A10, c10, rfl, own10, hb8⟩
  have hB8 := below_step hB7 hb8
  replace rx := rx.belowTo hb8 hs67
  have own9b := own_below own9 hb8
  have hs78 := hb8.size
  have HLT := hidd own9.lt
  simp only at own9b own10 rx
  clear hb8 rd7 own9 hB7
  have hgy : ∃ gy, w6.heap.size ≤ gy ∧ (0 < Y.length → A9 = some ⟨gy, 0, none⟩ ∧ ∃ cur, Blk w8 gy 33 cur ∧ RowL cur Y (l.length + 1) 0) ∧ (0 < X.length + Y.length → ∃ gz, A10 = some ⟨gz, 0, none⟩ ∧ gz ≠ gy ∧ gz < w8.heap.size ∧ ∀ j u, (lcells (X ++ Y.map (sh (l.length + 1))))[j]? = some u → w8.cell? ⟨gz, j, none⟩ = some u) := by
    have hz : 0 < X.length + Y.length → ∃ gz, A10 = some ⟨gz, 0, none⟩ ∧ w7.heap.size ≤ gz ∧ gz < w8.heap.size ∧ ∀ j u, (lcells (X ++ Y.map (sh (l.length + 1))))[j]? = some u → w8.cell? ⟨gz, j, none⟩ = some u := fun hn => by
      rcases own10.2 with ⟨_, h2⟩ | ⟨g, cp, cur, h1, h2, h3, h4, h5, h6, h7⟩
      · omega
      · injection h1 with h1
        have hb : Blk w8 g 33 cur := h3
        refine ⟨g, h1, h2, hb.lt, fun j u hu => ?_⟩
        rw [hb.cell j]
        rw [← h7, List.getElem?_take] at hu
        split at hu
        · simpa using hu
        · cases hu
    rcases Nat.eq_zero_or_pos Y.length with hy0 | hy0
    · refine ⟨w8.heap.size, by omega, fun h => absurd h (by omega), fun hn => ?_⟩
      obtain ⟨gz, e1, e2, e3, e4⟩ := hz hn
      exact ⟨gz, e1, by omega, e3, e4⟩
    · rcases own9b.2 with ⟨_, h2⟩ | ⟨g, cp, cur, h1, h2, h3, h4, h5, h6, h7⟩
      · omega
      · injection h1 with h1
        refine ⟨g, h2, fun _ => ⟨h1, cur, h3, RowL.start rfl h7⟩, fun hn => ?_⟩
        obtain ⟨gz, e1, e2, e3, e4⟩ := hz hn
        refine ⟨gz, e1, ?_, e3, e4⟩
        have hg7 : g < w7.heap.size := (HLT.out g (by rw [h1]; rfl)).2
        omega
  obtain ⟨gy, hgy1, hgy2, hgy3⟩ := hgy
  have HGY := hidd (And.intro hgy2 hgy3)
  have hBgy : w.heap.size ≤ gy := by have := hB6.size; omega
  have hs68 : w6.heap.size ≤ w8.heap.size := by omega
  clear own10 own9b HLT hgy2 hgy3 hs67 hs78
  obtain ⟨nz, hnz⟩ : ∃ n, X.length + Y.length = n := ⟨_, rfl⟩
  have HNZ := hidd hnz
  have hsum : (X.length : Int) + (Y.length : Int) = (nz : Int) := by omega
  have hsw : IntKind.i64.wrap (nz : Int) = (nz : Int) := IntWalk.i64_in _ ⟨by omega, by omega⟩
  have dnz : ((nz : Int) != (nz : Int)) = false := by simp
  have hnz6 : nz ≤ 1000 := by omega
  rw [hnz]
  clear hnz
  go_wp2_with (fail)
  clear hsum hsw dnz
  go_loopw [14] (fun i wx => ∃ k : Nat, k ≤ Y.length ∧ i = .int .i64 k ∧ Hid (0 < Y.length → ∃ cur, Blk wx gy 33 cur ∧ RowL cur Y (l.length + 1) k) ∧ But gy w8 wx)
    (fun i _ => Y.length - (intOf i).toNat)
  case atStart => exact ⟨0, Nat.zero_le _, rfl, fun h => (HGY.out.1 h).2, But.refl _ _⟩
  case round =>
    obtain ⟨k, hk, rfl, hrow, hb⟩ := hrel
    by_cases hlt : k < Y.length
    · obtain ⟨cur, hcur, hrw⟩ := hrow.out (by omega)
      obtain ⟨rfl, _⟩ := HGY.out.1 (by omega)
      obtain ⟨x0, x1, _⟩ := hrw k hlt
      rw [if_neg (by omega)] at x0 x1
      rw [← hcur.cell] at x0 x1
      have hle := HF.out.2.2.2 Y[k] (List.getElem_mem _)
      obtain ⟨y0, hy0⟩ : ∃ y, ((l.length + 1 + Y[k].fr : Nat) : Int) = y := ⟨_, rfl⟩
      obtain ⟨y1, hy1⟩ : ∃ y, ((l.length + 1 + Y[k].en : Nat) : Int) = y := ⟨_, rfl⟩
      have HST := hidd (hrw.step hlt y0 y1 hy0.symm hy1.symm)
      obtain ⟨fr, hfr⟩ : ∃ f, Y[k].fr = f := ⟨_, rfl⟩
      obtain ⟨en, hen⟩ : ∃ f, Y[k].en = f := ⟨_, rfl⟩
      rw [hfr, hen] at hle
      rw [hfr] at x0 hy0
      rw [hen] at x1 hy1
      have t0 := mv4 (fr : Int) (l.length : Int) y0 (by omega) (by omega) (by omega) (by omega) (by omega)
      have t1 := mv4 (en : Int) (l.length : Int) y1 (by omega) (by omega) (by omega) (by omega) (by omega)
      have k0 : (0 : Int) ≤ (k : Int) := Int.natCast_nonneg _
      have k1 : (k : Int) < (Y.length : Int) := by omega
      have hcf := hcur.frozen
      have hcl := hcur.lt
      have hn1 := (hcur.set_ (k * 3) (.int .i64 y0)).set_ (k * 3 + 1) (.int .i64 y1)
      have hn2 := (hb.trans (But.set_ gy wr (k * 3) (.int .i64 y0))).trans (But.set_ gy (wr.setCell ⟨gy, k * 3, none⟩ (.int .i64 y0)) (k * 3 + 1) (.int .i64 y1))
      have HR := hidd (And.intro hn1 hn2)
      clear hn1 hn2
      obtain ⟨⟨s0, s1⟩, s0', s1'⟩ := t0
      obtain ⟨⟨s2, s3⟩, s2', s3'⟩ := t1
      clear hcur hrw hrow hy0 hy1 hfr hen hle
      go_wp2_with (fail)
      clear s0 s1 s0' s1' s2 s3 s2' s3'
      go_roundw
      case rel => exact ⟨k + 1, by omega, by go_num, fun _ => ⟨_, HR.out.1, HST.out⟩, HR.out.2⟩
      case measure => simp [intOf]; omega
    · have hkk : k = Y.length := by omega
      subst hkk
      have hbs := hb.size
      obtain ⟨V, hV⟩ : ∃ Z, wr = Z := ⟨_, rfl⟩
      rw [hV] at hrow hb hbs ⊢
      clear hV
      clear wr
      go_wp2_with (fail)
      go_loopw [15] (fun i wx => ∃ q : Nat, q ≤ nz ∧ i = .int .i64 q ∧ Below V.heap.size V wx)
        (fun i _ => nz - (intOf i).toNat)
      case atStart => exact ⟨0, Nat.zero_le _, rfl, Below.refl _ _⟩
      case round =>
        obtain ⟨q, hq, rfl, hbx⟩ := hrel
        have hnz := HNZ.out
        by_cases hqz : q < nz
        · obtain ⟨gz, rfl, hz1, hz2, hzc⟩ := HGY.out.2 (by omega)
          have hbz := hb.trans (But.of_below hbx)
          have hZl : q < (X ++ Y.map (sh (l.length + 1))).length := by simp; omega
          have z0 := (hbz.cell (o := q * 3 + 0) hz2 hz1).trans (hzc _ _ (lcell (X ++ Y.map (sh (l.length + 1))) q 0 hZl (by omega)))
          have z1 := (hbz.cell (o := q * 3 + 1) hz2 hz1).trans (hzc _ _ (lcell (X ++ Y.map (sh (l.length + 1))) q 1 hZl (by omega)))
          have z2 := (hbz.cell (o := q * 3 + 2) hz2 hz1).trans (hzc _ _ (lcell (X ++ Y.map (sh (l.length + 1))) q 2 hZl (by omega)))
          have q0 : (0 : Int) ≤ (q : Int) := Int.natCast_nonneg _
          have q1 : (q : Int) < (nz : Int) := by omega
          have hgzW : gz < wr.heap.size := Nat.lt_of_lt_of_le hz2 hbz.size
          by_cases hqx : q < X.length
          · have eZ : (X ++ Y.map (sh (l.length + 1)))[q] = X[q] := List.getElem_append_left hqx
            rw [eZ] at z0 z1 z2
            obtain ⟨b1, off1, rfl, hbB1, hc1⟩ := rx.2 (by omega)
            have x0 := (hbz.cell (b := b1) (o := off1 + (q * 3 + 0)) (by omega) (by omega)).trans (hc1 _ _ (lcell X q 0 hqx (by omega)))
            have x1 := (hbz.cell (b := b1) (o := off1 + (q * 3 + 1)) (by omega) (by omega)).trans (hc1 _ _ (lcell X q 1 hqx (by omega)))
            have x2 := (hbz.cell (b := b1) (o := off1 + (q * 3 + 2)) (by omega) (by omega)).trans (hc1 _ _ (lcell X q 2 hqx (by omega)))
            obtain ⟨s, hsx⟩ : ∃ s, X[q] = s := ⟨_, rfl⟩
            rw [hsx] at z0 z1 z2 x0 x1 x2
            obtain ⟨fr, en, wd⟩ := s
            simp only [← Nat.add_assoc, Nat.add_zero] at z0 z1 z2 x0 x1 x2
            have d1 : decide ((q : Int) < (X.length : Int)) = true := by simp; omega
            have d2 : decide ((X.length : Int) ≤ (q : Int)) = false := by simp; omega
            have d3 : decide (q < X.length) = true := by simp; omega
            have d4 : decide (X.length ≤ q) = false := by simp; omega
            have q2 : (q : Int) < (X.length : Int) := by omega
            have hb1W : b1 < wr.heap.size := by have := hbz.size; omega
            clear hzc hc1 hsx eZ hnz hrow rx
            go_wp2_with (fail)
            go_quiet (fail)
            go_wp2_with (fail)
            go_roundw
            case rel => exact ⟨q + 1, by omega, by go_num, below_drewN hbx _⟩
            case measure => simp [intOf]; omega
          · obtain ⟨j, hj⟩ : ∃ j, q = X.length + j := ⟨q - X.length, by omega⟩
            have hjy : j < Y.length := by omega
            have eZ : (X ++ Y.map (sh (l.length + 1)))[q] = sh (l.length + 1) Y[j] := by
              subst hj
              rw [List.getElem_append_right (by omega)]
              simp
            rw [eZ] at z0 z1 z2
            obtain ⟨cur, hcur, hrw⟩ := hrow.out (by omega)
            obtain ⟨rfl, _⟩ := HGY.out.1 (by omega)
            have hcurW := hcur.below hbx hcur.lt
            obtain ⟨x0, x1, x2⟩ := hrw j hjy
            rw [if_pos hjy] at x0 x1
            rw [← hcurW.cell] at x0 x1 x2
            have hgyW := hcurW.lt
            simp only [sh] at z0 z1 z2
            obtain ⟨s, hsx⟩ : ∃ s, Y[j] = s := ⟨_, rfl⟩
            rw [hsx] at z0 z1 z2 x0 x1 x2
            obtain ⟨fr, en, wd⟩ := s
            simp only [Nat.add_zero] at z0 z1 z2 x0 x1 x2
            obtain ⟨y0, hy0⟩ : ∃ y, l.length + 1 + fr = y := ⟨_, rfl⟩
            obtain ⟨y1, hy1⟩ : ∃ y, l.length + 1 + en = y := ⟨_, rfl⟩
            rw [hy0] at z0 x0
            rw [hy1] at z1 x1
            have d1 : decide ((q : Int) < (X.length : Int)) = false := by simp; omega
            have d2 : decide ((X.length : Int) ≤ (q : Int)) = true := by simp; omega
            have d3 : decide (q < X.length) = false := by simp; omega
            have d4 : decide (X.length ≤ q) = true := by simp; omega
            have s0 : (q : Int) - (X.length : Int) = (j : Int) := by omega
            have s1 : IntKind.i64.wrap (j : Int) = (j : Int) := IntWalk.i64_in _ ⟨by omega, by omega⟩
            have j0 : (0 : Int) ≤ (j : Int) := Int.natCast_nonneg _
            have j1 : (j : Int) < (Y.length : Int) := by omega
            clear hzc hcur hcurW hrw hsx eZ hnz hrow rx hj hy0 hy1
            go_wp2_with (fail)
            go_quiet (fail)
            go_wp2_with (fail)
            clear s0 s1
            go_roundw
            case rel => exact ⟨q + 1, by omega, by go_num, below_drewN hbx _⟩
            case measure => simp [intOf]; omega
        · have hqq : q = nz := by omega
          subst hqq
          clear hnz
          go_wp2_with (fail)
          go_ret
          exact ⟨rfl, (hB8.trans (hb.below hBgy hB8.size)).trans (hbx.mono (by have := hB8.size; omega))⟩
end Go.Proofs.Ytdhjgflkincapaa
