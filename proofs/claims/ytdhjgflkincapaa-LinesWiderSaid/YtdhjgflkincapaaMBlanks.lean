/- LinesBlanks: the walk. -/
import Derived.Test.YtdhjgflkincapaaLAwake
import Derived.Test.YtdhjgflkincapaaPlainLL
namespace Go.Proofs.Ytdhjgflkincapaa
open Go.RowKit
set_option linter.unusedVariables false

def ahd : Nat → List It
  | 0 => []
  | k + 1 => ahd k ++ [⟨1, (k : Int)⟩]
def bhd : Nat → List It
  | 0 => []
  | k + 1 => bhd k ++ [⟨1, 7⟩]
theorem ahd_len : ∀ k, (ahd k).length = k
  | 0 => rfl
  | k + 1 => by rw [ahd, List.length_append, ahd_len k]; rfl
theorem bhd_len : ∀ k, (bhd k).length = k
  | 0 => rfl
  | k + 1 => by rw [bhd, List.length_append, bhd_len k]; rfl
theorem ahd_all : ∀ k, ∀ x ∈ ahd k, x.kd = 1 ∧ 0 ≤ x.wd ∧ x.wd ≤ k
  | 0, x, h => by simp [ahd] at h
  | k + 1, x, h => by
    rcases List.mem_append.1 h with h | h
    · obtain ⟨a, b, c⟩ := ahd_all k x h
      exact ⟨a, b, by omega⟩
    · rw [List.mem_singleton] at h
      subst h
      exact ⟨rfl, Int.natCast_nonneg _, by show (k : Int) ≤ ((k + 1 : Nat) : Int); omega⟩
theorem bhd_all : ∀ k, ∀ x ∈ bhd k, x.kd = 1 ∧ x.wd = 7
  | 0, x, h => by simp [bhd] at h
  | k + 1, x, h => by
    rcases List.mem_append.1 h with h | h
    · exact bhd_all k x h
    · rw [List.mem_singleton] at h; subst h; simp
theorem great_no {l : List It} {W : Int} (h : greatF l W = false) : l.length ≤ 500 ∧ 0 ≤ W ∧ W ≤ 1099511627776 ∧ (∀ x ∈ l, x.kd ≤ 3) ∧ ∀ x ∈ l, -1073741824 ≤ x.wd ∧ x.wd ≤ 1073741824 := by
  simp only [greatF, Bool.or_eq_false_iff, decide_eq_false_iff_not, Bool.not_eq_false', nearI, List.all_eq_true, Bool.and_eq_true, decide_eq_true_eq] at h
  obtain ⟨⟨⟨h1, h2⟩, h3⟩, h4⟩ := h
  exact ⟨by omega, by omega, by omega, fun x hx => (h4 x hx).1.1, fun x hx => ⟨(h4 x hx).1.2, (h4 x hx).2⟩⟩
theorem lines_le (l : List It) (W : Int) : ∀ x ∈ lines l W, x.fr ≤ x.en ∧ x.en ≤ l.length := fun x hx =>
  (line_wd l W (l.length + 1) (l.length + 1) 0 (Nat.zero_le _) x hx).2
theorem lines_count (l : List It) (W : Int) : (lines l W).length ≤ l.length := by
  have := linesF_len l W (l.length + 1) (l.length + 1) 0 (Nat.zero_le _)
  unfold lines
  omega
theorem one_it (w : World) (kd wd : Int) : ∀ u ∈ ([.int .u8 kd, .int .i64 wd] : List Value), u.oneCell' = true := by simp [Value.oneCell']
theorem tcells_one (l : List It) : ∀ u ∈ tcells l, u.oneCell' = true := by
  intro u hu
  simp only [tcells, List.mem_flatMap, It.cs] at hu
  obtain ⟨s, _, hs⟩ := hu
  simp at hs
  rcases hs with rfl | rfl <;> rfl

set_option maxRecDepth 100000 in
set_option maxHeartbeats 16000000 in
theorem blanks_walk (l : List It) (Wd D : Int) (A : Option Addr) (cap : Nat) (w : World) (hR : Rd w w.heap.size 2 A l.length (tcells l)) (hlc : l.length ≤ cap) (hcm : cap ≤ maxLen) :
    Calls Try.prog 5 #[.slice A l.length cap, .int .i64 Wd, .int .i64 D] w fun e w' => e = .returned (.bool true) ∧ Below w.heap.size w w' := by
  obtain ⟨i0, hi, hz0, hz1, hz2⟩ := info_parts info27
  have HI := hidd (And.intro hi (And.intro hz0 (And.intro hz1 hz2)))
  clear hi hz0 hz1 hz2
  obtain ⟨G, hG⟩ : ∃ G, greatF l Wd = G := ⟨_, rfl⟩
  have HG := hidd hG
  clear hG
  go_enter Try.func5, Try.ntmps5
  go_wp2_with (fail)
  refine (awake10 _).mono ?_
  rintro e w1 ⟨rfl, hB1⟩
  go_wp2_with (fail)
  refine (great_any l Wd A cap w1 ((hR.below hB1).more hB1.size) G HG.out).mono ?_
  rintro e w1' ⟨rfl, rfl⟩
  cases G with
  | true =>
    clear hR
    go_wp2_with (fail)
    go_ret
    exact ⟨rfl, hB1⟩
  | false =>
  obtain ⟨hl5, hW0, hW1, hkd, hwd⟩ := great_no HG.out
  by_cases hl : 400 < l.length
  · have d1 : decide ((400 : Int) < (l.length : Int)) = true := by simp; omega
    clear hR hkd hwd
    go_wp2_with (fail)
    go_ret
    exact ⟨rfl, hB1⟩
  have d1 : decide ((400 : Int) < (l.length : Int)) = false := by simp; omega
  by_cases hD0 : D < 0
  · have d2 : decide (D < 0) = true := by simpa using hD0
    clear hR hkd hwd
    go_wp2_with (fail)
    go_ret
    exact ⟨rfl, hB1⟩
  have d2 : decide (D < 0) = false := by simpa using hD0
  by_cases hD5 : 50 < D
  · have d3 : decide (50 < D) = true := by simpa using hD5
    clear hR hkd hwd
    go_wp2_with (fail)
    go_ret
    exact ⟨rfl, hB1⟩
  have d3 : decide (50 < D) = false := by simpa using hD5
  obtain ⟨d, hd⟩ : ∃ d : Nat, D = (d : Int) := ⟨D.toNat, by omega⟩
  have hd5 : d ≤ 50 := by omega
  have HD := hidd hd
  have hfl := near_fill (l := l) (W := Wd) (by omega) hW0 hW1 hkd hwd
  have hfa := near_fill (l := ahd d ++ l ++ bhd d) (W := Wd) (by simp [ahd_len, bhd_len]; omega) hW0 hW1
    (by
      intro x hx
      rcases List.mem_append.1 hx with hx | hx
      · rcases List.mem_append.1 hx with hx | hx
        · have := ahd_all d x hx; omega
        · exact hkd x hx
      · have := bhd_all d x hx; omega)
    (by
      intro x hx
      rcases List.mem_append.1 hx with hx | hx
      · rcases List.mem_append.1 hx with hx | hx
        · have := ahd_all d x hx; omega
        · exact hwd x hx
      · have := bhd_all d x hx; omega)
  have hbl := lines_blank (ahd d) l (bhd d) (fun x hx => (ahd_all d x hx).1) (fun x hx => (bhd_all d x hx).1) Wd
  rw [ahd_len] at hbl
  rw [hbl] at hfa
  have hlc2 := lines_count l Wd
  have hle := lines_le l Wd
  obtain ⟨X, hX⟩ : ∃ X, lines l Wd = X := ⟨_, rfl⟩
  simp only [hX] at hfl hfa hlc2 hle
  have HF := hidd (And.intro hfl (And.intro hfa hle))
  clear hfl hfa hbl hkd hwd hd hX hle
  go_wp2_with (fail)
  clear d1 d2 d3
  go_loopw [7, 8] (fun v i wx => ∃ k : Nat, k ≤ d ∧ i = .int .i64 k ∧ wx.ownsRow w1.heap.size 27 2 v k (tcells (ahd k)) ∧ Below w1.heap.size w1 wx)
    (fun _ i _ => d - (intOf i).toNat)
  case atStart => exact ⟨0, Nat.zero_le _, rfl, World.ownsRow_nil _ _ _ _, Below.refl _ _⟩
  case round =>
    obtain ⟨k, hk, rfl, hown, hb⟩ := hrel
    obtain ⟨v7, hv7⟩ : ∃ v, u7 = v := ⟨_, rfl⟩
    rw [hv7] at hown ⊢
    clear hv7
    clear u7
    by_cases hlt : k < d
    · have dk : decide ((k : Int) < D) = true := by have := HD.out; simp; omega
      obtain ⟨hi, hz0, hz1, hz2⟩ := HI.out
      have hsz : w1.heap.size ≤ (wr.alloc (.cells #[.int .u8 1, .int .i64 (k : Int)] 27)).heap.size := by have := hb.size; simp; omega
      go_wp2_with (at_builtin; refine wpList_append_src _ rfl _ _ 22 rfl w1.heap.size 27 i0 (.agg #[.int .u8 0, .int .i64 0]) 2 16 Try.underlying22 hi hz0 hz1 hz2 rfl (by decide) v7 k _ rfl (hown.alloc (.cells #[.int .u8 1, .int .i64 (k : Int)] 27)) (wr.alloc (.cells #[.int .u8 1, .int .i64 (k : Int)] 27)).heap.size (some ⟨wr.heap.size, 0, none⟩) 1 1 [.int .u8 1, .int .i64 (k : Int)] rfl (Rd.blk (Blk.new wr 27 #[.int .u8 1, .int .i64 (k : Int)]) 1 2 rfl) (by simp [Value.oneCell']) (by unfold maxLen; omega) (by omega) hsz ?_)
      intro v' w2 hown' hgr
      have hb2 := (below_al hb (.cells #[.int .u8 1, .int .i64 (k : Int)] 27)).grown hgr hsz (fun q hq => (hown.lt q hq).1)
      have HO : Hid (w2.ownsRow w1.heap.size 27 2 v' (k + 1) (tcells (ahd (k + 1)))) := by
        rw [ahd, tcells_snoc]
        exact hown'
      clear hown' hgr hi hz0 hz1 hz2 hown dk
      go_wp2_with (fail)
      go_roundw
      case rel => exact ⟨k + 1, by omega, by go_num, HO.out, hb2⟩
      case measure => simp [intOf]; omega
    · have hkk : k = d := by omega
      subst hkk
      have dk : decide ((k : Int) < D) = false := by have := HD.out; simp; omega
      obtain ⟨W, hW⟩ : ∃ Z, wr = Z := ⟨_, rfl⟩
      rw [hW] at hown hb ⊢
      clear hW
      clear wr
      have hBW := hB1.trans (hb.mono hB1.size)
      have hRW := (hR.below hBW).more hBW.size
      obtain ⟨hi, hz0, hz1, hz2⟩ := HI.out
      go_wp2_with (at_builtin; refine wpList_append_src _ rfl _ _ 22 rfl w1.heap.size 27 i0 (.agg #[.int .u8 0, .int .i64 0]) 2 16 Try.underlying22 hi hz0 hz1 hz2 rfl (by decide) v7 k _ rfl hown W.heap.size A l.length cap (tcells l) rfl hRW (tcells_one l) (by unfold maxLen; omega) (by omega) hb.size ?_)
      intro v' w2 hown' hgr
      have hb2 := hb.grown hgr hb.size (fun q hq => (hown.lt q hq).1)
      have HO : Hid (w2.ownsRow w1.heap.size 27 2 v' (k + l.length) (tcells (ahd k ++ l))) := by
        have e : tcells (ahd k ++ l) = tcells (ahd k) ++ tcells l := by simp [tcells]
        rw [e]
        exact hown'
      clear hown' hgr hi hz0 hz1 hz2 hown dk hb hBW hRW
      go_wp2_with (fail)
      go_loopw [7, 9] (fun v i wx => ∃ j : Nat, j ≤ k ∧ i = .int .i64 j ∧ wx.ownsRow w1.heap.size 27 2 v (k + l.length + j) (tcells (ahd k ++ l ++ bhd j)) ∧ Below w1.heap.size w1 wx)
        (fun _ i _ => k - (intOf i).toNat)
      case atStart => exact ⟨0, Nat.zero_le _, rfl, by rw [bhd, List.append_nil]; exact HO.out, hb2⟩
      case round =>
        clear hb2 HO
        obtain ⟨j, hj, rfl, hown, hb⟩ := hrel
        obtain ⟨v8, hv8⟩ : ∃ v, u7 = v := ⟨_, rfl⟩
        rw [hv8] at hown ⊢
        clear hv8
        clear u7
        by_cases hlt2 : j < k
        · have dk : decide ((j : Int) < D) = true := by have := HD.out; simp; omega
          obtain ⟨hi, hz0, hz1, hz2⟩ := HI.out
          have hsz : w1.heap.size ≤ (wr.alloc (.cells #[.int .u8 1, .int .i64 7] 27)).heap.size := by have := hb.size; simp; omega
          go_wp2_with (at_builtin; refine wpList_append_src _ rfl _ _ 22 rfl w1.heap.size 27 i0 (.agg #[.int .u8 0, .int .i64 0]) 2 16 Try.underlying22 hi hz0 hz1 hz2 rfl (by decide) v8 (k + l.length + j) _ rfl (hown.alloc (.cells #[.int .u8 1, .int .i64 7] 27)) (wr.alloc (.cells #[.int .u8 1, .int .i64 7] 27)).heap.size (some ⟨wr.heap.size, 0, none⟩) 1 1 [.int .u8 1, .int .i64 7] rfl (Rd.blk (Blk.new wr 27 #[.int .u8 1, .int .i64 7]) 1 2 rfl) (by simp [Value.oneCell']) (by unfold maxLen; omega) (by omega) hsz ?_)
          intro v' w2 hown' hgr
          have hb2 := (below_al hb (.cells #[.int .u8 1, .int .i64 7] 27)).grown hgr hsz (fun q hq => (hown.lt q hq).1)
          have HO : Hid (w2.ownsRow w1.heap.size 27 2 v' (k + l.length + (j + 1)) (tcells (ahd k ++ l ++ bhd (j + 1)))) := by
            rw [bhd, ← List.append_assoc, tcells_snoc, List.append_assoc]
            exact hown'
          clear hown' hgr hi hz0 hz1 hz2 hown dk
          go_wp2_with (fail)
          go_roundw
          case rel => exact ⟨j + 1, by omega, by go_num, HO.out, hb2⟩
          case measure => simp [intOf]; omega
        · have hjj : j = k := by omega
          subst hjj
          have dk : decide ((j : Int) < D) = false := by have := HD.out; simp; omega
          obtain ⟨W, hW⟩ : ∃ Z, wr = Z := ⟨_, rfl⟩
          rw [hW] at hown hb ⊢
          clear hW
          clear wr
          have hBW := hB1.trans (hb.mono hB1.size)
          have hRW := (hR.below hBW).more hBW.size
          obtain ⟨A2, c2, rfl, hrd2⟩ := own_slice hown
          obtain ⟨k2, k3⟩ := own_cap hown
          clear hown hb
          obtain ⟨m, hm⟩ : ∃ m, j + l.length + j = m := ⟨_, rfl⟩
          have HM := hidd hm
          rw [hm] at hrd2 k2 ⊢
          clear hm
          go_wp2_with (fail)
          clear dk
          refine (fill_lit l Wd A l.length cap X.length W _ hRW rfl hlc hcm HF.out.1 rfl).mono ?_
          rintro e w3 ⟨A3, c3, rfl, rd3, hb3⟩
          have hB3 := below_step hBW hb3
          replace hrd2 := (hrd2.below hb3).more hb3.size
          clear hBW hRW hb3
          go_wp2_with (fail)
          refine (fill_lit (ahd j ++ l ++ bhd j) Wd A2 m c2 X.length w3 _ hrd2 (by rw [← HM.out]; simp [ahd_len, bhd_len]; omega) k2 k3 HF.out.2.1 (by simp)).mono ?_
          rintro e w4 ⟨A4, c4, rfl, rd4, hb4⟩
          have hB4 := below_step hB3 hb4
          replace rd3 := (rd3.below hb4).more hb4.size
          clear hB3 hb4 hrd2
          simp only at rd3 rd4
          have dxx : ((X.length : Int) != (X.length : Int)) = false := by simp
          go_wp2_with (fail)
          clear dxx
          go_loopw [14] (fun i wx => ∃ q : Nat, q ≤ X.length ∧ i = .int .i64 q ∧ Below w4.heap.size w4 wx)
            (fun i _ => X.length - (intOf i).toNat)
          case atStart => exact ⟨0, Nat.zero_le _, rfl, Below.refl _ _⟩
          case round =>
            obtain ⟨q, hq, rfl, hb⟩ := hrel
            by_cases hqx : q < X.length
            · obtain ⟨b, off, rfl, hbB, hc⟩ := rd3.2 (by omega)
              obtain ⟨b2, off2, rfl, hbB2, hc2⟩ := rd4.2 (by omega)
              have hqx2 : q < (X.map (sh j)).length := by simpa using hqx
              have hx0 := (hb.cell (p := ⟨b, off + (q * 3 + 0), none⟩) hbB).trans (hc _ _ (lcell X q 0 hqx (by omega)))
              have hx1 := (hb.cell (p := ⟨b, off + (q * 3 + 1), none⟩) hbB).trans (hc _ _ (lcell X q 1 hqx (by omega)))
              have hx2 := (hb.cell (p := ⟨b, off + (q * 3 + 2), none⟩) hbB).trans (hc _ _ (lcell X q 2 hqx (by omega)))
              have hy0 := (hb.cell (p := ⟨b2, off2 + (q * 3 + 0), none⟩) hbB2).trans (hc2 _ _ (lcell (X.map (sh j)) q 0 hqx2 (by omega)))
              have hy1 := (hb.cell (p := ⟨b2, off2 + (q * 3 + 1), none⟩) hbB2).trans (hc2 _ _ (lcell (X.map (sh j)) q 1 hqx2 (by omega)))
              have hy2 := (hb.cell (p := ⟨b2, off2 + (q * 3 + 2), none⟩) hbB2).trans (hc2 _ _ (lcell (X.map (sh j)) q 2 hqx2 (by omega)))
              have hle := HF.out.2.2 X[q] (List.getElem_mem _)
              simp only [List.getElem_map, sh] at hy0 hy1 hy2
              obtain ⟨s, hsx⟩ : ∃ s, X[q] = s := ⟨_, rfl⟩
              rw [hsx] at hx0 hx1 hx2 hy0 hy1 hy2 hle
              obtain ⟨fr, en, wd⟩ := s
              simp only [← Nat.add_assoc, Nat.add_zero] at hx0 hx1 hx2 hy0 hy1 hy2
              simp only at hle
              have hdj := HD.out
              obtain ⟨y0, hy0e⟩ : ∃ y, ((j + fr : Nat) : Int) = y := ⟨_, rfl⟩
              obtain ⟨y1, hy1e⟩ : ∃ y, ((j + en : Nat) : Int) = y := ⟨_, rfl⟩
              rw [hy0e] at hy0
              rw [hy1e] at hy1
              have s0 : IntKind.i64.wrap ((fr : Int) + D) = y0 := by rw [IntWalk.i64_in _ ⟨by omega, by omega⟩]; omega
              have s0' : wrap64 ((fr : Int) + D) = y0 := by rw [IntWalk.wrap64_in _ ⟨by omega, by omega⟩]; omega
              have s1 : IntKind.i64.wrap ((en : Int) + D) = y1 := by rw [IntWalk.i64_in _ ⟨by omega, by omega⟩]; omega
              have s1' : wrap64 ((en : Int) + D) = y1 := by rw [IntWalk.wrap64_in _ ⟨by omega, by omega⟩]; omega
              have e0 : (y0 != y0) = false := by simp
              have e1 : (y1 != y1) = false := by simp
              have e2 : (wd != wd) = false := by simp
              have q0 : (0 : Int) ≤ (q : Int) := Int.natCast_nonneg _
              have q1 : (q : Int) < (X.length : Int) := by omega
              have hbW := Nat.lt_of_lt_of_le hbB hb.size
              have hbW2 := Nat.lt_of_lt_of_le hbB2 hb.size
              clear hc hc2 hR rd3 rd4 hsx hdj hy0e hy1e
              go_wp2_with (fail)
              go_quiet (fail)
              go_wp2_with (fail)
              go_roundw
              case rel => exact ⟨q + 1, by omega, by go_num, below_drewN hb _⟩
              case measure => simp [intOf]; omega
            · have hqq : q = X.length := by omega
              subst hqq
              have rd3' := (rd3.below hb).more hb.size
              have rd4' := (rd4.below hb).more hb.size
              have hB5 := hB4.trans (hb.mono hB4.size)
              clear rd3 rd4 hb hB4 hR
              obtain ⟨V, hV⟩ : ∃ V, widF X = V := ⟨_, rfl⟩
              have HV := hidd hV
              clear hV
              go_wp2_with (fail)
              refine (widest_any X A3 X.length c3 _ rd3' rfl (by omega) V HV.out).mono ?_
              rintro e w5 ⟨rfl, hb5⟩
              replace rd4' := (rd4'.below hb5).more hb5.size
              replace hB5 := below_step hB5 hb5
              clear rd3' hb5
              go_wp2_with (fail)
              refine (widest_any (X.map (sh j)) A4 X.length c4 _ rd4' (by simp) (by omega) V (by rw [← HV.out]; exact widF_sh j X)).mono ?_
              rintro e w6 ⟨rfl, hb6⟩
              replace hB5 := below_step hB5 hb6
              clear rd4' hb6
              go_wp2_with (fail)
              go_ret
              exact ⟨by simp, hB5⟩
end Go.Proofs.Ytdhjgflkincapaa
