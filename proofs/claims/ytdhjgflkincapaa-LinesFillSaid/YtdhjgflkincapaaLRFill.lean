/- Contract: the reference's Fill. -/
import Derived.Test.YtdhjgflkincapaaLRef
import Derived.Test.YtdhjgflkincapaaLAwake
import Derived.Test.YtdhjgflkincapaaWays
import Derived.Test.YtdhjgflkincapaaPlainLW
import Derived.Test.YtdhjgflkincapaaOpenL
namespace Go.Proofs.Ytdhjgflkincapaa
open Go.RowKit
set_option linter.unusedVariables false

theorem linesF_hd {l : List It} {W : Int} {G f a b : Nat} (hb : run 1 l a = b) (h2 : isK l b 2 = true) : linesF l W G (f + 1) a = ⟨b, b, 0⟩ :: linesF l W G f (b + 1) := by
  have hbl := isK_lt h2
  rw [linesF, hb, grow_none G (by omega) (isK_two h2 (by decide)) (isK_two h2 (by decide)), if_neg (by simp), if_pos h2]
theorem linesF_ln {l : List It} {W : Int} {G f a b t : Nat} {n : Int} (hb : run 1 l a = b) (hg : grow l W b G b 0 b = (t, n)) (hlt : b < t) : linesF l W G (f + 1) a = ⟨b, t, n⟩ :: linesF l W G f (endL l (run 1 l t)) := by
  rw [linesF, hb, hg, if_pos hlt]
theorem linesF_no {l : List It} {W : Int} {G f a : Nat} (h : run 1 l a = l.length) : linesF l W G f a = [] := by
  cases f with
  | zero => rfl
  | succ f => rw [linesF_run l W G f a l.length (by rw [h, run_end 1 (Nat.le_refl _)])]; exact linesF_end l W G _ _ (Nat.le_refl _)
theorem grow_st {l : List It} {W : Int} {b G : Nat} (h : b < cl l b) : grow l W b (G + 1) b 0 b = grow l W b G (cl l b) (sm l b (cl l b)) (run 1 l (cl l b)) := by
  rw [grow, if_pos h, if_pos (by simp)]
theorem grow_go {l : List It} {W : Int} {fr f t a : Nat} {n : Int} (h : a < cl l a) (hw : sm l fr (cl l a) ≤ W) : grow l W fr (f + 1) t n a = grow l W fr f (cl l a) (sm l fr (cl l a)) (run 1 l (cl l a)) := by
  rw [grow, if_pos h, if_pos (by simp [hw])]
theorem grow_nc {l : List It} {W : Int} {fr f t a : Nat} {n : Int} (h : ¬ a < cl l a) : grow l W fr (f + 1) t n a = (t, n) := by
  rw [grow, if_neg h]
theorem grow_nw {l : List It} {W : Int} {fr f t a : Nat} {n : Int} (ht : fr < t) (hw : W < sm l fr (cl l a)) : grow l W fr (f + 1) t n a = (t, n) := by
  rw [grow]
  split
  · rw [if_neg (by simp; exact ⟨by omega, by omega⟩)]
  · rfl
theorem endL_yes {l : List It} {s : Nat} (h : isK l s 2 = true) : endL l s = s + 1 := by unfold endL; rw [if_pos h]
theorem endL_no {l : List It} {s : Nat} (h : isK l s 2 = false) : endL l s = s := by unfold endL; rw [if_neg (by rw [h]; exact Bool.noConfusion)]
def toOf (g : Nat) (w : World) : Nat := match w.cell? ⟨g, 1, none⟩ with
  | some v => (intOf v).toNat
  | none => 0
theorem toOf_blk {w : World} {g t : Nat} {x y : Value} (h : Blk w g 33 #[x, .int .i64 (t : Int), y]) : toOf g w = t := by
  have := h.cell 1
  simp at this
  unfold toOf
  rw [this]
  simp [intOf]

theorem lines_cnt (l : List It) (W : Int) : (lines l W).length ≤ l.length := by
  have := linesF_len l W (l.length + 1) (l.length + 1) 0 (Nat.zero_le _)
  unfold lines
  omega
set_option maxRecDepth 100000 in
set_option maxHeartbeats 16000000 in
theorem rfill_any (l : List It) (Wd : Int) (A : Option Addr) (c : Nat) (w : World) (hR : Rd w w.heap.size 2 A l.length (tcells l)) (hwl : ∀ x ∈ l, x.wide) (hl : l.length ≤ 4096) (r : Lr) (hr : fillF l Wd = r) (m : Nat) (hm : r.ls.length = m) :
    Calls Try.prog 25 #[.slice A l.length c, .int .i64 Wd] w (LinesPost m r w) := by
  by_cases harg : (decide (2048 < l.length) || decide (Wd < 0)) = true
  · have hr2 : r = ⟨[], 2⟩ := by rw [← hr]; unfold fillF; rw [if_pos harg]
    subst hr2
    obtain rfl : m = 0 := by simpa using hm.symm
    by_cases h1 : 2048 < l.length
    · have d1 : decide ((2048 : Int) < (l.length : Int)) = true := by simp; omega
      clear hr hwl hR harg h1
      go_enter Try.func25, Try.ntmps25
      go_wp2_with (fail)
      exact bodyPost_ret (v := .tuple #[.slice none 0 0, .int .i64 2]) (by simp [results, Try.results25, go_sem]) rfl ⟨none, 0, rfl, Rd.nil_ _, Below.refl _ _⟩
    · have d1 : decide ((2048 : Int) < (l.length : Int)) = false := by simp; omega
      have d2 : decide (Wd < 0) = true := by simpa [h1] using harg
      clear hr hwl hR harg h1
      go_enter Try.func25, Try.ntmps25
      go_wp2_with (fail)
      exact bodyPost_ret (v := .tuple #[.slice none 0 0, .int .i64 2]) (by simp [results, Try.results25, go_sem]) rfl ⟨none, 0, rfl, Rd.nil_ _, Below.refl _ _⟩
  have hr3 : r = if kindI l = false then ⟨[], 2⟩ else if (fitB Wd && fitI l) = false then ⟨[], 10⟩ else if (lines l Wd).all (fun x => fitB x.wd) = true then ⟨lines l Wd, 0⟩ else ⟨[], 10⟩ := by
    rw [← hr]; unfold fillF; rw [if_neg harg]
  have HRR := hidd (And.intro hr3 hm)
  have HWL := hidd hwl
  simp only [Bool.or_eq_true, decide_eq_true_eq, not_or] at harg
  obtain ⟨hl2, hW0⟩ := harg
  have d1 : decide ((2048 : Int) < (l.length : Int)) = false := by simp; omega
  have d2 : decide (Wd < 0) = false := by simpa using hW0
  obtain ⟨i0, hi, hz0, hz1, hz2⟩ := info_parts info33
  have HI := hidd (And.intro hi (And.intro hz0 (And.intro hz1 hz2)))
  obtain ⟨F0, hF0⟩ : ∃ x, fitB Wd = x := ⟨_, rfl⟩
  have HF0 := hidd hF0
  clear hi hz0 hz1 hz2 hr3 hm hr hwl hF0
  go_enter Try.func25, Try.ntmps25
  go_wp2_with (fail)
  refine (rfits_any Wd w).mono ?_
  rw [HF0.out]
  rintro e w' ⟨rfl, rfl⟩
  go_wp2_with (fail)
  clear d1 d2
  obtain ⟨F1, hF1⟩ : ∃ x, (!F0) = x := ⟨_, rfl⟩
  rw [hF1]
  have HF1 : Hid (F1 = !(fitB Wd)) := by rw [HF0.out, ← hF1]; rfl
  clear hF1 HF0
  go_loop [6, 7] (fun f i => ∃ (k : Nat) (F : Bool), k ≤ l.length ∧ i = .int .i64 k ∧ f = .bool F ∧ Hid (F = !(fitB Wd && fitI (l.take k)) ∧ kindI (l.take k) = true))
    (fun _ i => l.length - (intOf i).toNat)
  case atStart => exact ⟨0, F1, Nat.zero_le _, rfl, rfl, by rw [HF1.out]; simp [fitI, kindI, Hid]⟩
  case round =>
    obtain ⟨k, F, hk, rfl, rfl, HK⟩ := hrel
    by_cases hlt : k < l.length
    · obtain ⟨b, off, rfl, hbB, hc⟩ := hR.2 (by omega)
      have hx0 := hc _ _ (tcell l k 0 hlt (by omega))
      have hx1 := hc _ _ (tcell l k 1 hlt (by omega))
      have hs1 := kind_step l k hlt
      have hs2 := fit_step l k hlt
      have hs3 := kind_bad l k hlt
      rw [HK.out.2, Bool.true_and] at hs1
      obtain ⟨s, hs⟩ : ∃ s, l[k] = s := ⟨_, rfl⟩
      rw [hs] at hx0 hx1 hs1 hs2 hs3
      obtain ⟨kd, wd⟩ := s
      simp only [← Nat.add_assoc, Nat.add_zero] at hx0 hx1
      simp only at hs1 hs2 hs3
      have k0 : (0 : Int) ≤ (k : Int) := Int.natCast_nonneg _
      have k1 : (k : Int) < (l.length : Int) := by omega
      by_cases hkd : 3 < kd
      · have dk : decide (3 < kd) = true := by simpa using hkd
        have hr2 := HRR.out.1
        rw [if_pos (hs3 hkd)] at hr2
        have hn2 := HRR.out.2
        subst hr2
        obtain rfl : m = 0 := by simpa using hn2.symm
        clear hc hR hs hs1 hs2 hs3 hn2 HRR hkd HK
        go_wp2_with (fail)
        exact bodyPost_ret (v := .tuple #[.slice none 0 0, .int .i64 2]) (by simp [results, Try.results25, go_sem]) rfl ⟨none, 0, rfl, Rd.nil_ _, Below.refl _ _⟩
      · have dk : decide (3 < kd) = false := by simpa using hkd
        have dk2 : decide (kd ≤ 3) = true := by simp; omega
        rw [dk2] at hs1
        obtain ⟨q, hq⟩ : ∃ q, fitB wd = q := ⟨_, rfl⟩
        have HQ := hidd hq
        rw [hq] at hs2
        have HK2 : Hid ((F || !q) = !(fitB Wd && fitI (l.take (k + 1))) ∧ kindI (l.take (k + 1)) = true) := by
          refine ⟨?_, hs1⟩
          rw [hs2, HK.out.1]
          cases fitB Wd <;> cases fitI (l.take k) <;> cases q <;> rfl
        clear hc hR hs hs1 hs2 hs3 hkd HK hq dk2
        cases F with
        | true =>
          go_wp2_with (fail)
          go_round
          case rel => exact ⟨k + 1, true, by omega, by go_num, rfl, HK2⟩
          case measure => simp [intOf]; omega
        | false =>
          go_wp2_with (fail)
          refine (rfits_any wd w).mono ?_
          rw [HQ.out]
          rintro e w' ⟨rfl, rfl⟩
          go_wp2_with (fail)
          go_round
          case rel => exact ⟨k + 1, !q, by omega, by go_num, rfl, HK2⟩
          case measure => simp [intOf]; omega
    · have hkk : k = l.length := by omega
      subst hkk
      have hK := HK.out
      rw [List.take_length] at hK
      have hr2 := HRR.out.1
      rw [if_neg (by rw [hK.2]; exact Bool.noConfusion)] at hr2
      cases F with
      | true =>
        have hff : (fitB Wd && fitI l) = false := by have := hK.1; rwa [eq_comm, Bool.not_eq_true'] at this
        rw [if_pos hff] at hr2
        have hn2 := HRR.out.2
        subst hr2
        obtain rfl : m = 0 := by simpa using hn2.symm
        clear hR hK HRR hn2 HK hff
        go_wp2_with (fail)
        exact bodyPost_ret (v := .tuple #[.slice none 0 0, .int .i64 10]) (by simp [results, Try.results25, go_sem]) rfl ⟨none, 0, rfl, Rd.nil_ _, Below.refl _ _⟩
      | false =>
        have hff : (fitB Wd && fitI l) = true := by have := hK.1; rwa [eq_comm, Bool.not_eq_false'] at this
        rw [if_neg (by rw [hff]; exact Bool.noConfusion)] at hr2
        have hfi : fitI l = true := by
          cases hh : fitI l with
          | true => rfl
          | false => rw [hh, Bool.and_false] at hff; cases hff
        have hk3 : ∀ x ∈ l, 0 ≤ x.kd ∧ x.kd ≤ 3 := fun x hx => ⟨(HWL.out x hx).1.1, by have := List.all_eq_true.1 hK.2 x hx; simpa using this⟩
        have hrl := run_le 1 (Nat.zero_le l.length)
        obtain ⟨p0, hp0⟩ : ∃ p, run 1 l 0 = p := ⟨_, rfl⟩
        rw [hp0] at hrl
        have HR2 := hidd (And.intro hr2 (And.intro HRR.out.2 (And.intro hfi (And.intro hk3 hp0))))
        clear hr2 hff hfi hK HRR HK hk3 HWL hp0
        go_wp2_with (fail)
        refine (behind_any l A c 0 p0 w hR hl (Nat.zero_le _) HR2.out.2.2.2.2).mono ?_
        rintro e w' ⟨rfl, rfl⟩
        go_wp2_with (fail)
        go_loopw [8, 9] (fun v i wx => ∃ (D : List Ln) (f a p : Nat), i = .int .i64 p ∧
            Hid (run 1 l a = p ∧ a ≤ l.length ∧ l.length < f + a ∧ D ++ linesF l Wd (l.length + 1) f a = lines l Wd ∧ D.all (fun x => fitB x.wd) = true) ∧
            p ≤ l.length ∧ D.length ≤ l.length ∧ wx.ownsRow w.heap.size 33 3 v D.length (lcells D) ∧ Below w.heap.size w wx)
          (fun _ i _ => l.length - (intOf i).toNat)
        case atStart => exact ⟨[], l.length + 1, 0, p0, rfl, ⟨HR2.out.2.2.2.2, Nat.zero_le _, by omega, rfl, rfl⟩, hrl, Nat.zero_le _, World.ownsRow_nil _ _ _ _, Below.refl _ _⟩
        case round =>
          obtain ⟨D, f1, a, p, rfl, HJ0, hp, hD, hown, hb⟩ := hrel
          obtain ⟨W, hW⟩ : ∃ Z, wr = Z := ⟨_, rfl⟩
          rw [hW] at hown hb ⊢
          clear hW
          clear wr
          obtain ⟨v, hv⟩ : ∃ z, u8 = z := ⟨_, rfl⟩
          rw [hv] at hown ⊢
          clear hv
          clear u8
          have p0' : (0 : Int) ≤ (p : Int) := Int.natCast_nonneg _
          by_cases hpl : p < l.length
          · have p1 : (p : Int) < (l.length : Int) := by omega
            obtain ⟨f, rfl⟩ : ∃ f, f1 = f + 1 := ⟨f1 - 1, by have := HJ0.out; omega⟩
            obtain ⟨b, off, rfl, hbB, hc⟩ := ((hR.below hb).more hb.size).2 (by omega)
            have y0 := hc _ _ (tcell l p 0 hpl (by omega))
            obtain ⟨s, hs⟩ : ∃ s, l[p] = s := ⟨_, rfl⟩
            rw [hs] at y0
            obtain ⟨kd, wd⟩ := s
            simp only [Nat.add_zero] at y0
            have rlW := (hR.below hb).more hb.size
            have hn1 : isK l p 1 = false := by rw [← HJ0.out.1]; exact run_stop 1 l a
            obtain ⟨Q, hQ⟩ : ∃ Q, (kd != 2) = Q := ⟨_, rfl⟩
            have hkc : Q = false ∧ isK l p 2 = true ∨ Q = true ∧ p < cl l p := by
              rw [← hQ]
              rcases kind_cases HR2.out.2.2.2.1 p hpl with h6 | h6 | h6 | h6
              · exact .inr ⟨by have := kd_is h6 hpl hs; subst this; rfl, cl_more (.inl h6)⟩
              · rw [hn1] at h6; cases h6
              · exact .inl ⟨by have := kd_is h6 hpl hs; subst this; rfl, h6⟩
              · exact .inr ⟨by have := kd_is h6 hpl hs; subst this; rfl, cl_more (.inr h6)⟩
            have HKC := hidd hkc
            have hbW := hbB
            clear hc hs hn1 hkc
            go_upto_if 60 with (fail)
            clear hQ hbW
            have hx := Blk.new W 33 #[.int .i64 (p : Int), .int .i64 (p : Int), .int .i64 0]
            have hb1 := below_al (Below.refl W.heap.size W) (.cells #[.int .i64 (p : Int), .int .i64 (p : Int), .int .i64 0] 33)
            obtain ⟨W1, hW1⟩ : ∃ Z, W.alloc (.cells #[.int .i64 (p : Int), .int .i64 (p : Int), .int .i64 0] 33) = Z := ⟨_, rfl⟩
            rw [hW1] at hx hb1 ⊢
            obtain ⟨g, hg⟩ : ∃ g, W.heap.size = g := ⟨_, rfl⟩
            have hgg : W.heap.size ≤ g := by omega
            rw [hg] at hx ⊢
            have HGW := hidd hg
            clear hW1 hg y0
            have rl1 := (rlW.below hb1).more hb1.size
            go_cut [] (fun wx => ∃ (t : Nat) (n : Int), p ≤ t ∧ t ≤ l.length ∧ Hid (linesF l Wd (l.length + 1) (f + 1) a = ⟨p, t, n⟩ :: linesF l Wd (l.length + 1) f (endL l (run 1 l t)) ∧ p < endL l (run 1 l t)) ∧
              Blk wx g 33 #[.int .i64 (p : Int), .int .i64 (t : Int), .int .i64 n] ∧ Below W.heap.size W wx)
            case first =>
              rcases HKC.out with ⟨rfl, hk2⟩ | ⟨rfl, hpc⟩
              · have hrp : run 1 l p = p := run_no (isK_two hk2 (by decide))
                have HH : Hid (linesF l Wd (l.length + 1) (f + 1) a = ⟨p, p, 0⟩ :: linesF l Wd (l.length + 1) f (endL l (run 1 l p)) ∧ p < endL l (run 1 l p)) := by
                  rw [hrp, endL_yes hk2]
                  exact ⟨linesF_hd HJ0.out.1 hk2, by omega⟩
                clear hk2 hrp HKC hown hb
                go_wp2_with (fail)
                go_meet
                exact ⟨p, 0, Nat.le_refl _, hp, HH, hx, hb1⟩
              · have hc2 := cl_le (l := l) hp
                have hgs := grow_st (W := Wd) (G := l.length) hpc
                obtain ⟨T, hT⟩ : ∃ T, cl l p = T := ⟨_, rfl⟩
                rw [hT] at hpc hc2 hgs
                have HT := hidd (And.intro hT hgs)
                have q1 := hx.cell 1
                have xf := hx.frozen
                have xl := hx.lt
                simp at q1
                clear HKC hT hgs hown hb
                go_wp2_with (fail)
                refine (rcluster_any l _ c p T W1 rl1 hl hp HT.out.1).mono ?_
                rintro e w' ⟨rfl, rfl⟩
                have hx2 : Blk (W1.setCell ⟨g, 1, none⟩ (.int .i64 (T : Int))) g 33 #[.int .i64 (p : Int), .int .i64 (T : Int), .int .i64 0] := (hx.set_ 1 (.int .i64 (T : Int))).to (by simp)
                have hb2 := hb1.setCell (p := ⟨g, 1, none⟩) hgg (.int .i64 (T : Int))
                have HX := hidd (And.intro hx2 hb2)
                clear hx2 hb2
                go_wp2_with (fail)
                clear q1 xf xl
                go_loopw [] (fun wx => ∃ (t f2 : Nat), p < t ∧ t ≤ l.length ∧ Hid (l.length < f2 + run 1 l t ∧ grow l Wd p (l.length + 1) p 0 p = grow l Wd p f2 t (sm l p t) (run 1 l t)) ∧
                    Blk wx g 33 #[.int .i64 (p : Int), .int .i64 (t : Int), .int .i64 0] ∧ Below W.heap.size W wx)
                  (fun wx => l.length - toOf g wx)
                case atStart => exact ⟨T, l.length, hpc, hc2, ⟨by have := le_run 1 l T; omega, HT.out.2⟩, HX.out.1, HX.out.2⟩
                case round =>
                  clear HX hx hb1 rl1 HT hpc hc2
                  clear W1
                  obtain ⟨t, f2, ht1, ht2, HG, hx, hb1⟩ := hrel
                  have hrs := run_le 1 ht2
                  have hts := le_run 1 l t
                  obtain ⟨s, hs⟩ : ∃ s, run 1 l t = s := ⟨_, rfl⟩
                  rw [hs] at hrs hts
                  have hcs := le_cl l s
                  have hcs2 := cl_le (l := l) hrs
                  obtain ⟨C, hC⟩ : ∃ C, cl l s = C := ⟨_, rfl⟩
                  rw [hC] at hcs hcs2
                  obtain ⟨f3, rfl⟩ : ∃ f3, f2 = f3 + 1 := ⟨f2 - 1, by have := HG.out.1; omega⟩
                  have HSC := hidd (And.intro hs hC)
                  have q0 := hx.cell 0
                  have q1 := hx.cell 1
                  have q2 := hx.cell 2
                  have xf := hx.frozen
                  have xl := hx.lt
                  have HM := hidd (toOf_blk hx)
                  have rl2 := (rlW.below hb1).more hb1.size
                  simp at q0 q1 q2
                  clear hs hC
                  go_wp2_with (fail)
                  refine (behind_any l _ c t s wr rl2 hl ht2 HSC.out.1).mono ?_
                  rintro e w' ⟨rfl, rfl⟩
                  go_wp2_with (fail)
                  refine (rcluster_any l _ c s C wr rl2 hl hrs HSC.out.2).mono ?_
                  rintro e w' ⟨rfl, rfl⟩
                  by_cases hCs : C = s
                  · have e0 : ((C : Int) == (s : Int)) = true := by rw [beq_iff_eq]; omega
                    have hgr : grow l Wd p (l.length + 1) p 0 p = (t, sm l p t) := by
                      rw [HG.out.2]
                      exact grow_nc (by rw [HSC.out.1, HSC.out.2]; omega)
                    obtain ⟨M, hM⟩ : ∃ M, sm l p t = M := ⟨_, rfl⟩
                    rw [hM] at hgr
                    have HH : Hid (linesF l Wd (l.length + 1) (f + 1) a = ⟨p, t, M⟩ :: linesF l Wd (l.length + 1) f (endL l (run 1 l t)) ∧ p < endL l (run 1 l t)) := by
                      refine ⟨linesF_ln HJ0.out.1 hgr ht1, ?_⟩
                      have h5 := (endL_le (l := l) (run_le 1 ht2)).1
                      have h6 := le_run 1 l t
                      omega
                    have HM9 := hidd hM
                    have hx2 : Blk (wr.setCell ⟨g, 2, none⟩ (.int .i64 M)) g 33 #[.int .i64 (p : Int), .int .i64 (t : Int), .int .i64 M] := (hx.set_ 2 (.int .i64 M)).to (by simp)
                    have hb2 := hb1.setCell (p := ⟨g, 2, none⟩) hgg (.int .i64 M)
                    have HX := hidd (And.intro hx2 hb2)
                    clear hx2 hb2 hx hb1 hgr hM
                    go_wp2_with (fail)
                    refine (rsum_any l _ c p t M wr rl2 (by omega) (by omega) ht2 HR2.out.2.2.1 HM9.out).mono ?_
                    rintro e w' ⟨rfl, rfl⟩
                    go_wp2_with (fail)
                    go_meet
                    exact ⟨t, M, by omega, ht2, HH, HX.out.1, HX.out.2⟩
                  · have e0 : ((C : Int) == (s : Int)) = false := by rw [beq_eq_false_iff_ne]; omega
                    obtain ⟨N, hN⟩ : ∃ N, sm l p C = N := ⟨_, rfl⟩
                    have HN := hidd hN
                    clear hN
                    go_wp2_with (fail)
                    refine (rsum_any l _ c p C N wr rl2 (by omega) (by omega) hcs2 HR2.out.2.2.1 HN.out).mono ?_
                    rintro e w' ⟨rfl, rfl⟩
                    by_cases hwn : Wd < N
                    · have e1 : decide (Wd < N) = true := by simpa using hwn
                      have hgr : grow l Wd p (l.length + 1) p 0 p = (t, sm l p t) := by
                        rw [HG.out.2]
                        exact grow_nw ht1 (by rw [HSC.out.1, HSC.out.2, HN.out]; exact hwn)
                      obtain ⟨M, hM⟩ : ∃ M, sm l p t = M := ⟨_, rfl⟩
                      rw [hM] at hgr
                      have HH : Hid (linesF l Wd (l.length + 1) (f + 1) a = ⟨p, t, M⟩ :: linesF l Wd (l.length + 1) f (endL l (run 1 l t)) ∧ p < endL l (run 1 l t)) := by
                        refine ⟨linesF_ln HJ0.out.1 hgr ht1, ?_⟩
                        have h5 := (endL_le (l := l) (run_le 1 ht2)).1
                        have h6 := le_run 1 l t
                        omega
                      have HM9 := hidd hM
                      have hx2 : Blk (wr.setCell ⟨g, 2, none⟩ (.int .i64 M)) g 33 #[.int .i64 (p : Int), .int .i64 (t : Int), .int .i64 M] := (hx.set_ 2 (.int .i64 M)).to (by simp)
                      have hb2 := hb1.setCell (p := ⟨g, 2, none⟩) hgg (.int .i64 M)
                      have HX := hidd (And.intro hx2 hb2)
                      clear hx2 hb2 hx hb1 hgr hM
                      go_wp2_with (fail)
                      refine (rsum_any l _ c p t M wr rl2 (by omega) (by omega) ht2 HR2.out.2.2.1 HM9.out).mono ?_
                      rintro e w' ⟨rfl, rfl⟩
                      go_wp2_with (fail)
                      go_meet
                      exact ⟨t, M, by omega, ht2, HH, HX.out.1, HX.out.2⟩
                    · have e1 : decide (Wd < N) = false := by simpa using hwn
                      have hx2 : Blk (wr.setCell ⟨g, 1, none⟩ (.int .i64 (C : Int))) g 33 #[.int .i64 (p : Int), .int .i64 (C : Int), .int .i64 0] := (hx.set_ 1 (.int .i64 (C : Int))).to (by simp)
                      have hb2 := hb1.setCell (p := ⟨g, 1, none⟩) hgg (.int .i64 (C : Int))
                      have hgr : grow l Wd p (l.length + 1) p 0 p = grow l Wd p f3 C (sm l p C) (run 1 l C) := by
                        have := grow_go (l := l) (W := Wd) (fr := p) (f := f3) (t := t) (n := sm l p t) (a := run 1 l t) (by rw [HSC.out.1, HSC.out.2]; omega) (by rw [HSC.out.1, HSC.out.2, HN.out]; omega)
                        rw [HG.out.2, this, HSC.out.1, HSC.out.2]
                      have hlc : l.length < f3 + run 1 l C := by have := HG.out.1; rw [HSC.out.1] at this; have := le_run 1 l C; omega
                      have HX := hidd (And.intro hx2 (And.intro hb2 (And.intro hlc hgr)))
                      have HM2 := hidd (toOf_blk hx2)
                      clear hx2 hb2 hlc hgr hx hb1
                      go_wp2_with (fail)
                      clear e0 e1 q0 q1 q2 xf xl
                      go_roundw
                      case rel => exact ⟨C, f3, by omega, hcs2, ⟨HX.out.2.2.1, HX.out.2.2.2⟩, HX.out.1, HX.out.2.1⟩
                      case measure =>
                        rw [HM.out, HM2.out]
                        omega
            case rest =>
              obtain ⟨t, n, ht1, ht2, HL, hx, hbc⟩ := hcut
              have hb7a := hb.trans (hbc.mono hb.size)
              have hown2 := own_below hown hbc
              have hvg : v.ownBlock ≠ some g := fun e => by
                have := (hown.lt g e).2
                have := HGW.out
                omega
              have q0 := hx.cell 0
              have q1 := hx.cell 1
              have q2 := hx.cell 2
              simp at q0 q1 q2
              have xf := hx.frozen
              have xl := hx.lt
              obtain ⟨Q2, hQ2⟩ : ∃ q, fitB n = q := ⟨_, rfl⟩
              have HQ2 := hidd hQ2
              clear hown hQ2 rl1 rlW hbc HKC hb hgg
              go_wp2_with (fail)
              refine (rfits_any n wc).mono ?_
              rw [HQ2.out]
              rintro e w' ⟨rfl, rfl⟩
              cases Q2 with
              | false =>
                have hbad : (lines l Wd).all (fun x => fitB x.wd) = false := by
                  rw [← HJ0.out.2.2.2.1, HL.out.1, List.all_append, List.all_cons]
                  simp only [HQ2.out, Bool.false_and, Bool.and_false]
                have hr2 := HR2.out.1
                rw [if_neg (by rw [hbad]; exact Bool.noConfusion)] at hr2
                have hm2 := HR2.out.2.1
                subst hr2
                obtain rfl : m = 0 := by simpa using hm2.symm
                have HB := hidd hb7a
                clear hbad hm2 HR2 hb7a hown2 hx
                go_wp2_with (fail)
                exact bodyPost_ret (v := .tuple #[.slice none 0 0, .int .i64 10]) (by simp [results, Try.results25, go_sem]) rfl ⟨none, 0, rfl, Rd.nil_ _, HB.out⟩
              | true =>
                have hcnt := lines_cnt l Wd
                have hJ := HJ0.out
                rw [HL.out.1] at hJ
                rw [← hJ.2.2.2.1, List.length_append, List.length_cons] at hcnt
                have hpe := HL.out.2
                have hap := le_run 1 l a
                rw [hJ.1] at hap
                have hsl := run_le 1 ht2
                have EEL := (endL_le hsl).2
                have hPl := run_le 1 EEL
                have hEP := le_run 1 l (endL l (run 1 l t))
                obtain ⟨s, hs⟩ : ∃ s, run 1 l t = s := ⟨_, rfl⟩
                rw [hs] at hpe hsl EEL hPl hEP hJ
                have hey := endL_yes (l := l) (s := s)
                have hen := endL_no (l := l) (s := s)
                obtain ⟨EE, hEE⟩ : ∃ E, endL l s = E := ⟨_, rfl⟩
                rw [hEE] at hpe EEL hPl hEP hJ hey hen
                obtain ⟨P, hP⟩ : ∃ P, run 1 l EE = P := ⟨_, rfl⟩
                rw [hP] at hPl hEP
                have HEE := hidd (And.intro hs hP)
                have HEY := hidd (And.intro hey hen)
                have HJ : Hid (run 1 l EE = P ∧ EE ≤ l.length ∧ l.length < f + EE ∧ (D ++ [(⟨p, t, n⟩ : Ln)]) ++ linesF l Wd (l.length + 1) f EE = lines l Wd ∧ (D ++ [(⟨p, t, n⟩ : Ln)]).all (fun x => fitB x.wd) = true) := by
                  refine ⟨hP, EEL, by omega, ?_, ?_⟩
                  · rw [List.append_assoc]; exact hJ.2.2.2.1
                  · rw [List.all_append, hJ.2.2.2.2]; simp [HQ2.out]
                have HD : Hid ((D ++ [(⟨p, t, n⟩ : Ln)]).length ≤ l.length) := by
                  show _ ≤ _
                  rw [List.length_append, List.length_singleton]
                  omega
                clear hJ hey hen hs hP hEE hcnt
                obtain ⟨hi, hz0, hz1, hz2⟩ := HI.out
                go_wp2_with (at_builtin; refine wpList_append_src _ rfl _ _ 28 rfl w.heap.size 33 i0 (.agg #[.int .i64 0, .int .i64 0, .int .i64 0]) 3 24 Try.underlying28 hi hz0 hz1 hz2 rfl (by decide) v D.length _ rfl (hown2.alloc _) (wc.alloc (.cells #[.int .i64 (p : Int), .int .i64 (t : Int), .int .i64 n] 33)).heap.size (some ⟨wc.heap.size, 0, none⟩) 1 1 [.int .i64 (p : Int), .int .i64 (t : Int), .int .i64 n] rfl (Rd.blk (Blk.new wc 33 #[.int .i64 (p : Int), .int .i64 (t : Int), .int .i64 n]) 1 3 rfl) (by simp [Value.oneCell']) ?c3 ?c4 ?c5 ?_)
                case c3 => unfold maxLen; omega
                case c4 => omega
                case c5 => have := hb7a.size; simp; omega
                intro v' w7 hown7 hgrow
                have hb7 : Below w.heap.size w w7 := (below_al hb7a _).grown hgrow (below_al hb7a _).size (fun q hq => (hown2.lt q hq).1)
                have hx7 := (hx.alloc (.cells #[.int .i64 (p : Int), .int .i64 (t : Int), .int .i64 n] 33)).grown hgrow (Ne.symm hvg)
                have HO : Hid (w7.ownsRow w.heap.size 33 3 v' (D ++ [(⟨p, t, n⟩ : Ln)]).length (lcells (D ++ [⟨p, t, n⟩]))) := by
                  rw [List.length_append, lcells_snoc]
                  exact hown7
                have rl7 := (hR.below hb7).more hb7.size
                have t1 := hx7.cell 1
                simp at t1
                clear hown7 hgrow hown2 hx hb7a hi hz0 hz1 hz2 q0 q1 q2 xf xl hx7 hvg
                go_wp2_with (fail)
                refine (behind_any l _ c t s w7 rl7 hl ht2 HEE.out.1).mono ?_
                rintro e w' ⟨rfl, rfl⟩
                clear t1
                by_cases hsl2 : s < l.length
                · have s0 : (0 : Int) ≤ (s : Int) := Int.natCast_nonneg _
                  have s1 : (s : Int) < (l.length : Int) := by omega
                  have f0 : decide ((s : Int) < (l.length : Int)) = true := by simp; omega
                  obtain ⟨b9, off9, hAe, hbB9, hc9⟩ := rl7.2 (by omega)
                  obtain ⟨rfl, rfl⟩ : b = b9 ∧ off = off9 := by simpa using hAe
                  have y9 := hc9 _ _ (tcell l s 0 hsl2 (by omega))
                  obtain ⟨x9, hx9⟩ : ∃ s', l[s] = s' := ⟨_, rfl⟩
                  rw [hx9] at y9
                  obtain ⟨kd9, wd9⟩ := x9
                  simp only [Nat.add_zero] at y9
                  cases hk9 : isK l s 2 with
                  | true =>
                    have := kd_is hk9 hsl2 hx9
                    subst this
                    have hEs := HEY.out.1 hk9
                    have e1 : (s : Int) + 1 = (EE : Int) := by omega
                    have e2 : IntKind.i64.wrap (EE : Int) = (EE : Int) := IntWalk.i64_in _ ⟨by omega, by omega⟩
                    have e3 : wrap64 (EE : Int) = (EE : Int) := IntWalk.wrap64_in _ ⟨by omega, by omega⟩
                    clear hAe hc9 hx9 hk9 hEs
                    go_wp2_with (fail)
                    clear e1 e2 e3 f0 y9
                    refine (behind_any l _ c EE P w7 rl7 hl EEL HEE.out.2).mono ?_
                    rintro e w9 ⟨rfl, rfl⟩
                    go_wp2_with (fail)
                    go_roundw
                    case rel => exact ⟨D ++ [(⟨p, t, n⟩ : Ln)], f, EE, P, rfl, HJ, hPl, HD.out, HO.out, hb7⟩
                    case measure => simp [intOf]; omega
                  | false =>
                    have n1 := kd_not hk9 hsl2 hx9
                    have hEs := HEY.out.2 hk9
                    subst hEs
                    clear hAe hc9 hx9 hk9
                    go_wp2_with (fail)
                    clear n1 f0 y9
                    refine (behind_any l _ c EE P w7 rl7 hl EEL HEE.out.2).mono ?_
                    rintro e w9 ⟨rfl, rfl⟩
                    go_wp2_with (fail)
                    go_roundw
                    case rel => exact ⟨D ++ [(⟨p, t, n⟩ : Ln)], f, EE, P, rfl, HJ, hPl, HD.out, HO.out, hb7⟩
                    case measure => simp [intOf]; omega
                · have f0 : decide ((s : Int) < (l.length : Int)) = false := by simp; omega
                  have hEs := HEY.out.2 (isK_none l s 2 (by omega))
                  subst hEs
                  go_wp2_with (fail)
                  clear f0
                  refine (behind_any l _ c EE P w7 rl7 hl EEL HEE.out.2).mono ?_
                  rintro e w9 ⟨rfl, rfl⟩
                  go_wp2_with (fail)
                  go_roundw
                  case rel => exact ⟨D ++ [(⟨p, t, n⟩ : Ln)], f, EE, P, rfl, HJ, hPl, HD.out, HO.out, hb7⟩
                  case measure => simp [intOf]; omega
          · have hpe : p = l.length := by omega
            subst hpe
            have hJ := HJ0.out
            have hlines : D = lines l Wd := by
              have := hJ.2.2.2.1
              rw [linesF_no hJ.1, List.append_nil] at this
              exact this
            have hr2 := HR2.out.1
            rw [← hlines, if_pos hJ.2.2.2.2] at hr2
            have hm2 := HR2.out.2.1
            subst hr2
            simp only at hm2
            subst hm2
            obtain ⟨A', c', rfl, hrd⟩ := own_slice hown
            have HE := hidd (And.intro hrd hb)
            clear hR HR2 HJ0 hown hJ hlines hrd hb
            go_wp2_with (fail)
            exact bodyPost_ret (v := .tuple #[.slice A' D.length c', .int .i64 0]) (by simp [results, Try.results25, go_sem]) rfl ⟨A', c', rfl, HE.out.1, HE.out.2⟩
end Go.Proofs.Ytdhjgflkincapaa
