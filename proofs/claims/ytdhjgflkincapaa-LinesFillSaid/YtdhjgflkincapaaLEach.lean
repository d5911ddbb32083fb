/- Contract: the function that goes over the lines. -/
import Derived.Test.YtdhjgflkincapaaLWidth
import Derived.Test.YtdhjgflkincapaaOrd
import Derived.RangeFuncNested
import Derived.RangeFuncBound
import Derived.TacticsInMore
import Derived.Deep.CutBlock
import Derived.Deep.DeepCutAuto
namespace Go.Proofs.Ytdhjgflkincapaa
open Go.RowKit
set_option linter.unusedVariables false

def LnV (x : Ln) : Value := .agg #[.int .i64 (x.fr : Int), .int .i64 (x.en : Int), .int .i64 x.wd]
theorem But.new_ {C : Nat} {A B : World} (h : But C A B) (p : Addr) (v : Value) (hp : A.heap.size ≤ p.block) : But C A (B.setCell p v) :=
  ⟨h.os, h.tape, h.output, by simpa using h.size, fun k hk hc => (Below.heap_setCell B p v k (by omega)).trans (h.block k hk hc)⟩
/-- what the iterator reads beside the cursor -/
structure Fix (l : List It) (A : Option Addr) (W : Int) (N C BP BC BW : Nat) (w : World) : Prop where
  rd : Rd w N 2 A l.length (tcells l)
  p : Blk w BP 82 #[.func (.func 45) #[.pointer (some ⟨C, 0, none⟩)] #[]]
  c : Blk w BC 61 #[.pointer (some ⟨C, 0, none⟩)]
  wd : Blk w BW 3 #[.int .i64 W]
structure Apt (N C BP BC BW : Nat) : Prop where
  n : N ≤ C
  p : BP ≠ C
  c : BC ≠ C
  w : BW ≠ C
theorem Fix.but {l : List It} {A : Option Addr} {W : Int} {N C BP BC BW : Nat} {w w' : World} (h : Fix l A W N C BP BC BW w) (ha : Apt N C BP BC BW) (hb : But C w w') (hN : N ≤ w.heap.size) : Fix l A W N C BP BC BW w' :=
  ⟨h.rd.but hb ha.n hN, hb.blk h.p ha.p, hb.blk h.c ha.c, hb.blk h.wd ha.w⟩
theorem Cur.le {W : World} {C n cap a : Nat} {A : Option Addr} (h : Cur W C A n cap a) : C < W.heap.size := Blk.lt h
/-- what a round that goes on keeps for the iterator -/
def Kept (l : List It) (A : Option Addr) (W : Int) (N C BP BC BW cap : Nat) (w w' : World) : Prop :=
  (Fix l A W N C BP BC BW w → Fix l A W N C BP BC BW w') ∧ ∀ a, Cur w C A l.length cap a → Cur w' C A l.length cap a
def EachPost (l : List It) (W : Int) (J Jx : List Ln → World → Prop) (e : Ending) (w' : World) : Prop :=
  (∃ v, e = .returned v) ∧ (J (lines l W) w' ∨ ∃ pre, pre <+: lines l W ∧ Jx pre w')
theorem lines_step (l : List It) (W : Int) (pre : List Ln) (f a t : Nat) (n : Int) (h : lines l W = pre ++ linesF l W (l.length + 1) f a) (ha : a ≤ l.length) (hf : l.length < f + a)
    (hg : grow l W (run 1 l a) (l.length + 1) (run 1 l a) 0 (run 1 l a) = (t, n)) :
    (run 1 l a < t → lines l W = (pre ++ [⟨run 1 l a, t, n⟩]) ++ linesF l W (l.length + 1) (f - 1) (endL l (run 1 l t)) ∧ pre.length < l.length) ∧
    (t ≤ run 1 l a → isK l (run 1 l a) 2 = true → lines l W = (pre ++ [⟨run 1 l a, run 1 l a, 0⟩]) ++ linesF l W (l.length + 1) (f - 1) (run 1 l a + 1) ∧ pre.length < l.length) ∧
    (t ≤ run 1 l a → isK l (run 1 l a) 2 = false → lines l W = pre) := by
  have hl := linesF_len l W (l.length + 1) (l.length + 1) 0 (Nat.zero_le _)
  have hlen : pre.length + (linesF l W (l.length + 1) f a).length ≤ l.length := by
    have h2 := congrArg List.length h
    unfold lines at h2
    rw [List.length_append] at h2
    omega
  obtain ⟨g, rfl⟩ : ∃ g, f = g + 1 := ⟨f - 1, by omega⟩
  have hu : linesF l W (l.length + 1) (g + 1) a = if run 1 l a < t then ⟨run 1 l a, t, n⟩ :: linesF l W (l.length + 1) g (endL l (run 1 l t)) else if isK l (run 1 l a) 2 = true then ⟨run 1 l a, run 1 l a, 0⟩ :: linesF l W (l.length + 1) g (run 1 l a + 1) else [] := by
    rw [linesF, hg]
  rw [hu] at h hlen
  refine ⟨fun h1 => ?_, fun h1 h2 => ?_, fun h1 h2 => ?_⟩
  · rw [if_pos h1] at h hlen
    simp only [List.length_cons] at hlen
    exact ⟨by simpa using h, by omega⟩
  · rw [if_neg (by omega), if_pos h2] at h hlen
    simp only [List.length_cons] at hlen
    exact ⟨by simpa using h, by omega⟩
  · rw [if_neg (by omega), if_neg (by rw [h2]; exact Bool.false_ne_true)] at h
    simpa using h

theorem grow_keep (l : List It) (W : Int) (fr : Nat) : ∀ (f t : Nat) (n : Int) (a : Nat), t ≤ a → a ≤ l.length → (grow l W fr f t n a).1 = t → (grow l W fr f t n a).2 = n
  | 0, t, n, a, h1, h2, h3 => rfl
  | f + 1, t, n, a, h1, h2, h3 => by
    unfold grow at h3 ⊢
    split at h3
    · rename_i h4
      split at h3
      · have := (grow_to l W fr f (cl l a) (sm l fr (cl l a)) (run 1 l (cl l a)) (le_run _ _ _) (run_le 1 (cl_le h2))).1
        omega
      · rename_i h5
        rw [if_pos h4, if_neg h5]
    · rename_i h4
      rw [if_neg h4]

set_option maxRecDepth 100000 in
set_option maxHeartbeats 16000000 in
theorem each1_any (l : List It) (A : Option Addr) (Wd : Int) (N C BP BC BW cap L : Nat) (J Jx : List Ln → World → Prop) (hl : l.length ≤ 2048) (hcap : l.length ≤ cap) (hcm : cap ≤ maxLen) (hf : fitI l = true) (hap : Apt N C BP BC BW)
    (hJ : ∀ s w w', J s w → But C w w' → J s w') (hJx : ∀ s w w', Jx s w → But C w w' → Jx s w')
    (hY : ∀ pre x w1, J pre w1 → pre.length < l.length → YieldAt Fence.wide 5 Try.prog L #[LnV x] w1 fun e w' =>
      (e = .returned (.bool true) ∧ J (pre ++ [x]) w' ∧ Kept l A Wd N C BP BC BW cap w1 w') ∨ (e = .returned (.bool false) ∧ Jx (pre ++ [x]) w'))
    (w : World) (hF : Fix l A Wd N C BP BC BW w) (hC : Cur w C A l.length cap 0) (h0 : J [] w) :
    Calls Try.prog 46 #[.func (.yield L) #[] #[], .pointer (some ⟨BP, 0, none⟩), .pointer (some ⟨BC, 0, none⟩), .pointer (some ⟨BW, 0, none⟩)] w (EachPost l Wd J Jx) := by
  have HY := hidd hY
  have HJ := hidd (And.intro hJ hJx)
  have HF9 := hidd hf
  clear hY hJ hJx hf
  go_enter Try.func46, Try.ntmps46
  go_wp2_with (fail)
  go_loopw [6] (fun _ wx => ∃ (pre : List Ln) (f a : Nat), Hid (lines l Wd = pre ++ linesF l Wd (l.length + 1) f a) ∧ a ≤ l.length ∧ l.length < f + a ∧ Cur wx C A l.length cap a ∧ Fix l A Wd N C BP BC BW wx ∧ J pre wx)
    (fun _ wx => l.length - atOf C wx)
  case atStart => exact ⟨[], l.length + 1, 0, rfl, Nat.zero_le _, by omega, hC, hF, h0⟩
  case round =>
    clear hC hF h0
    obtain ⟨pre, f, a, HL, ha, hfa, hC, hF, hj⟩ := hrel
    obtain ⟨W0, hW0⟩ : ∃ Z, wr = Z := ⟨_, rfl⟩
    rw [hW0] at hC hF hj ⊢
    clear hW0
    clear wr
    have HM0 := hidd hC.at_
    have hN0 : N ≤ W0.heap.size := by have := hC.le; have := hap.n; omega
    obtain ⟨b, hb⟩ : ∃ b, run 1 l a = b := ⟨_, rfl⟩
    have hba : a ≤ b := by rw [← hb]; exact le_run _ _ _
    have hbl : b ≤ l.length := by rw [← hb]; exact run_le 1 ha
    have HB := hidd hb
    have p0 := hF.p.cell 0
    simp at p0
    clear hb
    go_wp2_with (fail)
    refine (pass_always l 1 A cap C a N _ hF.rd hap.n hC ha hl b HB.out).mono ?_
    rintro e W2 ⟨⟨v, rfl⟩, hC2, hB2⟩
    have hF2 := hF.but hap hB2 hN0
    have hN2 : N ≤ W2.heap.size := by have := hB2.size; omega
    clear hC p0
    have c0 := hF2.c.cell 0
    have a1 := hC2.cell 1
    simp at c0 a1
    obtain ⟨W, hW⟩ : ∃ Z, W2 = Z := ⟨_, rfl⟩
    rw [hW] at hC2 hB2 hF2 hN2 c0 a1 ⊢
    clear hW
    clear W2
    have bcl := hF2.c.lt
    have ccl := hC2.le
    go_wp2_with (fail)
    refine region_ord [(0, true), (1, true), (2, true), (3, true), (4, true), (5, true), (6, true), (7, true), (8, true), (9, false), (10, false)]
      (fun w' => Below W.heap.size W w' ∧ ∀ b o, b < W.heap.size → w'.cell? ⟨b, o, none⟩ = W.cell? ⟨b, o, none⟩) 10 (by kernel_rfl) (by kernel_rfl) (by kernel_rfl) (by kernel_rfl) (by intro c a d v w h; cases d <;> exact h) (ext_of (Below.drew (Below.refl _ _))) ?_
    simp only [List.map_cons, List.map_nil, List.getElem?_toArray, List.getElem?_cons_succ, List.getElem?_cons_zero]
    have hD0 : Below W.heap.size W W.drew := Below.drew (Below.refl _ _)
    iterate 9 (first
      | (with_reducible refine L_yes ?_ ?_
         focus (go_simp; done)
         apply Exists.intro
         refine ⟨?_, ?_⟩
         (rintro w' ⟨_, hce⟩
          go_simp
          first | done | rfl | (rw [ite_next]))
         simp only [Act.put, List.setIfInBounds_toArray, List.set_cons_zero, List.set_cons_succ])
      | (with_reducible refine L_no ?_ ?_
         focus (go_simp; first | done | (intro h; cases h))
         simp only [Act.put, List.setIfInBounds_toArray, List.set_cons_zero, List.set_cons_succ]))
    with_reducible refine L_main ?_ ?_
    focus (go_simp; done)
    intro K hK
    go_simp
    have hD0_1 := below_al hD0 (.cells #[.int .i64 0, .int .i64 0, .int .i64 0] 33)
    refine hK _ _ (fun _ => ext_of hD0_1) (fun hSx => ?_)
    clear hSx hK K
    with_reducible refine L_main ?_ ?_
    focus (go_simp; done)
    intro K hK
    go_simp
    refine hK _ _ (fun h => absurd rfl h) (fun hSx => ?_)
    clear hSx hK K
    refine L_nil ?_
    clear c0 a1 bcl ccl
    go_upto_block 2 with (fail)
    have hal := (below_al (Below.refl W.heap.size W) (.cells #[.int .i64 b, .int .i64 b, .int .i64 0] 33)).drew
    have hX := (Blk.new W 33 #[.int .i64 (b : Int), .int .i64 (b : Int), .int .i64 0]).drew
    have hCX := hC2.below hal
    have hBX := hB2.step hal
    have hFX := hF2.but hap (But.of_below hal) hN2
    obtain ⟨X, hXX⟩ : ∃ Z, (W.alloc (.cells #[.int .i64 b, .int .i64 b, .int .i64 0] 33)).drew = Z := ⟨_, rfl⟩
    have hbx0 : W0.heap.size ≤ W.heap.size := hB2.size
    have hbxC : W.heap.size ≠ C := by have := hC2.le; omega
    rw [hXX] at hX hCX hBX hFX ⊢
    clear hXX hal hC2 hB2 hF2 hN2 hD0 hD0_1
    obtain ⟨bx, hbx⟩ : ∃ g, W.heap.size = g := ⟨_, rfl⟩
    rw [hbx] at hX hbx0 hbxC ⊢
    clear hbx
    clear W
    go_cut [] (fun wx => ∃ (t a2 : Nat) (n : Int), Hid (grow l Wd b (l.length + 1) b 0 b = (t, n)) ∧ b ≤ t ∧ t ≤ l.length ∧ Cur wx C A l.length cap a2 ∧ Blk wx bx 33 #[.int .i64 (b : Int), .int .i64 (t : Int), .int .i64 n] ∧ But C W0 wx ∧ Fix l A Wd N C BP BC BW wx)
    case first =>
      go_wp2_with (fail)
      go_loopw [6] (fun _ wx => ∃ (f2 t a2 : Nat) (n : Int), Hid (grow l Wd b (l.length + 1) b 0 b = grow l Wd b f2 t n a2) ∧ (b ≤ t ∧ t ≤ a2 ∧ a2 ≤ l.length ∧ l.length < f2 + a2) ∧ Cur wx C A l.length cap a2 ∧ Blk wx bx 33 #[.int .i64 (b : Int), .int .i64 (t : Int), .int .i64 n] ∧ But C W0 wx ∧ Fix l A Wd N C BP BC BW wx)
        (fun _ wx => l.length - atOf C wx)
      case atStart => exact ⟨l.length + 1, b, b, 0, rfl, ⟨Nat.le_refl _, Nat.le_refl _, hbl, by omega⟩, hCX, hX, hBX, hFX⟩
      case round =>
        clear hX hCX hBX hFX
        obtain ⟨f2, t, a2, n, HG, ⟨h1, h2, h3, h4⟩, hC, hX, hB, hF3⟩ := hrel
        obtain ⟨W, hW⟩ : ∃ Z, wr = Z := ⟨_, rfl⟩
        rw [hW] at hC hX hB hF3 ⊢
        clear hW
        clear wr
        have HM2 := hidd hC.at_
        have hN2 : N ≤ W.heap.size := by have := hB.size; omega
        obtain ⟨a3, ha3⟩ : ∃ x, cl l a2 = x := ⟨_, rfl⟩
        have h5 : a2 ≤ a3 := by rw [← ha3]; exact le_cl l a2
        have h6 : a3 ≤ l.length := by rw [← ha3]; exact cl_le h3
        have HA3 := hidd ha3
        have c0 := hF3.c.cell 0
        simp at c0
        clear ha3
        go_wp2_with (fail)
        refine (cluster_any l A cap C a2 N _ hF3.rd hap.n hC h3 hl a3 HA3.out).mono ?_
        rintro e W2 ⟨rfl, hC2, hB2⟩
        have hF2 := hF3.but hap hB2 hN2
        have hX2 := hB2.blk hX hbxC
        have hB4 := hB.trans hB2
        obtain ⟨g2, hg2⟩ : ∃ g, f2 = g + 1 := ⟨f2 - 1, by omega⟩
        subst hg2
        have hgu : grow l Wd b (g2 + 1) t n a2 = if a2 < a3 then (if (decide (t = b) || decide (sm l b a3 ≤ Wd)) = true then grow l Wd b g2 a3 (sm l b a3) (run 1 l a3) else (t, n)) else (t, n) := by
          rw [grow, HA3.out]
        have HGU := hidd hgu
        have hN3 : N ≤ W2.heap.size := by have := hB2.size; omega
        clear c0 hC hX hB hF3 hB2 hN2 hgu
        by_cases hlt : a2 < a3
        · have d1 : decide (a2 < a3) = true := by simpa using hlt
          obtain ⟨n2, hn2⟩ : ∃ x, sm l b a3 = x := ⟨_, rfl⟩
          have HWD : Hid (∀ w', Below W2.heap.size W2 w' → Calls Try.prog 49 #[.pointer (some ⟨C, 0, none⟩), .int .i64 (b : Int), .int .i64 (a3 : Int)] w' fun e w'' => e = .returned (.int .i64 n2) ∧ Below w'.heap.size w' w'') := fun w' hb' =>
            width_any l A cap C a3 N w' (hF2.rd.but (But.of_below hb') hap.n hN3) (by have := hb'.size; omega) (hC2.below hb') b a3 (by omega) h6 hl hcap hcm HF9.out n2 hn2
          have HN2 := hidd hn2
          rw [d1]
          have c0 := hF2.c.cell 0
          have a1 := hC2.cell 1
          have x0 := hX2.cell 0
          simp at c0 a1 x0
          obtain ⟨W, hW⟩ : ∃ Z, W2 = Z := ⟨_, rfl⟩
          rw [hW] at hC2 hF2 hX2 hB4 hN3 HWD c0 a1 x0 ⊢
          clear hW
          clear W2
          have bcl := hF2.c.lt
          have ccl := hC2.le
          have bxl := hX2.lt
          clear hn2 d1
          go_wp2_with (fail)
          refine region_ord [(0, true), (1, true), (2, true), (3, true), (4, true), (5, true), (6, true), (7, false), (8, true)]
            (fun w' => Below W.heap.size W w' ∧ ∀ b o, b < W.heap.size → w'.cell? ⟨b, o, none⟩ = W.cell? ⟨b, o, none⟩) 999 (by kernel_rfl) (by kernel_rfl) (by kernel_rfl) (by kernel_rfl) (by intro c a d v w h; cases d <;> exact h) (ext_of (Below.drew (Below.refl _ _))) ?_
          simp only [List.map_cons, List.map_nil, List.getElem?_toArray, List.getElem?_cons_succ, List.getElem?_cons_zero]
          have hE0 : Below W.heap.size W W.drew := Below.drew (Below.refl _ _)
          iterate 7 (first
            | (with_reducible refine L_yes ?_ ?_
               focus (go_simp; done)
               apply Exists.intro
               refine ⟨?_, ?_⟩
               (rintro w' ⟨_, hce⟩
                go_simp
                first | done | rfl | (rw [ite_next]))
               simp only [Act.put, List.setIfInBounds_toArray, List.set_cons_zero, List.set_cons_succ])
            | (with_reducible refine L_no ?_ ?_
               focus (go_simp; first | done | (intro h; cases h))
               simp only [Act.put, List.setIfInBounds_toArray, List.set_cons_zero, List.set_cons_succ]))
          with_reducible refine L_main ?_ ?_
          focus (go_simp; done)
          intro K hK
          go_simp
          refine (HWD.out _ hE0).mono ?_
          rintro e w4 ⟨rfl, hbN⟩
          have hE0_1 := below_step hE0 hbN
          clear hbN
          dsimp only
          refine hK _ _ (fun _ => ext_of hE0_1) (fun hSx => ?_)
          clear hSx hK K
          iterate 1 (first
            | (with_reducible refine L_yes ?_ ?_
               focus (go_simp; done)
               apply Exists.intro
               refine ⟨?_, ?_⟩
               (rintro w' ⟨_, hce⟩
                go_simp
                first | done | rfl | (rw [ite_next]))
               simp only [Act.put, List.setIfInBounds_toArray, List.set_cons_zero, List.set_cons_succ])
            | (with_reducible refine L_no ?_ ?_
               focus (go_simp; first | done | (intro h; cases h))
               simp only [Act.put, List.setIfInBounds_toArray, List.set_cons_zero, List.set_cons_succ]))
          refine L_nil ?_
          have hE := hE0_1
          have hC5 := hC2.below hE
          have hF5 := hF2.but hap (But.of_below hE) hN3
          have hX5 := hX2.below hE hX2.lt
          have hB5 := hB4.step hE
          have hN5 : N ≤ w4.heap.size := by have := hE.size; omega
          clear hE0 hE0_1 hE HWD hC2 hF2 hX2 hB4 hN3 c0 a1 x0 bcl ccl bxl
          have x0 := hX5.cell 0
          have x1 := hX5.cell 1
          have x2 := hX5.cell 2
          have xf := hX5.frozen
          have y0 := hF5.wd.cell 0
          have c0 := hF5.c.cell 0
          have a1 := hC5.cell 1
          simp at x0 x1 x2 y0 c0 a1
          by_cases hok : t = b ∨ n2 ≤ Wd
          · have HR : Hid (grow l Wd b (l.length + 1) b 0 b = grow l Wd b g2 a3 n2 (run 1 l a3)) := by
              rw [HG.out, HGU.out, if_pos hlt, HN2.out, if_pos (by simpa using hok)]; exact rfl
            have hXn := Blk.to ((hX5.set_ 1 (.int .i64 (a3 : Int))).set_ 2 (.int .i64 n2)) (cs' := #[.int .i64 (b : Int), .int .i64 (a3 : Int), .int .i64 n2]) (by simp)
            have hBn := (hB5.new_ ⟨bx, 1, none⟩ (.int .i64 (a3 : Int)) hbx0).new_ ⟨bx, 2, none⟩ (.int .i64 n2) hbx0
            have hF6 := hF5.but hap (show But C w4 _ from (But.refl C w4)) hN5
            have HXB := hidd (And.intro hXn hBn)
            obtain ⟨a4, ha4⟩ : ∃ x, run 1 l a3 = x := ⟨_, rfl⟩
            have h7 : a3 ≤ a4 := by rw [← ha4]; exact le_run _ _ _
            have h8 : a4 ≤ l.length := by rw [← ha4]; exact run_le 1 h6
            have HA4 := hidd ha4
            have hCn := (Blk.far (p := ⟨bx, 1, none⟩) hC5 (Ne.symm hbxC) (.int .i64 (a3 : Int))).far (p := ⟨bx, 2, none⟩) (Ne.symm hbxC) (.int .i64 n2)
            have hFn := hF.but hap hBn hN0
            have HC6 := hidd (And.intro hXn (And.intro hBn (And.intro hCn hFn)))
            have hn8 : N ≤ ((w4.setCell ⟨bx, 1, none⟩ (.int .i64 (a3 : Int))).setCell ⟨bx, 2, none⟩ (.int .i64 n2)).heap.size := by simpa using hN5
            have hF5l := hF5.c.lt
            have hX5l := hX5.lt
            have hC5l := hC5.le
            have hF5w := hF5.wd.lt
            have ec : ((t : Int) == (b : Int)) = true ∨ ((t : Int) == (b : Int)) = false ∧ decide (n2 ≤ Wd) = true := by
              by_cases hh : t = b
              · subst hh; exact .inl (by simp)
              · exact .inr ⟨by simp; omega, by simpa using hok.resolve_left hh⟩
            have p0 := hF5.p.cell 0
            simp at p0
            have bpb : BP ≠ bx := by
              have h1 := hF.p.lt
              omega
            clear ha4 HG HGU hok hF5 hX5 hB5 hC5 hXn hBn hCn hFn hF6 HXB
            rcases ec with e1 | ⟨e1, e2⟩
            all_goals
              go_wp2_with (fail)
              have hXn := HC6.out.1
              have hBn := HC6.out.2.1
              have hCn := HC6.out.2.2.1
              have hFn := HC6.out.2.2.2
              refine (pass_always l 1 A cap C a3 N _ hFn.rd hap.n hCn h6 hl a4 HA4.out).mono ?_
              rintro e w5 ⟨⟨v5, rfl⟩, hC7, hB7⟩
              have hX7 := hB7.blk hXn hbxC
              have hB8 := hBn.trans hB7
              have hF7 := hF.but hap hB8 hN0
              have HM5 : Hid (atOf C w5 = a4) := hC7.at_
              clear x0 x1 x2 xf y0 c0 a1 p0 HC6 hXn hBn hCn hFn hB7
              go_wp2_with (fail)
              go_roundw
              case rel => exact ⟨g2, a3, a4, n2, by rw [← HA4.out]; exact HR, ⟨by omega, h7, h8, by omega⟩, hC7, hX7, hB8, hF7⟩
              case measure =>
                rw [HM5.out, HM2.out]
                omega
          · have hok1 : t ≠ b := fun h => hok (.inl h)
            have hok2 : ¬ n2 ≤ Wd := fun h => hok (.inr h)
            have HR : Hid (grow l Wd b (l.length + 1) b 0 b = (t, n)) := by
              rw [HG.out, HGU.out, if_pos hlt, HN2.out, if_neg (by simp [hok1, hok2])]; exact rfl
            have e1 : ((t : Int) == (b : Int)) = false := by simp; omega
            have e2 : decide (n2 ≤ Wd) = false := by simpa using hok2
            clear HG HGU hok hok1
            go_wp2_with (fail)
            go_meet
            exact ⟨t, a3, n, HR, h1, by omega, hC5, hX5, hB5, hF5⟩
        · have d1 : decide (a2 < a3) = false := by simpa using hlt
          rw [d1]
          have HR : Hid (grow l Wd b (l.length + 1) b 0 b = (t, n)) := by rw [HG.out, HGU.out, if_neg hlt]; exact rfl
          clear HG HGU
          go_wp2_with (fail)
          go_meet
          exact ⟨t, a3, n, HR, h1, by omega, hC2, hX2, hB4, hF2⟩
    case rest =>
    clear hX hCX hBX hFX
    obtain ⟨t, a2, n, HG, h1, h2, hC, hX, hB, hF3⟩ := hcut
    obtain ⟨W, hW⟩ : ∃ Z, wc = Z := ⟨_, rfl⟩
    rw [hW] at hC hX hB hF3 ⊢
    clear hW
    clear wc
    have c0 := hF3.c.cell 0
    have c1 := hC.cell 1
    have cf := hC.frozen
    have x1 := hX.cell 1
    simp at c0 c1 x1
    go_upto_region 8 with (fail)
    have hCn := hC.to (t : Int) (a' := t) rfl
    have hBn := hB.trans (But.set_ C W 1 (.int .i64 (t : Int)))
    have hXn := hX.far (p := ⟨C, 1, none⟩) hbxC (.int .i64 (t : Int))
    have hFn := hF.but hap hBn hN0
    clear c0 c1 cf x1 hC hX hB hF3
    obtain ⟨X, hXX⟩ : ∃ Z, W.setCell ⟨C, 1, none⟩ (.int .i64 (t : Int)) = Z := ⟨_, rfl⟩
    rw [hXX] at hCn hBn hXn hFn ⊢
    clear hXX
    clear W
    have hst := lines_step l Wd pre f a t n HL.out ha hfa (by rw [HB.out]; exact HG.out)
    rw [HB.out] at hst
    obtain ⟨hs1, hs2, hs3⟩ := hst
    have hgk := grow_keep l Wd b (l.length + 1) b 0 b (Nat.le_refl _) hbl
    rw [HG.out] at hgk
    have HS := hidd (And.intro hs1 (And.intro hs2 (And.intro hs3 hgk)))
    clear hs1 hs2 hs3 hgk HG HL
    have x0 := hXn.cell 0
    have x1 := hXn.cell 1
    have p0 := hFn.p.cell 0
    have c0 := hFn.c.cell 0
    simp at x0 x1 p0 c0
    have hNX : N ≤ X.heap.size := by have := hBn.size; omega
    by_cases htb : b < t
    · have d1 : decide ((b : Int) < (t : Int)) = true := by simp; omega
      obtain ⟨a5, ha5⟩ : ∃ x, run 1 l t = x := ⟨_, rfl⟩
      have h5 : t ≤ a5 := by rw [← ha5]; exact le_run _ _ _
      have h6 : a5 ≤ l.length := by rw [← ha5]; exact run_le 1 h2
      have HA5 := hidd ha5
      clear ha5
      go_wp2_with (fail)
      refine (pass_always l 1 A cap C t N _ hFn.rd hap.n hCn h2 hl a5 HA5.out).mono ?_
      rintro e w5 ⟨⟨v5, rfl⟩, hC7, hB7⟩
      have hX7 := hB7.blk hXn hbxC
      have hB8 := hBn.trans hB7
      clear x0 x1 p0 c0 d1 hCn hBn hXn hFn hB7 hNX
      have hQ : ∃ a6 : Nat, endL l a5 = a6 ∧ a5 ≤ a6 ∧ a6 ≤ l.length := by
        refine ⟨_, rfl, ?_, ?_⟩
        · unfold endL; split <;> omega
        · unfold endL
          split
          · rename_i hh; have := isK_lt hh; omega
          · exact h6
      obtain ⟨a6, ha6, h7, h8⟩ := hQ
      obtain ⟨hs1, hs2⟩ := HS.out.1 htb
      rw [HA5.out, ha6] at hs1
      have HL2 : Hid (lines l Wd = (pre ++ [⟨b, t, n⟩]) ++ linesF l Wd (l.length + 1) (f - 1) a6) := hs1
      have HA6 := hidd ha6
      clear hs1 ha6 HS
      have hF8 := hF.but hap hB8 hN0
      have p0 := hF8.p.cell 0
      simp at p0
      go_wp2_with (fail)
      refine (pass_never l 2 A cap C a5 N _ hF8.rd hap.n hC7 h6 hl a6 HA6.out).mono ?_
      rintro e w6 ⟨⟨v6, rfl⟩, hC9, hB9⟩
      have hXa := hB9.blk hX7 hbxC
      have hBa := hB8.trans hB9
      have hFa := hF.but hap hBa hN0
      clear p0 hF8 hC7 hX7 hB8 hB9
      go_upto_region 12 with (fail)
      have x0 := hXa.cell 0
      have x1 := hXa.cell 1
      have x2 := hXa.cell 2
      simp at x0 x1 x2
      have bxl := hXa.lt
      obtain ⟨fn, tmps, assign, body, hy, hR⟩ := HY.out pre ⟨b, t, n⟩ w6 (HJ.out.1 pre W0 w6 hj hBa) hs2
      simp only [LnV] at hy
      refine (wpIn_wide (n := 6)).1 ?_
      gi_wp2
      refine hR.mono ?_
      rintro e w7 (⟨rfl, hj7, hk7⟩ | ⟨rfl, hj7⟩)
      · have hF9 := hk7.1 hFa
        have hCb := hk7.2 _ hC9
        clear hy x0 x1 x2 hFa hC9 hXa hBa hk7
        gi_wp2
        go_wp2_with (fail)
        go_roundw
        case rel => exact ⟨pre ++ [⟨b, t, n⟩], f - 1, a6, HL2, h8, by omega, hCb, hF9, hj7⟩
        case measure =>
          rw [hCb.at_, HM0.out]
          omega
      · clear hy x0 x1 x2 hFa hC9 hXa hBa
        gi_wp2
        go_wp2_with (fail)
        refine bodyPost_ret (results_none rfl _ _ _) rfl ?_
        exact ⟨⟨_, rfl⟩, .inr ⟨_, by rw [HL2.out]; exact List.prefix_append _ _, hj7⟩⟩
    · have htb' : t = b := by omega
      subst htb'
      have d1 : decide ((t : Int) < (t : Int)) = false := by simp
      obtain ⟨r, hr⟩ : ∃ r, isK l t 2 = r := ⟨_, rfl⟩
      have HR := hidd hr
      clear hr
      go_wp2_with (fail)
      refine (is_any l 2 A cap C t N _ hFn.rd hCn h2 hl r HR.out).mono ?_
      rintro e w5 ⟨rfl, hb5⟩
      have hC7 := hCn.below hb5
      have hX7 := hXn.below hb5 hXn.lt
      have hB8 := hBn.step hb5
      clear x0 x1 p0 c0 d1 hCn hBn hXn hFn hNX
      cases r with
      | false =>
        have hs3 := HS.out.2.2.1 (Nat.le_refl _) HR.out
        have HE := hidd hs3
        clear hs3 HS
        go_wp2_with (fail)
        refine bodyPost_ret (results_none rfl _ _ _) rfl ?_
        exact ⟨⟨_, rfl⟩, .inl (by rw [HE.out]; exact HJ.out.1 pre W0 _ hj hB8)⟩
      | true =>
        have hn0 : n = 0 := HS.out.2.2.2 (by simp)
        subst hn0
        obtain ⟨hs1, hs2⟩ := HS.out.2.1 (Nat.le_refl _) HR.out
        have hlt := isK_lt HR.out
        obtain ⟨a6, ha6⟩ : ∃ a6, t + 1 = a6 := ⟨_, rfl⟩
        have h7 : t ≤ a6 := by omega
        have h8 : a6 ≤ l.length := by omega
        have h9 : t < a6 := by omega
        have HA6 : Hid (endL l t = a6) := by unfold endL; rw [if_pos HR.out]; exact ha6
        rw [ha6] at hs1
        have HL2 : Hid (lines l Wd = (pre ++ [⟨t, t, 0⟩]) ++ linesF l Wd (l.length + 1) (f - 1) a6) := hs1
        clear hs1 ha6 HS HR
        have hF8 := hF.but hap hB8 hN0
        have p0 := hF8.p.cell 0
        simp at p0
        go_wp2_with (fail)
        refine (pass_never l 2 A cap C t N _ hF8.rd hap.n hC7 h2 hl a6 HA6.out).mono ?_
        rintro e w6 ⟨⟨v6, rfl⟩, hC9, hB9⟩
        have hXa := hB9.blk hX7 hbxC
        have hBa := hB8.trans hB9
        have hFa := hF.but hap hBa hN0
        clear p0 hF8 hC7 hX7 hB8 hB9
        go_upto_region 12 with (fail)
        have x0 := hXa.cell 0
        have x1 := hXa.cell 1
        have x2 := hXa.cell 2
        simp at x0 x1 x2
        have bxl := hXa.lt
        obtain ⟨fn, tmps, assign, body, hy, hR⟩ := HY.out pre ⟨t, t, 0⟩ w6 (HJ.out.1 pre W0 w6 hj hBa) hs2
        simp only [LnV] at hy
        refine (wpIn_wide (n := 6)).1 ?_
        gi_wp2
        refine hR.mono ?_
        rintro e w7 (⟨rfl, hj7, hk7⟩ | ⟨rfl, hj7⟩)
        · have hF9 := hk7.1 hFa
          have hCb := hk7.2 _ hC9
          clear hy x0 x1 x2 hFa hC9 hXa hBa hk7
          gi_wp2
          go_wp2_with (fail)
          go_roundw
          case rel => exact ⟨pre ++ [⟨t, t, 0⟩], f - 1, a6, HL2, h8, by omega, hCb, hF9, hj7⟩
          case measure =>
            rw [hCb.at_, HM0.out]
            omega
        · clear hy x0 x1 x2 hFa hC9 hXa hBa
          gi_wp2
          go_wp2_with (fail)
          refine bodyPost_ret (results_none rfl _ _ _) rfl ?_
          exact ⟨⟨_, rfl⟩, .inr ⟨_, by rw [HL2.out]; exact List.prefix_append _ _, hj7⟩⟩
end Go.Proofs.Ytdhjgflkincapaa
