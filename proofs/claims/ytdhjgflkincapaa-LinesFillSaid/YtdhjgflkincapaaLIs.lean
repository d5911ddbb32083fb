/- Contracts: the cursor's is, always, never, pass, cluster. -/
import Derived.Test.YtdhjgflkincapaaPlace
import Derived.Test.YtdhjgflkincapaaPlainL
namespace Go.Proofs.Ytdhjgflkincapaa
open Go.RowKit
set_option linter.unusedVariables false

def It.cs (x : It) : List Value := [.int .u8 x.kd, .int .i64 x.wd]
def tcells (l : List It) : List Value := l.flatMap It.cs
theorem tcell (l : List It) (k j : Nat) (h : k < l.length) (hj : j < 2) : (tcells l)[k * 2 + j]? = (It.cs l[k])[j]? := flat_get It.cs 2 (fun _ => rfl) l k j h hj
theorem tcells_length (l : List It) : (tcells l).length = l.length * 2 := flat_length It.cs 2 (fun _ => rfl) l

/-- all that lay is as it was, but for block C -/
structure But (C : Nat) (W W' : World) : Prop where
  os : W'.os = W.os
  tape : W'.tape = W.tape
  output : W'.output = W.output
  size : W.heap.size ≤ W'.heap.size
  block : ∀ k, k < W.heap.size → k ≠ C → W'.heap[k]? = W.heap[k]?
theorem But.refl (C : Nat) (W : World) : But C W W := ⟨rfl, rfl, rfl, Nat.le_refl _, fun _ _ _ => rfl⟩
theorem But.trans {C : Nat} {A B D : World} (h : But C A B) (k : But C B D) : But C A D :=
  ⟨k.os.trans h.os, k.tape.trans h.tape, k.output.trans h.output, Nat.le_trans h.size k.size, fun i hi hc => (k.block i (Nat.lt_of_lt_of_le hi h.size) hc).trans (h.block i hi hc)⟩
theorem But.of_below {C : Nat} {W W' : World} (h : Below W.heap.size W W') : But C W W' := ⟨h.os, h.tape, h.output, h.size, fun k hk _ => h.block k hk⟩
theorem But.step {C : Nat} {A B D : World} (h : But C A B) (k : Below B.heap.size B D) : But C A D := h.trans (But.of_below k)
theorem But.set_ (C : Nat) (W : World) (i : Nat) (v : Value) : But C W (W.setCell ⟨C, i, none⟩ v) :=
  ⟨rfl, rfl, rfl, by simp, fun k _ hk => Below.heap_setCell W ⟨C, i, none⟩ v k hk⟩
theorem But.drew {C : Nat} {A B : World} (h : But C A B) : But C A B.drew := ⟨h.os, h.tape, h.output, h.size, h.block⟩
theorem But.drewN {C : Nat} {A B : World} (h : But C A B) (n : Nat) : But C A (B.drewN n) := ⟨h.os, h.tape, h.output, h.size, h.block⟩
theorem But.cell {C : Nat} {A B : World} (h : But C A B) {b o : Nat} (hb : b < A.heap.size) (hc : b ≠ C) : B.cell? ⟨b, o, none⟩ = A.cell? ⟨b, o, none⟩ := World.cell?_of_block (h.block b hb hc)
theorem But.blk {C : Nat} {A B : World} (h : But C A B) {g : Nat} {t : TypeId} {cs : Array Value} (hg : Blk A g t cs) (hc : g ≠ C) : Blk B g t cs := (h.block g hg.lt hc).trans hg
/-- the cursor -/
def Cur (W : World) (C : Nat) (A : Option Addr) (n cap at_ : Nat) : Prop := Blk W C 63 #[.slice A n cap, .int .i64 at_]
/-- items that lie below N in blocks that are as they were -/
theorem Rd.but {w w' : World} {B size n C : Nat} {A : Option Addr} {xs : List Value} (h : Rd w B size A n xs) (hb : But C w w') (hB : B ≤ C) (hB2 : B ≤ w.heap.size) : Rd w' B size A n xs :=
  h.keep fun b o hp => hb.cell (by omega) (by omega)

set_option maxRecDepth 100000 in
set_option maxHeartbeats 4000000 in
theorem is_any (l : List It) (q : Int) (A : Option Addr) (cap C a N : Nat) (w : World) (hR : Rd w N 2 A l.length (tcells l)) (hC : Cur w C A l.length cap a) (ha : a ≤ l.length) (hl : l.length ≤ 2048) (r : Bool) (hr : isK l a q = r) :
    Calls Try.prog 50 #[.pointer (some ⟨C, 0, none⟩), .int .u8 q] w fun e w' => e = .returned (.bool r) ∧ Below w.heap.size w w' := by
  have c0 := hC.cell 0
  have c1 := hC.cell 1
  simp at c0 c1
  have a0 : (0 : Int) ≤ (a : Int) := Int.natCast_nonneg _
  clear hC
  by_cases hlt : a < l.length
  · rw [isK_some l a q hlt] at hr
    obtain ⟨b, off, rfl, hbB, hc⟩ := hR.2 (by omega)
    have hx := hc _ _ (tcell l a 0 hlt (by omega))
    obtain ⟨s, hs⟩ : ∃ s, l[a] = s := ⟨_, rfl⟩
    rw [hs] at hx hr
    obtain ⟨kd, wd⟩ := s
    rw [Nat.add_zero] at hx
    simp only at hx
    simp only at hr
    have d1 : decide ((a : Int) < (l.length : Int)) = true := by simp; omega
    have d2 : decide (a < l.length) = true := by simp; omega
    have k1 : (a : Int) < (l.length : Int) := by omega
    clear hc hR hs ha
    go_enter Try.func50, Try.ntmps50
    go_wp2_with (fail)
    go_quiet (fail)
    go_wp2_with (fail)
    go_ret
    exact ⟨rfl, below_drewN (Below.refl _ _) _⟩
  · rw [isK_none l a q (by omega)] at hr
    subst hr
    have d1 : decide ((a : Int) < (l.length : Int)) = false := by simp; omega
    have d2 : decide (a < l.length) = false := by simp; omega
    clear hR hlt ha
    go_enter Try.func50, Try.ntmps50
    go_wp2_with (fail)
    go_quiet (fail)
    go_wp2_with (fail)
    go_ret
    exact ⟨rfl, below_drewN (Below.refl _ _) _⟩

theorem always_any (w : World) : Calls Try.prog 47 #[] w fun e w' => e = .returned (.bool true) ∧ w = w' := by
  go_enter Try.func47, Try.ntmps47
  go_wp2_with (fail)
  go_ret
  exact ⟨rfl, rfl⟩
theorem never_any (w : World) : Calls Try.prog 51 #[] w fun e w' => e = .returned (.bool false) ∧ w = w' := by
  go_enter Try.func51, Try.ntmps51
  go_wp2_with (fail)
  go_ret
  exact ⟨rfl, rfl⟩

/-- where the cursor stands, read off the world -/
def atOf (C : Nat) (W : World) : Nat := match W.cell? ⟨C, 1, none⟩ with
  | some (.int _ n) => n.toNat
  | _ => 0
theorem Cur.at_ {W : World} {C n cap a : Nat} {A : Option Addr} (h : Cur W C A n cap a) : atOf C W = a := by
  unfold atOf
  rw [h.cell 1]
  simp
theorem Cur.below {W W' : World} {C n cap a : Nat} {A : Option Addr} (h : Cur W C A n cap a) (hb : Below W.heap.size W W') : Cur W' C A n cap a := Blk.below h hb h.lt
theorem Cur.to {W : World} {C n cap a a' : Nat} {A : Option Addr} (h : Cur W C A n cap a) (x : Int) (hx : x = (a' : Int)) : Cur (W.setCell ⟨C, 1, none⟩ (.int .i64 x)) C A n cap a' := by
  subst hx
  exact Blk.to (h.set_ 1 (.int .i64 (a' : Int))) (by simp)
def PassPost (A : Option Addr) (n cap C a' : Nat) (w : World) (e : Ending) (w' : World) : Prop := (∃ v, e = .returned v) ∧ Cur w' C A n cap a' ∧ But C w w'

set_option maxRecDepth 100000 in
set_option maxHeartbeats 4000000 in
theorem pass_always (l : List It) (q : Int) (A : Option Addr) (cap C a N : Nat) (w : World) (hR : Rd w N 2 A l.length (tcells l)) (hN : N ≤ C) (hC : Cur w C A l.length cap a) (ha : a ≤ l.length) (hl : l.length ≤ 2048) (a' : Nat) (hr : run q l a = a') :
    Calls Try.prog 45 #[.pointer (some ⟨C, 0, none⟩), .int .u8 q, .func (.func 47) #[] #[]] w (PassPost A l.length cap C a' w) := by
  have HR := hidd hr
  have hNw : N ≤ w.heap.size := by have := hC.lt; omega
  clear hr
  go_enter Try.func45, Try.ntmps45
  go_wp2_with (fail)
  go_loopw [8] (fun _ wx => ∃ k : Nat, a ≤ k ∧ k ≤ l.length ∧ Hid (run q l k = run q l a) ∧ Cur wx C A l.length cap k ∧ But C w wx)
    (fun _ wx => l.length - atOf C wx)
  case atStart => exact ⟨a, Nat.le_refl _, ha, rfl, hC, But.refl _ _⟩
  case round =>
    clear hC
    obtain ⟨k, hk1, hk2, HK, hC, hB⟩ := hrel
    have hR2 := hR.but hB hN hNw
    have hCat := hidd hC.at_
    obtain ⟨r, hr⟩ : ∃ r, isK l k q = r := ⟨_, rfl⟩
    have HRR := hidd hr
    clear hr hR
    go_wp2_with (fail)
    refine (is_any l q A cap C k N _ hR2 hC hk2 hl r HRR.out).mono ?_
    rintro e w2 ⟨rfl, hb2⟩
    have hC2 := hC.below hb2
    have hB2 := hB.step hb2
    clear hC hB hR2 hb2
    cases r with
    | false =>
      have ha' : k = a' := by rw [← HR.out, ← HK.out, run_no HRR.out]
      subst ha'
      clear HR HRR HK
      go_wp2_with (fail)
      go_end0
      exact ⟨⟨_, rfl⟩, hC2, hB2⟩
    | true =>
      have c1 := hC2.cell 1
      have cf := hC2.frozen
      simp at c1
      have hkl := isK_lt HRR.out
      have HK2 : Hid (run q l (k + 1) = run q l a) := by rw [← HK.out, run_yes HRR.out]; exact rfl
      have HC3 := hidd (hC2.to ((k : Int) + 1) (a' := k + 1) (by simp))
      have hB3 := hB2.trans (But.set_ C w2 1 (.int .i64 ((k : Int) + 1)))
      clear HRR HK hC2 hB2
      go_wp2_with (fail)
      refine (always_any _).mono ?_
      rintro e w3 ⟨rfl, rfl⟩
      go_wp2_with (fail)
      go_roundw
      case rel => exact ⟨k + 1, by omega, by omega, HK2, HC3.out, hB3⟩
      case measure =>
        rw [HC3.out.at_]
        have hm : atOf C wr = k := hCat.out
        rw [hm]
        omega

set_option maxRecDepth 100000 in
set_option maxHeartbeats 4000000 in
theorem pass_never (l : List It) (q : Int) (A : Option Addr) (cap C a N : Nat) (w : World) (hR : Rd w N 2 A l.length (tcells l)) (hN : N ≤ C) (hC : Cur w C A l.length cap a) (ha : a ≤ l.length) (hl : l.length ≤ 2048) (a' : Nat) (hr : (if isK l a q = true then a + 1 else a) = a') :
    Calls Try.prog 45 #[.pointer (some ⟨C, 0, none⟩), .int .u8 q, .func (.func 51) #[] #[]] w (PassPost A l.length cap C a' w) := by
  have hNw : N ≤ w.heap.size := by have := hC.lt; omega
  obtain ⟨r, hr9⟩ : ∃ r, isK l a q = r := ⟨_, rfl⟩
  rw [hr9] at hr
  have HR := hidd (And.intro hr hr9)
  clear hr hr9
  go_enter Try.func45, Try.ntmps45
  go_wp2_with (fail)
  go_loopw [8] (fun _ wx => wx = w)
    (fun _ wx => 0)
  case atStart => exact rfl
  case round =>
    subst hrel
    go_wp2_with (fail)
    refine (is_any l q A cap C a N _ hR hC ha hl r HR.out.2).mono ?_
    rintro e w2 ⟨rfl, hb2⟩
    have hC2 := hC.below hb2
    have hB2 : But C wr w2 := But.of_below hb2
    clear hC hR hb2
    cases r with
    | false =>
      have ha' : a = a' := by simpa using HR.out.1
      subst ha'
      clear HR
      go_wp2_with (fail)
      go_end0
      exact ⟨⟨_, rfl⟩, hC2, hB2⟩
    | true =>
      have c1 := hC2.cell 1
      have cf := hC2.frozen
      simp at c1
      have hkl := isK_lt HR.out.2
      have ha' : a + 1 = a' := by simpa using HR.out.1
      subst ha'
      have HC3 := hidd (hC2.to ((a : Int) + 1) (a' := a + 1) (by simp))
      have hB3 := hB2.trans (But.set_ C w2 1 (.int .i64 ((a : Int) + 1)))
      clear HR hC2 hB2
      go_wp2_with (fail)
      refine (never_any _).mono ?_
      rintro e w3 ⟨rfl, rfl⟩
      go_wp2_with (fail)
      refine bodyPost_ret (results_none rfl _ _ _) rfl ?_
      exact ⟨⟨_, rfl⟩, HC3.out, hB3⟩

def ClusPost (A : Option Addr) (n cap C a a' : Nat) (w : World) (e : Ending) (w' : World) : Prop := e = .returned (.bool (decide (a < a'))) ∧ Cur w' C A n cap a' ∧ But C w w'
set_option maxRecDepth 100000 in
set_option maxHeartbeats 4000000 in
theorem cluster_any (l : List It) (A : Option Addr) (cap C a N : Nat) (w : World) (hR : Rd w N 2 A l.length (tcells l)) (hN : N ≤ C) (hC : Cur w C A l.length cap a) (ha : a ≤ l.length) (hl : l.length ≤ 2048) (a' : Nat) (hr : cl l a = a') :
    Calls Try.prog 48 #[.pointer (some ⟨C, 0, none⟩)] w (ClusPost A l.length cap C a a' w) := by
  have hNw : N ≤ w.heap.size := by have := hC.lt; omega
  obtain ⟨r, hr9⟩ : ∃ r, isK l a 3 = r := ⟨_, rfl⟩
  unfold cl at hr
  rw [hr9] at hr
  have HR := hidd (And.intro hr hr9)
  have c1 := hC.cell 1
  simp at c1
  clear hr hr9
  go_enter Try.func48, Try.ntmps48
  go_wp2_with (fail)
  refine (is_any l 3 A cap C a N _ hR hC ha hl r HR.out.2).mono ?_
  rintro e w2 ⟨rfl, hb2⟩
  have hC2 := hC.below hb2
  have hB2 : But C w w2 := But.of_below hb2
  have hR2 := hR.but hB2 hN hNw
  clear hC hR hb2 c1
  cases r with
  | false =>
    have hr : run 0 l a = a' := by simpa using HR.out.1
    go_wp2_with (fail)
    refine (pass_always l 0 A cap C a N _ hR2 hN hC2 ha hl a' hr).mono ?_
    rintro e w3 ⟨⟨v, rfl⟩, hC3, hB3⟩
    have hB4 := hB2.trans hB3
    have c1 := hC3.cell 1
    simp at c1
    clear hr hC2 hB2 hR2 hB3 HR
    go_wp2_with (fail)
    go_ret
    exact ⟨ret_bool (by simp), hC3, hB4⟩
  | true =>
    have hr : (if isK l a 3 = true then a + 1 else a) = a' := by rw [if_pos HR.out.2]; simpa using HR.out.1
    go_wp2_with (fail)
    refine (pass_never l 3 A cap C a N _ hR2 hN hC2 ha hl a' hr).mono ?_
    rintro e w3 ⟨⟨v, rfl⟩, hC3, hB3⟩
    have hB4 := hB2.trans hB3
    have c1 := hC3.cell 1
    simp at c1
    clear hr hC2 hB2 hR2 hB3 HR
    go_wp2_with (fail)
    go_ret
    exact ⟨ret_bool (by simp), hC3, hB4⟩
end Go.Proofs.Ytdhjgflkincapaa
