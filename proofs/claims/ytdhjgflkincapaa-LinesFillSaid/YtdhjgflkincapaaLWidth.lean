/- Contract: the cursor's width. -/
import Derived.Test.YtdhjgflkincapaaLIs
import Derived.WalkSpells
namespace Go.Proofs.Ytdhjgflkincapaa
open Go.RowKit
set_option linter.unusedVariables false

set_option maxRecDepth 100000 in
set_option maxHeartbeats 4000000 in
theorem width_any (l : List It) (A : Option Addr) (cap C a N : Nat) (w : World) (hR : Rd w N 2 A l.length (tcells l)) (hN : N ≤ w.heap.size) (hC : Cur w C A l.length cap a) (fr to : Nat) (h1 : fr < to) (h2 : to ≤ l.length) (hl : l.length ≤ 2048) (hcap : l.length ≤ cap) (hcm : cap ≤ maxLen) (hf : fitI l = true) (n : Int) (hn : sm l fr to = n) :
    Calls Try.prog 49 #[.pointer (some ⟨C, 0, none⟩), .int .i64 fr, .int .i64 to] w fun e w' => e = .returned (.int .i64 n) ∧ Below w.heap.size w w' := by
  unfold maxLen at hcm
  have HN := hidd hn
  have c0 := hC.cell 0
  simp at c0
  obtain ⟨b, off, rfl, hbB, hc⟩ := hR.2 (by omega)
  have hbw : b < w.heap.size := by omega
  have f0 : (0 : Int) ≤ (fr : Int) := Int.natCast_nonneg _
  have f1 : (fr : Int) ≤ (to : Int) := by omega
  have f2 : (to : Int) ≤ (cap : Int) := by omega
  have HC := hidd hc
  have HF := hidd hf
  clear hn hC hR hc hf
  go_enter Try.func49, Try.ntmps49
  go_wp2_with (fail)
  obtain ⟨m, hm⟩ : ∃ m, to - fr = m := ⟨_, rfl⟩
  have HM := hidd hm
  rw [hm]
  clear hm
  go_loopw [7, 18] (fun s i wx => ∃ (k : Nat) (x : Int), k ≤ m ∧ i = .int .i64 k ∧ s = .int .i64 x ∧ Hid (sm l fr (fr + k) = x) ∧ Below w.heap.size w wx)
    (fun _ i _ => m - (intOf i).toNat)
  case atStart => exact ⟨0, 0, Nat.zero_le _, rfl, rfl, by rw [Nat.add_zero]; exact sm_self l fr, Below.refl _ _⟩
  case round =>
    obtain ⟨k, x, hk, rfl, rfl, HX, hb⟩ := hrel
    have hmm := HM.out
    by_cases hlt : k < m
    · have hkl : fr + k < l.length := by omega
      have hx0 := (hb.cell (p := ⟨b, off + ((fr + k) * 2 + 0), none⟩) hbw).trans (HC.out _ _ (tcell l (fr + k) 0 hkl (by omega)))
      have hx1 := (hb.cell (p := ⟨b, off + ((fr + k) * 2 + 1), none⟩) hbw).trans (HC.out _ _ (tcell l (fr + k) 1 hkl (by omega)))
      have hs := sm_succ l fr (fr + k) (by omega) hkl
      have hs2 := sm_in HF.out hl fr (fr + k + 1) (by omega) (by omega)
      obtain ⟨s, hsx⟩ : ∃ s, l[fr + k] = s := ⟨_, rfl⟩
      rw [hsx] at hx0 hx1 hs
      rw [HX.out] at hs
      obtain ⟨kd, wd⟩ := s
      obtain ⟨x', hx'⟩ : ∃ y, x + wd = y := ⟨_, rfl⟩
      simp only at hs
      rw [hx'] at hs
      rw [hs] at hs2
      have HS : Hid (sm l fr (fr + (k + 1)) = x') := hs
      obtain ⟨s1, s2⟩ := hs2
      have hw1 : IntKind.i64.wrap (x + wd) = x' := by rw [IntWalk.i64_in _ ⟨by omega, by omega⟩]; exact hx'
      have hw1' : wrap64 (x + wd) = x' := by rw [IntWalk.wrap64_in _ ⟨by omega, by omega⟩]; exact hx'
      rw [show off + ((fr + k) * 2 + 0) = off + fr * 2 + k * 2 from by omega] at hx0
      rw [show off + ((fr + k) * 2 + 1) = off + fr * 2 + k * 2 + 1 from by omega] at hx1
      have k0 : (0 : Int) ≤ (k : Int) := Int.natCast_nonneg _
      have k1 : (k : Int) < (m : Int) := by omega
      have hB := below_al hb (.cells #[.int .u8 kd, .int .i64 wd] 27)
      have hbb : b < wr.heap.size := by have := hb.size; omega
      clear hs hsx hx' HX hmm
      go_wp2_with (fail)
      go_roundw
      case rel => exact ⟨k + 1, x', by omega, by go_num, rfl, HS, hB⟩
      case measure => simp [intOf]; omega
    · have hkk : k = m := by omega
      subst hkk
      have hxn : x = n := by rw [← HX.out, ← HN.out, ← HM.out]; congr 1; omega
      subst hxn
      clear hmm
      go_wp2_with (fail)
      go_ret
      exact ⟨rfl, hb⟩
end Go.Proofs.Ytdhjgflkincapaa
