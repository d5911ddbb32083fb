/- Contracts: the reference's asked and Height. -/
import Derived.Test.YtdhjgflkincapaaPlace
import Derived.Deep.RegionHeld3
import Derived.Deep.DeepCutAuto
namespace Go.Proofs.Ytdhjgflkincapaa
open Go.RowKit
set_option linter.unusedVariables false
attribute [local go_sem ↓] run_max run_min

/-- what the loop of asked holds -/
def Ast (l : List Sp) (F0 : Bool) (k : Nat) (F : Bool) : Prop := F = !(!F0 && (l.take k).all fitS) ∧ ∀ s ∈ l.take k, s.al ≤ 2
theorem Ast.zero (l : List Sp) (F0 : Bool) : Ast l F0 0 F0 := ⟨by simp, by simp⟩
theorem Ast.step {l : List Sp} {F0 F : Bool} {k : Nat} (h : Ast l F0 k F) (hk : k < l.length) (ha : l[k].al ≤ 2) : Ast l F0 (k + 1) (F || !fitS l[k]) := by
  obtain ⟨h1, h3⟩ := h
  refine ⟨?_, ?_⟩
  · rw [take_snoc l k hk, List.all_append, h1]; cases F0 <;> cases (l.take k).all fitS <;> simp
  · rw [take_snoc l k hk]
    intro s hs
    rcases List.mem_append.1 hs with hs | hs
    · exact h3 s hs
    · simp at hs; rw [hs]; exact ha

set_option maxRecDepth 100000 in
set_option maxHeartbeats 4000000 in
theorem asked_any (l : List Sp) (up dn width : Int) (lines : Nat) (A : Option Addr) (cap : Nat) (w : World) (hR : Rd w w.heap.size 4 A l.length (scells l)) (hm : l.length ≤ 4096) (hl8 : lines ≤ 255) :
    Calls Try.prog 33 #[.slice A l.length cap, .int .i64 up, .int .i64 dn, .int .i64 width, .int .u8 lines] w fun e w' => e = .returned (.int .i64 (askedF l up dn width lines)) ∧ w = w' := by
  by_cases h1 : 2048 < l.length
  · have hd : decide ((2048 : Int) < (l.length : Int)) = true := by simp; omega
    have hp : askedF l up dn width lines = 2 := by unfold askedF; rw [if_pos (Or.inl h1)]
    rw [hp]
    clear hR hp
    go_enter Try.func33, Try.ntmps33
    go_wp2_with (fail)
    go_ret
    exact ⟨rfl, rfl⟩
  have hd : decide ((2048 : Int) < (l.length : Int)) = false := by simp; omega
  by_cases h2 : 2 < lines
  · have hp : askedF l up dn width lines = 2 := by unfold askedF; rw [if_pos (Or.inr h2)]
    have k0 : ((lines : Int) != 0) = true := by simp; omega
    have k1 : ((lines : Int) != 1) = true := by simp; omega
    have k2 : ((lines : Int) != 2) = true := by simp; omega
    have k0' : ((lines : Int) == 0) = false := by simp; omega
    have k1' : ((lines : Int) == 1) = false := by simp; omega
    have k2' : ((lines : Int) == 2) = false := by simp; omega
    rw [hp]
    clear hR hp
    go_enter Try.func33, Try.ntmps33
    go_wp2_with (fail)
    go_ret
    exact ⟨rfl, rfl⟩
  have hl3 : lines = 0 ∨ lines = 1 ∨ lines = 2 := by omega
  have hA : askedF l up dn width lines = if l.any (fun s => decide (2 < s.al)) = true then 2 else if (fitsB [up, dn, width] && l.all fitS) = true then 0 else 10 := by
    unfold askedF; rw [if_neg (by omega)]
  obtain ⟨T, hT⟩ : ∃ T, askedF l up dn width lines = T := ⟨_, rfl⟩
  rw [hT] at hA ⊢
  clear hT h2
  obtain ⟨F0, hF0⟩ : ∃ F, (!fitsB [up, dn, width]) = F := ⟨_, rfl⟩
  have hA2 : T = if l.any (fun s => decide (2 < s.al)) = true then 2 else if (!F0 && l.all fitS) = true then 0 else 10 := by rw [hA, ← hF0, Bool.not_not]
  have HA := hidd hA2
  have e3 : fitsB [up, dn, width] = (fitB up && (fitB dn && fitB width)) := by simp [fitsB]
  rw [e3] at hF0
  clear hA hA2 e3
  obtain ⟨X1, hX1⟩ : ∃ F, fitB up = F := ⟨_, rfl⟩
  obtain ⟨X2, hX2⟩ : ∃ F, fitB dn = F := ⟨_, rfl⟩
  obtain ⟨X3, hX3⟩ : ∃ F, fitB width = F := ⟨_, rfl⟩
  rw [hX1, hX2, hX3] at hF0
  have HX := hidd (And.intro hX1 (And.intro hX2 hX3))
  clear hX1 hX2 hX3
  have o1 : ∀ w, Calls Try.prog 35 #[.int .i64 up] w fun e w' => e = .returned (.bool (!X1)) ∧ w = w' := fun w => by rw [← HX.out.1]; exact over_any _ _
  have o2 : ∀ w, Calls Try.prog 35 #[.int .i64 dn] w fun e w' => e = .returned (.bool (!X2)) ∧ w = w' := fun w => by rw [← HX.out.2.1]; exact over_any _ _
  have o3 : ∀ w, Calls Try.prog 35 #[.int .i64 width] w fun e w' => e = .returned (.bool (!X3)) ∧ w = w' := fun w => by rw [← HX.out.2.2]; exact over_any _ _
  have hL3 : (lines : Int) = 0 ∨ (lines : Int) = 1 ∨ (lines : Int) = 2 := by omega
  obtain ⟨L, hL⟩ : ∃ L : Int, (lines : Int) = L := ⟨_, rfl⟩
  rw [hL] at hL3 ⊢
  clear hL hl3 hl8
  rcases hL3 with rfl | rfl | rfl
  all_goals
    go_enter Try.func33, Try.ntmps33
    go_upto_region 3 with (fail)
    go_cut [11] (fun f wx => f = .bool F0 ∧ wx = w)
    case first =>
      go_wp2_with (fail)
      refine (o1 _).mono ?_
      rintro e w' ⟨rfl, rfl⟩
      cases X1 with
      | false =>
        go_wp2_with (fail)
        go_meet
        exact ⟨by rw [← hF0]; rfl, rfl⟩
      | true =>
        go_wp2_with (fail)
        refine (o2 _).mono ?_
        rintro e w' ⟨rfl, rfl⟩
        cases X2 with
        | false =>
          go_wp2_with (fail)
          go_meet
          exact ⟨by rw [← hF0]; rfl, rfl⟩
        | true =>
          go_wp2_with (fail)
          refine (o3 _).mono ?_
          rintro e w' ⟨rfl, rfl⟩
          go_wp2_with (fail)
          go_meet
          exact ⟨by rw [← hF0]; rfl, rfl⟩
    case rest =>
      obtain ⟨rfl, rfl⟩ := hcut
      clear hF0 o1 o2 o3 HX
      go_wp2_with (fail)
      go_loopw [11, 12] (fun f i wr => ∃ (k : Nat) (F : Bool), k ≤ l.length ∧ i = .int .i64 k ∧ f = .bool F ∧ Ast l F0 k F ∧ wr = wc)
        (fun _ i _ => l.length - (intOf i).toNat)
      case atStart => exact ⟨0, F0, Nat.zero_le _, rfl, rfl, Ast.zero l F0, rfl⟩
      case round =>
        obtain ⟨k, F, hk, rfl, rfl, hst, rfl⟩ := hrel
        by_cases hlt : k < l.length
        · obtain ⟨b, off, rfl, hbB, hc⟩ := hR.2 (by omega)
          have hx0 := hc _ _ (scell l k 0 hlt (by omega))
          have hx1 := hc _ _ (scell l k 1 hlt (by omega))
          have hx2 := hc _ _ (scell l k 2 hlt (by omega))
          have hx3 := hc _ _ (scell l k 3 hlt (by omega))
          have hstep := fun ha => hst.step hlt ha
          have hbad : 2 < l[k].al → l.any (fun s => decide (2 < s.al)) = true := fun h => List.any_eq_true.2 ⟨l[k], List.getElem_mem _, by simpa using h⟩
          obtain ⟨s, hs⟩ : ∃ s, l[k] = s := ⟨_, rfl⟩
          rw [hs] at hx0 hx1 hx2 hx3 hstep hbad
          simp only [← Nat.add_assoc, Nat.add_zero] at hx0 hx1 hx2 hx3
          have HS := hidd hstep
          have HB := hidd hbad
          clear hc hR hs hstep hbad hst
          by_cases ha : 2 < s.al
          · have h0 : decide ((2 : Int) < (s.al : Int)) = true := by simp; omega
            have hp : T = 2 := by rw [HA.out, if_pos (HB.out ha)]
            clear HA HS HB ha
            subst hp
            go_wp2_with (fail)
            go_ret
            exact ⟨rfl, rfl⟩
          · have h0 : decide ((2 : Int) < (s.al : Int)) = false := by simp; omega
            have h9 := HS.out (by omega)
            clear HS HB ha HA
            cases F with
            | true =>
              go_wp2_with (fail)
              go_roundw
              case rel => exact ⟨k + 1, true, by omega, by go_num, rfl, h9, trivial⟩
              case measure => simp [intOf]; omega
            | false =>
              obtain ⟨X1, hX1⟩ : ∃ F, (!fitB s.wd) = F := ⟨_, rfl⟩
              obtain ⟨X2, hX2⟩ : ∃ F, (!fitB s.up) = F := ⟨_, rfl⟩
              obtain ⟨X3, hX3⟩ : ∃ F, (!fitB s.dn) = F := ⟨_, rfl⟩
              have hS : fitS s = (!X1 && (!X2 && !X3)) := by rw [← hX1, ← hX2, ← hX3]; simp [fitS, fitsB]
              have o1 : ∀ w, Calls Try.prog 35 #[.int .i64 s.wd] w fun e w' => e = .returned (.bool X1) ∧ w = w' := fun w => by rw [← hX1]; exact over_any _ _
              have o2 : ∀ w, Calls Try.prog 35 #[.int .i64 s.up] w fun e w' => e = .returned (.bool X2) ∧ w = w' := fun w => by rw [← hX2]; exact over_any _ _
              have o3 : ∀ w, Calls Try.prog 35 #[.int .i64 s.dn] w fun e w' => e = .returned (.bool X3) ∧ w = w' := fun w => by rw [← hX3]; exact over_any _ _
              rw [hS] at h9
              clear hS hX1 hX2 hX3
              go_wp2_with (fail)
              refine (o1 _).mono ?_
              rintro e w' ⟨rfl, rfl⟩
              cases X1 with
              | true =>
                go_wp2_with (fail)
                go_roundw
                case rel => exact ⟨k + 1, _, by omega, by go_num, rfl, by simpa using h9, trivial⟩
                case measure => simp [intOf]; omega
              | false =>
                go_wp2_with (fail)
                refine (o2 _).mono ?_
                rintro e w' ⟨rfl, rfl⟩
                cases X2 with
                | true =>
                  go_wp2_with (fail)
                  go_roundw
                  case rel => exact ⟨k + 1, _, by omega, by go_num, rfl, by simpa using h9, trivial⟩
                  case measure => simp [intOf]; omega
                | false =>
                  go_wp2_with (fail)
                  refine (o3 _).mono ?_
                  rintro e w' ⟨rfl, rfl⟩
                  go_wp2_with (fail)
                  go_roundw
                  case rel => exact ⟨k + 1, _, by omega, by go_num, rfl, by simpa using h9, trivial⟩
                  case measure => simp [intOf]; omega
        · have hkk : k = l.length := by omega
          subst hkk
          have hF := hst.1
          have hal := hst.2
          rw [List.take_length] at hF hal
          have hany : ¬ (l.any (fun s => decide (2 < s.al)) = true) := by
            intro h
            obtain ⟨s, hs, h⟩ := List.any_eq_true.1 h
            have := hal s hs
            simp at h
            omega
          have hp := HA.out
          rw [if_neg hany] at hp
          cases F with
          | true =>
            have hp2 : T = 10 := by rw [hp, if_neg]; intro h; rw [h] at hF; cases hF
            clear hp hF hal hany HA hst
            subst hp2
            go_wp2_with (fail)
            go_ret
            exact ⟨rfl, rfl⟩
          | false =>
            have hp2 : T = 0 := by rw [hp, if_pos]; revert hF; cases (!F0 && l.all fitS) <;> simp
            clear hp hF hal hany HA hst
            subst hp2
            go_wp2_with (fail)
            go_ret
            exact ⟨rfl, rfl⟩
end Go.Proofs.Ytdhjgflkincapaa
