/- Contract: inline.of. -/
import Derived.Test.YtdhjgflkincapaaFits
import Derived.Test.YtdhjgflkincapaaRead
import Derived.BigQuiet
import Derived.Deep.QuietTactic
namespace Go.Proofs.Ytdhjgflkincapaa
open Go.RowKit
set_option linter.unusedVariables false
attribute [local go_sem ↓] run_max run_min

def Sp.cs (s : Sp) : List Value := [.int .i64 s.wd, .int .i64 s.up, .int .i64 s.dn, .int .u8 s.al]
def scells (l : List Sp) : List Value := l.flatMap Sp.cs
theorem scell (l : List Sp) (k j : Nat) (h : k < l.length) (hj : j < 4) : (scells l)[k * 4 + j]? = (Sp.cs l[k])[j]? := flat_get Sp.cs 4 (fun _ => rfl) l k j h hj

set_option maxRecDepth 100000 in
set_option maxHeartbeats 4000000 in
theorem of_any (l : List Sp) (up dn : Int) (A : Option Addr) (cap : Nat) (w : World) (hR : Rd w w.heap.size 4 A l.length (scells l)) (hl : l.length ≤ 2048) (hf : FitL l) (hu : fitB up = true) (hd : fitB dn = true) :
    Calls Try.prog 36 #[.slice A l.length cap, .int .i64 up, .int .i64 dn] w fun e w' => e = .returned (.agg #[.int .i64 (htOf l up dn), .int .i64 (hUp l up)]) ∧ Below w.heap.size w w' := by
  obtain ⟨hu1, hu2⟩ := (fitB_iff up).1 hu
  obtain ⟨hd1, hd2⟩ := (fitB_iff dn).1 hd
  have HF := hidd hf
  clear hf hu hd
  go_enter Try.func36, Try.ntmps36
  go_wp2_with (fail)
  go_loopw [1, 2, 14] (fun a b i wr => ∃ k : Nat, k ≤ l.length ∧ i = .int .i64 k ∧ a = .int .i64 (hUp (l.take k) up) ∧ b = .int .i64 (hDn (l.take k) dn) ∧ Blk wr w.heap.size 72 #[.int .i64 0, .int .i64 0] ∧ Below w.heap.size w wr)
    (fun _ _ i _ => l.length - (intOf i).toNat)
  case atStart => exact ⟨0, Nat.zero_le _, rfl, rfl, rfl, Blk.new _ 72 _, (Below.refl _ _).alloc (Nat.le_refl _) _⟩
  case round =>
    obtain ⟨k, hk, rfl, rfl, rfl, hr, hb⟩ := hrel
    by_cases hlt : k < l.length
    · obtain ⟨b, off, rfl, hbB, hc⟩ := hR.2 (by omega)
      have hx0 := (hb.cell (p := ⟨b, off + (k * 4 + 0), none⟩) hbB).trans (hc _ _ (scell l k 0 hlt (by omega)))
      have hx1 := (hb.cell (p := ⟨b, off + (k * 4 + 1), none⟩) hbB).trans (hc _ _ (scell l k 1 hlt (by omega)))
      have hx2 := (hb.cell (p := ⟨b, off + (k * 4 + 2), none⟩) hbB).trans (hc _ _ (scell l k 2 hlt (by omega)))
      have hx3 := (hb.cell (p := ⟨b, off + (k * 4 + 3), none⟩) hbB).trans (hc _ _ (scell l k 3 hlt (by omega)))
      have eu := hUp_snoc (l.take k) l[k] up
      have ed := hDn_snoc (l.take k) l[k] dn
      rw [← take_snoc l k hlt] at eu ed
      obtain ⟨s, hs⟩ : ∃ s, l[k] = s := ⟨_, rfl⟩
      rw [hs] at hx0 hx1 hx2 hx3 eu ed
      simp only [← Nat.add_assoc, Nat.add_zero] at hx0 hx1 hx2 hx3
      have HE := hidd (And.intro eu ed)
      clear hc hR hs eu ed
      by_cases ha : s.al = 0
      · have h0 : ((s.al : Int) == 0) = true := by rw [beq_iff_eq]; omega
        have HA := hidd ha
        clear ha
        go_wp2_with (fail)
        go_quiet (fail)
        go_wp2_with (fail)
        go_roundw
        case rel => exact ⟨k + 1, by omega, by go_num, by rw [HE.out.1, if_pos HA.out], by rw [HE.out.2, if_pos HA.out], hr.alloc _, below_drewN (below_al hb _) _⟩
        case measure => simp [intOf]; omega
      · have h0 : ((s.al : Int) == 0) = false := by rw [beq_eq_false_iff_ne]; omega
        have HA := hidd ha
        clear ha
        go_wp2_with (fail)
        go_roundw
        case rel => exact ⟨k + 1, by omega, by go_num, by rw [HE.out.1, if_neg HA.out], by rw [HE.out.2, if_neg HA.out], hr.alloc _, below_al hb _⟩
        case measure => simp [intOf]; omega
    · have hkk : k = l.length := by omega
      subst hkk
      obtain ⟨⟨b1, b2⟩, b3, b4⟩ := bound_of l HF.out l.length (Nat.le_refl _) up hu1 hu2
      obtain ⟨⟨_, _⟩, b5, b6⟩ := bound_of l HF.out l.length (Nat.le_refl _) dn hd1 hd2
      rw [List.take_length] at b1 b2 b5 b6 ⊢
      obtain ⟨U, hU⟩ : ∃ U, hUp l up = U := ⟨_, rfl⟩
      obtain ⟨D, hD⟩ : ∃ D, hDn l dn = D := ⟨_, rfl⟩
      have ehd : htOf l up dn = hHt l (U + D) := by unfold htOf; rw [hU, hD]
      rw [hU] at b1 b2 ⊢
      rw [hD] at b5 b6 ⊢
      have HX := hidd (And.intro ehd hU)
      clear ehd hU hD b3 b4
      go_wp2_with (fail)
      obtain ⟨W0, hW0⟩ : ∃ W, wr = W := ⟨_, rfl⟩
      rw [hW0] at hr hb ⊢
      clear hW0
      have hr' := hr.alloc (.cells #[.int .i64 (U + D), .int .i64 U] 72)
      have hg := Blk.new W0 72 #[.int .i64 (U + D), .int .i64 U]
      have hb' := below_al hb (.cells #[.int .i64 (U + D), .int .i64 U] 72)
      have hlt0 := hr.lt
      go_loopw [37] (fun i wr => ∃ k : Nat, k ≤ l.length ∧ i = .int .i64 k ∧ Blk wr W0.heap.size 72 #[.int .i64 (hHt (l.take k) (U + D)), .int .i64 U] ∧ Blk wr w.heap.size 72 #[.int .i64 0, .int .i64 0] ∧ Below w.heap.size w wr)
        (fun i _ => l.length - (intOf i).toNat)
      case atStart => exact ⟨0, Nat.zero_le _, rfl, hg, hr', hb'⟩
      case round =>
        clear hr' hg hb' hr hb
        obtain ⟨k, hk, rfl, hg, hr, hb⟩ := hrel
        have hg0 := hg.cell 0
        have hg1 := hg.cell 1
        have hgf := hg.frozen
        have hr0 := hr.cell 0
        have hr1 := hr.cell 1
        have hrf := hr.frozen
        have hgl := hg.lt
        simp at hg0 hg1 hr0 hr1
        by_cases hlt : k < l.length
        · obtain ⟨b, off, rfl, hbB, hc⟩ := hR.2 (by omega)
          have hx0 := (hb.cell (p := ⟨b, off + (k * 4 + 0), none⟩) hbB).trans (hc _ _ (scell l k 0 hlt (by omega)))
          have hx1 := (hb.cell (p := ⟨b, off + (k * 4 + 1), none⟩) hbB).trans (hc _ _ (scell l k 1 hlt (by omega)))
          have hx2 := (hb.cell (p := ⟨b, off + (k * 4 + 2), none⟩) hbB).trans (hc _ _ (scell l k 2 hlt (by omega)))
          have hx3 := (hb.cell (p := ⟨b, off + (k * 4 + 3), none⟩) hbB).trans (hc _ _ (scell l k 3 hlt (by omega)))
          have eh := hHt_snoc (l.take k) l[k] (U + D)
          rw [← take_snoc l k hlt] at eh
          have hs4 := (fitS_iff _).1 (HF.out l[k] (List.getElem_mem _))
          obtain ⟨s, hs⟩ : ∃ s, l[k] = s := ⟨_, rfl⟩
          rw [hs] at hx0 hx1 hx2 hx3 eh hs4
          obtain ⟨_, ⟨s1, s2⟩, s3, s4⟩ := hs4
          simp only [← Nat.add_assoc, Nat.add_zero] at hx0 hx1 hx2 hx3
          have HE := hidd eh
          clear hc hR hs eh
          by_cases ha : s.al = 0
          · have h0 : ((s.al : Int) != 0) = false := by simp; omega
            have HA := hidd ha
            clear ha
            go_wp2_with (fail)
            go_roundw
            case rel => exact ⟨k + 1, by omega, by go_num, by rw [HE.out, if_pos HA.out]; exact hg.alloc _, hr.alloc _, below_al hb _⟩
            case measure => simp [intOf]; omega
          · have h0 : ((s.al : Int) != 0) = true := by simp; omega
            have HA := hidd ha
            clear ha
            go_wp2_with (fail)
            go_roundw
            case rel =>
              refine ⟨k + 1, by omega, by go_num, ?_, ?_, ?_⟩
              · rw [HE.out, if_neg HA.out]; simpa using (hg.set_ 0 _).alloc _
              · exact (hr.far (by simp; omega) _).alloc _
              · exact ((hb.setCell (by simp; omega) _).alloc (by have := hb.size; simp; omega) _)
            case measure => simp [intOf]; omega
        · have hkk : k = l.length := by omega
          subst hkk
          rw [List.take_length] at hg0
          clear hR hg
          go_wp2_with (fail)
          exact bodyPost_ret (v := .agg #[.int .i64 (hHt l (U + D)), .int .i64 U]) (by simp [results, Try.results36, go_sem, hr0, hr1]) rfl
            ⟨by rw [HX.out.1, HX.out.2], (hb.setCell (by simp) _).setCell (by simp) _⟩
end Go.Proofs.Ytdhjgflkincapaa
