/- Lines of items: what each line is and what lies between, on plain data. Nothing of the program. -/
import Derived.Test.YtdhjgflkincapaaPlainLA
namespace Go.Proofs.Ytdhjgflkincapaa
set_option linter.unusedVariables false

theorem cl_in {l : List It} {a i : Nat} (h1 : a ≤ i) (h2 : i < cl l a) : solidAt l i := by
  unfold cl at h2
  split at h2
  · rename_i h3
    obtain rfl : a = i := by omega
    exact .inr h3
  · exact .inl (run_all 0 l a i h1 h2)
/-- what lies in a line -/
theorem grow_in (l : List It) (W : Int) (fr : Nat) : ∀ (f t : Nat) (n : Int) (a : Nat), t ≤ a → a ≤ l.length → (∀ j, fr ≤ j → j < a → isK l j 2 = false) → (fr < t → solidAt l (t - 1)) →
    (∀ j, fr ≤ j → j < (grow l W fr f t n a).1 → isK l j 2 = false) ∧ (fr < (grow l W fr f t n a).1 → solidAt l ((grow l W fr f t n a).1 - 1))
  | 0, t, n, a, h1, h2, h3, h4 => ⟨fun j hj hj2 => h3 j hj (by unfold grow at hj2; simp only at hj2; omega), h4⟩
  | f + 1, t, n, a, h1, h2, h3, h4 => by
    unfold grow
    split
    · rename_i hc
      split
      · have hc2 := cl_le h2
        refine grow_in l W fr f (cl l a) _ (run 1 l (cl l a)) (le_run _ _ _) (run_le 1 hc2) (fun j hj hj2 => ?_) (fun _ => cl_in (a := a) (by omega) (by omega))
        rcases Nat.lt_or_ge j a with h5 | h5
        · exact h3 j hj h5
        · rcases Nat.lt_or_ge j (cl l a) with h6 | h6
          · exact solid_not (cl_in h5 h6) (by decide) (by decide)
          · exact isK_two (run_all 1 l (cl l a) j h6 hj2) (by decide)
      · exact ⟨fun j hj hj2 => h3 j hj (by simp only at hj2; omega), h4⟩
    · exact ⟨fun j hj hj2 => h3 j hj (by simp only at hj2; omega), h4⟩
/-- lines one behind the other, from a place on -/
def Good (l : List It) : Nat → List Ln → Prop
  | a, [] => ∀ j, a ≤ j → j < l.length → ¬ solidAt l j
  | a, x :: r => (a ≤ x.fr ∧ x.fr ≤ x.en ∧ x.en ≤ l.length ∧ x.fr < l.length) ∧ (∀ j, a ≤ j → j < x.fr → ¬ solidAt l j) ∧ (x.en = x.fr → isK l x.fr 2 = true) ∧ (x.fr < x.en → solidAt l x.fr ∧ solidAt l (x.en - 1)) ∧
      (∀ j, x.fr ≤ j → j < x.en → isK l j 2 = false) ∧ x.wd = sm l x.fr x.en ∧ Good l x.en r
theorem not_solid_of {l : List It} {j : Nat} {q : Int} (h : isK l j q = true) (h0 : q ≠ 0) (h3 : q ≠ 3) : ¬ solidAt l j := fun hs => by
  rw [solid_not hs h0 h3] at h; cases h
theorem good_lines (l : List It) (hk : ∀ x ∈ l, 0 ≤ x.kd ∧ x.kd ≤ 3) (W : Int) (G : Nat) : ∀ (f p a : Nat), l.length < f + p → a ≤ p → p ≤ l.length → (∀ j, a ≤ j → j < p → ¬ solidAt l j) → Good l a (linesF l W (G + 1) f p)
  | 0, p, a, h1, h2, h3, h4 => by omega
  | f + 1, p, a, h1, h2, h3, h4 => by
    have hb1 := le_run 1 l p
    have hb2 := run_le 1 h3
    have hbb : ∀ j, a ≤ j → j < run 1 l p → ¬ solidAt l j := fun j hj hj2 => by
      rcases Nat.lt_or_ge j p with h5 | h5
      · exact h4 j hj h5
      · exact not_solid_of (run_all 1 l p j h5 hj2) (by decide) (by decide)
    have hnb := run_stop 1 l p
    rw [linesF]
    obtain ⟨b, hb⟩ : ∃ b, run 1 l p = b := ⟨_, rfl⟩
    rw [hb] at hb1 hb2 hbb hnb ⊢
    have hg := grow_to l W b (G + 1) b 0 b (Nat.le_refl _) hb2
    have hgi := grow_in l W b (G + 1) b 0 b (Nat.le_refl _) hb2 (fun j h5 h6 => by omega) (fun h5 => by omega)
    have hgw := grow_wd l W b (G + 1) b 0 b (sm_self l b).symm
    by_cases hlt : b < (grow l W b (G + 1) b 0 b).1
    · rw [if_pos hlt]
      have hsb : solidAt l b := by
        cases h0 : isK l b 0 with
        | true => exact .inl h0
        | false =>
          cases h3' : isK l b 3 with
          | true => exact .inr h3'
          | false =>
            rw [grow_none (G + 1) hb2 h0 h3'] at hlt
            simp only at hlt
            omega
      have hc1 := le_run 1 l (grow l W b (G + 1) b 0 b).1
      have hc2 := run_le 1 hg.2
      have hel := endL_le hc2
      refine ⟨⟨by show a ≤ b; omega, hg.1, hg.2, by show b < l.length; omega⟩, hbb, fun h5 => by simp only at h5; omega, fun _ => ⟨hsb, hgi.2 hlt⟩, hgi.1, hgw, ?_⟩
      refine good_lines l hk W G f _ _ (by omega) (by show (grow l W b (G + 1) b 0 b).1 ≤ _; omega) hel.2 (fun j h5 h6 => ?_)
      rcases Nat.lt_or_ge j (run 1 l (grow l W b (G + 1) b 0 b).1) with h7 | h7
      · exact not_solid_of (run_all 1 l _ j h5 h7) (by decide) (by decide)
      · unfold endL at h6
        split at h6
        · rename_i h8
          obtain rfl : j = run 1 l (grow l W b (G + 1) b 0 b).1 := by omega
          exact not_solid_of h8 (by decide) (by decide)
        · omega
    · rw [if_neg hlt]
      by_cases h2' : isK l b 2 = true
      · rw [if_pos h2']
        have hbl := isK_lt h2'
        refine ⟨⟨by show a ≤ b; omega, Nat.le_refl _, hb2, hbl⟩, hbb, fun _ => h2', fun h5 => by simp only at h5; omega, fun j h5 h6 => by simp only at h5 h6; omega, (sm_self l b).symm, ?_⟩
        refine good_lines l hk W G f _ _ (by omega) (by show b ≤ _; omega) (by omega) (fun j h5 h6 => ?_)
        obtain rfl : j = b := by simp only at h5; omega
        exact not_solid_of h2' (by decide) (by decide)
      · rw [if_neg h2']
        have hbl : l.length ≤ b := by
          rcases Nat.lt_or_ge b l.length with h5 | h5
          · rcases kind_cases hk b h5 with h6 | h6 | h6 | h6
            · exact absurd (grow_first G hb2 (.inl h6)) hlt
            · rw [hnb] at h6; cases h6
            · exact absurd h6 h2'
            · exact absurd (grow_first G hb2 (.inr h6)) hlt
          · exact h5
        exact fun j h5 h6 => hbb j h5 (by omega)
theorem good_all (l : List It) (hk : ∀ x ∈ l, 0 ≤ x.kd ∧ x.kd ≤ 3) (W : Int) : Good l 0 (lines l W) := by
  unfold lines
  exact good_lines l hk W l.length (l.length + 1) 0 0 (by omega) (Nat.le_refl _) (Nat.zero_le _) (fun j h1 h2 => by omega)
end Go.Proofs.Ytdhjgflkincapaa
