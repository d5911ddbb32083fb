/- Lines of items: each is as long as can be, on plain data. Nothing of the program. -/
import Derived.Test.YtdhjgflkincapaaPlainLG
namespace Go.Proofs.Ytdhjgflkincapaa
set_option linter.unusedVariables false

/-- behind a cluster that is one, no word goes on -/
def Ends (l : List It) (t : Nat) : Prop := ¬ (isK l t 0 = true ∧ isK l (t - 1) 0 = true)
theorem cl_ends {l : List It} {a : Nat} (h : a < cl l a) : Ends l (cl l a) := by
  rintro ⟨h1, h2⟩
  unfold cl at h h1 h2
  split at h
  · rename_i h3
    rw [if_pos h3, show a + 1 - 1 = a from by omega] at h2
    rw [isK_two h3 (by decide)] at h2
    cases h2
  · rename_i h3
    rw [if_neg h3, run_stop] at h1
    cases h1
/-- the next cluster does not fit -/
def Stops (l : List It) (W : Int) (fr t : Nat) : Prop := run 1 l t < cl l (run 1 l t) → W < sm l fr (cl l (run 1 l t))
theorem grow_on (l : List It) (W : Int) (fr : Nat) : ∀ (f t : Nat) (n : Int) (a : Nat), l.length < f + a → a ≤ l.length → a = run 1 l t → fr < t → Ends l t →
    (((grow l W fr f t n a).1 = t ∧ (grow l W fr f t n a).2 = n) ∨ (grow l W fr f t n a).2 ≤ W) ∧ Stops l W fr (grow l W fr f t n a).1 ∧ Ends l (grow l W fr f t n a).1
  | 0, t, n, a, h1, h2, h3, h4, h5 => by omega
  | f + 1, t, n, a, h1, h2, h3, h4, h5 => by
    unfold grow
    by_cases hc : a < cl l a
    · rw [if_pos hc]
      by_cases hw : sm l fr (cl l a) ≤ W
      · rw [if_pos (by simp [hw])]
        have hl := le_run 1 l (cl l a)
        have htr := le_run 1 l t
        obtain ⟨i1, i2, i3⟩ := grow_on l W fr f (cl l a) (sm l fr (cl l a)) (run 1 l (cl l a)) (by omega) (run_le 1 (cl_le h2)) rfl (by omega) (cl_ends hc)
        refine ⟨.inr ?_, i2, i3⟩
        rcases i1 with ⟨_, e⟩ | e
        · rw [e]; exact hw
        · exact e
      · rw [if_neg (by simp; exact ⟨by omega, by omega⟩)]
        refine ⟨.inl ⟨rfl, rfl⟩, fun _ => ?_, h5⟩
        show W < sm l fr (cl l (run 1 l t))
        rw [← h3]
        omega
    · rw [if_neg hc]
      refine ⟨.inl ⟨rfl, rfl⟩, fun hh => ?_, h5⟩
      rw [show (t, n).1 = t from rfl, ← h3] at hh
      omega
def Lng (l : List It) (W : Int) (x : Ln) : Prop := (W < x.wd → x.en = cl l x.fr ∧ solidAt l x.fr) ∧ (x.fr < x.en → Stops l W x.fr x.en ∧ Ends l x.en)
theorem long_lines (l : List It) (hk : ∀ x ∈ l, 0 ≤ x.kd ∧ x.kd ≤ 3) (W : Int) (hW : 0 ≤ W) (G : Nat) (hG : l.length < G) : ∀ (f a : Nat), a ≤ l.length → ∀ x ∈ linesF l W G f a, Lng l W x
  | 0, a, h, x, hx => by simp [linesF] at hx
  | f + 1, a, h, x, hx => by
    have h2 := run_le 1 h
    have hrr : run 1 l (run 1 l a) = run 1 l a := run_no (run_stop 1 l a)
    obtain ⟨b, hb⟩ : ∃ b, run 1 l a = b := ⟨_, rfl⟩
    unfold linesF at hx
    rw [hb] at hx h2 hrr
    have h4 := grow_to l W b G b 0 b (Nat.le_refl _) h2
    split at hx
    · rename_i h3
      rcases List.mem_cons.1 hx with rfl | hx
      · obtain ⟨G0, rfl⟩ : ∃ G0, G = G0 + 1 := ⟨G - 1, by omega⟩
        have hc : b < cl l b := by
          rcases Nat.lt_or_ge b (cl l b) with h5 | h5
          · exact h5
          · rw [grow, if_neg (by omega)] at h3
            exact absurd h3 (Nat.lt_irrefl _)
        have hsb : solidAt l b := cl_in (a := b) (Nat.le_refl _) hc
        have hl := le_run 1 l (cl l b)
        have hgr : grow l W b (G0 + 1) b 0 b = grow l W b G0 (cl l b) (sm l b (cl l b)) (run 1 l (cl l b)) := by rw [grow, if_pos hc, if_pos (by simp)]
        obtain ⟨i1, i2, i3⟩ := grow_on l W b G0 (cl l b) (sm l b (cl l b)) (run 1 l (cl l b)) (by omega) (run_le 1 (cl_le h2)) rfl hc (cl_ends hc)
        rw [hgr]
        refine ⟨fun hw => ⟨?_, hsb⟩, fun _ => ⟨i2, i3⟩⟩
        simp only at hw ⊢
        rcases i1 with ⟨e, _⟩ | e
        · exact e
        · omega
      · exact long_lines l hk W hW G hG f _ (endL_le (run_le 1 h4.2)).2 x hx
    · split at hx
      · rename_i h3
        have h5 := isK_lt h3
        rcases List.mem_cons.1 hx with rfl | hx
        · refine ⟨fun hw => ?_, fun hh => ?_⟩
          · simp only at hw; omega
          · simp only at hh; omega
        · exact long_lines l hk W hW G hG f _ (by omega) x hx
      · simp at hx
theorem lines_long (l : List It) (hk : ∀ x ∈ l, 0 ≤ x.kd ∧ x.kd ≤ 3) (W : Int) (hW : 0 ≤ W) : ∀ x ∈ lines l W, Lng l W x :=
  long_lines l hk W hW (l.length + 1) (by omega) (l.length + 1) 0 (Nat.zero_le _)
end Go.Proofs.Ytdhjgflkincapaa
