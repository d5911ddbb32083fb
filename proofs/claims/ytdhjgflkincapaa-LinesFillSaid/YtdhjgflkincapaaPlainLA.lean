/- Lines of items behind a word or a box and a line's end, on plain data. Nothing of the program. -/
import Derived.Test.YtdhjgflkincapaaPlainLL
namespace Go.Proofs.Ytdhjgflkincapaa
set_option linter.unusedVariables false

theorem kind_cases {l : List It} (hk : ∀ x ∈ l, 0 ≤ x.kd ∧ x.kd ≤ 3) (a : Nat) (ha : a < l.length) : isK l a 0 = true ∨ isK l a 1 = true ∨ isK l a 2 = true ∨ isK l a 3 = true := by
  have h := hk l[a] (List.getElem_mem ha)
  rw [isK_some l a 0 ha, isK_some l a 1 ha, isK_some l a 2 ha, isK_some l a 3 ha]
  simp only [beq_iff_eq]
  omega
theorem cl_more {l : List It} {b : Nat} (h : isK l b 0 = true ∨ isK l b 3 = true) : b < cl l b := by
  unfold cl
  rcases h with h | h
  · rw [if_neg (by rw [isK_two h (by decide)]; exact Bool.noConfusion), run_yes h]
    have := le_run 0 l (b + 1)
    omega
  · rw [if_pos h]; omega
theorem grow_first {l : List It} {W : Int} {b : Nat} (G : Nat) (hb : b ≤ l.length) (h : isK l b 0 = true ∨ isK l b 3 = true) : b < (grow l W b (G + 1) b 0 b).1 := by
  have hc := cl_more h
  rw [grow, if_pos hc, if_pos (by simp)]
  have := (grow_to l W b G (cl l b) (sm l b (cl l b)) (run 1 l (cl l b)) (le_run _ _ _) (run_le 1 (cl_le hb))).1
  omega
theorem grow_none {l : List It} {W : Int} {b : Nat} (G : Nat) (hb : b ≤ l.length) (h0 : isK l b 0 = false) (h3 : isK l b 3 = false) : grow l W b G b 0 b = (b, 0) := by
  have hc : cl l b = b := by unfold cl; rw [if_neg (by rw [h3]; exact Bool.noConfusion), run_no h0]
  cases G with
  | zero => rfl
  | succ G => rw [grow, if_neg (by rw [hc]; omega)]
def solidAt (l : List It) (a : Nat) : Prop := isK l a 0 = true ∨ isK l a 3 = true
theorem solid_not {l : List It} {a : Nat} {q : Int} (h : solidAt l a) (h0 : q ≠ 0) (h3 : q ≠ 3) : isK l a q = false := by
  rcases h with h | h
  · exact isK_two h (Ne.symm h0)
  · exact isK_two h (Ne.symm h3)
theorem run_last {l : List It} (hs : solidAt l (l.length - 1)) {p : Nat} (hp : p < l.length) : run 1 l p < l.length := by
  have h1 := run_le 1 (Nat.le_of_lt hp)
  rcases Nat.lt_or_ge (run 1 l p) l.length with h2 | h2
  · exact h2
  · have := run_all 1 l p (l.length - 1) (by omega) (by omega)
    rw [solid_not hs (by decide) (by decide)] at this
    cases this

section
variable (l : List It) (h : It) (m : List It) (hh : h.kd = 2)
theorem isK_ap {a : Nat} (q : Int) (ha : a < l.length) : isK (l ++ h :: m) a q = isK l a q := by
  unfold isK; rw [List.getElem?_append_left ha]
include hh
theorem isK_at (q : Int) : isK (l ++ h :: m) l.length q = (2 == q) := by
  unfold isK; rw [List.getElem?_append_right (Nat.le_refl _), Nat.sub_self]
  simp only [List.getElem?_cons_zero, hh]
theorem run_ap (q : Int) (hq : q ≠ 2) : ∀ (n a : Nat), l.length = a + n → run q (l ++ h :: m) a = run q l a
  | 0, a, hn => by
    obtain rfl : a = l.length := by omega
    rw [run_end q (Nat.le_refl _), run_no]
    rw [isK_at l h m hh q]
    simpa using Ne.symm hq
  | n + 1, a, hn => by
    have e := isK_ap l h m q (show a < l.length by omega)
    cases hk : isK l a q with
    | false => rw [run_no hk, run_no (by rw [e]; exact hk)]
    | true => rw [run_yes hk, run_yes (by rw [e]; exact hk)]; exact run_ap q hq n (a + 1) (by omega)
theorem cl_ap {a : Nat} (ha : a ≤ l.length) : cl (l ++ h :: m) a = cl l a := by
  have e : isK (l ++ h :: m) a 3 = isK l a 3 := by
    rcases Nat.lt_or_ge a l.length with h1 | h1
    · exact isK_ap l h m 3 h1
    · obtain rfl : a = l.length := by omega
      rw [isK_at l h m hh 3, isK_none l _ 3 h1]; rfl
  unfold cl
  rw [e, run_ap l h m hh 0 (by decide) (l.length - a) a (by omega)]
theorem grow_ap (W : Int) (fr : Nat) : ∀ (f t : Nat) (n : Int) (a : Nat), fr ≤ t → t ≤ a → a ≤ l.length → grow (l ++ h :: m) W fr f t n a = grow l W fr f t n a
  | 0, t, n, a, h0, h1, h2 => rfl
  | f + 1, t, n, a, h0, h1, h2 => by
    have hc := le_cl l a
    have hc2 := cl_le h2
    rw [grow, grow, cl_ap l h m hh h2, sm_be l (h :: m) fr (cl l a) (by omega) hc2, run_ap l h m hh 1 (by decide) (l.length - cl l a) (cl l a) (by omega)]
    split
    · split
      · exact grow_ap W fr f _ _ _ (by omega) (le_run _ _ _) (run_le 1 hc2)
      · rfl
    · rfl
theorem linesF_ap (hs : solidAt l (l.length - 1)) (hk : ∀ x ∈ l, 0 ≤ x.kd ∧ x.kd ≤ 3) (W : Int) (G F : Nat) (hG : (l ++ h :: m).length < G) (hF : (l ++ h :: m).length < F + (l.length + 1)) : ∀ (f p : Nat), (l ++ h :: m).length < f + p → p < l.length →
    linesF (l ++ h :: m) W G f p = linesF l W G f p ++ linesF (l ++ h :: m) W G F (l.length + 1)
  | 0, p, h1, h2 => by simp at h1; omega
  | f + 1, p, h1, h2 => by
    have hb := run_last hs h2
    have hpb := le_run 1 l p
    obtain ⟨G0, rfl⟩ : ∃ G0, G = G0 + 1 := ⟨G - 1, by omega⟩
    have e1 : run 1 (l ++ h :: m) p = run 1 l p := run_ap l h m hh 1 (by decide) (l.length - p) p (by omega)
    have e2 := grow_ap l h m hh W (run 1 l p) (G0 + 1) (run 1 l p) 0 (run 1 l p) (Nat.le_refl _) (Nat.le_refl _) (by omega)
    have e3 := isK_ap l h m 2 hb
    have ht := (grow_to l W (run 1 l p) (G0 + 1) (run 1 l p) 0 (run 1 l p) (Nat.le_refl _) (by omega)).2
    rw [linesF, linesF, e1, e2, e3]
    by_cases hlt : run 1 l p < (grow l W (run 1 l p) (G0 + 1) (run 1 l p) 0 (run 1 l p)).1
    · rw [if_pos hlt, if_pos hlt, List.cons_append]
      congr 1
      obtain ⟨t, hte⟩ : ∃ t, (grow l W (run 1 l p) (G0 + 1) (run 1 l p) 0 (run 1 l p)).1 = t := ⟨_, rfl⟩
      rw [hte] at hlt ht ⊢
      have e4 : run 1 (l ++ h :: m) t = run 1 l t := run_ap l h m hh 1 (by decide) (l.length - t) t (by omega)
      rw [e4]
      rcases Nat.lt_or_ge t l.length with h3 | h3
      · have hc := run_last hs h3
        have hct := le_run 1 l t
        have e5 : endL (l ++ h :: m) (run 1 l t) = endL l (run 1 l t) := by unfold endL; rw [isK_ap l h m 2 hc]
        have hel := endL_le (Nat.le_of_lt hc)
        have hlast : endL l (run 1 l t) < l.length := by
          rcases Nat.lt_or_ge (endL l (run 1 l t)) l.length with h4 | h4
          · exact h4
          · unfold endL at h4
            split at h4
            · rename_i h5
              have h6 : run 1 l t = l.length - 1 := by omega
              rw [h6, solid_not hs (by decide) (by decide)] at h5
              cases h5
            · omega
        rw [e5]
        exact linesF_ap hs hk W (G0 + 1) F hG hF f _ (by omega) hlast
      · obtain rfl : t = l.length := by omega
        rw [run_end 1 (Nat.le_refl _)]
        have e6 : endL (l ++ h :: m) l.length = l.length + 1 := by unfold endL; rw [isK_at l h m hh 2]; rfl
        have e7 : endL l l.length = l.length := by unfold endL; rw [isK_none l _ 2 (Nat.le_refl _), if_neg Bool.noConfusion]
        rw [e6, e7, linesF_end l W _ f _ (Nat.le_refl _), List.nil_append]
        exact linesF_fuel _ W _ _ hG hG f F _ (by omega) hF
    · rw [if_neg hlt, if_neg hlt]
      have hk2 : isK l (run 1 l p) 2 = true := by
        rcases kind_cases hk _ hb with h3 | h3 | h3 | h3
        · exact absurd (grow_first G0 (by omega) (.inl h3)) hlt
        · rw [run_stop] at h3; cases h3
        · exact h3
        · exact absurd (grow_first G0 (by omega) (.inr h3)) hlt
      rw [if_pos hk2, if_pos hk2, List.cons_append]
      congr 1
      have hlast : run 1 l p + 1 < l.length := by
        rcases Nat.lt_or_ge (run 1 l p + 1) l.length with h4 | h4
        · exact h4
        · have h6 : run 1 l p = l.length - 1 := by omega
          rw [h6, solid_not hs (by decide) (by decide)] at hk2
          cases hk2
      exact linesF_ap hs hk W (G0 + 1) F hG hF f _ (by omega) hlast
end
theorem lines_apart (l : List It) (h : It) (m : List It) (hh : h.kd = 2) (h0 : 0 < l.length) (hs : solidAt l (l.length - 1)) (hk : ∀ x ∈ l, 0 ≤ x.kd ∧ x.kd ≤ 3) (W : Int) :
    lines (l ++ h :: m) W = lines l W ++ (lines m W).map (sh (l.length + 1)) := by
  have hL : (l ++ h :: m).length = l.length + 1 + m.length := by simp; omega
  unfold lines
  rw [linesF_ap l h m hh hs hk W ((l ++ h :: m).length + 1) ((l ++ h :: m).length + 1) (by omega) (by omega) _ 0 (by omega) h0]
  congr 1
  · exact linesF_fuel l W _ _ (by omega) (by omega) _ _ 0 (by omega) (by omega)
  · have e : l ++ h :: m = (l ++ [h]) ++ m := by simp
    have e2 : (l ++ [h]).length = l.length + 1 := by simp
    have := linesF_sh (l ++ [h]) m W ((l ++ h :: m).length + 1) ((l ++ h :: m).length + 1) 0
    rw [e2, ← e] at this
    refine this.trans ?_
    congr 1
    exact linesF_fuel m W _ _ (by omega) (by omega) _ _ 0 (by omega) (by omega)
end Go.Proofs.Ytdhjgflkincapaa
