/- Lines of items, on plain data: what fits, shifts, fuel. Nothing of the program. -/
import Derived.Test.YtdhjgflkincapaaPlainL
namespace Go.Proofs.Ytdhjgflkincapaa
set_option linter.unusedVariables false

/-! ### A line's width is the sum of its items -/
theorem grow_wd (l : List It) (W : Int) (fr : Nat) : ∀ (f t : Nat) (n : Int) (a : Nat), n = sm l fr t → (grow l W fr f t n a).2 = sm l fr (grow l W fr f t n a).1
  | 0, t, n, a, h => h
  | f + 1, t, n, a, h => by
    unfold grow
    split
    · split
      · exact grow_wd l W fr f _ _ _ rfl
      · exact h
    · exact h
theorem endL_le {l : List It} {t : Nat} (h : t ≤ l.length) : t ≤ endL l t ∧ endL l t ≤ l.length := by
  unfold endL
  split
  · rename_i h1; have := isK_lt h1; omega
  · omega
theorem line_wd (l : List It) (W : Int) (G : Nat) : ∀ (f a : Nat), a ≤ l.length → ∀ x ∈ linesF l W G f a, x.wd = sm l x.fr x.en ∧ x.fr ≤ x.en ∧ x.en ≤ l.length
  | 0, a, h, x, hx => by simp [linesF] at hx
  | f + 1, a, h, x, hx => by
    have h1 := le_run 1 l a
    have h2 := run_le 1 h
    unfold linesF at hx
    split at hx
    · have h4 := grow_to l W (run 1 l a) G (run 1 l a) 0 (run 1 l a) (Nat.le_refl _) h2
      rcases List.mem_cons.1 hx with rfl | hx
      · exact ⟨grow_wd l W _ G _ 0 _ (sm_self l _).symm, h4.1, h4.2⟩
      · exact line_wd l W G f _ (endL_le (run_le 1 h4.2)).2 x hx
    · split at hx
      · rename_i h3
        have h5 := isK_lt h3
        rcases List.mem_cons.1 hx with rfl | hx
        · exact ⟨(sm_self l _).symm, Nat.le_refl _, h2⟩
        · exact line_wd l W G f _ (by omega) x hx
      · simp at hx
theorem sm_near {l : List It} (hf : ∀ x ∈ l, -1073741824 ≤ x.wd ∧ x.wd ≤ 1073741824) (a : Nat) : ∀ n : Nat, a + n ≤ l.length → -((n : Int) * 1073741824) ≤ sm l a (a + n) ∧ sm l a (a + n) ≤ (n : Int) * 1073741824
  | 0, _ => by rw [Nat.add_zero, sm_self]; omega
  | n + 1, h => by
    have ih := sm_near hf a n (by omega)
    have hx := hf l[a + n] (List.getElem_mem _)
    rw [show a + (n + 1) = a + n + 1 from rfl, sm_succ l a (a + n) (by omega) (by omega)]
    omega
theorem near_fill {l : List It} {W : Int} (hl : l.length ≤ 600) (h0 : 0 ≤ W) (h1 : W ≤ 1099511627776) (hk : ∀ x ∈ l, x.kd ≤ 3) (hw : ∀ x ∈ l, -1073741824 ≤ x.wd ∧ x.wd ≤ 1073741824) : fillF l W = ⟨lines l W, 0⟩ := by
  unfold fillF
  have hW : fitB W = true := by rw [fitB_iff]; omega
  have hki : kindI l = true := by unfold kindI; rw [List.all_eq_true]; intro x hx; simpa using hk x hx
  have hfi : fitI l = true := by unfold fitI; rw [List.all_eq_true]; intro x hx; rw [fitB_iff]; have := hw x hx; omega
  have hln : (lines l W).all (fun x => fitB x.wd) = true := by
    rw [List.all_eq_true]
    intro x hx
    obtain ⟨e, h2, h3⟩ := line_wd l W (l.length + 1) (l.length + 1) 0 (Nat.zero_le _) x hx
    have := sm_near hw x.fr (x.en - x.fr) (by omega)
    rw [show x.fr + (x.en - x.fr) = x.en from by omega] at this
    rw [fitB_iff, e]
    omega
  rw [if_neg (by simp; omega), if_neg (by rw [hki]; exact Bool.noConfusion), if_neg (by rw [hW, hfi]; exact Bool.noConfusion), if_pos hln]

/-! ### Fuel -/
theorem run_end (q : Int) {l : List It} {a : Nat} (h : l.length ≤ a) : run q l a = a := run_no (isK_none l a q h)
theorem cl_end {l : List It} {a : Nat} (h : l.length ≤ a) : cl l a = a := by
  unfold cl
  rw [if_neg (by rw [isK_none l a 3 h]; exact Bool.noConfusion), run_end 0 h]
theorem grow_fuel (l : List It) (W : Int) (fr : Nat) : ∀ (f g t : Nat) (n : Int) (a : Nat), l.length < f + a → l.length < g + a → grow l W fr f t n a = grow l W fr g t n a
  | 0, 0, t, n, a, h1, h2 => rfl
  | 0, g + 1, t, n, a, h1, h2 => by rw [grow, grow, if_neg (by rw [cl_end (by omega)]; omega)]
  | f + 1, 0, t, n, a, h1, h2 => by rw [grow, grow, if_neg (by rw [cl_end (by omega)]; omega)]
  | f + 1, g + 1, t, n, a, h1, h2 => by
    rw [grow, grow]
    split
    · rename_i h3
      have h4 := le_run 1 l (cl l a)
      rw [grow_fuel l W fr f g _ _ _ (by omega) (by omega)]
    · rfl
theorem linesF_end (l : List It) (W : Int) (G : Nat) : ∀ (f a : Nat), l.length ≤ a → linesF l W G f a = []
  | 0, a, h => rfl
  | f + 1, a, h => by
    have hg : grow l W a G a 0 a = (a, 0) := by
      cases G with
      | zero => rfl
      | succ G => rw [grow, if_neg (by rw [cl_end h]; omega)]
    rw [linesF, run_end 1 h, hg, if_neg (by simp), if_neg (by rw [isK_none l a 2 h]; exact Bool.noConfusion)]
theorem linesF_fuel (l : List It) (W : Int) (G G' : Nat) (hG : l.length < G) (hG' : l.length < G') : ∀ (f g a : Nat), l.length < f + a → l.length < g + a → linesF l W G f a = linesF l W G' g a
  | 0, g, a, h1, h2 => by rw [linesF_end l W G' g a (by omega)]; rfl
  | f + 1, 0, a, h1, h2 => by rw [linesF_end l W G (f + 1) a (by omega)]; rfl
  | f + 1, g + 1, a, h1, h2 => by
    have e := grow_fuel l W (run 1 l a) G G' (run 1 l a) 0 (run 1 l a) (by omega) (by omega)
    have h3 := le_run 1 l a
    rw [linesF, linesF, e]
    split
    · rename_i h4
      have h5 := le_run 1 l (grow l W (run 1 l a) G' (run 1 l a) 0 (run 1 l a)).1
      have h6 : run 1 l (grow l W (run 1 l a) G' (run 1 l a) 0 (run 1 l a)).1 ≤ endL l (run 1 l (grow l W (run 1 l a) G' (run 1 l a) 0 (run 1 l a)).1) := by
        unfold endL; split <;> omega
      rw [linesF_fuel l W G G' hG hG' f g _ (by omega) (by omega)]
    · split
      · rw [linesF_fuel l W G G' hG hG' f g _ (by omega) (by omega)]
      · rfl
theorem linesF_run (l : List It) (W : Int) (G f a a' : Nat) (h : run 1 l a = run 1 l a') : linesF l W G (f + 1) a = linesF l W G (f + 1) a' := by
  rw [linesF, linesF, h]

/-! ### Items ahead -/
def sh (d : Nat) (x : Ln) : Ln := ⟨d + x.fr, d + x.en, x.wd⟩
section
variable (p l : List It)
theorem isK_sh (a : Nat) (q : Int) : isK (p ++ l) (p.length + a) q = isK l a q := by
  unfold isK
  rw [List.getElem?_append_right (by omega), Nat.add_sub_cancel_left]
theorem drop_sh (a : Nat) : (p ++ l).drop (p.length + a) = l.drop a := by
  rw [List.drop_append, List.drop_eq_nil_of_le (by omega), List.nil_append, Nat.add_sub_cancel_left]
theorem run_sh (q : Int) (a : Nat) : run q (p ++ l) (p.length + a) = p.length + run q l a := by
  unfold run; rw [drop_sh]; omega
theorem cl_sh (a : Nat) : cl (p ++ l) (p.length + a) = p.length + cl l a := by
  unfold cl; rw [isK_sh, run_sh]; split <;> omega
theorem sm_sh (a b : Nat) : sm (p ++ l) (p.length + a) (p.length + b) = sm l a b := by
  unfold sm; rw [drop_sh]; congr 2; omega
theorem endL_sh (a : Nat) : endL (p ++ l) (p.length + a) = p.length + endL l a := by
  unfold endL; rw [isK_sh]; split <;> omega
theorem grow_sh (W : Int) (fr : Nat) : ∀ (f t : Nat) (n : Int) (a : Nat), grow (p ++ l) W (p.length + fr) f (p.length + t) n (p.length + a) = (p.length + (grow l W fr f t n a).1, (grow l W fr f t n a).2)
  | 0, t, n, a => rfl
  | f + 1, t, n, a => by
    rw [grow, grow, cl_sh, sm_sh, run_sh, grow_sh W fr f]
    have e1 : (decide (p.length + t = p.length + fr)) = decide (t = fr) := by simp
    have e2 : (p.length + a < p.length + cl l a) ↔ a < cl l a := by omega
    rw [e1]
    by_cases h : a < cl l a
    · rw [if_pos (e2.2 h), if_pos h]
      split <;> rfl
    · rw [if_neg (fun hh => h (e2.1 hh)), if_neg h]
theorem linesF_sh (W : Int) (G : Nat) : ∀ (f a : Nat), linesF (p ++ l) W G f (p.length + a) = (linesF l W G f a).map (sh p.length)
  | 0, a => rfl
  | f + 1, a => by
    rw [linesF, linesF, run_sh, grow_sh]
    simp only
    rw [run_sh, endL_sh, linesF_sh W G f, isK_sh]
    have e2 : (p.length + run 1 l a < p.length + (grow l W (run 1 l a) G (run 1 l a) 0 (run 1 l a)).1) ↔ run 1 l a < (grow l W (run 1 l a) G (run 1 l a) 0 (run 1 l a)).1 := by omega
    by_cases h : run 1 l a < (grow l W (run 1 l a) G (run 1 l a) 0 (run 1 l a)).1
    · rw [if_pos (e2.2 h), if_pos h]; rfl
    · rw [if_neg (fun hh => h (e2.1 hh)), if_neg h]
      split
      · rw [show p.length + run 1 l a + 1 = p.length + (run 1 l a + 1) from rfl, linesF_sh W G f]; rfl
      · rfl
end
theorem widF_sh (d : Nat) (l : List Ln) : (l.map (sh d)).foldl (fun n x => max n x.wd) 0 = l.foldl (fun n x => max n x.wd) 0 := by
  rw [List.foldl_map]; rfl

/-! ### Blanks ahead and behind -/
def blank (l : List It) : Prop := ∀ x ∈ l, x.kd = 1
theorem blank_isK {b : List It} (h : blank b) (a : Nat) (q : Int) (hq : q ≠ 1) : isK b a q = false := by
  rcases Nat.lt_or_ge a b.length with h1 | h1
  · rw [isK_some b a q h1, h _ (List.getElem_mem _)]
    simpa using Ne.symm hq
  · exact isK_none b a q h1
theorem blank_yes {b : List It} (h : blank b) (a : Nat) (ha : a < b.length) : isK b a 1 = true := by
  rw [isK_some b a 1 ha, h _ (List.getElem_mem _)]; rfl
theorem run_blank {b l : List It} (h : blank b) : ∀ (n a : Nat), b.length = a + n → run 1 (b ++ l) a = run 1 (b ++ l) b.length
  | 0, a, hn => by rw [show a = b.length from by omega]
  | n + 1, a, hn => by
    have hk : isK (b ++ l) a 1 = true := by
      unfold isK
      rw [List.getElem?_append_left (by omega)]
      exact blank_yes h a (by omega)
    rw [run_yes hk]
    exact run_blank h n (a + 1) (by omega)
section
variable (l b : List It) (hb : blank b)
include hb
theorem isK_be (a : Nat) (q : Int) (hq : q ≠ 1) : isK (l ++ b) a q = isK l a q := by
  rcases Nat.lt_or_ge a l.length with h1 | h1
  · unfold isK; rw [List.getElem?_append_left h1]
  · rw [isK_none l a q h1]
    obtain ⟨c, rfl⟩ : ∃ c, a = l.length + c := ⟨a - l.length, by omega⟩
    rw [isK_sh]
    exact blank_isK hb c q hq
theorem run0_be : ∀ (n a : Nat), l.length ≤ a + n → run 0 (l ++ b) a = run 0 l a
  | 0, a, h => by
    rw [run_no (isK_none l a 0 (by omega)), run_no]
    rw [isK_be l b hb a 0 (by decide)]
    exact isK_none l a 0 (by omega)
  | n + 1, a, h => by
    cases hk : isK l a 0 with
    | false => rw [run_no hk, run_no (by rw [isK_be l b hb a 0 (by decide)]; exact hk)]
    | true => rw [run_yes hk, run_yes (by rw [isK_be l b hb a 0 (by decide)]; exact hk)]; exact run0_be n (a + 1) (by omega)
theorem cl_be (a : Nat) : cl (l ++ b) a = cl l a := by
  unfold cl; rw [isK_be l b hb a 3 (by decide), run0_be l b hb l.length a (by omega)]
omit hb in
theorem run1_be : ∀ (n a : Nat), l.length = a + n → (run 1 (l ++ b) a = run 1 l a ∧ run 1 l a < l.length) ∨ (run 1 l a = l.length ∧ l.length ≤ run 1 (l ++ b) a)
  | 0, a, h => .inr ⟨by rw [run_end 1 (by omega)]; omega, by have := le_run 1 (l ++ b) a; omega⟩
  | n + 1, a, h => by
    have e : isK (l ++ b) a 1 = isK l a 1 := by unfold isK; rw [List.getElem?_append_left (by omega)]
    cases hk : isK l a 1 with
    | false => exact .inl ⟨by rw [run_no hk, run_no (by rw [e]; exact hk)], by rw [run_no hk]; omega⟩
    | true => rw [run_yes hk, run_yes (by rw [e]; exact hk)]; exact run1_be n (a + 1) (by omega)
omit hb in
theorem sm_be (x y : Nat) (h : x ≤ y) (hy : y ≤ l.length) : sm (l ++ b) x y = sm l x y := by
  unfold sm
  rw [List.drop_append_of_le_length (by omega), List.take_append_of_le_length (by rw [List.length_drop]; omega)]
theorem grow_be (W : Int) (fr : Nat) : ∀ (f t : Nat) (n : Int) (a : Nat), fr ≤ t → t ≤ a → a ≤ l.length → grow (l ++ b) W fr f t n a = grow l W fr f t n a
  | 0, t, n, a, h0, h1, h2 => rfl
  | f + 1, t, n, a, h0, h1, h2 => by
    have hc := le_cl l a
    have hc2 := cl_le h2
    rw [grow, grow, cl_be l b hb, sm_be l b fr (cl l a) (by omega) hc2]
    split
    · split
      · rcases run1_be l b (l.length - cl l a) (cl l a) (by omega) with ⟨e, h3⟩ | ⟨e, h3⟩
        · rw [e]
          exact grow_be W fr f _ _ _ (by omega) (le_run _ _ _) (run_le 1 hc2)
        · rw [e]
          cases f with
          | zero => rfl
          | succ f =>
            rw [grow, grow, cl_be l b hb, cl_end h3, cl_end (Nat.le_refl _), if_neg (by omega), if_neg (by omega)]
      · rfl
    · rfl
theorem linesF_be (W : Int) (G : Nat) : ∀ (f a : Nat), a ≤ l.length → linesF (l ++ b) W G f a = linesF l W G f a
  | 0, a, h => rfl
  | f + 1, a, h => by
    rcases run1_be l b (l.length - a) a (by omega) with ⟨e, h3⟩ | ⟨e, h3⟩
    · rw [linesF, linesF, e, grow_be l b hb W _ G _ 0 _ (Nat.le_refl _) (Nat.le_refl _) (by omega), isK_be l b hb _ 2 (by decide)]
      have h4 := (grow_to l W (run 1 l a) G (run 1 l a) 0 (run 1 l a) (Nat.le_refl _) (by omega)).2
      split
      · congr 1
        rcases run1_be l b (l.length - (grow l W (run 1 l a) G (run 1 l a) 0 (run 1 l a)).1) (grow l W (run 1 l a) G (run 1 l a) 0 (run 1 l a)).1 (by omega) with ⟨e2, h5⟩ | ⟨e2, h5⟩
        · rw [e2]
          have e3 : endL (l ++ b) (run 1 l (grow l W (run 1 l a) G (run 1 l a) 0 (run 1 l a)).1) = endL l (run 1 l (grow l W (run 1 l a) G (run 1 l a) 0 (run 1 l a)).1) := by
            unfold endL; rw [isK_be l b hb _ 2 (by decide)]
          rw [e3]
          exact linesF_be W G f _ (endL_le (by omega)).2
        · have h6 : isK (l ++ b) (run 1 (l ++ b) (grow l W (run 1 l a) G (run 1 l a) 0 (run 1 l a)).1) 2 = false := by rw [isK_be l b hb _ 2 (by decide)]; exact isK_none l _ 2 h5
          have h7 : endL (l ++ b) (run 1 (l ++ b) (grow l W (run 1 l a) G (run 1 l a) 0 (run 1 l a)).1) = run 1 (l ++ b) (grow l W (run 1 l a) G (run 1 l a) 0 (run 1 l a)).1 := by unfold endL; rw [if_neg (by rw [h6]; exact Bool.noConfusion)]
          have h8 : endL l (run 1 l (grow l W (run 1 l a) G (run 1 l a) 0 (run 1 l a)).1) = l.length := by
            rw [e2]; unfold endL; rw [if_neg (by rw [isK_none l _ 2 (Nat.le_refl _)]; exact Bool.noConfusion)]
          rw [h7, h8, linesF_end l W G f _ (Nat.le_refl _)]
          cases f with
          | zero => rfl
          | succ f =>
            have hr : run 1 (l ++ b) (run 1 (l ++ b) (grow l W (run 1 l a) G (run 1 l a) 0 (run 1 l a)).1) = run 1 (l ++ b) (grow l W (run 1 l a) G (run 1 l a) 0 (run 1 l a)).1 := run_no (run_stop 1 _ _)
            rw [linesF, hr]
            have hgz : ∀ x, l.length ≤ x → grow (l ++ b) W x G x 0 x = (x, 0) := fun x hx => by
              cases G with
              | zero => rfl
              | succ G => rw [grow, cl_be l b hb, cl_end hx, if_neg (by omega)]
            rw [hgz _ h5, if_neg (by simp), if_neg (by rw [h6]; exact Bool.noConfusion)]
      · split
        · rename_i h5
          have := isK_lt h5
          congr 1
          exact linesF_be W G f _ (by omega)
        · rfl
    · have hgz : grow (l ++ b) W (run 1 (l ++ b) a) G (run 1 (l ++ b) a) 0 (run 1 (l ++ b) a) = (run 1 (l ++ b) a, 0) := by
        cases G with
        | zero => rfl
        | succ G => rw [grow, cl_be l b hb, cl_end h3, if_neg (by omega)]
      rw [linesF, hgz, if_neg (by simp), if_neg (by rw [isK_be l b hb _ 2 (by decide), isK_none l _ 2 h3]; exact Bool.noConfusion)]
      rw [← linesF_run l W G f l.length a (by rw [e, run_end 1 (Nat.le_refl _)]), linesF_end l W G (f + 1) _ (Nat.le_refl _)]
end
/-- blanks ahead and behind change nothing but places -/
theorem lines_blank (p l b : List It) (hp : blank p) (hb : blank b) (W : Int) : lines (p ++ l ++ b) W = (lines l W).map (sh p.length) := by
  unfold lines
  rw [linesF_be (p ++ l) b hb W _ _ 0 (Nat.zero_le _)]
  rw [linesF_run (p ++ l) W _ _ 0 p.length (run_blank hp p.length 0 (by omega))]
  refine (linesF_sh p l W ((p ++ l ++ b).length + 1) ((p ++ l ++ b).length + 1) 0).trans ?_
  congr 1
  exact linesF_fuel l W _ _ (by simp; omega) (by omega) _ _ 0 (by simp; omega) (by omega)
end Go.Proofs.Ytdhjgflkincapaa
