/- What chapter 10 says, on plain data: items, how they fill lines. Nothing of the program. -/
import Derived.Test.YtdhjgflkincapaaPlainI
namespace Go.Proofs.Ytdhjgflkincapaa
set_option linter.unusedVariables false

/-- an item: 0 a word, 1 a blank, 2 a line's end, 3 a box; how wide it is -/
structure It where
  kd : Int
  wd : Int
structure Ln where
  fr : Nat
  en : Nat
  wd : Int
def isK (l : List It) (a : Nat) (q : Int) : Bool := match l[a]? with
  | some x => x.kd == q
  | none => false
def runL (q : Int) : List It → Nat
  | [] => 0
  | x :: r => if (x.kd == q) = true then runL q r + 1 else 0
/-- the place behind the items of a kind that begin at a place -/
def run (q : Int) (l : List It) (a : Nat) : Nat := a + runL q (l.drop a)
/-- the place behind a cluster -/
def cl (l : List It) (a : Nat) : Nat := if isK l a 3 = true then a + 1 else run 0 l a
def sumI (l : List It) : Int := l.foldl (fun s x => s + x.wd) 0
def sm (l : List It) (a b : Nat) : Int := sumI ((l.drop a).take (b - a))
/-- the line that begins at fr, so far up to t, so wide; the next cluster may begin at a -/
def grow (l : List It) (W : Int) (fr : Nat) : Nat → Nat → Int → Nat → Nat × Int
  | 0, t, n, _ => (t, n)
  | f + 1, t, n, a => if a < cl l a then
      if (decide (t = fr) || decide (sm l fr (cl l a) ≤ W)) = true then grow l W fr f (cl l a) (sm l fr (cl l a)) (run 1 l (cl l a)) else (t, n)
    else (t, n)
/-- behind a line -/
def endL (l : List It) (t : Nat) : Nat := if isK l t 2 = true then t + 1 else t
def linesF (l : List It) (W : Int) (G : Nat) : Nat → Nat → List Ln
  | 0, _ => []
  | f + 1, a =>
    if run 1 l a < (grow l W (run 1 l a) G (run 1 l a) 0 (run 1 l a)).1 then
      ⟨run 1 l a, (grow l W (run 1 l a) G (run 1 l a) 0 (run 1 l a)).1, (grow l W (run 1 l a) G (run 1 l a) 0 (run 1 l a)).2⟩ ::
        linesF l W G f (endL l (run 1 l (grow l W (run 1 l a) G (run 1 l a) 0 (run 1 l a)).1))
    else if isK l (run 1 l a) 2 = true then ⟨run 1 l a, run 1 l a, 0⟩ :: linesF l W G f (run 1 l a + 1)
    else []
def lines (l : List It) (W : Int) : List Ln := linesF l W (l.length + 1) (l.length + 1) 0
def fitI (l : List It) : Bool := l.all fun x => fitB x.wd
def kindI (l : List It) : Bool := l.all fun x => decide (x.kd ≤ 3)
structure Lr where
  ls : List Ln
  e : Int
def fillF (l : List It) (W : Int) : Lr :=
  if (decide (2048 < l.length) || decide (W < 0)) = true then ⟨[], 2⟩
  else if kindI l = false then ⟨[], 2⟩
  else if (fitB W && fitI l) = false then ⟨[], 10⟩
  else if (lines l W).all (fun x => fitB x.wd) = true then ⟨lines l W, 0⟩
  else ⟨[], 10⟩

/-! ### Steps -/
theorem isK_some (l : List It) (a : Nat) (q : Int) (h : a < l.length) : isK l a q = (l[a].kd == q) := by
  unfold isK; rw [List.getElem?_eq_getElem h]
theorem isK_none (l : List It) (a : Nat) (q : Int) (h : l.length ≤ a) : isK l a q = false := by
  unfold isK; rw [List.getElem?_eq_none h]
theorem isK_lt {l : List It} {a : Nat} {q : Int} (h : isK l a q = true) : a < l.length := by
  rcases Nat.lt_or_ge a l.length with h1 | h1
  · exact h1
  · rw [isK_none l a q h1] at h; cases h
theorem isK_two {l : List It} {a : Nat} {q q' : Int} (h : isK l a q = true) (hn : q ≠ q') : isK l a q' = false := by
  have hl := isK_lt h
  rw [isK_some l a q hl, beq_iff_eq] at h
  rw [isK_some l a q' hl, beq_eq_false_iff_ne, h]
  exact hn
theorem run_yes {l : List It} {a : Nat} {q : Int} (h : isK l a q = true) : run q l a = run q l (a + 1) := by
  have hl := isK_lt h
  rw [isK_some l a q hl] at h
  unfold run
  rw [List.drop_eq_getElem_cons hl, runL, if_pos h]
  omega
theorem run_no {l : List It} {a : Nat} {q : Int} (h : isK l a q = false) : run q l a = a := by
  unfold run
  rcases Nat.lt_or_ge a l.length with hl | hl
  · rw [isK_some l a q hl] at h
    rw [List.drop_eq_getElem_cons hl, runL, if_neg (by rw [h]; exact Bool.false_ne_true)]
    rfl
  · rw [List.drop_eq_nil_of_le hl]; rfl
theorem le_run (q : Int) (l : List It) (a : Nat) : a ≤ run q l a := Nat.le_add_right _ _
theorem runL_le (q : Int) : ∀ l : List It, runL q l ≤ l.length
  | [] => Nat.le_refl _
  | x :: r => by
    unfold runL
    split
    · have := runL_le q r; simp only [List.length_cons]; omega
    · exact Nat.zero_le _
theorem run_le (q : Int) {l : List It} {a : Nat} (h : a ≤ l.length) : run q l a ≤ l.length := by
  have := runL_le q (l.drop a)
  rw [List.length_drop] at this
  unfold run
  omega
theorem run_at (q : Int) (l : List It) : ∀ (n a : Nat), l.length ≤ a + n → isK l (run q l a) q = false
  | 0, a, h => isK_none l _ q (by have := le_run q l a; omega)
  | n + 1, a, h => by
    cases hk : isK l a q with
    | false => rw [run_no hk]; exact hk
    | true => rw [run_yes hk]; exact run_at q l n (a + 1) (by omega)
theorem run_stop (q : Int) (l : List It) (a : Nat) : isK l (run q l a) q = false := run_at q l l.length a (by omega)
theorem run_mid (q : Int) (l : List It) : ∀ (n a i : Nat), l.length ≤ a + n → a ≤ i → i < run q l a → isK l i q = true
  | 0, a, i, h, h1, h2 => by
    rw [run_no (isK_none l a q (by omega))] at h2; omega
  | n + 1, a, i, h, h1, h2 => by
    cases hk : isK l a q with
    | false => rw [run_no hk] at h2; omega
    | true =>
      rcases Nat.lt_or_ge a i with h3 | h3
      · rw [run_yes hk] at h2; exact run_mid q l n (a + 1) i (by omega) (by omega) h2
      · obtain rfl : a = i := by omega
        exact hk
theorem run_all (q : Int) (l : List It) (a i : Nat) (h1 : a ≤ i) (h2 : i < run q l a) : isK l i q = true := run_mid q l l.length a i (by omega) h1 h2
theorem cl_le {l : List It} {a : Nat} (h : a ≤ l.length) : cl l a ≤ l.length := by
  unfold cl
  split
  · rename_i h1; have := isK_lt h1; omega
  · exact run_le 0 h
theorem le_cl (l : List It) (a : Nat) : a ≤ cl l a := by
  unfold cl
  split
  · omega
  · exact le_run _ _ _

/-! ### Sums -/
theorem sumI_snoc (l : List It) (x : It) : sumI (l ++ [x]) = sumI l + x.wd := by simp [sumI, List.foldl_append]
theorem sm_self (l : List It) (a : Nat) : sm l a a = 0 := by simp [sm, sumI]
theorem sm_succ (l : List It) (a b : Nat) (h1 : a ≤ b) (h2 : b < l.length) : sm l a (b + 1) = sm l a b + l[b].wd := by
  unfold sm
  have hl : b - a < (l.drop a).length := by rw [List.length_drop]; omega
  rw [show b + 1 - a = b - a + 1 from by omega, List.take_succ_eq_append_getElem hl, sumI_snoc, List.getElem_drop]
  simp only [show a + (b - a) = b from by omega]
theorem fitI_get {l : List It} (h : fitI l = true) (k : Nat) (hk : k < l.length) : -1099511627776 ≤ l[k].wd ∧ l[k].wd ≤ 1099511627776 :=
  (fitB_iff _).1 (List.all_eq_true.1 h _ (List.getElem_mem _))
theorem sm_bound {l : List It} (hf : fitI l = true) (a : Nat) : ∀ n : Nat, a + n ≤ l.length → -((n : Int) * 1099511627776) ≤ sm l a (a + n) ∧ sm l a (a + n) ≤ (n : Int) * 1099511627776
  | 0, _ => by rw [Nat.add_zero, sm_self]; omega
  | n + 1, h => by
    have ih := sm_bound hf a n (by omega)
    have hx := fitI_get hf (a + n) (by omega)
    rw [show a + (n + 1) = a + n + 1 from rfl, sm_succ l a (a + n) (by omega) (by omega)]
    omega
theorem sm_in {l : List It} (hf : fitI l = true) (hl : l.length ≤ 2048) (a b : Nat) (h1 : a ≤ b) (h2 : b ≤ l.length) : -2251799813685248 ≤ sm l a b ∧ sm l a b ≤ 2251799813685248 := by
  have := sm_bound hf a (b - a) (by omega)
  rw [show a + (b - a) = b from by omega] at this
  omega
theorem grow_to (l : List It) (W : Int) (fr : Nat) : ∀ (f t : Nat) (n : Int) (a : Nat), t ≤ a → a ≤ l.length → t ≤ (grow l W fr f t n a).1 ∧ (grow l W fr f t n a).1 ≤ l.length
  | 0, t, n, a, h1, h2 => by unfold grow; simp only; omega
  | f + 1, t, n, a, h1, h2 => by
    unfold grow
    split
    · split
      · have hc := cl_le h2
        have hr := run_le 1 hc
        have := grow_to l W fr f (cl l a) (sm l fr (cl l a)) (run 1 l (cl l a)) (le_run _ _ _) hr
        omega
      · simp only; omega
    · simp only; omega
theorem linesF_len (l : List It) (W : Int) (G : Nat) : ∀ (f a : Nat), a ≤ l.length → (linesF l W G f a).length ≤ l.length - a
  | 0, a, h => by simp [linesF]
  | f + 1, a, h => by
    unfold linesF
    have h1 := le_run 1 l a
    have h2 := run_le 1 h
    split
    · rename_i h3
      have h4 := (grow_to l W (run 1 l a) G (run 1 l a) 0 (run 1 l a) (Nat.le_refl _) h2).2
      have h5 := le_run 1 l (grow l W (run 1 l a) G (run 1 l a) 0 (run 1 l a)).1
      have h6 := run_le 1 h4
      have h7 : endL l (run 1 l (grow l W (run 1 l a) G (run 1 l a) 0 (run 1 l a)).1) ≤ l.length ∧ run 1 l (grow l W (run 1 l a) G (run 1 l a) 0 (run 1 l a)).1 ≤ endL l (run 1 l (grow l W (run 1 l a) G (run 1 l a) 0 (run 1 l a)).1) := by
        unfold endL
        split
        · rename_i h8; have := isK_lt h8; omega
        · omega
      have := linesF_len l W G f _ h7.1
      simp only [List.length_cons]
      omega
    · split
      · rename_i h8
        have := isK_lt h8
        have := linesF_len l W G f (run 1 l a + 1) (by omega)
        simp only [List.length_cons]
        omega
      · simp
end Go.Proofs.Ytdhjgflkincapaa
