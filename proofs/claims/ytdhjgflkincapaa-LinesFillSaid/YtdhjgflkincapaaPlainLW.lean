/- Lines of items: what a greater width changes, on plain data. Nothing of the program. -/
import Derived.Test.YtdhjgflkincapaaPlainLO
namespace Go.Proofs.Ytdhjgflkincapaa
set_option linter.unusedVariables false

/-- a line that is as long as can be, by a width -/
def LOk (l : List It) (W : Int) (x : Ln) : Prop :=
  (isK l x.fr 2 = true ∧ x.en = x.fr) ∨
  (x.fr < x.en ∧ (∀ j, x.fr ≤ j → j < x.en → isK l j 2 = false) ∧ solidAt l (x.en - 1) ∧ Ends l x.en ∧ (sm l x.fr x.en ≤ W ∨ x.en = cl l x.fr) ∧ Stops l W x.fr x.en)
/-- lines from a place on -/
def Rn (l : List It) (W : Int) : Nat → List Ln → Prop
  | p, [] => run 1 l p = l.length
  | p, x :: r => (x.fr = run 1 l p ∧ x.fr < l.length ∧ x.en ≤ l.length ∧ x.wd = sm l x.fr x.en) ∧ LOk l W x ∧ Rn l W (endL l (run 1 l x.en)) r
theorem rn_lines (l : List It) (hk : ∀ x ∈ l, 0 ≤ x.kd ∧ x.kd ≤ 3) (W : Int) (G : Nat) (hG : l.length < G + 1) : ∀ (f p : Nat), l.length < f + p → p ≤ l.length → Rn l W p (linesF l W (G + 1) f p)
  | 0, p, h1, h2 => by omega
  | f + 1, p, h1, h2 => by
    have hb1 := le_run 1 l p
    have hb2 := run_le 1 h2
    have hnb := run_stop 1 l p
    rw [linesF]
    obtain ⟨b, hb⟩ : ∃ b, run 1 l p = b := ⟨_, rfl⟩
    rw [hb] at hb1 hb2 hnb ⊢
    have hg := grow_to l W b (G + 1) b 0 b (Nat.le_refl _) hb2
    have hgi := grow_in l W b (G + 1) b 0 b (Nat.le_refl _) hb2 (fun j h5 h6 => by omega) (fun h5 => by omega)
    have hgw := grow_wd l W b (G + 1) b 0 b (sm_self l b).symm
    by_cases hlt : b < (grow l W b (G + 1) b 0 b).1
    · rw [if_pos hlt]
      have hc : b < cl l b := by
        rcases Nat.lt_or_ge b (cl l b) with h5 | h5
        · exact h5
        · rw [grow, if_neg (by omega)] at hlt
          exact absurd hlt (Nat.lt_irrefl _)
      have hgr : grow l W b (G + 1) b 0 b = grow l W b G (cl l b) (sm l b (cl l b)) (run 1 l (cl l b)) := by rw [grow, if_pos hc, if_pos (by simp)]
      have hl := le_run 1 l (cl l b)
      obtain ⟨i1, i2, i3⟩ := grow_on l W b G (cl l b) (sm l b (cl l b)) (run 1 l (cl l b)) (by omega) (run_le 1 (cl_le hb2)) rfl hc (cl_ends hc)
      rw [← hgr] at i1 i2 i3
      have hc1 := le_run 1 l (grow l W b (G + 1) b 0 b).1
      have hc2 := run_le 1 hg.2
      have hel := endL_le hc2
      refine ⟨⟨hb.symm, by show b < l.length; omega, hg.2, hgw⟩, .inr ⟨hlt, hgi.1, hgi.2 hlt, i3, ?_, i2⟩, ?_⟩
      · rcases i1 with ⟨e, _⟩ | e
        · exact .inr e
        · rw [hgw] at e; exact .inl e
      · show Rn l W (endL l (run 1 l (grow l W b (G + 1) b 0 b).1)) _
        exact rn_lines l hk W G hG f _ (by omega) hel.2
    · rw [if_neg hlt]
      by_cases h2' : isK l b 2 = true
      · rw [if_pos h2']
        have hbl := isK_lt h2'
        have hr : run 1 l b = b := run_no hnb
        have he : endL l (run 1 l b) = b + 1 := by rw [hr]; unfold endL; rw [if_pos h2']
        refine ⟨⟨hb.symm, hbl, hb2, (sm_self l b).symm⟩, .inl ⟨h2', rfl⟩, ?_⟩
        show Rn l W (endL l (run 1 l b)) _
        rw [he]
        exact rn_lines l hk W G hG f _ (by omega) (by omega)
      · rw [if_neg h2']
        show run 1 l p = l.length
        rw [hb]
        rcases Nat.lt_or_ge b l.length with h5 | h5
        · rcases kind_cases hk b h5 with h6 | h6 | h6 | h6
          · exact absurd (grow_first G hb2 (.inl h6)) hlt
          · rw [hnb] at h6; cases h6
          · exact absurd h6 h2'
          · exact absurd (grow_first G hb2 (.inr h6)) hlt
        · omega
theorem rn_all (l : List It) (hk : ∀ x ∈ l, 0 ≤ x.kd ∧ x.kd ≤ 3) (W : Int) : Rn l W 0 (lines l W) :=
  rn_lines l hk W l.length (by omega) (l.length + 1) 0 (by omega) (Nat.zero_le _)

/-! ### Sums of items none of which is below 0 -/
def Pos (l : List It) : Prop := ∀ x ∈ l, 0 ≤ x.wd
theorem sm_grow {l : List It} (h : Pos l) (a : Nat) : ∀ n b : Nat, a ≤ b → b + n ≤ l.length → sm l a b ≤ sm l a (b + n)
  | 0, b, h1, h2 => Int.le_refl _
  | n + 1, b, h1, h2 => by
    have i := sm_grow h a n b h1 (by omega)
    have hx := h l[b + n] (List.getElem_mem _)
    rw [show b + (n + 1) = b + n + 1 from rfl, sm_succ l a (b + n) (by omega) (by omega)]
    omega
theorem sm_head (l : List It) (a : Nat) (ha : a < l.length) : ∀ n : Nat, a + 1 + n ≤ l.length → sm l a (a + 1 + n) = l[a].wd + sm l (a + 1) (a + 1 + n)
  | 0, h => by
    simp only [Nat.add_zero]
    rw [sm_self, sm_succ l a a (Nat.le_refl _) ha, sm_self]
    omega
  | n + 1, h => by
    have ih := sm_head l a ha n (by omega)
    simp only [← Nat.add_assoc]
    rw [sm_succ l a (a + 1 + n) (by omega) (by omega), sm_succ l (a + 1) (a + 1 + n) (by omega) (by omega), ih]
    omega
theorem sm_less {l : List It} (h : Pos l) : ∀ n a b : Nat, a + n ≤ b → b ≤ l.length → sm l (a + n) b ≤ sm l a b
  | 0, a, b, h1, h2 => Int.le_refl _
  | n + 1, a, b, h1, h2 => by
    have i := sm_less h n (a + 1) b (by omega) h2
    have hx := h (l[a]'(by omega)) (List.getElem_mem _)
    have e := sm_head l a (by omega) (b - (a + 1)) (by omega)
    rw [show a + 1 + (b - (a + 1)) = b from by omega] at e
    rw [show a + (n + 1) = a + 1 + n from by omega]
    omega
theorem sm_sub {l : List It} (h : Pos l) {a b c d : Nat} (h1 : a ≤ b) (h2 : b ≤ c) (h3 : c ≤ d) (h4 : d ≤ l.length) : sm l b c ≤ sm l a d := by
  have e1 := sm_less h (b - a) a c (by omega) (by omega)
  have e2 := sm_grow h a (d - c) c (by omega) (by omega)
  rw [show a + (b - a) = b from by omega] at e1
  rw [show c + (d - c) = d from by omega] at e2
  omega

/-! ### A greater width -/
theorem run_mono (l : List It) {a b : Nat} (h : a ≤ b) : run 1 l a ≤ run 1 l b := by
  rcases Nat.lt_or_ge (run 1 l a) b with h1 | h1
  · have := le_run 1 l b; omega
  · have hb : isK l (run 1 l a) 1 = false := run_stop 1 l a
    rcases Nat.lt_or_ge (run 1 l b) (run 1 l a) with h2 | h2
    · have h3 := run_all 1 l a (run 1 l b) (by have := le_run 1 l b; omega) h2
      rw [run_stop] at h3; cases h3
    · exact h2
theorem endL_mono (l : List It) {a b : Nat} (h : a ≤ b) : endL l a ≤ endL l b := by
  rcases Nat.lt_or_ge a b with h1 | h1
  · unfold endL; split <;> split <;> omega
  · obtain rfl : a = b := by omega
    exact Nat.le_refl _
/-- in a line, behind an end of a cluster, the next cluster begins -/
theorem next_in {l : List It} (hk : ∀ x ∈ l, 0 ≤ x.kd ∧ x.kd ≤ 3) {fr en e : Nat} (h1 : fr ≤ e) (h2 : e < en) (h3 : en ≤ l.length) (h4 : ∀ j, fr ≤ j → j < en → isK l j 2 = false) (h5 : solidAt l (en - 1)) :
    run 1 l e < en ∧ run 1 l e < cl l (run 1 l e) := by
  have hs : run 1 l e < en := by
    rcases Nat.lt_or_ge (run 1 l e) en with h | h
    · exact h
    · have := run_all 1 l e (en - 1) (by omega) (by omega)
      rw [solid_not h5 (by decide) (by decide)] at this
      cases this
  refine ⟨hs, ?_⟩
  have hl := le_run 1 l e
  rcases kind_cases hk (run 1 l e) (by omega) with h6 | h6 | h6 | h6
  · exact cl_more (.inl h6)
  · rw [run_stop] at h6; cases h6
  · rw [h4 (run 1 l e) (by omega) hs] at h6; cases h6
  · exact cl_more (.inr h6)
theorem cl_before {l : List It} {s en : Nat} (h1 : s < en) (h2 : Ends l en) : cl l s ≤ en := by
  rcases Nat.lt_or_ge en (cl l s) with h | h
  · unfold cl at h
    split at h
    · omega
    · exact absurd ⟨run_all 0 l s en (by omega) h, run_all 0 l s (en - 1) (by omega) (by omega)⟩ h2
  · exact h
theorem en_le {l : List It} (hk : ∀ x ∈ l, 0 ≤ x.kd ∧ x.kd ≤ 3) (hp : Pos l) {W M : Int} (hWM : W ≤ M) {x y : Ln} (hx : LOk l W x) (hy : LOk l M y) (h1 : x.fr ≤ y.fr) (h2 : x.en ≤ l.length) (h3 : y.en ≤ l.length) : x.en ≤ y.en := by
  have hyy : y.fr ≤ y.en := by
    rcases hy with ⟨_, h⟩ | ⟨h, _⟩ <;> omega
  rcases hx with ⟨_, h⟩ | ⟨a1, a2, a3, a4, a5, a6⟩
  · omega
  refine Nat.le_of_not_lt fun h => ?_
  rcases hy with ⟨b1, b2⟩ | ⟨b1, b2, b3, b4, b5, b6⟩
  · rw [a2 y.fr h1 (by omega)] at b1; cases b1
  obtain ⟨n1, n2⟩ := next_in hk (fr := x.fr) (e := y.en) (by omega) h h2 a2 a3
  have hb := b6 n2
  have hs := le_run 1 l y.en
  have hcb := cl_before n1 a4
  rcases a5 with a5 | a5
  · have := sm_sub hp (a := x.fr) (b := y.fr) (c := cl l (run 1 l y.en)) (d := x.en) h1 (by omega) hcb h2
    omega
  · refine b4 ?_
    unfold cl at a5
    split at a5
    · omega
    · exact ⟨run_all 0 l x.fr y.en (by omega) (by omega), run_all 0 l x.fr (y.en - 1) (by omega) (by omega)⟩
/-- a greater width needs no more lines, and none ends sooner -/
theorem rn_wider {l : List It} (hk : ∀ x ∈ l, 0 ≤ x.kd ∧ x.kd ≤ 3) (hp : Pos l) {W M : Int} (hWM : W ≤ M) : ∀ (A B : List Ln) (p q : Nat), Rn l W p A → Rn l M q B → p ≤ q → B.length ≤ A.length ∧ ∀ i (h1 : i < A.length) (h2 : i < B.length), A[i].en ≤ B[i].en
  | A, [], p, q, _, _, _ => ⟨Nat.zero_le _, fun i h1 h2 => by simp at h2⟩
  | [], y :: B, p, q, hA, hB, hpq => by
    obtain ⟨⟨c1, c2, _, _⟩, _, _⟩ := hB
    have hA' : run 1 l p = l.length := hA
    have := run_mono l hpq
    omega
  | x :: A, y :: B, p, q, hA, hB, hpq => by
    obtain ⟨⟨a1, a2, a3, _⟩, a5, a6⟩ := hA
    obtain ⟨⟨c1, c2, c3, _⟩, c5, c6⟩ := hB
    have hm := run_mono l hpq
    have he := en_le hk hp hWM a5 c5 (by omega) a3 c3
    obtain ⟨i1, i2⟩ := rn_wider hk hp hWM A B _ _ a6 c6 (endL_mono l (run_mono l he))
    refine ⟨by simp only [List.length_cons]; omega, fun i h1 h2 => ?_⟩
    cases i with
    | zero => exact he
    | succ i => exact i2 i _ _

/-! ### All the room there is -/
def Room (l : List It) (M : Int) : Prop := ∀ a b, a ≤ b → b ≤ l.length → sm l a b ≤ M
def hds (l : List It) : Nat := l.countP fun x => x.kd == 2
theorem hds_drop (l : List It) (p h : Nat) (hph : p ≤ h) (hh : isK l h 2 = true) : hds (l.drop (h + 1)) + 1 ≤ hds (l.drop p) := by
  have hl := isK_lt hh
  rw [isK_some l h 2 hl] at hh
  have e : hds (l.drop h) = hds (l.drop (h + 1)) + 1 := by
    unfold hds
    rw [List.drop_eq_getElem_cons hl, List.countP_cons, if_pos hh]
  have e2 : hds (l.drop h) ≤ hds (l.drop p) := by
    rw [show h = p + (h - p) from by omega, ← List.drop_drop]
    exact (List.drop_sublist _ _).countP_le
  omega
theorem room_ends {l : List It} (hk : ∀ x ∈ l, 0 ≤ x.kd ∧ x.kd ≤ 3) {M : Int} (hr : Room l M) {x : Ln} (hx : LOk l M x) (h1 : x.fr < l.length) (h2 : x.en ≤ l.length) : run 1 l x.en = l.length ∨ isK l (run 1 l x.en) 2 = true := by
  rcases hx with ⟨a1, a2⟩ | ⟨_, _, _, _, _, a6⟩
  · right
    rw [a2, run_no (isK_two a1 (by decide))]
    exact a1
  · have hrl := run_le 1 h2
    have hle := le_run 1 l x.en
    rcases Nat.lt_or_ge (run 1 l x.en) l.length with h3 | h3
    · right
      have hno : ¬ run 1 l x.en < cl l (run 1 l x.en) := fun hc => by
        have := a6 hc
        have := hr x.fr (cl l (run 1 l x.en)) (by omega) (cl_le hrl)
        omega
      rcases kind_cases hk _ h3 with h6 | h6 | h6 | h6
      · exact absurd (cl_more (.inl h6)) hno
      · rw [run_stop] at h6; cases h6
      · exact h6
      · exact absurd (cl_more (.inr h6)) hno
    · left; omega
theorem rn_ends {l : List It} (hk : ∀ x ∈ l, 0 ≤ x.kd ∧ x.kd ≤ 3) {M : Int} (hr : Room l M) : ∀ (C : List Ln) (p : Nat), Rn l M p C → C.length ≤ hds (l.drop p) + 1
  | [], p, _ => Nat.zero_le _
  | x :: C, p, h => by
    obtain ⟨⟨a1, a2, a3, _⟩, a5, a6⟩ := h
    have hpr := le_run 1 l p
    have hxe : x.fr ≤ x.en := by rcases a5 with ⟨_, h⟩ | ⟨h, _⟩ <;> omega
    have hle := le_run 1 l x.en
    rcases room_ends hk hr a5 a2 a3 with h | h
    · rw [h] at a6
      have he : endL l l.length = l.length := by unfold endL; rw [isK_none l _ 2 (Nat.le_refl _), if_neg Bool.noConfusion]
      rw [he] at a6
      cases C with
      | nil => simp
      | cons y C =>
        obtain ⟨⟨b1, b2, _⟩, _⟩ := a6
        rw [run_end 1 (Nat.le_refl _)] at b1
        omega
    · have he : endL l (run 1 l x.en) = run 1 l x.en + 1 := by unfold endL; rw [if_pos h]
      rw [he] at a6
      have i := rn_ends hk hr C _ a6
      have := hds_drop l p (run 1 l x.en) (by omega) h
      simp only [List.length_cons]
      omega
theorem good_has {l : List It} : ∀ (C : List Ln) (a j : Nat), Good l a C → a ≤ j → j < l.length → solidAt l j → ∃ y ∈ C, y.fr ≤ j ∧ j < y.en
  | [], a, j, h, h1, h2, h3 => absurd h3 (h j h1 h2)
  | y :: C, a, j, h, h1, h2, h3 => by
    obtain ⟨_, g5, _, _, _, _, g10⟩ := h
    rcases Nat.lt_or_ge j y.fr with h4 | h4
    · exact absurd h3 (g5 j h1 h4)
    · rcases Nat.lt_or_ge j y.en with h5 | h5
      · exact ⟨y, List.mem_cons_self, h4, h5⟩
      · obtain ⟨z, hz, hz2⟩ := good_has C y.en j g10 h5 h2 h3
        exact ⟨z, List.mem_cons_of_mem _ hz, hz2⟩
theorem rn_mem {l : List It} {W : Int} : ∀ (A : List Ln) (p : Nat), Rn l W p A → ∀ x ∈ A, x.fr < l.length ∧ x.en ≤ l.length ∧ x.wd = sm l x.fr x.en ∧ LOk l W x
  | [], p, h, x, hx => by simp at hx
  | y :: A, p, h, x, hx => by
    obtain ⟨⟨a1, a2, a3, a4⟩, a5, a6⟩ := h
    rcases List.mem_cons.1 hx with rfl | hx
    · exact ⟨a2, a3, a4, a5⟩
    · exact rn_mem A _ a6 x hx
theorem solid_first {l : List It} {W : Int} {x : Ln} (hk : ∀ x ∈ l, 0 ≤ x.kd ∧ x.kd ≤ 3) {p : Nat} (h : x.fr = run 1 l p) (h2 : x.fr < x.en) (h3 : ∀ j, x.fr ≤ j → j < x.en → isK l j 2 = false) (h4 : x.fr < l.length) : solidAt l x.fr := by
  rcases kind_cases hk _ h4 with h6 | h6 | h6 | h6
  · exact .inl h6
  · rw [h, run_stop] at h6; cases h6
  · rw [h3 _ (Nat.le_refl _) h2] at h6; cases h6
  · exact .inr h6
theorem rn_first {l : List It} (hk : ∀ x ∈ l, 0 ≤ x.kd ∧ x.kd ≤ 3) {W : Int} : ∀ (A : List Ln) (p : Nat), Rn l W p A → ∀ x ∈ A, x.fr < x.en → solidAt l x.fr
  | [], p, h, x, hx, _ => by simp at hx
  | y :: A, p, h, x, hx, hlt => by
    obtain ⟨⟨a1, a2, a3, a4⟩, a5, a6⟩ := h
    rcases List.mem_cons.1 hx with rfl | hx
    · rcases a5 with ⟨_, h⟩ | ⟨_, h3, _⟩
      · omega
      · exact solid_first hk (W := W) a1 hlt h3 a2
    · exact rn_first hk A _ a6 x hx hlt
/-- each line lies in one of those that have all the room there is -/
theorem rn_wide {l : List It} (hk : ∀ x ∈ l, 0 ≤ x.kd ∧ x.kd ≤ 3) (hp : Pos l) {W M : Int} (hr : Room l M) {A C : List Ln} (hA : Rn l W 0 A) (hC : Rn l M 0 C) (hG : Good l 0 C) (x : Ln) (hx : x ∈ A) : x.wd ≤ 0 ∨ ∃ y ∈ C, x.wd ≤ y.wd := by
  obtain ⟨a2, a3, a4, a5⟩ := rn_mem A 0 hA x hx
  have hfs := rn_first hk A 0 hA x hx
  rcases a5 with ⟨_, h⟩ | ⟨b1, b2, b3, b4, _, _⟩
  · left; rw [a4, h, sm_self]; exact Int.le_refl _
  right
  obtain ⟨y, hy, y1, y2⟩ := good_has C 0 x.fr hG (Nat.zero_le _) a2 (hfs b1)
  refine ⟨y, hy, ?_⟩
  obtain ⟨c2, c3, c4, c5⟩ := rn_mem C 0 hC y hy
  have hxy : x.en ≤ y.en := by
    refine Nat.le_of_not_lt fun h => ?_
    obtain ⟨n1, n2⟩ := next_in hk (fr := x.fr) (e := y.en) (by omega) h a3 b2 b3
    have hs := le_run 1 l y.en
    rcases c5 with ⟨_, h⟩ | ⟨_, _, _, _, _, e6⟩
    · omega
    · have := e6 n2
      have := hr y.fr (cl l (run 1 l y.en)) (by omega) (cl_le (by omega))
      omega
  rw [a4, c4]
  exact sm_sub hp y1 (by omega) hxy c3
theorem widF_ge : ∀ (C : List Ln) (m : Int), m ≤ C.foldl (fun n x => max n x.wd) m ∧ ∀ y ∈ C, y.wd ≤ C.foldl (fun n x => max n x.wd) m
  | [], m => ⟨Int.le_refl _, fun y h => by simp at h⟩
  | z :: C, m => by
    obtain ⟨i1, i2⟩ := widF_ge C (max m z.wd)
    simp only [List.foldl_cons]
    refine ⟨by omega, fun y h => ?_⟩
    rcases List.mem_cons.1 h with rfl | h
    · omega
    · exact i2 y h
theorem widF_le : ∀ (A : List Ln) (m K : Int), m ≤ K → (∀ x ∈ A, x.wd ≤ K) → A.foldl (fun n x => max n x.wd) m ≤ K
  | [], m, K, h, _ => h
  | z :: A, m, K, h, h2 => by
    simp only [List.foldl_cons]
    have := h2 z List.mem_cons_self
    exact widF_le A _ K (by omega) fun x hx => h2 x (List.mem_cons_of_mem _ hx)
theorem room_near {l : List It} (hl : l.length ≤ 500) (hw : ∀ x ∈ l, -1073741824 ≤ x.wd ∧ x.wd ≤ 1073741824) : Room l 1099511627776 := fun a b h1 h2 => by
  have := sm_near hw a (b - a) (by omega)
  rw [show a + (b - a) = b from by omega] at this
  omega
/-- what LinesWider asks -/
theorem lines_wider (l : List It) (hk : ∀ x ∈ l, 0 ≤ x.kd ∧ x.kd ≤ 3) (hp : Pos l) (hl : l.length ≤ 500) (hw : ∀ x ∈ l, -1073741824 ≤ x.wd ∧ x.wd ≤ 1073741824) (W M : Int) (hWM : W ≤ M) (hM : M ≤ 1099511627776) :
    (lines l M).length ≤ (lines l W).length ∧ (lines l 1099511627776).length ≤ (lines l M).length ∧ (lines l 1099511627776).length ≤ hds l + 1 ∧
    (∀ (i : Nat) (x y : Ln), (lines l W)[i]? = some x → (lines l M)[i]? = some y → x.en ≤ y.en) ∧
    (lines l W).foldl (fun n x => max n x.wd) 0 ≤ (lines l 1099511627776).foldl (fun n x => max n x.wd) 0 := by
  have hr := room_near hl hw
  have rW := rn_all l hk W
  have rM := rn_all l hk M
  have rT := rn_all l hk 1099511627776
  obtain ⟨i1, i2⟩ := rn_wider hk hp hWM _ _ 0 0 rW rM (Nat.le_refl _)
  obtain ⟨i3, _⟩ := rn_wider hk hp hM _ _ 0 0 rM rT (Nat.le_refl _)
  have i2' : ∀ (i : Nat) (x y : Ln), (lines l W)[i]? = some x → (lines l M)[i]? = some y → x.en ≤ y.en := fun i x y h1 h2 => by
    obtain ⟨h3, rfl⟩ := List.getElem?_eq_some_iff.1 h1
    obtain ⟨h4, rfl⟩ := List.getElem?_eq_some_iff.1 h2
    exact i2 i h3 h4
  refine ⟨i1, i3, ?_, i2', widF_le _ _ _ (widF_ge _ _).1 fun x hx => ?_⟩
  · have := rn_ends hk hr _ 0 rT
    rwa [List.drop_zero] at this
  · rcases rn_wide hk hp hr rW rT (good_all l hk _) x hx with h | ⟨y, hy, h⟩
    · have := (widF_ge (lines l 1099511627776) 0).1
      omega
    · have := (widF_ge (lines l 1099511627776) 0).2 y hy
      omega
end Go.Proofs.Ytdhjgflkincapaa
