/- The laws of chapter 14, on plain data. Nothing of the program. -/
import Derived.Test.YtbcojkfndegjmaaPlainK
namespace Go.Proofs.Ytbcojkfndegjmaa
set_option linter.unusedVariables false

theorem mj_comm (a b : Mg) : mj a b = mj b a := by simp only [mj, Mg.mk.injEq]; omega
theorem mj_assoc (a b c : Mg) : mj (mj a b) c = mj a (mj b c) := by simp only [mj, Mg.mk.injEq]; omega
theorem mj_z {M : Int} {a : Mg} (h : inM M a) : mj mz a = a := by
  obtain ⟨u, d⟩ := a
  obtain ⟨⟨a1, a2⟩, a3, a4⟩ := h
  simp only at a1 a2 a3 a4
  simp only [mj, mz, Mg.mk.injEq]; omega
theorem mj_z2 {M : Int} {a : Mg} (h : inM M a) : mj a mz = a := by rw [mj_comm, mj_z h]
theorem mj_swap (w t b W : Mg) : mj (mj (mj w t) b) W = mj w (mj (mj W t) b) := by simp only [mj, Mg.mk.injEq]; omega

/-! ### A closed box -/
theorem out_closed (l : List Kd) : ∀ k, k ≤ l.length → (runK (l.take k) false).out = false ∧ (runK (l.take k) false).tp = mz
  | 0, _ => by simp [runK, st0]
  | k + 1, h => by
    obtain ⟨h1, h2⟩ := out_closed l k (by omega)
    rw [run_step l false k (by omega)]
    unfold put
    split
    · exact ⟨h1, h2⟩
    · rw [h1]; exact ⟨rfl, h2⟩
theorem closed (l : List Kd) : (runK l false).out = false ∧ (runK l false).tp = mz := by
  have := out_closed l l.length (Nat.le_refl _)
  rwa [List.take_length] at this
theorem posK_closed (l : List Kd) (i : Nat) (hi : i ≤ l.length) (k : Kd) : posK (runK (l.take i) false) k = (runK (l.take i) false).y + (mj (runK (l.take i) false).w k.tp).v := by
  unfold posK; rw [(out_closed l i hi).1]; rfl
theorem solid_step (l : List Kd) (a : Bool) (i : Nat) (hi : i < l.length) (hs : l[i].th = false) : (runK (l.take (i + 1)) a).y = posK (runK (l.take i) a) l[i] + l[i].ht ∧ (runK (l.take (i + 1)) a).w = l[i].bt ∧ (runK (l.take (i + 1)) a).out = false ∧
    (runK (l.take (i + 1)) a).tp = if (runK (l.take i) a).out = true then mj (runK (l.take i) a).w l[i].tp else (runK (l.take i) a).tp := by
  rw [run_step l a i hi]
  unfold put
  rw [hs]
  exact ⟨rfl, rfl, rfl, rfl⟩
theorem through_step (l : List Kd) (a : Bool) (i : Nat) (hi : i < l.length) (hs : l[i].th = true) : (runK (l.take (i + 1)) a).y = (runK (l.take i) a).y ∧ (runK (l.take (i + 1)) a).w = mj (mj (runK (l.take i) a).w l[i].tp) l[i].bt ∧
    (runK (l.take (i + 1)) a).out = (runK (l.take i) a).out ∧ (runK (l.take (i + 1)) a).tp = (runK (l.take i) a).tp := by
  rw [run_step l a i hi]
  unfold put
  rw [hs]
  exact ⟨rfl, rfl, rfl, rfl⟩

/-! ### Turned upside down -/
def sw (k : Kd) : Kd := ⟨k.bt, k.tp, k.ht, false⟩
def turn (l : List Kd) : List Kd := (l.map sw).reverse
theorem turn_length (l : List Kd) : (turn l).length = l.length := by simp [turn]
theorem turn_get (l : List Kd) (j : Nat) (hj : j < l.length) : (turn l)[j]'(by rw [turn_length]; exact hj) = sw (l[l.length - 1 - j]'(by omega)) := by
  simp only [turn, List.getElem_reverse, List.getElem_map, List.length_map]
/-- where the kids of a closed box stand -/
def posC (l : List Kd) (i : Nat) (hi : i < l.length) : Int := posK (runK (l.take i) false) l[i]
theorem posC_next (l : List Kd) (hs : ∀ k ∈ l, k.th = false) (i : Nat) (hi : i + 1 < l.length) : posC l (i + 1) hi = posC l i (by omega) + l[i].ht + (mj l[i].bt l[i + 1].tp).v := by
  obtain ⟨h1, h2, h3, _⟩ := solid_step l false i (by omega) (hs _ (List.getElem_mem _))
  show posK (runK (l.take (i + 1)) false) l[i + 1] = _
  unfold posK
  rw [h3, h1, h2]
  rfl
theorem posC_zero (l : List Kd) (hl : 0 < l.length) {M : Int} (hM : inM M l[0].tp) : posC l 0 hl = l[0].tp.v := by
  show posK (runK [] false) l[0] = _
  unfold posK
  simp only [runK, List.foldl_nil, st0, Bool.false_eq_true, if_false, mj_z hM, Int.zero_add]
def totC (l : List Kd) : Int := (runK l false).y + (runK l false).w.v
theorem totC_eq (l : List Kd) (hs : ∀ k ∈ l, k.th = false) (hl : 0 < l.length) : totC l = posC l (l.length - 1) (by omega) + (l[l.length - 1]'(by omega)).ht + (l[l.length - 1]'(by omega)).bt.v := by
  obtain ⟨h1, h2, _, _⟩ := solid_step l false (l.length - 1) (by omega) (hs _ (List.getElem_mem _))
  have e : l.length - 1 + 1 = l.length := by omega
  rw [e, List.take_length] at h1 h2
  unfold totC
  rw [h1, h2]
  rfl
theorem turn_solid (l : List Kd) : ∀ k ∈ turn l, k.th = false := by
  intro k hk
  simp only [turn, List.mem_reverse, List.mem_map] at hk
  obtain ⟨x, _, rfl⟩ := hk
  rfl
theorem turn_at (l : List Kd) (hs : ∀ k ∈ l, k.th = false) {M : Int} (hM : ∀ k ∈ l, gdK M k) : ∀ (j : Nat) (hj : j < l.length),
    posC (turn l) j (by rw [turn_length]; exact hj) + posC l (l.length - 1 - j) (by omega) + (l[l.length - 1 - j]'(by omega)).ht = totC l
  | 0, hj => by
    have h0 : (turn l)[0]'(by rw [turn_length]; exact hj) = sw (l[l.length - 1 - 0]'(by omega)) := turn_get l 0 hj
    have hz := posC_zero (turn l) (by rw [turn_length]; exact hj) (M := M) (by rw [h0]; exact (hM _ (List.getElem_mem _)).2.2)
    rw [hz, h0, totC_eq l hs hj]
    simp only [Nat.sub_zero, sw]
    omega
  | j + 1, hj => by
    have ih := turn_at l hs hM j (by omega)
    have hn := posC_next (turn l) (turn_solid l) j (by rw [turn_length]; exact hj)
    have g1 := turn_get l j (by omega)
    have g2 := turn_get l (j + 1) hj
    have hn2 := posC_next l hs (l.length - 1 - (j + 1)) (by omega)
    have e : l.length - 1 - (j + 1) + 1 = l.length - 1 - j := by omega
    simp only [e] at hn2
    rw [g1, g2] at hn
    simp only [sw] at hn
    rw [mj_comm] at hn
    omega
theorem turn_tot (l : List Kd) (hs : ∀ k ∈ l, k.th = false) {M : Int} (hM : ∀ k ∈ l, gdK M k) : totC (turn l) = totC l := by
  rcases Nat.eq_zero_or_pos l.length with h0 | h0
  · obtain rfl : l = [] := List.eq_nil_of_length_eq_zero h0
    rfl
  · have h1 := turn_at l hs hM (l.length - 1) (by omega)
    have h2 := totC_eq (turn l) (turn_solid l) (by rw [turn_length]; exact h0)
    simp only [turn_length] at h2
    have g := turn_get l (l.length - 1) (by omega)
    rw [h2, g]
    have e : l.length - 1 - (l.length - 1) = 0 := by omega
    simp only [e] at h1 ⊢
    have hz := posC_zero l h0 (M := M) (hM _ (List.getElem_mem _)).2.1
    simp only [sw]
    omega

/-! ### A box that is open above -/
def thru (l : List Kd) (f : Nat) : Prop := ∀ i (hi : i < l.length), i < f → l[i].th = true
theorem open_before (l : List Kd) (f : Nat) (hf : thru l f) : ∀ i, i ≤ f → i ≤ l.length → (runK (l.take i) true).out = true ∧ (runK (l.take i) true).y = 0 ∧ (runK (l.take i) true).w = (runK (l.take i) false).w ∧ (runK (l.take i) false).y = 0
  | 0, _, _ => by simp [runK, st0]
  | i + 1, h, hi => by
    obtain ⟨h1, h2, h3, h4⟩ := open_before l f hf i (by omega) (by omega)
    obtain ⟨a1, a2, a3, _⟩ := through_step l true i (by omega) (hf i (by omega) (by omega))
    obtain ⟨b1, b2, b3, _⟩ := through_step l false i (by omega) (hf i (by omega) (by omega))
    exact ⟨a3.trans h1, a1.trans h2, by rw [a2, b2, h3], b1.trans h4⟩
theorem open_behind (l : List Kd) (f : Nat) (hfl : f < l.length) (hf : thru l f) (hs : l[f].th = false) : ∀ i, f < i → i ≤ l.length →
    (runK (l.take i) true).out = false ∧ (runK (l.take i) true).tp = mj (runK (l.take f) false).w l[f].tp ∧ (runK (l.take i) true).w = (runK (l.take i) false).w ∧
      (runK (l.take i) false).y = (runK (l.take i) true).y + (mj (runK (l.take f) false).w l[f].tp).v
  | 0, h, _ => by omega
  | i + 1, h, hi => by
    rcases Nat.lt_or_ge f i with h1 | h1
    · obtain ⟨o1, o2, o3, o4⟩ := open_behind l f hfl hf hs i h1 (by omega)
      have oc := (out_closed l i (by omega)).1
      have p1 : posK (runK (l.take i) false) l[i] = posK (runK (l.take i) true) l[i] + (mj (runK (l.take f) false).w l[f].tp).v := by
        unfold posK
        rw [oc, o1, o3, o4]
        simp only [Bool.false_eq_true, if_false]
        omega
      cases hth : l[i].th with
      | true =>
        obtain ⟨a1, a2, a3, a4⟩ := through_step l true i (by omega) hth
        obtain ⟨b1, b2, b3, b4⟩ := through_step l false i (by omega) hth
        exact ⟨a3.trans o1, a4.trans o2, by rw [a2, b2, o3], by rw [a1, b1]; exact o4⟩
      | false =>
        obtain ⟨a1, a2, a3, a4⟩ := solid_step l true i (by omega) hth
        obtain ⟨b1, b2, b3, b4⟩ := solid_step l false i (by omega) hth
        refine ⟨a3, by rw [a4, o1]; exact o2, by rw [a2, b2], ?_⟩
        rw [a1, b1]; omega
    · obtain rfl : f = i := by omega
      obtain ⟨o1, o2, o3, o4⟩ := open_before l f hf f (Nat.le_refl _) (by omega)
      have oc := (out_closed l f (by omega)).1
      obtain ⟨a1, a2, a3, a4⟩ := solid_step l true f (by omega) hs
      obtain ⟨b1, b2, b3, b4⟩ := solid_step l false f (by omega) hs
      refine ⟨a3, by rw [a4, o1, o3]; rfl, by rw [a2, b2], ?_⟩
      rw [a1, b1]
      unfold posK
      rw [oc, o1, o2, o4]
      simp only [Bool.false_eq_true, if_false, if_true]
      omega
/-- the box's Top, where the first one that is not through stands -/
def topO (l : List Kd) (f : Nat) (hfl : f < l.length) : Mg := mj (runK (l.take f) false).w l[f].tp
theorem open_at (l : List Kd) (f : Nat) (hfl : f < l.length) (hf : thru l f) (hs : l[f].th = false) (i : Nat) (hi : i < l.length) :
    (i < f → posK (runK (l.take i) true) l[i] = 0) ∧ (f ≤ i → posK (runK (l.take i) true) l[i] = posK (runK (l.take i) false) l[i] - (topO l f hfl).v) := by
  have oc := (out_closed l i (by omega)).1
  refine ⟨fun h => ?_, fun h => ?_⟩
  · obtain ⟨o1, o2, o3, o4⟩ := open_before l f hf i (by omega) (by omega)
    unfold posK; rw [o1, o2]; rfl
  · rcases Nat.lt_or_ge f i with h1 | h1
    · obtain ⟨o1, o2, o3, o4⟩ := open_behind l f hfl hf hs i h1 (by omega)
      unfold posK topO
      rw [oc, o1, o3, o4]
      simp only [Bool.false_eq_true, if_false]
      omega
    · obtain rfl : f = i := by omega
      obtain ⟨o1, o2, o3, o4⟩ := open_before l f hf f (Nat.le_refl _) (by omega)
      unfold posK topO
      rw [oc, o1, o2, o4]
      simp only [Bool.false_eq_true, if_false, if_true]
      omega
theorem open_end (l : List Kd) (f : Nat) (hfl : f < l.length) (hf : thru l f) (hs : l[f].th = false) : (runK l true).out = false ∧ (runK l true).tp = topO l f hfl ∧ posK (runK (l.take f) false) l[f] = (topO l f hfl).v := by
  obtain ⟨o1, o2, o3, o4⟩ := open_behind l f hfl hf hs l.length hfl (Nat.le_refl _)
  rw [List.take_length] at o1 o2
  obtain ⟨p1, p2, p3, p4⟩ := open_before l f hf f (Nat.le_refl _) (by omega)
  refine ⟨o1, o2, ?_⟩
  unfold posK topO
  rw [(out_closed l f (by omega)).1, p4]
  simp
/-- what the law gathers from the end on -/
def Gath (l : List Kd) (m : Nat) (W : Mg) : Prop := (runK l false).w = mj (runK (l.take (m + 1)) false).w W ∧ (runK l false).y = (runK (l.take (m + 1)) false).y
theorem gath_0 (l : List Kd) {M : Int} (hM : 0 ≤ M) (hg : ∀ k ∈ l, gdK M k) (hl : 0 < l.length) : Gath l (l.length - 1) mz := by
  have h := gdS_run hM l false hg l.length (Nat.le_refl _)
  unfold Gath
  rw [show l.length - 1 + 1 = l.length from by omega, List.take_length]
  rw [List.take_length] at h
  exact ⟨(mj_z2 h.1).symm, rfl⟩
theorem gath_step (l : List Kd) (m : Nat) (W : Mg) (hm : m + 1 < l.length) (h : Gath l (m + 1) W) (ht : l[m + 1].th = true) : Gath l m (mj (mj W l[m + 1].tp) l[m + 1].bt) := by
  obtain ⟨h1, h2⟩ := h
  obtain ⟨a1, a2, _, _⟩ := through_step l false (m + 1) hm ht
  exact ⟨by rw [h1, a2, mj_swap], by rw [h2, a1]⟩
theorem gath_end (l : List Kd) (m : Nat) (W : Mg) (hm : m < l.length) (h : Gath l m W) (ht : l[m].th = false) : (runK l false).w = mj W l[m].bt ∧ (runK l false).y = posK (runK (l.take m) false) l[m] + l[m].ht := by
  obtain ⟨h1, h2⟩ := h
  obtain ⟨a1, a2, _, _⟩ := solid_step l false m hm ht
  exact ⟨by rw [h1, a2, mj_comm], by rw [h2, a1]⟩

/-! ### Kids that are all through -/
def allM (l : List Kd) : Mg := l.foldl (fun a k => mj (mj a k.tp) k.bt) mz
theorem allM_snoc (l : List Kd) (k : Kd) : allM (l ++ [k]) = mj (mj (allM l) k.tp) k.bt := by simp [allM, List.foldl_append]
theorem all_through (l : List Kd) : ∀ k, k ≤ l.length → (runK (l.take k) true).out = (l.take k).all Kd.th ∧ ((l.take k).all Kd.th = true → (runK (l.take k) true).w = allM (l.take k) ∧ (runK (l.take k) false).w = allM (l.take k) ∧ (runK (l.take k) false).y = 0)
  | 0, _ => by simp [runK, st0, allM]
  | k + 1, h => by
    obtain ⟨h1, h2⟩ := all_through l k (by omega)
    have e : (l.take (k + 1)).all Kd.th = ((l.take k).all Kd.th && l[k].th) := by rw [take_snoc l k (by omega), List.all_append]; simp
    rw [e]
    cases hth : l[k].th with
    | true =>
      obtain ⟨a1, a2, a3, _⟩ := through_step l true k (by omega) hth
      obtain ⟨b1, b2, b3, _⟩ := through_step l false k (by omega) hth
      refine ⟨by rw [a3, h1, Bool.and_true], fun hh => ?_⟩
      rw [Bool.and_true] at hh
      obtain ⟨c1, c2, c3⟩ := h2 hh
      have ea : allM (l.take (k + 1)) = mj (mj (allM (l.take k)) l[k].tp) l[k].bt := by rw [take_snoc l k (by omega), allM_snoc]
      exact ⟨by rw [a2, c1, ea], by rw [b2, c2, ea], by rw [b1, c3]⟩
    | false =>
      obtain ⟨a1, a2, a3, _⟩ := solid_step l true k (by omega) hth
      exact ⟨by rw [a3, Bool.and_false], fun hh => by rw [Bool.and_false] at hh; cases hh⟩

/-! ### Kids behind a kid -/
def behO (k : Kd) : Kd := ⟨mz, k.bt, 0, false⟩
theorem beh (l : List Kd) (k : Kd) (more : List Kd) (hk : k.th = false) : ∀ i, i ≤ more.length →
    (runK (l ++ k :: more.take i) false).w = (runK (behO k :: more.take i) false).w ∧ (runK (l ++ k :: more.take i) false).y = (runK (behO k :: more.take i) false).y + (posK (runK l false) k + k.ht) ∧
      (runK (l ++ k :: more.take i) false).out = false ∧ (runK (behO k :: more.take i) false).out = false
  | 0, _ => by
    simp only [List.take_zero]
    rw [run_snoc]
    have e1 : put (runK l false) k = ⟨(runK l false).ps ++ [posK (runK l false) k], (runK l false).tp, posK (runK l false) k + k.ht, k.bt, false⟩ := by
      unfold put; rw [hk, (closed l).1]; rfl
    have e2 : runK [behO k] false = ⟨[0], mz, 0, k.bt, false⟩ := by
      simp [runK, put, st0, behO, posK, mj, mz, Mg.v]
    rw [e1, e2]
    simp
  | i + 1, h => by
    obtain ⟨h1, h2, h3, h4⟩ := beh l k more hk i (by omega)
    have ea : l ++ k :: more.take (i + 1) = (l ++ k :: more.take i) ++ [more[i]] := by rw [take_snoc more i (by omega)]; simp
    have eb : behO k :: more.take (i + 1) = (behO k :: more.take i) ++ [more[i]] := by rw [take_snoc more i (by omega)]; simp
    rw [ea, eb, run_snoc, run_snoc]
    generalize posK (runK l false) k + k.ht = E at h2 ⊢
    have hp : posK (runK (l ++ k :: more.take i) false) more[i] = posK (runK (behO k :: more.take i) false) more[i] + E := by
      unfold posK
      rw [h1, h2, h3, h4]
      simp only [Bool.false_eq_true, if_false]
      omega
    unfold put
    split
    · exact ⟨by rw [h1], h2, h3, h4⟩
    · refine ⟨rfl, ?_, rfl, rfl⟩
      simp only
      omega
theorem beh_at (l : List Kd) (k : Kd) (more : List Kd) (hk : k.th = false) (i : Nat) (hi : i < more.length) :
    ∃ P : Int, (runK (l ++ k :: more) false).ps[l.length + 1 + i]? = some (P + (posK (runK l false) k + k.ht)) ∧ (runK (behO k :: more) false).ps[1 + i]? = some P := by
  obtain ⟨h1, h2, h3, h4⟩ := beh l k more hk i (by omega)
  refine ⟨posK (runK (behO k :: more.take i) false) more[i], ?_, ?_⟩
  · have hlt : l.length + 1 + i < (l ++ k :: more).length := by simp; omega
    rw [run_get _ false _ hlt]
    have e1 : (l ++ k :: more).take (l.length + 1 + i) = l ++ k :: more.take i := by
      rw [show l.length + 1 + i = l.length + (1 + i) from by omega, List.take_append, List.take_of_length_le (by omega)]
      rw [show l.length + (1 + i) - l.length = i + 1 from by omega, List.take_succ_cons]
    have e2 : (l ++ k :: more)[l.length + 1 + i] = more[i] := by
      rw [List.getElem_append_right (by omega)]
      simp only [show l.length + 1 + i - l.length = i + 1 from by omega, List.getElem_cons_succ]
    rw [e1, e2]
    generalize posK (runK l false) k + k.ht = E at h2 ⊢
    congr 1
    unfold posK
    rw [h1, h2, h3, h4]
    simp only [Bool.false_eq_true, if_false]
    omega
  · have hlt : 1 + i < (behO k :: more).length := by simp; omega
    rw [run_get _ false _ hlt]
    have e1 : (behO k :: more).take (1 + i) = behO k :: more.take i := by rw [Nat.add_comm, List.take_succ_cons]
    have e2 : (behO k :: more)[1 + i] = more[i] := by simp only [Nat.add_comm 1 i, List.getElem_cons_succ]
    rw [e1, e2]
theorem beh_end (l : List Kd) (k : Kd) (more : List Kd) (hk : k.th = false) : (runK (l ++ k :: more) false).w = (runK (behO k :: more) false).w := by
  have := (beh l k more hk more.length (Nat.le_refl _)).1
  rwa [List.take_length] at this
theorem beh_k (l : List Kd) (k : Kd) (more : List Kd) : (runK (l ++ k :: more) false).ps[l.length]? = some (posK (runK l false) k) := by
  rw [run_get _ false _ (by simp)]
  have e1 : (l ++ k :: more).take l.length = l := by simp
  have e2 : (l ++ k :: more)[l.length]'(by simp) = k := by simp
  rw [e1, e2]
end Go.Proofs.Ytbcojkfndegjmaa
