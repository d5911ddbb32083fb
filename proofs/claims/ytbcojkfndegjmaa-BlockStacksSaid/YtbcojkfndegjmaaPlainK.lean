/- What chapter 14 says, on plain data: kids, how they are stacked. Nothing of the program. -/
import Derived.Test.YtbcojkfndegjmaaPlain
namespace Go.Proofs.Ytbcojkfndegjmaa
set_option linter.unusedVariables false

def fitB (n : Int) : Bool := decide (-1099511627776 ≤ n) && decide (n ≤ 1099511627776)
theorem fitB_iff (n : Int) : fitB n = true ↔ -1099511627776 ≤ n ∧ n ≤ 1099511627776 := by simp [fitB]
def fitsB (l : List Int) : Bool := l.all fitB
theorem take_snoc {α : Type} (l : List α) (k : Nat) (h : k < l.length) : l.take (k + 1) = l.take k ++ [l[k]] := List.take_succ_eq_append_getElem h

/-- a kid: Top, Bottom, Height, Through -/
structure Kd where
  tp : Mg
  bt : Mg
  ht : Int
  th : Bool
def Mg.v (m : Mg) : Int := m.up + m.dn
def oddB (m : Mg) : Bool := decide (m.up < 0) || decide (0 < m.dn)
def badK (k : Kd) : Bool := decide (k.ht < 0) || (k.th && decide (0 < k.ht)) || oddB k.tp || oddB k.bt
def okK (k : Kd) : Bool := fitB k.ht && mayB k.tp && mayB k.bt
/-- what is carried along: places, the box's Top, how far down, what waits, whether that is still outside -/
structure St where
  ps : List Int
  tp : Mg
  y : Int
  w : Mg
  out : Bool
def st0 (above : Bool) : St := ⟨[], mz, 0, mz, above⟩
/-- where a kid stands -/
def posK (s : St) (k : Kd) : Int := if s.out = true then s.y else s.y + (mj s.w k.tp).v
def put (s : St) (k : Kd) : St :=
  if k.th = true then ⟨s.ps ++ [posK s k], s.tp, s.y, mj (mj s.w k.tp) k.bt, s.out⟩
  else ⟨s.ps ++ [posK s k], if s.out = true then mj s.w k.tp else s.tp, posK s k + k.ht, k.bt, false⟩
structure Sk where
  ps : List Int
  ht : Int
  tp : Mg
  bt : Mg
  th : Bool
def sk0 : Sk := ⟨[], 0, mz, mz, false⟩
def fin (s : St) (below : Bool) : Sk :=
  if s.out = true then ⟨s.ps, 0, s.w, mz, below⟩
  else if below = true then ⟨s.ps, max 0 s.y, s.tp, s.w, false⟩
  else ⟨s.ps, max 0 (s.y + s.w.v), s.tp, mz, false⟩
def askedK (l : List Kd) : Int := if 2048 < l.length then 2 else if l.any badK = true then 2 else if l.all okK = true then 0 else 10
structure Rs where
  sk : Sk
  e : Int
def runK (l : List Kd) (above : Bool) : St := l.foldl put (st0 above)
def stackF (l : List Kd) (above below : Bool) : Rs :=
  if askedK l = 0 then
    if (fitsB (fin (runK l above) below).ps && fitB (fin (runK l above) below).ht) = true then ⟨fin (runK l above) below, 0⟩ else ⟨sk0, 10⟩
  else ⟨sk0, askedK l⟩

theorem put_ps (s : St) (k : Kd) : (put s k).ps = s.ps ++ [posK s k] := by unfold put; split <;> rfl
theorem run_snoc (l : List Kd) (k : Kd) (a : Bool) : runK (l ++ [k]) a = put (runK l a) k := by simp [runK, List.foldl_append]
theorem run_step (l : List Kd) (a : Bool) (k : Nat) (h : k < l.length) : runK (l.take (k + 1)) a = put (runK (l.take k) a) l[k] := by rw [take_snoc l k h, run_snoc]
theorem run_len (l : List Kd) (a : Bool) : ∀ k, k ≤ l.length → (runK (l.take k) a).ps.length = k
  | 0, _ => by simp [runK, st0]
  | k + 1, h => by rw [run_step l a k (by omega), put_ps, List.length_append, run_len l a k (by omega)]; rfl
theorem run_length (l : List Kd) (a : Bool) : (runK l a).ps.length = l.length := by
  have := run_len l a l.length (Nat.le_refl _)
  rwa [List.take_length] at this
theorem fin_ps (s : St) (b : Bool) : (fin s b).ps = s.ps := by unfold fin; split <;> (try split) <;> rfl
theorem run_pre (l : List Kd) (a : Bool) (i : Nat) (hi : i < l.length) : ∀ k, i < k → k ≤ l.length → (runK (l.take k) a).ps[i]? = some (posK (runK (l.take i) a) l[i])
  | 0, h, _ => by omega
  | k + 1, h, hk => by
    rw [run_step l a k (by omega), put_ps]
    rcases Nat.lt_or_ge i k with h1 | h1
    · rw [List.getElem?_append_left (by rw [run_len l a k (by omega)]; exact h1)]
      exact run_pre l a i hi k h1 (by omega)
    · obtain rfl : i = k := by omega
      rw [List.getElem?_append_right (by rw [run_len l a i (by omega)]; exact Nat.le_refl _), run_len l a i (by omega)]
      simp
theorem run_get (l : List Kd) (a : Bool) (i : Nat) (hi : i < l.length) : (runK l a).ps[i]? = some (posK (runK (l.take i) a) l[i]) := by
  have := run_pre l a i hi l.length hi (Nat.le_refl _)
  rwa [List.take_length] at this

/-! ### Bounds -/
def inM (M : Int) (m : Mg) : Prop := (0 ≤ m.up ∧ m.up ≤ M) ∧ -M ≤ m.dn ∧ m.dn ≤ 0
theorem inM_mj {M : Int} {a b : Mg} (ha : inM M a) (hb : inM M b) : inM M (mj a b) := by
  obtain ⟨⟨a1, a2⟩, a3, a4⟩ := ha
  obtain ⟨⟨b1, b2⟩, b3, b4⟩ := hb
  simp only [inM, mj]
  omega
theorem inM_z {M : Int} (h : 0 ≤ M) : inM M mz := by simp only [inM, mz]; omega
theorem inM_v {M : Int} {a : Mg} (ha : inM M a) : -M ≤ a.v ∧ a.v ≤ M := by
  obtain ⟨⟨a1, a2⟩, a3, a4⟩ := ha
  simp only [Mg.v]
  omega
def bnd (M : Int) : Nat → Int
  | 0 => 0
  | n + 1 => bnd M n + 2 * M
theorem bnd_eq (M : Int) : ∀ n : Nat, bnd M n = (n : Int) * (2 * M)
  | 0 => by simp [bnd]
  | n + 1 => by rw [bnd, bnd_eq M n, Int.natCast_succ, Int.add_mul]; omega
def gdK (M : Int) (k : Kd) : Prop := (0 ≤ k.ht ∧ k.ht ≤ M) ∧ inM M k.tp ∧ inM M k.bt
def gdS (M : Int) (n : Nat) (s : St) : Prop := inM M s.w ∧ inM M s.tp ∧ (-bnd M n ≤ s.y ∧ s.y ≤ bnd M n) ∧ ∀ p ∈ s.ps, -bnd M n ≤ p ∧ p ≤ bnd M n
theorem posK_in {M : Int} {n : Nat} {s : St} {k : Kd} (hM : 0 ≤ M) (hs : gdS M n s) (hk : gdK M k) : -bnd M n - M ≤ posK s k ∧ posK s k ≤ bnd M n + M := by
  obtain ⟨h1, h2, h3, h4⟩ := hs
  have hv := inM_v (inM_mj h1 hk.2.1)
  unfold posK
  split <;> omega
theorem gdS_put {M : Int} {n : Nat} {s : St} {k : Kd} (hM : 0 ≤ M) (hs : gdS M n s) (hk : gdK M k) : gdS M (n + 1) (put s k) := by
  have hp := posK_in hM hs hk
  obtain ⟨h1, h2, h3, h4⟩ := hs
  obtain ⟨k1, k2, k3⟩ := hk
  have hps : ∀ p ∈ s.ps ++ [posK s k], -bnd M (n + 1) ≤ p ∧ p ≤ bnd M (n + 1) := by
    intro p hp2
    rw [bnd]
    rcases List.mem_append.1 hp2 with h | h
    · have := h4 p h; omega
    · rw [List.mem_singleton] at h; subst h; omega
  unfold put
  split
  · exact ⟨inM_mj (inM_mj h1 k2) k3, h2, by simp only [bnd]; omega, hps⟩
  · refine ⟨k3, ?_, by simp only [bnd]; omega, hps⟩
    simp only
    split
    · exact inM_mj h1 k2
    · exact h2
theorem gdS_0 {M : Int} (hM : 0 ≤ M) (a : Bool) : gdS M 0 (st0 a) := ⟨inM_z hM, inM_z hM, by simp [st0, bnd], by simp [st0]⟩
theorem gdS_run {M : Int} (hM : 0 ≤ M) (l : List Kd) (a : Bool) (hk : ∀ k ∈ l, gdK M k) : ∀ k, k ≤ l.length → gdS M k (runK (l.take k) a)
  | 0, _ => by simpa [runK] using gdS_0 hM a
  | k + 1, h => by
    rw [run_step l a k (by omega)]
    exact gdS_put hM (gdS_run hM l a hk k (by omega)) (hk _ (List.getElem_mem _))
theorem ok_gd {k : Kd} (h1 : badK k = false) (h2 : okK k = true) : gdK 1099511627776 k := by
  simp only [badK, Bool.or_eq_false_iff, oddB, decide_eq_false_iff_not] at h1
  simp only [okK, Bool.and_eq_true, fitB_iff, mayB_iff] at h2
  obtain ⟨⟨⟨h3, h4⟩, h5, h6⟩, h7, h8⟩ := h1
  obtain ⟨⟨h9, ha, hb, hc, hd⟩, he, hf, hg, hh⟩ := h2
  exact ⟨by omega, ⟨by omega, by omega, by omega⟩, ⟨by omega, by omega⟩, by omega, by omega⟩

/-! ### Kids that are near -/
def nearM (m : Mg) : Bool := mayB m && decide (m.up ≤ 268435456) && decide (-268435456 ≤ m.dn)
def nearK (k : Kd) : Bool := !decide (k.ht < 0) && decide (k.ht ≤ 268435456) && !(k.th && (k.ht != 0)) && nearM k.tp && nearM k.bt
def nearL (l : List Kd) : Bool := decide (l.length ≤ 200) && l.all nearK
theorem nearM_in {m : Mg} (h : nearM m = true) : inM 268435456 m := by
  simp only [nearM, Bool.and_eq_true, decide_eq_true_eq, mayB_iff] at h
  exact ⟨by omega, by omega, by omega⟩
theorem nearK_gd {k : Kd} (h : nearK k = true) : gdK 268435456 k ∧ (k.th = true → k.ht = 0) := by
  simp only [nearK, Bool.and_eq_true, decide_eq_true_eq, Bool.not_eq_true', decide_eq_false_iff_not, Bool.and_eq_false_iff, bne_eq_false_iff_eq] at h
  obtain ⟨⟨⟨⟨h1, h2⟩, h3⟩, h4⟩, h5⟩ := h
  refine ⟨⟨by omega, nearM_in h4, nearM_in h5⟩, fun ht => ?_⟩
  rcases h3 with h3 | h3
  · rw [ht] at h3; cases h3
  · exact h3
theorem nearL_iff (l : List Kd) : nearL l = true ↔ l.length ≤ 200 ∧ ∀ k ∈ l, nearK k = true := by simp [nearL]
theorem gd_ok {k : Kd} (h : nearK k = true) : badK k = false ∧ okK k = true := by
  obtain ⟨⟨h1, ⟨⟨h2, h3⟩, h4, h5⟩, ⟨h6, h7⟩, h8, h9⟩, ht⟩ := nearK_gd h
  constructor
  · simp only [badK, Bool.or_eq_false_iff, oddB, decide_eq_false_iff_not, Bool.and_eq_false_iff]
    refine ⟨⟨⟨by omega, ?_⟩, by omega, by omega⟩, by omega, by omega⟩
    cases hth : k.th with
    | false => exact .inl rfl
    | true => have := ht hth; exact .inr (by omega)
  · simp only [okK, Bool.and_eq_true, fitB_iff, mayB_iff]
    omega
theorem near_stack {l : List Kd} (h1 : l.length ≤ 201) (h2 : ∀ k ∈ l, nearK k = true) (a b : Bool) : stackF l a b = ⟨fin (runK l a) b, 0⟩ := by
  have ha : askedK l = 0 := by
    unfold askedK
    rw [if_neg (by omega), if_neg, if_pos]
    · rw [List.all_eq_true]; exact fun k hk => (gd_ok (h2 k hk)).2
    · intro hh
      obtain ⟨k, hk, h3⟩ := List.any_eq_true.1 hh
      rw [(gd_ok (h2 k hk)).1] at h3
      cases h3
  have hg := gdS_run (M := 268435456) (by omega) l a (fun k hk => (nearK_gd (h2 k hk)).1) l.length (Nat.le_refl _)
  rw [List.take_length] at hg
  obtain ⟨g1, g2, g3, g4⟩ := hg
  rw [bnd_eq] at g3 g4
  have hv := inM_v g1
  have hf : (fitsB (fin (runK l a) b).ps && fitB (fin (runK l a) b).ht) = true := by
    rw [fin_ps, Bool.and_eq_true]
    refine ⟨?_, ?_⟩
    · rw [fitsB, List.all_eq_true]
      intro p hp
      rw [fitB_iff]
      have := g4 p hp
      omega
    · rw [fitB_iff]
      unfold fin
      split <;> (try split) <;> simp only <;> omega
  unfold stackF
  rw [if_pos ha, if_pos hf]
end Go.Proofs.Ytbcojkfndegjmaa
