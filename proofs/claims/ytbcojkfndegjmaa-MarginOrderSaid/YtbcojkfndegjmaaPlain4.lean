/- Margins join in any order and by any steps: plain. -/
import Derived.Test.YtbcojkfndegjmaaPlain
namespace Go.Proofs.Ytbcojkfndegjmaa
/-- the first k of a list read from place f on, round -/
def turnedM (l : List Mg) (f k : Nat) : List Mg := (List.range k).map fun i => l.getD ((f + i) % l.length) mz
theorem turnedM_succ (l : List Mg) (f k : Nat) (h : (f + k) % l.length < l.length) : turnedM l f (k + 1) = turnedM l f k ++ [l[(f + k) % l.length]] := by
  unfold turnedM
  rw [List.range_succ, List.map_append]
  simp [List.getD, List.getElem?_eq_getElem h]
theorem turnedM_length (l : List Mg) (f k : Nat) : (turnedM l f k).length = k := by simp [turnedM]
theorem turnedM_mem (l : List Mg) (f : Nat) (hf : f < l.length) (m : Mg) : m ∈ turnedM l f l.length ↔ m ∈ l := by
  unfold turnedM
  simp only [List.mem_map, List.mem_range]
  constructor
  · rintro ⟨i, _, rfl⟩
    have h : (f + i) % l.length < l.length := Nat.mod_lt _ (by omega)
    simp [List.getD, List.getElem?_eq_getElem h]
  · intro h
    obtain ⟨j, hj, rfl⟩ := List.getElem_of_mem h
    by_cases hjf : f ≤ j
    · refine ⟨j - f, by omega, ?_⟩
      rw [show f + (j - f) = j from by omega, Nat.mod_eq_of_lt hj]
      simp [List.getD, List.getElem?_eq_getElem hj]
    · refine ⟨j + l.length - f, by omega, ?_⟩
      rw [show f + (j + l.length - f) = j + l.length from by omega, Nat.add_mod_right, Nat.mod_eq_of_lt hj]
      simp [List.getD, List.getElem?_eq_getElem hj]

/-- all may be, of their signs -/
def Sgn (l : List Mg) : Prop := ∀ m ∈ l, 0 ≤ m.up ∧ m.dn ≤ 0
theorem foldl_up (r : List Mg) : ∀ (x : Mg) (X : Int), (r.foldl mj x).up ≤ X ↔ x.up ≤ X ∧ ∀ m ∈ r, m.up ≤ X := by
  induction r with
  | nil => intro x X; simp
  | cons y r ih =>
    intro x X
    rw [List.foldl_cons, ih]
    simp only [mj, List.mem_cons, forall_eq_or_imp]
    constructor
    · rintro ⟨h1, h2⟩; exact ⟨by omega, by omega, h2⟩
    · rintro ⟨h1, h2, h3⟩; exact ⟨by omega, h3⟩
theorem foldl_dn (r : List Mg) : ∀ (x : Mg) (X : Int), X ≤ (r.foldl mj x).dn ↔ X ≤ x.dn ∧ ∀ m ∈ r, X ≤ m.dn := by
  induction r with
  | nil => intro x X; simp
  | cons y r ih =>
    intro x X
    rw [List.foldl_cons, ih]
    simp only [mj, List.mem_cons, forall_eq_or_imp]
    constructor
    · rintro ⟨h1, h2⟩; exact ⟨by omega, by omega, h2⟩
    · rintro ⟨h1, h2, h3⟩; exact ⟨by omega, h3⟩
theorem mJoin_up (l : List Mg) (h : Sgn l) (X : Int) : (mJoin l).up ≤ X ↔ 0 ≤ X ∧ ∀ m ∈ l, m.up ≤ X := by
  cases l with
  | nil => simp [mJoin, mz]
  | cons x r =>
    rw [mJoin, foldl_up]
    have := (h x (by simp)).1
    simp only [List.mem_cons, forall_eq_or_imp]
    constructor
    · rintro ⟨h1, h2⟩; exact ⟨by omega, h1, h2⟩
    · rintro ⟨_, h1, h2⟩; exact ⟨h1, h2⟩
theorem mJoin_dn (l : List Mg) (h : Sgn l) (X : Int) : X ≤ (mJoin l).dn ↔ X ≤ 0 ∧ ∀ m ∈ l, X ≤ m.dn := by
  cases l with
  | nil => simp [mJoin, mz]
  | cons x r =>
    rw [mJoin, foldl_dn]
    have := (h x (by simp)).2
    simp only [List.mem_cons, forall_eq_or_imp]
    constructor
    · rintro ⟨h1, h2⟩; exact ⟨by omega, h1, h2⟩
    · rintro ⟨_, h1, h2⟩; exact ⟨h1, h2⟩
theorem Mg.ext_le {a b : Mg} (h1 : a.up ≤ b.up) (h2 : b.up ≤ a.up) (h3 : a.dn ≤ b.dn) (h4 : b.dn ≤ a.dn) : a = b := by
  cases a; cases b; simp only [Mg.mk.injEq] at *; omega
theorem mJoin_same (a b : List Mg) (ha : Sgn a) (h : ∀ m, m ∈ b ↔ m ∈ a) : mJoin b = mJoin a := by
  have hb : Sgn b := fun m hm => ha m ((h m).1 hm)
  refine Mg.ext_le ?_ ?_ ?_ ?_
  · rw [mJoin_up b hb]; obtain ⟨h1, h2⟩ := (mJoin_up a ha _).1 (Int.le_refl _); exact ⟨h1, fun m hm => h2 m ((h m).1 hm)⟩
  · rw [mJoin_up a ha]; obtain ⟨h1, h2⟩ := (mJoin_up b hb _).1 (Int.le_refl _); exact ⟨h1, fun m hm => h2 m ((h m).2 hm)⟩
  · rw [mJoin_dn a ha]; obtain ⟨h1, h2⟩ := (mJoin_dn b hb _).1 (Int.le_refl _); exact ⟨h1, fun m hm => h2 m ((h m).2 hm)⟩
  · rw [mJoin_dn b hb]; obtain ⟨h1, h2⟩ := (mJoin_dn a ha _).1 (Int.le_refl _); exact ⟨h1, fun m hm => h2 m ((h m).1 hm)⟩
theorem mJoin_sgn (l : List Mg) (h : Sgn l) : 0 ≤ (mJoin l).up ∧ (mJoin l).dn ≤ 0 :=
  ⟨((mJoin_up l h _).1 (Int.le_refl _)).1, ((mJoin_dn l h _).1 (Int.le_refl _)).1⟩
theorem mJoin_parts (a b : List Mg) (ha : Sgn a) (hb : Sgn b) : mJoin [mJoin a, mJoin b] = mJoin (a ++ b) := by
  have hab : Sgn (a ++ b) := fun m hm => by rcases List.mem_append.1 hm with h | h; exact ha m h; exact hb m h
  have hs : Sgn [mJoin a, mJoin b] := fun m hm => by
    simp only [List.mem_cons, List.not_mem_nil, or_false] at hm
    rcases hm with rfl | rfl
    · exact mJoin_sgn a ha
    · exact mJoin_sgn b hb
  obtain ⟨u0, u1⟩ := (mJoin_up (a ++ b) hab _).1 (Int.le_refl _)
  obtain ⟨d0, d1⟩ := (mJoin_dn (a ++ b) hab _).1 (Int.le_refl _)
  refine Mg.ext_le ?_ ?_ ?_ ?_
  · rw [mJoin_up _ hs]
    refine ⟨u0, fun m hm => ?_⟩
    simp only [List.mem_cons, List.not_mem_nil, or_false] at hm
    rcases hm with rfl | rfl
    · exact (mJoin_up a ha _).2 ⟨u0, fun m hm => u1 m (List.mem_append_left _ hm)⟩
    · exact (mJoin_up b hb _).2 ⟨u0, fun m hm => u1 m (List.mem_append_right _ hm)⟩
  · rw [mJoin_up _ hab]
    obtain ⟨p0, p1⟩ := (mJoin_up _ hs _).1 (Int.le_refl _)
    refine ⟨p0, fun m hm => ?_⟩
    rcases List.mem_append.1 hm with h | h
    · exact Int.le_trans (((mJoin_up a ha _).1 (Int.le_refl _)).2 m h) (p1 _ (by simp))
    · exact Int.le_trans (((mJoin_up b hb _).1 (Int.le_refl _)).2 m h) (p1 _ (by simp))
  · rw [mJoin_dn _ hab]
    obtain ⟨p0, p1⟩ := (mJoin_dn _ hs _).1 (Int.le_refl _)
    refine ⟨p0, fun m hm => ?_⟩
    rcases List.mem_append.1 hm with h | h
    · exact Int.le_trans (p1 _ (by simp)) (((mJoin_dn a ha _).1 (Int.le_refl _)).2 m h)
    · exact Int.le_trans (p1 _ (by simp)) (((mJoin_dn b hb _).1 (Int.le_refl _)).2 m h)
  · rw [mJoin_dn _ hs]
    refine ⟨d0, fun m hm => ?_⟩
    simp only [List.mem_cons, List.not_mem_nil, or_false] at hm
    rcases hm with rfl | rfl
    · exact (mJoin_dn a ha _).2 ⟨d0, fun m hm => d1 m (List.mem_append_left _ hm)⟩
    · exact (mJoin_dn b hb _).2 ⟨d0, fun m hm => d1 m (List.mem_append_right _ hm)⟩
theorem mJoin_self (q : Mg) : mJoin [q, q] = q := by cases q; simp [mJoin, mj]
theorem mJoin_one (l : List Mg) (h : Sgn l) (x : Mg) (hx : x ∈ l) : mJoin [mJoin l, x] = mJoin l := by
  have h1 := ((mJoin_up l h _).1 (Int.le_refl _)).2 x hx
  have h2 := ((mJoin_dn l h _).1 (Int.le_refl _)).2 x hx
  show mj (mJoin l) x = mJoin l
  cases hq : mJoin l with
  | mk U D => rw [hq] at h1 h2; simp only [mj, Mg.mk.injEq] at *; omega
theorem mJoin_may (l : List Mg) (h : ∀ m ∈ l, mayB m = true) : mayB (mJoin l) = true := by
  have hs : Sgn l := fun m hm => by have := (mayB_iff m).1 (h m hm); exact ⟨this.1, this.2.2.1⟩
  obtain ⟨a, b⟩ := mJoin_sgn l hs
  refine (mayB_iff _).2 ⟨a, ?_, b, ?_⟩
  · exact (mJoin_up l hs _).2 ⟨by omega, fun m hm => ((mayB_iff m).1 (h m hm)).2.1⟩
  · exact (mJoin_dn l hs _).2 ⟨by omega, fun m hm => ((mayB_iff m).1 (h m hm)).2.2.2⟩
end Go.Proofs.Ytbcojkfndegjmaa
