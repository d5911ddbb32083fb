/- What near spots give for the laws on bases, turned rows and one spot more. Plain. -/
import Derived.Test.YtdhjgflkincapaaPlainN
namespace Go.Proofs.Ytdhjgflkincapaa
set_option linter.unusedVariables false

theorem hUp_cons (s : Sp) (r : List Sp) (u : Int) : hUp (s :: r) u = hUp r (if s.al = 0 then max u s.up else u) := rfl
theorem hDn_cons (s : Sp) (r : List Sp) (u : Int) : hDn (s :: r) u = hDn r (if s.al = 0 then max u s.dn else u) := rfl
theorem hHt_cons (s : Sp) (r : List Sp) (u : Int) : hHt (s :: r) u = hHt r (if s.al = 0 then u else max u (s.up + s.dn)) := rfl
theorem hUp_le : ∀ (l : List Sp) (u : Int), u ≤ hUp l u ∧ ∀ s ∈ l, s.al = 0 → s.up ≤ hUp l u
  | [], u => ⟨by simp [hUp], by simp⟩
  | s :: r, u => by
    obtain ⟨a, b⟩ := hUp_le r (if s.al = 0 then max u s.up else u)
    rw [hUp_cons]
    refine ⟨by split at a <;> rename_i h <;> simp only [h, if_true, if_false] at * <;> omega, fun t ht h0 => ?_⟩
    rcases List.mem_cons.1 ht with rfl | ht
    · simp only [h0, if_true] at a ⊢; omega
    · exact b t ht h0
theorem hDn_le : ∀ (l : List Sp) (u : Int), u ≤ hDn l u ∧ ∀ s ∈ l, s.al = 0 → s.dn ≤ hDn l u
  | [], u => ⟨by simp [hDn], by simp⟩
  | s :: r, u => by
    obtain ⟨a, b⟩ := hDn_le r (if s.al = 0 then max u s.dn else u)
    rw [hDn_cons]
    refine ⟨by split at a <;> rename_i h <;> simp only [h, if_true, if_false] at * <;> omega, fun t ht h0 => ?_⟩
    rcases List.mem_cons.1 ht with rfl | ht
    · simp only [h0, if_true] at a ⊢; omega
    · exact b t ht h0
theorem hHt_le : ∀ (l : List Sp) (u : Int), u ≤ hHt l u ∧ ∀ s ∈ l, s.al ≠ 0 → s.up + s.dn ≤ hHt l u
  | [], u => ⟨by simp [hHt], by simp⟩
  | s :: r, u => by
    obtain ⟨a, b⟩ := hHt_le r (if s.al = 0 then u else max u (s.up + s.dn))
    rw [hHt_cons]
    refine ⟨by split at a <;> rename_i h <;> simp only [h, if_true, if_false] at * <;> omega, fun t ht h0 => ?_⟩
    rcases List.mem_cons.1 ht with rfl | ht
    · simp only [h0, if_false] at a ⊢; omega
    · exact b t ht h0
theorem hUp_hit : ∀ (l : List Sp) (u : Int), hUp l u = u ∨ ∃ s ∈ l, s.al = 0 ∧ s.up = hUp l u
  | [], u => .inl rfl
  | s :: r, u => by
    rw [hUp_cons]
    rcases hUp_hit r (if s.al = 0 then max u s.up else u) with h | ⟨t, ht, h⟩
    · rw [h]
      split
      · rename_i h0
        by_cases hm : max u s.up = u
        · exact .inl hm
        · exact .inr ⟨s, List.mem_cons_self, h0, by omega⟩
      · exact .inl rfl
    · exact .inr ⟨t, List.mem_cons_of_mem _ ht, h⟩
theorem hDn_hit : ∀ (l : List Sp) (u : Int), hDn l u = u ∨ ∃ s ∈ l, s.al = 0 ∧ s.dn = hDn l u
  | [], u => .inl rfl
  | s :: r, u => by
    rw [hDn_cons]
    rcases hDn_hit r (if s.al = 0 then max u s.dn else u) with h | ⟨t, ht, h⟩
    · rw [h]
      split
      · rename_i h0
        by_cases hm : max u s.dn = u
        · exact .inl hm
        · exact .inr ⟨s, List.mem_cons_self, h0, by omega⟩
      · exact .inl rfl
    · exact .inr ⟨t, List.mem_cons_of_mem _ ht, h⟩
theorem hHt_hit : ∀ (l : List Sp) (u : Int), hHt l u = u ∨ ∃ s ∈ l, s.al ≠ 0 ∧ s.up + s.dn = hHt l u
  | [], u => .inl rfl
  | s :: r, u => by
    rw [hHt_cons]
    rcases hHt_hit r (if s.al = 0 then u else max u (s.up + s.dn)) with h | ⟨t, ht, h⟩
    · rw [h]
      split
      · exact .inl rfl
      · rename_i h0
        by_cases hm : max u (s.up + s.dn) = u
        · exact .inl hm
        · exact .inr ⟨s, List.mem_cons_self, h0, by omega⟩
    · exact .inr ⟨t, List.mem_cons_of_mem _ ht, h⟩

/-- what the loop of the law on bases gathers -/
def upB (U u0 : Int) (l : List Sp) : Bool := (U == u0) || l.any fun s => ((s.al : Int) == 0) && (s.up == U)
def dnB (H U d0 : Int) (l : List Sp) : Bool := (H == U + d0) || l.any fun s => ((s.al : Int) == 0) && (U + s.dn == H)
def tlB (H : Int) (l : List Sp) : Bool := l.any fun s => ((s.al : Int) != 0) && (s.up + s.dn == H)
theorem upB_snoc (U u0 : Int) (l : List Sp) (s : Sp) : upB U u0 (l ++ [s]) = (upB U u0 l || (((s.al : Int) == 0) && (s.up == U))) := by
  simp only [upB, List.any_append, List.any_cons, List.any_nil, Bool.or_false, Bool.or_assoc]
theorem dnB_snoc (H U d0 : Int) (l : List Sp) (s : Sp) : dnB H U d0 (l ++ [s]) = (dnB H U d0 l || (((s.al : Int) == 0) && (U + s.dn == H))) := by
  simp only [dnB, List.any_append, List.any_cons, List.any_nil, Bool.or_false, Bool.or_assoc]
theorem tlB_snoc (H : Int) (l : List Sp) (s : Sp) : tlB H (l ++ [s]) = (tlB H l || (((s.al : Int) != 0) && (s.up + s.dn == H))) := by
  simp only [tlB, List.any_append, List.any_cons, List.any_nil, Bool.or_false]
theorem upB_all (l : List Sp) (u : Int) : upB (hUp l u) u l = true := by
  unfold upB
  simp only [Bool.or_eq_true, List.any_eq_true, Bool.and_eq_true, beq_iff_eq]
  rcases hUp_hit l u with h | ⟨s, hs, h0, h⟩
  · exact .inl h
  · exact .inr ⟨s, hs, by omega, h⟩
theorem dt_all (l : List Sp) (u d : Int) : (dnB (htOf l u d) (hUp l u) d l || tlB (htOf l u d) l) = true := by
  unfold dnB tlB
  simp only [Bool.or_eq_true, List.any_eq_true, Bool.and_eq_true, beq_iff_eq, bne_iff_ne]
  unfold htOf
  rcases hHt_hit l (hUp l u + hDn l d) with h | ⟨s, hs, h0, h⟩
  · rw [h]
    rcases hDn_hit l d with h2 | ⟨s, hs, h0, h2⟩
    · exact .inl (.inl (by rw [h2]))
    · exact .inl (.inr ⟨s, hs, by omega, by rw [h2]⟩)
  · exact .inr ⟨s, hs, by omega, h⟩
theorem yOf_in (l : List Sp) (u d : Int) (hns : ∀ s ∈ l, nearS s = true) (hu : 0 ≤ u) (hd : 0 ≤ d) (s : Sp) (hs : s ∈ l) :
    0 ≤ yOf (htOf l u d) (hUp l u) s ∧ yOf (htOf l u d) (hUp l u) s + s.up + s.dn ≤ htOf l u d ∧ (s.al = 0 → yOf (htOf l u d) (hUp l u) s + s.up = hUp l u) ∧
      (s.al = 1 → yOf (htOf l u d) (hUp l u) s = 0) ∧ (s.al = 2 → yOf (htOf l u d) (hUp l u) s + s.up + s.dn = htOf l u d) := by
  have h1 := (nearS_iff s).1 (hns s hs)
  have a := (hUp_le l u).2 s hs
  have b := (hDn_le l d).2 s hs
  have c := (hHt_le l (hUp l u + hDn l d)).2 s hs
  have c0 := (hHt_le l (hUp l u + hDn l d)).1
  unfold htOf yOf
  have : s.al = 0 ∨ s.al = 1 ∨ s.al = 2 := by omega
  rcases this with h | h | h
  · have a1 := a h
    have b1 := b h
    simp only [h, if_true]
    omega
  · have c1 := c (by omega)
    simp [h]
    omega
  · have c1 := c (by omega)
    simp [h]
    omega
theorem near_bounds {l : List Sp} {x : Ow} (h : nearB l x = true) : (x.up ≤ hUp l x.up ∧ hUp l x.up ≤ 268435456) ∧ (hUp l x.up + x.dn ≤ htOf l x.up x.dn ∧ htOf l x.up x.dn ≤ 536870912) := by
  obtain ⟨h1, ⟨h2, h3, h4, h5⟩, hn⟩ := (near_iff l x).1 h
  obtain ⟨b1, b2⟩ := nof hn l.length (Nat.le_refl _) x.up (by omega) (by omega)
  obtain ⟨_, b3⟩ := nof hn l.length (Nat.le_refl _) x.dn (by omega) (by omega)
  have b4 := nht hn l.length (Nat.le_refl _) (hUp l x.up + hDn l x.dn) (by rw [List.take_length] at b1 b3; omega)
  rw [List.take_length] at b1 b3 b4
  unfold htOf
  omega
theorem pcellX (h b x : Int) (l : List Sp) (k : Nat) (hk : k < l.length) : (pcells (posL h b x l))[k * 2 + 0]? = some (.int .i64 (x + sumW (l.take k))) := by
  have hk2 : k < (posL h b x l).length := by rw [posL_length]; exact hk
  have hg := posL_get h b l x k hk
  rw [List.getElem?_eq_getElem hk2] at hg
  have hh := pcell (posL h b x l) k 0 hk2 (by omega)
  rw [Option.some.inj hg] at hh
  exact hh
theorem pcellY (h b x : Int) (l : List Sp) (k : Nat) (hk : k < l.length) : (pcells (posL h b x l))[k * 2 + 1]? = some (.int .i64 (yOf h b l[k])) := by
  have hk2 : k < (posL h b x l).length := by rw [posL_length]; exact hk
  have hg := posL_get h b l x k hk
  rw [List.getElem?_eq_getElem hk2] at hg
  have hh := pcell (posL h b x l) k 1 hk2 (by omega)
  rw [Option.some.inj hg] at hh
  exact hh

/-! ### Rows that are turned -/
def rot {α : Type} (f : Nat) (l : List α) : List α := l.drop f ++ l.take f
theorem rot_perm {α : Type} (f : Nat) (l : List α) : (rot f l).Perm l := by
  have h : (l.drop f ++ l.take f).Perm (l.take f ++ l.drop f) := List.perm_append_comm
  rw [List.take_append_drop] at h
  exact h
theorem rot_length {α : Type} (f : Nat) (l : List α) : (rot f l).length = l.length := (rot_perm f l).length_eq
theorem rot_get {α : Type} (f : Nat) (l : List α) (k : Nat) (hf : f < l.length) (hk : k < l.length) : (rot f l)[k]'(by rw [rot_length]; exact hk) = l[(f + k) % l.length]'(Nat.mod_lt _ (by omega)) := by
  apply Option.some.inj
  rw [← List.getElem?_eq_getElem, ← List.getElem?_eq_getElem]
  unfold rot
  rcases Nat.lt_or_ge k (l.length - f) with h | h
  · rw [List.getElem?_append_left (by simpa using h), List.getElem?_drop, Nat.mod_eq_of_lt (by omega)]
  · rw [List.getElem?_append_right (by simpa using h), List.length_drop, List.getElem?_take_of_lt (by omega), Nat.mod_eq_sub_mod (by omega), Nat.mod_eq_of_lt (by omega)]
    congr 1; omega
theorem hUp_perm {l m : List Sp} (h : l.Perm m) (u : Int) : hUp l u = hUp m u := by
  unfold hUp
  refine h.foldl_eq' (fun x _ y _ z => ?_) u
  by_cases hx : x.al = 0 <;> by_cases hy : y.al = 0 <;> simp only [hx, hy, if_true, if_false] <;> omega
theorem hDn_perm {l m : List Sp} (h : l.Perm m) (u : Int) : hDn l u = hDn m u := by
  unfold hDn
  refine h.foldl_eq' (fun x _ y _ z => ?_) u
  by_cases hx : x.al = 0 <;> by_cases hy : y.al = 0 <;> simp only [hx, hy, if_true, if_false] <;> omega
theorem hHt_perm {l m : List Sp} (h : l.Perm m) (u : Int) : hHt l u = hHt m u := by
  unfold hHt
  refine h.foldl_eq' (fun x _ y _ z => ?_) u
  by_cases hx : x.al = 0 <;> by_cases hy : y.al = 0 <;> simp only [hx, hy, if_true, if_false] <;> omega
theorem sumW_perm {l m : List Sp} (h : l.Perm m) : sumW l = sumW m := by
  unfold sumW
  exact h.foldl_eq' (fun x _ y _ z => by omega) 0
theorem near_perm {l m : List Sp} (h : l.Perm m) (x : Ow) (hn : nearB l x = true) : nearB m x = true := by
  obtain ⟨h1, h2, h3⟩ := (near_iff l x).1 hn
  exact (near_iff m x).2 ⟨by rw [← h.length_eq]; exact h1, h2, fun s hs => h3 s (h.mem_iff.2 hs)⟩
theorem near_place_rot {l : List Sp} {x : Ow} (f : Nat) (h : nearB l x = true) :
    placeF (rot f l) x.up x.dn x.wd x.ls = ⟨posL (htOf l x.up x.dn) (hUp l x.up) (leadF (x.wd - sumW l) x.ls) (rot f l), htOf l x.up x.dn, hUp l x.up, 0⟩ := by
  have hp := (rot_perm f l)
  have e1 : htOf (rot f l) x.up x.dn = htOf l x.up x.dn := by unfold htOf; rw [hUp_perm hp, hDn_perm hp, hHt_perm hp]
  rw [near_place (near_perm hp.symm x h), e1, hUp_perm hp]
  unfold posOf
  rw [e1, hUp_perm hp, sumW_perm hp]

/-! ### One spot more -/
theorem near_zero {l : List Sp} {x : Ow} (h : nearB l x = true) : nearB l ⟨x.up, x.dn, x.wd, 0⟩ = true := by
  obtain ⟨h1, h2, h3⟩ := (near_iff l x).1 h
  exact (near_iff l _).2 ⟨h1, ⟨h2.1, h2.2.1, h2.2.2.1, by simp⟩, h3⟩
theorem near_more {l : List Sp} {x : Ow} {wd : Int} (h : nearB l x = true) (hl : l.length ≤ 199) (h0 : 0 ≤ wd) (h1 : wd ≤ 268435456) : nearB (l ++ [⟨wd, x.up, x.dn, 0⟩]) ⟨x.up, x.dn, x.wd, 0⟩ = true := by
  obtain ⟨_, h2, h3⟩ := (near_iff l x).1 h
  refine (near_iff _ _).2 ⟨by simp; omega, ⟨h2.1, h2.2.1, h2.2.2.1, by simp⟩, fun s hs => ?_⟩
  rcases List.mem_append.1 hs with hs | hs
  · exact h3 s hs
  · simp at hs
    subst hs
    exact (nearS_iff _).2 ⟨⟨h0, h1⟩, h2.1, h2.2.1, by simp⟩
theorem place_zero {l : List Sp} {x : Ow} (h : nearB l x = true) : placeF l x.up x.dn x.wd 0 = ⟨posL (htOf l x.up x.dn) (hUp l x.up) 0 l, htOf l x.up x.dn, hUp l x.up, 0⟩ := by
  have := near_place (near_zero h)
  simpa [posOf, leadF] using this
theorem place_more {l : List Sp} {x : Ow} {wd : Int} (h : nearB l x = true) (hl : l.length ≤ 199) (h0 : 0 ≤ wd) (h1 : wd ≤ 268435456) :
    placeF (l ++ [⟨wd, x.up, x.dn, 0⟩]) x.up x.dn x.wd 0 = ⟨posL (htOf l x.up x.dn) (hUp l x.up) 0 l ++ [⟨sumW l, hUp l x.up - x.up⟩], htOf l x.up x.dn, hUp l x.up, 0⟩ := by
  have hp := near_place (near_more h hl h0 h1)
  have a := (hUp_le l x.up).1
  have b := (hDn_le l x.dn).1
  have e1 : hUp (l ++ [⟨wd, x.up, x.dn, 0⟩]) x.up = hUp l x.up := by rw [hUp_snoc]; simp; omega
  have e2 : hDn (l ++ [⟨wd, x.up, x.dn, 0⟩]) x.dn = hDn l x.dn := by rw [hDn_snoc]; simp; omega
  have e3 : htOf (l ++ [⟨wd, x.up, x.dn, 0⟩]) x.up x.dn = htOf l x.up x.dn := by unfold htOf; rw [e1, e2, hHt_snoc]; simp
  simp only [e1, e3, posOf, posL_snoc] at hp
  rw [hp]
  simp [leadF, yOf]
end Go.Proofs.Ytdhjgflkincapaa
