/- How a slice that came in reads as a list of things that are each a fixed row of cells. Nothing of the program. -/
import Derived.Test.YtdhjgflkincapaaWords
import Derived.Deep.Slices
import Derived.ChangeArms
namespace Go.Proofs.Ytdhjgflkincapaa
open Go.RowKit Go.Deep

theorem flat_get {α : Type} (f : α → List Value) (s : Nat) (hf : ∀ m, (f m).length = s) : ∀ (l : List α) (i j : Nat) (hi : i < l.length), j < s → (l.flatMap f)[i * s + j]? = (f l[i])[j]?
  | [], i, j, hi, _ => by simp at hi
  | x :: r, 0, j, _, hj => by
    simp only [List.flatMap_cons, Nat.zero_mul, Nat.zero_add, List.getElem_cons_zero]
    exact List.getElem?_append_left (by rw [hf]; exact hj)
  | x :: r, i + 1, j, hi, hj => by
    simp only [List.flatMap_cons, List.getElem_cons_succ]
    rw [List.getElem?_append_right (by rw [hf, Nat.succ_mul]; omega), hf, show (i + 1) * s + j - s = i * s + j from by rw [Nat.succ_mul]; omega]
    exact flat_get f s hf r i j (by simpa using hi) hj
theorem flat_length {α : Type} (f : α → List Value) (s : Nat) (hf : ∀ m, (f m).length = s) : ∀ (l : List α), (l.flatMap f).length = l.length * s
  | [] => by simp
  | x :: r => by rw [List.flatMap_cons, List.length_append, hf, flat_length f s hf r, List.length_cons, Nat.succ_mul]; omega

theorem list_of {α : Type} (P : Nat → α → Prop) : ∀ n : Nat, (∀ i, i < n → ∃ x, P i x) → ∃ l : List α, l.length = n ∧ ∀ i (h : i < l.length), P i l[i]
  | 0, _ => ⟨[], rfl, fun i h => by simp at h⟩
  | n + 1, h => by
    obtain ⟨l, hl, hp⟩ := list_of P n (fun i hi => h i (by omega))
    obtain ⟨x, hx⟩ := h n (by omega)
    refine ⟨l ++ [x], by simp [hl], fun i hi => ?_⟩
    by_cases hil : i < l.length
    · rw [List.getElem_append_left hil]; exact hp i hil
    · have : i = n := by simp at hi; omega
      subst this
      rw [List.getElem_append_right (by omega)]
      simpa [hl] using hx

section
variable {H : Type} {enc : TypeId × Value → H} {P : Program} {w : World} {base : Nat} {spare : Nat → Bool} {held : Bool}
theorem read_slice {α : Type} (f : α → List Value) (s : Nat) (hf : ∀ m, (f m).length = s) (hs : 0 < s) (wf : α → Prop) {t e : TypeId} {fuel : Nat} {cs : List Value} {x : DataW H × List MemPlace}
    (ht : P.underlying t = some (.slice e)) (hC : P.cellsOf e = s)
    (hel : ∀ (n : Nat) (cs : List Value) (x : DataW H × List MemPlace), DataW.trod enc P w base spare held n e cs = some x → ∃ m, cs = f m ∧ wf m)
    (h : DataW.trod enc P w base spare held fuel t cs = some x) :
    ∃ (A : Option Addr) (cap : Nat) (l : List α), cs = [.slice A l.length cap] ∧ cap ≤ maxLen ∧ l.length ≤ cap ∧ Rd w w.heap.size s A l.length (l.flatMap f) ∧ ∀ m ∈ l, wf m := by
  rcases open_slice ht h with ⟨rfl, rfl⟩ | ⟨a, len, cap, m, n, D, Pl, rfl, hb, hl, hm, hmm, hx, hi⟩
  · exact ⟨none, 0, [], rfl, by simp [maxLen], Nat.le_refl _, Rd.nil_ _, fun m hm => by cases hm⟩
  · have hlm : len ≤ m := by rw [hmm]; split <;> omega
    obtain ⟨l, hlen, hp⟩ := list_of (fun i (mm : α) => wf mm ∧ ∀ j, j < s → w.cell? ((a.add (i * s)).add j) = (f mm)[j]?) len (fun i hil => by
      obtain ⟨cs', hc, ht'⟩ := hi i (by omega)
      rw [hC] at hc
      obtain ⟨mm, rfl, hw⟩ := hel _ _ _ ht'
      obtain ⟨_, _, hat⟩ := World.cells?_some hc
      exact ⟨mm, hw, fun j hj => hat j hj⟩)
    subst hlen
    refine ⟨some a, cap, l, rfl, hm, hl, ⟨flat_length f s hf l, fun hn => ?_⟩, fun mm hmm => ?_⟩
    · have h00 := (hp 0 hn).2 0 hs
      have hfl : (f l[0])[0]? = some ((f l[0])[0]'(by rw [hf]; exact hs)) := List.getElem?_eq_getElem _
      rw [hfl, Nat.zero_mul] at h00
      obtain ⟨b, off, spot⟩ := a
      have hspot : spot = none := by simpa [Addr.add] using World.cell?_spot h00
      subst hspot
      refine ⟨b, off, rfl, World.block_lt_of_cell? w _ (by simpa [Addr.add] using h00), fun j u hu => ?_⟩
      have hjl : j < l.length * s := by
        rw [← flat_length f s hf l]; exact (List.getElem?_eq_some_iff.1 hu).1
      have hq : j / s < l.length := Nat.div_lt_of_lt_mul (by rw [Nat.mul_comm]; exact hjl)
      have hr : j % s < s := Nat.mod_lt _ hs
      have hj : j / s * s + j % s = j := by rw [Nat.mul_comm]; exact Nat.div_add_mod j s
      have h1 := (hp (j / s) hq).2 (j % s) hr
      rw [← flat_get f s hf l (j / s) (j % s) hq hr, hj, hu] at h1
      rw [← h1]
      congr 1
      unfold Addr.add
      by_cases hz : j / s * s = 0 <;> by_cases hz2 : j % s = 0 <;> simp [hz, hz2] <;> omega
    · obtain ⟨i, hi, rfl⟩ := List.getElem_of_mem hmm
      exact (hp i hi).1
end
end Go.Proofs.Ytdhjgflkincapaa
