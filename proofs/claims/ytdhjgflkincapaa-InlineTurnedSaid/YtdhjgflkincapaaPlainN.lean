/- What near spots give: they are placed. Plain. -/
import Derived.Test.YtdhjgflkincapaaNear
namespace Go.Proofs.Ytdhjgflkincapaa
set_option linter.unusedVariables false

theorem posL_get (h b : Int) : ∀ (l : List Sp) (x : Int) (k : Nat) (hk : k < l.length), (posL h b x l)[k]? = some ⟨x + sumW (l.take k), yOf h b l[k]⟩
  | [], _, k, hk => by simp at hk
  | s :: r, x, 0, hk => by simp [posL, sumW]
  | s :: r, x, k + 1, hk => by
    have ih := posL_get h b r (x + s.wd) k (by simpa using hk)
    have hs : x + s.wd + sumW (r.take k) = x + sumW ((s :: r).take (k + 1)) := by
      have hh : ∀ (l : List Sp) (a : Int), l.foldl (fun a s => a + s.wd) a = a + sumW l := by
        intro l
        induction l with
        | nil => intro a; simp [sumW]
        | cons q l ih => intro a; simp only [List.foldl_cons, sumW]; rw [ih, ih (0 + q.wd)]; omega
      have h2 := hh (r.take k) (0 + s.wd)
      simp only [sumW, List.take_succ_cons, List.foldl_cons] at *
      omega
    rw [hs] at ih
    simpa [posL] using ih
theorem nearS_iff (s : Sp) : nearS s = true ↔ (0 ≤ s.wd ∧ s.wd ≤ 268435456) ∧ (0 ≤ s.up ∧ s.up ≤ 268435456) ∧ (0 ≤ s.dn ∧ s.dn ≤ 268435456) ∧ s.al ≤ 2 := by
  simp only [nearS, Bool.and_eq_true, decide_eq_true_eq]; omega
theorem near_iff (l : List Sp) (x : Ow) : nearB l x = true ↔ l.length ≤ 200 ∧ ((0 ≤ x.up ∧ x.up ≤ 268435456) ∧ (0 ≤ x.dn ∧ x.dn ≤ 268435456) ∧ (0 ≤ x.wd ∧ x.wd ≤ 274877906944) ∧ x.ls ≤ 2) ∧ ∀ s ∈ l, nearS s = true := by
  simp only [nearB, nearX, Bool.and_eq_true, decide_eq_true_eq, List.all_eq_true]
  constructor
  · rintro ⟨⟨h1, h2⟩, h3⟩; exact ⟨h1, by omega, h3⟩
  · rintro ⟨h1, h2, h3⟩; exact ⟨⟨h1, by omega⟩, h3⟩
theorem nfit {l : List Sp} (h : ∀ s ∈ l, nearS s = true) : FitL l := fun s hs => by
  have := (nearS_iff s).1 (h s hs)
  exact (fitS_iff s).2 ⟨⟨by omega, by omega⟩, ⟨by omega, by omega⟩, by omega, by omega⟩
theorem nsum {l : List Sp} (h : ∀ s ∈ l, nearS s = true) : ∀ k, k ≤ l.length → 0 ≤ sumW (l.take k) ∧ sumW (l.take k) ≤ 268435456 * (k : Int)
  | 0, _ => by simp [sumW]
  | k + 1, hk => by
    have a := nsum h k (by omega)
    have hs := (nearS_iff _).1 (h l[k] (List.getElem_mem _))
    rw [take_snoc l k (by omega), sumW_snoc]
    omega
theorem nof {l : List Sp} (h : ∀ s ∈ l, nearS s = true) : ∀ k, k ≤ l.length → ∀ u : Int, 0 ≤ u → u ≤ 268435456 → (u ≤ hUp (l.take k) u ∧ hUp (l.take k) u ≤ 268435456) ∧ (u ≤ hDn (l.take k) u ∧ hDn (l.take k) u ≤ 268435456)
  | 0, _, u, h1, h2 => by simp [hUp, hDn]; omega
  | k + 1, hk, u, h1, h2 => by
    obtain ⟨a, b⟩ := nof h k (by omega) u h1 h2
    have hs := (nearS_iff _).1 (h l[k] (List.getElem_mem _))
    rw [take_snoc l k (by omega), hUp_snoc, hDn_snoc]
    constructor <;> split <;> omega
theorem nht {l : List Sp} (h : ∀ s ∈ l, nearS s = true) : ∀ k, k ≤ l.length → ∀ u : Int, u ≤ 536870912 → u ≤ hHt (l.take k) u ∧ hHt (l.take k) u ≤ 536870912
  | 0, _, u, h2 => by simp [hHt]; omega
  | k + 1, hk, u, h2 => by
    have a := nht h k (by omega) u h2
    have hs := (nearS_iff _).1 (h l[k] (List.getElem_mem _))
    rw [take_snoc l k (by omega), hHt_snoc]
    split <;> omega
theorem near_place {l : List Sp} {x : Ow} (h : nearB l x = true) : placeF l x.up x.dn x.wd x.ls = ⟨posOf l x.up x.dn x.wd x.ls, htOf l x.up x.dn, hUp l x.up, 0⟩ := by
  obtain ⟨h1, ⟨h2, h3, h4, h5⟩, hn⟩ := (near_iff l x).1 h
  have ha : askedF l x.up x.dn x.wd x.ls = 0 := by
    unfold askedF
    rw [if_neg (by omega), if_neg, if_pos]
    · simp only [Bool.and_eq_true, fitsB, List.all_cons, List.all_nil, Bool.and_true, fitB_iff, List.all_eq_true]
      exact ⟨⟨by omega, by omega, by omega⟩, nfit hn⟩
    · intro hh
      obtain ⟨s, hs, h9⟩ := List.any_eq_true.1 hh
      have := (nearS_iff s).1 (hn s hs)
      simp at h9
      omega
  obtain ⟨b1, b2⟩ := nof hn l.length (Nat.le_refl _) x.up (by omega) (by omega)
  obtain ⟨_, b3⟩ := nof hn l.length (Nat.le_refl _) x.dn (by omega) (by omega)
  have b4 := nht hn l.length (Nat.le_refl _) (hUp l x.up + hDn l x.dn) (by rw [List.take_length] at b1 b3; omega)
  rw [List.take_length] at b1 b3 b4
  have hl : 0 ≤ leadF (x.wd - sumW l) x.ls ∧ leadF (x.wd - sumW l) x.ls ≤ 274877906944 := by
    have := nsum hn l.length (Nat.le_refl _)
    rw [List.take_length] at this
    unfold leadF; split <;> (try split) <;> omega
  have hf : (fitsB [htOf l x.up x.dn, hUp l x.up] && fitP (posOf l x.up x.dn x.wd x.ls)) = true := by
    simp only [Bool.and_eq_true, fitsB, List.all_cons, List.all_nil, Bool.and_true, fitB_iff, fitP, List.all_eq_true]
    refine ⟨⟨by unfold htOf; omega, by omega⟩, fun p hp => ?_⟩
    obtain ⟨k, hk, rfl⟩ := List.mem_iff_getElem.1 hp
    have hk2 : k < l.length := by simpa [posOf, posL_length] using hk
    have hg := posL_get (htOf l x.up x.dn) (hUp l x.up) l (leadF (x.wd - sumW l) x.ls) k hk2
    rw [List.getElem?_eq_getElem (by simpa [posL_length] using hk2)] at hg
    have hg2 := Option.some.inj hg
    have e : (posOf l x.up x.dn x.wd x.ls)[k] = ⟨leadF (x.wd - sumW l) x.ls + sumW (l.take k), yOf (htOf l x.up x.dn) (hUp l x.up) l[k]⟩ := hg2
    rw [e]
    have hs := (nearS_iff _).1 (hn l[k] (List.getElem_mem _))
    have hsu := nsum hn k (by omega)
    refine ⟨by simp only; omega, ?_⟩
    unfold htOf
    unfold yOf; simp only; split <;> (try split) <;> omega
  unfold placeF
  rw [if_pos ha, if_pos hf]
end Go.Proofs.Ytdhjgflkincapaa
