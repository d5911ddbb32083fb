/- What chapter 11 says, on plain data: spots, places. Nothing of the program. -/
import Derived.Below
namespace Go.Proofs.Ytdhjgflkincapaa
def fitB (n : Int) : Bool := decide (-1099511627776 ≤ n) && decide (n ≤ 1099511627776)
theorem fitB_iff (n : Int) : fitB n = true ↔ -1099511627776 ≤ n ∧ n ≤ 1099511627776 := by simp [fitB]
def fitsB (l : List Int) : Bool := l.all fitB
theorem fitsB_nil : fitsB [] = true := rfl
theorem fitsB_cons (x : Int) (l : List Int) : fitsB (x :: l) = (fitB x && fitsB l) := rfl

/-- a spot: how wide, how far up and down, how it stands -/
structure Sp where
  wd : Int
  up : Int
  dn : Int
  al : Nat
structure Ps where
  x : Int
  y : Int
def fitS (s : Sp) : Bool := fitsB [s.wd, s.up, s.dn]
theorem fitS_iff (s : Sp) : fitS s = true ↔ (-1099511627776 ≤ s.wd ∧ s.wd ≤ 1099511627776) ∧ (-1099511627776 ≤ s.up ∧ s.up ≤ 1099511627776) ∧ (-1099511627776 ≤ s.dn ∧ s.dn ≤ 1099511627776) := by
  simp [fitS, fitsB, fitB_iff]
def FitL (l : List Sp) : Prop := ∀ s ∈ l, fitS s = true

def hUp (l : List Sp) (u : Int) : Int := l.foldl (fun u s => if s.al = 0 then max u s.up else u) u
def hDn (l : List Sp) (u : Int) : Int := l.foldl (fun u s => if s.al = 0 then max u s.dn else u) u
def hHt (l : List Sp) (h : Int) : Int := l.foldl (fun h s => if s.al = 0 then h else max h (s.up + s.dn)) h
def sumW (l : List Sp) : Int := l.foldl (fun a s => a + s.wd) 0
theorem hUp_snoc (l : List Sp) (s : Sp) (u : Int) : hUp (l ++ [s]) u = if s.al = 0 then max (hUp l u) s.up else hUp l u := by simp [hUp, List.foldl_append]
theorem hDn_snoc (l : List Sp) (s : Sp) (u : Int) : hDn (l ++ [s]) u = if s.al = 0 then max (hDn l u) s.dn else hDn l u := by simp [hDn, List.foldl_append]
theorem hHt_snoc (l : List Sp) (s : Sp) (u : Int) : hHt (l ++ [s]) u = if s.al = 0 then hHt l u else max (hHt l u) (s.up + s.dn) := by simp [hHt, List.foldl_append]
theorem sumW_snoc (l : List Sp) (s : Sp) : sumW (l ++ [s]) = sumW l + s.wd := by simp [sumW, List.foldl_append]
theorem take_snoc {α : Type} (l : List α) (k : Nat) (h : k < l.length) : l.take (k + 1) = l.take k ++ [l[k]] := List.take_succ_eq_append_getElem h

theorem bound_of (l : List Sp) (hf : FitL l) : ∀ k, k ≤ l.length → ∀ u : Int, -1099511627776 ≤ u → u ≤ 1099511627776 →
    (-1099511627776 ≤ hUp (l.take k) u ∧ hUp (l.take k) u ≤ 1099511627776) ∧ (-1099511627776 ≤ hDn (l.take k) u ∧ hDn (l.take k) u ≤ 1099511627776)
  | 0, _, u, h1, h2 => by simp [hUp, hDn]; omega
  | k + 1, hk, u, h1, h2 => by
    obtain ⟨a, b⟩ := bound_of l hf k (by omega) u h1 h2
    have hs := (fitS_iff _).1 (hf l[k] (List.getElem_mem _))
    rw [take_snoc l k (by omega), hUp_snoc, hDn_snoc]
    constructor <;> split <;> omega
theorem bound_ht (l : List Sp) (hf : FitL l) : ∀ k, k ≤ l.length → ∀ u : Int, -2199023255552 ≤ u → u ≤ 2199023255552 →
    -2199023255552 ≤ hHt (l.take k) u ∧ hHt (l.take k) u ≤ 2199023255552
  | 0, _, u, h1, h2 => by simp [hHt]; omega
  | k + 1, hk, u, h1, h2 => by
    have a := bound_ht l hf k (by omega) u h1 h2
    have hs := (fitS_iff _).1 (hf l[k] (List.getElem_mem _))
    rw [take_snoc l k (by omega), hHt_snoc]
    split <;> omega
theorem bound_sum (l : List Sp) (hf : FitL l) : ∀ k, k ≤ l.length → -1099511627776 * (k : Int) ≤ sumW (l.take k) ∧ sumW (l.take k) ≤ 1099511627776 * (k : Int)
  | 0, _ => by simp [sumW]
  | k + 1, hk => by
    have a := bound_sum l hf k (by omega)
    have hs := (fitS_iff _).1 (hf l[k] (List.getElem_mem _))
    rw [take_snoc l k (by omega), sumW_snoc]
    omega

/-- where a spot stands upright -/
def yOf (h b : Int) (s : Sp) : Int := if s.al = 0 then b - s.up else if s.al = 1 then 0 else h - s.up - s.dn
def posL (h b : Int) : Int → List Sp → List Ps
  | _, [] => []
  | x, s :: r => ⟨x, yOf h b s⟩ :: posL h b (x + s.wd) r
theorem posL_length (h b : Int) : ∀ (x : Int) (l : List Sp), (posL h b x l).length = l.length
  | _, [] => rfl
  | x, s :: r => by simp [posL, posL_length h b _ r]
theorem posL_snoc (h b : Int) (s : Sp) : ∀ (l : List Sp) (x : Int), posL h b x (l ++ [s]) = posL h b x l ++ [⟨x + sumW l, yOf h b s⟩]
  | [], x => by simp [posL, sumW]
  | t :: r, x => by
    simp only [List.cons_append, posL, posL_snoc h b s r]
    have : x + t.wd + sumW r = x + sumW (t :: r) := by
      have hh : ∀ (l : List Sp) (a : Int), l.foldl (fun a s => a + s.wd) a = a + sumW l := by
        intro l
        induction l with
        | nil => intro a; simp [sumW]
        | cons q l ih => intro a; simp only [List.foldl_cons, sumW]; rw [ih, ih (0 + q.wd)]; omega
      have h2 := hh r (0 + t.wd)
      simp only [sumW, List.foldl_cons] at *
      omega
    rw [this]
def fitP (l : List Ps) : Bool := l.all fun p => fitsB [p.x, p.y]
theorem fitP_snoc (l : List Ps) (p : Ps) : fitP (l ++ [p]) = (fitP l && fitsB [p.x, p.y]) := by simp only [fitP, List.all_append, List.all_cons, List.all_nil, Bool.and_true]

def leadF (free : Int) (lines : Nat) : Int := if lines = 1 then max 0 free else if lines = 2 then max 0 free / 2 else 0
structure Pr where
  ps : List Ps
  h : Int
  b : Int
  e : Int
def askedF (l : List Sp) (up dn width : Int) (lines : Nat) : Int :=
  if 2048 < l.length ∨ 2 < lines then 2 else if l.any (fun s => decide (2 < s.al)) = true then 2 else if (fitsB [up, dn, width] && l.all fitS) = true then 0 else 10
def htOf (l : List Sp) (up dn : Int) : Int := hHt l (hUp l up + hDn l dn)
def posOf (l : List Sp) (up dn width : Int) (lines : Nat) : List Ps := posL (htOf l up dn) (hUp l up) (leadF (width - sumW l) lines) l
def placeF (l : List Sp) (up dn width : Int) (lines : Nat) : Pr :=
  if askedF l up dn width lines = 0 then
    if (fitsB [htOf l up dn, hUp l up] && fitP (posOf l up dn width lines)) = true then ⟨posOf l up dn width lines, htOf l up dn, hUp l up, 0⟩ else ⟨[], 0, 0, 10⟩
  else ⟨[], 0, 0, askedF l up dn width lines⟩
end Go.Proofs.Ytdhjgflkincapaa
