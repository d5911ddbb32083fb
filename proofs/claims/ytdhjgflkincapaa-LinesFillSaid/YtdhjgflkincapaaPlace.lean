/- Contract: inline.Place, the first half. -/
import Derived.Test.YtdhjgflkincapaaWays
import Derived.Test.YtdhjgflkincapaaSrc2
namespace Go.Proofs.Ytdhjgflkincapaa
open Go.RowKit
set_option linter.unusedVariables false
attribute [local go_sem ↓] run_max run_min

def Ps.cs (p : Ps) : List Value := [.int .i64 p.x, .int .i64 p.y]
def pcells (l : List Ps) : List Value := l.flatMap Ps.cs
theorem pcells_snoc (l : List Ps) (p : Ps) : pcells (l ++ [p]) = pcells l ++ [.int .i64 p.x, .int .i64 p.y] := by simp [pcells, Ps.cs]
def PlacePost (r : Pr) (w : World) (e : Ending) (w' : World) : Prop :=
  ∃ v, e = .returned (.tuple #[v, .int .i64 r.h, .int .i64 r.b, .int .i64 r.e]) ∧ w'.ownsRow w.heap.size 47 2 v r.ps.length (pcells r.ps) ∧ Below w.heap.size w w'
theorem own_base {w : World} {base base' : Nat} {e : TypeId} {size n : Nat} {v : Value} {xs : List Value} (h : w.ownsRow base' e size v n xs) (hb : base ≤ base') : w.ownsRow base e size v n xs := by
  refine ⟨h.1, ?_⟩
  rcases h.2 with h2 | ⟨g, cap, cur, h1, h2, h3⟩
  · exact .inl h2
  · exact .inr ⟨g, cap, cur, h1, by omega, h3⟩
theorem own_below {w w' : World} {base : Nat} {e : TypeId} {size n : Nat} {v : Value} {xs : List Value} (h : w.ownsRow base e size v n xs) (hb : Below w.heap.size w w') : w'.ownsRow base e size v n xs :=
  h.kept (row := none) ⟨hb.os, hb.tape, hb.output, hb.size, fun k hk _ => hb.block k hk⟩ (by cases v.ownBlock <;> simp)
theorem own_slice {w : World} {base : Nat} {e : TypeId} {size n : Nat} {v : Value} {xs : List Value} (h : w.ownsRow base e size v n xs) : ∃ A c, v = .slice A n c ∧ Rd w w.heap.size size A n xs := by
  have h' := h
  rcases h'.2 with ⟨rfl, rfl⟩ | ⟨g, cap, cur, rfl, _⟩
  · exact ⟨none, 0, rfl, Rd.of_own h⟩
  · exact ⟨_, _, rfl, Rd.of_own h⟩
/-- Fits of numbers that have just been built. -/
theorem fits_blk (xs : List Int) (r : Bool) (g n c : Nat) (cs : Array Value) (w : World) {t : TypeId} (hb : Blk w g t cs) (hcs : cs = (icells xs).toArray) (hn : xs.length = n) (hr : fitsB xs = r) (hl : n ≤ 4611686018427387904) :
    Calls Try.prog 31 #[.slice (some ⟨g, 0, none⟩) n c] w fun e w' => e = .returned (.bool r) ∧ w = w' := by
  subst hcs
  subst hn
  subst hr
  have hlen : (icells xs).length = xs.length * 1 := flat_length (fun n : Int => [Value.int .i64 n]) 1 (fun _ => rfl) xs
  exact fits_any xs (some ⟨g, 0, none⟩) c w ⟨hlen, fun _ => ⟨g, 0, rfl, hb.lt, fun j x hx => by rw [hb.cell (0 + j)]; simpa using hx⟩⟩ hl

def Sp.fits (s : Sp) : Prop := (-9223372036854775808 ≤ s.wd ∧ s.wd ≤ 9223372036854775807) ∧ (-9223372036854775808 ≤ s.up ∧ s.up ≤ 9223372036854775807) ∧ (-9223372036854775808 ≤ s.dn ∧ s.dn ≤ 9223372036854775807) ∧ s.al ≤ 255

set_option maxRecDepth 100000 in
set_option maxHeartbeats 4000000 in
theorem place_arg (l : List Sp) (up dn width : Int) (lines : Nat) (A : Option Addr) (cap : Nat) (w : World) (hlc : l.length ≤ cap) (hm : cap ≤ maxLen) (h : 2048 < l.length ∨ 2 < lines) :
    Calls Try.prog 19 #[.slice A l.length cap, .int .i64 up, .int .i64 dn, .int .i64 width, .int .u8 lines] w (PlacePost ⟨[], 0, 0, 2⟩ w) := by
  unfold maxLen at hm
  by_cases h1 : 2048 < l.length
  · have hd : decide ((2048 : Int) < (l.length : Int)) = true := by simp; omega
    go_enter Try.func19, Try.ntmps19
    go_wp2_with (fail)
    exact bodyPost_ret (v := .tuple #[.slice none 0 0, .int .i64 0, .int .i64 0, .int .i64 2]) (by simp [results, Try.results19, go_sem]) rfl ⟨_, rfl, World.ownsRow_nil _ _ _ _, Below.refl _ _⟩
  · have hd : decide ((2048 : Int) < (l.length : Int)) = false := by simp; omega
    have hd2 : decide ((2 : Int) < (lines : Int)) = true := by simp; omega
    go_enter Try.func19, Try.ntmps19
    go_wp2_with (fail)
    exact bodyPost_ret (v := .tuple #[.slice none 0 0, .int .i64 0, .int .i64 0, .int .i64 2]) (by simp [results, Try.results19, go_sem]) rfl ⟨_, rfl, World.ownsRow_nil _ _ _ _, Below.refl _ _⟩

/-- what the first loop holds -/
def Fst (l : List Sp) (F0 : Bool) (k : Nat) (F : Bool) (a : Int) : Prop := F = (F0 && (l.take k).all fitS) ∧ (F = true → a = sumW (l.take k)) ∧ ∀ s ∈ l.take k, s.al ≤ 2
theorem Fst.zero (l : List Sp) (F0 : Bool) : Fst l F0 0 F0 0 := ⟨by simp, fun _ => rfl, by simp⟩
theorem Fst.step {l : List Sp} {F0 F : Bool} {k : Nat} {a : Int} (h : Fst l F0 k F a) (hk : k < l.length) (hl : l.length ≤ 2048) (ha : l[k].al ≤ 2) : Fst l F0 (k + 1) (F && fitS l[k]) (wrap64 (a + l[k].wd)) := by
  obtain ⟨h1, h2, h3⟩ := h
  refine ⟨?_, fun hF => ?_, ?_⟩
  · rw [take_snoc l k hk, List.all_append, h1]; simp [Bool.and_assoc]
  · simp only [Bool.and_eq_true] at hF
    have hs := (fitS_iff _).1 hF.2
    have hall : FitL (l.take k) := by
      have := hF.1
      rw [h1] at this
      simp only [Bool.and_eq_true, List.all_eq_true] at this
      exact this.2
    have hb := bound_sum (l.take k) hall (l.take k).length (Nat.le_refl _)
    rw [List.take_length, List.length_take, Nat.min_eq_left (by omega)] at hb
    rw [take_snoc l k hk, sumW_snoc, h2 hF.1]
    exact IntWalk.wrap64_in _ ⟨by omega, by omega⟩
  · rw [take_snoc l k hk]
    intro s hs
    rcases List.mem_append.1 hs with hs | hs
    · exact h3 s hs
    · simp at hs; rw [hs]; exact ha
end Go.Proofs.Ytdhjgflkincapaa
