/- Contracts: fixed.Fits and what it calls. -/
import Derived.Test.YtdhjgflkincapaaRows
import Derived.Test.YtdhjgflkincapaaWords
import Derived.Test.YtdhjgflkincapaaPlainI
import Derived.WalkSpells
import Derived.WalkLawsBesides
namespace Go.Proofs.Ytdhjgflkincapaa
open Go.RowKit
set_option linter.unusedVariables false
theorem flat1 (l : List Int) (k : Nat) (h : k < l.length) : (l.flatMap fun n => [Value.int .i64 n])[k]? = some (.int .i64 l[k]) := by
  induction l generalizing k with
  | nil => simp at h
  | cons x r ih =>
    cases k with
    | zero => simp
    | succ k => simpa using ih k (by simpa using h)
def icells (l : List Int) : List Value := l.flatMap fun n => [.int .i64 n]

set_option maxHeartbeats 400000 in
theorem fit1_any (n : Int) (w : World) : Calls Try.prog 44 #[.int .i64 n] w fun e w' => e = .returned (.bool (!fitB n)) ∧ w = w' := by
  go_enter Try.func44, Try.ntmps44
  go_wp2
  all_goals
    go_ret
    exact ⟨ret_bool (by rw [Bool.eq_iff_iff]; simp [fitB]; try omega), rfl⟩
theorem fit1_yes (n : Int) (h : fitB n = true) (w : World) : Calls Try.prog 44 #[.int .i64 n] w fun e w' => e = .returned (.bool false) ∧ w = w' := by
  have := fit1_any n w
  rw [h] at this; exact this
theorem fit1_no (n : Int) (h : fitB n = false) (w : World) : Calls Try.prog 44 #[.int .i64 n] w fun e w' => e = .returned (.bool true) ∧ w = w' := by
  have := fit1_any n w
  rw [h] at this; exact this

def idx (l : List Int) (r : Int) : Prop := (0 ≤ r ∧ fitsB l = false) ∨ (r = -1 ∧ fitsB l = true)
theorem fits_take (l : List Int) (k : Nat) (h : k < l.length) : fitsB (l.take (k + 1)) = (fitsB (l.take k) && fitB l[k]) := by
  rw [List.take_succ_eq_append_getElem h]; simp only [fitsB, List.all_append, List.all_cons, List.all_nil, Bool.and_true]
theorem fits_false (l : List Int) (k : Nat) (h : k < l.length) (hf : fitB l[k] = false) : fitsB l = false := by
  simp only [fitsB, List.all_eq_false]
  exact ⟨l[k], List.getElem_mem h, by simp [hf]⟩

def IdxPost (l : List Int) (w : World) (e : Ending) (w' : World) : Prop := ∃ r : Int, idx l r ∧ e = .returned (.int .i64 r) ∧ w = w'
set_option maxHeartbeats 1000000 in
theorem index_any (l : List Int) (A : Option Addr) (cap : Nat) (w : World) (hR : Rd w w.heap.size 1 A l.length (icells l)) (hl : l.length ≤ 4611686018427387904) :
    Calls Try.prog 55 #[.slice A l.length cap, .func (.func 44) #[] #[]] w (IdxPost l w) := by
  go_enter Try.func55, Try.ntmps55
  go_wp2_with (fail)
  go_loop [8] (fun i => ∃ k : Nat, k ≤ l.length ∧ i = .int .i64 k ∧ fitsB (l.take k) = true) (fun i => l.length - (intOf i).toNat)
  case atStart => exact ⟨0, Nat.zero_le _, rfl, rfl⟩
  case round =>
    obtain ⟨k, hk, rfl, hf⟩ := hrel
    by_cases hlt : k < l.length
    · obtain ⟨b, off, rfl, hbB, hc⟩ := hR.2 (by omega)
      have hx := hc k (.int .i64 l[k]) (flat1 l k hlt)
      have ht := fits_take l k hlt
      have HF := hidd (And.intro hf ht)
      clear hc hR hf ht
      cases hfk : fitB l[k] with
      | true =>
        have HK := hidd hfk
        go_wp2_with (go_at_call 44; refine (fit1_yes _ hfk _).mono ?_; rintro e w' ⟨rfl, rfl⟩)
        go_round
        case rel => exact ⟨k + 1, by omega, by go_num, by rw [HF.out.2, HF.out.1, HK.out]; rfl⟩
        case measure => simp [intOf]; omega
      | false =>
        have hff := hidd (fits_false l k hlt hfk)
        go_wp2_with (go_at_call 44; refine (fit1_no _ hfk _).mono ?_; rintro e w' ⟨rfl, rfl⟩)
        go_ret
        exact ⟨k, .inl ⟨by omega, hff.out⟩, rfl, rfl⟩
    · have hkk : l.take k = l := List.take_of_length_le (by omega)
      rw [hkk] at hf
      have HF := hidd hf
      clear hf hkk hR
      go_wp2_with (fail)
      go_ret
      exact ⟨-1, .inr ⟨rfl, HF.out⟩, rfl, rfl⟩

set_option maxHeartbeats 1000000 in
theorem contains_any (l : List Int) (A : Option Addr) (cap : Nat) (w : World) (hR : Rd w w.heap.size 1 A l.length (icells l)) (hl : l.length ≤ 4611686018427387904) :
    Calls Try.prog 43 #[.slice A l.length cap, .func (.func 44) #[] #[]] w fun e w' => e = .returned (.bool (!fitsB l)) ∧ w = w' := by
  go_enter Try.func43, Try.ntmps43
  go_wp2_with (fail)
  refine (index_any l A cap w hR hl).mono ?_
  rintro e w' ⟨r, hr, rfl, rfl⟩
  go_wp2_with (fail)
  go_ret
  refine ⟨ret_bool ?_, rfl⟩
  rcases hr with ⟨h1, h2⟩ | ⟨h1, h2⟩
  · rw [h2]; simpa using h1
  · rw [h2, h1]; rfl

set_option maxHeartbeats 1000000 in
theorem fits_any (l : List Int) (A : Option Addr) (cap : Nat) (w : World) (hR : Rd w w.heap.size 1 A l.length (icells l)) (hl : l.length ≤ 4611686018427387904) :
    Calls Try.prog 31 #[.slice A l.length cap] w fun e w' => e = .returned (.bool (fitsB l)) ∧ w = w' := by
  go_enter Try.func31, Try.ntmps31
  go_wp2_with (fail)
  refine (contains_any l A cap w hR hl).mono ?_
  rintro e w' ⟨rfl, rfl⟩
  go_wp2_with (fail)
  go_ret
  exact ⟨ret_bool (by cases fitsB l <;> rfl), rfl⟩
end Go.Proofs.Ytdhjgflkincapaa
