/- Contracts of the margin functions. -/
import Derived.Test.YtbcojkfndegjmaaRows
import Derived.Test.YtbcojkfndegjmaaWords
import Derived.Test.YtbcojkfndegjmaaPlain
import Derived.WalkSpells
import Derived.WalkLawsBesides
namespace Go.Proofs.Ytbcojkfndegjmaa
open Go.RowKit
attribute [local go_sem ↓] run_max run_min

def Mg.val (m : Mg) : Value := .agg #[.int .i64 m.up, .int .i64 m.dn]
def Mg.cs (m : Mg) : List Value := [.int .i64 m.up, .int .i64 m.dn]
def mcells (l : List Mg) : List Value := l.flatMap Mg.cs
theorem mcells_length (l : List Mg) : (mcells l).length = l.length * 2 := by
  induction l with
  | nil => rfl
  | cons x r ih => simp [mcells, Mg.cs] at ih ⊢; omega
theorem mcells_up (l : List Mg) (k : Nat) (h : k < l.length) : (mcells l)[k * 2]? = some (.int .i64 (l[k]).up) := by
  induction l generalizing k with
  | nil => simp at h
  | cons x r ih =>
    cases k with
    | zero => simp [mcells, Mg.cs]
    | succ k =>
      have := ih k (by simpa using h)
      simp only [mcells, List.flatMap_cons, Mg.cs] at this ⊢
      rw [show (k + 1) * 2 = k * 2 + 1 + 1 from by omega]
      simpa using this
theorem mcells_dn (l : List Mg) (k : Nat) (h : k < l.length) : (mcells l)[k * 2 + 1]? = some (.int .i64 (l[k]).dn) := by
  induction l generalizing k with
  | nil => simp at h
  | cons x r ih =>
    cases k with
    | zero => simp [mcells, Mg.cs]
    | succ k =>
      have := ih k (by simpa using h)
      simp only [mcells, List.flatMap_cons, Mg.cs] at this ⊢
      rw [show (k + 1) * 2 + 1 = k * 2 + 1 + 1 + 1 from by omega]
      simpa using this

set_option maxHeartbeats 400000 in
theorem one_any (n : Int) (w : World) :
    Calls Try.prog 18 #[.int .i64 n] w fun e w' => e = .returned (.agg #[.int .i64 (max n 0), .int .i64 (min n 0)]) ∧ Below w.heap.size w w' := by
  go_enter Try.func18, Try.ntmps18
  go_wp2
  exact bodyPost_ret (v := .agg #[.int .i64 (max n 0), .int .i64 (min n 0)]) (by simp [results, Try.results18, go_sem]) rfl ⟨rfl, (Below.refl _ _).alloc (Nat.le_refl _) _⟩

set_option maxHeartbeats 400000 in
theorem with_any (a b c d : Int) (w : World) :
    Calls Try.prog 30 #[.agg #[.int .i64 a, .int .i64 b], .agg #[.int .i64 c, .int .i64 d]] w fun e w' => e = .returned (.agg #[.int .i64 (max a c), .int .i64 (min b d)]) ∧ Below w.heap.size w w' := by
  go_enter Try.func30, Try.ntmps30
  go_wp2
  exact bodyPost_ret (v := .agg #[.int .i64 (max a c), .int .i64 (min b d)]) (by simp [results, Try.results30, go_sem]) rfl
    ⟨rfl, (((Below.refl _ _).alloc (Nat.le_refl _) _).alloc (by simp) _).alloc (by simp; omega) _⟩

set_option maxHeartbeats 400000 in
theorem folded_any (l : List Mg) (A : Option Addr) (cap : Nat) (w : World) (hR : Rd w w.heap.size 2 A l.length (mcells l)) (hl : l.length ≤ 4611686018427387904) :
    Calls Try.prog 29 #[.func (.func 30) #[] #[], .slice A l.length cap] w fun e w' => e = .returned (.agg #[.int .i64 (mJoin l).up, .int .i64 (mJoin l).dn]) ∧ Below w.heap.size w w' := by
  go_enter Try.func29, Try.ntmps29
  go_wp2
  go_loopw [10] (fun i wr => ∃ k : Nat, k ≤ l.length ∧ i = .int .i64 k ∧ Blk wr (w.heap.size + 1) 24 #[.int .i64 (mJoin (l.take k)).up, .int .i64 (mJoin (l.take k)).dn] ∧ Blk wr w.heap.size 24 #[.int .i64 0, .int .i64 0] ∧ Below w.heap.size w wr)
    (fun i _ => l.length - (intOf i).toNat)
  case atStart => exact ⟨0, Nat.zero_le _, rfl, by simpa [mJoin, mz] using Blk.new (w.alloc _) 24 #[.int .i64 0, .int .i64 0], (Blk.new _ 24 _).alloc _, ((Below.refl _ _).alloc (Nat.le_refl _) _).alloc (by simp) _⟩
  case round =>
    obtain ⟨k, hk, rfl, hm, hr, hb⟩ := hrel
    have hm0 := hm.cell 0
    have hm1 := hm.cell 1
    have hmf := hm.frozen
    have hr0 := hr.cell 0
    have hr1 := hr.cell 1
    have hrf := hr.frozen
    have hlt1 := hm.lt
    simp at hm0 hm1 hr0 hr1
    by_cases hlt : k < l.length
    · obtain ⟨b, off, rfl, hbB, hc⟩ := hR.2 (by omega)
      have hx0 := (hb.cell (p := ⟨b, off + k * 2, none⟩) hbB).trans (hc _ _ (mcells_up l k hlt))
      have hx1 := (hb.cell (p := ⟨b, off + (k * 2 + 1), none⟩) hbB).trans (hc _ _ (mcells_dn l k hlt))
      rw [← Nat.add_assoc] at hx1
      clear hc hR
      by_cases hk0 : k = 0
      · subst hk0
        rw [Nat.zero_mul, Nat.add_zero] at hx0 hx1
        have hj : mJoin (l.take 1) = l[0] := by
          cases l with
          | nil => simp at hlt
          | cons y r => rfl
        have HJ := hidd hj
        clear hj
        go_wp2
        go_roundw
        case rel =>
          refine ⟨1, by omega, rfl, ?_, ?_, ?_⟩
          · rw [HJ.out]; simpa using ((hm.set_ 0 _).set_ 1 _).alloc _
          · exact ((hr.far (by simp) _).far (by simp) _).alloc _
          · exact ((hb.setCell (by simp) _).setCell (by simp) _).alloc (by simp; omega) _
        case measure => simp [intOf]; omega
      · have hj : mJoin (l.take (k + 1)) = mj (mJoin (l.take k)) l[k] := by
          rw [List.take_succ_eq_append_getElem hlt, mJoin_snoc _ _ (by intro h; rw [List.take_eq_nil_iff] at h; rcases h with h | h <;> simp_all)]
        have HJ := hidd hj
        clear hj
        go_wp2_with (go_at_call 30; refine (with_any _ _ _ _ _).mono ?_; rintro e w' ⟨rfl, hb2⟩; have hm2 := (hm.alloc _).below hb2 (by simp; omega); have hr2 := (hr.alloc _).below hb2 (by simp; omega); have hm20 := hm2.cell 0; have hm21 := hm2.cell 1; have hm2f := hm2.frozen; simp at hm20 hm21; have hbb := (hb.alloc (by omega) _).trans (hb2.mono (by simp; omega)))
        go_roundw
        case rel =>
          refine ⟨k + 1, by omega, by go_num, ?_, ?_, ?_⟩
          · rw [HJ.out]; simpa [mj] using (hm2.set_ 0 _).set_ 1 _
          · exact (hr2.far (by simp) _).far (by simp) _
          · exact (hbb.setCell (by simp) _).setCell (by simp) _
        case measure => simp [intOf]; omega
    · have hkk : l.take k = l := List.take_of_length_le (by omega)
      rw [hkk] at hm0 hm1
      clear hR hm hkk
      go_wp2
      exact bodyPost_ret (v := .agg #[.int .i64 (mJoin l).up, .int .i64 (mJoin l).dn]) (by simp [results, Try.results29, go_sem, hr0, hr1]) rfl
        ⟨rfl, (hb.setCell (by simp) _).setCell (by simp) _⟩
end Go.Proofs.Ytbcojkfndegjmaa
