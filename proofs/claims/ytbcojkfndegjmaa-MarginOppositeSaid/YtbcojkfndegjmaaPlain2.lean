/- Margins of lengths: plain. -/
import Derived.Test.YtbcojkfndegjmaaPlain
namespace Go.Proofs.Ytbcojkfndegjmaa
/-- a length's margin -/
def oneM (n : Int) : Mg := ⟨max n 0, min n 0⟩
def jn (l : List Int) (k : Nat) : Mg := mJoin ((l.take k).map oneM)
theorem jn_zero (l : List Int) : jn l 0 = ⟨0, 0⟩ := by simp [jn, mJoin, mz]
theorem jn_step (l : List Int) (k : Nat) (h : k < l.length) (hu : 0 ≤ (jn l k).up) (hd : (jn l k).dn ≤ 0) :
    jn l (k + 1) = ⟨max (jn l k).up l[k], min (jn l k).dn l[k]⟩ := by
  have e : jn l (k + 1) = mJoin ((l.take k).map oneM ++ [oneM l[k]]) := by
    unfold jn; rw [List.take_succ_eq_append_getElem h, List.map_append]; rfl
  by_cases hk : k = 0
  · subst hk
    rw [jn_zero, e]
    simp [mJoin, oneM]
    constructor <;> omega
  · rw [e, mJoin_snoc _ _ (by intro hh; have := congrArg List.length hh; rw [List.length_map, List.length_take, List.length_nil] at this; omega)]
    show mj (jn l k) (oneM l[k]) = _
    simp [mj, oneM]
    omega
theorem jn_sign (l : List Int) : ∀ k, k ≤ l.length → 0 ≤ (jn l k).up ∧ (jn l k).dn ≤ 0
  | 0, _ => by rw [jn_zero]; exact ⟨by simp, by simp⟩
  | k + 1, h => by
    obtain ⟨h1, h2⟩ := jn_sign l k (by omega)
    rw [jn_step l k (by omega) h1 h2]
    exact ⟨by simp; omega, by simp; omega⟩
end Go.Proofs.Ytbcojkfndegjmaa
