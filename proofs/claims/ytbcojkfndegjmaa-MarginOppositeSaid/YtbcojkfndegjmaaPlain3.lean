/- Opposite lengths have the opposite margin; bounds: plain. -/
import Derived.Test.YtbcojkfndegjmaaPlain2
namespace Go.Proofs.Ytbcojkfndegjmaa
def oppM (m : Mg) : Mg := ⟨-m.dn, -m.up⟩
theorem mj_opp (a b : Mg) : mj (oppM a) (oppM b) = oppM (mj a b) := by
  simp only [mj, oppM, Mg.mk.injEq]; omega
theorem one_opp (n : Int) : oneM (-n) = oppM (oneM n) := by
  simp only [oneM, oppM, Mg.mk.injEq]; omega
theorem foldl_opp (r : List Int) : ∀ x : Mg, (r.map fun n => oneM (-n)).foldl mj (oppM x) = oppM ((r.map oneM).foldl mj x) := by
  induction r with
  | nil => intro x; rfl
  | cons y r ih =>
    intro x
    simp only [List.map_cons, List.foldl_cons]
    rw [one_opp, mj_opp]
    exact ih _
theorem mJoin_opp (l : List Int) : mJoin (l.map fun n => oneM (-n)) = oppM (mJoin (l.map oneM)) := by
  cases l with
  | nil => simp [mJoin, mz, oppM]
  | cons x r =>
    simp only [List.map_cons, mJoin]
    rw [one_opp]
    exact foldl_opp r _
theorem jn_bound (l : List Int) (M : Int) (hM : 0 ≤ M) : ∀ k, k ≤ l.length → (∀ n ∈ l.take k, n ≤ M ∧ -M ≤ n) → (jn l k).up ≤ M ∧ -M ≤ (jn l k).dn
  | 0, _, _ => by rw [jn_zero]; exact ⟨hM, by simpa using hM⟩
  | k + 1, h, hb => by
    have hlt : k < l.length := by omega
    have e := List.take_succ_eq_append_getElem hlt
    obtain ⟨h1, h2⟩ := jn_bound l M hM k (by omega) (fun n hn => hb n (by rw [e]; exact List.mem_append_left _ hn))
    obtain ⟨s1, s2⟩ := jn_sign l k (by omega)
    obtain ⟨b1, b2⟩ := hb l[k] (e ▸ List.mem_append_right _ (List.mem_singleton.2 rfl))
    rw [jn_step l k hlt s1 s2]
    exact ⟨by simp; omega, by simp; omega⟩
end Go.Proofs.Ytbcojkfndegjmaa
