/- Contract: block's pile.put, all cases in one. -/
import Derived.Test.YtbcojkfndegjmaaPut
namespace Go.Proofs.Ytbcojkfndegjmaa
open Go.RowKit
set_option linter.unusedVariables false

theorem put_any (s : St) (k : Kd) (g B n : Nat) (w : World) (hBw : B ≤ w.heap.size) (hBg : B ≤ g) (hn : n ≤ 2048) (hp : Piled s g B n w) (hs : gdS 1099511627776 n s) (hk : gdK 1099511627776 k) :
    Calls Try.prog 36 #[.pointer (some ⟨g, 0, none⟩), .agg #[.int .i64 k.tp.up, .int .i64 k.tp.dn, .int .i64 k.bt.up, .int .i64 k.bt.dn, .int .i64 k.ht, .bool k.th]] w (PutPost (put s k) g B (n + 1) w) := by
  obtain ⟨A, c, hb, ho⟩ := hp
  have hv := inM_v (inM_mj hs.1 hk.2.1)
  have hy := hs.2.2.1
  have hht := hk.1
  rw [bnd_eq] at hy
  obtain ⟨ps, ⟨tu, td⟩, y, ⟨wu, wd⟩, out⟩ := s
  obtain ⟨⟨ku, kd⟩, ⟨ku2, kd2⟩, ht, th⟩ := k
  simp only at hv hy hht
  obtain ⟨v1, v2⟩ := hv
  have v1' : -1099511627776 ≤ max wu ku + min wd kd := v1
  have v2' : max wu ku + min wd kd ≤ 1099511627776 := v2
  have w1 : wrap64 (max wu ku + min wd kd) = max wu ku + min wd kd := IntWalk.wrap64_in _ ⟨by omega, by omega⟩
  have w2 : wrap64 (y + (max wu ku + min wd kd)) = y + (max wu ku + min wd kd) := IntWalk.wrap64_in _ ⟨by omega, by omega⟩
  cases th with
  | true =>
    cases out with
    | true =>
      refine (put_tt ku kd ku2 kd2 ht tu td y wu wd A n c g B _ w hBw hBg (by omega) hb ho (max wu ku) (min wd kd) rfl (max (max wu ku) ku2) (min (min wd kd) kd2) rfl).mono ?_
      rintro e w' ⟨h1, ⟨A', c', h2, h3⟩, h4⟩
      exact ⟨h1, ⟨A', c', h2, by rw [put_ps, icells_snoc]; exact h3⟩, h4⟩
    | false =>
      refine (put_tf ku kd ku2 kd2 ht tu td y wu wd A n c g B _ w hBw hBg (by omega) hb ho (max wu ku) (min wd kd) rfl (max (max wu ku) ku2) (min (min wd kd) kd2) rfl _ _ w1 w2).mono ?_
      rintro e w' ⟨h1, ⟨A', c', h2, h3⟩, h4⟩
      exact ⟨h1, ⟨A', c', h2, by rw [put_ps, icells_snoc]; exact h3⟩, h4⟩
  | false =>
    cases out with
    | true =>
      have w3 : wrap64 (y + ht) = y + ht := IntWalk.wrap64_in _ ⟨by omega, by omega⟩
      refine (put_ft ku kd ku2 kd2 ht tu td y wu wd A n c g B _ w hBw hBg (by omega) hb ho (max wu ku) (min wd kd) rfl _ w3).mono ?_
      rintro e w' ⟨h1, ⟨A', c', h2, h3⟩, h4⟩
      exact ⟨h1, ⟨A', c', h2, by rw [put_ps, icells_snoc]; exact h3⟩, h4⟩
    | false =>
      have w3 : wrap64 (y + (max wu ku + min wd kd) + ht) = y + (max wu ku + min wd kd) + ht := IntWalk.wrap64_in _ ⟨by omega, by omega⟩
      refine (put_ff ku kd ku2 kd2 ht tu td y wu wd A n c g B _ w hBw hBg (by omega) hb ho (max wu ku) (min wd kd) rfl _ _ w1 w2 _ w3).mono ?_
      rintro e w' ⟨h1, ⟨A', c', h2, h3⟩, h4⟩
      exact ⟨h1, ⟨A', c', h2, by rw [put_ps, icells_snoc]; exact h3⟩, h4⟩
end Go.Proofs.Ytbcojkfndegjmaa
