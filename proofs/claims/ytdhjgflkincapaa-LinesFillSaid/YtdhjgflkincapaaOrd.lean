/- A region that draws its order: an order of my own choice serves every order, where each operation is either one that yields one value in every world of a class and that nobody else disturbs, or the only one that may come up. The class need not hold behind one named operation (a store at the end). Nothing of the program. -/
import Derived.OrdersHeld
import Derived.RegionTactic
import Derived.Deep.Quiet
namespace Go.Proofs.Ytdhjgflkincapaa
open Go
section
variable {P : Program} {ops : Array Oper} {Q : Exit → Act → World → Prop} {md : Region.Mode} {S : World → Prop} {st : Nat}

def AnyG (P : Program) (md : Region.Mode) (ops : Array Oper) (Q : Exit → Act → World → Prop) (S : World → Prop) (st : Nat) : Nat → Array Bool → Act → World → Prop
  | 0, listed, a, w => Region.ready md ops listed = [] ∧ Q .normal a w
  | fuel + 1, listed, a, w =>
    (Region.ready md ops listed = [] → Q .normal a w) ∧
    ∀ i ∈ Region.ready md ops listed, wpOp P ops Q i (fun a' w' => (i ≠ st → S w') ∧ AnyG P md ops Q S st fuel (listed.setIfInBounds i true) a' w') a w

theorem any_of_G : ∀ (fuel : Nat) (listed : Array Bool) (a : Act) (w : World), AnyG P md ops Q S st fuel listed a w → wpAny P md ops Q fuel listed a w
  | 0, _, _, _, h => h
  | fuel + 1, _, _, _, h => ⟨h.1, fun i hi => wpOp_mono (fun a' w' h' => any_of_G fuel _ a' w' h'.2) (h.2 i hi)⟩

/-- Operation i is waited for by the named one, or none is named. -/
def stWaits (md : Region.Mode) (ops : Array Oper) (st i : Nat) : Bool :=
  decide (ops.size ≤ st) || match ops[st]? with
    | some o => o.after.any fun e => Region.binds md e && e.on == i
    | none => false

theorem G_first {i : Nat} {oi : Oper} {v : Value} (hi : ops[i]? = some oi) (hsel : ∀ (j : Nat) (o : Oper) cs b, ops[j]? = some o → o.op ≠ .select cs b)
    (hQ : ∀ c a w, Q (.panic c) (a.put oi.dst v) w → Q (.panic c) a w) (hst : stWaits md ops st i = true) :
    ∀ (fuel : Nat) (listed : Array Bool) (a : Act) (w : World),
      (∀ j oj, ops[j]? = some oj → j ≠ i → listed.getD j true = false → (∀ e ∈ oj.after, Region.binds md e = true → e.on ≠ i) → oi.apart ops oj = true) →
      i ∈ Region.ready md ops listed → YieldsIf P ops S oi v a → S w →
      AnyG P md ops Q S st fuel (listed.setIfInBounds i true) (a.put oi.dst v) w → AnyG P md ops Q S st (fuel + 1) listed a w := by
  intro fuel
  induction fuel with
  | zero =>
    intro listed a w _ hr hy hS H
    refine ⟨fun h => (by rw [h] at hr; cases hr), fun j hj => ?_⟩
    by_cases hji : j = i
    · subst hji; exact hy.wpOp hi hS ⟨fun _ => hS, H⟩
    · have := ready_mono hj hji
      rw [H.1] at this
      cases this
  | succ fuel ih =>
    intro listed a w hfree hr hy hS H
    refine ⟨fun h => (by rw [h] at hr; cases hr), fun j hj => ?_⟩
    by_cases hji : j = i
    · subst hji; exact hy.wpOp hi hS ⟨fun _ => hS, H⟩
    · have h1 := H.2 j (ready_mono hj hji)
      obtain ⟨hjun, oj, hoj, hall⟩ := mem_ready.1 hj
      have hiun := (mem_ready.1 hr).1
      have hnot : ∀ e ∈ oj.after, Region.binds md e = true → e.on ≠ i := fun e he hb heq => by
        have h1 := hall e he hb
        rw [heq] at h1
        rcases Nat.lt_or_ge i listed.size with h' | h'
        · simp [h'] at hiun h1; rw [hiun] at h1; cases h1
        · simp [Array.getElem?_eq_none h'] at h1
      have hjst : j ≠ st := by
        rintro rfl
        unfold stWaits at hst
        rw [hoj] at hst
        simp only [Bool.or_eq_true, decide_eq_true_eq] at hst
        rcases hst with h | h
        · have := (Array.getElem?_eq_some_iff.1 hoj).1; omega
        · obtain ⟨e, he, hb⟩ := Array.any_eq_true'.1 h
          simp only [Bool.and_eq_true, beq_iff_eq] at hb
          exact hnot e he hb.1 hb.2
      have h2 := wpOp_putIf hoj (hfree j oj hoj hji hjun hnot) (fun cs b => hsel i oi cs b hi) (fun cs b => hsel j oj cs b hoj) hQ hy h1
      have hfree' : ∀ k ok, ops[k]? = some ok → k ≠ i → (listed.setIfInBounds j true).getD k true = false →
          (∀ e ∈ ok.after, Region.binds md e = true → e.on ≠ i) → oi.apart ops ok = true := fun k ok hk hki hun hno => by
        refine hfree k ok hk hki ?_ hno
        by_cases hjk : j = k
        · subst hjk; exact hjun
        · rw [getD_set_ne true hjk] at hun; exact hun
      refine wpOp_mono (fun a' w' h3 => ⟨fun _ => h3.2.1 hjst, ih (listed.setIfInBounds j true) a' w' hfree' (ready_mono hr (Ne.symm hji)) h3.1 (h3.2.1 hjst) ?_⟩) h2
      rw [Array.setIfInBounds_comm _ _ hji]
      exact h3.2.2

/-- The walk in the order that is named: (i, true): taken ahead of whatever else; (i, false): the only one that may come up. -/
def Ord (P : Program) (ops : Array Oper) (Q : Exit → Act → World → Prop) (S : World → Prop) (st : Nat) : List (Nat × Bool) → Act → World → Prop
  | [], a, w => Q .normal a w
  | (i, true) :: r, a, w => match ops[i]? with
    | none => False
    | some o => if Region.wanted o (yielded ops a.tmps) = true then ∃ v, (∀ w', S w' → (execOp a.eval o).run P w' = .ok (.value v) w') ∧ Ord P ops Q S st r (a.put o.dst v) w else Ord P ops Q S st r (a.put o.dst undef) w
  | (i, false) :: r, a, w => wpOp P ops Q i (fun a' w' => (i ≠ st → S w') ∧ Ord P ops Q S st r a' w') a w

def ordB (md : Region.Mode) (ops : Array Oper) (st : Nat) : List (Nat × Bool) → Array Bool → Bool
  | [], listed => (Region.ready md ops listed).isEmpty
  | (i, t) :: r, listed => (if t then (Region.ready md ops listed).contains i && Region.free md ops listed i && stWaits md ops st i else Region.ready md ops listed == [i] && (r.isEmpty || i != st)) && ordB md ops st r (listed.setIfInBounds i true)

theorem G_of_ord (hs : Region.noSelect ops = true) (hQ : ∀ c a d v w, Q (.panic c) (a.put d v) w → Q (.panic c) a w) :
    ∀ (l : List (Nat × Bool)) (listed : Array Bool) (a : Act) (w : World), ordB md ops st l listed = true → (l ≠ [] → S w) → Ord P ops Q S st l a w → AnyG P md ops Q S st l.length listed a w
  | [], _, _, _, hB, _, h => ⟨by simpa [ordB] using hB, h⟩
  | (i, true) :: r, listed, a, w, hB, hS, h => by
    simp only [ordB, if_true, Bool.and_eq_true] at hB
    obtain ⟨⟨⟨hr, hf⟩, hw⟩, hB'⟩ := hB
    unfold Ord at h
    split at h
    · exact h.elim
    · rename_i o ho
      have key : ∃ v, YieldsIf P ops S o v a ∧ Ord P ops Q S st r (a.put o.dst v) w := by
        split at h
        · rename_i hwd
          obtain ⟨v, hv, hK⟩ := h
          exact ⟨v, .inl ⟨hwd, hv⟩, hK⟩
        · rename_i hwd
          exact ⟨undef, .inr ⟨by simpa using hwd, rfl⟩, h⟩
      obtain ⟨v, hy, hK⟩ := key
      exact G_first ho (Region.noSelect_spec hs) (fun c a w => hQ c a _ _ w) hw r.length listed a w (Region.free_spec ho hf) (by simpa using hr) hy (hS (by simp))
        (G_of_ord hs hQ r _ _ _ hB' (fun _ => hS (by simp)) hK)
  | (i, false) :: r, listed, a, w, hB, _, h => by
    simp only [ordB, Bool.false_eq_true, if_false, Bool.and_eq_true, beq_iff_eq, Bool.or_eq_true, bne_iff_ne, List.isEmpty_iff] at hB
    obtain ⟨⟨hr, hlast⟩, hB'⟩ := hB
    unfold Ord at h
    refine ⟨fun h0 => (by rw [hr] at h0; cases h0), fun j hj => ?_⟩
    rw [hr] at hj
    obtain rfl : j = i := by simpa using hj
    refine wpOp_mono (fun a' w' h' => ⟨h'.1, G_of_ord hs hQ r _ a' w' hB' (fun hne => h'.1 (hlast.resolve_left hne)) h'.2⟩) h

/-- The same walk, the operations written out beside their numbers. -/
def OrdL (P : Program) (ops : Array Oper) (Q : Exit → Act → World → Prop) (S : World → Prop) (st : Nat) : List ((Nat × Bool) × Option Oper) → Act → World → Prop
  | [], a, w => Q .normal a w
  | ((_, true), some o) :: r, a, w => if Region.wanted o (yielded ops a.tmps) = true then ∃ v, (∀ w', S w' → (execOp a.eval o).run P w' = .ok (.value v) w') ∧ OrdL P ops Q S st r (a.put o.dst v) w else OrdL P ops Q S st r (a.put o.dst undef) w
  | ((i, false), some o) :: r, a, w => if Region.wanted o (yielded ops a.tmps) = true then Oper.wp P o a w (fun a' w' => (i ≠ st → S w') ∧ OrdL P ops Q S st r a' w') Q else (i ≠ st → S w) ∧ OrdL P ops Q S st r (a.put o.dst undef) w
  | (_, none) :: _, _, _ => False

theorem ord_of_L : ∀ (l : List (Nat × Bool)) (a : Act) (w : World), OrdL P ops Q S st (l.map fun p => (p, ops[p.1]?)) a w → Ord P ops Q S st l a w
  | [], _, _, h => h
  | (i, t) :: r, a, w, h => by
    rw [List.map_cons] at h
    cases ho : ops[i]? with
    | none => rw [ho] at h; cases t <;> exact h.elim
    | some o =>
      rw [ho] at h
      cases t with
      | true =>
        unfold Ord
        rw [ho]
        show if Region.wanted o (yielded ops a.tmps) = true then _ else _
        have h' : if Region.wanted o (yielded ops a.tmps) = true then ∃ v, (∀ w', S w' → (execOp a.eval o).run P w' = .ok (.value v) w') ∧ OrdL P ops Q S st (r.map fun p => (p, ops[p.1]?)) (a.put o.dst v) w else OrdL P ops Q S st (r.map fun p => (p, ops[p.1]?)) (a.put o.dst undef) w := h
        split
        · rename_i hw
          rw [if_pos hw] at h'
          obtain ⟨v, hv, hk⟩ := h'
          exact ⟨v, hv, ord_of_L r _ _ hk⟩
        · rename_i hw
          rw [if_neg hw] at h'
          exact ord_of_L r _ _ h'
      | false =>
        have h' : if Region.wanted o (yielded ops a.tmps) = true then Oper.wp P o a w (fun a' w' => (i ≠ st → S w') ∧ OrdL P ops Q S st (r.map fun p => (p, ops[p.1]?)) a' w') Q else (i ≠ st → S w) ∧ OrdL P ops Q S st (r.map fun p => (p, ops[p.1]?)) (a.put o.dst undef) w := h
        unfold Ord
        refine wpOp_step ho (fun K' hK => ?_)
        split
        · rename_i hw
          rw [if_pos hw] at h'
          exact Oper.wp_mono (fun a w hh => hK _ _ ⟨hh.1, ord_of_L r _ _ hh.2⟩) h'
        · rename_i hw
          rw [if_neg hw] at h'
          exact hK _ _ ⟨h'.1, ord_of_L r _ _ h'.2⟩

theorem region_ord {id : Nat} {a : Act} {w : World} (l : List (Nat × Bool)) (S : World → Prop) (st : Nat) (hm : P.follows .mixedOrders = true) (hs : Region.noSelect ops = true) (hl : l.length = ops.size) (hB : ordB .any ops st l (Array.replicate ops.size false) = true)
    (hQ : ∀ c a d v w, Q (.panic c) (a.put d v) w → Q (.panic c) a w) (hS : S w.drew) (h : OrdL P ops Q S st (l.map fun p => (p, ops[p.1]?)) a w.drew) : (Code.region id ops true).wp P Q a w := by
  have := G_of_ord (md := .any) hs hQ l _ a w.drew hB (fun _ => hS) (ord_of_L _ _ _ h)
  rw [hl] at this
  exact wp_region_any hm (any_of_G _ _ _ _ this)

theorem L_yes {p : Nat} {o : Oper} {r : List ((Nat × Bool) × Option Oper)} {a : Act} {w : World} (hw : Region.wanted o (yielded ops a.tmps) = true)
    (h : ∃ v, (∀ w', S w' → (execOp a.eval o).run P w' = .ok (.value v) w') ∧ OrdL P ops Q S st r (a.put o.dst v) w) : OrdL P ops Q S st (((p, true), some o) :: r) a w := by
  show if Region.wanted o (yielded ops a.tmps) = true then _ else _
  rw [if_pos hw]
  exact h
theorem L_no {p : Nat} {o : Oper} {r : List ((Nat × Bool) × Option Oper)} {a : Act} {w : World} (hw : Region.wanted o (yielded ops a.tmps) = false)
    (h : OrdL P ops Q S st r (a.put o.dst undef) w) : OrdL P ops Q S st (((p, true), some o) :: r) a w := by
  show if Region.wanted o (yielded ops a.tmps) = true then _ else _
  rw [if_neg (by rw [hw]; exact Bool.false_ne_true)]
  exact h
theorem L_main {p : Nat} {o : Oper} {r : List ((Nat × Bool) × Option Oper)} {a : Act} {w : World} (hw : Region.wanted o (yielded ops a.tmps) = true)
    (h : ∀ K : Act → World → Prop, (∀ a w, (p ≠ st → S w) → ((p ≠ st → S w) → OrdL P ops Q S st r a w) → K a w) → Oper.wp P o a w K Q) : OrdL P ops Q S st (((p, false), some o) :: r) a w := by
  show if Region.wanted o (yielded ops a.tmps) = true then _ else _
  rw [if_pos hw]
  exact h _ (fun a w h1 h2 => ⟨h1, h2 h1⟩)
theorem L_main_no {p : Nat} {o : Oper} {r : List ((Nat × Bool) × Option Oper)} {a : Act} {w : World} (hw : Region.wanted o (yielded ops a.tmps) = false) (hS : S w)
    (h : OrdL P ops Q S st r (a.put o.dst undef) w) : OrdL P ops Q S st (((p, false), some o) :: r) a w := by
  show if Region.wanted o (yielded ops a.tmps) = true then _ else _
  rw [if_neg (by rw [hw]; exact Bool.false_ne_true)]
  exact ⟨fun _ => hS, h⟩
theorem ite_next (c : Prop) [Decidable c] (w : World) : (if c then Result.ok (Next.value (.bool true)) w else Result.ok (Next.value (.bool false)) w) = Result.ok (Next.value (.bool (decide c))) w := by
  by_cases h : c <;> simp [h]
theorem L_nil {a : Act} {w : World} (h : Q .normal a w) : OrdL P ops Q S st [] a w := h
end
end Go.Proofs.Ytdhjgflkincapaa
