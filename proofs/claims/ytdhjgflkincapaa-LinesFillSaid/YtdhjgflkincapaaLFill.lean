/- Contract: lines.Fill. -/
import Derived.Test.YtdhjgflkincapaaLEach
import Derived.RangeFuncLeaves
import Derived.OwnWalkIn
import Derived.Shelf.Abstract
namespace Go.Proofs.Ytdhjgflkincapaa
open Go.RowKit Go.Shelf
set_option linter.unusedVariables false
attribute [local go_sem] Oper.semAt_some

def EachVal (BP BC BW : Nat) : Value := .func (.func 46) #[] #[.pointer (some ⟨BP, 0, none⟩), .pointer (some ⟨BC, 0, none⟩), .pointer (some ⟨BW, 0, none⟩)]
theorem each_any (C : Nat) (W : Int) (w : World) :
    Calls Try.prog 32 #[.pointer (some ⟨C, 0, none⟩), .int .i64 W] w fun e w' => e = .returned (EachVal (w.heap.size + 1 + 1) w.heap.size (w.heap.size + 1)) ∧
      w' = ((w.alloc (.cells #[.pointer (some ⟨C, 0, none⟩)] 61)).alloc (.cells #[.int .i64 W] 3)).alloc (.cells #[.func (.func 45) #[.pointer (some ⟨C, 0, none⟩)] #[]] 82) := by
  go_enter Try.func32, Try.ntmps32
  go_wp2_with (fail)
  go_ret
  exact ⟨rfl, rfl⟩
def Ln.cs (x : Ln) : List Value := [.int .i64 (x.fr : Int), .int .i64 (x.en : Int), .int .i64 x.wd]
def lcells (l : List Ln) : List Value := l.flatMap Ln.cs
theorem lcells_snoc (l : List Ln) (x : Ln) : lcells (l ++ [x]) = lcells l ++ [.int .i64 (x.fr : Int), .int .i64 (x.en : Int), .int .i64 x.wd] := by simp [lcells, Ln.cs]
theorem lcell (l : List Ln) (k j : Nat) (h : k < l.length) (hj : j < 3) : (lcells l)[k * 3 + j]? = (Ln.cs l[k])[j]? := flat_get Ln.cs 3 (fun _ => rfl) l k j h hj
def FillPost (n : Nat) (r : Lr) (w : World) (e : Ending) (w' : World) : Prop :=
  ∃ A c, e = .returned (.tuple #[.slice A n c, .int .i64 r.e]) ∧ w'.ownsRow w.heap.size 33 3 (.slice A n c) n (lcells r.ls) ∧ Below w.heap.size w w'
theorem info33 : (Try.prog.info? 33).map (fun i => (i.zero, i.size, i.bytes)) = some (some (.agg #[.int .i64 0, .int .i64 0, .int .i64 0]), 3, 24) := by kernel_rfl

theorem bodyPostM_ret {F : Fence} {m : Nat} {P : Program} {fn : Func} {R : Ending → World → Prop} {a : Act} {w : World} {v : Value} (hd : a.defers = []) (hr : (results fn a.tmps).run P w = .ok v w) (hR : R (.returned v) w) : bodyPostM F m P fn R .ret a w := by
  show LeavesInM F m P fn a.tmps R a.defers .returning w
  rw [hd]
  exact ⟨v, hr, hR⟩
theorem bodyPostM_mark {F : Fence} {m : Nat} {P : Program} {fn : Func} {R : Ending → World → Prop} {a : Act} {w : World} {v : Value} {D : Nat} (hd : a.defers = [{ target := .collected D, args := #[] }]) (hK : w.heap[D]? = some (.deferred (some [])))
    (hr : (results fn a.tmps).run P (w.putObj D (.deferred none)) = .ok v (w.putObj D (.deferred none))) (hR : R (.returned v) (w.putObj D (.deferred none))) : bodyPostM F m P fn R .ret a w := by
  show LeavesInM F m P fn a.tmps R a.defers .returning w
  rw [hd]
  exact ⟨by simp, .inl ⟨_, _, rfl, run_takeDeferred hK, v, hr, hR⟩⟩
/-! ### One round of a range over a function, left by its end or by a return -/
def KeepLD (L D : Nat) (W W' : World) : Prop := W'.heap[L]? = W.heap[L]? ∧ W'.heap[D]? = W.heap[D]?
theorem KeepLD.refl (L D : Nat) (W : World) : KeepLD L D W W := ⟨rfl, rfl⟩
theorem KeepLD.trans {L D : Nat} {A B C : World} (h : KeepLD L D A B) (k : KeepLD L D B C) : KeepLD L D A C := ⟨k.1.trans h.1, k.2.trans h.2⟩
def roundEnd (L D : Nat) (I Ix Kp : World → Prop) (W : World) : Exit → Act → World → Prop
  | .normal, _, W' => KeepLD L D W W' ∧ Kp W' ∧ I W'
  | .ret, _, W' => KeepLD L D W W' ∧ Ix W'
  | _, _, _ => False
theorem yield_round {P : Program} {m L D : Nat} {W : World} {r : Loop} {v : Value} {I Ix Kp : World → Prop} {asg bd : Code} {ps : Array Tmp} {tm : Array Value} (ha : r.assign = asg) (hbd : r.body = bd) (hpa : r.params = ps) (htm : r.tmps = tm)
    (hl : W.heap[L]? = some (.loop r)) (hst : r.state = .ready) (hps : ps.size = 1) (hLD : L ≠ D)
    (h : asg.wpIn (Fence.wide.inRound L) m P (Exit.then (fun a1 W2 => KeepLD L D W W2 ∧ bd.wpIn (Fence.wide.inRound L) m P (roundEnd L D I Ix Kp (W2.putObj L (.loop { r with state := .busy }))) a1 (W2.putObj L (.loop { r with state := .busy }))) (fun _ _ _ => False))
      { tmps := (ps.zip #[v]).foldl (fun t (p, v) => t.setIfInBounds p v) tm, defers := [] } W) :
    YieldAt Fence.wide m P L #[v] W fun e W' =>
      (e = .returned (.bool true) ∧ ∃ W3, I W3 ∧ Kp W3 ∧ W3.heap[L]? = some (.loop { r with state := .busy }) ∧ W3.heap[D]? = W.heap[D]? ∧ W' = W3.putObj L (.loop { r with state := .ready, pending := none })) ∨
      (e = .returned (.bool false) ∧ ∃ W3, Ix W3 ∧ W3.heap[L]? = some (.loop { r with state := .busy }) ∧ W3.heap[D]? = W.heap[D]? ∧ W' = W3.putObj L (.loop { r with state := .done, pending := some .ret })) := by
  subst ha
  subst hbd
  subst hpa
  subst htm
  refine ⟨r.fn, _, r.assign, r.body, run_yield hl (by rw [hps]; rfl), roundIn_of_wpIn trivial (wpIn_mono h ?_)⟩
  intro e a1 W2 hp
  cases e with
  | normal =>
    obtain ⟨hk, hb⟩ := hp
    have hl2 : W2.heap[L]? = some (.loop r) := hk.1.trans hl
    refine ⟨_, run_beginRound hl2 hst, wpIn_mono hb ?_⟩
    intro e a3 W3 hp3
    have hlb : (W2.putObj L (.loop { r with state := .busy })).heap[L]? = some (.loop { r with state := .busy }) := World.putObj_heap_same (Array.getElem?_eq_some_iff.1 hl2).1
    have hdb : (W2.putObj L (.loop { r with state := .busy })).heap[D]? = W.heap[D]? := (World.putObj_heap_other (Ne.symm hLD)).trans hk.2
    cases e with
    | normal =>
      obtain ⟨hk3, hkp, hi⟩ := hp3
      have hl3 := hk3.1.trans hlb
      exact ⟨_, _, run_endRound none hl3, .inl ⟨rfl, W3, hi, hkp, hl3, hk3.2.trans hdb, rfl⟩⟩
    | ret =>
      obtain ⟨hk3, hi⟩ := hp3
      have hl3 := hk3.1.trans hlb
      exact ⟨_, _, run_endRound (some .ret) hl3, .inr ⟨rfl, W3, hi, hl3, hk3.2.trans hdb, rfl⟩⟩
    | exit id => exact hp3.elim
    | goto t => exact hp3.elim
    | panic c => exact hp3.elim
    | outgrown => exact hp3.elim
  | exit id => exact hp.elim
  | goto t => exact hp.elim
  | ret => exact hp.elim
  | panic c => exact hp.elim
  | outgrown => exact hp.elim
theorem range_stmt {P : Program} {n : Nat} {g : Operand} {ps : Array Tmp} {assign body : Code} {Q : Exit → Act → World → Prop} {a : Act} {w : World} {gf : Nat} {lb : Array Value} (hg : a.eval g = .func (.func gf) #[] lb) (eg : ∀ args w, (callFunc gf args).run P w = .ok (.enter gf args) w)
    (h : ∀ r : Loop, r.state = .ready → r.pending = none → r.params = ps → r.assign = assign → r.body = body → r.tmps = a.tmps →
      Calls P gf (#[.func (.yield (w.heap.size + 1)) #[] #[]] ++ lb) ((w.alloc (.deferred (some []))).alloc (.loop r)) fun e W' => (∃ v, e = .returned v) ∧
        ((W'.heap[w.heap.size + 1]? = some (.loop r) ∧ Q .normal { a with defers := { target := .collected w.heap.size, args := #[] } :: a.defers } (W'.putObj (w.heap.size + 1) (.loop { r with state := .exhausted }))) ∨
         (W'.heap[w.heap.size + 1]? = some (.loop { r with state := .done, pending := some .ret }) ∧ Q .ret { a with defers := { target := .collected w.heap.size, args := #[] } :: a.defers } (W'.putObj (w.heap.size + 1) (.loop { r with state := .exhausted, pending := some .ret }))))) :
    (Code.rangeFunc g ps assign body).wpIn Fence.wide n P Q a w := by
  refine wpIn_rangeFunc ?_
  intro fn hfn
  obtain ⟨r, hr⟩ : ∃ r : Loop, r = { state := .ready, pending := none, fn := fn, tmps := a.tmps, params := ps, assign := assign, body := body, defers := w.heap.size } := ⟨_, rfl⟩
  have hen : (Instr.enterLoop fn a.tmps ps assign body none).run P w = .ok (w.heap.size + 1, [{ target := .collected w.heap.size, args := #[] }]) ((w.alloc (.deferred (some []))).alloc (.loop r)) := by rw [hr]; exact run_enterLoop_outer _ _ _ _ _
  refine ⟨w.heap.size + 1, [{ target := .collected w.heap.size, args := #[] }], (w.alloc (.deferred (some []))).alloc (.loop r), { target := .fn (.func gf) lb, args := #[.func (.yield (w.heap.size + 1)) #[] #[]] }, (w.alloc (.deferred (some []))).alloc (.loop r), gf, #[.func (.yield (w.heap.size + 1)) #[] #[]] ++ lb, (w.alloc (.deferred (some []))).alloc (.loop r), hen, ?_, ?_, ?_, fun hh => (by cases hh), ?_⟩
  · simp only [resolve, hg]
    simp [go_sem]
  · intro f' hf'
    exact trivial
  · simp [invoke, go_sem, eg]
  · refine (callsIn_wide.2 (h r (by rw [hr]) (by rw [hr]) (by rw [hr]) (by rw [hr]) (by rw [hr]) (by rw [hr]))).mono ?_
    rintro e W' ⟨⟨v, rfl⟩, ⟨hl, hq⟩ | ⟨hl, hq⟩⟩
    · exact ⟨none, _, by have := run_endLoop (P := P) hl (by rw [hr]; simp); rw [this, hr], hq⟩
    · exact ⟨some .ret, _, run_endLoop hl (by simp), wpIn_ret hq⟩
/-- between two rounds; a round has left -/
def FillI (w : World) (B bo g4 : Nat) (pre : List Ln) (W : World) : Prop :=
  (∃ v, Blk W bo 28 #[v] ∧ W.ownsRow B 33 3 v pre.length (lcells pre)) ∧ pre.all (fun x => fitB x.wd) = true ∧ Blk W g4 28 #[.slice none 0 0] ∧ Blk W (g4 + 1) 29 #[.int .i64 0] ∧ Below w.heap.size w W
def FillX (w : World) (g4 : Nat) (pre : List Ln) (W : World) : Prop :=
  pre.all (fun x => fitB x.wd) = false ∧ Blk W g4 28 #[.slice none 0 0] ∧ Blk W (g4 + 1) 29 #[.int .i64 10] ∧ Below w.heap.size w W
theorem But.grown {C : Nat} {W W' : World} (h : But C W W') : W.grownBy W' (some C) := ⟨h.os, h.tape, h.output, h.size, fun k hk hne => h.block k hk (fun e => hne (by rw [e]))⟩
theorem But.below {C B : Nat} {W W' : World} (h : But C W W') (hB : B ≤ C) (hBW : B ≤ W.heap.size) : Below B W W' := ⟨h.os, h.tape, h.output, h.size, fun k hk => h.block k (by omega) (by omega)⟩
theorem own_apart {W : World} {B g n : Nat} {e : TypeId} {size : Nat} {v : Value} {xs : List Value} (h : W.ownsRow B e size v n xs) (hg : g < B) : v.ownBlock ≠ some g := fun e => by
  have := (h.lt g e).1
  omega
theorem FillI.but {w : World} {B bo g4 C : Nat} {pre : List Ln} {W W' : World} (h : FillI w B bo g4 pre W) (hb : But C W W') (h1 : bo ≠ C) (h2 : g4 ≠ C) (h3 : g4 + 1 ≠ C) (h4 : C < B) (h5 : w.heap.size ≤ C) : FillI w B bo g4 pre W' := by
  obtain ⟨⟨v, hv, ho⟩, hf, a4, a5, hB⟩ := h
  exact ⟨⟨v, hb.blk hv h1, ho.kept hb.grown (.inr (own_apart ho h4))⟩, hf, hb.blk a4 h2, hb.blk a5 h3, hB.trans (hb.below h5 hB.size)⟩
theorem FillX.but {w : World} {g4 C : Nat} {pre : List Ln} {W W' : World} (h : FillX w g4 pre W) (hb : But C W W') (h2 : g4 ≠ C) (h3 : g4 + 1 ≠ C) (h5 : w.heap.size ≤ C) : FillX w g4 pre W' := by
  obtain ⟨hf, a4, a5, hB⟩ := h
  exact ⟨hf, hb.blk a4 h2, hb.blk a5 h3, hB.trans (hb.below h5 hB.size)⟩
theorem Blk.putObj {W : World} {g l : Nat} {t : TypeId} {cs : Array Value} (h : Blk W g t cs) (hne : g ≠ l) (o : Obj) : Blk (W.putObj l o) g t cs := (World.putObj_heap_other hne).trans h
theorem below_put {B l : Nat} {w W : World} (h : Below B w W) (hl : B ≤ l) (o : Obj) : Below B w (W.putObj l o) :=
  h.trans ⟨rfl, rfl, rfl, by simp, fun k hk => World.putObj_heap_other (by omega)⟩
theorem FillI.putObj {w : World} {B bo g4 l : Nat} {pre : List Ln} {W : World} (h : FillI w B bo g4 pre W) {o : Obj} (o' : Obj) (hl : W.heap[l]? = some o) (ho : o.isCells = false) (h1 : bo ≠ l) (h2 : g4 ≠ l) (h3 : g4 + 1 ≠ l) (h5 : w.heap.size ≤ l) : FillI w B bo g4 pre (W.putObj l o') := by
  obtain ⟨⟨v, hv, hown⟩, hf, a4, a5, hB⟩ := h
  exact ⟨⟨v, hv.putObj h1 _, ownsRow_putObj hown o' hl ho⟩, hf, a4.putObj h2 _, a5.putObj h3 _, below_put hB h5 _⟩
theorem FillX.putObj {w : World} {g4 l : Nat} {pre : List Ln} {W : World} (h : FillX w g4 pre W) (o' : Obj) (h2 : g4 ≠ l) (h3 : g4 + 1 ≠ l) (h5 : w.heap.size ≤ l) : FillX w g4 pre (W.putObj l o') := by
  obtain ⟨hf, a4, a5, hB⟩ := h
  exact ⟨hf, a4.putObj h2 _, a5.putObj h3 _, below_put hB h5 _⟩
/-- what a round keeps for the iterator: all that lay ahead of the loop but for the box of what is told -/
def KeepTo (B bo : Nat) (W W' : World) : Prop := ∀ g, g < B → g ≠ bo → W'.heap[g]? = W.heap[g]?
theorem KeepTo.kept {B bo N C BP BC BW cap : Nat} {l : List It} {A : Option Addr} {Wd : Int} {W W' : World} (h : KeepTo B bo W W') (h0 : N ≤ bo) (h00 : N ≤ B) (h1 : C < B ∧ C ≠ bo) (h2 : BP < B ∧ BP ≠ bo) (h3 : BC < B ∧ BC ≠ bo) (h4 : BW < B ∧ BW ≠ bo) : Kept l A Wd N C BP BC BW cap W W' :=
  ⟨fun f => ⟨f.rd.keep fun b o hb => World.cell?_of_block (h b (by omega) (by omega)), (h BP h2.1 h2.2).trans f.p, (h BC h3.1 h3.2).trans f.c, (h BW h4.1 h4.2).trans f.wd⟩, fun a hc => (h C h1.1 h1.2).trans hc⟩
theorem own_not {W : World} {B n l : Nat} {e : TypeId} {size : Nat} {v : Value} {xs : List Value} {o : Obj} (h : W.ownsRow B e size v n xs) (hl : W.heap[l]? = some o) (ho : o.isCells = false) : v.ownBlock ≠ some l := by
  intro he
  rcases h.2 with ⟨rfl, _⟩ | ⟨g, cap, cur, rfl, _, hgb, _⟩
  · simp [Value.ownBlock] at he
  · obtain rfl : g = l := by simpa [Value.ownBlock] using he
    rw [hgb] at hl
    cases hl
    cases ho
theorem own_far {w : World} {base : Nat} {e : TypeId} {size n : Nat} {v : Value} {xs : List Value} (h : w.ownsRow base e size v n xs) {p : Addr} (hp : v.ownBlock ≠ some p.block) (u : Value) : (w.setCell p u).ownsRow base e size v n xs :=
  h.kept (row := some p.block) ⟨rfl, rfl, rfl, by simp, fun k _ hne => Below.heap_setCell w p u k (fun e => hne (by rw [e]))⟩ (.inr hp)
theorem add_cells {W : World} {g : Nat} {t : TypeId} {cs : Array Value} (h : Blk W g t cs) (j : Nat) (u : Value) (hu : cs.toList[j]? = some u) : W.cell? ((⟨g, 0, none⟩ : Addr).add j) = some u := by
  unfold Addr.add
  by_cases hj : j = 0
  · subst hj; rw [if_pos rfl, h.cell 0]; simpa using hu
  · rw [if_neg hj]
    show W.cell? ⟨g, 0 + j, none⟩ = some u
    rw [h.cell (0 + j)]; simpa using hu
theorem kind_step (l : List It) (k : Nat) (h : k < l.length) : kindI (l.take (k + 1)) = (kindI (l.take k) && decide (l[k].kd ≤ 3)) := by
  unfold kindI; rw [take_snoc l k h, List.all_append]; simp
theorem fit_step (l : List It) (k : Nat) (h : k < l.length) : fitI (l.take (k + 1)) = (fitI (l.take k) && fitB l[k].wd) := by
  unfold fitI; rw [take_snoc l k h, List.all_append]; simp
theorem kind_bad (l : List It) (k : Nat) (h : k < l.length) (hk : 3 < l[k].kd) : kindI l = false := by
  rw [Bool.eq_false_iff]
  intro hh
  have := List.all_eq_true.1 hh l[k] (List.getElem_mem _)
  simp at this
  omega

set_option maxRecDepth 100000 in
set_option maxHeartbeats 16000000 in
theorem fill_any (l : List It) (Wd : Int) (A : Option Addr) (cap : Nat) (w : World) (hR : Rd w w.heap.size 2 A l.length (tcells l)) (hcap : l.length ≤ cap) (hcm : cap ≤ maxLen) (r : Lr) (hr : fillF l Wd = r) (n : Nat) (hn : r.ls.length = n) :
    Calls Try.prog 17 #[.slice A l.length cap, .int .i64 Wd] w (FillPost n r w) := by
  have hml : l.length ≤ 9223372036854775807 := by unfold maxLen at hcm; omega
  have hb0 := below_al (below_al (Below.refl w.heap.size w) (.cells #[.slice none 0 0] 28)) (.cells #[.int .i64 0] 29)
  have h4 := (Blk.new w 28 #[.slice none 0 0]).alloc (.cells #[.int .i64 0] 29)
  have h5 := Blk.new (w.alloc (.cells #[.slice none 0 0] 28)) 29 #[.int .i64 0]
  rw [World.size_alloc] at h5
  by_cases harg : (decide (2048 < l.length) || decide (Wd < 0)) = true
  · have hr2 : r = ⟨[], 2⟩ := by rw [← hr]; unfold fillF; rw [if_pos harg]
    subst hr2
    obtain rfl : n = 0 := by simpa using hn.symm
    have f4 := h4.cell 0
    have f5 := h5.cell 0
    simp at f4 f5
    by_cases h1 : 2048 < l.length
    · have d1 : decide ((2048 : Int) < (l.length : Int)) = true := by simp; omega
      clear hr hn hR harg h1
      go_enter Try.func17, Try.ntmps17
      go_wp2_with (fail)
      refine bodyPost_ret (v := .tuple #[.slice none 0 0, .int .i64 2]) (by simp [results, Try.results17, go_sem]) rfl ⟨none, 0, rfl, World.ownsRow_nil _ _ _ _, ?_⟩
      exact below_al (below_al (Below.refl _ _) _) _
    · have d1 : decide ((2048 : Int) < (l.length : Int)) = false := by simp; omega
      have h2 : Wd < 0 := by simpa [h1] using harg
      have d2 : decide (Wd < 0) = true := by simpa using h2
      clear hr hn hR harg h1 h2
      go_enter Try.func17, Try.ntmps17
      go_wp2_with (fail)
      refine bodyPost_ret (v := .tuple #[.slice none 0 0, .int .i64 2]) (by simp [results, Try.results17, go_sem]) rfl ⟨none, 0, rfl, World.ownsRow_nil _ _ _ _, ?_⟩
      exact below_al (below_al (Below.refl _ _) _) _
  have harg2 : ¬ 2048 < l.length ∧ ¬ Wd < 0 := by simpa using harg
  have hl : l.length ≤ 2048 := by omega
  have d1 : decide ((2048 : Int) < (l.length : Int)) = false := by simp; omega
  have d2 : decide (Wd < 0) = false := by simpa using harg2.2
  have hr3 : r = if kindI l = false then ⟨[], 2⟩ else if (fitB Wd && fitI l) = false then ⟨[], 10⟩ else if (lines l Wd).all (fun x => fitB x.wd) = true then ⟨lines l Wd, 0⟩ else ⟨[], 10⟩ := by
    rw [← hr]; unfold fillF; rw [if_neg harg]
  have HRR := hidd (And.intro hr3 hn)
  obtain ⟨i0, hi, hz0, hz1, hz2⟩ := info_parts info33
  have HI := hidd (And.intro hi (And.intro hz0 (And.intro hz1 hz2)))
  clear hi hz0 hz1 hz2 hr3 hn harg harg2 hr
  refine callsIn_wide.1 (callsIn_of_wp_marks (n := 8) Try.func17 rfl trivial (wpIn_wide.2 ?_))
  simp only [Try.ntmps17, List.size_toArray, List.length_cons, List.length_nil, Nat.reduceAdd, Nat.reduceSub, Array.replicate_succ, Array.replicate_zero, List.push_toArray, List.append_toArray, List.nil_append, List.cons_append]
  go_wp2_with (fail)
  obtain ⟨F0, hF0⟩ : ∃ x, fitB Wd = x := ⟨_, rfl⟩
  have HF0 := hidd hF0
  have g1 := Blk.new ((w.alloc (.cells #[.slice none 0 0] 28)).alloc (.cells #[.int .i64 0] 29)) 3 #[.int .i64 Wd]
  simp only [World.size_alloc] at g1
  have hb1 := below_al hb0 (.cells #[.int .i64 Wd] 3)
  refine (fits_blk [Wd] F0 _ 1 1 _ _ g1 rfl rfl (by simp [fitsB, hF0]) (by decide)).mono ?_
  rintro e w1 ⟨rfl, rfl⟩
  replace h4 := h4.alloc (.cells #[.int .i64 Wd] 3)
  replace h5 := h5.alloc (.cells #[.int .i64 Wd] 3)
  clear g1 hb0 hF0 d1 d2
  obtain ⟨W1, hW1⟩ : ∃ Z, ((w.alloc (.cells #[.slice none 0 0] 28)).alloc (.cells #[.int .i64 0] 29)).alloc (.cells #[.int .i64 Wd] 3) = Z := ⟨_, rfl⟩
  rw [hW1] at hb1 h4 h5 ⊢
  clear hW1
  obtain ⟨g4, hg4⟩ : ∃ g, w.heap.size = g := ⟨_, rfl⟩
  have hle4 : w.heap.size ≤ g4 := by omega
  have hle5 : w.heap.size ≤ g4 + 1 := by omega
  rw [hg4] at h4 h5 ⊢
  clear hg4
  go_wp2_with (fail)
  go_loopw [6, 24] (fun f i wx => ∃ (k : Nat) (F : Bool), k ≤ l.length ∧ i = .int .i64 k ∧ f = .bool F ∧ Hid (F = (fitB Wd && fitI (l.take k)) ∧ kindI (l.take k) = true) ∧ Blk wx g4 28 #[.slice none 0 0] ∧ Blk wx (g4 + 1) 29 #[.int .i64 0] ∧ Below w.heap.size w wx)
    (fun _ i _ => l.length - (intOf i).toNat)
  case atStart => exact ⟨0, F0, Nat.zero_le _, rfl, rfl, by rw [HF0.out]; simp [fitI, kindI, Hid], h4, h5, hb1⟩
  case round =>
    clear h4 h5 hb1
    obtain ⟨k, F, hk, rfl, rfl, HK, h4, h5, hB⟩ := hrel
    obtain ⟨W, hW⟩ : ∃ Z, wr = Z := ⟨_, rfl⟩
    rw [hW] at h4 h5 hB ⊢
    clear hW
    clear wr
    have f4 := h4.cell 0
    have f5 := h5.cell 0
    have z4 := h4.frozen
    have z5 := h5.frozen
    simp at f4 f5
    have l4 := h4.lt
    have l5 := h5.lt
    by_cases hlt : k < l.length
    · obtain ⟨b, off, rfl, hbB, hc⟩ := hR.2 (by omega)
      have hx0 := (hB.cell (p := ⟨b, off + (k * 2 + 0), none⟩) hbB).trans (hc _ _ (tcell l k 0 hlt (by omega)))
      have hx1 := (hB.cell (p := ⟨b, off + (k * 2 + 1), none⟩) hbB).trans (hc _ _ (tcell l k 1 hlt (by omega)))
      have hs1 := kind_step l k hlt
      have hs2 := fit_step l k hlt
      have hs3 := kind_bad l k hlt
      rw [HK.out.2, Bool.true_and] at hs1
      obtain ⟨s, hs⟩ : ∃ s, l[k] = s := ⟨_, rfl⟩
      rw [hs] at hx0 hx1 hs1 hs2 hs3
      obtain ⟨kd, wd⟩ := s
      simp only [← Nat.add_assoc, Nat.add_zero] at hx0 hx1
      simp only at hs1 hs2 hs3
      have hB1 := below_al hB (.cells #[.int .u8 kd, .int .i64 wd] 27)
      have hbW := Nat.lt_of_lt_of_le hbB hB.size
      have k0 : (0 : Int) ≤ (k : Int) := Int.natCast_nonneg _
      have k1 : (k : Int) < (l.length : Int) := by omega
      have hgx := Blk.new W 27 #[.int .u8 kd, .int .i64 wd]
      by_cases hkd : 3 < kd
      · have dk : decide (3 < kd) = true := by simpa using hkd
        have hr2 := HRR.out.1
        rw [if_pos (hs3 hkd)] at hr2
        have hn2 := HRR.out.2
        subst hr2
        obtain rfl : n = 0 := by simpa using hn2.symm
        clear hc hR hs hs1 hs2 hs3 hn2 HRR hkd HK
        have e4 := (((h4.set_ 0 (.slice none 0 0)).far (p := ⟨g4 + 1, 0, none⟩) (by simp) (.int .i64 2)).alloc (.cells #[.int .u8 kd, .int .i64 wd] 27)).cell 0
        have e5 := (((h5.far (p := ⟨g4, 0, none⟩) (by simp) (.slice none 0 0)).set_ 0 (.int .i64 2)).alloc (.cells #[.int .u8 kd, .int .i64 wd] 27)).cell 0
        simp at e4 e5
        have hBe := below_al ((hB.setCell (p := ⟨g4, 0, none⟩) hle4 (.slice none 0 0)).setCell (p := ⟨g4 + 1, 0, none⟩) hle5 (.int .i64 2)) (.cells #[.int .u8 kd, .int .i64 wd] 27)
        have HE := hidd (And.intro e4 (And.intro e5 hBe))
        clear e4 e5 hBe
        go_wp2_with (fail)
        refine bodyPostM_ret (v := .tuple #[.slice none 0 0, .int .i64 2]) rfl (by simp [results, Try.results17, go_sem, HE.out.1, HE.out.2.1]) ⟨none, 0, rfl, World.ownsRow_nil _ _ _ _, HE.out.2.2⟩
      · have dk : decide (3 < kd) = false := by simpa using hkd
        have dk2 : decide (kd ≤ 3) = true := by simp; omega
        rw [dk2] at hs1
        obtain ⟨q, hq⟩ : ∃ q, fitB wd = q := ⟨_, rfl⟩
        have HQ := hidd hq
        rw [hq] at hs2
        have HK2 : Hid ((F && q) = (fitB Wd && fitI (l.take (k + 1))) ∧ kindI (l.take (k + 1)) = true) := by
          refine ⟨?_, hs1⟩
          rw [hs2, HK.out.1, Bool.and_assoc]
        clear hc hR hs hs1 hs2 hs3 hkd HK hq dk2
        cases F with
        | false =>
          go_wp2_with (fail)
          go_roundw
          case rel => exact ⟨k + 1, false, by omega, by go_num, rfl, HK2, h4.alloc _, h5.alloc _, hB1⟩
          case measure => simp [intOf]; omega
        | true =>
          go_wp2_with (fail)
          have g2 := Blk.new (W.alloc (.cells #[.int .u8 kd, .int .i64 wd] 27)) 3 #[.int .i64 wd]
          rw [World.size_alloc] at g2
          have hB2 := below_al hB1 (.cells #[.int .i64 wd] 3)
          refine (fits_blk [wd] q _ 1 1 _ _ g2 rfl rfl (by simp [fitsB, HQ.out]) (by decide)).mono ?_
          rintro e w1 ⟨rfl, rfl⟩
          clear g2 HQ
          go_wp2_with (fail)
          go_roundw
          case rel => exact ⟨k + 1, q, by omega, by go_num, rfl, HK2, (h4.alloc _).alloc _, (h5.alloc _).alloc _, hB2⟩
          case measure => simp [intOf]; omega
    · have hkk : k = l.length := by omega
      subst hkk
      have hK := HK.out
      rw [List.take_length] at hK
      have hr2 := HRR.out.1
      rw [if_neg (by rw [hK.2]; exact Bool.noConfusion)] at hr2
      have dll : decide ((l.length : Int) < (l.length : Int)) = false := by simp
      cases F with
      | false =>
        rw [if_pos hK.1.symm] at hr2
        have hn2 := HRR.out.2
        subst hr2
        obtain rfl : n = 0 := by simpa using hn2.symm
        clear hR hK HRR hn2 HK
        go_wp2_with (fail)
        refine bodyPostM_ret (v := .tuple #[.slice none 0 0, .int .i64 10]) rfl (by simp [results, Try.results17, go_sem, f4, f5]) ⟨none, 0, rfl, World.ownsRow_nil _ _ _ _, ?_⟩
        exact (hB.setCell (p := ⟨g4, 0, none⟩) hle4 _).setCell (p := ⟨g4 + 1, 0, none⟩) hle5 _
      | true =>
        rw [if_neg (by rw [← hK.1]; exact Bool.noConfusion)] at hr2
        have hn2 := HRR.out.2
        have hfi : fitI l = true := by
          have := hK.1
          cases hh : fitI l with
          | true => rfl
          | false => rw [hh, Bool.and_false] at this; cases this
        have HR2 := hidd (And.intro hr2 (And.intro hn2 hfi))
        clear hr2 hn2 hfi hK HRR HK f4 f5 z4 z5
        go_wp2_with (fail)
        refine (each_any (W.heap.size + 1) Wd _).mono ?_
        rintro e w2 ⟨rfl, rfl⟩
        have hBa := below_al (below_al (below_al (below_al (below_al (Below.refl W.heap.size W) (.cells #[.slice none 0 0] 28)) (.cells #[.slice A l.length cap, .int .i64 0] 63)) (.cells #[.pointer (some ⟨W.heap.size + 1, 0, none⟩)] 61)) (.cells #[.int .i64 Wd] 3)) (.cells #[.func (.func 45) #[.pointer (some ⟨W.heap.size + 1, 0, none⟩)] #[]] 82)
        have ho := ((((Blk.new W 28 #[.slice none 0 0]).alloc (.cells #[.slice A l.length cap, .int .i64 0] 63)).alloc (.cells #[.pointer (some ⟨W.heap.size + 1, 0, none⟩)] 61)).alloc (.cells #[.int .i64 Wd] 3)).alloc (.cells #[.func (.func 45) #[.pointer (some ⟨W.heap.size + 1, 0, none⟩)] #[]] 82)
        have hcu := (((Blk.new (W.alloc (.cells #[.slice none 0 0] 28)) 63 #[.slice A l.length cap, .int .i64 0]).alloc (.cells #[.pointer (some ⟨W.heap.size + 1, 0, none⟩)] 61)).alloc (.cells #[.int .i64 Wd] 3)).alloc (.cells #[.func (.func 45) #[.pointer (some ⟨W.heap.size + 1, 0, none⟩)] #[]] 82)
        have hbc := ((Blk.new ((W.alloc (.cells #[.slice none 0 0] 28)).alloc (.cells #[.slice A l.length cap, .int .i64 0] 63)) 61 #[.pointer (some ⟨W.heap.size + 1, 0, none⟩)]).alloc (.cells #[.int .i64 Wd] 3)).alloc (.cells #[.func (.func 45) #[.pointer (some ⟨W.heap.size + 1, 0, none⟩)] #[]] 82)
        have hbw := (Blk.new (((W.alloc (.cells #[.slice none 0 0] 28)).alloc (.cells #[.slice A l.length cap, .int .i64 0] 63)).alloc (.cells #[.pointer (some ⟨W.heap.size + 1, 0, none⟩)] 61)) 3 #[.int .i64 Wd]).alloc (.cells #[.func (.func 45) #[.pointer (some ⟨W.heap.size + 1, 0, none⟩)] #[]] 82)
        have hbp := Blk.new ((((W.alloc (.cells #[.slice none 0 0] 28)).alloc (.cells #[.slice A l.length cap, .int .i64 0] 63)).alloc (.cells #[.pointer (some ⟨W.heap.size + 1, 0, none⟩)] 61)).alloc (.cells #[.int .i64 Wd] 3)) 82 #[.func (.func 45) #[.pointer (some ⟨W.heap.size + 1, 0, none⟩)] #[]]
        simp only [World.size_alloc] at hcu hbc hbw hbp ⊢
        have hB1 := hB.trans (hBa.mono hB.size)
        replace h4 := h4.below hBa l4
        replace h5 := h5.below hBa l5
        have hRX := hR.below hB1
        have hsx : ∀ x, x = W.heap.size → (W.heap.size + 5 = x + 5) := fun x h => by omega
        obtain ⟨X, hX⟩ : ∃ Z, ((((W.alloc (.cells #[.slice none 0 0] 28)).alloc (.cells #[.slice A l.length cap, .int .i64 0] 63)).alloc (.cells #[.pointer (some ⟨W.heap.size + 1, 0, none⟩)] 61)).alloc (.cells #[.int .i64 Wd] 3)).alloc (.cells #[.func (.func 45) #[.pointer (some ⟨W.heap.size + 1, 0, none⟩)] #[]] 82) = Z := ⟨_, rfl⟩
        have hXs : X.heap.size = W.heap.size + 5 := by rw [← hX]; simp
        rw [hX] at ho hcu hbc hbw hbp hB1 h4 h5 hRX ⊢
        have hWw : w.heap.size ≤ W.heap.size := hB.size
        clear hX hBa hB hsx hR
        obtain ⟨bo, hbo⟩ : ∃ g, W.heap.size = g := ⟨_, rfl⟩
        rw [hbo] at ho hcu hbc hbw hbp hXs hWw l4 l5 ⊢
        clear hbo dll
        clear W
        unfold EachVal
        go_wp2_with (fail)
        refine (wpIn_wide (n := 8)).1 (range_stmt (gf := 46) (lb := #[.pointer (some ⟨bo + 1 + 1 + 1 + 1, 0, none⟩), .pointer (some ⟨bo + 1 + 1, 0, none⟩), .pointer (some ⟨bo + 1 + 1 + 1, 0, none⟩)]) rfl (enters_of Try.func46 (by kernel_rfl) rfl) ?_)
        intro R hR1 hR2 hR3 hR4 hR5 hR6
        obtain ⟨B, hBB⟩ : ∃ B, X.heap.size = B := ⟨_, rfl⟩
        rw [hBB] at hXs ⊢
        have hXl : bo + 1 + 1 + 1 + 1 < B := by omega
        clear hXs
        have hbe := below_al (below_al (Below.refl X.heap.size X) (.deferred (some []))) (.loop R)
        have hD1 : ((X.alloc (.deferred (some []))).alloc (.loop R)).heap[B]? = some (.deferred (some [])) := by
          rw [← hBB]; exact (Below.heap_alloc _ _ _ (by simp)).trans (World.alloc_heap_new X _)
        have hL1 : ((X.alloc (.deferred (some []))).alloc (.loop R)).heap[B + 1]? = some (.loop R) := by
          have := World.alloc_heap_new (X.alloc (.deferred (some []))) (.loop R)
          rwa [World.size_alloc, hBB] at this
        obtain ⟨Y, hY⟩ : ∃ Y, (X.alloc (.deferred (some []))).alloc (.loop R) = Y := ⟨_, rfl⟩
        rw [hY] at hbe hD1 hL1 ⊢
        clear hY
        have hap : Apt w.heap.size (bo + 1) (bo + 1 + 1 + 1 + 1) (bo + 1 + 1) (bo + 1 + 1 + 1) := ⟨by omega, by omega, by omega, by omega⟩
        have hFix : Fix l A Wd w.heap.size (bo + 1) (bo + 1 + 1 + 1 + 1) (bo + 1 + 1) (bo + 1 + 1 + 1) Y :=
          ⟨hRX.below (hbe.mono hB1.size), hbp.below hbe hbp.lt, hbc.below hbe hbc.lt, hbw.below hbe hbw.lt⟩
        have hCur : Cur Y (bo + 1) A l.length cap 0 := Blk.below hcu hbe hcu.lt
        have hI0 : FillI w B bo g4 [] Y := ⟨⟨_, ho.below hbe ho.lt, World.ownsRow_nil _ _ _ _⟩, rfl, h4.below hbe h4.lt, h5.below hbe h5.lt, hB1.trans (hbe.mono hB1.size)⟩
        refine (each1_any l A Wd w.heap.size (bo + 1) (bo + 1 + 1 + 1 + 1) (bo + 1 + 1) (bo + 1 + 1 + 1) cap (B + 1)
          (fun pre W => FillI w B bo g4 pre W ∧ W.heap[B + 1]? = some (.loop R) ∧ W.heap[B]? = some (.deferred (some [])))
          (fun pre W => FillX w g4 pre W ∧ W.heap[B + 1]? = some (.loop { R with state := .done, pending := some .ret }) ∧ W.heap[B]? = some (.deferred (some [])))
          hl hcap hcm HR2.out.2.2 hap ?_ ?_ ?_ Y hFix hCur ⟨hI0, hL1, hD1⟩).mono ?_
        · rintro s w1 w2 ⟨a1, a2, a3⟩ hb
          exact ⟨a1.but hb (by omega) (by omega) (by omega) (by omega) (by omega), (hb.block _ (Array.getElem?_eq_some_iff.1 a2).1 (by omega)).trans a2, (hb.block _ (Array.getElem?_eq_some_iff.1 a3).1 (by omega)).trans a3⟩
        · rintro s w1 w2 ⟨a1, a2, a3⟩ hb
          exact ⟨a1.but hb (by omega) (by omega) (by omega), (hb.block _ (Array.getElem?_eq_some_iff.1 a2).1 (by omega)).trans a2, (hb.block _ (Array.getElem?_eq_some_iff.1 a3).1 (by omega)).trans a3⟩
        · rintro pre x w1 ⟨hi, hl1, hd1⟩ hlen
          refine (yield_round (D := B) (I := FillI w B bo g4 (pre ++ [x])) (Ix := FillX w g4 (pre ++ [x])) (Kp := KeepTo B bo w1) hR4 hR5 hR3 hR6 hl1 hR1 rfl (by omega) ?_).mono ?_
          · obtain ⟨o, hO⟩ : ∃ o : Obj, Obj.loop { R with state := .busy } = o := ⟨_, rfl⟩
            have hoc : o.isCells = false := by rw [← hO]; rfl
            rw [hO]
            clear hR3 hR4 hR5 hR6 hR1 hR2 hO
            obtain ⟨fr, en, wd⟩ := x
            simp only [LnV]
            gi_wp2
            refine ⟨⟨Below.heap_alloc _ _ _ (Array.getElem?_eq_some_iff.1 hl1).1, Below.heap_alloc _ _ _ (Array.getElem?_eq_some_iff.1 hd1).1⟩, ?_⟩
            obtain ⟨⟨v, hv, hown⟩, hfit, e4, e5, hBw⟩ := hi
            have hlt1 := (Array.getElem?_eq_some_iff.1 hl1).1
            have hltD := (Array.getElem?_eq_some_iff.1 hd1).1
            have hx0 := (Blk.new w1 33 #[.int .i64 (fr : Int), .int .i64 (en : Int), .int .i64 wd]).putObj (l := B + 1) (by omega) o
            have hv0 := (hv.alloc (.cells #[.int .i64 (fr : Int), .int .i64 (en : Int), .int .i64 wd] 33)).putObj (l := B + 1) (by omega) o
            have e40 := (e4.alloc (.cells #[.int .i64 (fr : Int), .int .i64 (en : Int), .int .i64 wd] 33)).putObj (l := B + 1) (by omega) o
            have e50 := (e5.alloc (.cells #[.int .i64 (fr : Int), .int .i64 (en : Int), .int .i64 wd] 33)).putObj (l := B + 1) (by omega) o
            have hB0 := below_put (below_al hBw (.cells #[.int .i64 (fr : Int), .int .i64 (en : Int), .int .i64 wd] 33)) (show w.heap.size ≤ B + 1 by omega) o
            have ow0 := ownsRow_putObj (hown.alloc (.cells #[.int .i64 (fr : Int), .int .i64 (en : Int), .int .i64 wd] 33)) o ((Below.heap_alloc _ _ _ hlt1).trans hl1) rfl
            have hk0 : KeepTo B bo w1 ((w1.alloc (.cells #[.int .i64 (fr : Int), .int .i64 (en : Int), .int .i64 wd] 33)).putObj (B + 1) o) := fun g hg hgo => (World.putObj_heap_other (by omega)).trans (Below.heap_alloc _ _ _ (by omega))
            have hsz0 : w1.heap.size + 1 = ((w1.alloc (.cells #[.int .i64 (fr : Int), .int .i64 (en : Int), .int .i64 wd] 33)).putObj (B + 1) o).heap.size := by simp
            have hDD0 : ((w1.alloc (.cells #[.int .i64 (fr : Int), .int .i64 (en : Int), .int .i64 wd] 33)).putObj (B + 1) o).heap[B]? = some (.deferred (some [])) := (World.putObj_heap_other (by omega)).trans ((Below.heap_alloc _ _ _ hltD).trans hd1)
            have hLL0 : ((w1.alloc (.cells #[.int .i64 (fr : Int), .int .i64 (en : Int), .int .i64 wd] 33)).putObj (B + 1) o).heap[B + 1]? = some o := World.putObj_heap_same (by simp; omega)
            obtain ⟨bx, hbx⟩ : ∃ g, w1.heap.size = g := ⟨_, rfl⟩
            obtain ⟨V, hV⟩ : ∃ V, (w1.alloc (.cells #[.int .i64 (fr : Int), .int .i64 (en : Int), .int .i64 wd] 33)).putObj (B + 1) o = V := ⟨_, rfl⟩
            rw [hV] at hx0 hv0 e40 e50 hB0 ow0 hk0 hsz0 hDD0 hLL0 ⊢
            rw [hbx] at hx0 hsz0 hlt1 hltD ⊢
            clear hV hbx hv e4 e5 hown hBw hl1 hd1
            have x0 := hx0.cell 0
            have x1 := hx0.cell 1
            have x2 := hx0.cell 2
            simp at x0 x1 x2
            have hbxl : bx < V.heap.size := by omega
            clear hsz0
            obtain ⟨q, hq⟩ : ∃ q, fitB wd = q := ⟨_, rfl⟩
            have HQ := hidd hq
            have hap2 : (pre ++ [(⟨fr, en, wd⟩ : Ln)]).all (fun x => fitB x.wd) = q := by rw [List.all_append, hfit]; simp [hq]
            have HAL := hidd hap2
            clear hq hap2 hfit
            gi_wp2_with (fail)
            refine ⟨trivial, ?_⟩
            refine (CallsIn.inRound (B + 1) (callsIn_wide.2 (fits_blk [wd] q _ 1 1 _ _ (Blk.new V 3 #[.int .i64 wd]) rfl rfl (by simp [fitsB, HQ.out]) (by decide)))).mono ?_
            rintro e w2 ⟨rfl, rfl⟩
            have hAB : Below V.heap.size V (V.alloc (.cells #[.int .i64 wd] 3)) := below_al (Below.refl _ _) _
            have hv1 := hv0.alloc (.cells #[.int .i64 wd] 3)
            have e41 := e40.alloc (.cells #[.int .i64 wd] 3)
            have e51 := e50.alloc (.cells #[.int .i64 wd] 3)
            have hx1b := hx0.alloc (.cells #[.int .i64 wd] 3)
            have hB1b := below_al hB0 (.cells #[.int .i64 wd] 3)
            have ow1 := ow0.alloc (.cells #[.int .i64 wd] 3)
            have hLl := (Array.getElem?_eq_some_iff.1 hLL0).1
            have hDl := (Array.getElem?_eq_some_iff.1 hDD0).1
            have hLL1 := (Below.heap_alloc V (.cells #[.int .i64 wd] 3) _ hLl).trans hLL0
            have hDD1 := (Below.heap_alloc V (.cells #[.int .i64 wd] 3) _ hDl).trans hDD0
            have hk1 : KeepTo B bo w1 (V.alloc (.cells #[.int .i64 wd] 3)) := fun g hg hgo => (Below.heap_alloc V (.cells #[.int .i64 wd] 3) _ (by omega)).trans (hk0 g hg hgo)
            have hbx2 : bx < (V.alloc (.cells #[.int .i64 wd] 3)).heap.size := by simp; omega
            obtain ⟨V1, hV1⟩ : ∃ Z, V.alloc (.cells #[.int .i64 wd] 3) = Z := ⟨_, rfl⟩
            rw [hV1] at hv1 e41 e51 hx1b hB1b ow1 hLL1 hDD1 hk1 hbx2 ⊢
            have hBV : B + 1 < V1.heap.size := (Array.getElem?_eq_some_iff.1 hLL1).1
            clear hV1 hAB hv0 e40 e50 hx0 hB0 ow0 hk0 x0 x1 x2 hbxl
            cases q with
            | false =>
              have f4 := e41.cell 0
              have f5 := e51.cell 0
              have z4 := e41.frozen
              have z5 := e51.frozen
              simp at f4 f5
              have l41 := e41.lt
              have l51 := e51.lt
              have HE : Hid (KeepLD (B + 1) B V ((V1.setCell ⟨g4, 0, none⟩ (.slice none 0 0)).setCell ⟨g4 + 1, 0, none⟩ (.int .i64 10)) ∧ FillX w g4 (pre ++ [(⟨fr, en, wd⟩ : Ln)]) ((V1.setCell ⟨g4, 0, none⟩ (.slice none 0 0)).setCell ⟨g4 + 1, 0, none⟩ (.int .i64 10))) := by
                refine ⟨⟨?_, ?_⟩, HAL.out, ?_, ?_, ?_⟩
                · rw [hLL0, ← hLL1]; exact (Below.heap_setCell _ ⟨g4 + 1, 0, none⟩ _ _ (by simp; omega)).trans (Below.heap_setCell _ ⟨g4, 0, none⟩ _ _ (by simp; omega))
                · rw [hDD0, ← hDD1]; exact (Below.heap_setCell _ ⟨g4 + 1, 0, none⟩ _ _ (by simp; omega)).trans (Below.heap_setCell _ ⟨g4, 0, none⟩ _ _ (by simp; omega))
                · exact (e41.set_ 0 (.slice none 0 0)).far (p := ⟨g4 + 1, 0, none⟩) (by simp) _
                · exact (e51.far (p := ⟨g4, 0, none⟩) (by simp) _).set_ 0 (.int .i64 10)
                · exact (hB1b.setCell (p := ⟨g4, 0, none⟩) hle4 _).setCell (p := ⟨g4 + 1, 0, none⟩) hle5 _
              clear hDD0 hLL0 hDD1 hLL1
              gi_wp2_with (fail)
              exact HE.out
            | true =>
              have v0 := hv1.cell 0
              have vf := hv1.frozen
              have x0 := hx1b.cell 0
              have x1 := hx1b.cell 1
              have x2 := hx1b.cell 2
              simp at v0 x0 x1 x2
              have hbol := hv1.lt
              obtain ⟨hi, hz0, hz1, hz2⟩ := HI.out
              gi_wp2_with (gi_at_builtin; refine wpListIn_append_own _ rfl _ _ 28 rfl B 33 i0 (.agg #[.int .i64 0, .int .i64 0, .int .i64 0]) 3 24 Try.underlying28 hi hz0 hz1 hz2 rfl (by decide) v pre.length (lcells pre) rfl (ow1.alloc _) ⟨V1.heap.size, 0, none⟩ 1 1 [.int .i64 (fr : Int), .int .i64 (en : Int), .int .i64 wd] rfl rfl (add_cells (Blk.new V1 33 #[.int .i64 (fr : Int), .int .i64 (en : Int), .int .i64 wd])) (by simp [Value.oneCell']) (by unfold maxLen; omega) (by omega) (by simp; omega) ?_)
              intro v' w3 hown' hgr _
              have hne1 := own_not ow1 hLL1 hoc
              have hne2 := own_not ow1 hDD1 rfl
              have hkk : ∀ k, k < V1.heap.size → v.ownBlock ≠ some k → w3.heap[k]? = V1.heap[k]? := fun k hk hne => (hgr.block k (by simp; omega) (Ne.symm hne)).trans (Below.heap_alloc V1 _ k hk)
              obtain ⟨A', c', rfl, hrd⟩ := own_slice hown'
              have hv3 : Blk w3 bo 28 #[v] := (hkk bo hbol (own_apart ow1 (by omega))).trans hv1
              have e43 : Blk w3 g4 28 #[.slice none 0 0] := (hkk g4 e41.lt (own_apart ow1 (by omega))).trans e41
              have e53 : Blk w3 (g4 + 1) 29 #[.int .i64 0] := (hkk (g4 + 1) e51.lt (own_apart ow1 (by omega))).trans e51
              have hB3 := (below_al hB1b (.cells #[.int .i64 (fr : Int), .int .i64 (en : Int), .int .i64 wd] 33)).grown hgr (below_al hB1b _).size (fun q hq => by
                have := (ow1.lt q hq).1
                omega)
              have HE : Hid (KeepLD (B + 1) B V (w3.setCell ⟨bo, 0, none⟩ (.slice A' (pre.length + 1) c')) ∧ KeepTo B bo w1 (w3.setCell ⟨bo, 0, none⟩ (.slice A' (pre.length + 1) c')) ∧ FillI w B bo g4 (pre ++ [(⟨fr, en, wd⟩ : Ln)]) (w3.setCell ⟨bo, 0, none⟩ (.slice A' (pre.length + 1) c'))) := by
                refine ⟨⟨?_, ?_⟩, fun g hg hgo => ?_, ⟨_, hv3.set_ 0 _, ?_⟩, HAL.out, ?_, ?_, ?_⟩
                · rw [hLL0, ← hLL1]; exact (Below.heap_setCell _ ⟨bo, 0, none⟩ _ _ (by simp; omega)).trans (hkk _ hBV hne1)
                · rw [hDD0, ← hDD1]; exact (Below.heap_setCell _ ⟨bo, 0, none⟩ _ _ (by simp; omega)).trans (hkk _ (by omega) hne2)
                · exact (Below.heap_setCell _ ⟨bo, 0, none⟩ _ _ (by simpa using hgo)).trans ((hkk g (by omega) (own_apart ow1 hg)).trans (hk1 g hg hgo))
                · rw [List.length_append, lcells_snoc]
                  exact hown'.kept (row := some bo) ⟨rfl, rfl, rfl, by simp, fun k _ hne => Below.heap_setCell w3 ⟨bo, 0, none⟩ _ k (fun e => hne (by rw [e]))⟩ (.inr (own_apart hown' (by omega)))
                · exact e43.far (p := ⟨bo, 0, none⟩) (by simp; omega) _
                · exact e53.far (p := ⟨bo, 0, none⟩) (by simp; omega) _
                · exact hB3.setCell (p := ⟨bo, 0, none⟩) (by simp; omega) _
              have v3 := hv3.cell 0
              have vf3 := hv3.frozen
              simp at v3
              clear hDD0 hLL0 hDD1 hLL1 v0 vf x0 x1 x2 hgr hkk hown' hrd ow1 hi hz0 hz1 hz2
              gi_wp2_with (fail)
              exact HE.out
          · rintro e W' (⟨rfl, W3, hi3, hk3, hl3, hd3, rfl⟩ | ⟨rfl, W3, hi3, hl3, hd3, rfl⟩)
            · have hlt3 := (Array.getElem?_eq_some_iff.1 hl3).1
              have hRR2 : ({ R with state := .ready, pending := none } : Loop) = R := by
                cases R
                simp only at hR1 hR2
                subst hR1
                subst hR2
                rfl
              rw [hRR2]
              refine .inl ⟨rfl, ⟨hi3.putObj _ hl3 rfl (by omega) (by omega) (by omega) (by omega), World.putObj_heap_same hlt3, (World.putObj_heap_other (by omega)).trans (hd3.trans hd1)⟩, ?_⟩
              refine KeepTo.kept (B := B) (bo := bo) ?_ (by omega) (by omega) (by omega) (by omega) (by omega) (by omega)
              intro g hg hgo
              exact (World.putObj_heap_other (by omega)).trans (hk3 g hg hgo)
            · have hlt3 := (Array.getElem?_eq_some_iff.1 hl3).1
              exact .inr ⟨rfl, hi3.putObj _ (by omega) (by omega) (by omega), World.putObj_heap_same hlt3, (World.putObj_heap_other (by omega)).trans (hd3.trans hd1)⟩
        · rintro e W' ⟨⟨v, rfl⟩, hpost⟩
          refine ⟨⟨v, rfl⟩, ?_⟩
          rcases hpost with ⟨hi, hl3, hd3⟩ | ⟨pre, hp, hi, hl3, hd3⟩
          · refine .inl ⟨hl3, ?_⟩
            have hi2 := hi.putObj (.loop { R with state := .exhausted }) hl3 rfl (by omega) (by omega) (by omega) (by omega)
            have hd4 : (W'.putObj (B + 1) (.loop { R with state := .exhausted })).heap[B]? = some (.deferred (some [])) := (World.putObj_heap_other (by omega)).trans hd3
            obtain ⟨Z, hZ⟩ : ∃ Z, W'.putObj (B + 1) (.loop { R with state := .exhausted }) = Z := ⟨_, rfl⟩
            rw [hZ] at hi2 hd4 ⊢
            clear hZ hi hl3 hd3 hR3 hR4 hR5 hR6 hR1 hR2 hI0 hL1 hD1
            obtain ⟨⟨v, hv, hown⟩, hfit, e4, e5, hBw⟩ := hi2
            obtain ⟨A', c', rfl, hrd⟩ := own_slice hown
            have hr2 := HR2.out.1
            rw [if_pos hfit] at hr2
            have hn2 := HR2.out.2.1
            subst hr2
            simp only at hn2
            have v0 := hv.cell 0
            have f4 := e4.cell 0
            have f5 := e5.cell 0
            have z4 := e4.frozen
            have z5 := e5.frozen
            simp at v0 f4 f5
            have hDl := (Array.getElem?_eq_some_iff.1 hd4).1
            have hb4 : g4 ≠ B := by omega
            have hb5 : g4 + 1 ≠ B := by omega
            have HX := hidd (And.intro hn2 (And.intro hown (And.intro hd4 (And.intro e4 (And.intro e5 hBw)))))
            clear hn2 hown hd4 e4 e5 hrd hfit HR2
            go_wp2_with (fail)
            obtain ⟨hn2, hown, hd4, e4, e5, hBw⟩ := HX.out
            subst hn2
            have k4 := ((e4.set_ 0 (.slice A' (lines l Wd).length c')).far (p := ⟨g4 + 1, 0, none⟩) (by simp) (.int .i64 0)).putObj hb4 (.deferred none)
            have k5 := ((e5.far (p := ⟨g4, 0, none⟩) (by simp) (.slice A' (lines l Wd).length c')).set_ 0 (.int .i64 0)).putObj hb5 (.deferred none)
            have f4' := k4.cell 0
            have f5' := k5.cell 0
            simp at f4' f5'
            have kd : ((Z.setCell ⟨g4, 0, none⟩ (.slice A' (lines l Wd).length c')).setCell ⟨g4 + 1, 0, none⟩ (.int .i64 0)).heap[B]? = some (.deferred (some [])) :=
              (Below.heap_setCell _ ⟨g4 + 1, 0, none⟩ _ _ (by simp; omega)).trans ((Below.heap_setCell _ ⟨g4, 0, none⟩ _ _ (by simp; omega)).trans hd4)
            have hown2 := own_base (own_far (own_far hown (p := ⟨g4, 0, none⟩) (own_apart hown (show g4 < B by omega)) (.slice A' (lines l Wd).length c')) (p := ⟨g4 + 1, 0, none⟩) (own_apart hown (show g4 + 1 < B by omega)) (.int .i64 0)) (show w.heap.size ≤ B by omega)
            exact bodyPostM_mark (D := B) (v := .tuple #[.slice A' (lines l Wd).length c', .int .i64 0]) rfl kd (by simp [results, Try.results17, go_sem, f4', f5']) ⟨A', c', rfl, ownsRow_putObj hown2 _ kd rfl, below_put ((hBw.setCell (p := ⟨g4, 0, none⟩) hle4 _).setCell (p := ⟨g4 + 1, 0, none⟩) hle5 _) (by omega) _⟩
          · refine .inr ⟨hl3, ?_⟩
            have hi2 := hi.putObj (l := B + 1) (.loop { R with state := .exhausted, pending := some .ret }) (by omega) (by omega) (by omega)
            have hd4 : (W'.putObj (B + 1) (.loop { R with state := .exhausted, pending := some .ret })).heap[B]? = some (.deferred (some [])) := (World.putObj_heap_other (by omega)).trans hd3
            obtain ⟨Z, hZ⟩ : ∃ Z, W'.putObj (B + 1) (.loop { R with state := .exhausted, pending := some .ret }) = Z := ⟨_, rfl⟩
            rw [hZ] at hi2 hd4 ⊢
            clear hZ hi hl3 hd3 hR3 hR4 hR5 hR6 hR1 hR2 hI0 hL1 hD1
            obtain ⟨hfit, e4, e5, hBw⟩ := hi2
            have hr2 := HR2.out.1
            have hbad : (lines l Wd).all (fun x => fitB x.wd) = false := by
              obtain ⟨t, ht⟩ := hp
              rw [← ht, List.all_append, hfit, Bool.false_and]
            rw [if_neg (by rw [hbad]; exact Bool.false_ne_true)] at hr2
            have hn2 := HR2.out.2.1
            subst hr2
            obtain rfl : n = 0 := by simpa using hn2.symm
            have f4 := (e4.putObj (l := B) (by omega) (.deferred none)).cell 0
            have f5 := (e5.putObj (l := B) (by omega) (.deferred none)).cell 0
            simp at f4 f5
            refine bodyPostM_mark (D := B) (v := .tuple #[.slice none 0 0, .int .i64 10]) rfl hd4 (by simp [results, Try.results17, go_sem, f4, f5]) ⟨none, 0, rfl, World.ownsRow_nil _ _ _ _, below_put hBw (by omega) _⟩
end Go.Proofs.Ytdhjgflkincapaa
