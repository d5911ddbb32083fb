/- Contract: Items of chapter 10. -/
import Derived.Test.YtdhjgflkincapaaLSmall
import Derived.Deep.CutBlock
import Derived.Deep.DeepCutAuto
namespace Go.Proofs.Ytdhjgflkincapaa
open Go.RowKit
set_option linter.unusedVariables false

def kindC (c : Nat) : Int := if c = 95 then 1 else if c = 47 then 2 else if c = 98 then 3 else 0
def itsN (cs : List Nat) (ws : List Int) : Nat → List It
  | 0 => []
  | k + 1 => itsN cs ws k ++ [⟨kindC (cs.getD k 0), ws.getD k 0⟩]
theorem itsN_len (cs : List Nat) (ws : List Int) : ∀ k, (itsN cs ws k).length = k
  | 0 => rfl
  | k + 1 => by rw [itsN, List.length_append, itsN_len cs ws k]; rfl
theorem tcells_snoc (l : List It) (x : It) : tcells (l ++ [x]) = tcells l ++ [.int .u8 x.kd, .int .i64 x.wd] := by simp [tcells, It.cs]
theorem own_cap {w : World} {base : Nat} {e : TypeId} {size n c : Nat} {A : Option Addr} {xs : List Value} (h : w.ownsRow base e size (.slice A n c) n xs) : n ≤ c ∧ c ≤ maxLen := by
  rcases h.2 with ⟨h1, h2⟩ | ⟨g, cap, cur, h1, _, _, h2, h3, _⟩
  · injection h1 with _ _ h1
    subst h1
    exact ⟨by omega, by simp [maxLen]⟩
  · injection h1 with _ _ h1
    subst h1
    exact ⟨h2, h3⟩
theorem info27 : (Try.prog.info? 27).map (fun i => (i.zero, i.size, i.bytes)) = some (some (.agg #[.int .u8 0, .int .i64 0]), 2, 16) := by kernel_rfl
def ItemsPost (l : List It) (n : Nat) (w : World) (e : Ending) (w' : World) : Prop :=
  ∃ A c, e = .returned (.slice A n c) ∧ w'.ownsRow w.heap.size 27 2 (.slice A n c) n (tcells l) ∧ Below w.heap.size w w'

set_option maxRecDepth 100000 in
set_option maxHeartbeats 8000000 in
theorem items_any (s : ByteArray) (cs : List Nat) (ws : List Int) (B : Option Addr) (n c : Nat) (w : World) (hs : s.size = n) (hcs : s.data.toList.map UInt8.toNat = cs) (hw : ws.length = n) (hn : n ≤ 100) (hR : Rd w w.heap.size 1 B n (icells ws)) :
    Calls Try.prog 29 #[.string s, .slice B n c] w (ItemsPost (itsN cs ws n) n w) := by
  obtain ⟨i0, hi, hz0, hz1, hz2⟩ := info_parts info27
  have HI := hidd (And.intro hi (And.intro hz0 (And.intro hz1 hz2)))
  clear hi hz0 hz1 hz2
  subst hs
  have HW := hidd (And.intro hw hcs)
  clear hw hcs
  go_enter Try.func29, Try.ntmps29
  go_wp2_with (fail)
  go_loopw [5, 6] (fun v i wx => ∃ k : Nat, k ≤ s.size ∧ i = .int .i64 k ∧ wx.ownsRow w.heap.size 27 2 v k (tcells (itsN cs ws k)) ∧ Below w.heap.size w wx)
    (fun _ i _ => s.size - (intOf i).toNat)
  case atStart => exact ⟨0, Nat.zero_le _, rfl, World.ownsRow_nil _ _ _ _, Below.refl _ _⟩
  case round =>
    obtain ⟨k, hk, rfl, hown, hB⟩ := hrel
    obtain ⟨v5, hv5⟩ : ∃ v, u5 = v := ⟨_, rfl⟩
    rw [hv5] at hown ⊢
    clear hv5
    clear u5
    by_cases hlt : k < s.size
    · obtain ⟨b, off, rfl, hbB, hc⟩ := hR.2 (by omega)
      have hwl : k < ws.length := by rw [HW.out.1]; exact hlt
      have hx := (hB.cell (p := ⟨b, off + k, none⟩) hbB).trans (hc k _ (flat1 ws k hwl))
      obtain ⟨x, hxe⟩ : ∃ x, ws[k] = x := ⟨_, rfl⟩
      rw [hxe] at hx
      have hgx : ws.getD k 0 = x := by rw [← hxe]; simp [hwl]
      have k0 : (0 : Int) ≤ (k : Int) := Int.natCast_nonneg _
      have k1 : (k : Int) < (s.size : Int) := by omega
      have HGX := hidd hgx
      clear hc hR hxe hgx
      go_upto_block 2 with (fail)
      have hcc : cs.getD k 0 = s[k].toNat := by
        rw [← HW.out.2]
        have hkl : k < s.data.toList.length := by simpa using hlt
        simp only [List.getD_eq_getElem?_getD, List.getElem?_map, List.getElem?_eq_getElem hkl]
        rfl
      obtain ⟨d, hd⟩ : ∃ d, s[k].toNat = d := ⟨_, rfl⟩
      rw [hd] at hcc ⊢
      have HCC := hidd hcc
      clear hcc hd
      go_cut [] (fun wx => wx = wr.alloc (.cells #[.int .u8 (kindC d), .int .i64 x] 27))
      case first =>
        by_cases e1 : d = 95
        · subst e1
          go_wp2_with (fail)
          go_meet
          exact rfl
        have f1 : ((d : Int) == 95) = false := by simp; omega
        by_cases e2 : d = 47
        · subst e2
          go_wp2_with (fail)
          go_meet
          exact rfl
        have f2 : ((d : Int) == 47) = false := by simp; omega
        by_cases e3 : d = 98
        · subst e3
          go_wp2_with (fail)
          go_meet
          exact rfl
        have f3 : ((d : Int) == 98) = false := by simp; omega
        have hk0 : kindC d = 0 := by unfold kindC; rw [if_neg e1, if_neg e2, if_neg e3]
        have HK := hidd hk0
        clear hk0
        go_wp2_with (fail)
        go_meet
        rw [HK.out]
      case rest =>
      subst hcut
      obtain ⟨kd, hkd⟩ : ∃ x, kindC d = x := ⟨_, rfl⟩
      have HKD := hidd hkd
      rw [hkd]
      clear hkd
      have hg7 := Blk.new wr 27 #[.int .u8 kd, .int .i64 x]
      have hB1 := below_al hB (.cells #[.int .u8 kd, .int .i64 x] 27)
      have own1 := hown.alloc (.cells #[.int .u8 kd, .int .i64 x] 27)
      obtain ⟨W, hW⟩ : ∃ Z, wr.alloc (.cells #[.int .u8 kd, .int .i64 x] 27) = Z := ⟨_, rfl⟩
      rw [hW] at hg7 hB1 own1 ⊢
      clear hW
      obtain ⟨g7, hg⟩ : ∃ g, wr.heap.size = g := ⟨_, rfl⟩
      rw [hg] at hg7 ⊢
      clear hg hB hown hx
      have z0 := hg7.cell 0
      have z1 := hg7.cell 1
      simp at z0 z1
      obtain ⟨hi, hz0, hz1, hz2⟩ := HI.out
      have hsz : w.heap.size ≤ (W.alloc (.cells #[.int .u8 kd, .int .i64 x] 27)).heap.size := by have := hB1.size; simp; omega
      go_wp2_with (at_builtin; refine wpList_append_src _ rfl _ _ 22 rfl w.heap.size 27 i0 (.agg #[.int .u8 0, .int .i64 0]) 2 16 Try.underlying22 hi hz0 hz1 hz2 rfl (by decide) v5 k _ rfl (own1.alloc (.cells #[.int .u8 kd, .int .i64 x] 27)) (W.alloc (.cells #[.int .u8 kd, .int .i64 x] 27)).heap.size (some ⟨W.heap.size, 0, none⟩) 1 1 [.int .u8 kd, .int .i64 x] rfl (Rd.blk (Blk.new W 27 #[.int .u8 kd, .int .i64 x]) 1 2 rfl) (by simp [Value.oneCell']) (by unfold maxLen; omega) (by omega) hsz ?_)
      intro v' w2 hown' hgr
      have hB2 := (below_al hB1 (.cells #[.int .u8 kd, .int .i64 x] 27)).grown hgr hsz (fun q hq => (own1.lt q hq).1)
      have HO : Hid (w2.ownsRow w.heap.size 27 2 v' (k + 1) (tcells (itsN cs ws (k + 1)))) := by
        rw [itsN, HCC.out, HGX.out, HKD.out, tcells_snoc]
        exact hown'
      clear hown' hgr hi hz0 hz1 hz2 z0 z1 own1
      go_wp2_with (fail)
      go_roundw
      case rel => exact ⟨k + 1, by omega, by go_num, HO.out, hB2⟩
      case measure => simp [intOf]; omega
    · have hkk : k = s.size := by omega
      subst hkk
      obtain ⟨A', c', rfl, hrd⟩ := own_slice hown
      have HO := hidd hown
      clear hown hrd
      go_wp2_with (fail)
      go_ret
      exact ⟨A', c', rfl, HO.out, hB⟩
end Go.Proofs.Ytdhjgflkincapaa
