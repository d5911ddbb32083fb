/- awake of chapter 10 answers true. -/
import Derived.Test.YtdhjgflkincapaaLItems
namespace Go.Proofs.Ytdhjgflkincapaa
open Go.RowKit
set_option linter.unusedVariables false

def LinesPost (k : Nat) (r : Lr) (w : World) (e : Ending) (w' : World) : Prop :=
  ∃ A c, e = .returned (.tuple #[.slice A k c, .int .i64 r.e]) ∧ Rd w' w'.heap.size 3 A k (lcells r.ls) ∧ Below w.heap.size w w'
theorem fill_lit (l : List It) (W : Int) (A : Option Addr) (n c k : Nat) (w : World) (r : Lr) (hR : Rd w w.heap.size 2 A n (tcells l)) (hn : l.length = n) (hc : n ≤ c) (hcm : c ≤ maxLen) (hr : fillF l W = r) (hk : r.ls.length = k) :
    Calls Try.prog 17 #[.slice A n c, .int .i64 W] w (LinesPost k r w) := by
  subst hn
  refine (fill_any l W A c w hR hc hcm r hr k hk).mono ?_
  rintro e w' ⟨A', c', rfl, ho, hb⟩
  exact ⟨A', c', rfl, Rd.of_own ho, hb⟩
theorem items_lit (s : ByteArray) (cs : List Nat) (ws : List Int) (l : List It) (g n c : Nat) (vs : Array Value) (w : World) (hb : Blk w g 3 vs) (hvs : vs = (icells ws).toArray) (hs : s.size = n) (hcs : s.data.toList.map UInt8.toNat = cs) (hw : ws.length = n) (hn : n ≤ 100) (hl : itsN cs ws n = l) :
    Calls Try.prog 29 #[.string s, .slice (some ⟨g, 0, none⟩) n c] w (ItemsPost l n w) := by
  subst hvs
  subst hl
  have hlen : (icells ws).length = ws.length * 1 := flat_length (fun n : Int => [Value.int .i64 n]) 1 (fun _ => rfl) ws
  have h := Rd.blk hb n 1 (by simp [hlen, hw])
  exact items_any s cs ws (some ⟨g, 0, none⟩) n c w hs hcs hw hn (by simpa using h)
theorem told_lit (l : List Ln) (A : Option Addr) (g n m c c2 : Nat) (vs : Array Value) (w : World) (hb : Blk w g 3 vs) (hvs : vs = (lcells l).toArray) (hR : Rd w w.heap.size 3 A n (lcells l)) (hn : l.length = n) (hl : n ≤ 4096) (hm : 3 * n = m) :
    Calls Try.prog 30 #[.slice A n c, .int .i64 0, .slice (some ⟨g, 0, none⟩) m c2] w fun e w' => e = .returned (.bool true) ∧ Below w.heap.size w w' := by
  subst hvs
  have hlen : (lcells l).length = l.length * 3 := flat_length Ln.cs 3 (fun _ => rfl) l
  have h := Rd.blk hb m 1 (by simp [hlen, hn]; omega)
  exact told_yes l A (some ⟨g, 0, none⟩) n m c c2 w hR hn hl (by simpa using h) hm

set_option maxRecDepth 100000 in
set_option maxHeartbeats 16000000 in
theorem awake10 (w : World) : Calls Try.prog 14 #[] w fun e w' => e = .returned (.bool true) ∧ Below w.heap.size w w' := by
  have hB := Below.refl w.heap.size w
  go_enter Try.func14, Try.ntmps14
  go_wp2_with (fail)
  have hg := Blk.new (w) 3 #[.int .i64 3, .int .i64 1, .int .i64 3, .int .i64 1, .int .i64 3]
  have hal := below_al (Below.refl (w).heap.size (w)) (.cells #[.int .i64 3, .int .i64 1, .int .i64 3, .int .i64 1, .int .i64 3] 3)
  replace hB := below_step hB hal
  clear hal
  refine (items_lit _ [119, 95, 119, 95, 119] [3, 1, 3, 1, 3] ([⟨0, 3⟩, ⟨1, 1⟩, ⟨0, 3⟩, ⟨1, 1⟩, ⟨0, 3⟩] : List It) _ 5 5 _ _ hg rfl rfl rfl rfl (by decide) (by kernel_rfl)).mono ?_
  rintro e w1 ⟨A1, c1, rfl, own1, hbN⟩
  replace hB := below_step hB hbN
  clear hbN hg
  obtain ⟨le1, lm1⟩ := own_cap own1
  have rd1 := Rd.of_own own1
  clear own1
  go_wp2_with (fail)
  refine (fill_lit ([⟨0, 3⟩, ⟨1, 1⟩, ⟨0, 3⟩, ⟨1, 1⟩, ⟨0, 3⟩] : List It) 7 A1 5 c1 2 _ (⟨[⟨0, 3, 7⟩, ⟨4, 5, 3⟩], 0⟩ : Lr) rd1 rfl le1 lm1 (by kernel_rfl) rfl).mono ?_
  rintro e w2 ⟨A2, c2, rfl, rd2, hbN⟩
  replace hB := below_step hB hbN
  clear hbN rd1
  go_wp2_with (fail)
  have hg := Blk.new (w2) 3 #[.int .i64 1, .int .i64 9, .int .i64 9, .int .i64 1]
  have hal := below_al (Below.refl (w2).heap.size (w2)) (.cells #[.int .i64 1, .int .i64 9, .int .i64 9, .int .i64 1] 3)
  replace hB := below_step hB hal
  replace rd2 := (rd2.below hal).more hal.size
  clear hal
  refine (items_lit _ [95, 119, 119, 95] [1, 9, 9, 1] ([⟨1, 1⟩, ⟨0, 9⟩, ⟨0, 9⟩, ⟨1, 1⟩] : List It) _ 4 4 _ _ hg rfl rfl rfl rfl (by decide) (by kernel_rfl)).mono ?_
  rintro e w3 ⟨A3, c3, rfl, own3, hbN⟩
  replace hB := below_step hB hbN
  replace rd2 := (rd2.below hbN).more hbN.size
  clear hbN hg
  obtain ⟨le3, lm3⟩ := own_cap own3
  have rd3 := Rd.of_own own3
  clear own3
  go_wp2_with (fail)
  refine (fill_lit ([⟨1, 1⟩, ⟨0, 9⟩, ⟨0, 9⟩, ⟨1, 1⟩] : List It) 5 A3 4 c3 1 _ (⟨[⟨1, 3, 18⟩], 0⟩ : Lr) rd3 rfl le3 lm3 (by kernel_rfl) rfl).mono ?_
  rintro e w4 ⟨A4, c4, rfl, rd4, hbN⟩
  replace hB := below_step hB hbN
  replace rd2 := (rd2.below hbN).more hbN.size
  clear hbN rd3
  go_wp2_with (fail)
  have hg := Blk.new (w4) 3 #[.int .i64 1, .int .i64 0, .int .i64 0, .int .i64 1, .int .i64 0]
  have hal := below_al (Below.refl (w4).heap.size (w4)) (.cells #[.int .i64 1, .int .i64 0, .int .i64 0, .int .i64 1, .int .i64 0] 3)
  replace hB := below_step hB hal
  replace rd2 := (rd2.below hal).more hal.size
  replace rd4 := (rd4.below hal).more hal.size
  clear hal
  refine (items_lit _ [119, 47, 47, 119, 47] [1, 0, 0, 1, 0] ([⟨0, 1⟩, ⟨2, 0⟩, ⟨2, 0⟩, ⟨0, 1⟩, ⟨2, 0⟩] : List It) _ 5 5 _ _ hg rfl rfl rfl rfl (by decide) (by kernel_rfl)).mono ?_
  rintro e w5 ⟨A5, c5, rfl, own5, hbN⟩
  replace hB := below_step hB hbN
  replace rd2 := (rd2.below hbN).more hbN.size
  replace rd4 := (rd4.below hbN).more hbN.size
  clear hbN hg
  obtain ⟨le5, lm5⟩ := own_cap own5
  have rd5 := Rd.of_own own5
  clear own5
  go_wp2_with (fail)
  refine (fill_lit ([⟨0, 1⟩, ⟨2, 0⟩, ⟨2, 0⟩, ⟨0, 1⟩, ⟨2, 0⟩] : List It) 5 A5 5 c5 3 _ (⟨[⟨0, 1, 1⟩, ⟨2, 2, 0⟩, ⟨3, 4, 1⟩], 0⟩ : Lr) rd5 rfl le5 lm5 (by kernel_rfl) rfl).mono ?_
  rintro e w6 ⟨A6, c6, rfl, rd6, hbN⟩
  replace hB := below_step hB hbN
  replace rd2 := (rd2.below hbN).more hbN.size
  replace rd4 := (rd4.below hbN).more hbN.size
  clear hbN rd5
  go_wp2_with (fail)
  have hg := Blk.new (w6) 3 #[.int .i64 2, .int .i64 2, .int .i64 1]
  have hal := below_al (Below.refl (w6).heap.size (w6)) (.cells #[.int .i64 2, .int .i64 2, .int .i64 1] 3)
  replace hB := below_step hB hal
  replace rd2 := (rd2.below hal).more hal.size
  replace rd4 := (rd4.below hal).more hal.size
  replace rd6 := (rd6.below hal).more hal.size
  clear hal
  refine (items_lit _ [98, 98, 119] [2, 2, 1] ([⟨3, 2⟩, ⟨3, 2⟩, ⟨0, 1⟩] : List It) _ 3 3 _ _ hg rfl rfl rfl rfl (by decide) (by kernel_rfl)).mono ?_
  rintro e w7 ⟨A7, c7, rfl, own7, hbN⟩
  replace hB := below_step hB hbN
  replace rd2 := (rd2.below hbN).more hbN.size
  replace rd4 := (rd4.below hbN).more hbN.size
  replace rd6 := (rd6.below hbN).more hbN.size
  clear hbN hg
  obtain ⟨le7, lm7⟩ := own_cap own7
  have rd7 := Rd.of_own own7
  clear own7
  go_wp2_with (fail)
  refine (fill_lit ([⟨3, 2⟩, ⟨3, 2⟩, ⟨0, 1⟩] : List It) 4 A7 3 c7 2 _ (⟨[⟨0, 2, 4⟩, ⟨2, 3, 1⟩], 0⟩ : Lr) rd7 rfl le7 lm7 (by kernel_rfl) rfl).mono ?_
  rintro e w8 ⟨A8, c8, rfl, rd8, hbN⟩
  replace hB := below_step hB hbN
  replace rd2 := (rd2.below hbN).more hbN.size
  replace rd4 := (rd4.below hbN).more hbN.size
  replace rd6 := (rd6.below hbN).more hbN.size
  clear hbN rd7
  go_wp2_with (fail)
  refine (fill_lit [] 0 none 0 0 0 _ (⟨[], 0⟩ : Lr) (Rd.nil_ _) rfl (Nat.le_refl _) (by simp [maxLen]) (by kernel_rfl) rfl).mono ?_
  rintro e w9 ⟨A9, c9, rfl, rd9, hbN⟩
  replace hB := below_step hB hbN
  replace rd2 := (rd2.below hbN).more hbN.size
  replace rd4 := (rd4.below hbN).more hbN.size
  replace rd6 := (rd6.below hbN).more hbN.size
  replace rd8 := (rd8.below hbN).more hbN.size
  clear hbN
  go_wp2_with (fail)
  have hg := Blk.new (w9) 3 #[.int .i64 1]
  have hal := below_al (Below.refl (w9).heap.size (w9)) (.cells #[.int .i64 1] 3)
  replace hB := below_step hB hal
  replace rd2 := (rd2.below hal).more hal.size
  replace rd4 := (rd4.below hal).more hal.size
  replace rd6 := (rd6.below hal).more hal.size
  replace rd8 := (rd8.below hal).more hal.size
  replace rd9 := (rd9.below hal).more hal.size
  clear hal
  refine (items_lit _ [119] [1] ([⟨0, 1⟩] : List It) _ 1 1 _ _ hg rfl rfl rfl rfl (by decide) (by kernel_rfl)).mono ?_
  rintro e w10 ⟨A10, c10, rfl, own10, hbN⟩
  replace hB := below_step hB hbN
  replace rd2 := (rd2.below hbN).more hbN.size
  replace rd4 := (rd4.below hbN).more hbN.size
  replace rd6 := (rd6.below hbN).more hbN.size
  replace rd8 := (rd8.below hbN).more hbN.size
  replace rd9 := (rd9.below hbN).more hbN.size
  clear hbN hg
  obtain ⟨le10, lm10⟩ := own_cap own10
  have rd10 := Rd.of_own own10
  clear own10
  go_wp2_with (fail)
  refine (fill_lit ([⟨0, 1⟩] : List It) (-1) A10 1 c10 0 _ (⟨[], 2⟩ : Lr) rd10 rfl le10 lm10 (by kernel_rfl) rfl).mono ?_
  rintro e w11 ⟨A11, c11, rfl, rd11, hbN⟩
  replace hB := below_step hB hbN
  replace rd2 := (rd2.below hbN).more hbN.size
  replace rd4 := (rd4.below hbN).more hbN.size
  replace rd6 := (rd6.below hbN).more hbN.size
  replace rd8 := (rd8.below hbN).more hbN.size
  replace rd9 := (rd9.below hbN).more hbN.size
  clear hbN rd10
  go_wp2_with (fail)
  have hg := Blk.new (w11) 3 #[.int .i64 0, .int .i64 3, .int .i64 7, .int .i64 4, .int .i64 5, .int .i64 3]
  have hal := below_al (Below.refl (w11).heap.size (w11)) (.cells #[.int .i64 0, .int .i64 3, .int .i64 7, .int .i64 4, .int .i64 5, .int .i64 3] 3)
  replace hB := below_step hB hal
  replace rd2 := (rd2.below hal).more hal.size
  replace rd4 := (rd4.below hal).more hal.size
  replace rd6 := (rd6.below hal).more hal.size
  replace rd8 := (rd8.below hal).more hal.size
  replace rd9 := (rd9.below hal).more hal.size
  replace rd11 := (rd11.below hal).more hal.size
  clear hal
  refine (told_lit ([⟨0, 3, 7⟩, ⟨4, 5, 3⟩] : List Ln) A2 _ 2 6 c2 6 _ _ hg rfl rd2 rfl (by decide) rfl).mono ?_
  rintro e w12 ⟨rfl, hbN⟩
  replace hB := below_step hB hbN
  replace rd2 := (rd2.below hbN).more hbN.size
  replace rd4 := (rd4.below hbN).more hbN.size
  replace rd6 := (rd6.below hbN).more hbN.size
  replace rd8 := (rd8.below hbN).more hbN.size
  replace rd9 := (rd9.below hbN).more hbN.size
  replace rd11 := (rd11.below hbN).more hbN.size
  clear hbN hg
  go_wp2_with (fail)
  have hg := Blk.new (w12) 3 #[.int .i64 1, .int .i64 3, .int .i64 18]
  have hal := below_al (Below.refl (w12).heap.size (w12)) (.cells #[.int .i64 1, .int .i64 3, .int .i64 18] 3)
  replace hB := below_step hB hal
  replace rd2 := (rd2.below hal).more hal.size
  replace rd4 := (rd4.below hal).more hal.size
  replace rd6 := (rd6.below hal).more hal.size
  replace rd8 := (rd8.below hal).more hal.size
  replace rd9 := (rd9.below hal).more hal.size
  replace rd11 := (rd11.below hal).more hal.size
  clear hal
  refine (told_lit ([⟨1, 3, 18⟩] : List Ln) A4 _ 1 3 c4 3 _ _ hg rfl rd4 rfl (by decide) rfl).mono ?_
  rintro e w13 ⟨rfl, hbN⟩
  replace hB := below_step hB hbN
  replace rd2 := (rd2.below hbN).more hbN.size
  replace rd4 := (rd4.below hbN).more hbN.size
  replace rd6 := (rd6.below hbN).more hbN.size
  replace rd8 := (rd8.below hbN).more hbN.size
  replace rd9 := (rd9.below hbN).more hbN.size
  replace rd11 := (rd11.below hbN).more hbN.size
  clear hbN hg
  go_wp2_with (fail)
  have hg := Blk.new (w13) 3 #[.int .i64 0, .int .i64 1, .int .i64 1, .int .i64 2, .int .i64 2, .int .i64 0, .int .i64 3, .int .i64 4, .int .i64 1]
  have hal := below_al (Below.refl (w13).heap.size (w13)) (.cells #[.int .i64 0, .int .i64 1, .int .i64 1, .int .i64 2, .int .i64 2, .int .i64 0, .int .i64 3, .int .i64 4, .int .i64 1] 3)
  replace hB := below_step hB hal
  replace rd2 := (rd2.below hal).more hal.size
  replace rd4 := (rd4.below hal).more hal.size
  replace rd6 := (rd6.below hal).more hal.size
  replace rd8 := (rd8.below hal).more hal.size
  replace rd9 := (rd9.below hal).more hal.size
  replace rd11 := (rd11.below hal).more hal.size
  clear hal
  refine (told_lit ([⟨0, 1, 1⟩, ⟨2, 2, 0⟩, ⟨3, 4, 1⟩] : List Ln) A6 _ 3 9 c6 9 _ _ hg rfl rd6 rfl (by decide) rfl).mono ?_
  rintro e w14 ⟨rfl, hbN⟩
  replace hB := below_step hB hbN
  replace rd2 := (rd2.below hbN).more hbN.size
  replace rd4 := (rd4.below hbN).more hbN.size
  replace rd6 := (rd6.below hbN).more hbN.size
  replace rd8 := (rd8.below hbN).more hbN.size
  replace rd9 := (rd9.below hbN).more hbN.size
  replace rd11 := (rd11.below hbN).more hbN.size
  clear hbN hg
  go_wp2_with (fail)
  have hg := Blk.new (w14) 3 #[.int .i64 0, .int .i64 2, .int .i64 4, .int .i64 2, .int .i64 3, .int .i64 1]
  have hal := below_al (Below.refl (w14).heap.size (w14)) (.cells #[.int .i64 0, .int .i64 2, .int .i64 4, .int .i64 2, .int .i64 3, .int .i64 1] 3)
  replace hB := below_step hB hal
  replace rd2 := (rd2.below hal).more hal.size
  replace rd4 := (rd4.below hal).more hal.size
  replace rd6 := (rd6.below hal).more hal.size
  replace rd8 := (rd8.below hal).more hal.size
  replace rd9 := (rd9.below hal).more hal.size
  replace rd11 := (rd11.below hal).more hal.size
  clear hal
  refine (told_lit ([⟨0, 2, 4⟩, ⟨2, 3, 1⟩] : List Ln) A8 _ 2 6 c8 6 _ _ hg rfl rd8 rfl (by decide) rfl).mono ?_
  rintro e w15 ⟨rfl, hbN⟩
  replace hB := below_step hB hbN
  replace rd2 := (rd2.below hbN).more hbN.size
  replace rd4 := (rd4.below hbN).more hbN.size
  replace rd6 := (rd6.below hbN).more hbN.size
  replace rd8 := (rd8.below hbN).more hbN.size
  replace rd9 := (rd9.below hbN).more hbN.size
  replace rd11 := (rd11.below hbN).more hbN.size
  clear hbN hg
  go_wp2_with (fail)
  refine (told_yes [] A9 none 0 0 c9 0 _ rd9 rfl (by decide) (Rd.nil_ _) rfl).mono ?_
  rintro e w16 ⟨rfl, hbN⟩
  replace hB := below_step hB hbN
  replace rd2 := (rd2.below hbN).more hbN.size
  replace rd4 := (rd4.below hbN).more hbN.size
  replace rd6 := (rd6.below hbN).more hbN.size
  replace rd8 := (rd8.below hbN).more hbN.size
  replace rd9 := (rd9.below hbN).more hbN.size
  replace rd11 := (rd11.below hbN).more hbN.size
  clear hbN
  go_wp2_with (fail)
  refine (widest_any ([⟨0, 3, 7⟩, ⟨4, 5, 3⟩] : List Ln) A2 2 c2 _ rd2 rfl (by decide) 7 rfl).mono ?_
  rintro e w17 ⟨rfl, hbN⟩
  replace hB := below_step hB hbN
  clear hbN
  go_wp2_with (fail)
  go_ret
  exact ⟨rfl, hB⟩
end Go.Proofs.Ytdhjgflkincapaa
