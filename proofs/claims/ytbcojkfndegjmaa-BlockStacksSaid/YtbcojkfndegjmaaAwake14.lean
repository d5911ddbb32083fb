/- awake of chapter 14 answers true. -/
import Derived.Test.YtbcojkfndegjmaaNear14
namespace Go.Proofs.Ytbcojkfndegjmaa
open Go.RowKit
set_option linter.unusedVariables false

theorem Kd.cells_blk {w : World} {g : Nat} {cs : Array Value} (hb : Blk w g 48 cs) (l : List Kd) (hcs : cs = (kcells l).toArray) (n : Nat) (hn : cs.size = n * 6) : Rd w w.heap.size 6 (some ⟨g, 0, none⟩) n (kcells l) := by
  have := Rd.blk hb n 6 hn
  subst hcs
  simpa using this
theorem Rd.first {w : World} {B : Nat} {A : Option Addr} (n : Nat) (a : Kd) (r : List Kd) (h : Rd w B 6 A (n + 1) (kcells (a :: r))) : Rd w B 6 A 1 (kcells [a]) := by
  refine ⟨rfl, fun _ => ?_⟩
  obtain ⟨b, off, e, hb, hc⟩ := h.2 (by omega)
  refine ⟨b, off, e, hb, fun j u hu => hc j u ?_⟩
  have hj : j < (kcells [a]).length := (List.getElem?_eq_some_iff.1 hu).1
  have e2 : kcells (a :: r) = kcells [a] ++ kcells r := by simp [kcells]
  rw [e2, List.getElem?_append_left hj]
  exact hu
set_option maxRecDepth 100000 in
set_option maxHeartbeats 16000000 in
theorem awake14 (w : World) : Calls Try.prog 26 #[] w fun e w' => e = .returned (.bool true) ∧ Below w.heap.size w w' := by
  have hB := Below.refl w.heap.size w
  go_enter Try.func26, Try.ntmps26
  go_wp2_with (fail)
  refine (kid_val 10 5 20 10 0 20 0 5 false rfl rfl rfl rfl rfl rfl _).mono ?_
  rintro e w1 ⟨rfl, hbN⟩
  replace hB := below_step hB hbN
  clear hbN
  go_wp2_with (fail)
  refine (kid_val 15 5 7 15 0 7 0 5 false rfl rfl rfl rfl rfl rfl _).mono ?_
  rintro e w2 ⟨rfl, hbN⟩
  replace hB := below_step hB hbN
  clear hbN
  have hal := below_al (Below.refl (w2).heap.size (w2)) (.cells #[.int .i64 10, .int .i64 0, .int .i64 20, .int .i64 0, .int .i64 5, .bool false, .int .i64 15, .int .i64 0, .int .i64 7, .int .i64 0, .int .i64 5, .bool false] 48)
  replace hB := below_step hB hal
  have hT1 := Blk.new (w2) 48 #[.int .i64 10, .int .i64 0, .int .i64 20, .int .i64 0, .int .i64 5, .bool false, .int .i64 15, .int .i64 0, .int .i64 7, .int .i64 0, .int .i64 5, .bool false]
  clear hal
  go_wp2_with (fail)
  refine (kid_val 8 (-1) 9 8 0 9 0 0 true rfl rfl rfl rfl rfl rfl _).mono ?_
  rintro e w3 ⟨rfl, hbN⟩
  replace hB := below_step hB hbN
  replace hT1 := hT1.below hbN hT1.lt
  clear hbN
  go_wp2_with (fail)
  refine (kid_val 4 5 0 4 0 0 0 5 false rfl rfl rfl rfl rfl rfl _).mono ?_
  rintro e w4 ⟨rfl, hbN⟩
  replace hB := below_step hB hbN
  replace hT1 := hT1.below hbN hT1.lt
  clear hbN
  have hal := below_al (Below.refl (w4).heap.size (w4)) (.cells #[.int .i64 8, .int .i64 0, .int .i64 9, .int .i64 0, .int .i64 0, .bool true, .int .i64 4, .int .i64 0, .int .i64 0, .int .i64 0, .int .i64 5, .bool false] 48)
  replace hB := below_step hB hal
  replace hT1 := hT1.below hal hT1.lt
  have hT2 := Blk.new (w4) 48 #[.int .i64 8, .int .i64 0, .int .i64 9, .int .i64 0, .int .i64 0, .bool true, .int .i64 4, .int .i64 0, .int .i64 0, .int .i64 0, .int .i64 5, .bool false]
  clear hal
  go_wp2_with (fail)
  refine (stack_lit [⟨⟨10, 0⟩, ⟨20, 0⟩, 5, false⟩, ⟨⟨15, 0⟩, ⟨7, 0⟩, 5, false⟩] false false (some ⟨(w2).heap.size, 0, none⟩) 2 2 2 _ ⟨⟨[10, 35], 47, ⟨0, 0⟩, ⟨0, 0⟩, false⟩, 0⟩ (Kd.cells_blk hT1 [⟨⟨10, 0⟩, ⟨20, 0⟩, 5, false⟩, ⟨⟨15, 0⟩, ⟨7, 0⟩, 5, false⟩] rfl 2 rfl) rfl (by decide) rfl rfl).mono ?_
  rintro e w5 ⟨A5, c5, rfl, rd5, hbN⟩
  replace hB := below_step hB hbN
  replace hT1 := hT1.below hbN hT1.lt
  replace hT2 := hT2.below hbN hT2.lt
  clear hbN
  have hal := below_al (Below.refl (w5).heap.size (w5)) (.cells #[.slice A5 2 c5, .int .i64 47, .int .i64 0, .int .i64 0, .int .i64 0, .int .i64 0, .bool false] 40)
  replace hB := below_step hB hal
  replace hT1 := hT1.below hal hT1.lt
  replace hT2 := hT2.below hal hT2.lt
  have Za : Res ((w5).alloc (.cells #[.slice A5 2 c5, .int .i64 47, .int .i64 0, .int .i64 0, .int .i64 0, .int .i64 0, .bool false] 40)) (w5).heap.size 2 (⟨[10, 35], 47, ⟨0, 0⟩, ⟨0, 0⟩, false⟩ : Sk) := Res.new rd5
  clear hal
  clear rd5
  go_wp2_with (fail)
  refine (stack_lit [⟨⟨10, 0⟩, ⟨20, 0⟩, 5, false⟩, ⟨⟨15, 0⟩, ⟨7, 0⟩, 5, false⟩] true true (some ⟨(w2).heap.size, 0, none⟩) 2 2 2 _ ⟨⟨[0, 25], 30, ⟨10, 0⟩, ⟨7, 0⟩, false⟩, 0⟩ (Kd.cells_blk hT1 [⟨⟨10, 0⟩, ⟨20, 0⟩, 5, false⟩, ⟨⟨15, 0⟩, ⟨7, 0⟩, 5, false⟩] rfl 2 rfl) rfl (by decide) rfl rfl).mono ?_
  rintro e w6 ⟨A6, c6, rfl, rd6, hbN⟩
  replace hB := below_step hB hbN
  replace hT1 := hT1.below hbN hT1.lt
  replace hT2 := hT2.below hbN hT2.lt
  replace Za := Za.below hbN
  clear hbN
  have hal := below_al (Below.refl (w6).heap.size (w6)) (.cells #[.slice A6 2 c6, .int .i64 30, .int .i64 10, .int .i64 0, .int .i64 7, .int .i64 0, .bool false] 40)
  replace hB := below_step hB hal
  replace hT1 := hT1.below hal hT1.lt
  replace hT2 := hT2.below hal hT2.lt
  replace Za := Za.below hal
  have Zb : Res ((w6).alloc (.cells #[.slice A6 2 c6, .int .i64 30, .int .i64 10, .int .i64 0, .int .i64 7, .int .i64 0, .bool false] 40)) (w6).heap.size 2 (⟨[0, 25], 30, ⟨10, 0⟩, ⟨7, 0⟩, false⟩ : Sk) := Res.new rd6
  clear hal
  clear rd6
  go_wp2_with (fail)
  refine (kid_val 10 5 (-4) 10 0 0 (-4) 5 false rfl rfl rfl rfl rfl rfl _).mono ?_
  rintro e w7 ⟨rfl, hbN⟩
  replace hB := below_step hB hbN
  replace hT1 := hT1.below hbN hT1.lt
  replace hT2 := hT2.below hbN hT2.lt
  replace Za := Za.below hbN
  replace Zb := Zb.below hbN
  clear hbN
  go_wp2_with (fail)
  refine (kid_val 3 5 0 3 0 0 0 5 false rfl rfl rfl rfl rfl rfl _).mono ?_
  rintro e w8 ⟨rfl, hbN⟩
  replace hB := below_step hB hbN
  replace hT1 := hT1.below hbN hT1.lt
  replace hT2 := hT2.below hbN hT2.lt
  replace Za := Za.below hbN
  replace Zb := Zb.below hbN
  clear hbN
  have hal := below_al (Below.refl (w8).heap.size (w8)) (.cells #[.int .i64 10, .int .i64 0, .int .i64 0, .int .i64 (-4), .int .i64 5, .bool false, .int .i64 3, .int .i64 0, .int .i64 0, .int .i64 0, .int .i64 5, .bool false] 48)
  replace hB := below_step hB hal
  replace hT1 := hT1.below hal hT1.lt
  replace hT2 := hT2.below hal hT2.lt
  replace Za := Za.below hal
  replace Zb := Zb.below hal
  have hT3 := Blk.new (w8) 48 #[.int .i64 10, .int .i64 0, .int .i64 0, .int .i64 (-4), .int .i64 5, .bool false, .int .i64 3, .int .i64 0, .int .i64 0, .int .i64 0, .int .i64 5, .bool false]
  clear hal
  go_wp2_with (fail)
  refine (stack_lit [⟨⟨10, 0⟩, ⟨0, (-4)⟩, 5, false⟩, ⟨⟨3, 0⟩, ⟨0, 0⟩, 5, false⟩] false false (some ⟨(w8).heap.size, 0, none⟩) 2 2 2 _ ⟨⟨[10, 14], 19, ⟨0, 0⟩, ⟨0, 0⟩, false⟩, 0⟩ (Kd.cells_blk hT3 [⟨⟨10, 0⟩, ⟨0, (-4)⟩, 5, false⟩, ⟨⟨3, 0⟩, ⟨0, 0⟩, 5, false⟩] rfl 2 rfl) rfl (by decide) rfl rfl).mono ?_
  rintro e w9 ⟨A9, c9, rfl, rd9, hbN⟩
  replace hB := below_step hB hbN
  replace hT1 := hT1.below hbN hT1.lt
  replace hT2 := hT2.below hbN hT2.lt
  replace Za := Za.below hbN
  replace Zb := Zb.below hbN
  replace hT3 := hT3.below hbN hT3.lt
  clear hbN
  have hal := below_al (Below.refl (w9).heap.size (w9)) (.cells #[.slice A9 2 c9, .int .i64 19, .int .i64 0, .int .i64 0, .int .i64 0, .int .i64 0, .bool false] 40)
  replace hB := below_step hB hal
  replace hT1 := hT1.below hal hT1.lt
  replace hT2 := hT2.below hal hT2.lt
  replace Za := Za.below hal
  replace Zb := Zb.below hal
  replace hT3 := hT3.below hal hT3.lt
  have Zc : Res ((w9).alloc (.cells #[.slice A9 2 c9, .int .i64 19, .int .i64 0, .int .i64 0, .int .i64 0, .int .i64 0, .bool false] 40)) (w9).heap.size 2 (⟨[10, 14], 19, ⟨0, 0⟩, ⟨0, 0⟩, false⟩ : Sk) := Res.new rd9
  clear hal
  clear rd9
  clear hT3 hT1
  go_wp2_with (fail)
  refine (stack_lit [⟨⟨8, 0⟩, ⟨9, 0⟩, 0, true⟩, ⟨⟨4, 0⟩, ⟨0, 0⟩, 5, false⟩] true false (some ⟨(w4).heap.size, 0, none⟩) 2 2 2 _ ⟨⟨[0, 0], 5, ⟨9, 0⟩, ⟨0, 0⟩, false⟩, 0⟩ (Kd.cells_blk hT2 [⟨⟨8, 0⟩, ⟨9, 0⟩, 0, true⟩, ⟨⟨4, 0⟩, ⟨0, 0⟩, 5, false⟩] rfl 2 rfl) rfl (by decide) rfl rfl).mono ?_
  rintro e w10 ⟨A10, c10, rfl, rd10, hbN⟩
  replace hB := below_step hB hbN
  replace hT2 := hT2.below hbN hT2.lt
  replace Za := Za.below hbN
  replace Zb := Zb.below hbN
  replace Zc := Zc.below hbN
  clear hbN
  have hal := below_al (Below.refl (w10).heap.size (w10)) (.cells #[.slice A10 2 c10, .int .i64 5, .int .i64 9, .int .i64 0, .int .i64 0, .int .i64 0, .bool false] 40)
  replace hB := below_step hB hal
  replace hT2 := hT2.below hal hT2.lt
  replace Za := Za.below hal
  replace Zb := Zb.below hal
  replace Zc := Zc.below hal
  have Zd : Res ((w10).alloc (.cells #[.slice A10 2 c10, .int .i64 5, .int .i64 9, .int .i64 0, .int .i64 0, .int .i64 0, .bool false] 40)) (w10).heap.size 2 (⟨[0, 0], 5, ⟨9, 0⟩, ⟨0, 0⟩, false⟩ : Sk) := Res.new rd10
  clear hal
  clear rd10
  go_wp2_with (fail)
  refine (stack_lit [⟨⟨8, 0⟩, ⟨9, 0⟩, 0, true⟩, ⟨⟨4, 0⟩, ⟨0, 0⟩, 5, false⟩] false false (some ⟨(w4).heap.size, 0, none⟩) 2 2 2 _ ⟨⟨[8, 9], 14, ⟨0, 0⟩, ⟨0, 0⟩, false⟩, 0⟩ (Kd.cells_blk hT2 [⟨⟨8, 0⟩, ⟨9, 0⟩, 0, true⟩, ⟨⟨4, 0⟩, ⟨0, 0⟩, 5, false⟩] rfl 2 rfl) rfl (by decide) rfl rfl).mono ?_
  rintro e w11 ⟨A11, c11, rfl, rd11, hbN⟩
  replace hB := below_step hB hbN
  replace hT2 := hT2.below hbN hT2.lt
  replace Za := Za.below hbN
  replace Zb := Zb.below hbN
  replace Zc := Zc.below hbN
  replace Zd := Zd.below hbN
  clear hbN
  have hal := below_al (Below.refl (w11).heap.size (w11)) (.cells #[.slice A11 2 c11, .int .i64 14, .int .i64 0, .int .i64 0, .int .i64 0, .int .i64 0, .bool false] 40)
  replace hB := below_step hB hal
  replace hT2 := hT2.below hal hT2.lt
  replace Za := Za.below hal
  replace Zb := Zb.below hal
  replace Zc := Zc.below hal
  replace Zd := Zd.below hal
  have Ze : Res ((w11).alloc (.cells #[.slice A11 2 c11, .int .i64 14, .int .i64 0, .int .i64 0, .int .i64 0, .int .i64 0, .bool false] 40)) (w11).heap.size 2 (⟨[8, 9], 14, ⟨0, 0⟩, ⟨0, 0⟩, false⟩ : Sk) := Res.new rd11
  clear hal
  clear rd11
  go_wp2_with (fail)
  refine (stack_lit [⟨⟨8, 0⟩, ⟨9, 0⟩, 0, true⟩] true true (some ⟨(w4).heap.size, 0, none⟩) 1 2 1 _ ⟨⟨[0], 0, ⟨9, 0⟩, ⟨0, 0⟩, true⟩, 0⟩ (Rd.first 1 ⟨⟨8, 0⟩, ⟨9, 0⟩, 0, true⟩ _ (Kd.cells_blk hT2 [⟨⟨8, 0⟩, ⟨9, 0⟩, 0, true⟩, ⟨⟨4, 0⟩, ⟨0, 0⟩, 5, false⟩] rfl 2 rfl)) rfl (by decide) rfl rfl).mono ?_
  rintro e w12 ⟨A12, c12, rfl, rd12, hbN⟩
  replace hB := below_step hB hbN
  replace hT2 := hT2.below hbN hT2.lt
  replace Za := Za.below hbN
  replace Zb := Zb.below hbN
  replace Zc := Zc.below hbN
  replace Zd := Zd.below hbN
  replace Ze := Ze.below hbN
  clear hbN
  have hal := below_al (Below.refl (w12).heap.size (w12)) (.cells #[.slice A12 1 c12, .int .i64 0, .int .i64 9, .int .i64 0, .int .i64 0, .int .i64 0, .bool true] 40)
  replace hB := below_step hB hal
  replace hT2 := hT2.below hal hT2.lt
  replace Za := Za.below hal
  replace Zb := Zb.below hal
  replace Zc := Zc.below hal
  replace Zd := Zd.below hal
  replace Ze := Ze.below hal
  have Zf : Res ((w12).alloc (.cells #[.slice A12 1 c12, .int .i64 0, .int .i64 9, .int .i64 0, .int .i64 0, .int .i64 0, .bool true] 40)) (w12).heap.size 1 (⟨[0], 0, ⟨9, 0⟩, ⟨0, 0⟩, true⟩ : Sk) := Res.new rd12
  clear hal
  clear rd12
  go_wp2_with (fail)
  refine (stack_lit [⟨⟨8, 0⟩, ⟨9, 0⟩, 0, true⟩] true false (some ⟨(w4).heap.size, 0, none⟩) 1 2 1 _ ⟨⟨[0], 0, ⟨9, 0⟩, ⟨0, 0⟩, false⟩, 0⟩ (Rd.first 1 ⟨⟨8, 0⟩, ⟨9, 0⟩, 0, true⟩ _ (Kd.cells_blk hT2 [⟨⟨8, 0⟩, ⟨9, 0⟩, 0, true⟩, ⟨⟨4, 0⟩, ⟨0, 0⟩, 5, false⟩] rfl 2 rfl)) rfl (by decide) rfl rfl).mono ?_
  rintro e w13 ⟨A13, c13, rfl, rd13, hbN⟩
  replace hB := below_step hB hbN
  replace hT2 := hT2.below hbN hT2.lt
  replace Za := Za.below hbN
  replace Zb := Zb.below hbN
  replace Zc := Zc.below hbN
  replace Zd := Zd.below hbN
  replace Ze := Ze.below hbN
  replace Zf := Zf.below hbN
  clear hbN
  have hal := below_al (Below.refl (w13).heap.size (w13)) (.cells #[.slice A13 1 c13, .int .i64 0, .int .i64 9, .int .i64 0, .int .i64 0, .int .i64 0, .bool false] 40)
  replace hB := below_step hB hal
  replace hT2 := hT2.below hal hT2.lt
  replace Za := Za.below hal
  replace Zb := Zb.below hal
  replace Zc := Zc.below hal
  replace Zd := Zd.below hal
  replace Ze := Ze.below hal
  replace Zf := Zf.below hal
  have Zg : Res ((w13).alloc (.cells #[.slice A13 1 c13, .int .i64 0, .int .i64 9, .int .i64 0, .int .i64 0, .int .i64 0, .bool false] 40)) (w13).heap.size 1 (⟨[0], 0, ⟨9, 0⟩, ⟨0, 0⟩, false⟩ : Sk) := Res.new rd13
  clear hal
  clear rd13
  clear hT2
  go_wp2_with (fail)
  refine (stack_lit [] false false none 0 0 0 _ ⟨⟨[], 0, ⟨0, 0⟩, ⟨0, 0⟩, false⟩, 0⟩ (Rd.nil_ _) rfl (by decide) rfl rfl).mono ?_
  rintro e w14 ⟨A14, c14, rfl, rd14, hbN⟩
  replace hB := below_step hB hbN
  replace Za := Za.below hbN
  replace Zb := Zb.below hbN
  replace Zc := Zc.below hbN
  replace Zd := Zd.below hbN
  replace Ze := Ze.below hbN
  replace Zf := Zf.below hbN
  replace Zg := Zg.below hbN
  clear hbN
  have hal := below_al (Below.refl (w14).heap.size (w14)) (.cells #[.slice A14 0 c14, .int .i64 0, .int .i64 0, .int .i64 0, .int .i64 0, .int .i64 0, .bool false] 40)
  replace hB := below_step hB hal
  replace Za := Za.below hal
  replace Zb := Zb.below hal
  replace Zc := Zc.below hal
  replace Zd := Zd.below hal
  replace Ze := Ze.below hal
  replace Zf := Zf.below hal
  replace Zg := Zg.below hal
  have Zh : Res ((w14).alloc (.cells #[.slice A14 0 c14, .int .i64 0, .int .i64 0, .int .i64 0, .int .i64 0, .int .i64 0, .bool false] 40)) (w14).heap.size 0 (⟨[], 0, ⟨0, 0⟩, ⟨0, 0⟩, false⟩ : Sk) := Res.new rd14
  clear hal
  clear rd14
  go_wp2_with (fail)
  refine (kid_val (-3) 1 0 0 (-3) 0 0 1 false rfl rfl rfl rfl rfl rfl _).mono ?_
  rintro e w15 ⟨rfl, hbN⟩
  replace hB := below_step hB hbN
  replace Za := Za.below hbN
  replace Zb := Zb.below hbN
  replace Zc := Zc.below hbN
  replace Zd := Zd.below hbN
  replace Ze := Ze.below hbN
  replace Zf := Zf.below hbN
  replace Zg := Zg.below hbN
  replace Zh := Zh.below hbN
  clear hbN
  have hal := below_al (Below.refl (w15).heap.size (w15)) (.cells #[.int .i64 0, .int .i64 (-3), .int .i64 0, .int .i64 0, .int .i64 1, .bool false] 48)
  replace hB := below_step hB hal
  replace Za := Za.below hal
  replace Zb := Zb.below hal
  replace Zc := Zc.below hal
  replace Zd := Zd.below hal
  replace Ze := Ze.below hal
  replace Zf := Zf.below hal
  replace Zg := Zg.below hal
  replace Zh := Zh.below hal
  have hT4 := Blk.new (w15) 48 #[.int .i64 0, .int .i64 (-3), .int .i64 0, .int .i64 0, .int .i64 1, .bool false]
  clear hal
  go_wp2_with (fail)
  refine (stack_lit [⟨⟨0, (-3)⟩, ⟨0, 0⟩, 1, false⟩] false false (some ⟨(w15).heap.size, 0, none⟩) 1 1 1 _ ⟨⟨[(-3)], 0, ⟨0, 0⟩, ⟨0, 0⟩, false⟩, 0⟩ (Kd.cells_blk hT4 [⟨⟨0, (-3)⟩, ⟨0, 0⟩, 1, false⟩] rfl 1 rfl) rfl (by decide) rfl rfl).mono ?_
  rintro e w16 ⟨A16, c16, rfl, rd16, hbN⟩
  replace hB := below_step hB hbN
  replace Za := Za.below hbN
  replace Zb := Zb.below hbN
  replace Zc := Zc.below hbN
  replace Zd := Zd.below hbN
  replace Ze := Ze.below hbN
  replace Zf := Zf.below hbN
  replace Zg := Zg.below hbN
  replace Zh := Zh.below hbN
  replace hT4 := hT4.below hbN hT4.lt
  clear hbN
  have hal := below_al (Below.refl (w16).heap.size (w16)) (.cells #[.slice A16 1 c16, .int .i64 0, .int .i64 0, .int .i64 0, .int .i64 0, .int .i64 0, .bool false] 40)
  replace hB := below_step hB hal
  replace Za := Za.below hal
  replace Zb := Zb.below hal
  replace Zc := Zc.below hal
  replace Zd := Zd.below hal
  replace Ze := Ze.below hal
  replace Zf := Zf.below hal
  replace Zg := Zg.below hal
  replace Zh := Zh.below hal
  replace hT4 := hT4.below hal hT4.lt
  have Zi : Res ((w16).alloc (.cells #[.slice A16 1 c16, .int .i64 0, .int .i64 0, .int .i64 0, .int .i64 0, .int .i64 0, .bool false] 40)) (w16).heap.size 1 (⟨[(-3)], 0, ⟨0, 0⟩, ⟨0, 0⟩, false⟩ : Sk) := Res.new rd16
  clear hal
  clear rd16
  clear hT4
  go_upto_region 12 with (fail)
  obtain ⟨wz, hwz⟩ : ∃ W, (w16).alloc (.cells #[.slice A16 1 c16, .int .i64 0, .int .i64 0, .int .i64 0, .int .i64 0, .int .i64 0, .bool false] 40) = W := ⟨_, rfl⟩
  rw [hwz] at hB Za Zb Zc Zd Ze Zf Zg Zh Zi ⊢
  clear hwz
  have Za' := Za
  obtain ⟨Aa, ca, ba, ra⟩ := Za'
  have qa0 := ba.cell 0
  simp at qa0
  go_wp2_with (fail)
  clear qa0
  have hal := below_al (Below.refl (wz).heap.size (wz)) (.cells #[.int .i64 (10), .int .i64 (35)] 3)
  replace hB := below_step hB hal
  replace Za := Za.below hal
  replace Zb := Zb.below hal
  replace Zc := Zc.below hal
  replace Zd := Zd.below hal
  replace Ze := Ze.below hal
  replace Zf := Zf.below hal
  replace Zg := Zg.below hal
  replace Zh := Zh.below hal
  replace Zi := Zi.below hal
  have rdx := (ra.below hal).more hal.size
  clear hal
  refine (told_yes [(10), (35)] Aa (some ⟨(wz).heap.size, 0, none⟩) 2 ca 2 _ rfl rdx (Rd.blk (Blk.new (wz) 3 #[.int .i64 (10), .int .i64 (35)]) 2 1 rfl) (by decide)).mono ?_
  rintro e w17 ⟨rfl, hbN⟩
  replace hB := below_step hB hbN
  replace Za := Za.below hbN
  replace Zb := Zb.below hbN
  replace Zc := Zc.below hbN
  replace Zd := Zd.below hbN
  replace Ze := Ze.below hbN
  replace Zf := Zf.below hbN
  replace Zg := Zg.below hbN
  replace Zh := Zh.below hbN
  replace Zi := Zi.below hbN
  clear hbN
  clear rdx ba ra
  have Za' := Za
  obtain ⟨Aa, ca, ba, ra⟩ := Za'
  have qa1 := ba.cell 1
  have qa2 := ba.cell 2
  have qa3 := ba.cell 3
  simp at qa1 qa2 qa3
  have Zb' := Zb
  obtain ⟨Ab, cb, bb, rb⟩ := Zb'
  have qb0 := bb.cell 0
  simp at qb0
  go_wp2_with (fail)
  clear qa1 qa2 qa3 qb0
  have hal := below_al (Below.refl (w17).heap.size (w17)) (.cells #[.int .i64 (0), .int .i64 (25)] 3)
  replace hB := below_step hB hal
  replace Za := Za.below hal
  replace Zb := Zb.below hal
  replace Zc := Zc.below hal
  replace Zd := Zd.below hal
  replace Ze := Ze.below hal
  replace Zf := Zf.below hal
  replace Zg := Zg.below hal
  replace Zh := Zh.below hal
  replace Zi := Zi.below hal
  have rdx := (rb.below hal).more hal.size
  clear hal
  refine (told_yes [(0), (25)] Ab (some ⟨(w17).heap.size, 0, none⟩) 2 cb 2 _ rfl rdx (Rd.blk (Blk.new (w17) 3 #[.int .i64 (0), .int .i64 (25)]) 2 1 rfl) (by decide)).mono ?_
  rintro e w18 ⟨rfl, hbN⟩
  replace hB := below_step hB hbN
  replace Za := Za.below hbN
  replace Zb := Zb.below hbN
  replace Zc := Zc.below hbN
  replace Zd := Zd.below hbN
  replace Ze := Ze.below hbN
  replace Zf := Zf.below hbN
  replace Zg := Zg.below hbN
  replace Zh := Zh.below hbN
  replace Zi := Zi.below hbN
  clear hbN
  clear rdx ba ra bb rb
  have Zb' := Zb
  obtain ⟨Ab, cb, bb, rb⟩ := Zb'
  have qb1 := bb.cell 1
  have qb2 := bb.cell 2
  have qb4 := bb.cell 4
  have qb6 := bb.cell 6
  simp at qb1 qb2 qb4 qb6
  have Zc' := Zc
  obtain ⟨Ac, cc, bc, rc⟩ := Zc'
  have qc0 := bc.cell 0
  simp at qc0
  go_wp2_with (fail)
  clear qb1 qb2 qb4 qb6 qc0
  have hal := below_al (Below.refl (w18).heap.size (w18)) (.cells #[.int .i64 (10), .int .i64 (14)] 3)
  replace hB := below_step hB hal
  replace Za := Za.below hal
  replace Zb := Zb.below hal
  replace Zc := Zc.below hal
  replace Zd := Zd.below hal
  replace Ze := Ze.below hal
  replace Zf := Zf.below hal
  replace Zg := Zg.below hal
  replace Zh := Zh.below hal
  replace Zi := Zi.below hal
  have rdx := (rc.below hal).more hal.size
  clear hal
  refine (told_yes [(10), (14)] Ac (some ⟨(w18).heap.size, 0, none⟩) 2 cc 2 _ rfl rdx (Rd.blk (Blk.new (w18) 3 #[.int .i64 (10), .int .i64 (14)]) 2 1 rfl) (by decide)).mono ?_
  rintro e w19 ⟨rfl, hbN⟩
  replace hB := below_step hB hbN
  replace Za := Za.below hbN
  replace Zb := Zb.below hbN
  replace Zc := Zc.below hbN
  replace Zd := Zd.below hbN
  replace Ze := Ze.below hbN
  replace Zf := Zf.below hbN
  replace Zg := Zg.below hbN
  replace Zh := Zh.below hbN
  replace Zi := Zi.below hbN
  clear hbN
  clear rdx bb rb bc rc
  have Zc' := Zc
  obtain ⟨Ac, cc, bc, rc⟩ := Zc'
  have qc1 := bc.cell 1
  simp at qc1
  have Zd' := Zd
  obtain ⟨Ad, cd, bd, rd⟩ := Zd'
  have qd0 := bd.cell 0
  simp at qd0
  go_wp2_with (fail)
  clear qc1 qd0
  have hal := below_al (Below.refl (w19).heap.size (w19)) (.cells #[.int .i64 (0), .int .i64 (0)] 3)
  replace hB := below_step hB hal
  replace Za := Za.below hal
  replace Zb := Zb.below hal
  replace Zc := Zc.below hal
  replace Zd := Zd.below hal
  replace Ze := Ze.below hal
  replace Zf := Zf.below hal
  replace Zg := Zg.below hal
  replace Zh := Zh.below hal
  replace Zi := Zi.below hal
  have rdx := (rd.below hal).more hal.size
  clear hal
  refine (told_yes [(0), (0)] Ad (some ⟨(w19).heap.size, 0, none⟩) 2 cd 2 _ rfl rdx (Rd.blk (Blk.new (w19) 3 #[.int .i64 (0), .int .i64 (0)]) 2 1 rfl) (by decide)).mono ?_
  rintro e w20 ⟨rfl, hbN⟩
  replace hB := below_step hB hbN
  replace Za := Za.below hbN
  replace Zb := Zb.below hbN
  replace Zc := Zc.below hbN
  replace Zd := Zd.below hbN
  replace Ze := Ze.below hbN
  replace Zf := Zf.below hbN
  replace Zg := Zg.below hbN
  replace Zh := Zh.below hbN
  replace Zi := Zi.below hbN
  clear hbN
  clear rdx bc rc bd rd
  have Zd' := Zd
  obtain ⟨Ad, cd, bd, rd⟩ := Zd'
  have qd1 := bd.cell 1
  have qd2 := bd.cell 2
  simp at qd1 qd2
  have Ze' := Ze
  obtain ⟨Ae, ce, be, re⟩ := Ze'
  have qe0 := be.cell 0
  simp at qe0
  go_wp2_with (fail)
  clear qd1 qd2 qe0
  have hal := below_al (Below.refl (w20).heap.size (w20)) (.cells #[.int .i64 (8), .int .i64 (9)] 3)
  replace hB := below_step hB hal
  replace Za := Za.below hal
  replace Zb := Zb.below hal
  replace Zc := Zc.below hal
  replace Zd := Zd.below hal
  replace Ze := Ze.below hal
  replace Zf := Zf.below hal
  replace Zg := Zg.below hal
  replace Zh := Zh.below hal
  replace Zi := Zi.below hal
  have rdx := (re.below hal).more hal.size
  clear hal
  refine (told_yes [(8), (9)] Ae (some ⟨(w20).heap.size, 0, none⟩) 2 ce 2 _ rfl rdx (Rd.blk (Blk.new (w20) 3 #[.int .i64 (8), .int .i64 (9)]) 2 1 rfl) (by decide)).mono ?_
  rintro e w21 ⟨rfl, hbN⟩
  replace hB := below_step hB hbN
  replace Za := Za.below hbN
  replace Zb := Zb.below hbN
  replace Zc := Zc.below hbN
  replace Zd := Zd.below hbN
  replace Ze := Ze.below hbN
  replace Zf := Zf.below hbN
  replace Zg := Zg.below hbN
  replace Zh := Zh.below hbN
  replace Zi := Zi.below hbN
  clear hbN
  clear rdx bd rd be re
  have Ze' := Ze
  obtain ⟨Ae, ce, be, re⟩ := Ze'
  have qe1 := be.cell 1
  simp at qe1
  have Zf' := Zf
  obtain ⟨Af, cf, bf, rf⟩ := Zf'
  have qf0 := bf.cell 0
  simp at qf0
  go_wp2_with (fail)
  clear qe1 qf0
  have hal := below_al (Below.refl (w21).heap.size (w21)) (.cells #[.int .i64 (0)] 3)
  replace hB := below_step hB hal
  replace Za := Za.below hal
  replace Zb := Zb.below hal
  replace Zc := Zc.below hal
  replace Zd := Zd.below hal
  replace Ze := Ze.below hal
  replace Zf := Zf.below hal
  replace Zg := Zg.below hal
  replace Zh := Zh.below hal
  replace Zi := Zi.below hal
  have rdx := (rf.below hal).more hal.size
  clear hal
  refine (told_yes [(0)] Af (some ⟨(w21).heap.size, 0, none⟩) 1 cf 1 _ rfl rdx (Rd.blk (Blk.new (w21) 3 #[.int .i64 (0)]) 1 1 rfl) (by decide)).mono ?_
  rintro e w22 ⟨rfl, hbN⟩
  replace hB := below_step hB hbN
  replace Za := Za.below hbN
  replace Zb := Zb.below hbN
  replace Zc := Zc.below hbN
  replace Zd := Zd.below hbN
  replace Ze := Ze.below hbN
  replace Zf := Zf.below hbN
  replace Zg := Zg.below hbN
  replace Zh := Zh.below hbN
  replace Zi := Zi.below hbN
  clear hbN
  clear rdx be re bf rf
  have Zf' := Zf
  obtain ⟨Af, cf, bf, rf⟩ := Zf'
  have qf2 := bf.cell 2
  have qf6 := bf.cell 6
  simp at qf2 qf6
  have Zg' := Zg
  obtain ⟨Ag, cg, bg, rg⟩ := Zg'
  have qg2 := bg.cell 2
  have qg6 := bg.cell 6
  simp at qg2 qg6
  have Zh' := Zh
  obtain ⟨Ah, ch, bh, rh⟩ := Zh'
  have qh1 := bh.cell 1
  have qh6 := bh.cell 6
  simp at qh1 qh6
  have Zi' := Zi
  obtain ⟨Ai, ci, bi, ri⟩ := Zi'
  have qi0 := bi.cell 0
  simp at qi0
  go_wp2_with (fail)
  clear qf2 qf6 qg2 qg6 qh1 qh6 qi0
  have hal := below_al (Below.refl (w22).heap.size (w22)) (.cells #[.int .i64 (-3)] 3)
  replace hB := below_step hB hal
  replace Za := Za.below hal
  replace Zb := Zb.below hal
  replace Zc := Zc.below hal
  replace Zd := Zd.below hal
  replace Ze := Ze.below hal
  replace Zf := Zf.below hal
  replace Zg := Zg.below hal
  replace Zh := Zh.below hal
  replace Zi := Zi.below hal
  have rdx := (ri.below hal).more hal.size
  clear hal
  refine (told_yes [(-3)] Ai (some ⟨(w22).heap.size, 0, none⟩) 1 ci 1 _ rfl rdx (Rd.blk (Blk.new (w22) 3 #[.int .i64 (-3)]) 1 1 rfl) (by decide)).mono ?_
  rintro e w23 ⟨rfl, hbN⟩
  replace hB := below_step hB hbN
  replace Za := Za.below hbN
  replace Zb := Zb.below hbN
  replace Zc := Zc.below hbN
  replace Zd := Zd.below hbN
  replace Ze := Ze.below hbN
  replace Zf := Zf.below hbN
  replace Zg := Zg.below hbN
  replace Zh := Zh.below hbN
  replace Zi := Zi.below hbN
  clear hbN
  clear rdx bf rf bg rg bh rh bi ri
  have Zi' := Zi
  obtain ⟨Ai, ci, bi, ri⟩ := Zi'
  have qi1 := bi.cell 1
  simp at qi1
  go_wp2_with (fail)
  go_ret
  exact ⟨rfl, hB⟩
end Go.Proofs.Ytbcojkfndegjmaa
