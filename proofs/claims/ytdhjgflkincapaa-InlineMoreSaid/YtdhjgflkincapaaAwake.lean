/- awake of chapter 11 answers true. -/
import Derived.Test.YtdhjgflkincapaaMPlaces
namespace Go.Proofs.Ytdhjgflkincapaa
open Go.RowKit
set_option linter.unusedVariables false

def LitPost (n : Nat) (P : Pr) (w : World) (e : Ending) (w' : World) : Prop :=
  ∃ A c, e = .returned (.tuple #[.slice A n c, .int .i64 P.h, .int .i64 P.b, .int .i64 P.e]) ∧ Rd w' w'.heap.size 2 A n (pcells P.ps) ∧ Below w.heap.size w w'
theorem lit_post {P : Pr} {n : Nat} {w : World} {e : Ending} {w' : World} (h : PlacePost P w e w') (hn : P.ps.length = n) : LitPost n P w e w' := by
  subst hn
  obtain ⟨v, rfl, own1, hb⟩ := h
  obtain ⟨A, c, rfl, rd⟩ := own_slice own1
  exact ⟨A, c, rfl, rd, hb⟩
theorem place_lit (l : List Sp) (up dn wd : Int) (ls : Nat) (A : Option Addr) (n c k : Nat) (w : World) (P : Pr) (hR : Rd w w.heap.size 4 A n (scells l)) (hn : l.length = n) (hl : n ≤ 4096) (hP : placeF l up dn wd ls = P) (hk : P.ps.length = k) :
    Calls Try.prog 19 #[.slice A n c, .int .i64 up, .int .i64 dn, .int .i64 wd, .int .u8 ls] w (LitPost k P w) := by
  subst hn
  subst hP
  exact (place_any2 l up dn wd ls A c w hR hl).mono fun e w' h => lit_post h hk

set_option maxRecDepth 100000 in
set_option maxHeartbeats 4000000 in
theorem awake_any (w : World) : Calls Try.prog 22 #[] w fun e w' => e = .returned (.bool true) ∧ Below w.heap.size w w' := by
  go_enter Try.func22, Try.ntmps22
  go_wp2_with (fail)
  refine (place_lit [] 12 4 100 0 none 0 0 0 w ⟨[], 16, 12, 0⟩ (Rd.nil_ _) rfl (by decide) rfl rfl).mono ?_
  rintro e w1 ⟨A1, c1, rfl, _, hb1⟩
  go_wp2_with (fail)
  refine (place_lit [⟨10, 20, 0, 0⟩, ⟨5, 3, 9, 0⟩] 12 4 100 0 (some ⟨w1.heap.size, 0, none⟩) 2 2 2 _ ⟨[⟨0, 0⟩, ⟨10, 17⟩], 29, 20, 0⟩ (Rd.blk (Blk.new w1 45 _) 2 4 rfl) rfl (by decide) rfl rfl).mono ?_
  rintro e w2 ⟨A2, c2, rfl, rd2, hb2⟩
  have hB2 := below_step (below_al hb1 _) hb2
  clear hb1 hb2
  go_wp2_with (fail)
  refine (place_lit [⟨10, 30, 0, 1⟩, ⟨10, 5, 5, 2⟩] 12 4 100 1 (some ⟨w2.heap.size, 0, none⟩) 2 2 2 _ ⟨[⟨80, 0⟩, ⟨90, 20⟩], 30, 12, 0⟩ (Rd.blk (Blk.new w2 45 _) 2 4 rfl) rfl (by decide) rfl rfl).mono ?_
  rintro e w3 ⟨A3, c3, rfl, rd3, hb3⟩
  have hB3 := below_step (below_al hB2 _) hb3
  have rd23 := (rd2.below (below_step (below_al (Below.refl w2.heap.size w2) _) hb3)).more (below_step (below_al (Below.refl w2.heap.size w2) _) hb3).size
  clear hB2 hb3 rd2
  go_wp2_with (fail)
  refine (place_lit [⟨11, 1, 1, 0⟩] 12 4 100 2 (some ⟨w3.heap.size, 0, none⟩) 1 1 1 _ ⟨[⟨44, 11⟩], 16, 12, 0⟩ (Rd.blk (Blk.new w3 45 _) 1 4 rfl) rfl (by decide) rfl rfl).mono ?_
  rintro e w4 ⟨A4, c4, rfl, rd4, hb4⟩
  have hB4 := below_step (below_al hB3 _) hb4
  have k4 := below_step (below_al (Below.refl w3.heap.size w3) _) hb4
  have rd24 := (rd23.below k4).more k4.size
  have rd34 := (rd3.below k4).more k4.size
  clear hB3 hb4 rd23 rd3 k4
  go_wp2_with (fail)
  refine (place_lit [] 12 4 100 5 none 0 0 0 w4 ⟨[], 0, 0, 2⟩ (Rd.nil_ _) rfl (by decide) rfl rfl).mono ?_
  rintro e w5 ⟨A5, c5, rfl, _, hb5⟩
  have hB5 := below_step hB4 hb5
  have rd25 := (rd24.below hb5).more hb5.size
  have rd35 := (rd34.below hb5).more hb5.size
  have rd45 := (rd4.below hb5).more hb5.size
  clear hB4 hb5 rd24 rd34 rd4
  obtain ⟨g2, o2, rfl, _, hc2⟩ := rd25.2 (by decide)
  obtain ⟨g3, o3, rfl, _, hc3⟩ := rd35.2 (by decide)
  obtain ⟨g4, o4, rfl, _, hc4⟩ := rd45.2 (by decide)
  have x20 := hc2 0 _ rfl
  have x21 := hc2 1 _ rfl
  have x22 := hc2 2 _ rfl
  have x23 := hc2 3 _ rfl
  have x30 := hc3 0 _ rfl
  have x31 := hc3 1 _ rfl
  have x32 := hc3 2 _ rfl
  have x33 := hc3 3 _ rfl
  have x40 := hc4 0 _ rfl
  have x41 := hc4 1 _ rfl
  simp only [Nat.add_zero] at x20 x30 x40
  clear hc2 hc3 hc4 rd25 rd35 rd45
  go_wp2_with (fail)
  go_ret
  exact ⟨rfl, hB5⟩
end Go.Proofs.Ytdhjgflkincapaa
