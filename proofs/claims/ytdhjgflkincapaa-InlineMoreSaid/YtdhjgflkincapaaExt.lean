/- A world that lies over another one: all of the old cells as they were. Nothing of the program. -/
import Derived.Test.YtdhjgflkincapaaWords
namespace Go.Proofs.Ytdhjgflkincapaa
open Go.RowKit
theorem ext_step {W w1 w2 : World} (h : Below W.heap.size W w1 ∧ ∀ b o, b < W.heap.size → w1.cell? ⟨b, o, none⟩ = W.cell? ⟨b, o, none⟩) (k : Below w1.heap.size w1 w2) : Below W.heap.size W w2 := below_step h.1 k
theorem ext_al {W w1 : World} (h : Below W.heap.size W w1 ∧ ∀ b o, b < W.heap.size → w1.cell? ⟨b, o, none⟩ = W.cell? ⟨b, o, none⟩) (o : Obj) :
    Below W.heap.size W (w1.alloc o) ∧ ∀ b o', b < W.heap.size → (w1.alloc o).cell? ⟨b, o', none⟩ = W.cell? ⟨b, o', none⟩ := ext_of (below_al h.1 o)
theorem ext_set {W w1 : World} (h : Below W.heap.size W w1 ∧ ∀ b o, b < W.heap.size → w1.cell? ⟨b, o, none⟩ = W.cell? ⟨b, o, none⟩) {p q : Addr} (hp : W.heap.size ≤ p.block) (hq : W.heap.size ≤ q.block) (u v : Value) :
    Below W.heap.size W ((w1.setCell p u).setCell q v) ∧ ∀ b o', b < W.heap.size → ((w1.setCell p u).setCell q v).cell? ⟨b, o', none⟩ = W.cell? ⟨b, o', none⟩ := ext_of ((h.1.setCell hp u).setCell hq v)
end Go.Proofs.Ytdhjgflkincapaa
