/- maglev.Build's first loop: weights and walks, in memory. -/
import Derived.Test.YtniejpfjbifjkaaDoorMo
import Derived.Deep.RegionHeld3
import Derived.Deep.AppendLies
import Derived.Deep.DrawnRows
namespace Go.Proofs.YtniejpfjbifjkaaDoor
open Go.RowKit Fl

theorem info104 : (Tryd.prog.info? 104).map (fun i => (i.zero, i.size, i.bytes)) = some (some (.agg #[.int .i64 0, .int .i64 0, .int .i64 0]), 3, 24) := by kernel_rfl
theorem keep2 {w2 w3 : World} {H : Nat} {x y : Value} (hb : Below w2.heap.size w2 w3) (q : w2.cell? ⟨H, 0, none⟩ = some x ∧ w2.cell? ⟨H, 1, none⟩ = some y) : w3.cell? ⟨H, 0, none⟩ = some x ∧ w3.cell? ⟨H, 1, none⟩ = some y :=
  ⟨(hb.cell (p := ⟨H, 0, none⟩) (World.block_lt_of_cell? w2 _ q.1)).trans q.1, (hb.cell (p := ⟨H, 1, none⟩) (World.block_lt_of_cell? w2 _ q.2)).trans q.2⟩
theorem keep4 {w3 w4 : World} {o : Obj} {row : Option Nat} {H : Nat} {x y : Value} (hg : (w3.alloc o).grownBy w4 row) (hne : some H ≠ row) (q : w3.cell? ⟨H, 0, none⟩ = some x ∧ w3.cell? ⟨H, 1, none⟩ = some y) : w4.cell? ⟨H, 0, none⟩ = some x ∧ w4.cell? ⟨H, 1, none⟩ = some y := by
  have h1 : H < w3.heap.size := World.block_lt_of_cell? w3 _ q.1
  have h2 := keep2 ((Below.refl w3.heap.size w3).alloc (Nat.le_refl _) o) q
  exact ⟨(hg.cell_far ⟨H, 0, none⟩ (by simp; omega) hne).trans h2.1, (hg.cell_far ⟨H, 1, none⟩ (by simp; omega) hne).trans h2.2⟩
/-- the memory behind k entries. -/
structure L1 (l : List (Int × Nat)) (n : Nat) (w wr : World) (k : Nat) (v6 v7 : Value) : Prop where
  ws : wr.ownsRow w.heap.size 22 1 v6 k (flts (wts (l.take k)))
  wk : wr.ownsRow w.heap.size 104 3 v7 k (wkCells l n (List.replicate l.length 0) k)
  apart : v7.ownBlock = none ∨ v7.ownBlock ≠ v6.ownBlock
  below : Below w.heap.size w wr
theorem L1.start (l : List (Int × Nat)) (n : Nat) (w wr : World) (h : Below w.heap.size w wr) : L1 l n w wr 0 (.slice none 0 0) (.slice none 0 0) :=
  ⟨World.ownsRow_nil _ _ _ _, World.ownsRow_nil _ _ _ _, .inl rfl, h⟩
theorem wk3_zero {l : List (Int × Nat)} {n k : Nat} (h : 2 ≤ n) (hk : k < l.length) : wk3 l n (List.replicate l.length 0) k = [.int .i64 (stAt (idAt l k) n : Nat), .int .i64 (stStep (idAt l k) n : Nat), .int .i64 (n : Int)] := by
  unfold wk3
  have : (List.replicate l.length 0).getD k 0 = 0 := by simp [List.getD, hk]
  rw [this]
  unfold slotAt
  have ha := stAt_lt (id := idAt l k) (slots := n) (by omega)
  rw [Int.toNat_natCast] at ha
  rw [pos_zero ha]
/-- behind the first append: the walks are still there. -/
structure L1m (l : List (Int × Nat)) (n : Nat) (w : World) (H : Nat) (wr : World) (k : Nat) (g6 c6 : Nat) (v7 : Value) : Prop where
  ws : wr.ownsRow w.heap.size 22 1 (.slice (some ⟨g6, 0, none⟩) (k + 1) c6) (k + 1) (flts (wts (l.take (k + 1))))
  wk : wr.ownsRow w.heap.size 104 3 v7 k (wkCells l n (List.replicate l.length 0) k)
  apart : v7.ownBlock ≠ some g6
  below : Below w.heap.size w wr
  old : ∀ g, v7.ownBlock = some g → g < H
  lt : g6 < wr.heap.size
theorem L1.mid {l : List (Int × Nat)} {n : Nat} {w wr w2 : World} {k g6 c6 : Nat} {v6 v7 : Value} (h : L1 l n w wr k v6 v7) (hk : k < l.length) (o1 o2 : Obj)
    (h6 : w2.ownsRow w.heap.size 22 1 (.slice (some ⟨g6, 0, none⟩) (k + 1) c6) (k + 1) (flts (wts (l.take k)) ++ [.float .f64 (l.getD k ent0).2]))
    (hg : (((wr.alloc o1).alloc o2).drew).grownBy w2 v6.ownBlock) (hat : v6.ownBlock = some g6 ∨ g6 = wr.heap.size + 2) (hlt : g6 < w2.heap.size) : L1m l n w wr.heap.size w2 k g6 c6 v7 := by
  have hbz := h.below.size
  have hold : ∀ g, v7.ownBlock = some g → g < wr.heap.size := fun g hg => (h.wk.lt g hg).2
  refine ⟨by rw [wts_take_succ l k hk]; exact h6, ?_, ?_, ?_, hold, hlt⟩
  · refine ((((h.wk.alloc o1).alloc o2).drew).kept hg ?_)
    exact h.apart
  · intro e
    have := hold _ e
    rcases hat with h1 | h1
    · rcases h.apart with h2 | h2
      · rw [e] at h2; cases h2
      · exact h2 (e.trans h1.symm)
    · omega
  · have hb : Below w.heap.size w (((wr.alloc o1).alloc o2).drew) := ((h.below.alloc hbz o1).alloc (by simp; omega) o2).drew
    exact hb.grown hg (by simp [World.drew]; omega) (fun j hj => (h.ws.lt j hj).1)
theorem L1m.done {l : List (Int × Nat)} {n : Nat} {w w2 w3 w4 : World} {H k g6 c6 g7 c7 : Nat} {v7 : Value} (h : L1m l n w H w2 k g6 c6 v7) (hn : 2 ≤ n) (hk : k < l.length)
    (hb3 : Below w2.heap.size w2 w3) (o : Obj)
    (h7 : w4.ownsRow w.heap.size 104 3 (.slice (some ⟨g7, 0, none⟩) (k + 1) c7) (k + 1) (wkCells l n (List.replicate l.length 0) k ++ [.int .i64 (stAt (idAt l k) n : Nat), .int .i64 (stStep (idAt l k) n : Nat), .int .i64 (n : Int)]))
    (hg : (w3.alloc o).grownBy w4 v7.ownBlock) (hat : v7.ownBlock = some g7 ∨ g7 = w3.heap.size + 1) : L1 l n w w4 (k + 1) (.slice (some ⟨g6, 0, none⟩) (k + 1) c6) (.slice (some ⟨g7, 0, none⟩) (k + 1) c7) := by
  have hz := hb3.size
  have hbz := h.below.size
  have hlt := h.lt
  have h63 := owns_below h.ws hb3 (fun g hg => (h.ws.lt g hg).2)
  refine ⟨(h63.alloc o).kept hg (.inr ?_), by rw [wkCells_succ, wk3_zero hn hk]; exact h7, ?_, ?_⟩
  · show some g6 ≠ _
    intro e; exact h.apart e.symm
  · right
    show some g7 ≠ some g6
    intro e
    rcases hat with h1 | h1
    · exact h.apart (by rw [h1, e])
    · simp at e; omega
  · have hb : Below w.heap.size w (w3.alloc o) := (h.below.trans (hb3.mono hbz)).alloc (by omega) o
    exact hb.grown hg (by simp; omega) (fun j hj => (h.wk.lt j hj).1)
end Go.Proofs.YtniejpfjbifjkaaDoor
