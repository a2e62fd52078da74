/- maglev.Build's third loop: turns, table and walks in memory. -/
import Derived.Test.YtniejpfjbifjkaaDoorMp
namespace Go.Proofs.YtniejpfjbifjkaaDoor
open Go.RowKit Fl

structure BM (l : List (Int × Nat)) (n : Nat) (ts : List Nat) (w : World) (gt gb gw cw : Nat) (wr : World) (tb : List Int) (c : List Nat) : Prop where
  turns : wr.ownsRow w.heap.size 3 1 (.slice (some ⟨gt, 0, none⟩) ts.length ts.length) ts.length (ints ts)
  tab : wr.ownsRow w.heap.size 3 1 (.slice (some ⟨gb, 0, none⟩) n n) n (ints' tb)
  walks : wr.ownsRow w.heap.size 104 3 (.slice (some ⟨gw, 0, none⟩) l.length cw) l.length (wkCells l n c l.length)
  below : Below w.heap.size w wr
  tb : gt ≠ gb
  tw : gt ≠ gw
  bw : gb ≠ gw
  clen : c.length = l.length
theorem wkCells_get {l : List (Int × Nat)} {n : Nat} {c : List Nat} {m i : Nat} (hi : i < m) : (wkCells l n c m)[i * 3]? = some (.int .i64 (slotAt l n i (c.getD i 0) : Nat)) ∧ (wkCells l n c m)[i * 3 + 1]? = some (.int .i64 (stStep (idAt l i) n : Nat)) ∧ (wkCells l n c m)[i * 3 + 2]? = some (.int .i64 (n : Int)) := by
  unfold wkCells
  have h0 := flat3_get (wk3 l n c) (fun _ => rfl) m i 0 hi (by decide)
  have h1 := flat3_get (wk3 l n c) (fun _ => rfl) m i 1 hi (by decide)
  have h2 := flat3_get (wk3 l n c) (fun _ => rfl) m i 2 hi (by decide)
  exact ⟨h0, h1, h2⟩
theorem slotAt_nx {l : List (Int × Nat)} {n i q : Nat} (hn : 2 ≤ n) : nx (slotAt l n i q) (stStep (idAt l i) n) n = slotAt l n i (q + 1) := by
  unfold slotAt
  have hs := (stStep_lt (id := idAt l i) (slots := (n : Int)) (by omega)).1
  rw [Int.toNat_natCast] at hs
  rw [nx_mod (pos_lt _ _ _ _ (by omega)) hs, ← pos_succ]
section
variable {l : List (Int × Nat)} {n : Nat} {ts : List Nat} {w : World} {gt gb gw cw : Nat} {wr : World} {t : List Int} {c : List Nat}
theorem BM.lift {w2 : World} (h : BM l n ts w gt gb gw cw wr t c) (hb : Below wr.heap.size wr w2) : BM l n ts w gt gb gw cw w2 t c :=
  ⟨owns_below h.turns hb (fun g hg => (h.turns.lt g hg).2), owns_below h.tab hb (fun g hg => (h.tab.lt g hg).2), owns_below h.walks hb (fun g hg => (h.walks.lt g hg).2), below_trans' h.below hb, h.tb, h.tw, h.bw, h.clen⟩
theorem BM.cells (h : BM l n ts w gt gb gw cw wr t c) {i : Nat} (hi : i < l.length) :
    wr.cell? ⟨gw, i * 3, none⟩ = some (.int .i64 (slotAt l n i (c.getD i 0) : Nat)) ∧ wr.cell? ⟨gw, i * 3 + 1, none⟩ = some (.int .i64 (stStep (idAt l i) n : Nat)) ∧ wr.cell? ⟨gw, i * 3 + 2, none⟩ = some (.int .i64 (n : Int)) ∧ wr.frozen? ⟨gw, i * 3, none⟩ = false := by
  obtain ⟨h0, h1, h2⟩ := wkCells_get (l := l) (n := n) (c := c) hi
  exact ⟨by rw [h.walks.cellAt _ (by omega), h0], by rw [h.walks.cellAt _ (by omega), h1], by rw [h.walks.cellAt _ (by omega), h2], h.walks.frozenAt _⟩
theorem BM.next (h : BM l n ts w gt gb gw cw wr t c) {i q : Nat} (hn : 2 ≤ n) (hi : i < l.length) (m : Nat) :
    BM l n ts w gt gb gw cw ((wr.setCell ⟨gw, i * 3, none⟩ (.int .i64 (nx (slotAt l n i q) (stStep (idAt l i) n) n : Nat))).drewN m) t (c.set i (q + 1)) := by
  rw [slotAt_nx hn]
  obtain ⟨ho, hg⟩ := h.walks.stored (i * 3) (.int .i64 (slotAt l n i (q + 1) : Nat))
  rw [wkCells_set l n c l.length i (q + 1) hi (by rw [h.clen]; exact hi)] at ho
  have k1 := h.turns.kept hg (.inr (by simp [Value.ownBlock]; exact h.tw))
  have k2 := h.tab.kept hg (.inr (by simp [Value.ownBlock]; exact h.bw))
  exact ⟨k1, k2, ho, below_drewN (h.below.setCell (h.walks.lt gw rfl).1 _) m, h.tb, h.tw, h.bw, by rw [List.length_set]; exact h.clen⟩
theorem BM.store (h : BM l n ts w gt gb gw cw wr t c) (x : Nat) (v : Int) : BM l n ts w gt gb gw cw (wr.setCell ⟨gb, x, none⟩ (.int .i64 v)) (t.set x v) c := by
  obtain ⟨ho, hg⟩ := h.tab.stored x (.int .i64 v)
  rw [ints'_set] at ho
  exact ⟨h.turns.kept hg (.inr (by simp [Value.ownBlock]; exact h.tb)), ho, h.walks.kept hg (.inr (by simp [Value.ownBlock]; exact fun e => h.bw e.symm)), h.below.setCell (h.tab.lt gb rfl).1 _, h.tb, h.tw, h.bw, h.clen⟩
/-- one step on: where it was, and the memory behind. -/
theorem BM.stepC (h : BM l n ts w gt gb gw cw wr t c) {i q : Nat} (hn : 2 ≤ n) (hn2 : n ≤ 1021) (hi : i < l.length) (hq : c.getD i 0 = q) :
    Calls Tryd.prog 85 #[.pointer (some ⟨gw, i * 3, none⟩)] wr fun e w' => e = .returned (.int .i64 (slotAt l n i q : Nat)) ∧ BM l n ts w gt gb gw cw w' t (c.set i (q + 1)) := by
  obtain ⟨c0, c1, c2, hf⟩ := h.cells hi
  rw [hq] at c0
  have hs := (stStep_lt (id := idAt l i) (slots := (n : Int)) (by omega)).1
  rw [Int.toNat_natCast] at hs
  refine (nextC gw (i * 3) (slotAt l n i q) (stStep (idAt l i) n) n wr (slotAt_lt (by omega)) hs hn2 c0 c1 c2 hf).mono ?_
  rintro e w' ⟨he, m, rfl⟩
  exact ⟨he, h.next hn hi m⟩
end
end Go.Proofs.YtniejpfjbifjkaaDoor
