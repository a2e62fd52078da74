/- Rows of the records under names; facts of their cells. -/
import Derived.Test.YtniejpfjbifjkaaDoorLm
namespace Go.Proofs.YtniejpfjbifjkaaDoor
open Go.RowKit Fl

theorem size22 : (Tryd.prog.info? 22).map (·.size) = some 1 := by kernel_rfl
theorem size73 : (Tryd.prog.info? 73).map (·.size) = some 1 := by kernel_rfl
theorem size3 : (Tryd.prog.info? 3).map (·.size) = some 1 := by kernel_rfl
def spRow (s : Spc) : Array Value := #[.int .i64 s.st, .int .i64 s.by_, .bool s.v6, .int .u8 (s.b 0), .int .u8 (s.b 1), .int .u8 (s.b 2), .int .u8 (s.b 3), .int .u8 (s.b 4), .int .u8 (s.b 5), .int .u8 (s.b 6), .int .u8 (s.b 7), .int .u8 (s.b 8), .int .u8 (s.b 9), .int .u8 (s.b 10), .int .u8 (s.b 11), .int .u8 (s.b 12), .int .u8 (s.b 13), .int .u8 (s.b 14), .int .u8 (s.b 15), .float .f64 s.w]
def rcRow (r : Rc) (a : Option Addr) (n c : Nat) : Array Value := #[.int .i64 r.gen, .int .i64 r.life, .int .i64 r.spec.st, .int .i64 r.spec.by_, .bool r.spec.v6, .int .u8 (r.spec.b 0), .int .u8 (r.spec.b 1), .int .u8 (r.spec.b 2), .int .u8 (r.spec.b 3), .int .u8 (r.spec.b 4), .int .u8 (r.spec.b 5), .int .u8 (r.spec.b 6), .int .u8 (r.spec.b 7), .int .u8 (r.spec.b 8), .int .u8 (r.spec.b 9), .int .u8 (r.spec.b 10), .int .u8 (r.spec.b 11), .int .u8 (r.spec.b 12), .int .u8 (r.spec.b 13), .int .u8 (r.spec.b 14), .int .u8 (r.spec.b 15), .float .f64 r.spec.w, .slice a n c, .int .i64 r.done]
theorem spcV_row (s : Spc) : spcV s = .agg (spRow s) := rfl
theorem recV_row (r : Rc) (a : Option Addr) (n c : Nat) : recV r a n c = .agg (rcRow r a n c) := rfl
theorem spRow_size (s : Spc) : (spRow s).size = 20 := rfl
theorem rcRow_size (r : Rc) (a : Option Addr) (n c : Nat) : (rcRow r a n c).size = 24 := rfl
theorem one_spRow (s : Spc) : (spRow s).all (·.oneCell') = true := one72 s
theorem one_rcRow (r : Rc) (a : Option Addr) (n c : Nat) : (rcRow r a n c).all (·.oneCell') = true :=
  all_oneCell_toArray (by intro v hv; simp only [List.mem_cons, List.not_mem_nil, or_false] at hv; rcases hv with rfl | rfl | rfl | rfl | rfl | rfl | rfl | rfl | rfl | rfl | rfl | rfl | rfl | rfl | rfl | rfl | rfl | rfl | rfl | rfl | rfl | rfl | rfl | rfl <;> rfl)
theorem range_spec {w : World} {g : Nat} {r : Rc} {a : Option Addr} {n c : Nat} {t : TypeId} {fr : Nat × Nat} (h : w.heap[g]? = some (.cells (rcRow r a n c) t fr)) : w.rangeAt g 2 (spRow r.spec).toList :=
  range_row h 2 _ (drop_lit _ 2 _ rfl)
theorem cell_gen {w : World} {g : Nat} {r : Rc} {a : Option Addr} {n c : Nat} {t : TypeId} {fr : Nat × Nat} (h : w.heap[g]? = some (.cells (rcRow r a n c) t fr)) : w.cell? ⟨g, 0, none⟩ = some (.int .i64 r.gen) := by rw [cell_of_row w g 0 _ t fr h]; rfl
theorem cell_life {w : World} {g : Nat} {r : Rc} {a : Option Addr} {n c : Nat} {t : TypeId} {fr : Nat × Nat} (h : w.heap[g]? = some (.cells (rcRow r a n c) t fr)) : w.cell? ⟨g, 1, none⟩ = some (.int .i64 r.life) := by rw [cell_of_row w g 1 _ t fr h]; rfl
theorem cell_votes {w : World} {g : Nat} {r : Rc} {a : Option Addr} {n c : Nat} {t : TypeId} {fr : Nat × Nat} (h : w.heap[g]? = some (.cells (rcRow r a n c) t fr)) : w.cell? ⟨g, 22, none⟩ = some (.slice a n c) := by rw [cell_of_row w g 22 _ t fr h]; rfl
theorem cell_done {w : World} {g : Nat} {r : Rc} {a : Option Addr} {n c : Nat} {t : TypeId} {fr : Nat × Nat} (h : w.heap[g]? = some (.cells (rcRow r a n c) t fr)) : w.cell? ⟨g, 23, none⟩ = some (.int .i64 r.done) := by rw [cell_of_row w g 23 _ t fr h]; rfl
theorem cell_w {w : World} {g : Nat} {s : Spc} {t : TypeId} {fr : Nat × Nat} (h : w.heap[g]? = some (.cells (spRow s) t fr)) : w.cell? ⟨g, 19, none⟩ = some (.float .f64 s.w) := by rw [cell_of_row w g 19 _ t fr h]; rfl
theorem set_w (s : Spc) (x : Nat) : (spRow s).setIfInBounds 19 (.float .f64 x) = spRow { s with w := x } := rfl

/-! ### the state of a walk: what the blocks of the call's own hold, under names -/
abbrev Ent := Nat × Array Value × TypeId
structure St (w0 w : World) (m : List Ent) : Prop where
  below : Below w0.heap.size w0 w
  rows : ∀ x ∈ m, w.heap[x.1]? = some (.cells x.2.1 x.2.2 (0, 0))
  own : ∀ x ∈ m, w0.heap.size ≤ x.1
  nodup : (m.map (·.1)).Nodup
theorem St.start (w : World) : St w w [] := ⟨Below.refl _ _, by simp, by simp, by simp⟩
theorem lt_of_row {w : World} {g : Nat} {o : Obj} (h : w.heap[g]? = some o) : g < w.heap.size := by
  rcases Nat.lt_or_ge g w.heap.size with h1 | h1
  · exact h1
  · rw [Array.getElem?_eq_none h1] at h; cases h
theorem St.alloc {w0 w : World} {m : List Ent} (h : St w0 w m) (cs : Array Value) (t : TypeId) : St w0 (w.alloc (.cells cs t)) ((w.heap.size, cs, t) :: m) := by
  refine ⟨h.below.alloc h.below.size _, ?_, ?_, ?_⟩
  · intro x hx
    rcases List.mem_cons.1 hx with rfl | hx
    · exact heap_alloc_new w _
    · have := h.rows x hx
      exact (Below.heap_alloc w _ _ (lt_of_row this)).trans this
  · intro x hx
    rcases List.mem_cons.1 hx with rfl | hx
    · exact h.below.size
    · exact h.own x hx
  · rw [List.map_cons, List.nodup_cons]
    refine ⟨fun hm => ?_, h.nodup⟩
    obtain ⟨x, hx, he⟩ := List.mem_map.1 hm
    have := lt_of_row (h.rows x hx)
    omega
theorem St.drew {w0 w : World} {m : List Ent} (h : St w0 w m) : St w0 w.drew m := ⟨h.below.drew, h.rows, h.own, h.nodup⟩
theorem St.call {w0 w w1 : World} {m : List Ent} (h : St w0 w m) (hb : Below w.heap.size w w1) : St w0 w1 m :=
  ⟨h.below.trans (hb.mono h.below.size), fun x hx => row_below (h.rows x hx) hb, h.own, h.nodup⟩
theorem St.row {w0 w : World} {m : List Ent} (h : St w0 w m) (k : Nat) {g : Nat} {cs : Array Value} {t : TypeId} (hk : m[k]? = some (g, cs, t)) : w.heap[g]? = some (.cells cs t (0, 0)) :=
  h.rows (g, cs, t) (List.mem_of_getElem? hk)
theorem St.ge {w0 w : World} {m : List Ent} (h : St w0 w m) (k : Nat) {g : Nat} {cs : Array Value} {t : TypeId} (hk : m[k]? = some (g, cs, t)) : w0.heap.size ≤ g :=
  h.own (g, cs, t) (List.mem_of_getElem? hk)
theorem St.lt {w0 w : World} {m : List Ent} (h : St w0 w m) (k : Nat) {g : Nat} {cs : Array Value} {t : TypeId} (hk : m[k]? = some (g, cs, t)) : g < w.heap.size := lt_of_row (h.row k hk)
theorem St.set {w0 w : World} {m : List Ent} (h : St w0 w m) (k : Nat) {g : Nat} {cs : Array Value} {t : TypeId} (hk : m[k]? = some (g, cs, t)) (cs' : Array Value) : St w0 (w.setRow g cs') (m.set k (g, cs', t)) := by
  have hr := h.row k hk
  have hg := h.ge k hk
  have hkl : k < m.length := (List.getElem?_eq_some_iff.1 hk).1
  have hmap : (m.set k (g, cs', t)).map (·.1) = m.map (·.1) := by
    rw [List.map_set]
    apply List.ext_getElem?
    intro i
    rw [List.getElem?_set]
    split
    · rename_i hik
      subst hik
      simp only [List.length_map, hkl, if_true, List.getElem?_map, hk]
      rfl
    · rfl
  refine ⟨below_setRow h.below hg _, ?_, ?_, by rw [hmap]; exact h.nodup⟩
  · intro x hx
    obtain ⟨i, hi⟩ := List.getElem?_of_mem hx
    by_cases hik : k = i
    · subst hik
      rw [List.getElem?_set_self hkl] at hi
      cases hi
      exact setRow_heap _ _ _ _ _ _ hr
    · rw [List.getElem?_set_ne hik] at hi
      have hx' := h.rows x (List.mem_of_getElem? hi)
      refine (setRow_other _ _ _ _ (fun he => ?_)).trans hx'
      have hn := h.nodup
      rw [List.nodup_iff_pairwise_ne] at hn
      have h1 : (m.map (·.1))[k]? = some g := by rw [List.getElem?_map, hk]; rfl
      have h2 : (m.map (·.1))[i]? = some g := by rw [List.getElem?_map, hi]; exact congrArg some he
      have := h.nodup
      obtain ⟨hl1, e1⟩ := List.getElem?_eq_some_iff.1 h1
      obtain ⟨hl2, e2⟩ := List.getElem?_eq_some_iff.1 h2
      exact hik ((List.getElem_inj this).1 (e1.trans e2.symm))
  · intro x hx
    rcases List.mem_or_eq_of_mem_set hx with hx | rfl
    · exact h.own x hx
    · exact hg
theorem St.drop {w0 w : World} {m : List Ent} (h : St w0 w m) (m' : List Ent) (hs : m'.Sublist m) : St w0 w m' :=
  ⟨h.below, fun x hx => h.rows x (hs.subset hx), fun x hx => h.own x (hs.subset hx), h.nodup.sublist (hs.map _)⟩
theorem St.swap {w0 w : World} {m : List Ent} {x y : Ent} (h : St w0 w (x :: y :: m)) : St w0 w (y :: x :: m) :=
  ⟨h.below, fun z hz => h.rows z (by simp only [List.mem_cons] at hz ⊢; rcases hz with h | h | h <;> simp [h]), fun z hz => h.own z (by simp only [List.mem_cons] at hz ⊢; rcases hz with h | h | h <;> simp [h]), by
    have := h.nodup
    simp only [List.map_cons, List.nodup_cons, List.mem_cons, not_or] at this ⊢
    exact ⟨⟨fun e => this.1.1 e.symm, this.2.1⟩, this.1.2, this.2.2⟩⟩
/-- a stored cell is a stored row. -/
theorem St.put {w0 w : World} {m : List Ent} (h : St w0 w m) (k : Nat) {g : Nat} {cs : Array Value} {t : TypeId} (hk : m[k]? = some (g, cs, t)) (i : Nat) (v : Value) : St w0 (w.setCell ⟨g, i, none⟩ v) (m.set k (g, cs.setIfInBounds i v, t)) := by
  rw [setCell_eq_setRow w g i cs t (0, 0) v (h.row k hk)]
  exact h.set k hk _

/-! ### laws of operations, over that state -/
section
variable {P : Program} {ops : Array Oper} {rest : List Oper} {o : Oper} {a : Act} {w : World} {Q : Exit → Act → World → Prop} {w0 : World} {m : List Ent}
theorem wpList_val (hw : Region.wanted o (yielded ops a.tmps) = true) {v : Value} {w' : World} (hr : (execOp a.eval o).run P w = .ok (.value v) w') (h : wpList P ops Q rest (a.put o.dst v) w') : wpList P ops Q (o :: rest) a w :=
  wpList_step fun K hK => by
    rw [if_pos hw]; unfold Oper.wp; rw [hr]; exact hK _ _ h
theorem wpList_unit (hw : Region.wanted o (yielded ops a.tmps) = true) {w' : World} (hr : (execOp a.eval o).run P w = .ok .skip w') (h : wpList P ops Q rest (a.put o.dst undef) w') : wpList P ops Q (o :: rest) a w :=
  wpList_step fun K hK => by
    rw [if_pos hw]; unfold Oper.wp; rw [hr]; exact hK _ _ h
theorem run_newVar_agg (w : World) (t : TypeId) (cs : Array Value) : (newVar t (.agg cs)).run P w = .ok ⟨w.heap.size, 0, none⟩ (w.alloc (.cells cs t)) := by
  simp only [newVar, Value.cells, newRow, Sem.run_bind]
  rfl
theorem st_box (hSt : St w0 w m) (hw : Region.wanted o (yielded ops a.tmps) = true) (ty : TypeId) (x : Operand) (ho : o.op = .box ty x) (cs : Array Value) (hx : a.eval x = .agg cs)
    (h : ∀ g w1, St w0 w1 ((g, cs, ty) :: m) → Below w.heap.size w w1 → wpList P ops Q rest (a.put o.dst (.pointer (some ⟨g, 0, none⟩))) w1) : wpList P ops Q (o :: rest) a w := by
  refine wpList_val hw (v := .pointer (some ⟨w.heap.size, 0, none⟩)) (w' := w.alloc (.cells cs ty)) ?_ (h _ _ (hSt.alloc cs ty) ((Below.refl _ _).alloc (Nat.le_refl _) _))
  unfold execOp
  simp only [ho, hx, Instr.box, Sem.run_bind, Sem.run_pure, Result.andThen_ok, run_newVar_agg]
theorem st_alloc (hSt : St w0 w m) (hw : Region.wanted o (yielded ops a.tmps) = true) (ty : TypeId) (ho : o.op = .alloc ty) (cs : Array Value) (hz : (P.info? ty).map (·.zero) = some (some (.agg cs)))
    (h : ∀ g w1, St w0 w1 ((g, cs, ty) :: m) → Below w.heap.size w w1 → wpList P ops Q rest (a.put o.dst (.pointer (some ⟨g, 0, none⟩))) w1) : wpList P ops Q (o :: rest) a w := by
  refine wpList_val hw (v := .pointer (some ⟨w.heap.size, 0, none⟩)) (w' := w.alloc (.cells cs ty)) ?_ (h _ _ (hSt.alloc cs ty) ((Below.refl _ _).alloc (Nat.le_refl _) _))
  cases hq : P.info? ty with
  | none => simp [hq] at hz
  | some i =>
    have hs : i.zero = some (.agg cs) := by simpa [hq] using hz
    unfold execOp
    simp [ho, Instr.alloc, zeroValue, typeInfo, hq, hs, Sem.run_bind, Sem.run_pure, Result.andThen_ok, run_newVar_agg]
theorem st_load (hSt : St w0 w m) (k : Nat) (hw : Region.wanted o (yielded ops a.tmps) = true) (ty : TypeId) (x : Operand) (ho : o.op = .load ty x) (g : Nat) (hx : a.eval x = .pointer (some ⟨g, 0, none⟩)) (cs : Array Value) (t : TypeId)
    (hk : m[k]? = some (g, cs, t)) (d : TypeDesc) (hu : P.underlying ty = some d) (hd : (match d with | .struct _ | .array _ _ => true | _ => false) = true) (hi : (P.info? ty).map (·.size) = some cs.size)
    (h : wpList P ops Q rest (a.put o.dst (.agg cs)) w) : wpList P ops Q (o :: rest) a w :=
  wpList_step fun K hK => by
    rw [if_pos hw]; exact wp_load_row ty x ho g hx t cs _ d (hSt.row k hk) hu hd hi (hK _ _ h)
theorem st_store (hSt : St w0 w m) (k : Nat) (hw : Region.wanted o (yielded ops a.tmps) = true) (ty : TypeId) (x y : Operand) (ho : o.op = .store ty x y) (g : Nat) (hx : a.eval x = .pointer (some ⟨g, 0, none⟩)) (cs : Array Value) (hy : a.eval y = .agg cs)
    (old : Array Value) (t : TypeId) (hk : m[k]? = some (g, old, t)) (hi : (P.info? ty).map (·.size) = some cs.size) (hold : old.size = cs.size) (h1 : cs.all (·.oneCell') = true)
    (h : ∀ w1, St w0 w1 (m.set k (g, cs, t)) → wpList P ops Q rest (a.put o.dst undef) w1) : wpList P ops Q (o :: rest) a w :=
  wpList_step fun K hK => by
    rw [if_pos hw]; exact wp_store_row ty x y ho g cs hx hy t old (hSt.row k hk) hi hold h1 (hK _ _ (h _ (hSt.set k hk cs)))
/-- a part of a row is loaded. -/
theorem st_part (hw : Region.wanted o (yielded ops a.tmps) = true) (ty : TypeId) (x : Operand) (ho : o.op = .load ty x) (g off : Nat) (hx : a.eval x = .pointer (some ⟨g, off, none⟩)) (cs : Array Value)
    (hc : w.rangeAt g off cs.toList) (d : TypeDesc) (hu : P.underlying ty = some d) (hd : d.isRow = true) (hi : (P.info? ty).map (·.size) = some cs.size)
    (h : wpList P ops Q rest (a.put o.dst (.agg cs)) w) : wpList P ops Q (o :: rest) a w := by
  refine wpList_load_want hw ty x ho g off hx cs.toList d hc hu hd ?_ ?_
  · rw [hi]; simp
  · simpa using h
/-- one cell of a row is stored. -/
theorem run_put (w : World) (ty : TypeId) (g off : Nat) (v : Value) (cs : Array Value) (t : TypeId) (hg : w.heap[g]? = some (.cells cs t (0, 0))) (ho : off < cs.size) (hv : v.cells = #[v]) (h1 : v.oneCell' = true) (hi : (P.info? ty).map (·.size) = some 1) :
    (storeVar ty ⟨g, off, none⟩ v).run P w = .ok () (w.setCell ⟨g, off, none⟩ v) := by
  have hc : w.cell? ⟨g, off, none⟩ = some cs[off] := by rw [cell_of_row w g off cs t (0, 0) hg]; simp [ho]
  have hf : w.frozen? ⟨g, off, none⟩ = false := frozen_of_row w g off cs t hg
  have := run_storeCells_cells (P := P) g off [v] 0 w (fun j hj => by have : j = 0 := by simpa using hj
                                                                      subst this; simp [hc]) (fun j hj => by have : j = 0 := by simpa using hj
                                                                                                             subst this; simpa using hf) (fun u hu => by have : u = v := by simpa using hu
                                                                                                                                                         subst this; exact h1)
  cases hq : P.info? ty with
  | none => simp [hq] at hi
  | some i =>
    have hs : i.size = 1 := by simpa [hq] using hi
    simp only [Nat.add_zero] at this
    simp [storeVar, sizeOf, typeInfo, hq, hv, hs, this, World.setCells]
theorem st_put (hSt : St w0 w m) (k : Nat) (hw : Region.wanted o (yielded ops a.tmps) = true) (ty : TypeId) (x y : Operand) (ho : o.op = .store ty x y) (g off : Nat) (hx : a.eval x = .pointer (some ⟨g, off, none⟩)) (v : Value) (hy : a.eval y = v)
    (cs : Array Value) (t : TypeId) (hk : m[k]? = some (g, cs, t)) (hoff : Nat.blt off cs.size = true) (hv : v.cells = #[v]) (h1 : v.oneCell' = true) (hi : (P.info? ty).map (·.size) = some 1)
    (h : ∀ w1, St w0 w1 (m.set k (g, cs.setIfInBounds off v, t)) → wpList P ops Q rest (a.put o.dst undef) w1) : wpList P ops Q (o :: rest) a w := by
  refine wpList_unit hw (w' := w.setCell ⟨g, off, none⟩ v) ?_ (h _ (hSt.put k hk off v))
  unfold execOp
  simp only [ho, hx, hy, Instr.storeAt, Instr.sureAddr, Sem.run_bind, Sem.run_pure, Result.andThen_ok, run_put w ty g off v cs t (hSt.row k hk) (Nat.le_of_ble_eq_true hoff) hv h1 hi]
end
end Go.Proofs.YtniejpfjbifjkaaDoor
