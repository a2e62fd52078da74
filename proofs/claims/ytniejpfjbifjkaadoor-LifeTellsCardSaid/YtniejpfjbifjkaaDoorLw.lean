/- Laws for the walks of the joins: parts stored, builds, slices of the call's own, results. -/
import Derived.Test.YtniejpfjbifjkaaDoorLn
import Derived.Great.BuildSlice
import Derived.Laws.ResultCell
namespace Go.Proofs.YtniejpfjbifjkaaDoor
open Go.RowKit Fl

def zRc : Rc := ⟨0, 0, zSpc, [], 0⟩
theorem zero75 : (Tryd.prog.info? 75).map (·.zero) = some (some (.agg (rcRow zRc none 0 0))) := by kernel_rfl
theorem built75 : Tryd.prog.built 75 [] = some (rcRow zRc none 0 0) := by kernel_rfl
theorem info87 : (Tryd.prog.info? 87).map (fun i => (i.zero, i.size, i.bytes)) = some (some (.agg #[.int .i64 0, .bool false]), 2, 16) := by kernel_rfl
def vtRow (v : Int × Bool) : Array Value := #[.int .i64 v.1, .bool v.2]
theorem votV_row (v : Int × Bool) : votV v = .agg (vtRow v) := rfl
theorem one_vtRow (v : Int × Bool) : (vtRow v).all (·.oneCell') = true :=
  all_oneCell_toArray (by intro u hv; simp only [List.mem_cons, List.not_mem_nil, or_false] at hv; rcases hv with rfl | rfl <;> rfl)
theorem zero87 : (Tryd.prog.info? 87).map (·.zero) = some (some (.agg (vtRow vt0))) := by kernel_rfl
/-- the cells of votes. -/
def flatV (l : List (Int × Bool)) : List Value := l.flatMap fun v => [.int .i64 v.1, .bool v.2]
theorem flatV_len : ∀ l : List (Int × Bool), (flatV l).length = l.length * 2
  | [] => rfl
  | v :: l => by
    have := flatV_len l
    simp only [flatV, List.flatMap_cons, List.length_append, List.length_cons, List.length_nil] at this ⊢
    omega
theorem flatV_snoc (l : List (Int × Bool)) (v : Int × Bool) : flatV (l ++ [v]) = flatV l ++ [.int .i64 v.1, .bool v.2] := by simp [flatV]
theorem flatV_get : ∀ (l : List (Int × Bool)) (i : Nat), i < l.length → (flatV l)[i * 2]? = some (.int .i64 (l.getD i vt0).1) ∧ (flatV l)[i * 2 + 1]? = some (.bool (l.getD i vt0).2)
  | v :: l, 0, _ => by simp [flatV, List.getD]
  | v :: l, i + 1, h => by
    have := flatV_get l i (by simpa using h)
    have e1 : (flatV (v :: l)) = .int .i64 v.1 :: .bool v.2 :: flatV l := by simp [flatV]
    rw [e1, show (i + 1) * 2 = i * 2 + 1 + 1 by omega]
    simpa [List.getD] using this

/-! ### a part of a row is stored -/
def putAll (cs : Array Value) (o : Nat) : List Value → Array Value
  | [] => cs
  | v :: r => putAll (cs.setIfInBounds o v) (o + 1) r
theorem St.puts {w0 : World} (k : Nat) {g : Nat} {t : TypeId} : ∀ (vs : List Value) (o : Nat) {w : World} {m : List Ent} {cs : Array Value}, St w0 w m → m[k]? = some (g, cs, t) → St w0 (w.setCells g o vs) (m.set k (g, putAll cs o vs, t))
  | [], o, w, m, cs, h, hk => by
    have : m.set k (g, cs, t) = m := by
      apply List.ext_getElem?
      intro i
      rw [List.getElem?_set]
      split
      · rename_i hi
        subst hi
        rw [hk, if_pos (List.getElem?_eq_some_iff.1 hk).1]
      · rfl
    unfold putAll World.setCells
    rw [this]; exact h
  | v :: r, o, w, m, cs, h, hk => by
    have h1 := h.put k hk o v
    have hk1 : (m.set k (g, cs.setIfInBounds o v, t))[k]? = some (g, cs.setIfInBounds o v, t) := by
      rw [List.getElem?_set_self (List.getElem?_eq_some_iff.1 hk).1]
    have h2 := St.puts k r (o + 1) h1 hk1
    rw [List.set_set] at h2
    exact h2
section
variable {P : Program} {ops : Array Oper} {rest : List Oper} {o : Oper} {a : Act} {w : World} {Q : Exit → Act → World → Prop} {w0 : World} {m : List Ent}
theorem st_puts (hSt : St w0 w m) (k : Nat) (hw : Region.wanted o (yielded ops a.tmps) = true) (ty : TypeId) (x y : Operand) (ho : o.op = .store ty x y) (g off : Nat) (hx : a.eval x = .pointer (some ⟨g, off, none⟩)) (vs : Array Value) (hy : a.eval y = .agg vs)
    (cs : Array Value) (t : TypeId) (hk : m[k]? = some (g, cs, t)) (hoff : Nat.ble (off + vs.size) cs.size = true) (h1 : vs.all (·.oneCell') = true) (hi : (P.info? ty).map (·.size) = some vs.size)
    (h : ∀ w1, St w0 w1 (m.set k (g, putAll cs off vs.toList, t)) → wpList P ops Q rest (a.put o.dst undef) w1) : wpList P ops Q (o :: rest) a w := by
  refine wpList_unit hw (w' := w.setCells g off vs.toList) ?_ (h _ (hSt.puts k vs.toList off hk))
  unfold execOp
  have hb := Nat.le_of_ble_eq_true hoff
  have ht : w.there g off vs.size := fun j hj => by
    have hr := hSt.row k hk
    refine ⟨?_, frozen_of_row w g (off + j) cs t hr⟩
    rw [cell_of_row w g (off + j) cs t (0, 0) hr]
    simp; omega
  simp only [ho, hx, hy, Instr.storeAt, Instr.sureAddr, Sem.run_bind, Sem.run_pure, Result.andThen_ok, run_storeVar_mid w g off ty vs ht hi h1]
theorem st_build (hw : Region.wanted o (yielded ops a.tmps) = true) (t : TypeId) (parts : Array (Nat × Operand)) (ho : o.op = .build t parts) (cs : Array Value) (hb : P.built t (parts.map fun (i, x) => (i, a.eval x)).toList = some cs)
    (h : wpList P ops Q rest (a.put o.dst (.agg cs)) w) : wpList P ops Q (o :: rest) a w := by
  refine wpList_val hw (v := .agg cs) (w' := w) ?_ h
  unfold execOp
  simp only [ho, Sem.run_bind, run_build w t _ cs hb, Result.andThen_ok, Sem.run_pure]
theorem st_storeE (hSt : St w0 w m) (k : Nat) (hw : Region.wanted o (yielded ops a.tmps) = true) (ty : TypeId) (x y : Operand) (ho : o.op = .store ty x y) (g : Nat) (hx : a.eval x = .pointer (some ⟨g, 0, none⟩)) (cs : Array Value) (hy : a.eval y = .agg cs)
    (old : Array Value) (t : TypeId) (hk : m[k]? = some (g, old, t)) (hi : (P.info? ty).map (·.size) = some cs.size) (hold : old.size = cs.size) (h1 : cs.all (·.oneCell') = true)
    (h : ∀ w1, St w0 w1 (m.set k (g, cs, t)) → Hid (w1 = w.setRow g cs) → wpList P ops Q rest (a.put o.dst undef) w1) : wpList P ops Q (o :: rest) a w :=
  wpList_step fun K hK => by
    rw [if_pos hw]; exact wp_store_row ty x y ho g cs hx hy t old (hSt.row k hk) hi hold h1 (hK _ _ (h _ (hSt.set k hk cs) (Lib.hid rfl)))
theorem st_allocE (hSt : St w0 w m) (hw : Region.wanted o (yielded ops a.tmps) = true) (ty : TypeId) (ho : o.op = .alloc ty) (cs : Array Value) (hz : (P.info? ty).map (·.zero) = some (some (.agg cs)))
    (h : ∀ g w1, St w0 w1 ((g, cs, ty) :: m) → Below w.heap.size w w1 → w.heap.size ≤ g → wpList P ops Q rest (a.put o.dst (.pointer (some ⟨g, 0, none⟩))) w1) : wpList P ops Q (o :: rest) a w :=
  wpList_val hw (run_alloc w a.eval o ty ho cs hz) (h _ _ (hSt.alloc cs ty) ((Below.refl _ _).alloc (Nat.le_refl _) _) (Nat.le_refl _))
theorem own_far {w : World} {base : Nat} {e : TypeId} {size : Nat} {v : Value} {n : Nat} {xs : List Value} (h : w.ownsRow base e size v n xs) {g : Nat} (hg : w.heap.size ≤ g) : some g ≠ v.ownBlock := fun he => by
  have := (h.lt g he.symm).2
  omega
/-- one cell is loaded. -/
theorem run_one (w : World) (ty : TypeId) (p : Addr) (v : Value) (hc : w.cell? p = some v) (hag : ∀ w, (isAgg ty).run P w = .ok false w) : (loadVar ty p).run P w = .ok v w := by
  unfold loadVar
  rw [Sem.run_bind, hag]
  simp [Result.andThen, run_load, hc]
end
section
variable {P : Program} {ops : Array Oper} {Q : Exit → Act → World → Prop} {i : Nat} {K : Act → World → Prop} {a : Act} {w : World} {o : Oper}
theorem wpOp_wp (hi : ops[i]? = some o) (hw : Region.wanted o (yielded ops a.tmps) = true) (h : o.wp P a w K Q) : wpOp P ops Q i K a w := by
  unfold wpOp; rw [hi]; simp only; rw [if_pos hw]; exact .inl h
theorem wpOp_call (d : Option Tmp) (hi : ops[i]? = some o) (hd : o.dst = d) (hw : Region.wanted o (yielded ops a.tmps) = true) {f : FuncId} {args : Array Value} (hr : (execOp a.eval o).run P w = .ok (.enter f args) w) {v : Value} {R : World → Prop}
    (hc : Calls P f args w fun e w' => e = .returned v ∧ R w') (h : ∀ w', R w' → K (a.put d v) w') : wpOp P ops Q i K a w := by
  subst hd
  refine wpOp_wp hi hw ?_
  unfold Oper.wp; rw [hr]
  exact hc.mono fun e w' ⟨he, hw'⟩ => by subst he; exact h w' hw'
theorem yields_row {S : World → Prop} {op : Oper} (hw : Region.wanted op (yielded ops a.tmps) = true) (ty : TypeId) (x : Operand) (ho : op.op = .load ty x) (g : Nat) (hx : a.eval x = .pointer (some ⟨g, 0, none⟩)) (cs : Array Value) (t : TypeId)
    (hS : ∀ w, S w → w.heap[g]? = some (.cells cs t (0, 0))) (d : TypeDesc) (hu : P.underlying ty = some d) (hd : (match d with | .struct _ | .array _ _ => true | _ => false) = true) (hi : (P.info? ty).map (·.size) = some cs.size) : YieldsIf P ops S op (.agg cs) a :=
  .inl ⟨hw, fun w hw' => by
    unfold execOp
    simp only [ho, hx, Instr.loadAt, Instr.sureAddr, Sem.run_bind, Sem.run_pure, Result.andThen_ok, run_loadVar_row w g t ty cs _ d (hS w hw') hu hd hi]⟩
end
/-! ### results: a record in a cell, and a number -/
theorem res_cell_tmp {P : Program} {fn : Func} {p u : Tmp} {ty : TypeId} (h : fn.results = #[.cell p ty, .tmp u]) (tmps : Array Value) (w : World) (g : Nat) (t : TypeId) (cs : Array Value) (fr : Nat × Nat) (d : TypeDesc)
    (hp : tmps.getD p undef = .pointer (some ⟨g, 0, none⟩)) (hg : w.heap[g]? = some (.cells cs t fr))
    (hu : P.underlying ty = some d) (hd : (match d with | .struct _ | .array _ _ => true | _ => false) = true) (hi : (P.info? ty).map (·.size) = some cs.size) (x : Value) (hx : tmps.getD u undef = x) :
    (results fn tmps).run P w = .ok (.tuple #[.agg cs, x]) w := by
  rw [results_cell_tmp h tmps P w, hp, hx]
  simp only [asAddr, Sem.run_pure, Result.andThen_ok, run_loadVar_row w g t ty cs fr d hg hu hd hi]
/-! ### slices of the call's own -/
theorem own_shape {w : World} {base : Nat} {e : TypeId} {size : Nat} {v : Value} {n : Nat} {xs : List Value} (h : w.ownsRow base e size v n xs) : ∃ a c, v = .slice a n c := by
  rcases h.2 with ⟨rfl, rfl⟩ | ⟨g, cap, cur, rfl, _⟩
  · exact ⟨none, 0, rfl⟩
  · exact ⟨_, _, rfl⟩
theorem own_ne {w : World} {base : Nat} {e : TypeId} {size : Nat} {v : Value} {n : Nat} {xs : List Value} (h : w.ownsRow base e size v n xs) {g : Nat} {cs : Array Value} {t : TypeId} (hg : w.heap[g]? = some (.cells cs t (0, 0))) (ht : t ≠ e) : some g ≠ v.ownBlock := by
  rcases h.2 with ⟨rfl, rfl⟩ | ⟨g', cap, cur, rfl, _, hg', _⟩
  · simp [Value.ownBlock]
  · simp only [Value.ownBlock, ne_eq, Option.some.injEq]
    intro he
    subst he
    rw [hg] at hg'
    cases hg'
    exact ht rfl
theorem own_below {B : Nat} {e : TypeId} {k : Nat} {v : Value} {n : Nat} {xs : List Value} {w w' : World} (h : w.ownsRow B e k v n xs) (hb : Below w.heap.size w w') : w'.ownsRow B e k v n xs := by
  refine ⟨h.1, ?_⟩
  rcases h.2 with hn | ⟨g, cap, cur, rfl, h1, hgg, rest⟩
  · exact .inl hn
  · exact .inr ⟨g, cap, cur, rfl, h1, row_below hgg hb, rest⟩
theorem own_setRow {B : Nat} {e : TypeId} {k : Nat} {v : Value} {n : Nat} {xs : List Value} {w : World} (h : w.ownsRow B e k v n xs) {g : Nat} (hne : some g ≠ v.ownBlock) (cs : Array Value) : (w.setRow g cs).ownsRow B e k v n xs := by
  refine ⟨h.1, ?_⟩
  rcases h.2 with hn | ⟨g', cap, cur, rfl, h1, hgg, rest⟩
  · exact .inl hn
  · refine .inr ⟨g', cap, cur, rfl, h1, ?_, rest⟩
    rw [setRow_other w g g' cs (fun e => hne (by rw [← e]; rfl))]
    exact hgg
theorem own_setCell {B : Nat} {e : TypeId} {k : Nat} {v : Value} {n : Nat} {xs : List Value} {w : World} (h : w.ownsRow B e k v n xs) {g : Nat} (hne : some g ≠ v.ownBlock) (i : Nat) (u : Value) : (w.setCell ⟨g, i, none⟩ u).ownsRow B e k v n xs := by
  refine ⟨h.1, ?_⟩
  rcases h.2 with hn | ⟨g', cap, cur, rfl, h1, hgg, rest⟩
  · exact .inl hn
  · refine .inr ⟨g', cap, cur, rfl, h1, ?_, rest⟩
    rw [heap_setCell_other w _ g' u (fun e => hne (congrArg some e.symm))]
    exact hgg
theorem St.grown {w0 w w' : World} {m : List Ent} {row : Option Nat} (h : St w0 w m) (hg : w.grownBy w' row) (hr : ∀ k, row = some k → w0.heap.size ≤ k) (hne : ∀ x ∈ m, some x.1 ≠ row) : St w0 w' m :=
  ⟨h.below.grown hg h.below.size hr, fun x hx => by
    have := h.rows x hx
    exact (hg.block _ (lt_of_row this) (hne x hx)).trans this, h.own, h.nodup⟩
/-- owned votes are votes. -/
theorem vts_own {w : World} {B : Nat} {a : Option Addr} {c : Nat} {l : List (Int × Bool)} (h : w.ownsRow B 87 2 (.slice a l.length c) l.length (flatV l)) (hl : l.length ≤ 8796093022208) : Vts w a l := by
  refine ⟨hl, fun i hi => ?_⟩
  rcases h.2 with ⟨_, hn⟩ | ⟨g, cap, cur, hv, _, hg, _, _, _, htake⟩
  · omega
  · obtain ⟨h1, h2⟩ := flatV_get l i hi
    injection hv with ha _ _
    subst ha
    refine ⟨g, 0, rfl, ?_, ?_⟩
    · rw [show 0 + i * 2 = i * 2 by omega, cell_of_row w g (i * 2) cur 87 (0, 0) hg, ← Array.getElem?_toList]
      rw [← htake, List.getElem?_take_of_lt (by omega)] at h1
      exact h1
    · rw [show 0 + i * 2 + 1 = i * 2 + 1 by omega, cell_of_row w g (i * 2 + 1) cur 87 (0, 0) hg, ← Array.getElem?_toList]
      rw [← htake, List.getElem?_take_of_lt (by omega)] at h2
      exact h2
/-- one vote as a slice of one. -/
theorem run_slice1 (w : World) (v : Int × Bool) : (Instr.buildSlice 73 1 #[(0, votV v)]).run Tryd.prog w = .ok (.slice (some ⟨w.heap.size, 0, none⟩) 1 1) (w.alloc (.cells (vtRow v) 87)) := by
  obtain ⟨ie, hie, hz, hs, hb⟩ := info_parts info87
  refine run_buildSlice w 73 87 1 _ (vtRow v) ie (.agg #[.int .i64 0, .bool false]) Tryd.underlying73 hie hz (by rw [hs]; decide) (by rw [hs]; decide) ?_
  rw [hs]
  kernel_rfl
theorem put_spec (r : Rc) (a : Option Addr) (n c : Nat) (s : Spc) : putAll (rcRow r a n c) 2 (spRow s).toList = rcRow { r with spec := s } a n c := by kernel_rfl
theorem put_votes (r : Rc) (a a' : Option Addr) (n c n' c' : Nat) : (rcRow r a n c).setIfInBounds 22 (.slice a' n' c') = rcRow r a' n' c' := by kernel_rfl
theorem put_done (r : Rc) (a : Option Addr) (n c : Nat) (x : Int) : (rcRow r a n c).setIfInBounds 23 (.int .i64 x) = rcRow { r with done := x } a n c := by kernel_rfl
/-- what can be has a weight that is a number. -/
theorem rcOk_num {r : Rc} (hw : r.spec.w < B64) (h : rcOk r = true) : neF r.spec.w r.spec.w = false := by
  by_cases n : isN r.spec.w
  · exfalso
    unfold rcOk at h
    split at h
    · unfold noneOk eqSpc at h
      rw [eqF_nan (.inl n)] at h
      simp at h
    · unfold someOk spcOk at h
      have : sameF r.spec.w (cl r.spec.w) = false := by
        unfold sameF
        have := ordF_nan_l n (cl_B64 r.spec.w) (not_isN_small (cl_le_INF r.spec.w))
        simp; omega
      rw [this] at h
      simp at h
  · exact ne_self hw n
theorem run_maxI (ρ : Operand → Value) (o : Oper) (w : World) (x y : Operand) (ho : o.op = .call { callee := .builtin .max, args := #[x, y], argTypes := #[3, 3] }) (a b : Int) (hx : ρ x = .int .i64 a) (hy : ρ y = .int .i64 b) :
    (execOp ρ o).run Tryd.prog w = .ok (.value (.int .i64 (if a < b then b else a))) w := by
  unfold execOp
  simp [ho, go_sem, hx, hy]
/-! ### operations that come up in a drawn region -/
theorem agg73 (w : World) : (isAgg 73).run Tryd.prog w = .ok false w := by
  unfold isAgg
  rw [Sem.run_bind, run_underlying Tryd.underlying73 w]
  rfl
theorem run_load1 {P : Program} (w : World) (ρ : Operand → Value) (o : Oper) (ty : TypeId) (x : Operand) (ho : o.op = .load ty x) (p : Addr) (hx : ρ x = .pointer (some p)) (v : Value) (hc : w.cell? p = some v) (hag : ∀ w, (isAgg ty).run P w = .ok false w) :
    (execOp ρ o).run P w = .ok (.value v) w := by
  unfold execOp
  simp only [ho, hx, Instr.loadAt, Instr.sureAddr, Sem.run_bind, Sem.run_pure, Result.andThen_ok, run_one w ty p v hc hag]
theorem run_store1 {P : Program} (w : World) (ρ : Operand → Value) (o : Oper) (ty : TypeId) (x y : Operand) (ho : o.op = .store ty x y) (g off : Nat) (hx : ρ x = .pointer (some ⟨g, off, none⟩)) (v : Value) (hy : ρ y = v) (cs : Array Value) (t : TypeId)
    (hg : w.heap[g]? = some (.cells cs t (0, 0))) (hoff : Nat.blt off cs.size = true) (hv : v.cells = #[v]) (h1 : v.oneCell' = true) (hi : (P.info? ty).map (·.size) = some 1) :
    (execOp ρ o).run P w = .ok .skip (w.setCell ⟨g, off, none⟩ v) := by
  unfold execOp
  simp only [ho, hx, hy, Instr.storeAt, Instr.sureAddr, Sem.run_bind, Sem.run_pure, Result.andThen_ok, run_put w ty g off v cs t hg (Nat.le_of_ble_eq_true hoff) hv h1 hi]
theorem run_mkfunc (w : World) (ρ : Operand → Value) (o : Oper) (f : FuncId) (x : Operand) (ho : o.op = .makeFunc (.func f) #[x] #[]) (v : Value) (hx : ρ x = v) :
    (execOp ρ o).run Tryd.prog w = .ok (.value (.func (.func f) #[v] #[])) w := by
  unfold execOp
  simp only [ho, List.map_toArray, List.map_cons, List.map_nil, hx]
  simp [Instr.makeFunc]
theorem run_callv {P : Program} (w : World) (a : Act) (o : Oper) (f : FuncId) (xs : List Operand) (ats : Array TypeId) (ho : o.op = .call { callee := .value (.func f), args := xs.toArray, argTypes := ats })
    (hc : ∀ args w, (callFunc f args).run P w = .ok (.enter f args) w) (args : List Value) (ha : xs.map a.eval = args) : (execOp a.eval o).run P w = .ok (.enter f args.toArray) w := by
  obtain ⟨dst, op, ty, pos, after, guard⟩ := o
  subst ho
  have h : execOp a.eval { dst, op := .call { callee := .value (.func f), args := xs.toArray, argTypes := ats }, type := ty, pos, after, guard } = callFunc f (#[] ++ xs.toArray.map a.eval ++ #[]) := rfl
  have e : (#[] ++ args.toArray ++ #[] : Array Value) = args.toArray := by simp
  rw [h, List.map_toArray, ha, e]
  exact hc args.toArray w
theorem run_bslice (w : World) (ρ : Operand → Value) (o : Oper) (x : Operand) (ho : o.op = .buildSlice 73 1 #[(0, x)]) (v : Int × Bool) (hx : ρ x = .agg (vtRow v)) :
    (execOp ρ o).run Tryd.prog w = .ok (.value (.slice (some ⟨w.heap.size, 0, none⟩) 1 1)) (w.alloc (.cells (vtRow v) 87)) := by
  unfold execOp
  simp only [ho, List.map_toArray, List.map_cons, List.map_nil, hx]
  have := run_slice1 w v
  rw [votV_row] at this
  simp only [Sem.run_bind, this, Result.andThen_ok, Sem.run_pure]
theorem wpOp_append {ops : Array Oper} {Q : Exit → Act → World → Prop} {i : Nat} {K : Act → World → Prop} {a : Act} {w : World} {o : Oper} (d : Option Tmp) (hi : ops[i]? = some o) (hd : o.dst = d) (hw : Region.wanted o (yielded ops a.tmps) = true)
    (s x : Operand) (ho : o.op = .call { callee := .builtin .append, args := #[s, x], argTypes := #[73, 73] }) (base : Nat) (n : Nat) (v : Value) (xs : List Value) (hs : a.eval s = v) (hown : w.ownsRow base 87 2 v n xs)
    (g : Nat) (z : Int × Bool) (hx : a.eval x = .slice (some ⟨g, 0, none⟩) 1 1) (hg : w.heap[g]? = some (.cells (vtRow z) 87 (0, 0))) (hn : n ≤ 8796093022207) (hbase : base ≤ w.heap.size)
    (h : ∀ a' c' w', w'.ownsRow base 87 2 (.slice a' (n + 1) c') (n + 1) (xs ++ [.int .i64 z.1, .bool z.2]) → w.grownBy w' v.ownBlock → K (a.put d (.slice a' (n + 1) c')) w') : wpOp Tryd.prog ops Q i K a w := by
  subst hd
  obtain ⟨ie, hie, hz, hsz, hb⟩ := info_parts info87
  refine wpOp_wp hi hw (wp_append_own w s x 73 ho base 87 ie _ 2 16 Tryd.underlying73 hie hz hsz hb rfl (by decide) v n xs hs hown ⟨g, 0, none⟩ 1 1 [.int .i64 z.1, .bool z.2] hx rfl ?_ ?_ (by unfold maxLen; omega) (by omega) hbase ?_)
  · intro j u hj
    have hadd : (⟨g, 0, none⟩ : Addr).add j = ⟨g, j, none⟩ := by unfold Addr.add; split <;> simp_all
    rw [hadd, cell_of_row w g j _ 87 (0, 0) hg]
    exact (by simpa [vtRow] using hj)
  · intro u hu
    simp only [List.mem_cons, List.not_mem_nil, or_false] at hu
    rcases hu with rfl | rfl <;> rfl
  · intro v' w' h1 h2 _
    obtain ⟨a', c', rfl⟩ := own_shape h1
    exact h a' c' w' h1 h2
end Go.Proofs.YtniejpfjbifjkaaDoor
