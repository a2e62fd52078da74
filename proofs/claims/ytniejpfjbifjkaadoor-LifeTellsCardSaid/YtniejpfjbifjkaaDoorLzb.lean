/- Laws for given and taken: parts of records, votes of both kinds. -/
import Derived.Test.YtniejpfjbifjkaaDoorLza
import Derived.Test.YtniejpfjbifjkaaDoorLs
namespace Go.Proofs.YtniejpfjbifjkaaDoor
open Go.RowKit Fl

theorem size71 : (Tryd.prog.info? 71).map (·.size) = some 24 := by kernel_rfl
theorem size68 : (Tryd.prog.info? 68).map (·.size) = some 20 := by kernel_rfl
theorem zero71 : (Tryd.prog.info? 71).map (·.zero) = some (some (.agg (rcRow zRc none 0 0))) := by kernel_rfl
theorem info89 : (Tryd.prog.info? 89).map (fun i => (i.zero, i.size, i.bytes)) = some (some (.agg #[.int .i64 0, .bool false]), 2, 16) := by kernel_rfl
def adRow (s : Spc) : Array Value := #[.bool s.v6, .int .u8 (s.b 0), .int .u8 (s.b 1), .int .u8 (s.b 2), .int .u8 (s.b 3), .int .u8 (s.b 4), .int .u8 (s.b 5), .int .u8 (s.b 6), .int .u8 (s.b 7), .int .u8 (s.b 8), .int .u8 (s.b 9), .int .u8 (s.b 10), .int .u8 (s.b 11), .int .u8 (s.b 12), .int .u8 (s.b 13), .int .u8 (s.b 14), .int .u8 (s.b 15)]
theorem range_adr {w : World} {g : Nat} {r : Rc} {a : Option Addr} {n c : Nat} {t : TypeId} {fr : Nat × Nat} (h : w.heap[g]? = some (.cells (rcRow r a n c) t fr)) : w.rangeAt g 4 (adRow r.spec).toList :=
  range_row h 4 _ (drop_lit _ 4 _ rfl)
theorem cell_st {w : World} {g : Nat} {r : Rc} {a : Option Addr} {n c : Nat} {t : TypeId} {fr : Nat × Nat} (h : w.heap[g]? = some (.cells (rcRow r a n c) t fr)) : w.cell? ⟨g, 2, none⟩ = some (.int .i64 r.spec.st) := by rw [cell_of_row w g 2 _ t fr h]; rfl
theorem cell_by {w : World} {g : Nat} {r : Rc} {a : Option Addr} {n c : Nat} {t : TypeId} {fr : Nat × Nat} (h : w.heap[g]? = some (.cells (rcRow r a n c) t fr)) : w.cell? ⟨g, 3, none⟩ = some (.int .i64 r.spec.by_) := by rw [cell_of_row w g 3 _ t fr h]; rfl
theorem cell_wt {w : World} {g : Nat} {r : Rc} {a : Option Addr} {n c : Nat} {t : TypeId} {fr : Nat × Nat} (h : w.heap[g]? = some (.cells (rcRow r a n c) t fr)) : w.cell? ⟨g, 21, none⟩ = some (.float .f64 r.spec.w) := by rw [cell_of_row w g 21 _ t fr h]; rfl
/-- a row of votes of the one kind or the other. -/
structure VK (ty e : TypeId) : Prop where
  hu : Tryd.prog.underlying ty = some (.slice e)
  hi : (Tryd.prog.info? e).map (fun i => (i.zero, i.size, i.bytes)) = some (some (.agg #[.int .i64 0, .bool false]), 2, 16)
theorem vk73 : VK 73 87 := ⟨Tryd.underlying73, info87⟩
theorem vk69 : VK 69 89 := ⟨Tryd.underlying69, info89⟩
theorem run_bsliceG {ty e : TypeId} (hk : VK ty e) (w : World) (ρ : Operand → Value) (o : Oper) (x : Operand) (ho : o.op = .buildSlice ty 1 #[(0, x)]) (v : Int × Bool) (hx : ρ x = .agg (vtRow v)) :
    (execOp ρ o).run Tryd.prog w = .ok (.value (.slice (some ⟨w.heap.size, 0, none⟩) 1 1)) (w.alloc (.cells (vtRow v) e)) := by
  obtain ⟨ie, hie, hz, hs, hb⟩ := info_parts hk.hi
  have h := run_buildSlice w ty e 1 #[(0, .agg (vtRow v))] (vtRow v) ie (.agg #[.int .i64 0, .bool false]) hk.hu hie hz (by rw [hs]; decide) (by rw [hs]; decide) (by rw [hs]; kernel_rfl)
  unfold execOp
  simp only [ho, List.map_toArray, List.map_cons, List.map_nil, hx, Sem.run_bind, h, Result.andThen_ok, Sem.run_pure]
theorem wpOp_appendG {ty e : TypeId} (hk : VK ty e) {ops : Array Oper} {Q : Exit → Act → World → Prop} {i : Nat} {K : Act → World → Prop} {a : Act} {w : World} {o : Oper} (d : Option Tmp) (hi : ops[i]? = some o) (hd : o.dst = d) (hw : Region.wanted o (yielded ops a.tmps) = true)
    (s x : Operand) (ho : o.op = .call { callee := .builtin .append, args := #[s, x], argTypes := #[ty, ty] }) (base : Nat) (n : Nat) (v : Value) (xs : List Value) (hs : a.eval s = v) (hown : w.ownsRow base e 2 v n xs)
    (g : Nat) (z : Int × Bool) (hx : a.eval x = .slice (some ⟨g, 0, none⟩) 1 1) (hg : w.heap[g]? = some (.cells (vtRow z) e (0, 0))) (hn : n ≤ 8796093022207) (hbase : base ≤ w.heap.size)
    (h : ∀ a' c' w', w'.ownsRow base e 2 (.slice a' (n + 1) c') (n + 1) (xs ++ [.int .i64 z.1, .bool z.2]) → w.grownBy w' v.ownBlock → K (a.put d (.slice a' (n + 1) c')) w') : wpOp Tryd.prog ops Q i K a w := by
  subst hd
  obtain ⟨ie, hie, hz, hsz, hb⟩ := info_parts hk.hi
  refine wpOp_wp hi hw (wp_append_own w s x ty ho base e ie _ 2 16 hk.hu hie hz hsz hb rfl (by decide) v n xs hs hown ⟨g, 0, none⟩ 1 1 [.int .i64 z.1, .bool z.2] hx rfl ?_ ?_ (by unfold maxLen; omega) (by omega) hbase ?_)
  · intro j u hj
    have hadd : (⟨g, 0, none⟩ : Addr).add j = ⟨g, j, none⟩ := by unfold Addr.add; split <;> simp_all
    rw [hadd, cell_of_row w g j _ e (0, 0) hg]
    exact (by simpa [vtRow] using hj)
  · intro u hu
    simp only [List.mem_cons, List.not_mem_nil, or_false] at hu
    rcases hu with rfl | rfl <;> rfl
  · intro v' w' h1 h2 _
    obtain ⟨a', c', rfl⟩ := own_shape h1
    exact h a' c' w' h1 h2
theorem run_idxG {ty e : TypeId} (hk : VK ty e) (w : World) (ρ : Operand → Value) (o : Oper) (x y : Operand) (ho : o.op = .indexAddr ty x y) (b off n c k : Nat) (hx : ρ x = .slice (some ⟨b, off, none⟩) n c) (hy : ρ y = .int .i64 (k : Int)) (hkn : k < n) :
    (execOp ρ o).run Tryd.prog w = .ok (.value (.pointer (some ⟨b, off + k * 2, none⟩))) w := by
  obtain ⟨ie, hie, hz, hsz, hb⟩ := info_parts hk.hi
  have hadd : (⟨b, off, none⟩ : Addr).add (k * 2) = ⟨b, off + k * 2, none⟩ := by unfold Addr.add; split <;> simp_all
  unfold execOp
  simp only [ho, hx, hy]
  unfold Instr.indexAt
  simp only [asIntOf, Sem.run_bind, Sem.run_pure, Result.andThen_ok, run_underlying hk.hu w]
  rw [if_pos ⟨by omega, by omega⟩]
  simp [sizeOf, typeInfo, hie, hsz, hadd]
theorem run_buildG (w : World) (ρ : Operand → Value) (o : Oper) (t : TypeId) (parts : List (Nat × Operand)) (ho : o.op = .build t parts.toArray) (cs : Array Value) (hb : Tryd.prog.built t (parts.map fun (i, x) => (i, ρ x)) = some cs) :
    (execOp ρ o).run Tryd.prog w = .ok (.value (.agg cs)) w := by
  unfold execOp
  have hb' : Tryd.prog.built t ((parts.toArray.map fun (i, x) => (i, ρ x)).toList) = some cs := by
    rw [List.map_toArray]; exact hb
  simp only [ho, Sem.run_bind, run_build w t _ cs hb', Result.andThen_ok, Sem.run_pure]
theorem agg2 (w : World) : (isAgg 2).run Tryd.prog w = .ok false w := by
  unfold isAgg
  rw [Sem.run_bind, run_underlying Tryd.underlying2 w]
  rfl
theorem agg4 (w : World) : (isAgg 4).run Tryd.prog w = .ok false w := by
  unfold isAgg
  rw [Sem.run_bind, run_underlying Tryd.underlying4 w]
  rfl
theorem agg69 (w : World) : (isAgg 69).run Tryd.prog w = .ok false w := by
  unfold isAgg
  rw [Sem.run_bind, run_underlying Tryd.underlying69 w]
  rfl
theorem size69 : (Tryd.prog.info? 69).map (·.size) = some 1 := by kernel_rfl
/-- what a record holds, taken over. -/
def GivenPost (e : TypeId) (w : World) (x : Rc) (en : Ending) (w' : World) : Prop := ∃ (a' : Option Addr) (c' : Nat), en = .returned (recV x a' x.votes.length c') ∧ w'.ownsRow w.heap.size e 2 (.slice a' x.votes.length c') x.votes.length (flatV x.votes) ∧ Below w.heap.size w w'
theorem take_snoc' (l : List (Int × Bool)) (k : Nat) (h : k < l.length) : l.take (k + 1) = l.take k ++ [l.getD k vt0] := by
  rw [List.take_succ_eq_append_getElem h]
  simp [List.getD, h]
end Go.Proofs.YtniejpfjbifjkaaDoor
