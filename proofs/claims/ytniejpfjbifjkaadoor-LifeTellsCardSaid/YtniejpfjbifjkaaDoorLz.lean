/- Votes that are made: rows of votes; their laws. -/
import Derived.Test.YtniejpfjbifjkaaDoorLy
namespace Go.Proofs.YtniejpfjbifjkaaDoor
open Go.RowKit Fl

theorem own_mono {w : World} {B B' : Nat} {e : TypeId} {size : Nat} {v : Value} {n : Nat} {xs : List Value} (h : w.ownsRow B e size v n xs) (hb : B' ≤ B) : w.ownsRow B' e size v n xs := by
  refine ⟨h.1, ?_⟩
  rcases h.2 with hn | ⟨g, cap, cur, rfl, h1, rest⟩
  · exact .inl hn
  · exact .inr ⟨g, cap, cur, rfl, Nat.le_trans hb h1, rest⟩
def vtsRow (l : List (Int × Bool)) : Array Value := (flatV l).toArray
theorem madeCells_votes (k : Nat) : madeCells (vtRow vt0) (k * 2) = vtsRow (List.replicate k vt0) := by
  apply Array.toList_inj.1
  unfold madeCells vtsRow
  rw [Array.toList_map, Array.toList_range]
  induction k with
  | zero => rfl
  | succ k ih =>
    rw [show (k + 1) * 2 = k * 2 + 1 + 1 by omega, List.range_succ, List.range_succ, List.map_append, List.map_append, ih, List.replicate_succ', flatV_snoc]
    have e1 : k * 2 % (vtRow vt0).size = 0 := by show k * 2 % 2 = 0; omega
    have e2 : (k * 2 + 1) % (vtRow vt0).size = 1 := by show (k * 2 + 1) % 2 = 1; omega
    simp only [List.map_cons, List.map_nil, e1, e2]
    rw [List.append_assoc]
    rfl
theorem putAll_snoc (l : List Value) (x y a b : Value) (m : Nat) (h : l.length = m) : putAll (l ++ [x, y]).toArray m [a, b] = (l ++ [a, b]).toArray := by
  subst h
  simp [putAll]
theorem put_vote (l : List (Int × Bool)) (u v : Int × Bool) (k : Nat) (h : l.length = k) : putAll (vtsRow (l ++ [u])) (k * 2) (vtRow v).toList = vtsRow (l ++ [v]) := by
  unfold vtsRow
  rw [flatV_snoc, flatV_snoc]
  exact putAll_snoc _ _ _ _ _ _ (by rw [flatV_len, h])
theorem vtsRow_size (l : List (Int × Bool)) : (vtsRow l).size = l.length * 2 := by
  unfold vtsRow; rw [List.size_toArray, flatV_len]
theorem vts_row {w : World} {g : Nat} {l : List (Int × Bool)} {fr : Nat × Nat} (h : w.heap[g]? = some (.cells (vtsRow l) 87 fr)) (hl : l.length ≤ 8796093022208) : Vts w (some ⟨g, 0, none⟩) l := by
  refine ⟨hl, fun i hi => ⟨g, 0, rfl, ?_, ?_⟩⟩
  · rw [show 0 + i * 2 = i * 2 by omega, cell_of_row w g (i * 2) _ 87 fr h]
    unfold vtsRow
    rw [List.getElem?_toArray]; exact (flatV_get l i hi).1
  · rw [show 0 + i * 2 + 1 = i * 2 + 1 by omega, cell_of_row w g (i * 2 + 1) _ 87 fr h]
    unfold vtsRow
    rw [List.getElem?_toArray]; exact (flatV_get l i hi).2
theorem st_make {ops : Array Oper} {rest : List Oper} {o : Oper} {a : Act} {w : World} {Q : Exit → Act → World → Prop} {w0 : World} {m : List Ent} (hSt : St w0 w m) (hw : Region.wanted o (yielded ops a.tmps) = true) (x y : Operand) (ho : o.op = .makeSlice 73 x y) (k : Nat)
    (hx : a.eval x = .int .i64 (k : Int)) (hy : a.eval y = .int .i64 (k : Int)) (hk : k ≤ 1000)
    (h : ∀ g w1, St w0 w1 ((g, vtsRow (List.replicate k vt0), 87) :: m) → Below w.heap.size w w1 → wpList Tryd.prog ops Q rest (a.put o.dst (.slice (some ⟨g, 0, none⟩) k k)) w1) : wpList Tryd.prog ops Q (o :: rest) a w := by
  obtain ⟨ie, hie, hz, hsz, hb⟩ := info_parts info87
  have hr := run_make w 73 87 ie _ Tryd.underlying73 hie hz .i64 .i64 (k : Int) (k : Int) (by omega) (Int.le_refl _) (by rw [hb]; omega) (by omega)
  rw [Int.toNat_natCast, hsz] at hr
  rw [show (Value.agg #[Value.int IntKind.i64 0, Value.bool false]).cells = vtRow vt0 from rfl, madeCells_votes] at hr
  refine wpList_val hw (v := .slice (some ⟨w.heap.size, 0, none⟩) k k) (w' := w.alloc (.cells (vtsRow (List.replicate k vt0)) 87)) ?_ (h _ _ (hSt.alloc _ 87) ((Below.refl _ _).alloc (Nat.le_refl _) _))
  unfold execOp
  simp only [ho, hx, hy, Sem.run_bind, hr, Result.andThen_ok, Sem.run_pure]
/-! ### with one's vote -/
def votedOk (r : Rc) (n : Int) (v : Int × Bool) : Bool := rcOk r && (!decide (n < 0) && (!decide (16 ≤ n) && (!decide (v.1 < 1) && stampOk v.1)))
theorem voted_cases (r : Rc) (n : Int) (v : Int × Bool) : (rcOk r = false ∧ votedOk r n v = false) ∨ (rcOk r = true ∧ (
    (decide (n < 0) = true ∧ votedOk r n v = false) ∨ (decide (n < 0) = false ∧ (
    (decide (16 ≤ n) = true ∧ votedOk r n v = false) ∨ (decide (16 ≤ n) = false ∧ (
    (decide (v.1 < 1) = true ∧ votedOk r n v = false) ∨ (decide (v.1 < 1) = false ∧ votedOk r n v = stampOk v.1))))))) := by
  unfold votedOk
  cases rcOk r <;> cases decide (n < 0) <;> cases decide (16 ≤ n) <;> cases decide (v.1 < 1) <;> simp
def withVote (r : Rc) (k : Nat) (v : Int × Bool) : Rc := { r with votes := List.replicate k vt0 ++ [v] }
def votedR (r : Rc) (k : Nat) (v : Int × Bool) : Rc := joinR r (withVote r k v)
theorem rcRow_votes (r : Rc) (l : List (Int × Bool)) (a : Option Addr) (n c : Nat) : rcRow { r with votes := l } a n c = rcRow r a n c := rfl
theorem withVote_ok {r : Rc} {k : Nat} {v : Int × Bool} (h : rcOk r = true) (hg : r.gen ≠ 0) (hk : k < 16) (hv : 1 ≤ v.1) (hs : stampOk v.1 = true) : rcOk (withVote r k v) = true := by
  unfold rcOk at h ⊢
  rw [if_neg hg] at h
  rw [if_neg (by exact hg)]
  unfold someOk at h ⊢
  simp only [Bool.and_eq_true, Bool.not_eq_true', decide_eq_false_iff_not] at h ⊢
  obtain ⟨h1, h2, h3, h4, h5, h6, h7, h8, h9⟩ := h
  refine ⟨h1, h2, h3, h4, ?_, h6, h7, ?_, ?_⟩
  · simp [withVote]; omega
  · unfold lastOk withVote
    have : (List.replicate k vt0 ++ [v]).getD ((List.replicate k vt0 ++ [v]).length - 1) vt0 = v := by simp
    simp only [this]
    simp; omega
  · unfold votsOk withVote
    rw [List.all_eq_true]
    intro x hx
    rcases List.mem_append.1 hx with hx | hx
    · rw [List.eq_of_mem_replicate hx]; decide
    · obtain rfl : x = v := by simpa using hx
      unfold votOk
      rw [hs]
      simp; omega
end Go.Proofs.YtniejpfjbifjkaaDoor
