/- The state of a walk with slices of votes: its laws; the contracts over it. -/
import Derived.Test.YtniejpfjbifjkaaDoorLzp
namespace Go.Proofs.YtniejpfjbifjkaaDoor
open Go.RowKit Fl

abbrev VEnt := Option Addr × Nat × List (Int × Bool)
structure Sv (w0 w : World) (m : List Ent) (L : List VEnt) : Prop where
  st : St w0 w m
  own : ∀ x ∈ L, w.ownsRow w0.heap.size 87 2 (.slice x.1 x.2.2.length x.2.1) x.2.2.length (flatV x.2.2)
  small : ∀ x ∈ L, x.2.2.length ≤ 8796093022208
  typ : ∀ x ∈ m, x.2.2 ≠ 87
  laid : Laid w0
  pos : 0 < w0.heap.size
theorem Sv.start {w : World} (hl : Laid w) (hpos : 0 < w.heap.size) : Sv w w [] [] := ⟨St.start w, by simp, by simp, by simp, hl, hpos⟩
theorem Sv.vts {w0 w : World} {m : List Ent} {L : List VEnt} (h : Sv w0 w m L) (k : Nat) {a : Option Addr} {c : Nat} {l : List (Int × Bool)} (hk : L[k]? = some (a, c, l)) : Vts w a l :=
  vts_own (h.own (a, c, l) (List.mem_of_getElem? hk)) (h.small (a, c, l) (List.mem_of_getElem? hk))
theorem Sv.lw {w0 w : World} {m : List Ent} {L : List VEnt} (h : Sv w0 w m L) : Laid w := h.laid.below h.st.below h.pos
theorem Sv.pw {w0 w : World} {m : List Ent} {L : List VEnt} (h : Sv w0 w m L) : 0 < w.heap.size := Nat.lt_of_lt_of_le h.pos h.st.below.size
theorem Sv.call {w0 w w1 : World} {m : List Ent} {L : List VEnt} (h : Sv w0 w m L) (hb : Below w.heap.size w w1) : Sv w0 w1 m L :=
  ⟨h.st.call hb, fun x hx => own_below (h.own x hx) hb, h.small, h.typ, h.laid, h.pos⟩
theorem Sv.alloc {w0 w : World} {m : List Ent} {L : List VEnt} (h : Sv w0 w m L) (cs : Array Value) (t : TypeId) (ht : t ≠ 87) : Sv w0 (w.alloc (.cells cs t)) ((w.heap.size, cs, t) :: m) L :=
  ⟨h.st.alloc cs t, fun x hx => own_below (h.own x hx) ((Below.refl _ _).alloc (Nat.le_refl _) _), h.small, fun x hx => by
    rcases List.mem_cons.1 hx with rfl | hx
    · exact ht
    · exact h.typ x hx, h.laid, h.pos⟩
theorem Sv.set {w0 w : World} {m : List Ent} {L : List VEnt} (h : Sv w0 w m L) (k : Nat) {g : Nat} {cs : Array Value} {t : TypeId} (hk : m[k]? = some (g, cs, t)) (cs' : Array Value) : Sv w0 (w.setRow g cs') (m.set k (g, cs', t)) L := by
  have ht : t ≠ 87 := h.typ (g, cs, t) (List.mem_of_getElem? hk)
  refine ⟨h.st.set k hk cs', fun x hx => own_setRow (h.own x hx) (own_ne (h.own x hx) (h.st.row k hk) ht) _, h.small, fun x hx => ?_, h.laid, h.pos⟩
  rcases List.mem_or_eq_of_mem_set hx with hx | rfl
  · exact h.typ x hx
  · exact ht
theorem Sv.put {w0 w : World} {m : List Ent} {L : List VEnt} (h : Sv w0 w m L) (k : Nat) {g : Nat} {cs : Array Value} {t : TypeId} (hk : m[k]? = some (g, cs, t)) (i : Nat) (v : Value) : Sv w0 (w.setCell ⟨g, i, none⟩ v) (m.set k (g, cs.setIfInBounds i v, t)) L := by
  rw [setCell_eq_setRow w g i cs t (0, 0) v (h.st.row k hk)]
  exact h.set k hk _
theorem Sv.owned {w0 w w1 : World} {m : List Ent} {L : List VEnt} (h : Sv w0 w m L) (hb : Below w.heap.size w w1) {a : Option Addr} {c : Nat} {l : List (Int × Bool)} (ho : w1.ownsRow w.heap.size 87 2 (.slice a l.length c) l.length (flatV l)) (hl : l.length ≤ 8796093022208) : Sv w0 w1 m ((a, c, l) :: L) :=
  ⟨h.st.call hb, fun x hx => by
    rcases List.mem_cons.1 hx with rfl | hx
    · exact own_mono ho h.st.below.size
    · exact own_below (h.own x hx) hb, fun x hx => by
    rcases List.mem_cons.1 hx with rfl | hx
    · exact hl
    · exact h.small x hx, h.typ, h.laid, h.pos⟩
theorem Sv.nil {w0 w : World} {m : List Ent} {L : List VEnt} (h : Sv w0 w m L) : Sv w0 w m ((none, 0, []) :: L) :=
  ⟨h.st, fun x hx => by
    rcases List.mem_cons.1 hx with rfl | hx
    · exact World.ownsRow_nil _ _ _ _
    · exact h.own x hx, fun x hx => by
    rcases List.mem_cons.1 hx with rfl | hx
    · simp
    · exact h.small x hx, h.typ, h.laid, h.pos⟩
theorem Sv.keep {w0 w : World} {m : List Ent} {L : List VEnt} (h : Sv w0 w m L) (m' : List Ent) (L' : List VEnt) (h1 : m'.Sublist m) (h2 : ∀ x ∈ L', x ∈ L) : Sv w0 w m' L' :=
  ⟨h.st.drop m' h1, fun x hx => h.own x (h2 x hx), fun x hx => h.small x (h2 x hx), fun x hx => h.typ x (h1.subset hx), h.laid, h.pos⟩

section
variable {P : Program} {ops : Array Oper} {rest : List Oper} {o : Oper} {a : Act} {w : World} {Q : Exit → Act → World → Prop} {w0 : World} {m : List Ent} {L : List VEnt}
theorem sv_box (hSt : Sv w0 w m L) (hw : Region.wanted o (yielded ops a.tmps) = true) (ty : TypeId) (x : Operand) (ho : o.op = .box ty x) (cs : Array Value) (hx : a.eval x = .agg cs) (ht : ty ≠ 87)
    (h : ∀ g w1, Sv w0 w1 ((g, cs, ty) :: m) L → wpList P ops Q rest (a.put o.dst (.pointer (some ⟨g, 0, none⟩))) w1) : wpList P ops Q (o :: rest) a w := by
  refine wpList_val hw (v := .pointer (some ⟨w.heap.size, 0, none⟩)) (w' := w.alloc (.cells cs ty)) ?_ (h _ _ (hSt.alloc cs ty ht))
  unfold execOp
  simp only [ho, hx, Instr.box, Sem.run_bind, Sem.run_pure, Result.andThen_ok, run_newVar_agg]
theorem sv_alloc (hSt : Sv w0 w m L) (hw : Region.wanted o (yielded ops a.tmps) = true) (ty : TypeId) (ho : o.op = .alloc ty) (cs : Array Value) (hz : (P.info? ty).map (·.zero) = some (some (.agg cs))) (ht : ty ≠ 87)
    (h : ∀ g w1, Sv w0 w1 ((g, cs, ty) :: m) L → wpList P ops Q rest (a.put o.dst (.pointer (some ⟨g, 0, none⟩))) w1) : wpList P ops Q (o :: rest) a w :=
  wpList_val hw (run_alloc w a.eval o ty ho cs hz) (h _ _ (hSt.alloc cs ty ht))
theorem sv_load (hSt : Sv w0 w m L) (k : Nat) (hw : Region.wanted o (yielded ops a.tmps) = true) (ty : TypeId) (x : Operand) (ho : o.op = .load ty x) (g : Nat) (hx : a.eval x = .pointer (some ⟨g, 0, none⟩)) (cs : Array Value) (t : TypeId)
    (hk : m[k]? = some (g, cs, t)) (d : TypeDesc) (hu : P.underlying ty = some d) (hd : (match d with | .struct _ | .array _ _ => true | _ => false) = true) (hi : (P.info? ty).map (·.size) = some cs.size)
    (h : wpList P ops Q rest (a.put o.dst (.agg cs)) w) : wpList P ops Q (o :: rest) a w :=
  st_load hSt.st k hw ty x ho g hx cs t hk d hu hd hi h
theorem sv_store (hSt : Sv w0 w m L) (k : Nat) (hw : Region.wanted o (yielded ops a.tmps) = true) (ty : TypeId) (x y : Operand) (ho : o.op = .store ty x y) (g : Nat) (hx : a.eval x = .pointer (some ⟨g, 0, none⟩)) (cs : Array Value) (hy : a.eval y = .agg cs)
    (old : Array Value) (t : TypeId) (hk : m[k]? = some (g, old, t)) (hi : (P.info? ty).map (·.size) = some cs.size) (hold : old.size = cs.size) (h1 : cs.all (·.oneCell') = true)
    (h : ∀ w1, Sv w0 w1 (m.set k (g, cs, t)) L → wpList P ops Q rest (a.put o.dst undef) w1) : wpList P ops Q (o :: rest) a w :=
  wpList_step fun K hK => by
    rw [if_pos hw]; exact wp_store_row ty x y ho g cs hx hy t old (hSt.st.row k hk) hi hold h1 (hK _ _ (h _ (hSt.set k hk cs)))
theorem sv_put (hSt : Sv w0 w m L) (k : Nat) (hw : Region.wanted o (yielded ops a.tmps) = true) (ty : TypeId) (x y : Operand) (ho : o.op = .store ty x y) (g off : Nat) (hx : a.eval x = .pointer (some ⟨g, off, none⟩)) (v : Value) (hy : a.eval y = v)
    (cs : Array Value) (t : TypeId) (hk : m[k]? = some (g, cs, t)) (hoff : Nat.blt off cs.size = true) (hv : v.cells = #[v]) (h1 : v.oneCell' = true) (hi : (P.info? ty).map (·.size) = some 1)
    (h : ∀ w1, Sv w0 w1 (m.set k (g, cs.setIfInBounds off v, t)) L → wpList P ops Q rest (a.put o.dst undef) w1) : wpList P ops Q (o :: rest) a w :=
  wpList_unit hw (run_store1 w a.eval o ty x y ho g off hx v hy cs t (hSt.st.row k hk) hoff hv h1 hi) (h _ (hSt.put k hk off v))
end
/-! ### contracts -/
section
variable {w0 w : World} {m : List Ent} {L : List VEnt}
theorem sv_given (h : Sv w0 w m L) (r : Rc) (a : Option Addr) (c : Nat) (hv : Vts w0 a r.votes) :
    Calls Tryd.prog 60 #[.agg (rcRow r a r.votes.length c)] w fun e w' => ∃ (a' : Option Addr) (c' : Nat), e = .returned (.agg (rcRow r a' r.votes.length c')) ∧ Sv w0 w' m ((a', c', r.votes) :: L) :=
  (givenC r a c w (hv.below h.st.below)).mono fun _ _ ⟨a', c', he, ho, hb⟩ => ⟨a', c', he, h.owned hb ho hv.1⟩
theorem sv_right (h : Sv w0 w m L) (i : Nat) (r : Rc) (a : Option Addr) (c : Nat) (hi : L[i]? = some (a, c, r.votes)) (hn : RcN r) :
    Calls Tryd.prog 61 #[.agg (rcRow r a r.votes.length c)] w fun e w' => e = .returned (.bool (rcOk r)) ∧ Sv w0 w' m L :=
  (rcRightC r a c w hn.w (h.vts i hi) h.lw h.pw).mono fun _ _ ⟨he, hb⟩ => ⟨he, h.call hb⟩
theorem sv_known (h : Sv w0 w m L) : Calls Tryd.prog 62 #[] w fun e w' => e = .returned (.bool true) ∧ Sv w0 w' m L :=
  (known12 w h.lw h.pw).mono fun _ _ ⟨he, hb⟩ => ⟨he, h.call hb⟩
theorem sv_join (h : Sv w0 w m L) (i j : Nat) (r s : Rc) (a b : Option Addr) (c d : Nat) (hi : L[i]? = some (a, c, r.votes)) (hj : L[j]? = some (b, d, s.votes)) (hr : RcN r) (hs : RcN s) (k1 : rcOk r = true) (k2 : rcOk s = true) :
    Calls Tryd.prog 63 #[.agg (rcRow r a r.votes.length c), .agg (rcRow s b s.votes.length d)] w fun e w' => ∃ (a' : Option Addr) (c' : Nat), e = .returned (.tuple #[.agg (rcRow (joinR r s) a' (joinR r s).votes.length c'), .int .i64 0]) ∧ Sv w0 w' m ((a', c', (joinR r s).votes) :: L) :=
  (join_ok r s a b c d w hr hs (h.vts i hi) (h.vts j hj) h.lw h.pw k1 k2).mono fun _ _ ⟨a', c', he, ho, hb⟩ => ⟨a', c', he, h.owned hb ho (join_len (h.vts i hi).1 (h.vts j hj).1)⟩
theorem sv_same (h : Sv w0 w m L) (i j : Nat) (r s : Rc) (a b : Option Addr) (c d : Nat) (hi : L[i]? = some (a, c, r.votes)) (hj : L[j]? = some (b, d, s.votes)) :
    Calls Tryd.prog 65 #[.agg (rcRow r a r.votes.length c), .agg (rcRow s b s.votes.length d)] w fun e w' => e = .returned (.bool (sameR r s)) ∧ Sv w0 w' m L :=
  (lsameC r s a b c d w (h.vts i hi) (h.vts j hj)).mono fun _ _ ⟨he, hb⟩ => ⟨he, h.call hb⟩
theorem sv_within (h : Sv w0 w m L) (i j : Nat) (r s : Rc) (a b : Option Addr) (c d : Nat) (hi : L[i]? = some (a, c, r.votes)) (hj : L[j]? = some (b, d, s.votes)) (hr : RcN r) (hs : RcN s) :
    Calls Tryd.prog 66 #[.agg (rcRow r a r.votes.length c), .agg (rcRow s b s.votes.length d)] w fun e w' => e = .returned (.bool (withinR r s)) ∧ Sv w0 w' m L :=
  (withinC r s a b c d w hr hs (h.vts i hi) (h.vts j hj) h.lw h.pw).mono fun _ _ ⟨he, hb⟩ => ⟨he, h.call hb⟩
theorem sv_well (h : Sv w0 w m L) (i : Nat) (r : Rc) (a : Option Addr) (c : Nat) (n : Int) (hi : L[i]? = some (a, c, r.votes)) (hn : RcN r) :
    Calls Tryd.prog 67 #[.agg (rcRow r a r.votes.length c), .int .i64 n] w fun e w' => e = .returned (.bool (wellOk r n)) ∧ Sv w0 w' m L :=
  (wellC r a c n w hn.w (h.vts i hi) h.lw h.pw).mono fun _ _ ⟨he, hb⟩ => ⟨he, h.call hb⟩
theorem sv_over (h : Sv w0 w m L) (i : Nat) (r : Rc) (a : Option Addr) (c : Nat) (n : Int) (hi : L[i]? = some (a, c, r.votes)) (hn : RcN r) :
    Calls Tryd.prog 64 #[.agg (rcRow r a r.votes.length c), .int .i64 n] w fun e w' => e = .returned (.bool (overOk r n)) ∧ Sv w0 w' m L :=
  (overC r a c n w hn.w (h.vts i hi) h.lw h.pw).mono fun _ _ ⟨he, hb⟩ => ⟨he, h.call hb⟩
theorem sv_voted (h : Sv w0 w m L) (i : Nat) (r : Rc) (a : Option Addr) (c : Nat) (k : Nat) (v : Int × Bool) (hi : L[i]? = some (a, c, r.votes)) (hn : RcN r) (hok : votedOk r k v = true) (hg : r.gen ≠ 0) :
    Calls Tryd.prog 68 #[.agg (rcRow r a r.votes.length c), .int .i64 k, .agg (vtRow v)] w fun e w' => ∃ (a' : Option Addr) (c' : Nat), e = .returned (.tuple #[.agg (rcRow (votedR r k v) a' (votedR r k v).votes.length c'), .int .i64 0]) ∧ Sv w0 w' m ((a', c', (votedR r k v).votes) :: L) :=
  (voted_ok r a c k v w hn (h.vts i hi) h.lw h.pw hok hg).mono fun _ _ ⟨a', c', he, ho, hb⟩ => ⟨a', c', he, h.owned hb ho (join_len (h.vts i hi).1 (by
    have hk : k < 16 := by
      unfold votedOk at hok
      simp only [Bool.and_eq_true, Bool.not_eq_true', decide_eq_false_iff_not] at hok
      have := hok.2.2.1
      omega
    show (List.replicate k vt0 ++ [v]).length ≤ _
    simp; omega))⟩
end
end Go.Proofs.YtniejpfjbifjkaaDoor
