/- Flows that are no more, in plain Lean; rows of booleans. -/
import Derived.Test.YtniejpfjbifjkaaDoorLzq
namespace Go.Proofs.YtniejpfjbifjkaaDoor
open Go.RowKit Fl

def dn (x : Rc) (d : Int) : Rc := { x with done := d }
theorem dn_Gd {x : Rc} (h : Gd x) {d : Int} (hd : 0 ≤ d ∧ d ≤ 65535) : Gd (dn x d) := ⟨h.spec, hd⟩
theorem dn_right {x : Rc} (h : rcOk x = true) (hg : x.gen ≠ 0) {d : Int} (hd : 0 ≤ d ∧ d ≤ 65535) : rcOk (dn x d) = true := by
  rw [rcOk_some hg] at h
  rw [rcOk_some (by exact hg)]
  unfold someOk at h ⊢
  simp only [Bool.and_eq_true, Bool.not_eq_true', decide_eq_false_iff_not] at h ⊢
  obtain ⟨a1, a2, a3, a4, a5, a6, a7, a8, a9⟩ := h
  exact ⟨a1, a2, a3, a4, a5, by show ¬ d < 0; omega, by show ¬ 65535 < d; omega, a8, a9⟩
/-- the number of the bits. -/
def bnat : List Bool → Nat
  | [] => 0
  | b :: l => b.toNat + 2 * bnat l
theorem bnat_bit : ∀ (l : List Bool) (i : Nat), (bnat l).testBit i = l.getD i false
  | [], i => by simp [bnat]
  | b :: l, 0 => by
    unfold bnat
    rw [Nat.testBit_zero]
    cases b <;> simp <;> omega
  | b :: l, i + 1 => by
    unfold bnat
    rw [Nat.testBit_succ, show (b.toNat + 2 * bnat l) / 2 = bnat l by cases b <;> simp <;> omega, bnat_bit l i]
    rfl
theorem bnat_lt : ∀ (l : List Bool), bnat l < 2 ^ l.length
  | [] => by simp [bnat]
  | b :: l => by
    have := bnat_lt l
    unfold bnat
    rw [List.length_cons, Nat.pow_succ]
    cases b <;> simp <;> omega
theorem bnat_set (l : List Bool) (k : Nat) (hk : k < l.length) : (bnat l ||| 2 ^ k) = bnat (l.set k true) := by
  apply Nat.eq_of_testBit_eq
  intro i
  rw [Nat.testBit_or, bnat_bit, bnat_bit, Nat.testBit_two_pow]
  by_cases h : k = i
  · subst h; simp [List.getD, hk]
  · rw [decide_eq_false h, Bool.or_false]
    simp [List.getD, List.getElem?_set_ne h]
theorem bnat_full : ∀ (l : List Bool), bnat l + 1 = 2 ^ l.length ↔ l.count false = 0
  | [] => by simp [bnat]
  | b :: l => by
    have := bnat_full l
    have h2 := bnat_lt l
    unfold bnat
    rw [List.length_cons, Nat.pow_succ]
    cases b
    · simp; omega
    · simp only [Bool.toNat_true, List.count_cons]
      simp
      omega
theorem bnat_false (n : Nat) : bnat (List.replicate n false) = 0 := by
  induction n with
  | zero => rfl
  | succ n ih => rw [List.replicate_succ]; unfold bnat; rw [ih]; rfl
theorem bnat_le {l : List Bool} (h : l.length ≤ 16) : bnat l ≤ 65535 := by
  have h1 := bnat_lt l
  have h2 : 2 ^ l.length ≤ 2 ^ 16 := Nat.pow_le_pow_right (by decide) h
  omega
theorem count_set {l : List Bool} {k : Nat} (hk : k < l.length) (h : l.getD k false = false) : l.count false = (l.set k true).count false + 1 := by
  have hk' : l[k] = false := by simpa [List.getD, hk] using h
  rw [List.count_set hk]
  simp [hk']
  have : 0 < l.count false := List.count_pos_iff.2 (by rw [← hk']; exact List.getElem_mem hk)
  omega
theorem set_same {l : List Bool} {k : Nat} (hk : k < l.length) (h : l.getD k false = true) : l.set k true = l := by
  have hk' : l[k] = true := by simpa [List.getD, hk] using h
  rw [← hk', List.set_getElem_self]
theorem lv_vt0 {v : Int × Bool} (h : votOk v = true) : lv v vt0 = v := by
  rw [votOk_iff] at h
  by_cases h0 : 0 < v.1
  · exact lv_zero h0
  · have : v = vt0 := Prod.ext (by show v.1 = 0; omega) (by show v.2 = false; rcases h.2 with h | h; exact absurd h h0; exact h)
    rw [this, lv_self]
/-- one more says so. -/
theorem join_done {x : Rc} (h : rcOk x = true) (hg : x.gen ≠ 0) {l : List Bool} (hl : l.length ≤ 16) {k : Nat} (hk : k < l.length) : joinR (dn x (bnat l)) (wv (dn x ((2 ^ k : Nat) : Int)) []) = dn x (bnat (l.set k true)) := by
  have h2k : 2 ^ k ≤ 65535 := by
    have : 2 ^ k ≤ 2 ^ 15 := Nat.pow_le_pow_right (by decide) (by omega)
    omega
  have hb := bnat_le hl
  unfold joinR
  rw [if_neg (by show ¬ x.gen < x.gen; omega), if_neg (by show ¬ x.gen < x.gen; omega)]
  refine rc_ext rfl ?_ (spj_self _) ?_ ?_
  · show (if x.life < x.life then x.life else x.life) = x.life
    split <;> rfl
  · show votesTo x.votes [] (max x.votes.length 0) = x.votes
    have ho : votsOk x.votes = true := by
      rw [rcOk_some hg] at h
      unfold someOk at h
      simp only [Bool.and_eq_true] at h
      exact h.2.2.2.2.2.2.2.2
    refine votes_eq (by rw [votesTo_len]; omega) (fun i => ?_)
    rw [getD_votesTo]
    split
    · rw [show ([] : List (Int × Bool)).getD i vt0 = vt0 from rfl]
      exact lv_vt0 ((votsOk_iff _).1 ho i)
    · rw [getD_over (by omega)]
  · show bits BinOp.or .i64 ((bnat l : Nat) : Int) ((2 ^ k : Nat) : Int) = ((bnat (l.set k true) : Nat) : Int)
    rw [bits_or ⟨by omega, by omega⟩ ⟨Int.natCast_nonneg _, Int.ofNat_le.2 h2k⟩, Int.toNat_natCast, Int.toNat_natCast, bnat_set l k hk]
theorem over_all {x : Rc} (h : rcOk x = true) (hg : x.gen ≠ 0) {l : List Bool} (h1 : 1 ≤ l.length) (hl : l.length ≤ 16) : overOk (dn x (bnat l)) (l.length : Int) = ((l.count false : Int) == 0) := by
  have hb := bnat_le hl
  have hlt := bnat_lt l
  have hm : 2 ^ l.length ≤ 2 ^ 16 := Nat.pow_le_pow_right (by decide) hl
  have hp : 0 < 2 ^ l.length := Nat.pow_pos (by decide)
  have hmask : maskI (l.length : Int) = ((2 ^ l.length - 1 : Nat) : Int) := by
    unfold maskI
    rw [Int.toNat_natCast]
    have : ((2 ^ l.length : Nat) : Int) = (2 : Int) ^ l.length := by simp
    omega
  unfold overOk amongOk
  rw [dn_right h hg ⟨by omega, by omega⟩, hmask]
  have := gen_pos h hg
  rw [decide_eq_true (show (1 : Int) ≤ (l.length : Int) by omega), decide_eq_true (show (l.length : Int) ≤ 16 by omega), decide_eq_true (show 0 < (dn x (bnat l)).gen from this)]
  rw [show (dn x (bnat l)).done = ((bnat l : Nat) : Int) from rfl, bits_and ⟨by omega, by omega⟩ ⟨by omega, by omega⟩, Int.toNat_natCast, Int.toNat_natCast, Nat.and_two_pow_sub_one_eq_mod, Nat.mod_eq_of_lt hlt]
  have hf := bnat_full l
  rw [Bool.eq_iff_iff]
  simp
  omega
/-! ### rows of booleans -/
def boRow (l : List Bool) : Array Value := (l.map Value.bool).toArray
theorem boRow_size (l : List Bool) : (boRow l).size = l.length := by simp [boRow]
theorem boRow_set (l : List Bool) (k : Nat) (b : Bool) : (boRow l).setIfInBounds k (.bool b) = boRow (l.set k b) := by simp [boRow, List.map_set]
theorem cell_bo {w : World} {g : Nat} {l : List Bool} {t : TypeId} {fr : Nat × Nat} (h : w.heap[g]? = some (.cells (boRow l) t fr)) (k : Nat) (hk : k < l.length) : w.cell? ⟨g, k, none⟩ = some (.bool (l.getD k false)) := by
  rw [cell_of_row w g k _ t fr h]; simp [boRow, List.getD, hk]
theorem info4 : (Tryd.prog.info? 4).map (fun i => (i.zero, i.size, i.bytes)) = some (some (.bool false), 1, 1) := by kernel_rfl
theorem madeCells_bools (k : Nat) : madeCells #[.bool false] (k * 1) = boRow (List.replicate k false) := by
  apply Array.toList_inj.1
  unfold madeCells boRow
  rw [Array.toList_map, Array.toList_range, List.map_replicate, Nat.mul_one]
  apply List.ext_getElem (by simp)
  intro i h1 h2
  simp [Nat.mod_one]
theorem sv_makeB {ops : Array Oper} {rest : List Oper} {o : Oper} {a : Act} {w : World} {Q : Exit → Act → World → Prop} {w0 : World} {m : List Ent} {L : List VEnt} (hSt : Sv w0 w m L) (hw : Region.wanted o (yielded ops a.tmps) = true) (x y : Operand) (ho : o.op = .makeSlice 43 x y) (k : Nat)
    (hx : a.eval x = .int .i64 (k : Int)) (hy : a.eval y = .int .i64 (k : Int)) (hk : k ≤ 1000)
    (h : ∀ g w1, Sv w0 w1 ((g, boRow (List.replicate k false), 4) :: m) L → wpList Tryd.prog ops Q rest (a.put o.dst (.slice (some ⟨g, 0, none⟩) k k)) w1) : wpList Tryd.prog ops Q (o :: rest) a w := by
  obtain ⟨ie, hie, hz, hsz, hb⟩ := info_parts info4
  have hr := run_make w 43 4 ie _ Tryd.underlying43 hie hz .i64 .i64 (k : Int) (k : Int) (by omega) (Int.le_refl _) (by rw [hb]; omega) (by omega)
  rw [Int.toNat_natCast, hsz] at hr
  rw [show (Value.bool false).cells = #[.bool false] from rfl, madeCells_bools] at hr
  refine wpList_val hw (v := .slice (some ⟨w.heap.size, 0, none⟩) k k) (w' := w.alloc (.cells (boRow (List.replicate k false)) 4)) ?_ (h _ _ (hSt.alloc _ 4 (by decide)))
  unfold execOp
  simp only [ho, hx, hy, Sem.run_bind, hr, Result.andThen_ok, Sem.run_pure]
theorem put_done0 (x : Rc) (a : Option Addr) (n c : Nat) (d : Int) : (rcRow x a n c).setIfInBounds 23 (.int .i64 d) = rcRow (dn x d) a n c := by kernel_rfl
theorem put_doneY (x : Rc) (e d : Int) : (rcRow (dn x e) none 0 0).setIfInBounds 23 (.int .i64 d) = rcRow (wv (dn x d) []) none 0 0 := by kernel_rfl
end Go.Proofs.YtniejpfjbifjkaaDoor
