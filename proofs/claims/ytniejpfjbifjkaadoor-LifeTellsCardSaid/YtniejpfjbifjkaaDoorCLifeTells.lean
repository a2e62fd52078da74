/- Lzq Lzr Fo Lrc Lrd Lre Lrf Lrg LLifeTells CLifeTells in one text. -/
import Derived.Test.YtniejpfjbifjkaaDoorLze
import Derived.Test.YtniejpfjbifjkaaDoorFr
import Derived.Deep.SlicePairs
import Derived.Test.YtniejpfjbifjkaaDoorLrb
import Derived.Test.YtniejpfjbifjkaaDoorLr
import Derived.Test.YtniejpfjbifjkaaDoorLo
import Derived.Test.YtniejpfjbifjkaaDoorLzc
import Derived.Test.YtniejpfjbifjkaaDoorWs
import Derived.Test.YtniejpfjbifjkaaDoorFs

namespace Go.Proofs.YtniejpfjbifjkaaDoor
open Go.RowKit Fl

theorem rc_ext {r s : Rc} (h1 : r.gen = s.gen) (h2 : r.life = s.life) (h3 : r.spec = s.spec) (h4 : r.votes = s.votes) (h5 : r.done = s.done) : r = s := by
  cases r; cases s
  simp only at h1 h2 h3 h4 h5
  subst h1; subst h2; subst h3; subst h4; subst h5
  rfl
theorem bits_or_self {x : Int} (h : 0 ≤ x ∧ x ≤ 65535) : bits BinOp.or .i64 x x = x := by
  rw [bits_or h h, Nat.or_self]; omega
/-- with other votes. -/
theorem votedR_eq {r : Rc} (hr : Gd r) (k : Nat) (v : Int × Bool) : votedR r k v = { r with votes := votesTo r.votes (List.replicate k vt0 ++ [v]) (max r.votes.length (k + 1)) } := by
  unfold votedR joinR
  rw [if_neg (by show ¬ r.gen < r.gen; omega), if_neg (by show ¬ r.gen < r.gen; omega)]
  refine rc_ext rfl ?_ (spj_self _) ?_ (bits_or_self hr.done)
  · show (if r.life < r.life then r.life else r.life) = r.life
    split <;> rfl
  · show votesTo _ _ _ = votesTo _ _ _
    congr 1
    simp [withVote]
theorem getD_one (k : Nat) (v : Int × Bool) (i : Nat) : (List.replicate k vt0 ++ [v]).getD i vt0 = if i = k then v else vt0 := by
  by_cases h : i = k
  · subst h; simp [List.getD]
  · rw [if_neg h]
    rcases Nat.lt_or_ge i k with h' | h'
    · simp [List.getD]
      rw [List.getElem?_append_left (by simpa using h')]
      simp [h']
    · exact getD_over (by simp; omega)
theorem votedR_votes {r : Rc} (hr : Gd r) (k : Nat) (v : Int × Bool) (i : Nat) : (votedR r k v).votes.getD i vt0 = if i = k then lv (r.votes.getD i vt0) v else lv (r.votes.getD i vt0) vt0 := by
  rw [votedR_eq hr]
  show (votesTo _ _ _).getD i vt0 = _
  rw [getD_votesTo, getD_one]
  by_cases h : i = k
  · rw [if_pos h, if_pos h, if_pos (by omega)]
  · rw [if_neg h, if_neg h]
    split
    · rfl
    · rw [getD_over (by omega), lv_self]
theorem votedR_len {r : Rc} (hr : Gd r) (k : Nat) (v : Int × Bool) : (votedR r k v).votes.length = max r.votes.length (k + 1) := by
  rw [votedR_eq hr]; exact votesTo_len _ _ _
theorem lv_zero {v : Int × Bool} (h : 0 < v.1) : lv v vt0 = v := by
  unfold lv
  rw [if_neg]
  rw [ordV_key]
  unfold vkey vt0
  simp only [Bool.false_eq_true, if_false]
  split <;> omega
theorem lv_zero' {v : Int × Bool} (h : 0 < v.1) : lv vt0 v = v := by rw [lv_comm]; exact lv_zero h
def nVotes (k : Nat) (b : Int) : List (Int × Bool) := List.replicate k (b, false)
theorem nVotes_getD (k : Nat) (b : Int) (i : Nat) : (nVotes k b).getD i vt0 = if i < k then (b, false) else vt0 := by
  unfold nVotes
  by_cases h : i < k
  · rw [if_pos h]; simp [List.getD, h]
  · rw [if_neg h]; exact getD_over (by simp; omega)
def wv (x : Rc) (l : List (Int × Bool)) : Rc := { x with votes := l }
theorem wv_Gd {x : Rc} (h : Gd x) (l : List (Int × Bool)) : Gd (wv x l) := ⟨h.spec, h.done⟩
theorem votedR_wv {x : Rc} (h : Gd x) (l m : List (Int × Bool)) (k : Nat) (v : Int × Bool) (hn : max l.length (k + 1) = m.length) (hm : ∀ i, (if i = k then lv (l.getD i vt0) v else lv (l.getD i vt0) vt0) = m.getD i vt0) : votedR (wv x l) k v = wv x m := by
  have h1 := votedR_votes (wv_Gd h l) k v
  have h2 := votedR_len (wv_Gd h l) k v
  have h3 := votedR_eq (wv_Gd h l) k v
  have hv : (votedR (wv x l) k v).votes = m := votes_eq (by rw [h2]; exact hn) (fun i => by rw [h1 i]; exact hm i)
  rw [h3] at hv ⊢
  exact rc_ext rfl rfl rfl hv rfl
theorem vote_later {x : Rc} (h : Gd x) (k : Nat) {b : Int} (hb : 0 < b) : votedR (wv x (nVotes k b)) k (b, false) = wv x (nVotes (k + 1) b) := by
  refine votedR_wv h _ _ k _ (by simp [nVotes]) (fun i => ?_)
  rw [nVotes_getD, nVotes_getD]
  by_cases e : i = k
  · subst e; rw [if_pos rfl, if_neg (by omega), if_pos (by omega)]; exact lv_zero' hb
  · rw [if_neg e]
    by_cases hi : i < k
    · rw [if_pos hi, if_pos (by omega)]; exact lv_zero hb
    · rw [if_neg hi, if_neg (by omega), lv_self]
theorem vote_earlier {x : Rc} (h : Gd x) (k : Nat) {a b : Int} (ha : 0 < a) (hb : a < b) : votedR (wv x (nVotes (k + 1) b)) k (a, true) = wv x (nVotes (k + 1) b) := by
  refine votedR_wv h _ _ k _ (by simp [nVotes]) (fun i => ?_)
  rw [nVotes_getD]
  by_cases e : i = k
  · subst e; rw [if_pos rfl, if_pos (by omega)]
    unfold lv
    rw [if_neg]
    rw [ordV_key]; unfold vkey; simp; omega
  · rw [if_neg e]
    split
    · exact lv_zero (by show 0 < b; omega)
    · exact lv_self _
theorem vote_first {x : Rc} (h : Gd x) (k : Nat) {a b : Int} (ha : 0 < a) (hb : 0 < b) : votedR (wv x (nVotes k b)) k (a, true) = wv x (nVotes k b ++ [(a, true)]) := by
  refine votedR_wv h _ _ k _ (by simp [nVotes]) (fun i => ?_)
  rw [nVotes_getD]
  have hg : (nVotes k b ++ [(a, true)]).getD i vt0 = if i < k then (b, false) else if i = k then (a, true) else vt0 := by
    unfold nVotes
    by_cases h1 : i < k
    · rw [if_pos h1]; simp [List.getD]; rw [List.getElem?_append_left (by simpa using h1)]; simp [h1]
    · rw [if_neg h1]
      by_cases h2 : i = k
      · subst h2; simp [List.getD]
      · rw [if_neg h2]; exact getD_over (by simp; omega)
  rw [hg]
  by_cases e : i = k
  · subst e; rw [if_pos rfl, if_neg (by omega), if_neg (by omega), if_pos rfl]; exact lv_zero' ha
  · rw [if_neg e, if_neg e]
    by_cases hi : i < k
    · rw [if_pos hi]; exact lv_zero hb
    · rw [if_neg hi]; exact lv_self _
theorem vote_then {x : Rc} (h : Gd x) (k : Nat) {a b : Int} (ha : 0 < a) (hb : a < b) : votedR (wv x (nVotes k b ++ [(a, true)])) k (b, false) = wv x (nVotes (k + 1) b) := by
  refine votedR_wv h _ _ k _ (by simp [nVotes]) (fun i => ?_)
  have hg : (nVotes k b ++ [(a, true)]).getD i vt0 = if i < k then (b, false) else if i = k then (a, true) else vt0 := by
    unfold nVotes
    by_cases h1 : i < k
    · rw [if_pos h1]; simp [List.getD]; rw [List.getElem?_append_left (by simpa using h1)]; simp [h1]
    · rw [if_neg h1]
      by_cases h2 : i = k
      · subst h2; simp [List.getD]
      · rw [if_neg h2]; exact getD_over (by simp; omega)
  rw [hg, nVotes_getD]
  by_cases e : i = k
  · subst e; rw [if_pos rfl, if_neg (by omega), if_pos rfl, if_pos (by omega)]
    unfold lv
    rw [if_pos]
    rw [ordV_key]; unfold vkey; simp; omega
  · rw [if_neg e]
    by_cases hi : i < k
    · rw [if_pos hi, if_pos (by omega)]; exact lv_zero (by show 0 < b; omega)
    · rw [if_neg hi, if_neg e, if_neg (by omega)]; exact lv_self _
theorem wv_right {x : Rc} (h : rcOk x = true) (hg : x.gen ≠ 0) {l : List (Int × Bool)} (hl : l.length ≤ 16) (h1 : lastOk l = true) (h2 : votsOk l = true) : rcOk (wv x l) = true := by
  rw [rcOk_some hg] at h
  rw [rcOk_some (by exact hg)]
  unfold someOk at h ⊢
  simp only [Bool.and_eq_true, Bool.not_eq_true', decide_eq_false_iff_not] at h ⊢
  obtain ⟨a1, a2, a3, a4, a5, a6, a7, a8, a9⟩ := h
  exact ⟨a1, a2, a3, a4, by show ¬ 16 < l.length; omega, a6, a7, h1, h2⟩
theorem nVotes_right {x : Rc} (h : rcOk x = true) (hg : x.gen ≠ 0) {k : Nat} {b : Int} (hk : k ≤ 16) (hb : 0 < b ∧ b ≤ 1099511627776) : rcOk (wv x (nVotes k b)) = true := by
  refine wv_right h hg (by simpa [nVotes] using hk) ?_ ?_
  · rw [lastOk_iff, nVotes_getD]
    by_cases h0 : k = 0
    · left; simp [nVotes, h0]
    · right
      rw [if_pos (by simp [nVotes]; omega)]
      show b ≠ 0; omega
  · rw [votsOk_iff]
    intro i
    rw [nVotes_getD, votOk_iff]
    split
    · exact ⟨⟨by show 0 ≤ b; omega, hb.2⟩, .inr rfl⟩
    · decide
theorem first_right {x : Rc} (h : rcOk x = true) (hg : x.gen ≠ 0) {k : Nat} {a b : Int} (hk : k < 16) (ha : 0 < a ∧ a ≤ 1099511627776) (hb : 0 < b ∧ b ≤ 1099511627776) : rcOk (wv x (nVotes k b ++ [(a, true)])) = true := by
  refine wv_right h hg (by simp [nVotes]; omega) ?_ ?_
  · rw [lastOk_iff]
    right
    have : (nVotes k b ++ [(a, true)]).getD ((nVotes k b ++ [(a, true)]).length - 1) vt0 = (a, true) := by simp
    rw [this]
    show a ≠ 0; omega
  · unfold votsOk
    rw [List.all_eq_true]
    intro v hv
    rcases List.mem_append.1 hv with hv | hv
    · rw [show v = (b, false) from List.eq_of_mem_replicate hv, votOk_iff]
      exact ⟨⟨by show 0 ≤ b; omega, hb.2⟩, .inr rfl⟩
    · rw [List.mem_singleton.1 hv, votOk_iff]
      exact ⟨⟨by show 0 ≤ a; omega, ha.2⟩, .inl ha.1⟩
theorem voted_good {r : Rc} {k : Nat} {v : Int × Bool} (h : rcOk r = true) (hk : k < 16) (hv : 0 < v.1 ∧ v.1 ≤ 1099511627776) : votedOk r k v = true := by
  unfold votedOk stampOk
  rw [h]
  simp
  omega
theorem gen_pos {x : Rc} (h : rcOk x = true) (hg : x.gen ≠ 0) : 0 < x.gen := by
  rw [rcOk_some hg] at h
  unfold someOk stampOk at h
  simp only [Bool.and_eq_true, decide_eq_true_eq] at h
  omega
theorem nays_n (k : Nat) {b : Int} (hb : 0 < b) : ∀ n, nays (nVotes k b) n = min k n
  | 0 => by simp [nays]
  | n + 1 => by
    unfold nays
    rw [nays_n k hb n, nVotes_getD]
    by_cases h : n < k
    · rw [if_pos h, if_pos ⟨hb, rfl⟩]; omega
    · rw [if_neg h, if_neg (by unfold vt0; simp)]; omega
theorem well_n {x : Rc} (h : rcOk x = true) (hg : x.gen ≠ 0) {k n : Nat} {b : Int} (hk : k ≤ n) (h1 : 1 ≤ n) (hn : n ≤ 16) (hb : 0 < b ∧ b ≤ 1099511627776) : wellOk (wv x (nVotes k b)) n = decide (2 * (k : Int) < n) := by
  unfold wellOk amongOk
  rw [nVotes_right h hg (by omega) hb, Int.toNat_natCast, show (wv x (nVotes k b)).votes = nVotes k b from rfl, nays_n k hb.1]
  have := gen_pos h hg
  rw [decide_eq_true (show (1 : Int) ≤ n by omega), decide_eq_true (show (n : Int) ≤ 16 by omega), decide_eq_true (show 0 < (wv x (nVotes k b)).gen from this)]
  rw [Bool.eq_iff_iff]
  simp
  omega
end Go.Proofs.YtniejpfjbifjkaaDoor

namespace Go.Proofs.YtniejpfjbifjkaaDoor
open Go.RowKit Fl

def dn (x : Rc) (d : Int) : Rc := { x with done := d }
theorem dn_Gd {x : Rc} (h : Gd x) {d : Int} (hd : 0 ≤ d ∧ d ≤ 65535) : Gd (dn x d) := ⟨h.spec, hd⟩
theorem dn_right {x : Rc} (h : rcOk x = true) (hg : x.gen ≠ 0) {d : Int} (hd : 0 ≤ d ∧ d ≤ 65535) : rcOk (dn x d) = true := by
  rw [rcOk_some hg] at h
  rw [rcOk_some (by exact hg)]
  unfold someOk at h ⊢
  simp only [Bool.and_eq_true, Bool.not_eq_true', decide_eq_false_iff_not] at h ⊢
  obtain ⟨a1, a2, a3, a4, a5, a6, a7, a8, a9⟩ := h
  exact ⟨a1, a2, a3, a4, a5, by show ¬ d < 0; omega, by show ¬ 65535 < d; omega, a8, a9⟩
/-- the number of the bits. -/
def bnat : List Bool → Nat
  | [] => 0
  | b :: l => b.toNat + 2 * bnat l
theorem bnat_bit : ∀ (l : List Bool) (i : Nat), (bnat l).testBit i = l.getD i false
  | [], i => by simp [bnat]
  | b :: l, 0 => by
    unfold bnat
    rw [Nat.testBit_zero]
    cases b <;> simp <;> omega
  | b :: l, i + 1 => by
    unfold bnat
    rw [Nat.testBit_succ, show (b.toNat + 2 * bnat l) / 2 = bnat l by cases b <;> simp <;> omega, bnat_bit l i]
    rfl
theorem bnat_lt : ∀ (l : List Bool), bnat l < 2 ^ l.length
  | [] => by simp [bnat]
  | b :: l => by
    have := bnat_lt l
    unfold bnat
    rw [List.length_cons, Nat.pow_succ]
    cases b <;> simp <;> omega
theorem bnat_set (l : List Bool) (k : Nat) (hk : k < l.length) : (bnat l ||| 2 ^ k) = bnat (l.set k true) := by
  apply Nat.eq_of_testBit_eq
  intro i
  rw [Nat.testBit_or, bnat_bit, bnat_bit, Nat.testBit_two_pow]
  by_cases h : k = i
  · subst h; simp [List.getD, hk]
  · rw [decide_eq_false h, Bool.or_false]
    simp [List.getD, List.getElem?_set_ne h]
theorem bnat_full : ∀ (l : List Bool), bnat l + 1 = 2 ^ l.length ↔ l.count false = 0
  | [] => by simp [bnat]
  | b :: l => by
    have := bnat_full l
    have h2 := bnat_lt l
    unfold bnat
    rw [List.length_cons, Nat.pow_succ]
    cases b
    · simp; omega
    · simp only [Bool.toNat_true, List.count_cons]
      simp
      omega
theorem bnat_false (n : Nat) : bnat (List.replicate n false) = 0 := by
  induction n with
  | zero => rfl
  | succ n ih => rw [List.replicate_succ]; unfold bnat; rw [ih]; rfl
theorem bnat_le {l : List Bool} (h : l.length ≤ 16) : bnat l ≤ 65535 := by
  have h1 := bnat_lt l
  have h2 : 2 ^ l.length ≤ 2 ^ 16 := Nat.pow_le_pow_right (by decide) h
  omega
theorem count_set {l : List Bool} {k : Nat} (hk : k < l.length) (h : l.getD k false = false) : l.count false = (l.set k true).count false + 1 := by
  have hk' : l[k] = false := by simpa [List.getD, hk] using h
  rw [List.count_set hk]
  simp [hk']
  have : 0 < l.count false := List.count_pos_iff.2 (by rw [← hk']; exact List.getElem_mem hk)
  omega
theorem set_same {l : List Bool} {k : Nat} (hk : k < l.length) (h : l.getD k false = true) : l.set k true = l := by
  have hk' : l[k] = true := by simpa [List.getD, hk] using h
  rw [← hk', List.set_getElem_self]
theorem lv_vt0 {v : Int × Bool} (h : votOk v = true) : lv v vt0 = v := by
  rw [votOk_iff] at h
  by_cases h0 : 0 < v.1
  · exact lv_zero h0
  · have : v = vt0 := Prod.ext (by show v.1 = 0; omega) (by show v.2 = false; rcases h.2 with h | h; exact absurd h h0; exact h)
    rw [this, lv_self]
/-- one more says so. -/
theorem join_done {x : Rc} (h : rcOk x = true) (hg : x.gen ≠ 0) {l : List Bool} (hl : l.length ≤ 16) {k : Nat} (hk : k < l.length) : joinR (dn x (bnat l)) (wv (dn x ((2 ^ k : Nat) : Int)) []) = dn x (bnat (l.set k true)) := by
  have h2k : 2 ^ k ≤ 65535 := by
    have : 2 ^ k ≤ 2 ^ 15 := Nat.pow_le_pow_right (by decide) (by omega)
    omega
  have hb := bnat_le hl
  unfold joinR
  rw [if_neg (by show ¬ x.gen < x.gen; omega), if_neg (by show ¬ x.gen < x.gen; omega)]
  refine rc_ext rfl ?_ (spj_self _) ?_ ?_
  · show (if x.life < x.life then x.life else x.life) = x.life
    split <;> rfl
  · show votesTo x.votes [] (max x.votes.length 0) = x.votes
    have ho : votsOk x.votes = true := by
      rw [rcOk_some hg] at h
      unfold someOk at h
      simp only [Bool.and_eq_true] at h
      exact h.2.2.2.2.2.2.2.2
    refine votes_eq (by rw [votesTo_len]; omega) (fun i => ?_)
    rw [getD_votesTo]
    split
    · rw [show ([] : List (Int × Bool)).getD i vt0 = vt0 from rfl]
      exact lv_vt0 ((votsOk_iff _).1 ho i)
    · rw [getD_over (by omega)]
  · show bits BinOp.or .i64 ((bnat l : Nat) : Int) ((2 ^ k : Nat) : Int) = ((bnat (l.set k true) : Nat) : Int)
    rw [bits_or ⟨by omega, by omega⟩ ⟨Int.natCast_nonneg _, Int.ofNat_le.2 h2k⟩, Int.toNat_natCast, Int.toNat_natCast, bnat_set l k hk]
theorem over_all {x : Rc} (h : rcOk x = true) (hg : x.gen ≠ 0) {l : List Bool} (h1 : 1 ≤ l.length) (hl : l.length ≤ 16) : overOk (dn x (bnat l)) (l.length : Int) = ((l.count false : Int) == 0) := by
  have hb := bnat_le hl
  have hlt := bnat_lt l
  have hm : 2 ^ l.length ≤ 2 ^ 16 := Nat.pow_le_pow_right (by decide) hl
  have hp : 0 < 2 ^ l.length := Nat.pow_pos (by decide)
  have hmask : maskI (l.length : Int) = ((2 ^ l.length - 1 : Nat) : Int) := by
    unfold maskI
    rw [Int.toNat_natCast]
    have : ((2 ^ l.length : Nat) : Int) = (2 : Int) ^ l.length := by simp
    omega
  unfold overOk amongOk
  rw [dn_right h hg ⟨by omega, by omega⟩, hmask]
  have := gen_pos h hg
  rw [decide_eq_true (show (1 : Int) ≤ (l.length : Int) by omega), decide_eq_true (show (l.length : Int) ≤ 16 by omega), decide_eq_true (show 0 < (dn x (bnat l)).gen from this)]
  rw [show (dn x (bnat l)).done = ((bnat l : Nat) : Int) from rfl, bits_and ⟨by omega, by omega⟩ ⟨by omega, by omega⟩, Int.toNat_natCast, Int.toNat_natCast, Nat.and_two_pow_sub_one_eq_mod, Nat.mod_eq_of_lt hlt]
  have hf := bnat_full l
  rw [Bool.eq_iff_iff]
  simp
  omega
/-! ### rows of booleans -/
def boRow (l : List Bool) : Array Value := (l.map Value.bool).toArray
theorem boRow_size (l : List Bool) : (boRow l).size = l.length := by simp [boRow]
theorem boRow_set (l : List Bool) (k : Nat) (b : Bool) : (boRow l).setIfInBounds k (.bool b) = boRow (l.set k b) := by simp [boRow, List.map_set]
theorem cell_bo {w : World} {g : Nat} {l : List Bool} {t : TypeId} {fr : Nat × Nat} (h : w.heap[g]? = some (.cells (boRow l) t fr)) (k : Nat) (hk : k < l.length) : w.cell? ⟨g, k, none⟩ = some (.bool (l.getD k false)) := by
  rw [cell_of_row w g k _ t fr h]; simp [boRow, List.getD, hk]
theorem info4 : (Tryd.prog.info? 4).map (fun i => (i.zero, i.size, i.bytes)) = some (some (.bool false), 1, 1) := by kernel_rfl
theorem madeCells_bools (k : Nat) : madeCells #[.bool false] (k * 1) = boRow (List.replicate k false) := by
  apply Array.toList_inj.1
  unfold madeCells boRow
  rw [Array.toList_map, Array.toList_range, List.map_replicate, Nat.mul_one]
  apply List.ext_getElem (by simp)
  intro i h1 h2
  simp [Nat.mod_one]
theorem sv_makeB {ops : Array Oper} {rest : List Oper} {o : Oper} {a : Act} {w : World} {Q : Exit → Act → World → Prop} {w0 : World} {m : List Ent} {L : List VEnt} (hSt : Sv w0 w m L) (hw : Region.wanted o (yielded ops a.tmps) = true) (x y : Operand) (ho : o.op = .makeSlice 43 x y) (k : Nat)
    (hx : a.eval x = .int .i64 (k : Int)) (hy : a.eval y = .int .i64 (k : Int)) (hk : k ≤ 1000)
    (h : ∀ g w1, Sv w0 w1 ((g, boRow (List.replicate k false), 4) :: m) L → wpList Tryd.prog ops Q rest (a.put o.dst (.slice (some ⟨g, 0, none⟩) k k)) w1) : wpList Tryd.prog ops Q (o :: rest) a w := by
  obtain ⟨ie, hie, hz, hsz, hb⟩ := info_parts info4
  have hr := run_make w 43 4 ie _ Tryd.underlying43 hie hz .i64 .i64 (k : Int) (k : Int) (by omega) (Int.le_refl _) (by rw [hb]; omega) (by omega)
  rw [Int.toNat_natCast, hsz] at hr
  rw [show (Value.bool false).cells = #[.bool false] from rfl, madeCells_bools] at hr
  refine wpList_val hw (v := .slice (some ⟨w.heap.size, 0, none⟩) k k) (w' := w.alloc (.cells (boRow (List.replicate k false)) 4)) ?_ (h _ _ (hSt.alloc _ 4 (by decide)))
  unfold execOp
  simp only [ho, hx, hy, Sem.run_bind, hr, Result.andThen_ok, Sem.run_pure]
theorem put_done0 (x : Rc) (a : Option Addr) (n c : Nat) (d : Int) : (rcRow x a n c).setIfInBounds 23 (.int .i64 d) = rcRow (dn x d) a n c := by kernel_rfl
theorem put_doneY (x : Rc) (e d : Int) : (rcRow (dn x e) none 0 0).setIfInBounds 23 (.int .i64 d) = rcRow (wv (dn x d) []) none 0 0 := by kernel_rfl
end Go.Proofs.YtniejpfjbifjkaaDoor

namespace Go.Proofs.YtniejpfjbifjkaaDoor
open Go.ChangeShapes Go.WideShapes Go.ChangeAt Go.RowKit Fl

theorem cells71 : Tryd.prog.cellsOf 71 = 24 := by kernel_rfl
theorem cells68 : Tryd.prog.cellsOf 68 = 20 := by kernel_rfl
theorem cells66 : Tryd.prog.cellsOf 66 = 17 := by kernel_rfl
theorem cells64 : Tryd.prog.cellsOf 64 = 16 := by kernel_rfl
theorem cells69 : Tryd.prog.cellsOf 69 = 1 := by kernel_rfl
theorem cells89 : Tryd.prog.cellsOf 89 = 2 := by kernel_rfl
theorem cells2 : Tryd.prog.cellsOf 2 = 1 := by kernel_rfl
theorem cells4 : Tryd.prog.cellsOf 4 = 1 := by kernel_rfl
theorem cells5 : Tryd.prog.cellsOf 5 = 1 := by kernel_rfl
theorem bytes89 : Tryd.prog.bytesOf 89 = 16 := by kernel_rfl
theorem list24 : ∀ (l : List Value), l.length = 24 → ∃ c0 c1 c2 c3 c4 c5 c6 c7 c8 c9 c10 c11 c12 c13 c14 c15 c16 c17 c18 c19 c20 c21 c22 c23, l = [c0, c1, c2, c3, c4, c5, c6, c7, c8, c9, c10, c11, c12, c13, c14, c15, c16, c17, c18, c19, c20, c21, c22, c23]
  | [c0, c1, c2, c3, c4, c5, c6, c7, c8, c9, c10, c11, c12, c13, c14, c15, c16, c17, c18, c19, c20, c21, c22, c23], _ => ⟨c0, c1, c2, c3, c4, c5, c6, c7, c8, c9, c10, c11, c12, c13, c14, c15, c16, c17, c18, c19, c20, c21, c22, c23, rfl⟩
section
variable {H : Type} {enc : TypeId × Value → H} {W : World}
theorem some_at {α : Type} {l : List α} {n i : Nat} (h : l.length = n) (hi : i < n) : ∃ y, l[i]? = some y := ⟨l[i], by simp⟩
set_option maxRecDepth 100000 in
/-- a slice of votes that came in. -/
theorem open_vts {n : Nat} {c : Value} {x : DataW H × List MemPlace} (hf : DataW.trod enc Tryd.prog W 0 (fun _ => true) true n 69 [c] = some x) (hsz : ∀ k ∈ x.1.weights Tryd.prog 69, k ≤ reachBytes) :
    ∃ a l cap, c = .slice a l.length cap ∧ Vts W a l := by
  rcases Deep.open_slice_pairs (cs := [c]) Tryd.underlying69 Tryd.underlying89 cells89 rfl rfl cells2 cells4 hf with ⟨h1, _⟩ | ⟨a, len, cap, m, n, V0, V1, D0, D1, P0, P1, h1, _, hl, hm, hmm, hx, hcell⟩
  · simp only [List.cons.injEq, and_true] at h1
    subst h1
    exact ⟨none, [], 0, rfl, by simp, fun i hi => by simp at hi⟩
  · simp only [List.cons.injEq, and_true] at h1
    subst h1
    simp only [if_true] at hmm
    subst hmm
    have hV : ∀ i, i < len → ∃ b : Int × Bool, V0 i = .int .i64 b.1 ∧ V1 i = .bool b.2 := by
      intro i hi
      obtain ⟨_, _, ht0, ht1⟩ := hcell i (by omega)
      obtain ⟨b, hb, _, _⟩ := DataW.trod_int Tryd.underlying2 ht0
      obtain ⟨c, hc, _⟩ := DataW.trod_bool Tryd.underlying4 ht1
      simp only [List.cons.injEq, and_true] at hb hc
      exact ⟨(b, c), hb, hc⟩
    obtain ⟨f, hfn⟩ := Deep.choose_lt hV
    have hget : ∀ i, i < len → ((List.range len).map f).getD i vt0 = f i := by
      intro i hi; simp [List.getD, hi]
    have hbound : len * 16 ≤ 140737488351232 := by
      have h2 := hsz ((((List.range len).map fun i => (.agg [D0 i, D1 i] : DataW H)).length + ((List.range (m - len)).map fun j => (.agg [D0 (len + j), D1 (len + j)] : DataW H)).length) * Tryd.prog.bytesOf 89) (by
        rw [hx]; simp [DataW.weights, Tryd.underlying69])
      rw [bytes89] at h2
      simp at h2
      have h3 : reachBytes = 140737488351232 := rfl
      omega
    refine ⟨some a, (List.range len).map f, m, by simp, ?_, ?_⟩
    · simp; omega
    · intro i hi
      simp at hi
      have hc0 := (hcell 0 (by omega)).1
      rw [show a.add (0 * 2) = a from rfl] at hc0
      have hsp : a.spot = none := by
        cases hs : a.spot with
        | none => rfl
        | some _ => simp [World.cell?, hs] at hc0; split at hc0 <;> simp_all
      have hc1 := (hcell i (by omega)).1
      have hc2 := (hcell i (by omega)).2.1
      rw [(hfn i hi).1] at hc1
      rw [(hfn i hi).2] at hc2
      have hadd : ∀ j, a.add j = ⟨a.block, a.off + j, none⟩ := by
        intro j
        cases a with
        | mk b o s =>
          simp only at hsp; subst hsp
          unfold Addr.add; split <;> simp_all
      rw [hadd] at hc1 hc2
      refine ⟨a.block, a.off, by cases a; simp_all, ?_, ?_⟩
      · rw [hget i hi]; exact hc1
      · rw [hget i hi]; exact hc2
theorem wf_u8 {n : Int} (h : (Lit.int .u8 n).wf = true) : 0 ≤ n ∧ n < 256 := by
  simp only [Lit.wf, Bool.and_eq_true, decide_eq_true_eq] at h
  have h1 : IntKind.u8.min = 0 := rfl
  have h2 : IntKind.u8.max = 255 := rfl
  omega
set_option maxRecDepth 100000 in
set_option maxHeartbeats 4000000 in
/-- a record that came in. -/
theorem open_rec {r : Reach} {b0 : Nat} {v : Value} {d : DataW H} {p : List MemPlace} (hv : Value.okWide Tryd.prog W r b0 71 v) (h : DataW.Trod enc Tryd.prog W 0 (fun _ => true) true 71 v d p)
    (hsz : ∀ k ∈ d.weights Tryd.prog 71, k ≤ reachBytes) : ∃ a x c, v = recV x a x.votes.length c ∧ RcN x ∧ Vts W a x.votes := by
  obtain ⟨cs, rfl, hs⟩ := okWide_struct Tryd.underlying71 hv
  obtain ⟨l⟩ := cs
  obtain ⟨c0, c1, c2, c3, c4, c5, c6, c7, c8, c9, c10, c11, c12, c13, c14, c15, c16, c17, c18, c19, c20, c21, c22, c23, rfl⟩ := list24 l (hs.trans cells71)
  obtain ⟨fuel, hf⟩ := h
  obtain ⟨xs, n, _, hx, _, hlen, hg⟩ := DataW.trod_struct Tryd.underlying71 hf
  have g0 : DataW.trod enc Tryd.prog W 0 (fun _ => true) true n 2 (List.take (Tryd.prog.cellsOf 2) (List.drop 0 _)) = xs[0]? := hg 0 _ rfl
  rw [cells2] at g0
  change DataW.trod enc Tryd.prog W 0 (fun _ => true) true n 2 [c0] = _ at g0
  have g1 : DataW.trod enc Tryd.prog W 0 (fun _ => true) true n 3 (List.take (Tryd.prog.cellsOf 3) (List.drop 1 _)) = xs[1]? := hg 1 _ rfl
  rw [cells3] at g1
  change DataW.trod enc Tryd.prog W 0 (fun _ => true) true n 3 [c1] = _ at g1
  have g2 : DataW.trod enc Tryd.prog W 0 (fun _ => true) true n 68 (List.take (Tryd.prog.cellsOf 68) (List.drop 2 _)) = xs[2]? := hg 2 _ rfl
  rw [cells68] at g2
  change DataW.trod enc Tryd.prog W 0 (fun _ => true) true n 68 [c2, c3, c4, c5, c6, c7, c8, c9, c10, c11, c12, c13, c14, c15, c16, c17, c18, c19, c20, c21] = _ at g2
  have g3 : DataW.trod enc Tryd.prog W 0 (fun _ => true) true n 69 (List.take (Tryd.prog.cellsOf 69) (List.drop 22 _)) = xs[3]? := hg 3 _ rfl
  rw [cells69] at g3
  change DataW.trod enc Tryd.prog W 0 (fun _ => true) true n 69 [c22] = _ at g3
  have g4 : DataW.trod enc Tryd.prog W 0 (fun _ => true) true n 3 (List.take (Tryd.prog.cellsOf 3) (List.drop 23 _)) = xs[4]? := hg 4 _ rfl
  rw [cells3] at g4
  change DataW.trod enc Tryd.prog W 0 (fun _ => true) true n 3 [c23] = _ at g4
  obtain ⟨y0, e0⟩ := some_at (i := 0) hlen (by decide)
  obtain ⟨y1, e1⟩ := some_at (i := 1) hlen (by decide)
  obtain ⟨y2, e2⟩ := some_at (i := 2) hlen (by decide)
  obtain ⟨y3, e3⟩ := some_at (i := 3) hlen (by decide)
  obtain ⟨y4, e4⟩ := some_at (i := 4) hlen (by decide)
  rw [e0] at g0
  rw [e1] at g1
  rw [e2] at g2
  rw [e3] at g3
  rw [e4] at g4
  obtain ⟨gen, hgen, _, _⟩ := DataW.trod_int Tryd.underlying2 g0
  obtain ⟨life, hlife, _, _⟩ := DataW.trod_int Tryd.underlying3 g1
  obtain ⟨done, hdone, _, _⟩ := DataW.trod_int Tryd.underlying3 g4
  obtain ⟨a, vl, cap, hvo, hvts⟩ := open_vts (W := W) g3 (fun k hk => by
    refine hsz k ?_
    have hd := (Prod.ext_iff.1 hx).1
    simp only at hd
    rw [hd]
    simp only [DataW.weights, Tryd.underlying71]
    refine DataW.weights_mem_each (j := 3) (t := 69) rfl ?_ k hk
    rw [List.getElem?_map, e3]; rfl)
  obtain ⟨zs, n2, _, _, _, hlen2, hg2⟩ := DataW.trod_struct Tryd.underlying68 g2
  have k0 : DataW.trod enc Tryd.prog W 0 (fun _ => true) true n2 2 (List.take (Tryd.prog.cellsOf 2) (List.drop 0 _)) = zs[0]? := hg2 0 _ rfl
  rw [cells2] at k0
  change DataW.trod enc Tryd.prog W 0 (fun _ => true) true n2 2 [c2] = _ at k0
  have k1 : DataW.trod enc Tryd.prog W 0 (fun _ => true) true n2 3 (List.take (Tryd.prog.cellsOf 3) (List.drop 1 _)) = zs[1]? := hg2 1 _ rfl
  rw [cells3] at k1
  change DataW.trod enc Tryd.prog W 0 (fun _ => true) true n2 3 [c3] = _ at k1
  have k2 : DataW.trod enc Tryd.prog W 0 (fun _ => true) true n2 66 (List.take (Tryd.prog.cellsOf 66) (List.drop 2 _)) = zs[2]? := hg2 2 _ rfl
  rw [cells66] at k2
  change DataW.trod enc Tryd.prog W 0 (fun _ => true) true n2 66 [c4, c5, c6, c7, c8, c9, c10, c11, c12, c13, c14, c15, c16, c17, c18, c19, c20] = _ at k2
  have k3 : DataW.trod enc Tryd.prog W 0 (fun _ => true) true n2 22 (List.take (Tryd.prog.cellsOf 22) (List.drop 19 _)) = zs[3]? := hg2 3 _ rfl
  rw [cells22] at k3
  change DataW.trod enc Tryd.prog W 0 (fun _ => true) true n2 22 [c21] = _ at k3
  obtain ⟨z0, f0⟩ := some_at (i := 0) hlen2 (by decide)
  obtain ⟨z1, f1⟩ := some_at (i := 1) hlen2 (by decide)
  obtain ⟨z2, f2⟩ := some_at (i := 2) hlen2 (by decide)
  obtain ⟨z3, f3⟩ := some_at (i := 3) hlen2 (by decide)
  rw [f0] at k0
  rw [f1] at k1
  rw [f2] at k2
  rw [f3] at k3
  obtain ⟨st, hst, _, _⟩ := DataW.trod_int Tryd.underlying2 k0
  obtain ⟨by_, hby, _, _⟩ := DataW.trod_int Tryd.underlying3 k1
  obtain ⟨wt, hwt, _, hwf⟩ := trod_float Tryd.underlying22 k3
  obtain ⟨us, n3, _, _, _, hlen3, hg3⟩ := DataW.trod_struct Tryd.underlying66 k2
  have m0 : DataW.trod enc Tryd.prog W 0 (fun _ => true) true n3 4 (List.take (Tryd.prog.cellsOf 4) (List.drop 0 _)) = us[0]? := hg3 0 _ rfl
  rw [cells4] at m0
  change DataW.trod enc Tryd.prog W 0 (fun _ => true) true n3 4 [c4] = _ at m0
  have m1 : DataW.trod enc Tryd.prog W 0 (fun _ => true) true n3 64 (List.take (Tryd.prog.cellsOf 64) (List.drop 1 _)) = us[1]? := hg3 1 _ rfl
  rw [cells64] at m1
  change DataW.trod enc Tryd.prog W 0 (fun _ => true) true n3 64 [c5, c6, c7, c8, c9, c10, c11, c12, c13, c14, c15, c16, c17, c18, c19, c20] = _ at m1
  obtain ⟨u0, h0⟩ := some_at (i := 0) hlen3 (by decide)
  obtain ⟨u1, h1⟩ := some_at (i := 1) hlen3 (by decide)
  rw [h0] at m0
  rw [h1] at m1
  obtain ⟨v6, hv6, _⟩ := DataW.trod_bool Tryd.underlying4 m0
  obtain ⟨ws, n4, _, _, _, hlen4, hg4⟩ := DataW.trod_array Tryd.underlying64 m1
  have hb : ∀ i, i < 16 → ∃ b : Int, ([c5, c6, c7, c8, c9, c10, c11, c12, c13, c14, c15, c16, c17, c18, c19, c20] : List Value)[i]? = some (.int .u8 b) ∧ 0 ≤ b ∧ b < 256 := by
    intro i hi
    have := hg4 i hi
    obtain ⟨y, hy⟩ := some_at (i := i) hlen4 hi
    rw [hy, cells5, Nat.mul_one] at this
    obtain ⟨b, hb, _, hw⟩ := DataW.trod_int Tryd.underlying5 this
    refine ⟨b, ?_, wf_u8 hw⟩
    have h3 := congrArg (·[0]?) hb
    simpa [List.getElem?_take, List.getElem?_drop] using h3
  obtain ⟨f, hfb⟩ := Deep.choose_lt hb
  have hF : ∀ i, 0 ≤ (if i < 16 then f i else 0) ∧ (if i < 16 then f i else 0) < 256 := by
    intro i
    split
    · rename_i hi; exact (hfb i hi).2
    · omega
  simp only [List.cons.injEq, and_true] at hgen hlife hdone hst hby hwt hv6
  have q0 := (hfb 0 (by decide)).1
  have q1 := (hfb 1 (by decide)).1
  have q2 := (hfb 2 (by decide)).1
  have q3 := (hfb 3 (by decide)).1
  have q4 := (hfb 4 (by decide)).1
  have q5 := (hfb 5 (by decide)).1
  have q6 := (hfb 6 (by decide)).1
  have q7 := (hfb 7 (by decide)).1
  have q8 := (hfb 8 (by decide)).1
  have q9 := (hfb 9 (by decide)).1
  have q10 := (hfb 10 (by decide)).1
  have q11 := (hfb 11 (by decide)).1
  have q12 := (hfb 12 (by decide)).1
  have q13 := (hfb 13 (by decide)).1
  have q14 := (hfb 14 (by decide)).1
  have q15 := (hfb 15 (by decide)).1
  simp only [List.getElem?_cons_zero, List.getElem?_cons_succ, Option.some.injEq] at q0 q1 q2 q3 q4 q5 q6 q7 q8 q9 q10 q11 q12 q13 q14 q15
  subst hgen hlife hdone hst hby hwt hv6 hvo q0 q1 q2 q3 q4 q5 q6 q7 q8 q9 q10 q11 q12 q13 q14 q15
  exact ⟨a, ⟨gen, life, ⟨st, by_, v6, fun i => if i < 16 then f i else 0, wt⟩, vl, done⟩, cap, rfl, ⟨wf_B64 hwf, hF⟩, hvts⟩
set_option maxRecDepth 100000 in
/-- a vote that came in. -/
theorem open_vote {r : Reach} {b0 : Nat} {v : Value} {d : DataW H} {p : List MemPlace} (hv : Value.okWide Tryd.prog W r b0 89 v) (h : DataW.Trod enc Tryd.prog W 0 (fun _ => true) true 89 v d p) :
    ∃ x : Int × Bool, v = votV x ∧ -9223372036854775808 ≤ x.1 ∧ x.1 ≤ 9223372036854775807 := by
  obtain ⟨cs, rfl, hs⟩ := okWide_struct Tryd.underlying89 hv
  obtain ⟨l⟩ := cs
  obtain ⟨fuel, hf⟩ := h
  match l, hs.trans cells89 with
  | [c0, c1], _ =>
    obtain ⟨xs, n, _, hx, _, hlen, hg⟩ := DataW.trod_struct Tryd.underlying89 hf
    have g0 : DataW.trod enc Tryd.prog W 0 (fun _ => true) true n 2 (List.take (Tryd.prog.cellsOf 2) (List.drop 0 _)) = xs[0]? := hg 0 _ rfl
    rw [cells2] at g0
    change DataW.trod enc Tryd.prog W 0 (fun _ => true) true n 2 [c0] = _ at g0
    have g1 : DataW.trod enc Tryd.prog W 0 (fun _ => true) true n 4 (List.take (Tryd.prog.cellsOf 4) (List.drop 1 _)) = xs[1]? := hg 1 _ rfl
    rw [cells4] at g1
    change DataW.trod enc Tryd.prog W 0 (fun _ => true) true n 4 [c1] = _ at g1
    obtain ⟨y0, e0⟩ := some_at (i := 0) hlen (by decide)
    obtain ⟨y1, e1⟩ := some_at (i := 1) hlen (by decide)
    rw [e0] at g0
    rw [e1] at g1
    obtain ⟨b, hb, _, hw⟩ := DataW.trod_int Tryd.underlying2 g0
    obtain ⟨c, hc, _⟩ := DataW.trod_bool Tryd.underlying4 g1
    simp only [List.cons.injEq, and_true] at hb hc
    subst hb hc
    simp only [Lit.wf, Bool.and_eq_true, decide_eq_true_eq] at hw
    exact ⟨(b, c), rfl, hw⟩
end
end Go.Proofs.YtniejpfjbifjkaaDoor

namespace Go.Proofs.YtniejpfjbifjkaaDoor
open Go.RowKit Fl

theorem newV_lv (v u : Int × Bool) : newV v u = lv v u := by
  apply vkey_inj
  rw [lv_key]
  unfold newV
  have h1 : vkey v = 2 * v.1 + if v.2 = true then 0 else 1 := rfl
  have h2 : vkey u = 2 * u.1 + if u.2 = true then 0 else 1 := rfl
  by_cases h : u.1 < v.1 ∨ (v.1 = u.1 ∧ v.2 = false)
  · rw [if_pos h]
    rcases h with h | ⟨h, k⟩
    · rw [h1, h2]; (repeat' split) <;> omega
    · rw [h1, h2, k]; simp; split <;> omega
  · rw [if_neg h]
    rw [h1, h2]
    cases hv : v.2
    · rw [hv] at h
      simp at h ⊢
      split <;> omega
    · rw [hv] at h
      simp at h ⊢
      split <;> omega
theorem later_self {t : Spc} (hw : t.w < INF) : laterOk t t = false := by
  unfold laterOk
  rw [if_neg (by simp), if_neg (by simp)]
  have hc : cmpD t.v6 t.b t.v6 t.b = 0 := by
    unfold cmpD
    rw [if_pos rfl]
    exact lexD_same (fun j _ => rfl)
  rw [if_neg (by rw [hc]; simp)]
  unfold lessF ordF
  rw [ltF_pos (Nat.le_of_lt hw) (Nat.le_of_lt hw), gtF_pos (Nat.le_of_lt hw) (Nat.le_of_lt hw)]
  simp
def RJoinPost (w : World) (x : Rc) (e : Ending) (w' : World) : Prop := ∃ (a' : Option Addr) (c' : Nat), e = .returned (.tuple #[recV x a' x.votes.length c', .int .i64 0]) ∧ w'.ownsRow w.heap.size 89 2 (.slice a' x.votes.length c') x.votes.length (flatV x.votes) ∧ Below w.heap.size w w'
set_option maxRecDepth 100000 in
set_option maxHeartbeats 16000000 in
theorem rjoinC (r s : Rc) (a b : Option Addr) (c d : Nat) (w : World) (hr : Gd r) (hs : Gd s) (hv : Vts w a r.votes) (hu : Vts w b s.votes) (h1 : rcOk r = true) (h2 : rcOk s = true) (hgen : s.gen = r.gen) (hlife : s.life = r.life) (hspec : s.spec = r.spec) :
    Calls Tryd.prog 104 #[recV r a r.votes.length c, recV s b s.votes.length d] w fun e w' => RJoinPost w (joinR r s) e w' := by
  have hS := St.start w
  have hA := fun W (hB : Below w.heap.size w W) => rrightC r a c W hr.N (hv.below hB)
  have hB := fun W (hB : Below w.heap.size w W) => rrightC s b d W hs.N (hu.below hB)
  have hLt := fun W => laterC s.spec r.spec W hs.spec.bytes hr.spec.bytes hs.N.w hr.N.w
  rw [show laterOk s.spec r.spec = false by rw [hspec]; exact later_self hr.spec.w] at hLt
  rw [spcV_row, spcV_row] at hLt
  rw [h1] at hA
  rw [h2] at hB
  have hJ : joinR r s = jn r s := by unfold joinR; rw [if_neg (by omega), if_neg (by omega)]
  have hsp : spj r.spec s.spec = r.spec := by rw [hspec]; exact spj_self _
  have HJ := Lib.hid hJ
  have HSP := Lib.hid hsp
  have e1 : decide (s.gen < r.gen) = false := decide_eq_false (by omega)
  have e2 : decide (r.gen < s.gen) = false := decide_eq_false (by omega)
  have e3 : decide (r.life < s.life) = false := decide_eq_false (by omega)
  have hLF : (if r.life < s.life then s.life else r.life) = r.life := if_neg (by omega)
  have HLF := Lib.hid hLF
  simp only [recV_row] at hA hB ⊢
  have HVR := Lib.hid hv
  have HVS := Lib.hid hu
  clear hv hu hr hs h1 h2 hgen hlife hspec hJ hsp hLF
  go_enter Tryd.func104, Tryd.ntmps104
  go_upto_region 1 with (first
    | (refine st_box hS (by rfl) 71 (.tmp 0) (by rfl) _ (by rfl) ?_; clear hS; intro g2 w1 hS _; (simp only [Act.put, List.setIfInBounds_toArray, List.set_cons_zero, List.set_cons_succ]))
    | (refine st_box hS (by rfl) 71 (.tmp 1) (by rfl) _ (by rfl) ?_; clear hS; intro g3 w2 hS _; (simp only [Act.put, List.setIfInBounds_toArray, List.set_cons_zero, List.set_cons_succ]))
    | (refine st_alloc hS (by rfl) 71 (by rfl) _ zero71 ?_; clear hS; intro g4 w3 hS _; (simp only [Act.put, List.setIfInBounds_toArray, List.set_cons_zero, List.set_cons_succ])))
  go_wp2_with (first
    | go_skip
    | (refine st_load hS 2 (by rfl) 71 (.tmp 2) (by rfl) g2 (by rfl) _ 71 rfl _ Tryd.underlying71 rfl size71 ?_; (simp only [Act.put, List.setIfInBounds_toArray, List.set_cons_zero, List.set_cons_succ]))
    | (refine st_load hS 1 (by rfl) 71 (.tmp 3) (by rfl) g3 (by rfl) _ 71 rfl _ Tryd.underlying71 rfl size71 ?_; (simp only [Act.put, List.setIfInBounds_toArray, List.set_cons_zero, List.set_cons_succ])))
  refine (hA _ hS.below).mono ?_
  rintro e w4 ⟨rfl, hb⟩
  have hS1 := hS.call hb
  clear hS hA hb
  have hS := hS1
  clear hS1
  go_wp2_with (first
    | go_skip
    | (refine st_load hS 2 (by rfl) 71 (.tmp 2) (by rfl) g2 (by rfl) _ 71 rfl _ Tryd.underlying71 rfl size71 ?_; (simp only [Act.put, List.setIfInBounds_toArray, List.set_cons_zero, List.set_cons_succ]))
    | (refine st_load hS 1 (by rfl) 71 (.tmp 3) (by rfl) g3 (by rfl) _ 71 rfl _ Tryd.underlying71 rfl size71 ?_; (simp only [Act.put, List.setIfInBounds_toArray, List.set_cons_zero, List.set_cons_succ])))
  refine (hB _ hS.below).mono ?_
  rintro e w5 ⟨rfl, hb⟩
  have hS1 := hS.call hb
  clear hS hB hb
  have hS := hS1
  clear hS1
  have q1 := cell_gen (hS.row 2 rfl)
  have q2 := cell_gen (hS.row 1 rfl)
  have q3 := cell_life (hS.row 2 rfl)
  have q4 := cell_done (hS.row 2 rfl)
  have q5 := cell_done (hS.row 1 rfl)
  have p1 := range_spec (hS.row 2 rfl)
  go_upto_region 8 with (first
    | (refine st_part (by rfl) 68 (.tmp 35) (by rfl) g2 2 (by rfl) (spRow r.spec) p1 _ Tryd.underlying68 rfl size68 ?_; (simp only [Act.put, List.setIfInBounds_toArray, List.set_cons_zero, List.set_cons_succ]))
    | (refine st_build (by rfl) 71 #[(0, .tmp 32), (1, .tmp 34), (2, .tmp 36), (4, .tmp 41)] (by rfl) (rcRow ⟨r.gen, r.life, r.spec, [], bits BinOp.or .i64 r.done s.done⟩ none 0 0) (by kernel_rfl) ?_; (simp only [Act.put, List.setIfInBounds_toArray, List.set_cons_zero, List.set_cons_succ]))
    | (refine st_alloc hS (by rfl) 71 (by rfl) _ zero71 ?_; clear hS; intro g6 w7 hS _; (simp only [Act.put, List.setIfInBounds_toArray, List.set_cons_zero, List.set_cons_succ]))
    | (refine st_store hS 0 (by rfl) 71 (.tmp 6) (.tmp 42) (by rfl) g6 (by rfl) (rcRow ⟨r.gen, r.life, r.spec, [], bits BinOp.or .i64 r.done s.done⟩ none 0 0) (by rfl) _ 71 rfl size71 rfl (one_rcRow _ _ _ _) ?_; clear hS; intro w8 hS; (simp only [List.set_cons_zero] at hS); (simp only [Act.put])))
  clear q1 q2 q3 q4 q5 p1
  have q3 := cell_life (hS.row 3 rfl)
  have q4 := cell_life (hS.row 2 rfl)
  have p1 := range_spec (hS.row 3 rfl)
  have p2 := range_spec (hS.row 2 rfl)
  go_wp2_with (first
    | (refine st_part (by rfl) 68 (.tmp 51) (by rfl) g3 2 (by rfl) (spRow s.spec) p2 _ Tryd.underlying68 rfl size68 ?_; (simp only [Act.put, List.setIfInBounds_toArray, List.set_cons_zero, List.set_cons_succ]))
    | (refine st_part (by rfl) 68 (.tmp 53) (by rfl) g2 2 (by rfl) (spRow r.spec) p1 _ Tryd.underlying68 rfl size68 ?_; (simp only [Act.put, List.setIfInBounds_toArray, List.set_cons_zero, List.set_cons_succ])))
  refine (hLt _).mono ?_
  rintro e w9 ⟨rfl, hb⟩
  have hS1 := hS.call hb
  clear hS hb hLt p1 p2 q3 q4
  have hS := hS1
  clear hS1
  go_wp2_with fail
  have m1 := HVR.out.1
  have m2 := HVS.out.1
  obtain ⟨N, hN⟩ : ∃ N : Nat, N = max r.votes.length s.votes.length := ⟨_, rfl⟩
  have HN := Lib.hid hN
  have hNb : N ≤ 8796093022208 := by omega
  clear hN
  go_loopw [7] (fun i wr => ∃ (k : Nat) (aV : Option Addr) (cV : Nat), k ≤ N ∧ i = .int .i64 k ∧ wr.ownsRow w.heap.size 89 2 (.slice aV k cV) k (flatV (votesTo r.votes s.votes k)) ∧ St w wr [(g6, rcRow ⟨r.gen, r.life, r.spec, [], bits BinOp.or .i64 r.done s.done⟩ aV k cV, 71), (g4, rcRow zRc none 0 0, 71), (g3, rcRow s b s.votes.length d, 71), (g2, rcRow r a r.votes.length c, 71)]) (fun i _ => N - (intOf i).toNat)
  case atStart => exact ⟨0, none, 0, Nat.zero_le _, rfl, World.ownsRow_nil _ _ _ _, hS⟩
  case round =>
    clear hS
    obtain ⟨k, aV, cV, hkN, rfl, hown, hS⟩ := hrel
    have q1 := cell_votes (hS.row 3 rfl)
    have q2 := cell_votes (hS.row 2 rfl)
    by_cases hlt : k < N
    · have hcR := fun (W : World) (hW : Below w.heap.size w W) => rvoteC r a c k W (HVR.out.below hW)
      have hcS := fun (W : World) (hW : Below w.heap.size w W) => rvoteC s b d k W (HVS.out.below hW)
      have hcL : ∀ W, Calls Tryd.prog 124 #[votV (r.votes.getD k vt0), votV (s.votes.getD k vt0)] W fun e w' => e = .returned (votV (lv (r.votes.getD k vt0) (s.votes.getD k vt0))) ∧ Below W.heap.size W w' := fun W => by
        rw [← newV_lv]; exact newerC _ _ W
      have HV : Hid (votesTo r.votes s.votes (k + 1) = votesTo r.votes s.votes k ++ [lv (r.votes.getD k vt0) (s.votes.getD k vt0)]) := Lib.hid (votesTo_succ _ _ _)
      simp only [recV_row, votV_row] at hcR hcS hcL
      have HM2 := Lib.hid hkN
      have HK := HN.out
      by_cases hka : k < r.votes.length
      · have f1 : decide (k < r.votes.length) = true := decide_eq_true hka
        clear HK hka
        generalize r.votes.getD k vt0 = v at *
        generalize s.votes.getD k vt0 = u at *
        go_upto_region 15 with fail
        clear q1 q2 f1
        have hS2 := hS.drew
        have hown4 := hown.drew
        have row2 := hS2.row 3 rfl
        have row3 := hS2.row 2 rfl
        refine wp_region_held (S := fun W => W.heap[g2]? = some (.cells (rcRow r a r.votes.length c) 71 (0, 0)) ∧ W.heap[g3]? = some (.cells (rcRow s b s.votes.length d) 71 (0, 0))) (by kernel_rfl) ?_
        change wpAnyH Tryd.prog .any _ _ _ (12 + 1) (Array.replicate 13 false) _ wr.drew
        clear hS hown
        generalize wr.drew = w15 at *
        refine takeH 0 (some 73) rfl rfl (by kernel_rfl) (by kernel_rfl) (by kernel_rfl) (fun _ _ _ h => h) (v := .pointer (some ⟨g6, 22, none⟩)) (.inl ⟨by rfl, fun w _ => rfl⟩) ⟨row2, row3⟩ ?_
        (simp only [Act.put, List.setIfInBounds_toArray, List.set_cons_zero, List.set_cons_succ])
        refine takeH 2 (some 75) rfl rfl (by kernel_rfl) (by kernel_rfl) (by kernel_rfl) (fun _ _ _ h => h) (yields_row (by rfl) 71 (.tmp 2) (by rfl) g2 (by rfl) (rcRow r a r.votes.length c) 71 (fun _ h => h.1) _ Tryd.underlying71 rfl size71) ⟨row2, row3⟩ ?_
        (simp only [Act.put, List.setIfInBounds_toArray, List.set_cons_zero, List.set_cons_succ])
        refine takeH 3 (some 76) rfl rfl (by kernel_rfl) (by kernel_rfl) (by kernel_rfl) (fun _ _ _ h => h) (v := .int .i64 k) (.inl ⟨by rfl, fun w _ => rfl⟩) ⟨row2, row3⟩ ?_
        (simp only [Act.put, List.setIfInBounds_toArray, List.set_cons_zero, List.set_cons_succ])
        refine takeH 5 (some 78) rfl rfl (by kernel_rfl) (by kernel_rfl) (by kernel_rfl) (fun _ _ _ h => h) (yields_row (by rfl) 71 (.tmp 3) (by rfl) g3 (by rfl) (rcRow s b s.votes.length d) 71 (fun _ h => h.2) _ Tryd.underlying71 rfl size71) ⟨row2, row3⟩ ?_
        (simp only [Act.put, List.setIfInBounds_toArray, List.set_cons_zero, List.set_cons_succ])
        refine takeH 6 (some 79) rfl rfl (by kernel_rfl) (by kernel_rfl) (by kernel_rfl) (fun _ _ _ h => h) (v := .int .i64 k) (.inl ⟨by rfl, fun w _ => rfl⟩) ⟨row2, row3⟩ ?_
        (simp only [Act.put, List.setIfInBounds_toArray, List.set_cons_zero, List.set_cons_succ])
        refine wpAnyH_all (rs := [1, 4]) (by kernel_rfl) (by simp) ?_
        intro i hi
        have hi' : i = 1 ∨ i = 4 := by simpa using hi
        clear hi
        rcases hi' with rfl | rfl
        · refine wpOp_val (some 74) rfl rfl (by kernel_rfl) (run_load1 _ _ _ 69 (.tmp 73) rfl ⟨g6, 22, none⟩ (by rfl) (.slice aV k cV) (cell_votes (hS2.row 0 rfl)) agg69) ?_
          refine ⟨⟨hS2.row 3 rfl, hS2.row 2 rfl⟩, ?_⟩
          (simp only [Act.put, List.setIfInBounds_toArray, List.set_cons_zero, List.set_cons_succ])
          refine wpAnyH_all (rs := [4]) (by kernel_rfl) (by simp) ?_
          intro i hi
          obtain rfl : i = 4 := by simpa using hi
          clear hi
          refine wpOp_call (some 77) rfl rfl (by kernel_rfl) (run_callv _ _ _ 106 [.tmp 75, .tmp 76] _ rfl Tryd.call106 [.agg (rcRow r a r.votes.length c), .int .i64 k] (by rfl)) (hcR _ hS2.below) ?_
          intro w21 hb22
          have hS23 := hS2.call hb22
          have ho24 := own_below hown4 hb22
          refine ⟨⟨hS23.row 3 rfl, hS23.row 2 rfl⟩, ?_⟩
          (simp only [Act.put, List.setIfInBounds_toArray, List.set_cons_zero, List.set_cons_succ])
          refine wpAnyH_all (rs := [7]) (by kernel_rfl) (by simp) ?_
          intro i hi
          obtain rfl : i = 7 := by simpa using hi
          clear hi
          refine wpOp_call (some 80) rfl rfl (by kernel_rfl) (run_callv _ _ _ 106 [.tmp 78, .tmp 79] _ rfl Tryd.call106 [.agg (rcRow s b s.votes.length d), .int .i64 k] (by rfl)) (hcS _ hS23.below) ?_
          intro w25 hb26
          have hS27 := hS23.call hb26
          have ho28 := own_below ho24 hb26
          refine ⟨⟨hS27.row 3 rfl, hS27.row 2 rfl⟩, ?_⟩
          (simp only [Act.put, List.setIfInBounds_toArray, List.set_cons_zero, List.set_cons_succ])
          refine wpAnyH_all (rs := [8]) (by kernel_rfl) (by simp) ?_
          intro i hi
          obtain rfl : i = 8 := by simpa using hi
          clear hi
          refine wpOp_call (some 81) rfl rfl (by kernel_rfl) (run_callv _ _ _ 124 [.tmp 77, .tmp 80] _ rfl Tryd.call124 [.agg (vtRow v), .agg (vtRow u)] (by rfl)) (hcL _) ?_
          intro w29 hb30
          have hS31 := hS27.call hb30
          have ho32 := own_below ho28 hb30
          refine ⟨⟨hS31.row 3 rfl, hS31.row 2 rfl⟩, ?_⟩
          (simp only [Act.put, List.setIfInBounds_toArray, List.set_cons_zero, List.set_cons_succ])
          refine wpAnyH_all (rs := [9]) (by kernel_rfl) (by simp) ?_
          intro i hi
          obtain rfl : i = 9 := by simpa using hi
          clear hi
          refine wpOp_val (some 82) rfl rfl (by kernel_rfl) (run_bsliceG vk69 _ _ _ (.tmp 81) rfl (lv v u) (by rfl)) ?_
          have hS33 := hS31.alloc (vtRow (lv v u)) 89
          have ho34 := own_below ho32 ((Below.refl _ _).alloc (Nat.le_refl _) (.cells (vtRow (lv v u)) 89))
          refine ⟨⟨hS33.row 4 rfl, hS33.row 3 rfl⟩, ?_⟩
          (simp only [Act.put, List.setIfInBounds_toArray, List.set_cons_zero, List.set_cons_succ])
          generalize w29.heap.size = gN at *
          generalize w29.alloc (.cells (vtRow (lv v u)) 89) = w35 at *
          refine wpAnyH_all (rs := [10]) (by kernel_rfl) (by simp) ?_
          intro i hi
          obtain rfl : i = 10 := by simpa using hi
          clear hi
          refine wpOp_appendG vk69 (some 83) rfl rfl (by kernel_rfl) (.tmp 74) (.tmp 82) rfl w.heap.size k (.slice aV k cV) _ (by rfl) ho34 gN (lv v u) (by rfl) (hS33.row 0 rfl) (by have := HM2.out; omega) hS33.below.size ?_
          intro a' c' w36 ho38 hg39
          have hS37 := hS33.drop _ (List.sublist_cons_self _ _)
          have hS40 := hS37.grown hg39 (fun j hj => (ho34.lt j hj).1) (by
            intro x hx
            simp only [List.mem_cons, List.not_mem_nil, or_false] at hx
            rcases hx with rfl | rfl | rfl | rfl
            · exact own_ne ho34 (hS37.row 0 rfl) (by decide)
            · exact own_ne ho34 (hS37.row 1 rfl) (by decide)
            · exact own_ne ho34 (hS37.row 2 rfl) (by decide)
            · exact own_ne ho34 (hS37.row 3 rfl) (by decide))
          refine ⟨⟨hS40.row 3 rfl, hS40.row 2 rfl⟩, ?_⟩
          (simp only [Act.put, List.setIfInBounds_toArray, List.set_cons_zero, List.set_cons_succ])
          refine wpAnyH_all (rs := [11]) (by kernel_rfl) (by simp) ?_
          intro i hi
          obtain rfl : i = 11 := by simpa using hi
          clear hi
          refine wpOp_val (some 84) rfl rfl (by kernel_rfl) (v := .pointer (some ⟨g6, 22, none⟩)) (by rfl) ?_
          refine ⟨⟨hS40.row 3 rfl, hS40.row 2 rfl⟩, ?_⟩
          (simp only [Act.put, List.setIfInBounds_toArray, List.set_cons_zero, List.set_cons_succ])
          refine wpAnyH_all (rs := [12]) (by kernel_rfl) (by simp) ?_
          intro i hi
          obtain rfl : i = 12 := by simpa using hi
          clear hi
          refine wpOp_unit none rfl rfl (by kernel_rfl) (run_store1 _ _ _ 69 (.tmp 84) (.tmp 83) rfl g6 22 (by rfl) (.slice a' (k + 1) c') (by rfl) _ 71 (hS40.row 0 rfl) rfl rfl rfl size69) ?_
          have hS41 := hS40.put 0 rfl 22 (.slice a' (k + 1) c')
          have ho42 := own_setCell ho38 (own_ne ho38 (hS40.row 0 rfl) (by decide)) 22 (.slice a' (k + 1) c')
          simp only [List.set_cons_zero, put_votes] at hS41
          refine ⟨⟨hS41.row 3 rfl, hS41.row 2 rfl⟩, ?_⟩
          have HSF := Lib.hid hS41
          have hoF := ho42
          rw [← flatV_snoc, ← HV.out] at hoF
          have HOF := Lib.hid hoF
          refine wpAnyH_done (by kernel_rfl) ?_ _
          simp only [Act.put]
          as_aux_lemma =>
            go_wp2_with fail
            go_roundw
            case rel => exact ⟨k + 1, a', c', by omega, by go_num, HOF.out, HSF.out⟩
            case measure => simp [intOf]; omega
        · refine wpOp_call (some 77) rfl rfl (by kernel_rfl) (run_callv _ _ _ 106 [.tmp 75, .tmp 76] _ rfl Tryd.call106 [.agg (rcRow r a r.votes.length c), .int .i64 k] (by rfl)) (hcR _ hS2.below) ?_
          intro w43 hb44
          have hS45 := hS2.call hb44
          have ho46 := own_below hown4 hb44
          refine ⟨⟨hS45.row 3 rfl, hS45.row 2 rfl⟩, ?_⟩
          (simp only [Act.put, List.setIfInBounds_toArray, List.set_cons_zero, List.set_cons_succ])
          refine wpAnyH_all (rs := [1, 7]) (by kernel_rfl) (by simp) ?_
          intro i hi
          have hi' : i = 1 ∨ i = 7 := by simpa using hi
          clear hi
          rcases hi' with rfl | rfl
          · refine wpOp_val (some 74) rfl rfl (by kernel_rfl) (run_load1 _ _ _ 69 (.tmp 73) rfl ⟨g6, 22, none⟩ (by rfl) (.slice aV k cV) (cell_votes (hS45.row 0 rfl)) agg69) ?_
            refine ⟨⟨hS45.row 3 rfl, hS45.row 2 rfl⟩, ?_⟩
            (simp only [Act.put, List.setIfInBounds_toArray, List.set_cons_zero, List.set_cons_succ])
            refine wpAnyH_all (rs := [7]) (by kernel_rfl) (by simp) ?_
            intro i hi
            obtain rfl : i = 7 := by simpa using hi
            clear hi
            refine wpOp_call (some 80) rfl rfl (by kernel_rfl) (run_callv _ _ _ 106 [.tmp 78, .tmp 79] _ rfl Tryd.call106 [.agg (rcRow s b s.votes.length d), .int .i64 k] (by rfl)) (hcS _ hS45.below) ?_
            intro w47 hb48
            have hS49 := hS45.call hb48
            have ho50 := own_below ho46 hb48
            refine ⟨⟨hS49.row 3 rfl, hS49.row 2 rfl⟩, ?_⟩
            (simp only [Act.put, List.setIfInBounds_toArray, List.set_cons_zero, List.set_cons_succ])
            refine wpAnyH_all (rs := [8]) (by kernel_rfl) (by simp) ?_
            intro i hi
            obtain rfl : i = 8 := by simpa using hi
            clear hi
            refine wpOp_call (some 81) rfl rfl (by kernel_rfl) (run_callv _ _ _ 124 [.tmp 77, .tmp 80] _ rfl Tryd.call124 [.agg (vtRow v), .agg (vtRow u)] (by rfl)) (hcL _) ?_
            intro w51 hb52
            have hS53 := hS49.call hb52
            have ho54 := own_below ho50 hb52
            refine ⟨⟨hS53.row 3 rfl, hS53.row 2 rfl⟩, ?_⟩
            (simp only [Act.put, List.setIfInBounds_toArray, List.set_cons_zero, List.set_cons_succ])
            refine wpAnyH_all (rs := [9]) (by kernel_rfl) (by simp) ?_
            intro i hi
            obtain rfl : i = 9 := by simpa using hi
            clear hi
            refine wpOp_val (some 82) rfl rfl (by kernel_rfl) (run_bsliceG vk69 _ _ _ (.tmp 81) rfl (lv v u) (by rfl)) ?_
            have hS55 := hS53.alloc (vtRow (lv v u)) 89
            have ho56 := own_below ho54 ((Below.refl _ _).alloc (Nat.le_refl _) (.cells (vtRow (lv v u)) 89))
            refine ⟨⟨hS55.row 4 rfl, hS55.row 3 rfl⟩, ?_⟩
            (simp only [Act.put, List.setIfInBounds_toArray, List.set_cons_zero, List.set_cons_succ])
            generalize w51.heap.size = gN at *
            generalize w51.alloc (.cells (vtRow (lv v u)) 89) = w57 at *
            refine wpAnyH_all (rs := [10]) (by kernel_rfl) (by simp) ?_
            intro i hi
            obtain rfl : i = 10 := by simpa using hi
            clear hi
            refine wpOp_appendG vk69 (some 83) rfl rfl (by kernel_rfl) (.tmp 74) (.tmp 82) rfl w.heap.size k (.slice aV k cV) _ (by rfl) ho56 gN (lv v u) (by rfl) (hS55.row 0 rfl) (by have := HM2.out; omega) hS55.below.size ?_
            intro a' c' w58 ho60 hg61
            have hS59 := hS55.drop _ (List.sublist_cons_self _ _)
            have hS62 := hS59.grown hg61 (fun j hj => (ho56.lt j hj).1) (by
              intro x hx
              simp only [List.mem_cons, List.not_mem_nil, or_false] at hx
              rcases hx with rfl | rfl | rfl | rfl
              · exact own_ne ho56 (hS59.row 0 rfl) (by decide)
              · exact own_ne ho56 (hS59.row 1 rfl) (by decide)
              · exact own_ne ho56 (hS59.row 2 rfl) (by decide)
              · exact own_ne ho56 (hS59.row 3 rfl) (by decide))
            refine ⟨⟨hS62.row 3 rfl, hS62.row 2 rfl⟩, ?_⟩
            (simp only [Act.put, List.setIfInBounds_toArray, List.set_cons_zero, List.set_cons_succ])
            refine wpAnyH_all (rs := [11]) (by kernel_rfl) (by simp) ?_
            intro i hi
            obtain rfl : i = 11 := by simpa using hi
            clear hi
            refine wpOp_val (some 84) rfl rfl (by kernel_rfl) (v := .pointer (some ⟨g6, 22, none⟩)) (by rfl) ?_
            refine ⟨⟨hS62.row 3 rfl, hS62.row 2 rfl⟩, ?_⟩
            (simp only [Act.put, List.setIfInBounds_toArray, List.set_cons_zero, List.set_cons_succ])
            refine wpAnyH_all (rs := [12]) (by kernel_rfl) (by simp) ?_
            intro i hi
            obtain rfl : i = 12 := by simpa using hi
            clear hi
            refine wpOp_unit none rfl rfl (by kernel_rfl) (run_store1 _ _ _ 69 (.tmp 84) (.tmp 83) rfl g6 22 (by rfl) (.slice a' (k + 1) c') (by rfl) _ 71 (hS62.row 0 rfl) rfl rfl rfl size69) ?_
            have hS63 := hS62.put 0 rfl 22 (.slice a' (k + 1) c')
            have ho64 := own_setCell ho60 (own_ne ho60 (hS62.row 0 rfl) (by decide)) 22 (.slice a' (k + 1) c')
            simp only [List.set_cons_zero, put_votes] at hS63
            refine ⟨⟨hS63.row 3 rfl, hS63.row 2 rfl⟩, ?_⟩
            have HSF := Lib.hid hS63
            have hoF := ho64
            rw [← flatV_snoc, ← HV.out] at hoF
            have HOF := Lib.hid hoF
            refine wpAnyH_done (by kernel_rfl) ?_ _
            simp only [Act.put]
            as_aux_lemma =>
              go_wp2_with fail
              go_roundw
              case rel => exact ⟨k + 1, a', c', by omega, by go_num, HOF.out, HSF.out⟩
              case measure => simp [intOf]; omega
          · refine wpOp_call (some 80) rfl rfl (by kernel_rfl) (run_callv _ _ _ 106 [.tmp 78, .tmp 79] _ rfl Tryd.call106 [.agg (rcRow s b s.votes.length d), .int .i64 k] (by rfl)) (hcS _ hS45.below) ?_
            intro w65 hb66
            have hS67 := hS45.call hb66
            have ho68 := own_below ho46 hb66
            refine ⟨⟨hS67.row 3 rfl, hS67.row 2 rfl⟩, ?_⟩
            (simp only [Act.put, List.setIfInBounds_toArray, List.set_cons_zero, List.set_cons_succ])
            refine wpAnyH_all (rs := [1, 8]) (by kernel_rfl) (by simp) ?_
            intro i hi
            have hi' : i = 1 ∨ i = 8 := by simpa using hi
            clear hi
            rcases hi' with rfl | rfl
            · refine wpOp_val (some 74) rfl rfl (by kernel_rfl) (run_load1 _ _ _ 69 (.tmp 73) rfl ⟨g6, 22, none⟩ (by rfl) (.slice aV k cV) (cell_votes (hS67.row 0 rfl)) agg69) ?_
              refine ⟨⟨hS67.row 3 rfl, hS67.row 2 rfl⟩, ?_⟩
              (simp only [Act.put, List.setIfInBounds_toArray, List.set_cons_zero, List.set_cons_succ])
              refine wpAnyH_all (rs := [8]) (by kernel_rfl) (by simp) ?_
              intro i hi
              obtain rfl : i = 8 := by simpa using hi
              clear hi
              refine wpOp_call (some 81) rfl rfl (by kernel_rfl) (run_callv _ _ _ 124 [.tmp 77, .tmp 80] _ rfl Tryd.call124 [.agg (vtRow v), .agg (vtRow u)] (by rfl)) (hcL _) ?_
              intro w69 hb70
              have hS71 := hS67.call hb70
              have ho72 := own_below ho68 hb70
              refine ⟨⟨hS71.row 3 rfl, hS71.row 2 rfl⟩, ?_⟩
              (simp only [Act.put, List.setIfInBounds_toArray, List.set_cons_zero, List.set_cons_succ])
              refine wpAnyH_all (rs := [9]) (by kernel_rfl) (by simp) ?_
              intro i hi
              obtain rfl : i = 9 := by simpa using hi
              clear hi
              refine wpOp_val (some 82) rfl rfl (by kernel_rfl) (run_bsliceG vk69 _ _ _ (.tmp 81) rfl (lv v u) (by rfl)) ?_
              have hS73 := hS71.alloc (vtRow (lv v u)) 89
              have ho74 := own_below ho72 ((Below.refl _ _).alloc (Nat.le_refl _) (.cells (vtRow (lv v u)) 89))
              refine ⟨⟨hS73.row 4 rfl, hS73.row 3 rfl⟩, ?_⟩
              (simp only [Act.put, List.setIfInBounds_toArray, List.set_cons_zero, List.set_cons_succ])
              generalize w69.heap.size = gN at *
              generalize w69.alloc (.cells (vtRow (lv v u)) 89) = w75 at *
              refine wpAnyH_all (rs := [10]) (by kernel_rfl) (by simp) ?_
              intro i hi
              obtain rfl : i = 10 := by simpa using hi
              clear hi
              refine wpOp_appendG vk69 (some 83) rfl rfl (by kernel_rfl) (.tmp 74) (.tmp 82) rfl w.heap.size k (.slice aV k cV) _ (by rfl) ho74 gN (lv v u) (by rfl) (hS73.row 0 rfl) (by have := HM2.out; omega) hS73.below.size ?_
              intro a' c' w76 ho78 hg79
              have hS77 := hS73.drop _ (List.sublist_cons_self _ _)
              have hS80 := hS77.grown hg79 (fun j hj => (ho74.lt j hj).1) (by
                intro x hx
                simp only [List.mem_cons, List.not_mem_nil, or_false] at hx
                rcases hx with rfl | rfl | rfl | rfl
                · exact own_ne ho74 (hS77.row 0 rfl) (by decide)
                · exact own_ne ho74 (hS77.row 1 rfl) (by decide)
                · exact own_ne ho74 (hS77.row 2 rfl) (by decide)
                · exact own_ne ho74 (hS77.row 3 rfl) (by decide))
              refine ⟨⟨hS80.row 3 rfl, hS80.row 2 rfl⟩, ?_⟩
              (simp only [Act.put, List.setIfInBounds_toArray, List.set_cons_zero, List.set_cons_succ])
              refine wpAnyH_all (rs := [11]) (by kernel_rfl) (by simp) ?_
              intro i hi
              obtain rfl : i = 11 := by simpa using hi
              clear hi
              refine wpOp_val (some 84) rfl rfl (by kernel_rfl) (v := .pointer (some ⟨g6, 22, none⟩)) (by rfl) ?_
              refine ⟨⟨hS80.row 3 rfl, hS80.row 2 rfl⟩, ?_⟩
              (simp only [Act.put, List.setIfInBounds_toArray, List.set_cons_zero, List.set_cons_succ])
              refine wpAnyH_all (rs := [12]) (by kernel_rfl) (by simp) ?_
              intro i hi
              obtain rfl : i = 12 := by simpa using hi
              clear hi
              refine wpOp_unit none rfl rfl (by kernel_rfl) (run_store1 _ _ _ 69 (.tmp 84) (.tmp 83) rfl g6 22 (by rfl) (.slice a' (k + 1) c') (by rfl) _ 71 (hS80.row 0 rfl) rfl rfl rfl size69) ?_
              have hS81 := hS80.put 0 rfl 22 (.slice a' (k + 1) c')
              have ho82 := own_setCell ho78 (own_ne ho78 (hS80.row 0 rfl) (by decide)) 22 (.slice a' (k + 1) c')
              simp only [List.set_cons_zero, put_votes] at hS81
              refine ⟨⟨hS81.row 3 rfl, hS81.row 2 rfl⟩, ?_⟩
              have HSF := Lib.hid hS81
              have hoF := ho82
              rw [← flatV_snoc, ← HV.out] at hoF
              have HOF := Lib.hid hoF
              refine wpAnyH_done (by kernel_rfl) ?_ _
              simp only [Act.put]
              as_aux_lemma =>
                go_wp2_with fail
                go_roundw
                case rel => exact ⟨k + 1, a', c', by omega, by go_num, HOF.out, HSF.out⟩
                case measure => simp [intOf]; omega
            · refine wpOp_call (some 81) rfl rfl (by kernel_rfl) (run_callv _ _ _ 124 [.tmp 77, .tmp 80] _ rfl Tryd.call124 [.agg (vtRow v), .agg (vtRow u)] (by rfl)) (hcL _) ?_
              intro w83 hb84
              have hS85 := hS67.call hb84
              have ho86 := own_below ho68 hb84
              refine ⟨⟨hS85.row 3 rfl, hS85.row 2 rfl⟩, ?_⟩
              (simp only [Act.put, List.setIfInBounds_toArray, List.set_cons_zero, List.set_cons_succ])
              refine wpAnyH_all (rs := [1, 9]) (by kernel_rfl) (by simp) ?_
              intro i hi
              have hi' : i = 1 ∨ i = 9 := by simpa using hi
              clear hi
              rcases hi' with rfl | rfl
              · refine wpOp_val (some 74) rfl rfl (by kernel_rfl) (run_load1 _ _ _ 69 (.tmp 73) rfl ⟨g6, 22, none⟩ (by rfl) (.slice aV k cV) (cell_votes (hS85.row 0 rfl)) agg69) ?_
                refine ⟨⟨hS85.row 3 rfl, hS85.row 2 rfl⟩, ?_⟩
                (simp only [Act.put, List.setIfInBounds_toArray, List.set_cons_zero, List.set_cons_succ])
                refine wpAnyH_all (rs := [9]) (by kernel_rfl) (by simp) ?_
                intro i hi
                obtain rfl : i = 9 := by simpa using hi
                clear hi
                refine wpOp_val (some 82) rfl rfl (by kernel_rfl) (run_bsliceG vk69 _ _ _ (.tmp 81) rfl (lv v u) (by rfl)) ?_
                have hS87 := hS85.alloc (vtRow (lv v u)) 89
                have ho88 := own_below ho86 ((Below.refl _ _).alloc (Nat.le_refl _) (.cells (vtRow (lv v u)) 89))
                refine ⟨⟨hS87.row 4 rfl, hS87.row 3 rfl⟩, ?_⟩
                (simp only [Act.put, List.setIfInBounds_toArray, List.set_cons_zero, List.set_cons_succ])
                generalize w83.heap.size = gN at *
                generalize w83.alloc (.cells (vtRow (lv v u)) 89) = w89 at *
                refine wpAnyH_all (rs := [10]) (by kernel_rfl) (by simp) ?_
                intro i hi
                obtain rfl : i = 10 := by simpa using hi
                clear hi
                refine wpOp_appendG vk69 (some 83) rfl rfl (by kernel_rfl) (.tmp 74) (.tmp 82) rfl w.heap.size k (.slice aV k cV) _ (by rfl) ho88 gN (lv v u) (by rfl) (hS87.row 0 rfl) (by have := HM2.out; omega) hS87.below.size ?_
                intro a' c' w90 ho92 hg93
                have hS91 := hS87.drop _ (List.sublist_cons_self _ _)
                have hS94 := hS91.grown hg93 (fun j hj => (ho88.lt j hj).1) (by
                  intro x hx
                  simp only [List.mem_cons, List.not_mem_nil, or_false] at hx
                  rcases hx with rfl | rfl | rfl | rfl
                  · exact own_ne ho88 (hS91.row 0 rfl) (by decide)
                  · exact own_ne ho88 (hS91.row 1 rfl) (by decide)
                  · exact own_ne ho88 (hS91.row 2 rfl) (by decide)
                  · exact own_ne ho88 (hS91.row 3 rfl) (by decide))
                refine ⟨⟨hS94.row 3 rfl, hS94.row 2 rfl⟩, ?_⟩
                (simp only [Act.put, List.setIfInBounds_toArray, List.set_cons_zero, List.set_cons_succ])
                refine wpAnyH_all (rs := [11]) (by kernel_rfl) (by simp) ?_
                intro i hi
                obtain rfl : i = 11 := by simpa using hi
                clear hi
                refine wpOp_val (some 84) rfl rfl (by kernel_rfl) (v := .pointer (some ⟨g6, 22, none⟩)) (by rfl) ?_
                refine ⟨⟨hS94.row 3 rfl, hS94.row 2 rfl⟩, ?_⟩
                (simp only [Act.put, List.setIfInBounds_toArray, List.set_cons_zero, List.set_cons_succ])
                refine wpAnyH_all (rs := [12]) (by kernel_rfl) (by simp) ?_
                intro i hi
                obtain rfl : i = 12 := by simpa using hi
                clear hi
                refine wpOp_unit none rfl rfl (by kernel_rfl) (run_store1 _ _ _ 69 (.tmp 84) (.tmp 83) rfl g6 22 (by rfl) (.slice a' (k + 1) c') (by rfl) _ 71 (hS94.row 0 rfl) rfl rfl rfl size69) ?_
                have hS95 := hS94.put 0 rfl 22 (.slice a' (k + 1) c')
                have ho96 := own_setCell ho92 (own_ne ho92 (hS94.row 0 rfl) (by decide)) 22 (.slice a' (k + 1) c')
                simp only [List.set_cons_zero, put_votes] at hS95
                refine ⟨⟨hS95.row 3 rfl, hS95.row 2 rfl⟩, ?_⟩
                have HSF := Lib.hid hS95
                have hoF := ho96
                rw [← flatV_snoc, ← HV.out] at hoF
                have HOF := Lib.hid hoF
                refine wpAnyH_done (by kernel_rfl) ?_ _
                simp only [Act.put]
                as_aux_lemma =>
                  go_wp2_with fail
                  go_roundw
                  case rel => exact ⟨k + 1, a', c', by omega, by go_num, HOF.out, HSF.out⟩
                  case measure => simp [intOf]; omega
              · refine wpOp_val (some 82) rfl rfl (by kernel_rfl) (run_bsliceG vk69 _ _ _ (.tmp 81) rfl (lv v u) (by rfl)) ?_
                have hS97 := hS85.alloc (vtRow (lv v u)) 89
                have ho98 := own_below ho86 ((Below.refl _ _).alloc (Nat.le_refl _) (.cells (vtRow (lv v u)) 89))
                refine ⟨⟨hS97.row 4 rfl, hS97.row 3 rfl⟩, ?_⟩
                (simp only [Act.put, List.setIfInBounds_toArray, List.set_cons_zero, List.set_cons_succ])
                generalize w83.heap.size = gN at *
                generalize w83.alloc (.cells (vtRow (lv v u)) 89) = w99 at *
                refine wpAnyH_all (rs := [1]) (by kernel_rfl) (by simp) ?_
                intro i hi
                obtain rfl : i = 1 := by simpa using hi
                clear hi
                refine wpOp_val (some 74) rfl rfl (by kernel_rfl) (run_load1 _ _ _ 69 (.tmp 73) rfl ⟨g6, 22, none⟩ (by rfl) (.slice aV k cV) (cell_votes (hS97.row 1 rfl)) agg69) ?_
                refine ⟨⟨hS97.row 4 rfl, hS97.row 3 rfl⟩, ?_⟩
                (simp only [Act.put, List.setIfInBounds_toArray, List.set_cons_zero, List.set_cons_succ])
                refine wpAnyH_all (rs := [10]) (by kernel_rfl) (by simp) ?_
                intro i hi
                obtain rfl : i = 10 := by simpa using hi
                clear hi
                refine wpOp_appendG vk69 (some 83) rfl rfl (by kernel_rfl) (.tmp 74) (.tmp 82) rfl w.heap.size k (.slice aV k cV) _ (by rfl) ho98 gN (lv v u) (by rfl) (hS97.row 0 rfl) (by have := HM2.out; omega) hS97.below.size ?_
                intro a' c' w100 ho102 hg103
                have hS101 := hS97.drop _ (List.sublist_cons_self _ _)
                have hS104 := hS101.grown hg103 (fun j hj => (ho98.lt j hj).1) (by
                  intro x hx
                  simp only [List.mem_cons, List.not_mem_nil, or_false] at hx
                  rcases hx with rfl | rfl | rfl | rfl
                  · exact own_ne ho98 (hS101.row 0 rfl) (by decide)
                  · exact own_ne ho98 (hS101.row 1 rfl) (by decide)
                  · exact own_ne ho98 (hS101.row 2 rfl) (by decide)
                  · exact own_ne ho98 (hS101.row 3 rfl) (by decide))
                refine ⟨⟨hS104.row 3 rfl, hS104.row 2 rfl⟩, ?_⟩
                (simp only [Act.put, List.setIfInBounds_toArray, List.set_cons_zero, List.set_cons_succ])
                refine wpAnyH_all (rs := [11]) (by kernel_rfl) (by simp) ?_
                intro i hi
                obtain rfl : i = 11 := by simpa using hi
                clear hi
                refine wpOp_val (some 84) rfl rfl (by kernel_rfl) (v := .pointer (some ⟨g6, 22, none⟩)) (by rfl) ?_
                refine ⟨⟨hS104.row 3 rfl, hS104.row 2 rfl⟩, ?_⟩
                (simp only [Act.put, List.setIfInBounds_toArray, List.set_cons_zero, List.set_cons_succ])
                refine wpAnyH_all (rs := [12]) (by kernel_rfl) (by simp) ?_
                intro i hi
                obtain rfl : i = 12 := by simpa using hi
                clear hi
                refine wpOp_unit none rfl rfl (by kernel_rfl) (run_store1 _ _ _ 69 (.tmp 84) (.tmp 83) rfl g6 22 (by rfl) (.slice a' (k + 1) c') (by rfl) _ 71 (hS104.row 0 rfl) rfl rfl rfl size69) ?_
                have hS105 := hS104.put 0 rfl 22 (.slice a' (k + 1) c')
                have ho106 := own_setCell ho102 (own_ne ho102 (hS104.row 0 rfl) (by decide)) 22 (.slice a' (k + 1) c')
                simp only [List.set_cons_zero, put_votes] at hS105
                refine ⟨⟨hS105.row 3 rfl, hS105.row 2 rfl⟩, ?_⟩
                have HSF := Lib.hid hS105
                have hoF := ho106
                rw [← flatV_snoc, ← HV.out] at hoF
                have HOF := Lib.hid hoF
                refine wpAnyH_done (by kernel_rfl) ?_ _
                simp only [Act.put]
                as_aux_lemma =>
                  go_wp2_with fail
                  go_roundw
                  case rel => exact ⟨k + 1, a', c', by omega, by go_num, HOF.out, HSF.out⟩
                  case measure => simp [intOf]; omega
      · have f1 : decide (k < r.votes.length) = false := decide_eq_false hka
        have f2 : decide (k < s.votes.length) = true := decide_eq_true (by omega)
        clear HK hka
        generalize r.votes.getD k vt0 = v at *
        generalize s.votes.getD k vt0 = u at *
        go_upto_region 15 with fail
        clear q1 q2 f1 f2
        have hS2 := hS.drew
        have hown4 := hown.drew
        have row2 := hS2.row 3 rfl
        have row3 := hS2.row 2 rfl
        refine wp_region_held (S := fun W => W.heap[g2]? = some (.cells (rcRow r a r.votes.length c) 71 (0, 0)) ∧ W.heap[g3]? = some (.cells (rcRow s b s.votes.length d) 71 (0, 0))) (by kernel_rfl) ?_
        change wpAnyH Tryd.prog .any _ _ _ (12 + 1) (Array.replicate 13 false) _ wr.drew
        clear hS hown
        generalize wr.drew = w15 at *
        refine takeH 0 (some 73) rfl rfl (by kernel_rfl) (by kernel_rfl) (by kernel_rfl) (fun _ _ _ h => h) (v := .pointer (some ⟨g6, 22, none⟩)) (.inl ⟨by rfl, fun w _ => rfl⟩) ⟨row2, row3⟩ ?_
        (simp only [Act.put, List.setIfInBounds_toArray, List.set_cons_zero, List.set_cons_succ])
        refine takeH 2 (some 75) rfl rfl (by kernel_rfl) (by kernel_rfl) (by kernel_rfl) (fun _ _ _ h => h) (yields_row (by rfl) 71 (.tmp 2) (by rfl) g2 (by rfl) (rcRow r a r.votes.length c) 71 (fun _ h => h.1) _ Tryd.underlying71 rfl size71) ⟨row2, row3⟩ ?_
        (simp only [Act.put, List.setIfInBounds_toArray, List.set_cons_zero, List.set_cons_succ])
        refine takeH 3 (some 76) rfl rfl (by kernel_rfl) (by kernel_rfl) (by kernel_rfl) (fun _ _ _ h => h) (v := .int .i64 k) (.inl ⟨by rfl, fun w _ => rfl⟩) ⟨row2, row3⟩ ?_
        (simp only [Act.put, List.setIfInBounds_toArray, List.set_cons_zero, List.set_cons_succ])
        refine takeH 5 (some 78) rfl rfl (by kernel_rfl) (by kernel_rfl) (by kernel_rfl) (fun _ _ _ h => h) (yields_row (by rfl) 71 (.tmp 3) (by rfl) g3 (by rfl) (rcRow s b s.votes.length d) 71 (fun _ h => h.2) _ Tryd.underlying71 rfl size71) ⟨row2, row3⟩ ?_
        (simp only [Act.put, List.setIfInBounds_toArray, List.set_cons_zero, List.set_cons_succ])
        refine takeH 6 (some 79) rfl rfl (by kernel_rfl) (by kernel_rfl) (by kernel_rfl) (fun _ _ _ h => h) (v := .int .i64 k) (.inl ⟨by rfl, fun w _ => rfl⟩) ⟨row2, row3⟩ ?_
        (simp only [Act.put, List.setIfInBounds_toArray, List.set_cons_zero, List.set_cons_succ])
        refine wpAnyH_all (rs := [1, 4]) (by kernel_rfl) (by simp) ?_
        intro i hi
        have hi' : i = 1 ∨ i = 4 := by simpa using hi
        clear hi
        rcases hi' with rfl | rfl
        · refine wpOp_val (some 74) rfl rfl (by kernel_rfl) (run_load1 _ _ _ 69 (.tmp 73) rfl ⟨g6, 22, none⟩ (by rfl) (.slice aV k cV) (cell_votes (hS2.row 0 rfl)) agg69) ?_
          refine ⟨⟨hS2.row 3 rfl, hS2.row 2 rfl⟩, ?_⟩
          (simp only [Act.put, List.setIfInBounds_toArray, List.set_cons_zero, List.set_cons_succ])
          refine wpAnyH_all (rs := [4]) (by kernel_rfl) (by simp) ?_
          intro i hi
          obtain rfl : i = 4 := by simpa using hi
          clear hi
          refine wpOp_call (some 77) rfl rfl (by kernel_rfl) (run_callv _ _ _ 106 [.tmp 75, .tmp 76] _ rfl Tryd.call106 [.agg (rcRow r a r.votes.length c), .int .i64 k] (by rfl)) (hcR _ hS2.below) ?_
          intro w21 hb22
          have hS23 := hS2.call hb22
          have ho24 := own_below hown4 hb22
          refine ⟨⟨hS23.row 3 rfl, hS23.row 2 rfl⟩, ?_⟩
          (simp only [Act.put, List.setIfInBounds_toArray, List.set_cons_zero, List.set_cons_succ])
          refine wpAnyH_all (rs := [7]) (by kernel_rfl) (by simp) ?_
          intro i hi
          obtain rfl : i = 7 := by simpa using hi
          clear hi
          refine wpOp_call (some 80) rfl rfl (by kernel_rfl) (run_callv _ _ _ 106 [.tmp 78, .tmp 79] _ rfl Tryd.call106 [.agg (rcRow s b s.votes.length d), .int .i64 k] (by rfl)) (hcS _ hS23.below) ?_
          intro w25 hb26
          have hS27 := hS23.call hb26
          have ho28 := own_below ho24 hb26
          refine ⟨⟨hS27.row 3 rfl, hS27.row 2 rfl⟩, ?_⟩
          (simp only [Act.put, List.setIfInBounds_toArray, List.set_cons_zero, List.set_cons_succ])
          refine wpAnyH_all (rs := [8]) (by kernel_rfl) (by simp) ?_
          intro i hi
          obtain rfl : i = 8 := by simpa using hi
          clear hi
          refine wpOp_call (some 81) rfl rfl (by kernel_rfl) (run_callv _ _ _ 124 [.tmp 77, .tmp 80] _ rfl Tryd.call124 [.agg (vtRow v), .agg (vtRow u)] (by rfl)) (hcL _) ?_
          intro w29 hb30
          have hS31 := hS27.call hb30
          have ho32 := own_below ho28 hb30
          refine ⟨⟨hS31.row 3 rfl, hS31.row 2 rfl⟩, ?_⟩
          (simp only [Act.put, List.setIfInBounds_toArray, List.set_cons_zero, List.set_cons_succ])
          refine wpAnyH_all (rs := [9]) (by kernel_rfl) (by simp) ?_
          intro i hi
          obtain rfl : i = 9 := by simpa using hi
          clear hi
          refine wpOp_val (some 82) rfl rfl (by kernel_rfl) (run_bsliceG vk69 _ _ _ (.tmp 81) rfl (lv v u) (by rfl)) ?_
          have hS33 := hS31.alloc (vtRow (lv v u)) 89
          have ho34 := own_below ho32 ((Below.refl _ _).alloc (Nat.le_refl _) (.cells (vtRow (lv v u)) 89))
          refine ⟨⟨hS33.row 4 rfl, hS33.row 3 rfl⟩, ?_⟩
          (simp only [Act.put, List.setIfInBounds_toArray, List.set_cons_zero, List.set_cons_succ])
          generalize w29.heap.size = gN at *
          generalize w29.alloc (.cells (vtRow (lv v u)) 89) = w35 at *
          refine wpAnyH_all (rs := [10]) (by kernel_rfl) (by simp) ?_
          intro i hi
          obtain rfl : i = 10 := by simpa using hi
          clear hi
          refine wpOp_appendG vk69 (some 83) rfl rfl (by kernel_rfl) (.tmp 74) (.tmp 82) rfl w.heap.size k (.slice aV k cV) _ (by rfl) ho34 gN (lv v u) (by rfl) (hS33.row 0 rfl) (by have := HM2.out; omega) hS33.below.size ?_
          intro a' c' w36 ho38 hg39
          have hS37 := hS33.drop _ (List.sublist_cons_self _ _)
          have hS40 := hS37.grown hg39 (fun j hj => (ho34.lt j hj).1) (by
            intro x hx
            simp only [List.mem_cons, List.not_mem_nil, or_false] at hx
            rcases hx with rfl | rfl | rfl | rfl
            · exact own_ne ho34 (hS37.row 0 rfl) (by decide)
            · exact own_ne ho34 (hS37.row 1 rfl) (by decide)
            · exact own_ne ho34 (hS37.row 2 rfl) (by decide)
            · exact own_ne ho34 (hS37.row 3 rfl) (by decide))
          refine ⟨⟨hS40.row 3 rfl, hS40.row 2 rfl⟩, ?_⟩
          (simp only [Act.put, List.setIfInBounds_toArray, List.set_cons_zero, List.set_cons_succ])
          refine wpAnyH_all (rs := [11]) (by kernel_rfl) (by simp) ?_
          intro i hi
          obtain rfl : i = 11 := by simpa using hi
          clear hi
          refine wpOp_val (some 84) rfl rfl (by kernel_rfl) (v := .pointer (some ⟨g6, 22, none⟩)) (by rfl) ?_
          refine ⟨⟨hS40.row 3 rfl, hS40.row 2 rfl⟩, ?_⟩
          (simp only [Act.put, List.setIfInBounds_toArray, List.set_cons_zero, List.set_cons_succ])
          refine wpAnyH_all (rs := [12]) (by kernel_rfl) (by simp) ?_
          intro i hi
          obtain rfl : i = 12 := by simpa using hi
          clear hi
          refine wpOp_unit none rfl rfl (by kernel_rfl) (run_store1 _ _ _ 69 (.tmp 84) (.tmp 83) rfl g6 22 (by rfl) (.slice a' (k + 1) c') (by rfl) _ 71 (hS40.row 0 rfl) rfl rfl rfl size69) ?_
          have hS41 := hS40.put 0 rfl 22 (.slice a' (k + 1) c')
          have ho42 := own_setCell ho38 (own_ne ho38 (hS40.row 0 rfl) (by decide)) 22 (.slice a' (k + 1) c')
          simp only [List.set_cons_zero, put_votes] at hS41
          refine ⟨⟨hS41.row 3 rfl, hS41.row 2 rfl⟩, ?_⟩
          have HSF := Lib.hid hS41
          have hoF := ho42
          rw [← flatV_snoc, ← HV.out] at hoF
          have HOF := Lib.hid hoF
          refine wpAnyH_done (by kernel_rfl) ?_ _
          simp only [Act.put]
          as_aux_lemma =>
            go_wp2_with fail
            go_roundw
            case rel => exact ⟨k + 1, a', c', by omega, by go_num, HOF.out, HSF.out⟩
            case measure => simp [intOf]; omega
        · refine wpOp_call (some 77) rfl rfl (by kernel_rfl) (run_callv _ _ _ 106 [.tmp 75, .tmp 76] _ rfl Tryd.call106 [.agg (rcRow r a r.votes.length c), .int .i64 k] (by rfl)) (hcR _ hS2.below) ?_
          intro w43 hb44
          have hS45 := hS2.call hb44
          have ho46 := own_below hown4 hb44
          refine ⟨⟨hS45.row 3 rfl, hS45.row 2 rfl⟩, ?_⟩
          (simp only [Act.put, List.setIfInBounds_toArray, List.set_cons_zero, List.set_cons_succ])
          refine wpAnyH_all (rs := [1, 7]) (by kernel_rfl) (by simp) ?_
          intro i hi
          have hi' : i = 1 ∨ i = 7 := by simpa using hi
          clear hi
          rcases hi' with rfl | rfl
          · refine wpOp_val (some 74) rfl rfl (by kernel_rfl) (run_load1 _ _ _ 69 (.tmp 73) rfl ⟨g6, 22, none⟩ (by rfl) (.slice aV k cV) (cell_votes (hS45.row 0 rfl)) agg69) ?_
            refine ⟨⟨hS45.row 3 rfl, hS45.row 2 rfl⟩, ?_⟩
            (simp only [Act.put, List.setIfInBounds_toArray, List.set_cons_zero, List.set_cons_succ])
            refine wpAnyH_all (rs := [7]) (by kernel_rfl) (by simp) ?_
            intro i hi
            obtain rfl : i = 7 := by simpa using hi
            clear hi
            refine wpOp_call (some 80) rfl rfl (by kernel_rfl) (run_callv _ _ _ 106 [.tmp 78, .tmp 79] _ rfl Tryd.call106 [.agg (rcRow s b s.votes.length d), .int .i64 k] (by rfl)) (hcS _ hS45.below) ?_
            intro w47 hb48
            have hS49 := hS45.call hb48
            have ho50 := own_below ho46 hb48
            refine ⟨⟨hS49.row 3 rfl, hS49.row 2 rfl⟩, ?_⟩
            (simp only [Act.put, List.setIfInBounds_toArray, List.set_cons_zero, List.set_cons_succ])
            refine wpAnyH_all (rs := [8]) (by kernel_rfl) (by simp) ?_
            intro i hi
            obtain rfl : i = 8 := by simpa using hi
            clear hi
            refine wpOp_call (some 81) rfl rfl (by kernel_rfl) (run_callv _ _ _ 124 [.tmp 77, .tmp 80] _ rfl Tryd.call124 [.agg (vtRow v), .agg (vtRow u)] (by rfl)) (hcL _) ?_
            intro w51 hb52
            have hS53 := hS49.call hb52
            have ho54 := own_below ho50 hb52
            refine ⟨⟨hS53.row 3 rfl, hS53.row 2 rfl⟩, ?_⟩
            (simp only [Act.put, List.setIfInBounds_toArray, List.set_cons_zero, List.set_cons_succ])
            refine wpAnyH_all (rs := [9]) (by kernel_rfl) (by simp) ?_
            intro i hi
            obtain rfl : i = 9 := by simpa using hi
            clear hi
            refine wpOp_val (some 82) rfl rfl (by kernel_rfl) (run_bsliceG vk69 _ _ _ (.tmp 81) rfl (lv v u) (by rfl)) ?_
            have hS55 := hS53.alloc (vtRow (lv v u)) 89
            have ho56 := own_below ho54 ((Below.refl _ _).alloc (Nat.le_refl _) (.cells (vtRow (lv v u)) 89))
            refine ⟨⟨hS55.row 4 rfl, hS55.row 3 rfl⟩, ?_⟩
            (simp only [Act.put, List.setIfInBounds_toArray, List.set_cons_zero, List.set_cons_succ])
            generalize w51.heap.size = gN at *
            generalize w51.alloc (.cells (vtRow (lv v u)) 89) = w57 at *
            refine wpAnyH_all (rs := [10]) (by kernel_rfl) (by simp) ?_
            intro i hi
            obtain rfl : i = 10 := by simpa using hi
            clear hi
            refine wpOp_appendG vk69 (some 83) rfl rfl (by kernel_rfl) (.tmp 74) (.tmp 82) rfl w.heap.size k (.slice aV k cV) _ (by rfl) ho56 gN (lv v u) (by rfl) (hS55.row 0 rfl) (by have := HM2.out; omega) hS55.below.size ?_
            intro a' c' w58 ho60 hg61
            have hS59 := hS55.drop _ (List.sublist_cons_self _ _)
            have hS62 := hS59.grown hg61 (fun j hj => (ho56.lt j hj).1) (by
              intro x hx
              simp only [List.mem_cons, List.not_mem_nil, or_false] at hx
              rcases hx with rfl | rfl | rfl | rfl
              · exact own_ne ho56 (hS59.row 0 rfl) (by decide)
              · exact own_ne ho56 (hS59.row 1 rfl) (by decide)
              · exact own_ne ho56 (hS59.row 2 rfl) (by decide)
              · exact own_ne ho56 (hS59.row 3 rfl) (by decide))
            refine ⟨⟨hS62.row 3 rfl, hS62.row 2 rfl⟩, ?_⟩
            (simp only [Act.put, List.setIfInBounds_toArray, List.set_cons_zero, List.set_cons_succ])
            refine wpAnyH_all (rs := [11]) (by kernel_rfl) (by simp) ?_
            intro i hi
            obtain rfl : i = 11 := by simpa using hi
            clear hi
            refine wpOp_val (some 84) rfl rfl (by kernel_rfl) (v := .pointer (some ⟨g6, 22, none⟩)) (by rfl) ?_
            refine ⟨⟨hS62.row 3 rfl, hS62.row 2 rfl⟩, ?_⟩
            (simp only [Act.put, List.setIfInBounds_toArray, List.set_cons_zero, List.set_cons_succ])
            refine wpAnyH_all (rs := [12]) (by kernel_rfl) (by simp) ?_
            intro i hi
            obtain rfl : i = 12 := by simpa using hi
            clear hi
            refine wpOp_unit none rfl rfl (by kernel_rfl) (run_store1 _ _ _ 69 (.tmp 84) (.tmp 83) rfl g6 22 (by rfl) (.slice a' (k + 1) c') (by rfl) _ 71 (hS62.row 0 rfl) rfl rfl rfl size69) ?_
            have hS63 := hS62.put 0 rfl 22 (.slice a' (k + 1) c')
            have ho64 := own_setCell ho60 (own_ne ho60 (hS62.row 0 rfl) (by decide)) 22 (.slice a' (k + 1) c')
            simp only [List.set_cons_zero, put_votes] at hS63
            refine ⟨⟨hS63.row 3 rfl, hS63.row 2 rfl⟩, ?_⟩
            have HSF := Lib.hid hS63
            have hoF := ho64
            rw [← flatV_snoc, ← HV.out] at hoF
            have HOF := Lib.hid hoF
            refine wpAnyH_done (by kernel_rfl) ?_ _
            simp only [Act.put]
            as_aux_lemma =>
              go_wp2_with fail
              go_roundw
              case rel => exact ⟨k + 1, a', c', by omega, by go_num, HOF.out, HSF.out⟩
              case measure => simp [intOf]; omega
          · refine wpOp_call (some 80) rfl rfl (by kernel_rfl) (run_callv _ _ _ 106 [.tmp 78, .tmp 79] _ rfl Tryd.call106 [.agg (rcRow s b s.votes.length d), .int .i64 k] (by rfl)) (hcS _ hS45.below) ?_
            intro w65 hb66
            have hS67 := hS45.call hb66
            have ho68 := own_below ho46 hb66
            refine ⟨⟨hS67.row 3 rfl, hS67.row 2 rfl⟩, ?_⟩
            (simp only [Act.put, List.setIfInBounds_toArray, List.set_cons_zero, List.set_cons_succ])
            refine wpAnyH_all (rs := [1, 8]) (by kernel_rfl) (by simp) ?_
            intro i hi
            have hi' : i = 1 ∨ i = 8 := by simpa using hi
            clear hi
            rcases hi' with rfl | rfl
            · refine wpOp_val (some 74) rfl rfl (by kernel_rfl) (run_load1 _ _ _ 69 (.tmp 73) rfl ⟨g6, 22, none⟩ (by rfl) (.slice aV k cV) (cell_votes (hS67.row 0 rfl)) agg69) ?_
              refine ⟨⟨hS67.row 3 rfl, hS67.row 2 rfl⟩, ?_⟩
              (simp only [Act.put, List.setIfInBounds_toArray, List.set_cons_zero, List.set_cons_succ])
              refine wpAnyH_all (rs := [8]) (by kernel_rfl) (by simp) ?_
              intro i hi
              obtain rfl : i = 8 := by simpa using hi
              clear hi
              refine wpOp_call (some 81) rfl rfl (by kernel_rfl) (run_callv _ _ _ 124 [.tmp 77, .tmp 80] _ rfl Tryd.call124 [.agg (vtRow v), .agg (vtRow u)] (by rfl)) (hcL _) ?_
              intro w69 hb70
              have hS71 := hS67.call hb70
              have ho72 := own_below ho68 hb70
              refine ⟨⟨hS71.row 3 rfl, hS71.row 2 rfl⟩, ?_⟩
              (simp only [Act.put, List.setIfInBounds_toArray, List.set_cons_zero, List.set_cons_succ])
              refine wpAnyH_all (rs := [9]) (by kernel_rfl) (by simp) ?_
              intro i hi
              obtain rfl : i = 9 := by simpa using hi
              clear hi
              refine wpOp_val (some 82) rfl rfl (by kernel_rfl) (run_bsliceG vk69 _ _ _ (.tmp 81) rfl (lv v u) (by rfl)) ?_
              have hS73 := hS71.alloc (vtRow (lv v u)) 89
              have ho74 := own_below ho72 ((Below.refl _ _).alloc (Nat.le_refl _) (.cells (vtRow (lv v u)) 89))
              refine ⟨⟨hS73.row 4 rfl, hS73.row 3 rfl⟩, ?_⟩
              (simp only [Act.put, List.setIfInBounds_toArray, List.set_cons_zero, List.set_cons_succ])
              generalize w69.heap.size = gN at *
              generalize w69.alloc (.cells (vtRow (lv v u)) 89) = w75 at *
              refine wpAnyH_all (rs := [10]) (by kernel_rfl) (by simp) ?_
              intro i hi
              obtain rfl : i = 10 := by simpa using hi
              clear hi
              refine wpOp_appendG vk69 (some 83) rfl rfl (by kernel_rfl) (.tmp 74) (.tmp 82) rfl w.heap.size k (.slice aV k cV) _ (by rfl) ho74 gN (lv v u) (by rfl) (hS73.row 0 rfl) (by have := HM2.out; omega) hS73.below.size ?_
              intro a' c' w76 ho78 hg79
              have hS77 := hS73.drop _ (List.sublist_cons_self _ _)
              have hS80 := hS77.grown hg79 (fun j hj => (ho74.lt j hj).1) (by
                intro x hx
                simp only [List.mem_cons, List.not_mem_nil, or_false] at hx
                rcases hx with rfl | rfl | rfl | rfl
                · exact own_ne ho74 (hS77.row 0 rfl) (by decide)
                · exact own_ne ho74 (hS77.row 1 rfl) (by decide)
                · exact own_ne ho74 (hS77.row 2 rfl) (by decide)
                · exact own_ne ho74 (hS77.row 3 rfl) (by decide))
              refine ⟨⟨hS80.row 3 rfl, hS80.row 2 rfl⟩, ?_⟩
              (simp only [Act.put, List.setIfInBounds_toArray, List.set_cons_zero, List.set_cons_succ])
              refine wpAnyH_all (rs := [11]) (by kernel_rfl) (by simp) ?_
              intro i hi
              obtain rfl : i = 11 := by simpa using hi
              clear hi
              refine wpOp_val (some 84) rfl rfl (by kernel_rfl) (v := .pointer (some ⟨g6, 22, none⟩)) (by rfl) ?_
              refine ⟨⟨hS80.row 3 rfl, hS80.row 2 rfl⟩, ?_⟩
              (simp only [Act.put, List.setIfInBounds_toArray, List.set_cons_zero, List.set_cons_succ])
              refine wpAnyH_all (rs := [12]) (by kernel_rfl) (by simp) ?_
              intro i hi
              obtain rfl : i = 12 := by simpa using hi
              clear hi
              refine wpOp_unit none rfl rfl (by kernel_rfl) (run_store1 _ _ _ 69 (.tmp 84) (.tmp 83) rfl g6 22 (by rfl) (.slice a' (k + 1) c') (by rfl) _ 71 (hS80.row 0 rfl) rfl rfl rfl size69) ?_
              have hS81 := hS80.put 0 rfl 22 (.slice a' (k + 1) c')
              have ho82 := own_setCell ho78 (own_ne ho78 (hS80.row 0 rfl) (by decide)) 22 (.slice a' (k + 1) c')
              simp only [List.set_cons_zero, put_votes] at hS81
              refine ⟨⟨hS81.row 3 rfl, hS81.row 2 rfl⟩, ?_⟩
              have HSF := Lib.hid hS81
              have hoF := ho82
              rw [← flatV_snoc, ← HV.out] at hoF
              have HOF := Lib.hid hoF
              refine wpAnyH_done (by kernel_rfl) ?_ _
              simp only [Act.put]
              as_aux_lemma =>
                go_wp2_with fail
                go_roundw
                case rel => exact ⟨k + 1, a', c', by omega, by go_num, HOF.out, HSF.out⟩
                case measure => simp [intOf]; omega
            · refine wpOp_call (some 81) rfl rfl (by kernel_rfl) (run_callv _ _ _ 124 [.tmp 77, .tmp 80] _ rfl Tryd.call124 [.agg (vtRow v), .agg (vtRow u)] (by rfl)) (hcL _) ?_
              intro w83 hb84
              have hS85 := hS67.call hb84
              have ho86 := own_below ho68 hb84
              refine ⟨⟨hS85.row 3 rfl, hS85.row 2 rfl⟩, ?_⟩
              (simp only [Act.put, List.setIfInBounds_toArray, List.set_cons_zero, List.set_cons_succ])
              refine wpAnyH_all (rs := [1, 9]) (by kernel_rfl) (by simp) ?_
              intro i hi
              have hi' : i = 1 ∨ i = 9 := by simpa using hi
              clear hi
              rcases hi' with rfl | rfl
              · refine wpOp_val (some 74) rfl rfl (by kernel_rfl) (run_load1 _ _ _ 69 (.tmp 73) rfl ⟨g6, 22, none⟩ (by rfl) (.slice aV k cV) (cell_votes (hS85.row 0 rfl)) agg69) ?_
                refine ⟨⟨hS85.row 3 rfl, hS85.row 2 rfl⟩, ?_⟩
                (simp only [Act.put, List.setIfInBounds_toArray, List.set_cons_zero, List.set_cons_succ])
                refine wpAnyH_all (rs := [9]) (by kernel_rfl) (by simp) ?_
                intro i hi
                obtain rfl : i = 9 := by simpa using hi
                clear hi
                refine wpOp_val (some 82) rfl rfl (by kernel_rfl) (run_bsliceG vk69 _ _ _ (.tmp 81) rfl (lv v u) (by rfl)) ?_
                have hS87 := hS85.alloc (vtRow (lv v u)) 89
                have ho88 := own_below ho86 ((Below.refl _ _).alloc (Nat.le_refl _) (.cells (vtRow (lv v u)) 89))
                refine ⟨⟨hS87.row 4 rfl, hS87.row 3 rfl⟩, ?_⟩
                (simp only [Act.put, List.setIfInBounds_toArray, List.set_cons_zero, List.set_cons_succ])
                generalize w83.heap.size = gN at *
                generalize w83.alloc (.cells (vtRow (lv v u)) 89) = w89 at *
                refine wpAnyH_all (rs := [10]) (by kernel_rfl) (by simp) ?_
                intro i hi
                obtain rfl : i = 10 := by simpa using hi
                clear hi
                refine wpOp_appendG vk69 (some 83) rfl rfl (by kernel_rfl) (.tmp 74) (.tmp 82) rfl w.heap.size k (.slice aV k cV) _ (by rfl) ho88 gN (lv v u) (by rfl) (hS87.row 0 rfl) (by have := HM2.out; omega) hS87.below.size ?_
                intro a' c' w90 ho92 hg93
                have hS91 := hS87.drop _ (List.sublist_cons_self _ _)
                have hS94 := hS91.grown hg93 (fun j hj => (ho88.lt j hj).1) (by
                  intro x hx
                  simp only [List.mem_cons, List.not_mem_nil, or_false] at hx
                  rcases hx with rfl | rfl | rfl | rfl
                  · exact own_ne ho88 (hS91.row 0 rfl) (by decide)
                  · exact own_ne ho88 (hS91.row 1 rfl) (by decide)
                  · exact own_ne ho88 (hS91.row 2 rfl) (by decide)
                  · exact own_ne ho88 (hS91.row 3 rfl) (by decide))
                refine ⟨⟨hS94.row 3 rfl, hS94.row 2 rfl⟩, ?_⟩
                (simp only [Act.put, List.setIfInBounds_toArray, List.set_cons_zero, List.set_cons_succ])
                refine wpAnyH_all (rs := [11]) (by kernel_rfl) (by simp) ?_
                intro i hi
                obtain rfl : i = 11 := by simpa using hi
                clear hi
                refine wpOp_val (some 84) rfl rfl (by kernel_rfl) (v := .pointer (some ⟨g6, 22, none⟩)) (by rfl) ?_
                refine ⟨⟨hS94.row 3 rfl, hS94.row 2 rfl⟩, ?_⟩
                (simp only [Act.put, List.setIfInBounds_toArray, List.set_cons_zero, List.set_cons_succ])
                refine wpAnyH_all (rs := [12]) (by kernel_rfl) (by simp) ?_
                intro i hi
                obtain rfl : i = 12 := by simpa using hi
                clear hi
                refine wpOp_unit none rfl rfl (by kernel_rfl) (run_store1 _ _ _ 69 (.tmp 84) (.tmp 83) rfl g6 22 (by rfl) (.slice a' (k + 1) c') (by rfl) _ 71 (hS94.row 0 rfl) rfl rfl rfl size69) ?_
                have hS95 := hS94.put 0 rfl 22 (.slice a' (k + 1) c')
                have ho96 := own_setCell ho92 (own_ne ho92 (hS94.row 0 rfl) (by decide)) 22 (.slice a' (k + 1) c')
                simp only [List.set_cons_zero, put_votes] at hS95
                refine ⟨⟨hS95.row 3 rfl, hS95.row 2 rfl⟩, ?_⟩
                have HSF := Lib.hid hS95
                have hoF := ho96
                rw [← flatV_snoc, ← HV.out] at hoF
                have HOF := Lib.hid hoF
                refine wpAnyH_done (by kernel_rfl) ?_ _
                simp only [Act.put]
                as_aux_lemma =>
                  go_wp2_with fail
                  go_roundw
                  case rel => exact ⟨k + 1, a', c', by omega, by go_num, HOF.out, HSF.out⟩
                  case measure => simp [intOf]; omega
              · refine wpOp_val (some 82) rfl rfl (by kernel_rfl) (run_bsliceG vk69 _ _ _ (.tmp 81) rfl (lv v u) (by rfl)) ?_
                have hS97 := hS85.alloc (vtRow (lv v u)) 89
                have ho98 := own_below ho86 ((Below.refl _ _).alloc (Nat.le_refl _) (.cells (vtRow (lv v u)) 89))
                refine ⟨⟨hS97.row 4 rfl, hS97.row 3 rfl⟩, ?_⟩
                (simp only [Act.put, List.setIfInBounds_toArray, List.set_cons_zero, List.set_cons_succ])
                generalize w83.heap.size = gN at *
                generalize w83.alloc (.cells (vtRow (lv v u)) 89) = w99 at *
                refine wpAnyH_all (rs := [1]) (by kernel_rfl) (by simp) ?_
                intro i hi
                obtain rfl : i = 1 := by simpa using hi
                clear hi
                refine wpOp_val (some 74) rfl rfl (by kernel_rfl) (run_load1 _ _ _ 69 (.tmp 73) rfl ⟨g6, 22, none⟩ (by rfl) (.slice aV k cV) (cell_votes (hS97.row 1 rfl)) agg69) ?_
                refine ⟨⟨hS97.row 4 rfl, hS97.row 3 rfl⟩, ?_⟩
                (simp only [Act.put, List.setIfInBounds_toArray, List.set_cons_zero, List.set_cons_succ])
                refine wpAnyH_all (rs := [10]) (by kernel_rfl) (by simp) ?_
                intro i hi
                obtain rfl : i = 10 := by simpa using hi
                clear hi
                refine wpOp_appendG vk69 (some 83) rfl rfl (by kernel_rfl) (.tmp 74) (.tmp 82) rfl w.heap.size k (.slice aV k cV) _ (by rfl) ho98 gN (lv v u) (by rfl) (hS97.row 0 rfl) (by have := HM2.out; omega) hS97.below.size ?_
                intro a' c' w100 ho102 hg103
                have hS101 := hS97.drop _ (List.sublist_cons_self _ _)
                have hS104 := hS101.grown hg103 (fun j hj => (ho98.lt j hj).1) (by
                  intro x hx
                  simp only [List.mem_cons, List.not_mem_nil, or_false] at hx
                  rcases hx with rfl | rfl | rfl | rfl
                  · exact own_ne ho98 (hS101.row 0 rfl) (by decide)
                  · exact own_ne ho98 (hS101.row 1 rfl) (by decide)
                  · exact own_ne ho98 (hS101.row 2 rfl) (by decide)
                  · exact own_ne ho98 (hS101.row 3 rfl) (by decide))
                refine ⟨⟨hS104.row 3 rfl, hS104.row 2 rfl⟩, ?_⟩
                (simp only [Act.put, List.setIfInBounds_toArray, List.set_cons_zero, List.set_cons_succ])
                refine wpAnyH_all (rs := [11]) (by kernel_rfl) (by simp) ?_
                intro i hi
                obtain rfl : i = 11 := by simpa using hi
                clear hi
                refine wpOp_val (some 84) rfl rfl (by kernel_rfl) (v := .pointer (some ⟨g6, 22, none⟩)) (by rfl) ?_
                refine ⟨⟨hS104.row 3 rfl, hS104.row 2 rfl⟩, ?_⟩
                (simp only [Act.put, List.setIfInBounds_toArray, List.set_cons_zero, List.set_cons_succ])
                refine wpAnyH_all (rs := [12]) (by kernel_rfl) (by simp) ?_
                intro i hi
                obtain rfl : i = 12 := by simpa using hi
                clear hi
                refine wpOp_unit none rfl rfl (by kernel_rfl) (run_store1 _ _ _ 69 (.tmp 84) (.tmp 83) rfl g6 22 (by rfl) (.slice a' (k + 1) c') (by rfl) _ 71 (hS104.row 0 rfl) rfl rfl rfl size69) ?_
                have hS105 := hS104.put 0 rfl 22 (.slice a' (k + 1) c')
                have ho106 := own_setCell ho102 (own_ne ho102 (hS104.row 0 rfl) (by decide)) 22 (.slice a' (k + 1) c')
                simp only [List.set_cons_zero, put_votes] at hS105
                refine ⟨⟨hS105.row 3 rfl, hS105.row 2 rfl⟩, ?_⟩
                have HSF := Lib.hid hS105
                have hoF := ho106
                rw [← flatV_snoc, ← HV.out] at hoF
                have HOF := Lib.hid hoF
                refine wpAnyH_done (by kernel_rfl) ?_ _
                simp only [Act.put]
                as_aux_lemma =>
                  go_wp2_with fail
                  go_roundw
                  case rel => exact ⟨k + 1, a', c', by omega, by go_num, HOF.out, HSF.out⟩
                  case measure => simp [intOf]; omega
    · obtain rfl : k = N := by omega
      have f1 : decide (k < r.votes.length) = false := decide_eq_false (by have := HN.out; omega)
      have f2 : decide (k < s.votes.length) = false := decide_eq_false (by have := HN.out; omega)
      have hne := own_ne hown (hS.row 1 rfl) (by decide)
      have HO := Lib.hid hown
      clear hown
      go_wp2_with (first
        | (refine st_load hS 0 (by rfl) 71 (.tmp 6) (by rfl) g6 (by rfl) _ 71 rfl _ Tryd.underlying71 rfl size71 ?_; (simp only [Act.put, List.setIfInBounds_toArray, List.set_cons_zero, List.set_cons_succ]))
        | (refine st_storeE hS 1 (by rfl) 71 (.tmp 4) (.tmp 85) (by rfl) g4 (by rfl) (rcRow ⟨r.gen, r.life, r.spec, [], bits BinOp.or .i64 r.done s.done⟩ aV k cV) (by rfl) _ 71 rfl size71 rfl (one_rcRow _ _ _ _) ?_; clear hS; intro w11 hS HE; (simp only [List.set_cons_zero, List.set_cons_succ] at hS); (simp only [Act.put])))
      have HB := hS.below
      have hrow := hS.row 1 rfl
      have HO2 := own_setRow HO.out hne (rcRow ⟨r.gen, r.life, r.spec, [], bits BinOp.or .i64 r.done s.done⟩ aV k cV)
      rw [← HE.out] at HO2
      refine bodyPost_ret (res_cell_tmp rfl _ _ g4 71 _ _ _ rfl hrow Tryd.underlying71 rfl size71 _ rfl) rfl ?_
      have hx : joinR r s = ⟨r.gen, r.life, r.spec, votesTo r.votes s.votes k, bits BinOp.or .i64 r.done s.done⟩ := by
        rw [HJ.out]; unfold jn; rw [HLF.out, HSP.out, ← HN.out]
      rw [hx]
      refine ⟨aV, cV, ?_, ?_, HB⟩
      · rw [votesTo_len]; rfl
      · show World.ownsRow _ _ _ _ (.slice aV (votesTo r.votes s.votes k).length cV) (votesTo r.votes s.votes k).length _
        rw [votesTo_len]; exact HO2
end Go.Proofs.YtniejpfjbifjkaaDoor

namespace Go.Proofs.YtniejpfjbifjkaaDoor
open Go.RowKit Fl

theorem built71 : Tryd.prog.built 71 [] = some (rcRow zRc none 0 0) := by kernel_rfl
theorem built89 : Tryd.prog.built 89 [] = some (vtRow vt0) := by kernel_rfl
/-- owned votes of the reference's are votes. -/
theorem vts_own89 {w : World} {B : Nat} {a : Option Addr} {c : Nat} {l : List (Int × Bool)} (h : w.ownsRow B 89 2 (.slice a l.length c) l.length (flatV l)) (hl : l.length ≤ 8796093022208) : Vts w a l := by
  refine ⟨hl, fun i hi => ?_⟩
  rcases h.2 with ⟨_, hn⟩ | ⟨g, cap, cur, hv, _, hg, _, _, _, htake⟩
  · omega
  · obtain ⟨h1, h2⟩ := flatV_get l i hi
    injection hv with ha _ _
    subst ha
    refine ⟨g, 0, rfl, ?_, ?_⟩
    · rw [show 0 + i * 2 = i * 2 by omega, cell_of_row w g (i * 2) cur 89 (0, 0) hg, ← Array.getElem?_toList]
      rw [← htake, List.getElem?_take_of_lt (by omega)] at h1
      exact h1
    · rw [show 0 + i * 2 + 1 = i * 2 + 1 by omega, cell_of_row w g (i * 2 + 1) cur 89 (0, 0) hg, ← Array.getElem?_toList]
      rw [← htake, List.getElem?_take_of_lt (by omega)] at h2
      exact h2
def voteRec (r : Rc) (k : Nat) (v : Int × Bool) : Rc := ⟨r.gen, r.life, r.spec, List.replicate k vt0 ++ [v], 0⟩
theorem voteRec_Gd {r : Rc} (hr : Gd r) (k : Nat) (v : Int × Bool) : Gd (voteRec r k v) := ⟨hr.spec, by show (0 : Int) ≤ 0 ∧ (0 : Int) ≤ 65535; omega⟩
theorem voteRec_ok {r : Rc} {k : Nat} {v : Int × Bool} (h : rcOk r = true) (hg : r.gen ≠ 0) (hk : k < 16) (hv : 1 ≤ v.1) (hs : stampOk v.1 = true) : rcOk (voteRec r k v) = true := by
  have h0 := withVote_ok h hg hk hv hs
  unfold rcOk at h0 ⊢
  rw [if_neg (show ¬ (withVote r k v).gen = 0 from hg)] at h0
  rw [if_neg (show ¬ (voteRec r k v).gen = 0 from hg)]
  unfold someOk at h0 ⊢
  simp only [Bool.and_eq_true, Bool.not_eq_true', decide_eq_false_iff_not] at h0 ⊢
  obtain ⟨h1, h2, h3, h4, h5, h6, h7, h8, h9⟩ := h0
  exact ⟨h1, h2, h3, h4, h5, by show ¬ (0 : Int) < 0; omega, by show ¬ (65535 : Int) < 0; omega, h8, h9⟩
theorem voteRec_join {r : Rc} (hr : Gd r) (k : Nat) (v : Int × Bool) : joinR r (voteRec r k v) = votedR r k v := by
  rw [votedR_eq hr]
  unfold joinR
  rw [if_neg (by show ¬ r.gen < r.gen; omega), if_neg (by show ¬ r.gen < r.gen; omega)]
  refine rc_ext rfl ?_ (spj_self _) ?_ ?_
  · show (if r.life < r.life then r.life else r.life) = r.life
    split <;> rfl
  · show votesTo _ _ _ = votesTo _ _ _
    congr 1
    simp [voteRec]
  · show bits BinOp.or .i64 r.done 0 = r.done
    rw [bits_or hr.done (by omega)]
    have := hr.done
    simp
    omega
section
variable {ops : Array Oper} {rest : List Oper} {o : Oper} {a : Act} {w : World} {Q : Exit → Act → World → Prop} {w0 : World} {m : List Ent} {ty e : TypeId}
theorem st_bsliceG (hk : VK ty e) (hSt : St w0 w m) (hw : Region.wanted o (yielded ops a.tmps) = true) (x : Operand) (ho : o.op = .buildSlice ty 1 #[(0, x)]) (v : Int × Bool) (hx : a.eval x = .agg (vtRow v))
    (h : ∀ g w1, St w0 w1 ((g, vtRow v, e) :: m) → Below w.heap.size w w1 → wpList Tryd.prog ops Q rest (a.put o.dst (.slice (some ⟨g, 0, none⟩) 1 1)) w1) : wpList Tryd.prog ops Q (o :: rest) a w :=
  wpList_val hw (run_bsliceG hk w a.eval o x ho v hx) (h _ _ (hSt.alloc _ _) ((Below.refl _ _).alloc (Nat.le_refl _) _))
theorem st_appendG (hk : VK ty e) {g : Nat} {z' : Array Value} {t' : TypeId} (hSt : St w0 w ((g, z', t') :: m)) (hw : Region.wanted o (yielded ops a.tmps) = true) (s x : Operand) (ho : o.op = .call { callee := .builtin .append, args := #[s, x], argTypes := #[ty, ty] }) (n : Nat) (v : Value) (xs : List Value)
    (hs : a.eval s = v) {B : Nat} (hown : w.ownsRow B e 2 v n xs) (hB : w0.heap.size ≤ B) (g' : Nat) (z : Int × Bool) (hx : a.eval x = .slice (some ⟨g, 0, none⟩) 1 1) (hz : (g, z', t') = (g', vtRow z, e)) (hgs : ∀ y ∈ m.map (·.1), y < B) (hn : n ≤ 8796093022207 ∧ B ≤ w.heap.size)
    (h : ∀ a' c' w1, St w0 w1 m → w1.ownsRow B e 2 (.slice a' (n + 1) c') (n + 1) (xs ++ [.int .i64 z.1, .bool z.2]) → wpList Tryd.prog ops Q rest (a.put o.dst (.slice a' (n + 1) c')) w1) : wpList Tryd.prog ops Q (o :: rest) a w := by
  cases hz
  have hrow := hSt.row 0 rfl
  refine wpList_step fun K hK => ?_
  rw [if_pos hw]
  obtain ⟨ie, hie, hzz, hsz, hb⟩ := info_parts hk.hi
  refine wp_append_own w s x ty ho B e ie _ 2 16 hk.hu hie hzz hsz hb rfl (by decide) v n xs hs hown ⟨g, 0, none⟩ 1 1 [.int .i64 z.1, .bool z.2] hx rfl ?_ ?_ (by unfold maxLen; omega) (by omega) hn.2 ?_
  · intro j u hj
    have hadd : (⟨g, 0, none⟩ : Addr).add j = ⟨g, j, none⟩ := by unfold Addr.add; split <;> simp_all
    rw [hadd, cell_of_row w g j _ e (0, 0) hrow]
    exact (by simpa [vtRow] using hj)
  · intro u hu
    simp only [List.mem_cons, List.not_mem_nil, or_false] at hu
    rcases hu with rfl | rfl <;> rfl
  · intro v' w' h1 h2 _
    obtain ⟨a', c', rfl⟩ := own_shape h1
    refine hK _ _ (h a' c' w' ?_ h1)
    refine (hSt.drop m (List.sublist_cons_self _ _)).grown h2 (fun j hj => by have := (hown.lt j hj).1; omega) ?_
    intro y hy he
    have := (hown.lt y.1 he.symm).1
    have := hgs y.1 (List.mem_map_of_mem hy)
    omega
theorem st_putO {B : Nat} {n : Nat} {u : Value} {xs : List Value} {e : TypeId} (hown : w.ownsRow B e 2 u n xs) {P : Program} {ops : Array Oper} {rest : List Oper} {o : Oper} {a : Act} {Q : Exit → Act → World → Prop} (hSt : St w0 w m) (k : Nat) (hw : Region.wanted o (yielded ops a.tmps) = true) (ty : TypeId) (x y : Operand) (ho : o.op = .store ty x y) (g off : Nat) (hx : a.eval x = .pointer (some ⟨g, off, none⟩)) (v : Value) (hy : a.eval y = v)
    (cs : Array Value) (t : TypeId) (hk : m[k]? = some (g, cs, t)) (ht : t ≠ e) (hoff : Nat.blt off cs.size = true) (hv : v.cells = #[v]) (h1 : v.oneCell' = true) (hi : (P.info? ty).map (·.size) = some 1)
    (h : ∀ w1, St w0 w1 (m.set k (g, cs.setIfInBounds off v, t)) → w1.ownsRow B e 2 u n xs → wpList P ops Q rest (a.put o.dst undef) w1) : wpList P ops Q (o :: rest) a w := by
  refine wpList_unit hw (w' := w.setCell ⟨g, off, none⟩ v) ?_ (h _ (hSt.put k hk off v) (own_setCell hown (own_ne hown (hSt.row k hk) ht) off v))
  unfold execOp
  simp only [ho, hx, hy, Instr.storeAt, Instr.sureAddr, Sem.run_bind, Sem.run_pure, Result.andThen_ok, run_put w ty g off v cs t (hSt.row k hk) (Nat.le_of_ble_eq_true hoff) hv h1 hi]
end
set_option maxRecDepth 100000 in
set_option maxHeartbeats 8000000 in
theorem rvoted_bad (r : Rc) (a : Option Addr) (c : Nat) (n : Int) (v : Int × Bool) (w : World) (hr : RcN r) (hv : Vts w a r.votes) (hbad : votedOk r n v = false) :
    Calls Tryd.prog 69 #[recV r a r.votes.length c, .int .i64 n, votV v] w fun e w' => e = .returned (.tuple #[recV zRc none 0 0, .int .i64 1]) ∧ Below w.heap.size w w' := by
  have hS := St.start w
  have hA := fun (W : World) (hB : Below w.heap.size w W) => rrightC r a c W hr (hv.below hB)
  have hst := fun W => rstampC v.1 W
  have hcs := voted_cases r n v
  rw [hbad] at hcs
  simp only [recV_row] at hA ⊢
  rw [votV_row]
  clear hv
  rcases hcs with ⟨d1, _⟩ | ⟨d1, ⟨d2, _⟩ | ⟨d2, ⟨d3, _⟩ | ⟨d3, ⟨d4, _⟩ | ⟨d4, d5⟩⟩⟩⟩
  · rw [d1] at hA
    go_enter Tryd.func69, Tryd.ntmps69
    go_wp2_with (first
      | go_skip
      | (refine st_box hS (by rfl) 71 (.tmp 0) (by rfl) _ (by rfl) ?_; clear hS; intro g3 w1 hS _; (simp only [Act.put, List.setIfInBounds_toArray, List.set_cons_zero, List.set_cons_succ]))
      | (refine st_box hS (by rfl) 89 (.tmp 2) (by rfl) _ (by rfl) ?_; clear hS; intro g5 w2 hS _; (simp only [Act.put, List.setIfInBounds_toArray, List.set_cons_zero, List.set_cons_succ]))
      | (refine st_alloc hS (by rfl) 71 (by rfl) _ zero71 ?_; clear hS; intro g6 w3 hS _; (simp only [Act.put, List.setIfInBounds_toArray, List.set_cons_zero, List.set_cons_succ]))
      | (refine st_load hS 2 (by rfl) 71 (.tmp 3) (by rfl) g3 (by rfl) _ 71 rfl _ Tryd.underlying71 rfl size71 ?_; (simp only [Act.put, List.setIfInBounds_toArray, List.set_cons_zero, List.set_cons_succ])))
    refine (hA _ hS.below).mono ?_
    rintro e w4 ⟨rfl, hb⟩
    have hS1 := hS.call hb
    clear hS hb hA
    have hS := hS1
    clear hS1
    have q1 := cell_vote1 (hS.row 1 rfl)
    have q2 := cell_gen (hS.row 2 rfl)
    go_wp2_with (first
      | go_skip
      | (go_at_call 103; refine (hst _).mono ?_; rintro e w' ⟨rfl, rfl⟩)
      | (refine st_build (by rfl) 71 #[] (by rfl) (rcRow zRc none 0 0) built71 ?_; (simp only [Act.put, List.setIfInBounds_toArray, List.set_cons_zero, List.set_cons_succ]))
      | (refine st_store hS 0 (by rfl) 71 (.tmp 6) (.tmp 32) (by rfl) g6 (by rfl) (rcRow zRc none 0 0) (by rfl) _ 71 rfl size71 rfl (one_rcRow _ _ _ _) ?_; clear hS; intro w5 hS; (simp only [List.set_cons_zero] at hS); (simp only [Act.put])))
    have HB := hS.below
    refine bodyPost_ret (res_cell_tmp rfl _ _ g6 71 _ _ _ rfl (hS.row 0 rfl) Tryd.underlying71 rfl size71 _ rfl) rfl ?_
    exact ⟨rfl, HB⟩
  · rw [d1] at hA
    go_enter Tryd.func69, Tryd.ntmps69
    go_wp2_with (first
      | go_skip
      | (refine st_box hS (by rfl) 71 (.tmp 0) (by rfl) _ (by rfl) ?_; clear hS; intro g3 w1 hS _; (simp only [Act.put, List.setIfInBounds_toArray, List.set_cons_zero, List.set_cons_succ]))
      | (refine st_box hS (by rfl) 89 (.tmp 2) (by rfl) _ (by rfl) ?_; clear hS; intro g5 w2 hS _; (simp only [Act.put, List.setIfInBounds_toArray, List.set_cons_zero, List.set_cons_succ]))
      | (refine st_alloc hS (by rfl) 71 (by rfl) _ zero71 ?_; clear hS; intro g6 w3 hS _; (simp only [Act.put, List.setIfInBounds_toArray, List.set_cons_zero, List.set_cons_succ]))
      | (refine st_load hS 2 (by rfl) 71 (.tmp 3) (by rfl) g3 (by rfl) _ 71 rfl _ Tryd.underlying71 rfl size71 ?_; (simp only [Act.put, List.setIfInBounds_toArray, List.set_cons_zero, List.set_cons_succ])))
    refine (hA _ hS.below).mono ?_
    rintro e w4 ⟨rfl, hb⟩
    have hS1 := hS.call hb
    clear hS hb hA
    have hS := hS1
    clear hS1
    have q1 := cell_vote1 (hS.row 1 rfl)
    have q2 := cell_gen (hS.row 2 rfl)
    go_wp2_with (first
      | go_skip
      | (go_at_call 103; refine (hst _).mono ?_; rintro e w' ⟨rfl, rfl⟩)
      | (refine st_build (by rfl) 71 #[] (by rfl) (rcRow zRc none 0 0) built71 ?_; (simp only [Act.put, List.setIfInBounds_toArray, List.set_cons_zero, List.set_cons_succ]))
      | (refine st_store hS 0 (by rfl) 71 (.tmp 6) (.tmp 32) (by rfl) g6 (by rfl) (rcRow zRc none 0 0) (by rfl) _ 71 rfl size71 rfl (one_rcRow _ _ _ _) ?_; clear hS; intro w5 hS; (simp only [List.set_cons_zero] at hS); (simp only [Act.put])))
    have HB := hS.below
    refine bodyPost_ret (res_cell_tmp rfl _ _ g6 71 _ _ _ rfl (hS.row 0 rfl) Tryd.underlying71 rfl size71 _ rfl) rfl ?_
    exact ⟨rfl, HB⟩
  · rw [d1] at hA
    go_enter Tryd.func69, Tryd.ntmps69
    go_wp2_with (first
      | go_skip
      | (refine st_box hS (by rfl) 71 (.tmp 0) (by rfl) _ (by rfl) ?_; clear hS; intro g3 w1 hS _; (simp only [Act.put, List.setIfInBounds_toArray, List.set_cons_zero, List.set_cons_succ]))
      | (refine st_box hS (by rfl) 89 (.tmp 2) (by rfl) _ (by rfl) ?_; clear hS; intro g5 w2 hS _; (simp only [Act.put, List.setIfInBounds_toArray, List.set_cons_zero, List.set_cons_succ]))
      | (refine st_alloc hS (by rfl) 71 (by rfl) _ zero71 ?_; clear hS; intro g6 w3 hS _; (simp only [Act.put, List.setIfInBounds_toArray, List.set_cons_zero, List.set_cons_succ]))
      | (refine st_load hS 2 (by rfl) 71 (.tmp 3) (by rfl) g3 (by rfl) _ 71 rfl _ Tryd.underlying71 rfl size71 ?_; (simp only [Act.put, List.setIfInBounds_toArray, List.set_cons_zero, List.set_cons_succ])))
    refine (hA _ hS.below).mono ?_
    rintro e w4 ⟨rfl, hb⟩
    have hS1 := hS.call hb
    clear hS hb hA
    have hS := hS1
    clear hS1
    have q1 := cell_vote1 (hS.row 1 rfl)
    have q2 := cell_gen (hS.row 2 rfl)
    go_wp2_with (first
      | go_skip
      | (go_at_call 103; refine (hst _).mono ?_; rintro e w' ⟨rfl, rfl⟩)
      | (refine st_build (by rfl) 71 #[] (by rfl) (rcRow zRc none 0 0) built71 ?_; (simp only [Act.put, List.setIfInBounds_toArray, List.set_cons_zero, List.set_cons_succ]))
      | (refine st_store hS 0 (by rfl) 71 (.tmp 6) (.tmp 32) (by rfl) g6 (by rfl) (rcRow zRc none 0 0) (by rfl) _ 71 rfl size71 rfl (one_rcRow _ _ _ _) ?_; clear hS; intro w5 hS; (simp only [List.set_cons_zero] at hS); (simp only [Act.put])))
    have HB := hS.below
    refine bodyPost_ret (res_cell_tmp rfl _ _ g6 71 _ _ _ rfl (hS.row 0 rfl) Tryd.underlying71 rfl size71 _ rfl) rfl ?_
    exact ⟨rfl, HB⟩
  · rw [d1] at hA
    go_enter Tryd.func69, Tryd.ntmps69
    go_wp2_with (first
      | go_skip
      | (refine st_box hS (by rfl) 71 (.tmp 0) (by rfl) _ (by rfl) ?_; clear hS; intro g3 w1 hS _; (simp only [Act.put, List.setIfInBounds_toArray, List.set_cons_zero, List.set_cons_succ]))
      | (refine st_box hS (by rfl) 89 (.tmp 2) (by rfl) _ (by rfl) ?_; clear hS; intro g5 w2 hS _; (simp only [Act.put, List.setIfInBounds_toArray, List.set_cons_zero, List.set_cons_succ]))
      | (refine st_alloc hS (by rfl) 71 (by rfl) _ zero71 ?_; clear hS; intro g6 w3 hS _; (simp only [Act.put, List.setIfInBounds_toArray, List.set_cons_zero, List.set_cons_succ]))
      | (refine st_load hS 2 (by rfl) 71 (.tmp 3) (by rfl) g3 (by rfl) _ 71 rfl _ Tryd.underlying71 rfl size71 ?_; (simp only [Act.put, List.setIfInBounds_toArray, List.set_cons_zero, List.set_cons_succ])))
    refine (hA _ hS.below).mono ?_
    rintro e w4 ⟨rfl, hb⟩
    have hS1 := hS.call hb
    clear hS hb hA
    have hS := hS1
    clear hS1
    have q1 := cell_vote1 (hS.row 1 rfl)
    have q2 := cell_gen (hS.row 2 rfl)
    go_wp2_with (first
      | go_skip
      | (go_at_call 103; refine (hst _).mono ?_; rintro e w' ⟨rfl, rfl⟩)
      | (refine st_build (by rfl) 71 #[] (by rfl) (rcRow zRc none 0 0) built71 ?_; (simp only [Act.put, List.setIfInBounds_toArray, List.set_cons_zero, List.set_cons_succ]))
      | (refine st_store hS 0 (by rfl) 71 (.tmp 6) (.tmp 32) (by rfl) g6 (by rfl) (rcRow zRc none 0 0) (by rfl) _ 71 rfl size71 rfl (one_rcRow _ _ _ _) ?_; clear hS; intro w5 hS; (simp only [List.set_cons_zero] at hS); (simp only [Act.put])))
    have HB := hS.below
    refine bodyPost_ret (res_cell_tmp rfl _ _ g6 71 _ _ _ rfl (hS.row 0 rfl) Tryd.underlying71 rfl size71 _ rfl) rfl ?_
    exact ⟨rfl, HB⟩
  · rw [d1] at hA
    rw [← d5] at hst
    clear d5
    go_enter Tryd.func69, Tryd.ntmps69
    go_wp2_with (first
      | go_skip
      | (refine st_box hS (by rfl) 71 (.tmp 0) (by rfl) _ (by rfl) ?_; clear hS; intro g3 w1 hS _; (simp only [Act.put, List.setIfInBounds_toArray, List.set_cons_zero, List.set_cons_succ]))
      | (refine st_box hS (by rfl) 89 (.tmp 2) (by rfl) _ (by rfl) ?_; clear hS; intro g5 w2 hS _; (simp only [Act.put, List.setIfInBounds_toArray, List.set_cons_zero, List.set_cons_succ]))
      | (refine st_alloc hS (by rfl) 71 (by rfl) _ zero71 ?_; clear hS; intro g6 w3 hS _; (simp only [Act.put, List.setIfInBounds_toArray, List.set_cons_zero, List.set_cons_succ]))
      | (refine st_load hS 2 (by rfl) 71 (.tmp 3) (by rfl) g3 (by rfl) _ 71 rfl _ Tryd.underlying71 rfl size71 ?_; (simp only [Act.put, List.setIfInBounds_toArray, List.set_cons_zero, List.set_cons_succ])))
    refine (hA _ hS.below).mono ?_
    rintro e w4 ⟨rfl, hb⟩
    have hS1 := hS.call hb
    clear hS hb hA
    have hS := hS1
    clear hS1
    have q1 := cell_vote1 (hS.row 1 rfl)
    have q2 := cell_gen (hS.row 2 rfl)
    go_wp2_with (first
      | go_skip
      | (go_at_call 103; refine (hst _).mono ?_; rintro e w' ⟨rfl, rfl⟩)
      | (refine st_build (by rfl) 71 #[] (by rfl) (rcRow zRc none 0 0) built71 ?_; (simp only [Act.put, List.setIfInBounds_toArray, List.set_cons_zero, List.set_cons_succ]))
      | (refine st_store hS 0 (by rfl) 71 (.tmp 6) (.tmp 32) (by rfl) g6 (by rfl) (rcRow zRc none 0 0) (by rfl) _ 71 rfl size71 rfl (one_rcRow _ _ _ _) ?_; clear hS; intro w5 hS; (simp only [List.set_cons_zero] at hS); (simp only [Act.put])))
    have HB := hS.below
    refine bodyPost_ret (res_cell_tmp rfl _ _ g6 71 _ _ _ rfl (hS.row 0 rfl) Tryd.underlying71 rfl size71 _ rfl) rfl ?_
    exact ⟨rfl, HB⟩
set_option maxRecDepth 100000 in
set_option maxHeartbeats 8000000 in
theorem rvoted_none (r : Rc) (a : Option Addr) (c : Nat) (n : Int) (v : Int × Bool) (w : World) (hr : RcN r) (hv : Vts w a r.votes) (hok : votedOk r n v = true) (hg : r.gen = 0) :
    Calls Tryd.prog 69 #[recV r a r.votes.length c, .int .i64 n, votV v] w fun e w' => e = .returned (.tuple #[recV zRc none 0 0, .int .i64 5]) ∧ Below w.heap.size w w' := by
  have hS := St.start w
  have hA := fun (W : World) (hB : Below w.heap.size w W) => rrightC r a c W hr (hv.below hB)
  have hst := fun W => rstampC v.1 W
  have hcs := voted_cases r n v
  rw [hok] at hcs
  simp only [recV_row] at hA ⊢
  rw [votV_row]
  clear hv
  rcases hcs with ⟨d1, e1⟩ | ⟨d1, ⟨d2, e1⟩ | ⟨d2, ⟨d3, e1⟩ | ⟨d3, ⟨d4, e1⟩ | ⟨d4, d5⟩⟩⟩⟩
  · cases e1
  · cases e1
  · cases e1
  · cases e1
  · rw [d1] at hA
    rw [← d5] at hst
    clear d5
    go_enter Tryd.func69, Tryd.ntmps69
    go_wp2_with (first
      | go_skip
      | (refine st_box hS (by rfl) 71 (.tmp 0) (by rfl) _ (by rfl) ?_; clear hS; intro g3 w1 hS _; (simp only [Act.put, List.setIfInBounds_toArray, List.set_cons_zero, List.set_cons_succ]))
      | (refine st_box hS (by rfl) 89 (.tmp 2) (by rfl) _ (by rfl) ?_; clear hS; intro g5 w2 hS _; (simp only [Act.put, List.setIfInBounds_toArray, List.set_cons_zero, List.set_cons_succ]))
      | (refine st_alloc hS (by rfl) 71 (by rfl) _ zero71 ?_; clear hS; intro g6 w3 hS _; (simp only [Act.put, List.setIfInBounds_toArray, List.set_cons_zero, List.set_cons_succ]))
      | (refine st_load hS 2 (by rfl) 71 (.tmp 3) (by rfl) g3 (by rfl) _ 71 rfl _ Tryd.underlying71 rfl size71 ?_; (simp only [Act.put, List.setIfInBounds_toArray, List.set_cons_zero, List.set_cons_succ])))
    refine (hA _ hS.below).mono ?_
    rintro e w4 ⟨rfl, hb⟩
    have hS1 := hS.call hb
    clear hS hb hA
    have hS := hS1
    clear hS1
    have q1 := cell_vote1 (hS.row 1 rfl)
    have q2 := cell_gen (hS.row 2 rfl)
    go_wp2_with (first
      | go_skip
      | (go_at_call 103; refine (hst _).mono ?_; rintro e w' ⟨rfl, rfl⟩)
      | (refine st_build (by rfl) 71 #[] (by rfl) (rcRow zRc none 0 0) built71 ?_; (simp only [Act.put, List.setIfInBounds_toArray, List.set_cons_zero, List.set_cons_succ]))
      | (refine st_store hS 0 (by rfl) 71 (.tmp 6) (.tmp 36) (by rfl) g6 (by rfl) (rcRow zRc none 0 0) (by rfl) _ 71 rfl size71 rfl (one_rcRow _ _ _ _) ?_; clear hS; intro w5 hS; (simp only [List.set_cons_zero] at hS); (simp only [Act.put])))
    have HB := hS.below
    refine bodyPost_ret (res_cell_tmp rfl _ _ g6 71 _ _ _ rfl (hS.row 0 rfl) Tryd.underlying71 rfl size71 _ rfl) rfl ?_
    exact ⟨rfl, HB⟩
set_option maxRecDepth 100000 in
set_option maxHeartbeats 8000000 in
theorem rvoted_ok (r : Rc) (a : Option Addr) (c : Nat) (k : Nat) (v : Int × Bool) (w : World) (hr : RcN r) (hv : Vts w a r.votes) (hok : votedOk r k v = true) (hg : r.gen ≠ 0) :
    Calls Tryd.prog 69 #[recV r a r.votes.length c, .int .i64 k, votV v] w fun e w' => RJoinPost w (votedR r k v) e w' := by
  have hS := St.start w
  have hA := fun (W : World) (hB : Below w.heap.size w W) => rrightC r a c W hr (hv.below hB)
  have hst := fun W => rstampC v.1 W
  have hcs := voted_cases r k v
  rw [hok] at hcs
  rcases hcs with ⟨d1, e1⟩ | ⟨d1, ⟨d2, e1⟩ | ⟨d2, ⟨d3, e1⟩ | ⟨d3, ⟨d4, e1⟩ | ⟨d4, d5⟩⟩⟩⟩
  · cases e1
  · cases e1
  · cases e1
  · cases e1
  · rw [d1] at hA
    rw [← d5] at hst
    have hk : k < 16 := by have := of_decide_eq_false d3; omega
    have hx : rcOk (voteRec r k v) = true := voteRec_ok d1 hg hk (by have := of_decide_eq_false d4; omega) d5.symm
    have hgd := Gd_of hr d1
    have hJ := fun (W : World) (b : Option Addr) (d : Nat) (hB : Below w.heap.size w W) (hu : Vts W b (voteRec r k v).votes) => rjoinC r (voteRec r k v) a b c d W hgd (voteRec_Gd hgd k v) (hv.below hB) hu d1 hx rfl rfl rfl
    have hlen : (voteRec r k v).votes.length = k + 1 := by simp [voteRec]
    have e0 : (r.gen == 0) = false := by rw [beq_eq_false_iff_ne]; exact hg
    rw [hlen, voteRec_join hgd] at hJ
    have hrow : ∀ b n d, rcRow (voteRec r k v) b n d = rcRow ⟨r.gen, r.life, r.spec, [], 0⟩ b n d := fun _ _ _ => rfl
    simp only [recV_row, hrow] at hJ
    simp only [recV_row] at hA ⊢
    rw [votV_row]
    have HX := Lib.hid hx
    have HK := Lib.hid hk
    clear hv hx hlen hg hok d5 hrow hgd hk
    go_enter Tryd.func69, Tryd.ntmps69
    go_wp2_with (first
      | go_skip
      | (refine st_box hS (by rfl) 71 (.tmp 0) (by rfl) _ (by rfl) ?_; clear hS; intro g3 w1 hS _; (simp only [Act.put, List.setIfInBounds_toArray, List.set_cons_zero, List.set_cons_succ]))
      | (refine st_box hS (by rfl) 89 (.tmp 2) (by rfl) _ (by rfl) ?_; clear hS; intro g5 w2 hS _; (simp only [Act.put, List.setIfInBounds_toArray, List.set_cons_zero, List.set_cons_succ]))
      | (refine st_alloc hS (by rfl) 71 (by rfl) _ zero71 ?_; clear hS; intro g6 w3 hS _; (simp only [Act.put, List.setIfInBounds_toArray, List.set_cons_zero, List.set_cons_succ]))
      | (refine st_load hS 2 (by rfl) 71 (.tmp 3) (by rfl) g3 (by rfl) _ 71 rfl _ Tryd.underlying71 rfl size71 ?_; (simp only [Act.put, List.setIfInBounds_toArray, List.set_cons_zero, List.set_cons_succ])))
    refine (hA _ hS.below).mono ?_
    rintro e w4 ⟨rfl, hb⟩
    have hS1 := hS.call hb
    clear hS hb hA
    have hS := hS1
    clear hS1
    have q1 := cell_vote1 (hS.row 1 rfl)
    have q2 := cell_gen (hS.row 2 rfl)
    go_upto_region 5 with (first
      | go_skip
      | (go_at_call 103; refine (hst _).mono ?_; rintro e w' ⟨rfl, rfl⟩))
    have p1 := range_spec (hS.row 2 rfl)
    have q3 := cell_life (hS.row 2 rfl)
    go_upto_region 6 with (first
      | (refine st_part (by rfl) 68 (.tmp 41) (by rfl) g3 2 (by rfl) (spRow r.spec) p1 _ Tryd.underlying68 rfl size68 ?_; (simp only [Act.put, List.setIfInBounds_toArray, List.set_cons_zero, List.set_cons_succ]))
      | (refine st_build (by rfl) 71 #[(0, .tmp 38), (1, .tmp 40), (2, .tmp 42)] (by rfl) (rcRow ⟨r.gen, r.life, r.spec, [], 0⟩ none 0 0) (by kernel_rfl) ?_; (simp only [Act.put, List.setIfInBounds_toArray, List.set_cons_zero, List.set_cons_succ]))
      | (refine st_alloc hS (by rfl) 71 (by rfl) _ zero71 ?_; clear hS; intro g8 w6 hS _; (simp only [Act.put, List.setIfInBounds_toArray, List.set_cons_zero, List.set_cons_succ]))
      | (refine st_store hS 0 (by rfl) 71 (.tmp 8) (.tmp 43) (by rfl) g8 (by rfl) (rcRow ⟨r.gen, r.life, r.spec, [], 0⟩ none 0 0) (by rfl) _ 71 rfl size71 rfl (one_rcRow _ _ _ _) ?_; clear hS; intro w7 hS; (simp only [List.set_cons_zero] at hS); (simp only [Act.put])))
    clear q1 q3 q2 p1 hst
    go_upto_region 7 with fail
    obtain ⟨B, hBe⟩ : ∃ B : Nat, B = max (max g8 g6) (max g5 g3) + 1 := ⟨_, rfl⟩
    have HGS : Hid (∀ y ∈ [g8, g6, g5, g3], y < B) := Lib.hid (by intro y hy; simp only [List.mem_cons, List.not_mem_nil, or_false] at hy; rcases hy with rfl | rfl | rfl | rfl <;> omega)
    have HGB : Hid (w.heap.size ≤ B) := Lib.hid (by have := hS.ge 0 rfl; omega)
    have HBE := Lib.hid hBe
    clear hBe
    go_loopw [9] (fun i wr => ∃ (k' : Nat) (aV : Option Addr) (cV : Nat), k' ≤ k ∧ i = .int .i64 k' ∧ wr.ownsRow B 89 2 (.slice aV k' cV) k' (flatV (List.replicate k' vt0)) ∧ St w wr [(g8, rcRow ⟨r.gen, r.life, r.spec, [], 0⟩ aV k' cV, 71), (g6, rcRow zRc none 0 0, 71), (g5, vtRow v, 89), (g3, rcRow r a r.votes.length c, 71)]) (fun i _ => k - (intOf i).toNat)
    case atStart => exact ⟨0, none, 0, Nat.zero_le _, rfl, World.ownsRow_nil _ _ _ _, hS⟩
    case round =>
      clear hS
      obtain ⟨k', aV, cV, hkN, rfl, hown, hS⟩ := hrel
      have q1 := cell_votes (hS.row 0 rfl)
      have HO := Lib.hid hown
      have HM := Lib.hid hkN
      clear hown
      by_cases hlt : k' < k
      · have HKB : Hid (k' ≤ 100) := Lib.hid (by have := HK.out; omega)
        have HLT := Lib.hid hlt
        have hk16 := HK.out
        go_wp2_with (first
      | (refine st_build (by rfl) 89 #[] (by rfl) (vtRow vt0) built89 ?_; (simp only [Act.put, List.setIfInBounds_toArray, List.set_cons_zero, List.set_cons_succ]))
      | (refine st_bsliceG vk69 hS (by rfl) (.tmp 51) (by rfl) (vt0) (by rfl) ?_; clear hS; intro gN wA hS hbN; have HO1 := Lib.hid (own_below HO.out hbN); (simp only [Act.put, List.setIfInBounds_toArray, List.set_cons_zero, List.set_cons_succ]))
      | (refine st_appendG vk69 hS (by rfl) (.tmp 50) (.tmp 52) (by rfl) k' (.slice aV k' cV) _ (by rfl) HO1.out HGB.out gN (vt0) (by rfl) (by rfl) HGS.out (by have := HBE.out; have := hS.lt 1 rfl; have := hS.lt 2 rfl; have := hS.lt 3 rfl; have := hS.lt 4 rfl; have := HKB.out; omega) ?_; clear hS; intro a' c' wB hS hoN; have HO2 := Lib.hid hoN; clear hoN; (simp only [Act.put, List.setIfInBounds_toArray, List.set_cons_zero, List.set_cons_succ]))
      | (refine st_putO HO2.out hS 0 (by rfl) 69 (.tmp 54) (.tmp 53) (by rfl) g8 22 (by rfl) (.slice a' (k' + 1) c') (by rfl) _ 71 rfl (by decide) rfl rfl rfl size69 ?_; clear hS; intro wC hS hoP; have HO3 := Lib.hid hoP; clear hoP; (simp only [List.set_cons_zero, put_votes] at hS); (simp only [Act.put])))
        go_roundw
        case rel => exact ⟨k' + 1, a', c', by have := HLT.out; omega, by have := HK.out; have := HLT.out; go_num, by rw [List.replicate_succ', flatV_snoc]; exact HO3.out, hS⟩
        case measure => have := HLT.out; have := HK.out; simp [intOf]; omega
      · have hke : k' = k := by have := HM.out; omega
        subst hke
        have HKB : Hid (k' ≤ 100) := Lib.hid (by have := HK.out; omega)
        go_upto_region 11 with (first
      | (refine st_load hS 2 (by rfl) 89 (.tmp 5) (by rfl) g5 (by rfl) _ 89 rfl _ Tryd.underlying89 rfl size89 ?_; (simp only [Act.put, List.setIfInBounds_toArray, List.set_cons_zero, List.set_cons_succ]))
      | (refine st_bsliceG vk69 hS (by rfl) (.tmp 57) (by rfl) (v) (by rfl) ?_; clear hS; intro gN wA hS hbN; have HO1 := Lib.hid (own_below HO.out hbN); (simp only [Act.put, List.setIfInBounds_toArray, List.set_cons_zero, List.set_cons_succ]))
      | (refine st_appendG vk69 hS (by rfl) (.tmp 56) (.tmp 58) (by rfl) k' (.slice aV k' cV) _ (by rfl) HO1.out HGB.out gN (v) (by rfl) (by rfl) HGS.out (by have := HBE.out; have := hS.lt 1 rfl; have := hS.lt 2 rfl; have := hS.lt 3 rfl; have := hS.lt 4 rfl; have := HKB.out; omega) ?_; clear hS; intro a' c' wB hS hoN; have HO2 := Lib.hid hoN; clear hoN; (simp only [Act.put, List.setIfInBounds_toArray, List.set_cons_zero, List.set_cons_succ]))
      | (refine st_putO HO2.out hS 0 (by rfl) 69 (.tmp 60) (.tmp 59) (by rfl) g8 22 (by rfl) (.slice a' (k' + 1) c') (by rfl) _ 71 rfl (by decide) rfl rfl rfl size69 ?_; clear hS; intro wC hS hoP; have HO3 := Lib.hid hoP; clear hoP; (simp only [List.set_cons_zero, put_votes] at hS); (simp only [Act.put])))
        have hvx : Vts wC a' (voteRec r k' v).votes := by
          have hl : (voteRec r k' v).votes.length = k' + 1 := by simp [voteRec]
          have ho := HO3.out
          refine vts_own89 (B := B) (c := c') ?_ (by rw [hl]; have := HK.out; omega)
          rw [hl]
          show wC.ownsRow B 89 2 _ _ (flatV (List.replicate k' vt0 ++ [v]))
          rw [flatV_snoc]
          exact ho
        have hJ1 := hJ wC a' c' hS.below hvx
        clear hJ hvx q1
        go_wp2_with (first
      | (refine st_load hS 3 (by rfl) 71 (.tmp 3) (by rfl) g3 (by rfl) _ 71 rfl _ Tryd.underlying71 rfl size71 ?_; (simp only [Act.put, List.setIfInBounds_toArray, List.set_cons_zero, List.set_cons_succ]))
      | (refine st_load hS 0 (by rfl) 71 (.tmp 8) (by rfl) g8 (by rfl) _ 71 rfl _ Tryd.underlying71 rfl size71 ?_; (simp only [Act.put, List.setIfInBounds_toArray, List.set_cons_zero, List.set_cons_succ])))
        refine hJ1.mono ?_
        rintro e w11 ⟨a'', c'', rfl, ho, hb⟩
        have hS1 := hS.call hb
        have HOR := Lib.hid (own_mono ho hS.below.size)
        clear hS hb hJ1 ho
        have hS := hS1
        clear hS1
        simp only [recV_row]
        have HN := Lib.hid (own_ne HOR.out (hS.row 1 rfl) (by decide))
        go_wp2_with (first
      | (refine st_storeE hS 1 (by rfl) 71 (.tmp 6) (.tmp 64) (by rfl) g6 (by rfl) (rcRow (votedR r k' v) a'' (votedR r k' v).votes.length c'') (by rfl) _ 71 rfl size71 rfl (one_rcRow _ _ _ _) ?_; clear hS; intro w12 hS HE; (simp only [List.set_cons_zero, List.set_cons_succ] at hS); (simp only [Act.put])))
        have HB := hS.below
        have HOF := own_setRow HOR.out HN.out (rcRow (votedR r k' v) a'' (votedR r k' v).votes.length c'')
        rw [← HE.out] at HOF
        refine bodyPost_ret (res_cell_tmp rfl _ _ g6 71 _ _ _ rfl (hS.row 1 rfl) Tryd.underlying71 rfl size71 _ rfl) rfl ?_
        exact ⟨a'', c'', rfl, HOF, HB⟩
end Go.Proofs.YtniejpfjbifjkaaDoor

namespace Go.Proofs.YtniejpfjbifjkaaDoor
open Go.RowKit Fl

theorem putAll_size : ∀ (vs : List Value) (cs : Array Value) (o : Nat), (putAll cs o vs).size = cs.size
  | [], _, _ => rfl
  | v :: r, cs, o => by
    unfold putAll
    rw [putAll_size r]
    simp
theorem among_cases (r : Rc) (n : Int) : (rcOk r = false ∧ amongOk r n = false) ∨ (rcOk r = true ∧ ((nodesOk n = false ∧ amongOk r n = false) ∨ (nodesOk n = true ∧ ((r.gen = 0 ∧ amongOk r n = false) ∨ (r.gen ≠ 0 ∧ 0 < r.gen ∧ amongOk r n = true))))) := by
  unfold amongOk nodesOk
  cases h1 : rcOk r
  · simp
  · cases h2 : decide (1 ≤ n)
    · simp
    · cases h3 : decide (n ≤ 16)
      · simp
      · by_cases h4 : r.gen = 0
        · rw [h4]; simp
        · have h5 : 0 < r.gen := by
            unfold rcOk at h1
            rw [if_neg h4] at h1
            unfold someOk stampOk at h1
            simp only [Bool.and_eq_true, decide_eq_true_eq] at h1
            omega
          simp [h4, h5]
theorem over_plain {d : Int} (hd : 0 ≤ d ∧ d ≤ 65535) {k : Nat} (hk : k ≤ 16) : bits BinOp.and .i64 d (2 ^ k - 1) = ((d.toNat % 2 ^ k : Nat) : Int) := by
  have hp : 2 ^ k ≤ 2 ^ 16 := Nat.pow_le_pow_right (by omega) hk
  have hp1 : 1 ≤ 2 ^ k := Nat.one_le_two_pow
  have e : (2 : Int) ^ k - 1 = ((2 ^ k - 1 : Nat) : Int) := by rw [Int.ofNat_sub hp1]; simp
  rw [e, bits_and hd (by constructor <;> omega)]
  rw [Int.toNat_natCast, Nat.and_two_pow_sub_one_eq_mod]
set_option maxRecDepth 100000 in
set_option maxHeartbeats 8000000 in
theorem spoilC (W2 W : World) (hb : Below W2.heap.size W2 W) (a : Option Addr) (n c : Nat) (l : List Value) (hn : n ≤ 8796093022208) (hown : W.ownsRow W2.heap.size 87 2 (.slice a n c) n l) :
    Calls Tryd.prog 74 #[.slice a n c] W fun e w' => e = .returned (.tuple #[]) ∧ Below W2.heap.size W2 w' := by
  rcases hown.2 with ⟨ha, h0⟩ | ⟨g, cap, cur, hv, h1, hg, x1, x2, x3, x4⟩
  · subst h0
    have HB := Lib.hid hb
    clear hb hown ha
    go_enter Tryd.func74, Tryd.ntmps74
    go_wp2_with fail
    go_loopw [2] (fun i wr => i = .int .i64 0 ∧ Hid (Below W2.heap.size W2 wr)) (fun _ _ => 0)
    case atStart => exact ⟨rfl, HB⟩
    case round =>
      clear HB
      obtain ⟨rfl, HB⟩ := hrel
      go_wp2_with fail
      go_end0
      exact ⟨rfl, HB.out⟩
  · injection hv with ha _ _
    subst ha
    have hr : ∀ x ∈ [(g, cur, (87 : TypeId))], W.heap[x.1]? = some (.cells x.2.1 x.2.2 (0, 0)) := by
      intro x hx
      obtain rfl : x = (g, cur, 87) := by simpa using hx
      exact hg
    have ho : ∀ x ∈ [(g, cur, (87 : TypeId))], W2.heap.size ≤ x.1 := by
      intro x hx
      obtain rfl : x = (g, cur, 87) := by simpa using hx
      exact h1
    have hS : St W2 W [(g, cur, 87)] := ⟨hb, hr, ho, by simp⟩
    have HC := Lib.hid x1
    clear hb hown hr ho hg h1 x2 x4 x1
    go_enter Tryd.func74, Tryd.ntmps74
    go_wp2_with fail
    go_loopw [2] (fun i wr => ∃ (k : Nat) (cs : Array Value), k ≤ n ∧ i = .int .i64 k ∧ cs.size = cap * 2 ∧ St W2 wr [(g, cs, 87)]) (fun i _ => n - (intOf i).toNat)
    case atStart => exact ⟨0, cur, Nat.zero_le _, rfl, x3, hS⟩
    case round =>
      clear hS
      obtain ⟨k, cs, hk, rfl, hcs, hS⟩ := hrel
      have HK := Lib.hid hk
      by_cases hlt : k < n
      · have HBL : Hid (Nat.ble (k * 2 + (vtRow (77, false)).size) cs.size = true) := Lib.hid (by rw [hcs]; have := HC.out; exact Nat.ble_eq_true_of_le (by show k * 2 + 2 ≤ _; omega))
        have HCS := Lib.hid hcs
        clear hcs
        go_wp2_with (first
          | (refine st_build (by rfl) 87 #[(0, .const (.int .i64 77))] (by rfl) (vtRow (77, false)) (by kernel_rfl) ?_; (simp only [Act.put, List.setIfInBounds_toArray, List.set_cons_zero, List.set_cons_succ]))
          | (refine st_puts hS 0 (by rfl) 87 (.tmp 12) (.tmp 11) (by rfl) g (k * 2) (by rfl) (vtRow (77, false)) (by rfl) _ 87 rfl HBL.out (one_vtRow _) size87 ?_; clear hS; intro w10 hS; (simp only [List.set_cons_zero] at hS); (simp only [Act.put])))
        go_roundw
        case rel => exact ⟨k + 1, _, by omega, by go_num, by rw [putAll_size]; exact HCS.out, hS⟩
        case measure => simp [intOf]; omega
      · have HB := Lib.hid hS.below
        clear hS hcs
        go_wp2_with fail
        go_end0; exact ⟨rfl, HB.out⟩
set_option maxRecDepth 100000 in
set_option maxHeartbeats 8000000 in
theorem roverC (r : Rc) (a : Option Addr) (c : Nat) (n : Int) (w : World) (hr : RcN r) (hv : Vts w a r.votes) :
    Calls Tryd.prog 71 #[recV r a r.votes.length c, .int .i64 n] w fun e w' => e = .returned (.bool (overOk r n)) ∧ Below w.heap.size w w' := by
  have hS := St.start w
  have hA := fun (W : World) (hB : Below w.heap.size w W) => rrightC r a c W hr (hv.below hB)
  have hN := fun W => rnodesC n W
  rcases among_cases r n with ⟨d1, hf⟩ | ⟨d1, ⟨d2, hf⟩ | ⟨d2, ⟨d3, hf⟩ | ⟨d3, d4, hf⟩⟩⟩
  · skip
    have HF : Hid (overOk r n = false) := Lib.hid (by unfold overOk; rw [hf]; rfl)
    clear hf
    rw [d1] at hA
    simp only [recV_row] at hA ⊢
    clear hv
    go_enter Tryd.func71, Tryd.ntmps71
    go_wp2_with (first
      | go_skip
      | (refine st_box hS (by rfl) 71 (.tmp 0) (by rfl) _ (by rfl) ?_; clear hS; intro g2 w1 hS _; (simp only [Act.put, List.setIfInBounds_toArray, List.set_cons_zero, List.set_cons_succ]))
      | (refine st_load hS 0 (by rfl) 71 (.tmp 2) (by rfl) g2 (by rfl) _ 71 rfl _ Tryd.underlying71 rfl size71 ?_; (simp only [Act.put, List.setIfInBounds_toArray, List.set_cons_zero, List.set_cons_succ])))
    refine (hA _ hS.below).mono ?_
    rintro e w4 ⟨rfl, hb⟩
    have hS1 := hS.call hb
    clear hS hb hA
    have hS := hS1
    clear hS1
    have q1 := cell_gen (hS.row 0 rfl)
    have q2 := cell_done (hS.row 0 rfl)
    go_wp2_with (first
      | go_skip
      | (go_at_call 105; refine (hN _).mono ?_; rintro e w' ⟨rfl, rfl⟩))
    have HB := hS.below
    go_ret
    exact ⟨by rw [HF.out]; rfl, HB⟩
  · rw [d2] at hN
    clear d2
    have HF : Hid (overOk r n = false) := Lib.hid (by unfold overOk; rw [hf]; rfl)
    clear hf
    rw [d1] at hA
    simp only [recV_row] at hA ⊢
    clear hv
    go_enter Tryd.func71, Tryd.ntmps71
    go_wp2_with (first
      | go_skip
      | (refine st_box hS (by rfl) 71 (.tmp 0) (by rfl) _ (by rfl) ?_; clear hS; intro g2 w1 hS _; (simp only [Act.put, List.setIfInBounds_toArray, List.set_cons_zero, List.set_cons_succ]))
      | (refine st_load hS 0 (by rfl) 71 (.tmp 2) (by rfl) g2 (by rfl) _ 71 rfl _ Tryd.underlying71 rfl size71 ?_; (simp only [Act.put, List.setIfInBounds_toArray, List.set_cons_zero, List.set_cons_succ])))
    refine (hA _ hS.below).mono ?_
    rintro e w4 ⟨rfl, hb⟩
    have hS1 := hS.call hb
    clear hS hb hA
    have hS := hS1
    clear hS1
    have q1 := cell_gen (hS.row 0 rfl)
    have q2 := cell_done (hS.row 0 rfl)
    go_wp2_with (first
      | go_skip
      | (go_at_call 105; refine (hN _).mono ?_; rintro e w' ⟨rfl, rfl⟩))
    have HB := hS.below
    go_ret
    exact ⟨by rw [HF.out]; rfl, HB⟩
  · rw [d2] at hN
    clear d2
    have e0 : decide (0 < r.gen) = false := decide_eq_false (by omega)
    clear d3
    have HF : Hid (overOk r n = false) := Lib.hid (by unfold overOk; rw [hf]; rfl)
    clear hf
    rw [d1] at hA
    simp only [recV_row] at hA ⊢
    clear hv
    go_enter Tryd.func71, Tryd.ntmps71
    go_wp2_with (first
      | go_skip
      | (refine st_box hS (by rfl) 71 (.tmp 0) (by rfl) _ (by rfl) ?_; clear hS; intro g2 w1 hS _; (simp only [Act.put, List.setIfInBounds_toArray, List.set_cons_zero, List.set_cons_succ]))
      | (refine st_load hS 0 (by rfl) 71 (.tmp 2) (by rfl) g2 (by rfl) _ 71 rfl _ Tryd.underlying71 rfl size71 ?_; (simp only [Act.put, List.setIfInBounds_toArray, List.set_cons_zero, List.set_cons_succ])))
    refine (hA _ hS.below).mono ?_
    rintro e w4 ⟨rfl, hb⟩
    have hS1 := hS.call hb
    clear hS hb hA
    have hS := hS1
    clear hS1
    have q1 := cell_gen (hS.row 0 rfl)
    have q2 := cell_done (hS.row 0 rfl)
    go_wp2_with (first
      | go_skip
      | (go_at_call 105; refine (hN _).mono ?_; rintro e w' ⟨rfl, rfl⟩))
    have HB := hS.below
    go_ret
    exact ⟨by rw [HF.out]; rfl, HB⟩
  · have h16 : n = 1 ∨ n = 2 ∨ n = 3 ∨ n = 4 ∨ n = 5 ∨ n = 6 ∨ n = 7 ∨ n = 8 ∨ n = 9 ∨ n = 10 ∨ n = 11 ∨ n = 12 ∨ n = 13 ∨ n = 14 ∨ n = 15 ∨ n = 16 := by
      unfold nodesOk at d2
      simp only [Bool.and_eq_true, decide_eq_true_eq] at d2
      omega
    have hgd := Gd_of hr d1
    have e0 : decide (0 < r.gen) = true := decide_eq_true d4
    have HOV : Hid (∀ k : Nat, k ≤ 16 → n = k → overOk r n = (((r.done.toNat % 2 ^ k : Nat) : Int) == 2 ^ k - 1)) := Lib.hid (by
      intro k hk hn
      unfold overOk maskI
      rw [hf, hn, Int.toNat_natCast, over_plain hgd.done hk]
      rfl)
    obtain ⟨D, hD⟩ : ∃ D : Nat, r.done = D := ⟨r.done.toNat, by have := hgd.done; omega⟩
    have hDb : D ≤ 65535 := by have := hgd.done; omega
    rw [d1] at hA
    rw [d2] at hN
    simp only [recV_row] at hA ⊢
    clear hv hgd hf d3 d4 d2 d1
    go_enter Tryd.func71, Tryd.ntmps71
    go_wp2_with (first
      | go_skip
      | (refine st_box hS (by rfl) 71 (.tmp 0) (by rfl) _ (by rfl) ?_; clear hS; intro g2 w1 hS _; (simp only [Act.put, List.setIfInBounds_toArray, List.set_cons_zero, List.set_cons_succ]))
      | (refine st_load hS 0 (by rfl) 71 (.tmp 2) (by rfl) g2 (by rfl) _ 71 rfl _ Tryd.underlying71 rfl size71 ?_; (simp only [Act.put, List.setIfInBounds_toArray, List.set_cons_zero, List.set_cons_succ])))
    refine (hA _ hS.below).mono ?_
    rintro e w4 ⟨rfl, hb⟩
    have hS1 := hS.call hb
    clear hS hb hA
    have hS := hS1
    clear hS1
    have q1 := cell_gen (hS.row 0 rfl)
    have q2 := cell_done (hS.row 0 rfl)
    rw [hD] at q2
    have HB := Lib.hid hS.below
    have HD := Lib.hid hD
    clear hS hD
    rcases h16 with rfl | rfl | rfl | rfl | rfl | rfl | rfl | rfl | rfl | rfl | rfl | rfl | rfl | rfl | rfl | rfl
    · go_wp2_with (first
        | go_skip
        | (go_at_call 105; refine (hN _).mono ?_; rintro e w' ⟨rfl, rfl⟩))
      go_ret
      exact ⟨by rw [HOV.out 1 (by omega) rfl, HD.out]; rfl, HB.out⟩
    · go_wp2_with (first
        | go_skip
        | (go_at_call 105; refine (hN _).mono ?_; rintro e w' ⟨rfl, rfl⟩))
      go_ret
      exact ⟨by rw [HOV.out 2 (by omega) rfl, HD.out]; rfl, HB.out⟩
    · go_wp2_with (first
        | go_skip
        | (go_at_call 105; refine (hN _).mono ?_; rintro e w' ⟨rfl, rfl⟩))
      go_ret
      exact ⟨by rw [HOV.out 3 (by omega) rfl, HD.out]; rfl, HB.out⟩
    · go_wp2_with (first
        | go_skip
        | (go_at_call 105; refine (hN _).mono ?_; rintro e w' ⟨rfl, rfl⟩))
      go_ret
      exact ⟨by rw [HOV.out 4 (by omega) rfl, HD.out]; rfl, HB.out⟩
    · go_wp2_with (first
        | go_skip
        | (go_at_call 105; refine (hN _).mono ?_; rintro e w' ⟨rfl, rfl⟩))
      go_ret
      exact ⟨by rw [HOV.out 5 (by omega) rfl, HD.out]; rfl, HB.out⟩
    · go_wp2_with (first
        | go_skip
        | (go_at_call 105; refine (hN _).mono ?_; rintro e w' ⟨rfl, rfl⟩))
      go_ret
      exact ⟨by rw [HOV.out 6 (by omega) rfl, HD.out]; rfl, HB.out⟩
    · go_wp2_with (first
        | go_skip
        | (go_at_call 105; refine (hN _).mono ?_; rintro e w' ⟨rfl, rfl⟩))
      go_ret
      exact ⟨by rw [HOV.out 7 (by omega) rfl, HD.out]; rfl, HB.out⟩
    · go_wp2_with (first
        | go_skip
        | (go_at_call 105; refine (hN _).mono ?_; rintro e w' ⟨rfl, rfl⟩))
      go_ret
      exact ⟨by rw [HOV.out 8 (by omega) rfl, HD.out]; rfl, HB.out⟩
    · go_wp2_with (first
        | go_skip
        | (go_at_call 105; refine (hN _).mono ?_; rintro e w' ⟨rfl, rfl⟩))
      go_ret
      exact ⟨by rw [HOV.out 9 (by omega) rfl, HD.out]; rfl, HB.out⟩
    · go_wp2_with (first
        | go_skip
        | (go_at_call 105; refine (hN _).mono ?_; rintro e w' ⟨rfl, rfl⟩))
      go_ret
      exact ⟨by rw [HOV.out 10 (by omega) rfl, HD.out]; rfl, HB.out⟩
    · go_wp2_with (first
        | go_skip
        | (go_at_call 105; refine (hN _).mono ?_; rintro e w' ⟨rfl, rfl⟩))
      go_ret
      exact ⟨by rw [HOV.out 11 (by omega) rfl, HD.out]; rfl, HB.out⟩
    · go_wp2_with (first
        | go_skip
        | (go_at_call 105; refine (hN _).mono ?_; rintro e w' ⟨rfl, rfl⟩))
      go_ret
      exact ⟨by rw [HOV.out 12 (by omega) rfl, HD.out]; rfl, HB.out⟩
    · go_wp2_with (first
        | go_skip
        | (go_at_call 105; refine (hN _).mono ?_; rintro e w' ⟨rfl, rfl⟩))
      go_ret
      exact ⟨by rw [HOV.out 13 (by omega) rfl, HD.out]; rfl, HB.out⟩
    · go_wp2_with (first
        | go_skip
        | (go_at_call 105; refine (hN _).mono ?_; rintro e w' ⟨rfl, rfl⟩))
      go_ret
      exact ⟨by rw [HOV.out 14 (by omega) rfl, HD.out]; rfl, HB.out⟩
    · go_wp2_with (first
        | go_skip
        | (go_at_call 105; refine (hN _).mono ?_; rintro e w' ⟨rfl, rfl⟩))
      go_ret
      exact ⟨by rw [HOV.out 15 (by omega) rfl, HD.out]; rfl, HB.out⟩
    · go_wp2_with (first
        | go_skip
        | (go_at_call 105; refine (hN _).mono ?_; rintro e w' ⟨rfl, rfl⟩))
      go_ret
      exact ⟨by rw [HOV.out 16 (by omega) rfl, HD.out]; rfl, HB.out⟩
theorem cell_vote2 {w : World} {g : Nat} {v : Int × Bool} {t : TypeId} {fr : Nat × Nat} (h : w.heap[g]? = some (.cells (vtRow v) t fr)) : w.cell? ⟨g, 1, none⟩ = some (.bool v.2) := by rw [cell_of_row w g 1 _ t fr h]; rfl
theorem zero89 : (Tryd.prog.info? 89).map (·.zero) = some (some (.agg (vtRow vt0))) := by kernel_rfl
set_option maxRecDepth 100000 in
set_option maxHeartbeats 8000000 in
theorem rwellC (r : Rc) (a : Option Addr) (c : Nat) (n : Int) (w : World) (hr : RcN r) (hv : Vts w a r.votes) :
    Calls Tryd.prog 70 #[recV r a r.votes.length c, .int .i64 n] w fun e w' => e = .returned (.bool (wellOk r n)) ∧ Below w.heap.size w w' := by
  have hS := St.start w
  have hA := fun (W : World) (hB : Below w.heap.size w W) => rrightC r a c W hr (hv.below hB)
  have hN := fun W => rnodesC n W
  rcases among_cases r n with ⟨d1, hf⟩ | ⟨d1, ⟨d2, hf⟩ | ⟨d2, ⟨d3, hf⟩ | ⟨d3, d4, hf⟩⟩⟩
  · skip
    have HF : Hid (wellOk r n = false) := Lib.hid (by unfold wellOk; rw [hf]; rfl)
    clear hf
    rw [d1] at hA
    simp only [recV_row] at hA ⊢
    clear hv
    go_enter Tryd.func70, Tryd.ntmps70
    go_wp2_with (first
      | go_skip
      | (refine st_box hS (by rfl) 71 (.tmp 0) (by rfl) _ (by rfl) ?_; clear hS; intro g2 w1 hS _; (simp only [Act.put, List.setIfInBounds_toArray, List.set_cons_zero, List.set_cons_succ]))
      | (refine st_load hS 0 (by rfl) 71 (.tmp 2) (by rfl) g2 (by rfl) _ 71 rfl _ Tryd.underlying71 rfl size71 ?_; (simp only [Act.put, List.setIfInBounds_toArray, List.set_cons_zero, List.set_cons_succ])))
    refine (hA _ hS.below).mono ?_
    rintro e w4 ⟨rfl, hb⟩
    have hS1 := hS.call hb
    clear hS hb hA
    have hS := hS1
    clear hS1
    have q1 := cell_gen (hS.row 0 rfl)
    have q2 := cell_done (hS.row 0 rfl)
    go_wp2_with (first
      | go_skip
      | (go_at_call 105; refine (hN _).mono ?_; rintro e w' ⟨rfl, rfl⟩))
    have HB := hS.below
    go_ret
    exact ⟨by rw [HF.out]; rfl, HB⟩
  · rw [d2] at hN
    clear d2
    have HF : Hid (wellOk r n = false) := Lib.hid (by unfold wellOk; rw [hf]; rfl)
    clear hf
    rw [d1] at hA
    simp only [recV_row] at hA ⊢
    clear hv
    go_enter Tryd.func70, Tryd.ntmps70
    go_wp2_with (first
      | go_skip
      | (refine st_box hS (by rfl) 71 (.tmp 0) (by rfl) _ (by rfl) ?_; clear hS; intro g2 w1 hS _; (simp only [Act.put, List.setIfInBounds_toArray, List.set_cons_zero, List.set_cons_succ]))
      | (refine st_load hS 0 (by rfl) 71 (.tmp 2) (by rfl) g2 (by rfl) _ 71 rfl _ Tryd.underlying71 rfl size71 ?_; (simp only [Act.put, List.setIfInBounds_toArray, List.set_cons_zero, List.set_cons_succ])))
    refine (hA _ hS.below).mono ?_
    rintro e w4 ⟨rfl, hb⟩
    have hS1 := hS.call hb
    clear hS hb hA
    have hS := hS1
    clear hS1
    have q1 := cell_gen (hS.row 0 rfl)
    have q2 := cell_done (hS.row 0 rfl)
    go_wp2_with (first
      | go_skip
      | (go_at_call 105; refine (hN _).mono ?_; rintro e w' ⟨rfl, rfl⟩))
    have HB := hS.below
    go_ret
    exact ⟨by rw [HF.out]; rfl, HB⟩
  · rw [d2] at hN
    clear d2
    have e0 : (r.gen == 0) = true := by rw [d3]; rfl
    clear d3
    have HF : Hid (wellOk r n = false) := Lib.hid (by unfold wellOk; rw [hf]; rfl)
    clear hf
    rw [d1] at hA
    simp only [recV_row] at hA ⊢
    clear hv
    go_enter Tryd.func70, Tryd.ntmps70
    go_wp2_with (first
      | go_skip
      | (refine st_box hS (by rfl) 71 (.tmp 0) (by rfl) _ (by rfl) ?_; clear hS; intro g2 w1 hS _; (simp only [Act.put, List.setIfInBounds_toArray, List.set_cons_zero, List.set_cons_succ]))
      | (refine st_load hS 0 (by rfl) 71 (.tmp 2) (by rfl) g2 (by rfl) _ 71 rfl _ Tryd.underlying71 rfl size71 ?_; (simp only [Act.put, List.setIfInBounds_toArray, List.set_cons_zero, List.set_cons_succ])))
    refine (hA _ hS.below).mono ?_
    rintro e w4 ⟨rfl, hb⟩
    have hS1 := hS.call hb
    clear hS hb hA
    have hS := hS1
    clear hS1
    have q1 := cell_gen (hS.row 0 rfl)
    have q2 := cell_done (hS.row 0 rfl)
    go_wp2_with (first
      | go_skip
      | (go_at_call 105; refine (hN _).mono ?_; rintro e w' ⟨rfl, rfl⟩))
    have HB := hS.below
    go_ret
    exact ⟨by rw [HF.out]; rfl, HB⟩
  · obtain ⟨N, rfl⟩ : ∃ N : Nat, n = N := by
      unfold nodesOk at d2
      simp only [Bool.and_eq_true, decide_eq_true_eq] at d2
      exact ⟨n.toNat, by omega⟩
    have hN16 : N ≤ 16 := by
      unfold nodesOk at d2
      simp only [Bool.and_eq_true, decide_eq_true_eq] at d2
      omega
    have e0 : (r.gen == 0) = false := by rw [beq_eq_false_iff_ne]; exact d3
    have HF : Hid (wellOk r N = decide (2 * (nays r.votes N : Int) < N)) := Lib.hid (by
      unfold wellOk
      rw [hf, Int.toNat_natCast, Bool.true_and]
      apply decide_eq_decide.2
      omega)
    have hvo := fun (k : Nat) (W : World) (hW : Below w.heap.size w W) => rvoteC r a c k W (hv.below hW)
    rw [d1] at hA
    rw [d2] at hN
    simp only [recV_row, votV_row] at hA hvo ⊢
    have HVO := Lib.hid hvo
    clear hv hf d3 d4 d2 d1 hvo
    go_enter Tryd.func70, Tryd.ntmps70
    go_wp2_with (first
      | go_skip
      | (refine st_box hS (by rfl) 71 (.tmp 0) (by rfl) _ (by rfl) ?_; clear hS; intro g2 w1 hS _; (simp only [Act.put, List.setIfInBounds_toArray, List.set_cons_zero, List.set_cons_succ]))
      | (refine st_load hS 0 (by rfl) 71 (.tmp 2) (by rfl) g2 (by rfl) _ 71 rfl _ Tryd.underlying71 rfl size71 ?_; (simp only [Act.put, List.setIfInBounds_toArray, List.set_cons_zero, List.set_cons_succ])))
    refine (hA _ hS.below).mono ?_
    rintro e w4 ⟨rfl, hb⟩
    have hS1 := hS.call hb
    clear hS hb hA
    have hS := hS1
    clear hS1
    have q1 := cell_gen (hS.row 0 rfl)
    go_upto_region 3 with (first
      | go_skip
      | (go_at_call 105; refine (hN _).mono ?_; rintro e w' ⟨rfl, rfl⟩))
    clear q1 hN
    go_upto_region 5 with fail
    go_loopw [5, 6] (fun m i wr => ∃ k : Nat, k ≤ N ∧ i = .int .i64 k ∧ m = .int .i64 (nays r.votes k) ∧ St w wr [(g2, rcRow r a r.votes.length c, 71)]) (fun _ i _ => N - (intOf i).toNat)
    case atStart => exact ⟨0, Nat.zero_le _, rfl, rfl, hS⟩
    case round =>
      clear hS
      obtain ⟨k, hkN, rfl, rfl, hS⟩ := hrel
      have hle := nays_le r.votes k
      by_cases hlt : k < N
      · have hcv := HVO.out k _ hS.below
        have hn1 : nays r.votes (k + 1) = nays r.votes k + (if 0 < (r.votes.getD k vt0).1 ∧ (r.votes.getD k vt0).2 = false then 1 else 0) := rfl
        generalize r.votes.getD k vt0 = v at *
        have HN1 := Lib.hid hn1
        clear hn1
        go_wp2_with (first
      | go_skip
      | (refine st_load hS 0 (by rfl) 71 (.tmp 2) (by rfl) g2 (by rfl) _ 71 rfl _ Tryd.underlying71 rfl size71 ?_; (simp only [Act.put, List.setIfInBounds_toArray, List.set_cons_zero, List.set_cons_succ])))
        refine hcv.mono ?_
        rintro e w5 ⟨rfl, hb⟩
        have hS1 := hS.call hb
        clear hS hb hcv
        have hS := hS1
        clear hS1
        go_upto_region 8 with (first
      | (refine st_alloc hS (by rfl) 89 (by rfl) _ zero89 ?_; clear hS; intro g7 w6 hS _; (simp only [Act.put, List.setIfInBounds_toArray, List.set_cons_zero, List.set_cons_succ]))
      | (refine st_store hS 0 (by rfl) 89 (.tmp 7) (.tmp 28) (by rfl) g7 (by rfl) (vtRow v) (by rfl) _ 89 rfl size89 rfl (one_vtRow _) ?_; clear hS; intro w7 hS; (simp only [List.set_cons_zero] at hS); (simp only [Act.put])))
        have q1 := cell_vote1 (hS.row 0 rfl)
        have q2 := cell_vote2 (hS.row 0 rfl)
        by_cases p1 : 0 < v.1
        · have f1 : decide (0 < v.1) = true := decide_eq_true p1
          cases p2 : v.2
          · have HV : Hid (nays r.votes (k + 1) = nays r.votes k + 1) := Lib.hid (by rw [HN1.out, if_pos ⟨p1, p2⟩])
            rw [p2] at q2
            clear HN1 p2
            go_wp2_with fail
            go_roundw
            case rel => exact ⟨k + 1, by omega, by go_num, by rw [HV.out]; go_num, hS.drop _ (List.sublist_cons_self _ _)⟩
            case measure => simp [intOf]; omega
          · have HV : Hid (nays r.votes (k + 1) = nays r.votes k) := Lib.hid (by rw [HN1.out, if_neg (by rw [p2]; simp)]; rfl)
            rw [p2] at q2
            clear HN1 p2
            go_wp2_with fail
            go_roundw
            case rel => exact ⟨k + 1, by omega, by go_num, by rw [HV.out], hS.drop _ (List.sublist_cons_self _ _)⟩
            case measure => simp [intOf]; omega
        · have f1 : decide (0 < v.1) = false := decide_eq_false p1
          have HV : Hid (nays r.votes (k + 1) = nays r.votes k) := Lib.hid (by rw [HN1.out, if_neg (fun h => p1 h.1)]; rfl)
          clear HN1
          go_wp2_with fail
          go_roundw
          case rel => exact ⟨k + 1, by omega, by go_num, by rw [HV.out], hS.drop _ (List.sublist_cons_self _ _)⟩
          case measure => simp [intOf]; omega
      · have hkl : k = N := by omega
        subst hkl
        have HB := Lib.hid hS.below
        clear hS
        go_wp2_with fail
        go_ret
        exact ⟨by rw [HF.out]; rfl, HB.out⟩
end Go.Proofs.YtniejpfjbifjkaaDoor

namespace Go.Proofs.YtniejpfjbifjkaaDoor
open Go.RowKit Fl

theorem sameF_self {x : Nat} (h : x < B64) : sameF x x = true := by
  rcases one_of h h with h1 | h1 | h1
  · exact h1.1
  · rw [h1.2.1] at h1; simp at h1
  · rw [h1.2.1] at h1; simp at h1
theorem range_vt {w : World} {g o : Nat} {v : Int × Bool} (h1 : w.cell? ⟨g, o, none⟩ = some (.int .i64 v.1)) (h2 : w.cell? ⟨g, o + 1, none⟩ = some (.bool v.2)) : w.rangeAt g o (vtRow v).toList := by
  intro j u hj
  match j, hj with
  | 0, hj => rw [← hj]; exact h1
  | 1, hj => rw [← hj]; exact h2
theorem eqB_self (b : Nat → Int) : eqB b b = true := by unfold eqB; simp
set_option maxRecDepth 100000 in
set_option maxHeartbeats 8000000 in
theorem rsameSelf (r : Rc) (a b : Option Addr) (c d : Nat) (w : World) (hr : RcN r) (hv : Vts w a r.votes) (hu : Vts w b r.votes) :
    Calls Tryd.prog 72 #[recV r a r.votes.length c, recV r b r.votes.length d] w fun e w' => e = .returned (.bool true) ∧ Below w.heap.size w w' := by
  have hS := St.start w
  have hsa := fun W => rsameC r.spec.w r.spec.w W hr.w hr.w
  rw [sameF_self hr.w] at hsa
  have he := fun W => eq66 9997 r.spec.v6 r.spec.v6 r.spec.b r.spec.b W
  rw [eqB_self, beq_self_eq_true, Bool.and_true, show adrV r.spec.v6 r.spec.b = .agg (adRow r.spec) from rfl] at he
  obtain ⟨n, hlen⟩ : ∃ n, r.votes.length = n := ⟨_, rfl⟩
  have hn43 : n ≤ 8796093022208 := by rw [← hlen]; exact hv.1
  rw [hlen]
  simp only [recV_row]
  have HLEN := Lib.hid hlen
  have HV := Lib.hid hv
  have HU := Lib.hid hu
  clear hlen hv hu hr
  go_enter Tryd.func72, Tryd.ntmps72
  go_upto_region 1 with (first
      | (refine st_box hS (by rfl) 71 (.tmp 0) (by rfl) _ (by rfl) ?_; clear hS; intro g2 w1 hS _; (simp only [Act.put, List.setIfInBounds_toArray, List.set_cons_zero, List.set_cons_succ]))
      | (refine st_box hS (by rfl) 71 (.tmp 1) (by rfl) _ (by rfl) ?_; clear hS; intro g3 w2 hS _; (simp only [Act.put, List.setIfInBounds_toArray, List.set_cons_zero, List.set_cons_succ])))
  have q1 := cell_gen (hS.row 1 rfl)
  have q2 := cell_gen (hS.row 0 rfl)
  have q3 := cell_life (hS.row 1 rfl)
  have q4 := cell_life (hS.row 0 rfl)
  have q5 := cell_done (hS.row 1 rfl)
  have q6 := cell_done (hS.row 0 rfl)
  have q7 := cell_votes (hS.row 1 rfl)
  have q8 := cell_votes (hS.row 0 rfl)
  go_upto_region 3 with fail
  clear q1 q2 q3 q4 q5 q6
  have q1 := cell_st (hS.row 1 rfl)
  have q2 := cell_st (hS.row 0 rfl)
  have q3 := cell_by (hS.row 1 rfl)
  have q4 := cell_by (hS.row 0 rfl)
  have q5 := cell_wt (hS.row 1 rfl)
  have q6 := cell_wt (hS.row 0 rfl)
  have p1 := range_adr (hS.row 1 rfl)
  have p2 := range_adr (hS.row 0 rfl)
  go_upto_region 5 with (first
      | (refine st_part (by rfl) 66 (.tmp 52) (by rfl) g2 4 (by rfl) (adRow r.spec) p1 _ Tryd.underlying66 rfl size66 ?_; (simp only [Act.put, List.setIfInBounds_toArray, List.set_cons_zero, List.set_cons_succ]))
      | (refine st_part (by rfl) 66 (.tmp 55) (by rfl) g3 4 (by rfl) (adRow r.spec) p2 _ Tryd.underlying66 rfl size66 ?_; (simp only [Act.put, List.setIfInBounds_toArray, List.set_cons_zero, List.set_cons_succ]))
      | (go_at_call 24; refine (hsa _).mono ?_; rintro e w' ⟨rfl, rfl⟩))
  clear q1 q2 q3 q4 q5 q6 q7 q8 p1 p2 hsa he
  go_upto_region 6 with fail
  go_loopw [5] (fun i wr => ∃ k : Nat, k ≤ n ∧ i = .int .i64 k ∧ St w wr [(g3, rcRow r b n d, 71), (g2, rcRow r a n c, 71)]) (fun i _ => n - (intOf i).toNat)
  case atStart => exact ⟨0, Nat.zero_le _, rfl, hS⟩
  case round =>
    clear hS
    obtain ⟨k, hkn, rfl, hS⟩ := hrel
    have q7 := cell_votes (hS.row 1 rfl)
    by_cases hlt : k < n
    · obtain ⟨ga, oa, rfl, ca1, ca2⟩ := HV.out.2 k (by rw [HLEN.out]; exact hlt)
      obtain ⟨gb, ob, rfl, cb1, cb2⟩ := HU.out.2 k (by rw [HLEN.out]; exact hlt)
      have he := fun W => eq89 9998 (r.votes.getD k vt0) (r.votes.getD k vt0) W
      rw [beq_self_eq_true, beq_self_eq_true, Bool.and_true, votV_row] at he
      have ra : w.rangeAt ga (oa + k * 2) (vtRow (r.votes.getD k vt0)).toList := range_vt ca1 ca2
      have rb : w.rangeAt gb (ob + k * 2) (vtRow (r.votes.getD k vt0)).toList := range_vt cb1 cb2
      generalize r.votes.getD k vt0 = v at *
      clear ca1 ca2 cb1 cb2
      go_upto_region 8 with fail
      have HA : Hid (∀ w', (∃ x : Aft wr, w' = x.1) → w'.rangeAt ga (oa + k * 2) (vtRow v).toList) := Lib.hid (by
        rintro w' ⟨x, rfl⟩
        exact range_below ra (hS.below.trans (x.2.mono hS.below.size)))
      have HB : Hid (∀ w', (∃ x : Aft wr, w' = x.1) → w'.rangeAt gb (ob + k * 2) (vtRow v).toList) := Lib.hid (by
        rintro w' ⟨x, rfl⟩
        exact range_below rb (hS.below.trans (x.2.mono hS.below.size)))
      have x1 : ∀ x : Aft wr, x.1.cell? ⟨g2, 22, none⟩ = some (.slice (some ⟨ga, oa, none⟩) n c) := fun x => (aft_cell x _ _ (hS.lt 1 rfl)).trans (cell_votes (hS.row 1 rfl))
      have x2 : ∀ x : Aft wr, x.1.cell? ⟨g3, 22, none⟩ = some (.slice (some ⟨gb, ob, none⟩) n d) := fun x => (aft_cell x _ _ (hS.lt 0 rfl)).trans (cell_votes (hS.row 0 rfl))
      clear ra rb q7
      refine wp_region_aft (by kernel_rfl) (by kernel_rfl) ?_
      repeat (first
        | (go_big_quiet_want; refine quiet_load 89 (.tmp 79) (by rfl) ga (oa + k * 2) (by rfl) (vtRow v).toList _ HA.out Tryd.underlying89 rfl size89 ?_; (simp only [Array.toArray_toList, Act.put, List.setIfInBounds_toArray, List.set_cons_zero, List.set_cons_succ]); go_big_quiet_on)
        | (go_big_quiet_want; refine quiet_load 89 (.tmp 84) (by rfl) gb (ob + k * 2) (by rfl) (vtRow v).toList _ HB.out Tryd.underlying89 rfl size89 ?_; (simp only [Array.toArray_toList, Act.put, List.setIfInBounds_toArray, List.set_cons_zero, List.set_cons_succ]); go_big_quiet_on)
        | go_big_quiet_step (fail))
      refine wpQuiet_nil ?_
      intro w4 hw'
      obtain ⟨x, hx⟩ := hw'
      have hS4 : St w w4 [(g3, rcRow r (some ⟨gb, ob, none⟩) n d, 71), (g2, rcRow r (some ⟨ga, oa, none⟩) n c, 71)] := by rw [hx]; exact hS.call x.2
      clear hS hx x
      have hS := hS4
      clear hS4 x1 x2
      go_wp2_with fail
      go_roundw
      case rel => exact ⟨k + 1, by omega, by go_num, hS⟩
      case measure => simp [intOf]; omega
    · have HB := Lib.hid hS.below
      clear hS
      go_wp2_with fail
      go_ret
      exact ⟨rfl, HB.out⟩
end Go.Proofs.YtniejpfjbifjkaaDoor

namespace Go.Proofs.YtniejpfjbifjkaaDoor
open Go.RowKit Fl

def VPost (e : TypeId) (w : World) (Y : Rc) (E : Int) (en : Ending) (w' : World) : Prop := ∃ (a' : Option Addr) (c' : Nat), en = .returned (.tuple #[recV Y a' Y.votes.length c', .int .i64 E]) ∧ w'.ownsRow w.heap.size e 2 (.slice a' Y.votes.length c') Y.votes.length (flatV Y.votes) ∧ Below w.heap.size w w'
theorem voted_any (r : Rc) (n : Int) (v : Int × Bool) (hr : RcN r) (hl : r.votes.length ≤ 8796093022208) : ∃ (Y : Rc) (E : Int), RcN Y ∧ Y.votes.length ≤ 8796093022208 ∧ (E = 0 → withinR r Y = true ∧ rcOk Y = true) ∧
    (∀ a c w, Vts w a r.votes → Laid w → 0 < w.heap.size → Calls Tryd.prog 68 #[recV r a r.votes.length c, .int .i64 n, votV v] w fun e w' => VPost 87 w Y E e w') ∧
    (∀ a c w, Vts w a r.votes → Calls Tryd.prog 69 #[recV r a r.votes.length c, .int .i64 n, votV v] w fun e w' => VPost 89 w Y E e w') := by
  cases hok : votedOk r n v
  · refine ⟨zRc, 1, ⟨by decide, fun i => ⟨by show (0 : Int) ≤ 0; omega, by show (0 : Int) < 256; omega⟩⟩, by show 0 ≤ 8796093022208; omega, (fun h => absurd h (by decide)), ?_, ?_⟩
    · intro a c w hv hla hp
      exact (voted_bad r a c n v w hr hv hla hp hok).mono fun _ _ ⟨he, hb⟩ => ⟨none, 0, he, World.ownsRow_nil _ _ _ _, hb⟩
    · intro a c w hv
      exact (rvoted_bad r a c n v w hr hv hok).mono fun _ _ ⟨he, hb⟩ => ⟨none, 0, he, World.ownsRow_nil _ _ _ _, hb⟩
  · by_cases hg : r.gen = 0
    · refine ⟨zRc, 5, ⟨by decide, fun i => ⟨by show (0 : Int) ≤ 0; omega, by show (0 : Int) < 256; omega⟩⟩, by show 0 ≤ 8796093022208; omega, (fun h => absurd h (by decide)), ?_, ?_⟩
      · intro a c w hv hla hp
        exact (voted_none r a c n v w hr hv hla hp hok hg).mono fun _ _ ⟨he, hb⟩ => ⟨none, 0, he, World.ownsRow_nil _ _ _ _, hb⟩
      · intro a c w hv
        exact (rvoted_none r a c n v w hr hv hok hg).mono fun _ _ ⟨he, hb⟩ => ⟨none, 0, he, World.ownsRow_nil _ _ _ _, hb⟩
    · have hk' := hok
      unfold votedOk at hk'
      simp only [Bool.and_eq_true, Bool.not_eq_true', decide_eq_false_iff_not] at hk'
      obtain ⟨d1, d2, d3, d4, d5⟩ := hk'
      obtain ⟨k, rfl⟩ : ∃ k : Nat, n = k := ⟨n.toNat, by omega⟩
      have Gr := Gd_of hr d1
      have Gw := voteRec_Gd Gr k v
      have kw := voteRec_ok (k := k) d1 hg (by omega) (by omega) d5
      have kj := join_right Gr Gw d1 kw
      rw [voteRec_join Gr] at kj
      have gj := join_Gd Gr Gw
      rw [voteRec_join Gr] at gj
      have hw1 : withinR r (votedR r k v) = true := by
        unfold withinR
        rw [d1, kj]
        have := join_within1 Gr Gw
        rw [voteRec_join Gr] at this
        exact sameR_of (join_Gd Gr gj) gj this
      refine ⟨votedR r k v, 0, gj.N, ?_, fun _ => ⟨hw1, kj⟩, ?_, ?_⟩
      · rw [votedR_len Gr]; omega
      · intro a c w hv hla hp
        exact voted_ok r a c k v w hr hv hla hp hok hg
      · intro a c w hv
        exact rvoted_ok r a c k v w hr hv hok hg
end Go.Proofs.YtniejpfjbifjkaaDoor

namespace Go.Proofs.YtniejpfjbifjkaaDoor.lifeTells
open Go.RowKit Fl

section
variable {P : Program} {ops : Array Oper} {rest : List Oper} {o : Oper} {a : Act} {w : World} {Q : Exit → Act → World → Prop} {w0 : World} {m : List Ent} {L : List VEnt}
theorem st_loadO {g : Nat} {cs : Array Value} {t : TypeId} (hrow : w.heap[g]? = some (.cells cs t (0, 0))) (hw : Region.wanted o (yielded ops a.tmps) = true) (ty : TypeId) (x : Operand) (ho : o.op = .load ty x) (hx : a.eval x = .pointer (some ⟨g, 0, none⟩))
    (d : TypeDesc) (hu : P.underlying ty = some d) (hd : (match d with | .struct _ | .array _ _ => true | _ => false) = true) (hi : (P.info? ty).map (·.size) = some cs.size)
    (h : wpList P ops Q rest (a.put o.dst (.agg cs)) w) : wpList P ops Q (o :: rest) a w :=
  wpList_step fun K hK => by
    rw [if_pos hw]; exact wp_load_row ty x ho g hx t cs _ d hrow hu hd hi (hK _ _ h)
theorem sv_allocB (hSt : Sv w0 w m L) (hw : Region.wanted o (yielded ops a.tmps) = true) (ty : TypeId) (ho : o.op = .alloc ty) (cs : Array Value) (hz : (P.info? ty).map (·.zero) = some (some (.agg cs))) (ht : ty ≠ 87)
    (h : ∀ g w1, Sv w0 w1 ((g, cs, ty) :: m) L → Below w.heap.size w w1 → wpList P ops Q rest (a.put o.dst (.pointer (some ⟨g, 0, none⟩))) w1) : wpList P ops Q (o :: rest) a w :=
  wpList_val hw (run_alloc w a.eval o ty ho cs hz) (h _ _ (hSt.alloc cs ty ht) ((Below.refl _ _).alloc (Nat.le_refl _) _))
theorem sv_storeO {B : Nat} {e : TypeId} {u : Value} {n : Nat} {xs : List Value} (hown : w.ownsRow B e 2 u n xs) (hSt : Sv w0 w m L) (k : Nat) (hw : Region.wanted o (yielded ops a.tmps) = true) (ty : TypeId) (x y : Operand) (ho : o.op = .store ty x y) (g : Nat) (hx : a.eval x = .pointer (some ⟨g, 0, none⟩)) (cs : Array Value) (hy : a.eval y = .agg cs)
    (old : Array Value) (t : TypeId) (hk : m[k]? = some (g, old, t)) (ht : t ≠ e) (hi : (P.info? ty).map (·.size) = some cs.size) (hold : old.size = cs.size) (h1 : cs.all (·.oneCell') = true)
    (h : ∀ w1, Sv w0 w1 (m.set k (g, cs, t)) L → w1.ownsRow B e 2 u n xs → wpList P ops Q rest (a.put o.dst undef) w1) : wpList P ops Q (o :: rest) a w :=
  wpList_step fun K hK => by
    rw [if_pos hw]; exact wp_store_row ty x y ho g cs hx hy t old (hSt.st.row k hk) hi hold h1 (hK _ _ (h _ (hSt.set k hk cs) (own_setRow hown (own_ne hown (hSt.st.row k hk) ht) cs)))
end
section
variable {ops : Array Oper} {a : Act} {S : World → Prop} {op : Oper}
theorem yields_neqb (hw : Region.wanted op (yielded ops a.tmps) = true) (x y : Operand) (ho : op.op = .binOp .neq 4 x y 4) (b : Bool) (hx : a.eval x = .bool b) (hy : a.eval y = .bool b) : YieldsIf Tryd.prog ops S op (.bool false) a :=
  .inl ⟨hw, fun w _ => by
    have u4 := Tryd.underlying4
    have e2 := fun x y (w : World) => run_equalIn_bool' (P := Tryd.prog) w 9999 4 x y u4
    unfold execOp
    simp only [ho, hx, hy]
    unfold eqGuard
    go_simp⟩
theorem yields_neqi (hw : Region.wanted op (yielded ops a.tmps) = true) (x y : Operand) (ho : op.op = .binOp .neq 39 x y 39) (E : Int) (hx : a.eval x = .int .i64 E) (hy : a.eval y = .int .i64 E) : YieldsIf Tryd.prog ops S op (.bool false) a :=
  .inl ⟨hw, fun w _ => by
    have u39 := Tryd.underlying39
    have e2 := fun x y (w : World) => run_equalIn_int (P := Tryd.prog) w 9999 39 .i64 .i64 x y u39
    unfold execOp
    simp only [ho, hx, hy]
    unfold eqGuard binOp Op.equal
    go_simp⟩
def S4 (g4 g9 g10 g12 : Nat) (r4 r9 r10 r12 : Array Value) (W : World) : Prop := W.heap[g4]? = some (.cells r4 71 (0, 0)) ∧ W.heap[g9]? = some (.cells r9 75 (0, 0)) ∧ W.heap[g10]? = some (.cells r10 75 (0, 0)) ∧ W.heap[g12]? = some (.cells r12 71 (0, 0))
end
def S9 (g4 g9 : Nat) (r4 r9 : Array Value) (W : World) : Prop := W.heap[g4]? = some (.cells r4 71 (0, 0)) ∧ W.heap[g9]? = some (.cells r9 75 (0, 0))
theorem wpOp_callP {P : Program} {ops : Array Oper} {Q : Exit → Act → World → Prop} {i : Nat} {K : Act → World → Prop} {a : Act} {w : World} {o : Oper} (d : Option Tmp) (hi : ops[i]? = some o) (hd : o.dst = d) (hw : Region.wanted o (yielded ops a.tmps) = true) {f : FuncId} {args : Array Value} (hr : (execOp a.eval o).run P w = .ok (.enter f args) w) {R : Ending → World → Prop}
    (hc : Calls P f args w R) (h : ∀ e w', R e w' → ∃ v, e = .returned v ∧ K (a.put d v) w') : wpOp P ops Q i K a w := by
  subst hd
  refine wpOp_wp hi hw ?_
  unfold Oper.wp; rw [hr]
  exact hc.mono fun e w' he => by
    obtain ⟨v, rfl, hk⟩ := h e w' he
    exact hk
set_option maxRecDepth 100000 in
set_option maxHeartbeats 16000000 in
theorem walk (bx : Option Addr) (x : Rc) (dx : Nat) (nodes node : Int) (v : Int × Bool) (w : World) (nx : RcN x) (hvx : Vts w bx x.votes) (_ : -9223372036854775808 ≤ nodes ∧ nodes ≤ 9223372036854775807) (_ : -9223372036854775808 ≤ node ∧ node ≤ 9223372036854775807) (_ : -9223372036854775808 ≤ v.1 ∧ v.1 ≤ 9223372036854775807) (hl : Laid w) (hpos : 0 < w.heap.size) :
    Calls Tryd.prog 21 #[recV x bx x.votes.length dx, .int .i64 nodes, .int .i64 node, votV v] w fun e w' => e = .returned (.bool true) ∧ Below w.heap.size w w' := by
  simp only [recV_row, votV_row]
  obtain ⟨Y, E, nY, lY, hE, hLV, hRV⟩ := voted_any x node v nx hvx.1
  unfold VPost at hLV hRV
  simp only [recV_row, votV_row] at hLV hRV
  have HE := Lib.hid hE
  have HRV := Lib.hid hRV
  have hS := Sv.start hl hpos
  clear hE hRV hl hpos
  go_enter Tryd.func21, Tryd.ntmps21
  go_upto_region 1 with (first
      | (refine sv_box hS (by rfl) 71 (.tmp 0) (by rfl) _ (by rfl) (by decide) ?_; clear hS; intro g4 w1 hS; (simp only [Act.put, List.setIfInBounds_toArray, List.set_cons_zero, List.set_cons_succ]))
      | (refine sv_box hS (by rfl) 89 (.tmp 3) (by rfl) _ (by rfl) (by decide) ?_; clear hS; intro g7 w1 hS; (simp only [Act.put, List.setIfInBounds_toArray, List.set_cons_zero, List.set_cons_succ])))
  go_wp2_with (first
      | (refine sv_load hS 1 (by rfl) 71 (.tmp 4) (by rfl) g4 (by rfl) _ 71 rfl _ Tryd.underlying71 rfl size71 ?_; (simp only [Act.put, List.setIfInBounds_toArray, List.set_cons_zero, List.set_cons_succ])))
  have hc := sv_given hS x bx dx hvx
  refine hc.mono ?_
  rintro e w1 ⟨ax, cx, rfl, hS1⟩
  clear hc hS
  have hS := hS1
  clear hS1
  go_upto_region 2 with (first
      | (refine sv_alloc hS (by rfl) 75 (by rfl) _ zero75 (by decide) ?_; clear hS; intro g9 w1 hS; (simp only [Act.put, List.setIfInBounds_toArray, List.set_cons_zero, List.set_cons_succ]))
      | (refine sv_store hS 0 (by rfl) 75 (.tmp 9) (.tmp 15) (by rfl) g9 (by rfl) (rcRow x ax x.votes.length cx) (by rfl) _ 75 rfl size75 rfl (one_rcRow _ _ _ _) ?_; clear hS; intro w1 hS; (simp only [List.set_cons_zero] at hS); (simp only [Act.put])))
  have q1 := cell_vote1 (hS.st.row 1 rfl)
  have q2 := cell_vote2 (hS.st.row 1 rfl)
  go_wp2_with (first
      | (refine sv_load hS 0 (by rfl) 75 (.tmp 9) (by rfl) g9 (by rfl) _ 75 rfl _ Tryd.underlying75 rfl size75 ?_; (simp only [Act.put, List.setIfInBounds_toArray, List.set_cons_zero, List.set_cons_succ]))
      | (refine st_build (by rfl) 87 #[(0, .tmp 20), (1, .tmp 22)] (by rfl) (vtRow v) (by kernel_rfl) ?_; (simp only [Act.put, List.setIfInBounds_toArray, List.set_cons_zero, List.set_cons_succ])))
  have hc := hLV ax cx w1 (hS.vts 0 rfl) hS.lw hS.pw
  have R4 := Lib.hid (hS.st.row 2 rfl)
  have R7 := Lib.hid (hS.st.row 1 rfl)
  have R9 := Lib.hid (hS.st.row 0 rfl)
  have VX := Lib.hid (hS.vts 0 rfl)
  have VB := Lib.hid (hvx.below hS.st.below)
  have HB2 := Lib.hid hS.st.below
  have hl2 := hS.lw
  have hp2 := hS.pw
  clear hS hLV q1 q2 hvx
  obtain ⟨W2, rfl⟩ : ∃ W2, W2 = w1 := ⟨_, rfl⟩
  refine hc.mono ?_
  rintro e w5 ⟨ay, cy, rfl, ho, hb⟩
  have hS := (Sv.start hl2 hp2).owned hb ho lY
  have HL2 := Lib.hid hl2
  have HP2 := Lib.hid hp2
  clear hc ho hb hl2 hp2
  go_upto_region 3 with (first
      | (refine sv_alloc hS (by rfl) 75 (by rfl) _ zero75 (by decide) ?_; clear hS; intro g10 w1 hS; (simp only [Act.put, List.setIfInBounds_toArray, List.set_cons_zero, List.set_cons_succ]))
      | (refine sv_store hS 0 (by rfl) 75 (.tmp 10) (.tmp 25) (by rfl) g10 (by rfl) (rcRow Y ay Y.votes.length cy) (by rfl) _ 75 rfl size75 rfl (one_rcRow _ _ _ _) ?_; clear hS; intro w1 hS; (simp only [List.set_cons_zero] at hS); (simp only [Act.put])))
  go_wp2_with (first
      | (refine st_loadO (row_below R4.out hS.st.below) (by rfl) 71 (.tmp 4) (by rfl) (by rfl) _ Tryd.underlying71 rfl size71 ?_; (simp only [Act.put, List.setIfInBounds_toArray, List.set_cons_zero, List.set_cons_succ]))
      | (refine st_loadO (row_below R7.out hS.st.below) (by rfl) 89 (.tmp 7) (by rfl) (by rfl) _ Tryd.underlying89 rfl size89 ?_; (simp only [Act.put, List.setIfInBounds_toArray, List.set_cons_zero, List.set_cons_succ])))
  refine (HRV.out bx dx _ (VB.out.below hS.st.below)).mono ?_
  rintro e w6 ⟨az, cz, rfl, ho, hb⟩
  have HZ := Lib.hid (own_mono ho hS.st.below.size)
  have hS1 := hS.call hb
  clear hS ho hb HRV
  have hS := hS1
  clear hS1
  go_upto_region 4 with (first
      | (refine sv_allocB hS (by rfl) 71 (by rfl) _ zero71 (by decide) ?_; clear hS; intro g12 w1 hS hb; have HZ1 := Lib.hid (own_below HZ.out hb); clear hb; (simp only [Act.put, List.setIfInBounds_toArray, List.set_cons_zero, List.set_cons_succ]))
      | (refine sv_storeO HZ1.out hS 0 (by rfl) 71 (.tmp 12) (.tmp 32) (by rfl) g12 (by rfl) (rcRow Y az Y.votes.length cz) (by rfl) _ 71 rfl (by decide) size71 rfl (one_rcRow _ _ _ _) ?_; clear hS; intro w1 hS ho; have HZ2 := Lib.hid ho; clear ho; (simp only [List.set_cons_zero] at hS); (simp only [Act.put])))
  have HZ3 := Lib.hid (HZ2.out.drew)
  refine wp_region_held (S := S4 g4 g9 g10 g12 (rcRow x bx x.votes.length dx) (rcRow x ax x.votes.length cx) (rcRow Y ay Y.votes.length cy) (rcRow Y az Y.votes.length cz)) (by kernel_rfl) ?_
  change wpAnyH Tryd.prog .any _ _ _ (27 + 1) (Array.replicate 28 false) _ w1.drew
  have hS1 : Sv W2 w1.drew _ _ := ⟨hS.st.drew, fun t ht => (hS.own t ht).drew, hS.small, hS.typ, hS.laid, hS.pos⟩
  generalize w1.drew = w7 at *
  clear hS
  have hS := hS1
  clear hS1
  have HS4 : S4 g4 g9 g10 g12 (rcRow x bx x.votes.length dx) (rcRow x ax x.votes.length cx) (rcRow Y ay Y.votes.length cy) (rcRow Y az Y.votes.length cz) w7 := ⟨row_below R4.out hS.st.below, row_below R9.out hS.st.below, hS.st.row 1 rfl, hS.st.row 0 rfl⟩
  refine takeH 0 (some 34) rfl rfl (by kernel_rfl) (by kernel_rfl) (by kernel_rfl) (fun _ _ _ h => h) (yields_row (by rfl) 75 (.tmp 9) (by rfl) g9 (by rfl) (rcRow x ax x.votes.length cx) 75 (fun _ h => h.2.1) _ Tryd.underlying75 rfl size75) HS4 ?_
  (simp only [Act.put, List.setIfInBounds_toArray, List.set_cons_zero, List.set_cons_succ])
  refine takeH 1 (some 35) rfl rfl (by kernel_rfl) (by kernel_rfl) (by kernel_rfl) (fun _ _ _ h => h) (v := .int .i64 nodes) (.inl ⟨by rfl, fun w _ => rfl⟩) HS4 ?_
  (simp only [Act.put, List.setIfInBounds_toArray, List.set_cons_zero, List.set_cons_succ])
  refine takeH 3 (some 37) rfl rfl (by kernel_rfl) (by kernel_rfl) (by kernel_rfl) (fun _ _ _ h => h) (yields_row (by rfl) 71 (.tmp 4) (by rfl) g4 (by rfl) (rcRow x bx x.votes.length dx) 71 (fun _ h => h.1) _ Tryd.underlying71 rfl size71) HS4 ?_
  (simp only [Act.put, List.setIfInBounds_toArray, List.set_cons_zero, List.set_cons_succ])
  refine takeH 4 (some 38) rfl rfl (by kernel_rfl) (by kernel_rfl) (by kernel_rfl) (fun _ _ _ h => h) (v := .int .i64 nodes) (.inl ⟨by rfl, fun w _ => rfl⟩) HS4 ?_
  (simp only [Act.put, List.setIfInBounds_toArray, List.set_cons_zero, List.set_cons_succ])
  refine wpAnyH_all (rs := [2]) (by kernel_rfl) (by simp) ?_
  intro i hi
  obtain rfl : i = 2 := by simpa using hi
  clear hi
  refine wpOp_call (some 36) rfl rfl (by kernel_rfl) (run_callv _ _ _ 67 [.tmp 34, .tmp 35] _ rfl Tryd.call67 [.agg (rcRow x ax x.votes.length cx), .int .i64 nodes] (by rfl)) (wellC x ax cx nodes _ nx.w (VX.out.below hS.st.below) hS.lw hS.pw) ?_
  clear HS4
  intro w8 hb
  have hS1 := hS.call hb
  have HZ4 := Lib.hid (own_below HZ3.out hb)
  clear hS hb HZ3
  have hS := hS1
  have HZ3 := HZ4
  clear hS1 HZ4
  have HS4 : S4 g4 g9 g10 g12 (rcRow x bx x.votes.length dx) (rcRow x ax x.votes.length cx) (rcRow Y ay Y.votes.length cy) (rcRow Y az Y.votes.length cz) w8 := ⟨row_below R4.out hS.st.below, row_below R9.out hS.st.below, hS.st.row 1 rfl, hS.st.row 0 rfl⟩
  refine ⟨HS4, ?_⟩
  (simp only [Act.put, List.setIfInBounds_toArray, List.set_cons_zero, List.set_cons_succ])
  refine wpAnyH_all (rs := [5]) (by kernel_rfl) (by simp) ?_
  intro i hi
  obtain rfl : i = 5 := by simpa using hi
  clear hi
  refine wpOp_call (some 39) rfl rfl (by kernel_rfl) (run_callv _ _ _ 70 [.tmp 37, .tmp 38] _ rfl Tryd.call70 [.agg (rcRow x bx x.votes.length dx), .int .i64 nodes] (by rfl)) (rwellC x bx dx nodes _ nx (VB.out.below hS.st.below)) ?_
  clear HS4
  intro w8 hb
  have hS1 := hS.call hb
  have HZ4 := Lib.hid (own_below HZ3.out hb)
  clear hS hb HZ3
  have hS := hS1
  have HZ3 := HZ4
  clear hS1 HZ4
  have HS4 : S4 g4 g9 g10 g12 (rcRow x bx x.votes.length dx) (rcRow x ax x.votes.length cx) (rcRow Y ay Y.votes.length cy) (rcRow Y az Y.votes.length cz) w8 := ⟨row_below R4.out hS.st.below, row_below R9.out hS.st.below, hS.st.row 1 rfl, hS.st.row 0 rfl⟩
  refine ⟨HS4, ?_⟩
  (simp only [Act.put, List.setIfInBounds_toArray, List.set_cons_zero, List.set_cons_succ])
  refine takeH 6 (some 40) rfl rfl (by kernel_rfl) (by kernel_rfl) (by kernel_rfl) (fun _ _ _ h => h) (yields_neqb (by rfl) (.tmp 36) (.tmp 39) (by rfl) (wellOk x nodes) (by rfl) (by rfl)) HS4 ?_
  (simp only [Act.put, List.setIfInBounds_toArray, List.set_cons_zero, List.set_cons_succ])
  refine takeH 7 (some 41) rfl rfl (by kernel_rfl) (by kernel_rfl) (by kernel_rfl) (fun _ _ _ h => h) (v := .bool false) (.inl ⟨by rfl, fun w _ => rfl⟩) HS4 ?_
  (simp only [Act.put, List.setIfInBounds_toArray, List.set_cons_zero, List.set_cons_succ])
  refine takeH 8 (some 42) rfl rfl (by kernel_rfl) (by kernel_rfl) (by kernel_rfl) (fun _ _ _ h => h) (yields_row (by rfl) 75 (.tmp 9) (by rfl) g9 (by rfl) (rcRow x ax x.votes.length cx) 75 (fun _ h => h.2.1) _ Tryd.underlying75 rfl size75) HS4 ?_
  (simp only [Act.put, List.setIfInBounds_toArray, List.set_cons_zero, List.set_cons_succ])
  refine takeH 9 (some 43) rfl rfl (by kernel_rfl) (by kernel_rfl) (by kernel_rfl) (fun _ _ _ h => h) (v := .int .i64 nodes) (.inl ⟨by rfl, fun w _ => rfl⟩) HS4 ?_
  (simp only [Act.put, List.setIfInBounds_toArray, List.set_cons_zero, List.set_cons_succ])
  refine takeH 11 (some 45) rfl rfl (by kernel_rfl) (by kernel_rfl) (by kernel_rfl) (fun _ _ _ h => h) (yields_row (by rfl) 71 (.tmp 4) (by rfl) g4 (by rfl) (rcRow x bx x.votes.length dx) 71 (fun _ h => h.1) _ Tryd.underlying71 rfl size71) HS4 ?_
  (simp only [Act.put, List.setIfInBounds_toArray, List.set_cons_zero, List.set_cons_succ])
  refine takeH 12 (some 46) rfl rfl (by kernel_rfl) (by kernel_rfl) (by kernel_rfl) (fun _ _ _ h => h) (v := .int .i64 nodes) (.inl ⟨by rfl, fun w _ => rfl⟩) HS4 ?_
  (simp only [Act.put, List.setIfInBounds_toArray, List.set_cons_zero, List.set_cons_succ])
  refine wpAnyH_all (rs := [10]) (by kernel_rfl) (by simp) ?_
  intro i hi
  obtain rfl : i = 10 := by simpa using hi
  clear hi
  refine wpOp_call (some 44) rfl rfl (by kernel_rfl) (run_callv _ _ _ 64 [.tmp 42, .tmp 43] _ rfl Tryd.call64 [.agg (rcRow x ax x.votes.length cx), .int .i64 nodes] (by rfl)) (overC x ax cx nodes _ nx.w (VX.out.below hS.st.below) hS.lw hS.pw) ?_
  clear HS4
  intro w8 hb
  have hS1 := hS.call hb
  have HZ4 := Lib.hid (own_below HZ3.out hb)
  clear hS hb HZ3
  have hS := hS1
  have HZ3 := HZ4
  clear hS1 HZ4
  have HS4 : S4 g4 g9 g10 g12 (rcRow x bx x.votes.length dx) (rcRow x ax x.votes.length cx) (rcRow Y ay Y.votes.length cy) (rcRow Y az Y.votes.length cz) w8 := ⟨row_below R4.out hS.st.below, row_below R9.out hS.st.below, hS.st.row 1 rfl, hS.st.row 0 rfl⟩
  refine ⟨HS4, ?_⟩
  (simp only [Act.put, List.setIfInBounds_toArray, List.set_cons_zero, List.set_cons_succ])
  refine wpAnyH_all (rs := [13]) (by kernel_rfl) (by simp) ?_
  intro i hi
  obtain rfl : i = 13 := by simpa using hi
  clear hi
  refine wpOp_call (some 47) rfl rfl (by kernel_rfl) (run_callv _ _ _ 71 [.tmp 45, .tmp 46] _ rfl Tryd.call71 [.agg (rcRow x bx x.votes.length dx), .int .i64 nodes] (by rfl)) (roverC x bx dx nodes _ nx (VB.out.below hS.st.below)) ?_
  clear HS4
  intro w8 hb
  have hS1 := hS.call hb
  have HZ4 := Lib.hid (own_below HZ3.out hb)
  clear hS hb HZ3
  have hS := hS1
  have HZ3 := HZ4
  clear hS1 HZ4
  have HS4 : S4 g4 g9 g10 g12 (rcRow x bx x.votes.length dx) (rcRow x ax x.votes.length cx) (rcRow Y ay Y.votes.length cy) (rcRow Y az Y.votes.length cz) w8 := ⟨row_below R4.out hS.st.below, row_below R9.out hS.st.below, hS.st.row 1 rfl, hS.st.row 0 rfl⟩
  refine ⟨HS4, ?_⟩
  (simp only [Act.put, List.setIfInBounds_toArray, List.set_cons_zero, List.set_cons_succ])
  refine takeH 14 (some 48) rfl rfl (by kernel_rfl) (by kernel_rfl) (by kernel_rfl) (fun _ _ _ h => h) (yields_neqb (by rfl) (.tmp 44) (.tmp 47) (by rfl) (overOk x nodes) (by rfl) (by rfl)) HS4 ?_
  (simp only [Act.put, List.setIfInBounds_toArray, List.set_cons_zero, List.set_cons_succ])
  refine takeH 15 (some 49) rfl rfl (by kernel_rfl) (by kernel_rfl) (by kernel_rfl) (fun _ _ _ h => h) (v := .bool false) (.inl ⟨by rfl, fun w _ => rfl⟩) HS4 ?_
  (simp only [Act.put, List.setIfInBounds_toArray, List.set_cons_zero, List.set_cons_succ])
  refine takeH 16 (some 50) rfl rfl (by kernel_rfl) (by kernel_rfl) (by kernel_rfl) (fun _ _ _ h => h) (v := .bool false) (.inl ⟨by rfl, fun w _ => rfl⟩) HS4 ?_
  (simp only [Act.put, List.setIfInBounds_toArray, List.set_cons_zero, List.set_cons_succ])
  refine takeH 17 (some 51) rfl rfl (by kernel_rfl) (by kernel_rfl) (by kernel_rfl) (fun _ _ _ h => h) (yields_row (by rfl) 75 (.tmp 10) (by rfl) g10 (by rfl) (rcRow Y ay Y.votes.length cy) 75 (fun _ h => h.2.2.1) _ Tryd.underlying75 rfl size75) HS4 ?_
  (simp only [Act.put, List.setIfInBounds_toArray, List.set_cons_zero, List.set_cons_succ])
  refine takeH 19 (some 53) rfl rfl (by kernel_rfl) (by kernel_rfl) (by kernel_rfl) (fun _ _ _ h => h) (yields_row (by rfl) 71 (.tmp 12) (by rfl) g12 (by rfl) (rcRow Y az Y.votes.length cz) 71 (fun _ h => h.2.2.2) _ Tryd.underlying71 rfl size71) HS4 ?_
  (simp only [Act.put, List.setIfInBounds_toArray, List.set_cons_zero, List.set_cons_succ])
  refine wpAnyH_all (rs := [18]) (by kernel_rfl) (by simp) ?_
  intro i hi
  obtain rfl : i = 18 := by simpa using hi
  clear hi
  refine wpOp_callP (some 52) rfl rfl (by kernel_rfl) (run_callv _ _ _ 73 [.tmp 51] _ rfl Tryd.call73 [.agg (rcRow Y ay Y.votes.length cy)] (by rfl)) (takenC Y ay cy _ (hS.vts 0 rfl)) ?_
  clear HS4
  rintro _ w8 ⟨a', c', rfl, ho, hb⟩
  have hS1 := hS.call hb
  have HQ := Lib.hid (vts_own89 ho lY)
  have HZ4 := Lib.hid (own_below HZ3.out hb)
  clear hS hb ho HZ3
  have hS := hS1
  have HZ3 := HZ4
  clear hS1 HZ4
  refine ⟨_, rfl, ?_⟩
  simp only [recV_row]
  have HS4 : S4 g4 g9 g10 g12 (rcRow x bx x.votes.length dx) (rcRow x ax x.votes.length cx) (rcRow Y ay Y.votes.length cy) (rcRow Y az Y.votes.length cz) w8 := ⟨row_below R4.out hS.st.below, row_below R9.out hS.st.below, hS.st.row 1 rfl, hS.st.row 0 rfl⟩
  refine ⟨HS4, ?_⟩
  (simp only [Act.put, List.setIfInBounds_toArray, List.set_cons_zero, List.set_cons_succ])
  refine wpAnyH_all (rs := [20]) (by kernel_rfl) (by simp) ?_
  intro i hi
  obtain rfl : i = 20 := by simpa using hi
  clear hi
  refine wpOp_call (some 54) rfl rfl (by kernel_rfl) (run_callv _ _ _ 72 [.tmp 52, .tmp 53] _ rfl Tryd.call72 [.agg (rcRow Y a' Y.votes.length c'), .agg (rcRow Y az Y.votes.length cz)] (by rfl)) (rsameSelf Y a' az c' cz _ nY HQ.out (vts_own89 HZ3.out lY)) ?_
  clear HS4
  intro w8 hb
  have hS1 := hS.call hb
  have HZ4 := Lib.hid (own_below HZ3.out hb)
  clear hS hb HZ3
  have hS := hS1
  have HZ3 := HZ4
  clear hS1 HZ4
  have HS4 : S4 g4 g9 g10 g12 (rcRow x bx x.votes.length dx) (rcRow x ax x.votes.length cx) (rcRow Y ay Y.votes.length cy) (rcRow Y az Y.votes.length cz) w8 := ⟨row_below R4.out hS.st.below, row_below R9.out hS.st.below, hS.st.row 1 rfl, hS.st.row 0 rfl⟩
  refine ⟨HS4, ?_⟩
  (simp only [Act.put, List.setIfInBounds_toArray, List.set_cons_zero, List.set_cons_succ])
  refine takeH 21 (some 55) rfl rfl (by kernel_rfl) (by kernel_rfl) (by kernel_rfl) (fun _ _ _ h => h) (v := .bool false) (.inl ⟨by rfl, fun w _ => rfl⟩) HS4 ?_
  (simp only [Act.put, List.setIfInBounds_toArray, List.set_cons_zero, List.set_cons_succ])
  refine takeH 22 (some 56) rfl rfl (by kernel_rfl) (by kernel_rfl) (by kernel_rfl) (fun _ _ _ h => h) (v := .bool false) (.inl ⟨by rfl, fun w _ => rfl⟩) HS4 ?_
  (simp only [Act.put, List.setIfInBounds_toArray, List.set_cons_zero, List.set_cons_succ])
  refine takeH 23 (some 57) rfl rfl (by kernel_rfl) (by kernel_rfl) (by kernel_rfl) (fun _ _ _ h => h) (v := .bool false) (.inl ⟨by rfl, fun w _ => rfl⟩) HS4 ?_
  (simp only [Act.put, List.setIfInBounds_toArray, List.set_cons_zero, List.set_cons_succ])
  refine takeH 24 (some 58) rfl rfl (by kernel_rfl) (by kernel_rfl) (by kernel_rfl) (fun _ _ _ h => h) (v := .int .i64 E) (.inl ⟨by rfl, fun w _ => rfl⟩) HS4 ?_
  (simp only [Act.put, List.setIfInBounds_toArray, List.set_cons_zero, List.set_cons_succ])
  refine takeH 25 (some 59) rfl rfl (by kernel_rfl) (by kernel_rfl) (by kernel_rfl) (fun _ _ _ h => h) (v := .int .i64 E) (.inl ⟨by rfl, fun w _ => rfl⟩) HS4 ?_
  (simp only [Act.put, List.setIfInBounds_toArray, List.set_cons_zero, List.set_cons_succ])
  refine takeH 26 (some 60) rfl rfl (by kernel_rfl) (by kernel_rfl) (by kernel_rfl) (fun _ _ _ h => h) (yields_neqi (by rfl) (.tmp 58) (.tmp 59) (by rfl) E (by rfl) (by rfl)) HS4 ?_
  (simp only [Act.put, List.setIfInBounds_toArray, List.set_cons_zero, List.set_cons_succ])
  refine takeH 27 (some 61) rfl rfl (by kernel_rfl) (by kernel_rfl) (by kernel_rfl) (fun _ _ _ h => h) (v := .bool false) (.inl ⟨by rfl, fun w _ => rfl⟩) HS4 ?_
  (simp only [Act.put, List.setIfInBounds_toArray, List.set_cons_zero, List.set_cons_succ])
  clear HS4 HQ HZ3
  refine wpAnyH_done (by kernel_rfl) ?_ _
  go_upto_region 6 with fail
  by_cases h0 : E = 0
  · have hW := withinC x Y ax ay cx cy w8 nx nY (VX.out.below hS.st.below) (hS.vts 0 rfl) hS.lw hS.pw
    rw [(HE.out h0).1] at hW
    have hY := (HE.out h0).2
    have e0 : (E == 0) = true := by rw [h0]; rfl
    have HY := Lib.hid hY
    clear h0 hY
    simp only [recV_row] at hW
    go_wp2_with (first
        | go_skip
        | (refine st_loadO (row_below R9.out hS.st.below) (by rfl) 75 (.tmp 9) (by rfl) (by rfl) _ Tryd.underlying75 rfl size75 ?_; (simp only [Act.put, List.setIfInBounds_toArray, List.set_cons_zero, List.set_cons_succ]))
        | (refine sv_load hS 1 (by rfl) 75 (.tmp 10) (by rfl) g10 (by rfl) _ 75 rfl _ Tryd.underlying75 rfl size75 ?_; (simp only [Act.put, List.setIfInBounds_toArray, List.set_cons_zero, List.set_cons_succ])))
    refine hW.mono ?_
    rintro e w9 ⟨rfl, hb⟩
    have hS1 := hS.call hb
    clear hS hb hW
    have hS := hS1
    clear hS1
    go_wp2_with (first
        | go_skip
        | (refine sv_load hS 1 (by rfl) 75 (.tmp 10) (by rfl) g10 (by rfl) _ 75 rfl _ Tryd.underlying75 rfl size75 ?_; (simp only [Act.put, List.setIfInBounds_toArray, List.set_cons_zero, List.set_cons_succ])))
    have hW := rcRightC Y ay cy w9 nY.w (hS.vts 0 rfl) hS.lw hS.pw
    rw [HY.out] at hW
    refine hW.mono ?_
    rintro e w8 ⟨rfl, hb⟩
    have hS1 := hS.call hb
    clear hS hb hW
    have hS := hS1
    clear hS1
    go_upto_region 8 with fail
    have q1 := cell_votes (hS.st.row 1 rfl)
    go_wp2_with fail
    refine (spoilC W2 w8 hS.st.below ay Y.votes.length cy (flatV Y.votes) lY (hS.own _ List.mem_cons_self)).mono ?_
    rintro e w9 ⟨rfl, hb⟩
    clear q1 hS
    go_upto_region 9 with fail
    refine wp_region_held (S := S9 g4 g9 (rcRow x bx x.votes.length dx) (rcRow x ax x.votes.length cx)) (by kernel_rfl) ?_
    change wpAnyH Tryd.prog .any _ _ _ (7 + 1) (Array.replicate 8 false) _ w9.drew
    have hB : Below W2.heap.size W2 w9.drew := hb.drew
    generalize w9.drew = w10 at *
    clear hb
    have HS4 : S9 g4 g9 (rcRow x bx x.votes.length dx) (rcRow x ax x.votes.length cx) w10 := ⟨row_below R4.out hB, row_below R9.out hB⟩
    refine takeH 0 (some 78) rfl rfl (by kernel_rfl) (by kernel_rfl) (by kernel_rfl) (fun _ _ _ h => h) (yields_row (by rfl) 75 (.tmp 9) (by rfl) g9 (by rfl) (rcRow x ax x.votes.length cx) 75 (fun _ h => h.2) _ Tryd.underlying75 rfl size75) HS4 ?_
    (simp only [Act.put, List.setIfInBounds_toArray, List.set_cons_zero, List.set_cons_succ])
    refine takeH 2 (some 80) rfl rfl (by kernel_rfl) (by kernel_rfl) (by kernel_rfl) (fun _ _ _ h => h) (yields_row (by rfl) 71 (.tmp 4) (by rfl) g4 (by rfl) (rcRow x bx x.votes.length dx) 71 (fun _ h => h.1) _ Tryd.underlying71 rfl size71) HS4 ?_
    (simp only [Act.put, List.setIfInBounds_toArray, List.set_cons_zero, List.set_cons_succ])
    refine wpAnyH_all (rs := [1]) (by kernel_rfl) (by simp) ?_
    intro i hi
    obtain rfl : i = 1 := by simpa using hi
    clear hi
    refine wpOp_callP (some 79) rfl rfl (by kernel_rfl) (run_callv _ _ _ 73 [.tmp 78] _ rfl Tryd.call73 [.agg (rcRow x ax x.votes.length cx)] (by rfl)) (takenC x ax cx _ (VX.out.below hB)) ?_
    rintro _ w11 ⟨a2, c2, rfl, ho, hb⟩
    have HQ := Lib.hid (vts_own89 ho VX.out.1)
    clear ho
    have hB1 := hB.trans (hb.mono hB.size)
    clear hB hb HS4
    have hB := hB1
    clear hB1
    have HS4 : S9 g4 g9 (rcRow x bx x.votes.length dx) (rcRow x ax x.votes.length cx) w11 := ⟨row_below R4.out hB, row_below R9.out hB⟩
    refine ⟨_, rfl, ?_⟩
    simp only [recV_row]
    refine ⟨HS4, ?_⟩
    (simp only [Act.put, List.setIfInBounds_toArray, List.set_cons_zero, List.set_cons_succ])
    refine wpAnyH_all (rs := [3]) (by kernel_rfl) (by simp) ?_
    intro i hi
    obtain rfl : i = 3 := by simpa using hi
    clear hi
    refine wpOp_call (some 81) rfl rfl (by kernel_rfl) (run_callv _ _ _ 72 [.tmp 79, .tmp 80] _ rfl Tryd.call72 [.agg (rcRow x a2 x.votes.length c2), .agg (rcRow x bx x.votes.length dx)] (by rfl)) (rsameSelf x a2 bx c2 dx _ nx HQ.out (VB.out.below hB)) ?_
    intro w12 hb
    clear HQ
    have hB1 := hB.trans (hb.mono hB.size)
    clear hB hb HS4
    have hB := hB1
    clear hB1
    have HS4 : S9 g4 g9 (rcRow x bx x.votes.length dx) (rcRow x ax x.votes.length cx) w12 := ⟨row_below R4.out hB, row_below R9.out hB⟩
    refine ⟨HS4, ?_⟩
    (simp only [Act.put, List.setIfInBounds_toArray, List.set_cons_zero, List.set_cons_succ])
    refine takeH 4 (some 82) rfl rfl (by kernel_rfl) (by kernel_rfl) (by kernel_rfl) (fun _ _ _ h => h) (v := .bool true) (.inl ⟨by rfl, fun w _ => rfl⟩) HS4 ?_
    (simp only [Act.put, List.setIfInBounds_toArray, List.set_cons_zero, List.set_cons_succ])
    refine wpAnyH_all (rs := [5]) (by kernel_rfl) (by simp) ?_
    intro i hi
    obtain rfl : i = 5 := by simpa using hi
    clear hi
    refine wpOp_call (some 83) rfl rfl (by kernel_rfl) (run_callv _ _ _ 62 [] _ rfl Tryd.call62 [] (by rfl)) (known12 _ (HL2.out.below hB HP2.out) (Nat.lt_of_lt_of_le HP2.out hB.size)) ?_
    intro w13 hb
    have hB1 := hB.trans (hb.mono hB.size)
    clear hB hb HS4
    have hB := hB1
    clear hB1
    have HS4 : S9 g4 g9 (rcRow x bx x.votes.length dx) (rcRow x ax x.votes.length cx) w13 := ⟨row_below R4.out hB, row_below R9.out hB⟩
    refine ⟨HS4, ?_⟩
    (simp only [Act.put, List.setIfInBounds_toArray, List.set_cons_zero, List.set_cons_succ])
    refine takeH 6 (some 84) rfl rfl (by kernel_rfl) (by kernel_rfl) (by kernel_rfl) (fun _ _ _ h => h) (v := .bool true) (.inl ⟨by rfl, fun w _ => rfl⟩) HS4 ?_
    (simp only [Act.put, List.setIfInBounds_toArray, List.set_cons_zero, List.set_cons_succ])
    refine takeH 7 (some 8) rfl rfl (by kernel_rfl) (by kernel_rfl) (by kernel_rfl) (fun _ _ _ h => h) (v := .bool true) (.inl ⟨by rfl, fun w _ => rfl⟩) HS4 ?_
    (simp only [Act.put, List.setIfInBounds_toArray, List.set_cons_zero, List.set_cons_succ])
    have HBF := Lib.hid (HB2.out.trans (hB.mono HB2.out.size))
    clear HS4 hB
    refine wpAnyH_done (by kernel_rfl) ?_ _
    go_wp2_with fail
    go_ret
    exact ⟨rfl, HBF.out⟩
  · have e0 : (E == 0) = false := by rw [beq_eq_false_iff_ne]; exact h0
    clear h0
    go_upto_region 8 with fail
    have q1 := cell_votes (hS.st.row 1 rfl)
    go_wp2_with fail
    refine (spoilC W2 w8 hS.st.below ay Y.votes.length cy (flatV Y.votes) lY (hS.own _ List.mem_cons_self)).mono ?_
    rintro e w9 ⟨rfl, hb⟩
    clear q1 hS
    go_upto_region 9 with fail
    refine wp_region_held (S := S9 g4 g9 (rcRow x bx x.votes.length dx) (rcRow x ax x.votes.length cx)) (by kernel_rfl) ?_
    change wpAnyH Tryd.prog .any _ _ _ (7 + 1) (Array.replicate 8 false) _ w9.drew
    have hB : Below W2.heap.size W2 w9.drew := hb.drew
    generalize w9.drew = w10 at *
    clear hb
    have HS4 : S9 g4 g9 (rcRow x bx x.votes.length dx) (rcRow x ax x.votes.length cx) w10 := ⟨row_below R4.out hB, row_below R9.out hB⟩
    refine takeH 0 (some 78) rfl rfl (by kernel_rfl) (by kernel_rfl) (by kernel_rfl) (fun _ _ _ h => h) (yields_row (by rfl) 75 (.tmp 9) (by rfl) g9 (by rfl) (rcRow x ax x.votes.length cx) 75 (fun _ h => h.2) _ Tryd.underlying75 rfl size75) HS4 ?_
    (simp only [Act.put, List.setIfInBounds_toArray, List.set_cons_zero, List.set_cons_succ])
    refine takeH 2 (some 80) rfl rfl (by kernel_rfl) (by kernel_rfl) (by kernel_rfl) (fun _ _ _ h => h) (yields_row (by rfl) 71 (.tmp 4) (by rfl) g4 (by rfl) (rcRow x bx x.votes.length dx) 71 (fun _ h => h.1) _ Tryd.underlying71 rfl size71) HS4 ?_
    (simp only [Act.put, List.setIfInBounds_toArray, List.set_cons_zero, List.set_cons_succ])
    refine wpAnyH_all (rs := [1]) (by kernel_rfl) (by simp) ?_
    intro i hi
    obtain rfl : i = 1 := by simpa using hi
    clear hi
    refine wpOp_callP (some 79) rfl rfl (by kernel_rfl) (run_callv _ _ _ 73 [.tmp 78] _ rfl Tryd.call73 [.agg (rcRow x ax x.votes.length cx)] (by rfl)) (takenC x ax cx _ (VX.out.below hB)) ?_
    rintro _ w11 ⟨a2, c2, rfl, ho, hb⟩
    have HQ := Lib.hid (vts_own89 ho VX.out.1)
    clear ho
    have hB1 := hB.trans (hb.mono hB.size)
    clear hB hb HS4
    have hB := hB1
    clear hB1
    have HS4 : S9 g4 g9 (rcRow x bx x.votes.length dx) (rcRow x ax x.votes.length cx) w11 := ⟨row_below R4.out hB, row_below R9.out hB⟩
    refine ⟨_, rfl, ?_⟩
    simp only [recV_row]
    refine ⟨HS4, ?_⟩
    (simp only [Act.put, List.setIfInBounds_toArray, List.set_cons_zero, List.set_cons_succ])
    refine wpAnyH_all (rs := [3]) (by kernel_rfl) (by simp) ?_
    intro i hi
    obtain rfl : i = 3 := by simpa using hi
    clear hi
    refine wpOp_call (some 81) rfl rfl (by kernel_rfl) (run_callv _ _ _ 72 [.tmp 79, .tmp 80] _ rfl Tryd.call72 [.agg (rcRow x a2 x.votes.length c2), .agg (rcRow x bx x.votes.length dx)] (by rfl)) (rsameSelf x a2 bx c2 dx _ nx HQ.out (VB.out.below hB)) ?_
    intro w12 hb
    clear HQ
    have hB1 := hB.trans (hb.mono hB.size)
    clear hB hb HS4
    have hB := hB1
    clear hB1
    have HS4 : S9 g4 g9 (rcRow x bx x.votes.length dx) (rcRow x ax x.votes.length cx) w12 := ⟨row_below R4.out hB, row_below R9.out hB⟩
    refine ⟨HS4, ?_⟩
    (simp only [Act.put, List.setIfInBounds_toArray, List.set_cons_zero, List.set_cons_succ])
    refine takeH 4 (some 82) rfl rfl (by kernel_rfl) (by kernel_rfl) (by kernel_rfl) (fun _ _ _ h => h) (v := .bool true) (.inl ⟨by rfl, fun w _ => rfl⟩) HS4 ?_
    (simp only [Act.put, List.setIfInBounds_toArray, List.set_cons_zero, List.set_cons_succ])
    refine wpAnyH_all (rs := [5]) (by kernel_rfl) (by simp) ?_
    intro i hi
    obtain rfl : i = 5 := by simpa using hi
    clear hi
    refine wpOp_call (some 83) rfl rfl (by kernel_rfl) (run_callv _ _ _ 62 [] _ rfl Tryd.call62 [] (by rfl)) (known12 _ (HL2.out.below hB HP2.out) (Nat.lt_of_lt_of_le HP2.out hB.size)) ?_
    intro w13 hb
    have hB1 := hB.trans (hb.mono hB.size)
    clear hB hb HS4
    have hB := hB1
    clear hB1
    have HS4 : S9 g4 g9 (rcRow x bx x.votes.length dx) (rcRow x ax x.votes.length cx) w13 := ⟨row_below R4.out hB, row_below R9.out hB⟩
    refine ⟨HS4, ?_⟩
    (simp only [Act.put, List.setIfInBounds_toArray, List.set_cons_zero, List.set_cons_succ])
    refine takeH 6 (some 84) rfl rfl (by kernel_rfl) (by kernel_rfl) (by kernel_rfl) (fun _ _ _ h => h) (v := .bool true) (.inl ⟨by rfl, fun w _ => rfl⟩) HS4 ?_
    (simp only [Act.put, List.setIfInBounds_toArray, List.set_cons_zero, List.set_cons_succ])
    refine takeH 7 (some 8) rfl rfl (by kernel_rfl) (by kernel_rfl) (by kernel_rfl) (fun _ _ _ h => h) (v := .bool true) (.inl ⟨by rfl, fun w _ => rfl⟩) HS4 ?_
    (simp only [Act.put, List.setIfInBounds_toArray, List.set_cons_zero, List.set_cons_succ])
    have HBF := Lib.hid (HB2.out.trans (hB.mono HB2.out.size))
    clear HS4 hB
    refine wpAnyH_done (by kernel_rfl) ?_ _
    go_wp2_with fail
    go_ret
    exact ⟨rfl, HBF.out⟩
end Go.Proofs.YtniejpfjbifjkaaDoor.lifeTells

namespace Go.Proofs.YtniejpfjbifjkaaDoor.lifeTells
open Go.ChangeShapes Go.WideShapes Go.ChangeAt Go.RowKit Fl

theorem hpar : ∀ t ∈ Tryd.f21.params.toList, Tryd.prog.readableRec t = true ∧ t < Tryd.prog.types.size := by
  rw [Tryd.params21]
  intro t ht
  simp only [List.mem_cons, List.not_mem_nil, or_false] at ht
  rcases ht with rfl | rfl | rfl | rfl <;> exact ⟨by kernel_rfl, of_decide_eq_true (by kernel_rfl)⟩
set_option maxRecDepth 100000 in
theorem contract (H : Type) (enc : TypeId × Value → H) (W : World) (base : Nat) (args : Array Value) (ds gs : List (DataW H)) (before : List MemPlace)
    (hval : ∀ (j : Nat) t v, Tryd.f21.params[j]? = some t → args[j]? = some v → Value.okWide Tryd.prog W .any base t v)
    (hW : DataW.Whole enc Tryd.prog Tryd.f21.params.toList Rows.lifeTellsSpec.vars false W args.toList ds gs before) (hL : laidMetH Tryd.prog Rows.lifeTellsRow.laid W)
    (hsz0 : (DataW.weightsEach Tryd.prog (Tryd.f21.params.toList ++ Rows.lifeTellsSpec.plain.varTypes Tryd.prog) (ds ++ gs)).all (· ≤ reachBytes) = true)
    : Calls Tryd.prog 21 args W fun e W' => ∃ v, e = .returned v ∧ Rows.lifeTellsSpec.post enc Tryd.prog Tryd.f21 false true false false W args v W' := by
  have hW' := hW
  obtain ⟨p, q, hA0, hV, rfl, hfz, hnd⟩ := hW
  have hA : DataW.TrodAll enc Tryd.prog W 0 (fun _ => true) true Tryd.f21.params.toList args.toList ds p := hA0
  rw [Tryd.params21] at hA hval hsz0
  obtain ⟨v0, vs0, d0, ds0, p0, q0, hargs, rfl, rfl, h0, r0⟩ := trodAll_cons hA
  obtain ⟨v1, vs1, d1, ds1, p1, q1, rfl, rfl, rfl, h1, r1⟩ := trodAll_cons r0
  obtain ⟨v2, vs2, d2, ds2, p2, q2, rfl, rfl, rfl, h2, r2⟩ := trodAll_cons r1
  obtain ⟨v3, vs3, d3, ds3, p3, q3, rfl, rfl, rfl, h3, r3⟩ := trodAll_cons r2
  obtain ⟨rfl, rfl, rfl⟩ := trodAll_nil r3
  obtain rfl : args = #[v0, v1, v2, v3] := by cases args; simp_all
  obtain ⟨rfl, rfl⟩ := trodVars_none hV
  obtain ⟨a0, x0, c0, rfl, n0, f0⟩ := open_rec (hval 0 71 v0 rfl rfl) h0 (fun n hn => by have := List.all_eq_true.1 hsz0 n (DataW.weights_mem_each (j := 0) rfl rfl n hn); simpa using this)
  obtain ⟨x1, rfl, rfl, rfl, w1⟩ := open_int Tryd.underlying3 (hval 1 3 v1 rfl rfl) h1
  obtain ⟨x2, rfl, rfl, rfl, w2⟩ := open_int Tryd.underlying3 (hval 2 3 v2 rfl rfl) h2
  obtain ⟨x3, rfl, f3⟩ := open_vote (hval 3 89 v3 rfl rfl) h3
  obtain ⟨hl, hpos⟩ := laid_of hL
  refine (walk a0 x0 c0 x1 x2 x3 W n0 f0 (wf_i64 w1) (wf_i64 w2) f3 hl hpos).mono fun e W' ⟨he, hb⟩ => ?_
  subst he
  exact ⟨_, rfl, law_post rfl rfl hpar rfl hW' hb⟩

theorem laid_met (os : Os) : laidMet Tryd.prog Rows.lifeTellsRow.laid ((laidWorld os).forCall (fun _ _ => 0) ⟨#[], #[.agg #[.int .i64 0, .int .i64 0, .int .i64 0, .int .i64 0, .bool false, .int .u8 0, .int .u8 0, .int .u8 0, .int .u8 0, .int .u8 0, .int .u8 0, .int .u8 0, .int .u8 0, .int .u8 0, .int .u8 0, .int .u8 0, .int .u8 0, .int .u8 0, .int .u8 0, .int .u8 0, .int .u8 0, .float .f64 0, .slice none 0 0, .int .i64 0], .int .i64 0, .int .i64 0, .agg #[.int .i64 0, .bool false]], []⟩).memory :=
  laidMet_of_run' 8 (by kernel_rfl) (by kernel_rfl)
theorem reads (os : Os) {H : Type} (enc : TypeId × Value → H) : ∃ places, DataW.whole enc Tryd.prog ((laidWorld os).forCall (fun _ _ => 0) ⟨#[], #[.agg #[.int .i64 0, .int .i64 0, .int .i64 0, .int .i64 0, .bool false, .int .u8 0, .int .u8 0, .int .u8 0, .int .u8 0, .int .u8 0, .int .u8 0, .int .u8 0, .int .u8 0, .int .u8 0, .int .u8 0, .int .u8 0, .int .u8 0, .int .u8 0, .int .u8 0, .int .u8 0, .int .u8 0, .float .f64 0, .slice none 0 0, .int .i64 0], .int .i64 0, .int .i64 0, .agg #[.int .i64 0, .bool false]], []⟩).memory Tryd.f21.params.toList Rows.lifeTellsSpec.vars false #[Value.agg #[.int .i64 0, .int .i64 0, .int .i64 0, .int .i64 0, .bool false, .int .u8 0, .int .u8 0, .int .u8 0, .int .u8 0, .int .u8 0, .int .u8 0, .int .u8 0, .int .u8 0, .int .u8 0, .int .u8 0, .int .u8 0, .int .u8 0, .int .u8 0, .int .u8 0, .int .u8 0, .int .u8 0, .float .f64 0, .slice none 0 0, .int .i64 0], .int .i64 0, .int .i64 0, .agg #[.int .i64 0, .bool false]].toList 8 = some ([.agg [.lit (.int .i64 0), .lit (.int .i64 0), .agg [.lit (.int .i64 0), .lit (.int .i64 0), .agg [.lit (.bool false), .agg [.lit (.int .u8 0), .lit (.int .u8 0), .lit (.int .u8 0), .lit (.int .u8 0), .lit (.int .u8 0), .lit (.int .u8 0), .lit (.int .u8 0), .lit (.int .u8 0), .lit (.int .u8 0), .lit (.int .u8 0), .lit (.int .u8 0), .lit (.int .u8 0), .lit (.int .u8 0), .lit (.int .u8 0), .lit (.int .u8 0), .lit (.int .u8 0)]], .lit (.float .f64 0)], .nil, .lit (.int .i64 0)], .lit (.int .i64 0), .lit (.int .i64 0), .agg [.lit (.int .i64 0), .lit (.bool false)]], [], places) :=
  ⟨[], by kernel_rfl⟩

set_option maxRecDepth 100000 in
theorem lifted (os : Os) (started : os.Started) (H : Type) (enc : TypeId × Value → H) (F : Stop.Interp) :
    ReturnsInHanded {} Tryd.checked os 21 .any ((OpenSpec.ofChange Rows.lifeTellsSpec).preRow enc Tryd.prog Tryd.f21 Rows.lifeTellsRow.domain false Rows.lifeTellsRow.laid) (((OpenSpec.ofChange Rows.lifeTellsSpec).at F).post enc Tryd.prog Tryd.f21 false true false false) := by
  obtain ⟨places, hx⟩ := reads os enc
  refine returnsInHanded_of_row (C := Tryd.checked) (s := OpenSpec.ofChange Rows.lifeTellsSpec) own started (by kernel_rfl) Tryd.func21
    (witness_row_at (enc := enc) (C := Tryd.checked) false (laidWorld os) #[.agg #[.int .i64 0, .int .i64 0, .int .i64 0, .int .i64 0, .bool false, .int .u8 0, .int .u8 0, .int .u8 0, .int .u8 0, .int .u8 0, .int .u8 0, .int .u8 0, .int .u8 0, .int .u8 0, .int .u8 0, .int .u8 0, .int .u8 0, .int .u8 0, .int .u8 0, .int .u8 0, .int .u8 0, .float .f64 0, .slice none 0 0, .int .i64 0], .int .i64 0, .int .i64 0, .agg #[.int .i64 0, .bool false]] rfl (by kernel_rfl) (by kernel_rfl) (by kernel_rfl)
      (OpenSpec.preRow_of_cond 8 hx (by kernel_rfl) (fun k hk => by cases hk) (by kernel_rfl) (laid_met os))) ?_
  intro W base args ds gs before hval hW _ _ hsz hL _ _
  exact contract H enc W base args ds gs before hval hW hL hsz

theorem small : smallFacts Tryd.prog Tryd.f21 Rows.lifeTellsSpec Rows.lifeTellsRow = true := by kernel_rfl
theorem inPlace1 : Rows.lifeTellsRow.inPlace = Tryd.prog.inPlace 21 := by kernel_rfl
theorem unfollowed1 : Rows.lifeTellsRow.unfollowed = Tryd.prog.unfollowed 21 := by kernel_rfl
theorem recurses1 : Rows.lifeTellsRow.recurses = Tryd.prog.recurses 21 := by kernel_rfl
theorem named1 : Rows.lifeTellsRow.named = Tryd.prog.varsNamed 21 := by kernel_rfl
theorem closed : joinedFacts Tryd.prog 21 Tryd.f21 Rows.lifeTellsSpec Rows.lifeTellsRow = true :=
  joined_of small laidOut mapsRowed0 stops0 stopKnobs0 stopsHeard0 mayEnter liftsFinal.symm make0 plainKeys0.symm inPlace1 unfollowed1 recurses1 named1
theorem numbered : Tryd.pinned.checked.prog.funcNamed Rows.lifeTellsRow.func = some 21 := by kernel_rfl
set_option maxRecDepth 100000 in
theorem said : Rows.LifeTellsSaid :=
  OpenClaim.holds_of_cond 21 Tryd.f21 rfl rfl rfl rfl rfl rfl rfl ⟨rfl, rfl, rfl, rfl, rfl⟩ rfl rfl rfl rfl rfl numbered Tryd.func21 closed
    (of_decide_eq_true (by kernel_rfl)) (by unfold Func.isWrapper; first | (rw [if_pos (by decide +kernel)]; kernel_rfl) | (rw [if_neg (by decide +kernel)]; exact ⟨rfl, rfl⟩))
    (fun os started H enc _ F => by rw [OpenClaim.pre_eq_preRow]; exact lifted os started H enc F)

theorem plain (f : FuncId) (fn : Func) (hf : Tryd.pinned.checked.prog.funcNamed "steelyard/steelyardlaw12.LifeTells" = some f) (hfn : Tryd.pinned.checked.prog.funcs[f]? = some fn) :
    false = Tryd.pinned.checked.prog.looks [] ∧ ∀ (j : Nat) t, fn.params[j]? = some t → Tryd.pinned.checked.prog.wantsStandIn t = false := by
  obtain rfl : f = 21 := Option.some.inj ((show Tryd.prog.funcNamed "steelyard/steelyardlaw12.LifeTells" = some 21 by kernel_rfl).symm.trans hf) |>.symm
  obtain rfl : fn = Tryd.f21 := (Option.some.inj (Tryd.func21.symm.trans hfn)).symm
  refine ⟨by kernel_rfl, fun j t ht => ?_⟩
  rw [Tryd.params21] at ht
  have ht' := Array.mem_of_getElem? ht
  simp only [List.mem_toArray, List.mem_cons, List.not_mem_nil, or_false] at ht'
  rcases ht' with rfl | rfl | rfl | rfl <;> exact (show Tryd.prog.wantsStandIn _ = false by kernel_rfl)

theorem goes1 : false = Rows.lifeTellsRow.goesBy Tryd.pinned.checked.prog := by kernel_rfl
theorem wfBy1 : Rows.lifeTellsRow.wfByText (OpenSpec.ofChange Rows.lifeTellsSpec) = true := by kernel_rfl
theorem card : Rows.LifeTellsCardSaid :=
  Claim7.holds_tied_plain_at .later [] _ _ _ _ said (fun _ h => by cases h) wfBy1 (fun _ h => by cases h) lifeTells_row_tie rfl ⟨rfl, rfl⟩ mainIs0 rfl plain goes1
#print axioms card
end Go.Proofs.YtniejpfjbifjkaaDoor.lifeTells
