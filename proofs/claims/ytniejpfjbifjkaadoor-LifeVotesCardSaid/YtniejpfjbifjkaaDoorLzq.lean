/- Votes and flows, in plain Lean: what LifeVotes and LifeEach ask. -/
import Derived.Test.YtniejpfjbifjkaaDoorLze
namespace Go.Proofs.YtniejpfjbifjkaaDoor
open Go.RowKit Fl

theorem rc_ext {r s : Rc} (h1 : r.gen = s.gen) (h2 : r.life = s.life) (h3 : r.spec = s.spec) (h4 : r.votes = s.votes) (h5 : r.done = s.done) : r = s := by
  cases r; cases s
  simp only at h1 h2 h3 h4 h5
  subst h1; subst h2; subst h3; subst h4; subst h5
  rfl
theorem bits_or_self {x : Int} (h : 0 ≤ x ∧ x ≤ 65535) : bits BinOp.or .i64 x x = x := by
  rw [bits_or h h, Nat.or_self]; omega
/-- with other votes. -/
theorem votedR_eq {r : Rc} (hr : Gd r) (k : Nat) (v : Int × Bool) : votedR r k v = { r with votes := votesTo r.votes (List.replicate k vt0 ++ [v]) (max r.votes.length (k + 1)) } := by
  unfold votedR joinR
  rw [if_neg (by show ¬ r.gen < r.gen; omega), if_neg (by show ¬ r.gen < r.gen; omega)]
  refine rc_ext rfl ?_ (spj_self _) ?_ (bits_or_self hr.done)
  · show (if r.life < r.life then r.life else r.life) = r.life
    split <;> rfl
  · show votesTo _ _ _ = votesTo _ _ _
    congr 1
    simp [withVote]
theorem getD_one (k : Nat) (v : Int × Bool) (i : Nat) : (List.replicate k vt0 ++ [v]).getD i vt0 = if i = k then v else vt0 := by
  by_cases h : i = k
  · subst h; simp [List.getD]
  · rw [if_neg h]
    rcases Nat.lt_or_ge i k with h' | h'
    · simp [List.getD]
      rw [List.getElem?_append_left (by simpa using h')]
      simp [h']
    · exact getD_over (by simp; omega)
theorem votedR_votes {r : Rc} (hr : Gd r) (k : Nat) (v : Int × Bool) (i : Nat) : (votedR r k v).votes.getD i vt0 = if i = k then lv (r.votes.getD i vt0) v else lv (r.votes.getD i vt0) vt0 := by
  rw [votedR_eq hr]
  show (votesTo _ _ _).getD i vt0 = _
  rw [getD_votesTo, getD_one]
  by_cases h : i = k
  · rw [if_pos h, if_pos h, if_pos (by omega)]
  · rw [if_neg h, if_neg h]
    split
    · rfl
    · rw [getD_over (by omega), lv_self]
theorem votedR_len {r : Rc} (hr : Gd r) (k : Nat) (v : Int × Bool) : (votedR r k v).votes.length = max r.votes.length (k + 1) := by
  rw [votedR_eq hr]; exact votesTo_len _ _ _
theorem lv_zero {v : Int × Bool} (h : 0 < v.1) : lv v vt0 = v := by
  unfold lv
  rw [if_neg]
  rw [ordV_key]
  unfold vkey vt0
  simp only [Bool.false_eq_true, if_false]
  split <;> omega
theorem lv_zero' {v : Int × Bool} (h : 0 < v.1) : lv vt0 v = v := by rw [lv_comm]; exact lv_zero h
def nVotes (k : Nat) (b : Int) : List (Int × Bool) := List.replicate k (b, false)
theorem nVotes_getD (k : Nat) (b : Int) (i : Nat) : (nVotes k b).getD i vt0 = if i < k then (b, false) else vt0 := by
  unfold nVotes
  by_cases h : i < k
  · rw [if_pos h]; simp [List.getD, h]
  · rw [if_neg h]; exact getD_over (by simp; omega)
def wv (x : Rc) (l : List (Int × Bool)) : Rc := { x with votes := l }
theorem wv_Gd {x : Rc} (h : Gd x) (l : List (Int × Bool)) : Gd (wv x l) := ⟨h.spec, h.done⟩
theorem votedR_wv {x : Rc} (h : Gd x) (l m : List (Int × Bool)) (k : Nat) (v : Int × Bool) (hn : max l.length (k + 1) = m.length) (hm : ∀ i, (if i = k then lv (l.getD i vt0) v else lv (l.getD i vt0) vt0) = m.getD i vt0) : votedR (wv x l) k v = wv x m := by
  have h1 := votedR_votes (wv_Gd h l) k v
  have h2 := votedR_len (wv_Gd h l) k v
  have h3 := votedR_eq (wv_Gd h l) k v
  have hv : (votedR (wv x l) k v).votes = m := votes_eq (by rw [h2]; exact hn) (fun i => by rw [h1 i]; exact hm i)
  rw [h3] at hv ⊢
  exact rc_ext rfl rfl rfl hv rfl
theorem vote_later {x : Rc} (h : Gd x) (k : Nat) {b : Int} (hb : 0 < b) : votedR (wv x (nVotes k b)) k (b, false) = wv x (nVotes (k + 1) b) := by
  refine votedR_wv h _ _ k _ (by simp [nVotes]) (fun i => ?_)
  rw [nVotes_getD, nVotes_getD]
  by_cases e : i = k
  · subst e; rw [if_pos rfl, if_neg (by omega), if_pos (by omega)]; exact lv_zero' hb
  · rw [if_neg e]
    by_cases hi : i < k
    · rw [if_pos hi, if_pos (by omega)]; exact lv_zero hb
    · rw [if_neg hi, if_neg (by omega), lv_self]
theorem vote_earlier {x : Rc} (h : Gd x) (k : Nat) {a b : Int} (ha : 0 < a) (hb : a < b) : votedR (wv x (nVotes (k + 1) b)) k (a, true) = wv x (nVotes (k + 1) b) := by
  refine votedR_wv h _ _ k _ (by simp [nVotes]) (fun i => ?_)
  rw [nVotes_getD]
  by_cases e : i = k
  · subst e; rw [if_pos rfl, if_pos (by omega)]
    unfold lv
    rw [if_neg]
    rw [ordV_key]; unfold vkey; simp; omega
  · rw [if_neg e]
    split
    · exact lv_zero (by show 0 < b; omega)
    · exact lv_self _
theorem vote_first {x : Rc} (h : Gd x) (k : Nat) {a b : Int} (ha : 0 < a) (hb : 0 < b) : votedR (wv x (nVotes k b)) k (a, true) = wv x (nVotes k b ++ [(a, true)]) := by
  refine votedR_wv h _ _ k _ (by simp [nVotes]) (fun i => ?_)
  rw [nVotes_getD]
  have hg : (nVotes k b ++ [(a, true)]).getD i vt0 = if i < k then (b, false) else if i = k then (a, true) else vt0 := by
    unfold nVotes
    by_cases h1 : i < k
    · rw [if_pos h1]; simp [List.getD]; rw [List.getElem?_append_left (by simpa using h1)]; simp [h1]
    · rw [if_neg h1]
      by_cases h2 : i = k
      · subst h2; simp [List.getD]
      · rw [if_neg h2]; exact getD_over (by simp; omega)
  rw [hg]
  by_cases e : i = k
  · subst e; rw [if_pos rfl, if_neg (by omega), if_neg (by omega), if_pos rfl]; exact lv_zero' ha
  · rw [if_neg e, if_neg e]
    by_cases hi : i < k
    · rw [if_pos hi]; exact lv_zero hb
    · rw [if_neg hi]; exact lv_self _
theorem vote_then {x : Rc} (h : Gd x) (k : Nat) {a b : Int} (ha : 0 < a) (hb : a < b) : votedR (wv x (nVotes k b ++ [(a, true)])) k (b, false) = wv x (nVotes (k + 1) b) := by
  refine votedR_wv h _ _ k _ (by simp [nVotes]) (fun i => ?_)
  have hg : (nVotes k b ++ [(a, true)]).getD i vt0 = if i < k then (b, false) else if i = k then (a, true) else vt0 := by
    unfold nVotes
    by_cases h1 : i < k
    · rw [if_pos h1]; simp [List.getD]; rw [List.getElem?_append_left (by simpa using h1)]; simp [h1]
    · rw [if_neg h1]
      by_cases h2 : i = k
      · subst h2; simp [List.getD]
      · rw [if_neg h2]; exact getD_over (by simp; omega)
  rw [hg, nVotes_getD]
  by_cases e : i = k
  · subst e; rw [if_pos rfl, if_neg (by omega), if_pos rfl, if_pos (by omega)]
    unfold lv
    rw [if_pos]
    rw [ordV_key]; unfold vkey; simp; omega
  · rw [if_neg e]
    by_cases hi : i < k
    · rw [if_pos hi, if_pos (by omega)]; exact lv_zero (by show 0 < b; omega)
    · rw [if_neg hi, if_neg e, if_neg (by omega)]; exact lv_self _
theorem wv_right {x : Rc} (h : rcOk x = true) (hg : x.gen ≠ 0) {l : List (Int × Bool)} (hl : l.length ≤ 16) (h1 : lastOk l = true) (h2 : votsOk l = true) : rcOk (wv x l) = true := by
  rw [rcOk_some hg] at h
  rw [rcOk_some (by exact hg)]
  unfold someOk at h ⊢
  simp only [Bool.and_eq_true, Bool.not_eq_true', decide_eq_false_iff_not] at h ⊢
  obtain ⟨a1, a2, a3, a4, a5, a6, a7, a8, a9⟩ := h
  exact ⟨a1, a2, a3, a4, by show ¬ 16 < l.length; omega, a6, a7, h1, h2⟩
theorem nVotes_right {x : Rc} (h : rcOk x = true) (hg : x.gen ≠ 0) {k : Nat} {b : Int} (hk : k ≤ 16) (hb : 0 < b ∧ b ≤ 1099511627776) : rcOk (wv x (nVotes k b)) = true := by
  refine wv_right h hg (by simpa [nVotes] using hk) ?_ ?_
  · rw [lastOk_iff, nVotes_getD]
    by_cases h0 : k = 0
    · left; simp [nVotes, h0]
    · right
      rw [if_pos (by simp [nVotes]; omega)]
      show b ≠ 0; omega
  · rw [votsOk_iff]
    intro i
    rw [nVotes_getD, votOk_iff]
    split
    · exact ⟨⟨by show 0 ≤ b; omega, hb.2⟩, .inr rfl⟩
    · decide
theorem first_right {x : Rc} (h : rcOk x = true) (hg : x.gen ≠ 0) {k : Nat} {a b : Int} (hk : k < 16) (ha : 0 < a ∧ a ≤ 1099511627776) (hb : 0 < b ∧ b ≤ 1099511627776) : rcOk (wv x (nVotes k b ++ [(a, true)])) = true := by
  refine wv_right h hg (by simp [nVotes]; omega) ?_ ?_
  · rw [lastOk_iff]
    right
    have : (nVotes k b ++ [(a, true)]).getD ((nVotes k b ++ [(a, true)]).length - 1) vt0 = (a, true) := by simp
    rw [this]
    show a ≠ 0; omega
  · unfold votsOk
    rw [List.all_eq_true]
    intro v hv
    rcases List.mem_append.1 hv with hv | hv
    · rw [show v = (b, false) from List.eq_of_mem_replicate hv, votOk_iff]
      exact ⟨⟨by show 0 ≤ b; omega, hb.2⟩, .inr rfl⟩
    · rw [List.mem_singleton.1 hv, votOk_iff]
      exact ⟨⟨by show 0 ≤ a; omega, ha.2⟩, .inl ha.1⟩
theorem voted_good {r : Rc} {k : Nat} {v : Int × Bool} (h : rcOk r = true) (hk : k < 16) (hv : 0 < v.1 ∧ v.1 ≤ 1099511627776) : votedOk r k v = true := by
  unfold votedOk stampOk
  rw [h]
  simp
  omega
theorem gen_pos {x : Rc} (h : rcOk x = true) (hg : x.gen ≠ 0) : 0 < x.gen := by
  rw [rcOk_some hg] at h
  unfold someOk stampOk at h
  simp only [Bool.and_eq_true, decide_eq_true_eq] at h
  omega
theorem nays_n (k : Nat) {b : Int} (hb : 0 < b) : ∀ n, nays (nVotes k b) n = min k n
  | 0 => by simp [nays]
  | n + 1 => by
    unfold nays
    rw [nays_n k hb n, nVotes_getD]
    by_cases h : n < k
    · rw [if_pos h, if_pos ⟨hb, rfl⟩]; omega
    · rw [if_neg h, if_neg (by unfold vt0; simp)]; omega
theorem well_n {x : Rc} (h : rcOk x = true) (hg : x.gen ≠ 0) {k n : Nat} {b : Int} (hk : k ≤ n) (h1 : 1 ≤ n) (hn : n ≤ 16) (hb : 0 < b ∧ b ≤ 1099511627776) : wellOk (wv x (nVotes k b)) n = decide (2 * (k : Int) < n) := by
  unfold wellOk amongOk
  rw [nVotes_right h hg (by omega) hb, Int.toNat_natCast, show (wv x (nVotes k b)).votes = nVotes k b from rfl, nays_n k hb.1]
  have := gen_pos h hg
  rw [decide_eq_true (show (1 : Int) ≤ n by omega), decide_eq_true (show (n : Int) ≤ 16 by omega), decide_eq_true (show 0 < (wv x (nVotes k b)).gen from this)]
  rw [Bool.eq_iff_iff]
  simp
  omega
end Go.Proofs.YtniejpfjbifjkaaDoor
