/- Joined, in plain Lean: commutative, associative, idempotent up to level specs; what can be stays so. -/
import Derived.Test.YtniejpfjbifjkaaDoorLzd
namespace Go.Proofs.YtniejpfjbifjkaaDoor
open Go.RowKit Fl

/-! ### bits -/
theorem bv_small {x : Int} (h0 : 0 ≤ x) (h1 : x ≤ 65535) : (BitVec.ofInt IntKind.i64.bits x).toNat = x.toNat := by
  rw [BitVec.toNat_ofInt, show IntKind.i64.bits = 64 from rfl]
  omega
theorem or_lt {a b : Nat} (ha : a ≤ 65535) (hb : b ≤ 65535) : (a ||| b) ≤ 65535 := by
  have := Nat.or_lt_two_pow (x := a) (y := b) (n := 16) (by omega) (by omega)
  omega
theorem bits_or {x y : Int} (hx : 0 ≤ x ∧ x ≤ 65535) (hy : 0 ≤ y ∧ y ≤ 65535) : bits BinOp.or .i64 x y = ((x.toNat ||| y.toNat : Nat) : Int) := by
  unfold bits
  simp only
  rw [BitVec.toNat_or, bv_small hx.1 hx.2, bv_small hy.1 hy.2]
  have := or_lt (a := x.toNat) (b := y.toNat) (by omega) (by omega)
  exact IntWalk.i64_in _ ⟨by omega, by omega⟩
theorem bits_and {x y : Int} (hx : 0 ≤ x ∧ x ≤ 65535) (hy : 0 ≤ y ∧ y ≤ 65535) : bits BinOp.and .i64 x y = ((x.toNat &&& y.toNat : Nat) : Int) := by
  unfold bits
  simp only
  rw [BitVec.toNat_and, bv_small hx.1 hx.2, bv_small hy.1 hy.2]
  have := Nat.and_le_left (n := x.toNat) (m := y.toNat)
  exact IntWalk.i64_in _ ⟨by omega, by omega⟩
/-! ### votes -/
def vkey (v : Int × Bool) : Int := 2 * v.1 + if v.2 = true then 0 else 1
theorem ordV_key (v u : Int × Bool) : ordV v u < 0 ↔ vkey v < vkey u := by
  unfold ordV vkey cmpI
  by_cases h : v.1 = u.1
  · rw [if_neg (by omega)]
    cases hv : v.2 <;> cases hu : u.2 <;> simp <;> omega
  · rw [if_pos h]
    cases hv : v.2 <;> cases hu : u.2 <;> simp only [Bool.false_eq_true, if_false, if_true] <;> (repeat' split) <;> omega
theorem vkey_inj {v u : Int × Bool} (h : vkey v = vkey u) : v = u := by
  unfold vkey at h
  cases hv : v.2 <;> cases hu : u.2 <;> simp [hv, hu] at h <;> first | (exfalso; omega) | exact Prod.ext (by omega) (by rw [hv, hu])
theorem lv_key (v u : Int × Bool) : vkey (lv v u) = max (vkey v) (vkey u) := by
  unfold lv
  have := ordV_key v u
  split <;> omega
theorem lv_comm (v u : Int × Bool) : lv v u = lv u v := vkey_inj (by rw [lv_key, lv_key]; omega)
theorem lv_assoc (v u x : Int × Bool) : lv (lv v u) x = lv v (lv u x) := vkey_inj (by simp only [lv_key]; omega)
theorem lv_self (v : Int × Bool) : lv v v = v := vkey_inj (by rw [lv_key]; omega)
theorem lv_absorb (v u : Int × Bool) : lv u (lv v u) = lv v u := vkey_inj (by simp only [lv_key]; omega)
theorem lv_either (v u : Int × Bool) : lv v u = v ∨ lv v u = u := by unfold lv; split <;> simp
theorem getD_votesTo (l m : List (Int × Bool)) (n i : Nat) : (votesTo l m n).getD i vt0 = if i < n then lv (l.getD i vt0) (m.getD i vt0) else vt0 := by
  unfold votesTo
  by_cases h : i < n
  · rw [if_pos h]; simp [List.getD, h]
  · rw [if_neg h]; simp [List.getD, h]
theorem getD_over {l : List (Int × Bool)} {i : Nat} (h : l.length ≤ i) : l.getD i vt0 = vt0 := by simp [List.getD, List.getElem?_eq_none h]
theorem getD_jn (r s : Rc) (i : Nat) : (jn r s).votes.getD i vt0 = lv (r.votes.getD i vt0) (s.votes.getD i vt0) := by
  show (votesTo _ _ _).getD i vt0 = _
  rw [getD_votesTo]
  split
  · rfl
  · rw [getD_over (l := r.votes) (by omega), getD_over (l := s.votes) (by omega), lv_self]
theorem len_jn (r s : Rc) : (jn r s).votes.length = max r.votes.length s.votes.length := votesTo_len _ _ _
theorem votes_eq {l m : List (Int × Bool)} (hn : l.length = m.length) (h : ∀ i, l.getD i vt0 = m.getD i vt0) : l = m := votes_ext hn (fun j _ => h j)
/-! ### alike, up to level specs -/
structure RcEq (r s : Rc) : Prop where
  gen : r.gen = s.gen
  life : r.life = s.life
  done : r.done = s.done
  votes : r.votes = s.votes
  spec : level r.spec s.spec
theorem RcEq.refl (r : Rc) : RcEq r r := ⟨rfl, rfl, rfl, rfl, level_refl _⟩
theorem RcEq.symm {r s : Rc} (h : RcEq r s) : RcEq s r := ⟨h.gen.symm, h.life.symm, h.done.symm, h.votes.symm, level_symm h.spec⟩
theorem RcEq.trans {r s t : Rc} (h : RcEq r s) (k : RcEq s t) : RcEq r t := ⟨h.gen.trans k.gen, h.life.trans k.life, h.done.trans k.done, h.votes.trans k.votes, level_trans h.spec k.spec⟩
structure Gd (r : Rc) : Prop where
  spec : SpW r.spec
  done : 0 ≤ r.done ∧ r.done ≤ 65535
theorem spj_of {s t : Spc} (hs : SpW s) (ht : SpW t) : spj s t = if s.st < t.st ∨ (s.st = t.st ∧ (s.by_ < t.by_ ∨ (s.by_ = t.by_ ∧ (akey s < akey t ∨ (akey s = akey t ∧ s.w < t.w))))) then t else s := by
  unfold spj
  have := ordS_lt hs ht
  by_cases h : ordS s t < 0
  · rw [if_pos h]; exact (if_pos (this.1 h)).symm
  · rw [if_neg h]; exact (if_neg (fun k => h (this.2 k))).symm
theorem spj_W {s t : Spc} (hs : SpW s) (ht : SpW t) : SpW (spj s t) := by unfold spj; split <;> assumption
theorem spj_either (s t : Spc) : spj s t = s ∨ spj s t = t := by unfold spj; split <;> simp
theorem spj_self (s : Spc) : spj s s = s := by unfold spj; split <;> rfl
theorem spj_comm {s t : Spc} (hs : SpW s) (ht : SpW t) : level (spj s t) (spj t s) := by
  rw [spj_of hs ht, spj_of ht hs]
  (repeat' split) <;> first | exact level_refl _ | (unfold level; omega)
theorem spj_assoc {s t u : Spc} (hs : SpW s) (ht : SpW t) (hu : SpW u) : level (spj (spj s t) u) (spj s (spj t u)) := by
  have e1 := spj_of hs ht
  have e2 := spj_of ht hu
  have e3 := spj_of hs hu
  have e4 : spj t t = t := spj_self t
  by_cases a : s.st < t.st ∨ (s.st = t.st ∧ (s.by_ < t.by_ ∨ (s.by_ = t.by_ ∧ (akey s < akey t ∨ (akey s = akey t ∧ s.w < t.w)))))
  · rw [if_pos a] at e1
    rw [e1]
    by_cases b : t.st < u.st ∨ (t.st = u.st ∧ (t.by_ < u.by_ ∨ (t.by_ = u.by_ ∧ (akey t < akey u ∨ (akey t = akey u ∧ t.w < u.w)))))
    · rw [if_pos b] at e2
      rw [e2, e3, if_pos (by omega)]; exact level_refl _
    · rw [if_neg b] at e2
      rw [e2, e1]; exact level_refl _
  · rw [if_neg a] at e1
    rw [e1]
    by_cases b : t.st < u.st ∨ (t.st = u.st ∧ (t.by_ < u.by_ ∨ (t.by_ = u.by_ ∧ (akey t < akey u ∨ (akey t = akey u ∧ t.w < u.w)))))
    · rw [if_pos b] at e2
      rw [e2]; exact level_refl _
    · rw [if_neg b] at e2
      rw [e2, e1, e3, if_neg (by omega)]; exact level_refl _
theorem spj_absorb {s t : Spc} (hs : SpW s) (ht : SpW t) : level (spj t (spj s t)) (spj s t) := by
  have e1 := spj_of hs ht
  have e2 := spj_of ht hs
  by_cases a : s.st < t.st ∨ (s.st = t.st ∧ (s.by_ < t.by_ ∨ (s.by_ = t.by_ ∧ (akey s < akey t ∨ (akey s = akey t ∧ s.w < t.w)))))
  · rw [if_pos a] at e1
    rw [e1, spj_self]; exact level_refl _
  · rw [if_neg a] at e1
    rw [e1, e2]
    split
    · exact level_refl _
    · unfold level; omega
/-! ### joined -/
theorem jn_Gd {r s : Rc} (hr : Gd r) (hs : Gd s) : Gd (jn r s) := ⟨spj_W hr.spec hs.spec, by
  show 0 ≤ bits BinOp.or .i64 r.done s.done ∧ bits BinOp.or .i64 r.done s.done ≤ 65535
  rw [bits_or hr.done hs.done]
  have := or_lt (a := r.done.toNat) (b := s.done.toNat) (by have := hr.done; omega) (by have := hs.done; omega)
  omega⟩
theorem jn_done {r s : Rc} (hr : Gd r) (hs : Gd s) : (jn r s).done = ((r.done.toNat ||| s.done.toNat : Nat) : Int) := bits_or hr.done hs.done
theorem jn_done' {r s : Rc} (hr : Gd r) (hs : Gd s) : (jn r s).done.toNat = (r.done.toNat ||| s.done.toNat) := by rw [jn_done hr hs]; simp
theorem jn_self {r : Rc} (hr : Gd r) : jn r r = r := by
  have h1 : (jn r r).votes = r.votes := votes_eq (by rw [len_jn]; omega) (fun i => by rw [getD_jn, lv_self])
  have h2 : (jn r r).done = r.done := by rw [jn_done hr hr, Nat.or_self]; have := hr.done; omega
  have h3 : (jn r r).spec = r.spec := spj_self _
  have h4 : (jn r r).life = r.life := by show (if r.life < r.life then r.life else r.life) = r.life; split <;> rfl
  have h5 : (jn r r).gen = r.gen := rfl
  revert h1 h2 h3 h4 h5
  generalize jn r r = x
  cases x; cases r
  rintro rfl rfl rfl rfl rfl
  rfl
theorem joinR_eq {r s : Rc} (hr : Gd r) (hs : Gd s) : joinR r s = if r.gen < s.gen then s else if s.gen < r.gen then r else jn r s := by
  unfold joinR
  rw [jn_self hr, jn_self hs]
theorem jn_gen (r s : Rc) : (jn r s).gen = r.gen := rfl
theorem jn_life (r s : Rc) : (jn r s).life = if r.life < s.life then s.life else r.life := rfl
theorem jn_spec (r s : Rc) : (jn r s).spec = spj r.spec s.spec := rfl
theorem toNat_done {r : Rc} (h : Gd r) : ((r.done.toNat : Nat) : Int) = r.done := by have := h.done; omega
theorem jn_comm {r s : Rc} (hr : Gd r) (hs : Gd s) (hg : r.gen = s.gen) : RcEq (jn r s) (jn s r) := by
  refine ⟨hg, ?_, ?_, ?_, spj_comm hr.spec hs.spec⟩
  · rw [jn_life, jn_life]; (repeat' split) <;> omega
  · rw [jn_done hr hs, jn_done hs hr, Nat.or_comm]
  · exact votes_eq (by rw [len_jn, len_jn]; omega) (fun i => by rw [getD_jn, getD_jn, lv_comm])
theorem jn_assoc {r s t : Rc} (hr : Gd r) (hs : Gd s) (ht : Gd t) : RcEq (jn (jn r s) t) (jn r (jn s t)) := by
  refine ⟨rfl, ?_, ?_, ?_, spj_assoc hr.spec hs.spec ht.spec⟩
  · simp only [jn_life]; (repeat' split) <;> omega
  · rw [jn_done (jn_Gd hr hs) ht, jn_done hr (jn_Gd hs ht), jn_done' hr hs, jn_done' hs ht, Nat.or_assoc]
  · exact votes_eq (by simp only [len_jn]; omega) (fun i => by simp only [getD_jn]; rw [lv_assoc])
theorem jn_absorb {r s : Rc} (hr : Gd r) (hs : Gd s) (hg : r.gen = s.gen) : RcEq (jn s (jn r s)) (jn r s) := by
  refine ⟨hg.symm, ?_, ?_, ?_, spj_absorb hr.spec hs.spec⟩
  · simp only [jn_life]; (repeat' split) <;> omega
  · rw [jn_done hs (jn_Gd hr hs), jn_done hr hs, Int.toNat_natCast, ← Nat.or_assoc, Nat.or_comm s.done.toNat, Nat.or_assoc, Nat.or_self]
  · exact votes_eq (by simp only [len_jn]; omega) (fun i => by simp only [getD_jn]; rw [lv_absorb])
theorem join_Gd {r s : Rc} (hr : Gd r) (hs : Gd s) : Gd (joinR r s) := by
  rw [joinR_eq hr hs]
  (repeat' split)
  · exact hs
  · exact hr
  · exact jn_Gd hr hs
theorem join_comm {r s : Rc} (hr : Gd r) (hs : Gd s) : RcEq (joinR r s) (joinR s r) := by
  rw [joinR_eq hr hs, joinR_eq hs hr]
  (repeat' split) <;> first | omega | exact RcEq.refl _ | exact jn_comm hr hs (by omega)
theorem join_gen {r s : Rc} (hr : Gd r) (hs : Gd s) : (joinR r s).gen = max r.gen s.gen := by
  rw [joinR_eq hr hs]
  (repeat' split) <;> (try rw [jn_gen]) <;> omega
theorem join_assoc {r s t : Rc} (hr : Gd r) (hs : Gd s) (ht : Gd t) : RcEq (joinR (joinR r s) t) (joinR r (joinR s t)) := by
  rw [joinR_eq (join_Gd hr hs) ht, joinR_eq hr (join_Gd hs ht), join_gen hr hs, join_gen hs ht]
  rw [joinR_eq hr hs, joinR_eq hs ht]
  by_cases a : r.gen < s.gen
  · rw [if_pos a]
    by_cases b : s.gen < t.gen
    · rw [if_pos b, if_pos (by omega), if_pos (by omega)]; exact RcEq.refl _
    · rw [if_neg b]
      by_cases c : t.gen < s.gen
      · rw [if_pos c, if_neg (by omega), if_pos (by omega), if_pos (by omega)]; exact RcEq.refl _
      · rw [if_neg c, if_neg (by omega), if_neg (by omega), if_pos (by omega)]; exact RcEq.refl _
  · rw [if_neg a]
    by_cases a' : s.gen < r.gen
    · rw [if_pos a']
      by_cases b : s.gen < t.gen
      · rw [if_pos b]
        by_cases c : r.gen < t.gen
        · rw [if_pos (by omega), if_pos (by omega)]; exact RcEq.refl _
        · by_cases c' : t.gen < r.gen
          · rw [if_neg (by omega), if_pos (by omega), if_neg (by omega), if_pos (by omega)]; exact RcEq.refl _
          · rw [if_neg (by omega), if_neg (by omega), if_neg (by omega), if_neg (by omega)]; exact RcEq.refl _
      · rw [if_neg (by omega : ¬ max r.gen s.gen < t.gen), if_pos (by omega : t.gen < max r.gen s.gen), if_neg (by omega : ¬ r.gen < max s.gen t.gen), if_pos (by omega : max s.gen t.gen < r.gen)]
        exact RcEq.refl _
    · rw [if_neg a']
      by_cases b : s.gen < t.gen
      · rw [if_pos (by omega : max r.gen s.gen < t.gen), if_pos b, if_pos (by omega : r.gen < max s.gen t.gen)]; exact RcEq.refl _
      · by_cases c : t.gen < s.gen
        · rw [if_neg (by omega : ¬ max r.gen s.gen < t.gen), if_pos (by omega : t.gen < max r.gen s.gen), if_neg b, if_pos c, if_neg (by omega : ¬ r.gen < max s.gen t.gen), if_neg (by omega : ¬ max s.gen t.gen < r.gen)]; exact RcEq.refl _
        · rw [if_neg (by omega : ¬ max r.gen s.gen < t.gen), if_neg (by omega : ¬ t.gen < max r.gen s.gen), if_neg b, if_neg c, if_neg (by omega : ¬ r.gen < max s.gen t.gen), if_neg (by omega : ¬ max s.gen t.gen < r.gen)]
          exact jn_assoc hr hs ht
theorem join_self {r : Rc} (hr : Gd r) : joinR r r = r := by
  rw [joinR_eq hr hr, if_neg (by omega), if_neg (by omega), jn_self hr]
theorem join_within1 {r s : Rc} (hr : Gd r) (hs : Gd s) : RcEq (joinR r (joinR r s)) (joinR r s) := by
  have h := (join_assoc hr hr hs).symm
  rwa [join_self hr] at h
theorem join_within2 {r s : Rc} (hr : Gd r) (hs : Gd s) : RcEq (joinR s (joinR r s)) (joinR r s) := by
  rw [joinR_eq hs (join_Gd hr hs), join_gen hr hs]
  by_cases a : r.gen < s.gen
  · rw [if_neg (by omega), if_neg (by omega), joinR_eq hr hs, if_pos a, jn_self hs]; exact RcEq.refl _
  · by_cases b : s.gen < r.gen
    · rw [if_pos (by omega)]; exact RcEq.refl _
    · rw [if_neg (by omega), if_neg (by omega), joinR_eq hr hs, if_neg a, if_neg b]; exact jn_absorb hr hs (by omega)
/-! ### Same says so -/
theorem sameF_refl {x : Nat} (h : x < INF) : sameF x x = true := by
  unfold sameF ordF
  rw [ltF_pos (Nat.le_of_lt h) (Nat.le_of_lt h), gtF_pos (Nat.le_of_lt h) (Nat.le_of_lt h)]
  simp
theorem sameR_of {r s : Rc} (hr : Gd r) (hs : Gd s) (h : RcEq r s) : sameR r s = true := by
  unfold sameR
  have hl := h.spec
  have h1 : sameF r.spec.w s.spec.w = true := by rw [← hl.2.2.2]; exact sameF_refl hr.spec.w
  have h2 : eqSpc { r.spec with w := 0 } { s.spec with w := 0 } = true := by
    refine (eqSpc_level (s := { r.spec with w := 0 }) (t := { s.spec with w := 0 }) ⟨hr.spec.bytes, by show 0 < INF; unfold INF; omega⟩ ⟨hs.spec.bytes, by show 0 < INF; unfold INF; omega⟩).2 ?_
    exact ⟨hl.1, hl.2.1, hl.2.2.1, rfl⟩
  rw [h1, h2, h.gen, h.life, h.done, h.votes]
  simp
/-! ### what can be -/
theorem w_of_same {x : Nat} (hx : x < B64) (h : sameF x (cl x) = true) : x < INF := by
  by_cases n : isN x
  · exfalso
    unfold sameF at h
    have := ordF_nan_l n (cl_B64 x) (not_isN_small (cl_le_INF x))
    simp at h; omega
  · unfold sameF at h
    rw [beq_iff_eq, ordF_num hx (cl_B64 x) n (not_isN_small (cl_le_INF x)), kind_small (cl_le x)] at h
    have hc := cl_T hx n
    rw [T_small (cl_le_INF x)] at h
    rw [INF_val]
    rcases place hx n with ⟨k, h1, h2⟩ | ⟨k, h1, h2, h3⟩ | ⟨k, h1, h2⟩ | ⟨k, h1, h2⟩ | ⟨k, h1, h2⟩
    · rw [k] at h; split at h <;> omega
    · omega
    · omega
    · exfalso
      rw [if_pos (by omega)] at hc
      rw [k, if_pos (by omega : cl x = 0)] at h
      simp at h
    · exfalso
      rw [if_pos (by omega)] at hc
      rw [k, if_pos (by omega : cl x = 0)] at h
      simp at h
theorem Gd_of {r : Rc} (hn : RcN r) (h : rcOk r = true) : Gd r := by
  unfold rcOk at h
  split at h
  · unfold noneOk at h
    simp only [Bool.and_eq_true, Bool.not_eq_true', beq_iff_eq] at h
    obtain ⟨h1, h2, h3, h4, h5⟩ := h
    refine ⟨⟨hn.bytes, ?_⟩, by omega⟩
    unfold eqSpc at h1
    simp only [Bool.and_eq_true] at h1
    have h6 : eqF r.spec.w 0 = true := h1.2.2.2
    have h7 := (eqF_zero hn.w).1 h6
    rcases h7 with h7 | h7
    · rw [h7]; unfold INF; omega
    · exfalso
      rw [h7] at h2
      revert h2
      decide +kernel
  · unfold someOk at h
    simp only [Bool.and_eq_true, Bool.not_eq_true', decide_eq_false_iff_not] at h
    obtain ⟨h1, h2, h3, h4, h5, h6, h7, h8, h9⟩ := h
    unfold spcOk at h4
    simp only [Bool.and_eq_true] at h4
    exact ⟨⟨hn.bytes, w_of_same hn.w h4.2.2.2.2.2⟩, by omega⟩
theorem Gd.N {r : Rc} (h : Gd r) : RcN r := ⟨by have := h.spec.w; unfold INF at this; unfold B64; omega, h.spec.bytes⟩
theorem rcOk_zero {r : Rc} (hg : r.gen = 0) : rcOk r = noneOk r := by unfold rcOk; rw [if_pos hg]
theorem rcOk_some {r : Rc} (hg : r.gen ≠ 0) : rcOk r = someOk r := by unfold rcOk; rw [if_neg hg]
theorem votOk_iff (v : Int × Bool) : votOk v = true ↔ (0 ≤ v.1 ∧ v.1 ≤ 1099511627776) ∧ (0 < v.1 ∨ v.2 = false) := by
  unfold votOk stampOk
  simp
theorem votsOk_iff (l : List (Int × Bool)) : votsOk l = true ↔ ∀ i, votOk (l.getD i vt0) = true := by
  unfold votsOk
  rw [List.all_eq_true]
  constructor
  · intro h i
    rcases Nat.lt_or_ge i l.length with hi | hi
    · have : l.getD i vt0 = l[i] := by simp [List.getD, hi]
      rw [this]; exact h _ (List.getElem_mem hi)
    · rw [getD_over hi]; decide
  · intro h x hx
    obtain ⟨j, hj, rfl⟩ := List.getElem_of_mem hx
    have := h j
    simpa [List.getD, hj] using this
theorem lastOk_iff (l : List (Int × Bool)) : lastOk l = true ↔ (l.length = 0 ∨ (l.getD (l.length - 1) vt0).1 ≠ 0) := by
  unfold lastOk
  simp
theorem jn_right {r s : Rc} (hr : Gd r) (hs : Gd s) (h1 : rcOk r = true) (h2 : rcOk s = true) (hg : r.gen = s.gen) : rcOk (jn r s) = true := by
  by_cases h0 : r.gen = 0
  · rw [rcOk_zero h0] at h1
    rw [rcOk_zero (hg ▸ h0)] at h2
    rw [rcOk_zero (by rw [jn_gen]; exact h0)]
    unfold noneOk at h1 h2 ⊢
    simp only [Bool.and_eq_true, Bool.not_eq_true', beq_iff_eq] at h1 h2 ⊢
    obtain ⟨a1, a2, a3, a4, a5⟩ := h1
    obtain ⟨b1, b2, b3, b4, b5⟩ := h2
    refine ⟨?_, ?_, ?_, ?_, ?_⟩
    · rcases spj_either r.spec s.spec with e | e
      · rw [jn_spec, e]; exact a1
      · rw [jn_spec, e]; exact b1
    · rcases spj_either r.spec s.spec with e | e
      · rw [jn_spec, e]; exact a2
      · rw [jn_spec, e]; exact b2
    · rw [jn_life]; split <;> omega
    · rw [jn_done hr hs, a4, b4]; rfl
    · rw [len_jn]; omega
  · rw [rcOk_some h0] at h1
    rw [rcOk_some (hg ▸ h0)] at h2
    rw [rcOk_some (by rw [jn_gen]; exact h0)]
    unfold someOk at h1 h2 ⊢
    simp only [Bool.and_eq_true, Bool.not_eq_true', decide_eq_false_iff_not] at h1 h2 ⊢
    obtain ⟨a1, a2, a3, a4, a5, a6, a7, a8, a9⟩ := h1
    obtain ⟨b1, b2, b3, b4, b5, b6, b7, b8, b9⟩ := h2
    rw [votsOk_iff] at a9 b9
    rw [lastOk_iff] at a8 b8
    have hd := (jn_Gd hr hs).done
    refine ⟨a1, ?_, ?_, ?_, ?_, by omega, by omega, ?_, ?_⟩
    · rw [jn_life]; split <;> omega
    · rw [jn_life]; split <;> omega
    · rcases spj_either r.spec s.spec with e | e
      · rw [jn_spec, e]; exact a4
      · rw [jn_spec, e]; exact b4
    · rw [len_jn]; omega
    · rw [lastOk_iff, len_jn, getD_jn]
      by_cases hz : max r.votes.length s.votes.length = 0
      · exact .inl hz
      · right
        have va := (votOk_iff _).1 (a9 (max r.votes.length s.votes.length - 1))
        have vb := (votOk_iff _).1 (b9 (max r.votes.length s.votes.length - 1))
        have hk := lv_key (r.votes.getD (max r.votes.length s.votes.length - 1) vt0) (s.votes.getD (max r.votes.length s.votes.length - 1) vt0)
        have hp : (r.votes.getD (max r.votes.length s.votes.length - 1) vt0).1 ≠ 0 ∨ (s.votes.getD (max r.votes.length s.votes.length - 1) vt0).1 ≠ 0 := by
          by_cases hge : s.votes.length ≤ r.votes.length
          · left
            rw [show max r.votes.length s.votes.length = r.votes.length by omega] at hz ⊢
            rcases a8 with h | h
            · exact absurd h hz
            · exact h
          · right
            rw [show max r.votes.length s.votes.length = s.votes.length by omega] at hz ⊢
            rcases b8 with h | h
            · exact absurd h hz
            · exact h
        revert hk
        generalize r.votes.getD (max r.votes.length s.votes.length - 1) vt0 = x at *
        generalize s.votes.getD (max r.votes.length s.votes.length - 1) vt0 = y at *
        generalize lv x y = z
        unfold vkey
        intro hk
        (repeat' split at hk) <;> omega
    · rw [votsOk_iff]
      intro i
      rw [getD_jn]
      rcases lv_either (r.votes.getD i vt0) (s.votes.getD i vt0) with e | e
      · rw [e]; exact a9 i
      · rw [e]; exact b9 i
theorem join_right {r s : Rc} (hr : Gd r) (hs : Gd s) (h1 : rcOk r = true) (h2 : rcOk s = true) : rcOk (joinR r s) = true := by
  rw [joinR_eq hr hs]
  split
  · exact h2
  · split
    · exact h1
    · exact jn_right hr hs h1 h2 (by omega)
theorem join_grows {r s : Rc} (hr : Gd r) (hs : Gd s) : r.gen ≤ (joinR r s).gen ∧ (r.gen < (joinR r s).gen ∨ (r.life ≤ (joinR r s).life ∧ bits BinOp.and .i64 (joinR r s).done r.done = r.done)) := by
  refine ⟨by rw [join_gen hr hs]; omega, ?_⟩
  by_cases a : r.gen < s.gen
  · left; rw [join_gen hr hs]; omega
  · right
    have hj := (join_Gd hr hs).done
    rw [bits_and hj hr.done, joinR_eq hr hs, if_neg a]
    have hd := toNat_done hr
    split
    · refine ⟨Int.le_refl _, ?_⟩
      rw [Nat.and_self]; exact hd
    · refine ⟨?_, ?_⟩
      · rw [jn_life]; split <;> omega
      · rw [jn_done' hr hs, Nat.and_comm, Nat.and_or_distrib_left, Nat.and_self]
        rw [show r.done.toNat ||| r.done.toNat &&& s.done.toNat = r.done.toNat from by
          apply Nat.eq_of_testBit_eq
          intro i
          simp only [Nat.testBit_or, Nat.testBit_and]
          cases r.done.toNat.testBit i <;> simp]
        exact hd
end Go.Proofs.YtniejpfjbifjkaaDoor
