/- What is known together, in plain Lean: a key of specs, a key of votes; joined by the greater key. -/
import Derived.Test.YtniejpfjbifjkaaDoorLm
namespace Go.Proofs.YtniejpfjbifjkaaDoor
open Go.RowKit Fl

/-! ### a number of the bytes -/
def bnum (b : Nat → Int) : Nat → Int
  | 0 => 0
  | n + 1 => bnum b n * 256 + b n
theorem bnum_nonneg {b : Nat → Int} (hb : ∀ i, 0 ≤ b i ∧ b i < 256) : ∀ n, 0 ≤ bnum b n ∧ bnum b n < 256 ^ n
  | 0 => by simp [bnum]
  | n + 1 => by
    have h := bnum_nonneg hb n
    have := hb n
    unfold bnum
    rw [Int.pow_succ]
    omega
theorem bnum_congr {b c : Nat → Int} : ∀ {n}, (∀ i, i < n → b i = c i) → bnum b n = bnum c n
  | 0, _ => rfl
  | n + 1, h => by
    unfold bnum
    rw [bnum_congr (fun i hi => h i (by omega)), h n (by omega)]
theorem bnum_lt {b c : Nat → Int} (hb : ∀ i, 0 ≤ b i ∧ b i < 256) (hc : ∀ i, 0 ≤ c i ∧ c i < 256) {k : Nat} (he : ∀ i, i < k → b i = c i) (hk : b k < c k) : ∀ {n}, k < n → bnum b n < bnum c n
  | n + 1, h => by
    have h1 := hb n
    have h2 := hc n
    unfold bnum
    by_cases hkn : k = n
    · subst hkn
      rw [bnum_congr he]
      omega
    · have := bnum_lt hb hc he hk (n := n) (by omega)
      omega
theorem first_diff (b c : Nat → Int) : ∀ n, (∀ i, i < n → b i = c i) ∨ ∃ k, k < n ∧ (∀ i, i < k → b i = c i) ∧ b k ≠ c k
  | 0 => .inl (fun i hi => by omega)
  | n + 1 => by
    rcases first_diff b c n with h | ⟨k, hk, h1, h2⟩
    · by_cases hn : b n = c n
      · exact .inl (fun i hi => by
          rcases Nat.lt_or_ge i n with h' | h'
          · exact h i h'
          · have : i = n := by omega
            subst this; exact hn)
      · exact .inr ⟨n, by omega, h, hn⟩
    · exact .inr ⟨k, by omega, h1, h2⟩
theorem find_first {b c : Nat → Int} {k : Nat} (he : ∀ i, i < k → b i = c i) (hn : b k ≠ c k) : ∀ n, k < n → (List.range n).find? (fun i => b i != c i) = some k
  | n + 1, h => by
    rw [List.range_succ, List.find?_append]
    by_cases hkn : k = n
    · subst hkn
      have : (List.range k).find? (fun i => b i != c i) = none := by
        rw [List.find?_eq_none]
        intro x hx
        simp [he x (List.mem_range.1 hx)]
      rw [this]
      simp [hn]
    · rw [find_first he hn n (by omega)]
      rfl
theorem lexC_of {b c : Nat → Int} {k : Nat} (hk : k < 16) (he : ∀ i, i < k → b i = c i) (hn : b k ≠ c k) : lexC b c = if b k < c k then -1 else 1 := by
  unfold lexC
  rw [find_first he hn 16 hk]
theorem lexC_same {b c : Nat → Int} (he : ∀ i, i < 16 → b i = c i) : lexC b c = 0 := by
  unfold lexC
  have : (List.range 16).find? (fun i => b i != c i) = none := by
    rw [List.find?_eq_none]
    intro x hx
    simp [he x (List.mem_range.1 hx)]
  rw [this]
theorem lexC_lt {b c : Nat → Int} (hb : ∀ i, 0 ≤ b i ∧ b i < 256) (hc : ∀ i, 0 ≤ c i ∧ c i < 256) : lexC b c < 0 ↔ bnum b 16 < bnum c 16 := by
  rcases first_diff b c 16 with h | ⟨k, hk, he, hn⟩
  · rw [lexC_same h, bnum_congr h]
    omega
  · rw [lexC_of hk he hn]
    by_cases hl : b k < c k
    · rw [if_pos hl]
      have := bnum_lt hb hc he hl hk
      omega
    · rw [if_neg hl]
      have := bnum_lt hc hb (fun i hi => (he i hi).symm) (k := k) (by omega) hk
      omega
theorem bnum_inj {b c : Nat → Int} (hb : ∀ i, 0 ≤ b i ∧ b i < 256) (hc : ∀ i, 0 ≤ c i ∧ c i < 256) (h : bnum b 16 = bnum c 16) : ∀ i, i < 16 → b i = c i := by
  rcases first_diff b c 16 with h1 | ⟨k, hk, he, hn⟩
  · exact h1
  · exfalso
    rcases Int.lt_or_gt_of_ne hn with hl | hl
    · have := bnum_lt hb hc he hl hk; omega
    · have := bnum_lt hc hb (fun i hi => (he i hi).symm) hl hk; omega
theorem eqB_iff {b c : Nat → Int} : eqB b c = true ↔ ∀ i, i < 16 → b i = c i := by
  unfold eqB
  rw [List.all_eq_true]
  exact ⟨fun h i hi => by simpa using h i (List.mem_range.2 hi), fun h i hi => by simpa using h i (List.mem_range.1 hi)⟩

/-! ### a key of a spec -/
def akey (s : Spc) : Int := (if s.v6 = true then 1 else 0) * 340282366920938463463374607431768211456 + bnum s.b 16
structure SpW (s : Spc) : Prop where
  bytes : ∀ i, 0 ≤ s.b i ∧ s.b i < 256
  w : s.w < INF
theorem akey_lt {s t : Spc} (hs : SpW s) (ht : SpW t) : adrC s.v6 s.b t.v6 t.b < 0 ↔ akey s < akey t := by
  unfold adrC akey
  have h1 := bnum_nonneg hs.bytes 16
  have h2 := bnum_nonneg ht.bytes 16
  rw [show (256 : Int) ^ 16 = 340282366920938463463374607431768211456 from by decide] at h1 h2
  have hl := lexC_lt hs.bytes ht.bytes
  generalize bnum s.b 16 = x at *
  generalize bnum t.b 16 = y at *
  generalize lexC s.b t.b = z at *
  cases s.v6 <;> cases t.v6 <;> simp <;> omega
theorem akey_inj {s t : Spc} (hs : SpW s) (ht : SpW t) (h : akey s = akey t) : s.v6 = t.v6 ∧ ∀ i, i < 16 → s.b i = t.b i := by
  unfold akey at h
  have h1 := bnum_nonneg hs.bytes 16
  have h2 := bnum_nonneg ht.bytes 16
  rw [show (256 : Int) ^ 16 = 340282366920938463463374607431768211456 from by decide] at h1 h2
  have hb : bnum s.b 16 = bnum t.b 16 := by
    cases hv : s.v6 <;> cases hu : t.v6 <;> simp [hv, hu] at h <;> omega
  refine ⟨?_, bnum_inj hs.bytes ht.bytes hb⟩
  cases hv : s.v6 <;> cases hu : t.v6 <;> simp [hv, hu] at h ⊢ <;> omega
theorem ordA_key {s t : Spc} (hs : SpW s) (ht : SpW t) : ordA s t = if akey s < akey t then -1 else if akey t < akey s then 1 else 0 := by
  unfold ordA
  have h1 := akey_lt hs ht
  have h2 := akey_lt ht hs
  by_cases a : adrC s.v6 s.b t.v6 t.b < 0
  · rw [if_pos a, if_pos (h1.1 a)]
  · rw [if_neg a, if_neg (fun h => a (h1.2 h))]
    by_cases b : adrC t.v6 t.b s.v6 s.b < 0
    · rw [if_pos b, if_pos (h2.1 b)]
    · rw [if_neg b, if_neg (fun h => b (h2.2 h))]
theorem cmpF_key {x y : Nat} (hx : x < INF) (hy : y < INF) : cmpF x y = if x < y then -1 else if y < x then 1 else 0 := by
  unfold cmpF
  rw [ltF_pos (Nat.le_of_lt hx) (Nat.le_of_lt hy), gtF_pos (Nat.le_of_lt hx) (Nat.le_of_lt hy)]
  simp
/-- one stands ahead of another. -/
def ahead (s t : Spc) : Prop := s.st < t.st ∨ (s.st = t.st ∧ (s.by_ < t.by_ ∨ (s.by_ = t.by_ ∧ (akey s < akey t ∨ (akey s = akey t ∧ s.w < t.w)))))
def level (s t : Spc) : Prop := s.st = t.st ∧ s.by_ = t.by_ ∧ akey s = akey t ∧ s.w = t.w
theorem ahead_or (s t : Spc) : ahead s t ∨ level s t ∨ ahead t s := by
  unfold ahead level
  omega
theorem ahead_not {s t : Spc} : ahead s t → ¬ ahead t s := by unfold ahead; omega
theorem ahead_trans {s t u : Spc} : ahead s t → ahead t u → ahead s u := by unfold ahead; omega
theorem level_not {s t : Spc} : level s t → ¬ ahead s t := by unfold ahead level; omega
theorem level_symm {s t : Spc} : level s t → level t s := by unfold level; omega
theorem level_trans {s t u : Spc} : level s t → level t u → level s u := by unfold level; omega
theorem level_refl (s : Spc) : level s s := ⟨rfl, rfl, rfl, rfl⟩
theorem ahead_level {s t u : Spc} : ahead s t → level t u → ahead s u := by unfold ahead level; omega
theorem level_ahead {s t u : Spc} : level s t → ahead t u → ahead s u := by unfold ahead level; omega
theorem eqSpc_level {s t : Spc} (hs : SpW s) (ht : SpW t) : eqSpc s t = true ↔ level s t := by
  unfold eqSpc level
  rw [eqF_pos (Nat.le_of_lt hs.w) (Nat.le_of_lt ht.w)]
  constructor
  · intro h
    simp only [Bool.and_eq_true, beq_iff_eq, decide_eq_true_eq] at h
    obtain ⟨h1, h2, ⟨h3, h4⟩, h5⟩ := h
    exact ⟨h1, h2, by unfold akey; rw [h3, bnum_congr (eqB_iff.1 h4)], h5⟩
  · rintro ⟨h1, h2, h3, h4⟩
    obtain ⟨h5, h6⟩ := akey_inj hs ht h3
    simp only [Bool.and_eq_true, beq_iff_eq, decide_eq_true_eq]
    exact ⟨h1, h2, ⟨h5, eqB_iff.2 h6⟩, h4⟩
theorem orL_nil : orL [] = 0 := rfl
theorem ordS_lt {s t : Spc} (hs : SpW s) (ht : SpW t) : ordS s t < 0 ↔ ahead s t := by
  unfold ordS
  by_cases he : eqSpc s t = true
  · rw [if_pos he]
    have := level_not ((eqSpc_level hs ht).1 he)
    constructor
    · intro h; omega
    · intro h; exact absurd h this
  · rw [if_neg he]
    have hl : ¬ level s t := fun h => he ((eqSpc_level hs ht).2 h)
    rw [ordA_key hs ht, cmpF_key hs.w ht.w]
    unfold cmpI ahead
    unfold level at hl
    by_cases a1 : s.st = t.st
    · rw [if_neg (by omega : ¬ s.st < t.st), if_neg (by omega : ¬ t.st < s.st), orL_cons_zero]
      by_cases a2 : s.by_ = t.by_
      · rw [if_neg (by omega : ¬ s.by_ < t.by_), if_neg (by omega : ¬ t.by_ < s.by_), orL_cons_zero]
        by_cases a3 : akey s = akey t
        · rw [if_neg (by omega : ¬ akey s < akey t), if_neg (by omega : ¬ akey t < akey s), orL_cons_zero]
          by_cases a4 : s.w < t.w
          · rw [if_pos a4, orL_cons (by omega)]; omega
          · rw [if_neg a4, if_pos (by omega : t.w < s.w), orL_cons (by omega)]; omega
        · by_cases a4 : akey s < akey t
          · rw [if_pos a4, orL_cons (by omega)]; omega
          · rw [if_neg a4, if_pos (by omega : akey t < akey s), orL_cons (by omega)]; omega
      · by_cases a4 : s.by_ < t.by_
        · rw [if_pos a4, orL_cons (by omega)]; omega
        · rw [if_neg a4, if_pos (by omega : t.by_ < s.by_), orL_cons (by omega)]; omega
    · by_cases a4 : s.st < t.st
      · rw [if_pos a4, orL_cons (by omega)]; omega
      · rw [if_neg a4, if_pos (by omega : t.st < s.st), orL_cons (by omega)]; omega

/-! ### joined -/
def lv (v u : Int × Bool) : Int × Bool := if ordV v u < 0 then u else v
def votesTo (l m : List (Int × Bool)) (k : Nat) : List (Int × Bool) := (List.range k).map fun i => lv (l.getD i vt0) (m.getD i vt0)
theorem votesTo_succ (l m : List (Int × Bool)) (k : Nat) : votesTo l m (k + 1) = votesTo l m k ++ [lv (l.getD k vt0) (m.getD k vt0)] := by
  unfold votesTo
  rw [List.range_succ, List.map_append]
  rfl
theorem votesTo_len (l m : List (Int × Bool)) (k : Nat) : (votesTo l m k).length = k := by simp [votesTo]
def spj (s t : Spc) : Spc := if ordS s t < 0 then t else s
def jn (r s : Rc) : Rc := ⟨r.gen, (if r.life < s.life then s.life else r.life), spj r.spec s.spec, votesTo r.votes s.votes (max r.votes.length s.votes.length), bits BinOp.or .i64 r.done s.done⟩
def joinR (r s : Rc) : Rc := if r.gen < s.gen then jn s s else if s.gen < r.gen then jn r r else jn r s
end Go.Proofs.YtniejpfjbifjkaaDoor
