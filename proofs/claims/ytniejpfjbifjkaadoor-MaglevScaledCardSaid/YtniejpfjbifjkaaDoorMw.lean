/- Plain facts: weights that are all twice as great make the same table; a float twice. -/
import Derived.Test.YtniejpfjbifjkaaDoorMv
namespace Go.Proofs.YtniejpfjbifjkaaDoor
open Go.RowKit Fl Ieee

def HID : Nat := 4503599627370496
def dblc (c : Nat) : Nat := if c = 0 then 0 else c + HID
def okc (c : Nat) : Prop := c = 0 ∨ (HID ≤ c ∧ c + HID < INF)
theorem dblc_mono {a b : Nat} (h : a ≤ b) : dblc a ≤ dblc b := by unfold dblc HID; (repeat' split) <;> omega
theorem dblc_max (a b : Nat) : max (dblc a) (dblc b) = dblc (max a b) := by unfold dblc HID; (repeat' split) <;> omega
theorem dblc_zero {a : Nat} : dblc a = 0 ↔ a = 0 := by unfold dblc HID; split <;> omega
theorem dblc_le {a b : Nat} : dblc a ≤ dblc b ↔ a ≤ b := by unfold dblc HID; (repeat' split) <;> omega
/-- ids, and as what each one counts. -/
def cs (l : List (Int × Nat)) : List (Int × Nat) := l.map fun e => (e.1, cl e.2)
def dbl (c : List (Int × Nat)) : List (Int × Nat) := c.map fun e => (e.1, dblc e.2)
def prtc (a b : Nat) : Nat := if a = 0 ∨ b = 0 then 0 else if b ≤ a then ONE else divF a b
theorem part_eq (a b : Nat) : part a b = prtc (cl a) (cl b) := rfl
def bestC' (c : List (Int × Nat)) : Nat := c.foldl (fun b e => max b e.2) 0
theorem best_cs (l : List (Int × Nat)) : best (wts l) = bestC' (cs l) := by
  unfold best bestC' wts cs; rw [List.foldl_map, List.foldl_map]
def idsC (c : List (Int × Nat)) (n : Nat) : List Int := ((List.range n).flatMap fun r => (c.filter fun e => fire (prtc e.2 (bestC' c)) r).map (·.1)).take n
theorem ids_cs (l : List (Int × Nat)) (n : Nat) : idsOf l n = idsC (cs l) n := by
  unfold idsOf idsC
  congr 1
  apply Deep.flatMap_congr_range
  intro r _
  have hb : cl (best (wts l)) = best (wts l) := cl_best (wts l)
  unfold cs
  rw [List.filter_map, List.map_map]
  have h : (l.filter fun e => fire (part e.2 (best (wts l))) r) = l.filter ((fun e : Int × Nat => fire (prtc e.2 (bestC' (l.map fun e => (e.1, cl e.2)))) r) ∘ fun e => (e.1, cl e.2)) := by
    apply List.filter_congr
    intro e _
    have := best_cs l
    unfold cs at this
    rw [Function.comp, ← this, part_eq, hb]
  rw [h]; rfl
theorem best_dbl_go (c : List (Int × Nat)) : ∀ b, (dbl c).foldl (fun b e => max b e.2) (dblc b) = dblc (c.foldl (fun b e => max b e.2) b) := by
  induction c with
  | nil => intro b; rfl
  | cons e t ih =>
    intro b
    unfold dbl at *
    simp only [List.map_cons, List.foldl_cons]
    rw [dblc_max]; exact ih _
theorem best_dbl (c : List (Int × Nat)) : bestC' (dbl c) = dblc (bestC' c) := best_dbl_go c 0
theorem best_okc {c : List (Int × Nat)} (h : ∀ e ∈ c, okc e.2) : okc (bestC' c) := by
  have go : ∀ (c : List (Int × Nat)) (b : Nat), (∀ e ∈ c, okc e.2) → okc b → okc (c.foldl (fun b e => max b e.2) b) := by
    intro c
    induction c with
    | nil => intro b _ hb; exact hb
    | cons e t ih =>
      intro b hc hb
      rw [List.foldl_cons]
      refine ih _ (fun e he => hc e (List.mem_cons_of_mem _ he)) ?_
      have := hc e (List.mem_cons_self ..)
      unfold okc at *
      rcases Nat.le_total b e.2 with h | h
      · rw [Nat.max_eq_right h]; exact this
      · rw [Nat.max_eq_left h]; exact hb
  exact go c 0 h (.inl rfl)
theorem prtc_dbl {a b : Nat} (ha : okc a) (hb : okc b) : prtc (dblc a) (dblc b) = prtc a b := by
  unfold prtc
  simp only [dblc_zero, dblc_le]
  by_cases h0 : a = 0 ∨ b = 0
  · rw [if_pos h0, if_pos h0]
  rw [if_neg h0, if_neg h0]
  by_cases h1 : b ≤ a
  · rw [if_pos h1, if_pos h1]
  rw [if_neg h1, if_neg h1]
  unfold okc HID at *
  unfold dblc HID
  rw [if_neg (by omega), if_neg (by omega)]
  exact divF_double (by omega) (by omega) (by omega) (by omega)
theorem idsC_dbl {c : List (Int × Nat)} (h : ∀ e ∈ c, okc e.2) (n : Nat) : idsC (dbl c) n = idsC c n := by
  unfold idsC
  congr 1
  apply Deep.flatMap_congr_range
  intro r _
  rw [best_dbl]
  unfold dbl
  rw [List.filter_map, List.map_map]
  have h : (c.filter ((fun e : Int × Nat => fire (prtc e.2 (dblc (bestC' c))) r) ∘ fun e => (e.1, dblc e.2))) = c.filter fun e => fire (prtc e.2 (bestC' c)) r := by
    apply List.filter_congr
    intro e he
    rw [Function.comp, prtc_dbl (h e he) (best_okc h)]
  rw [h]; rfl
theorem ids_map {l k : List (Int × Nat)} (h : k.map (·.1) = l.map (·.1)) : k.length = l.length ∧ ∀ i, idAt k i = idAt l i := by
  have hl : k.length = l.length := by have := congrArg List.length h; simpa using this
  refine ⟨hl, fun i => ?_⟩
  by_cases hi : i < l.length
  · have h2 := congrArg (fun x => x[i]?) h
    simp [hi, hl] at h2
    simp [idAt, List.getD, hi, hl, h2]
  · simp [idAt, List.getD, hi, hl]
theorem right_map {l k : List (Int × Nat)} (h : k.map (·.1) = l.map (·.1)) : rightOk k = rightOk l := by
  obtain ⟨h1, h2⟩ := ids_map h
  unfold rightOk goodAt
  simp only [h1, h2]
/-- all twice as great: the same table. -/
theorem scaled {l k : List (Int × Nat)} {n : Nat} (hn : slotsOk n = true) (hc : cs k = dbl (cs l)) (ho : ∀ e ∈ cs l, okc e.2) : bTab k n = bTab l n ∧ bErr k n = bErr l n := by
  have hids : k.map (·.1) = l.map (·.1) := by
    have := congrArg (List.map (·.1)) hc
    unfold cs dbl at this
    simp only [List.map_map] at this
    exact this
  have hr := right_map hids
  cases hl : rightOk l
  · rw [hl] at hr
    rcases build_cases l hn with ⟨_, h, _⟩ | ⟨⟨a1, _⟩ | ⟨_, h, _⟩, a4⟩
    · rw [hl] at h; cases h
    · rcases build_cases k hn with ⟨_, h, _⟩ | ⟨⟨b1, _⟩ | ⟨_, h, _⟩, b4⟩
      · rw [hr] at h; cases h
      · rw [a1, a4, b1, b4]; exact ⟨rfl, rfl⟩
      · rw [hr] at h; cases h
    · rw [hl] at h; cases h
  · rw [hl] at hr
    exact same_tab hn hr hl (by rw [best_cs, best_cs, hc, best_dbl, dblc_zero]) (by rw [ids_cs, ids_cs, hc, idsC_dbl ho])

/-- a float twice. -/
def DB (y r : Nat) : Prop := r < B64 ∧ okc (cl y) ∧ cl r = dblc (cl y)
theorem cl_neg {y : Nat} (h : 9223372036854775808 ≤ y) : cl y = 0 := by unfold cl; unfold INF; rw [if_neg (by omega), if_neg (by omega)]
theorem read_two : double.read TWO = .number false 4503599627370496 (-51) := by decide
theorem mul_nan {y : Nat} (h : isN y) : double.mul TWO y = none := by
  unfold Format.mul
  rw [read_two, read_nan y h]; rfl
theorem word_true (r : Nat) : double.word true r = 9223372036854775808 + r := rfl
theorem mul_neg {y : Nat} (h0 : 9223372036854775808 ≤ y) (h1 : y ≤ INF + 9223372036854775808) : ∃ r, double.mul TWO y = some r ∧ 9223372036854775808 ≤ r ∧ r < B64 := by
  obtain ⟨z, rfl⟩ : ∃ z, y = z + 9223372036854775808 := ⟨y - 9223372036854775808, by omega⟩
  have hz : z ≤ INF := by omega
  unfold Format.mul
  rcases Nat.lt_or_ge z INF with h | h
  · rw [read_two, read_neg z h]
    refine ⟨_, rfl, ?_⟩
    show 9223372036854775808 ≤ double.nearest true (4503599627370496 * mg z) _ ∧ double.nearest true (4503599627370496 * mg z) _ < B64
    by_cases hm : 4503599627370496 * mg z = 0
    · rw [hm]
      unfold Format.nearest
      rw [if_pos rfl, word_true]
      unfold B64; omega
    · rw [nearest_eq _ _ _ hm, word_true]
      have := Nat.min_le_right ((lastp (4503599627370496 * mg z) (-51 + (-1074 + (ex z : Int))) + 1074).toNat * 4503599627370496 + RN (4503599627370496 * mg z * 2 ^ (-51 + (-1074 + (ex z : Int)) - lastp (4503599627370496 * mg z) (-51 + (-1074 + (ex z : Int)))).toNat) (lastp (4503599627370496 * mg z) (-51 + (-1074 + (ex z : Int))) - (-51 + (-1074 + (ex z : Int)))).toNat) INF
      refine ⟨by omega, ?_⟩
      unfold INF at this ⊢
      unfold B64
      omega
  · have : z = INF := by omega
    subst this
    rw [read_two, read_ninf]
    exact ⟨9223372036854775808 + INF, by decide, Nat.le_add_right _ _, by unfold B64 INF; omega⟩
theorem mul_zero' : double.mul TWO 0 = some 0 := by decide +kernel
/-- what 2 * y is, where the law goes on. -/
theorem twice {y : Nat} (hy : y < B64) (h1 : gtF y 9094988921128908188 = false) (h2 : gtF y 0 = true → ltF y 118622047889322841 = false) :
    (double.mul TWO y = none ∧ okc (cl y) ∧ dblc (cl y) = 0) ∨ ∃ r, double.mul TWO y = some r ∧ DB y r := by
  by_cases hn : isN y
  · left
    refine ⟨mul_nan hn, .inl (cl_nan hn), ?_⟩
    rw [cl_nan hn]; rfl
  right
  rcases Nat.lt_or_ge y 9223372036854775808 with h | h
  · have hi : y ≤ INF := by unfold isN at hn; rw [Nat.mod_eq_of_lt h] at hn; omega
    rw [gtF_pos hi (by unfold INF; omega)] at h1
    have h1' : ¬ 9094988921128908188 < y := of_decide_eq_false h1
    by_cases h0 : y = 0
    · subst h0
      have hc0 : cl 0 = 0 := by simp [cl, INF]
      exact ⟨0, mul_zero', by unfold B64; omega, .inl hc0, by rw [hc0]; rfl⟩
    · rw [gtF_pos hi (Nat.zero_le _)] at h2
      have h2' := h2 (decide_eq_true (by omega))
      rw [ltF_pos hi (by unfold INF; omega)] at h2'
      have h3 : ¬ y < 118622047889322841 := of_decide_eq_false h2'
      have hc : cl y = y := by unfold cl; unfold INF; rw [if_pos (by omega)]
      have hr : cl (y + 4503599627370496) = y + 4503599627370496 := by unfold cl; unfold INF; rw [if_pos (by omega)]
      have q1 : 4503599627370496 ≤ y := by omega
      have q2 : y + 4503599627370496 ≤ INF := by unfold INF; omega
      have q3 : y + 4503599627370496 < B64 := by unfold B64; omega
      refine ⟨y + 4503599627370496, double_pos q1 q2, q3, ?_, ?_⟩
      · rw [hc]; right; unfold HID INF; omega
      · rw [hc, hr]; unfold dblc HID; rw [if_neg h0]
  · obtain ⟨r, hr, hr1, hr2⟩ := mul_neg h (by unfold isN at hn; unfold B64 at hy; omega)
    refine ⟨r, hr, hr2, .inl (cl_neg h), ?_⟩
    rw [cl_neg h, cl_neg hr1]; rfl
def nan2 (y : Nat) (w : World) : Nat := Question.cut (.nanBits .f64 TWO y) (w.tape w.drawn (.nanBits .f64 TWO y))
theorem nan2_nan (y : Nat) (w : World) : isN (nan2 y w) ∧ nan2 y w < B64 := by
  unfold nan2 Question.cut isN INF B64
  simp only
  generalize w.tape w.drawn (.nanBits .f64 TWO y) = t
  simp only [show (2 : Nat) ^ 63 = 9223372036854775808 from rfl, show (2 : Nat) ^ 52 - 1 = 4503599627370495 from rfl]
  rcases (show t % 2 = 0 ∨ t % 2 = 1 by omega) with h | h <;> rw [h] <;> omega
theorem run_mul_nan {P : Program} {y : Nat} (h : double.mul TWO y = none) (t : TypeId) (w : World) : (binOp .mul t (.float .f64 4611686018427387904) (.float .f64 y)).run P w = .ok (.float .f64 (nan2 y w)) w.drew := by
  have h : FloatKind.f64.format.mul 4611686018427387904 y = none := h
  simp [binOp, Op.floatArith, h, nan2, TWO]
  intro hf
  cases hf
theorem run_mul_some {P : Program} {y r : Nat} (h : double.mul TWO y = some r) (t : TypeId) (w : World) : (binOp .mul t (.float .f64 4611686018427387904) (.float .f64 y)).run P w = .ok (.float .f64 r) w := by
  have h : FloatKind.f64.format.mul 4611686018427387904 y = some r := h
  simp [binOp, Op.floatArith, h]
theorem DB.nan {y r : Nat} (h0 : okc (cl y) ∧ dblc (cl y) = 0) (h : isN r ∧ r < B64) : DB y r := ⟨h.2, h0.1, by rw [cl_nan h.1, h0.2]⟩
end Go.Proofs.YtniejpfjbifjkaaDoor
