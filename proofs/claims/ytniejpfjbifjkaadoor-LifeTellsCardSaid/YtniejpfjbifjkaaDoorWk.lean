/- known() of the law about weights: it returns true. -/
import Derived.Test.YtniejpfjbifjkaaDoorWf
namespace Go.Proofs.YtniejpfjbifjkaaDoor
open Go.RowKit Fl

theorem cl_nan {x : Nat} (h : isN x) : cl x = 0 := by
  unfold cl; unfold isN INF at *; rw [if_neg (by omega), if_neg (by omega)]
theorem best_known {x : Nat} (h : isN x) : best [4611686018427387904, 4607182418800017408, 0, x] = 4611686018427387904 := by
  unfold best
  simp only [List.foldl_cons, List.foldl_nil, cl_nan h]
  decide
theorem half : part 4607182418800017408 4611686018427387904 = 4602678819172646912 := by decide +kernel
theorem parts_known {x : Nat} (h : isN x) : parts [4611686018427387904, 4607182418800017408, 0, x] = [4607182418800017408, 4602678819172646912, 0, 0] := by
  unfold parts
  rw [best_known h]
  simp only [List.map_cons, List.map_nil, half]
  have h1 : part 4611686018427387904 4611686018427387904 = 4607182418800017408 := by decide
  have h2 : part 0 4611686018427387904 = 0 := by decide
  have h3 : part x 4611686018427387904 = 0 := by unfold part; rw [if_pos (.inl (cl_nan h))]
  rw [h1, h2, h3]
theorem turns_known {x : Nat} (h : isN x) : turns [4611686018427387904, 4607182418800017408, 0, x] 6 = [0, 0, 1, 0, 0, 1] := by
  have hn : ¬ noTurns [4611686018427387904, 4607182418800017408, 0, x] 6 := by
    unfold noTurns; rw [best_known h]; simp
  unfold turns
  rw [if_neg hn]
  unfold turnsN
  rw [parts_known h]
  show (runT [4607182418800017408, 4602678819172646912, 0, 0] 24).2.take 6 = _
  decide +kernel

/-- the fixed list in memory. -/
theorem fls_known {x : Nat} (hx : x < B64) (w : World) :
    Fls (w.alloc (.cells #[.float .f64 4611686018427387904, .float .f64 4607182418800017408, .float .f64 0, .float .f64 x] 22)) (some ⟨w.heap.size, 0, none⟩) [4611686018427387904, 4607182418800017408, 0, x] := by
  refine ⟨by simp, ?_, ?_⟩
  · intro y hy
    unfold B64 at *
    simp at hy
    omega
  · intro i hi
    refine ⟨w.heap.size, 0, rfl, ?_⟩
    simp at hi
    rw [Nat.zero_add]
    match i, hi with
    | 0, _ => simp [World.cell?_alloc_new]
    | 1, _ => simp [World.cell?_alloc_new]
    | 2, _ => simp [World.cell?_alloc_new]
    | 3, _ => simp [World.cell?_alloc_new]

theorem Ils.of_own {w : World} {base e g cap : Nat} {l : List Int} {n : Nat} (hn : n = l.length) (h : w.ownsRow base e 1 (.slice (some ⟨g, 0, none⟩) n cap) n (ints' l)) : Ils w (some ⟨g, 0, none⟩) l := by
  subst hn
  obtain ⟨a, c, h1, h2⟩ := Ils.owned h
  cases h1; exact h2
theorem ils_known (w : World) : Ils (w.alloc (.cells #[.int .i64 0, .int .i64 0, .int .i64 1, .int .i64 0, .int .i64 0, .int .i64 1] 3)) (some ⟨w.heap.size, 0, none⟩) [0, 0, 1, 0, 0, 1] := by
  refine ⟨by simp, fun i hi => ⟨w.heap.size, 0, rfl, ?_⟩⟩
  simp at hi
  rw [Nat.zero_add]
  match i, hi with
  | 0, _ => simp [World.cell?_alloc_new]
  | 1, _ => simp [World.cell?_alloc_new]
  | 2, _ => simp [World.cell?_alloc_new]
  | 3, _ => simp [World.cell?_alloc_new]
  | 4, _ => simp [World.cell?_alloc_new]
  | 5, _ => simp [World.cell?_alloc_new]
theorem same_nan {x y : Nat} (hx : isN x) (hy : isN y) : sameF x y = true := by
  unfold sameF ordF
  rw [kind_nan hx, kind_nan hy, ltF_nan (.inl hx), gtF_nan (.inl hx)]
  rfl

set_option maxHeartbeats 1000000 in
theorem knownC (w : World) (hl : Laid w) (hpos : 0 < w.heap.size) :
    Calls Tryd.prog 27 #[] w fun e w' => e = .returned (.bool true) ∧ Below w.heap.size w w' := by
  go_enter Tryd.func27, Tryd.ntmps27
  go_wp2_with fail
  refine (nanC _).mono ?_
  rintro e w' ⟨x, rfl, hx, hx', rfl⟩
  go_wp2_with fail
  have b1 : Below w.heap.size w (w.alloc (.cells #[.float .f64 4611686018427387904, .float .f64 4607182418800017408, .float .f64 0, .float .f64 x] 22)).drew := ((Below.refl _ _).alloc (Nat.le_refl _) _).drew
  have hf1 := fls_known hx' w
  generalize hW1 : (w.alloc (.cells #[.float .f64 4611686018427387904, .float .f64 4607182418800017408, .float .f64 0, .float .f64 x] 22)).drew = W1 at *
  have hs1 : W1.heap.size = w.heap.size + 1 := by rw [← hW1]; simp
  have hf1' : Fls W1 (some ⟨w.heap.size, 0, none⟩) [4611686018427387904, 4607182418800017408, 0, x] := by rw [← hW1]; exact hf1
  have hl1 : Laid W1 := hl.below b1 hpos
  clear hW1 hf1
  refine (turnsC [4611686018427387904, 4607182418800017408, 0, x] 6 (some ⟨w.heap.size, 0, none⟩) 4 W1 hl1 hf1' (by omega)).mono ?_
  rw [turns_known hx]
  rintro e w2 ⟨v, rfl, hown2, hb2, _, hv⟩
  obtain ⟨g, rfl⟩ := hv (by simp)
  have hb2' : Below w.heap.size w w2 := b1.trans (hb2.mono (by omega))
  have hl2 : Laid w2 := hl.below hb2' hpos
  have hf2 : Fls w2 (some ⟨w.heap.size, 0, none⟩) [4611686018427387904, 4607182418800017408, 0, x] := hf1'.below hb2
  have hg2 := hown2.lt g rfl
  clear hf1' hl1 hb2
  have hs1' : w.heap.size < W1.heap.size := by omega
  clear hs1 b1
  go_wp2_with fail
  have hi1 : Ils (w2.alloc (.cells #[.int .i64 0, .int .i64 0, .int .i64 1, .int .i64 0, .int .i64 0, .int .i64 1] 3)) (some ⟨g, 0, none⟩) [0, 0, 1, 0, 0, 1] := Ils.of_own rfl (hown2.alloc _)
  refine (same33 [0, 0, 1, 0, 0, 1] [0, 0, 1, 0, 0, 1] _ _ 6 6 _ hi1 (ils_known w2)).mono ?_
  rintro e w3 ⟨rfl, q, rfl⟩
  have hb3 : Below w.heap.size w ((w2.alloc (.cells #[.int .i64 0, .int .i64 0, .int .i64 1, .int .i64 0, .int .i64 0, .int .i64 1] 3)).drewN q) := below_drewN (hb2'.alloc hb2'.size _) q
  have hb23 : Below w2.heap.size w2 ((w2.alloc (.cells #[.int .i64 0, .int .i64 0, .int .i64 1, .int .i64 0, .int .i64 0, .int .i64 1] 3)).drewN q) := below_drewN ((Below.refl _ _).alloc (Nat.le_refl _) _) q
  have hf3 := hf2.below hb23
  have hl3 := hl2.below hb23 (by omega)
  generalize (w2.alloc (.cells #[.int .i64 0, .int .i64 0, .int .i64 1, .int .i64 0, .int .i64 0, .int .i64 1] 3)).drewN q = w3 at hb3 hf3 hl3 ⊢
  clear hi1 hb23 hf2 hl2 hown2 hg2 hb2' hl
  rw [show decide (([0, 0, 1, 0, 0, 1] : List Int) = [0, 0, 1, 0, 0, 1]) = true by decide]
  go_wp2_with fail
  refine (minusC _).mono ?_
  rintro e w' ⟨rfl, rfl⟩
  go_wp2_with fail
  refine (cleanC _ _ (by decide) hl3).mono ?_
  rintro e w' ⟨rfl, rfl⟩
  rw [show cl 9223372036854775808 = 0 by decide]
  go_wp2_with fail
  refine (rsame_calls _ _ _ (by decide) (by decide)).mono ?_
  rintro e w' ⟨rfl, rfl⟩
  rw [show rsameF 0 0 = true by decide +kernel]
  go_wp2_with fail
  refine (minusC _).mono ?_
  rintro e w' ⟨rfl, rfl⟩
  go_wp2_with fail
  refine (less_calls _ _ _).mono ?_
  rintro e w' ⟨rfl, rfl⟩
  rw [show lessF 9223372036854775808 0 = true by decide +kernel]
  go_wp2_with fail
  refine (nanC _).mono ?_
  rintro e w' ⟨x1, rfl, hx1, _, rfl⟩
  go_wp2_with fail
  refine (nanC _).mono ?_
  rintro e w' ⟨x2, rfl, hx2, _, rfl⟩
  go_wp2_with fail
  refine (same_calls _ _ _).mono ?_
  rintro e w' ⟨rfl, rfl⟩
  rw [same_nan hx1 hx2]
  go_wp2_with fail
  have hf4 : Fls w3.drew.drew (some ⟨w.heap.size, 0, none⟩) [4611686018427387904, 4607182418800017408, 0, x] :=
    hf3.below (Below.refl _ _).drew.drew
  have hl4 : Laid w3.drew.drew := hl3.below (B := 1) (Below.refl _ _).drew.drew (by omega)
  refine (bestC [4611686018427387904, 4607182418800017408, 0, x] _ 4 _ hl4 hf4).mono ?_
  rintro e w' ⟨rfl, rfl⟩
  rw [best_known hx]
  have he : eqF 4611686018427387904 4611686018427387904 = true := by decide +kernel
  go_wp2_with fail
  go_ret
  exact ⟨rfl, hb3.drew.drew⟩
end Go.Proofs.YtniejpfjbifjkaaDoor
