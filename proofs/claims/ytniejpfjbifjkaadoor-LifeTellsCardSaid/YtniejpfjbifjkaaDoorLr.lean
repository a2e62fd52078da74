/- The reference's later of two specs (123). -/
import Derived.Test.YtniejpfjbifjkaaDoorLp
namespace Go.Proofs.YtniejpfjbifjkaaDoor
open Go.RowKit Fl

def laterOk (s t : Spc) : Bool := if s.st ≠ t.st then decide (t.st < s.st) else if s.by_ ≠ t.by_ then decide (t.by_ < s.by_) else if cmpD s.v6 s.b t.v6 t.b ≠ 0 then decide (0 < cmpD s.v6 s.b t.v6 t.b) else lessF t.w s.w
set_option maxRecDepth 100000 in
set_option maxHeartbeats 1000000 in
theorem laterC (s t : Spc) (w : World) (hs : ∀ i, 0 ≤ s.b i ∧ s.b i < 256) (ht : ∀ i, 0 ≤ t.b i ∧ t.b i < 256) (hsw : s.w < B64) (htw : t.w < B64) :
    Calls Tryd.prog 123 #[spcV s, spcV t] w fun e w' => e = .returned (.bool (laterOk s t)) ∧ Below w.heap.size w w' := by
  have hB0 : Below w.heap.size w ((w.alloc (.cells #[.int .i64 s.st, .int .i64 s.by_, .bool s.v6, .int .u8 (s.b 0), .int .u8 (s.b 1), .int .u8 (s.b 2), .int .u8 (s.b 3), .int .u8 (s.b 4), .int .u8 (s.b 5), .int .u8 (s.b 6), .int .u8 (s.b 7), .int .u8 (s.b 8), .int .u8 (s.b 9), .int .u8 (s.b 10), .int .u8 (s.b 11), .int .u8 (s.b 12), .int .u8 (s.b 13), .int .u8 (s.b 14), .int .u8 (s.b 15), .float .f64 s.w] 68)).alloc (.cells #[.int .i64 t.st, .int .i64 t.by_, .bool t.v6, .int .u8 (t.b 0), .int .u8 (t.b 1), .int .u8 (t.b 2), .int .u8 (t.b 3), .int .u8 (t.b 4), .int .u8 (t.b 5), .int .u8 (t.b 6), .int .u8 (t.b 7), .int .u8 (t.b 8), .int .u8 (t.b 9), .int .u8 (t.b 10), .int .u8 (t.b 11), .int .u8 (t.b 12), .int .u8 (t.b 13), .int .u8 (t.b 14), .int .u8 (t.b 15), .float .f64 t.w] 68)) := ((Below.refl _ _).alloc (Nat.le_refl _) _).alloc (by simp) _
  have q1 : ((w.alloc (.cells #[.int .i64 s.st, .int .i64 s.by_, .bool s.v6, .int .u8 (s.b 0), .int .u8 (s.b 1), .int .u8 (s.b 2), .int .u8 (s.b 3), .int .u8 (s.b 4), .int .u8 (s.b 5), .int .u8 (s.b 6), .int .u8 (s.b 7), .int .u8 (s.b 8), .int .u8 (s.b 9), .int .u8 (s.b 10), .int .u8 (s.b 11), .int .u8 (s.b 12), .int .u8 (s.b 13), .int .u8 (s.b 14), .int .u8 (s.b 15), .float .f64 s.w] 68)).alloc (.cells #[.int .i64 t.st, .int .i64 t.by_, .bool t.v6, .int .u8 (t.b 0), .int .u8 (t.b 1), .int .u8 (t.b 2), .int .u8 (t.b 3), .int .u8 (t.b 4), .int .u8 (t.b 5), .int .u8 (t.b 6), .int .u8 (t.b 7), .int .u8 (t.b 8), .int .u8 (t.b 9), .int .u8 (t.b 10), .int .u8 (t.b 11), .int .u8 (t.b 12), .int .u8 (t.b 13), .int .u8 (t.b 14), .int .u8 (t.b 15), .float .f64 t.w] 68)).heap[w.heap.size]? = some (.cells #[.int .i64 s.st, .int .i64 s.by_, .bool s.v6, .int .u8 (s.b 0), .int .u8 (s.b 1), .int .u8 (s.b 2), .int .u8 (s.b 3), .int .u8 (s.b 4), .int .u8 (s.b 5), .int .u8 (s.b 6), .int .u8 (s.b 7), .int .u8 (s.b 8), .int .u8 (s.b 9), .int .u8 (s.b 10), .int .u8 (s.b 11), .int .u8 (s.b 12), .int .u8 (s.b 13), .int .u8 (s.b 14), .int .u8 (s.b 15), .float .f64 s.w] 68) := by
    rw [heap_alloc_old _ _ (by simp), heap_alloc_new]
  have q2 : ((w.alloc (.cells #[.int .i64 s.st, .int .i64 s.by_, .bool s.v6, .int .u8 (s.b 0), .int .u8 (s.b 1), .int .u8 (s.b 2), .int .u8 (s.b 3), .int .u8 (s.b 4), .int .u8 (s.b 5), .int .u8 (s.b 6), .int .u8 (s.b 7), .int .u8 (s.b 8), .int .u8 (s.b 9), .int .u8 (s.b 10), .int .u8 (s.b 11), .int .u8 (s.b 12), .int .u8 (s.b 13), .int .u8 (s.b 14), .int .u8 (s.b 15), .float .f64 s.w] 68)).alloc (.cells #[.int .i64 t.st, .int .i64 t.by_, .bool t.v6, .int .u8 (t.b 0), .int .u8 (t.b 1), .int .u8 (t.b 2), .int .u8 (t.b 3), .int .u8 (t.b 4), .int .u8 (t.b 5), .int .u8 (t.b 6), .int .u8 (t.b 7), .int .u8 (t.b 8), .int .u8 (t.b 9), .int .u8 (t.b 10), .int .u8 (t.b 11), .int .u8 (t.b 12), .int .u8 (t.b 13), .int .u8 (t.b 14), .int .u8 (t.b 15), .float .f64 t.w] 68)).heap[w.heap.size + 1]? = some (.cells #[.int .i64 t.st, .int .i64 t.by_, .bool t.v6, .int .u8 (t.b 0), .int .u8 (t.b 1), .int .u8 (t.b 2), .int .u8 (t.b 3), .int .u8 (t.b 4), .int .u8 (t.b 5), .int .u8 (t.b 6), .int .u8 (t.b 7), .int .u8 (t.b 8), .int .u8 (t.b 9), .int .u8 (t.b 10), .int .u8 (t.b 11), .int .u8 (t.b 12), .int .u8 (t.b 13), .int .u8 (t.b 14), .int .u8 (t.b 15), .float .f64 t.w] 68) := heap_new2 _ _ _
  have r1 : ((w.alloc (.cells #[.int .i64 s.st, .int .i64 s.by_, .bool s.v6, .int .u8 (s.b 0), .int .u8 (s.b 1), .int .u8 (s.b 2), .int .u8 (s.b 3), .int .u8 (s.b 4), .int .u8 (s.b 5), .int .u8 (s.b 6), .int .u8 (s.b 7), .int .u8 (s.b 8), .int .u8 (s.b 9), .int .u8 (s.b 10), .int .u8 (s.b 11), .int .u8 (s.b 12), .int .u8 (s.b 13), .int .u8 (s.b 14), .int .u8 (s.b 15), .float .f64 s.w] 68)).alloc (.cells #[.int .i64 t.st, .int .i64 t.by_, .bool t.v6, .int .u8 (t.b 0), .int .u8 (t.b 1), .int .u8 (t.b 2), .int .u8 (t.b 3), .int .u8 (t.b 4), .int .u8 (t.b 5), .int .u8 (t.b 6), .int .u8 (t.b 7), .int .u8 (t.b 8), .int .u8 (t.b 9), .int .u8 (t.b 10), .int .u8 (t.b 11), .int .u8 (t.b 12), .int .u8 (t.b 13), .int .u8 (t.b 14), .int .u8 (t.b 15), .float .f64 t.w] 68)).rangeAt w.heap.size 2 [.bool s.v6, .int .u8 (s.b 0), .int .u8 (s.b 1), .int .u8 (s.b 2), .int .u8 (s.b 3), .int .u8 (s.b 4), .int .u8 (s.b 5), .int .u8 (s.b 6), .int .u8 (s.b 7), .int .u8 (s.b 8), .int .u8 (s.b 9), .int .u8 (s.b 10), .int .u8 (s.b 11), .int .u8 (s.b 12), .int .u8 (s.b 13), .int .u8 (s.b 14), .int .u8 (s.b 15)] := range_row q1 2 _ (drop_lit _ 2 _ rfl)
  have r2 : ((w.alloc (.cells #[.int .i64 s.st, .int .i64 s.by_, .bool s.v6, .int .u8 (s.b 0), .int .u8 (s.b 1), .int .u8 (s.b 2), .int .u8 (s.b 3), .int .u8 (s.b 4), .int .u8 (s.b 5), .int .u8 (s.b 6), .int .u8 (s.b 7), .int .u8 (s.b 8), .int .u8 (s.b 9), .int .u8 (s.b 10), .int .u8 (s.b 11), .int .u8 (s.b 12), .int .u8 (s.b 13), .int .u8 (s.b 14), .int .u8 (s.b 15), .float .f64 s.w] 68)).alloc (.cells #[.int .i64 t.st, .int .i64 t.by_, .bool t.v6, .int .u8 (t.b 0), .int .u8 (t.b 1), .int .u8 (t.b 2), .int .u8 (t.b 3), .int .u8 (t.b 4), .int .u8 (t.b 5), .int .u8 (t.b 6), .int .u8 (t.b 7), .int .u8 (t.b 8), .int .u8 (t.b 9), .int .u8 (t.b 10), .int .u8 (t.b 11), .int .u8 (t.b 12), .int .u8 (t.b 13), .int .u8 (t.b 14), .int .u8 (t.b 15), .float .f64 t.w] 68)).rangeAt (w.heap.size + 1) 2 [.bool t.v6, .int .u8 (t.b 0), .int .u8 (t.b 1), .int .u8 (t.b 2), .int .u8 (t.b 3), .int .u8 (t.b 4), .int .u8 (t.b 5), .int .u8 (t.b 6), .int .u8 (t.b 7), .int .u8 (t.b 8), .int .u8 (t.b 9), .int .u8 (t.b 10), .int .u8 (t.b 11), .int .u8 (t.b 12), .int .u8 (t.b 13), .int .u8 (t.b 14), .int .u8 (t.b 15)] := range_row q2 2 _ (drop_lit _ 2 _ rfl)
  have R1 := Lib.hid r1
  have R2 := Lib.hid r2
  have hcm := fun W => rcmpC s.v6 s.b t.v6 t.b W hs ht
  have hle := fun W => rlessC t.w s.w W htw hsw
  have hcs : ((s.st != t.st) = true ∧ laterOk s t = decide (t.st < s.st)) ∨ ((s.st != t.st) = false ∧ (((s.by_ != t.by_) = true ∧ laterOk s t = decide (t.by_ < s.by_)) ∨ ((s.by_ != t.by_) = false ∧ (((cmpD s.v6 s.b t.v6 t.b != 0) = true ∧ laterOk s t = decide (0 < cmpD s.v6 s.b t.v6 t.b)) ∨ ((cmpD s.v6 s.b t.v6 t.b != 0) = false ∧ laterOk s t = lessF t.w s.w))))) := by
    unfold laterOk
    by_cases h1 : s.st = t.st
    · right; refine ⟨by simp [h1], ?_⟩
      rw [if_neg (fun h => h h1)]
      by_cases h2 : s.by_ = t.by_
      · right; refine ⟨by simp [h2], ?_⟩
        rw [if_neg (fun h => h h2)]
        by_cases h3 : cmpD s.v6 s.b t.v6 t.b = 0
        · right; refine ⟨by simp [h3], ?_⟩
          rw [if_neg (fun h => h h3)]
        · left; refine ⟨by simpa using h3, ?_⟩
          rw [if_pos h3]
      · left; refine ⟨by simpa using h2, ?_⟩
        rw [if_pos h2]
    · left; refine ⟨by simpa using h1, ?_⟩
      rw [if_pos h1]
  unfold adrV at hcm
  unfold spcV
  clear q1 q2 r1 r2 hs ht hsw htw
  generalize laterOk s t = q at *
  generalize cmpD s.v6 s.b t.v6 t.b = m at *
  generalize lessF t.w s.w = le at *
  rcases hcs with ⟨d1, rfl⟩ | ⟨d1, ⟨d2, rfl⟩ | ⟨d2, hcs⟩⟩
  · clear hcm hle
    as_aux_lemma =>
      go_enter Tryd.func123, Tryd.ntmps123
      go_wp2_with fail
      go_ret
      exact ⟨rfl, hB0⟩
  · clear hcm hle
    as_aux_lemma =>
      go_enter Tryd.func123, Tryd.ntmps123
      go_wp2_with fail
      go_ret
      exact ⟨rfl, hB0⟩
  · have hrow : ∀ w1, Below ((w.alloc (.cells #[.int .i64 s.st, .int .i64 s.by_, .bool s.v6, .int .u8 (s.b 0), .int .u8 (s.b 1), .int .u8 (s.b 2), .int .u8 (s.b 3), .int .u8 (s.b 4), .int .u8 (s.b 5), .int .u8 (s.b 6), .int .u8 (s.b 7), .int .u8 (s.b 8), .int .u8 (s.b 9), .int .u8 (s.b 10), .int .u8 (s.b 11), .int .u8 (s.b 12), .int .u8 (s.b 13), .int .u8 (s.b 14), .int .u8 (s.b 15), .float .f64 s.w] 68)).alloc (.cells #[.int .i64 t.st, .int .i64 t.by_, .bool t.v6, .int .u8 (t.b 0), .int .u8 (t.b 1), .int .u8 (t.b 2), .int .u8 (t.b 3), .int .u8 (t.b 4), .int .u8 (t.b 5), .int .u8 (t.b 6), .int .u8 (t.b 7), .int .u8 (t.b 8), .int .u8 (t.b 9), .int .u8 (t.b 10), .int .u8 (t.b 11), .int .u8 (t.b 12), .int .u8 (t.b 13), .int .u8 (t.b 14), .int .u8 (t.b 15), .float .f64 t.w] 68)).heap.size ((w.alloc (.cells #[.int .i64 s.st, .int .i64 s.by_, .bool s.v6, .int .u8 (s.b 0), .int .u8 (s.b 1), .int .u8 (s.b 2), .int .u8 (s.b 3), .int .u8 (s.b 4), .int .u8 (s.b 5), .int .u8 (s.b 6), .int .u8 (s.b 7), .int .u8 (s.b 8), .int .u8 (s.b 9), .int .u8 (s.b 10), .int .u8 (s.b 11), .int .u8 (s.b 12), .int .u8 (s.b 13), .int .u8 (s.b 14), .int .u8 (s.b 15), .float .f64 s.w] 68)).alloc (.cells #[.int .i64 t.st, .int .i64 t.by_, .bool t.v6, .int .u8 (t.b 0), .int .u8 (t.b 1), .int .u8 (t.b 2), .int .u8 (t.b 3), .int .u8 (t.b 4), .int .u8 (t.b 5), .int .u8 (t.b 6), .int .u8 (t.b 7), .int .u8 (t.b 8), .int .u8 (t.b 9), .int .u8 (t.b 10), .int .u8 (t.b 11), .int .u8 (t.b 12), .int .u8 (t.b 13), .int .u8 (t.b 14), .int .u8 (t.b 15), .float .f64 t.w] 68)) w1 → (w1.cell? ⟨w.heap.size, 19, none⟩ = some (.float .f64 s.w) ∧ w1.cell? ⟨w.heap.size + 1, 19, none⟩ = some (.float .f64 t.w)) ∧ Below w.heap.size w w1 := fun w1 hb => by
      have q1 : ((w.alloc (.cells #[.int .i64 s.st, .int .i64 s.by_, .bool s.v6, .int .u8 (s.b 0), .int .u8 (s.b 1), .int .u8 (s.b 2), .int .u8 (s.b 3), .int .u8 (s.b 4), .int .u8 (s.b 5), .int .u8 (s.b 6), .int .u8 (s.b 7), .int .u8 (s.b 8), .int .u8 (s.b 9), .int .u8 (s.b 10), .int .u8 (s.b 11), .int .u8 (s.b 12), .int .u8 (s.b 13), .int .u8 (s.b 14), .int .u8 (s.b 15), .float .f64 s.w] 68)).alloc (.cells #[.int .i64 t.st, .int .i64 t.by_, .bool t.v6, .int .u8 (t.b 0), .int .u8 (t.b 1), .int .u8 (t.b 2), .int .u8 (t.b 3), .int .u8 (t.b 4), .int .u8 (t.b 5), .int .u8 (t.b 6), .int .u8 (t.b 7), .int .u8 (t.b 8), .int .u8 (t.b 9), .int .u8 (t.b 10), .int .u8 (t.b 11), .int .u8 (t.b 12), .int .u8 (t.b 13), .int .u8 (t.b 14), .int .u8 (t.b 15), .float .f64 t.w] 68)).heap[w.heap.size]? = some (.cells #[.int .i64 s.st, .int .i64 s.by_, .bool s.v6, .int .u8 (s.b 0), .int .u8 (s.b 1), .int .u8 (s.b 2), .int .u8 (s.b 3), .int .u8 (s.b 4), .int .u8 (s.b 5), .int .u8 (s.b 6), .int .u8 (s.b 7), .int .u8 (s.b 8), .int .u8 (s.b 9), .int .u8 (s.b 10), .int .u8 (s.b 11), .int .u8 (s.b 12), .int .u8 (s.b 13), .int .u8 (s.b 14), .int .u8 (s.b 15), .float .f64 s.w] 68) := by
        rw [heap_alloc_old _ _ (by simp), heap_alloc_new]
      have q2 : ((w.alloc (.cells #[.int .i64 s.st, .int .i64 s.by_, .bool s.v6, .int .u8 (s.b 0), .int .u8 (s.b 1), .int .u8 (s.b 2), .int .u8 (s.b 3), .int .u8 (s.b 4), .int .u8 (s.b 5), .int .u8 (s.b 6), .int .u8 (s.b 7), .int .u8 (s.b 8), .int .u8 (s.b 9), .int .u8 (s.b 10), .int .u8 (s.b 11), .int .u8 (s.b 12), .int .u8 (s.b 13), .int .u8 (s.b 14), .int .u8 (s.b 15), .float .f64 s.w] 68)).alloc (.cells #[.int .i64 t.st, .int .i64 t.by_, .bool t.v6, .int .u8 (t.b 0), .int .u8 (t.b 1), .int .u8 (t.b 2), .int .u8 (t.b 3), .int .u8 (t.b 4), .int .u8 (t.b 5), .int .u8 (t.b 6), .int .u8 (t.b 7), .int .u8 (t.b 8), .int .u8 (t.b 9), .int .u8 (t.b 10), .int .u8 (t.b 11), .int .u8 (t.b 12), .int .u8 (t.b 13), .int .u8 (t.b 14), .int .u8 (t.b 15), .float .f64 t.w] 68)).heap[w.heap.size + 1]? = some (.cells #[.int .i64 t.st, .int .i64 t.by_, .bool t.v6, .int .u8 (t.b 0), .int .u8 (t.b 1), .int .u8 (t.b 2), .int .u8 (t.b 3), .int .u8 (t.b 4), .int .u8 (t.b 5), .int .u8 (t.b 6), .int .u8 (t.b 7), .int .u8 (t.b 8), .int .u8 (t.b 9), .int .u8 (t.b 10), .int .u8 (t.b 11), .int .u8 (t.b 12), .int .u8 (t.b 13), .int .u8 (t.b 14), .int .u8 (t.b 15), .float .f64 t.w] 68) := heap_new2 _ _ _
      exact ⟨⟨cell_of_row w1 _ 19 _ _ _ (row_below q1 hb), cell_of_row w1 _ 19 _ _ _ (row_below q2 hb)⟩, hB0.trans (hb.mono (by simp; omega))⟩
    rcases hcs with ⟨d3, rfl⟩ | ⟨d3, rfl⟩
    · clear hle
      as_aux_lemma =>
        go_enter Tryd.func123, Tryd.ntmps123
        go_wp2_with (first | (refine wpList_load_want (by rfl) 66 (.tmp 26) (by rfl) w.heap.size 2 (by rfl) _ _ R1.out Tryd.underlying66 rfl size66 ?_; (simp only [Act.put, List.setIfInBounds_toArray, List.set_cons_zero, List.set_cons_succ])) | (refine wpList_load_want (by rfl) 66 (.tmp 28) (by rfl) (w.heap.size + 1) 2 (by rfl) _ _ R2.out Tryd.underlying66 rfl size66 ?_; (simp only [Act.put, List.setIfInBounds_toArray, List.set_cons_zero, List.set_cons_succ])))
        refine (hcm _).mono ?_
        rintro e w1 ⟨rfl, hb1⟩
        obtain ⟨⟨k1, k2⟩, hB⟩ := hrow w1 hb1
        have HB := Lib.hid hB
        clear hb1 hB hcm hrow hB0 R1 R2
        go_wp2_with fail
        go_ret
        exact ⟨rfl, HB.out⟩
    · as_aux_lemma =>
        go_enter Tryd.func123, Tryd.ntmps123
        go_wp2_with (first | (refine wpList_load_want (by rfl) 66 (.tmp 26) (by rfl) w.heap.size 2 (by rfl) _ _ R1.out Tryd.underlying66 rfl size66 ?_; (simp only [Act.put, List.setIfInBounds_toArray, List.set_cons_zero, List.set_cons_succ])) | (refine wpList_load_want (by rfl) 66 (.tmp 28) (by rfl) (w.heap.size + 1) 2 (by rfl) _ _ R2.out Tryd.underlying66 rfl size66 ?_; (simp only [Act.put, List.setIfInBounds_toArray, List.set_cons_zero, List.set_cons_succ])))
        refine (hcm _).mono ?_
        rintro e w1 ⟨rfl, hb1⟩
        obtain ⟨⟨k1, k2⟩, hB⟩ := hrow w1 hb1
        have HB := Lib.hid hB
        clear hb1 hB hcm hrow hB0 R1 R2
        go_wp2_with fail
        refine (hle _).mono ?_
        rintro e w2 ⟨rfl, rfl⟩
        go_wp2_with fail
        go_ret
        exact ⟨rfl, HB.out⟩
end Go.Proofs.YtniejpfjbifjkaaDoor
