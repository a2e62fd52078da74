/- Addresses: size, Right, order, Less. -/
import Derived.Test.YtniejpfjbifjkaaDoorLq
import Derived.Laws.CopyOwn
import Derived.Deep.RegionLaw
import Derived.Deep.RegionWith
import Derived.Deep.DrawnRows
namespace Go.Proofs.YtniejpfjbifjkaaDoor
open Go.RowKit Fl

theorem bcell {W w1 : World} (hb : Below W.heap.size W w1) : (∀ b o, b < W.heap.size → w1.cell? ⟨b, o, none⟩ = W.cell? ⟨b, o, none⟩) ∧ (∀ b o, b < W.heap.size → w1.frozen? ⟨b, o, none⟩ = W.frozen? ⟨b, o, none⟩) :=
  ⟨fun b o h => hb.cell (p := ⟨b, o, none⟩) h, fun b o h => hb.frozen (p := ⟨b, o, none⟩) h⟩
def szOf (v6 : Bool) : Int := if v6 then 16 else 4
set_option maxRecDepth 100000 in
theorem sizeC (v6 : Bool) (b : Nat → Int) (w : World) :
    Calls Tryd.prog 127 #[adrV v6 b] w fun e w' => e = .returned (.int .i64 (szOf v6)) ∧ Below w.heap.size w w' := by
  unfold adrV
  cases v6
  all_goals
    go_enter Tryd.func127, Tryd.ntmps127
    go_wp2
    go_ret
    exact ⟨rfl, (Below.refl _ _).alloc (Nat.le_refl _) _⟩

def ByteOk (b : Nat → Int) : Prop := (∀ i, 0 ≤ b i ∧ b i < 256) ∧ ∀ i, 16 ≤ i → b i = 0
/-- the bytes beyond what counts are nought. -/
def adrOk (v6 : Bool) (b : Nat → Int) : Bool := v6 || (List.range 12).all fun i => b (4 + i) == 0
theorem size5 : (Tryd.prog.info? 5).map (·.size) = some 1 := by kernel_rfl
theorem block_from {w : World} {g : Nat} {cs : Array Value} {t : TypeId} {fr : Nat × Nat} (h : w.heap[g]? = some (.cells cs t fr)) (o : Nat) : ∀ (j : Nat) (v : Value), (cs.toList.drop o)[j]? = some v → w.cell? ((⟨g, o, none⟩ : Addr).add j) = some v := by
  intro j v hv
  have : (⟨g, o, none⟩ : Addr).add j = ⟨g, o + j, none⟩ := by unfold Addr.add; split <;> simp_all
  rw [this]
  have h2 := cell_of_row w g (o + j) cs t fr h
  rw [h2]
  simpa using hv
set_option maxRecDepth 100000 in
set_option maxHeartbeats 1000000 in
theorem arightC_f (b : Nat → Int) (w : World) :
    Calls Tryd.prog 112 #[adrV false b] w fun e w' => e = .returned (.bool (adrOk false b)) ∧ Below w.heap.size w w' := by
  have hs := fun w => sizeC false b w
  have hA : ∀ (c : Nat → Int) (W : World), (Op.equalIn 10000 64 (.agg #[.int .u8 (c 0), .int .u8 (c 1), .int .u8 (c 2), .int .u8 (c 3), .int .u8 (c 4), .int .u8 (c 5), .int .u8 (c 6), .int .u8 (c 7), .int .u8 (c 8), .int .u8 (c 9), .int .u8 (c 10), .int .u8 (c 11), .int .u8 (c 12), .int .u8 (c 13), .int .u8 (c 14), .int .u8 (c 15)]) (.agg #[.int .u8 0, .int .u8 0, .int .u8 0, .int .u8 0, .int .u8 0, .int .u8 0, .int .u8 0, .int .u8 0, .int .u8 0, .int .u8 0, .int .u8 0, .int .u8 0, .int .u8 0, .int .u8 0, .int .u8 0, .int .u8 0])).run Tryd.prog W = .ok (eqB c fun _ => 0) W := fun c W => eq64 9998 c (fun _ => 0) W
  unfold adrV at *
  unfold szOf at hs
  have h0 : ∀ w1, Below (((w.alloc (.cells #[.bool false, .int .u8 (b 0), .int .u8 (b 1), .int .u8 (b 2), .int .u8 (b 3), .int .u8 (b 4), .int .u8 (b 5), .int .u8 (b 6), .int .u8 (b 7), .int .u8 (b 8), .int .u8 (b 9), .int .u8 (b 10), .int .u8 (b 11), .int .u8 (b 12), .int .u8 (b 13), .int .u8 (b 14), .int .u8 (b 15)] 66)).alloc (.cells #[.int .u8 0, .int .u8 0, .int .u8 0, .int .u8 0, .int .u8 0, .int .u8 0, .int .u8 0, .int .u8 0, .int .u8 0, .int .u8 0, .int .u8 0, .int .u8 0, .int .u8 0, .int .u8 0, .int .u8 0, .int .u8 0] 64)).drew).heap.size (((w.alloc (.cells #[.bool false, .int .u8 (b 0), .int .u8 (b 1), .int .u8 (b 2), .int .u8 (b 3), .int .u8 (b 4), .int .u8 (b 5), .int .u8 (b 6), .int .u8 (b 7), .int .u8 (b 8), .int .u8 (b 9), .int .u8 (b 10), .int .u8 (b 11), .int .u8 (b 12), .int .u8 (b 13), .int .u8 (b 14), .int .u8 (b 15)] 66)).alloc (.cells #[.int .u8 0, .int .u8 0, .int .u8 0, .int .u8 0, .int .u8 0, .int .u8 0, .int .u8 0, .int .u8 0, .int .u8 0, .int .u8 0, .int .u8 0, .int .u8 0, .int .u8 0, .int .u8 0, .int .u8 0, .int .u8 0] 64)).drew) w1 →
      w1.heap[w.heap.size]? = some (.cells #[.bool false, .int .u8 (b 0), .int .u8 (b 1), .int .u8 (b 2), .int .u8 (b 3), .int .u8 (b 4), .int .u8 (b 5), .int .u8 (b 6), .int .u8 (b 7), .int .u8 (b 8), .int .u8 (b 9), .int .u8 (b 10), .int .u8 (b 11), .int .u8 (b 12), .int .u8 (b 13), .int .u8 (b 14), .int .u8 (b 15)] 66 (0, 0)) ∧ w1.heap[w.heap.size + 1]? = some (.cells #[.int .u8 0, .int .u8 0, .int .u8 0, .int .u8 0, .int .u8 0, .int .u8 0, .int .u8 0, .int .u8 0, .int .u8 0, .int .u8 0, .int .u8 0, .int .u8 0, .int .u8 0, .int .u8 0, .int .u8 0, .int .u8 0] 64 (0, 0)) ∧ Below w.heap.size w w1 := by
    intro w1 hb
    have e0 : (((w.alloc (.cells #[.bool false, .int .u8 (b 0), .int .u8 (b 1), .int .u8 (b 2), .int .u8 (b 3), .int .u8 (b 4), .int .u8 (b 5), .int .u8 (b 6), .int .u8 (b 7), .int .u8 (b 8), .int .u8 (b 9), .int .u8 (b 10), .int .u8 (b 11), .int .u8 (b 12), .int .u8 (b 13), .int .u8 (b 14), .int .u8 (b 15)] 66)).alloc (.cells #[.int .u8 0, .int .u8 0, .int .u8 0, .int .u8 0, .int .u8 0, .int .u8 0, .int .u8 0, .int .u8 0, .int .u8 0, .int .u8 0, .int .u8 0, .int .u8 0, .int .u8 0, .int .u8 0, .int .u8 0, .int .u8 0] 64)).drew).heap[w.heap.size]? = some (.cells #[.bool false, .int .u8 (b 0), .int .u8 (b 1), .int .u8 (b 2), .int .u8 (b 3), .int .u8 (b 4), .int .u8 (b 5), .int .u8 (b 6), .int .u8 (b 7), .int .u8 (b 8), .int .u8 (b 9), .int .u8 (b 10), .int .u8 (b 11), .int .u8 (b 12), .int .u8 (b 13), .int .u8 (b 14), .int .u8 (b 15)] 66 (0, 0)) :=
      (heap_alloc_old (w.alloc (.cells #[.bool false, .int .u8 (b 0), .int .u8 (b 1), .int .u8 (b 2), .int .u8 (b 3), .int .u8 (b 4), .int .u8 (b 5), .int .u8 (b 6), .int .u8 (b 7), .int .u8 (b 8), .int .u8 (b 9), .int .u8 (b 10), .int .u8 (b 11), .int .u8 (b 12), .int .u8 (b 13), .int .u8 (b 14), .int .u8 (b 15)] 66)) _ (r := w.heap.size) (by simp)).trans (heap_alloc_new _ _)
    have e1 := heap_new2 w (.cells #[.bool false, .int .u8 (b 0), .int .u8 (b 1), .int .u8 (b 2), .int .u8 (b 3), .int .u8 (b 4), .int .u8 (b 5), .int .u8 (b 6), .int .u8 (b 7), .int .u8 (b 8), .int .u8 (b 9), .int .u8 (b 10), .int .u8 (b 11), .int .u8 (b 12), .int .u8 (b 13), .int .u8 (b 14), .int .u8 (b 15)] 66) (.cells #[.int .u8 0, .int .u8 0, .int .u8 0, .int .u8 0, .int .u8 0, .int .u8 0, .int .u8 0, .int .u8 0, .int .u8 0, .int .u8 0, .int .u8 0, .int .u8 0, .int .u8 0, .int .u8 0, .int .u8 0, .int .u8 0] 64)
    refine ⟨(hb.block w.heap.size (by simp; omega)).trans e0, (hb.block (w.heap.size + 1) (by simp)).trans e1, ?_⟩
    exact (((Below.refl _ _).alloc (Nat.le_refl _) _).alloc (by simp) _).drew.trans (hb.mono (by simp; omega))
  have H0 := Lib.hid h0
  clear h0
  go_enter Tryd.func112, Tryd.ntmps112
  go_wp2_with fail
  go_region_law (first
    | (refine step_copy_splice rfl (.tmp 4) (.tmp 8) 137 137 rfl 5 Tryd.underlying137 size5 (some ⟨w.heap.size + 1, 0, none⟩) (some ⟨w.heap.size, 5, none⟩) 16 16 12 12 (by rfl) (by rfl) (w.heap.size + 1) 0 [.int .u8 0, .int .u8 0, .int .u8 0, .int .u8 0, .int .u8 0, .int .u8 0, .int .u8 0, .int .u8 0, .int .u8 0, .int .u8 0, .int .u8 0, .int .u8 0, .int .u8 0, .int .u8 0, .int .u8 0, .int .u8 0] 64 (H0.out _ hb1).2.1 [.int .u8 (b 4), .int .u8 (b 5), .int .u8 (b 6), .int .u8 (b 7), .int .u8 (b 8), .int .u8 (b 9), .int .u8 (b 10), .int .u8 (b 11), .int .u8 (b 12), .int .u8 (b 13), .int .u8 (b 14), .int .u8 (b 15)] rfl (fun _ => ⟨rfl, _, rfl, block_from (H0.out _ hb1).1 5⟩) (by show 0 + 12 ≤ 16; omega) (by intro v hv; simp at hv; rcases hv with h | h | h | h | h | h | h | h | h | h | h | h <;> subst h <;> rfl) w.heap.size w (H0.out _ hb1).2.2 (by omega) ?_; intro w3 hg3 hb3)
    | (go_simp; go_at_call 127; refine (hs _).mono ?_; rintro e w1 ⟨rfl, hb1⟩))
  all_goals
    have hg4 : w3.heap[w.heap.size + 1]? = some (.cells #[.int .u8 (b 4), .int .u8 (b 5), .int .u8 (b 6), .int .u8 (b 7), .int .u8 (b 8), .int .u8 (b 9), .int .u8 (b 10), .int .u8 (b 11), .int .u8 (b 12), .int .u8 (b 13), .int .u8 (b 14), .int .u8 (b 15), .int .u8 0, .int .u8 0, .int .u8 0, .int .u8 0] 64 (0, 0)) := hg3.out
    have c0 : w3.cell? ⟨w.heap.size + 1, 0, none⟩ = some (.int .u8 (b 4)) := cell_of_row w3 _ 0 _ _ _ hg4
    have c1 : w3.cell? ⟨w.heap.size + 1, 1, none⟩ = some (.int .u8 (b 5)) := cell_of_row w3 _ 1 _ _ _ hg4
    have c2 : w3.cell? ⟨w.heap.size + 1, 2, none⟩ = some (.int .u8 (b 6)) := cell_of_row w3 _ 2 _ _ _ hg4
    have c3 : w3.cell? ⟨w.heap.size + 1, 3, none⟩ = some (.int .u8 (b 7)) := cell_of_row w3 _ 3 _ _ _ hg4
    have c4 : w3.cell? ⟨w.heap.size + 1, 4, none⟩ = some (.int .u8 (b 8)) := cell_of_row w3 _ 4 _ _ _ hg4
    have c5 : w3.cell? ⟨w.heap.size + 1, 5, none⟩ = some (.int .u8 (b 9)) := cell_of_row w3 _ 5 _ _ _ hg4
    have c6 : w3.cell? ⟨w.heap.size + 1, 6, none⟩ = some (.int .u8 (b 10)) := cell_of_row w3 _ 6 _ _ _ hg4
    have c7 : w3.cell? ⟨w.heap.size + 1, 7, none⟩ = some (.int .u8 (b 11)) := cell_of_row w3 _ 7 _ _ _ hg4
    have c8 : w3.cell? ⟨w.heap.size + 1, 8, none⟩ = some (.int .u8 (b 12)) := cell_of_row w3 _ 8 _ _ _ hg4
    have c9 : w3.cell? ⟨w.heap.size + 1, 9, none⟩ = some (.int .u8 (b 13)) := cell_of_row w3 _ 9 _ _ _ hg4
    have c10 : w3.cell? ⟨w.heap.size + 1, 10, none⟩ = some (.int .u8 (b 14)) := cell_of_row w3 _ 10 _ _ _ hg4
    have c11 : w3.cell? ⟨w.heap.size + 1, 11, none⟩ = some (.int .u8 (b 15)) := cell_of_row w3 _ 11 _ _ _ hg4
    have c12 : w3.cell? ⟨w.heap.size + 1, 12, none⟩ = some (.int .u8 0) := cell_of_row w3 _ 12 _ _ _ hg4
    have c13 : w3.cell? ⟨w.heap.size + 1, 13, none⟩ = some (.int .u8 0) := cell_of_row w3 _ 13 _ _ _ hg4
    have c14 : w3.cell? ⟨w.heap.size + 1, 14, none⟩ = some (.int .u8 0) := cell_of_row w3 _ 14 _ _ _ hg4
    have c15 : w3.cell? ⟨w.heap.size + 1, 15, none⟩ = some (.int .u8 0) := cell_of_row w3 _ 15 _ _ _ hg4
    have HB3 := Lib.hid hb3
    have hE := hA (fun i => if i < 12 then b (4 + i) else 0) w3
    have hE2 : eqB (fun i => if i < 12 then b (4 + i) else 0) (fun _ => 0) = adrOk false b := by
      unfold eqB adrOk
      simp [List.range_succ]
    rw [hE2] at hE
    have hE' : (Op.equalIn 10000 64 (.agg #[.int .u8 (b 4), .int .u8 (b 5), .int .u8 (b 6), .int .u8 (b 7), .int .u8 (b 8), .int .u8 (b 9), .int .u8 (b 10), .int .u8 (b 11), .int .u8 (b 12), .int .u8 (b 13), .int .u8 (b 14), .int .u8 (b 15), .int .u8 0, .int .u8 0, .int .u8 0, .int .u8 0]) (.agg #[.int .u8 0, .int .u8 0, .int .u8 0, .int .u8 0, .int .u8 0, .int .u8 0, .int .u8 0, .int .u8 0, .int .u8 0, .int .u8 0, .int .u8 0, .int .u8 0, .int .u8 0, .int .u8 0, .int .u8 0, .int .u8 0])).run Tryd.prog w3 = .ok (adrOk false b) w3 := hE
    clear hg3 hg4 hb3 hb1 H0 hs hA hE hE2
    generalize hq : adrOk false b = q at *
    have HQ := Lib.hid hq
    clear hq
    as_aux_lemma =>
      go_wp2
      go_ret
      exact ⟨by rw [HQ.out]; rfl, HB3.out⟩
set_option maxRecDepth 100000 in
set_option maxHeartbeats 1000000 in
theorem arightC_t (b : Nat → Int) (w : World) :
    Calls Tryd.prog 112 #[adrV true b] w fun e w' => e = .returned (.bool (adrOk true b)) ∧ Below w.heap.size w w' := by
  have hs := fun w => sizeC true b w
  have hA : ∀ (c : Nat → Int) (W : World), (Op.equalIn 10000 64 (.agg #[.int .u8 (c 0), .int .u8 (c 1), .int .u8 (c 2), .int .u8 (c 3), .int .u8 (c 4), .int .u8 (c 5), .int .u8 (c 6), .int .u8 (c 7), .int .u8 (c 8), .int .u8 (c 9), .int .u8 (c 10), .int .u8 (c 11), .int .u8 (c 12), .int .u8 (c 13), .int .u8 (c 14), .int .u8 (c 15)]) (.agg #[.int .u8 0, .int .u8 0, .int .u8 0, .int .u8 0, .int .u8 0, .int .u8 0, .int .u8 0, .int .u8 0, .int .u8 0, .int .u8 0, .int .u8 0, .int .u8 0, .int .u8 0, .int .u8 0, .int .u8 0, .int .u8 0])).run Tryd.prog W = .ok (eqB c fun _ => 0) W := fun c W => eq64 9998 c (fun _ => 0) W
  unfold adrV at *
  unfold szOf at hs
  have hcp := fun ty W => run_copy_none (P := Tryd.prog) W 137 137 ty 5 (some ⟨w.heap.size + 1, 0, none⟩) (some ⟨w.heap.size, 1, none⟩) 16 16 0 0 Tryd.underlying137 size5 rfl
  go_enter Tryd.func112, Tryd.ntmps112
  go_wp2_with fail
  go_region_with (go_at_call 127; refine (hs _).mono ?_; rintro e w1 ⟨rfl, hb1⟩)
  all_goals
    have hE' : (Op.equalIn 10000 64 (.agg #[.int .u8 0, .int .u8 0, .int .u8 0, .int .u8 0, .int .u8 0, .int .u8 0, .int .u8 0, .int .u8 0, .int .u8 0, .int .u8 0, .int .u8 0, .int .u8 0, .int .u8 0, .int .u8 0, .int .u8 0, .int .u8 0]) (.agg #[.int .u8 0, .int .u8 0, .int .u8 0, .int .u8 0, .int .u8 0, .int .u8 0, .int .u8 0, .int .u8 0, .int .u8 0, .int .u8 0, .int .u8 0, .int .u8 0, .int .u8 0, .int .u8 0, .int .u8 0, .int .u8 0])).run Tryd.prog w1 = .ok true w1 := hA (fun _ => 0) w1
    obtain ⟨hc, hf⟩ := bcell hb1
    have HB1 := Lib.hid hb1
    clear hb1 hs hcp hA
    as_aux_lemma =>
      go_wp2
      go_ret
      exact ⟨rfl, (((Below.refl _ _).alloc (Nat.le_refl _) _).alloc (by simp) _).drew.trans (HB1.out.mono (by simp; omega))⟩
theorem arightC (v6 : Bool) (b : Nat → Int) (w : World) :
    Calls Tryd.prog 112 #[adrV v6 b] w fun e w' => e = .returned (.bool (adrOk v6 b)) ∧ Below w.heap.size w w' := by
  cases v6
  · exact arightC_f b w
  · exact arightC_t b w
end Go.Proofs.YtniejpfjbifjkaaDoor
