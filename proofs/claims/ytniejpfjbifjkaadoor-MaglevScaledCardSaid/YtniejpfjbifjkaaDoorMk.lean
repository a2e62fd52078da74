/- given: entries as the program has them. -/
import Derived.Test.YtniejpfjbifjkaaDoorMj
import Derived.Deep.AppendLies
import Derived.Deep.RegionLaw
namespace Go.Proofs.YtniejpfjbifjkaaDoor
open Go.RowKit Fl

theorem info51 : (Tryd.prog.info? 51).map (fun i => (i.zero, i.size, i.bytes)) = some (some (.agg #[.int .i64 0, .float .f64 0]), 2, 16) := by kernel_rfl
def ents (l : List (Int × Nat)) : List Value := l.flatMap fun e => [.int .i64 e.1, .float .f64 e.2]
theorem ents_take_succ (l : List (Int × Nat)) (k : Nat) (h : k < l.length) : ents (l.take (k + 1)) = ents (l.take k) ++ [.int .i64 (l.getD k ent0).1, .float .f64 (l.getD k ent0).2] := by
  have e : l.take (k + 1) = l.take k ++ [l.getD k ent0] := by rw [List.take_succ_eq_append_getElem h]; simp [List.getD, h]
  rw [e]; unfold ents; rw [List.flatMap_append]; rfl
theorem ents_length (l : List (Int × Nat)) : (ents l).length = l.length * 2 := by
  unfold ents
  induction l with
  | nil => rfl
  | cons e t ih => rw [List.flatMap_cons, List.length_append, ih, List.length_cons]; simp; omega
theorem ents_get (l : List (Int × Nat)) : ∀ i, i < l.length → (ents l)[i * 2]? = some (.int .i64 (l.getD i ent0).1) ∧ (ents l)[i * 2 + 1]? = some (.float .f64 (l.getD i ent0).2) := by
  unfold ents
  induction l with
  | nil => intro i hi; cases hi
  | cons e t ih =>
    intro i hi
    cases i with
    | zero => exact ⟨rfl, rfl⟩
    | succ i =>
      obtain ⟨h1, h2⟩ := ih i (by simpa using hi)
      rw [show (i + 1) * 2 = i * 2 + 1 + 1 by omega]
      exact ⟨h1, h2⟩
/-- what is owned reads so. -/
theorem Ens.owned {w : World} {base e : Nat} {v : Value} {l : List (Int × Nat)} (h : w.ownsRow base e 2 v l.length (ents l)) (hm : l.length ≤ 8796093022208) (hb : ∀ i, i < l.length → (l.getD i ent0).2 < B64) :
    ∃ a cap, v = .slice a l.length cap ∧ Ens w a l := by
  rcases h.2 with ⟨rfl, hn⟩ | ⟨g, cap, cur, rfl, _, hg, hc, _, _⟩
  · refine ⟨none, 0, by rw [hn], ⟨hm, hb, fun i hi => by omega⟩⟩
  · refine ⟨some ⟨g, 0, none⟩, cap, rfl, ⟨hm, hb, fun i hi => ⟨g, 0, rfl, ?_, ?_⟩⟩⟩
    · rw [Nat.zero_add, h.cellAt _ (by omega)]; exact (ents_get l i hi).1
    · rw [Nat.zero_add, h.cellAt _ (by omega)]; exact (ents_get l i hi).2

set_option maxHeartbeats 1000000 in
theorem givenC (l : List (Int × Nat)) (a : Option Addr) (ca : Nat) (w : World) (hx : Ens w a l) :
    Calls Tryd.prog 48 #[.slice a l.length ca] w fun e w' => ∃ v, e = .returned v ∧ w'.ownsRow w.heap.size 51 2 v l.length (ents l) ∧ Below w.heap.size w w' := by
  have hx0 := hx
  obtain ⟨hm, _, hc⟩ := hx0
  go_enter Tryd.func48, Tryd.ntmps48
  go_wp2
  go_loopw [3, 4] (fun v i wr => ∃ (a7 : Option Addr) (c7 k : Nat), k ≤ l.length ∧ i = .int .i64 k ∧ v = .slice a7 k c7 ∧ wr.ownsRow w.heap.size 51 2 v k (ents (l.take k)) ∧ Below w.heap.size w wr) (fun _ i _ => l.length - (intOf i).toNat)
  case atStart => exact ⟨none, 0, 0, Nat.zero_le _, rfl, rfl, World.ownsRow_nil _ _ _ _, Below.refl _ _⟩
  case round =>
    obtain ⟨a7, c7, k, hk, rfl, rfl, hI, hB⟩ := hrel
    by_cases hlt : k < l.length
    · obtain ⟨b1, o1, rfl, h1, h2⟩ := hc k hlt
      have h1' : wr.cell? ⟨b1, o1 + k * 2, none⟩ = some (.int .i64 (l.getD k ent0).1) := (hB.cell (p := ⟨b1, o1 + k * 2, none⟩) (World.block_lt_of_cell? w _ h1)).trans h1
      have h2' : wr.cell? ⟨b1, o1 + k * 2 + 1, none⟩ = some (.float .f64 (l.getD k ent0).2) := (hB.cell (p := ⟨b1, o1 + k * 2 + 1, none⟩) (World.block_lt_of_cell? w _ h2)).trans h2
      have hwl : Hid (ents (l.take (k + 1)) = ents (l.take k) ++ [.int .i64 (l.getD k ent0).1, .float .f64 (l.getD k ent0).2]) := Lib.hid (ents_take_succ l k hlt)
      clear hc h1 h2
      generalize (l.getD k ent0).1 = x at *
      generalize (l.getD k ent0).2 = y at *
      obtain ⟨i0, hi, hz0, hz1, hz2⟩ := info_parts info51
      have hHO := (hI.drew).alloc (.cells #[.int .i64 x, .float .f64 y] 51)
      have hbs := hB.size
      have hbm : Below w.heap.size w (wr.drew.alloc (.cells #[.int .i64 x, .float .f64 y] 51)) := hB.drew.alloc hbs _
      have hnew : ∀ j u, ([.int .i64 x, .float .f64 y] : List Value)[j]? = some u → (wr.drew.alloc (.cells #[.int .i64 x, .float .f64 y] 51)).cell? ((⟨wr.heap.size, 0, none⟩ : Addr).add j) = some u :=
        World.news_of_block (cs := #[.int .i64 x, .float .f64 y]) (heap_alloc_new wr.drew _)
      go_upto_region 5 with fail
      go_region_law (refine step_append_lies _ rfl (.tmp 11) (.tmp 23) 46 rfl w.heap.size 51 i0 _ 2 16 Tryd.underlying46 hi hz0 hz1 hz2 rfl (by decide) (.slice a7 k c7) k _ (by simp [Act.eval]) hHO ⟨wr.heap.size, 0, none⟩ 1 1 [.int .i64 x, .float .f64 y] (by simp [Act.eval]) rfl hnew (by intro u hu; simp at hu; rcases hu with rfl | rfl <;> rfl) (by decide) (by unfold maxLen; omega) (by omega) (by simp; omega) _ rfl ?_; intro g cap w3 h3 hg3 _ _)
      all_goals have hb3 : Below w.heap.size w w3 := hbm.grown hg3 (by simp; omega) (fun j hj => (hI.lt j hj).1)
      all_goals rw [← hwl.out] at h3
      all_goals clear hbm hg3 hHO hI hB hbs hi hz0 hz1 hz2 hwl hnew h1' h2'
      all_goals go_wp2
      all_goals go_roundw
      all_goals first | exact ⟨some ⟨g, 0, none⟩, cap, k + 1, by omega, by go_num, rfl, h3, hb3⟩ | (simp [intOf]; omega)
    · have hk' : k = l.length := by omega
      have HK := Lib.hid hk'
      clear hk' hc
      go_wp2
      go_ret
      rw [HK.out, List.take_length] at hI
      rw [HK.out]
      exact ⟨_, rfl, hI, hB⟩
end Go.Proofs.YtniejpfjbifjkaaDoor
