/- What is known of a backend, as data; how it lies in values; a vote; one's vote (96). -/
import Derived.Test.YtniejpfjbifjkaaDoorWk
import Derived.Test.YtniejpfjbifjkaaDoorWo
import Derived.Test.YtniejpfjbifjkaaDoorLWeightTurns
namespace Go.Proofs.YtniejpfjbifjkaaDoor
open Go.RowKit Fl

structure Spc where
  st : Int
  by_ : Int
  v6 : Bool
  b : Nat → Int
  w : Nat
structure Rc where
  gen : Int
  life : Int
  spec : Spc
  votes : List (Int × Bool)
  done : Int
def adrV (v6 : Bool) (b : Nat → Int) : Value := .agg #[.bool v6, .int .u8 (b 0), .int .u8 (b 1), .int .u8 (b 2), .int .u8 (b 3), .int .u8 (b 4), .int .u8 (b 5), .int .u8 (b 6), .int .u8 (b 7), .int .u8 (b 8), .int .u8 (b 9), .int .u8 (b 10), .int .u8 (b 11), .int .u8 (b 12), .int .u8 (b 13), .int .u8 (b 14), .int .u8 (b 15)]
def spcV (s : Spc) : Value := .agg #[.int .i64 s.st, .int .i64 s.by_, .bool s.v6, .int .u8 (s.b 0), .int .u8 (s.b 1), .int .u8 (s.b 2), .int .u8 (s.b 3), .int .u8 (s.b 4), .int .u8 (s.b 5), .int .u8 (s.b 6), .int .u8 (s.b 7), .int .u8 (s.b 8), .int .u8 (s.b 9), .int .u8 (s.b 10), .int .u8 (s.b 11), .int .u8 (s.b 12), .int .u8 (s.b 13), .int .u8 (s.b 14), .int .u8 (s.b 15), .float .f64 s.w]
def recV (r : Rc) (a : Option Addr) (n c : Nat) : Value := .agg #[.int .i64 r.gen, .int .i64 r.life, .int .i64 r.spec.st, .int .i64 r.spec.by_, .bool r.spec.v6, .int .u8 (r.spec.b 0), .int .u8 (r.spec.b 1), .int .u8 (r.spec.b 2), .int .u8 (r.spec.b 3), .int .u8 (r.spec.b 4), .int .u8 (r.spec.b 5), .int .u8 (r.spec.b 6), .int .u8 (r.spec.b 7), .int .u8 (r.spec.b 8), .int .u8 (r.spec.b 9), .int .u8 (r.spec.b 10), .int .u8 (r.spec.b 11), .int .u8 (r.spec.b 12), .int .u8 (r.spec.b 13), .int .u8 (r.spec.b 14), .int .u8 (r.spec.b 15), .float .f64 r.spec.w, .slice a n c, .int .i64 r.done]
def votV (v : Int × Bool) : Value := .agg #[.int .i64 v.1, .bool v.2]
def vt0 : Int × Bool := (0, false)
/-- votes in memory. -/
def Vts (w : World) (a : Option Addr) (l : List (Int × Bool)) : Prop :=
  l.length ≤ 8796093022208 ∧ ∀ i, i < l.length → ∃ b off, a = some ⟨b, off, none⟩ ∧ w.cell? ⟨b, off + i * 2, none⟩ = some (.int .i64 (l.getD i vt0).1) ∧ w.cell? ⟨b, off + i * 2 + 1, none⟩ = some (.bool (l.getD i vt0).2)
theorem Vts.below {w w' : World} {a : Option Addr} {l : List (Int × Bool)} (h : Vts w a l) (hb : Below w.heap.size w w') : Vts w' a l := by
  refine ⟨h.1, fun i hi => ?_⟩
  obtain ⟨b, off, he, h1, h2⟩ := h.2 i hi
  exact ⟨b, off, he, (hb.cell (p := ⟨b, off + i * 2, none⟩) (World.block_lt_of_cell? w _ h1)).trans h1, (hb.cell (p := ⟨b, off + i * 2 + 1, none⟩) (World.block_lt_of_cell? w _ h2)).trans h2⟩

theorem heap_new2 (w : World) (o1 o2 : Obj) : ((w.alloc o1).alloc o2).heap[w.heap.size + 1]? = some o2 := by
  have := heap_alloc_new (w.alloc o1) o2
  rwa [show (w.alloc o1).heap.size = w.heap.size + 1 by simp] at this
theorem size87 : (Tryd.prog.info? 87).map (·.size) = some 2 := by kernel_rfl
theorem below_trans'' {w w1 : World} {o : Obj} (h : Below (w.alloc o).heap.size (w.alloc o) w1) : Below w.heap.size w w1 := ((Below.refl _ _).alloc (Nat.le_refl _) _).trans (h.mono (by simp))
theorem cellA {w : World} {p : Addr} {v : Value} (h : w.cell? p = some v) (o : Obj) : (w.alloc o).cell? p = some v :=
  (((Below.refl w.heap.size w).alloc (Nat.le_refl _) o).cell (World.block_lt_of_cell? w _ h)).trans h

set_option maxRecDepth 100000 in
set_option maxHeartbeats 1000000 in
theorem voteC (r : Rc) (a : Option Addr) (c : Nat) (k : Nat) (w : World) (hv : Vts w a r.votes) :
    Calls Tryd.prog 96 #[recV r a r.votes.length c, .int .i64 k] w fun e w' => e = .returned (votV (r.votes.getD k vt0)) ∧ Below w.heap.size w w' := by
  obtain ⟨hm, hc⟩ := hv
  unfold recV
  by_cases hk : k < r.votes.length
  · obtain ⟨b1, o1, rfl, h1, h2⟩ := hc k hk
    have h1' := fun o o' => cellA (cellA h1 o) o'
    have h2' := fun o o' => cellA (cellA h2 o) o'
    clear hc h1 h2
    generalize r.votes.getD k vt0 = v at *
    go_enter Tryd.func96, Tryd.ntmps96
    go_wp2
    refine bodyPost_ret (results_cell_row rfl _ _ (w.heap.size + 1) 87 #[.int .i64 v.1, .bool v.2] _ _ rfl (heap_new2 w _ _) Tryd.underlying87 rfl size87) rfl ?_
    exact ⟨rfl, ((Below.refl _ _).alloc (Nat.le_refl _) _).alloc (by simp) _⟩
  · have hg : r.votes.getD k vt0 = vt0 := by simp [List.getD, Nat.not_lt.1 hk]
    have HG := Lib.hid hg
    clear hc hg
    go_enter Tryd.func96, Tryd.ntmps96
    go_wp2
    refine bodyPost_ret (results_cell_row rfl _ _ (w.heap.size + 1) 87 #[.int .i64 0, .bool false] _ _ rfl (heap_new2 w _ _) Tryd.underlying87 rfl size87) rfl ?_
    exact ⟨by rw [HG.out]; rfl, ((Below.refl _ _).alloc (Nat.le_refl _) _).alloc (by simp) _⟩

/-- a number that can be a stamp. -/
def stampOk (n : Int) : Bool := decide (0 ≤ n) && decide (n ≤ 1099511627776)
theorem stampC (n : Int) (w : World) :
    Calls Tryd.prog 89 #[.int .i64 n] w fun e w' => e = .returned (.bool (stampOk n)) ∧ w = w' := by
  by_cases h0 : 0 ≤ n
  · have HS : Hid (stampOk n = decide (n ≤ 1099511627776)) := Lib.hid (by unfold stampOk; rw [decide_eq_true h0]; rfl)
    go_enter Tryd.func89, Tryd.ntmps89
    go_wp2
    go_ret
    exact ⟨by rw [HS.out]; rfl, rfl⟩
  · have HS : Hid (stampOk n = false) := Lib.hid (by unfold stampOk; rw [decide_eq_false h0]; rfl)
    go_enter Tryd.func89, Tryd.ntmps89
    go_wp2
    go_ret
    exact ⟨by rw [HS.out]; rfl, rfl⟩
def votOk (v : Int × Bool) : Bool := stampOk v.1 && (decide (0 < v.1) || !v.2)
theorem vrightC (v : Int × Bool) (w : World) :
    Calls Tryd.prog 93 #[votV v] w fun e w' => e = .returned (.bool (votOk v)) ∧ Below w.heap.size w w' := by
  unfold votV
  cases h1 : stampOk v.1
  · have HS : Hid (votOk v = false) := Lib.hid (by unfold votOk; rw [h1]; rfl)
    go_enter Tryd.func93, Tryd.ntmps93
    go_wp2_with fail
    refine (stampC _ _).mono ?_
    rw [h1]
    rintro e w' ⟨rfl, rfl⟩
    go_wp2_with fail
    go_ret
    exact ⟨by rw [HS.out]; rfl, (Below.refl _ _).alloc (Nat.le_refl _) _⟩
  · by_cases h2 : 0 < v.1
    · have HS : Hid (votOk v = true) := Lib.hid (by unfold votOk; rw [h1, decide_eq_true h2]; rfl)
      go_enter Tryd.func93, Tryd.ntmps93
      go_wp2_with fail
      refine (stampC _ _).mono ?_
      rw [h1]
      rintro e w' ⟨rfl, rfl⟩
      go_wp2_with fail
      go_ret
      exact ⟨by rw [HS.out]; rfl, (Below.refl _ _).alloc (Nat.le_refl _) _⟩
    · have HS : Hid (votOk v = (decide (0 < v.1) || !v.2)) := Lib.hid (by unfold votOk; rw [h1]; rfl)
      go_enter Tryd.func93, Tryd.ntmps93
      go_wp2_with fail
      refine (stampC _ _).mono ?_
      rw [h1]
      rintro e w' ⟨rfl, rfl⟩
      go_wp2_with fail
      go_ret
      exact ⟨by rw [HS.out]; rfl, (Below.refl _ _).alloc (Nat.le_refl _) _⟩
theorem right1C (v : Int × Bool) (w : World) :
    Calls Tryd.prog 92 #[votV v] w fun e w' => e = .returned (.bool (!votOk v)) ∧ Below w.heap.size w w' := by
  have hc := fun w => vrightC v w
  unfold votV at *
  generalize votOk v = q at *
  go_enter Tryd.func92, Tryd.ntmps92
  go_wp2_with fail
  refine (hc _).mono ?_
  rintro e w1 ⟨rfl, hb1⟩
  have hb2 := below_trans'' hb1
  clear hb1
  go_wp2_with fail
  go_ret
  exact ⟨rfl, hb2⟩
/-- all votes can be. -/
def votsOk (l : List (Int × Bool)) : Bool := l.all votOk
theorem votsOk_false {l : List (Int × Bool)} {k : Nat} (hk : k < l.length) (h : votOk (l.getD k vt0) = false) : votsOk l = false := by
  unfold votsOk
  rw [List.all_eq_false]
  exact ⟨l[k], List.getElem_mem hk, by have : l.getD k vt0 = l[k] := by simp [List.getD, hk]
                                       rw [this] at h; simp [h]⟩
theorem votsOk_true {l : List (Int × Bool)} (h : ∀ j, j < l.length → votOk (l.getD j vt0) = true) : votsOk l = true := by
  unfold votsOk
  rw [List.all_eq_true]
  intro x hx
  obtain ⟨j, hj, rfl⟩ := List.getElem_of_mem hx
  have := h j hj
  simpa [List.getD, hj] using this
set_option maxRecDepth 100000 in
set_option maxHeartbeats 1000000 in
theorem indexFuncC (l : List (Int × Bool)) (a : Option Addr) (c : Nat) (w : World) (hv : Vts w a l) :
    Calls Tryd.prog 113 #[.slice a l.length c, .func (.func 92) #[] #[]] w fun e w' => (∃ m : Int, e = .returned (.int .i64 m) ∧ decide (0 ≤ m) = !votsOk l) ∧ Below w.heap.size w w' := by
  obtain ⟨hm, hc⟩ := hv
  have HC := Lib.hid hc
  clear hc
  go_enter Tryd.func113, Tryd.ntmps113
  go_wp2
  go_loopw [8] (fun i wr => ∃ k : Nat, k ≤ l.length ∧ i = .int .i64 k ∧ Below w.heap.size w wr ∧ Hid (∀ j, j < k → votOk (l.getD j vt0) = true)) (fun i _ => l.length - (intOf i).toNat)
  case atStart => exact ⟨0, Nat.zero_le _, rfl, Below.refl _ _, Lib.hid (fun j hj => by omega)⟩
  case round =>
    obtain ⟨k, hk, rfl, hB, hI⟩ := hrel
    by_cases hlt : k < l.length
    · obtain ⟨b1, o1, rfl, h1, h2⟩ := HC.out k hlt
      have h1' := (hB.cell (p := ⟨b1, o1 + k * 2, none⟩) (World.block_lt_of_cell? w _ h1)).trans h1
      have h2' := (hB.cell (p := ⟨b1, o1 + k * 2 + 1, none⟩) (World.block_lt_of_cell? w _ h2)).trans h2
      have hcc := right1C (l.getD k vt0) wr
      unfold votV at hcc
      have HB := Lib.hid hB
      clear h1 h2 hB
      cases hq : votOk (l.getD k vt0)
      · have HN := Lib.hid (votsOk_false hlt hq)
        rw [hq] at hcc
        clear hq
        generalize l.getD k vt0 = v at *
        go_wp2_with fail
        refine hcc.mono ?_
        rintro e w2 ⟨rfl, hb2⟩
        have HB2 := Lib.hid (below_trans' HB.out hb2)
        clear hb2 hcc
        go_wp2_with fail
        go_ret
        exact ⟨⟨k, rfl, by rw [HN.out]; simp⟩, HB2.out⟩
      · have HN : Hid (∀ j, j < k + 1 → votOk (l.getD j vt0) = true) := Lib.hid (fun j hj => by
          rcases Nat.lt_or_ge j k with h | h
          · exact hI.out j h
          · have : j = k := by omega
            subst this; exact hq)
        rw [hq] at hcc
        clear hq hI
        generalize l.getD k vt0 = v at *
        go_wp2_with fail
        refine hcc.mono ?_
        rintro e w2 ⟨rfl, hb2⟩
        have HB2 := Lib.hid (below_trans' HB.out hb2)
        clear hb2 hcc
        go_wp2_with fail
        go_roundw
        case rel => exact ⟨k + 1, by omega, by go_num, HB2.out, HN⟩
        case measure => simp [intOf]; omega
    · have hk' : k = l.length := by omega
      have HN : Hid (votsOk l = true) := Lib.hid (votsOk_true (by rw [← hk']; exact hI.out))
      have HB := Lib.hid hB
      clear hI hk' hB
      go_wp2
      go_ret
      exact ⟨⟨-1, rfl, by rw [HN.out]; rfl⟩, HB.out⟩
theorem containsC (l : List (Int × Bool)) (a : Option Addr) (c : Nat) (w : World) (hv : Vts w a l) :
    Calls Tryd.prog 91 #[.slice a l.length c, .func (.func 92) #[] #[]] w fun e w' => e = .returned (.bool (!votsOk l)) ∧ Below w.heap.size w w' := by
  have hc := indexFuncC l a c w hv
  go_enter Tryd.func91, Tryd.ntmps91
  go_wp2_with fail
  refine hc.mono ?_
  rintro e w2 ⟨⟨m, rfl, hm⟩, hb2⟩
  have HB := Lib.hid hb2
  clear hb2 hc
  go_wp2_with fail
  go_ret
  exact ⟨rfl, HB.out⟩
end Go.Proofs.YtniejpfjbifjkaaDoor
