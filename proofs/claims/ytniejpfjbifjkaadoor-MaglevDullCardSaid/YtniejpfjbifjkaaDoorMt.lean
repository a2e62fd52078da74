/- known() of the law about maglev: it returns true. -/
import Derived.Test.YtniejpfjbifjkaaDoorMs
namespace Go.Proofs.YtniejpfjbifjkaaDoor
open Go.RowKit Fl

def kl : List (Int × Nat) := [(0, 4607182418800017408), (1, 4607182418800017408)]
theorem bTab_kl : bTab kl 7 = [1, 0, 0, 1, 0, 1, 0] := by decide +kernel
theorem bErr_kl : bErr kl 7 = 0 := by decide +kernel
theorem ordR_k : (ordR 0 7).length = 7 := by decide +kernel
theorem ordE_k : ordE 0 7 = 0 := by decide +kernel
theorem prm61 : prm 61 = true := by decide +kernel
theorem prm91 : prm 91 = false := by decide +kernel
theorem ens_known (w : World) : Ens (w.alloc (.cells #[.int .i64 0, .float .f64 4607182418800017408, .int .i64 1, .float .f64 4607182418800017408] 51)) (some ⟨w.heap.size, 0, none⟩) kl := by
  refine ⟨by simp [kl], fun i hi => ?_, fun i hi => ⟨w.heap.size, 0, rfl, ?_⟩⟩
  · simp [kl] at hi
    match i, hi with
    | 0, _ => show (4607182418800017408 : Nat) < B64; unfold B64; omega
    | 1, _ => show (4607182418800017408 : Nat) < B64; unfold B64; omega
  · simp [kl] at hi
    rw [Nat.zero_add]
    match i, hi with
    | 0, _ => exact ⟨by simp [World.cell?_alloc_new, kl], by simp [World.cell?_alloc_new, kl]⟩
    | 1, _ => exact ⟨by simp [World.cell?_alloc_new, kl], by simp [World.cell?_alloc_new, kl]⟩

set_option maxHeartbeats 1000000 in
theorem known10C (w : World) (hl : Laid w) (hpos : 0 < w.heap.size) :
    Calls Tryd.prog 46 #[] w fun e w' => e = .returned (.bool true) ∧ Below w.heap.size w w' := by
  have ho := orderC 0 7 w (by omega)
  rw [ordR_k, ordE_k] at ho
  go_enter Tryd.func46, Tryd.ntmps46
  go_wp2_with fail
  refine ho.mono ?_
  rintro e w1 ⟨v, rfl, ho1, hb1⟩
  obtain ⟨ao, co, rfl⟩ := own_slice ho1
  have hl1 := hl.below hb1 hpos
  have hz1 := hb1.size
  clear ho ho1
  go_wp2_with fail
  have he := ens_known w1
  have hb2 : Below w.heap.size w (w1.alloc (.cells #[.int .i64 0, .float .f64 4607182418800017408, .int .i64 1, .float .f64 4607182418800017408] 51)) := hb1.alloc hz1 _
  have hl2 := hl.below hb2 hpos
  generalize hW : w1.alloc (.cells #[.int .i64 0, .float .f64 4607182418800017408, .int .i64 1, .float .f64 4607182418800017408] 51) = w2 at *
  have hz2 := hb2.size
  have hbd := buildC kl (some ⟨w1.heap.size, 0, none⟩) 2 7 w2 he (by omega) hl2 (by omega)
  rw [bTab_kl, bErr_kl] at hbd
  clear he hW hl1 hb1 hl2
  refine hbd.mono ?_
  rintro e w3 ⟨v, rfl, ho3, hb3⟩
  obtain ⟨g, cc, rfl, hi3⟩ := Ils.owned ho3
  have hb3' : Below w.heap.size w w3 := below_trans' hb2 hb3
  obtain ⟨b4, o4, rfl, hc0⟩ := hi3.2 0 (by decide)
  have hc0' : w3.cell? ⟨b4, o4, none⟩ = some (.int .i64 1) := hc0
  have hfd := findC [1, 0, 0, 1, 0, 1, 0] _ cc 700 w3 hi3
  have e1 : findV [1, 0, 0, 1, 0, 1, 0] 700 = 1 := by decide +kernel
  have e2 : findE [1, 0, 0, 1, 0, 1, 0] = 0 := by decide +kernel
  have hh0 := heldC [1, 0, 0, 1, 0, 1, 0] _ cc 0 w3 hi3
  have hh1 := heldC [1, 0, 0, 1, 0, 1, 0] _ cc 1 w3 hi3
  rw [e1, e2] at hfd
  rw [show (([1, 0, 0, 1, 0, 1, 0] : List Int).count 0) = 4 by decide] at hh0
  rw [show (([1, 0, 0, 1, 0, 1, 0] : List Int).count 1) = 3 by decide] at hh1
  have hp1 := primeC 61 w3 (by omega)
  have hp2 := primeC 91 w3 (by omega)
  rw [prm61] at hp1
  rw [prm91] at hp2
  clear hbd ho3 hb3 hb2 hi3 hc0 e1 e2
  go_wp2_with fail
  refine hfd.mono ?_
  rintro e w' ⟨rfl, rfl⟩
  go_wp2_with fail
  refine hh0.mono ?_
  rintro e w' ⟨rfl, rfl⟩
  go_wp2_with fail
  refine hh1.mono ?_
  rintro e w' ⟨rfl, rfl⟩
  go_wp2_with fail
  refine hp1.mono ?_
  rintro e w' ⟨rfl, rfl⟩
  go_wp2_with fail
  refine hp2.mono ?_
  rintro e w' ⟨rfl, rfl⟩
  go_wp2_with fail
  go_ret
  exact ⟨rfl, hb3'⟩
end Go.Proofs.YtniejpfjbifjkaaDoor
