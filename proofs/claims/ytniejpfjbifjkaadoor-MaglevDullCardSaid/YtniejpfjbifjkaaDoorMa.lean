/- Mix, Pair: the two hashes are one function. -/
import Derived.Test.YtniejpfjbifjkaaDoorWs
namespace Go.Proofs.YtniejpfjbifjkaaDoor
open Go.RowKit

abbrev xr (a b : Int) : Int := bits .xor .u64 a b
theorem xr_range (a b : Int) : 0 ≤ xr a b ∧ xr a b < 18446744073709551616 := by
  unfold xr bits
  simp only [IntKind.wrap, IntKind.bits, IntKind.signed]
  constructor
  · simp; omega
  · simp; omega
def mx1 (x : Int) : Int := IntKind.u64.wrap (x + 11400714819323198485)
def mx2 (n : Int) : Int := IntKind.u64.wrap (xr n (n / 1073741824) * 13787848793156543929)
def mx3 (n : Int) : Int := IntKind.u64.wrap (xr n (n / 134217728) * 10723151780598845931)
def mix (x : Int) : Int := xr (mx3 (mx2 (mx1 x))) (mx3 (mx2 (mx1 x)) / 2147483648)
def U64 (x : Int) : Prop := 0 ≤ x ∧ x < 18446744073709551616
theorem mix_range (x : Int) : U64 (mix x) := xr_range _ _
theorem mixC (x : Int) (w : World) (hx : U64 x) :
    Calls Tryd.prog 126 #[.int .u64 x] w fun e w' => e = .returned (.int .u64 (mix x)) ∧ w = w' := by
  obtain ⟨hx1, hx2⟩ := hx
  go_enter Tryd.func126, Tryd.ntmps126
  go_wp2
  go_ret
  exact ⟨rfl, rfl⟩
theorem rmixC (x : Int) (w : World) (hx : U64 x) :
    Calls Tryd.prog 110 #[.int .u64 x] w fun e w' => e = .returned (.int .u64 (mix x)) ∧ w = w' := by
  obtain ⟨hx1, hx2⟩ := hx
  go_enter Tryd.func110, Tryd.ntmps110
  go_wp2
  go_ret
  exact ⟨rfl, rfl⟩
attribute [irreducible] mix
def pair (s a b : Int) : Int := mix (xr (mix (xr (mix s) a)) b)
theorem pair_range (s a b : Int) : U64 (pair s a b) := mix_range _
theorem rpairC (s a b : Int) (w : World) (hs : U64 s) :
    Calls Tryd.prog 86 #[.int .u64 s, .int .u64 a, .int .u64 b] w fun e w' => e = .returned (.int .u64 (pair s a b)) ∧ w = w' := by
  go_enter Tryd.func86, Tryd.ntmps86
  go_wp2_with (first | (go_at_call 110; refine (rmixC _ _ ?_).mono ?_; (first | assumption | exact mix_range _ | exact xr_range _ _); rintro e w' ⟨rfl, rfl⟩))
  go_ret
  exact ⟨rfl, rfl⟩
theorem agg0 (x y : Value) (w : World) : (Instr.index 123 (.agg #[x, y]) (.int .i64 0)).run Tryd.prog w = .ok x w := by
  kernel_rfl
theorem agg1 (x y : Value) (w : World) : (Instr.index 123 (.agg #[x, y]) (.int .i64 1)).run Tryd.prog w = .ok y w := by
  kernel_rfl
theorem pairC (s a b : Int) (w : World) (hs : U64 s) :
    Calls Tryd.prog 109 #[.int .u64 s, .int .u64 a, .int .u64 b] w fun e w' => e = .returned (.int .u64 (pair s a b)) ∧ w = w' := by
  have h0 := fun (x y : Value) (w : World) => agg0 x y w
  have h1 := fun (x y : Value) (w : World) => agg1 x y w
  go_enter Tryd.func109, Tryd.ntmps109
  go_wp2
  go_loopw [7, 14] (fun n i wr => wr = w ∧ ((i = .int .i64 0 ∧ n = .int .u64 s) ∨ (i = .int .i64 1 ∧ n = .int .u64 (xr (mix s) a)) ∨ (i = .int .i64 2 ∧ n = .int .u64 (xr (mix (xr (mix s) a)) b)))) (fun _ i _ => 2 - (intOf i).toNat)
  case atStart => exact ⟨rfl, .inl ⟨rfl, rfl⟩⟩
  case round =>
    obtain ⟨rfl, ⟨rfl, rfl⟩ | ⟨rfl, rfl⟩ | ⟨rfl, rfl⟩⟩ := hrel
    · go_wp2_with (first | (go_at_call 126; refine (mixC _ _ hs).mono ?_; rintro e w' ⟨rfl, rfl⟩))
      go_roundw
      case rel => exact ⟨by first | trivial | rfl, .inr (.inl ⟨by go_num, rfl⟩)⟩
      case measure => simp [intOf]
    · go_wp2_with (first | (go_at_call 126; refine (mixC _ _ (xr_range _ _)).mono ?_; rintro e w' ⟨rfl, rfl⟩))
      go_roundw
      case rel => exact ⟨by first | trivial | rfl, .inr (.inr ⟨by go_num, rfl⟩)⟩
      case measure => simp [intOf]
    · go_wp2_with (first | (go_at_call 126; refine (mixC _ _ (xr_range _ _)).mono ?_; rintro e w' ⟨rfl, rfl⟩))
      go_ret
      exact ⟨rfl, rfl⟩
end Go.Proofs.YtniejpfjbifjkaaDoor
