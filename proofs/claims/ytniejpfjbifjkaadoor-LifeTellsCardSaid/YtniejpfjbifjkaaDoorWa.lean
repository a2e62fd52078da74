/- The functions of package weight and of its reference that take floats alone: what each returns, as a plain function of the bits. -/
import Derived.Test.YtniejpfjbifjkaaDoorProg
import Derived.Test.YtniejpfjbifjkaaDoorFl
import Derived.WalkKit
import Derived.WalkSpells
import Derived.WalkLawsBesides
import Derived.Lib.Hide
import Derived.BigQuiet
namespace Go.Proofs.YtniejpfjbifjkaaDoor
open Go.RowKit Fl

@[go_sem] theorem ltF_def (x y : Nat) : (FloatKind.f64.format.order x y == some Ordering.lt) = ltF x y := rfl
@[go_sem] theorem gtF_def (x y : Nat) : (FloatKind.f64.format.order x y == some Ordering.gt) = gtF x y := rfl
@[go_sem] theorem eqF_def (x y : Nat) : (FloatKind.f64.format.order x y == some Ordering.eq) = eqF x y := rfl
@[go_sem] theorem neF_def (x y : Nat) : (FloatKind.f64.format.order x y != some Ordering.eq) = neF x y := rfl
@[go_sem] theorem leF_def (x y : Nat) : (ltF x y || eqF x y) = leF x y := rfl
@[go_sem] theorem geF_def (x y : Nat) : (gtF x y || eqF x y) = geF x y := rfl

/-- a store of a float (the kit has none). -/
@[go_sem] theorem run_store_float (P : Program) (w : World) (a : Addr) (m : Mode) (k : FloatKind) (b : Nat) : (store a (.float k b) m).run P w = stored P w a (.float k b) m := run_store P w a _ m rfl

theorem isNaN_calls (x : Nat) (w : World) :
    Calls Tryd.prog 107 #[.float .f64 x] w fun e w' => e = .returned (.bool (neF x x)) ∧ w = w' := by
  go_enter Tryd.func107, Tryd.ntmps107
  go_wp2
  go_ret
  exact ⟨rfl, rfl⟩

theorem isInf_calls (x : Nat) (w : World) :
    Calls Tryd.prog 108 #[.float .f64 x, .int .i64 1] w fun e w' => e = .returned (.bool (gtF x 9218868437227405311)) ∧ w = w' := by
  go_enter Tryd.func108, Tryd.ntmps108
  go_wp2
  go_ret
  exact ⟨rfl, rfl⟩

theorem run_fb (x : Nat) (w : World) : (callFunc 111 #[.float .f64 x]).run Tryd.prog w = .ok (.value (.int .u64 x)) w := by
  rw [run_callFunc_extern (f := 111) (fn := Tryd.f111) (e := Extern.MathFloatBits.float64bits) Tryd.func111 (by kernel_rfl) (by kernel_rfl) (by kernel_rfl) (by kernel_rfl)]
  rfl

theorem signbit_calls (x : Nat) (w : World) :
    Calls Tryd.prog 88 #[.float .f64 x] w fun e w' => e = .returned (.bool (decide (wrap64 x < 0))) ∧ w = w' := by
  have h := fun w => run_fb x w
  go_enter Tryd.func88, Tryd.ntmps88
  go_wp2
  go_ret
  exact ⟨rfl, rfl⟩

def kindF (x : Nat) : Int :=
  if neF x x = true then 5
  else if gtF x 9218868437227405311 = true then 4
  else if gtF x 0 = true then 3
  else if ltF x 0 = true then 0
  else if wrap64 x < 0 then 1 else 2

theorem kind_calls (x : Nat) (w : World) :
    Calls Tryd.prog 75 #[.float .f64 x] w fun e w' => e = .returned (.int .i64 (kindF x)) ∧ w = w' := by
  go_enter Tryd.func75, Tryd.ntmps75
  go_wp2_with (first | (go_at_call 107; refine (isNaN_calls _ _).mono ?_; rintro e w' ⟨rfl, rfl⟩) | (go_at_call 108; refine (isInf_calls _ _).mono ?_; rintro e w' ⟨rfl, rfl⟩) | (go_at_call 88; refine (signbit_calls _ _).mono ?_; rintro e w' ⟨rfl, rfl⟩))
  all_goals go_ret
  all_goals exact ⟨by simp [kindF, *], rfl⟩
theorem kindF_range (x : Nat) : 0 ≤ kindF x ∧ kindF x ≤ 5 := by
  unfold kindF; (repeat' split) <;> omega

/-- the table `counts`, as its initialiser lays it. -/
def cntF (i : Nat) : Nat := if i = 4 then 9218868437227405311 else 0
def cleanF (x : Nat) : Nat := if kindF x = 3 then x else cntF (kindF x).toNat
def Laid (w : World) : Prop := ∀ i, i < 6 → w.cell? ⟨0, i, none⟩ = some (.float .f64 (cntF i))

theorem clean_calls (x : Nat) (w : World) (hl : Laid w) :
    Calls Tryd.prog 22 #[.float .f64 x] w fun e w' => e = .returned (.float .f64 (cleanF x)) ∧ w = w' := by
  obtain ⟨k0, k5⟩ := kindF_range x
  have hc := hl (kindF x).toNat (by omega)
  clear hl
  by_cases h3 : kindF x = 3
  · have hb : (kindF x == 3) = true := by simpa using h3
    have H : Hid (cleanF x = x) := Lib.hid (by unfold cleanF; rw [if_pos h3])
    clear h3 hc
    go_enter Tryd.func22, Tryd.ntmps22
    go_wp2_with (first | (go_at_call 75; refine (kind_calls _ _).mono ?_; rintro e w' ⟨rfl, rfl⟩))
    go_ret
    exact ⟨by rw [H.out]; rfl, rfl⟩
  · have hb : (kindF x == 3) = false := by simpa using h3
    have H : Hid (cleanF x = cntF (kindF x).toNat) := Lib.hid (by unfold cleanF; rw [if_neg h3])
    clear h3
    go_enter Tryd.func22, Tryd.ntmps22
    go_wp2_with (first | (go_at_call 75; refine (kind_calls _ _).mono ?_; rintro e w' ⟨rfl, rfl⟩))
    go_ret
    exact ⟨by rw [H.out]; rfl, rfl⟩

def ordF (a b : Nat) : Int :=
  if (kindF a - kindF b != 0) = true then kindF a - kindF b else if ltF a b = true then -1 else if gtF a b = true then 1 else 0

theorem order_calls (a b : Nat) (w : World) :
    Calls Tryd.prog 79 #[.float .f64 a, .float .f64 b] w fun e w' => e = .returned (.int .i64 (ordF a b)) ∧ w = w' := by
  obtain ⟨a0, a5⟩ := kindF_range a
  obtain ⟨b0, b5⟩ := kindF_range b
  go_enter Tryd.func79, Tryd.ntmps79
  go_wp2_with (first | (go_at_call 75; refine (kind_calls _ _).mono ?_; rintro e w' ⟨rfl, rfl⟩))
  all_goals go_ret
  all_goals exact ⟨by simp [ordF, *], rfl⟩

def sameF (a b : Nat) : Bool := ordF a b == 0
def lessF (a b : Nat) : Bool := decide (ordF a b < 0)
theorem same_calls (a b : Nat) (w : World) :
    Calls Tryd.prog 28 #[.float .f64 a, .float .f64 b] w fun e w' => e = .returned (.bool (sameF a b)) ∧ w = w' := by
  go_enter Tryd.func28, Tryd.ntmps28
  go_wp2_with (first | (go_at_call 79; refine (order_calls _ _ _).mono ?_; rintro e w' ⟨rfl, rfl⟩))
  all_goals go_ret
  all_goals exact ⟨by simp [sameF], rfl⟩
theorem less_calls (a b : Nat) (w : World) :
    Calls Tryd.prog 29 #[.float .f64 a, .float .f64 b] w fun e w' => e = .returned (.bool (lessF a b)) ∧ w = w' := by
  go_enter Tryd.func29, Tryd.ntmps29
  go_wp2_with (first | (go_at_call 79; refine (order_calls _ _ _).mono ?_; rintro e w' ⟨rfl, rfl⟩))
  all_goals go_ret
  all_goals exact ⟨by simp [lessF], rfl⟩

/-- the reference. -/
def rcleanF (x : Nat) : Nat := if gtF x 9218868437227405311 = true then 9218868437227405311 else if gtF x 0 = true then x else 0
theorem rclean_calls (x : Nat) (w : World) :
    Calls Tryd.prog 25 #[.float .f64 x] w fun e w' => e = .returned (.float .f64 (rcleanF x)) ∧ w = w' := by
  go_enter Tryd.func25, Tryd.ntmps25
  go_wp2
  all_goals go_ret
  all_goals exact ⟨by simp [rcleanF, *], rfl⟩
def rankF (x : Nat) : Int := if neF x x = true then 1 else 0
theorem rank_calls (x : Nat) (w : World) :
    Calls Tryd.prog 80 #[.float .f64 x] w fun e w' => e = .returned (.int .i64 (rankF x)) ∧ w = w' := by
  go_enter Tryd.func80, Tryd.ntmps80
  go_wp2
  all_goals go_ret
  all_goals exact ⟨by simp [rankF, *], rfl⟩

theorem one_over_zero : floatBits .quo .f64 4607182418800017408 0 = some 9218868437227405312 := by decide +kernel
theorem one_over_minus : floatBits .quo .f64 4607182418800017408 9223372036854775808 = some 18442240474082181120 := by decide +kernel
/-- minus: of what is no nought, of nought, of nought below nought. -/
def minusF (x : Nat) : Bool := decide (x = 9223372036854775808)
theorem minus_no (x : Nat) (w : World) (h : eqF x 0 = false) :
    Calls Tryd.prog 76 #[.float .f64 x] w fun e w' => e = .returned (.bool false) ∧ w = w' := by
  go_enter Tryd.func76, Tryd.ntmps76
  go_wp2
  all_goals go_ret
  all_goals exact ⟨by simp, rfl⟩
theorem minus_zero (w : World) :
    Calls Tryd.prog 76 #[.float .f64 0] w fun e w' => e = .returned (.bool false) ∧ w = w' := by
  have h : eqF 0 0 = true := by decide +kernel
  have h2 : ltF 9218868437227405312 0 = false := by decide +kernel
  have h1 := fun (w : World) => run_float_arith (P := Tryd.prog) w .quo 22 .f64 _ _ _ one_over_zero
  go_enter Tryd.func76, Tryd.ntmps76
  go_wp2
  all_goals go_ret
  all_goals exact ⟨by simp, rfl⟩
theorem minus_minus (w : World) :
    Calls Tryd.prog 76 #[.float .f64 9223372036854775808] w fun e w' => e = .returned (.bool true) ∧ w = w' := by
  have h : eqF 9223372036854775808 0 = true := by decide +kernel
  have h2 : ltF 18442240474082181120 0 = true := by decide +kernel
  have h1 := fun (w : World) => run_float_arith (P := Tryd.prog) w .quo 22 .f64 _ _ _ one_over_minus
  go_enter Tryd.func76, Tryd.ntmps76
  go_wp2
  all_goals go_ret
  all_goals exact ⟨by simp, rfl⟩

def B64 : Nat := 18446744073709551616
/-- what is equal to nought. -/
theorem eqF_zero {x : Nat} (hx : x < B64) : eqF x 0 = true ↔ x = 0 ∨ x = 9223372036854775808 := by
  unfold B64 at hx
  by_cases n : isN x
  · rw [eqF_nan (.inl n)]
    unfold isN INF at n
    simp; omega
  · rw [eqF_T hx (by omega) n (by decide)]
    unfold T
    rw [if_pos (show 0 < 9223372036854775808 by omega), decide_eq_true_eq]
    split <;> omega
theorem minus_calls (x : Nat) (w : World) (hx : x < B64) :
    Calls Tryd.prog 76 #[.float .f64 x] w fun e w' => e = .returned (.bool (minusF x)) ∧ w = w' := by
  by_cases h : eqF x 0 = true
  · rcases (eqF_zero hx).1 h with rfl | rfl
    · exact minus_zero w
    · exact minus_minus w
  · have h0 : minusF x = false := by
      unfold minusF
      rw [decide_eq_false_iff_not]
      intro e
      exact h ((eqF_zero hx).2 (.inr e))
    rw [h0]
    exact minus_no x w (by simpa using h)

def rsameF (a b : Nat) : Bool := if neF a a = true ∨ neF b b = true then neF a a && neF b b else eqF a b && (minusF a == minusF b)
def rlessF (a b : Nat) : Bool := if neF a a = true ∨ neF b b = true then decide (rankF a < rankF b) else if eqF a b = true then minusF a && !minusF b else ltF a b

theorem rsame_calls (a b : Nat) (w : World) (ha : a < B64) (hb : b < B64) :
    Calls Tryd.prog 24 #[.float .f64 a, .float .f64 b] w fun e w' => e = .returned (.bool (rsameF a b)) ∧ w = w' := by
  go_enter Tryd.func24, Tryd.ntmps24
  go_wp2_with (first | (go_at_call 76; refine (minus_calls _ _ (by assumption)).mono ?_; rintro e w' ⟨rfl, rfl⟩))
  all_goals go_ret
  all_goals exact ⟨by simp [rsameF, *], rfl⟩
theorem rless_calls (a b : Nat) (w : World) (ha : a < B64) (hb : b < B64) :
    Calls Tryd.prog 30 #[.float .f64 a, .float .f64 b] w fun e w' => e = .returned (.bool (rlessF a b)) ∧ w = w' := by
  go_enter Tryd.func30, Tryd.ntmps30
  go_wp2_with (first | (go_at_call 76; refine (minus_calls _ _ (by assumption)).mono ?_; rintro e w' ⟨rfl, rfl⟩) | (go_at_call 80; refine (rank_calls _ _).mono ?_; rintro e w' ⟨rfl, rfl⟩))
  all_goals go_ret
  all_goals exact ⟨by simp [rlessF, *], rfl⟩
end Go.Proofs.YtniejpfjbifjkaaDoor
