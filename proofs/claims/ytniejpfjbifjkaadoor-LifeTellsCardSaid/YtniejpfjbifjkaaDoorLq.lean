/- What == says of addresses, Specs, votes. -/
import Derived.Test.YtniejpfjbifjkaaDoorLa
import Derived.Laws.StructEq
namespace Go.Proofs.YtniejpfjbifjkaaDoor
open Go.RowKit Fl

def eqB (b c : Nat → Int) : Bool := (List.range 16).all fun i => b i == c i
theorem eqB_lit (b c : Nat → Int) : eqB b c = (b 0 == c 0 && (b 1 == c 1 && (b 2 == c 2 && (b 3 == c 3 && (b 4 == c 4 && (b 5 == c 5 && (b 6 == c 6 && (b 7 == c 7 && (b 8 == c 8 && (b 9 == c 9 && (b 10 == c 10 && (b 11 == c 11 && (b 12 == c 12 && (b 13 == c 13 && (b 14 == c 14 && (b 15 == c 15 && true)))))))))))))))) := rfl
set_option maxRecDepth 100000 in
theorem eq64 (d : Nat) (b c : Nat → Int) (w : World) : (Op.equalIn (d + 2) 64 (.agg #[.int .u8 (b 0), .int .u8 (b 1), .int .u8 (b 2), .int .u8 (b 3), .int .u8 (b 4), .int .u8 (b 5), .int .u8 (b 6), .int .u8 (b 7), .int .u8 (b 8), .int .u8 (b 9), .int .u8 (b 10), .int .u8 (b 11), .int .u8 (b 12), .int .u8 (b 13), .int .u8 (b 14), .int .u8 (b 15)]) (.agg #[.int .u8 (c 0), .int .u8 (c 1), .int .u8 (c 2), .int .u8 (c 3), .int .u8 (c 4), .int .u8 (c 5), .int .u8 (c 6), .int .u8 (c 7), .int .u8 (c 8), .int .u8 (c 9), .int .u8 (c 10), .int .u8 (c 11), .int .u8 (c 12), .int .u8 (c 13), .int .u8 (c 14), .int .u8 (c 15)])).run Tryd.prog w = .ok (eqB b c) w := by
  have u5 := Tryd.underlying5
  have a5 := Tryd.isAgg5
  have z5 := Tryd.sizeOf5
  have e5 := fun x y (w : World) => run_equalIn_int (P := Tryd.prog) w d 5 .u8 .u8 x y u5
  rw [eqB_lit, show d + 2 = d + 1 + 1 from rfl, Op.equalIn]
  simp only [Sem.run_bind, run_underlying Tryd.underlying64, Result.andThen_ok]
  simp only [Std.Legacy.Range.forIn_eq_forIn_range', Std.Legacy.Range.size, Nat.sub_zero, Nat.add_sub_cancel, Nat.div_one, List.range'_succ, List.range'_zero, List.forIn_cons, List.forIn_nil]
  go_simp
  by_cases h0 : b 0 = c 0
  case neg => simp [h0]
  by_cases h1 : b 1 = c 1
  case neg => simp [h1, h0]
  by_cases h2 : b 2 = c 2
  case neg => simp [h2, h0, h1]
  by_cases h3 : b 3 = c 3
  case neg => simp [h3, h0, h1, h2]
  by_cases h4 : b 4 = c 4
  case neg => simp [h4, h0, h1, h2, h3]
  by_cases h5 : b 5 = c 5
  case neg => simp [h5, h0, h1, h2, h3, h4]
  by_cases h6 : b 6 = c 6
  case neg => simp [h6, h0, h1, h2, h3, h4, h5]
  by_cases h7 : b 7 = c 7
  case neg => simp [h7, h0, h1, h2, h3, h4, h5, h6]
  by_cases h8 : b 8 = c 8
  case neg => simp [h8, h0, h1, h2, h3, h4, h5, h6, h7]
  by_cases h9 : b 9 = c 9
  case neg => simp [h9, h0, h1, h2, h3, h4, h5, h6, h7, h8]
  by_cases h10 : b 10 = c 10
  case neg => simp [h10, h0, h1, h2, h3, h4, h5, h6, h7, h8, h9]
  by_cases h11 : b 11 = c 11
  case neg => simp [h11, h0, h1, h2, h3, h4, h5, h6, h7, h8, h9, h10]
  by_cases h12 : b 12 = c 12
  case neg => simp [h12, h0, h1, h2, h3, h4, h5, h6, h7, h8, h9, h10, h11]
  by_cases h13 : b 13 = c 13
  case neg => simp [h13, h0, h1, h2, h3, h4, h5, h6, h7, h8, h9, h10, h11, h12]
  by_cases h14 : b 14 = c 14
  case neg => simp [h14, h0, h1, h2, h3, h4, h5, h6, h7, h8, h9, h10, h11, h12, h13]
  by_cases h15 : b 15 = c 15
  case neg => simp [h15, h0, h1, h2, h3, h4, h5, h6, h7, h8, h9, h10, h11, h12, h13, h14]
  simp [h0, h1, h2, h3, h4, h5, h6, h7, h8, h9, h10, h11, h12, h13, h14, h15]
theorem eq22 (d : Nat) (a b : Nat) (w : World) : (Op.equalIn (d + 1) 22 (.float .f64 a) (.float .f64 b)).run Tryd.prog w = .ok (eqF a b) w := by
  simp [Op.equalIn, run_underlying Tryd.underlying22, Op.floatEq, eqF]
set_option maxRecDepth 100000 in
theorem eq66 (d : Nat) (v u : Bool) (b c : Nat → Int) (w : World) : (Op.equalIn (d + 3) 66 (adrV v b) (adrV u c)).run Tryd.prog w = .ok (v == u && eqB b c) w := by
  have u4 := Tryd.underlying4
  have a4 := Tryd.isAgg4
  have z4 := Tryd.sizeOf4
  have a64 := Tryd.isAgg64
  have z64 := Tryd.sizeOf64
  have e64 := fun b c (w : World) => eq64 d b c w
  have e4 := fun x y (w : World) => run_equalIn_bool' (P := Tryd.prog) w (d + 1) 4 x y u4
  have hS : Tryd.prog.underlying 66 = some (.struct (Tryd.prog.fieldsOf 66)) := by kernel_rfl
  have hp : Tryd.prog.stoodInHeld 66 = false := by kernel_rfl
  unfold adrV
  rw [show d + 3 = d + 2 + 1 from rfl, run_equalIn_agg w (d + 2) 66 _ _ hS hp]
  simp only [Program.fieldsOf, Tryd.underlying66]
  go_simp
  by_cases h1 : v = u
  · cases hb : eqB b c <;> simp [h1]
  · simp [h1]
/-- two Specs alike, as == has it. -/
def eqSpc (s t : Spc) : Bool := s.st == t.st && (s.by_ == t.by_ && ((s.v6 == t.v6 && eqB s.b t.b) && eqF s.w t.w))
set_option maxRecDepth 100000 in
theorem eq72 (d : Nat) (s t : Spc) (w : World) : (Op.equalIn (d + 4) 72 (spcV s) (spcV t)).run Tryd.prog w = .ok (eqSpc s t) w := by
  unfold eqSpc
  have u2 := Tryd.underlying2
  have a2 := Tryd.isAgg2
  have z2 := Tryd.sizeOf2
  have u3 := Tryd.underlying3
  have a3 := Tryd.isAgg3
  have z3 := Tryd.sizeOf3
  have a66 := Tryd.isAgg66
  have z66 := Tryd.sizeOf66
  have a22 := Tryd.isAgg22
  have z22 := Tryd.sizeOf22
  have e66 := fun v u b c (w : World) => eq66 d v u b c w
  have e22 := fun x y (w : World) => eq22 (d + 2) x y w
  have e2 := fun x y (w : World) => run_equalIn_int (P := Tryd.prog) w (d + 2) 2 .i64 .i64 x y u2
  have e3 := fun x y (w : World) => run_equalIn_int (P := Tryd.prog) w (d + 2) 3 .i64 .i64 x y u3
  have hS : Tryd.prog.underlying 72 = some (.struct (Tryd.prog.fieldsOf 72)) := by kernel_rfl
  have hp : Tryd.prog.stoodInHeld 72 = false := by kernel_rfl
  unfold adrV at e66
  unfold spcV
  rw [show d + 4 = d + 3 + 1 from rfl, run_equalIn_agg w (d + 3) 72 _ _ hS hp]
  simp only [Program.fieldsOf, Tryd.underlying72]
  go_simp
  clear e66 e22 e2 e3 u2 a2 z2 u3 a3 z3 a66 z66 a22 z22 hS hp
  by_cases h1 : s.st = t.st
  · by_cases h2 : s.by_ = t.by_
    · by_cases h3 : s.v6 = t.v6
      · cases h5 : eqB s.b t.b
        · simp [h1, h2, h3]
        · cases h4 : eqF s.w t.w
          · simp [h1, h2, h3]
          · simp [h1, h2, h3]
      · simp [h1, h2, h3]
    · simp [h1, h2]
  · simp [h1]
theorem eq87 (d : Nat) (v u : Int × Bool) (w : World) : (Op.equalIn (d + 2) 87 (votV v) (votV u)).run Tryd.prog w = .ok (v.1 == u.1 && v.2 == u.2) w := by
  have u2 := Tryd.underlying2
  have a2 := Tryd.isAgg2
  have z2 := Tryd.sizeOf2
  have u4 := Tryd.underlying4
  have a4 := Tryd.isAgg4
  have z4 := Tryd.sizeOf4
  have e2 := fun x y (w : World) => run_equalIn_int (P := Tryd.prog) w d 2 .i64 .i64 x y u2
  have e4 := fun x y (w : World) => run_equalIn_bool' (P := Tryd.prog) w d 4 x y u4
  have hS : Tryd.prog.underlying 87 = some (.struct (Tryd.prog.fieldsOf 87)) := by kernel_rfl
  have hp : Tryd.prog.stoodInHeld 87 = false := by kernel_rfl
  unfold votV
  rw [show d + 2 = d + 1 + 1 from rfl, run_equalIn_agg w (d + 1) 87 _ _ hS hp]
  simp only [Program.fieldsOf, Tryd.underlying87]
  go_simp
  by_cases h1 : v.1 = u.1 <;> by_cases h2 : v.2 = u.2 <;> simp [h1, h2]
end Go.Proofs.YtniejpfjbifjkaaDoor
