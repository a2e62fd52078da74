/- The arithmetic of float64 in the model, as plain facts on natural numbers: order, sum, difference, quotient, twice as great; each is monotone, and what is a word already is not rounded. -/
import Ieee.Arith
import GoSem.Core.Float
namespace Go.Proofs.YtniejpfjbifjkaaDoor.Fl
open Ieee Go

def INF : Nat := 9218868437227405312
def MAXF : Nat := 9218868437227405311
def ONE : Nat := 4607182418800017408

/-- rounding `n / 2 ^ d` to the nearest, ties to even. -/
def RN (n d : Nat) : Nat :=
  n / 2 ^ d + (decide (2 ^ d < 2 * (n % 2 ^ d)) || (2 ^ d == 2 * (n % 2 ^ d) && n / 2 ^ d % 2 == 1)).toNat

theorem cut_eq (s : Bool) (n d : Nat) : Toward.even.cut s n d = RN n d := by
  unfold Toward.cut RN
  simp only [Nat.one_shiftLeft]
  by_cases h : d ≤ n.log2 + 2
  · rw [Nat.min_eq_left h]
  · have h' : n.log2 + 2 ≤ d := by omega
    rw [Nat.min_eq_right h']
    have hn : n < 2 ^ (n.log2 + 1) := Nat.lt_log2_self
    have h2 : 2 ^ (n.log2 + 2) = 2 * 2 ^ (n.log2 + 1) := by rw [Nat.pow_succ 2 (n.log2 + 1)]; omega
    have h3 : 2 ^ (n.log2 + 2) ≤ 2 ^ d := Nat.pow_le_pow_right (by omega) h'
    generalize 2 ^ d = D at *
    generalize 2 ^ (n.log2 + 2) = E at *
    have a1 : n / D = 0 := Nat.div_eq_of_lt (by omega)
    have a2 : n / E = 0 := Nat.div_eq_of_lt (by omega)
    have a3 : n % D = n := Nat.mod_eq_of_lt (by omega)
    have a4 : n % E = n := Nat.mod_eq_of_lt (by omega)
    have b1 : decide (D < 2 * n) = false := by simp; omega
    have b2 : decide (E < 2 * n) = false := by simp; omega
    rw [a1, a2, a3, a4, b1, b2]; simp

theorem RN_zero (n : Nat) : RN n 0 = n := by simp [RN, Nat.mod_one]
theorem RN_ge (n d : Nat) : n / 2 ^ d ≤ RN n d := by unfold RN; omega
theorem RN_le (n d : Nat) : RN n d ≤ n / 2 ^ d + 1 := by
  unfold RN
  have := Bool.toNat_le (decide (2 ^ d < 2 * (n % 2 ^ d)) || (2 ^ d == 2 * (n % 2 ^ d) && n / 2 ^ d % 2 == 1))
  omega

theorem RN_mono {n m : Nat} (d : Nat) (h : n ≤ m) : RN n d ≤ RN m d := by
  have hd : n / 2 ^ d ≤ m / 2 ^ d := Nat.div_le_div_right h
  rcases Nat.lt_or_ge (n / 2 ^ d) (m / 2 ^ d) with hlt | hge
  · exact Nat.le_trans (RN_le n d) (Nat.le_trans hlt (RN_ge m d))
  · have he : n / 2 ^ d = m / 2 ^ d := by omega
    unfold RN
    have e1 := Nat.div_add_mod n (2 ^ d)
    have e2 := Nat.div_add_mod m (2 ^ d)
    rw [he] at e1
    have hr : n % 2 ^ d ≤ m % 2 ^ d := by omega
    rw [he]
    apply Nat.add_le_add_left
    generalize n % 2 ^ d = r at *
    generalize m % 2 ^ d = s at *
    generalize 2 ^ d = D at *
    generalize m / D % 2 = b
    by_cases c1 : D < 2 * r
    · have c2 : D < 2 * s := by omega
      simp [c1, c2]
    · by_cases c3 : D = 2 * r
      · by_cases c4 : D < 2 * s
        · simp [c4]; exact Bool.toNat_le _
        · have : D = 2 * s := by omega
          rw [show s = r by omega]; exact Nat.le_refl _
      · have c5 : (D == 2 * r) = false := by simpa using c3
        simp [c1, c5]

/-- the sticky bit says as much as all that is left over. -/
theorem RN_sticky (f y t d : Nat) (hy : y < 2 ^ (t + 1)) : RN (2 * f + (y != 0).toNat) (d + 2) = RN (2 ^ (t + 1) * f + y) (d + 2 + t) := by
  have hs : (y != 0).toNat ≤ 1 := Bool.toNat_le _
  have hs0 : (y != 0).toNat = 0 ↔ y = 0 := by cases h : (y != 0) <;> simp_all
  generalize (y != 0).toNat = s at *
  have hT : 0 < 2 ^ t := Nat.two_pow_pos _
  have hD : 0 < 2 ^ d := Nat.two_pow_pos _
  have p1 : 2 ^ (d + 2) = 4 * 2 ^ d := by rw [Nat.pow_add]; omega
  have p2 : 2 ^ (d + 2 + t) = 4 * 2 ^ d * 2 ^ t := by rw [Nat.pow_add, p1]
  have p3 : 2 ^ (t + 1) = 2 * 2 ^ t := by rw [Nat.pow_succ]; omega
  unfold RN
  rw [p3] at hy
  rw [p1, p2, p3]
  clear p1 p2 p3
  generalize 2 ^ d = D at hD ⊢
  generalize 2 ^ t = T at hT hy ⊢
  -- f = a * (2 D) + b
  have ef := Nat.div_add_mod f (2 * D)
  have hb := Nat.mod_lt f (show 0 < 2 * D by omega)
  generalize f / (2 * D) = a at *
  generalize f % (2 * D) = b at *
  subst ef
  have q1 : 2 * (2 * D * a + b) + s = 4 * D * a + (2 * b + s) := by
    have : 4 * D * a = 2 * (2 * D * a) := by rw [← Nat.mul_assoc, ← Nat.mul_assoc]
    omega
  have q2 : 2 * T * (2 * D * a + b) + y = 4 * D * T * a + (2 * T * b + y) := by
    have : 4 * D * T * a = 2 * T * (2 * D * a) := by
      rw [show 2 * T * (2 * D * a) = (2 * T * (2 * D)) * a from (Nat.mul_assoc _ _ _).symm]
      congr 1
      rw [Nat.mul_mul_mul_comm]; rw [show 2 * 2 = 4 from rfl, Nat.mul_assoc, Nat.mul_comm D T]
    rw [Nat.mul_add]; omega
  rw [q1, q2]
  have lt1 : 2 * b + s < 4 * D := by omega
  have hTb : T * (b + 1) ≤ T * (2 * D) := Nat.mul_le_mul_left _ (by omega)
  have e3 : 4 * D * T = 2 * (T * (2 * D)) := by
    rw [Nat.mul_comm (4 * D) T, show 4 * D = 2 * (2 * D) by omega, ← Nat.mul_assoc, Nat.mul_comm T 2, Nat.mul_assoc]
  have e4 : 2 * T * b = 2 * (T * b) := Nat.mul_assoc _ _ _
  have lt2 : 2 * T * b + y < 4 * D * T := by
    rw [Nat.mul_add] at hTb; omega
  rw [Nat.mul_add_div (by omega), Nat.mul_add_div (by rw [e3]; have := Nat.mul_pos hT (show 0 < 2 * D by omega); omega), Nat.mul_add_mod, Nat.mul_add_mod,
    Nat.div_eq_of_lt lt1, Nat.div_eq_of_lt lt2, Nat.mod_eq_of_lt lt1, Nat.mod_eq_of_lt lt2]
  congr 2
  -- the two tests
  have tb : T * b < T * D ↔ b < D := Nat.mul_lt_mul_left hT
  have tb' : T * D < T * b ↔ D < b := Nat.mul_lt_mul_left hT
  have e5 : T * (2 * D) = 2 * (T * D) := by rw [← Nat.mul_assoc, Nat.mul_comm T 2, Nat.mul_assoc]
  have tb2 : b < D → T * b + T ≤ T * D := fun h => by
    have := Nat.mul_le_mul_left T (show b + 1 ≤ D by omega)
    rw [Nat.mul_add] at this; omega
  have tb3 : D < b → T * D + T ≤ T * b := fun h => by
    have := Nat.mul_le_mul_left T (show D + 1 ≤ b by omega)
    rw [Nat.mul_add] at this; omega
  rw [e3, e4, e5]
  rcases Nat.lt_trichotomy b D with h | h | h
  · have := tb2 h
    have k1 : ¬ 4 * D < 2 * (2 * b + s) := by omega
    have k2 : ¬ 2 * (2 * (T * D)) < 2 * (2 * (T * b) + y) := by omega
    have k3 : (4 * D == 2 * (2 * b + s)) = false := by simp; omega
    have k4 : (2 * (2 * (T * D)) == 2 * (2 * (T * b) + y)) = false := by simp; omega
    simp [k1, k2, k3, k4]
  · subst h
    by_cases hy0 : y = 0
    · have : s = 0 := hs0.2 hy0
      subst hy0; subst this
      have k1 : ¬ 4 * b < 2 * (2 * b + 0) := by omega
      have k2 : ¬ 2 * (2 * (T * b)) < 2 * (2 * (T * b) + 0) := by omega
      have k3 : (4 * b == 2 * (2 * b + 0)) = true := by simp; omega
      have k4 : (2 * (2 * (T * b)) == 2 * (2 * (T * b) + 0)) = true := by simp
      simp only [k1, k2, k3, k4]
    · have : s = 1 := by
        have : s ≠ 0 := fun h => hy0 (hs0.1 h)
        omega
      subst this
      have k1 : 4 * b < 2 * (2 * b + 1) := by omega
      have k2 : 2 * (2 * (T * b)) < 2 * (2 * (T * b) + y) := by omega
      simp [k1, k2]
  · have := tb3 h
    have k1 : 4 * D < 2 * (2 * b + s) := by omega
    have k2 : 2 * (2 * (T * D)) < 2 * (2 * (T * b) + y) := by omega
    simp [k1, k2]

theorem RN_scale (n t d : Nat) : RN (n * 2 ^ t) (d + t) = RN n d := by
  unfold RN
  have hT : 0 < 2 ^ t := Nat.two_pow_pos _
  have hD : 0 < 2 ^ d := Nat.two_pow_pos _
  rw [Nat.pow_add]
  generalize 2 ^ d = D at *
  generalize 2 ^ t = T at *
  rw [Nat.mul_div_mul_right _ _ hT, Nat.mul_mod_mul_right]
  have h1 : D * T < 2 * (n % D * T) ↔ D < 2 * (n % D) := by
    rw [← Nat.mul_assoc]; exact Nat.mul_lt_mul_right hT
  have h2 : (D * T == 2 * (n % D * T)) = (D == 2 * (n % D)) := by
    rw [← Nat.mul_assoc, Bool.eq_iff_iff]
    simp only [beq_iff_eq]
    exact Nat.mul_left_inj (by omega)
  simp [h1, h2]

theorem RN_exact (n t d : Nat) (h : d ≤ t) : RN (n * 2 ^ t) d = n * 2 ^ (t - d) := by
  have := RN_scale (n * 2 ^ (t - d)) d 0
  rw [Nat.zero_add, RN_zero, Nat.mul_assoc, ← Nat.pow_add, Nat.sub_add_cancel h] at this
  exact this

theorem log2_shift (m t : Nat) (hm : m ≠ 0) : (m * 2 ^ t).log2 = m.log2 + t := by
  have h1 : m * 2 ^ t ≠ 0 := Nat.mul_ne_zero hm (by have := Nat.two_pow_pos t; omega)
  refine (Nat.log2_eq_iff h1).2 ⟨?_, ?_⟩
  · rw [Nat.pow_add]; exact Nat.mul_le_mul_right _ (Nat.log2_self_le hm)
  · rw [show m.log2 + t + 1 = m.log2 + 1 + t by omega, Nat.pow_add]
    exact Nat.mul_lt_mul_of_pos_right Nat.lt_log2_self (Nat.two_pow_pos t)

theorem log2_mono {m n : Nat} (h : m ≤ n) : m.log2 ≤ n.log2 := by
  by_cases h0 : m = 0
  · subst h0; simp
  · exact (Nat.le_log2 (by omega)).2 (Nat.le_trans (Nat.log2_self_le h0) h)

def lastp (m : Nat) (p : Int) : Int := max (p + m.log2 - 52) (-1074)
def nd (m : Nat) (p : Int) : Nat := double.nearest false m p

theorem nd_def (m : Nat) (p : Int) : nd m p = double.nearest false m p := rfl
theorem lp_eq : double.leastPlace = -1074 := by decide
theorem bin_eq : double.binade = 4503599627370496 := by decide
theorem inf_eq : double.infRung = INF := by decide
theorem sw_eq : double.signWeight = 9223372036854775808 := by decide

theorem nd_zero (p : Int) : nd 0 p = 0 := by simp [nd, Format.nearest, Format.word]
theorem nearest_eq (s : Bool) (m : Nat) (p : Int) (hm : m ≠ 0) :
    double.nearest s m p = double.word s (min ((lastp m p + 1074).toNat * 4503599627370496 + RN (m * 2 ^ (p - lastp m p).toNat) (lastp m p - p).toNat) INF) := by
  unfold Format.nearest
  rw [if_neg hm]
  simp only [cut_eq, lp_eq, bin_eq, inf_eq, Nat.shiftLeft_eq]
  have : max (p + (m.log2 : Int) - (double.fractionBits : Int)) (-1074) = lastp m p := rfl
  rw [this]
  congr 4
theorem nd_pos (m : Nat) (p : Int) (hm : m ≠ 0) :
    nd m p = min ((lastp m p + 1074).toNat * 4503599627370496 + RN (m * 2 ^ (p - lastp m p).toNat) (lastp m p - p).toNat) INF := by
  unfold nd; rw [nearest_eq _ _ _ hm]; simp [Format.word]

theorem nd_le (m : Nat) (p : Int) : nd m p ≤ INF := by
  by_cases hm : m = 0
  · subst hm; rw [nd_zero]; exact Nat.zero_le _
  · rw [nd_pos m p hm]; exact Nat.min_le_right _ _

/-- the place moves, the number stays. -/
theorem nd_shift (m t : Nat) (p : Int) : nd (m * 2 ^ t) (p - t) = nd m p := by
  by_cases hm : m = 0
  · subst hm; rw [Nat.zero_mul, nd_zero, nd_zero]
  · have h1 : m * 2 ^ t ≠ 0 := Nat.mul_ne_zero hm (by have := Nat.two_pow_pos t; omega)
    have hl : lastp (m * 2 ^ t) (p - t) = lastp m p := by
      unfold lastp; rw [log2_shift m t hm]; congr 1; omega
    rw [nd_pos _ _ hm, nd_pos _ _ h1, hl]
    generalize lastp m p = L
    congr 2
    by_cases c1 : L ≤ p - t
    · rw [show (L - (p - t)).toNat = 0 by omega, show (L - p).toNat = 0 by omega, RN_zero, RN_zero, Nat.mul_assoc, ← Nat.pow_add]
      congr 2; omega
    · by_cases c2 : L ≤ p
      · rw [show (L - p).toNat = 0 by omega, RN_zero, show (p - t - L).toNat = 0 by omega, Nat.pow_zero, Nat.mul_one, RN_exact _ _ _ (by omega)]
        congr 2; omega
      · rw [show (p - t - L).toNat = 0 by omega, show (p - L).toNat = 0 by omega, Nat.pow_zero, Nat.mul_one, Nat.mul_one,
          show (L - (p - t)).toNat = (L - p).toNat + t by omega, RN_scale]

/-- a greater number has no lesser word. -/
theorem nd_mono {m n : Nat} (p : Int) (h : m ≤ n) : nd m p ≤ nd n p := by
  by_cases hm : m = 0
  · subst hm; rw [nd_zero]; exact Nat.zero_le _
  have hn : n ≠ 0 := by omega
  have hlog := log2_mono h
  rw [nd_pos m p hm, nd_pos n p hn]
  have hL : lastp m p ≤ lastp n p := by unfold lastp; omega
  have key : (lastp m p + 1074).toNat * 4503599627370496 + RN (m * 2 ^ (p - lastp m p).toNat) (lastp m p - p).toNat ≤
      (lastp n p + 1074).toNat * 4503599627370496 + RN (n * 2 ^ (p - lastp n p).toNat) (lastp n p - p).toNat := by
    by_cases he : lastp m p = lastp n p
    · rw [he]
      exact Nat.add_le_add_left (RN_mono _ (Nat.mul_le_mul_right _ h)) _
    · have hlt : lastp m p < lastp n p := by omega
      have h2 : lastp n p = p + n.log2 - 52 := by unfold lastp at hlt ⊢; omega
      have h1 : p + m.log2 - 52 ≤ lastp m p := by unfold lastp; omega
      have h1' : -1074 ≤ lastp m p := by unfold lastp; omega
      -- what is kept of m is at most 2^53
      have k1 : RN (m * 2 ^ (p - lastp m p).toNat) (lastp m p - p).toNat ≤ 9007199254740992 := by
        generalize lastp m p = L at h1
        have hm2 : m < 2 ^ (m.log2 + 1) := Nat.lt_log2_self
        by_cases c : L ≤ p
        · rw [show (L - p).toNat = 0 by omega, RN_zero]
          have : m * 2 ^ (p - L).toNat < 2 ^ (m.log2 + 1) * 2 ^ (p - L).toNat := Nat.mul_lt_mul_of_pos_right hm2 (Nat.two_pow_pos _)
          rw [← Nat.pow_add] at this
          have h53 : 2 ^ (m.log2 + 1 + (p - L).toNat) ≤ 2 ^ 53 := Nat.pow_le_pow_right (by omega) (by omega)
          have : (2 : Nat) ^ 53 = 9007199254740992 := by decide
          omega
        · rw [show (p - L).toNat = 0 by omega, Nat.pow_zero, Nat.mul_one]
          have hq : m / 2 ^ (L - p).toNat < 2 ^ 53 := by
            rw [Nat.div_lt_iff_lt_mul (Nat.two_pow_pos _), ← Nat.pow_add]
            exact Nat.lt_of_lt_of_le hm2 (Nat.pow_le_pow_right (by omega) (by omega))
          have := RN_le m (L - p).toNat
          have : (2 : Nat) ^ 53 = 9007199254740992 := by decide
          omega
      have k2 : 4503599627370496 ≤ RN (n * 2 ^ (p - lastp n p).toNat) (lastp n p - p).toNat := by
        rw [h2]
        have hn2 : 2 ^ n.log2 ≤ n := Nat.log2_self_le hn
        by_cases c : (n.log2 : Int) ≤ 52
        · rw [show (p + n.log2 - 52 - p).toNat = 0 by omega, RN_zero]
          have : 2 ^ n.log2 * 2 ^ (p - (p + n.log2 - 52)).toNat ≤ n * 2 ^ (p - (p + n.log2 - 52)).toNat := Nat.mul_le_mul_right _ hn2
          rw [← Nat.pow_add, show n.log2 + (p - (p + n.log2 - 52)).toNat = 52 by omega] at this
          have : (2 : Nat) ^ 52 = 4503599627370496 := by decide
          omega
        · rw [show (p - (p + n.log2 - 52)).toNat = 0 by omega, Nat.pow_zero, Nat.mul_one]
          have hq : 2 ^ 52 ≤ n / 2 ^ (p + n.log2 - 52 - p).toNat := by
            rw [Nat.le_div_iff_mul_le (Nat.two_pow_pos _), ← Nat.pow_add]
            exact Nat.le_trans (Nat.pow_le_pow_right (by omega) (by omega)) hn2
          have := RN_ge n (p + n.log2 - 52 - p).toNat
          have : (2 : Nat) ^ 52 = 4503599627370496 := by decide
          omega
      have : (lastp m p + 1074).toNat + 1 ≤ (lastp n p + 1074).toNat := by omega
      have : ((lastp m p + 1074).toNat + 1) * 4503599627370496 ≤ (lastp n p + 1074).toNat * 4503599627370496 := Nat.mul_le_mul_right _ this
      omega
  exact Nat.le_min.2 ⟨Nat.le_trans (Nat.min_le_left _ _) key, Nat.min_le_right _ _⟩

/-- more digits of a quotient: the same word. -/
theorem nd_digits (f y t : Nat) (p : Int) (hf : 2 ^ 53 ≤ f) (hy : y < 2 ^ (t + 1)) :
    nd (2 * f + (y != 0).toNat) p = nd (2 ^ (t + 1) * f + y) (p - t) := by
  have hs : (y != 0).toNat ≤ 1 := Bool.toNat_le _
  have h54 : (2 : Nat) ^ 53 = 9007199254740992 := by decide
  have n1 : 2 * f + (y != 0).toNat ≠ 0 := by omega
  have pt : 2 ^ (t + 1) = 2 * 2 ^ t := by rw [Nat.pow_succ]; omega
  have hT : 0 < 2 ^ t := Nat.two_pow_pos t
  have big : 2 ^ t * (2 * f) ≤ 2 ^ (t + 1) * f + y := by
    rw [pt, Nat.mul_assoc 2, ← Nat.mul_assoc (2 ^ t) 2 f, Nat.mul_comm (2 ^ t) 2, Nat.mul_assoc]; omega
  have n2 : 2 ^ (t + 1) * f + y ≠ 0 := by
    have : 0 < 2 ^ t * (2 * f) := Nat.mul_pos hT (by omega)
    omega
  have hlog0 : (2 * f + (y != 0).toNat).log2 = f.log2 + 1 := by
    refine (Nat.log2_eq_iff n1).2 ⟨?_, ?_⟩
    · have := Nat.log2_self_le (show f ≠ 0 by omega); rw [Nat.pow_succ]; omega
    · have := @Nat.lt_log2_self f; rw [Nat.pow_succ]; omega
  have hlog : (2 ^ (t + 1) * f + y).log2 = (2 * f + (y != 0).toNat).log2 + t := by
    rw [hlog0]
    refine (Nat.log2_eq_iff n2).2 ⟨?_, ?_⟩
    · have h := Nat.log2_self_le (show f ≠ 0 by omega)
      have := Nat.mul_le_mul_left (2 ^ (t + 1)) h
      rw [← Nat.pow_add] at this
      rw [show f.log2 + 1 + t = t + 1 + f.log2 by omega]
      omega
    · have h := @Nat.lt_log2_self f
      have := Nat.mul_le_mul_left (2 ^ (t + 1)) (show f + 1 ≤ 2 ^ (f.log2 + 1) by omega)
      rw [← Nat.pow_add, Nat.mul_add] at this
      rw [show f.log2 + 1 + t + 1 = t + 1 + (f.log2 + 1) by omega]
      omega
  have hl54 : 53 ≤ f.log2 := (Nat.le_log2 (by omega)).2 hf
  have hl : lastp (2 ^ (t + 1) * f + y) (p - t) = lastp (2 * f + (y != 0).toNat) p := by
    unfold lastp; rw [hlog]; congr 1; omega
  rw [nd_pos _ _ n1, nd_pos _ _ n2, hl]
  have hge : p + 2 ≤ lastp (2 * f + (y != 0).toNat) p := by unfold lastp; rw [hlog0]; omega
  generalize lastp (2 * f + (y != 0).toNat) p = L at hge
  congr 2
  rw [show (p - L).toNat = 0 by omega, show (p - t - L).toNat = 0 by omega, Nat.pow_zero, Nat.mul_one, Nat.mul_one]
  have := RN_sticky f y t ((L - p).toNat - 2) hy
  rw [show (L - p).toNat - 2 + 2 = (L - p).toNat by omega] at this
  rw [this]; congr 1; omega

/-- the place of a rung above the least one; its digits; what it stands for, in units of the least place. -/
def ex (r : Nat) : Nat := r / 4503599627370496 - 1
def mg (r : Nat) : Nat := r - ex r * 4503599627370496
def V (r : Nat) : Nat := mg r * 2 ^ ex r

theorem mg_lt (r : Nat) : mg r < 9007199254740992 := by unfold mg ex; omega
theorem mg_ge (r : Nat) (h : 0 < ex r) : 4503599627370496 ≤ mg r := by unfold mg; unfold ex at h ⊢; omega
theorem mg_add (r : Nat) : ex r * 4503599627370496 + mg r = r := by unfold mg ex; omega
theorem mg_pos (r : Nat) (h : r ≠ 0) : mg r ≠ 0 := by unfold mg ex; omega
theorem V_zero : V 0 = 0 := by decide
theorem V_pos (r : Nat) (h : r ≠ 0) : V r ≠ 0 := Nat.mul_ne_zero (mg_pos r h) (by have := Nat.two_pow_pos (ex r); omega)

theorem V_lt {r s : Nat} (h : r < s) : V r < V s := by
  have hex : ex r ≤ ex s := by unfold ex; omega
  unfold V
  by_cases he : ex r = ex s
  · rw [he]
    have : mg r < mg s := by unfold mg; rw [he]; have := mg_add r; have := mg_add s; omega
    exact Nat.mul_lt_mul_of_pos_right this (Nat.two_pow_pos _)
  · have h1 : mg r * 2 ^ ex r < 9007199254740992 * 2 ^ ex r := Nat.mul_lt_mul_of_pos_right (mg_lt r) (Nat.two_pow_pos _)
    have h2 : 4503599627370496 * 2 ^ ex s ≤ mg s * 2 ^ ex s := Nat.mul_le_mul_right _ (mg_ge s (by omega))
    have h3 : 2 ^ (ex r + 1) ≤ 2 ^ ex s := Nat.pow_le_pow_right (by omega) (by omega)
    rw [Nat.pow_succ] at h3
    have h4 : 4503599627370496 * (2 ^ ex r * 2) ≤ 4503599627370496 * 2 ^ ex s := Nat.mul_le_mul_left _ h3
    generalize 2 ^ ex r = a at *
    generalize 2 ^ ex s = b at *
    omega
theorem V_le {r s : Nat} (h : r ≤ s) : V r ≤ V s := by
  rcases Nat.lt_or_ge r s with h1 | h1
  · exact Nat.le_of_lt (V_lt h1)
  · rw [show r = s by omega]; exact Nat.le_refl _
theorem V_lt_iff {r s : Nat} : V r < V s ↔ r < s :=
  ⟨fun h => by rcases Nat.lt_or_ge r s with h1 | h1; exact h1; have := V_le h1; omega, V_lt⟩
theorem V_inj {r s : Nat} (h : V r = V s) : r = s := by
  rcases Nat.lt_trichotomy r s with h1 | h1 | h1
  · have := V_lt h1; omega
  · exact h1
  · have := V_lt h1; omega

theorem read_pos (r : Nat) (h : r < INF) : double.read r = .number false (mg r) (-1074 + (ex r : Int)) := by
  unfold Format.read
  unfold INF at h
  simp only [sw_eq, bin_eq, inf_eq, lp_eq]
  have h1 : r / 9223372036854775808 = 0 := Nat.div_eq_of_lt (by omega)
  have h2 : r % 9223372036854775808 = r := Nat.mod_eq_of_lt (by omega)
  rw [h1, h2]
  by_cases c : r < 4503599627370496
  · rw [if_pos c]
    have e0 : ex r = 0 := by unfold ex; omega
    have m0 : mg r = r := by unfold mg; rw [e0]; omega
    rw [e0, m0]; rfl
  · rw [if_neg c, if_pos (by unfold INF; omega)]
    have m0 : mg r = 4503599627370496 + r % 4503599627370496 := by unfold mg ex; omega
    rw [m0]; rfl
theorem winf : double.write (.infinity false) = INF := by decide
theorem read_inf : double.read INF = .infinity false := by decide
theorem read_neg (r : Nat) (h : r < INF) : double.read (r + 9223372036854775808) = .number true (mg r) (-1074 + (ex r : Int)) := by
  unfold Format.read
  unfold INF at h
  simp only [sw_eq, bin_eq, inf_eq, lp_eq]
  have h1 : (r + 9223372036854775808) / 9223372036854775808 = 1 := by omega
  have h2 : (r + 9223372036854775808) % 9223372036854775808 = r := by omega
  rw [h1, h2]
  by_cases c : r < 4503599627370496
  · rw [if_pos c]
    have e0 : ex r = 0 := by unfold ex; omega
    have m0 : mg r = r := by unfold mg; rw [e0]; omega
    rw [e0, m0]; rfl
  · rw [if_neg c, if_pos (by unfold INF; omega)]
    have m0 : mg r = 4503599627370496 + r % 4503599627370496 := by unfold mg ex; omega
    rw [m0]; rfl
theorem read_ninf : double.read (INF + 9223372036854775808) = .infinity true := by decide
theorem read_nan (r : Nat) (h : INF < r % 9223372036854775808) : double.read r = .nan (r / 9223372036854775808 % 2 == 1) (r % 9223372036854775808 - INF) := by
  unfold Format.read
  unfold INF at h ⊢
  simp only [sw_eq, bin_eq, inf_eq, lp_eq]
  rw [if_neg (by omega), if_neg (by unfold INF; omega), if_neg (by unfold INF; omega)]
  rfl

/-- a number in units of the least place, rounded. -/
def N (n : Nat) : Nat := nd n (-1074)
theorem N_zero : N 0 = 0 := nd_zero _
theorem N_mono {a b : Nat} (h : a ≤ b) : N a ≤ N b := nd_mono _ h
theorem N_le (a : Nat) : N a ≤ INF := nd_le _ _
theorem nd_mg (r : Nat) (h : r ≤ INF) : nd (mg r) (-1074 + (ex r : Int)) = r := by
  by_cases h0 : r = 0
  · subst h0; exact nd_zero _
  have hm := mg_pos r h0
  rw [nd_pos _ _ hm]
  have hlt := mg_lt r
  have hadd := mg_add r
  have l1 : (mg r).log2 ≤ 52 := by
    have := (Nat.log2_lt hm).2 (show mg r < 2 ^ 53 from hlt); omega
  have hL : lastp (mg r) (-1074 + (ex r : Int)) = -1074 + (ex r : Int) := by
    unfold lastp
    by_cases c : 0 < ex r
    · have := mg_ge r c
      have l2 : 52 ≤ (mg r).log2 := (Nat.le_log2 hm).2 this
      omega
    · omega
  rw [hL, show (-1074 + (ex r : Int) - (-1074 + (ex r : Int))).toNat = 0 by omega, Nat.pow_zero, Nat.mul_one, RN_zero,
    show (-1074 + (ex r : Int) + 1074).toNat = ex r by omega, hadd]
  exact Nat.min_eq_left h
/-- what is a word already is not rounded. -/
theorem N_V (r : Nat) (h : r ≤ INF) : N (V r) = r := by
  have := nd_shift (mg r) (ex r) (-1074 + (ex r : Int))
  rw [nd_mg r h, show -1074 + (ex r : Int) - (ex r : Int) = -1074 by omega] at this
  exact this

theorem signed_false (m k : Nat) : signed false m k = ((m * 2 ^ k : Nat) : Int) := by simp [signed, Nat.shiftLeft_eq]
theorem signed_true (m k : Nat) : signed true m k = -((m * 2 ^ k : Nat) : Int) := by simp [signed, Nat.shiftLeft_eq]

/-- the sum of two that are not below nought. -/
theorem sum_pos (m n : Nat) (I J : Nat) :
    ∃ z, (Datum.number false m (-1074 + (I : Int))).sum (.number false n (-1074 + (J : Int))) = some z ∧ double.write z = N (m * 2 ^ I + n * 2 ^ J) := by
  refine ⟨_, rfl, ?_⟩
  simp only [signed_false]
  obtain ⟨k, hk⟩ : ∃ k : Nat, k = min I J := ⟨_, rfl⟩
  have e0 : min (-1074 + (I : Int)) (-1074 + (J : Int)) = -1074 + (k : Int) := by omega
  rw [e0, show (-1074 + (I : Int) - (-1074 + (k : Int))).toNat = I - k by omega, show (-1074 + (J : Int) - (-1074 + (k : Int))).toNat = J - k by omega]
  have hI : 2 ^ I = 2 ^ (I - k) * 2 ^ k := by rw [← Nat.pow_add]; congr 1; omega
  have hJ : 2 ^ J = 2 ^ (J - k) * 2 ^ k := by rw [← Nat.pow_add]; congr 1; omega
  have hs : m * 2 ^ I + n * 2 ^ J = (m * 2 ^ (I - k) + n * 2 ^ (J - k)) * 2 ^ k := by
    rw [hI, hJ, Nat.add_mul, Nat.mul_assoc, Nat.mul_assoc]
  rw [hs, show (((m * 2 ^ (I - k) : Nat) : Int) + ((n * 2 ^ (J - k) : Nat) : Int)) = ((m * 2 ^ (I - k) + n * 2 ^ (J - k) : Nat) : Int) by simp]
  generalize m * 2 ^ (I - k) + n * 2 ^ (J - k) = t
  have h2 := nd_shift t k (-1074 + (k : Int))
  rw [show -1074 + (k : Int) - (k : Int) = -1074 by omega] at h2
  unfold N
  rw [h2]
  have hneg : decide ((t : Int) < 0) = false := by simp
  simp only [Format.write, Int.natAbs_natCast]
  by_cases ht : (t : Int) = 0
  · simp [ht, nd]
  · simp [nd, hneg]

theorem add_pos {x y : Nat} (hx : x < INF) (hy : y < INF) : double.add x y = some (N (V x + V y)) := by
  unfold Format.add
  rw [read_pos x hx, read_pos y hy]
  obtain ⟨z, hz, hw⟩ := sum_pos (mg x) (mg y) (ex x) (ex y)
  rw [hz]; simp only [Option.map_some, hw]; rfl
theorem add_inf_left {y : Nat} (hy : y ≤ INF) : double.add INF y = some INF := by
  unfold Format.add
  by_cases h : y = INF
  · subst h; decide
  · rw [read_inf, read_pos y (by omega)]; exact congrArg some winf
theorem add_inf_right {x : Nat} (hx : x ≤ INF) : double.add x INF = some INF := by
  unfold Format.add
  by_cases h : x = INF
  · subst h; decide
  · rw [read_inf, read_pos x (by omega)]; exact congrArg some winf

def addF (x y : Nat) : Nat := (double.add x y).getD 0
theorem addF_inf_left {y : Nat} (hy : y ≤ INF) : addF INF y = INF := by unfold addF; rw [add_inf_left hy]; simp only [Option.getD_some]
theorem addF_inf_right {x : Nat} (hx : x ≤ INF) : addF x INF = INF := by unfold addF; rw [add_inf_right hx]; simp only [Option.getD_some]
theorem addF_fin {x y : Nat} (hx : x < INF) (hy : y < INF) : addF x y = N (V x + V y) := by
  have h := add_pos hx hy
  unfold addF
  generalize double.add x y = o at h ⊢
  subst h
  exact Option.getD_some
theorem add_ok {x y : Nat} (hx : x ≤ INF) (hy : y ≤ INF) : double.add x y = some (addF x y) := by
  rcases Nat.lt_or_eq_of_le hx with h | h
  · rcases Nat.lt_or_eq_of_le hy with h' | h'
    · rw [addF_fin h h', add_pos h h']
    · rw [h', addF_inf_right hx, add_inf_right hx]
  · rw [h, addF_inf_left hy, add_inf_left hy]
theorem addF_cases {x y : Nat} (hx : x ≤ INF) (hy : y ≤ INF) : addF x y = INF ∨ addF x y = N (V x + V y) := by
  rcases Nat.lt_or_eq_of_le hx with h | h
  · rcases Nat.lt_or_eq_of_le hy with h' | h'
    · exact .inr (addF_fin h h')
    · rw [h']; exact .inl (addF_inf_right hx)
  · rw [h]; exact .inl (addF_inf_left hy)
theorem addF_le {x y : Nat} (hx : x ≤ INF) (hy : y ≤ INF) : addF x y ≤ INF := by
  rcases addF_cases hx hy with h | h
  · rw [h]; exact Nat.le_refl _
  · rw [h]; exact N_le _
theorem addF_ge_left {x y : Nat} (hx : x ≤ INF) (hy : y ≤ INF) : x ≤ addF x y := by
  rcases addF_cases hx hy with h | h
  · rw [h]; exact hx
  · have := N_mono (show V x ≤ V x + V y by omega)
    rw [N_V x hx] at this; rw [h]; exact this
theorem addF_ge_right {x y : Nat} (hx : x ≤ INF) (hy : y ≤ INF) : y ≤ addF x y := by
  rcases addF_cases hx hy with h | h
  · rw [h]; exact hy
  · have := N_mono (show V y ≤ V x + V y by omega)
    rw [N_V y hy] at this; rw [h]; exact this

/-- a difference that is not below nought. -/
theorem diff_pos (m n : Nat) (I J : Nat) (h : n * 2 ^ J ≤ m * 2 ^ I) :
    ∃ z, (Datum.number false m (-1074 + (I : Int))).sum (.number true n (-1074 + (J : Int))) = some z ∧ double.write z = N (m * 2 ^ I - n * 2 ^ J) := by
  refine ⟨_, rfl, ?_⟩
  simp only [signed_false, signed_true]
  obtain ⟨k, hk⟩ : ∃ k : Nat, k = min I J := ⟨_, rfl⟩
  have e0 : min (-1074 + (I : Int)) (-1074 + (J : Int)) = -1074 + (k : Int) := by omega
  rw [e0, show (-1074 + (I : Int) - (-1074 + (k : Int))).toNat = I - k by omega, show (-1074 + (J : Int) - (-1074 + (k : Int))).toNat = J - k by omega]
  have hI : 2 ^ I = 2 ^ (I - k) * 2 ^ k := by rw [← Nat.pow_add]; congr 1; omega
  have hJ : 2 ^ J = 2 ^ (J - k) * 2 ^ k := by rw [← Nat.pow_add]; congr 1; omega
  rw [hI, hJ, ← Nat.mul_assoc, ← Nat.mul_assoc] at h
  have h' := Nat.le_of_mul_le_mul_right h (Nat.two_pow_pos k)
  have hs : m * 2 ^ I - n * 2 ^ J = (m * 2 ^ (I - k) - n * 2 ^ (J - k)) * 2 ^ k := by
    rw [hI, hJ, Nat.sub_mul, Nat.mul_assoc, Nat.mul_assoc]
  rw [hs, show (((m * 2 ^ (I - k) : Nat) : Int) + -((n * 2 ^ (J - k) : Nat) : Int)) = ((m * 2 ^ (I - k) - n * 2 ^ (J - k) : Nat) : Int) by omega]
  generalize m * 2 ^ (I - k) - n * 2 ^ (J - k) = t
  have h2 := nd_shift t k (-1074 + (k : Int))
  rw [show -1074 + (k : Int) - (k : Int) = -1074 by omega] at h2
  unfold N
  rw [h2]
  have hneg : decide ((t : Int) < 0) = false := by simp
  simp only [Format.write, Int.natAbs_natCast]
  by_cases ht : (t : Int) = 0
  · simp [ht, nd]
  · simp [nd, hneg]

def subF (x y : Nat) : Nat := (double.sub x y).getD 0
theorem sub_pos {x y : Nat} (hx : x < INF) (hy : y ≤ x) : double.sub x y = some (N (V x - V y)) := by
  unfold Format.sub
  rw [read_pos x hx, read_pos y (by omega)]
  obtain ⟨z, hz, hw⟩ := diff_pos (mg x) (mg y) (ex x) (ex y) (V_le hy)
  simp only [Datum.opposite]
  rw [show (!false) = true from rfl, hz]; simp only [Option.map_some, hw]; rfl
theorem sub_inf {y : Nat} (hy : y < INF) : double.sub INF y = some INF := by
  unfold Format.sub
  rw [read_inf, read_pos y hy]; exact congrArg some winf
theorem subF_fin {x y : Nat} (hx : x < INF) (hy : y ≤ x) : subF x y = N (V x - V y) := by
  have h := sub_pos hx hy
  unfold subF
  generalize double.sub x y = o at h ⊢
  subst h
  exact Option.getD_some
theorem subF_inf {y : Nat} (hy : y < INF) : subF INF y = INF := by
  have h := sub_inf hy
  unfold subF
  generalize double.sub INF y = o at h ⊢
  subst h
  exact Option.getD_some
theorem sub_ok {x y : Nat} (hx : x ≤ INF) (hy : y ≤ x) (hf : y < INF) : double.sub x y = some (subF x y) := by
  rcases Nat.lt_or_eq_of_le hx with h | h
  · rw [subF_fin h hy, sub_pos h hy]
  · rw [h, subF_inf hf, sub_inf hf]
theorem subF_le {x y : Nat} (hx : x ≤ INF) (hy : y ≤ x) (hf : y < INF) : subF x y ≤ INF := by
  rcases Nat.lt_or_eq_of_le hx with h | h
  · rw [subF_fin h hy]; exact N_le _
  · rw [h, subF_inf hf]; exact Nat.le_refl _

/-- a quotient with so many digits. -/
def Q (a b M : Nat) : Nat := 2 * (a * 2 ^ M / b) + (a * 2 ^ M % b != 0).toNat
theorem Q_mono {a b c d : Nat} (M : Nat) (hb : 0 < b) (hd : 0 < d) (h : a * d ≤ c * b) : Q a b M ≤ Q c d M := by
  unfold Q
  generalize hP : 2 ^ M = P
  have h' : a * P * d ≤ c * P * b := by
    rw [Nat.mul_right_comm a, Nat.mul_right_comm c]; exact Nat.mul_le_mul_right _ h
  generalize a * P = A at *
  generalize c * P = C at *
  have q : A / b ≤ C / d := by
    rw [Nat.le_div_iff_mul_le hd]
    have h1 : A / b * b ≤ A := Nat.div_mul_le_self _ _
    have h2 : A / b * b * d ≤ C * b := Nat.le_trans (Nat.mul_le_mul_right _ h1) h'
    rw [Nat.mul_right_comm] at h2
    exact Nat.le_of_mul_le_mul_right h2 hb
  have s1 : (A % b != 0).toNat ≤ 1 := Bool.toNat_le _
  rcases Nat.lt_or_ge (A / b) (C / d) with hlt | hge
  · omega
  · have he : A / b = C / d := by omega
    rw [he]
    apply Nat.add_le_add_left
    by_cases hc : C % d = 0
    · have e1 := Nat.div_add_mod A b
      have e2 := Nat.div_add_mod C d
      rw [hc, Nat.add_zero] at e2
      rw [he] at e1
      have : (b * (C / d) + A % b) * d ≤ d * (C / d) * b := by rw [e1, e2]; exact h'
      rw [Nat.add_mul, show d * (C / d) * b = b * (C / d) * d by rw [Nat.mul_comm d, Nat.mul_assoc, Nat.mul_comm d b, ← Nat.mul_assoc, Nat.mul_comm _ b]] at this
      have h0 : A % b * d ≤ 0 := by omega
      have : A % b = 0 := by
        rcases Nat.eq_zero_or_pos (A % b) with h | h
        · exact h
        · have := Nat.mul_pos h hd; omega
      rw [this]; simp
    · have : (C % d != 0) = true := by simpa using hc
      rw [this]; exact Bool.toNat_le _

theorem Q_more (m n k t : Nat) (p : Int) (hn : 0 < n) (hf : 2 ^ 53 ≤ m * 2 ^ k / n) : nd (Q m n k) p = nd (Q m n (k + t)) (p - t) := by
  unfold Q
  have hT : 0 < 2 ^ t := Nat.two_pow_pos t
  have e : m * 2 ^ (k + t) = m * 2 ^ k * 2 ^ t := by rw [Nat.pow_add, Nat.mul_assoc]
  rw [e]
  generalize m * 2 ^ k = D at *
  have ed := Nat.div_add_mod D n
  have hr := Nat.mod_lt D hn
  generalize D / n = f at *
  generalize D % n = r at *
  subst ed
  have h1 : (n * f + r) * 2 ^ t / n = 2 ^ t * f + r * 2 ^ t / n := by
    rw [Nat.add_mul, Nat.mul_assoc, Nat.mul_add_div hn, Nat.mul_comm f]
  have h2 : (n * f + r) * 2 ^ t % n = r * 2 ^ t % n := by
    rw [Nat.add_mul, Nat.mul_assoc, Nat.mul_add_mod]
  rw [h1, h2]
  have hg : r * 2 ^ t / n < 2 ^ t := by
    rw [Nat.div_lt_iff_lt_mul hn, Nat.mul_comm]; exact Nat.mul_lt_mul_of_pos_left hr hT
  have hs : (r * 2 ^ t % n != 0).toNat ≤ 1 := Bool.toNat_le _
  have pt : 2 ^ (t + 1) = 2 * 2 ^ t := by rw [Nat.pow_succ]; omega
  have hy := nd_digits f (2 * (r * 2 ^ t / n) + (r * 2 ^ t % n != 0).toNat) t p hf (by rw [pt]; omega)
  have e2 : 2 * (2 ^ t * f + r * 2 ^ t / n) + (r * 2 ^ t % n != 0).toNat = 2 ^ (t + 1) * f + (2 * (r * 2 ^ t / n) + (r * 2 ^ t % n != 0).toNat) := by
    rw [pt, Nat.mul_add, Nat.mul_assoc]; omega
  rw [e2, ← hy]
  have e3 : (2 * (r * 2 ^ t / n) + (r * 2 ^ t % n != 0).toNat != 0) = (r != 0) := by
    by_cases h0 : r = 0
    · subst h0; simp
    · have : (r != 0) = true := by simpa using h0
      rw [this]
      have hd := Nat.div_add_mod (r * 2 ^ t) n
      have : 0 < r * 2 ^ t := Nat.mul_pos (by omega) hT
      rw [bne_iff_ne]
      intro hc
      have c1 : r * 2 ^ t / n = 0 := by omega
      have c2 : (r * 2 ^ t % n != 0).toNat = 0 := by omega
      have c3 : r * 2 ^ t % n = 0 := by
        cases h : (r * 2 ^ t % n != 0) <;> simp_all
      rw [c1, c3] at hd; omega
  rw [e3]

/-- a quotient in units of `2 ^ -2201`, rounded. -/
def KK : Nat := 2200
theorem KK_eq : KK = 2200 := rfl
def D (a b : Nat) : Nat := nd (Q a b KK) (-2201)
theorem D_mono {a b c d : Nat} (hb : 0 < b) (hd : 0 < d) (h : a * d ≤ c * b) : D a b ≤ D c d := nd_mono _ (Q_mono _ hb hd h)
theorem D_le (a b : Nat) : D a b ≤ INF := nd_le _ _
theorem Q_cancel (a b M k : Nat) (hk : 0 < k) : Q (a * k) (b * k) M = Q a b M := by
  unfold Q
  rw [Nat.mul_right_comm, Nat.mul_div_mul_right _ _ hk, Nat.mul_mod_mul_right]
  congr 2
  rw [Bool.eq_iff_iff, bne_iff_ne, bne_iff_ne]
  have : a * 2 ^ M % b * k = 0 ↔ a * 2 ^ M % b = 0 := by rw [Nat.mul_eq_zero]; omega
  rw [Ne, Ne, this]
theorem D_cancel (a b k : Nat) (hk : 0 < k) : D (a * k) (b * k) = D a b := by unfold D; rw [Q_cancel a b _ k hk]

theorem quot_pos (m n I J : Nat) (hm : m ≠ 0) (hn : n ≠ 0) (hm53 : m < 9007199254740992) (hn53 : n < 9007199254740992) (hI : I ≤ 2046) (hJ : J ≤ 2046) :
    ∃ z, (Datum.number false m (-1074 + (I : Int))).quotient 54 (.number false n (-1074 + (J : Int))) = some z ∧ double.write z = D (m * 2 ^ I) (n * 2 ^ J) := by
  have l1 : m.log2 ≤ 52 := by have := (Nat.log2_lt hm).2 (show m < 2 ^ 53 from hm53); omega
  have l2 : n.log2 ≤ 52 := by have := (Nat.log2_lt hn).2 (show n < 2 ^ 53 from hn53); omega
  obtain ⟨k, hk⟩ : ∃ k, k = 54 + n.log2 - m.log2 := ⟨_, rfl⟩
  refine ⟨.number false (Q m n k) (-1074 + (I : Int) - (-1074 + (J : Int)) - k - 1), ?_, ?_⟩
  · unfold Datum.quotient
    simp only [hn, if_false, Nat.shiftLeft_eq, ← hk]
    rfl
  · show nd (Q m n k) _ = D _ _
    have hf : 2 ^ 53 ≤ m * 2 ^ k / n := by
      rw [Nat.le_div_iff_mul_le (by omega)]
      have h1 := Nat.log2_self_le hm
      have h2 := @Nat.lt_log2_self n
      have h3 : 2 ^ m.log2 * 2 ^ k ≤ m * 2 ^ k := Nat.mul_le_mul_right _ h1
      have h4 : 2 ^ 53 * n ≤ 2 ^ 53 * 2 ^ (n.log2 + 1) := Nat.mul_le_mul_left _ (by omega)
      rw [← Nat.pow_add] at h3 h4
      rw [show m.log2 + k = 53 + (n.log2 + 1) by omega] at h3
      exact Nat.le_trans h4 h3
    obtain ⟨t, ht⟩ : ∃ t, k + t = I + KK - J := ⟨I + KK - J - k, by have := KK_eq; omega⟩
    rw [Q_more m n k t _ (by omega) hf, ht, show -1074 + (I : Int) - (-1074 + (J : Int)) - (k : Int) - 1 - (t : Int) = -2201 by have := KK_eq; omega]
    unfold D
    have hKK := KK_eq
    generalize KK = K at hKK ht ⊢
    congr 1
    unfold Q
    have e : m * 2 ^ I * 2 ^ K = m * 2 ^ (I + K - J) * 2 ^ J := by
      rw [Nat.mul_assoc, ← Nat.pow_add, Nat.mul_assoc, ← Nat.pow_add]; congr 2; omega
    have hJ2 : 0 < 2 ^ J := Nat.two_pow_pos J
    rw [e, Nat.mul_div_mul_right _ _ hJ2, Nat.mul_mod_mul_right]
    congr 2
    rw [Bool.eq_iff_iff, bne_iff_ne, bne_iff_ne, Ne, Ne, Nat.mul_eq_zero]
    omega

theorem ex_le {x : Nat} (h : x < INF) : ex x ≤ 2046 := by unfold ex; unfold INF at h; omega
def divF (x y : Nat) : Nat := (double.div x y).getD 0
theorem div_pos {x y : Nat} (hx : x < INF) (hy : y < INF) (hx0 : x ≠ 0) (hy0 : y ≠ 0) : double.div x y = some (D (V x) (V y)) := by
  unfold Format.div
  rw [read_pos x hx, read_pos y hy]
  obtain ⟨z, hz, hw⟩ := quot_pos (mg x) (mg y) (ex x) (ex y) (mg_pos x hx0) (mg_pos y hy0) (mg_lt x) (mg_lt y) (ex_le hx) (ex_le hy)
  rw [show double.fractionBits + 2 = 54 from rfl, hz]
  simp only [Option.map_some, hw]; rfl
theorem divF_pos {x y : Nat} (hx : x < INF) (hy : y < INF) (hx0 : x ≠ 0) (hy0 : y ≠ 0) : divF x y = D (V x) (V y) := by
  have h := div_pos hx hy hx0 hy0
  unfold divF
  generalize double.div x y = o at h ⊢
  subst h
  exact Option.getD_some
theorem div_ok {x y : Nat} (hx : x < INF) (hy : y < INF) (hx0 : x ≠ 0) (hy0 : y ≠ 0) : double.div x y = some (divF x y) := by
  rw [divF_pos hx hy hx0 hy0]; exact div_pos hx hy hx0 hy0
theorem div_one : double.div ONE ONE = some ONE := by decide +kernel
theorem divF_one : divF ONE ONE = ONE := by
  have h := div_one
  unfold divF
  generalize double.div ONE ONE = o at h ⊢
  subst h
  exact Option.getD_some
theorem D_one : D (V ONE) (V ONE) = ONE := by
  have h := divF_pos (x := ONE) (y := ONE) (by decide) (by decide) (by decide) (by decide)
  rw [divF_one] at h; exact h.symm
theorem divF_mono {a b c d : Nat} (ha : a < INF) (hb : b < INF) (hc : c < INF) (hd : d < INF) (a0 : a ≠ 0) (b0 : b ≠ 0) (c0 : c ≠ 0) (d0 : d ≠ 0) (h1 : a ≤ c) (h2 : d ≤ b) : divF a b ≤ divF c d := by
  rw [divF_pos ha hb a0 b0, divF_pos hc hd c0 d0]
  exact D_mono (Nat.pos_of_ne_zero (V_pos _ b0)) (Nat.pos_of_ne_zero (V_pos _ d0)) (Nat.mul_le_mul (V_le h1) (V_le h2))
/-- a part is at most one. -/
theorem divF_le_one {a b : Nat} (hb : b < INF) (a0 : a ≠ 0) (h : a ≤ b) : divF a b ≤ ONE := by
  rw [divF_pos (by omega) hb a0 (by omega), ← D_one]
  have v1 : 0 < V ONE := Nat.pos_of_ne_zero (V_pos _ (by decide))
  exact D_mono (Nat.pos_of_ne_zero (V_pos _ (by omega))) v1 (by rw [Nat.mul_comm]; exact Nat.mul_le_mul_left _ (V_le h))
theorem V_def (r : Nat) : V r = mg r * 2 ^ ex r := rfl
attribute [irreducible] N V D nd


theorem compare_lt {a b : Int} (h : a < b) : compare a b = .lt := by
  simp [compare, compareOfLessAndEq, h]
theorem compare_eq {a b : Int} (h : a = b) : compare a b = .eq := by
  subst h; simp [compare, compareOfLessAndEq]
theorem compare_gt {a b : Int} (h : b < a) : compare a b = .gt := by
  have h1 : ¬ a < b := by omega
  have h2 : ¬ a = b := by omega
  simp [compare, compareOfLessAndEq, h1, h2]
theorem compare_iff {a b c d : Int} (h1 : a < b ↔ c < d) (h2 : a = b ↔ c = d) : compare a b = compare c d := by
  rcases Int.lt_trichotomy c d with h | h | h
  · rw [compare_lt h, compare_lt (h1.2 h)]
  · rw [compare_eq h, compare_eq (h2.2 h)]
  · rw [compare_gt h, compare_gt]
    have a1 : ¬ a < b := fun x => by have := h1.1 x; omega
    have a2 : ¬ a = b := fun x => by have := h2.1 x; omega
    omega

/-- where a float that is no NaN stands. -/
def T (x : Nat) : Int := if x < 9223372036854775808 then (x : Int) else 9223372036854775808 - (x : Int)
def isN (x : Nat) : Prop := INF < x % 9223372036854775808
instance (x : Nat) : Decidable (isN x) := by unfold isN; infer_instance

theorem signed_cmp (s t : Bool) (a b c : Nat) (hc : 0 < c) : compare (if s then -((a * c : Nat) : Int) else ((a * c : Nat) : Int)) (if t then -((b * c : Nat) : Int) else ((b * c : Nat) : Int)) =
    compare (if s then -(a : Int) else (a : Int)) (if t then -(b : Int) else (b : Int)) := by
  have e1 : a * c < b * c ↔ a < b := Nat.mul_lt_mul_right hc
  have e2 : b * c < a * c ↔ b < a := Nat.mul_lt_mul_right hc
  have e3 : a * c = 0 ↔ a = 0 := by rw [Nat.mul_eq_zero]; omega
  have e4 : b * c = 0 ↔ b = 0 := by rw [Nat.mul_eq_zero]; omega
  generalize a * c = A at *
  generalize b * c = B at *
  cases s <;> cases t <;> simp only [if_true, if_false, Bool.false_eq_true] <;> apply compare_iff <;> omega

theorem order_num (s t : Bool) (r q : Nat) : (Datum.number s (mg r) (-1074 + (ex r : Int))).order (.number t (mg q) (-1074 + (ex q : Int))) =
    some (compare (if s then -(r : Int) else (r : Int)) (if t then -(q : Int) else (q : Int))) := by
  unfold Datum.order
  simp only
  obtain ⟨k, hk⟩ : ∃ k : Nat, k = min (ex r) (ex q) := ⟨_, rfl⟩
  have e0 : min (-1074 + (ex r : Int)) (-1074 + (ex q : Int)) = -1074 + (k : Int) := by omega
  rw [e0, show (-1074 + (ex r : Int) - (-1074 + (k : Int))).toNat = ex r - k by omega, show (-1074 + (ex q : Int) - (-1074 + (k : Int))).toNat = ex q - k by omega]
  have hI : 2 ^ ex r = 2 ^ (ex r - k) * 2 ^ k := by rw [← Nat.pow_add]; congr 1; omega
  have hJ : 2 ^ ex q = 2 ^ (ex q - k) * 2 ^ k := by rw [← Nat.pow_add]; congr 1; omega
  have h1 := signed_cmp s t (mg r * 2 ^ (ex r - k)) (mg q * 2 ^ (ex q - k)) (2 ^ k) (Nat.two_pow_pos k)
  rw [Nat.mul_assoc, Nat.mul_assoc, ← hI, ← hJ] at h1
  simp only [signed, Nat.shiftLeft_eq]
  rw [← h1]
  have v1 : mg r * 2 ^ ex r = V r := (V_def r).symm
  have v2 : mg q * 2 ^ ex q = V q := (V_def q).symm
  rw [v1, v2]
  have c1 : V r < V q ↔ r < q := V_lt_iff
  have c2 : V q < V r ↔ q < r := V_lt_iff
  have c3 : V r = 0 ↔ r = 0 := ⟨fun h => by rcases Nat.eq_zero_or_pos r with h' | h'; exact h'; exact absurd h (V_pos r (by omega)), fun h => by rw [h]; exact V_zero⟩
  have c4 : V q = 0 ↔ q = 0 := ⟨fun h => by rcases Nat.eq_zero_or_pos q with h' | h'; exact h'; exact absurd h (V_pos q (by omega)), fun h => by rw [h]; exact V_zero⟩
  generalize V r = A at *
  generalize V q = B at *
  congr 1
  cases s <;> cases t <;> simp only [if_true, if_false, Bool.false_eq_true] <;> apply compare_iff <;> omega

theorem read_cases (x : Nat) (hx : x < 18446744073709551616) (n : ¬ isN x) :
    (∃ s r, r < INF ∧ double.read x = .number s (mg r) (-1074 + (ex r : Int)) ∧ T x = (if s then -(r : Int) else (r : Int))) ∨
    (∃ s, double.read x = .infinity s ∧ T x = (if s then -(INF : Int) else (INF : Int))) := by
  unfold isN at n
  by_cases c : x < 9223372036854775808
  · by_cases d : x < INF
    · exact .inl ⟨false, x, d, read_pos x d, by unfold T; rw [if_pos c]; rfl⟩
    · have e : x = INF := by omega
      refine .inr ⟨false, by rw [e]; exact read_inf, ?_⟩
      unfold T; rw [if_pos c, e]; rfl
  · obtain ⟨r, rfl⟩ : ∃ r, x = r + 9223372036854775808 := ⟨x - 9223372036854775808, by omega⟩
    by_cases d : r < INF
    · refine .inl ⟨true, r, d, read_neg r d, ?_⟩
      unfold T; rw [if_neg c]; simp only [if_true]; omega
    · have e : r = INF := by omega
      refine .inr ⟨true, by rw [e]; exact read_ninf, ?_⟩
      unfold T; rw [if_neg c, e]; simp only [if_true]; omega

theorem order_T {x y : Nat} (hx : x < 18446744073709551616) (hy : y < 18446744073709551616) (nx : ¬ isN x) (ny : ¬ isN y) :
    double.order x y = some (compare (T x) (T y)) := by
  unfold Format.order
  rcases read_cases x hx nx with ⟨s, r, hr, e1, t1⟩ | ⟨s, e1, t1⟩ <;> rcases read_cases y hy ny with ⟨s', r', hr', e2, t2⟩ | ⟨s', e2, t2⟩ <;> rw [e1, e2, t1, t2]
  · exact order_num s s' r r'
  · unfold Datum.order
    cases s' <;> cases s <;> simp only [if_true, if_false, Bool.false_eq_true, Option.some.injEq] <;> symm <;> first | (apply compare_lt; omega) | (apply compare_gt; omega)
  · unfold Datum.order
    cases s <;> cases s' <;> simp only [if_true, if_false, Bool.false_eq_true, Option.some.injEq] <;> symm <;> first | (apply compare_lt; omega) | (apply compare_gt; omega)
  · unfold Datum.order
    cases s <;> cases s' <;> simp only [if_true, if_false, Bool.false_eq_true, Option.some.injEq] <;> symm <;> first | (apply compare_eq; omega) | (apply compare_lt; unfold INF; omega) | (apply compare_gt; unfold INF; omega)

theorem order_nan {x y : Nat} (h : isN x ∨ isN y) : double.order x y = none := by
  unfold Format.order
  rcases h with h | h
  · rw [read_nan x h]; unfold Datum.order; cases double.read y <;> rfl
  · rw [read_nan y h]; unfold Datum.order; cases double.read x <;> rfl

/-- the tests of Go on floats. -/
def ltF (x y : Nat) : Bool := FloatKind.f64.format.order x y == some .lt
def gtF (x y : Nat) : Bool := FloatKind.f64.format.order x y == some .gt
def eqF (x y : Nat) : Bool := FloatKind.f64.format.order x y == some .eq
def neF (x y : Nat) : Bool := FloatKind.f64.format.order x y != some .eq
def leF (x y : Nat) : Bool := FloatKind.f64.format.order x y == some .lt || FloatKind.f64.format.order x y == some .eq
def geF (x y : Nat) : Bool := FloatKind.f64.format.order x y == some .gt || FloatKind.f64.format.order x y == some .eq

section
variable {x y : Nat} (hx : x < 18446744073709551616) (hy : y < 18446744073709551616) (nx : ¬ isN x) (ny : ¬ isN y)
include hx hy nx ny
theorem ord_T : FloatKind.f64.format.order x y = some (compare (T x) (T y)) := order_T hx hy nx ny
theorem ltF_T : ltF x y = decide (T x < T y) := by
  unfold ltF; rw [ord_T hx hy nx ny]
  rcases Int.lt_trichotomy (T x) (T y) with h | h | h
  · rw [compare_lt h]; simp [h]
  · rw [compare_eq h]; simp [h]
  · rw [compare_gt h]; simp; omega
theorem gtF_T : gtF x y = decide (T y < T x) := by
  unfold gtF; rw [ord_T hx hy nx ny]
  rcases Int.lt_trichotomy (T x) (T y) with h | h | h
  · rw [compare_lt h]; simp; omega
  · rw [compare_eq h]; simp [h]
  · rw [compare_gt h]; simp [h]
theorem eqF_T : eqF x y = decide (T x = T y) := by
  unfold eqF; rw [ord_T hx hy nx ny]
  rcases Int.lt_trichotomy (T x) (T y) with h | h | h
  · rw [compare_lt h]; simp; omega
  · rw [compare_eq h]; simp [h]
  · rw [compare_gt h]; simp; omega
theorem neF_T : neF x y = decide (T x ≠ T y) := by
  have h := eqF_T hx hy nx ny
  unfold eqF at h; unfold neF; simp only [bne, h]; simp
theorem leF_T : leF x y = decide (T x ≤ T y) := by
  have h1 := eqF_T hx hy nx ny
  have h2 := ltF_T hx hy nx ny
  unfold eqF at h1; unfold ltF at h2; unfold leF; rw [h1, h2]
  rw [Bool.eq_iff_iff]; simp; omega
theorem geF_T : geF x y = decide (T y ≤ T x) := by
  have h1 := eqF_T hx hy nx ny
  have h2 := gtF_T hx hy nx ny
  unfold eqF at h1; unfold gtF at h2; unfold geF; rw [h1, h2]
  rw [Bool.eq_iff_iff]; simp; omega
end
section
variable {x y : Nat} (h : isN x ∨ isN y)
include h
theorem ord_nan : FloatKind.f64.format.order x y = none := order_nan h
theorem ltF_nan : ltF x y = false := by unfold ltF; rw [ord_nan h]; rfl
theorem gtF_nan : gtF x y = false := by unfold gtF; rw [ord_nan h]; rfl
theorem eqF_nan : eqF x y = false := by unfold eqF; rw [ord_nan h]; rfl
theorem neF_nan : neF x y = true := by unfold neF; rw [ord_nan h]; rfl
theorem leF_nan : leF x y = false := by unfold leF; rw [ord_nan h]; rfl
theorem geF_nan : geF x y = false := by unfold geF; rw [ord_nan h]; rfl
end

/-- not below nought, and a number or infinity. -/
theorem pos_facts {x : Nat} (h : x ≤ INF) : x < 18446744073709551616 ∧ ¬ isN x ∧ T x = (x : Int) := by
  unfold INF at h
  refine ⟨by omega, ?_, ?_⟩
  · unfold isN INF; omega
  · unfold T; rw [if_pos (by omega)]
section
variable {x y : Nat} (hx : x ≤ INF) (hy : y ≤ INF)
include hx hy
theorem ltF_pos : ltF x y = decide (x < y) := by
  obtain ⟨a, b, c⟩ := pos_facts hx; obtain ⟨a', b', c'⟩ := pos_facts hy
  rw [ltF_T a a' b b', c, c']; rw [Bool.eq_iff_iff]; simp
theorem gtF_pos : gtF x y = decide (y < x) := by
  obtain ⟨a, b, c⟩ := pos_facts hx; obtain ⟨a', b', c'⟩ := pos_facts hy
  rw [gtF_T a a' b b', c, c']; rw [Bool.eq_iff_iff]; simp
theorem eqF_pos : eqF x y = decide (x = y) := by
  obtain ⟨a, b, c⟩ := pos_facts hx; obtain ⟨a', b', c'⟩ := pos_facts hy
  rw [eqF_T a a' b b', c, c']; rw [Bool.eq_iff_iff]; simp; omega
theorem neF_pos : neF x y = decide (x ≠ y) := by
  obtain ⟨a, b, c⟩ := pos_facts hx; obtain ⟨a', b', c'⟩ := pos_facts hy
  rw [neF_T a a' b b', c, c']; rw [Bool.eq_iff_iff]; simp; omega
theorem leF_pos : leF x y = decide (x ≤ y) := by
  obtain ⟨a, b, c⟩ := pos_facts hx; obtain ⟨a', b', c'⟩ := pos_facts hy
  rw [leF_T a a' b b', c, c']; rw [Bool.eq_iff_iff]; simp
theorem geF_pos : geF x y = decide (y ≤ x) := by
  obtain ⟨a, b, c⟩ := pos_facts hx; obtain ⟨a', b', c'⟩ := pos_facts hy
  rw [geF_T a a' b b', c, c']; rw [Bool.eq_iff_iff]; simp
end

/-- twice as great. -/
def TWO : Nat := 4611686018427387904
def mulF (x y : Nat) : Nat := (double.mul x y).getD 0
theorem double_pos {x : Nat} (h0 : 4503599627370496 ≤ x) (h1 : x + 4503599627370496 ≤ INF) :
    double.mul TWO x = some (x + 4503599627370496) := by
  unfold Format.mul
  have r2 : double.read TWO = .number false 4503599627370496 (-51) := by decide
  rw [r2, read_pos x (by omega)]
  show some (double.nearest false (4503599627370496 * mg x) (-51 + (-1074 + (ex x : Int)))) = _
  rw [← nd_def]
  have e1 : 4503599627370496 * mg x = mg x * 2 ^ 52 := by rw [Nat.mul_comm]
  have e2 : ex (x + 4503599627370496) = ex x + 1 := by unfold ex; omega
  have e3 : mg (x + 4503599627370496) = mg x := by unfold mg; rw [e2]; omega
  have h2 := nd_shift (mg x) 52 (-1074 + ((ex x + 1 : Nat) : Int))
  rw [e1, show (-51 + (-1074 + (ex x : Int)) : Int) = -1074 + ((ex x + 1 : Nat) : Int) - ((52 : Nat) : Int) by omega, h2, ← e2, ← e3, nd_mg _ h1]
theorem V_double {x : Nat} (h0 : 4503599627370496 ≤ x) : V (x + 4503599627370496) = V x * 2 := by
  have e2 : ex (x + 4503599627370496) = ex x + 1 := by unfold ex; omega
  have e3 : mg (x + 4503599627370496) = mg x := by unfold mg; rw [e2]; omega
  rw [V_def, V_def, e2, e3, Nat.pow_succ, Nat.mul_assoc]
/-- a quotient of two that are both twice as great is the same. -/
theorem divF_double {x y : Nat} (hx : x + 4503599627370496 < INF) (hy : y + 4503599627370496 < INF) (hx0 : 4503599627370496 ≤ x) (hy0 : 4503599627370496 ≤ y) :
    divF (x + 4503599627370496) (y + 4503599627370496) = divF x y := by
  rw [divF_pos hx hy (by omega) (by omega), divF_pos (by omega) (by omega) (by omega) (by omega), V_double hx0, V_double hy0, D_cancel _ _ _ (by omega)]
end Go.Proofs.YtniejpfjbifjkaaDoor.Fl
