/-
  THE PLAIN LAWS OF float64 THAT THE ROADS NEED: no Go in sight but the model's words for floats.
-/
import Derived.Laws.FloatArith
namespace Go.Proofs.Ygdaag
namespace Flt

/-- The rung: the word without its sign. -/
def nanB (b : Nat) : Bool := decide (9218868437227405312 < b % 9223372036854775808)

theorem isNaN_read (b : Nat) : (Ieee.double.read b).isNaN = nanB b := by
  have hs : Ieee.double.signWeight = 9223372036854775808 := by decide
  have hb : Ieee.double.binade = 4503599627370496 := by decide
  have hi : Ieee.double.infRung = 9218868437227405312 := by decide
  unfold Ieee.Format.read nanB
  simp only [hs, hb, hi]
  generalize b % 9223372036854775808 = r
  split
  · simp [Ieee.Datum.isNaN]; omega
  · split
    · simp [Ieee.Datum.isNaN]; omega
    · split
      · simp [Ieee.Datum.isNaN]; omega
      · simp [Ieee.Datum.isNaN]; omega

theorem order_self {d : Ieee.Datum} (h : d.isNaN = false) : d.order d = some .eq := by
  cases d with
  | nan s t => simp [Ieee.Datum.isNaN] at h
  | infinity s => simp [Ieee.Datum.order]
  | number s m i => simp [Ieee.Datum.order]

theorem order_nan {d : Ieee.Datum} (e : Ieee.Datum) (h : d.isNaN = true) : d.order e = none := by
  cases d with
  | nan s t => simp [Ieee.Datum.order]
  | infinity s => simp [Ieee.Datum.isNaN] at h
  | number s m i => simp [Ieee.Datum.isNaN] at h

/-- 'b == b' -/
theorem eq_self {b : Nat} (h : nanB b = false) : (FloatKind.f64.format.order b b == some .eq) = true := by
  have : FloatKind.f64.format.order b b = some .eq := order_self (d := Ieee.double.read b) (by rw [isNaN_read]; exact h)
  rw [this]; rfl

theorem ne_self {b : Nat} : (FloatKind.f64.format.order b b != some .eq) = nanB b := by
  cases h : nanB b with
  | false => have := eq_self h; simp only [bne, this, Bool.not_true]
  | true =>
    have : FloatKind.f64.format.order b b = none := order_nan (d := Ieee.double.read b) _ (by rw [isNaN_read]; exact h)
    rw [this]; rfl

open Ieee

theorem signed_eq (s : Bool) (m up : Nat) : signed s m up = (if s then -1 else 1) * ((m : Int) * 2 ^ up) := by
  unfold signed
  rw [Nat.shiftLeft_eq]
  cases s <;> simp

theorem compare_lt {x y : Int} (h : compare x y = .lt) : x < y := by
  exact Int.compare_eq_lt.1 h

theorem compare_nlt {x y : Int} (h : compare x y ≠ .lt) : y ≤ x := by
  have : ¬ x < y := fun k => h (Int.compare_eq_lt.2 k)
  omega

theorem cut_zero (s : Bool) (n drop : Nat) : Toward.zero.cut s n drop = n / 2 ^ drop := by
  unfold Toward.cut
  simp only [Bool.toNat_false, Nat.add_zero, Nat.one_shiftLeft]
  by_cases h : drop ≤ n.log2 + 2
  · rw [Nat.min_eq_left h]
  · rw [Nat.min_eq_right (by omega)]
    have h1 : n < 2 ^ (n.log2 + 1) := Nat.lt_log2_self
    have h2 : 2 ^ (n.log2 + 1) ≤ 2 ^ (n.log2 + 2) := Nat.pow_le_pow_right (by omega) (by omega)
    have h3 : 2 ^ (n.log2 + 1) ≤ 2 ^ drop := Nat.pow_le_pow_right (by omega) (by omega)
    rw [Nat.div_eq_of_lt (by omega), Nat.div_eq_of_lt (by omega)]

/-- The magnitude, cut, against 2 ^ 63. -/
theorem mag_le (m : Nat) (p : Int) (h : (m : Int) * 2 ^ (p - min p 11).toNat ≤ 4503599627370496 * 2 ^ (11 - min p 11).toNat) :
    (m <<< p.toNat) / 2 ^ (-p).toNat ≤ 9223372036854775808 := by
  have h : m * 2 ^ (p - min p 11).toNat ≤ 4503599627370496 * 2 ^ (11 - min p 11).toNat := by
    refine Int.ofNat_le.1 ?_
    rw [Int.natCast_mul, Int.natCast_mul, Int.natCast_pow, Int.natCast_pow]
    exact h
  rw [Nat.shiftLeft_eq]
  by_cases h0 : p < 0
  · obtain ⟨q, rfl⟩ : ∃ q : Nat, p = -(q : Int) := ⟨(-p).toNat, by omega⟩
    rw [show min (-(q : Int)) 11 = -(q : Int) from by omega] at h
    rw [show (-(q : Int) - -(q : Int)).toNat = 0 from by omega, show (11 - -(q : Int)).toNat = 11 + q from by omega] at h
    rw [show (-(q : Int)).toNat = 0 from by omega, show (- -(q : Int)).toNat = q from by omega]
    rw [Nat.pow_add, ← Nat.mul_assoc] at h
    simp only [Nat.pow_zero, Nat.mul_one] at h ⊢
    exact Nat.div_le_of_le_mul (by rw [Nat.mul_comm]; exact h)
  · by_cases h1 : p ≤ 11
    · obtain ⟨q, rfl⟩ : ∃ q : Nat, p = (q : Int) := ⟨p.toNat, by omega⟩
      rw [show min (q : Int) 11 = (q : Int) from by omega] at h
      rw [show ((q : Int) - (q : Int)).toNat = 0 from by omega, show (11 - (q : Int)).toNat = 11 - q from by omega] at h
      rw [show ((q : Int)).toNat = q from by omega, show (-(q : Int)).toNat = 0 from by omega]
      simp only [Nat.pow_zero, Nat.mul_one, Nat.div_one] at h ⊢
      have := Nat.mul_le_mul_right (2 ^ q) h
      rw [Nat.mul_assoc, ← Nat.pow_add, show 11 - q + q = 11 from by omega] at this
      exact this
    · obtain ⟨q, rfl⟩ : ∃ q : Nat, p = (q : Int) + 11 := ⟨(p - 11).toNat, by omega⟩
      rw [show min ((q : Int) + 11) 11 = 11 from by omega] at h
      rw [show ((q : Int) + 11 - 11).toNat = q from by omega, show ((11 : Int) - 11).toNat = 0 from by omega] at h
      rw [show ((q : Int) + 11).toNat = q + 11 from by omega, show (-((q : Int) + 11)).toNat = 0 from by omega]
      simp only [Nat.pow_zero, Nat.mul_one, Nat.div_one] at h ⊢
      have := Nat.mul_le_mul_right (2 ^ 11) h
      rw [Nat.mul_assoc, ← Nat.pow_add] at this
      exact this

theorem mag_lt (m : Nat) (p : Int) (h : (m : Int) * 2 ^ (p - min p 11).toNat < 4503599627370496 * 2 ^ (11 - min p 11).toNat) :
    (m <<< p.toNat) / 2 ^ (-p).toNat < 9223372036854775808 := by
  have h : m * 2 ^ (p - min p 11).toNat < 4503599627370496 * 2 ^ (11 - min p 11).toNat := by
    refine Int.ofNat_lt.1 ?_
    rw [Int.natCast_mul, Int.natCast_mul, Int.natCast_pow, Int.natCast_pow]
    exact h
  rw [Nat.shiftLeft_eq]
  by_cases h0 : p < 0
  · obtain ⟨q, rfl⟩ : ∃ q : Nat, p = -(q : Int) := ⟨(-p).toNat, by omega⟩
    rw [show min (-(q : Int)) 11 = -(q : Int) from by omega] at h
    rw [show (-(q : Int) - -(q : Int)).toNat = 0 from by omega, show (11 - -(q : Int)).toNat = 11 + q from by omega] at h
    rw [show (-(q : Int)).toNat = 0 from by omega, show (- -(q : Int)).toNat = q from by omega]
    rw [Nat.pow_add, ← Nat.mul_assoc] at h
    simp only [Nat.pow_zero, Nat.mul_one] at h ⊢
    exact Nat.div_lt_of_lt_mul (by rw [Nat.mul_comm]; exact h)
  · by_cases h1 : p ≤ 11
    · obtain ⟨q, rfl⟩ : ∃ q : Nat, p = (q : Int) := ⟨p.toNat, by omega⟩
      rw [show min (q : Int) 11 = (q : Int) from by omega] at h
      rw [show ((q : Int) - (q : Int)).toNat = 0 from by omega, show (11 - (q : Int)).toNat = 11 - q from by omega] at h
      rw [show ((q : Int)).toNat = q from by omega, show (-(q : Int)).toNat = 0 from by omega]
      simp only [Nat.pow_zero, Nat.mul_one, Nat.div_one] at h ⊢
      have := Nat.mul_lt_mul_of_pos_right h (Nat.two_pow_pos q)
      rw [Nat.mul_assoc, ← Nat.pow_add, show 11 - q + q = 11 from by omega] at this
      exact this
    · obtain ⟨q, rfl⟩ : ∃ q : Nat, p = (q : Int) + 11 := ⟨(p - 11).toNat, by omega⟩
      rw [show min ((q : Int) + 11) 11 = 11 from by omega] at h
      rw [show ((q : Int) + 11 - 11).toNat = q from by omega, show ((11 : Int) - 11).toNat = 0 from by omega] at h
      rw [show ((q : Int) + 11).toNat = q + 11 from by omega, show (-((q : Int) + 11)).toNat = 0 from by omega]
      simp only [Nat.pow_zero, Nat.mul_one, Nat.div_one] at h ⊢
      have := Nat.mul_lt_mul_of_pos_right h (Nat.two_pow_pos 11)
      rw [Nat.mul_assoc, ← Nat.pow_add] at this
      exact this

/-- The words of -2^63 and of 2^63. -/
def negTwo63 : Nat := 14114281232179134464
def posTwo63 : Nat := 4890909195324358656

theorem read_neg : Ieee.double.read negTwo63 = .number true 4503599627370496 11 := by decide
theorem read_pos : Ieee.double.read posTwo63 = .number false 4503599627370496 11 := by decide

/-- A DATUM THAT IS NOT BELOW -2^63 AND BELOW 2^63 IS, CUT, AN int64. -/
theorem toInt_in {d : Datum} (h1 : (d.order (.number true 4503599627370496 11) == some .lt) = false)
    (h2 : (d.order (.number false 4503599627370496 11) == some .lt) = true) :
    ∃ n : Int, d.toInt .zero = some n ∧ -9223372036854775808 ≤ n ∧ n ≤ 9223372036854775807 := by
  cases d with
  | nan s t => simp [Datum.order] at h2
  | infinity s =>
    cases s
    · simp [Datum.order] at h2
    · simp [Datum.order] at h1
  | number s m p =>
    have h2' : compare (signed s m (p - min p 11).toNat) (signed false 4503599627370496 (11 - min p 11).toNat) = .lt := by
      have := of_decide_eq_true h2
      simpa [Datum.order] using this
    have h1' : compare (signed s m (p - min p 11).toNat) (signed true 4503599627370496 (11 - min p 11).toNat) ≠ .lt := by
      intro e
      simp [Datum.order, e] at h1
    have k2 := compare_lt h2'
    have k1 := compare_nlt h1'
    rw [signed_eq, signed_eq] at k1 k2
    refine ⟨_, rfl, ?_⟩
    simp only [cut_zero]
    rw [signed_eq]
    cases s
    · simp only [Bool.false_eq_true, if_false, Int.one_mul, if_true] at k1 k2
      have := mag_lt m p k2
      simp only [Bool.false_eq_true, if_false, Int.one_mul, Int.pow_zero, Int.mul_one]
      generalize m <<< p.toNat / 2 ^ (-p).toNat = q at this ⊢
      omega
    · simp only [if_true] at k1
      have := mag_le m p (by omega)
      simp only [if_true, Int.pow_zero, Int.mul_one]
      generalize m <<< p.toNat / 2 ^ (-p).toNat = q at this ⊢
      omega

theorem floatToInt_in {b : Nat} (h1 : (FloatKind.f64.format.order b negTwo63 == some .lt) = false)
    (h2 : (FloatKind.f64.format.order b posTwo63 == some .lt) = true) :
    ∃ n : Int, floatToIntVal .f64 b .i64 = some n ∧ -9223372036854775808 ≤ n ∧ n ≤ 9223372036854775807 := by
  have r1 : FloatKind.f64.format.order b negTwo63 = (Ieee.double.read b).order (.number true 4503599627370496 11) := by
    rw [← read_neg]; rfl
  have r2 : FloatKind.f64.format.order b posTwo63 = (Ieee.double.read b).order (.number false 4503599627370496 11) := by
    rw [← read_pos]; rfl
  rw [r1] at h1
  rw [r2] at h2
  obtain ⟨n, hn, ha, hb⟩ := toInt_in h1 h2
  refine ⟨n, ?_, ha, hb⟩
  unfold floatToIntVal
  have : FloatKind.f64.decode b = Ieee.double.read b := rfl
  rw [this, hn]
  have m1 : IntKind.i64.min = -9223372036854775808 := by decide
  have m2 : IntKind.i64.max = 9223372036854775807 := by decide
  simp only [m1, m2]
  rw [if_pos ⟨ha, hb⟩]

end Flt
end Go.Proofs.Ygdaag
