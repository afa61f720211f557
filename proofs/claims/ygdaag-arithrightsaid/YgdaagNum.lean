/-
  THE PLAIN ARITHMETIC OF TWO WORDS AND OF THE CHECKED OPERATIONS: no Go in sight.
-/
namespace Go.Proofs.Ygdaag
namespace Num

/-- The two words of an integer. -/
def hiW (x : Int) : Int := x / 18446744073709551616
def loW (x : Int) : Int := x % 18446744073709551616

/-- It fits int64. -/
def fits (x : Int) : Bool := decide (-9223372036854775808 ≤ x ∧ x ≤ 9223372036854775807)

theorem fits_true {x : Int} (h : fits x = true) : -9223372036854775808 ≤ x ∧ x ≤ 9223372036854775807 := by simpa [fits] using h
theorem fits_false {x : Int} (h : fits x = false) : x < -9223372036854775808 ∨ 9223372036854775807 < x := by
  simp only [fits, decide_eq_false_iff_not] at h; omega

theorem loW_bd (x : Int) : 0 ≤ loW x ∧ loW x < 18446744073709551616 := by unfold loW; omega
theorem hiW_bd (x : Int) (h : -85070591730234615865843651857942052864 ≤ x) (h' : x ≤ 85070591730234615865843651857942052864) :
    -4611686018427387904 ≤ hiW x ∧ hiW x ≤ 4611686018427387904 := by unfold hiW; omega

/-- The halves' product. -/
theorem half_mul {a b : Int} (ha : 0 ≤ a) (ha' : a ≤ 4294967295) (hb : 0 ≤ b) (hb' : b ≤ 4294967295) : 0 ≤ a * b ∧ a * b ≤ 18446744065119617025 := by
  refine ⟨Int.mul_nonneg ha hb, ?_⟩
  exact Int.mul_le_mul (c := 4294967295) (d := 4294967295) ha' hb' hb (by decide)

/-- TWO WORDS MULTIPLIED THROUGH THEIR HALVES. -/
theorem mulU_law (a b : Int) (ha : 0 ≤ a) (ha' : a < 18446744073709551616) (hb : 0 ≤ b) (hb' : b < 18446744073709551616) :
    let a0 := a % 4294967296; let a1 := a / 4294967296; let b0 := b % 4294967296; let b1 := b / 4294967296
    let mid := a0 * b0 / 4294967296 + a0 * b1 % 4294967296 + a1 * b0 % 4294967296
    a1 * b1 + a0 * b1 / 4294967296 + a1 * b0 / 4294967296 + mid / 4294967296 = hiW (a * b) ∧
    a0 * b0 % 4294967296 + mid * 4294967296 % 18446744073709551616 = loW (a * b) := by
  intro a0 a1 b0 b1 mid
  have e : a * b = a1 * b1 * 18446744073709551616 + (a0 * b1 + a1 * b0) * 4294967296 + a0 * b0 := by
    have e1 : a = a1 * 4294967296 + a0 := by omega
    have e2 : b = b1 * 4294967296 + b0 := by omega
    rw [e1, e2]
    rw [Int.add_mul, Int.mul_add, Int.mul_add]
    have x1 : a1 * 4294967296 * (b1 * 4294967296) = a1 * b1 * 18446744073709551616 := by
      rw [show (18446744073709551616 : Int) = 4294967296 * 4294967296 from by decide]; ac_rfl
    have x2 : a1 * 4294967296 * b0 = a1 * b0 * 4294967296 := by ac_rfl
    have x3 : a0 * (b1 * 4294967296) = a0 * b1 * 4294967296 := by ac_rfl
    rw [x1, x2, x3]
    omega
  have b00 := half_mul (a := a0) (b := b0) (by omega) (by omega) (by omega) (by omega)
  have b01 := half_mul (a := a0) (b := b1) (by omega) (by omega) (by omega) (by omega)
  have b10 := half_mul (a := a1) (b := b0) (by omega) (by omega) (by omega) (by omega)
  have b11 := half_mul (a := a1) (b := b1) (by omega) (by omega) (by omega) (by omega)
  show a1 * b1 + a0 * b1 / 4294967296 + a1 * b0 / 4294967296 + (a0 * b0 / 4294967296 + a0 * b1 % 4294967296 + a1 * b0 % 4294967296) / 4294967296 = hiW (a * b) ∧
    a0 * b0 % 4294967296 + (a0 * b0 / 4294967296 + a0 * b1 % 4294967296 + a1 * b0 % 4294967296) * 4294967296 % 18446744073709551616 = loW (a * b)
  unfold hiW loW
  rw [e]
  generalize a0 * b0 = p00 at *
  generalize a0 * b1 = p01 at *
  generalize a1 * b0 = p10 at *
  generalize a1 * b1 = p11 at *
  clear e
  constructor <;> omega

/-- The checked product: the wrapped product, divided again. -/
def wr (n : Int) : Int := (n + 9223372036854775808) % 18446744073709551616 - 9223372036854775808

theorem wr_in {n : Int} (h : -9223372036854775808 ≤ n ∧ n ≤ 9223372036854775807) : wr n = n := by unfold wr; omega
theorem wr_bd (n : Int) : -9223372036854775808 ≤ wr n ∧ wr n ≤ 9223372036854775807 := by unfold wr; omega

theorem natAbs_tmod_lt (c b : Int) (hb : b ≠ 0) : (c.tmod b).natAbs < b.natAbs := by
  rw [Int.natAbs_tmod]
  exact Nat.mod_lt _ (Int.natAbs_pos.2 hb)

theorem mulOK_test {a b : Int} (ha : fits a = true) (hb : fits b = true) (b0 : b ≠ 0)
    (n1 : ¬ (a = -1 ∧ b = -9223372036854775808)) (n2 : ¬ (b = -1 ∧ a = -9223372036854775808)) :
    (wr ((wr (a * b)).tdiv b) = a) ↔ fits (a * b) = true := by
  have ha := fits_true ha
  have hb := fits_true hb
  constructor
  · intro h
    have hd : (wr (a * b)).tdiv b * b + (wr (a * b)).tmod b = wr (a * b) := Int.tdiv_mul_add_tmod _ _
    have hm := natAbs_tmod_lt (wr (a * b)) b b0
    have hc := wr_bd (a * b)
    -- the quotient lies within int64, so the outer wrap is nothing
    have hq : wr ((wr (a * b)).tdiv b) = (wr (a * b)).tdiv b := by
      by_cases hb1 : b = -1
      · subst hb1
        have : a * -1 = -a := by omega
        rw [this]
        have : wr (-a) = -a := wr_in (by omega)
        rw [this]
        have : (-a).tdiv (-1) = a := by rw [Int.tdiv_neg, Int.tdiv_one]; omega
        rw [this]
        exact wr_in (by omega)
      · refine wr_in ?_
        have hle := Int.natAbs_tdiv_le_natAbs (wr (a * b)) b
        by_cases hb2 : b = 1
        · subst hb2; rw [Int.tdiv_one]; exact hc
        · have h2 : 2 ≤ b.natAbs := by omega
          have : ((wr (a * b)).tdiv b).natAbs = (wr (a * b)).natAbs / b.natAbs := Int.natAbs_tdiv _ _
          have h3 : (wr (a * b)).natAbs / b.natAbs ≤ (wr (a * b)).natAbs / 2 := Nat.div_le_div_left h2 (by omega)
          omega
    rw [hq] at h
    rw [h] at hd
    have hw : wr (a * b) = a * b := by
      have : ∃ k : Int, wr (a * b) = a * b + k * 18446744073709551616 := by
        refine ⟨-((a * b + 9223372036854775808) / 18446744073709551616), ?_⟩
        unfold wr
        generalize a * b = p
        omega
      obtain ⟨k, hk⟩ := this
      generalize a * b = p at *
      generalize wr p = q at *
      have hmm : q.tmod b = k * 18446744073709551616 := by omega
      rw [hmm] at hm
      have : k = 0 := by omega
      subst this
      omega
    unfold fits
    simp only [decide_eq_true_eq]
    rw [← hw]
    exact hc
  · intro h
    have hf := fits_true h
    rw [wr_in hf, Int.mul_tdiv_cancel _ b0]
    exact wr_in ha

/-- The magnitude. -/
def mag (a : Int) : Int := a.natAbs

theorem mag_bd {a : Int} (h : fits a = true) : 0 ≤ mag a ∧ mag a ≤ 9223372036854775808 := by
  have := fits_true h; unfold mag; omega

theorem mul_mag_pos {a b : Int} (h : decide (a < 0) = decide (b < 0)) : a * b = mag a * mag b := by
  unfold mag
  by_cases ha : a < 0
  · have hb : b < 0 := by simpa [ha] using h
    rw [show (a.natAbs : Int) = -a from by omega, show (b.natAbs : Int) = -b from by omega, Int.neg_mul_neg]
  · have hb : ¬ b < 0 := by simpa [ha] using h
    rw [show (a.natAbs : Int) = a from by omega, show (b.natAbs : Int) = b from by omega]

theorem mul_mag_neg {a b : Int} (h : decide (a < 0) ≠ decide (b < 0)) : a * b = -(mag a * mag b) := by
  unfold mag
  by_cases ha : a < 0
  · have hb : ¬ b < 0 := by simpa [ha] using h
    rw [show (a.natAbs : Int) = -a from by omega, show (b.natAbs : Int) = b from by omega, Int.neg_mul, Int.neg_neg]
  · have hb : b < 0 := by
      by_cases hb : b < 0
      · exact hb
      · simp [ha, hb] at h
    rw [show (a.natAbs : Int) = a from by omega, show (b.natAbs : Int) = -b from by omega, Int.mul_neg, Int.neg_neg]

theorem mag_mul_bd {a b : Int} (ha : fits a = true) (hb : fits b = true) : 0 ≤ mag a * mag b ∧ mag a * mag b ≤ 85070591730234615865843651857942052864 := by
  have ha := mag_bd ha
  have hb := mag_bd hb
  exact ⟨Int.mul_nonneg ha.1 hb.1, Int.mul_le_mul (c := 9223372036854775808) (d := 9223372036854775808) ha.2 hb.2 hb.1 (by decide)⟩

theorem tdiv_pos {a b : Int} (h : decide (a < 0) = decide (b < 0)) : a.tdiv b = mag a / mag b := by
  unfold mag
  by_cases ha : a < 0
  · have hb : b < 0 := by simpa [ha] using h
    obtain ⟨n, rfl⟩ : ∃ n : Nat, a = -(n : Int) := ⟨a.natAbs, by omega⟩
    obtain ⟨m, rfl⟩ : ∃ m : Nat, b = -(m : Int) := ⟨b.natAbs, by omega⟩
    rw [Int.tdiv_neg, Int.neg_tdiv, Int.neg_neg, Int.natAbs_neg, Int.natAbs_neg, Int.natAbs_natCast, Int.natAbs_natCast, Int.tdiv_eq_ediv_of_nonneg (by omega)]
  · have hb : ¬ b < 0 := by simpa [ha] using h
    rw [Int.tdiv_eq_ediv_of_nonneg (by omega), show (a.natAbs : Int) = a from by omega, show (b.natAbs : Int) = b from by omega]

theorem tdiv_neg' {a b : Int} (h : decide (a < 0) ≠ decide (b < 0)) : a.tdiv b = -(mag a / mag b) := by
  unfold mag
  by_cases ha : a < 0
  · have hb : ¬ b < 0 := by simpa [ha] using h
    obtain ⟨n, rfl⟩ : ∃ n : Nat, a = -(n : Int) := ⟨a.natAbs, by omega⟩
    obtain ⟨m, rfl⟩ : ∃ m : Nat, b = (m : Int) := ⟨b.natAbs, by omega⟩
    rw [Int.neg_tdiv, Int.natAbs_neg, Int.natAbs_natCast, Int.natAbs_natCast, Int.tdiv_eq_ediv_of_nonneg (by omega)]
  · have hb : b < 0 := by
      by_cases hb : b < 0
      · exact hb
      · simp [ha, hb] at h
    obtain ⟨m, rfl⟩ : ∃ m : Nat, b = -(m : Int) := ⟨b.natAbs, by omega⟩
    rw [Int.tdiv_neg, Int.natAbs_neg, Int.natAbs_natCast, Int.tdiv_eq_ediv_of_nonneg (by omega), show (a.natAbs : Int) = a from by omega]

theorem tmod_pos {a : Int} (b : Int) (h : ¬ a < 0) : a.tmod b = mag a % mag b := by
  unfold mag
  rw [show (a.natAbs : Int) = a from by omega, Int.tmod_eq_emod_of_nonneg (by omega)]
  by_cases hb : b < 0
  · rw [show (b.natAbs : Int) = -b from by omega, Int.emod_neg]
  · rw [show (b.natAbs : Int) = b from by omega]

theorem tmod_neg' {a : Int} (b : Int) (h : a < 0) : a.tmod b = -(mag a % mag b) := by
  have := tmod_pos (a := -a) b (by omega)
  rw [Int.neg_tmod] at this
  have e : mag (-a) = mag a := by unfold mag; rw [Int.natAbs_neg]
  rw [e] at this
  omega

theorem div_bd {a b : Int} (ha : fits a = true) : 0 ≤ mag a / mag b ∧ mag a / mag b ≤ 9223372036854775808 := by
  have ha := mag_bd ha
  refine ⟨Int.ediv_nonneg ha.1 (by unfold mag; omega), Int.le_trans (Int.ediv_le_self _ ha.1) ha.2⟩

theorem mod_bd {a b : Int} (hb : fits b = true) (b0 : b ≠ 0) : 0 ≤ mag a % mag b ∧ mag a % mag b ≤ 9223372036854775807 := by
  have hb := mag_bd hb
  have : mag b ≠ 0 := by unfold mag; omega
  have h1 := Int.emod_nonneg (mag a) this
  have h2 := Int.emod_lt_of_pos (mag a) (show 0 < mag b by omega)
  omega

end Num
end Go.Proofs.Ygdaag
