/-
  THE WALKS of package num's checked operations.
-/
import Derived.Test.YgdaagLeaf
namespace Go.Proofs.Ygdaag
open Go.RowKit
open Num (fits fits_true fits_false)

theorem ret_ib {a b : Int} {p q : Bool} (h : a = b) (k : p = q) : Ending.returned (.tuple #[.int .i64 a, .bool p]) = .returned (.tuple #[.int .i64 b, .bool q]) := by rw [h, k]

theorem wr_wrap (n : Int) : wrap64 n = Num.wr n := by simp only [wrap64, Num.wr]

theorem addOK_yes (a b : Int) (ha : fits a = true) (hb : fits b = true) (h : fits (a + b) = true) (w : World) :
    Calls Yaad.prog 35 #[.int .i64 a, .int .i64 b] w fun e w' => e = .returned (.tuple #[.int .i64 (a + b), .bool true]) ∧ w' = w := by
  obtain ⟨a1, a2⟩ := fits_true ha
  obtain ⟨b1, b2⟩ := fits_true hb
  obtain ⟨c1, c2⟩ := fits_true h
  clear ha hb h
  by_cases h0 : 0 ≤ b
  · have hx : decide (a ≤ a + b) = true := by rw [decide_eq_true_eq]; omega
    go_enter Yaad.func35, Yaad.ntmps35
    go_wp2
    go_ret2
    exact ⟨rfl, rfl⟩
  · have hx : decide (a ≤ a + b) = false := by rw [decide_eq_false_iff_not]; omega
    have hy : decide (0 ≤ b) = false := by rw [decide_eq_false_iff_not]; omega
    go_enter Yaad.func35, Yaad.ntmps35
    go_wp2
    go_ret2
    exact ⟨rfl, rfl⟩

theorem addOK_no (a b : Int) (ha : fits a = true) (hb : fits b = true) (h : fits (a + b) = false) (w : World) :
    Calls Yaad.prog 35 #[.int .i64 a, .int .i64 b] w fun e w' => e = .returned (.tuple #[.int .i64 0, .bool false]) ∧ w' = w := by
  obtain ⟨a1, a2⟩ := fits_true ha
  obtain ⟨b1, b2⟩ := fits_true hb
  have hc := fits_false h
  clear ha hb h
  by_cases h0 : 0 ≤ b
  · have hx : decide (a ≤ wrap64 (a + b)) = false := by rw [decide_eq_false_iff_not]; simp only [wrap64]; omega
    clear hc
    go_enter Yaad.func35, Yaad.ntmps35
    go_wp2
    go_ret2
    exact ⟨rfl, rfl⟩
  · have hx : decide (a ≤ wrap64 (a + b)) = true := by rw [decide_eq_true_eq]; simp only [wrap64]; omega
    have hy : decide (0 ≤ b) = false := by rw [decide_eq_false_iff_not]; omega
    clear hc
    go_enter Yaad.func35, Yaad.ntmps35
    go_wp2
    go_ret2
    exact ⟨rfl, rfl⟩

theorem subOK_yes (a b : Int) (ha : fits a = true) (hb : fits b = true) (h : fits (a - b) = true) (w : World) :
    Calls Yaad.prog 36 #[.int .i64 a, .int .i64 b] w fun e w' => e = .returned (.tuple #[.int .i64 (a - b), .bool true]) ∧ w' = w := by
  obtain ⟨a1, a2⟩ := fits_true ha
  obtain ⟨b1, b2⟩ := fits_true hb
  obtain ⟨c1, c2⟩ := fits_true h
  clear ha hb h
  by_cases h0 : 0 ≤ b
  · have hx : decide (a - b ≤ a) = true := by rw [decide_eq_true_eq]; omega
    go_enter Yaad.func36, Yaad.ntmps36
    go_wp2
    go_ret2
    exact ⟨rfl, rfl⟩
  · have hx : decide (a - b ≤ a) = false := by rw [decide_eq_false_iff_not]; omega
    have hy : decide (0 ≤ b) = false := by rw [decide_eq_false_iff_not]; omega
    go_enter Yaad.func36, Yaad.ntmps36
    go_wp2
    go_ret2
    exact ⟨rfl, rfl⟩

theorem subOK_no (a b : Int) (ha : fits a = true) (hb : fits b = true) (h : fits (a - b) = false) (w : World) :
    Calls Yaad.prog 36 #[.int .i64 a, .int .i64 b] w fun e w' => e = .returned (.tuple #[.int .i64 0, .bool false]) ∧ w' = w := by
  obtain ⟨a1, a2⟩ := fits_true ha
  obtain ⟨b1, b2⟩ := fits_true hb
  have hc := fits_false h
  clear ha hb h
  by_cases h0 : 0 ≤ b
  · have hx : decide (wrap64 (a - b) ≤ a) = false := by rw [decide_eq_false_iff_not]; simp only [wrap64]; omega
    clear hc
    go_enter Yaad.func36, Yaad.ntmps36
    go_wp2
    go_ret2
    exact ⟨rfl, rfl⟩
  · have hx : decide (wrap64 (a - b) ≤ a) = true := by rw [decide_eq_true_eq]; simp only [wrap64]; omega
    have hy : decide (0 ≤ b) = false := by rw [decide_eq_false_iff_not]; omega
    clear hc
    go_enter Yaad.func36, Yaad.ntmps36
    go_wp2
    go_ret2
    exact ⟨rfl, rfl⟩

theorem mulOK_zero (a b : Int) (h : a = 0 ∨ b = 0) (w : World) :
    Calls Yaad.prog 37 #[.int .i64 a, .int .i64 b] w fun e w' => e = .returned (.tuple #[.int .i64 0, .bool true]) ∧ w' = w := by
  by_cases h0 : a = 0
  · subst h0
    clear h
    go_enter Yaad.func37, Yaad.ntmps37
    go_wp2
    go_ret2
    exact ⟨rfl, rfl⟩
  · have hb : b = 0 := by omega
    subst hb
    have h1 : (a == 0) = false := by simpa using h0
    clear h h0
    go_enter Yaad.func37, Yaad.ntmps37
    go_wp2
    go_ret2
    exact ⟨rfl, rfl⟩

set_option maxHeartbeats 1000000 in
theorem mulOK_core (a b : Int) (t : Bool) (a0' : a ≠ 0) (b0' : b ≠ 0) (g : ¬ (a = -1 ∧ b = -9223372036854775808)) (g2 : ¬ (b = -1 ∧ a = -9223372036854775808)) (ht : (wrap64 ((wrap64 (a * b)).tdiv b) != a) = t) (w : World) :
    Calls Yaad.prog 37 #[.int .i64 a, .int .i64 b] w fun e w' => e = .returned (.tuple #[.int .i64 (if t then 0 else wrap64 (a * b)), .bool !t]) ∧ w' = w := by
  have a0 : (a == 0) = false := by simpa using a0'
  have b0 : (b == 0) = false := by simpa using b0'
  clear a0'
  cases p1 : (a == -1) with
  | false =>
    cases p2 : (b == -1) with
    | false =>
      clear g g2
      cases t
      all_goals
        go_enter Yaad.func37, Yaad.ntmps37
        go_wp2
        go_ret2
        exact ⟨rfl, rfl⟩
    | true =>
      have p3 : (a == -9223372036854775808) = false := by
        rw [beq_eq_false_iff_ne]; intro e; exact g2 ⟨by simpa using p2, e⟩
      clear g g2
      cases t
      all_goals
        go_enter Yaad.func37, Yaad.ntmps37
        go_wp2
        go_ret2
        exact ⟨rfl, rfl⟩
  | true =>
    have p3 : (b == -9223372036854775808) = false := by
      rw [beq_eq_false_iff_ne]; intro e; exact g ⟨by simpa using p1, e⟩
    cases p2 : (b == -1) with
    | false =>
      clear g g2
      cases t
      all_goals
        go_enter Yaad.func37, Yaad.ntmps37
        go_wp2
        go_ret2
        exact ⟨rfl, rfl⟩
    | true =>
      have p4 : (a == -9223372036854775808) = false := by
        rw [beq_eq_false_iff_ne]; intro e; exact g2 ⟨by simpa using p2, e⟩
      clear g g2
      cases t
      all_goals
        go_enter Yaad.func37, Yaad.ntmps37
        go_wp2
        go_ret2
        exact ⟨rfl, rfl⟩

theorem mulOK_edge1 (w : World) :
    Calls Yaad.prog 37 #[.int .i64 (-1), .int .i64 (-9223372036854775808)] w fun e w' => e = .returned (.tuple #[.int .i64 0, .bool false]) ∧ w' = w := by
  go_enter Yaad.func37, Yaad.ntmps37
  go_wp2
  go_ret2
  exact ⟨rfl, rfl⟩
theorem mulOK_edge2 (w : World) :
    Calls Yaad.prog 37 #[.int .i64 (-9223372036854775808), .int .i64 (-1)] w fun e w' => e = .returned (.tuple #[.int .i64 0, .bool false]) ∧ w' = w := by
  go_enter Yaad.func37, Yaad.ntmps37
  go_wp2
  go_ret2
  exact ⟨rfl, rfl⟩

theorem mulOK_yes (a b : Int) (ha : fits a = true) (hb : fits b = true) (h : fits (a * b) = true) (w : World) :
    Calls Yaad.prog 37 #[.int .i64 a, .int .i64 b] w fun e w' => e = .returned (.tuple #[.int .i64 (a * b), .bool true]) ∧ w' = w := by
  by_cases h0 : a = 0 ∨ b = 0
  · have e : a * b = 0 := by rcases h0 with rfl | rfl <;> simp
    rw [e]
    exact mulOK_zero a b h0 w
  · have g : ¬ (a = -1 ∧ b = -9223372036854775808) := by rintro ⟨rfl, rfl⟩; exact absurd h (by decide)
    have g2 : ¬ (b = -1 ∧ a = -9223372036854775808) := by rintro ⟨rfl, rfl⟩; exact absurd h (by decide)
    have ht : (wrap64 ((wrap64 (a * b)).tdiv b) != a) = false := by
      rw [wr_wrap, wr_wrap, bne_eq_false_iff_eq]
      exact (Num.mulOK_test ha hb (by omega) g g2).2 h
    have k := mulOK_core a b false (by omega) (by omega) g g2 ht w
    rw [wr_wrap, Num.wr_in (fits_true h)] at k
    exact k

theorem mulOK_no (a b : Int) (ha : fits a = true) (hb : fits b = true) (h : fits (a * b) = false) (w : World) :
    Calls Yaad.prog 37 #[.int .i64 a, .int .i64 b] w fun e w' => e = .returned (.tuple #[.int .i64 0, .bool false]) ∧ w' = w := by
  by_cases g : a = -1 ∧ b = -9223372036854775808
  · obtain ⟨rfl, rfl⟩ := g; exact mulOK_edge1 w
  by_cases g2 : b = -1 ∧ a = -9223372036854775808
  · obtain ⟨rfl, rfl⟩ := g2; exact mulOK_edge2 w
  have a0 : a ≠ 0 := by rintro rfl; rw [Int.zero_mul] at h; exact absurd h (by decide)
  have b0 : b ≠ 0 := by rintro rfl; rw [Int.mul_zero] at h; exact absurd h (by decide)
  have ht : (wrap64 ((wrap64 (a * b)).tdiv b) != a) = true := by
    rw [wr_wrap, wr_wrap, bne_iff_ne]
    intro e
    have := (Num.mulOK_test ha hb b0 g g2).1 e
    rw [h] at this
    cases this
  exact mulOK_core a b true a0 b0 g g2 ht w

/-! ### DivOK, RemOK -/
theorem divOK_no (a b : Int) (h : b = 0 ∨ (a = -9223372036854775808 ∧ b = -1)) (w : World) :
    Calls Yaad.prog 38 #[.int .i64 a, .int .i64 b] w fun e w' => e = .returned (.tuple #[.int .i64 0, .bool false]) ∧ w' = w := by
  rcases h with rfl | ⟨rfl, rfl⟩ <;>
  · go_enter Yaad.func38, Yaad.ntmps38
    go_wp2
    go_ret2
    exact ⟨rfl, rfl⟩

theorem tdiv_fits {a b : Int} (ha : fits a = true) (h : ¬ (b = 0 ∨ (a = -9223372036854775808 ∧ b = -1))) : fits (a.tdiv b) = true := by
  have hd := Num.div_bd (a := a) (b := b) ha
  have ha' := fits_true ha
  unfold fits
  simp only [decide_eq_true_eq]
  by_cases hs : decide (a < 0) = decide (b < 0)
  · rw [Num.tdiv_pos hs]
    by_cases hb : b = -1
    · subst hb
      have : Num.mag a / Num.mag (-1) = Num.mag a := by unfold Num.mag; simp
      rw [this]
      unfold Num.mag
      omega
    · by_cases hb1 : b = 1
      · subst hb1
        have hna : ¬ a < 0 := by intro q; simp [q] at hs
        have : Num.mag a / Num.mag 1 = Num.mag a := by unfold Num.mag; simp
        rw [this]
        unfold Num.mag
        omega
      · have hm : 2 ≤ Num.mag b := by unfold Num.mag; omega
        have : Num.mag a / Num.mag b ≤ 4611686018427387904 := by
          have e : Num.mag a / Num.mag b = ((a.natAbs / b.natAbs : Nat) : Int) := (Int.natCast_ediv _ _).symm
          have hm' : 2 ≤ b.natAbs := by unfold Num.mag at hm; omega
          have : a.natAbs / b.natAbs ≤ a.natAbs / 2 := Nat.div_le_div_left hm' (by decide)
          rw [e]
          omega
        omega
  · rw [Num.tdiv_neg' hs]
    omega

theorem divOK_yes (a b : Int) (ha : fits a = true) (h : ¬ (b = 0 ∨ (a = -9223372036854775808 ∧ b = -1))) (w : World) :
    Calls Yaad.prog 38 #[.int .i64 a, .int .i64 b] w fun e w' => e = .returned (.tuple #[.int .i64 (a.tdiv b), .bool true]) ∧ w' = w := by
  have e : wrap64 (a.tdiv b) = a.tdiv b := by rw [wr_wrap]; exact Num.wr_in (fits_true (tdiv_fits ha h))
  have E : Hid _ := e
  have b0 : b ≠ 0 := by omega
  have b0' : (b == 0) = false := by simpa using b0
  clear e ha
  cases p1 : (a == -9223372036854775808) with
  | false =>
    clear h
    go_enter Yaad.func38, Yaad.ntmps38
    go_wp2
    go_ret2
    exact ⟨ret_ib E.out rfl, rfl⟩
  | true =>
    have p2 : (b == -1) = false := by
      rw [beq_eq_false_iff_ne]; intro e; exact h (Or.inr ⟨by simpa using p1, e⟩)
    clear h
    go_enter Yaad.func38, Yaad.ntmps38
    go_wp2
    go_ret2
    exact ⟨ret_ib E.out rfl, rfl⟩

theorem remOK_no (a : Int) (w : World) :
    Calls Yaad.prog 39 #[.int .i64 a, .int .i64 0] w fun e w' => e = .returned (.tuple #[.int .i64 0, .bool false]) ∧ w' = w := by
  go_enter Yaad.func39, Yaad.ntmps39
  go_wp2
  go_ret2
  exact ⟨rfl, rfl⟩

theorem remOK_yes (a b : Int) (b0 : b ≠ 0) (w : World) :
    Calls Yaad.prog 39 #[.int .i64 a, .int .i64 b] w fun e w' => e = .returned (.tuple #[.int .i64 (a.tmod b), .bool true]) ∧ w' = w := by
  have b0' : (b == 0) = false := by simpa using b0
  by_cases h : b = -1
  · subst h
    have e : a.tmod (-1) = 0 := by rw [Int.tmod_neg, Int.tmod_one]
    rw [e]
    clear e
    go_enter Yaad.func39, Yaad.ntmps39
    go_wp2
    go_ret2
    exact ⟨rfl, rfl⟩
  · have h' : (b == -1) = false := by simpa using h
    go_enter Yaad.func39, Yaad.ntmps39
    go_wp2
    go_ret2
    exact ⟨rfl, rfl⟩

end Go.Proofs.Ygdaag
