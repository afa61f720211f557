/-
  THE WALKS of the float operations, realOf, number, toF, toFloat.
-/
import Derived.Test.YgdaagVal
namespace Go.Proofs.Ygdaag
open Go.RowKit

namespace Flt
open Ieee
/-- Equal to nought: the two zeros alone. -/
theorem zero_words {r : Nat} (hr : r < 18446744073709551616) (h : eqB r 0 = true) : r = 0 ∨ r = 9223372036854775808 := by
  have r0 : Ieee.double.read 0 = .number false 0 Ieee.double.leastPlace := by decide
  have h' : (Ieee.double.read r).order (Ieee.double.read 0) = some .eq := by
    have := h
    unfold eqB at this
    exact eq_of_beq this
  rw [r0] at h'
  have hs : Ieee.double.signWeight = 9223372036854775808 := by decide
  have hb : Ieee.double.binade = 4503599627370496 := by decide
  have hz : ∀ (s : Bool) (m : Nat) (p q : Int), (Datum.number s m p).order (.number false 0 q) = some .eq → m = 0 := by
    intro s m p q e
    have e2 : compare (signed s m (p - min p q).toNat) (signed false 0 (q - min p q).toNat) = .eq := by
      simpa [Datum.order] using e
    have e3 := Int.compare_eq_eq.1 e2
    rw [signed_eq, signed_eq] at e3
    have hp : (0 : Int) < 2 ^ (p - min p q).toNat := Int.pow_pos (by decide)
    have e4 : (m : Int) * 2 ^ (p - min p q).toNat = 0 := by
      cases s
      · simpa using e3
      · simpa using e3
    rcases Int.mul_eq_zero.1 e4 with q1 | q1
    · omega
    · omega
  unfold Format.read at h'
  simp only [hs, hb] at h'
  split at h'
  · have := hz _ _ _ _ h'
    omega
  · split at h'
    · have := hz _ _ _ _ h'
      omega
    · split at h'
      · rename_i hi
        generalize (r / 9223372036854775808 % 2 == 1) = sg at h'
        cases sg <;> simp [Datum.order] at h'
      · simp [Datum.order] at h'
end Flt

/-- law.realOf. -/
def realOfF (r : Nat) : Vl := if Flt.nanB r = true then vNull else if eqB r 0 = true then vReal 0 else vReal r

theorem realOfF_norm {r : Nat} (hr : r < 18446744073709551616) : realOfF r = norm (vReal r) := by
  have e : norm (vReal r) = if Flt.nanB r = true then vNull else if negZ r = true then vReal 0 else vReal r := rfl
  rw [e]
  unfold realOfF
  by_cases hn : Flt.nanB r = true
  · rw [if_pos hn, if_pos hn]
  · rw [if_neg hn, if_neg hn]
    by_cases hz : eqB r 0 = true
    · rw [if_pos hz]
      rcases Flt.zero_words hr hz with rfl | rfl
      · rfl
      · rfl
    · have hnz : ¬ negZ r = true := by
        intro q
        have : r = 9223372036854775808 := by simpa [negZ] using q
        subst this
        exact hz (by decide)
      rw [if_neg hz, if_neg hnz]

/-- What a float operation gives, normed. -/
def fval (op : BinOp) (x y : Nat) : Vl := match floatBits op .f64 x y with | some z => norm (vReal z) | none => vNull

theorem fres_norm {op : BinOp} {x y r : Nat} (h : FRes op x y r) : norm (vReal r) = fval op x y := by
  obtain ⟨h1, h2⟩ := h
  unfold fval
  cases hf : floatBits op .f64 x y with
  | some z => rw [hf] at h2; simp only at h2 ⊢; rw [h2]
  | none =>
    rw [hf] at h2
    simp only at h2 ⊢
    unfold norm
    simp [vReal, h2]

theorem fadd_any (x y : Nat) (w : World) :
    Calls Yaad.prog 19 #[.float .f64 x, .float .f64 y] w fun e w' => ∃ r, e = .returned (.float .f64 r) ∧ FRes .add x y r ∧ ∃ n, w' = w.drewN n := by
  cases h : floatBits .add .f64 x y with
  | some z =>
    have hr := fun w => run_float_arith (P := Yaad.prog) w .add 23 .f64 x y z h
    have H : Hid _ := h
    clear h
    go_enter Yaad.func19, Yaad.ntmps19
    go_wp2
    go_ret
    exact ⟨_, rfl, fres_some H.out, 0, rfl⟩
  | none =>
    have hr := fun w => run_float_none (P := Yaad.prog) w .add 23 x y (by simp) h
    have H : Hid _ := h
    clear h
    go_enter Yaad.func19, Yaad.ntmps19
    go_wp2
    go_ret
    exact ⟨_, rfl, nanOf_fres _ H.out, 1, rfl⟩

theorem fsub_any (x y : Nat) (w : World) :
    Calls Yaad.prog 20 #[.float .f64 x, .float .f64 y] w fun e w' => ∃ r, e = .returned (.float .f64 r) ∧ FRes .sub x y r ∧ ∃ n, w' = w.drewN n := by
  cases h : floatBits .sub .f64 x y with
  | some z =>
    have hr := fun w => run_float_arith (P := Yaad.prog) w .sub 23 .f64 x y z h
    have H : Hid _ := h
    clear h
    go_enter Yaad.func20, Yaad.ntmps20
    go_wp2
    go_ret
    exact ⟨_, rfl, fres_some H.out, 0, rfl⟩
  | none =>
    have hr := fun w => run_float_none (P := Yaad.prog) w .sub 23 x y (by simp) h
    have H : Hid _ := h
    clear h
    go_enter Yaad.func20, Yaad.ntmps20
    go_wp2
    go_ret
    exact ⟨_, rfl, nanOf_fres _ H.out, 1, rfl⟩

theorem fmul_any (x y : Nat) (w : World) :
    Calls Yaad.prog 21 #[.float .f64 x, .float .f64 y] w fun e w' => ∃ r, e = .returned (.float .f64 r) ∧ FRes .mul x y r ∧ ∃ n, w' = w.drewN n := by
  cases h : floatBits .mul .f64 x y with
  | some z =>
    have hr := fun w => run_float_arith (P := Yaad.prog) w .mul 23 .f64 x y z h
    have H : Hid _ := h
    clear h
    go_enter Yaad.func21, Yaad.ntmps21
    go_wp2
    go_ret
    exact ⟨_, rfl, fres_some H.out, 0, rfl⟩
  | none =>
    have hr := fun w => run_float_none (P := Yaad.prog) w .mul 23 x y (by simp) h
    have H : Hid _ := h
    clear h
    go_enter Yaad.func21, Yaad.ntmps21
    go_wp2
    go_ret
    exact ⟨_, rfl, nanOf_fres _ H.out, 1, rfl⟩

theorem fdiv_any (x y : Nat) (w : World) :
    Calls Yaad.prog 23 #[.float .f64 x, .float .f64 y] w fun e w' => ∃ r, e = .returned (.float .f64 r) ∧ FRes .quo x y r ∧ ∃ n, w' = w.drewN n := by
  cases h : floatBits .quo .f64 x y with
  | some z =>
    have hr := fun w => run_float_arith (P := Yaad.prog) w .quo 23 .f64 x y z h
    have H : Hid _ := h
    clear h
    go_enter Yaad.func23, Yaad.ntmps23
    go_wp2
    go_ret
    exact ⟨_, rfl, fres_some H.out, 0, rfl⟩
  | none =>
    have hr := fun w => run_float_none (P := Yaad.prog) w .quo 23 x y (by simp) h
    have H : Hid _ := h
    clear h
    go_enter Yaad.func23, Yaad.ntmps23
    go_wp2
    go_ret
    exact ⟨_, rfl, nanOf_fres _ H.out, 1, rfl⟩

/-- val.number, and the law's own. -/
def numB (k : Int) : Bool := k == 1 || k == 2

theorem number_any (k i : Int) (r : Nat) (s : ByteArray) (w : World) :
    Calls Yaad.prog 15 #[.agg #[.int .u8 k, .int .i64 i, .float .f64 r, .string s]] w fun e w' =>
      e = .returned (.bool (numB k)) ∧ ∃ c1 : Array Value, w' = w.alloc (.cells c1 25) := by
  unfold numB
  cases h1 : (k == 1) <;> cases h2 : (k == 2) <;>
  · go_enter Yaad.func15, Yaad.ntmps15
    go_wp2
    go_ret
    exact ⟨rfl, _, rfl⟩

theorem numWant_any (k i : Int) (r : Nat) (s : ByteArray) (w : World) :
    Calls Yaad.prog 28 #[.agg #[.int .u8 k, .int .i64 i, .float .f64 r, .string s]] w fun e w' =>
      e = .returned (.bool (numB k)) ∧ ∃ c1 : Array Value, w' = w.alloc (.cells c1 25) := by
  unfold numB
  cases h1 : (k == 1) <;> cases h2 : (k == 2) <;>
  · go_enter Yaad.func28, Yaad.ntmps28
    go_wp2
    go_ret
    exact ⟨rfl, _, rfl⟩

/-- val.toF, and the law's own. -/
def toFl (k i : Int) (r : Nat) : Nat := if k = 1 then floatOfInt .f64 i else r

theorem toF_any (k i : Int) (r : Nat) (s : ByteArray) (w : World) :
    Calls Yaad.prog 17 #[.agg #[.int .u8 k, .int .i64 i, .float .f64 r, .string s]] w fun e w' =>
      e = .returned (.float .f64 (toFl k i r)) ∧ ∃ c1 : Array Value, w' = w.alloc (.cells c1 25) := by
  unfold toFl
  by_cases h : k = 1
  · subst h
    go_enter Yaad.func17, Yaad.ntmps17
    go_wp2_with (go_at_call 40; refine (itof_any _ _).mono ?_; rintro e w' ⟨rfl, rfl⟩)
    go_ret
    exact ⟨rfl, _, rfl⟩
  · rw [if_neg h]
    have h' : (k == 1) = false := by simpa using h
    go_enter Yaad.func17, Yaad.ntmps17
    go_wp2
    go_ret
    exact ⟨rfl, _, rfl⟩

theorem toFloat_any (k i : Int) (r : Nat) (s : ByteArray) (w : World) :
    Calls Yaad.prog 30 #[.agg #[.int .u8 k, .int .i64 i, .float .f64 r, .string s]] w fun e w' =>
      e = .returned (.float .f64 (toFl k i r)) ∧ ∃ c1 : Array Value, w' = w.alloc (.cells c1 25) := by
  unfold toFl
  by_cases h : k = 1
  · subst h
    go_enter Yaad.func30, Yaad.ntmps30
    go_wp2
    go_ret
    exact ⟨rfl, _, rfl⟩
  · rw [if_neg h]
    have h' : (k == 1) = false := by simpa using h
    go_enter Yaad.func30, Yaad.ntmps30
    go_wp2
    go_ret
    exact ⟨rfl, _, rfl⟩

theorem mathIsNaN_any (r : Nat) (w : World) :
    Calls Yaad.prog 52 #[.float .f64 r] w fun e w' => e = .returned (.bool (Flt.nanB r)) ∧ w' = w := by
  go_enter Yaad.func52, Yaad.ntmps52
  go_wp2
  go_ret
  exact ⟨ret_bool Flt.ne_self, rfl⟩

set_option maxHeartbeats 400000 in
theorem realOf_any (r : Nat) (k' i' : Int) (r' : Nat) (s' : ByteArray) (hr : r < 18446744073709551616) (h : norm (vReal r) = ⟨k', i', r', s'⟩) (w : World) :
    Calls Yaad.prog 31 #[.float .f64 r] w fun e w' =>
      e = .returned (.agg #[.int .u8 k', .int .i64 i', .float .f64 r', .string s']) ∧ ∃ c1 : Array Value, w' = w.alloc (.cells c1 25) := by
  rw [← realOfF_norm hr] at h
  unfold realOfF at h
  split at h
  · rename_i hn
    obtain ⟨rfl, rfl, rfl, rfl⟩ : k' = 0 ∧ i' = 0 ∧ r' = 0 ∧ s' = ⟨#[]⟩ := by have := ofMk h.symm; exact this
    clear h
    go_enter Yaad.func31, Yaad.ntmps31
    go_wp2_with (go_at_call 52; refine (mathIsNaN_any _ _).mono ?_; rintro e w' ⟨rfl, rfl⟩)
    simp [bodyPost, results, Yaad.results31, go_sem]
    exact ⟨_, rfl⟩
  · rename_i hn
    have hn' : Flt.nanB r = false := by simpa using hn
    split at h
    · rename_i hz
      have hz' : (FloatKind.f64.format.order r 0 == some Ordering.eq) = true := hz
      obtain ⟨rfl, rfl, rfl, rfl⟩ : k' = 2 ∧ i' = 0 ∧ r' = 0 ∧ s' = ⟨#[]⟩ := by have := ofMk h.symm; exact this
      clear h hz hn
      go_enter Yaad.func31, Yaad.ntmps31
      go_wp2_with (go_at_call 52; refine (mathIsNaN_any _ _).mono ?_; rintro e w' ⟨rfl, rfl⟩)
      simp [bodyPost, results, Yaad.results31, go_sem]
      exact ⟨_, rfl⟩
    · rename_i hz
      have hz' : (FloatKind.f64.format.order r 0 == some Ordering.eq) = false := by
        have : eqB r 0 = false := by simpa using hz
        exact this
      obtain ⟨rfl, rfl, rfl, rfl⟩ : k' = 2 ∧ i' = 0 ∧ r' = r ∧ s' = ⟨#[]⟩ := by have := ofMk h.symm; exact this
      clear h hz hn
      go_enter Yaad.func31, Yaad.ntmps31
      go_wp2_with (go_at_call 52; refine (mathIsNaN_any _ _).mono ?_; rintro e w' ⟨rfl, rfl⟩)
      simp [bodyPost, results, Yaad.results31, go_sem]
      exact ⟨_, rfl⟩

end Go.Proofs.Ygdaag
