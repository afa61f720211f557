/-
  THE WALKS OF THE SMALL FUNCTIONS of package val that hold no struct.
-/
import Derived.Test.YgdaagRows
import Derived.Test.YgdaagFlt
import Derived.Test.YgdaagUtf
import Derived.Test.YgdaagNum
import Derived.WalkKit
import Derived.WalkSpells
import Derived.WalkLawsBesides
import Derived.Laws.BitsAllLaws
namespace Go.Proofs.Ygdaag
open Go.RowKit

theorem float64bits (b : Nat) (w : World) : (callFunc 56 #[.float .f64 b]).run Yaad.prog w = .ok (.value (.int .u64 b)) w := by kernel_rfl

theorem ret_bool {a b : Bool} (h : a = b) : Ending.returned (.bool a) = .returned (.bool b) := by rw [h]
theorem ret_int {k : IntKind} {a b : Int} (h : a = b) : Ending.returned (.int k a) = .returned (.int k b) := by rw [h]

theorem bits_any (b : Nat) (w : World) :
    Calls Yaad.prog 53 #[.float .f64 b] w fun e w' => e = .returned (.int .u64 b) ∧ w' = w := by
  have hf := float64bits b
  go_enter Yaad.func53, Yaad.ntmps53
  go_wp2
  go_ret
  exact ⟨rfl, rfl⟩

theorem nan_bits (b : Nat) (hb : b < 18446744073709551616) :
    decide (9218868437227405312 < bits BinOp.andNot IntKind.u64 (b : Int) 9223372036854775808) = Flt.nanB b := by
  have h := u64_andNot_nat b 9223372036854775808 hb (by decide)
  have e : b &&& (18446744073709551615 - 9223372036854775808) = b % 9223372036854775808 := Nat.and_two_pow_sub_one_eq_mod b 63
  rw [e] at h
  unfold Flt.nanB
  have h' : bits BinOp.andNot IntKind.u64 (b : Int) 9223372036854775808 = ((b % 9223372036854775808 : Nat) : Int) := h
  rw [h']
  rw [decide_eq_decide]
  omega

theorem isNaN_any (b : Nat) (w : World) (hb : b < 18446744073709551616) :
    Calls Yaad.prog 32 #[.float .f64 b] w fun e w' => e = .returned (.bool (Flt.nanB b)) ∧ w' = w := by
  have hf := float64bits b
  go_enter Yaad.func32, Yaad.ntmps32
  go_wp2
  go_ret
  exact ⟨ret_bool (nan_bits b hb), rfl⟩

/-- The word of -0. -/
def negZ (b : Nat) : Bool := b == 9223372036854775808

theorem isNegZero_any (b : Nat) (w : World) :
    Calls Yaad.prog 33 #[.float .f64 b] w fun e w' => e = .returned (.bool (negZ b)) ∧ w' = w := by
  have hf := float64bits b
  go_enter Yaad.func33, Yaad.ntmps33
  go_wp2
  go_ret
  refine ⟨ret_bool ?_, rfl⟩
  unfold negZ
  rw [Bool.eq_iff_iff, beq_iff_eq, beq_iff_eq]
  omega

/-- The three comparisons, under names of their own. -/
def ltB (a b : Nat) : Bool := FloatKind.f64.format.order a b == some .lt
def gtB (a b : Nat) : Bool := FloatKind.f64.format.order a b == some .gt
def eqB (a b : Nat) : Bool := FloatKind.f64.format.order a b == some .eq

theorem flt_any (a b : Nat) (w : World) :
    Calls Yaad.prog 42 #[.float .f64 a, .float .f64 b] w fun e w' => e = .returned (.bool (ltB a b)) ∧ w' = w := by
  go_enter Yaad.func42, Yaad.ntmps42
  go_wp2
  all_goals (go_ret; exact ⟨rfl, rfl⟩)

theorem fgt_any (a b : Nat) (w : World) :
    Calls Yaad.prog 43 #[.float .f64 a, .float .f64 b] w fun e w' => e = .returned (.bool (gtB a b)) ∧ w' = w := by
  go_enter Yaad.func43, Yaad.ntmps43
  go_wp2
  all_goals (go_ret; exact ⟨rfl, rfl⟩)

theorem feq_any (a b : Nat) (w : World) :
    Calls Yaad.prog 22 #[.float .f64 a, .float .f64 b] w fun e w' => e = .returned (.bool (eqB a b)) ∧ w' = w := by
  go_enter Yaad.func22, Yaad.ntmps22
  go_wp2
  all_goals (go_ret; exact ⟨rfl, rfl⟩)

theorem itof_any (i : Int) (w : World) :
    Calls Yaad.prog 40 #[.int .i64 i] w fun e w' => e = .returned (.float .f64 (floatOfInt .f64 i)) ∧ w' = w := by
  go_enter Yaad.func40, Yaad.ntmps40
  go_wp2
  all_goals (go_ret; exact ⟨rfl, rfl⟩)

theorem ftoi_any (b : Nat) (n : Int) (h : floatToIntVal .f64 b .i64 = some n) (w : World) :
    Calls Yaad.prog 54 #[.float .f64 b] w fun e w' => e = .returned (.int .i64 n) ∧ w' = w := by
  have hc := fun w => run_convert_float_int (P := Yaad.prog) w 23 2 .f64 .i64 b n (by rw [Yaad.underlying23]; rfl) Yaad.underlying2 h
  go_enter Yaad.func54, Yaad.ntmps54
  go_wp2
  all_goals (go_ret; exact ⟨rfl, rfl⟩)

/-- 'sign' -/
def sgn (b c : Bool) : Int := if b then -1 else if c then 1 else 0

theorem sign_any (b c : Bool) (w : World) :
    Calls Yaad.prog 26 #[.bool b, .bool c] w fun e w' => e = .returned (.int .i8 (sgn b c)) ∧ w' = w := by
  cases b <;> cases c <;>
  · go_enter Yaad.func26, Yaad.ntmps26
    go_wp2
    all_goals (go_ret; exact ⟨rfl, rfl⟩)

/-- 'rank' -/
def rk (k : Int) : Int := if k = 0 then 0 else if k = 3 then 2 else 1

theorem rank_any (k : Int) (w : World) :
    Calls Yaad.prog 41 #[.int .u8 k] w fun e w' => e = .returned (.int .i64 (rk k)) ∧ w' = w := by
  unfold rk
  by_cases h0 : k = 0
  · subst h0
    go_enter Yaad.func41, Yaad.ntmps41
    go_wp2
    all_goals (go_ret; exact ⟨rfl, rfl⟩)
  · by_cases h3 : k = 3
    · subst h3
      go_enter Yaad.func41, Yaad.ntmps41
      go_wp2
      all_goals (go_ret; exact ⟨rfl, rfl⟩)
    · rw [if_neg h0, if_neg h3]
      go_enter Yaad.func41, Yaad.ntmps41
      go_wp2
      all_goals (go_ret; exact ⟨rfl, rfl⟩)

/-! ### + - * / -/
/-- r is what the operation may give: the word of the rounded result, or some NaN. -/
def FRes (op : BinOp) (x y r : Nat) : Prop := r < 18446744073709551616 ∧ match floatBits op .f64 x y with | some z => r = z | none => Flt.nanB r = true

theorem fres_some {op : BinOp} {x y r : Nat} (h : floatBits op .f64 x y = some r) : FRes op x y r := by
  refine ⟨?_, by rw [h]⟩
  have := floatBits_wf h
  simpa [Lit.wf] using this

/-- The NaN that the tape gives. -/
def nanOf (w : World) (x y : Nat) : Nat := Question.cut (.nanBits .f64 x y) (w.tape w.drawn (.nanBits .f64 x y))

theorem nanOf_fres {op : BinOp} {x y : Nat} (w : World) (h : floatBits op .f64 x y = none) : FRes op x y (nanOf w x y) := by
  have e : nanOf w x y = (w.tape w.drawn (.nanBits .f64 x y) % 2) * 2 ^ 63 + 0x7ff0000000000000 + 1 + (w.tape w.drawn (.nanBits .f64 x y) / 2) % (2 ^ 52 - 1) := rfl
  unfold FRes
  rw [h, e]
  generalize w.tape w.drawn (.nanBits .f64 x y) = t
  refine ⟨by omega, ?_⟩
  unfold Flt.nanB
  rw [decide_eq_true_eq]
  have hq : t / 2 % (2 ^ 52 - 1) < 2 ^ 52 - 1 := Nat.mod_lt _ (by decide)
  generalize t / 2 % (2 ^ 52 - 1) = q at hq ⊢
  clear e
  rcases Nat.mod_two_eq_zero_or_one t with k | k <;> rw [k] <;> omega

theorem run_float_none {P : Program} (w : World) (op : BinOp) (t : TypeId) (x y : Nat) (ho : op = .add ∨ op = .sub ∨ op = .mul ∨ op = .quo) (h : floatBits op .f64 x y = none) :
    (binOp op t (.float .f64 x) (.float .f64 y)).run P w = .ok (.float .f64 (nanOf w x y)) w.drew := by
  rcases ho with rfl | rfl | rfl | rfl <;>
  · simp only [floatBits] at h
    simp [binOp, Op.floatArith, h, Question.forced, nanOf]

end Go.Proofs.Ygdaag
