/-
  THE WALK of val.intReal and val.Compare.
-/
import Derived.Test.YgdaagCat
import Derived.Deep.QuietTactic
import Derived.BigQuiet
namespace Go.Proofs.Ygdaag
open Go.RowKit

/-- val.intReal. -/
def irF (i : Int) (r : Nat) : Int :=
  if ltB r Flt.negTwo63 = true then 1
  else if ltB r Flt.posTwo63 = false then -1
  else match floatToIntVal .f64 r .i64 with
    | some t => if i ≠ t then sgn (decide (i < t)) (decide (t < i)) else sgn (ltB (floatOfInt .f64 i) r) (gtB (floatOfInt .f64 i) r)
    | none => 0

theorem flt_neg (r : Nat) (b : Bool) (h : ltB r Flt.negTwo63 = b) (w : World) :
    Calls Yaad.prog 42 #[.float .f64 r, .float .f64 14114281232179134464] w fun e w' => e = .returned (.bool b) ∧ w' = w := by
  subst h; exact flt_any r 14114281232179134464 w
theorem flt_pos (r : Nat) (b : Bool) (h : ltB r Flt.posTwo63 = b) (w : World) :
    Calls Yaad.prog 42 #[.float .f64 r, .float .f64 4890909195324358656] w fun e w' => e = .returned (.bool b) ∧ w' = w := by
  subst h; exact flt_any r 4890909195324358656 w

set_option maxHeartbeats 400000 in
theorem intReal_any (i : Int) (r : Nat) (w : World) :
    Calls Yaad.prog 44 #[.int .i64 i, .float .f64 r] w fun e w' => e = .returned (.int .i8 (irF i r)) ∧ w' = w := by
  cases h1 : ltB r Flt.negTwo63 with
  | true =>
    have e : irF i r = 1 := if_pos h1
    rw [e]
    have H1 : Hid _ := h1
    clear e h1
    go_enter Yaad.func44, Yaad.ntmps44
    go_wp2_with (go_at_call 42; refine (flt_neg _ _ H1.out _).mono ?_; rintro e w' ⟨rfl, rfl⟩)
    go_ret
    exact ⟨rfl, rfl⟩
  | false =>
    cases h2 : ltB r Flt.posTwo63 with
    | false =>
      have e : irF i r = -1 := by unfold irF; rw [h1, h2]; rfl
      rw [e]
      have H1 : Hid _ := h1
      have H2 : Hid _ := h2
      clear e h1 h2
      go_enter Yaad.func44, Yaad.ntmps44
      go_wp2_with (first | (go_at_call_of 42 (14114281232179134464 : Nat); refine (flt_neg _ _ H1.out _).mono ?_; rintro e w' ⟨rfl, rfl⟩) | (go_at_call_of 42 (4890909195324358656 : Nat); refine (flt_pos _ _ H2.out _).mono ?_; rintro e w' ⟨rfl, rfl⟩))
      go_ret
      exact ⟨rfl, rfl⟩
    | true =>
      obtain ⟨t, ht, tb1, tb2⟩ := Flt.floatToInt_in (b := r) h1 h2
      have HT : Hid _ := ht
      have H1 : Hid _ := h1
      have H2 : Hid _ := h2
      by_cases hit : i = t
      · have e : irF i r = sgn (ltB (floatOfInt .f64 i) r) (gtB (floatOfInt .f64 i) r) := by
          unfold irF; rw [h1, h2, ht]; simp [hit]
        rw [e]
        subst hit
        clear e h1 h2 ht
        go_enter Yaad.func44, Yaad.ntmps44
        go_wp2_with (first
          | (go_at_call_of 42 (14114281232179134464 : Nat); refine (flt_neg _ _ H1.out _).mono ?_; rintro e w' ⟨rfl, rfl⟩)
          | (go_at_call_of 42 (4890909195324358656 : Nat); refine (flt_pos _ _ H2.out _).mono ?_; rintro e w' ⟨rfl, rfl⟩)
          | (go_at_call 42; refine (flt_any _ _ _).mono ?_; rintro e w' ⟨rfl, rfl⟩)
          | (go_at_call 43; refine (fgt_any _ _ _).mono ?_; rintro e w' ⟨rfl, rfl⟩)
          | (go_at_call 54; refine (ftoi_any _ _ HT.out _).mono ?_; rintro e w' ⟨rfl, rfl⟩)
          | (go_at_call 40; refine (itof_any _ _).mono ?_; rintro e w' ⟨rfl, rfl⟩)
          | (go_at_call 26; refine (sign_any _ _ _).mono ?_; rintro e w' ⟨rfl, rfl⟩))
        go_ret
        exact ⟨rfl, rfl⟩
      · have e : irF i r = sgn (decide (i < t)) (decide (t < i)) := by
          unfold irF; rw [h1, h2, ht]; simp [hit]
        rw [e]
        clear e h1 h2 ht
        go_enter Yaad.func44, Yaad.ntmps44
        go_wp2_with (first
          | (go_at_call_of 42 (14114281232179134464 : Nat); refine (flt_neg _ _ H1.out _).mono ?_; rintro e w' ⟨rfl, rfl⟩)
          | (go_at_call_of 42 (4890909195324358656 : Nat); refine (flt_pos _ _ H2.out _).mono ?_; rintro e w' ⟨rfl, rfl⟩)
          | (go_at_call 54; refine (ftoi_any _ _ HT.out _).mono ?_; rintro e w' ⟨rfl, rfl⟩)
          | (go_at_call 26; refine (sign_any _ _ _).mono ?_; rintro e w' ⟨rfl, rfl⟩))
        go_ret
        exact ⟨rfl, rfl⟩

end Go.Proofs.Ygdaag
