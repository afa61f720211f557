/-
  val.intArith: the plain function, and the walk.
-/
import Derived.Test.YgdaagWide
import Derived.Test.YgdaagReal
namespace Go.Proofs.Ygdaag
open Go.RowKit
open Num (fits fits_true fits_false hiW loW)

/-- The exact answer. -/
def exI (op a b : Int) : Int := if op = 0 then a + b else if op = 1 then a - b else if op = 2 then a * b else if op = 3 then a.tdiv b else a.tmod b

/-- It is there, and fits. -/
def okI (op a b : Int) : Bool := if 3 ≤ op ∧ b = 0 then false else fits (exI op a b)

theorem tmod_fits {a b : Int} (hb : fits b = true) (b0 : b ≠ 0) : fits (a.tmod b) = true := by
  have h := Num.mod_bd (a := a) hb b0
  unfold fits
  simp only [decide_eq_true_eq]
  by_cases ha : a < 0
  · rw [Num.tmod_neg' b ha]; omega
  · rw [Num.tmod_pos b ha]; omega

theorem okI_div {a b : Int} (ha : fits a = true) : okI 3 a b = true ↔ ¬ (b = 0 ∨ (a = -9223372036854775808 ∧ b = -1)) := by
  unfold okI
  constructor
  · intro h q
    rcases q with rfl | ⟨rfl, rfl⟩
    · simp at h
    · exact absurd h (by decide)
  · intro h
    rw [if_neg (fun q => h (Or.inl q.2))]
    exact tdiv_fits ha h

theorem okI_rem {a b : Int} (hb : fits b = true) : okI 4 a b = true ↔ b ≠ 0 := by
  unfold okI
  constructor
  · rintro h rfl
    simp at h
  · intro h
    rw [if_neg (fun q => h q.2)]
    exact tmod_fits hb h

set_option maxHeartbeats 1000000 in
theorem intArith_yes (op a b : Int) (ho : 0 ≤ op) (ho' : op ≤ 4) (ha : fits a = true) (hb : fits b = true) (hk : okI op a b = true) (w : World) :
    Calls Yaad.prog 16 #[.int .u8 op, .int .i64 a, .int .i64 b] w fun e w' =>
      e = .returned (.tuple #[.agg #[.int .u8 1, .int .i64 (exI op a b), .float .f64 0, .string ⟨#[]⟩], .bool true]) ∧ ∃ c1 c2 : Array Value, w' = (w.alloc (.cells c1 25)).alloc (.cells c2 25) := by
  generalize he : exI op a b = x
  have hop : op = 0 ∨ op = 1 ∨ op = 2 ∨ op = 3 ∨ op = 4 := by omega
  clear ho ho'
  rcases hop with rfl | rfl | rfl | rfl | rfl
  · have h1 : ∀ w, Calls Yaad.prog 35 #[.int .i64 a, .int .i64 b] w fun e w' => e = .returned (.tuple #[.int .i64 x, .bool true]) ∧ w' = w := fun w => by
      rw [← he]; exact addOK_yes a b ha hb hk w
    have H1 : Hid _ := h1
    clear h1 hk he
    go_enter Yaad.func16, Yaad.ntmps16
    go_wp2_with (first | (go_at_call 35; refine (H1.out _).mono ?_; rintro e w' ⟨rfl, rfl⟩) | (go_at_call 12; refine (intV_any _ _).mono ?_; rintro e w' ⟨rfl, c1, rfl⟩))
    simp [bodyPost, results, Yaad.results16, go_sem]
    exact ⟨_, _, rfl⟩
  · have h1 : ∀ w, Calls Yaad.prog 36 #[.int .i64 a, .int .i64 b] w fun e w' => e = .returned (.tuple #[.int .i64 x, .bool true]) ∧ w' = w := fun w => by
      rw [← he]; exact subOK_yes a b ha hb hk w
    have H1 : Hid _ := h1
    clear h1 hk he
    go_enter Yaad.func16, Yaad.ntmps16
    go_wp2_with (first | (go_at_call 36; refine (H1.out _).mono ?_; rintro e w' ⟨rfl, rfl⟩) | (go_at_call 12; refine (intV_any _ _).mono ?_; rintro e w' ⟨rfl, c1, rfl⟩))
    simp [bodyPost, results, Yaad.results16, go_sem]
    exact ⟨_, _, rfl⟩
  · have h1 : ∀ w, Calls Yaad.prog 37 #[.int .i64 a, .int .i64 b] w fun e w' => e = .returned (.tuple #[.int .i64 x, .bool true]) ∧ w' = w := fun w => by
      rw [← he]; exact mulOK_yes a b ha hb hk w
    have H1 : Hid _ := h1
    clear h1 hk he
    go_enter Yaad.func16, Yaad.ntmps16
    go_wp2_with (first | (go_at_call 37; refine (H1.out _).mono ?_; rintro e w' ⟨rfl, rfl⟩) | (go_at_call 12; refine (intV_any _ _).mono ?_; rintro e w' ⟨rfl, c1, rfl⟩))
    simp [bodyPost, results, Yaad.results16, go_sem]
    exact ⟨_, _, rfl⟩
  · have h1 : ∀ w, Calls Yaad.prog 38 #[.int .i64 a, .int .i64 b] w fun e w' => e = .returned (.tuple #[.int .i64 x, .bool true]) ∧ w' = w := fun w => by
      rw [← he]; exact divOK_yes a b ha ((okI_div ha).1 hk) w
    have H1 : Hid _ := h1
    clear h1 hk he
    go_enter Yaad.func16, Yaad.ntmps16
    go_wp2_with (first | (go_at_call 38; refine (H1.out _).mono ?_; rintro e w' ⟨rfl, rfl⟩) | (go_at_call 12; refine (intV_any _ _).mono ?_; rintro e w' ⟨rfl, c1, rfl⟩))
    simp [bodyPost, results, Yaad.results16, go_sem]
    exact ⟨_, _, rfl⟩
  · have h1 : ∀ w, Calls Yaad.prog 39 #[.int .i64 a, .int .i64 b] w fun e w' => e = .returned (.tuple #[.int .i64 x, .bool true]) ∧ w' = w := fun w => by
      rw [← he]; exact remOK_yes a b ((okI_rem hb).1 hk) w
    have H1 : Hid _ := h1
    clear h1 hk he
    go_enter Yaad.func16, Yaad.ntmps16
    go_wp2_with (first | (go_at_call 39; refine (H1.out _).mono ?_; rintro e w' ⟨rfl, rfl⟩) | (go_at_call 12; refine (intV_any _ _).mono ?_; rintro e w' ⟨rfl, c1, rfl⟩))
    simp [bodyPost, results, Yaad.results16, go_sem]
    exact ⟨_, _, rfl⟩

set_option maxHeartbeats 1000000 in
theorem intArith_no (op a b : Int) (ho : 0 ≤ op) (ho' : op ≤ 4) (ha : fits a = true) (hb : fits b = true) (hk : okI op a b = false) (w : World) :
    Calls Yaad.prog 16 #[.int .u8 op, .int .i64 a, .int .i64 b] w fun e w' =>
      e = .returned (.tuple #[.agg #[.int .u8 1, .int .i64 0, .float .f64 0, .string ⟨#[]⟩], .bool false]) ∧ ∃ c1 c2 : Array Value, w' = (w.alloc (.cells c1 25)).alloc (.cells c2 25) := by
  have hop : op = 0 ∨ op = 1 ∨ op = 2 ∨ op = 3 ∨ op = 4 := by omega
  clear ho ho'
  rcases hop with rfl | rfl | rfl | rfl | rfl
  · have h1 := fun w => addOK_no a b ha hb hk w
    have H1 : Hid _ := h1
    clear h1 hk
    go_enter Yaad.func16, Yaad.ntmps16
    go_wp2_with (first | (go_at_call 35; refine (H1.out _).mono ?_; rintro e w' ⟨rfl, rfl⟩) | (go_at_call 12; refine (intV_any _ _).mono ?_; rintro e w' ⟨rfl, c1, rfl⟩))
    simp [bodyPost, results, Yaad.results16, go_sem]
    exact ⟨_, _, rfl⟩
  · have h1 := fun w => subOK_no a b ha hb hk w
    have H1 : Hid _ := h1
    clear h1 hk
    go_enter Yaad.func16, Yaad.ntmps16
    go_wp2_with (first | (go_at_call 36; refine (H1.out _).mono ?_; rintro e w' ⟨rfl, rfl⟩) | (go_at_call 12; refine (intV_any _ _).mono ?_; rintro e w' ⟨rfl, c1, rfl⟩))
    simp [bodyPost, results, Yaad.results16, go_sem]
    exact ⟨_, _, rfl⟩
  · have h1 := fun w => mulOK_no a b ha hb hk w
    have H1 : Hid _ := h1
    clear h1 hk
    go_enter Yaad.func16, Yaad.ntmps16
    go_wp2_with (first | (go_at_call 37; refine (H1.out _).mono ?_; rintro e w' ⟨rfl, rfl⟩) | (go_at_call 12; refine (intV_any _ _).mono ?_; rintro e w' ⟨rfl, c1, rfl⟩))
    simp [bodyPost, results, Yaad.results16, go_sem]
    exact ⟨_, _, rfl⟩
  · have h1 := fun w => divOK_no a b (by
      by_cases q : b = 0 ∨ (a = -9223372036854775808 ∧ b = -1)
      · exact q
      · have := (okI_div ha).2 q
        rw [hk] at this
        cases this) w
    have H1 : Hid _ := h1
    clear h1 hk
    go_enter Yaad.func16, Yaad.ntmps16
    go_wp2_with (first | (go_at_call 38; refine (H1.out _).mono ?_; rintro e w' ⟨rfl, rfl⟩) | (go_at_call 12; refine (intV_any _ _).mono ?_; rintro e w' ⟨rfl, c1, rfl⟩))
    simp [bodyPost, results, Yaad.results16, go_sem]
    exact ⟨_, _, rfl⟩
  · have b0 : b = 0 := by
      by_cases q : b = 0
      · exact q
      · have := (okI_rem (a := a) hb).2 q
        rw [hk] at this
        cases this
    subst b0
    have h1 := fun w => remOK_no a w
    have H1 : Hid _ := h1
    clear h1 hk
    go_enter Yaad.func16, Yaad.ntmps16
    go_wp2_with (first | (go_at_call 39; refine (H1.out _).mono ?_; rintro e w' ⟨rfl, rfl⟩) | (go_at_call 12; refine (intV_any _ _).mono ?_; rintro e w' ⟨rfl, c1, rfl⟩))
    simp [bodyPost, results, Yaad.results16, go_sem]
    exact ⟨_, _, rfl⟩

end Go.Proofs.Ygdaag
