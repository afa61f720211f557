/-
  law.intWant: the walk, an operator at a time.
-/
import Derived.Test.YgdaagIA
namespace Go.Proofs.Ygdaag
open Go.RowKit
open Num (fits fits_true fits_false hiW loW)

def bop (op : Int) : BinOp := if op = 0 then .add else if op = 1 then .sub else if op = 2 then .mul else .quo

/-- The answer to two INTEGERs. -/
def intF (op a b : Int) : Vl :=
  if okI op a b = true then vInt (exI op a b) else if 3 ≤ op ∧ b = 0 then vNull else fval (bop op) (floatOfInt .f64 a) (floatOfInt .f64 b)

theorem float_cases (op : BinOp) (ho : op = .add ∨ op = .sub ∨ op = .mul ∨ op = .quo) (x y : Nat) :
    (∃ z, (∀ w, (binOp op 23 (.float .f64 x) (.float .f64 y)).run Yaad.prog w = .ok (.float .f64 z) w) ∧ Hid (z < 18446744073709551616 ∧ norm (vReal z) = fval op x y)) ∨
    ((∀ w, (binOp op 23 (.float .f64 x) (.float .f64 y)).run Yaad.prog w = .ok (.float .f64 (nanOf w x y)) w.drew) ∧ Hid (∀ w, nanOf w x y < 18446744073709551616 ∧ norm (vReal (nanOf w x y)) = fval op x y)) := by
  cases h : floatBits op .f64 x y with
  | some z =>
    have f := fres_some h
    exact Or.inl ⟨z, fun w => run_float_arith (P := Yaad.prog) w op 23 .f64 x y z h, ⟨f.1, fres_norm f⟩⟩
  | none =>
    exact Or.inr ⟨fun w => run_float_none (P := Yaad.prog) w op 23 x y ho h, fun w => ⟨(nanOf_fres w h).1, fres_norm (nanOf_fres w h)⟩⟩

theorem narrow_yes' (x h l : Int) (e1 : h = hiW x) (e2 : l = loW x) (hf : fits x = true) (w : World) :
    Calls Yaad.prog 51 #[.agg #[.int .i64 h, .int .u64 l]] w fun e w' =>
      e = .returned (.tuple #[.int .i64 x, .bool true]) ∧ ∃ c1 : Array Value, w' = w.alloc (.cells c1 57) := by
  subst e1 e2; exact narrow_yes x hf w
theorem narrow_no' (x h l : Int) (e1 : h = hiW x) (e2 : l = loW x) (hf : fits x = false) (w : World) :
    Calls Yaad.prog 51 #[.agg #[.int .i64 h, .int .u64 l]] w fun e w' =>
      e = .returned (.tuple #[.int .i64 0, .bool false]) ∧ ∃ c1 : Array Value, w' = w.alloc (.cells c1 57) := by
  subst e1 e2; exact narrow_no x hf w

theorem tiny_of_fits {x : Int} (h : fits x = true) : Tiny x := by have := fits_true h; unfold Tiny; omega

set_option maxRecDepth 100000 in
set_option maxHeartbeats 2000000 in
theorem intWant_add (a b : Int) (ha : fits a = true) (hb : fits b = true) (ka ia : Int) (ra : Nat) (sa : ByteArray) (h : intF 0 a b = ⟨ka, ia, ra, sa⟩) (w : World) :
    Calls Yaad.prog 29 #[.int .u8 0, .int .i64 a, .int .i64 b] w fun e w' =>
      e = .returned (.agg #[.int .u8 ka, .int .i64 ia, .float .f64 ra, .string sa]) ∧ Below w.heap.size w w' := by
  have hadd := fun w => add_any a b _ _ _ _ rfl rfl rfl rfl (small_of_fits ha) (tiny_of_fits hb) w
  have HAdd : Hid _ := hadd
  clear hadd
  have hfc := float_cases .add (by simp) (floatOfInt .f64 a) (floatOfInt .f64 b)
  cases hk : fits (a + b) with
  | true =>
    obtain ⟨rfl, rfl, rfl, rfl⟩ : ka = 1 ∧ ia = a + b ∧ ra = 0 ∧ sa = ⟨#[]⟩ := by
      have e : intF 0 a b = vInt (a + b) := if_pos hk
      exact ofMk (h.symm.trans e)
    have HK : Hid _ := hk
    clear hk h
    rcases hfc with ⟨z, hrun, _⟩ | ⟨hrun, _⟩
    all_goals
      go_enter Yaad.func29, Yaad.ntmps29
      go_wp2_with (first
        | (go_at_call_of 45 a; refine (wide_any a ha _).mono ?_; rintro e w' ⟨rfl, c1, rfl⟩)
        | (go_at_call_of 45 b; refine (wide_any b hb _).mono ?_; rintro e w' ⟨rfl, c1, rfl⟩)
        | (go_at_call 46; refine (HAdd.out _).mono ?_; rintro e w' ⟨rfl, c1, c2, c3, rfl⟩)
        | (go_at_call 51; refine (narrow_yes _ HK.out _).mono ?_; rintro e w' ⟨rfl, c1, rfl⟩)
        | (go_at_call 12; refine (intV_any _ _).mono ?_; rintro e w' ⟨rfl, c1, rfl⟩))
      simp [bodyPost, results, Yaad.results29, go_sem]
      first | (refine Below.drew ?_; repeat (refine Below.alloc ?_ (by simp; try omega) _)) | (repeat (refine Below.alloc ?_ (by simp; try omega) _))
      exact Below.refl _ _
  | false =>
    have e : fval .add (floatOfInt .f64 a) (floatOfInt .f64 b) = ⟨ka, ia, ra, sa⟩ := by
      refine Eq.trans ?_ h
      have h1 : ¬ okI 0 a b = true := by intro q; have q' : fits (a + b) = true := q; rw [hk] at q'; cases q'
      unfold intF
      rw [if_neg h1, if_neg (by omega)]
      rfl
    rw [e] at hfc
    have HK : Hid _ := hk
    clear hk h e
    rcases hfc with ⟨z, hrun, hz⟩ | ⟨hrun, hz⟩
    all_goals
      go_enter Yaad.func29, Yaad.ntmps29
      go_wp2_with (first
        | (go_at_call_of 45 a; refine (wide_any a ha _).mono ?_; rintro e w' ⟨rfl, c1, rfl⟩)
        | (go_at_call_of 45 b; refine (wide_any b hb _).mono ?_; rintro e w' ⟨rfl, c1, rfl⟩)
        | (go_at_call 46; refine (HAdd.out _).mono ?_; rintro e w' ⟨rfl, c1, c2, c3, rfl⟩)
        | (go_at_call 51; refine (narrow_no _ HK.out _).mono ?_; rintro e w' ⟨rfl, c1, rfl⟩)
        | (go_at_call 31; (first | refine (realOf_any _ ka ia ra sa hz.out.1 hz.out.2 _).mono ?_ | refine (realOf_any _ ka ia ra sa (hz.out _).1 (hz.out _).2 _).mono ?_); rintro e w' ⟨rfl, c1, rfl⟩))
      simp [bodyPost, results, Yaad.results29, go_sem]
      first | (refine Below.drew ?_; repeat (refine Below.alloc ?_ (by simp; try omega) _)) | (repeat (refine Below.alloc ?_ (by simp; try omega) _))
      exact Below.refl _ _

/-- The result's block and the block of 'exact' behind a callee that keeps what there was. -/
def IW (w W : World) : Prop := Below w.heap.size w W ∧ w.heap.size + 1 < W.heap.size ∧
  W.cell? ⟨w.heap.size, 0, none⟩ = some (.int .u8 0) ∧ W.cell? ⟨w.heap.size, 1, none⟩ = some (.int .i64 0) ∧ W.cell? ⟨w.heap.size, 2, none⟩ = some (.float .f64 0) ∧ W.cell? ⟨w.heap.size, 3, none⟩ = some (.string ⟨#[]⟩) ∧
  W.cell? ⟨w.heap.size + 1, 0, none⟩ = some (.int .i64 0) ∧ W.cell? ⟨w.heap.size + 1, 1, none⟩ = some (.int .u64 0) ∧
  (∀ j, W.frozen? ⟨w.heap.size, j, none⟩ = false) ∧ (∀ j, W.frozen? ⟨w.heap.size + 1, j, none⟩ = false)

theorem IW.below {w W w1 : World} (h : IW w W) (hb : Below W.heap.size W w1) : IW w w1 := by
  obtain ⟨h0, hz, q0, q1, q2, q3, p0, p1, f, g⟩ := h
  have hc := fun b j (hj : b < W.heap.size) => hb.cell (p := ⟨b, j, none⟩) hj
  have hf := fun b j (hj : b < W.heap.size) => hb.frozen (p := ⟨b, j, none⟩) hj
  have hs := hb.size
  refine ⟨h0.trans (hb.mono h0.size), by omega, ?_, ?_, ?_, ?_, ?_, ?_, fun j => ?_, fun j => ?_⟩
  · rw [hc _ _ (by omega)]; exact q0
  · rw [hc _ _ (by omega)]; exact q1
  · rw [hc _ _ (by omega)]; exact q2
  · rw [hc _ _ (by omega)]; exact q3
  · rw [hc _ _ (by omega)]; exact p0
  · rw [hc _ _ (by omega)]; exact p1
  · rw [hf _ _ (by omega)]; exact f j
  · rw [hf _ _ (by omega)]; exact g j

theorem iw2 (w : World) : IW w ((w.alloc (.cells #[.int .u8 0, .int .i64 0, .float .f64 0, .string ⟨#[]⟩] 25)).alloc (.cells #[.int .i64 0, .int .u64 0] 57)) := by
  refine ⟨((Below.refl _ _).alloc (Nat.le_refl _) _).alloc (by simp) _, by simp, ?_, ?_, ?_, ?_, ?_, ?_, fun j => ?_, fun j => ?_⟩ <;> simp [go_sem]

theorem IW.alloc {w W : World} (h : IW w W) (o : Obj) : IW w (W.alloc o) := h.below ((Below.refl _ _).alloc (Nat.le_refl _) o)

theorem below_end {w w1 : World} (hb1 : Below w.heap.size w w1) (v1 v2 v3 v4 v5 v6 : Value) (o1 o2 : Obj) :
    Below w.heap.size w ((((((((w1.setCell ⟨w.heap.size + 1, 0, none⟩ v1).setCell ⟨w.heap.size + 1, 1, none⟩ v2).setCell ⟨w.heap.size, 0, none⟩ v3).setCell ⟨w.heap.size, 1, none⟩ v4).setCell ⟨w.heap.size, 2, none⟩ v5).setCell ⟨w.heap.size, 3, none⟩ v6).alloc o1).alloc o2) := by
  have hz := hb1.size
  refine Below.alloc ?_ (by simp [World.setCell]; omega) _
  refine Below.alloc ?_ (by simp [World.setCell]; exact hz) _
  refine Below.setCell ?_ (by show w.heap.size ≤ w.heap.size; omega) _
  refine Below.setCell ?_ (by show w.heap.size ≤ w.heap.size; omega) _
  refine Below.setCell ?_ (by show w.heap.size ≤ w.heap.size; omega) _
  refine Below.setCell ?_ (by show w.heap.size ≤ w.heap.size; omega) _
  refine Below.setCell ?_ (by show w.heap.size ≤ w.heap.size + 1; omega) _
  refine Below.setCell ?_ (by show w.heap.size ≤ w.heap.size + 1; omega) _
  exact hb1

set_option maxRecDepth 100000 in
set_option maxHeartbeats 2000000 in
theorem intWant_sub (a b : Int) (ha : fits a = true) (hb : fits b = true) (ka ia : Int) (ra : Nat) (sa : ByteArray) (h : intF 1 a b = ⟨ka, ia, ra, sa⟩) (w : World) :
    Calls Yaad.prog 29 #[.int .u8 1, .int .i64 a, .int .i64 b] w fun e w' =>
      e = .returned (.agg #[.int .u8 ka, .int .i64 ia, .float .f64 ra, .string sa]) ∧ Below w.heap.size w w' := by
  have hsub := fun w => sub_any a b (small_of_fits ha) (fits_true hb) w
  have HSub : Hid _ := hsub
  clear hsub
  have hfc := float_cases .sub (by simp) (floatOfInt .f64 a) (floatOfInt .f64 b)
  cases hk : fits (a - b) with
  | true =>
    obtain ⟨rfl, rfl, rfl, rfl⟩ : ka = 1 ∧ ia = a - b ∧ ra = 0 ∧ sa = ⟨#[]⟩ := by
      have e : intF 1 a b = vInt (a - b) := if_pos hk
      exact ofMk (h.symm.trans e)
    have HK : Hid _ := hk
    clear hk h
    rcases hfc with ⟨z, hrun, _⟩ | ⟨hrun, _⟩
    · go_enter Yaad.func29, Yaad.ntmps29
      go_wp2_with (first
        | (go_at_call_of 45 a; refine (wide_any a ha _).mono ?_; rintro e w' ⟨rfl, c1, rfl⟩)
        | (go_at_call_of 45 b; refine (wide_any b hb _).mono ?_; rintro e w' ⟨rfl, c1, rfl⟩)
        | (go_at_call 47; refine (HSub.out _).mono ?_; rintro e w1 ⟨rfl, hbl⟩; obtain ⟨hb1, z1, q0, q1, q2, q3, p0, p1, f, g⟩ := IW.below (((iw2 w).alloc _).alloc _) hbl; have z0 : w.heap.size < w1.heap.size := (by omega); have z02 : w.heap.size < w1.heap.size + 1 := (by omega); clear hbl)
        | (go_at_call 51; refine (narrow_yes _ HK.out _).mono ?_; rintro e w' ⟨rfl, c1, rfl⟩)
        | (go_at_call 12; refine (intV_any _ _).mono ?_; rintro e w' ⟨rfl, c1, rfl⟩))
      simp [bodyPost, results, Yaad.results29, go_sem, *]
      exact below_end hb1 _ _ _ _ _ _ _ _
    · go_enter Yaad.func29, Yaad.ntmps29
      go_wp2_with (first
        | (go_at_call_of 45 a; refine (wide_any a ha _).mono ?_; rintro e w' ⟨rfl, c1, rfl⟩)
        | (go_at_call_of 45 b; refine (wide_any b hb _).mono ?_; rintro e w' ⟨rfl, c1, rfl⟩)
        | (go_at_call 47; refine (HSub.out _).mono ?_; rintro e w1 ⟨rfl, hbl⟩; obtain ⟨hb1, z1, q0, q1, q2, q3, p0, p1, f, g⟩ := IW.below (((iw2 w).alloc _).alloc _) hbl; have z0 : w.heap.size < w1.heap.size := (by omega); have z02 : w.heap.size < w1.heap.size + 1 := (by omega); clear hbl)
        | (go_at_call 51; refine (narrow_yes _ HK.out _).mono ?_; rintro e w' ⟨rfl, c1, rfl⟩)
        | (go_at_call 12; refine (intV_any _ _).mono ?_; rintro e w' ⟨rfl, c1, rfl⟩))
      simp [bodyPost, results, Yaad.results29, go_sem, *]
      exact (below_end hb1 _ _ _ _ _ _ _ _).drew
  | false =>
    have e : fval .sub (floatOfInt .f64 a) (floatOfInt .f64 b) = ⟨ka, ia, ra, sa⟩ := by
      refine Eq.trans ?_ h
      have h1 : ¬ okI 1 a b = true := by intro q; have q' : fits (a - b) = true := q; rw [hk] at q'; cases q'
      unfold intF
      rw [if_neg h1, if_neg (by omega)]
      rfl
    rw [e] at hfc
    have HK : Hid _ := hk
    clear hk h e
    rcases hfc with ⟨z, hrun, hz⟩ | ⟨hrun, hz⟩
    · go_enter Yaad.func29, Yaad.ntmps29
      go_wp2_with (first
        | (go_at_call_of 45 a; refine (wide_any a ha _).mono ?_; rintro e w' ⟨rfl, c1, rfl⟩)
        | (go_at_call_of 45 b; refine (wide_any b hb _).mono ?_; rintro e w' ⟨rfl, c1, rfl⟩)
        | (go_at_call 47; refine (HSub.out _).mono ?_; rintro e w1 ⟨rfl, hbl⟩; obtain ⟨hb1, z1, q0, q1, q2, q3, p0, p1, f, g⟩ := IW.below (((iw2 w).alloc _).alloc _) hbl; have z0 : w.heap.size < w1.heap.size := (by omega); have z02 : w.heap.size < w1.heap.size + 1 := (by omega); clear hbl)
        | (go_at_call 51; refine (narrow_no _ HK.out _).mono ?_; rintro e w' ⟨rfl, c1, rfl⟩)
        | (go_at_call 31; refine (realOf_any _ ka ia ra sa hz.out.1 hz.out.2 _).mono ?_; rintro e w' ⟨rfl, c1, rfl⟩))
      simp [bodyPost, results, Yaad.results29, go_sem, *]
      exact below_end hb1 _ _ _ _ _ _ _ _
    · go_enter Yaad.func29, Yaad.ntmps29
      go_wp2_with (first
        | (go_at_call_of 45 a; refine (wide_any a ha _).mono ?_; rintro e w' ⟨rfl, c1, rfl⟩)
        | (go_at_call_of 45 b; refine (wide_any b hb _).mono ?_; rintro e w' ⟨rfl, c1, rfl⟩)
        | (go_at_call 47; refine (HSub.out _).mono ?_; rintro e w1 ⟨rfl, hbl⟩; obtain ⟨hb1, z1, q0, q1, q2, q3, p0, p1, f, g⟩ := IW.below (((iw2 w).alloc _).alloc _) hbl; have z0 : w.heap.size < w1.heap.size := (by omega); have z02 : w.heap.size < w1.heap.size + 1 := (by omega); clear hbl)
        | (go_at_call 51; refine (narrow_no _ HK.out _).mono ?_; rintro e w' ⟨rfl, c1, rfl⟩)
        | (go_at_call 31; refine (realOf_any _ ka ia ra sa (hz.out _).1 (hz.out _).2 _).mono ?_; rintro e w' ⟨rfl, c1, rfl⟩))
      simp [bodyPost, results, Yaad.results29, go_sem, *]
      exact (below_end hb1 _ _ _ _ _ _ _ _).drew

set_option maxRecDepth 100000 in
set_option maxHeartbeats 2000000 in
theorem intWant_mul (a b : Int) (ha : fits a = true) (hb : fits b = true) (ka ia : Int) (ra : Nat) (sa : ByteArray) (h : intF 2 a b = ⟨ka, ia, ra, sa⟩) (w : World) :
    Calls Yaad.prog 29 #[.int .u8 2, .int .i64 a, .int .i64 b] w fun e w' =>
      e = .returned (.agg #[.int .u8 ka, .int .i64 ia, .float .f64 ra, .string sa]) ∧ Below w.heap.size w w' := by
  have hsub := fun w => mul128_any a b ha hb w
  have HSub : Hid _ := hsub
  clear hsub
  have hfc := float_cases .mul (by simp) (floatOfInt .f64 a) (floatOfInt .f64 b)
  cases hk : fits (a * b) with
  | true =>
    obtain ⟨rfl, rfl, rfl, rfl⟩ : ka = 1 ∧ ia = a * b ∧ ra = 0 ∧ sa = ⟨#[]⟩ := by
      have e : intF 2 a b = vInt (a * b) := if_pos hk
      exact ofMk (h.symm.trans e)
    have HK : Hid _ := hk
    clear hk h
    rcases hfc with ⟨z, hrun, _⟩ | ⟨hrun, _⟩
    · go_enter Yaad.func29, Yaad.ntmps29
      go_wp2_with (first
        | (go_at_call_of 45 a; refine (wide_any a ha _).mono ?_; rintro e w' ⟨rfl, c1, rfl⟩)
        | (go_at_call_of 45 b; refine (wide_any b hb _).mono ?_; rintro e w' ⟨rfl, c1, rfl⟩)
        | (go_at_call 48; refine (HSub.out _).mono ?_; rintro e w1 ⟨rfl, hbl⟩; obtain ⟨hb1, z1, q0, q1, q2, q3, p0, p1, f, g⟩ := IW.below (iw2 w) hbl; have z0 : w.heap.size < w1.heap.size := (by omega); have z02 : w.heap.size < w1.heap.size + 1 := (by omega); clear hbl)
        | (go_at_call 51; refine (narrow_yes _ HK.out _).mono ?_; rintro e w' ⟨rfl, c1, rfl⟩)
        | (go_at_call 12; refine (intV_any _ _).mono ?_; rintro e w' ⟨rfl, c1, rfl⟩))
      simp [bodyPost, results, Yaad.results29, go_sem, *]
      exact below_end hb1 _ _ _ _ _ _ _ _
    · go_enter Yaad.func29, Yaad.ntmps29
      go_wp2_with (first
        | (go_at_call_of 45 a; refine (wide_any a ha _).mono ?_; rintro e w' ⟨rfl, c1, rfl⟩)
        | (go_at_call_of 45 b; refine (wide_any b hb _).mono ?_; rintro e w' ⟨rfl, c1, rfl⟩)
        | (go_at_call 48; refine (HSub.out _).mono ?_; rintro e w1 ⟨rfl, hbl⟩; obtain ⟨hb1, z1, q0, q1, q2, q3, p0, p1, f, g⟩ := IW.below (iw2 w) hbl; have z0 : w.heap.size < w1.heap.size := (by omega); have z02 : w.heap.size < w1.heap.size + 1 := (by omega); clear hbl)
        | (go_at_call 51; refine (narrow_yes _ HK.out _).mono ?_; rintro e w' ⟨rfl, c1, rfl⟩)
        | (go_at_call 12; refine (intV_any _ _).mono ?_; rintro e w' ⟨rfl, c1, rfl⟩))
      simp [bodyPost, results, Yaad.results29, go_sem, *]
      exact (below_end hb1 _ _ _ _ _ _ _ _).drew
  | false =>
    have e : fval .mul (floatOfInt .f64 a) (floatOfInt .f64 b) = ⟨ka, ia, ra, sa⟩ := by
      refine Eq.trans ?_ h
      have h1 : ¬ okI 2 a b = true := by intro q; have q' : fits (a * b) = true := q; rw [hk] at q'; cases q'
      unfold intF
      rw [if_neg h1, if_neg (by omega)]
      rfl
    rw [e] at hfc
    have HK : Hid _ := hk
    clear hk h e
    rcases hfc with ⟨z, hrun, hz⟩ | ⟨hrun, hz⟩
    · go_enter Yaad.func29, Yaad.ntmps29
      go_wp2_with (first
        | (go_at_call_of 45 a; refine (wide_any a ha _).mono ?_; rintro e w' ⟨rfl, c1, rfl⟩)
        | (go_at_call_of 45 b; refine (wide_any b hb _).mono ?_; rintro e w' ⟨rfl, c1, rfl⟩)
        | (go_at_call 48; refine (HSub.out _).mono ?_; rintro e w1 ⟨rfl, hbl⟩; obtain ⟨hb1, z1, q0, q1, q2, q3, p0, p1, f, g⟩ := IW.below (iw2 w) hbl; have z0 : w.heap.size < w1.heap.size := (by omega); have z02 : w.heap.size < w1.heap.size + 1 := (by omega); clear hbl)
        | (go_at_call 51; refine (narrow_no _ HK.out _).mono ?_; rintro e w' ⟨rfl, c1, rfl⟩)
        | (go_at_call 31; refine (realOf_any _ ka ia ra sa hz.out.1 hz.out.2 _).mono ?_; rintro e w' ⟨rfl, c1, rfl⟩))
      simp [bodyPost, results, Yaad.results29, go_sem, *]
      exact below_end hb1 _ _ _ _ _ _ _ _
    · go_enter Yaad.func29, Yaad.ntmps29
      go_wp2_with (first
        | (go_at_call_of 45 a; refine (wide_any a ha _).mono ?_; rintro e w' ⟨rfl, c1, rfl⟩)
        | (go_at_call_of 45 b; refine (wide_any b hb _).mono ?_; rintro e w' ⟨rfl, c1, rfl⟩)
        | (go_at_call 48; refine (HSub.out _).mono ?_; rintro e w1 ⟨rfl, hbl⟩; obtain ⟨hb1, z1, q0, q1, q2, q3, p0, p1, f, g⟩ := IW.below (iw2 w) hbl; have z0 : w.heap.size < w1.heap.size := (by omega); have z02 : w.heap.size < w1.heap.size + 1 := (by omega); clear hbl)
        | (go_at_call 51; refine (narrow_no _ HK.out _).mono ?_; rintro e w' ⟨rfl, c1, rfl⟩)
        | (go_at_call 31; refine (realOf_any _ ka ia ra sa (hz.out _).1 (hz.out _).2 _).mono ?_; rintro e w' ⟨rfl, c1, rfl⟩))
      simp [bodyPost, results, Yaad.results29, go_sem, *]
      exact (below_end hb1 _ _ _ _ _ _ _ _).drew


end Go.Proofs.Ygdaag
