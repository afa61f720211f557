/-
  law.arithWant: the walk with a REAL.
-/
import Derived.Test.YgdaagAW
namespace Go.Proofs.Ygdaag
open Go.RowKit
open Num (fits fits_true fits_false hiW loW)

/-- What the float road answers. -/
def mixF (op : Int) (x y : Nat) : Vl := if op = 4 then vNull else if op = 3 ∧ eqB y 0 = true then vNull else fval (bop op) x y

set_option maxRecDepth 100000 in
set_option maxHeartbeats 2000000 in
theorem arithWant_mix1 (op : Int) (ho : 0 ≤ op) (ho' : op ≤ 4) (i : Int) (r : Nat) (s : ByteArray) (k2 i2 : Int) (r2 : Nat) (s2 : ByteArray) (n1 : numB 1 = true) (n2 : numB k2 = true) (h2 : (k2 == 1) = false)
    (x y : Nat) (hx : toFl 1 i r = x) (hy : toFl k2 i2 r2 = y) (ka ia : Int) (ra : Nat) (sa : ByteArray) (h : mixF op x y = ⟨ka, ia, ra, sa⟩) (w : World) :
    Calls Yaad.prog 13 #[.int .u8 op, .agg #[.int .u8 1, .int .i64 i, .float .f64 r, .string s], .agg #[.int .u8 k2, .int .i64 i2, .float .f64 r2, .string s2]] w fun e w' =>
      e = .returned (.agg #[.int .u8 ka, .int .i64 ia, .float .f64 ra, .string sa]) ∧ Below w.heap.size w w' := by
  have c1 : ∀ w, _ := fun w => numWant_any 1 i r s w
  have c2 : ∀ w, _ := fun w => numWant_any k2 i2 r2 s2 w
  have t1 : ∀ w, _ := fun w => toFloat_any 1 i r s w
  have t2 : ∀ w, _ := fun w => toFloat_any k2 i2 r2 s2 w
  rw [n1] at c1
  rw [n2] at c2
  rw [hx] at t1
  rw [hy] at t2
  have C1 : Hid _ := c1
  have C2 : Hid _ := c2
  have T1 : Hid _ := t1
  have T2 : Hid _ := t2
  have HM : Hid _ := h
  clear c1 c2 t1 t2 n1 n2 hx hy h
  by_cases o4 : op = 4
  · subst o4
    obtain ⟨rfl, rfl, rfl, rfl⟩ : ka = 0 ∧ ia = 0 ∧ ra = 0 ∧ sa = ⟨#[]⟩ := ofMk HM.out.symm
    clear HM
    go_enter Yaad.func13, Yaad.ntmps13
    go_wp2_with (first
      | (go_at_call_of 28 s; refine (C1.out _).mono ?_; rintro e w' ⟨rfl, d1, rfl⟩)
      | (go_at_call_of 28 s2; refine (C2.out _).mono ?_; rintro e w' ⟨rfl, d2, rfl⟩))
    simp [bodyPost, results, Yaad.results13, go_sem]
    repeat (refine Below.alloc ?_ (by simp; try omega) _)
    exact Below.refl _ _
  · have o4' : (op == 4) = false := by simpa using o4
    go_enter Yaad.func13, Yaad.ntmps13
    go_upto_region 8 with (first
      | (go_at_call_of 28 s; refine (C1.out _).mono ?_; rintro e w' ⟨rfl, d1, rfl⟩)
      | (go_at_call_of 28 s2; refine (C2.out _).mono ?_; rintro e w' ⟨rfl, d2, rfl⟩))
    go_region_held3 (fun w' => w'.cell? ⟨w.heap.size, 0, none⟩ = some (.int .u8 1) ∧ w'.cell? ⟨w.heap.size, 1, none⟩ = some (.int .i64 i) ∧ w'.cell? ⟨w.heap.size, 2, none⟩ = some (.float .f64 r) ∧ w'.cell? ⟨w.heap.size, 3, none⟩ = some (.string s) ∧
        w'.cell? ⟨w.heap.size + 1, 0, none⟩ = some (.int .u8 k2) ∧ w'.cell? ⟨w.heap.size + 1, 1, none⟩ = some (.int .i64 i2) ∧ w'.cell? ⟨w.heap.size + 1, 2, none⟩ = some (.float .f64 r2) ∧ w'.cell? ⟨w.heap.size + 1, 3, none⟩ = some (.string s2)) (simp [go_sem, World.cell?_alloc_past])
      (first
      | (go_at_call_of 30 s; refine (T1.out _).mono ?_; rintro e w' ⟨rfl, d3, rfl⟩)
      | (go_at_call_of 30 s2; refine (T2.out _).mono ?_; rintro e w' ⟨rfl, d4, rfl⟩))
    have hop : op = 0 ∨ op = 1 ∨ op = 2 ∨ op = 3 := by omega
    clear o4 o4' ho ho'
    rcases hop with rfl | rfl | rfl | rfl
    · have hfc := float_cases .add (by simp) x y
      rw [show fval .add x y = ⟨ka, ia, ra, sa⟩ from HM.out] at hfc
      clear HM
      rcases hfc with ⟨z, hrun, hz⟩ | ⟨hrun, hz⟩
      · go_wp2_with (go_at_call 31; refine (realOf_any _ ka ia ra sa hz.out.1 hz.out.2 _).mono ?_; rintro e w' ⟨rfl, d5, rfl⟩)
        simp [bodyPost, results, Yaad.results13, go_sem]
        refine Below.drew ?_
        repeat (refine Below.alloc ?_ (by simp; try omega) _)
        exact Below.refl _ _
      · go_wp2_with (go_at_call 31; refine (realOf_any _ ka ia ra sa (hz.out _).1 (hz.out _).2 _).mono ?_; rintro e w' ⟨rfl, d5, rfl⟩)
        simp [bodyPost, results, Yaad.results13, go_sem]
        refine Below.drew ?_
        refine Below.drew ?_
        repeat (refine Below.alloc ?_ (by simp; try omega) _)
        exact Below.refl _ _
    · have hfc := float_cases .sub (by simp) x y
      rw [show fval .sub x y = ⟨ka, ia, ra, sa⟩ from HM.out] at hfc
      clear HM
      rcases hfc with ⟨z, hrun, hz⟩ | ⟨hrun, hz⟩
      · go_wp2_with (go_at_call 31; refine (realOf_any _ ka ia ra sa hz.out.1 hz.out.2 _).mono ?_; rintro e w' ⟨rfl, d5, rfl⟩)
        simp [bodyPost, results, Yaad.results13, go_sem]
        refine Below.drew ?_
        repeat (refine Below.alloc ?_ (by simp; try omega) _)
        exact Below.refl _ _
      · go_wp2_with (go_at_call 31; refine (realOf_any _ ka ia ra sa (hz.out _).1 (hz.out _).2 _).mono ?_; rintro e w' ⟨rfl, d5, rfl⟩)
        simp [bodyPost, results, Yaad.results13, go_sem]
        refine Below.drew ?_
        refine Below.drew ?_
        repeat (refine Below.alloc ?_ (by simp; try omega) _)
        exact Below.refl _ _
    · have hfc := float_cases .mul (by simp) x y
      rw [show fval .mul x y = ⟨ka, ia, ra, sa⟩ from HM.out] at hfc
      clear HM
      rcases hfc with ⟨z, hrun, hz⟩ | ⟨hrun, hz⟩
      · go_wp2_with (go_at_call 31; refine (realOf_any _ ka ia ra sa hz.out.1 hz.out.2 _).mono ?_; rintro e w' ⟨rfl, d5, rfl⟩)
        simp [bodyPost, results, Yaad.results13, go_sem]
        refine Below.drew ?_
        repeat (refine Below.alloc ?_ (by simp; try omega) _)
        exact Below.refl _ _
      · go_wp2_with (go_at_call 31; refine (realOf_any _ ka ia ra sa (hz.out _).1 (hz.out _).2 _).mono ?_; rintro e w' ⟨rfl, d5, rfl⟩)
        simp [bodyPost, results, Yaad.results13, go_sem]
        refine Below.drew ?_
        refine Below.drew ?_
        repeat (refine Below.alloc ?_ (by simp; try omega) _)
        exact Below.refl _ _
    · cases hq : eqB y 0 with
      | true =>
        have hq' : (FloatKind.f64.format.order y 0 == some Ordering.eq) = true := hq
        have e : mixF 3 x y = vNull := by
          unfold mixF
          rw [if_neg (by decide), if_pos ⟨rfl, hq⟩]
        obtain ⟨rfl, rfl, rfl, rfl⟩ : ka = 0 ∧ ia = 0 ∧ ra = 0 ∧ sa = ⟨#[]⟩ := ofMk (HM.out.symm.trans e)
        clear HM hq e
        go_wp2_with fail
        simp [bodyPost, results, Yaad.results13, go_sem]
        refine Below.drew ?_
        repeat (refine Below.alloc ?_ (by simp; try omega) _)
        exact Below.refl _ _
      | false =>
        have hq' : (FloatKind.f64.format.order y 0 == some Ordering.eq) = false := hq
        have hfc := float_cases .quo (by simp) x y
        have e : fval .quo x y = ⟨ka, ia, ra, sa⟩ := by
          refine Eq.trans ?_ HM.out
          unfold mixF
          rw [if_neg (by decide), if_neg (fun q => by rw [hq] at q; cases q.2)]
          rfl
        rw [e] at hfc
        clear HM hq e
        rcases hfc with ⟨z, hrun, hz⟩ | ⟨hrun, hz⟩
        · go_wp2_with (go_at_call 31; refine (realOf_any _ ka ia ra sa hz.out.1 hz.out.2 _).mono ?_; rintro e w' ⟨rfl, d5, rfl⟩)
          simp [bodyPost, results, Yaad.results13, go_sem]
          refine Below.drew ?_
          repeat (refine Below.alloc ?_ (by simp; try omega) _)
          exact Below.refl _ _
        · go_wp2_with (go_at_call 31; refine (realOf_any _ ka ia ra sa (hz.out _).1 (hz.out _).2 _).mono ?_; rintro e w' ⟨rfl, d5, rfl⟩)
          simp [bodyPost, results, Yaad.results13, go_sem]
          refine Below.drew ?_
          refine Below.drew ?_
          repeat (refine Below.alloc ?_ (by simp; try omega) _)
          exact Below.refl _ _

set_option maxRecDepth 100000 in
set_option maxHeartbeats 2000000 in
theorem arithWant_mix2 (op : Int) (ho : 0 ≤ op) (ho' : op ≤ 4) (k i : Int) (r : Nat) (s : ByteArray) (k2 i2 : Int) (r2 : Nat) (s2 : ByteArray) (n1 : numB k = true) (n2 : numB k2 = true) (h1 : (k == 1) = false)
    (x y : Nat) (hx : toFl k i r = x) (hy : toFl k2 i2 r2 = y) (ka ia : Int) (ra : Nat) (sa : ByteArray) (h : mixF op x y = ⟨ka, ia, ra, sa⟩) (w : World) :
    Calls Yaad.prog 13 #[.int .u8 op, .agg #[.int .u8 k, .int .i64 i, .float .f64 r, .string s], .agg #[.int .u8 k2, .int .i64 i2, .float .f64 r2, .string s2]] w fun e w' =>
      e = .returned (.agg #[.int .u8 ka, .int .i64 ia, .float .f64 ra, .string sa]) ∧ Below w.heap.size w w' := by
  have c1 : ∀ w, _ := fun w => numWant_any k i r s w
  have c2 : ∀ w, _ := fun w => numWant_any k2 i2 r2 s2 w
  have t1 : ∀ w, _ := fun w => toFloat_any k i r s w
  have t2 : ∀ w, _ := fun w => toFloat_any k2 i2 r2 s2 w
  rw [n1] at c1
  rw [n2] at c2
  rw [hx] at t1
  rw [hy] at t2
  have C1 : Hid _ := c1
  have C2 : Hid _ := c2
  have T1 : Hid _ := t1
  have T2 : Hid _ := t2
  have HM : Hid _ := h
  clear c1 c2 t1 t2 n1 n2 hx hy h
  by_cases o4 : op = 4
  · subst o4
    obtain ⟨rfl, rfl, rfl, rfl⟩ : ka = 0 ∧ ia = 0 ∧ ra = 0 ∧ sa = ⟨#[]⟩ := ofMk HM.out.symm
    clear HM
    go_enter Yaad.func13, Yaad.ntmps13
    go_wp2_with (first
      | (go_at_call_of 28 s; refine (C1.out _).mono ?_; rintro e w' ⟨rfl, d1, rfl⟩)
      | (go_at_call_of 28 s2; refine (C2.out _).mono ?_; rintro e w' ⟨rfl, d2, rfl⟩))
    simp [bodyPost, results, Yaad.results13, go_sem]
    repeat (refine Below.alloc ?_ (by simp; try omega) _)
    exact Below.refl _ _
  · have o4' : (op == 4) = false := by simpa using o4
    go_enter Yaad.func13, Yaad.ntmps13
    go_upto_region 8 with (first
      | (go_at_call_of 28 s; refine (C1.out _).mono ?_; rintro e w' ⟨rfl, d1, rfl⟩)
      | (go_at_call_of 28 s2; refine (C2.out _).mono ?_; rintro e w' ⟨rfl, d2, rfl⟩))
    go_region_held3 (fun w' => w'.cell? ⟨w.heap.size, 0, none⟩ = some (.int .u8 k) ∧ w'.cell? ⟨w.heap.size, 1, none⟩ = some (.int .i64 i) ∧ w'.cell? ⟨w.heap.size, 2, none⟩ = some (.float .f64 r) ∧ w'.cell? ⟨w.heap.size, 3, none⟩ = some (.string s) ∧
        w'.cell? ⟨w.heap.size + 1, 0, none⟩ = some (.int .u8 k2) ∧ w'.cell? ⟨w.heap.size + 1, 1, none⟩ = some (.int .i64 i2) ∧ w'.cell? ⟨w.heap.size + 1, 2, none⟩ = some (.float .f64 r2) ∧ w'.cell? ⟨w.heap.size + 1, 3, none⟩ = some (.string s2)) (simp [go_sem, World.cell?_alloc_past])
      (first
      | (go_at_call_of 30 s; refine (T1.out _).mono ?_; rintro e w' ⟨rfl, d3, rfl⟩)
      | (go_at_call_of 30 s2; refine (T2.out _).mono ?_; rintro e w' ⟨rfl, d4, rfl⟩))
    have hop : op = 0 ∨ op = 1 ∨ op = 2 ∨ op = 3 := by omega
    clear o4 o4' ho ho'
    rcases hop with rfl | rfl | rfl | rfl
    · have hfc := float_cases .add (by simp) x y
      rw [show fval .add x y = ⟨ka, ia, ra, sa⟩ from HM.out] at hfc
      clear HM
      rcases hfc with ⟨z, hrun, hz⟩ | ⟨hrun, hz⟩
      · go_wp2_with (go_at_call 31; refine (realOf_any _ ka ia ra sa hz.out.1 hz.out.2 _).mono ?_; rintro e w' ⟨rfl, d5, rfl⟩)
        simp [bodyPost, results, Yaad.results13, go_sem]
        refine Below.drew ?_
        repeat (refine Below.alloc ?_ (by simp; try omega) _)
        exact Below.refl _ _
      · go_wp2_with (go_at_call 31; refine (realOf_any _ ka ia ra sa (hz.out _).1 (hz.out _).2 _).mono ?_; rintro e w' ⟨rfl, d5, rfl⟩)
        simp [bodyPost, results, Yaad.results13, go_sem]
        refine Below.drew ?_
        refine Below.drew ?_
        repeat (refine Below.alloc ?_ (by simp; try omega) _)
        exact Below.refl _ _
    · have hfc := float_cases .sub (by simp) x y
      rw [show fval .sub x y = ⟨ka, ia, ra, sa⟩ from HM.out] at hfc
      clear HM
      rcases hfc with ⟨z, hrun, hz⟩ | ⟨hrun, hz⟩
      · go_wp2_with (go_at_call 31; refine (realOf_any _ ka ia ra sa hz.out.1 hz.out.2 _).mono ?_; rintro e w' ⟨rfl, d5, rfl⟩)
        simp [bodyPost, results, Yaad.results13, go_sem]
        refine Below.drew ?_
        repeat (refine Below.alloc ?_ (by simp; try omega) _)
        exact Below.refl _ _
      · go_wp2_with (go_at_call 31; refine (realOf_any _ ka ia ra sa (hz.out _).1 (hz.out _).2 _).mono ?_; rintro e w' ⟨rfl, d5, rfl⟩)
        simp [bodyPost, results, Yaad.results13, go_sem]
        refine Below.drew ?_
        refine Below.drew ?_
        repeat (refine Below.alloc ?_ (by simp; try omega) _)
        exact Below.refl _ _
    · have hfc := float_cases .mul (by simp) x y
      rw [show fval .mul x y = ⟨ka, ia, ra, sa⟩ from HM.out] at hfc
      clear HM
      rcases hfc with ⟨z, hrun, hz⟩ | ⟨hrun, hz⟩
      · go_wp2_with (go_at_call 31; refine (realOf_any _ ka ia ra sa hz.out.1 hz.out.2 _).mono ?_; rintro e w' ⟨rfl, d5, rfl⟩)
        simp [bodyPost, results, Yaad.results13, go_sem]
        refine Below.drew ?_
        repeat (refine Below.alloc ?_ (by simp; try omega) _)
        exact Below.refl _ _
      · go_wp2_with (go_at_call 31; refine (realOf_any _ ka ia ra sa (hz.out _).1 (hz.out _).2 _).mono ?_; rintro e w' ⟨rfl, d5, rfl⟩)
        simp [bodyPost, results, Yaad.results13, go_sem]
        refine Below.drew ?_
        refine Below.drew ?_
        repeat (refine Below.alloc ?_ (by simp; try omega) _)
        exact Below.refl _ _
    · cases hq : eqB y 0 with
      | true =>
        have hq' : (FloatKind.f64.format.order y 0 == some Ordering.eq) = true := hq
        have e : mixF 3 x y = vNull := by
          unfold mixF
          rw [if_neg (by decide), if_pos ⟨rfl, hq⟩]
        obtain ⟨rfl, rfl, rfl, rfl⟩ : ka = 0 ∧ ia = 0 ∧ ra = 0 ∧ sa = ⟨#[]⟩ := ofMk (HM.out.symm.trans e)
        clear HM hq e
        go_wp2_with fail
        simp [bodyPost, results, Yaad.results13, go_sem]
        refine Below.drew ?_
        repeat (refine Below.alloc ?_ (by simp; try omega) _)
        exact Below.refl _ _
      | false =>
        have hq' : (FloatKind.f64.format.order y 0 == some Ordering.eq) = false := hq
        have hfc := float_cases .quo (by simp) x y
        have e : fval .quo x y = ⟨ka, ia, ra, sa⟩ := by
          refine Eq.trans ?_ HM.out
          unfold mixF
          rw [if_neg (by decide), if_neg (fun q => by rw [hq] at q; cases q.2)]
          rfl
        rw [e] at hfc
        clear HM hq e
        rcases hfc with ⟨z, hrun, hz⟩ | ⟨hrun, hz⟩
        · go_wp2_with (go_at_call 31; refine (realOf_any _ ka ia ra sa hz.out.1 hz.out.2 _).mono ?_; rintro e w' ⟨rfl, d5, rfl⟩)
          simp [bodyPost, results, Yaad.results13, go_sem]
          refine Below.drew ?_
          repeat (refine Below.alloc ?_ (by simp; try omega) _)
          exact Below.refl _ _
        · go_wp2_with (go_at_call 31; refine (realOf_any _ ka ia ra sa (hz.out _).1 (hz.out _).2 _).mono ?_; rintro e w' ⟨rfl, d5, rfl⟩)
          simp [bodyPost, results, Yaad.results13, go_sem]
          refine Below.drew ?_
          refine Below.drew ?_
          repeat (refine Below.alloc ?_ (by simp; try omega) _)
          exact Below.refl _ _

/-- THE CONTRACT. -/
theorem arithWant_any (op : Int) (ho : 0 ≤ op) (k i : Int) (r : Nat) (s : ByteArray) (k2 i2 : Int) (r2 : Nat) (s2 : ByteArray) (hi : fits i = true) (hi2 : fits i2 = true)
    (ka ia : Int) (ra : Nat) (sa : ByteArray) (h : arithF op ⟨k, i, r, s⟩ ⟨k2, i2, r2, s2⟩ = ⟨ka, ia, ra, sa⟩) (w : World) :
    Calls Yaad.prog 13 #[.int .u8 op, .agg #[.int .u8 k, .int .i64 i, .float .f64 r, .string s], .agg #[.int .u8 k2, .int .i64 i2, .float .f64 r2, .string s2]] w fun e w' =>
      e = .returned (.agg #[.int .u8 ka, .int .i64 ia, .float .f64 ra, .string sa]) ∧ Below w.heap.size w w' := by
  unfold arithF at h
  simp only at h
  by_cases hn : 4 < op ∨ numB k = false ∨ numB k2 = false
  · rw [if_pos hn] at h
    obtain ⟨rfl, rfl, rfl, rfl⟩ : ka = 0 ∧ ia = 0 ∧ ra = 0 ∧ sa = ⟨#[]⟩ := ofMk h.symm
    exact arithWant_null op k i r s k2 i2 r2 s2 hn w
  · rw [if_neg hn] at h
    have o4 : op ≤ 4 := by
      by_cases q : 4 < op
      · exact absurd (Or.inl q) hn
      · omega
    have n1 : numB k = true := by
      cases q : numB k with
      | false => exact absurd (Or.inr (Or.inl q)) hn
      | true => rfl
    have n2 : numB k2 = true := by
      cases q : numB k2 with
      | false => exact absurd (Or.inr (Or.inr q)) hn
      | true => rfl
    by_cases hii : k = 1 ∧ k2 = 1
    · rw [if_pos hii] at h
      obtain ⟨rfl, rfl⟩ := hii
      exact arithWant_int op ho o4 i r s i2 r2 s2 hi hi2 ka ia ra sa h w
    · rw [if_neg hii] at h
      by_cases k1 : k = 1
      · subst k1
        exact arithWant_mix1 op ho o4 i r s k2 i2 r2 s2 n1 n2 (by simpa using hii) _ _ rfl rfl ka ia ra sa h w
      · exact arithWant_mix2 op ho o4 k i r s k2 i2 r2 s2 n1 n2 (by simpa using k1) _ _ rfl rfl ka ia ra sa h w

end Go.Proofs.Ygdaag
