/-
  law.arithWant: the walk.
-/
import Derived.Test.YgdaagIW2
import Derived.Deep.CutBlock
import Derived.Deep.DeepCutAuto
namespace Go.Proofs.Ygdaag
open Go.RowKit
open Num (fits fits_true fits_false hiW loW)

/-- val.Arith, of two normal values. -/
def arithF (op : Int) (a b : Vl) : Vl :=
  if 4 < op ∨ numB a.k = false ∨ numB b.k = false then vNull
  else if a.k = 1 ∧ b.k = 1 then intF op a.i b.i
  else if op = 4 then vNull
  else if op = 3 ∧ eqB (toFl b.k b.i b.r) 0 = true then vNull
  else fval (bop op) (toFl a.k a.i a.r) (toFl b.k b.i b.r)

/-- A block of a Value that may be written. -/
def Room (W : World) (p : Nat) : Prop := p < W.heap.size ∧
  W.cell? ⟨p, 0, none⟩ = some (.int .u8 0) ∧ W.cell? ⟨p, 1, none⟩ = some (.int .i64 0) ∧ W.cell? ⟨p, 2, none⟩ = some (.float .f64 0) ∧ W.cell? ⟨p, 3, none⟩ = some (.string ⟨#[]⟩) ∧ (∀ j, W.frozen? ⟨p, j, none⟩ = false)

theorem Room.below {W w1 : World} {p : Nat} (h : Room W p) (hb : Below W.heap.size W w1) : Room w1 p := by
  obtain ⟨h0, h1, h2, h3, h4, f⟩ := h
  refine ⟨Nat.lt_of_lt_of_le h0 hb.size, ?_, ?_, ?_, ?_, fun j => ?_⟩
  · rw [hb.cell (p := ⟨p, 0, none⟩) h0]; exact h1
  · rw [hb.cell (p := ⟨p, 1, none⟩) h0]; exact h2
  · rw [hb.cell (p := ⟨p, 2, none⟩) h0]; exact h3
  · rw [hb.cell (p := ⟨p, 3, none⟩) h0]; exact h4
  · rw [hb.frozen (p := ⟨p, j, none⟩) h0]; exact f j
theorem Room.alloc {W : World} {p : Nat} (h : Room W p) (o : Obj) : Room (W.alloc o) p := h.below ((Below.refl _ _).alloc (Nat.le_refl _) o)
theorem Room.drew {W : World} {p : Nat} (h : Room W p) : Room W.drew p := h
theorem Room.new {W : World} {p : Nat} (hp : p = W.heap.size) : Room (W.alloc (.cells #[.int .u8 0, .int .i64 0, .float .f64 0, .string ⟨#[]⟩] 25)) p := by
  subst hp
  refine ⟨by simp, ?_, ?_, ?_, ?_, fun j => ?_⟩ <;> simp [go_sem]

theorem below_res {w w1 : World} {p : Nat} (hb1 : Below w.heap.size w w1) (hp : w.heap.size ≤ p) (v3 v4 v5 v6 : Value) :
    Below w.heap.size w ((((w1.setCell ⟨p, 0, none⟩ v3).setCell ⟨p, 1, none⟩ v4).setCell ⟨p, 2, none⟩ v5).setCell ⟨p, 3, none⟩ v6) := by
  refine Below.setCell ?_ (by exact hp) _
  refine Below.setCell ?_ (by exact hp) _
  refine Below.setCell ?_ (by exact hp) _
  refine Below.setCell ?_ (by exact hp) _
  exact hb1

set_option maxRecDepth 100000 in
set_option maxHeartbeats 2000000 in
theorem arithWant_null (op : Int) (k i : Int) (r : Nat) (s : ByteArray) (k2 i2 : Int) (r2 : Nat) (s2 : ByteArray) (h : 4 < op ∨ numB k = false ∨ numB k2 = false) (w : World) :
    Calls Yaad.prog 13 #[.int .u8 op, .agg #[.int .u8 k, .int .i64 i, .float .f64 r, .string s], .agg #[.int .u8 k2, .int .i64 i2, .float .f64 r2, .string s2]] w fun e w' =>
      e = .returned (.agg #[.int .u8 0, .int .i64 0, .float .f64 0, .string ⟨#[]⟩]) ∧ Below w.heap.size w w' := by
  have c1 := fun w => numWant_any k i r s w
  have c2 := fun w => numWant_any k2 i2 r2 s2 w
  by_cases o4 : 4 < op
  · clear h c1 c2
    go_enter Yaad.func13, Yaad.ntmps13
    go_wp2_with fail
    simp [bodyPost, results, Yaad.results13, go_sem]
    repeat (refine Below.alloc ?_ (by simp; try omega) _)
    exact Below.refl _ _
  · cases n1 : numB k with
    | false =>
      rw [n1] at c1
      have C1 : Hid _ := c1
      clear h n1 c1 c2
      go_enter Yaad.func13, Yaad.ntmps13
      go_wp2_with (go_at_call 28; refine (C1.out _).mono ?_; rintro e w' ⟨rfl, d1, rfl⟩)
      simp [bodyPost, results, Yaad.results13, go_sem]
      repeat (refine Below.alloc ?_ (by simp; try omega) _)
      exact Below.refl _ _
    | true =>
      have n2 : numB k2 = false := by
        rcases h with q | q | q
        · exact absurd q o4
        · rw [n1] at q; cases q
        · exact q
      rw [n1] at c1
      rw [n2] at c2
      have C1 : Hid _ := c1
      have C2 : Hid _ := c2
      clear h n1 n2 c1 c2
      go_enter Yaad.func13, Yaad.ntmps13
      go_wp2_with (first | (go_at_call_of 28 s; refine (C1.out _).mono ?_; rintro e w' ⟨rfl, d1, rfl⟩) | (go_at_call_of 28 s2; refine (C2.out _).mono ?_; rintro e w' ⟨rfl, d1, rfl⟩))
      simp [bodyPost, results, Yaad.results13, go_sem]
      repeat (refine Below.alloc ?_ (by simp; try omega) _)
      exact Below.refl _ _

set_option maxRecDepth 100000 in
set_option maxHeartbeats 1000000 in
theorem arithWant_int (op : Int) (ho : 0 ≤ op) (ho' : op ≤ 4) (i : Int) (r : Nat) (s : ByteArray) (i2 : Int) (r2 : Nat) (s2 : ByteArray) (hi : fits i = true) (hi2 : fits i2 = true)
    (ka ia : Int) (ra : Nat) (sa : ByteArray) (h : intF op i i2 = ⟨ka, ia, ra, sa⟩) (w : World) :
    Calls Yaad.prog 13 #[.int .u8 op, .agg #[.int .u8 1, .int .i64 i, .float .f64 r, .string s], .agg #[.int .u8 1, .int .i64 i2, .float .f64 r2, .string s2]] w fun e w' =>
      e = .returned (.agg #[.int .u8 ka, .int .i64 ia, .float .f64 ra, .string sa]) ∧ Below w.heap.size w w' := by
  have c1 : ∀ w, _ := fun w => numWant_any 1 i r s w
  have c2 : ∀ w, _ := fun w => numWant_any 1 i2 r2 s2 w
  have e1 : numB 1 = true := rfl
  rw [e1] at c1 c2
  have C1 : Hid _ := c1
  have C2 : Hid _ := c2
  have hiw := fun w => intWant_any op i i2 ho ho' hi hi2 ka ia ra sa h w
  have HIW : Hid _ := hiw
  clear c1 c2 e1 hiw h
  go_enter Yaad.func13, Yaad.ntmps13
  go_wp2_with (first
    | (go_at_call_of 28 s; refine (C1.out _).mono ?_; rintro e w' ⟨rfl, d1, rfl⟩)
    | (go_at_call_of 28 s2; refine (C2.out _).mono ?_; rintro e w' ⟨rfl, d2, rfl⟩)
    | (go_at_call 29; refine (HIW.out _).mono ?_; rintro e w1 ⟨rfl, hbl⟩; obtain ⟨z0, q0, q1, q2, q3, f⟩ := Room.below (((Room.new (p := w.heap.size + 1 + 1) (by simp)).alloc _).alloc _) hbl))
  simp [bodyPost, results, Yaad.results13, go_sem, *]
  refine below_res ?_ (by omega) _ _ _ _
  refine Below.trans ?_ (hbl.mono (by simp; try omega))
  repeat (refine Below.alloc ?_ (by simp; try omega) _)
  exact Below.refl _ _

end Go.Proofs.Ygdaag
