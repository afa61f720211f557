/-
  A Value that lies in a block; the shapes of a normal value; '==' of a REAL with itself. (For the road of ArithRight.)
-/
import Derived.Test.YgdaagNorm
namespace Go.Proofs.Ygdaag
namespace Ar
open Go.RowKit

theorem shapes {v : Vl} {k i : Int} {r : Nat} {s : ByteArray} (hw : Wf v) (h : norm v = ⟨k, i, r, s⟩) :
    (k = 0 ∧ i = 0 ∧ r = 0 ∧ s = ⟨#[]⟩) ∨ (k = 1 ∧ Num.fits i = true ∧ r = 0 ∧ s = ⟨#[]⟩) ∨
    (k = 2 ∧ i = 0 ∧ (Flt.nanB r = false ∧ negZ r = false ∧ r < 18446744073709551616) ∧ s = ⟨#[]⟩) ∨ (k = 3 ∧ i = 0 ∧ r = 0 ∧ s.size ≤ 8 ∧ Utf.valid s.data.toList = true) := by
  rcases norm_shape v hw with e | ⟨i', e, a⟩ | ⟨r', e, a, b, c⟩ | ⟨s', e, a, b⟩ <;> rw [h] at e <;> cases e
  · exact Or.inl ⟨rfl, rfl, rfl, rfl⟩
  · exact Or.inr (Or.inl ⟨rfl, a, rfl, rfl⟩)
  · exact Or.inr (Or.inr (Or.inl ⟨rfl, rfl, ⟨a, b, c⟩, rfl⟩))
  · exact Or.inr (Or.inr (Or.inr ⟨rfl, rfl, rfl, a, b⟩))

theorem norm_r {v : Vl} {k i : Int} {r : Nat} {s : ByteArray} (hw : Wf v) (h : norm v = ⟨k, i, r, s⟩) : Flt.nanB r = false := by
  rcases shapes hw h with ⟨_, _, rfl, _⟩ | ⟨_, _, rfl, _⟩ | ⟨_, _, q, _⟩ | ⟨_, _, rfl, _⟩
  · decide
  · decide
  · exact q.1
  · decide

theorem eqf_self (r : Nat) (h : Flt.nanB r = false) (w : World) : (Op.equalIn 9999 23 (.float .f64 r) (.float .f64 r)).run Yaad.prog w = .ok true w := by
  have : eqB r r = true := Flt.eq_self h
  rw [show (9999 : Nat) = 9998 + 1 from rfl, Op.equalIn]
  simpa [run_underlying Yaad.underlying23, Op.floatEq, eqB] using this

def At (W : World) (p : Nat) (k i : Int) (r : Nat) (s : ByteArray) : Prop :=
  p < W.heap.size ∧ W.cell? ⟨p, 0, none⟩ = some (.int .u8 k) ∧ W.cell? ⟨p, 1, none⟩ = some (.int .i64 i) ∧ W.cell? ⟨p, 2, none⟩ = some (.float .f64 r) ∧ W.cell? ⟨p, 3, none⟩ = some (.string s)

section
variable {W W1 : World} {p : Nat} {k i : Int} {r : Nat} {s : ByteArray}
theorem At.below (h : At W p k i r s) (hb : Below W.heap.size W W1) : At W1 p k i r s := by
  obtain ⟨h0, h1, h2, h3, h4⟩ := h
  refine ⟨Nat.lt_of_lt_of_le h0 hb.size, ?_, ?_, ?_, ?_⟩
  · rw [hb.cell (p := ⟨p, 0, none⟩) h0]; exact h1
  · rw [hb.cell (p := ⟨p, 1, none⟩) h0]; exact h2
  · rw [hb.cell (p := ⟨p, 2, none⟩) h0]; exact h3
  · rw [hb.cell (p := ⟨p, 3, none⟩) h0]; exact h4
theorem At.drew (h : At W p k i r s) : At W.drew p k i r s := h
theorem At.alloc (h : At W p k i r s) (o : Obj) : At (W.alloc o) p k i r s := h.below ((Below.refl _ _).alloc (Nat.le_refl _) o)
theorem At.new (hp : p = W.heap.size) : At (W.alloc (.cells #[.int .u8 k, .int .i64 i, .float .f64 r, .string s] 25)) p k i r s := by
  subst hp
  refine ⟨by simp, ?_, ?_, ?_, ?_⟩ <;> simp [go_sem]
end
end Ar
end Go.Proofs.Ygdaag
