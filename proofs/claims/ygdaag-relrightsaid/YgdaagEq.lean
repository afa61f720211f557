/-
  '==' of two Values; a Value that lies in a block.
-/
import Derived.Test.YgdaagRel
import Derived.Laws.StructEq
namespace Go.Proofs.Ygdaag
open Go.RowKit

/-- '==' of two Values. -/
def eqV (k i : Int) (r : Nat) (s : ByteArray) (k2 i2 : Int) (r2 : Nat) (s2 : ByteArray) : Bool := k == k2 && (i == i2 && (eqB r r2 && s == s2))

@[go_sem] theorem eq25 (k i : Int) (r : Nat) (s : ByteArray) (k2 i2 : Int) (r2 : Nat) (s2 : ByteArray) (w : World) :
    (Op.equalIn 10000 25 (.agg #[.int .u8 k, .int .i64 i, .float .f64 r, .string s]) (.agg #[.int .u8 k2, .int .i64 i2, .float .f64 r2, .string s2])).run Yaad.prog w = .ok (eqV k i r s k2 i2 r2 s2) w := by
  have u22 := Yaad.underlying22
  have u2 := Yaad.underlying2
  have u23 := Yaad.underlying23
  have u9 := Yaad.underlying9
  have a22 := Yaad.isAgg22
  have a2 := Yaad.isAgg2
  have a23 := Yaad.isAgg23
  have a9 := Yaad.isAgg9
  have z22 := Yaad.sizeOf22
  have z2 := Yaad.sizeOf2
  have z23 := Yaad.sizeOf23
  have z9 := Yaad.sizeOf9
  have hS : Yaad.prog.underlying 25 = some (.struct (Yaad.prog.fieldsOf 25)) := by kernel_rfl
  have hp : Yaad.prog.stoodInHeld 25 = false := by kernel_rfl
  rw [show (10000 : Nat) = 9999 + 1 from rfl, run_equalIn_agg w 9999 25 _ _ hS hp]
  have hf : ∀ w, (Op.equalIn 9999 23 (.float .f64 r) (.float .f64 r2)).run Yaad.prog w = .ok (eqB r r2) w := fun w => by
    rw [show (9999 : Nat) = 9998 + 1 from rfl, Op.equalIn]
    simp [run_underlying Yaad.underlying23, Op.floatEq, eqB]
  simp only [Program.fieldsOf, Yaad.underlying25]
  have hse : (s == s2) = (s.toList == s2.toList) := beq_toListBytes s s2
  unfold eqV
  rw [hse]
  go_simp
  by_cases h1 : k = k2 <;> by_cases h2 : i = i2 <;> by_cases h4 : s.toList = s2.toList <;> cases h3 : eqB r r2 <;> simp [h1, h2, h4]

theorem eqV_self (k i : Int) (r : Nat) (s : ByteArray) (h : Flt.nanB r = false) : eqV k i r s k i r s = true := by
  have : eqB r r = true := Flt.eq_self h
  unfold eqV
  rw [this, beq_toListBytes]
  simp

/-- '==' of a REAL with itself, as the walk comes to it inside a Value's '=='. -/
theorem eqf_self (r : Nat) (h : Flt.nanB r = false) (w : World) : (Op.equalIn 9999 23 (.float .f64 r) (.float .f64 r)).run Yaad.prog w = .ok true w := by
  have : eqB r r = true := Flt.eq_self h
  rw [show (9999 : Nat) = 9998 + 1 from rfl, Op.equalIn]
  simpa [run_underlying Yaad.underlying23, Op.floatEq, eqB] using this

theorem relF_r {op : Int} {a b : Vl} {k i : Int} {r : Nat} {s : ByteArray} (h : relF op a b = ⟨k, i, r, s⟩) : Flt.nanB r = false := by
  unfold relF at h
  split at h
  · have : (0 : Nat) = r := (ofMk h).2.2.1
    subst this; decide
  · have : (0 : Nat) = r := (ofMk h).2.2.1
    subst this; decide

theorem norm_r {v : Vl} {k i : Int} {r : Nat} {s : ByteArray} (hw : Wf v) (h : norm v = ⟨k, i, r, s⟩) : Flt.nanB r = false := by
  rcases shapes hw h with ⟨_, _, rfl, _⟩ | ⟨_, _, rfl, _⟩ | ⟨_, _, q, _⟩ | ⟨_, _, rfl, _⟩
  · decide
  · decide
  · exact q.1
  · decide

theorem catF_r {a b : Vl} {k i : Int} {r : Nat} {s : ByteArray} (h : catF a b = ⟨k, i, r, s⟩) : Flt.nanB r = false := by
  unfold catF at h
  split at h
  · rename_i hc
    have hs : (a.s ++ b.s).size ≤ maxLen := by rw [ByteArray.size_append]; unfold maxLen; omega
    exact norm_r ⟨by simp [vText], by simp [vText], by simp [vText]; decide, by simp [vText], hs⟩ h
  · have : (0 : Nat) = r := (ofMk h).2.2.1
    subst this; decide

/-- A VALUE LIES IN BLOCK p. -/
def At (W : World) (p : Nat) (k i : Int) (r : Nat) (s : ByteArray) : Prop :=
  p < W.heap.size ∧ W.cell? ⟨p, 0, none⟩ = some (.int .u8 k) ∧ W.cell? ⟨p, 1, none⟩ = some (.int .i64 i) ∧ W.cell? ⟨p, 2, none⟩ = some (.float .f64 r) ∧ W.cell? ⟨p, 3, none⟩ = some (.string s)

section
variable {W W1 : World} {p : Nat} {k i : Int} {r : Nat} {s : ByteArray}
theorem At.below (h : At W p k i r s) (hb : Below W.heap.size W W1) : At W1 p k i r s := by
  obtain ⟨h0, h1, h2, h3, h4⟩ := h
  refine ⟨Nat.lt_of_lt_of_le h0 hb.size, ?_, ?_, ?_, ?_⟩
  · rw [hb.cell (p := ⟨p, 0, none⟩) h0]; exact h1
  · rw [hb.cell (p := ⟨p, 1, none⟩) h0]; exact h2
  · rw [hb.cell (p := ⟨p, 2, none⟩) h0]; exact h3
  · rw [hb.cell (p := ⟨p, 3, none⟩) h0]; exact h4
theorem At.drew (h : At W p k i r s) : At W.drew p k i r s := h
theorem At.drewN (h : At W p k i r s) (n : Nat) : At (W.drewN n) p k i r s := h
theorem At.alloc (h : At W p k i r s) (o : Obj) : At (W.alloc o) p k i r s :=
  h.below ((Below.refl _ _).alloc (Nat.le_refl _) o)
theorem At.new (W : World) (k i : Int) (r : Nat) (s : ByteArray) : At (W.alloc (.cells #[.int .u8 k, .int .i64 i, .float .f64 r, .string s] 25)) W.heap.size k i r s := by
  refine ⟨by simp, ?_, ?_, ?_, ?_⟩ <;> simp [go_sem]
theorem At.new' (hp : p = W.heap.size) : At (W.alloc (.cells #[.int .u8 k, .int .i64 i, .float .f64 r, .string s] 25)) p k i r s := by
  subst hp; exact At.new W k i r s
theorem At.setCell (h : At W p k i r s) {q : Addr} (hq : q.block ≠ p) (v : Value) : At (W.setCell q v) p k i r s := by
  obtain ⟨h0, h1, h2, h3, h4⟩ := h
  have e : ∀ j, (W.setCell q v).cell? ⟨p, j, none⟩ = W.cell? ⟨p, j, none⟩ := fun j =>
    World.cell?_of_block (w := W) (Below.heap_setCell W q v p (by exact fun e => hq e.symm))
  refine ⟨?_, ?_, ?_, ?_, ?_⟩
  · simpa [World.setCell] using h0
  · rw [e]; exact h1
  · rw [e]; exact h2
  · rw [e]; exact h3
  · rw [e]; exact h4
end
end Go.Proofs.Ygdaag
