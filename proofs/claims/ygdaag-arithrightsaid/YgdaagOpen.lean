/-
  A Value that comes in: opened and shut.
-/
import Derived.Test.YgdaagNorm
import Derived.ProofKit
import Derived.Lib.SmallJoins
namespace Go.Proofs.Ygdaag
open Go.ChangeShapes Go.WideShapes Go.ChangeAt Go.RowKit Go.Joins

theorem Yaad.own : ownKnob Yaad.prog.godebug = none := by kernel_rfl

section
variable {H : Type} {enc : TypeId × Value → H} {P : Program} {w : World} {base : Nat} {spare : Nat → Bool} {held : Bool} {fuel : Nat} {t : TypeId} {cs : List Value} {x : DataW H × List MemPlace}
theorem trodFloat {k : FloatKind} (ht : P.underlying t = some (.float k)) (h : DataW.trod enc P w base spare held fuel t cs = some x) : ∃ b, cs = [.float k b] ∧ x = (.lit (.float k b), []) ∧ (Lit.float k b).wf = true := by
  cases fuel with
  | zero => simp [DataW.trod] at h
  | succ n =>
    unfold DataW.trod at h
    rw [ht] at h
    split at h <;> simp_all
end

/-- The four fields, read as data. -/
theorem open_value {H : Type} {enc : TypeId × Value → H} {W : World} {base b0 : Nat} {spare : Nat → Bool} {held : Bool} {rc : Reach} {v : Value} {d : DataW H} {p : List MemPlace}
    (hv : Value.okWide Yaad.prog W rc b0 25 v) (h : DataW.Trod enc Yaad.prog W base spare held 25 v d p) :
    ∃ (k i : Int) (r : Nat) (s : ByteArray), v = .agg #[.int .u8 k, .int .i64 i, .float .f64 r, .string s] ∧
      d = .agg [.lit (.int .u8 k), .lit (.int .i64 i), .lit (.float .f64 r), .lit (.string s.data.toList)] ∧ p = [] ∧ Wf ⟨k, i, r, s⟩ ∧
      (∀ (W' : World) (base' : Nat) (sp : Nat → Bool) (hd : Bool), DataW.Trod enc Yaad.prog W' base' sp hd 25 (.agg #[.int .u8 k, .int .i64 i, .float .f64 r, .string s]) (.agg [.lit (.int .u8 k), .lit (.int .i64 i), .lit (.float .f64 r), .lit (.string s.data.toList)]) []) := by
  obtain ⟨c0, c1, c2, c3, y0, y1, y2, y3, m, rfl, rfl, rfl, hy0, hy1, hy2, hy3⟩ := open_agg4 Yaad.underlying25 (by kernel_rfl) Yaad.cells25 hv h
  obtain ⟨k, e0, rfl, wk⟩ := DataW.trod_int Yaad.underlying22 hy0
  obtain ⟨i, e1, rfl, wi⟩ := DataW.trod_int Yaad.underlying2 hy1
  obtain ⟨r, e2, rfl, wr⟩ := trodFloat Yaad.underlying23 hy2
  obtain ⟨s, e3, rfl, ws⟩ := DataW.trod_string Yaad.underlying9 hy3
  simp only [List.cons.injEq, and_true] at e0 e1 e2 e3
  subst e0 e1 e2 e3
  refine ⟨k, i, r, s, rfl, rfl, rfl, ?_, ?_⟩
  · have a := wk
    have b := wi
    have c := wr
    simp [Lit.wf, IntKind.min, IntKind.max, IntKind.signed, IntKind.bits] at a b c
    refine ⟨a.1, by exact a.2, ?_, c, ws⟩
    unfold Num.fits
    simp only [decide_eq_true_eq]
    omega
  · intro W' base' sp hd
    exact shut_agg4 (y0 := (.lit (.int .u8 k), [])) (y1 := (.lit (.int .i64 i), [])) (y2 := (.lit (.float .f64 r), [])) (y3 := (.lit (.string s.data.toList), [])) Yaad.underlying25 (by kernel_rfl) Yaad.cells25
      ⟨1, by simp [DataW.trod, Yaad.underlying22, wk]⟩ ⟨1, by simp [DataW.trod, Yaad.underlying2, wi]⟩ ⟨1, by simp [DataW.trod, Yaad.underlying23, wr]⟩ ⟨1, by simp [DataW.trod, Yaad.underlying9, ws]⟩

end Go.Proofs.Ygdaag
