/-
  law.ArithRight: THE ROW PROVED.
-/
import Derived.Test.YgdaagARW
import Derived.Test.YgdaagOpen
namespace Go.Proofs.Ygdaag
open Go.ChangeShapes Go.WideShapes Go.ChangeAt Go.RowKit Go.Joins

set_option maxHeartbeats 400000 in
theorem arithRightTop_any (op : Int) (ho : 0 ≤ op) (k i : Int) (r : Nat) (s : ByteArray) (hw : Wf ⟨k, i, r, s⟩) (k2 i2 : Int) (r2 : Nat) (s2 : ByteArray) (hw2 : Wf ⟨k2, i2, r2, s2⟩) (w : World) :
    Calls Yaad.prog 3 #[.int .u8 op, .agg #[.int .u8 k, .int .i64 i, .float .f64 r, .string s], .agg #[.int .u8 k2, .int .i64 i2, .float .f64 r2, .string s2]] w fun e w' =>
      e = .returned (.bool true) ∧ Below w.heap.size w w' := by
  go_enter Yaad.func3, Yaad.ntmps3
  go_wp2_with (go_at_call 5; refine (arithRight_any op ho k i r s hw k2 i2 r2 s2 hw2 _).mono ?_; rintro e w1 ⟨rfl, hb⟩)
  go_ret
  refine ⟨rfl, Below.trans ?_ (hb.mono (by simp; omega))⟩
  exact ((Below.refl _ _).alloc (Nat.le_refl _) _).alloc (by simp) _

set_option maxRecDepth 100000 in
theorem arithRight_lifted (os : Os) (started : os.Started) (H : Type) (enc : TypeId × Value → H) :
    ReturnsInHanded {} Yaad.checked os 3 .any (Rows.arithRightSpec.pre6 enc Yaad.prog Yaad.f3 Rows.arithRightRow.domain false) (Rows.arithRightSpec.post enc Yaad.prog Yaad.f3 false true false false) := by
  refine returnsInHanded_of_change (C := Yaad.checked) Yaad.own started (by kernel_rfl) Yaad.func3
    (ChangeSpec.witness6 (enc := enc) (C := Yaad.checked) false ⟨#[], #[.int .u8 0, .agg #[.int .u8 0, .int .i64 0, .float .f64 0, .string ⟨#[]⟩], .agg #[.int .u8 0, .int .i64 0, .float .f64 0, .string ⟨#[]⟩]], []⟩ 8 (by kernel_rfl) (by kernel_rfl) (by kernel_rfl) (by kernel_rfl)) ?_
  intro W base args ds gs before hval0 hW hcnd _
  have hval : ∀ (j : Nat) t v, Yaad.f3.params[j]? = some t → args[j]? = some v → Value.okWide Yaad.prog W .any base t v := hval0
  have hW' := hW
  obtain ⟨p, q, hA0, hV, rfl, hfz, hnd⟩ := hW
  have hA : DataW.TrodAll enc Yaad.prog W 0 (fun _ => true) true Yaad.f3.params.toList args.toList ds p := hA0
  rw [Yaad.params3] at hA hval
  obtain ⟨v0, v1, v2, d0, d1, d2, p0, p1, p2, rfl, rfl, rfl, h0, h1, h2⟩ := trodAll_three hA
  obtain ⟨rfl, rfl⟩ := trodVars_none hV
  obtain ⟨op, rfl, rfl, rfl, wo⟩ := open_int Yaad.underlying5 (hval 0 5 v0 rfl rfl) h0
  obtain ⟨k, i, r, s, rfl, rfl, rfl, hw1, shut1⟩ := open_value (hval 1 25 v1 rfl rfl) h1
  obtain ⟨k2, i2, r2, s2, rfl, rfl, rfl, hw2, shut2⟩ := open_value (hval 2 25 v2 rfl rfl) h2
  clear hA0 hval0
  simp only [List.append_nil] at hW'
  have ho : 0 ≤ op := by
    have a := wo
    simp [Lit.wf, IntKind.min, IntKind.max, IntKind.signed, IntKind.bits] at a
    exact a.1
  refine (arithRightTop_any op ho k i r s hw1 k2 i2 r2 s2 hw2 W).mono fun e W' ⟨he, hb⟩ => ?_
  subst he
  exact ⟨_, rfl, _, _, _, [], [], [], hW', trodAll_mk1 (shut_bool Yaad.underlying4 _), trodAll_mk3 (shut_int Yaad.underlying5 wo) (shut1 _ _ _ _) (shut2 _ _ _ _), rfl, hb.frame _, fun h => by cases h⟩

theorem arithRight_holds : Rows.ArithRightSaid :=
  OpenClaim.holds_of_wide 3 Yaad.f3 rfl rfl rfl rfl rfl rfl rfl ⟨rfl, rfl, rfl, rfl, rfl⟩ rfl rfl rfl rfl rfl (by kernel_rfl) Yaad.func3 (by kernel_rfl)
    (of_decide_eq_true (by kernel_rfl)) (by unfold Func.isWrapper; first | (rw [if_pos (by decide +kernel)]; kernel_rfl) | (rw [if_neg (by decide +kernel)]; exact ⟨rfl, rfl⟩))
    (fun os started H enc _ => arithRight_lifted os started H enc)

end Go.Proofs.Ygdaag
