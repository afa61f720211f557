/-
  val.Neg and law.arithRight: the walks.
-/
import Derived.Test.YgdaagAr
namespace Go.Proofs.Ygdaag
open Go.RowKit Ar
open Num (fits fits_true fits_false hiW loW)

theorem wf_int0 : Wf (vInt 0) := ⟨by decide, by decide, by decide, by decide, by decide⟩

theorem arithF_r {op : Int} {a b : Vl} {k i : Int} {r : Nat} {s : ByteArray} (h : arithF op a b = ⟨k, i, r, s⟩) : Flt.nanB r = false := by
  have hnull : ∀ {k i : Int} {r : Nat} {s : ByteArray}, vNull = ⟨k, i, r, s⟩ → Flt.nanB r = false := by
    intro k i r s e
    have : (0 : Nat) = r := (ofMk e).2.2.1
    subst this; decide
  have hfv : ∀ {o : BinOp} {x y : Nat} {k i : Int} {r : Nat} {s : ByteArray}, fval o x y = ⟨k, i, r, s⟩ → Flt.nanB r = false := by
    intro o x y k i r s e
    unfold fval at e
    split at e
    · rename_i z hz
      have hz' : z < 18446744073709551616 := (fres_some hz).1
      exact norm_r (v := vReal z) ⟨by simp [vReal], by simp [vReal], by simp [vReal]; decide, hz', by simp [vReal, ByteArray.size]⟩ e
    · exact hnull e
  unfold arithF at h
  split at h
  · exact hnull h
  · split at h
    · unfold intF at h
      split at h
      · have : (0 : Nat) = r := (ofMk h).2.2.1
        subst this; decide
      · split at h
        · exact hnull h
        · exact hfv h
    · split at h
      · exact hnull h
      · split at h
        · exact hnull h
        · exact hfv h

set_option maxRecDepth 100000 in
set_option maxHeartbeats 1000000 in
theorem neg'_any (k i : Int) (r : Nat) (s : ByteArray) (hw : Wf ⟨k, i, r, s⟩)
    (ka ia : Int) (ra : Nat) (sa : ByteArray) (hc : arithF 1 (norm (vInt 0)) (norm ⟨k, i, r, s⟩) = ⟨ka, ia, ra, sa⟩) (w : World) :
    Calls Yaad.prog 7 #[.agg #[.int .u8 k, .int .i64 i, .float .f64 r, .string s]] w fun e w' =>
      e = .returned (.agg #[.int .u8 ka, .int .i64 ia, .float .f64 ra, .string sa]) ∧ Below w.heap.size w w' := by
  have har := fun w => arith_any 1 (by decide) 1 0 0 ⟨#[]⟩ wf_int0 k i r s hw ka ia ra sa hc w
  have HAr : Hid _ := har
  clear har hc
  go_enter Yaad.func7, Yaad.ntmps7
  go_wp2_with fail
  go_region_held3 (fun w' => w'.cell? ⟨w.heap.size, 0, none⟩ = some (.int .u8 k) ∧ w'.cell? ⟨w.heap.size, 1, none⟩ = some (.int .i64 i) ∧ w'.cell? ⟨w.heap.size, 2, none⟩ = some (.float .f64 r) ∧ w'.cell? ⟨w.heap.size, 3, none⟩ = some (.string s)) (simp [go_sem, World.cell?_alloc_past, *])
    (first
    | (go_at_call 12; refine (intV_any _ _).mono ?_; rintro e w' ⟨rfl, d1, rfl⟩)
    | (go_at_call 6; refine (HAr.out _).mono ?_; rintro e w1 ⟨rfl, hbl⟩; obtain ⟨z0, q0, q1, q2, q3, f⟩ := Room.below (((Room.new (p := w.heap.size + 1) (by simp)).alloc _).drew) hbl; obtain ⟨y0, x0, x1, x2, x3⟩ := At.below ((((At.new (p := w.heap.size) rfl).alloc _).alloc _).drew) hbl))
  all_goals
    go_wp2_with fail
    simp [bodyPost, results, Yaad.results7, go_sem, *]
    refine below_res ?_ (by omega) _ _ _ _
    refine Below.trans ?_ (hbl.mono (by simp; try omega))
    refine Below.drew ?_
    repeat (refine Below.alloc ?_ (by simp; try omega) _)
    exact Below.refl _ _

set_option maxRecDepth 100000 in
set_option maxHeartbeats 4000000 in
theorem arithRight_any (op : Int) (ho : 0 ≤ op) (k i : Int) (r : Nat) (s : ByteArray) (hw : Wf ⟨k, i, r, s⟩) (k2 i2 : Int) (r2 : Nat) (s2 : ByteArray) (hw2 : Wf ⟨k2, i2, r2, s2⟩) (w : World) :
    Calls Yaad.prog 5 #[.func (.func 6) #[] #[], .func (.func 7) #[] #[], .int .u8 op, .agg #[.int .u8 k, .int .i64 i, .float .f64 r, .string s], .agg #[.int .u8 k2, .int .i64 i2, .float .f64 r2, .string s2]] w fun e w' =>
      e = .returned (.bool true) ∧ Below w.heap.size w w' := by
  rcases hneg : arithF 1 (norm (vInt 0)) (norm ⟨k, i, r, s⟩) with ⟨ka, ia, ra, sa⟩
  rcases hari : arithF op (norm ⟨k, i, r, s⟩) (norm ⟨k2, i2, r2, s2⟩) with ⟨kb, ib, rb, sb⟩
  have cneg := fun w => neg'_any k i r s hw ka ia ra sa hneg w
  have car1 := fun w => arith_any 1 (by decide) 1 0 0 ⟨#[]⟩ wf_int0 k i r s hw ka ia ra sa hneg w
  have car2 := fun w => arith_any op ho k i r s hw k2 i2 r2 s2 hw2 kb ib rb sb hari w
  have hv := wf_norm _ hw
  have hv2 := wf_norm _ hw2
  have e1 := eqf_self ra (arithF_r hneg)
  have e2 := eqf_self rb (arithF_r hari)
  rcases h : norm ⟨k, i, r, s⟩ with ⟨k', i', r', s'⟩
  rcases h2 : norm ⟨k2, i2, r2, s2⟩ with ⟨k2', i2', r2', s2'⟩
  rw [h, h2] at hari
  rw [h] at hv
  rw [h2] at hv2
  have cw := fun w => arithWant_any op ho k' i' r' s' k2' i2' r2' s2' hv.i hv2.i kb ib rb sb hari w
  have CNeg : Hid _ := cneg
  have CAr1 : Hid _ := car1
  have CAr2 : Hid _ := car2
  have CW : Hid _ := cw
  have H : Hid _ := h
  have H2 : Hid _ := h2
  clear cneg car1 car2 cw h h2 hneg hari hv hv2
  go_enter Yaad.func5, Yaad.ntmps5
  go_upto_region 1 with fail
  go_cut [18] from 11 (fun v wd => v = .bool false ∧ At wd w.heap.size k i r s ∧ At wd (w.heap.size + 1) k2 i2 r2 s2 ∧ Below w.heap.size w wd)
  case first =>
    have hA := ((At.new (W := w) (p := w.heap.size) (k := k) (i := i) (r := r) (s := s) rfl).alloc (.cells #[.int .u8 k2, .int .i64 i2, .float .f64 r2, .string s2] 25)).drew
    have hB := (At.new (W := w.alloc (.cells #[.int .u8 k, .int .i64 i, .float .f64 r, .string s] 25)) (p := w.heap.size + 1) (k := k2) (i := i2) (r := r2) (s := s2) (by simp)).drew
    go_region_held3 (fun w' => w'.cell? ⟨w.heap.size, 0, none⟩ = some (.int .u8 k) ∧ w'.cell? ⟨w.heap.size, 1, none⟩ = some (.int .i64 i) ∧ w'.cell? ⟨w.heap.size, 2, none⟩ = some (.float .f64 r) ∧ w'.cell? ⟨w.heap.size, 3, none⟩ = some (.string s)) (simp [go_sem, World.cell?_alloc_past, *])
      (first
      | (go_at_call 12; refine (intV_any _ _).mono ?_; rintro e w' ⟨rfl, d1, rfl⟩)
      | (go_at_call 7; refine (CNeg.out _).mono ?_; rintro e w1 ⟨rfl, hbl⟩; have hA1 := At.below hA hbl; obtain ⟨y0, x0, x1, x2, x3⟩ := id hA1)
      | (go_at_call 6; refine (CAr1.out _).mono ?_; rintro e w2 ⟨rfl, hbl2⟩; have hA2 := At.below (hA1.alloc _) hbl2; obtain ⟨y1, x4, x5, x6, x7⟩ := id hA2))
    go_wp2_with fail
    go_meet
    case rel =>
      refine ⟨rfl, hA2, At.below ((At.below hB hbl).alloc _) hbl2, ?_⟩
      have h0 : Below w.heap.size w w1 := by
        refine Below.trans ?_ (hbl.mono (by simp; try omega))
        refine Below.drew ?_
        exact ((Below.refl _ _).alloc (Nat.le_refl _) _).alloc (by simp) _
      have hz := h0.size
      exact (h0.alloc hz _).trans (hbl2.mono (by simp; try omega))
  case rest =>
    obtain ⟨rfl, hA, hB, hbb⟩ := hcut
    obtain ⟨za, a0, a1, a2, a3⟩ := id hA
    obtain ⟨zb, b0, b1, b2, b3⟩ := id hB
    clear CNeg CAr1 e1
    go_upto_region 3 with fail
    go_region_held3 (fun w' => w'.cell? ⟨w.heap.size, 0, none⟩ = some (.int .u8 k) ∧ w'.cell? ⟨w.heap.size, 1, none⟩ = some (.int .i64 i) ∧ w'.cell? ⟨w.heap.size, 2, none⟩ = some (.float .f64 r) ∧ w'.cell? ⟨w.heap.size, 3, none⟩ = some (.string s) ∧
        w'.cell? ⟨w.heap.size + 1, 0, none⟩ = some (.int .u8 k2) ∧ w'.cell? ⟨w.heap.size + 1, 1, none⟩ = some (.int .i64 i2) ∧ w'.cell? ⟨w.heap.size + 1, 2, none⟩ = some (.float .f64 r2) ∧ w'.cell? ⟨w.heap.size + 1, 3, none⟩ = some (.string s2)) (simp [go_sem, World.cell?_alloc_past, *])
      (first
      | (go_at_call 6; refine (CAr2.out _).mono ?_; rintro e w1 ⟨rfl, hbl⟩; have hA1 := At.below hA.drew hbl; have hB1 := At.below hB.drew hbl; obtain ⟨y0, x0, x1, x2, x3⟩ := id hA1; obtain ⟨y1, x4, x5, x6, x7⟩ := id hB1; have y02 : w.heap.size < w1.heap.size + 1 := (by omega); have y12 : w.heap.size + 1 < w1.heap.size + 1 := (by omega); have y03 : w.heap.size < w1.heap.size + 1 + 1 := (by omega); have y13 : w.heap.size + 1 < w1.heap.size + 1 + 1 := (by omega); have y04 : w.heap.size < w1.heap.size + 1 + 1 + 1 := (by omega); have y14 : w.heap.size + 1 < w1.heap.size + 1 + 1 + 1 := (by omega))
      | (go_at_call_of 14 s; refine (norm_any _ _ _ _ _ _ _ _ hw H.out _).mono ?_; rintro e w' ⟨rfl, c1, c2, rfl⟩)
      | (go_at_call_of 14 s2; refine (norm_any _ _ _ _ _ _ _ _ hw2 H2.out _).mono ?_; rintro e w' ⟨rfl, c3, c4, rfl⟩)
      | (go_at_call 13; refine (CW.out _).mono ?_; rintro e w2 ⟨rfl, hbl2⟩; obtain ⟨y5, x8, x9, x10, x11⟩ := At.below ((((hA1.alloc _).alloc _).alloc _).alloc _) hbl2; obtain ⟨y6, x12, x13, x14, x15⟩ := At.below ((((hB1.alloc _).alloc _).alloc _).alloc _) hbl2))
    go_wp2_with fail
    go_ret
    refine ⟨rfl, ?_⟩
    have h0 : Below w.heap.size w w1 := hbb.drew.trans (hbl.mono hbb.size)
    have hz := h0.size
    refine Below.trans ?_ (hbl2.mono (by simp; try omega))
    exact below_alloc2 (below_alloc2 h0 _ _) _ _

end Go.Proofs.Ygdaag
