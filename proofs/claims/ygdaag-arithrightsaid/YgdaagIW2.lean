/-
  law.intWant: the walk at / and %.
-/
import Derived.Test.YgdaagIW
namespace Go.Proofs.Ygdaag
open Go.RowKit
open Num (fits fits_true fits_false hiW loW)

set_option maxHeartbeats 400000 in
theorem intWant_zero (op a : Int) (ho : op = 3 ∨ op = 4) (w : World) :
    Calls Yaad.prog 29 #[.int .u8 op, .int .i64 a, .int .i64 0] w fun e w' =>
      e = .returned (.agg #[.int .u8 0, .int .i64 0, .float .f64 0, .string ⟨#[]⟩]) ∧ Below w.heap.size w w' := by
  rcases ho with rfl | rfl
  all_goals
    go_enter Yaad.func29, Yaad.ntmps29
    go_wp2
    simp [bodyPost, results, Yaad.results29, go_sem]
    exact ((Below.refl _ _).alloc (Nat.le_refl _) _).alloc (by simp) _

/-- And a third block: of the remainder, the quotient. -/
def IW3 (w W : World) (m : Int) : Prop := IW w W ∧ w.heap.size + 1 + 1 < W.heap.size ∧ W.cell? ⟨w.heap.size + 1 + 1, 0, none⟩ = some (.int .i64 0) ∧ W.cell? ⟨w.heap.size + 1 + 1, 1, none⟩ = some (.int .u64 m) ∧ (∀ j, W.frozen? ⟨w.heap.size + 1 + 1, j, none⟩ = false)

theorem IW3.below {w W w1 : World} {m : Int} (h : IW3 w W m) (hb : Below W.heap.size W w1) : IW3 w w1 m := by
  obtain ⟨h0, hz, q0, q1, f⟩ := h
  have hc := fun b j (hj : b < W.heap.size) => hb.cell (p := ⟨b, j, none⟩) hj
  have hf := fun b j (hj : b < W.heap.size) => hb.frozen (p := ⟨b, j, none⟩) hj
  have hs := hb.size
  refine ⟨h0.below hb, by omega, ?_, ?_, fun j => ?_⟩
  · rw [hc _ _ hz]; exact q0
  · rw [hc _ _ hz]; exact q1
  · rw [hf _ _ hz]; exact f j

theorem iw3 (w : World) (m : Int) : IW3 w (((w.alloc (.cells #[.int .u8 0, .int .i64 0, .float .f64 0, .string ⟨#[]⟩] 25)).alloc (.cells #[.int .i64 0, .int .u64 0] 57)).alloc (.cells #[.int .i64 0, .int .u64 m] 57)) m := by
  refine ⟨(iw2 w).alloc _, by simp, ?_, ?_, fun j => ?_⟩ <;> simp [go_sem]

theorem small_words {m : Int} (h : 0 ≤ m) (h' : m < 18446744073709551616) : (0 : Int) = hiW m ∧ m = loW m := by
  unfold hiW loW; omega

theorem below2 {w w1 : World} (hb1 : Below w.heap.size w w1) (v1 v2 : Value) : Below w.heap.size w ((w1.setCell ⟨w.heap.size + 1 + 1, 0, none⟩ v1).setCell ⟨w.heap.size + 1 + 1, 1, none⟩ v2) := by
  refine Below.setCell ?_ (by show w.heap.size ≤ w.heap.size + 1 + 1; omega) _
  refine Below.setCell ?_ (by show w.heap.size ≤ w.heap.size + 1 + 1; omega) _
  exact hb1

set_option maxRecDepth 100000 in
set_option maxHeartbeats 1000000 in
theorem intWant_rem (a b : Int) (ha : fits a = true) (hb : fits b = true) (b0 : b ≠ 0) (w : World) :
    Calls Yaad.prog 29 #[.int .u8 4, .int .i64 a, .int .i64 b] w fun e w' =>
      e = .returned (.agg #[.int .u8 1, .int .i64 (a.tmod b), .float .f64 0, .string ⟨#[]⟩]) ∧ Below w.heap.size w w' := by
  have md := Num.mod_bd (a := a) hb b0
  have hma := fun w => magnitude_any a ha w
  have hmb := fun w => magnitude_any b hb w
  have ua := Num.mag_bd ha
  have ub : 1 ≤ Num.mag b := by unfold Num.mag; omega
  have ub2 := (Num.mag_bd hb).2
  have b0' : (b == 0) = false := by simpa using b0
  have ef := tmod_fits (a := a) hb b0
  by_cases hneg : a < 0
  · have e := Num.tmod_neg' b hneg
    rw [e] at ef ⊢
    generalize Num.mag a = x at *
    generalize Num.mag b = y at *
    generalize hm : x % y = m at *
    obtain ⟨s1, s2⟩ := small_words (m := m) md.1 (by omega)
    have hng := fun w => neg_any m 0 m s1 s2 (by omega) w
    obtain ⟨u1, u2⟩ := ua
    have HMa : Hid _ := hma
    have HMb : Hid _ := hmb
    have HNg : Hid _ := hng
    have HEf : Hid _ := ef
    clear hma hmb hng ef e s1 s2 md
    go_enter Yaad.func29, Yaad.ntmps29
    go_wp2_with (first
      | (go_at_call_of 49 a; refine (HMa.out _).mono ?_; rintro e w' ⟨rfl, rfl⟩)
      | (go_at_call_of 49 b; refine (HMb.out _).mono ?_; rintro e w' ⟨rfl, rfl⟩)
      | (go_at_call 50; refine (HNg.out _).mono ?_; rintro e w1 ⟨rfl, hbl⟩; obtain ⟨⟨hb1, z1, q0, q1, q2, q3, p0, p1, f, g⟩, z2, r0, r1, k⟩ := IW3.below (iw3 w m) hbl; have z0 : w.heap.size < w1.heap.size := (by omega); have z02 : w.heap.size < w1.heap.size + 1 := (by omega); clear hbl)
      | (go_at_call 51; refine (narrow_yes _ HEf.out _).mono ?_; rintro e w' ⟨rfl, c1, rfl⟩)
      | (go_at_call 12; refine (intV_any _ _).mono ?_; rintro e w' ⟨rfl, c1, rfl⟩))
    simp [bodyPost, results, Yaad.results29, go_sem, *]
    exact below_end (below2 hb1 _ _) _ _ _ _ _ _ _ _
  · have e := Num.tmod_pos b hneg
    rw [e] at ef ⊢
    generalize Num.mag a = x at *
    generalize Num.mag b = y at *
    generalize hm : x % y = m at *
    obtain ⟨s1, s2⟩ := small_words (m := m) md.1 (by omega)
    have hnr := fun w => narrow_yes' m 0 m s1 s2 ef w
    obtain ⟨u1, u2⟩ := ua
    have HMa : Hid _ := hma
    have HMb : Hid _ := hmb
    have HNr : Hid _ := hnr
    have hneg' : decide (a < 0) = false := by simpa using hneg
    clear hma hmb hnr ef e s1 s2 md
    go_enter Yaad.func29, Yaad.ntmps29
    go_wp2_with (first
      | (go_at_call_of 49 a; refine (HMa.out _).mono ?_; rintro e w' ⟨rfl, rfl⟩)
      | (go_at_call_of 49 b; refine (HMb.out _).mono ?_; rintro e w' ⟨rfl, rfl⟩)
      | (go_at_call 51; refine (HNr.out _).mono ?_; rintro e w' ⟨rfl, c1, rfl⟩)
      | (go_at_call 12; refine (intV_any _ _).mono ?_; rintro e w' ⟨rfl, c1, rfl⟩))
    simp [bodyPost, results, Yaad.results29, go_sem]
    repeat (refine Below.alloc ?_ (by simp; try omega) _)
    exact Below.refl _ _

set_option maxRecDepth 100000 in
set_option maxHeartbeats 1000000 in
theorem intWant_div_neg (a b : Int) (ha : fits a = true) (hb : fits b = true) (b0 : b ≠ 0) (hs : decide (a < 0) ≠ decide (b < 0)) (w : World) :
    Calls Yaad.prog 29 #[.int .u8 3, .int .i64 a, .int .i64 b] w fun e w' =>
      e = .returned (.agg #[.int .u8 1, .int .i64 (a.tdiv b), .float .f64 0, .string ⟨#[]⟩]) ∧ Below w.heap.size w w' := by
  have md := Num.div_bd (a := a) (b := b) ha
  have hma := fun w => magnitude_any a ha w
  have hmb := fun w => magnitude_any b hb w
  have ua := Num.mag_bd ha
  have ub : 1 ≤ Num.mag b := by unfold Num.mag; omega
  have ub2 := (Num.mag_bd hb).2
  have b0' : (b == 0) = false := by simpa using b0
  have hs' : (decide (a < 0) == decide (b < 0)) = false := by simpa using hs
  have hfc := float_cases .quo (by simp) (floatOfInt .f64 a) (floatOfInt .f64 b)
  rw [Num.tdiv_neg' hs]
  generalize Num.mag a = x at *
  generalize Num.mag b = y at *
  generalize hm : x / y = m at *
  have ef : fits (-m) = true := by unfold fits; simp only [decide_eq_true_eq]; omega
  obtain ⟨s1, s2⟩ := small_words (m := m) md.1 (by omega)
  have hng := fun w => neg_any m 0 m s1 s2 (by omega) w
  obtain ⟨u1, u2⟩ := ua
  obtain ⟨m1, m2⟩ := md
  have HMa : Hid _ := hma
  have HMb : Hid _ := hmb
  have HNg : Hid _ := hng
  have HEf : Hid _ := ef
  clear hma hmb hng ef s1 s2 hs
  rcases hfc with ⟨z, hrun, _⟩ | ⟨hrun, _⟩
  · go_enter Yaad.func29, Yaad.ntmps29
    go_wp2_with (first
      | (go_at_call_of 49 a; refine (HMa.out _).mono ?_; rintro e w' ⟨rfl, rfl⟩)
      | (go_at_call_of 49 b; refine (HMb.out _).mono ?_; rintro e w' ⟨rfl, rfl⟩)
      | (go_at_call 50; refine (HNg.out _).mono ?_; rintro e w1 ⟨rfl, hbl⟩; obtain ⟨⟨hb1, z1, q0, q1, q2, q3, p0, p1, f, g⟩, z2, r0, r1, k⟩ := IW3.below (iw3 w m) hbl; have z0 : w.heap.size < w1.heap.size := (by omega); have z02 : w.heap.size < w1.heap.size + 1 := (by omega); clear hbl)
      | (go_at_call 51; refine (narrow_yes _ HEf.out _).mono ?_; rintro e w' ⟨rfl, c1, rfl⟩)
      | (go_at_call 12; refine (intV_any _ _).mono ?_; rintro e w' ⟨rfl, c1, rfl⟩))
    simp [bodyPost, results, Yaad.results29, go_sem, *]
    exact below_end (below2 hb1 _ _) _ _ _ _ _ _ _ _
  · go_enter Yaad.func29, Yaad.ntmps29
    go_wp2_with (first
      | (go_at_call_of 49 a; refine (HMa.out _).mono ?_; rintro e w' ⟨rfl, rfl⟩)
      | (go_at_call_of 49 b; refine (HMb.out _).mono ?_; rintro e w' ⟨rfl, rfl⟩)
      | (go_at_call 50; refine (HNg.out _).mono ?_; rintro e w1 ⟨rfl, hbl⟩; obtain ⟨⟨hb1, z1, q0, q1, q2, q3, p0, p1, f, g⟩, z2, r0, r1, k⟩ := IW3.below (iw3 w m) hbl; have z0 : w.heap.size < w1.heap.size := (by omega); have z02 : w.heap.size < w1.heap.size + 1 := (by omega); clear hbl)
      | (go_at_call 51; refine (narrow_yes _ HEf.out _).mono ?_; rintro e w' ⟨rfl, c1, rfl⟩)
      | (go_at_call 12; refine (intV_any _ _).mono ?_; rintro e w' ⟨rfl, c1, rfl⟩))
    simp [bodyPost, results, Yaad.results29, go_sem, *]
    exact (below_end (below2 hb1 _ _) _ _ _ _ _ _ _ _).drew

set_option maxRecDepth 100000 in
set_option maxHeartbeats 1000000 in
theorem intWant_div_pos (a b : Int) (ha : fits a = true) (hb : fits b = true) (b0 : b ≠ 0) (hs : decide (a < 0) = decide (b < 0)) (ka ia : Int) (ra : Nat) (sa : ByteArray) (h : intF 3 a b = ⟨ka, ia, ra, sa⟩) (w : World) :
    Calls Yaad.prog 29 #[.int .u8 3, .int .i64 a, .int .i64 b] w fun e w' =>
      e = .returned (.agg #[.int .u8 ka, .int .i64 ia, .float .f64 ra, .string sa]) ∧ Below w.heap.size w w' := by
  have md := Num.div_bd (a := a) (b := b) ha
  have hma := fun w => magnitude_any a ha w
  have hmb := fun w => magnitude_any b hb w
  have ua := Num.mag_bd ha
  have ub : 1 ≤ Num.mag b := by unfold Num.mag; omega
  have ub2 := (Num.mag_bd hb).2
  have b0' : (b == 0) = false := by simpa using b0
  have hs' : (decide (a < 0) == decide (b < 0)) = true := by rw [hs]; simp
  have hfc := float_cases .quo (by simp) (floatOfInt .f64 a) (floatOfInt .f64 b)
  have ed := Num.tdiv_pos hs
  cases hk : fits (a.tdiv b) with
  | true =>
    obtain ⟨rfl, hia, rfl, rfl⟩ : ka = 1 ∧ ia = a.tdiv b ∧ ra = 0 ∧ sa = ⟨#[]⟩ := by
      have ok : okI 3 a b = true := by unfold okI; rw [if_neg (fun q => b0 q.2)]; exact hk
      have e : intF 3 a b = vInt (a.tdiv b) := if_pos ok
      exact ofMk (h.symm.trans e)
    clear h
    rw [ed] at hk hia
    subst hia
    clear ed
    generalize Num.mag a = x at *
    generalize Num.mag b = y at *
    generalize hm : x / y = m at *
    obtain ⟨s1, s2⟩ := small_words (m := m) md.1 (by omega)
    have hnr := fun w => narrow_yes' m 0 m s1 s2 hk w
    obtain ⟨u1, u2⟩ := ua
    obtain ⟨m1, m2⟩ := md
    have HMa : Hid _ := hma
    have HMb : Hid _ := hmb
    have HNr : Hid _ := hnr
    clear hma hmb hnr hk s1 s2 hs
    rcases hfc with ⟨z, hrun, _⟩ | ⟨hrun, _⟩
    · go_enter Yaad.func29, Yaad.ntmps29
      go_wp2_with (first
      | (go_at_call_of 49 a; refine (HMa.out _).mono ?_; rintro e w' ⟨rfl, rfl⟩)
      | (go_at_call_of 49 b; refine (HMb.out _).mono ?_; rintro e w' ⟨rfl, rfl⟩)
      | (go_at_call 51; refine (HNr.out _).mono ?_; rintro e w' ⟨rfl, c1, rfl⟩)
      | (go_at_call 12; refine (intV_any _ _).mono ?_; rintro e w' ⟨rfl, c1, rfl⟩))
      simp [bodyPost, results, Yaad.results29, go_sem]
      repeat (refine Below.alloc ?_ (by simp; try omega) _)
      exact Below.refl _ _
    · go_enter Yaad.func29, Yaad.ntmps29
      go_wp2_with (first
      | (go_at_call_of 49 a; refine (HMa.out _).mono ?_; rintro e w' ⟨rfl, rfl⟩)
      | (go_at_call_of 49 b; refine (HMb.out _).mono ?_; rintro e w' ⟨rfl, rfl⟩)
      | (go_at_call 51; refine (HNr.out _).mono ?_; rintro e w' ⟨rfl, c1, rfl⟩)
      | (go_at_call 12; refine (intV_any _ _).mono ?_; rintro e w' ⟨rfl, c1, rfl⟩))
      simp [bodyPost, results, Yaad.results29, go_sem]
      refine Below.drew ?_
      repeat (refine Below.alloc ?_ (by simp; try omega) _)
      exact Below.refl _ _
  | false =>
    have e : fval .quo (floatOfInt .f64 a) (floatOfInt .f64 b) = ⟨ka, ia, ra, sa⟩ := by
      refine Eq.trans ?_ h
      have h1 : ¬ okI 3 a b = true := by
        unfold okI
        rw [if_neg (fun q => b0 q.2)]
        intro q
        have q' : fits (a.tdiv b) = true := q
        rw [hk] at q'
        cases q'
      unfold intF
      rw [if_neg h1, if_neg (fun q => b0 q.2)]
      rfl
    rw [e] at hfc
    clear h e
    rw [ed] at hk
    clear ed
    generalize Num.mag a = x at *
    generalize Num.mag b = y at *
    generalize hm : x / y = m at *
    obtain ⟨s1, s2⟩ := small_words (m := m) md.1 (by omega)
    have hnr := fun w => narrow_no' m 0 m s1 s2 hk w
    obtain ⟨u1, u2⟩ := ua
    obtain ⟨m1, m2⟩ := md
    have HMa : Hid _ := hma
    have HMb : Hid _ := hmb
    have HNr : Hid _ := hnr
    clear hma hmb hnr hk s1 s2 hs
    rcases hfc with ⟨z, hrun, hz⟩ | ⟨hrun, hz⟩
    · go_enter Yaad.func29, Yaad.ntmps29
      go_wp2_with (first
      | (go_at_call_of 49 a; refine (HMa.out _).mono ?_; rintro e w' ⟨rfl, rfl⟩)
      | (go_at_call_of 49 b; refine (HMb.out _).mono ?_; rintro e w' ⟨rfl, rfl⟩)
      | (go_at_call 51; refine (HNr.out _).mono ?_; rintro e w' ⟨rfl, c1, rfl⟩)
      | (go_at_call 31; refine (realOf_any _ ka ia ra sa hz.out.1 hz.out.2 _).mono ?_; rintro e w' ⟨rfl, c1, rfl⟩))
      simp [bodyPost, results, Yaad.results29, go_sem]
      repeat (refine Below.alloc ?_ (by simp; try omega) _)
      exact Below.refl _ _
    · go_enter Yaad.func29, Yaad.ntmps29
      go_wp2_with (first
      | (go_at_call_of 49 a; refine (HMa.out _).mono ?_; rintro e w' ⟨rfl, rfl⟩)
      | (go_at_call_of 49 b; refine (HMb.out _).mono ?_; rintro e w' ⟨rfl, rfl⟩)
      | (go_at_call 51; refine (HNr.out _).mono ?_; rintro e w' ⟨rfl, c1, rfl⟩)
      | (go_at_call 31; refine (realOf_any _ ka ia ra sa (hz.out _).1 (hz.out _).2 _).mono ?_; rintro e w' ⟨rfl, c1, rfl⟩))
      simp [bodyPost, results, Yaad.results29, go_sem]
      refine Below.drew ?_
      repeat (refine Below.alloc ?_ (by simp; try omega) _)
      exact Below.refl _ _

/-- THE CONTRACT. -/
theorem intWant_any (op a b : Int) (ho : 0 ≤ op) (ho' : op ≤ 4) (ha : fits a = true) (hb : fits b = true) (ka ia : Int) (ra : Nat) (sa : ByteArray) (h : intF op a b = ⟨ka, ia, ra, sa⟩) (w : World) :
    Calls Yaad.prog 29 #[.int .u8 op, .int .i64 a, .int .i64 b] w fun e w' =>
      e = .returned (.agg #[.int .u8 ka, .int .i64 ia, .float .f64 ra, .string sa]) ∧ Below w.heap.size w w' := by
  have hop : op = 0 ∨ op = 1 ∨ op = 2 ∨ op = 3 ∨ op = 4 := by omega
  rcases hop with rfl | rfl | rfl | rfl | rfl
  · exact intWant_add a b ha hb ka ia ra sa h w
  · exact intWant_sub a b ha hb ka ia ra sa h w
  · exact intWant_mul a b ha hb ka ia ra sa h w
  · by_cases b0 : b = 0
    · subst b0
      have e : intF 3 a 0 = vNull := by
        unfold intF okI
        rw [if_neg (by simp), if_pos (by simp)]
      obtain ⟨rfl, rfl, rfl, rfl⟩ : ka = 0 ∧ ia = 0 ∧ ra = 0 ∧ sa = ⟨#[]⟩ := ofMk (h.symm.trans e)
      exact intWant_zero 3 a (by simp) w
    · by_cases hs : decide (a < 0) = decide (b < 0)
      · exact intWant_div_pos a b ha hb b0 hs ka ia ra sa h w
      · have ok : okI 3 a b = true := by
          refine (okI_div ha).2 ?_
          rintro (q | ⟨rfl, rfl⟩)
          · exact b0 q
          · exact hs (by decide)
        have e : intF 3 a b = vInt (a.tdiv b) := if_pos ok
        obtain ⟨rfl, rfl, rfl, rfl⟩ : ka = 1 ∧ ia = a.tdiv b ∧ ra = 0 ∧ sa = ⟨#[]⟩ := ofMk (h.symm.trans e)
        exact intWant_div_neg a b ha hb b0 hs w
  · by_cases b0 : b = 0
    · subst b0
      have e : intF 4 a 0 = vNull := by
        unfold intF okI
        rw [if_neg (by simp), if_pos (by simp)]
      obtain ⟨rfl, rfl, rfl, rfl⟩ : ka = 0 ∧ ia = 0 ∧ ra = 0 ∧ sa = ⟨#[]⟩ := ofMk (h.symm.trans e)
      exact intWant_zero 4 a (by simp) w
    · have ok : okI 4 a b = true := (okI_rem hb).2 b0
      have e : intF 4 a b = vInt (a.tmod b) := if_pos ok
      obtain ⟨rfl, rfl, rfl, rfl⟩ : ka = 1 ∧ ia = a.tmod b ∧ ra = 0 ∧ sa = ⟨#[]⟩ := ofMk (h.symm.trans e)
      exact intWant_rem a b ha hb b0 w

end Go.Proofs.Ygdaag
