/-
  val.Arith: the walk.
-/
import Derived.Test.YgdaagAW2
import Derived.Test.YgdaagAt
namespace Go.Proofs.Ygdaag
open Go.RowKit Ar
open Num (fits fits_true fits_false hiW loW)

theorem mix_of_int {op a b : Int} (ho : 0 ≤ op) (ho' : op ≤ 4) (ha : fits a = true) (hb : fits b = true) (hk : okI op a b = false) (hz : ¬ (3 ≤ op ∧ b = 0)) :
    op ≠ 4 ∧ intF op a b = mixF op (floatOfInt .f64 a) (floatOfInt .f64 b) := by
  have o4 : op ≠ 4 := by
    rintro rfl
    have := (okI_rem (a := a) hb).2 (fun e => hz ⟨by omega, e⟩)
    rw [hk] at this
    cases this
  refine ⟨o4, ?_⟩
  unfold intF mixF
  rw [if_neg (by rw [hk]; simp), if_neg hz, if_neg o4]
  by_cases o3 : op = 3
  · subst o3
    have hq : b = 0 ∨ (a = -9223372036854775808 ∧ b = -1) := by
      by_cases q : b = 0 ∨ (a = -9223372036854775808 ∧ b = -1)
      · exact q
      · have := (okI_div ha).2 q
        rw [hk] at this
        cases this
    rcases hq with q | ⟨rfl, rfl⟩
    · exact absurd ⟨by omega, q⟩ hz
    · rw [if_neg (by decide)]
  · rw [if_neg (fun q => o3 q.1)]

theorem below_alloc2 {w W : World} (hb : Below w.heap.size w W) (o1 o2 : Obj) : Below w.heap.size w ((W.alloc o1).alloc o2) := by
  have hz := hb.size
  exact (hb.alloc hz _).alloc (by simp; omega) _
theorem below_alloc3 {w W : World} (hb : Below w.heap.size w W) (o1 o2 o3 : Obj) : Below w.heap.size w (((W.alloc o1).alloc o2).alloc o3) := by
  have hz := hb.size
  exact ((hb.alloc hz _).alloc (by simp; omega) _).alloc (by simp; omega) _

set_option maxRecDepth 100000 in
set_option maxHeartbeats 4000000 in
theorem arith_any (op : Int) (ho : 0 ≤ op) (k i : Int) (r : Nat) (s : ByteArray) (hw : Wf ⟨k, i, r, s⟩) (k2 i2 : Int) (r2 : Nat) (s2 : ByteArray) (hw2 : Wf ⟨k2, i2, r2, s2⟩)
    (ka ia : Int) (ra : Nat) (sa : ByteArray) (hc : arithF op (norm ⟨k, i, r, s⟩) (norm ⟨k2, i2, r2, s2⟩) = ⟨ka, ia, ra, sa⟩) (w : World) :
    Calls Yaad.prog 6 #[.int .u8 op, .agg #[.int .u8 k, .int .i64 i, .float .f64 r, .string s], .agg #[.int .u8 k2, .int .i64 i2, .float .f64 r2, .string s2]] w fun e w' =>
      e = .returned (.agg #[.int .u8 ka, .int .i64 ia, .float .f64 ra, .string sa]) ∧ Below w.heap.size w w' := by
  have hv := wf_norm _ hw
  have hv2 := wf_norm _ hw2
  rcases h : norm ⟨k, i, r, s⟩ with ⟨k', i', r', s'⟩
  rcases h2 : norm ⟨k2, i2, r2, s2⟩ with ⟨k2', i2', r2', s2'⟩
  rw [h, h2] at hc
  rw [h] at hv
  rw [h2] at hv2
  have fi : fits i' = true := hv.i
  have fi2 : fits i2' = true := hv2.i
  unfold arithF at hc
  simp only at hc
  have H : Hid _ := h
  have H2 : Hid _ := h2
  have HC : Hid _ := hc
  have FI : Hid _ := fi
  have FI2 : Hid _ := fi2
  clear h h2 hc hv hv2 fi fi2
  go_enter Yaad.func6, Yaad.ntmps6
  go_upto_region 1 with fail
  go_cut [] from 11 (fun wc => ∃ c1 c2 c3 c4 : Array Value, wc = (((((((w.alloc (.cells #[.int .u8 k', .int .i64 i', .float .f64 r', .string s'] 25)).alloc (.cells #[.int .u8 k2', .int .i64 i2', .float .f64 r2', .string s2'] 25)).alloc (.cells #[.int .u8 0, .int .i64 0, .float .f64 0, .string ⟨#[]⟩] 25)).alloc (.cells c1 25)).alloc (.cells c2 25)).alloc (.cells c3 25)).alloc (.cells c4 25)).drew)
  case first =>
    go_region_with
      (first
      | (go_at_call_of 14 s; refine (norm_any _ _ _ _ _ _ _ _ hw H.out _).mono ?_; rintro e w' ⟨rfl, c1, c2, rfl⟩)
      | (go_at_call_of 14 s2; refine (norm_any _ _ _ _ _ _ _ _ hw2 H2.out _).mono ?_; rintro e w' ⟨rfl, c1, c2, rfl⟩))
    all_goals
      go_wp2_with fail
      go_meet
      case rel => exact ⟨_, _, _, _, rfl⟩
  case rest =>
    obtain ⟨c1, c2, c3, c4, rfl⟩ := hcut
    have n1 := fun w => number_any k' i' r' s' w
    have n2 := fun w => number_any k2' i2' r2' s2' w
    by_cases hn : 4 < op ∨ numB k' = false ∨ numB k2' = false
    · have hv : vNull = ⟨ka, ia, ra, sa⟩ := by
        refine Eq.trans ?_ HC.out
        exact (if_pos hn).symm
      obtain ⟨rfl, rfl, rfl, rfl⟩ : ka = 0 ∧ ia = 0 ∧ ra = 0 ∧ sa = ⟨#[]⟩ := ofMk hv.symm
      clear hv HC
      by_cases o4 : 4 < op
      · clear hn n1 n2
        go_wp2_with fail
        simp [bodyPost, results, Yaad.results6, go_sem]
        refine Below.drew ?_
        repeat (refine Below.alloc ?_ (by simp; try omega) _)
        exact Below.refl _ _
      · cases m1 : numB k' with
        | false =>
          rw [m1] at n1
          have N1 : Hid _ := n1
          clear hn n1 n2 m1
          go_wp2_with (go_at_call 15; refine (N1.out _).mono ?_; rintro e w' ⟨rfl, d1, rfl⟩)
          simp [bodyPost, results, Yaad.results6, go_sem]
          refine Below.drew ?_
          repeat (refine Below.alloc ?_ (by simp; try omega) _)
          exact Below.refl _ _
        | true =>
          have m2 : numB k2' = false := by
            rcases hn with q | q | q
            · exact absurd q o4
            · rw [m1] at q; cases q
            · exact q
          rw [m1] at n1
          rw [m2] at n2
          have N1 : Hid _ := n1
          have N2 : Hid _ := n2
          clear hn n1 n2 m1 m2
          go_wp2_with (first | (go_at_call_of 15 s'; refine (N1.out _).mono ?_; rintro e w' ⟨rfl, d1, rfl⟩) | (go_at_call_of 15 s2'; refine (N2.out _).mono ?_; rintro e w' ⟨rfl, d1, rfl⟩))
          simp [bodyPost, results, Yaad.results6, go_sem]
          refine Below.drew ?_
          repeat (refine Below.alloc ?_ (by simp; try omega) _)
          exact Below.refl _ _
    · have hv : (if k' = 1 ∧ k2' = 1 then intF op i' i2' else mixF op (toFl k' i' r') (toFl k2' i2' r2')) = ⟨ka, ia, ra, sa⟩ := by
        refine Eq.trans ?_ HC.out
        exact (if_neg hn).symm
      have HV : Hid _ := hv
      clear HC hv
      have o4 : op ≤ 4 := by
        by_cases q : 4 < op
        · exact absurd (Or.inl q) hn
        · omega
      have m1 : numB k' = true := by
        cases q : numB k' with
        | false => exact absurd (Or.inr (Or.inl q)) hn
        | true => rfl
      have m2 : numB k2' = true := by
        cases q : numB k2' with
        | false => exact absurd (Or.inr (Or.inr q)) hn
        | true => rfl
      rw [m1] at n1
      rw [m2] at n2
      have N1 : Hid _ := n1
      have N2 : Hid _ := n2
      clear hn n1 n2 m1 m2
      go_upto_region 4 with (first | (go_at_call_of 15 s'; refine (N1.out _).mono ?_; rintro e w' ⟨rfl, d1, rfl⟩) | (go_at_call_of 15 s2'; refine (N2.out _).mono ?_; rintro e w' ⟨rfl, d2, rfl⟩))
      obtain ⟨tt, htt⟩ : ∃ b : Bool, Hid (b = (k' == 1 && k2' == 1)) := ⟨_, rfl⟩
      go_cut [35] from 11 (fun v wd => v = .bool tt ∧ wd = (((((((((w.alloc (.cells #[.int .u8 k', .int .i64 i', .float .f64 r', .string s'] 25)).alloc (.cells #[.int .u8 k2', .int .i64 i2', .float .f64 r2', .string s2'] 25)).alloc (.cells #[.int .u8 0, .int .i64 0, .float .f64 0, .string ⟨#[]⟩] 25)).alloc (.cells c1 25)).alloc (.cells c2 25)).alloc (.cells c3 25)).alloc (.cells c4 25)).alloc (.cells d1 25)).alloc (.cells d2 25)).drew)
      case first =>
        cases e1 : (k' == 1) with
        | true =>
          cases e2 : (k2' == 1) with
          | true =>
            have ht : tt = true := by rw [htt.out, e1, e2]; rfl
            subst ht
            go_wp2_with fail
            go_meet
            case rel => exact ⟨rfl, rfl⟩
          | false =>
            have ht : tt = false := by rw [htt.out, e1, e2]; rfl
            subst ht
            go_wp2_with fail
            go_meet
            case rel => exact ⟨rfl, rfl⟩
        | false =>
          have ht : tt = false := by rw [htt.out, e1]; rfl
          subst ht
          go_wp2_with fail
          go_meet
          case rel => exact ⟨rfl, rfl⟩
      case rest =>
        obtain ⟨rfl, rfl⟩ := hcut
        go_upto_if 35 with fail
        go_cut [] from 11 (fun wd => Hid (mixF op (toFl k' i' r') (toFl k2' i2' r2') = ⟨ka, ia, ra, sa⟩) ∧ op ≠ 4 ∧ At wd w.heap.size k' i' r' s' ∧ At wd (w.heap.size + 1) k2' i2' r2' s2' ∧ Room wd (w.heap.size + 1 + 1) ∧ Below w.heap.size w wd)
        case first =>
          have hA : At (((((((((w.alloc (.cells #[.int .u8 k', .int .i64 i', .float .f64 r', .string s'] 25)).alloc (.cells #[.int .u8 k2', .int .i64 i2', .float .f64 r2', .string s2'] 25)).alloc (.cells #[.int .u8 0, .int .i64 0, .float .f64 0, .string ⟨#[]⟩] 25)).alloc (.cells c1 25)).alloc (.cells c2 25)).alloc (.cells c3 25)).alloc (.cells c4 25)).alloc (.cells d1 25)).alloc (.cells d2 25)).drew w.heap.size k' i' r' s' :=
            ((((((((((At.new rfl).alloc _).alloc _).alloc _).alloc _).alloc _).alloc _).alloc _).alloc _).drew)
          have hB : At (((((((((w.alloc (.cells #[.int .u8 k', .int .i64 i', .float .f64 r', .string s'] 25)).alloc (.cells #[.int .u8 k2', .int .i64 i2', .float .f64 r2', .string s2'] 25)).alloc (.cells #[.int .u8 0, .int .i64 0, .float .f64 0, .string ⟨#[]⟩] 25)).alloc (.cells c1 25)).alloc (.cells c2 25)).alloc (.cells c3 25)).alloc (.cells c4 25)).alloc (.cells d1 25)).alloc (.cells d2 25)).drew (w.heap.size + 1) k2' i2' r2' s2' :=
            (((((((((At.new (by simp)).alloc _).alloc _).alloc _).alloc _).alloc _).alloc _).alloc _).drew)
          have hR : Room (((((((((w.alloc (.cells #[.int .u8 k', .int .i64 i', .float .f64 r', .string s'] 25)).alloc (.cells #[.int .u8 k2', .int .i64 i2', .float .f64 r2', .string s2'] 25)).alloc (.cells #[.int .u8 0, .int .i64 0, .float .f64 0, .string ⟨#[]⟩] 25)).alloc (.cells c1 25)).alloc (.cells c2 25)).alloc (.cells c3 25)).alloc (.cells c4 25)).alloc (.cells d1 25)).alloc (.cells d2 25)).drew (w.heap.size + 1 + 1) :=
            ((((((((Room.new (by simp)).alloc _).alloc _).alloc _).alloc _).alloc _).alloc _).drew)
          have hbb : Below w.heap.size w (((((((((w.alloc (.cells #[.int .u8 k', .int .i64 i', .float .f64 r', .string s'] 25)).alloc (.cells #[.int .u8 k2', .int .i64 i2', .float .f64 r2', .string s2'] 25)).alloc (.cells #[.int .u8 0, .int .i64 0, .float .f64 0, .string ⟨#[]⟩] 25)).alloc (.cells c1 25)).alloc (.cells c2 25)).alloc (.cells c3 25)).alloc (.cells c4 25)).alloc (.cells d1 25)).alloc (.cells d2 25)).drew := by
            refine Below.drew ?_
            repeat (refine Below.alloc ?_ (by simp; try omega) _)
            exact Below.refl _ _
          cases tt with
          | true =>
            have hkk : k' = 1 ∧ k2' = 1 := by
              have := htt.out
              simpa using this
            obtain ⟨rfl, rfl⟩ := hkk
            have hI : intF op i' i2' = ⟨ka, ia, ra, sa⟩ := HV.out
            cases hk : okI op i' i2' with
            | true =>
              obtain ⟨rfl, rfl, rfl, rfl⟩ : ka = 1 ∧ ia = exI op i' i2' ∧ ra = 0 ∧ sa = ⟨#[]⟩ := by
                have e : intF op i' i2' = vInt (exI op i' i2') := if_pos hk
                exact ofMk (hI.symm.trans e)
              have hia := fun w => intArith_yes op i' i2' ho o4 FI.out FI2.out hk w
              have HIA : Hid _ := hia
              clear hia hk hI HV hA hB hR hbb
              go_wp2_with (go_at_call 16; refine (HIA.out _).mono ?_; rintro e w' ⟨rfl, d3, d4, rfl⟩)
              simp [bodyPost, results, Yaad.results6, go_sem]
              refine Below.drew ?_
              repeat (refine Below.alloc ?_ (by simp; try omega) _)
              exact Below.refl _ _
            | false =>
              have hia := fun w => intArith_no op i' i2' ho o4 FI.out FI2.out hk w
              have HIA : Hid _ := hia
              by_cases hz : 3 ≤ op ∧ i2' = 0
              · obtain ⟨rfl, rfl, rfl, rfl⟩ : ka = 0 ∧ ia = 0 ∧ ra = 0 ∧ sa = ⟨#[]⟩ := by
                  have e : intF op i' i2' = vNull := by
                    unfold intF
                    rw [if_neg (by rw [hk]; simp), if_pos hz]
                  exact ofMk (hI.symm.trans e)
                obtain ⟨o3, rfl⟩ := hz
                have hop : op = 3 ∨ op = 4 := by omega
                clear hia hk hI HV hA hB hR hbb
                rcases hop with rfl | rfl
                all_goals
                  go_wp2_with (go_at_call 16; refine (HIA.out _).mono ?_; rintro e w' ⟨rfl, d3, d4, rfl⟩)
                  simp [bodyPost, results, Yaad.results6, go_sem]
                  refine Below.drew ?_
                  repeat (refine Below.alloc ?_ (by simp; try omega) _)
                  exact Below.refl _ _
              · obtain ⟨on4, hmx⟩ := mix_of_int ho o4 FI.out FI2.out hk hz
                have HMX : Hid _ := hmx.symm.trans hI
                clear hia hk hI HV hmx
                by_cases o3 : op = 3
                · subst o3
                  have hz' : (i2' == 0) = false := by
                    rw [beq_eq_false_iff_ne]; intro q; exact hz ⟨by omega, q⟩
                  clear hz
                  go_wp2_with (go_at_call 16; refine (HIA.out _).mono ?_; rintro e w' ⟨rfl, d3, d4, rfl⟩)
                  go_meet
                  case rel => exact ⟨HMX, on4, (((hA.alloc _).alloc _).alloc _), (((hB.alloc _).alloc _).alloc _), (((hR.alloc _).alloc _).alloc _), below_alloc3 hbb _ _ _⟩
                · have o3' : (op == 3) = false := by simpa using o3
                  have o4' : (op == 4) = false := by simpa using on4
                  clear hz
                  go_wp2_with (go_at_call 16; refine (HIA.out _).mono ?_; rintro e w' ⟨rfl, d3, d4, rfl⟩)
                  go_meet
                  case rel => exact ⟨HMX, on4, (((hA.alloc _).alloc _).alloc _), (((hB.alloc _).alloc _).alloc _), (((hR.alloc _).alloc _).alloc _), below_alloc3 hbb _ _ _⟩
          | false =>
            have hM : mixF op (toFl k' i' r') (toFl k2' i2' r2') = ⟨ka, ia, ra, sa⟩ := by
              refine Eq.trans ?_ HV.out
              refine (if_neg (fun q => ?_)).symm
              have := htt.out
              rw [q.1, q.2] at this
              simp at this
            by_cases on4 : op = 4
            · subst on4
              obtain ⟨rfl, rfl, rfl, rfl⟩ : ka = 0 ∧ ia = 0 ∧ ra = 0 ∧ sa = ⟨#[]⟩ := ofMk hM.symm
              clear hM HV hA hB hR hbb
              go_wp2_with fail
              simp [bodyPost, results, Yaad.results6, go_sem]
              refine Below.drew ?_
              repeat (refine Below.alloc ?_ (by simp; try omega) _)
              exact Below.refl _ _
            · have o4' : (op == 4) = false := by simpa using on4
              have HMX : Hid _ := hM
              clear hM HV
              go_wp2_with fail
              go_meet
              case rel => exact ⟨HMX, on4, hA, hB, hR, hbb⟩
        case rest =>
          obtain ⟨HM, on4, hA, hB, hR, hbb⟩ := hcut
          obtain ⟨za, a0, a1, a2, a3⟩ := id hA
          obtain ⟨zb, b0, b1, b2, b3⟩ := id hB
          obtain ⟨zr, q0, q1, q2, q3, f⟩ := id hR
          have t1 : ∀ w, _ := fun w => toF_any k' i' r' s' w
          have t2 : ∀ w, _ := fun w => toF_any k2' i2' r2' s2' w
          generalize toFl k' i' r' = x at *
          generalize toFl k2' i2' r2' = y at *
          have T1 : Hid _ := t1
          have T2 : Hid _ := t2
          have za1 : w.heap.size < wc.heap.size + 1 := by omega
          have zb1 : w.heap.size + 1 < wc.heap.size + 1 := by omega
          have zr1 : w.heap.size + 1 + 1 < wc.heap.size + 1 := by omega
          have zr2 : w.heap.size + 1 + 1 < wc.heap.size + 1 + 1 := by omega
          have zr3 : w.heap.size + 1 + 1 < wc.heap.size + 1 + 1 + 1 := by omega
          have zr4 : w.heap.size + 1 + 1 < wc.heap.size + 1 + 1 + 1 + 1 := by omega
          clear t1 t2 hA hB hR HV N1 N2 FI FI2 H H2
          go_upto_region 12 with fail
          go_region_held3 (fun w' => w'.cell? ⟨w.heap.size, 0, none⟩ = some (.int .u8 k') ∧ w'.cell? ⟨w.heap.size, 1, none⟩ = some (.int .i64 i') ∧ w'.cell? ⟨w.heap.size, 2, none⟩ = some (.float .f64 r') ∧ w'.cell? ⟨w.heap.size, 3, none⟩ = some (.string s') ∧
              w'.cell? ⟨w.heap.size + 1, 0, none⟩ = some (.int .u8 k2') ∧ w'.cell? ⟨w.heap.size + 1, 1, none⟩ = some (.int .i64 i2') ∧ w'.cell? ⟨w.heap.size + 1, 2, none⟩ = some (.float .f64 r2') ∧ w'.cell? ⟨w.heap.size + 1, 3, none⟩ = some (.string s2')) (simp [go_sem, World.cell?_alloc_past, *])
            (first
            | (go_at_call_of 17 s'; refine (T1.out _).mono ?_; rintro e w' ⟨rfl, d3, rfl⟩)
            | (go_at_call_of 17 s2'; refine (T2.out _).mono ?_; rintro e w' ⟨rfl, d4, rfl⟩))
          have hop : op = 0 ∨ op = 1 ∨ op = 2 ∨ op = 3 := by omega
          clear ho o4 on4
          rcases hop with rfl | rfl | rfl | rfl
          · have hmv : fval .add x y = ⟨ka, ia, ra, sa⟩ := HM.out
            have HMV : Hid _ := hmv
            clear hmv HM
            go_wp2_with (first
              | (go_at_call 19; refine (fadd_any _ _ _).mono ?_; rintro e w' ⟨z, rfl, hz, n, rfl⟩)
              | (go_at_call 18; refine (realV_any _ ka ia ra sa hz.1 ((fres_norm hz).trans HMV.out) _).mono ?_; rintro e w' ⟨rfl, d5, d6, d7, rfl⟩))
            simp [bodyPost, results, Yaad.results6, go_sem, *]
            exact below_alloc3 (below_res (below_drewN (below_alloc2 hbb _ _) _) (by omega) _ _ _ _) _ _ _
          · have hmv : fval .sub x y = ⟨ka, ia, ra, sa⟩ := HM.out
            have HMV : Hid _ := hmv
            clear hmv HM
            go_wp2_with (first
              | (go_at_call 20; refine (fsub_any _ _ _).mono ?_; rintro e w' ⟨z, rfl, hz, n, rfl⟩)
              | (go_at_call 18; refine (realV_any _ ka ia ra sa hz.1 ((fres_norm hz).trans HMV.out) _).mono ?_; rintro e w' ⟨rfl, d5, d6, d7, rfl⟩))
            simp [bodyPost, results, Yaad.results6, go_sem, *]
            exact below_alloc3 (below_res (below_drewN (below_alloc2 hbb _ _) _) (by omega) _ _ _ _) _ _ _
          · have hmv : fval .mul x y = ⟨ka, ia, ra, sa⟩ := HM.out
            have HMV : Hid _ := hmv
            clear hmv HM
            go_wp2_with (first
              | (go_at_call 21; refine (fmul_any _ _ _).mono ?_; rintro e w' ⟨z, rfl, hz, n, rfl⟩)
              | (go_at_call 18; refine (realV_any _ ka ia ra sa hz.1 ((fres_norm hz).trans HMV.out) _).mono ?_; rintro e w' ⟨rfl, d5, d6, d7, rfl⟩))
            simp [bodyPost, results, Yaad.results6, go_sem, *]
            exact below_alloc3 (below_res (below_drewN (below_alloc2 hbb _ _) _) (by omega) _ _ _ _) _ _ _
          · cases hq : eqB y 0 with
            | true =>
              have e : mixF 3 x y = vNull := by
                unfold mixF
                rw [if_neg (by decide), if_pos ⟨rfl, hq⟩]
              obtain ⟨rfl, rfl, rfl, rfl⟩ : ka = 0 ∧ ia = 0 ∧ ra = 0 ∧ sa = ⟨#[]⟩ := ofMk (HM.out.symm.trans e)
              have hfe : ∀ w, _ := fun w => feq_any y 0 w
              rw [hq] at hfe
              have HFE : Hid _ := hfe
              clear HM e hq hfe
              go_wp2_with (go_at_call 22; refine (HFE.out _).mono ?_; rintro e w' ⟨rfl, rfl⟩)
              simp [bodyPost, results, Yaad.results6, go_sem, *]
              exact (below_alloc2 (below_res hbb (by omega) _ _ _ _) _ _).drew
            | false =>
              have hmv : fval .quo x y = ⟨ka, ia, ra, sa⟩ := by
                refine Eq.trans ?_ HM.out
                unfold mixF
                rw [if_neg (by decide), if_neg (fun q => by rw [hq] at q; cases q.2)]
                rfl
              have HMV : Hid _ := hmv
              have hfe : ∀ w, _ := fun w => feq_any y 0 w
              rw [hq] at hfe
              have HFE : Hid _ := hfe
              clear hmv HM hq hfe
              go_wp2_with (first
                | (go_at_call 22; refine (HFE.out _).mono ?_; rintro e w' ⟨rfl, rfl⟩)
                | (go_at_call 23; refine (fdiv_any _ _ _).mono ?_; rintro e w' ⟨z, rfl, hz, n, rfl⟩)
                | (go_at_call 18; refine (realV_any _ ka ia ra sa hz.1 ((fres_norm hz).trans HMV.out) _).mono ?_; rintro e w' ⟨rfl, d5, d6, d7, rfl⟩))
              simp [bodyPost, results, Yaad.results6, go_sem, *]
              exact below_alloc3 (below_res (below_drewN (below_alloc2 hbb _ _) _) (by omega) _ _ _ _) _ _ _
end Go.Proofs.Ygdaag
