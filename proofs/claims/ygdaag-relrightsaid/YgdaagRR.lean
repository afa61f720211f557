/-
  THE WALK of law.relRight.
-/
import Derived.Test.YgdaagEq
import Derived.Deep.CutBlock
namespace Go.Proofs.Ygdaag
open Go.RowKit

set_option maxRecDepth 100000 in
set_option maxHeartbeats 4000000 in
theorem relRight_any (op : Int) (ho : 0 ≤ op) (k i : Int) (r : Nat) (s : ByteArray) (hw : Wf ⟨k, i, r, s⟩) (k2 i2 : Int) (r2 : Nat) (s2 : ByteArray) (hw2 : Wf ⟨k2, i2, r2, s2⟩) (w : World) :
    Calls Yaad.prog 8 #[.func (.func 9) #[] #[], .func (.func 10) #[] #[], .func (.func 11) #[] #[], .int .u8 op, .agg #[.int .u8 k, .int .i64 i, .float .f64 r, .string s], .agg #[.int .u8 k2, .int .i64 i2, .float .f64 r2, .string s2]] w fun e w' =>
      e = .returned (.bool true) ∧ Below w.heap.size w w' := by
  have hcmp := fun w => compare_any k i r s hw k2 i2 r2 s2 hw2 w
  have hrel := fun ka ia ra sa hc w => rel_any op ho k i r s hw k2 i2 r2 s2 hw2 ka ia ra sa hc w
  have htru := fun w => truthF_any k i r s hw w
  have hcat := fun ka ia ra sa hc w => concat_any k i r s hw k2 i2 r2 s2 hw2 ka ia ra sa hc w
  rcases h : norm ⟨k, i, r, s⟩ with ⟨k', i', r', s'⟩
  rcases h2 : norm ⟨k2, i2, r2, s2⟩ with ⟨k2', i2', r2', s2'⟩
  rw [h, h2] at hcmp
  simp only [h, h2] at hrel htru hcat
  have H : Hid _ := h
  have H2 : Hid _ := h2
  have HCmp : Hid _ := hcmp
  have HRel : Hid _ := hrel
  have HTru : Hid _ := htru
  have HCat : Hid _ := hcat
  clear h h2 hcmp hrel htru hcat
  go_enter Yaad.func8, Yaad.ntmps8
  go_upto_region 1 with fail
  go_cut [13, 14] from 20 (fun v13 v14 wc => ∃ pn pm : Nat, v13 = .pointer (some ⟨pn, 0, none⟩) ∧ v14 = .pointer (some ⟨pm, 0, none⟩) ∧
    At wc w.heap.size k i r s ∧ At wc (w.heap.size + 1) k2 i2 r2 s2 ∧ At wc pn k' i' r' s' ∧ At wc pm k2' i2' r2' s2' ∧ Below w.heap.size w wc)
  case first =>
    go_region_held3 (fun w' => w'.cell? ⟨w.heap.size, 0, none⟩ = some (.int .u8 k) ∧ w'.cell? ⟨w.heap.size, 1, none⟩ = some (.int .i64 i) ∧ w'.cell? ⟨w.heap.size, 2, none⟩ = some (.float .f64 r) ∧ w'.cell? ⟨w.heap.size, 3, none⟩ = some (.string s) ∧
        w'.cell? ⟨w.heap.size + 1, 0, none⟩ = some (.int .u8 k2) ∧ w'.cell? ⟨w.heap.size + 1, 1, none⟩ = some (.int .i64 i2) ∧ w'.cell? ⟨w.heap.size + 1, 2, none⟩ = some (.float .f64 r2) ∧ w'.cell? ⟨w.heap.size + 1, 3, none⟩ = some (.string s2)) (simp [go_sem, World.cell?_alloc_past])
      (first
      | (go_at_call_of 14 s; refine (norm_any _ _ _ _ _ _ _ _ hw H.out _).mono ?_; rintro e w' ⟨rfl, c1, c2, rfl⟩)
      | (go_at_call_of 14 s2; refine (norm_any _ _ _ _ _ _ _ _ hw2 H2.out _).mono ?_; rintro e w' ⟨rfl, c1, c2, rfl⟩))
    all_goals
      go_wp2_with fail
      go_meet
      case rel =>
        refine ⟨_, _, rfl, rfl, ?_, ?_, ?_, ?_, ?_⟩
        · refine At.drew ?_
          iterate 7 (refine At.alloc ?_ _)
          exact At.new' rfl
        · refine At.drew ?_
          iterate 6 (refine At.alloc ?_ _)
          exact At.new' (by simp)
        · refine At.drew ?_
          repeat (first | exact At.new' (by simp) | refine At.alloc ?_ _)
        · refine At.drew ?_
          repeat (first | exact At.new' (by simp) | refine At.alloc ?_ _)
        · refine Below.drew ?_
          iterate 8 (refine Below.alloc ?_ (by simp; try omega) _)
          exact Below.refl _ _
  case rest =>
    obtain ⟨pn, pm, rfl, rfl, hA, hB, hN, hM, hbw⟩ := hcut
    obtain ⟨za, a0, a1, a2, a3⟩ := id hA
    obtain ⟨zb, b0, b1, b2, b3⟩ := id hB
    generalize hcc : cmpF ⟨k', i', r', s'⟩ ⟨k2', i2', r2', s2'⟩ = c at HCmp
    have Hcc : Hid _ := hcc
    clear hcc
    go_upto_region 5 with (go_at_call 24; refine (HCmp.out _).mono ?_; rintro e w1 ⟨rfl, hb⟩)
    have hA1 := hA.below hb
    have hB1 := hB.below hb
    have hN1 := hN.below hb
    have hM1 := hM.below hb
    have hbw1 : Below w.heap.size w w1 := hbw.trans (hb.mono hbw.size)
    clear hA hB hN hM hbw hb a0 a1 a2 a3 b0 b1 b2 b3 za zb HCmp
    obtain ⟨zn, n0, n1, n2, n3⟩ := id hN1
    obtain ⟨zm, m0, m1, m2, m3⟩ := id hM1
    have zn2 := Nat.lt_succ_of_lt zn
    have zm2 := Nat.lt_succ_of_lt zm
    obtain ⟨tst, htst⟩ : ∃ b : Bool, Hid (b = (decide (op < 6) && (k' != 0 && k2' != 0))) := ⟨_, rfl⟩
    go_cut [52] from 20 (fun v wc => v = .bool tst ∧ wc = (w1.alloc (.cells #[.bool (c == 0), .bool (c != 0), .bool (decide (c < 0)), .bool (decide (c ≤ 0)), .bool (decide (0 < c)), .bool (decide (0 ≤ c))] 43)).alloc (.cells #[.int .u8 0, .int .i64 0, .float .f64 0, .string ⟨#[]⟩] 25))
    case first =>
      by_cases o6 : op < 6
      · by_cases e1 : k' = 0
        · have ht : tst = false := by rw [htst.out, e1]; simp
          subst ht
          subst e1
          go_wp2_with fail
          go_meet
          case rel => exact ⟨rfl, rfl⟩
        · by_cases e2 : k2' = 0
          · have ht : tst = false := by rw [htst.out, e2]; simp
            subst ht
            subst e2
            go_wp2_with fail
            go_meet
            case rel => exact ⟨rfl, rfl⟩
          · have ht : tst = true := by rw [htst.out]; simp [o6, e1, e2]
            subst ht
            go_wp2_with fail
            go_meet
            case rel => exact ⟨by simp [e1, e2], rfl⟩
      · have ht : tst = false := by rw [htst.out]; simp [o6]
        subst ht
        go_wp2_with fail
        go_meet
        case rel => exact ⟨rfl, rfl⟩
    case rest =>
      obtain ⟨rfl, rfl⟩ := hcut
      go_upto_if 52 with fail
      obtain ⟨kw, iw, rw', sw, hrf⟩ : ∃ kw iw rw' sw, Hid (relF op ⟨k', i', r', s'⟩ ⟨k2', i2', r2', s2'⟩ = ⟨kw, iw, rw', sw⟩) := ⟨_, _, _, _, rfl⟩
      go_cut [] from 20 (fun wc => At wc w.heap.size k i r s ∧ At wc (w.heap.size + 1) k2 i2 r2 s2 ∧ At wc pn k' i' r' s' ∧ At wc pm k2' i2' r2' s2' ∧ At wc (w1.heap.size + 1) kw iw rw' sw ∧ Below w.heap.size w wc)
      case first =>
        have hbs := hbw1.size
        cases tst with
        | false =>
          have hnull : 5 < op ∨ k' = 0 ∨ k2' = 0 := by
            have := htst.out
            simp at this
            by_cases o6 : op < 6
            · by_cases e1 : k' = 0
              · exact Or.inr (Or.inl e1)
              · exact Or.inr (Or.inr (this o6 e1))
            · exact Or.inl (by omega)
          have hv : vNull = ⟨kw, iw, rw', sw⟩ := by
            refine Eq.trans ?_ hrf.out
            exact (if_pos hnull).symm
          obtain ⟨rfl, rfl, rfl, rfl⟩ : kw = 0 ∧ iw = 0 ∧ rw' = 0 ∧ sw = ⟨#[]⟩ := by
            have := ofMk hv.symm; exact this
          clear hv hnull
          go_wp2_with fail
          go_meet
          case rel =>
            refine ⟨?_, ?_, ?_, ?_, ?_, ?_⟩
            · exact (hA1.alloc _).alloc _
            · exact (hB1.alloc _).alloc _
            · exact (hN1.alloc _).alloc _
            · exact (hM1.alloc _).alloc _
            · exact At.new' (by simp)
            · exact (hbw1.alloc hbs _).alloc (by simp; omega) _
        | true =>
          have hnn : op < 6 ∧ k' ≠ 0 ∧ k2' ≠ 0 := by
            have := htst.out
            simpa using this
          have hv : vInt (tr (relB op c)) = ⟨kw, iw, rw', sw⟩ := by
            refine Eq.trans ?_ hrf.out
            rw [← Hcc.out]
            exact (if_neg (by simp only; omega)).symm
          obtain ⟨rfl, hiw, rfl, rfl⟩ : kw = 1 ∧ iw = tr (relB op c) ∧ rw' = 0 ∧ sw = ⟨#[]⟩ := by
            have := ofMk hv.symm; exact this
          have Hiw : Hid _ := hiw
          have hop : op = 0 ∨ op = 1 ∨ op = 2 ∨ op = 3 ∨ op = 4 ∨ op = 5 := by omega
          clear hv hnn hiw htst hrf
          rcases hop with rfl | rfl | rfl | rfl | rfl | rfl
          · cases hq : (c == 0)
            all_goals
              have hi : Hid (iw = tr _) := Hiw.out.trans (congrArg tr hq)
              go_wp2_with (go_at_call 12; refine (intV_any _ _).mono ?_; rintro e w' ⟨rfl, d1, rfl⟩)
              go_meet
              case rel =>
                refine ⟨?_, ?_, ?_, ?_, ?_, ?_⟩
                · repeat (first | exact hA1 | refine At.alloc ?_ _)
                · repeat (first | exact hB1 | refine At.alloc ?_ _)
                · repeat (first | exact hN1 | refine At.alloc ?_ _)
                · repeat (first | exact hM1 | refine At.alloc ?_ _)
                · rw [hi.out]; repeat (first | exact At.new' (by simp) | refine At.alloc ?_ _)
                · repeat (first | exact hbw1 | refine Below.alloc ?_ (by first | exact hbs | (simp; try omega)) _)
          · cases hq : (c != 0)
            all_goals
              have hi : Hid (iw = tr _) := Hiw.out.trans (congrArg tr hq)
              go_wp2_with (go_at_call 12; refine (intV_any _ _).mono ?_; rintro e w' ⟨rfl, d1, rfl⟩)
              go_meet
              case rel =>
                refine ⟨?_, ?_, ?_, ?_, ?_, ?_⟩
                · repeat (first | exact hA1 | refine At.alloc ?_ _)
                · repeat (first | exact hB1 | refine At.alloc ?_ _)
                · repeat (first | exact hN1 | refine At.alloc ?_ _)
                · repeat (first | exact hM1 | refine At.alloc ?_ _)
                · rw [hi.out]; repeat (first | exact At.new' (by simp) | refine At.alloc ?_ _)
                · repeat (first | exact hbw1 | refine Below.alloc ?_ (by first | exact hbs | (simp; try omega)) _)
          · cases hq : decide (c < 0)
            all_goals
              have hi : Hid (iw = tr _) := Hiw.out.trans (congrArg tr hq)
              go_wp2_with (go_at_call 12; refine (intV_any _ _).mono ?_; rintro e w' ⟨rfl, d1, rfl⟩)
              go_meet
              case rel =>
                refine ⟨?_, ?_, ?_, ?_, ?_, ?_⟩
                · repeat (first | exact hA1 | refine At.alloc ?_ _)
                · repeat (first | exact hB1 | refine At.alloc ?_ _)
                · repeat (first | exact hN1 | refine At.alloc ?_ _)
                · repeat (first | exact hM1 | refine At.alloc ?_ _)
                · rw [hi.out]; repeat (first | exact At.new' (by simp) | refine At.alloc ?_ _)
                · repeat (first | exact hbw1 | refine Below.alloc ?_ (by first | exact hbs | (simp; try omega)) _)
          · cases hq : decide (c ≤ 0)
            all_goals
              have hi : Hid (iw = tr _) := Hiw.out.trans (congrArg tr hq)
              go_wp2_with (go_at_call 12; refine (intV_any _ _).mono ?_; rintro e w' ⟨rfl, d1, rfl⟩)
              go_meet
              case rel =>
                refine ⟨?_, ?_, ?_, ?_, ?_, ?_⟩
                · repeat (first | exact hA1 | refine At.alloc ?_ _)
                · repeat (first | exact hB1 | refine At.alloc ?_ _)
                · repeat (first | exact hN1 | refine At.alloc ?_ _)
                · repeat (first | exact hM1 | refine At.alloc ?_ _)
                · rw [hi.out]; repeat (first | exact At.new' (by simp) | refine At.alloc ?_ _)
                · repeat (first | exact hbw1 | refine Below.alloc ?_ (by first | exact hbs | (simp; try omega)) _)
          · cases hq : decide (0 < c)
            all_goals
              have hi : Hid (iw = tr _) := Hiw.out.trans (congrArg tr hq)
              go_wp2_with (go_at_call 12; refine (intV_any _ _).mono ?_; rintro e w' ⟨rfl, d1, rfl⟩)
              go_meet
              case rel =>
                refine ⟨?_, ?_, ?_, ?_, ?_, ?_⟩
                · repeat (first | exact hA1 | refine At.alloc ?_ _)
                · repeat (first | exact hB1 | refine At.alloc ?_ _)
                · repeat (first | exact hN1 | refine At.alloc ?_ _)
                · repeat (first | exact hM1 | refine At.alloc ?_ _)
                · rw [hi.out]; repeat (first | exact At.new' (by simp) | refine At.alloc ?_ _)
                · repeat (first | exact hbw1 | refine Below.alloc ?_ (by first | exact hbs | (simp; try omega)) _)
          · cases hq : decide (0 ≤ c)
            all_goals
              have hi : Hid (iw = tr _) := Hiw.out.trans (congrArg tr hq)
              go_wp2_with (go_at_call 12; refine (intV_any _ _).mono ?_; rintro e w' ⟨rfl, d1, rfl⟩)
              go_meet
              case rel =>
                refine ⟨?_, ?_, ?_, ?_, ?_, ?_⟩
                · repeat (first | exact hA1 | refine At.alloc ?_ _)
                · repeat (first | exact hB1 | refine At.alloc ?_ _)
                · repeat (first | exact hN1 | refine At.alloc ?_ _)
                · repeat (first | exact hM1 | refine At.alloc ?_ _)
                · rw [hi.out]; repeat (first | exact At.new' (by simp) | refine At.alloc ?_ _)
                · repeat (first | exact hbw1 | refine Below.alloc ?_ (by first | exact hbs | (simp; try omega)) _)
      case rest =>
        obtain ⟨hA2, hB2, hN2, hM2, hW2, hbw2⟩ := hcut
        clear hA1 hB1 hN1 hM1 hbw1 zn zm zn2 zm2 n0 n1 n2 n3 m0 m1 m2 m3 htst
        obtain ⟨za, a0, a1, a2, a3⟩ := id hA2
        obtain ⟨zb, b0, b1, b2, b3⟩ := id hB2
        obtain ⟨zw, q0, q1, q2, q3⟩ := id hW2
        have hfw := eqf_self rw' (relF_r hrf.out)
        go_upto_region 9 with fail
        go_cut [64] from 20 (fun v wd => v = .bool false ∧ At wd w.heap.size k i r s ∧ At wd (w.heap.size + 1) k2 i2 r2 s2 ∧ At wd pn k' i' r' s' ∧ At wd pm k2' i2' r2' s2' ∧ Below w.heap.size w wd)
        case first =>
          go_region_held3 (fun w' => w'.cell? ⟨w.heap.size, 0, none⟩ = some (.int .u8 k) ∧ w'.cell? ⟨w.heap.size, 1, none⟩ = some (.int .i64 i) ∧ w'.cell? ⟨w.heap.size, 2, none⟩ = some (.float .f64 r) ∧ w'.cell? ⟨w.heap.size, 3, none⟩ = some (.string s) ∧
              w'.cell? ⟨w.heap.size + 1, 0, none⟩ = some (.int .u8 k2) ∧ w'.cell? ⟨w.heap.size + 1, 1, none⟩ = some (.int .i64 i2) ∧ w'.cell? ⟨w.heap.size + 1, 2, none⟩ = some (.float .f64 r2) ∧ w'.cell? ⟨w.heap.size + 1, 3, none⟩ = some (.string s2) ∧
              w'.cell? ⟨w1.heap.size + 1, 0, none⟩ = some (.int .u8 kw) ∧ w'.cell? ⟨w1.heap.size + 1, 1, none⟩ = some (.int .i64 iw) ∧ w'.cell? ⟨w1.heap.size + 1, 2, none⟩ = some (.float .f64 rw') ∧ w'.cell? ⟨w1.heap.size + 1, 3, none⟩ = some (.string sw)) (simp [*])
            (first | (go_at_call 9; refine (HRel.out _ _ _ _ hrf.out _).mono ?_; rintro e w2 ⟨rfl, hb⟩; have hA3 := hA2.drew.below hb; have hB3 := hB2.drew.below hb; have hW3 := hW2.drew.below hb; obtain ⟨_, x0, x1, x2, x3⟩ := id hA3; obtain ⟨_, x4, x5, x6, x7⟩ := id hB3; obtain ⟨_, x8, x9, x10, x11⟩ := id hW3))
          go_wp2_with fail
          go_meet
          case rel => exact ⟨rfl, hA3, hB3, hN2.drew.below hb, hM2.drew.below hb, hbw2.drew.trans (hb.mono hbw2.size)⟩
        case rest =>
          obtain ⟨rfl, hA4, hB4, hN4, hM4, hbw4⟩ := hcut
          clear hA2 hB2 hN2 hM2 hW2 hbw2 za a0 a1 a2 a3 zb b0 b1 b2 b3 zw q0 q1 q2 q3 hfw HRel hrf
          obtain ⟨zn, n0, n1, n2, n3⟩ := id hN4
          go_upto_block 0 with fail
          go_cut [18] from 20 (fun v wd => v = .int .i8 (truF ⟨k', i', r', s'⟩) ∧ wd = wc)
          case first =>
            have hsh := shapes hw H.out
            rcases hsh with ⟨rfl, _⟩ | ⟨rfl, _⟩ | ⟨rfl, _⟩ | ⟨rfl, _⟩
            · go_wp2_with fail
              go_meet
              case rel => exact ⟨rfl, rfl⟩
            · cases hq : (i' != 0)
              all_goals
                go_wp2_with fail
                go_meet
                case rel => exact ⟨(congrArg (Value.int .i8) (Eq.trans (rfl : truF ⟨1, i', r', s'⟩ = sgn false (i' != 0)) (congrArg (sgn false) hq))).symm, rfl⟩
            · cases hq : (FloatKind.f64.format.order r' 0 != some Ordering.eq)
              all_goals
                go_wp2_with fail
                go_meet
                case rel => exact ⟨(congrArg (Value.int .i8) (Eq.trans (rfl : truF ⟨2, i', r', s'⟩ = sgn false (FloatKind.f64.format.order r' 0 != some Ordering.eq)) (congrArg (sgn false) hq))).symm, rfl⟩
            · go_wp2_with fail
              go_meet
              case rel => exact ⟨rfl, rfl⟩
          case rest =>
            obtain ⟨rfl, rfl⟩ := hcut
            obtain ⟨za, a0, a1, a2, a3⟩ := id hA4
            generalize htf : truF ⟨k', i', r', s'⟩ = tf at HTru
            clear htf
            go_upto_region 24 with (go_at_call 10; refine (HTru.out _).mono ?_; rintro e w3 ⟨rfl, t1, t2, t3, rfl⟩)
            obtain ⟨zm, m0, m1, m2, m3⟩ := id hM4
            have zn2 : pn < wc.heap.size + 1 := by omega
            have zn3 : pn < wc.heap.size + 1 + 1 := by omega
            have zn4 : pn < wc.heap.size + 1 + 1 + 1 := by omega
            have zm2 : pm < wc.heap.size + 1 := by omega
            have zm3 : pm < wc.heap.size + 1 + 1 := by omega
            have zm4 : pm < wc.heap.size + 1 + 1 + 1 := by omega
            obtain ⟨tst2, htst⟩ : ∃ b : Bool, Hid (b = (k' == 3 && (k2' == 3 && decide (s'.size + s2'.size ≤ 8)))) := ⟨_, rfl⟩
            go_cut [102] from 20 (fun v wd => v = .bool tst2 ∧ wd = (((wc.alloc (.cells t1 25)).alloc (.cells t2 25)).alloc (.cells t3 25)).alloc (.cells #[.int .u8 0, .int .i64 0, .float .f64 0, .string ⟨#[]⟩] 25))
            case first =>
              by_cases e1 : k' = 3
              · by_cases e2 : k2' = 3
                · have q1 : s'.size ≤ 8 := by subst e1; exact (text_of hw H.out).1
                  have q2 : s2'.size ≤ 8 := by subst e2; exact (text_of hw2 H2.out).1
                  by_cases e3 : (s'.size : Int) + (s2'.size : Int) ≤ 8
                  · have ht : tst2 = true := by rw [htst.out, e1, e2]; simp; omega
                    subst ht e1 e2
                    go_wp2_with fail
                    go_meet
                    case rel => exact ⟨rfl, rfl⟩
                  · have ht : tst2 = false := by rw [htst.out, e1, e2]; simp; omega
                    subst ht e1 e2
                    go_wp2_with fail
                    go_meet
                    case rel => exact ⟨rfl, rfl⟩
                · have ht : tst2 = false := by rw [htst.out]; simp [e2]
                  subst ht e1
                  go_wp2_with fail
                  go_meet
                  case rel => exact ⟨by simp, rfl⟩
              · have ht : tst2 = false := by rw [htst.out]; simp [e1]
                subst ht
                go_wp2_with fail
                go_meet
                case rel => exact ⟨by simp, rfl⟩
            case rest =>
              obtain ⟨rfl, rfl⟩ := hcut
              obtain ⟨wo, hwo⟩ : ∃ wo : World, wo = wc := ⟨_, rfl⟩
              subst hwo
              obtain ⟨kc, ic, rc, sc, hcf⟩ : ∃ kc ic rc sc, Hid (catF ⟨k', i', r', s'⟩ ⟨k2', i2', r2', s2'⟩ = ⟨kc, ic, rc, sc⟩) := ⟨_, _, _, _, rfl⟩
              go_upto_if 102 with fail
              go_cut [] from 20 (fun wd => At wd w.heap.size k i r s ∧ At wd (w.heap.size + 1) k2 i2 r2 s2 ∧ At wd (wo.heap.size + 1 + 1 + 1) kc ic rc sc ∧ Below w.heap.size w wd)
              case first =>
                have hbs := hbw4.size
                cases tst2 with
                | false =>
                  have hv : vNull = ⟨kc, ic, rc, sc⟩ := by
                    refine Eq.trans ?_ hcf.out
                    refine (if_neg (fun q => ?_)).symm
                    obtain ⟨q1, q2, q3⟩ := q
                    have hh := htst.out
                    have q1 : k' = 3 := q1
                    have q2 : k2' = 3 := q2
                    have q3 : s'.size + s2'.size ≤ 8 := q3
                    rw [q1, q2] at hh
                    simp at hh
                    omega
                  obtain ⟨rfl, rfl, rfl, rfl⟩ : kc = 0 ∧ ic = 0 ∧ rc = 0 ∧ sc = ⟨#[]⟩ := by
                    have := ofMk hv.symm; exact this
                  clear hv
                  go_wp2_with fail
                  go_meet
                  case rel =>
                    refine ⟨?_, ?_, ?_, ?_⟩
                    · repeat (first | exact hA4 | refine At.alloc ?_ _)
                    · repeat (first | exact hB4 | refine At.alloc ?_ _)
                    · exact At.new' (by simp)
                    · repeat (first | exact hbw4 | refine Below.alloc ?_ (by first | exact hbs | (simp; try omega)) _)
                | true =>
                  have hh : k' = 3 ∧ k2' = 3 ∧ s'.size + s2'.size ≤ 8 := by
                    have := htst.out
                    simpa using this
                  obtain ⟨rfl, rfl, q3⟩ := hh
                  have t1 := text_of hw H.out
                  have t2 := text_of hw2 H2.out
                  have hv : vText (s' ++ s2') = ⟨kc, ic, rc, sc⟩ := by
                    refine Eq.trans ?_ hcf.out
                    refine Eq.trans ?_ (if_pos (show (3 : Int) = 3 ∧ (3 : Int) = 3 ∧ s'.size + s2'.size ≤ 8 from ⟨rfl, rfl, q3⟩)).symm
                    refine (norm_vText _ (by rw [ByteArray.size_append]; exact q3) ?_).symm
                    have := Utf.valid_append _ _ t1.2 t2.2
                    rw [ByteArray.data_append, Array.toList_append]
                    exact this
                  obtain ⟨rfl, rfl, rfl, rfl⟩ : kc = 3 ∧ ic = 0 ∧ rc = 0 ∧ sc = s' ++ s2' := by
                    have := ofMk hv.symm; exact this
                  clear hv t1 t2
                  go_wp2_with fail
                  go_meet
                  case rel =>
                    refine ⟨?_, ?_, ?_, ?_⟩
                    · repeat (first | exact hA4 | refine At.alloc ?_ _)
                    · repeat (first | exact hB4 | refine At.alloc ?_ _)
                    · exact At.new' (by simp)
                    · repeat (first | exact hbw4 | refine Below.alloc ?_ (by first | exact hbs | (simp; try omega)) _)
              case rest =>
                obtain ⟨hA6, hB6, hC6, hbw6⟩ := hcut
                clear hA4 hB4 hN4 hM4 hbw4 zn zn2 zn3 zn4 zm zm2 zm3 zm4 n0 n1 n2 n3 m0 m1 m2 m3 za a0 a1 a2 a3 htst
                obtain ⟨za, a0, a1, a2, a3⟩ := id hA6
                obtain ⟨zb, b0, b1, b2, b3⟩ := id hB6
                obtain ⟨zc, q0, q1, q2, q3⟩ := id hC6
                have hfc := eqf_self rc (catF_r hcf.out)
                go_upto_region 26 with fail
                go_region_held3 (fun w' => w'.cell? ⟨w.heap.size, 0, none⟩ = some (.int .u8 k) ∧ w'.cell? ⟨w.heap.size, 1, none⟩ = some (.int .i64 i) ∧ w'.cell? ⟨w.heap.size, 2, none⟩ = some (.float .f64 r) ∧ w'.cell? ⟨w.heap.size, 3, none⟩ = some (.string s) ∧
                    w'.cell? ⟨w.heap.size + 1, 0, none⟩ = some (.int .u8 k2) ∧ w'.cell? ⟨w.heap.size + 1, 1, none⟩ = some (.int .i64 i2) ∧ w'.cell? ⟨w.heap.size + 1, 2, none⟩ = some (.float .f64 r2) ∧ w'.cell? ⟨w.heap.size + 1, 3, none⟩ = some (.string s2) ∧
                    w'.cell? ⟨wo.heap.size + 1 + 1 + 1, 0, none⟩ = some (.int .u8 kc) ∧ w'.cell? ⟨wo.heap.size + 1 + 1 + 1, 1, none⟩ = some (.int .i64 ic) ∧ w'.cell? ⟨wo.heap.size + 1 + 1 + 1, 2, none⟩ = some (.float .f64 rc) ∧ w'.cell? ⟨wo.heap.size + 1 + 1 + 1, 3, none⟩ = some (.string sc)) (simp [*])
                  (first | (go_at_call 11; refine (HCat.out _ _ _ _ hcf.out _).mono ?_; rintro e w5 ⟨rfl, hb⟩; have hA7 := hA6.drew.below hb; have hB7 := hB6.drew.below hb; have hC7 := hC6.drew.below hb; obtain ⟨_, x0, x1, x2, x3⟩ := id hA7; obtain ⟨_, x4, x5, x6, x7⟩ := id hB7; obtain ⟨_, x8, x9, x10, x11⟩ := id hC7))
                go_wp2_with fail
                go_ret
                exact ⟨rfl, hbw6.drew.trans (hb.mono hbw6.size)⟩
end Go.Proofs.Ygdaag
