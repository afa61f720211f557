/-
  THE WALK of val.Concat.
-/
import Derived.Test.YgdaagVal
import Derived.Deep.RegionHeld3
import Derived.Deep.RegionWith
import Derived.Deep.DeepCutAuto
namespace Go.Proofs.Ygdaag
open Go.RowKit

/-- val.Concat, of two normal values. -/
def catF (a b : Vl) : Vl := if a.k = 3 ∧ b.k = 3 ∧ a.s.size + b.s.size ≤ 8 then norm (vText (a.s ++ b.s)) else vNull

theorem text_of {v : Vl} {i : Int} {r : Nat} {s : ByteArray} (hw : Wf v) (h : norm v = ⟨3, i, r, s⟩) : s.size ≤ 8 ∧ Utf.valid s.data.toList = true := by
  rcases norm_shape v hw with e | ⟨i', e, _⟩ | ⟨r', e, _, _, _⟩ | ⟨s', e, a, b⟩ <;> rw [h] at e <;> have q := ofMk e
  · exact absurd q.1 (by simp [vNull])
  · exact absurd q.1 (by simp [vInt])
  · exact absurd q.1 (by simp [vReal])
  · have : s = s' := q.2.2.2
    subst this
    exact ⟨a, b⟩

set_option maxRecDepth 100000 in
set_option maxHeartbeats 1000000 in
theorem concat_any (k i : Int) (r : Nat) (s : ByteArray) (hw : Wf ⟨k, i, r, s⟩) (k2 i2 : Int) (r2 : Nat) (s2 : ByteArray) (hw2 : Wf ⟨k2, i2, r2, s2⟩)
   (ka ia : Int) (ra : Nat) (sa : ByteArray) (hc : catF (norm ⟨k, i, r, s⟩) (norm ⟨k2, i2, r2, s2⟩) = ⟨ka, ia, ra, sa⟩) (w : World) :
    Calls Yaad.prog 11 #[.agg #[.int .u8 k, .int .i64 i, .float .f64 r, .string s], .agg #[.int .u8 k2, .int .i64 i2, .float .f64 r2, .string s2]] w fun e w' =>
      e = .returned (.agg #[.int .u8 ka, .int .i64 ia, .float .f64 ra, .string sa]) ∧ Below w.heap.size w w' := by
  rcases h : norm ⟨k, i, r, s⟩ with ⟨k', i', r', s'⟩
  rcases h2 : norm ⟨k2, i2, r2, s2⟩ with ⟨k2', i2', r2', s2'⟩
  rw [h, h2] at hc
  have H : Hid _ := h
  have H2 : Hid _ := h2
  have HC : Hid _ := hc
  clear h h2 hc
  go_enter Yaad.func11, Yaad.ntmps11
  go_upto_region 1 with fail
  go_cut [] from 5 (fun wc => ∃ c1 c2 c3 c4 : Array Value, wc = (((((((w.alloc (.cells #[.int .u8 k', .int .i64 i', .float .f64 r', .string s'] 25)).alloc (.cells #[.int .u8 k2', .int .i64 i2', .float .f64 r2', .string s2'] 25)).alloc (.cells #[.int .u8 0, .int .i64 0, .float .f64 0, .string ⟨#[]⟩] 25)).alloc (.cells c1 25)).alloc (.cells c2 25)).alloc (.cells c3 25)).alloc (.cells c4 25)).drew)
  case first =>
    go_region_with
      (first
      | (go_at_call_of 14 s; refine (norm_any _ _ _ _ _ _ _ _ hw H.out _).mono ?_; rintro e w' ⟨rfl, c1, c2, rfl⟩)
      | (go_at_call_of 14 s2; refine (norm_any _ _ _ _ _ _ _ _ hw2 H2.out _).mono ?_; rintro e w' ⟨rfl, c1, c2, rfl⟩))
    all_goals
      go_wp2_with fail
      go_meet
      case rel => exact ⟨_, _, _, _, rfl⟩
  case rest =>
    obtain ⟨c1, c2, c3, c4, rfl⟩ := hcut
    by_cases e1 : k' = 3
    · by_cases e2 : k2' = 3
      · subst e1 e2
        have b1 : s'.size ≤ 8 := (text_of hw H.out).1
        have b2 : s2'.size ≤ 8 := (text_of hw2 H2.out).1
        by_cases e3 : (8 : Int) < (s'.size : Int) + (s2'.size : Int)
        · have HR : Hid ((⟨ka, ia, ra, sa⟩ : Vl) = vNull) := by
            refine HC.out.symm.trans ?_
            exact if_neg (fun q => by have q3 : s'.size + s2'.size ≤ 8 := q.2.2; omega)
          clear HC
          go_wp2_with fail
          simp [bodyPost, results, Yaad.results11, go_sem]
          exact ⟨ofMk HR.out.symm, by repeat (first | exact Below.refl _ _ | apply Below.drew | refine Below.alloc ?_ (by simp; try omega) _)⟩
        · have HR : Hid (norm (vText (s' ++ s2')) = ⟨ka, ia, ra, sa⟩) := by
            refine Eq.trans ?_ HC.out
            exact (if_pos ⟨rfl, rfl, by show s'.size + s2'.size ≤ 8; omega⟩).symm
          clear HC
          have hsz : Hid ((s' ++ s2').size ≤ maxLen) := by
            show (s' ++ s2').size ≤ maxLen
            rw [ByteArray.size_append]; unfold maxLen; omega
          go_wp2_with (go_at_call 27; refine (textV_any _ ka ia ra sa hsz.out HR.out _).mono ?_; rintro e w' ⟨rfl, d1, d2, d3, rfl⟩)
          simp [bodyPost, results, Yaad.results11, go_sem]
          repeat (first | exact Below.refl _ _ | apply Below.drew | refine Below.alloc ?_ (by simp; try omega) _)
      · have HR : Hid ((⟨ka, ia, ra, sa⟩ : Vl) = vNull) := by
          refine HC.out.symm.trans ?_
          exact if_neg (fun q => e2 q.2.1)
        clear HC
        subst e1
        go_wp2_with fail
        simp [bodyPost, results, Yaad.results11, go_sem]
        exact ⟨ofMk HR.out.symm, by repeat (first | exact Below.refl _ _ | apply Below.drew | refine Below.alloc ?_ (by simp; try omega) _)⟩
    · have HR : Hid ((⟨ka, ia, ra, sa⟩ : Vl) = vNull) := by
        refine HC.out.symm.trans ?_
        exact if_neg (fun q => e1 q.1)
      clear HC
      go_wp2_with fail
      simp [bodyPost, results, Yaad.results11, go_sem]
      exact ⟨ofMk HR.out.symm, by repeat (first | exact Below.refl _ _ | apply Below.drew | refine Below.alloc ?_ (by simp; try omega) _)⟩

end Go.Proofs.Ygdaag
