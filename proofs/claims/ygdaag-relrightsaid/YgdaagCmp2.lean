/-
  THE WALK of val.Compare.
-/
import Derived.Test.YgdaagCmp
namespace Go.Proofs.Ygdaag
open Go.RowKit

/-- THE SHAPES, field by field. -/
theorem shapes {v : Vl} {k i : Int} {r : Nat} {s : ByteArray} (hw : Wf v) (h : norm v = ⟨k, i, r, s⟩) :
    (k = 0 ∧ i = 0 ∧ r = 0 ∧ s = ⟨#[]⟩) ∨ (k = 1 ∧ Num.fits i = true ∧ r = 0 ∧ s = ⟨#[]⟩) ∨
    (k = 2 ∧ i = 0 ∧ (Flt.nanB r = false ∧ negZ r = false ∧ r < 18446744073709551616) ∧ s = ⟨#[]⟩) ∨ (k = 3 ∧ i = 0 ∧ r = 0 ∧ s.size ≤ 8 ∧ Utf.valid s.data.toList = true) := by
  rcases norm_shape v hw with e | ⟨i', e, a⟩ | ⟨r', e, a, b, c⟩ | ⟨s', e, a, b⟩ <;> rw [h] at e <;> cases e
  · exact Or.inl ⟨rfl, rfl, rfl, rfl⟩
  · exact Or.inr (Or.inl ⟨rfl, a, rfl, rfl⟩)
  · exact Or.inr (Or.inr (Or.inl ⟨rfl, rfl, ⟨a, b, c⟩, rfl⟩))
  · exact Or.inr (Or.inr (Or.inr ⟨rfl, rfl, rfl, a, b⟩))

/-- '<' and '>' on strings, as the walk has them. -/
def sLt (a b : ByteArray) : Bool := Op.bytesLess a.toList b.toList
def sGt (a b : ByteArray) : Bool := !Op.bytesLess a.toList b.toList && !(a.toList == b.toList)

/-- val.Compare, of two normal values. -/
def cmpF (a b : Vl) : Int :=
  if rk a.k ≠ rk b.k then sgn (decide (rk a.k < rk b.k)) (decide (rk b.k < rk a.k))
  else if a.k = 0 then 0
  else if a.k = 3 then sgn (sLt a.s b.s) (sGt a.s b.s)
  else if a.k = 1 ∧ b.k = 1 then sgn (decide (a.i < b.i)) (decide (b.i < a.i))
  else if a.k = 2 ∧ b.k = 2 then sgn (ltB a.r b.r) (gtB a.r b.r)
  else if a.k = 1 then irF a.i b.r
  else IntKind.i8.wrap (-irF b.i a.r)

theorem rk_cases {k k2 : Int} {p q p2 q2 p3 q3 p4 q4 : Prop} (h : (k = 0 ∧ p) ∨ (k = 1 ∧ p2) ∨ (k = 2 ∧ p3) ∨ (k = 3 ∧ p4)) (h2 : (k2 = 0 ∧ q) ∨ (k2 = 1 ∧ q2) ∨ (k2 = 2 ∧ q3) ∨ (k2 = 3 ∧ q4)) (e : rk k = rk k2) :
    (k = 0 ∧ k2 = 0) ∨ (k = 3 ∧ k2 = 3) ∨ (k = 1 ∧ k2 = 1) ∨ (k = 2 ∧ k2 = 2) ∨ (k = 1 ∧ k2 = 2) ∨ (k = 2 ∧ k2 = 1) := by
  rcases h with ⟨rfl, _⟩ | ⟨rfl, _⟩ | ⟨rfl, _⟩ | ⟨rfl, _⟩ <;> rcases h2 with ⟨rfl, _⟩ | ⟨rfl, _⟩ | ⟨rfl, _⟩ | ⟨rfl, _⟩ <;> simp [rk] at e ⊢

set_option maxRecDepth 100000 in
set_option maxHeartbeats 2000000 in
theorem compare_any (k i : Int) (r : Nat) (s : ByteArray) (hw : Wf ⟨k, i, r, s⟩) (k2 i2 : Int) (r2 : Nat) (s2 : ByteArray) (hw2 : Wf ⟨k2, i2, r2, s2⟩) (w : World) :
    Calls Yaad.prog 24 #[.agg #[.int .u8 k, .int .i64 i, .float .f64 r, .string s], .agg #[.int .u8 k2, .int .i64 i2, .float .f64 r2, .string s2]] w fun e w' =>
      e = .returned (.int .i8 (cmpF (norm ⟨k, i, r, s⟩) (norm ⟨k2, i2, r2, s2⟩))) ∧ Below w.heap.size w w' := by
  rcases h : norm ⟨k, i, r, s⟩ with ⟨k', i', r', s'⟩
  rcases h2 : norm ⟨k2, i2, r2, s2⟩ with ⟨k2', i2', r2', s2'⟩
  generalize hc : cmpF ⟨k', i', r', s'⟩ ⟨k2', i2', r2', s2'⟩ = c
  have H : Hid _ := h
  have H2 : Hid _ := h2
  have HC : Hid _ := hc
  clear h h2 hc
  go_enter Yaad.func24, Yaad.ntmps24
  go_upto_region 1 with fail
  go_cut [] from 7 (fun wc => ∃ c1 c2 c3 c4 : Array Value, wc = ((((((w.alloc (.cells #[.int .u8 k', .int .i64 i', .float .f64 r', .string s'] 25)).alloc (.cells #[.int .u8 k2', .int .i64 i2', .float .f64 r2', .string s2'] 25)).alloc (.cells c1 25)).alloc (.cells c2 25)).alloc (.cells c3 25)).alloc (.cells c4 25)).drew)
  case first =>
    go_region_with
      (first
      | (go_at_call_of 14 s; refine (norm_any _ _ _ _ _ _ _ _ hw H.out _).mono ?_; rintro e w' ⟨rfl, c1, c2, rfl⟩)
      | (go_at_call_of 14 s2; refine (norm_any _ _ _ _ _ _ _ _ hw2 H2.out _).mono ?_; rintro e w' ⟨rfl, c1, c2, rfl⟩))
    all_goals
      go_wp2_with fail
      go_meet
      case rel => exact ⟨_, _, _, _, rfl⟩
  case rest =>
    obtain ⟨c1, c2, c3, c4, rfl⟩ := hcut
    by_cases hne : rk k' = rk k2'
    · have Hne : Hid _ := hne
      clear hne
      have hs : Hid _ := shapes hw H.out
      have hs2 : Hid _ := shapes hw2 H2.out
      have hk : Hid ((k' = 0 ∧ k2' = 0) ∨ (k' = 3 ∧ k2' = 3) ∨ (k' = 1 ∧ k2' = 1) ∨ (k' = 2 ∧ k2' = 2) ∨ (k' = 1 ∧ k2' = 2) ∨ (k' = 2 ∧ k2' = 1)) := rk_cases hs.out hs2.out Hne.out
      rcases hk.out with ⟨rfl, rfl⟩ | ⟨rfl, rfl⟩ | ⟨rfl, rfl⟩ | ⟨rfl, rfl⟩ | ⟨rfl, rfl⟩ | ⟨rfl, rfl⟩
      all_goals clear hk
      · have HR : Hid (c = 0) := HC.out.symm
        clear HC hs hs2 Hne
        go_wp2_with fail
        go_quiet ((go_at_call 41; exact (rank_any _ _).mono (fun _ _ h => ⟨h.1, _, h.2⟩)))
        have z0 : rk 0 = 0 := rfl
        go_wp2_with fail
        go_ret
        exact ⟨ret_int HR.out.symm, by repeat (first | exact Below.refl _ _ | apply Below.drew | refine below_drewN ?_ _ | refine Below.alloc ?_ (by simp; try omega) _)⟩
      · have HR : Hid (c = sgn (sLt s' s2') (sGt s' s2')) := HC.out.symm
        clear HC hs hs2 Hne
        go_wp2_with fail
        go_quiet ((go_at_call 41; exact (rank_any _ _).mono (fun _ _ h => ⟨h.1, _, h.2⟩)))
        have z3 : rk 3 = 2 := rfl
        go_wp2_with ((go_at_call 26; refine (sign_any _ _ _).mono ?_; rintro e w' ⟨rfl, rfl⟩))
        go_ret
        exact ⟨ret_int HR.out.symm, by repeat (first | exact Below.refl _ _ | apply Below.drew | refine below_drewN ?_ _ | refine Below.alloc ?_ (by simp; try omega) _)⟩
      · have HR : Hid (c = sgn (decide (i' < i2')) (decide (i2' < i'))) := HC.out.symm
        clear HC hs hs2 Hne
        go_wp2_with fail
        go_quiet ((go_at_call 41; exact (rank_any _ _).mono (fun _ _ h => ⟨h.1, _, h.2⟩)))
        have z1 : rk 1 = 1 := rfl
        go_wp2_with ((go_at_call 26; refine (sign_any _ _ _).mono ?_; rintro e w' ⟨rfl, rfl⟩))
        go_ret
        exact ⟨ret_int HR.out.symm, by repeat (first | exact Below.refl _ _ | apply Below.drew | refine below_drewN ?_ _ | refine Below.alloc ?_ (by simp; try omega) _)⟩
      · have HR : Hid (c = sgn (ltB r' r2') (gtB r' r2')) := HC.out.symm
        clear HC hs hs2 Hne
        go_wp2_with fail
        go_quiet ((go_at_call 41; exact (rank_any _ _).mono (fun _ _ h => ⟨h.1, _, h.2⟩)))
        have z2 : rk 2 = 1 := rfl
        go_wp2_with fail
        go_quiet ((first | (go_at_call 42; exact (flt_any _ _ _).mono (fun _ _ h => ⟨h.1, _, h.2⟩)) | (go_at_call 43; exact (fgt_any _ _ _).mono (fun _ _ h => ⟨h.1, _, h.2⟩)) | (go_at_call 26; exact (sign_any _ _ _).mono (fun _ _ h => ⟨h.1, _, h.2⟩))))
        go_wp2_with fail
        go_ret
        exact ⟨ret_int HR.out.symm, by repeat (first | exact Below.refl _ _ | apply Below.drew | refine below_drewN ?_ _ | refine Below.alloc ?_ (by simp; try omega) _)⟩
      · have HR : Hid (c = irF i' r2') := HC.out.symm
        clear HC hs hs2 Hne
        go_wp2_with fail
        go_quiet ((go_at_call 41; exact (rank_any _ _).mono (fun _ _ h => ⟨h.1, _, h.2⟩)))
        have z1 : rk 1 = 1 := rfl
        have z2 : rk 2 = 1 := rfl
        go_wp2_with ((go_at_call 44; refine (intReal_any _ _ _).mono ?_; rintro e w' ⟨rfl, rfl⟩))
        go_ret
        exact ⟨ret_int HR.out.symm, by repeat (first | exact Below.refl _ _ | apply Below.drew | refine below_drewN ?_ _ | refine Below.alloc ?_ (by simp; try omega) _)⟩
      · have HR : Hid (c = IntKind.i8.wrap (-irF i2' r')) := HC.out.symm
        clear HC hs hs2 Hne
        go_wp2_with fail
        go_quiet ((go_at_call 41; exact (rank_any _ _).mono (fun _ _ h => ⟨h.1, _, h.2⟩)))
        have z1 : rk 1 = 1 := rfl
        have z2 : rk 2 = 1 := rfl
        go_wp2_with ((go_at_call 44; refine (intReal_any _ _ _).mono ?_; rintro e w' ⟨rfl, rfl⟩))
        go_ret
        exact ⟨ret_int HR.out.symm, by repeat (first | exact Below.refl _ _ | apply Below.drew | refine below_drewN ?_ _ | refine Below.alloc ?_ (by simp; try omega) _)⟩
    · have HR : Hid (c = sgn (decide (rk k' < rk k2')) (decide (rk k2' < rk k'))) := HC.out.symm.trans (if_pos hne)
      clear HC
      go_wp2_with fail
      go_quiet ((go_at_call 41; exact (rank_any _ _).mono (fun _ _ h => ⟨h.1, _, h.2⟩)))
      go_wp2_with (go_at_call 26; refine (sign_any _ _ _).mono ?_; rintro e w' ⟨rfl, rfl⟩)
      go_ret
      exact ⟨ret_int HR.out.symm, by repeat (first | exact Below.refl _ _ | apply Below.drew | refine below_drewN ?_ _ | refine Below.alloc ?_ (by simp; try omega) _)⟩
end Go.Proofs.Ygdaag
