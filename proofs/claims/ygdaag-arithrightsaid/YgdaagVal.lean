/-
  THE WALKS of package val's functions over Values: IntV, truth, RealV, TextV, number, toF, Truth.
-/
import Derived.Test.YgdaagNorm
namespace Go.Proofs.Ygdaag
open Go.RowKit

theorem intV_any (i : Int) (w : World) :
    Calls Yaad.prog 12 #[.int .i64 i] w fun e w' =>
      e = .returned (.agg #[.int .u8 1, .int .i64 i, .float .f64 0, .string ⟨#[]⟩]) ∧ ∃ c1 : Array Value, w' = w.alloc (.cells c1 25) := by
  go_enter Yaad.func12, Yaad.ntmps12
  go_wp2
  simp [bodyPost, results, Yaad.results12, go_sem]
  exact ⟨_, rfl⟩

def tr (b : Bool) : Int := if b then 1 else 0

theorem truth_any (b : Bool) (w : World) :
    Calls Yaad.prog 25 #[.bool b] w fun e w' =>
      e = .returned (.agg #[.int .u8 1, .int .i64 (tr b), .float .f64 0, .string ⟨#[]⟩]) ∧ ∃ c1 c2 : Array Value, w' = (w.alloc (.cells c1 25)).alloc (.cells c2 25) := by
  unfold tr
  cases b <;>
  · go_enter Yaad.func25, Yaad.ntmps25
    go_wp2_with (go_at_call 12; refine (intV_any _ _).mono ?_; rintro e w' ⟨rfl, c1, rfl⟩)
    simp [bodyPost, results, Yaad.results25, go_sem]
    exact ⟨_, _, rfl⟩

set_option maxHeartbeats 400000 in
theorem realV_any (r : Nat) (k' i' : Int) (r' : Nat) (s' : ByteArray) (hr : r < 18446744073709551616) (h : norm (vReal r) = ⟨k', i', r', s'⟩) (w : World) :
    Calls Yaad.prog 18 #[.float .f64 r] w fun e w' =>
      e = .returned (.agg #[.int .u8 k', .int .i64 i', .float .f64 r', .string s']) ∧ ∃ c1 c2 c3 : Array Value, w' = ((w.alloc (.cells c1 25)).alloc (.cells c2 25)).alloc (.cells c3 25) := by
  have hw : Wf (vReal r) := ⟨by simp [vReal], by simp [vReal], by simp [vReal]; decide, hr, by simp [vReal, ByteArray.size]⟩
  have H : Hid _ := h
  clear h
  go_enter Yaad.func18, Yaad.ntmps18
  go_wp2_with (go_at_call 14; refine (norm_any _ _ _ _ k' i' r' s' hw H.out _).mono ?_; rintro e w' ⟨rfl, c1, c2, rfl⟩)
  simp [bodyPost, results, Yaad.results18, go_sem]
  exact ⟨_, _, _, rfl⟩

set_option maxHeartbeats 400000 in
theorem textV_any (s : ByteArray) (k' i' : Int) (r' : Nat) (s' : ByteArray) (hs : s.size ≤ maxLen) (h : norm (vText s) = ⟨k', i', r', s'⟩) (w : World) :
    Calls Yaad.prog 27 #[.string s] w fun e w' =>
      e = .returned (.agg #[.int .u8 k', .int .i64 i', .float .f64 r', .string s']) ∧ ∃ c1 c2 c3 : Array Value, w' = ((w.alloc (.cells c1 25)).alloc (.cells c2 25)).alloc (.cells c3 25) := by
  have hw : Wf (vText s) := ⟨by simp [vText], by simp [vText], by simp [vText]; decide, by simp [vText], hs⟩
  have H : Hid _ := h
  clear h
  go_enter Yaad.func27, Yaad.ntmps27
  go_wp2_with (go_at_call 14; refine (norm_any _ _ _ _ k' i' r' s' hw H.out _).mono ?_; rintro e w' ⟨rfl, c1, c2, rfl⟩)
  simp [bodyPost, results, Yaad.results27, go_sem]
  exact ⟨_, _, _, rfl⟩

/-- val.Truth. -/
def truF (v : Vl) : Int := if v.k = 0 then -1 else if v.k = 1 then sgn false (v.i != 0) else if v.k = 2 then sgn false (!eqB v.r 0) else 0

set_option maxHeartbeats 400000 in
theorem truthF_any (k i : Int) (r : Nat) (s : ByteArray) (hw : Wf ⟨k, i, r, s⟩) (w : World) :
    Calls Yaad.prog 10 #[.agg #[.int .u8 k, .int .i64 i, .float .f64 r, .string s]] w fun e w' =>
      e = .returned (.int .i8 (truF (norm ⟨k, i, r, s⟩))) ∧ ∃ c1 c2 c3 : Array Value, w' = ((w.alloc (.cells c1 25)).alloc (.cells c2 25)).alloc (.cells c3 25) := by
  rcases norm_shape _ hw with h | ⟨i', h, _⟩ | ⟨r', h, _, _, _⟩ | ⟨s', h, _, _⟩
  all_goals
    rw [h]
    have H : Hid _ := h
    clear h
    go_enter Yaad.func10, Yaad.ntmps10
    go_wp2_with (first
      | (go_at_call 14; refine (norm_any _ _ _ _ _ _ _ _ hw H.out _).mono ?_; rintro e w' ⟨rfl, c1, c2, rfl⟩)
      | (go_at_call 26; refine (sign_any _ _ _).mono ?_; rintro e w' ⟨rfl, rfl⟩)
      | (go_at_call 22; refine (feq_any _ _ _).mono ?_; rintro e w' ⟨rfl, rfl⟩))
    go_ret
    exact ⟨rfl, _, _, _, rfl⟩

end Go.Proofs.Ygdaag
