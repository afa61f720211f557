/-
  val.Norm: the plain function, and the walk.
-/
import Derived.Test.YgdaagUtfW
namespace Go.Proofs.Ygdaag
open Go.RowKit

theorem Yaad.cells25 : Yaad.prog.cellsOf 25 = 4 := by kernel_rfl

@[go_sem] theorem run_store_float {P : Program} (w : World) (a : Addr) (k : FloatKind) (b : Nat) (m : Mode) : (store a (.float k b) m).run P w = stored P w a (.float k b) m := run_store P w a _ m rfl

/-- A val.Value, as data. -/
structure Vl where
  k : Int
  i : Int
  r : Nat
  s : ByteArray

def vNull : Vl := ⟨0, 0, 0, ⟨#[]⟩⟩
def vInt (i : Int) : Vl := ⟨1, i, 0, ⟨#[]⟩⟩
def vReal (r : Nat) : Vl := ⟨2, 0, r, ⟨#[]⟩⟩
def vText (s : ByteArray) : Vl := ⟨3, 0, 0, s⟩

/-- val.Norm. -/
def norm (v : Vl) : Vl :=
  if v.k = 1 then vInt v.i
  else if v.k = 2 then (if Flt.nanB v.r = true then vNull else if negZ v.r = true then vReal 0 else vReal v.r)
  else if v.k = 3 then (if v.s.size ≤ 8 ∧ Utf.valid v.s.data.toList = true then vText v.s else vNull)
  else vNull

theorem ofMk {a b : Vl} (h : a = b) : a.k = b.k ∧ a.i = b.i ∧ a.r = b.r ∧ a.s = b.s := by subst h; exact ⟨rfl, rfl, rfl, rfl⟩

set_option maxHeartbeats 400000 in
theorem norm_int (i : Int) (r : Nat) (s : ByteArray) (w : World) :
    Calls Yaad.prog 14 #[.agg #[.int .u8 1, .int .i64 i, .float .f64 r, .string s]] w fun e w' =>
      e = .returned (.agg #[.int .u8 1, .int .i64 i, .float .f64 0, .string ⟨#[]⟩]) ∧ ∃ c1 c2 : Array Value, w' = (w.alloc (.cells c1 25)).alloc (.cells c2 25) := by
  go_enter Yaad.func14, Yaad.ntmps14
  go_wp2
  simp [bodyPost, results, Yaad.results14, go_sem]
  exact ⟨_, _, rfl⟩

set_option maxHeartbeats 400000 in
theorem norm_else (k i : Int) (r : Nat) (s : ByteArray) (w : World) (h1 : k ≠ 1) (h2 : k ≠ 2) (h3 : k ≠ 3) :
    Calls Yaad.prog 14 #[.agg #[.int .u8 k, .int .i64 i, .float .f64 r, .string s]] w fun e w' =>
      e = .returned (.agg #[.int .u8 0, .int .i64 0, .float .f64 0, .string ⟨#[]⟩]) ∧ ∃ c1 c2 : Array Value, w' = (w.alloc (.cells c1 25)).alloc (.cells c2 25) := by
  go_enter Yaad.func14, Yaad.ntmps14
  go_wp2
  simp [bodyPost, results, Yaad.results14, go_sem]
  exact ⟨_, _, rfl⟩

set_option maxHeartbeats 400000 in
theorem norm_nan (i : Int) (r : Nat) (s : ByteArray) (w : World) (hr : r < 18446744073709551616) (hn : Flt.nanB r = true) :
    Calls Yaad.prog 14 #[.agg #[.int .u8 2, .int .i64 i, .float .f64 r, .string s]] w fun e w' =>
      e = .returned (.agg #[.int .u8 0, .int .i64 0, .float .f64 0, .string ⟨#[]⟩]) ∧ ∃ c1 c2 : Array Value, w' = (w.alloc (.cells c1 25)).alloc (.cells c2 25) := by
  go_enter Yaad.func14, Yaad.ntmps14
  go_wp2_with (first | (go_at_call 32; refine (isNaN_any _ _ hr).mono ?_; rintro e w' ⟨rfl, rfl⟩) | (go_at_call 33; refine (isNegZero_any _ _).mono ?_; rintro e w' ⟨rfl, rfl⟩))
  simp [bodyPost, results, Yaad.results14, go_sem]
  exact ⟨_, _, rfl⟩

set_option maxHeartbeats 400000 in
theorem norm_negz (i : Int) (r : Nat) (s : ByteArray) (w : World) (hr : r < 18446744073709551616) (hn : Flt.nanB r = false) (hz : negZ r = true) :
    Calls Yaad.prog 14 #[.agg #[.int .u8 2, .int .i64 i, .float .f64 r, .string s]] w fun e w' =>
      e = .returned (.agg #[.int .u8 2, .int .i64 0, .float .f64 0, .string ⟨#[]⟩]) ∧ ∃ c1 c2 : Array Value, w' = (w.alloc (.cells c1 25)).alloc (.cells c2 25) := by
  go_enter Yaad.func14, Yaad.ntmps14
  go_wp2_with (first | (go_at_call 32; refine (isNaN_any _ _ hr).mono ?_; rintro e w' ⟨rfl, rfl⟩) | (go_at_call 33; refine (isNegZero_any _ _).mono ?_; rintro e w' ⟨rfl, rfl⟩))
  simp [bodyPost, results, Yaad.results14, go_sem]
  exact ⟨_, _, rfl⟩

set_option maxHeartbeats 400000 in
theorem norm_real (i : Int) (r : Nat) (s : ByteArray) (w : World) (hr : r < 18446744073709551616) (hn : Flt.nanB r = false) (hz : negZ r = false) :
    Calls Yaad.prog 14 #[.agg #[.int .u8 2, .int .i64 i, .float .f64 r, .string s]] w fun e w' =>
      e = .returned (.agg #[.int .u8 2, .int .i64 0, .float .f64 r, .string ⟨#[]⟩]) ∧ ∃ c1 c2 : Array Value, w' = (w.alloc (.cells c1 25)).alloc (.cells c2 25) := by
  go_enter Yaad.func14, Yaad.ntmps14
  go_wp2_with (first | (go_at_call 32; refine (isNaN_any _ _ hr).mono ?_; rintro e w' ⟨rfl, rfl⟩) | (go_at_call 33; refine (isNegZero_any _ _).mono ?_; rintro e w' ⟨rfl, rfl⟩))
  simp [bodyPost, results, Yaad.results14, go_sem]
  exact ⟨_, _, rfl⟩

set_option maxHeartbeats 400000 in
theorem norm_long (i : Int) (r : Nat) (s : ByteArray) (w : World) (hl : (8 : Int) < (s.size : Int)) :
    Calls Yaad.prog 14 #[.agg #[.int .u8 3, .int .i64 i, .float .f64 r, .string s]] w fun e w' =>
      e = .returned (.agg #[.int .u8 0, .int .i64 0, .float .f64 0, .string ⟨#[]⟩]) ∧ ∃ c1 c2 : Array Value, w' = (w.alloc (.cells c1 25)).alloc (.cells c2 25) := by
  go_enter Yaad.func14, Yaad.ntmps14
  go_wp2
  simp [bodyPost, results, Yaad.results14, go_sem]
  exact ⟨_, _, rfl⟩

set_option maxHeartbeats 400000 in
theorem norm_bad (i : Int) (r : Nat) (s : ByteArray) (w : World) (hl : s.size ≤ 8) (hv : Utf.valid s.data.toList = false) :
    Calls Yaad.prog 14 #[.agg #[.int .u8 3, .int .i64 i, .float .f64 r, .string s]] w fun e w' =>
      e = .returned (.agg #[.int .u8 0, .int .i64 0, .float .f64 0, .string ⟨#[]⟩]) ∧ ∃ c1 c2 : Array Value, w' = (w.alloc (.cells c1 25)).alloc (.cells c2 25) := by
  go_enter Yaad.func14, Yaad.ntmps14
  go_wp2_with (go_at_call 34; refine (validUTF8_any _ _ hl).mono ?_; rintro e w' ⟨rfl, rfl⟩)
  simp [bodyPost, results, Yaad.results14, go_sem]
  exact ⟨_, _, rfl⟩

set_option maxHeartbeats 400000 in
theorem norm_text (i : Int) (r : Nat) (s : ByteArray) (w : World) (hl : s.size ≤ 8) (hv : Utf.valid s.data.toList = true) :
    Calls Yaad.prog 14 #[.agg #[.int .u8 3, .int .i64 i, .float .f64 r, .string s]] w fun e w' =>
      e = .returned (.agg #[.int .u8 3, .int .i64 0, .float .f64 0, .string s]) ∧ ∃ c1 c2 : Array Value, w' = (w.alloc (.cells c1 25)).alloc (.cells c2 25) := by
  go_enter Yaad.func14, Yaad.ntmps14
  go_wp2_with (go_at_call 34; refine (validUTF8_any _ _ hl).mono ?_; rintro e w' ⟨rfl, rfl⟩)
  simp [bodyPost, results, Yaad.results14, go_sem]
  exact ⟨_, _, rfl⟩

/-- What is known of a value that comes in. -/
structure Wf (v : Vl) : Prop where
  k0 : 0 ≤ v.k
  k1 : v.k ≤ 255
  i : Num.fits v.i = true
  r : v.r < 18446744073709551616
  s : v.s.size ≤ maxLen

/-- THE CONTRACT. -/
theorem norm_any (k i : Int) (r : Nat) (s : ByteArray) (k' i' : Int) (r' : Nat) (s' : ByteArray) (hw : Wf ⟨k, i, r, s⟩) (h : norm ⟨k, i, r, s⟩ = ⟨k', i', r', s'⟩) (w : World) :
    Calls Yaad.prog 14 #[.agg #[.int .u8 k, .int .i64 i, .float .f64 r, .string s]] w fun e w' =>
      e = .returned (.agg #[.int .u8 k', .int .i64 i', .float .f64 r', .string s']) ∧ ∃ c1 c2 : Array Value, w' = (w.alloc (.cells c1 25)).alloc (.cells c2 25) := by
  have hr : r < 18446744073709551616 := hw.r
  unfold norm at h
  simp only at h
  split at h
  · rename_i e; subst e; cases h; exact norm_int i r s w
  · split at h
    · rename_i e; subst e
      split at h
      · cases h; exact norm_nan i r s w hr (by assumption)
      · rename_i hn
        split at h
        · cases h; exact norm_negz i r s w hr (by simpa using hn) (by assumption)
        · rename_i hz
          cases h; exact norm_real i r s w hr (by simpa using hn) (by simpa using hz)
    · split at h
      · rename_i e; subst e
        split at h
        · rename_i hv; cases h; exact norm_text i r s w hv.1 hv.2
        · rename_i hv
          cases h
          by_cases hl : s.size ≤ 8
          · exact norm_bad i r s w hl (by simpa [hl] using hv)
          · exact norm_long i r s w (by omega)
      · cases h; exact norm_else k i r s w (by assumption) (by assumption) (by assumption)

/-- THE SHAPES OF A NORMAL VALUE. -/
theorem norm_shape (v : Vl) (hw : Wf v) : norm v = vNull ∨ (∃ i, norm v = vInt i ∧ Num.fits i = true) ∨
    (∃ r, norm v = vReal r ∧ Flt.nanB r = false ∧ negZ r = false ∧ r < 18446744073709551616) ∨ (∃ s, norm v = vText s ∧ s.size ≤ 8 ∧ Utf.valid s.data.toList = true) := by
  unfold norm
  split
  · exact Or.inr (Or.inl ⟨_, rfl, hw.i⟩)
  · split
    · split
      · exact Or.inl rfl
      · rename_i hn
        split
        · exact Or.inr (Or.inr (Or.inl ⟨_, rfl, by decide, by decide, by decide⟩))
        · rename_i hz
          exact Or.inr (Or.inr (Or.inl ⟨_, rfl, by simpa using hn, by simpa using hz, hw.r⟩))
    · split
      · split
        · rename_i hv; exact Or.inr (Or.inr (Or.inr ⟨_, rfl, hv.1, hv.2⟩))
        · exact Or.inl rfl
      · exact Or.inl rfl

theorem norm_vNull : norm vNull = vNull := rfl
theorem norm_vInt (i : Int) : norm (vInt i) = vInt i := rfl
theorem norm_vReal (r : Nat) (h : Flt.nanB r = false) (hz : negZ r = false) : norm (vReal r) = vReal r := by
  simp [norm, vReal, h, hz]
theorem norm_vText (s : ByteArray) (h : s.size ≤ 8) (hv : Utf.valid s.data.toList = true) : norm (vText s) = vText s := by
  simp [norm, vText, h, hv]

theorem norm_norm (v : Vl) (hw : Wf v) : norm (norm v) = norm v := by
  rcases norm_shape v hw with h | ⟨i, h, _⟩ | ⟨r, h, a, b, _⟩ | ⟨s, h, a, b⟩ <;> rw [h]
  · rfl
  · rfl
  · exact norm_vReal r a b
  · exact norm_vText s a b

theorem wf_norm (v : Vl) (hw : Wf v) : Wf (norm v) := by
  rcases norm_shape v hw with h | ⟨i, h, a⟩ | ⟨r, h, a, b, c⟩ | ⟨s, h, a, b⟩ <;> rw [h]
  · exact ⟨by decide, by decide, by decide, by decide, by decide⟩
  · exact ⟨by simp [vInt], by simp [vInt], a, by simp [vInt], by simp [vInt, ByteArray.size]⟩
  · exact ⟨by simp [vReal], by simp [vReal], by simp [vReal]; decide, c, by simp [vReal, ByteArray.size]⟩
  · exact ⟨by simp [vText], by simp [vText], by simp [vText]; decide, by simp [vText], by simp only [vText]; unfold maxLen; omega⟩

end Go.Proofs.Ygdaag
