/-
  THE WALK of val.Rel.
-/
import Derived.Test.YgdaagCmp2
namespace Go.Proofs.Ygdaag
open Go.RowKit

theorem bcell {W w1 : World} (hb : Below W.heap.size W w1) : (∀ b o, b < W.heap.size → w1.cell? ⟨b, o, none⟩ = W.cell? ⟨b, o, none⟩) ∧ (∀ b o, b < W.heap.size → w1.frozen? ⟨b, o, none⟩ = W.frozen? ⟨b, o, none⟩) :=
  ⟨fun b o h => hb.cell (p := ⟨b, o, none⟩) h, fun b o h => hb.frozen (p := ⟨b, o, none⟩) h⟩

/-- The result's block behind a callee that keeps what there was. -/
theorem block_kept {w w1 : World} {A B R c1 c2 c3 c4 : Array Value}
    (hb : Below (((((((w.alloc (.cells A 25)).alloc (.cells B 25)).alloc (.cells R 25)).alloc (.cells c1 25)).alloc (.cells c2 25)).alloc (.cells c3 25)).alloc (.cells c4 25)).drew.heap.size
      (((((((w.alloc (.cells A 25)).alloc (.cells B 25)).alloc (.cells R 25)).alloc (.cells c1 25)).alloc (.cells c2 25)).alloc (.cells c3 25)).alloc (.cells c4 25)).drew w1) :
    w.heap.size + 1 + 1 < w1.heap.size ∧ (∀ j, w1.frozen? ⟨w.heap.size + 1 + 1, j, none⟩ = false) ∧ (∀ j v, R[j]? = some v → w1.cell? ⟨w.heap.size + 1 + 1, j, none⟩ = some v) ∧ Below w.heap.size w w1 := by
  have hz := hb.size
  simp at hz
  refine ⟨by omega, fun j => ?_, fun j v hj => ?_, ?_⟩
  · rw [hb.frozen (p := ⟨w.heap.size + 1 + 1, j, none⟩) (by simp)]
    simp [go_sem]
  · rw [hb.cell (p := ⟨w.heap.size + 1 + 1, j, none⟩) (by simp)]
    simp [go_sem, hj]
  · refine Below.trans ?_ (hb.mono (by simp; omega))
    repeat (first | exact Below.refl _ _ | apply Below.drew | refine Below.alloc ?_ (by simp; try omega) _)

/-- The six rows of Rel, by Compare's answer. -/
def relB (op c : Int) : Bool :=
  if op = 0 then c == 0 else if op = 1 then c != 0 else if op = 2 then decide (c < 0) else if op = 3 then decide (c ≤ 0) else if op = 4 then decide (0 < c) else decide (0 ≤ c)

/-- val.Rel, of two normal values. -/
def relF (op : Int) (a b : Vl) : Vl := if 5 < op ∨ a.k = 0 ∨ b.k = 0 then vNull else vInt (tr (relB op (cmpF a b)))

set_option maxRecDepth 100000 in
set_option maxHeartbeats 2000000 in
theorem rel_any (op : Int) (ho : 0 ≤ op) (k i : Int) (r : Nat) (s : ByteArray) (hw : Wf ⟨k, i, r, s⟩) (k2 i2 : Int) (r2 : Nat) (s2 : ByteArray) (hw2 : Wf ⟨k2, i2, r2, s2⟩)
    (ka ia : Int) (ra : Nat) (sa : ByteArray) (hc : relF op (norm ⟨k, i, r, s⟩) (norm ⟨k2, i2, r2, s2⟩) = ⟨ka, ia, ra, sa⟩) (w : World) :
    Calls Yaad.prog 9 #[.int .u8 op, .agg #[.int .u8 k, .int .i64 i, .float .f64 r, .string s], .agg #[.int .u8 k2, .int .i64 i2, .float .f64 r2, .string s2]] w fun e w' =>
      e = .returned (.agg #[.int .u8 ka, .int .i64 ia, .float .f64 ra, .string sa]) ∧ Below w.heap.size w w' := by
  have hn := norm_norm _ hw
  have hn2 := norm_norm _ hw2
  have hv := wf_norm _ hw
  have hv2 := wf_norm _ hw2
  rcases h : norm ⟨k, i, r, s⟩ with ⟨k', i', r', s'⟩
  rcases h2 : norm ⟨k2, i2, r2, s2⟩ with ⟨k2', i2', r2', s2'⟩
  rw [h, h2] at hc
  rw [h] at hn hv
  rw [h2] at hn2 hv2
  generalize hcm : cmpF ⟨k', i', r', s'⟩ ⟨k2', i2', r2', s2'⟩ = c
  have hcall : ∀ w, Calls Yaad.prog 24 #[.agg #[.int .u8 k', .int .i64 i', .float .f64 r', .string s'], .agg #[.int .u8 k2', .int .i64 i2', .float .f64 r2', .string s2']] w fun e w' =>
      e = .returned (.int .i8 c) ∧ Below w.heap.size w w' := fun w => by
    have := compare_any k' i' r' s' hv k2' i2' r2' s2' hv2 w
    rw [hn, hn2, hcm] at this
    exact this
  have HR : Hid ((if 5 < op ∨ k' = 0 ∨ k2' = 0 then vNull else vInt (tr (relB op c))) = ⟨ka, ia, ra, sa⟩) := by
    rw [← hcm]; exact hc
  have H : Hid _ := h
  have H2 : Hid _ := h2
  have HCall : Hid _ := hcall
  clear h h2 hc hn hn2 hv hv2 hcm hcall
  go_enter Yaad.func9, Yaad.ntmps9
  go_upto_region 1 with fail
  go_cut [] from 8 (fun wc => ∃ c1 c2 c3 c4 : Array Value, wc = (((((((w.alloc (.cells #[.int .u8 k', .int .i64 i', .float .f64 r', .string s'] 25)).alloc (.cells #[.int .u8 k2', .int .i64 i2', .float .f64 r2', .string s2'] 25)).alloc (.cells #[.int .u8 0, .int .i64 0, .float .f64 0, .string ⟨#[]⟩] 25)).alloc (.cells c1 25)).alloc (.cells c2 25)).alloc (.cells c3 25)).alloc (.cells c4 25)).drew)
  case first =>
    go_region_with
      (first
      | (go_at_call_of 14 s; refine (norm_any _ _ _ _ _ _ _ _ hw H.out _).mono ?_; rintro e w' ⟨rfl, c1, c2, rfl⟩)
      | (go_at_call_of 14 s2; refine (norm_any _ _ _ _ _ _ _ _ hw2 H2.out _).mono ?_; rintro e w' ⟨rfl, c1, c2, rfl⟩))
    all_goals
      go_wp2_with fail
      go_meet
      case rel => exact ⟨_, _, _, _, rfl⟩
  case rest =>
    obtain ⟨c1, c2, c3, c4, rfl⟩ := hcut
    by_cases hnull : 5 < op ∨ k' = 0 ∨ k2' = 0
    · have HN : Hid (vNull = ⟨ka, ia, ra, sa⟩) := by
        refine Eq.trans ?_ HR.out
        exact (if_pos hnull).symm
      clear HR
      by_cases o5 : 5 < op
      · clear hnull
        go_wp2_with fail
        simp [bodyPost, results, Yaad.results9, go_sem]
        exact ⟨ofMk HN.out, by repeat (first | exact Below.refl _ _ | apply Below.drew | refine Below.alloc ?_ (by simp; try omega) _)⟩
      · by_cases a0 : k' = 0
        · subst a0
          clear hnull
          go_wp2_with fail
          simp [bodyPost, results, Yaad.results9, go_sem]
          exact ⟨ofMk HN.out, by repeat (first | exact Below.refl _ _ | apply Below.drew | refine Below.alloc ?_ (by simp; try omega) _)⟩
        · have b0 : k2' = 0 := by omega
          subst b0
          clear hnull
          go_wp2_with fail
          simp [bodyPost, results, Yaad.results9, go_sem]
          exact ⟨ofMk HN.out, by repeat (first | exact Below.refl _ _ | apply Below.drew | refine Below.alloc ?_ (by simp; try omega) _)⟩
    · have HN : Hid (vInt (tr (relB op c)) = ⟨ka, ia, ra, sa⟩) := by
        refine Eq.trans ?_ HR.out
        exact (if_neg hnull).symm
      clear HR
      have a0 : (k' == 0) = false := by simp; omega
      have b0 : (k2' == 0) = false := by simp; omega
      have ops : op = 0 ∨ op = 1 ∨ op = 2 ∨ op = 3 ∨ op = 4 ∨ op = 5 := by omega
      clear hnull
      rcases ops with rfl | rfl | rfl | rfl | rfl | rfl
      all_goals
        go_wp2_with (first
          | (go_at_call 24; refine (HCall.out _).mono ?_; rintro e w1 ⟨rfl, hb⟩; obtain ⟨hz, hfz, hcz, hbw⟩ := block_kept hb; have hz2 := Nat.lt_succ_of_lt hz; have z0 := hcz 0 _ rfl; have z1 := hcz 1 _ rfl; have z2 := hcz 2 _ rfl; have z3 := hcz 3 _ rfl; clear hb hcz)
          | (go_at_call 25; refine (truth_any _ _).mono ?_; rintro e w' ⟨rfl, d1, d2, rfl⟩))
        simp [bodyPost, results, Yaad.results9, go_sem, *]
        exact ⟨ofMk HN.out, by repeat (first | exact hbw | refine Below.setCell ?_ (by show w.heap.size ≤ w.heap.size + 1 + 1; omega) _ | refine Below.alloc ?_ (by have := hbw.size; simp; try omega) _)⟩
end Go.Proofs.Ygdaag
