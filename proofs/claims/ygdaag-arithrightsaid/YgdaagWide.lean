/-
  THE WALKS of package law's i128.
-/
import Derived.Test.YgdaagInt
import Derived.Deep.RegionHeld3
import Derived.Deep.RegionWith
namespace Go.Proofs.Ygdaag
open Go.RowKit
open Num (fits fits_true fits_false hiW loW)

theorem Yaad.cells57 : Yaad.prog.cellsOf 57 = 2 := by kernel_rfl

theorem wu {n : Int} (h : 0 ≤ n) (h' : n < 18446744073709551616) : IntKind.u64.wrap n = n := by rw [IntKind.wrap_u64]; omega

theorem and_mask (x : Int) (h : 0 ≤ x) (h' : x < 18446744073709551616) : bits .and .u64 x 4294967295 = x % 4294967296 := by
  obtain ⟨n, rfl⟩ := Int.eq_ofNat_of_zero_le h
  have e := u64_and_nat n 4294967295 (by omega) (by decide)
  have e2 : n &&& 4294967295 = n % 4294967296 := Nat.and_two_pow_sub_one_eq_mod n 32
  rw [e2] at e
  have e3 : bits .and .u64 (n : Int) 4294967295 = ((n % 4294967296 : Nat) : Int) := e
  rw [e3]
  omega

theorem or_add (x q : Int) (h : 0 ≤ x) (h' : x < 4294967296) (k : 0 ≤ q) (k' : q < 4294967296) : bits .or .u64 x (q * 4294967296) = x + q * 4294967296 := by
  obtain ⟨n, rfl⟩ := Int.eq_ofNat_of_zero_le h
  obtain ⟨m, rfl⟩ := Int.eq_ofNat_of_zero_le k
  have e := u64_or_nat n (m * 4294967296) (by omega) (by omega)
  have e2 : n ||| m * 4294967296 = n + m * 4294967296 := by
    rw [Nat.or_comm, Nat.mul_comm]
    have := Nat.two_pow_add_eq_or_of_lt (i := 32) (b := n) (by omega) m
    have e4 : (2 : Nat) ^ 32 = 4294967296 := by decide
    rw [e4] at this
    rw [← this]
    omega
  rw [e2] at e
  have e3 : bits .or .u64 (n : Int) ((m : Int) * 4294967296) = ((n + m * 4294967296 : Nat) : Int) := by
    rw [← e]
    congr 1
  rw [e3]
  omega

theorem hi_bd {a b : Int} (ha : 0 ≤ a) (ha' : a < 18446744073709551616) (hb : 0 ≤ b) (hb' : b < 18446744073709551616) : 0 ≤ hiW (a * b) ∧ hiW (a * b) < 18446744073709551616 := by
  have h1 : 0 ≤ a * b := Int.mul_nonneg ha hb
  have h2 : a * b ≤ 18446744073709551615 * 18446744073709551615 := Int.mul_le_mul (by omega) (by omega) hb (by decide)
  unfold hiW
  generalize a * b = p at *
  omega

theorem mulU_hi (a b : Int) (ha : 0 ≤ a) (ha' : a < 18446744073709551616) (hb : 0 ≤ b) (hb' : b < 18446744073709551616) :
    IntKind.u64.wrap (IntKind.u64.wrap (IntKind.u64.wrap (IntKind.u64.wrap (a / 4294967296 * (b / 4294967296)) + IntKind.u64.wrap (bits BinOp.and IntKind.u64 a 4294967295 * (b / 4294967296)) / 4294967296) +
      IntKind.u64.wrap (a / 4294967296 * bits BinOp.and IntKind.u64 b 4294967295) / 4294967296) +
      IntKind.u64.wrap (IntKind.u64.wrap (IntKind.u64.wrap (bits BinOp.and IntKind.u64 a 4294967295 * bits BinOp.and IntKind.u64 b 4294967295) / 4294967296 +
        bits BinOp.and IntKind.u64 (IntKind.u64.wrap (bits BinOp.and IntKind.u64 a 4294967295 * (b / 4294967296))) 4294967295) +
        bits BinOp.and IntKind.u64 (IntKind.u64.wrap (a / 4294967296 * bits BinOp.and IntKind.u64 b 4294967295)) 4294967295) / 4294967296) = hiW (a * b) ∧
    bits BinOp.or IntKind.u64 (bits BinOp.and IntKind.u64 (IntKind.u64.wrap (bits BinOp.and IntKind.u64 a 4294967295 * bits BinOp.and IntKind.u64 b 4294967295)) 4294967295)
      (IntKind.u64.wrap (IntKind.u64.wrap (IntKind.u64.wrap (IntKind.u64.wrap (bits BinOp.and IntKind.u64 a 4294967295 * bits BinOp.and IntKind.u64 b 4294967295) / 4294967296 +
        bits BinOp.and IntKind.u64 (IntKind.u64.wrap (bits BinOp.and IntKind.u64 a 4294967295 * (b / 4294967296))) 4294967295) +
        bits BinOp.and IntKind.u64 (IntKind.u64.wrap (a / 4294967296 * bits BinOp.and IntKind.u64 b 4294967295)) 4294967295) * 4294967296)) = loW (a * b) := by
  rw [and_mask a ha ha', and_mask b hb hb']
  have L := Num.mulU_law a b ha ha' hb hb'
  simp only at L
  have hH := hi_bd ha ha' hb hb'
  have b00 := Num.half_mul (a := a % 4294967296) (b := b % 4294967296) (by omega) (by omega) (by omega) (by omega)
  have b01 := Num.half_mul (a := a % 4294967296) (b := b / 4294967296) (by omega) (by omega) (by omega) (by omega)
  have b10 := Num.half_mul (a := a / 4294967296) (b := b % 4294967296) (by omega) (by omega) (by omega) (by omega)
  have b11 := Num.half_mul (a := a / 4294967296) (b := b / 4294967296) (by omega) (by omega) (by omega) (by omega)
  rw [wu b00.1 (by omega), wu b01.1 (by omega), wu b10.1 (by omega), wu b11.1 (by omega)]
  rw [and_mask _ b00.1 (by omega), and_mask _ b01.1 (by omega), and_mask _ b10.1 (by omega)]
  generalize a % 4294967296 * (b % 4294967296) = p00 at *
  generalize a % 4294967296 * (b / 4294967296) = p01 at *
  generalize a / 4294967296 * (b % 4294967296) = p10 at *
  generalize a / 4294967296 * (b / 4294967296) = p11 at *
  generalize hiW (a * b) = hh at *
  generalize loW (a * b) = ll at *
  obtain ⟨L1, L2⟩ := L
  rw [wu (n := p00 / 4294967296 + p01 % 4294967296) (by omega) (by omega)]
  rw [wu (n := p00 / 4294967296 + p01 % 4294967296 + p10 % 4294967296) (by omega) (by omega)]
  generalize hm : p00 / 4294967296 + p01 % 4294967296 + p10 % 4294967296 = mid at *
  constructor
  · rw [wu (n := p11 + p01 / 4294967296) (by omega) (by omega), wu (n := p11 + p01 / 4294967296 + p10 / 4294967296) (by omega) (by omega), wu (by omega) (by omega)]
    exact L1
  · have e : IntKind.u64.wrap (mid * 4294967296) = (mid % 4294967296) * 4294967296 := by rw [IntKind.wrap_u64]; omega
    rw [e, or_add _ _ (by omega) (by omega) (by omega) (by omega)]
    omega

theorem wide_any (a : Int) (ha : fits a = true) (w : World) :
    Calls Yaad.prog 45 #[.int .i64 a] w fun e w' =>
      e = .returned (.agg #[.int .i64 (hiW a), .int .u64 (loW a)]) ∧ ∃ c1 : Array Value, w' = w.alloc (.cells c1 57) := by
  obtain ⟨a1, a2⟩ := fits_true ha
  go_enter Yaad.func45, Yaad.ntmps45
  go_wp2
  simp [bodyPost, results, Yaad.results45, go_sem]
  exact ⟨⟨by unfold hiW; omega, by rw [IntKind.wrap_u64]; rfl⟩, _, rfl⟩

theorem magnitude_any (a : Int) (ha : fits a = true) (w : World) :
    Calls Yaad.prog 49 #[.int .i64 a] w fun e w' => e = .returned (.int .u64 (Num.mag a)) ∧ w' = w := by
  obtain ⟨a1, a2⟩ := fits_true ha
  by_cases h : a < 0
  · go_enter Yaad.func49, Yaad.ntmps49
    go_wp2
    go_ret
    exact ⟨ret_int (by unfold Num.mag; omega), rfl⟩
  · go_enter Yaad.func49, Yaad.ntmps49
    go_wp2
    go_ret
    exact ⟨ret_int (by unfold Num.mag; omega), rfl⟩

theorem narrow_test (x : Int) : (hiW x != wrap64 (loW x) / 9223372036854775808) = !fits x := by
  cases h : fits x with
  | true =>
    have := fits_true h
    rw [Bool.not_true, bne_eq_false_iff_eq]
    unfold hiW loW
    simp only [wrap64]
    omega
  | false =>
    have := fits_false h
    rw [Bool.not_false, bne_iff_ne]
    unfold hiW loW
    simp only [wrap64]
    omega

theorem narrow_yes (x : Int) (h : fits x = true) (w : World) :
    Calls Yaad.prog 51 #[.agg #[.int .i64 (hiW x), .int .u64 (loW x)]] w fun e w' =>
      e = .returned (.tuple #[.int .i64 x, .bool true]) ∧ ∃ c1 : Array Value, w' = w.alloc (.cells c1 57) := by
  have ht := narrow_test x
  rw [h] at ht
  have H : Hid _ := h
  clear h
  go_enter Yaad.func51, Yaad.ntmps51
  go_wp2
  go_ret2
  refine ⟨ret_ib ?_ rfl, _, rfl⟩
  have := fits_true H.out
  unfold loW
  simp only [wrap64]
  omega

theorem narrow_no (x : Int) (h : fits x = false) (w : World) :
    Calls Yaad.prog 51 #[.agg #[.int .i64 (hiW x), .int .u64 (loW x)]] w fun e w' =>
      e = .returned (.tuple #[.int .i64 0, .bool false]) ∧ ∃ c1 : Array Value, w' = w.alloc (.cells c1 57) := by
  have ht := narrow_test x
  rw [h] at ht
  clear h
  go_enter Yaad.func51, Yaad.ntmps51
  go_wp2
  go_ret2
  exact ⟨rfl, _, rfl⟩

theorem ret_uu {a b c d : Int} (h : a = b ∧ c = d) : Ending.returned (.tuple #[.int .u64 a, .int .u64 c]) = .returned (.tuple #[.int .u64 b, .int .u64 d]) := by rw [h.1, h.2]

theorem mulU_any (a b : Int) (ha : 0 ≤ a) (ha' : a < 18446744073709551616) (hb : 0 ≤ b) (hb' : b < 18446744073709551616) (w : World) :
    Calls Yaad.prog 55 #[.int .u64 a, .int .u64 b] w fun e w' => e = .returned (.tuple #[.int .u64 (hiW (a * b)), .int .u64 (loW (a * b))]) ∧ w' = w := by
  go_enter Yaad.func55, Yaad.ntmps55
  go_wp2
  go_ret2
  exact ⟨ret_uu (mulU_hi a b ha ha' hb hb'), rfl⟩

/-- Small enough that a sum of two stays within 128 bits. -/
def Small (x : Int) : Prop := -85070591730234615865843651857942052864 ≤ x ∧ x ≤ 85070591730234615865843651857942052864

def Tiny (x : Int) : Prop := -18446744073709551616 ≤ x ∧ x ≤ 18446744073709551616

theorem tiny_bd {x : Int} (h : Tiny x) : -1 ≤ hiW x ∧ hiW x ≤ 1 := by unfold Tiny at h; unfold hiW; omega

theorem small_of_fits {x : Int} (h : fits x = true) : Small x := by have := fits_true h; unfold Small; omega

set_option maxHeartbeats 400000 in
theorem add_any (x y h1 l1 h2 l2 : Int) (e1 : h1 = hiW x) (e2 : l1 = loW x) (e3 : h2 = hiW y) (e4 : l2 = loW y) (sx : Small x) (sy : Tiny y) (w : World) :
    Calls Yaad.prog 46 #[.agg #[.int .i64 h1, .int .u64 l1], .agg #[.int .i64 h2, .int .u64 l2]] w fun e w' =>
      e = .returned (.agg #[.int .i64 (hiW (x + y)), .int .u64 (loW (x + y))]) ∧ ∃ c1 c2 c3 : Array Value, w' = ((w.alloc (.cells c1 57)).alloc (.cells c2 57)).alloc (.cells c3 57) := by
  have b1 := Num.hiW_bd x sx.1 sx.2
  have b2 := tiny_bd sy
  have d1 := Num.loW_bd x
  have d2 := Num.loW_bd y
  rw [← e1] at b1
  rw [← e2] at d1
  rw [← e3] at b2
  rw [← e4] at d2
  obtain ⟨b11, b12⟩ := b1
  obtain ⟨b21, b22⟩ := b2
  obtain ⟨d11, d12⟩ := d1
  obtain ⟨d21, d22⟩ := d2
  have E1 : Hid _ := e1
  have E2 : Hid _ := e2
  have E3 : Hid _ := e3
  have E4 : Hid _ := e4
  clear e1 e2 e3 e4
  by_cases hc : IntKind.u64.wrap (l1 + l2) < l1
  · go_enter Yaad.func46, Yaad.ntmps46
    go_wp2
    simp [bodyPost, results, Yaad.results46, go_sem]
    rw [IntKind.wrap_u64] at hc ⊢
    have f1 := E1.out
    have f2 := E2.out
    have f3 := E3.out
    have f4 := E4.out
    unfold hiW loW at *
    exact ⟨⟨by omega, by omega⟩, _, _, _, rfl⟩
  · have hc' : decide (IntKind.u64.wrap (l1 + l2) < l1) = false := by simpa using hc
    go_enter Yaad.func46, Yaad.ntmps46
    go_wp2
    simp [bodyPost, results, Yaad.results46, go_sem]
    rw [IntKind.wrap_u64] at hc ⊢
    have f1 := E1.out
    have f2 := E2.out
    have f3 := E3.out
    have f4 := E4.out
    unfold hiW loW at *
    exact ⟨⟨by omega, by omega⟩, _, _, _, rfl⟩

theorem not_i64 (h : Int) (h1 : -9223372036854775808 ≤ h) (h2 : h ≤ 9223372036854775807) : bits .xor .i64 (-1) h = -1 - h := by
  show IntKind.i64.wrap ((BitVec.ofInt 64 (-1) ^^^ BitVec.ofInt 64 h).toNat : Int) = _
  have e : BitVec.ofInt 64 (-1) = BitVec.allOnes 64 := by decide
  rw [e, BitVec.allOnes_xor, BitVec.toNat_not, BitVec.toNat_ofInt]
  simp [IntKind.wrap, IntKind.bits, IntKind.signed]
  omega

theorem not_u64 (l : Int) (h1 : 0 ≤ l) (h2 : l < 18446744073709551616) : bits .xor .u64 IntKind.u64.max l = 18446744073709551615 - l := by
  show IntKind.u64.wrap ((BitVec.ofInt 64 IntKind.u64.max ^^^ BitVec.ofInt 64 l).toNat : Int) = _
  have e : BitVec.ofInt 64 IntKind.u64.max = BitVec.allOnes 64 := by decide
  rw [e, BitVec.allOnes_xor, BitVec.toNat_not, BitVec.toNat_ofInt, IntKind.wrap_u64]
  omega

theorem not_hi {x h1 : Int} (sx : Small x) (e : h1 = hiW x) : bits .xor .i64 (-1) h1 = hiW (-1 - x) := by
  have b := Num.hiW_bd x sx.1 sx.2
  rw [← e] at b
  rw [not_i64 h1 (by omega) (by omega), e]
  unfold hiW
  omega
theorem not_lo {x l1 : Int} (e : l1 = loW x) : bits .xor .u64 IntKind.u64.max l1 = loW (-1 - x) := by
  have b := Num.loW_bd x
  rw [← e] at b
  rw [not_u64 l1 b.1 b.2, e]
  unfold loW
  omega

theorem kept_at {W w1 : World} (hb : Below W.heap.size W w1) (n : Nat) (hn : n < W.heap.size) :
    n < w1.heap.size ∧ (∀ j, w1.frozen? ⟨n, j, none⟩ = W.frozen? ⟨n, j, none⟩) ∧ (∀ j, w1.cell? ⟨n, j, none⟩ = W.cell? ⟨n, j, none⟩) :=
  ⟨Nat.lt_of_lt_of_le hn hb.size, fun j => hb.frozen (p := ⟨n, j, none⟩) hn, fun j => hb.cell (p := ⟨n, j, none⟩) hn⟩

set_option maxHeartbeats 1000000 in
theorem neg_any (x h1 l1 : Int) (e1 : h1 = hiW x) (e2 : l1 = loW x) (sx : -85070591730234615865843651857942052863 ≤ x ∧ x ≤ 85070591730234615865843651857942052863) (w : World) :
    Calls Yaad.prog 50 #[.agg #[.int .i64 h1, .int .u64 l1]] w fun e w' =>
      e = .returned (.agg #[.int .i64 (hiW (-x)), .int .u64 (loW (-x))]) ∧ Below w.heap.size w w' := by
  have s1 : Small x := by unfold Small; omega
  have s2 : Small (-1 - x) := by unfold Small; omega
  have t1 : Tiny 1 := by unfold Tiny; decide
  have E1 := not_hi s1 e1
  have E2 := not_lo e2
  have hx : -1 - x + 1 = -x := by omega
  have hcall : ∀ w, Calls Yaad.prog 46 #[.agg #[.int .i64 (bits .xor .i64 (-1) h1), .int .u64 (bits .xor .u64 IntKind.u64.max l1)], .agg #[.int .i64 (hiW 1), .int .u64 (loW 1)]] w fun e w' =>
      e = .returned (.agg #[.int .i64 (hiW (-x)), .int .u64 (loW (-x))]) ∧ ∃ c1 c2 c3 : Array Value, w' = ((w.alloc (.cells c1 57)).alloc (.cells c2 57)).alloc (.cells c3 57) := fun w => by
    have := add_any (-1 - x) 1 _ _ _ _ E1 E2 rfl rfl s2 t1 w
    rw [hx] at this
    exact this
  have HCall : Hid _ := hcall
  clear e1 e2 E1 E2 hx hcall
  go_enter Yaad.func50, Yaad.ntmps50
  go_wp2
  go_region_held3 (fun w' => w'.cell? ⟨w.heap.size, 0, none⟩ = some (.int .i64 h1) ∧ w'.cell? ⟨w.heap.size, 1, none⟩ = some (.int .u64 l1)) (simp [go_sem, World.cell?_alloc_past])
    (first
    | (go_at_call 45; refine (wide_any 1 (by decide) _).mono ?_; rintro e w' ⟨rfl, c1, rfl⟩)
    | (go_at_call 46; refine (HCall.out _).mono ?_; rintro e w' ⟨rfl, c1, c2, c3, rfl⟩))
  all_goals
    go_wp2
    simp [bodyPost, results, Yaad.results50, go_sem]
    refine Below.drew ?_
    iterate 6 (refine Below.alloc ?_ (by simp; try omega) _)
    exact Below.refl _ _

set_option maxHeartbeats 1000000 in
theorem sub_any (x y : Int) (sx : Small x) (ty : -9223372036854775808 ≤ y ∧ y ≤ 9223372036854775807) (w : World) :
    Calls Yaad.prog 47 #[.agg #[.int .i64 (hiW x), .int .u64 (loW x)], .agg #[.int .i64 (hiW y), .int .u64 (loW y)]] w fun e w' =>
      e = .returned (.agg #[.int .i64 (hiW (x - y)), .int .u64 (loW (x - y))]) ∧ Below w.heap.size w w' := by
  have t1 : Tiny (-y) := by unfold Tiny; omega
  have hneg := fun w => neg_any y _ _ rfl rfl (by omega) w
  have hadd : ∀ w, Calls Yaad.prog 46 #[.agg #[.int .i64 (hiW x), .int .u64 (loW x)], .agg #[.int .i64 (hiW (-y)), .int .u64 (loW (-y))]] w fun e w' =>
      e = .returned (.agg #[.int .i64 (hiW (x - y)), .int .u64 (loW (x - y))]) ∧ ∃ c1 c2 c3 : Array Value, w' = ((w.alloc (.cells c1 57)).alloc (.cells c2 57)).alloc (.cells c3 57) := fun w => by
    have := add_any x (-y) _ _ _ _ rfl rfl rfl rfl sx t1 w
    rw [show x + -y = x - y from by omega] at this
    exact this
  have HNeg : Hid _ := hneg
  have HAdd : Hid _ := hadd
  clear hneg hadd
  go_enter Yaad.func47, Yaad.ntmps47
  go_wp2
  go_region_held3 (fun w' => w'.cell? ⟨w.heap.size, 0, none⟩ = some (.int .i64 (hiW x)) ∧ w'.cell? ⟨w.heap.size, 1, none⟩ = some (.int .u64 (loW x)) ∧ w'.cell? ⟨w.heap.size + 1, 0, none⟩ = some (.int .i64 (hiW y)) ∧ w'.cell? ⟨w.heap.size + 1, 1, none⟩ = some (.int .u64 (loW y))) (simp [go_sem, World.cell?_alloc_past, *])
    (first
    | (go_at_call 50; refine (HNeg.out _).mono ?_; rintro e w1 ⟨rfl, hb⟩; obtain ⟨za, _, ca⟩ := kept_at hb w.heap.size (by simp; try omega); obtain ⟨zb, _, cb⟩ := kept_at hb (w.heap.size + 1) (by simp; try omega); obtain ⟨zr, fr, cr⟩ := kept_at hb (w.heap.size + 1 + 1) (by simp; try omega); have za2 : w.heap.size < w1.heap.size + 1 := (by omega); have za3 : w.heap.size < w1.heap.size + 1 + 1 := (by omega); have zr2 : w.heap.size + 1 + 1 < w1.heap.size + 1 := (by omega); have zr3 : w.heap.size + 1 + 1 < w1.heap.size + 1 + 1 := (by omega))
    | (go_at_call 46; refine (HAdd.out _).mono ?_; rintro e w' ⟨rfl, c1, c2, c3, rfl⟩))
  have hb1 : Below w.heap.size w w1 := Below.trans (by refine Below.drew ?_; (iterate 3 (refine Below.alloc ?_ (by simp; try omega) _)); exact Below.refl _ _) (hb.mono (by simp; try omega))
  have hz1 := hb1.size
  go_wp2
  simp [bodyPost, results, Yaad.results47, go_sem, *]
  iterate 3 (refine Below.alloc ?_ (by first | exact hz1 | (simp; try omega)) _)
  refine Below.setCell ?_ (by show w.heap.size ≤ w.heap.size + 1 + 1; omega) _
  refine Below.setCell ?_ (by show w.heap.size ≤ w.heap.size + 1 + 1; omega) _
  exact hb1

theorem ret_hl {a b c d : Int} (h : a = b) (k : c = d) : Value.agg #[.int .i64 a, .int .u64 c] = .agg #[.int .i64 b, .int .u64 d] := by rw [h, k]

set_option maxHeartbeats 1000000 in
theorem mul128_any (a b : Int) (ha : fits a = true) (hb : fits b = true) (w : World) :
    Calls Yaad.prog 48 #[.int .i64 a, .int .i64 b] w fun e w' =>
      e = .returned (.agg #[.int .i64 (hiW (a * b)), .int .u64 (loW (a * b))]) ∧ Below w.heap.size w w' := by
  have ma := Num.mag_bd ha
  have mb := Num.mag_bd hb
  have mm := Num.mag_mul_bd ha hb
  have hmul := fun w => mulU_any (Num.mag a) (Num.mag b) ma.1 (by omega) mb.1 (by omega) w
  obtain ⟨h1, h2⟩ := Num.hiW_bd (Num.mag a * Num.mag b) (by omega) mm.2
  by_cases hs : decide (a < 0) = decide (b < 0)
  · have e := Num.mul_mag_pos hs
    rw [e]
    generalize Num.mag a * Num.mag b = m at *
    have HMul : Hid _ := hmul
    have hs' : (decide (a < 0) == decide (b < 0)) = true := by rw [hs]; simp
    clear hmul e hs ma mb mm
    go_enter Yaad.func48, Yaad.ntmps48
    go_wp2_with (first
      | (go_at_call_of 49 a; refine (magnitude_any a ha _).mono ?_; rintro e w' ⟨rfl, rfl⟩)
      | (go_at_call_of 49 b; refine (magnitude_any b hb _).mono ?_; rintro e w' ⟨rfl, rfl⟩)
      | (go_at_call 55; refine (HMul.out _).mono ?_; rintro e w' ⟨rfl, rfl⟩))
    simp [bodyPost, results, Yaad.results48, go_sem]
    exact ((Below.refl _ _).alloc (Nat.le_refl _) _).alloc (by simp) _
  · have e := Num.mul_mag_neg hs
    rw [e]
    have hlt : Num.mag a * Num.mag b ≤ 85070591730234615865843651857942052863 := by
      by_cases h : a < 0
      · have hb0 : ¬ b < 0 := by simpa [h] using hs
        have hb' := fits_true hb
        have mb' : Num.mag b ≤ 9223372036854775807 := by unfold Num.mag; omega
        have := Int.mul_le_mul (c := 9223372036854775808) (d := 9223372036854775807) ma.2 mb' mb.1 (by decide)
        omega
      · have ha' := fits_true ha
        have ma' : Num.mag a ≤ 9223372036854775807 := by unfold Num.mag; omega
        have := Int.mul_le_mul (c := 9223372036854775807) (d := 9223372036854775808) ma' mb.2 mb.1 (by decide)
        omega
    generalize Num.mag a * Num.mag b = m at *
    have hneg := fun w => neg_any m _ _ rfl rfl (by omega) w
    have HMul : Hid _ := hmul
    have HNeg : Hid _ := hneg
    have hs' : (decide (a < 0) == decide (b < 0)) = false := by simpa using hs
    clear hmul hneg e hs ma mb mm hlt
    go_enter Yaad.func48, Yaad.ntmps48
    go_wp2_with (first
      | (go_at_call_of 49 a; refine (magnitude_any a ha _).mono ?_; rintro e w' ⟨rfl, rfl⟩)
      | (go_at_call_of 49 b; refine (magnitude_any b hb _).mono ?_; rintro e w' ⟨rfl, rfl⟩)
      | (go_at_call 55; refine (HMul.out _).mono ?_; rintro e w' ⟨rfl, rfl⟩)
      | (go_at_call 50; refine (HNeg.out _).mono ?_; rintro e w1 ⟨rfl, hbl⟩; obtain ⟨za, fa, ca⟩ := kept_at hbl w.heap.size (by simp; try omega); obtain ⟨zb, fb, cb⟩ := kept_at hbl (w.heap.size + 1) (by simp; try omega); have ca0 := ca 0; have ca1 := ca 1; have cb0 := cb 0; have cb1 := cb 1; have fa0 := fa 0; have fa1 := fa 1; have fb0 := fb 0; have fb1 := fb 1; simp [go_sem] at ca0 ca1 cb0 cb1 fa0 fa1 fb0 fb1; clear ca cb fa fb))
    simp [bodyPost, results, Yaad.results48, go_sem, *]
    have hb1 : Below w.heap.size w w1 := Below.trans (((Below.refl _ _).alloc (Nat.le_refl _) _).alloc (by simp) _) (hbl.mono (by simp; try omega))
    refine Below.setCell ?_ (by show w.heap.size ≤ w.heap.size; omega) _
    refine Below.setCell ?_ (by show w.heap.size ≤ w.heap.size; omega) _
    refine Below.setCell ?_ (by show w.heap.size ≤ w.heap.size + 1; omega) _
    refine Below.setCell ?_ (by show w.heap.size ≤ w.heap.size + 1; omega) _
    exact hb1

end Go.Proofs.Ygdaag
