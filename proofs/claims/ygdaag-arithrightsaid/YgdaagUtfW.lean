/-
  THE WALK OF val.ValidUTF8.
-/
import Derived.Test.YgdaagLeaf
import Derived.Deep.CutBlock
import Derived.Deep.DeepCutAuto
namespace Go.Proofs.Ygdaag
open Go.RowKit

namespace Utf
/-- The text from place k on. -/
def rest (s : ByteArray) (k : Nat) : List UInt8 := s.data.toList.drop k

theorem rest_len (s : ByteArray) (k : Nat) : (rest s k).length = s.size - k := by
  unfold rest; rw [List.length_drop]; rfl

theorem rest_getD (s : ByteArray) (k j : Nat) (d : UInt8) (h : k + j < s.size) : (rest s k).getD j d = s[k + j] := by
  unfold rest
  rw [List.getD_eq_getElem?_getD, List.getElem?_drop, List.getElem?_eq_getElem (by simpa using h)]
  rfl

theorem rest_drop (s : ByteArray) (k n : Nat) : (rest s k).drop n = rest s (k + n) := by
  unfold rest; rw [List.drop_drop]

theorem rest_ne (s : ByteArray) (k : Nat) (h : k < s.size) : rest s k ≠ [] := by
  intro e
  have := rest_len s k
  rw [e] at this
  simp at this
  omega

theorem valid_end (s : ByteArray) (k : Nat) (h : s.size ≤ k) : valid (rest s k) = true := by
  have : rest s k = [] := List.length_eq_zero_iff.1 (by rw [rest_len]; omega)
  rw [this]; rfl

theorem v_ascii (s : ByteArray) (k : Nat) (h : k < s.size) (hc : (s[k].toNat : Int) < 128) : valid (rest s k) = valid (rest s (k + 1)) := by
  have e0 : (rest s k).getD 0 0 = s[k] := rest_getD s k 0 0 h
  have : seqLen (rest s k) = 1 := by
    unfold seqLen; rw [e0, if_pos (by omega)]
  rw [valid_step _ (rest_ne s k h), this, if_neg (by decide), rest_drop]

theorem v_nolead (s : ByteArray) (k : Nat) (h : k < s.size) (hc : 128 ≤ (s[k].toNat : Int)) (hl : lead s[k].toNat = none) : valid (rest s k) = false := by
  have e0 : (rest s k).getD 0 0 = s[k] := rest_getD s k 0 0 h
  have : seqLen (rest s k) = 0 := by
    unfold seqLen; rw [e0, if_neg (by omega), hl]
  rw [valid_step _ (rest_ne s k h), this, if_pos rfl]

theorem v_short (s : ByteArray) (k n lo hi : Nat) (h : k < s.size) (hc : 128 ≤ (s[k].toNat : Int)) (hl : lead s[k].toNat = some (n, lo, hi)) (hs : (s.size : Int) ≤ k + n) : valid (rest s k) = false := by
  have e0 : (rest s k).getD 0 0 = s[k] := rest_getD s k 0 0 h
  have : seqLen (rest s k) = 0 := by
    unfold seqLen; rw [e0, if_neg (by omega), hl]; simp only; rw [if_pos (by rw [rest_len]; omega)]
  rw [valid_step _ (rest_ne s k h), this, if_pos rfl]

theorem v_second (s : ByteArray) (k n lo hi : Nat) (h : k < s.size) (hc : 128 ≤ (s[k].toNat : Int)) (hl : lead s[k].toNat = some (n, lo, hi)) (h1 : k + 1 < s.size) (hb : (s[k + 1].toNat : Int) < lo ∨ (hi : Int) < s[k + 1].toNat) : valid (rest s k) = false := by
  have e0 : (rest s k).getD 0 0 = s[k] := rest_getD s k 0 0 h
  have e1 : (rest s k).getD 1 0 = s[k + 1] := rest_getD s k 1 0 h1
  have : seqLen (rest s k) = 0 := by
    unfold seqLen; rw [e0, if_neg (by omega), hl]; simp only; rw [e1]
    split
    · rfl
    · rw [if_pos (by omega)]
  rw [valid_step _ (rest_ne s k h), this, if_pos rfl]

/-- The further bytes below J are continuation bytes. -/
def ContsTo (s : ByteArray) (k J : Nat) : Prop := ∀ t, 2 ≤ t → t < J → 128 ≤ ((rest s k).getD t 128).toNat ∧ ((rest s k).getD t 128).toNat ≤ 191

theorem ContsTo.start (s : ByteArray) (k : Nat) : ContsTo s k 2 := fun t h1 h2 => by omega
theorem ContsTo.next {s : ByteArray} {k J : Nat} (g : ContsTo s k J) (h : k + J < s.size) (h1 : 128 ≤ (s[k + J].toNat : Int)) (h2 : (s[k + J].toNat : Int) ≤ 191) : ContsTo s k (J + 1) := by
  intro t a b
  by_cases e : t = J
  · subst e
    rw [rest_getD s k t 128 h]
    omega
  · exact g t a (by omega)

theorem v_cont (s : ByteArray) (k n lo hi J : Nat) (h : k < s.size) (hc : 128 ≤ (s[k].toNat : Int)) (hl : lead s[k].toNat = some (n, lo, hi)) (h2 : 2 ≤ J) (hJ : J ≤ n) (h1 : k + J < s.size) (hb : (s[k + J].toNat : Int) < 128 ∨ (191 : Int) < s[k + J].toNat) : valid (rest s k) = false := by
  have e0 : (rest s k).getD 0 0 = s[k] := rest_getD s k 0 0 h
  have e1 : (rest s k).getD J 128 = s[k + J] := rest_getD s k J 128 h1
  have hcf : conts (rest s k) n = false := by
    rw [Bool.eq_false_iff]
    intro hcn
    unfold conts at hcn
    rw [List.all_eq_true] at hcn
    have := hcn (J - 2) (List.mem_range.2 (by omega))
    rw [show J - 2 + 2 = J from by omega, e1, decide_eq_true_eq] at this
    omega
  have : seqLen (rest s k) = 0 := by
    unfold seqLen; rw [e0, if_neg (by omega), hl]; simp only; rw [hcf]
    split
    · rfl
    · split
      · rfl
      · rfl
  rw [valid_step _ (rest_ne s k h), this, if_pos rfl]

theorem v_good (s : ByteArray) (k n lo hi J : Nat) (h : k < s.size) (hc : 128 ≤ (s[k].toNat : Int)) (hl : lead s[k].toNat = some (n, lo, hi)) (hs : k + n < s.size) (h1 : k + 1 < s.size) (hb : ¬ (s[k + 1].toNat : Int) < lo) (hb' : ¬ (hi : Int) < s[k + 1].toNat) (g : ContsTo s k J) (hJ : n < J) :
    valid (rest s k) = valid (rest s (k + (n + 1))) := by
  have e0 : (rest s k).getD 0 0 = s[k] := rest_getD s k 0 0 h
  have e1 : (rest s k).getD 1 0 = s[k + 1] := rest_getD s k 1 0 h1
  have hcf : conts (rest s k) n = true := by
    unfold conts
    rw [List.all_eq_true]
    intro j hj
    have := List.mem_range.1 hj
    rw [decide_eq_true_eq]
    exact g (j + 2) (by omega) (by omega)
  have : seqLen (rest s k) = n + 1 := by
    unfold seqLen; rw [e0, if_neg (by omega), hl]; simp only; rw [hcf, e1, if_neg (by rw [rest_len]; omega), if_neg (by omega), if_pos rfl]
  rw [valid_step _ (rest_ne s k h), this, if_neg (by omega), rest_drop]

end Utf

open Utf

/-- A byte, under a letter: the walk takes the letter, not the place. -/
theorem byte_at (s : ByteArray) (k : Nat) (i : Int) (hi : i = (k : Int)) (h : k < s.size) : ∃ c : Int, Hid (c = (s[k].toNat : Int)) ∧ 0 ≤ c ∧ c ≤ 255 ∧ ∀ w, (Instr.index 9 (.string s) (.int .i64 i)).run Yaad.prog w = .ok (.int .u8 c) w := by
  subst hi
  refine ⟨(s[k].toNat : Int), (rfl : _ = _), by omega, ?_, fun w => ?_⟩
  · have := s[k].toNat_lt; omega
  · rw [run_index_string w 9 s .i64 k Yaad.underlying9, dif_pos ⟨by omega, by omega⟩]
    rfl

theorem lead_none (c : Nat) (h : c < 194 ∨ 244 < c) : lead c = none := by
  unfold lead
  rw [if_neg (by omega), if_neg (by omega), if_neg (by omega), if_neg (by omega), if_neg (by omega), if_neg (by omega), if_neg (by omega)]

/-- The classes of a lead byte. -/
theorem lead_some (c : Nat) (h : 194 ≤ c) (h' : c ≤ 244) : ∃ N LO HI : Nat, Hid (lead c = some (N, LO, HI)) ∧ 1 ≤ N ∧ N ≤ 3 ∧
    (((194 ≤ (c : Int) ∧ (c : Int) ≤ 223) ∧ N = 1 ∧ LO = 128 ∧ HI = 191) ∨ ((224 ≤ (c : Int) ∧ (c : Int) ≤ 224) ∧ N = 2 ∧ LO = 160 ∧ HI = 191) ∨ ((225 ≤ (c : Int) ∧ (c : Int) ≤ 236) ∧ N = 2 ∧ LO = 128 ∧ HI = 191) ∨
     ((237 ≤ (c : Int) ∧ (c : Int) ≤ 237) ∧ N = 2 ∧ LO = 128 ∧ HI = 159) ∨ ((238 ≤ (c : Int) ∧ (c : Int) ≤ 238) ∧ N = 2 ∧ LO = 128 ∧ HI = 191) ∨ ((239 ≤ (c : Int) ∧ (c : Int) ≤ 239) ∧ N = 2 ∧ LO = 128 ∧ HI = 191) ∨
     ((240 ≤ (c : Int) ∧ (c : Int) ≤ 240) ∧ N = 3 ∧ LO = 144 ∧ HI = 191) ∨ ((241 ≤ (c : Int) ∧ (c : Int) ≤ 243) ∧ N = 3 ∧ LO = 128 ∧ HI = 191) ∨ ((244 ≤ (c : Int) ∧ (c : Int) ≤ 244) ∧ N = 3 ∧ LO = 128 ∧ HI = 143)) := by
  have hx : (194 ≤ c ∧ c ≤ 223) ∨ (224 ≤ c ∧ c ≤ 224) ∨ (225 ≤ c ∧ c ≤ 236) ∨ (237 ≤ c ∧ c ≤ 237) ∨ (238 ≤ c ∧ c ≤ 238) ∨ (239 ≤ c ∧ c ≤ 239) ∨ (240 ≤ c ∧ c ≤ 240) ∨ (241 ≤ c ∧ c ≤ 243) ∨ (244 ≤ c ∧ c ≤ 244) := by omega
  unfold lead
  rcases hx with h | h | h | h | h | h | h | h | h
  · exact ⟨1, 128, 191, (by show _ = _; rw [if_pos (by omega)]), by decide, by decide, Or.inl ⟨⟨by omega, by omega⟩, rfl, rfl, rfl⟩⟩
  · exact ⟨2, 160, 191, (by show _ = _; rw [if_neg (by omega), if_pos (by omega)]), by decide, by decide, Or.inr (Or.inl ⟨⟨by omega, by omega⟩, rfl, rfl, rfl⟩)⟩
  · exact ⟨2, 128, 191, (by show _ = _; rw [if_neg (by omega), if_neg (by omega), if_pos (by omega)]), by decide, by decide, Or.inr (Or.inr (Or.inl ⟨⟨by omega, by omega⟩, rfl, rfl, rfl⟩))⟩
  · exact ⟨2, 128, 159, (by show _ = _; rw [if_neg (by omega), if_neg (by omega), if_neg (by omega), if_pos (by omega)]), by decide, by decide, Or.inr (Or.inr (Or.inr (Or.inl ⟨⟨by omega, by omega⟩, rfl, rfl, rfl⟩)))⟩
  · exact ⟨2, 128, 191, (by show _ = _; rw [if_neg (by omega), if_neg (by omega), if_pos (by omega)]), by decide, by decide, Or.inr (Or.inr (Or.inr (Or.inr (Or.inl ⟨⟨by omega, by omega⟩, rfl, rfl, rfl⟩))))⟩
  · exact ⟨2, 128, 191, (by show _ = _; rw [if_neg (by omega), if_neg (by omega), if_pos (by omega)]), by decide, by decide, Or.inr (Or.inr (Or.inr (Or.inr (Or.inr (Or.inl ⟨⟨by omega, by omega⟩, rfl, rfl, rfl⟩)))))⟩
  · exact ⟨3, 144, 191, (by show _ = _; rw [if_neg (by omega), if_neg (by omega), if_neg (by omega), if_neg (by omega), if_pos (by omega)]), by decide, by decide, Or.inr (Or.inr (Or.inr (Or.inr (Or.inr (Or.inr (Or.inl ⟨⟨by omega, by omega⟩, rfl, rfl, rfl⟩))))))⟩
  · exact ⟨3, 128, 191, (by show _ = _; rw [if_neg (by omega), if_neg (by omega), if_neg (by omega), if_neg (by omega), if_neg (by omega), if_pos (by omega)]), by decide, by decide, Or.inr (Or.inr (Or.inr (Or.inr (Or.inr (Or.inr (Or.inr (Or.inl ⟨⟨by omega, by omega⟩, rfl, rfl, rfl⟩)))))))⟩
  · exact ⟨3, 128, 143, (by show _ = _; rw [if_neg (by omega), if_neg (by omega), if_neg (by omega), if_neg (by omega), if_neg (by omega), if_neg (by omega), if_pos (by omega)]), by decide, by decide, Or.inr (Or.inr (Or.inr (Or.inr (Or.inr (Or.inr (Or.inr (Or.inr (⟨⟨by omega, by omega⟩, rfl, rfl, rfl⟩))))))))⟩

set_option maxRecDepth 100000 in
set_option maxHeartbeats 2000000 in
theorem validUTF8_any (s : ByteArray) (w : World) (hs : s.size ≤ 8) :
    Calls Yaad.prog 34 #[.string s] w fun e w' => e = .returned (.bool (valid s.data.toList)) ∧ w' = w := by
  go_enter Yaad.func34, Yaad.ntmps34
  go_wp2
  go_loopg [3] s.size (fun g i wr => ∃ k : Nat, k ≤ s.size ∧ i = .int .i64 k ∧ Hid (g = s.size - k) ∧ wr = w ∧ Hid (valid (rest s k) = valid s.data.toList))
  case atStart => exact ⟨0, Nat.zero_le _, rfl, (rfl : _ = _), rfl, (rfl : _ = _)⟩
  case round =>
    obtain ⟨k, hk, rfl, Hg, rfl, H⟩ := hrel
    by_cases hlt : k < s.size
    · obtain ⟨c, hc, cb0, cb1, hix⟩ := byte_at s k (k : Int) rfl hlt
      by_cases c0 : c < 128
      · go_wp2
        go_roundg (s.size - (k + 1))
        case rel => exact ⟨k + 1, by omega, by go_num, (rfl : _ = _), rfl, (v_ascii s k hlt (by rw [← hc.out]; exact c0)).symm.trans H⟩
        case measure => have := Hg.out; omega
      · by_cases c1 : c < 194 ∨ 244 < c
        · have hl : Hid (lead s[k].toNat = none) := lead_none _ (by have := hc.out; omega)
          go_wp2
          all_goals (go_ret; exact ⟨ret_bool ((v_nolead s k hlt (by rw [← hc.out]; omega) hl.out).symm.trans H), rfl⟩)
        · obtain ⟨N, LO, HI, hl, hN1, hN3, hcls⟩ := lead_some s[k].toNat (by have := hc.out; omega) (by have := hc.out; omega)
          rw [← hc.out] at hcls
          have hcl : Hid _ := hcls
          clear c1 hcls
          go_upto_block 2 with fail
          go_cut [3, 5, 6, 7] from 9 to 100 (fun i n lo hi wc => i = .int .i64 k ∧ n = .int .i64 N ∧ lo = .int .u8 LO ∧ hi = .int .u8 HI ∧ wc = wr)
          case first =>
            rcases hcl.out with ⟨⟨d1, d2⟩, rfl, rfl, rfl⟩ | ⟨⟨d1, d2⟩, rfl, rfl, rfl⟩ | ⟨⟨d1, d2⟩, rfl, rfl, rfl⟩ | ⟨⟨d1, d2⟩, rfl, rfl, rfl⟩ | ⟨⟨d1, d2⟩, rfl, rfl, rfl⟩ | ⟨⟨d1, d2⟩, rfl, rfl, rfl⟩ | ⟨⟨d1, d2⟩, rfl, rfl, rfl⟩ | ⟨⟨d1, d2⟩, rfl, rfl, rfl⟩ | ⟨⟨d1, d2⟩, rfl, rfl, rfl⟩
            all_goals
              go_wp2
              all_goals
                go_meet
                case rel => exact ⟨rfl, rfl, rfl, rfl, rfl⟩
          case rest =>
            obtain ⟨rfl, rfl, rfl, rfl, rfl⟩ := hcut
            have hlo : Hid (LO ≤ 255 ∧ HI ≤ 255) := by
              have := hcl.out; exact (by omega : LO ≤ 255 ∧ HI ≤ 255)
            clear hcl
            by_cases hsz : (s.size : Int) ≤ k + N
            · go_wp2
              go_ret
              exact ⟨ret_bool ((v_short s k _ _ _ hlt (by rw [← hc.out]; omega) hl.out (by omega)).symm.trans H), rfl⟩
            · obtain ⟨b, hb, bb0, bb1, hib⟩ := byte_at s (k + 1) ((k : Int) + 1) (by omega) (by omega)
              by_cases b1 : b < LO
              · go_wp2
                go_ret
                exact ⟨ret_bool ((v_second s k _ _ _ hlt (by rw [← hc.out]; omega) hl.out (by omega) (Or.inl (by rw [← hb.out]; exact b1))).symm.trans H), rfl⟩
              · by_cases b2 : (HI : Int) < b
                · go_wp2
                  go_ret
                  exact ⟨ret_bool ((v_second s k _ _ _ hlt (by rw [← hc.out]; omega) hl.out (by omega) (Or.inr (by rw [← hb.out]; exact b2))).symm.trans H), rfl⟩
                · go_wp2
                  go_loopg [8] 5 (fun g j wr' => ∃ J : Nat, 2 ≤ J ∧ J ≤ N + 2 ∧ j = .int .i64 J ∧ Hid (g = 7 - J) ∧ wr' = wc ∧ Hid (ContsTo s k J))
                  case atStart => exact ⟨2, by omega, by omega, rfl, (rfl : _ = _), rfl, ContsTo.start s k⟩
                  case round =>
                    obtain ⟨J, hJ2, hJN, rfl, Hg2, rfl, G⟩ := hrel
                    by_cases hJ : J ≤ N
                    · obtain ⟨d, hd, db0, db1, hid⟩ := byte_at s (k + J) ((k : Int) + (J : Int)) (by omega) (by omega)
                      by_cases e1 : d < 128
                      · go_wp2
                        go_ret
                        exact ⟨ret_bool ((v_cont s k _ _ _ J hlt (by rw [← hc.out]; omega) hl.out hJ2 hJ (by omega) (Or.inl (by rw [← hd.out]; exact e1))).symm.trans H), rfl⟩
                      · by_cases e2 : 191 < d
                        · go_wp2
                          go_ret
                          exact ⟨ret_bool ((v_cont s k _ _ _ J hlt (by rw [← hc.out]; omega) hl.out hJ2 hJ (by omega) (Or.inr (by rw [← hd.out]; exact e2))).symm.trans H), rfl⟩
                        · go_wp2
                          go_roundg (7 - (J + 1))
                          case rel => exact ⟨J + 1, by omega, by omega, by go_num, (rfl : _ = _), rfl, ContsTo.next G.out (by omega) (by rw [← hd.out]; omega) (by rw [← hd.out]; omega)⟩
                          case measure => have := Hg2.out; omega
                    · go_wp2
                      go_roundg (s.size - (k + (N + 1)))
                      case rel => exact ⟨k + (N + 1), by omega, by go_num, (rfl : _ = _), rfl, (v_good s k N LO HI J hlt (by rw [← hc.out]; omega) hl.out (by omega) (by omega) (by rw [← hb.out]; omega) (by rw [← hb.out]; omega) G.out (by omega)).symm.trans H⟩
                      case measure => have := Hg.out; omega
    · go_wp2
      go_ret
      exact ⟨ret_bool ((valid_end s k (by omega)).symm.trans H), rfl⟩
end Go.Proofs.Ygdaag
