/-
  THE PLAIN LAW OF 'ValidUTF8': no Go in sight.
-/
namespace Go.Proofs.Ygdaag
namespace Utf

/-- What the switch makes of a lead byte above 0x7f: the number of further bytes, the bounds of the first of them; none: no lead. -/
def lead (c : Nat) : Option (Nat × Nat × Nat) :=
  if 194 ≤ c ∧ c ≤ 223 then some (1, 128, 191)
  else if c = 224 then some (2, 160, 191)
  else if (225 ≤ c ∧ c ≤ 236) ∨ c = 238 ∨ c = 239 then some (2, 128, 191)
  else if c = 237 then some (2, 128, 159)
  else if c = 240 then some (3, 144, 191)
  else if 241 ≤ c ∧ c ≤ 243 then some (3, 128, 191)
  else if c = 244 then some (3, 128, 143)
  else none

/-- The bytes at the places 2 .. n are continuation bytes (those that lie beyond the list count as such). -/
def conts (l : List UInt8) (n : Nat) : Bool := (List.range (n - 1)).all fun j => decide (128 ≤ (l.getD (j + 2) 128).toNat ∧ (l.getD (j + 2) 128).toNat ≤ 191)

/-- The length of the sequence at the list's head; 0: there is none. -/
def seqLen (l : List UInt8) : Nat :=
  if (l.getD 0 0).toNat < 128 then 1
  else match lead (l.getD 0 0).toNat with
    | none => 0
    | some (n, lo, hi) =>
      if l.length ≤ n then 0
      else if (l.getD 1 0).toNat < lo ∨ hi < (l.getD 1 0).toNat then 0
      else if conts l n then n + 1 else 0

def vf : Nat → List UInt8 → Bool
  | 0, l => l.isEmpty
  | f + 1, l => if l.isEmpty then true else if seqLen l = 0 then false else vf f (l.drop (seqLen l))

def valid (l : List UInt8) : Bool := vf l.length l

theorem lead_pos {c n lo hi : Nat} (h : lead c = some (n, lo, hi)) : 1 ≤ n ∧ n ≤ 3 := by
  unfold lead at h
  repeat' split at h
  all_goals first | (cases h; done) | (simp only [Option.some.injEq, Prod.mk.injEq] at h; omega)

theorem seqLen_le (l : List UInt8) (h : l ≠ []) : seqLen l ≤ l.length := by
  have h0 : 0 < l.length := List.length_pos_iff.2 h
  unfold seqLen
  split
  · omega
  · split
    · omega
    · split
      · omega
      · split
        · omega
        · split <;> omega

theorem vf_more (f g : Nat) (l : List UInt8) (hf : l.length ≤ f) (hg : l.length ≤ g) : vf f l = vf g l := by
  induction f generalizing g l with
  | zero =>
    have : l = [] := List.length_eq_zero_iff.1 (by omega)
    subst this
    cases g <;> simp [vf]
  | succ f ih =>
    cases g with
    | zero =>
      have : l = [] := List.length_eq_zero_iff.1 (by omega)
      subst this
      simp [vf]
    | succ g =>
      simp only [vf]
      by_cases he : l.isEmpty = true
      · simp [he]
      · by_cases hs : seqLen l = 0
        · simp [hs]
        · simp only [he, hs, if_false]
          have hd : (l.drop (seqLen l)).length = l.length - seqLen l := List.length_drop
          rw [ih g (l.drop (seqLen l)) (by omega) (by omega)]

theorem valid_nil : valid [] = true := rfl

theorem valid_step (l : List UInt8) (h : l ≠ []) : valid l = if seqLen l = 0 then false else valid (l.drop (seqLen l)) := by
  have h0 : 0 < l.length := List.length_pos_iff.2 h
  have e : valid l = vf (l.length - 1 + 1) l := by unfold valid; exact vf_more _ _ _ (Nat.le_refl _) (by omega)
  rw [e]
  simp only [vf]
  have : l.isEmpty = false := by simpa using h
  simp only [this, Bool.false_eq_true, if_false]
  split
  · rfl
  · rename_i hs
    have hd : (l.drop (seqLen l)).length = l.length - seqLen l := List.length_drop
    exact vf_more _ _ _ (by omega) (Nat.le_refl _)

theorem getD_append_left (s t : List UInt8) (i : Nat) (d : UInt8) (h : i < s.length) : (s ++ t).getD i d = s.getD i d := by
  simp [List.getD_eq_getElem?_getD, List.getElem?_append_left h]

theorem conts_append (s t : List UInt8) (n : Nat) (h : n < s.length) : conts (s ++ t) n = conts s n := by
  unfold conts
  rw [Bool.eq_iff_iff, List.all_eq_true, List.all_eq_true]
  constructor
  · intro k j hj
    have := k j hj
    rwa [getD_append_left _ _ _ _ (by have := List.mem_range.1 hj; omega)] at this
  · intro k j hj
    have := k j hj
    rwa [getD_append_left _ _ _ _ (by have := List.mem_range.1 hj; omega)]

theorem seqLen_append (s t : List UInt8) (hs : s ≠ []) (h : seqLen s ≠ 0) : seqLen (s ++ t) = seqLen s := by
  have h0 : 0 < s.length := List.length_pos_iff.2 hs
  unfold seqLen at h ⊢
  rw [getD_append_left s t 0 0 h0]
  split
  · rfl
  · rename_i hc
    rw [if_neg hc] at h
    cases hl : lead (s.getD 0 0).toNat with
    | none => rfl
    | some q =>
      obtain ⟨n, lo, hi⟩ := q
      have hp := lead_pos hl
      rw [hl] at h
      simp only at h ⊢
      by_cases c1 : s.length ≤ n
      · rw [if_pos c1] at h; exact absurd rfl h
      · rw [if_neg c1] at h
        rw [if_neg c1, if_neg (by simp; omega), getD_append_left s t 1 0 (by omega), conts_append s t n (by omega)]

/-- TWO VALID TEXTS, JOINED, ARE VALID. -/
theorem valid_append (s t : List UInt8) (hs : valid s = true) (ht : valid t = true) : valid (s ++ t) = true := by
  suffices H : ∀ n, ∀ s : List UInt8, s.length ≤ n → valid s = true → valid (s ++ t) = true from H s.length s (Nat.le_refl _) hs
  intro n
  induction n with
  | zero =>
    intro s hn _
    have : s = [] := List.length_eq_zero_iff.1 (by omega)
    subst this
    simpa using ht
  | succ n ih =>
    intro s hn hv
    by_cases he : s = []
    · subst he; simpa using ht
    · rw [valid_step s he] at hv
      by_cases hz : seqLen s = 0
      · rw [if_pos hz] at hv; cases hv
      · rw [if_neg hz] at hv
        rw [valid_step (s ++ t) (by simp [he]), seqLen_append s t he hz, if_neg hz]
        have hle := seqLen_le s he
        rw [List.drop_append_of_le_length hle]
        exact ih _ (by rw [List.length_drop]; omega) hv

end Utf
end Go.Proofs.Ygdaag
