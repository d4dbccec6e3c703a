/- What the printed functions of package word and of its reference answer, in plain words on 64-bit numbers. -/
import Derived.Test.YtkabmbaghgfffaaPWordx2
import Derived.Test.YtkabmbaghgfffaaMath
namespace Go.Proofs.Ytkabmbaghgfffaa.Core
open Go.RowKit Go.Proofs.Ytkabmbaghgfffaa.PWord Go.Proofs.YtkabmbaghgfffaaW.PrintWords Go.Proofs.YtkabmbaghgfffaaW.PrintLast Go.Proofs.YtkabmbaghgfffaaW.PrintMore
open Go.Proofs.Ytkabmbaghgfffaa.Math

theorem sanity_ok : hallmootlaw01_sanity.f 100 = some true := by decide +kernel

/-! The reference's mod and down. -/
theorem wrap_in {x : Int} (h : W64 x) : wrap64 x = x := by unfold wrap64; unfold W64 at h; omega
theorem mod_eq (a n : Int) (hn : 0 < n) (hn2 : n ≤ 9223372036854775807) : hallmootref01_mod.f a n = some (a % n) := by
  unfold hallmootref01_mod.f
  have h0 := Int.emod_nonneg a (show n ≠ 0 by omega)
  have h1 := Int.emod_lt_of_pos a hn
  rw [if_neg (by omega), Int.tmod_eq_emod]
  by_cases hd : 0 ≤ a ∨ n ∣ a
  · simp only [if_pos hd]
    rw [if_neg (by omega)]
    congr 1; omega
  · simp only [if_neg hd]
    have : (n.natAbs : Int) = n := by omega
    rw [this, if_pos (by omega)]
    congr 1
    rw [wrap_in ⟨by omega, by omega⟩]; omega
theorem floor_low (a : Int) (i : Nat) (hi : i ≤ 63) (h : W64 a) : -9223372036854775808 ≤ 2 ^ i * (a / 2 ^ i) := by
  have hp := pow_pos i
  have e : (9223372036854775808 : Int) = 2 ^ i * 2 ^ (63 - i) := by
    rw [← Int.pow_add, show i + (63 - i) = 63 from by omega]; rfl
  have : -(2 : Int) ^ (63 - i) ≤ a / 2 ^ i := by
    apply Int.le_ediv_of_mul_le hp
    rw [Int.neg_mul, Int.mul_comm, ← e]; unfold W64 at h; omega
  have := Int.mul_le_mul_of_nonneg_left this (Int.le_of_lt hp)
  rw [Int.mul_neg, ← e] at this
  exact this
theorem down_eq (a : Int) (i : Nat) (hi : i ≤ 62) (h : W64 a) : hallmootref01_down.f a (2 ^ i) = some (a / 2 ^ i) := by
  have hp := pow_pos i
  have hl : (2 : Int) ^ i ≤ 4611686018427387904 := by
    by_cases h62 : i = 62
    · subst h62; decide
    · have := pow_lt i (by omega); omega
  unfold hallmootref01_down.f
  rw [mod_eq a _ hp (by omega)]
  simp only [Option.bind_some]
  rw [if_neg (by omega)]
  have hf := floor_low a i (by omega) h
  have hs : a - a % 2 ^ i = 2 ^ i * (a / 2 ^ i) := by
    have := Int.mul_ediv_add_emod a (2 ^ i); omega
  have hm := Int.emod_nonneg a (show (2 : Int) ^ i ≠ 0 by omega)
  have hq : W64 (a / 2 ^ i) := by
    unfold W64 at h ⊢
    constructor
    · apply Int.le_ediv_of_mul_le hp
      have : (1 : Int) ≤ 2 ^ i := by omega
      have := Int.mul_le_mul_of_nonneg_left this (show (0 : Int) ≤ 9223372036854775808 by decide)
      rw [Int.neg_mul]; omega
    · by_cases ha : 0 ≤ a
      · have := Int.ediv_le_self (b := 2 ^ i) ha; omega
      · have := Int.ediv_neg_of_neg_of_pos (show a < 0 by omega) hp; omega
  rw [wrap_in (x := a - a % 2 ^ i) ⟨by omega, by unfold W64 at h; omega⟩, hs, Int.mul_tdiv_cancel_left _ (by omega), wrap_in hq]

/-! The words' functions. -/
theorem bit_eq (t : Int) : word_Bit.f t = some (bitOf t) := by
  unfold word_Bit.f bitOf
  by_cases h1 : t < 0
  · rw [if_pos h1, if_neg (by omega)]
  · by_cases h2 : t ≥ 62
    · rw [if_neg h1, if_pos h2, if_neg (by omega)]
    · rw [if_neg h1, if_neg h2, if_pos (by omega), if_pos ⟨by omega, by omega⟩]
      have hb := bitOf_w t
      unfold bitOf at hb
      rw [if_pos ⟨by omega, by omega⟩] at hb
      unfold shl
      rw [show min t.toNat IntKind.i64.bits = t.toNat from Nat.min_eq_left (show t.toNat ≤ 64 by omega), Int.one_mul]
      congr 1
      rw [IntKind.wrap_i64]
      unfold W64 at hb
      omega
theorem in_eq (m t : Int) : word_In.f m t = some (has m t) := by
  unfold word_In.f word_set_has.f
  rw [bit_eq]
  simp only [Option.bind_some]
  rw [bits_and, B_bitOf, has_and]
theorem with_f (m t : Int) : word_With.f m t = some (B m ||| V t).toInt := by
  unfold word_With.f word_set_with.f
  rw [bit_eq]
  simp only [Option.bind_some]
  rw [bits_or, B_bitOf]
theorem without_f (m t : Int) : word_Without.f m t = some (B m &&& ~~~ V t).toInt := by
  unfold word_Without.f word_set_without.f
  rw [bit_eq]
  simp only [Option.bind_some]
  rw [bits_andNot, B_bitOf]

/-! The reference's masks. -/
theorem rbit_loop (d : Nat) : ∀ (k : Nat) (t : Int) (i : Nat), t < 62 → (i : Int) + d = t → d < k → hallmootref01_Bit.l0 k t (2 ^ i) i = some (2 ^ t.toNat) := by
  induction d with
  | zero =>
    intro k t i ht hi hk
    obtain ⟨k, rfl⟩ : ∃ m, k = m + 1 := ⟨k - 1, by omega⟩
    simp only [hallmootref01_Bit.l0]
    rw [if_neg (by omega), show t.toNat = i from by omega]
  | succ d ih =>
    intro k t i ht hi hk
    obtain ⟨k, rfl⟩ : ∃ m, k = m + 1 := ⟨k - 1, by omega⟩
    simp only [hallmootref01_Bit.l0]
    rw [if_pos (by omega), wrap_in (x := (i : Int) + 1) ⟨by omega, by omega⟩]
    have h1 := pow_lt i (by omega)
    have h2 := pow_pos i
    rw [wrap_in (x := 2 * 2 ^ i) ⟨by omega, by omega⟩, show (2 : Int) * 2 ^ i = 2 ^ (i + 1) from by rw [Int.pow_succ]; omega]
    have := ih k t (i + 1) ht (by omega) (by omega)
    rw [show ((i + 1 : Nat) : Int) = (i : Int) + 1 from by omega] at this
    exact this
theorem rbit_eq (t : Int) : hallmootref01_Bit.f 100 t = some (bitOf t) := by
  unfold hallmootref01_Bit.f bitOf
  by_cases h1 : t < 0
  · rw [if_pos h1, if_neg (by omega)]
    simp [hallmootref01_Bit.j0]
  · rw [if_neg h1]
    by_cases h2 : t > 61
    · rw [if_neg (by omega)]
      simp [hallmootref01_Bit.j0, h2]
    · rw [if_pos ⟨by omega, by omega⟩, decide_eq_false h2]
      have := rbit_loop t.toNat 99 t 0 (by omega) (by omega) (by omega)
      simpa [hallmootref01_Bit.j0] using this
theorem rin_eq (m t : Int) (hm : W64 m) : hallmootref01_In.f 100 m t = some (has m t) := by
  unfold hallmootref01_In.f
  rw [rbit_eq, has_floor]
  simp only [Option.bind_some]
  unfold bitOf
  by_cases h : 0 ≤ t ∧ t < 62
  · have hp := pow_pos t.toNat
    simp only [if_pos h, decide_eq_true h, Bool.true_and]
    rw [if_neg (by omega), down_eq m t.toNat (by omega) hm]
    simp only [Option.bind_some]
    rw [mod_eq _ 2 (by decide) (by decide)]
    simp only [Option.bind_some]
    congr 1
  · simp [if_neg h, decide_eq_false h]
theorem rwith_eq (m t : Int) (hm : W64 m) : hallmootref01_With.f 100 m t = some (B m ||| V t).toInt := by
  unfold hallmootref01_With.f
  rw [rin_eq m t hm, rbit_eq, with_eq m t hm]
  simp only [Option.bind_some]
  split <;> rfl
theorem rwithout_eq (m t : Int) (hm : W64 m) : hallmootref01_Without.f 100 m t = some (B m &&& ~~~ V t).toInt := by
  unfold hallmootref01_Without.f
  rw [rin_eq m t hm, rbit_eq, without_eq m t hm]
  simp only [Option.bind_some]
  split <;> rfl

/-! Bits. -/
def bl (m : Int) (t n : Nat) : List Int := ((List.range' t n).filter fun (i : Nat) => has m i).map fun (i : Nat) => (i : Int)
theorem bits_loop (m : Int) (n : Nat) : ∀ (k t : Nat) (acc : List Int), t + n = 62 → n < k → acc.length ≤ t →
    word_Bits.l0 k m acc t = some (acc ++ bl m t n) := by
  induction n with
  | zero =>
    intro k t acc ht hk ha
    obtain ⟨k, rfl⟩ : ∃ m, k = m + 1 := ⟨k - 1, by omega⟩
    simp only [word_Bits.l0]
    rw [if_neg (by omega)]
    simp [bl]
  | succ n ih =>
    intro k t acc ht hk ha
    obtain ⟨k, rfl⟩ : ∃ m, k = m + 1 := ⟨k - 1, by omega⟩
    simp only [word_Bits.l0]
    rw [if_pos (by omega), in_eq, wrap_in (x := (t : Int) + 1) ⟨by omega, by omega⟩]
    simp only [Option.bind_some]
    rw [show ((t : Int) + 1) = ((t + 1 : Nat) : Int) from by omega]
    by_cases h : has m t = true
    · rw [if_pos h, if_pos (by omega), ih k (t + 1) _ (by omega) (by omega) (by simp; omega)]
      simp [bl, List.range'_succ, h]
    · rw [if_neg h, ih k (t + 1) _ (by omega) (by omega) (by omega)]
      simp [bl, List.range'_succ, h]
theorem rbits_loop (m : Int) (hm : W64 m) (n : Nat) : ∀ (k t : Nat) (acc : List Int), t + n = 62 → n + 100 < k → acc.length ≤ t →
    hallmootref01_Bits.l0 k m acc t = some (acc ++ bl m t n) := by
  have up : ∀ k t, 100 ≤ k → hallmootref01_In.f k m t = some (has m t) := by
    intro k t hk
    induction k with
    | zero => omega
    | succ k ih =>
      by_cases h : k + 1 = 100
      · rw [h]; exact rin_eq m t hm
      · exact hallmootref01_In.mono _ _ _ _ (ih (by omega))
  induction n with
  | zero =>
    intro k t acc ht hk ha
    obtain ⟨k, rfl⟩ : ∃ m, k = m + 1 := ⟨k - 1, by omega⟩
    simp only [hallmootref01_Bits.l0]
    rw [if_neg (by omega)]
    simp [bl]
  | succ n ih =>
    intro k t acc ht hk ha
    obtain ⟨k, rfl⟩ : ∃ m, k = m + 1 := ⟨k - 1, by omega⟩
    simp only [hallmootref01_Bits.l0]
    rw [if_pos (by omega), up k t (by omega), wrap_in (x := (t : Int) + 1) ⟨by omega, by omega⟩]
    simp only [Option.bind_some]
    rw [show ((t : Int) + 1) = ((t + 1 : Nat) : Int) from by omega]
    by_cases h : has m t = true
    · rw [if_pos h, if_pos (by omega), ih k (t + 1) _ (by omega) (by omega) (by simp; omega)]
      simp [bl, List.range'_succ, h]
    · rw [if_neg h, ih k (t + 1) _ (by omega) (by omega) (by omega)]
      simp [bl, List.range'_succ, h]
theorem ints_loop (l : List Int) (d : Nat) : ∀ (k i : Nat), i + d = l.length → l.length ≤ 1000 → d < k → hallmootref01_Ints.l0 k l l i = some true := by
  induction d with
  | zero =>
    intro k i hi hl hk
    obtain ⟨k, rfl⟩ : ∃ m, k = m + 1 := ⟨k - 1, by omega⟩
    simp only [hallmootref01_Ints.l0]
    rw [if_neg (by omega)]
  | succ d ih =>
    intro k i hi hl hk
    obtain ⟨k, rfl⟩ : ∃ m, k = m + 1 := ⟨k - 1, by omega⟩
    simp only [hallmootref01_Ints.l0]
    rw [if_pos (by omega), if_pos (by omega), if_pos (by omega), if_pos trivial, wrap_in (x := (i : Int) + 1) ⟨by omega, by omega⟩]
    exact ih k (i + 1) (by omega) hl (by omega)
theorem bl_length (m : Int) (t n : Nat) : (bl m t n).length ≤ n := by
  unfold bl
  rw [List.length_map]
  have := List.length_filter_le (fun i : Nat => has m i) (List.range' t n)
  simpa using this
end Go.Proofs.Ytkabmbaghgfffaa.Core
