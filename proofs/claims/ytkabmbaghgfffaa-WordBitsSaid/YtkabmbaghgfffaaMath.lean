/- Plain facts on 64-bit words: an int64 as a BitVec of 64 bits; no program in sight. -/
import Derived.Laws.BitsLemmas
import Derived.RowKit
namespace Go.Proofs.Ytkabmbaghgfffaa.Math
open Go Go.RowKit

def W64 (x : Int) : Prop := -9223372036854775808 ≤ x ∧ x ≤ 9223372036854775807

theorem w64_of_wf {x : Int} (h : (Lit.int .i64 x).wf = true) : W64 x := by
  simp [Lit.wf, IntKind.min, IntKind.max, IntKind.bits, IntKind.signed] at h
  exact ⟨h.1, by omega⟩
theorem u32_of_wf {x : Int} (h : (Lit.int .u32 x).wf = true) : 0 ≤ x ∧ x ≤ 4294967295 := by
  simp [Lit.wf, IntKind.min, IntKind.max, IntKind.bits, IntKind.signed] at h
  exact ⟨h.1, by omega⟩
theorem u8_of_wf {x : Int} (h : (Lit.int .u8 x).wf = true) : 0 ≤ x ∧ x ≤ 255 := by
  simp [Lit.wf, IntKind.min, IntKind.max, IntKind.bits, IntKind.signed] at h
  exact ⟨h.1, by omega⟩
theorem u64_of_wf {x : Int} (h : (Lit.int .u64 x).wf = true) : 0 ≤ x ∧ x ≤ 18446744073709551615 := by
  simp [Lit.wf, IntKind.min, IntKind.max, IntKind.bits, IntKind.signed] at h
  exact ⟨h.1, by omega⟩

def B (x : Int) : BitVec 64 := BitVec.ofInt 64 x

theorem wrap_toNat (b : BitVec 64) : IntKind.i64.wrap (b.toNat : Int) = b.toInt := by
  rw [IntKind.wrap_i64, BitVec.toInt_eq_toNat_bmod]
  have := b.isLt
  rw [Int.bmod_def]
  split <;> omega
theorem wrap64_B (x : Int) : wrap64 x = (B x).toInt := by
  unfold B wrap64
  rw [BitVec.toInt_ofInt, Int.bmod_def]
  split <;> omega
theorem B_in {x : Int} (h : W64 x) : (B x).toInt = x := by
  rw [← wrap64_B]; unfold wrap64; unfold W64 at h; omega
theorem B_toInt (b : BitVec 64) : B b.toInt = b := BitVec.ofInt_toInt
theorem w64_toInt (b : BitVec 64) : W64 b.toInt := by
  have h1 := BitVec.le_toInt b
  have h2 := BitVec.toInt_lt (x := b)
  unfold W64
  constructor <;> simp at h1 h2 <;> omega
theorem bits_and (x y : Int) : bits .and .i64 x y = (B x &&& B y).toInt := wrap_toNat _
theorem bits_or (x y : Int) : bits .or .i64 x y = (B x ||| B y).toInt := wrap_toNat _
theorem bits_andNot (x y : Int) : bits .andNot .i64 x y = (B x &&& ~~~ B y).toInt := wrap_toNat _
theorem B_add (x y : Int) : B x + B y = B (x + y) := (BitVec.ofInt_add x y).symm
theorem B_inj {x y : Int} (hx : W64 x) (hy : W64 y) (h : B x = B y) : x = y := by
  rw [← B_in hx, ← B_in hy, h]

theorem B_bit (x : Int) (i : Nat) (hi : i < 64) : (B x).getLsbD i = decide ((x / 2 ^ i) % 2 = 1) := by
  unfold B
  rw [BitVec.getLsbD, BitVec.toNat_ofInt, Nat.testBit_eq_decide_div_mod_eq]
  have hn : ((x % ((2 ^ 64 : Nat) : Int)).toNat : Int) = x % ((2 ^ 64 : Nat) : Int) := Int.toNat_of_nonneg (Int.emod_nonneg _ (by decide))
  generalize (x % ((2 ^ 64 : Nat) : Int)).toNat = n at hn
  have hx : x = ((2 ^ i : Nat) : Int) * ((2 * 2 ^ (63 - i) : Nat) * (x / ((2 ^ 64 : Nat) : Int))) + n := by
    rw [hn, ← Int.mul_assoc, ← Int.natCast_mul, show 2 ^ i * (2 * 2 ^ (63 - i)) = 2 ^ 64 from by
      rw [Nat.mul_comm 2 (2 ^ (63 - i)), ← Nat.mul_assoc, ← Nat.pow_add, show i + (63 - i) = 63 from by omega]]
    omega
  have hp : ((2 ^ i : Nat) : Int) ≠ 0 := by
    have := Nat.two_pow_pos i
    omega
  have hd : x / (2 ^ i : Int) = (2 * 2 ^ (63 - i) : Nat) * (x / ((2 ^ 64 : Nat) : Int)) + ((n / 2 ^ i : Nat) : Int) := by
    have e : ((2 : Int) ^ i) = ((2 ^ i : Nat) : Int) := by simp
    rw [e]
    conv => lhs; rw [hx]
    rw [Int.mul_add_ediv_left _ _ hp, Int.natCast_ediv]
  rw [hd]
  have : ((2 * 2 ^ (63 - i) : Nat) : Int) * (x / ((2 ^ 64 : Nat) : Int)) = 2 * (((2 ^ (63 - i) : Nat) : Int) * (x / ((2 ^ 64 : Nat) : Int))) := by
    rw [Int.natCast_mul, Int.mul_assoc]; rfl
  rw [this]
  generalize ((2 ^ (63 - i) : Nat) : Int) * (x / ((2 ^ 64 : Nat) : Int)) = z
  rw [decide_eq_decide]
  omega

/-- The bit of a thread. -/
def bitOf (t : Int) : Int := if 0 ≤ t ∧ t < 62 then 2 ^ t.toNat else 0
def V (t : Int) : BitVec 64 := if 0 ≤ t ∧ t < 62 then BitVec.twoPow 64 t.toNat else 0#64

theorem pow_lt (i : Nat) (h : i < 62) : (2 : Int) ^ i < 4611686018427387904 := by
  have : (2 : Nat) ^ i < 2 ^ 62 := Nat.pow_lt_pow_right (by decide) h
  have e : ((2 : Int) ^ i) = ((2 ^ i : Nat) : Int) := by simp
  rw [e]; omega
theorem pow_pos (i : Nat) : (0 : Int) < 2 ^ i := by
  have := Nat.two_pow_pos i
  have e : ((2 : Int) ^ i) = ((2 ^ i : Nat) : Int) := by simp
  rw [e]; omega
theorem bitOf_w (t : Int) : W64 (bitOf t) := by
  unfold bitOf W64
  split
  · rename_i h
    have := pow_lt t.toNat (by omega)
    have := pow_pos t.toNat
    omega
  · omega
theorem B_bitOf (t : Int) : B (bitOf t) = V t := by
  unfold bitOf V
  split
  · unfold B
    apply BitVec.eq_of_toNat_eq
    rw [BitVec.toNat_ofInt, BitVec.toNat_twoPow]
    rename_i h
    have := Nat.pow_lt_pow_right (a := 2) (by decide) (show t.toNat < 64 by omega)
    rw [Nat.mod_eq_of_lt this]
    have e : ((2 : Int) ^ t.toNat) = ((2 ^ t.toNat : Nat) : Int) := by simp
    rw [e]
    generalize 2 ^ t.toNat = z at this
    omega
  · rfl

/-- Is thread t in the mask? -/
def has (m t : Int) : Bool := decide (0 ≤ t ∧ t < 62) && (B m).getLsbD t.toNat

theorem and_V (m t : Int) : (B m &&& V t) = if has m t then V t else 0#64 := by
  unfold V has
  by_cases h : 0 ≤ t ∧ t < 62
  · simp only [if_pos h, decide_eq_true h, Bool.true_and]; exact BitVec.and_twoPow _ _
  · simp [if_neg h]
theorem V_ne {t : Int} (h : 0 ≤ t ∧ t < 62) : V t ≠ 0#64 := by
  unfold V
  rw [if_pos h]
  intro e
  have := congrArg (fun b => b.getLsbD t.toNat) e
  simp [BitVec.getLsbD_twoPow] at this
  omega
theorem has_and (m t : Int) : ((B m &&& V t).toInt != 0) = has m t := by
  rw [and_V]
  by_cases h : has m t = true
  · rw [if_pos h, h]
    have h2 : 0 ≤ t ∧ t < 62 := by unfold has at h; simp at h; exact h.1
    have := V_ne h2
    rw [bne_iff_ne]
    intro e
    apply this
    have e0 : (0#64).toInt = 0 := by decide
    rw [← e0, BitVec.toInt_inj] at e
    exact e
  · rw [if_neg h]
    simp at h
    rw [h]; decide
theorem has_floor (m t : Int) : has m t = (decide (0 ≤ t ∧ t < 62) && decide ((m / 2 ^ t.toNat) % 2 = 1)) := by
  unfold has
  by_cases h : 0 ≤ t ∧ t < 62
  · rw [B_bit m t.toNat (by omega)]
  · simp [h]

/-- With, Without as the reference tells them. -/
theorem with_eq (m t : Int) (hm : W64 m) : (B m ||| V t).toInt = if has m t then m else wrap64 (m + bitOf t) := by
  by_cases h : has m t = true
  · rw [if_pos h]
    have e : B m ||| V t = B m := by
      have a := and_V m t
      rw [if_pos h] at a
      apply BitVec.eq_of_getLsbD_eq
      intro i hi
      rw [← a]; simp; intro hb _; exact hb
    rw [e, B_in hm]
  · rw [if_neg h]
    have a := and_V m t
    rw [if_neg h] at a
    rw [← BitVec.add_eq_or_of_and_eq_zero _ _ a, ← B_bitOf, B_add, wrap64_B]
theorem without_eq (m t : Int) (hm : W64 m) : (B m &&& ~~~ V t).toInt = if has m t then wrap64 (m - bitOf t) else m := by
  have a := and_V m t
  by_cases h : has m t = true
  · rw [if_pos h] at a ⊢
    have z : (B m &&& ~~~ V t) &&& V t = 0#64 := by
      apply BitVec.eq_of_getLsbD_eq
      intro i hi
      simp
    have s := BitVec.add_eq_or_of_and_eq_zero _ _ z
    have o : (B m &&& ~~~ V t) ||| V t = B m := by
      apply BitVec.eq_of_getLsbD_eq
      intro i hi
      have a2 := congrArg (fun b => b.getLsbD i) a
      simp at a2
      simp only [BitVec.getLsbD_or, BitVec.getLsbD_and, BitVec.getLsbD_not]
      cases h1 : (B m).getLsbD i <;> cases h2 : (V t).getLsbD i <;> simp_all
    rw [o] at s
    have : (B m &&& ~~~ V t) = B (m - bitOf t) := by
      have q : B (m - bitOf t) + V t = B m := by rw [← B_bitOf, B_add]; congr 1; omega
      exact (BitVec.add_left_inj (V t)).1 (s.trans q.symm)
    rw [this, wrap64_B]
  · rw [if_neg h] at a ⊢
    have e : B m &&& ~~~ V t = B m := by
      apply BitVec.eq_of_getLsbD_eq
      intro i hi
      have a2 := congrArg (fun b => b.getLsbD i) a
      simp at a2
      simp only [BitVec.getLsbD_and, BitVec.getLsbD_not]
      cases h1 : (B m).getLsbD i <;> cases h2 : (V t).getLsbD i <;> simp_all
    rw [e, B_in hm]

/-- The low bits, and joining low bits to a word that has none. -/
theorem and_low (a : Int) (j : Nat) (hj : j < 62) : bits .and .i64 a (2 ^ j - 1) = a % 2 ^ j := by
  rw [bits_and]
  have hl := pow_lt j hj
  have hp := pow_pos j
  have e : ((2 : Int) ^ j) = ((2 ^ j : Nat) : Int) := by simp
  have hb : (B ((2 : Int) ^ j - 1)).toNat = 2 ^ j - 1 := by
    unfold B
    rw [BitVec.toNat_ofInt, e]
    rw [e] at hl
    have := Nat.two_pow_pos j
    generalize 2 ^ j = z at *
    omega
  have hn : (B a &&& B ((2 : Int) ^ j - 1)).toNat = (B a).toNat % 2 ^ j := by
    rw [BitVec.toNat_and, hb, Nat.and_two_pow_sub_one_eq_mod]
  have ha : ((B a).toNat : Int) = a % 18446744073709551616 := by
    unfold B
    rw [BitVec.toNat_ofInt]
    omega
  rw [← wrap_toNat, hn, Int.natCast_emod, ha, ← e]
  have h1 : a % 18446744073709551616 % 2 ^ j = a % 2 ^ j := by
    have : (18446744073709551616 : Int) = 2 ^ j * 2 ^ (64 - j) := by
      rw [← Int.pow_add, show j + (64 - j) = 64 from by omega]; rfl
    exact Int.emod_emod_of_dvd a ⟨_, this⟩
  rw [h1]
  have h2 := Int.emod_nonneg a (show (2 : Int) ^ j ≠ 0 by omega)
  have h3 := Int.emod_lt_of_pos a hp
  rw [IntKind.wrap_i64]
  generalize a % 2 ^ j = y at *
  omega
theorem and_one (a : Int) : bits .and .i64 a 1 = a % 2 := and_low a 1 (by decide)
theorem and_three (a : Int) : bits .and .i64 a 3 = a % 4 := and_low a 2 (by decide)
theorem or_low (x y : Int) (j : Nat) (hx : x % 2 ^ j = 0) (hy : 0 ≤ y) (hy2 : y < 2 ^ j) : bits .or .i64 x y = wrap64 (x + y) := by
  rw [bits_or, wrap64_B, ← B_add]
  congr 1
  refine (BitVec.add_eq_or_of_and_eq_zero _ _ ?_).symm
  apply BitVec.eq_of_getLsbD_eq
  intro i hi
  rw [BitVec.getLsbD_and, B_bit x i hi, B_bit y i hi]
  by_cases h : i < j
  · have : x / 2 ^ i % 2 = 0 := by
      have hp := pow_pos i
      have e : (2 : Int) ^ j = 2 ^ i * (2 * 2 ^ (j - i - 1)) := by
        rw [← Int.mul_assoc, ← Int.pow_succ, ← Int.pow_add, show i + 1 + (j - i - 1) = j from by omega]
      obtain ⟨q, hq⟩ := Int.dvd_of_emod_eq_zero hx
      rw [hq, e, Int.mul_assoc, Int.mul_ediv_cancel_left _ (by omega), Int.mul_assoc]
      omega
    rw [this]; simp
  · have : y / 2 ^ i = 0 := by
      apply Int.ediv_eq_zero_of_lt hy
      have : (2 : Nat) ^ j ≤ 2 ^ i := Nat.pow_le_pow_right (by decide) (by omega)
      have e1 : ((2 : Int) ^ j) = ((2 ^ j : Nat) : Int) := by simp
      have e2 : ((2 : Int) ^ i) = ((2 ^ i : Nat) : Int) := by simp
      rw [e2]; rw [e1] at hy2
      generalize 2 ^ j = z at *
      generalize 2 ^ i = z2 at *
      omega
    rw [this]; simp
end Go.Proofs.Ytkabmbaghgfffaa.Math
