/- What the printed functions of package wire and of its reference answer, in plain words on lists of bytes. -/
import Derived.Test.YtmhabhfkglhleaaPA2
import Derived.Test.YtmhabhfkglhleaaPPut
import Derived.Test.YtmhabhfkglhleaaMath
namespace Go.Proofs.Ytmhabhfkglhleaa.Core
open Go.RowKit Go.Proofs.Ytmhabhfkglhleaa.PWire Go.Proofs.YtmhabhfkglhleaaW.PrintWords Go.Proofs.YtmhabhfkglhleaaW.PrintLast Go.Proofs.YtmhabhfkglhleaaW.PrintMore
open Go.Proofs.Ytmhabhfkglhleaa.Math

/-! Bits. -/
theorem wrap_u64 (n : Int) : IntKind.u64.wrap n = n % 18446744073709551616 := by simp [IntKind.wrap, IntKind.bits, IntKind.signed]
theorem wraps_u64 (n : Int) (h₀ : 0 ≤ n) (h₁ : n < 2 ^ 64) : IntKind.u64.wrap n = n := by rw [wrap_u64]; omega
theorem or_comm (k : IntKind) (x y : Int) : bits .or k x y = bits .or k y x := by
  simp only [bits]; rw [BitVec.or_comm]
theorem or_high {x y : Int} (i : Nat) (h0 : 0 ≤ x) (h1 : x < 2 ^ i) (h2 : 0 ≤ y) (h3 : y % 2 ^ i = 0) (hx : x < 2 ^ 64) (hy : y < 2 ^ 64) : bits .or .u64 x y = x + y := by
  rw [or_comm, bits_join .u64 64 (by decide) wraps_u64 i y x h2 h3 hy h0 h1 hx]; omega
theorem and1 {u : Int} (h0 : 0 ≤ u) (h1 : u < 2 ^ 64) : bits .and .u64 u 1 = u % 2 := bits_mask .u64 64 (by decide) wraps_u64 1 (by decide) u h0 h1
theorem andNot_u8 {x : Int} (h : Byte x) : bits .andNot .u8 x 128 = x % 128 := by
  have all : ∀ n : Fin 256, bits .andNot .u8 ((n.val : Nat) : Int) 128 = ((n.val : Nat) : Int) % 128 := by decide +kernel
  obtain ⟨n, rfl⟩ := Int.eq_ofNat_of_zero_le h.1
  have := h.2
  exact all ⟨n, by omega⟩
theorem or_u8 {x : Int} (h : Byte x) : bits .or .u8 x 128 = x % 128 + 128 := by
  have all : ∀ n : Fin 256, bits .or .u8 ((n.val : Nat) : Int) 128 = ((n.val : Nat) : Int) % 128 + 128 := by decide +kernel
  obtain ⟨n, rfl⟩ := Int.eq_ofNat_of_zero_le h.1
  have := h.2
  exact all ⟨n, by omega⟩
theorem xor_zero_i {x : Int} (h : W64 x) : bits .xor .i64 x 0 = x := by
  have e : BitVec.ofInt 64 0 = 0#64 := by decide
  simp only [bits]
  rw [show IntKind.i64.bits = 64 from rfl, e, BitVec.xor_zero, BitVec.toNat_ofInt, IntKind.wrap_i64]
  unfold W64 at h; omega
theorem xor_ones_i {x : Int} (h : W64 x) : bits .xor .i64 x (-1) = -x - 1 := by
  have e : BitVec.ofInt 64 (-1) = BitVec.allOnes 64 := by decide
  simp only [bits]
  rw [show IntKind.i64.bits = 64 from rfl, e, BitVec.xor_allOnes, BitVec.toNat_not, BitVec.toNat_ofInt, IntKind.wrap_i64]
  unfold W64 at h; omega
theorem xor_zero_u {x : Int} (h0 : 0 ≤ x) (h1 : x < 18446744073709551616) : bits .xor .u64 x 0 = x := by
  have e : BitVec.ofInt 64 0 = 0#64 := by decide
  simp only [bits]
  rw [show IntKind.u64.bits = 64 from rfl, e, BitVec.xor_zero, BitVec.toNat_ofInt, wrap_u64]
  omega
theorem xor_ones_u {x : Int} (h0 : 0 ≤ x) (h1 : x < 18446744073709551616) : bits .xor .u64 x 18446744073709551615 = 18446744073709551615 - x := by
  have e : BitVec.ofInt 64 18446744073709551615 = BitVec.allOnes 64 := by decide
  simp only [bits]
  rw [show IntKind.u64.bits = 64 from rfl, e, BitVec.xor_allOnes, BitVec.toNat_not, BitVec.toNat_ofInt, wrap_u64]
  omega
theorem unzig_bits {u : Nat} (h : u < 18446744073709551616) :
    bits .xor .i64 (wrap64 ((u : Int) / 2)) (wrap64 (-(wrap64 (bits .and .u64 (u : Int) 1)))) = unzig u := by
  rw [and1 (by omega) (by omega)]
  have e : wrap64 ((u : Int) / 2) = (u : Int) / 2 := wrap_in ⟨by omega, by omega⟩
  have e2 : wrap64 ((u : Int) % 2) = (u : Int) % 2 := wrap_in ⟨by omega, by omega⟩
  rw [e, e2, wrap_in (x := -((u : Int) % 2)) ⟨by omega, by omega⟩]
  unfold unzig
  by_cases h2 : u % 2 = 0
  · rw [if_pos h2, show (u : Int) % 2 = 0 by omega, show (-(0 : Int)) = 0 from rfl, xor_zero_i ⟨by omega, by omega⟩]; omega
  · rw [if_neg h2, show (u : Int) % 2 = 1 by omega, xor_ones_i ⟨by omega, by omega⟩]; omega
theorem zig_bits {n : Int} (h : W64 n) : bits .xor .u64 (IntKind.u64.wrap ((IntKind.u64.wrap n) * 2)) (IntKind.u64.wrap (n / 9223372036854775808)) = (zig n : Int) := by
  unfold W64 at h
  unfold zig
  by_cases h0 : 0 ≤ n
  · rw [if_pos h0, show n / 9223372036854775808 = 0 by omega, wrap_u64, wrap_u64, wrap_u64, show (0 : Int) % 18446744073709551616 = 0 from rfl, xor_zero_u (by omega) (by omega)]; omega
  · rw [if_neg h0, show n / 9223372036854775808 = -1 by omega, wrap_u64, wrap_u64, wrap_u64, show (-1 : Int) % 18446744073709551616 = 18446744073709551615 from rfl, xor_ones_u (by omega) (by omega)]; omega

/-! Put. -/
theorem put_loop (u : Nat) : ∀ (k : Nat) (acc : List Int), u < 18446744073709551616 → (enc u).length ≤ k → acc.length + (enc u).length < 140737488355328 →
    wire_Put.l0 k (u : Int) acc = some (acc ++ enc u) := by
  induction u using Nat.strongRecOn with
  | ind u ih =>
    intro k acc hu hk ha
    have hp := enc_pos u
    obtain ⟨k, rfl⟩ : ∃ m, k = m + 1 := ⟨k - 1, by omega⟩
    simp only [wire_Put.l0]
    by_cases h1 : u < 128
    · rw [if_pos (by omega), if_pos (by omega), enc_small h1, show (u : Int) % 256 = u by omega]
    · rw [if_neg (by omega), if_pos (by omega), or_u8 ⟨by omega, by omega⟩]
      rw [enc_big (by omega), List.length_cons] at hk ha
      rw [show (u : Int) / 128 = ((u / 128 : Nat) : Int) by omega, ih (u / 128) (by omega) k _ (by omega) (by omega) (by simp; omega)]
      rw [enc_big (u := u) (by omega), List.append_assoc]
      congr 2
      simp
theorem put_eq {n : Int} (h : W64 n) {k : Nat} (hk : 10 ≤ k) : wire_Put.f k n = some (put n) := by
  unfold wire_Put.f
  have hl := put_len h
  unfold put at hl
  rw [zig_bits h, put_loop _ _ _ (zig_lt h) (by omega) (by simp; omega)]
  rfl
theorem turned_eq {n : Int} (h : W64 n) : hallmootref03_turned.f n = some (zig n : Int) := by
  unfold hallmootref03_turned.f zig
  unfold W64 at h
  by_cases h0 : 0 ≤ n
  · rw [if_pos (by omega), if_pos h0, wrap_u64, wrap_u64]; congr 1; omega
  · rw [if_neg (by omega), if_neg h0, wrap_in (x := n + 1) ⟨by omega, by omega⟩, wrap_in (x := -(n + 1)) ⟨by omega, by omega⟩, wrap_u64, wrap_u64, wrap_u64]; congr 1; omega
theorem rput_loop (u : Nat) : ∀ (k : Nat) (acc : List Int), u < 18446744073709551616 → (enc u).length ≤ k → acc.length + (enc u).length < 140737488355328 →
    hallmootref03_Put.l0 k (u : Int) acc = some (acc ++ enc u) := by
  induction u using Nat.strongRecOn with
  | ind u ih =>
    intro k acc hu hk ha
    have hp := enc_pos u
    obtain ⟨k, rfl⟩ : ∃ m, k = m + 1 := ⟨k - 1, by omega⟩
    simp only [hallmootref03_Put.l0]
    by_cases h1 : u < 128
    · rw [if_neg (by omega), if_pos (by omega), enc_small h1, show (u : Int) % 256 = u by omega]
    · rw [if_pos (by omega), if_pos (by omega)]
      rw [enc_big (by omega), List.length_cons] at hk ha
      rw [Int.tdiv_eq_ediv_of_nonneg (by omega), Int.tmod_eq_emod_of_nonneg (by omega), wrap_u64, wrap_u64,
        show (u : Int) / 128 % 18446744073709551616 = ((u / 128 : Nat) : Int) by omega, ih (u / 128) (by omega) k _ (by omega) (by omega) (by simp; omega)]
      rw [enc_big (u := u) (by omega), List.append_assoc]
      congr 2
      simp; omega
theorem rput_eq {n : Int} (h : W64 n) {k : Nat} (hk : 10 ≤ k) : hallmootref03_Put.f k n = some (put n) := by
  unfold hallmootref03_Put.f
  have hl := put_len h
  unfold put at hl
  rw [turned_eq h]
  simp only [Option.bind_some]
  rw [rput_loop _ _ _ (zig_lt h) (by omega) (by simp; omega)]
  rfl

/-! Get. -/
theorem rd_drop {l : List Int} {i : Nat} (h : i < l.length) : l.drop i = rd l i :: l.drop (i + 1) := by
  rw [List.drop_eq_getElem_cons h]
  congr 1
  simp [rd, List.getD, h]
theorem rd_byte {l : List Int} (hb : Bytes l) (i : Int) : Byte (rd l i) := by
  unfold rd List.getD
  cases h : l[i.toNat]? with
  | none => exact ⟨by simp, by simp⟩
  | some x => exact hb x (List.mem_of_getElem? h)
theorem shl_eq {x : Int} (h : Byte x) {i : Nat} (hi : i ≤ 9) (h9 : i = 9 → x ≤ 1) :
    shl .u64 (IntKind.u64.wrap (bits .andNot .u8 x 128)) (wrap64 (7 * (i : Int))) = ((x % 128).toNat * 128 ^ i : Nat) ∧ ((x % 128).toNat * 128 ^ i : Nat) < 18446744073709551616 := by
  have hx := h
  unfold Byte at hx
  have lt : (x % 128).toNat * 128 ^ i < 18446744073709551616 := by
    by_cases k9 : i = 9
    · subst k9
      have e9 : (128 : Nat) ^ 9 = 9223372036854775808 := by decide
      rw [e9]
      have := h9 rfl
      omega
    · have : (128 : Nat) ^ i ≤ 128 ^ 8 := Nat.pow_le_pow_right (by decide) (by omega)
      have e8 : (128 : Nat) ^ 8 = 72057594037927936 := by decide
      rw [e8] at this
      have : (x % 128).toNat * 128 ^ i ≤ 127 * 128 ^ i := Nat.mul_le_mul_right _ (by omega)
      omega
  refine ⟨?_, lt⟩
  unfold shl
  rw [andNot_u8 h, wrap_in (x := 7 * (i : Int)) ⟨by omega, by omega⟩, wrap_u64, wrap_u64, show (7 * (i : Int)).toNat = 7 * i by omega,
    show min (7 * i) IntKind.u64.bits = 7 * i from Nat.min_eq_left (show 7 * i ≤ 64 by omega)]
  have e : x % 128 % 18446744073709551616 = ((x % 128).toNat : Int) := by omega
  have e2 : (2 : Int) ^ (7 * i) = ((128 ^ i : Nat) : Int) := by rw [pow128]; simp
  rw [e, e2, ← Int.natCast_mul]
  omega
theorem step_eq {x : Int} (h : Byte x) {i a : Nat} (hi : i ≤ 9) (h9 : i = 9 → x ≤ 1) (ha : a < 128 ^ i) :
    bits .or .u64 (a : Int) (shl .u64 (IntKind.u64.wrap (bits .andNot .u8 x 128)) (wrap64 (7 * (i : Int)))) = ((a + (x % 128).toNat * 128 ^ i : Nat) : Int) ∧ a + (x % 128).toNat * 128 ^ i < 18446744073709551616 := by
  obtain ⟨e, lt⟩ := shl_eq h hi h9
  have ha2 : a < 18446744073709551616 := by
    have : (128 : Nat) ^ i ≤ 128 ^ 9 := Nat.pow_le_pow_right (by decide) hi
    have e9 : (128 : Nat) ^ 9 = 9223372036854775808 := by decide
    omega
  have lt2 : a + (x % 128).toNat * 128 ^ i < 18446744073709551616 := by
    by_cases k9 : i = 9
    · subst k9
      have e9 : (128 : Nat) ^ 9 = 9223372036854775808 := by decide
      rw [e9] at ha ⊢
      have := h9 rfl
      unfold Byte at h
      omega
    · have : (128 : Nat) ^ i ≤ 128 ^ 8 := Nat.pow_le_pow_right (by decide) (by omega)
      have e8 : (128 : Nat) ^ 8 = 72057594037927936 := by decide
      rw [e8] at this
      have : (x % 128).toNat * 128 ^ i ≤ 127 * 128 ^ i := Nat.mul_le_mul_right _ (by unfold Byte at h; omega)
      omega
  refine ⟨?_, lt2⟩
  rw [e, or_high (7 * i) (by omega) ?_ (by omega) ?_ (by omega) (by omega), ← Int.natCast_add]
  · have e2 : (2 : Int) ^ (7 * i) = ((128 ^ i : Nat) : Int) := by rw [pow128]; simp
    rw [e2]; omega
  · have e2 : (2 : Int) ^ (7 * i) = ((128 ^ i : Nat) : Int) := by rw [pow128]; simp
    rw [e2, Int.natCast_mul, Int.mul_emod_left]

theorem get_loop {l : List Int} (hb : Bytes l) (hl : l.length ≤ 140737488355328) (d : Nat) : ∀ (k i a : Nat), i + d = 9 → 2 * d + 2 ≤ k → a < 128 ^ i →
    wire_Get.l0 k (a : Int) l (l.length : Int) i = some (dec (l.drop i) i a) := by
  induction d with
  | zero =>
    intro k i a hi hk ha
    obtain ⟨k, rfl⟩ : ∃ m, k = m + 2 := ⟨k - 2, by omega⟩
    obtain rfl : i = 9 := by omega
    simp only [wire_Get.l0]
    by_cases hlt : 9 < l.length
    · rw [if_pos (by omega), if_pos (by omega), if_pos (by omega), if_pos (by omega), rd_drop hlt]
      have hx := rd_byte hb (9 : Nat)
      simp only [dec]
      by_cases h1 : rd l (9 : Nat) > 1
      · have hc : True ∧ rd l (9 : Nat) > 1 ∨ 9 > 9 := .inl ⟨trivial, h1⟩
        rw [if_pos h1, if_pos hc]
        simp [wire_Get.j1]
      · rw [if_neg h1, if_neg (by omega), if_pos (by omega)]
        obtain ⟨e, lt⟩ := step_eq hx (i := 9) (a := a) (by omega) (by omega) ha
        simp only [wire_Get.j1]
        rw [decide_eq_false (by omega), if_neg (by simp), if_pos (by rw [wrap_in ⟨by omega, by omega⟩]; omega), if_pos (by omega)]
        have hm : (rd l (9 : Nat) % 128).toNat = (rd l (9 : Nat)).toNat := by unfold Byte at hx; omega
        by_cases h3 : rd l (9 : Nat) = 0
        · rw [if_pos h3, if_pos (by omega), if_pos ⟨h3, by omega⟩]
        · rw [if_neg h3, if_neg (by omega), e, unzig_bits lt, hm, wrap_in (x := ((9 : Nat) : Int) + 1) ⟨by omega, by omega⟩]
    · rw [if_neg (by omega), List.drop_eq_nil_of_le (by omega)]
      rfl
  | succ d ih =>
    intro k i a hi hk ha
    obtain ⟨k, rfl⟩ : ∃ m, k = m + 2 := ⟨k - 2, by omega⟩
    simp only [wire_Get.l0]
    by_cases hlt : i < l.length
    · rw [if_pos (by omega), if_pos (by omega), if_pos (by omega), if_neg (by omega), rd_drop hlt]
      have hx := rd_byte hb (i : Nat)
      obtain ⟨e, lt⟩ := step_eq hx (i := i) (a := a) (by omega) (by omega) ha
      simp only [dec]
      rw [if_neg (by omega)]
      simp only [wire_Get.j1]
      rw [decide_eq_false (by omega), if_neg (by simp), if_pos (by rw [wrap_in ⟨by omega, by omega⟩]; omega)]
      by_cases h2 : rd l (i : Nat) < 128
      · rw [if_pos h2, if_pos h2]
        have hm : (rd l (i : Nat) % 128).toNat = (rd l (i : Nat)).toNat := by unfold Byte at hx; omega
        by_cases h3 : rd l (i : Nat) = 0
        · by_cases h4 : i > 0
          · rw [if_pos h3, if_pos (by omega), if_pos ⟨h3, h4⟩]
          · rw [if_pos h3, if_neg (by omega), if_neg (by omega), e, unzig_bits lt, hm, wrap_in (x := (i : Int) + 1) ⟨by omega, by omega⟩]
        · rw [if_neg h3, if_neg (by omega), e, unzig_bits lt, hm, wrap_in (x := (i : Int) + 1) ⟨by omega, by omega⟩]
      · rw [if_neg h2, if_neg h2, e, wrap_in (x := (i : Int) + 1) ⟨by omega, by omega⟩]
        have hm : (rd l (i : Nat) % 128).toNat = (rd l (i : Nat) - 128).toNat := by unfold Byte at hx; omega
        rw [hm] at lt ⊢
        have ha' : a + (rd l (i : Nat) - 128).toNat * 128 ^ i < 128 ^ (i + 1) := by
          have : (rd l (i : Nat) - 128).toNat * 128 ^ i ≤ 127 * 128 ^ i := Nat.mul_le_mul_right _ (by unfold Byte at hx; omega)
          rw [Nat.pow_succ]; omega
        exact ih k (i + 1) _ (by omega) (by omega) ha'
    · rw [if_neg (by omega), List.drop_eq_nil_of_le (by omega)]
      rfl
theorem get_eq {l : List Int} (hb : Bytes l) (hl : l.length ≤ 140737488355328) {k : Nat} (hk : 20 ≤ k) : wire_Get.f k l = some (dget l) := by
  unfold wire_Get.f dget
  exact get_loop hb hl 9 k 0 0 (by omega) (by omega) (by decide)
end Go.Proofs.Ytmhabhfkglhleaa.Core
