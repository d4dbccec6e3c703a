/- The zigzag varint and the Adler-32 sum on lists of bytes: plain facts, no program in sight. -/
import Derived.Laws.BitsLemmas
import Derived.RowKit
namespace Go.Proofs.Ytmhabhfkglhleaa.Math
open Go Go.RowKit

def W64 (x : Int) : Prop := -9223372036854775808 ≤ x ∧ x ≤ 9223372036854775807
def Byte (x : Int) : Prop := 0 ≤ x ∧ x ≤ 255
def Bytes (l : List Int) : Prop := ∀ x ∈ l, Byte x

theorem w64_of_wf {x : Int} (h : (Lit.int .i64 x).wf = true) : W64 x := by
  simp [Lit.wf, IntKind.min, IntKind.max, IntKind.bits, IntKind.signed] at h
  exact ⟨h.1, by omega⟩
theorem byte_of_wf {x : Int} (h : (Lit.int .u8 x).wf = true) : Byte x := by
  simp [Lit.wf, IntKind.min, IntKind.max, IntKind.bits, IntKind.signed] at h
  exact ⟨h.1, by omega⟩
theorem wrap_in {x : Int} (h : W64 x) : wrap64 x = x := by unfold wrap64; unfold W64 at h; omega

theorem Bytes.app {a b : List Int} (ha : Bytes a) (hb : Bytes b) : Bytes (a ++ b) := by
  intro x hx
  rcases List.mem_append.1 hx with h | h
  · exact ha x h
  · exact hb x h
theorem Bytes.left {a b : List Int} (h : Bytes (a ++ b)) : Bytes a := fun x hx => h x (List.mem_append.2 (.inl hx))
theorem Bytes.right {a b : List Int} (h : Bytes (a ++ b)) : Bytes b := fun x hx => h x (List.mem_append.2 (.inr hx))
theorem Bytes.dropped {a : List Int} (h : Bytes a) (n : Nat) : Bytes (a.drop n) := fun x hx => h x (List.mem_of_mem_drop hx)
theorem Bytes.taken {a : List Int} (h : Bytes a) (n : Nat) : Bytes (a.take n) := fun x hx => h x (List.mem_of_mem_take hx)

/-! The varint. -/
def enc (u : Nat) : List Int := if u < 128 then [(u : Int)] else ((u % 128 + 128 : Nat) : Int) :: enc (u / 128)
  termination_by u
  decreasing_by omega

theorem enc_small {u : Nat} (h : u < 128) : enc u = [(u : Int)] := by rw [enc, if_pos h]
theorem enc_big {u : Nat} (h : 128 ≤ u) : enc u = ((u % 128 + 128 : Nat) : Int) :: enc (u / 128) := by rw [enc, if_neg (by omega)]

theorem enc_bytes (u : Nat) : Bytes (enc u) := by
  induction u using Nat.strongRecOn with
  | ind u ih =>
    by_cases h : u < 128
    · rw [enc_small h]; intro x hx; simp at hx; subst hx; exact ⟨by omega, by omega⟩
    · rw [enc_big (by omega)]
      intro x hx
      rcases List.mem_cons.1 hx with rfl | hx
      · exact ⟨by omega, by omega⟩
      · exact ih (u / 128) (by omega) x hx
theorem enc_pos (u : Nat) : 1 ≤ (enc u).length := by
  rw [enc]; split <;> simp
theorem enc_len (k : Nat) : ∀ u : Nat, u < 128 ^ (k + 1) → (enc u).length ≤ k + 1 := by
  induction k with
  | zero => intro u h; rw [enc_small (by omega)]; simp
  | succ k ih =>
    intro u h
    by_cases h1 : u < 128
    · rw [enc_small h1]; simp
    · rw [enc_big (by omega), List.length_cons]
      have : u / 128 < 128 ^ (k + 1) := by
        apply Nat.div_lt_of_lt_mul
        rw [Nat.pow_succ] at h; omega
      have := ih _ this
      omega
theorem enc_len10 {u : Nat} (h : u < 18446744073709551616) : (enc u).length ≤ 10 := enc_len 9 u (by omega)
theorem enc_mono (u : Nat) : ∀ v, u ≤ v → (enc u).length ≤ (enc v).length := by
  induction u using Nat.strongRecOn with
  | ind u ih =>
    intro v h
    by_cases h1 : u < 128
    · rw [enc_small h1]; exact enc_pos v
    · rw [enc_big (by omega), enc_big (u := v) (by omega), List.length_cons, List.length_cons]
      have := ih (u / 128) (by omega) (v / 128) (by omega)
      omega
theorem enc_free (u : Nat) : ∀ (v : Nat) (r s : List Int), enc u ++ r = enc v ++ s → u = v ∧ r = s := by
  induction u using Nat.strongRecOn with
  | ind u ih =>
    intro v r s h
    by_cases h1 : u < 128
    · by_cases h2 : v < 128
      · rw [enc_small h1, enc_small h2] at h
        simp at h; exact ⟨by omega, h.2⟩
      · rw [enc_small h1, enc_big (u := v) (by omega)] at h
        simp at h; omega
    · by_cases h2 : v < 128
      · rw [enc_small h2, enc_big (u := u) (by omega)] at h
        simp at h; omega
      · rw [enc_big (u := u) (by omega), enc_big (u := v) (by omega)] at h
        rw [List.cons_append, List.cons_append, List.cons.injEq] at h
        obtain ⟨e1, e2⟩ := ih (u / 128) (by omega) _ _ _ h.2
        exact ⟨by omega, e2⟩
theorem enc_inj {u v : Nat} (h : enc u = enc v) : u = v := (enc_free u v [] [] (by rw [h])).1

/-- The value that the groups tell. -/
def val : List Int → Nat
  | [] => 0
  | x :: l => (x % 128).toNat + 128 * val l
theorem val_enc (u : Nat) : val (enc u) = u := by
  induction u using Nat.strongRecOn with
  | ind u ih =>
    by_cases h1 : u < 128
    · rw [enc_small h1]; simp only [val]; omega
    · rw [enc_big (by omega)]
      simp only [val]
      rw [ih (u / 128) (by omega)]
      omega

/-- The zigzag number. -/
def zig (n : Int) : Nat := if 0 ≤ n then (2 * n).toNat else (-2 * n - 1).toNat
def unzig (u : Nat) : Int := if u % 2 = 0 then ((u / 2 : Nat) : Int) else -((u / 2 : Nat) : Int) - 1
theorem unzig_zig (n : Int) : unzig (zig n) = n := by
  unfold unzig zig
  split <;> split <;> omega
theorem zig_unzig (u : Nat) : zig (unzig u) = u := by
  unfold unzig zig
  split <;> split <;> omega
theorem zig_lt {n : Int} (h : W64 n) : zig n < 18446744073709551616 := by
  unfold W64 at h; unfold zig; split <;> omega
theorem unzig_w {u : Nat} (h : u < 18446744073709551616) : W64 (unzig u) := by
  unfold W64 unzig; split <;> omega
theorem zig_inj {m n : Int} (h : zig m = zig n) : m = n := by rw [← unzig_zig m, h, unzig_zig]

def put (n : Int) : List Int := enc (zig n)
theorem put_bytes (n : Int) : Bytes (put n) := enc_bytes _
theorem put_pos (n : Int) : 1 ≤ (put n).length := enc_pos _
theorem put_len {n : Int} (h : W64 n) : (put n).length ≤ 10 := enc_len10 (zig_lt h)
theorem put_free {m n : Int} {r s : List Int} (h : put m ++ r = put n ++ s) : m = n ∧ r = s := by
  obtain ⟨a, b⟩ := enc_free _ _ _ _ h
  exact ⟨zig_inj a, b⟩
theorem put_inj {m n : Int} (h : put m = put n) : m = n := zig_inj (enc_inj h)

/-! Decoding, byte by byte. -/
def dec : List Int → Nat → Nat → Int × Int × Int
  | [], _, _ => (0, 0, 3)
  | x :: l, k, a =>
    if k = 9 ∧ x > 1 ∨ k > 9 then (0, 0, 3)
    else if x < 128 then
      if x = 0 ∧ k > 0 then (0, 0, 3) else (unzig (a + x.toNat * 128 ^ k), (k : Int) + 1, 0)
    else dec l (k + 1) (a + (x - 128).toNat * 128 ^ k)

theorem pow128 (k : Nat) : 128 ^ k = 2 ^ (7 * k) := by rw [Nat.pow_mul]
theorem dec_enc (u : Nat) : ∀ (k a : Nat) (r : List Int), (0 < k → 1 ≤ u) → a < 128 ^ k → a + u * 128 ^ k < 18446744073709551616 →
    dec (enc u ++ r) k a = (unzig (a + u * 128 ^ k), (k : Int) + (enc u).length, 0) := by
  induction u using Nat.strongRecOn with
  | ind u ih =>
    intro k a r hk ha hb
    have hp : 0 < 128 ^ k := Nat.pow_pos (by decide)
    have k9 : ∀ j, 9 ≤ j → 9223372036854775808 ≤ 128 ^ j := fun j hj => by
      have : (128 : Nat) ^ 9 ≤ 128 ^ j := Nat.pow_le_pow_right (by decide) hj
      omega
    have k10 : ∀ j, 10 ≤ j → 1180591620717411303424 ≤ 128 ^ j := fun j hj => by
      have : (128 : Nat) ^ 10 ≤ 128 ^ j := Nat.pow_le_pow_right (by decide) hj
      omega
    have hno : ¬ (k > 9) := by
      intro h
      have := k10 k (by omega)
      have u1 := hk (by omega)
      have : 1 * 128 ^ k ≤ u * 128 ^ k := Nat.mul_le_mul_right _ u1
      omega
    have hu9 : k = 9 → u ≤ 1 := by
      intro h
      rw [h] at hb
      have : (128 : Nat) ^ 9 = 9223372036854775808 := by decide
      rw [this] at hb; omega
    by_cases h1 : u < 128
    · rw [enc_small h1]
      simp only [List.cons_append, List.nil_append, dec]
      rw [if_neg (by omega), if_pos (by omega), if_neg (by omega)]
      simp
    · rw [enc_big (by omega), List.cons_append]
      simp only [dec]
      have e : u = u % 128 + 128 * (u / 128) := by omega
      have e2 : u * 128 ^ k = (u % 128) * 128 ^ k + (u / 128) * 128 ^ (k + 1) := by
        conv => lhs; rw [e, Nat.add_mul]
        congr 1
        rw [Nat.pow_succ, Nat.mul_comm 128, Nat.mul_assoc, Nat.mul_comm 128]
      rw [if_neg (by omega), if_neg (by omega)]
      have ht : (((u % 128 + 128 : Nat) : Int) - 128).toNat = u % 128 := by omega
      rw [ht]
      have ha' : a + u % 128 * 128 ^ k < 128 ^ (k + 1) := by
        have : u % 128 * 128 ^ k ≤ 127 * 128 ^ k := Nat.mul_le_mul_right _ (by omega)
        rw [Nat.pow_succ]; omega
      rw [ih (u / 128) (by omega) (k + 1) _ r (by omega) ha' (by omega), e2, Nat.add_assoc]
      rw [List.length_cons]
      refine Prod.ext rfl (Prod.ext ?_ rfl)
      show ((k + 1 : Nat) : Int) + ((enc (u / 128)).length : Int) = (k : Int) + (((enc (u / 128)).length + 1 : Nat) : Int)
      omega
theorem dec_ok (l : List Int) : ∀ (k a : Nat), Bytes l → a < 128 ^ k →
    dec l k a = (0, 0, 3) ∨ ∃ u r, l = enc u ++ r ∧ (0 < k → 1 ≤ u) ∧ a + u * 128 ^ k < 18446744073709551616 := by
  induction l with
  | nil => intro k a _ _; exact .inl rfl
  | cons x l ih =>
    intro k a hb ha
    have hx := hb x List.mem_cons_self
    unfold Byte at hx
    simp only [dec]
    by_cases h1 : k = 9 ∧ x > 1 ∨ k > 9
    · rw [if_pos h1]; exact .inl rfl
    · rw [if_neg h1]
      have small : ∀ z : Nat, z < 128 → (k = 9 → z ≤ 1) → a + z * 128 ^ k < 18446744073709551616 := by
        intro z hz h9
        by_cases k9 : k = 9
        · subst k9
          have e9 : (128 : Nat) ^ 9 = 9223372036854775808 := by decide
          rw [e9] at ha ⊢
          have := h9 rfl
          omega
        · have : (128 : Nat) ^ k ≤ 128 ^ 8 := Nat.pow_le_pow_right (by decide) (by omega)
          have e8 : (128 : Nat) ^ 8 = 72057594037927936 := by decide
          rw [e8] at this
          have : z * 128 ^ k ≤ 127 * 128 ^ k := Nat.mul_le_mul_right _ (by omega)
          omega
      by_cases h2 : x < 128
      · rw [if_pos h2]
        by_cases h3 : x = 0 ∧ k > 0
        · rw [if_pos h3]; exact .inl rfl
        · refine .inr ⟨x.toNat, l, ?_, by omega, small _ (by omega) (by omega)⟩
          rw [enc_small (by omega)]
          simp; omega
      · rw [if_neg h2]
        have ha' : a + (x - 128).toNat * 128 ^ k < 128 ^ (k + 1) := by
          have : (x - 128).toNat * 128 ^ k ≤ 127 * 128 ^ k := Nat.mul_le_mul_right _ (by omega)
          rw [Nat.pow_succ]; omega
        rcases ih (k + 1) _ (fun y hy => hb y (List.mem_cons_of_mem _ hy)) ha' with h | ⟨u, r, rfl, hu, hlt⟩
        · exact .inl h
        · have u1 := hu (by omega)
          refine .inr ⟨(x - 128).toNat + 128 * u, r, ?_, by omega, ?_⟩
          · rw [enc_big (u := (x - 128).toNat + 128 * u) (by omega), show ((x - 128).toNat + 128 * u) / 128 = u by omega, List.cons_append]
            congr 1; omega
          · rw [Nat.add_mul, Nat.mul_comm 128 u, Nat.mul_assoc, ← Nat.add_assoc]
            rw [Nat.pow_succ, Nat.mul_comm (128 ^ k) 128] at hlt
            exact hlt

/-- What decoding a number answers: the one of P3.1. -/
def dget (l : List Int) : Int × Int × Int := dec l 0 0
theorem get_put {n : Int} (h : W64 n) (r : List Int) : dget (put n ++ r) = (n, ((put n).length : Int), 0) := by
  unfold dget put
  rw [dec_enc (zig n) 0 0 r (by omega) (by decide) (by have := zig_lt h; omega)]
  rw [Nat.pow_zero, Nat.mul_one, Nat.zero_add, unzig_zig]
  simp
theorem get_or {l : List Int} (hb : Bytes l) : dget l = (0, 0, 3) ∨ ∃ n r, W64 n ∧ l = put n ++ r := by
  rcases dec_ok l 0 0 hb (by decide) with h | ⟨u, r, rfl, _, hu⟩
  · exact .inl h
  · refine .inr ⟨unzig u, r, unzig_w (by omega), ?_⟩
    unfold put; rw [zig_unzig]
theorem get_err {l : List Int} (hb : Bytes l) (h : ∀ n r, W64 n → l ≠ put n ++ r) : dget l = (0, 0, 3) := by
  rcases get_or hb with e | ⟨n, r, hn, e⟩
  · exact e
  · exact absurd e (h n r hn)
/-- No proper prefix of an encoding is decoded. -/
theorem get_short {n : Int} {r : List Int} {k : Nat} (hk : k < (put n).length) (hb : Bytes (put n ++ r)) : dget ((put n ++ r).take k) = (0, 0, 3) := by
  apply get_err (hb.taken k)
  intro m s hm e
  have h1 : (put n ++ r).take k ++ (put n ++ r).drop k = put n ++ r := List.take_append_drop _ _
  rw [e, List.append_assoc] at h1
  have h2 := (put_free h1).1
  subst h2
  have h3 := congrArg List.length e
  rw [List.length_take, List.length_append, List.length_append] at h3
  omega
end Go.Proofs.Ytmhabhfkglhleaa.Math
