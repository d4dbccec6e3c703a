/- For every mask and all threads 0 to 61 masks behave like sets: an added thread is contained, a removed one is not, other threads are unaffected, the order of additions does not matter. No condition. -/
import Derived.Test.YtkabmbaghgfffaaSets
import Derived.Test.YtkabmbaghgfffaaCore
namespace Go.Proofs.Ytkabmbaghgfffaa.Pure
open Go.RowKit Go.Proofs.Ytkabmbaghgfffaa.PWord Go.Proofs.YtkabmbaghgfffaaW.PrintWords Go.Proofs.YtkabmbaghgfffaaW.PrintLast
open Go.Proofs.Ytkabmbaghgfffaa.Math Go.Proofs.Ytkabmbaghgfffaa.Core

theorem V_at {x : Int} (hx : 0 ≤ x ∧ x < 62) (j : Nat) : (V x).getLsbD j = decide (x.toNat = j) := by
  unfold V
  rw [if_pos hx, BitVec.getLsbD_twoPow, decide_eq_true (show x.toNat < 64 by omega), Bool.true_and]
theorem has_toInt (b : BitVec 64) {t : Int} (ht : 0 ≤ t ∧ t < 62) : has b.toInt t = b.getLsbD t.toNat := by
  unfold has
  rw [decide_eq_true ht, B_toInt, Bool.true_and]
theorem has_in (m : Int) {t : Int} (ht : 0 ≤ t ∧ t < 62) : has m t = (B m).getLsbD t.toNat := by
  unfold has
  rw [decide_eq_true ht, Bool.true_and]

theorem sets_walk (m a b : Int) (w : World) (_ : (Lit.int .i64 m).wf = true) (ha : (Lit.int .u8 a).wf = true) (hb : (Lit.int .u8 b).wf = true) :
    Calls Try.prog 8 #[.int .i64 m, .int .u8 a, .int .u8 b] w fun e w' => e = .returned (.bool true) ∧ Below w.heap.size w w' := by
  obtain ⟨a0, a1⟩ := u8_of_wf ha
  obtain ⟨b0, b1⟩ := u8_of_wf hb
  have ax : wrap64 (Int.tmod a 62) = a % 62 := by
    rw [Int.tmod_eq_emod_of_nonneg a0]; exact wrap_in ⟨by omega, by omega⟩
  have bx : wrap64 (Int.tmod b 62) = b % 62 := by
    rw [Int.tmod_eq_emod_of_nonneg b0]; exact wrap_in ⟨by omega, by omega⟩
  have hx : 0 ≤ wrap64 (Int.tmod a 62) ∧ wrap64 (Int.tmod a 62) < 62 := by rw [ax]; omega
  have hy : 0 ≤ wrap64 (Int.tmod b 62) ∧ wrap64 (Int.tmod b 62) < 62 := by rw [bx]; omega
  obtain ⟨x, ex⟩ : ∃ x, x = wrap64 (Int.tmod a 62) := ⟨_, rfl⟩
  obtain ⟨y, ey⟩ : ∃ y, y = wrap64 (Int.tmod b 62) := ⟨_, rfl⟩
  rw [← ex] at hx
  rw [← ey] at hy
  have c1 : has (B m ||| V x).toInt x = true := by rw [has_toInt _ hx]; simp [V_at hx]
  have c2 : has (B m &&& ~~~ V x).toInt x = false := by rw [has_toInt _ hx]; simp [V_at hx]
  have c3 : (B m ||| V x ||| V x) = B m ||| V x := by rw [BitVec.or_assoc, BitVec.or_self]
  have c4 : (B m &&& ~~~ V x &&& ~~~ V x) = B m &&& ~~~ V x := by rw [BitVec.and_assoc, BitVec.and_self]
  have c5 : (B m ||| V x ||| V y) = B m ||| V y ||| V x := by rw [BitVec.or_assoc, BitVec.or_assoc, BitVec.or_comm (V x)]
  have c6 : ((B m ||| V x) &&& ~~~ V x) = B m &&& ~~~ V x := by
    apply BitVec.eq_of_getLsbD_eq
    intro i hi
    simp only [BitVec.getLsbD_or, BitVec.getLsbD_and, BitVec.getLsbD_not]
    cases (B m).getLsbD i <;> cases (V x).getLsbD i <;> simp
  have c7 : x ≠ y → has (B m ||| V x).toInt y = has m y := by
    intro h
    rw [has_toInt _ hy, has_in m hy, BitVec.getLsbD_or, V_at hx, decide_eq_false (by omega), Bool.or_false]
  have c8 : x ≠ y → has (B m &&& ~~~ V x).toInt y = has m y := by
    intro h
    rw [has_toInt _ hy, has_in m hy, BitVec.getLsbD_and, BitVec.getLsbD_not, V_at hx, decide_eq_true (show y.toNat < 64 by omega), decide_eq_false (show ¬ x.toNat = y.toNat by omega)]
    simp
  have A5 := with_f m x
  have A6 := without_f m x
  have A9 := in_eq (B m ||| V x).toInt x
  have A11 := in_eq (B m &&& ~~~ V x).toInt x
  have A13 := with_f (B m ||| V x).toInt x
  have A15 := without_f (B m &&& ~~~ V x).toInt x
  have A26 := with_f (B m ||| V x).toInt y
  have A27 := with_f m y
  have A28 := with_f (B m ||| V y).toInt x
  have A30 := without_f (B m ||| V x).toInt x
  rw [c1] at A9
  rw [c2] at A11
  rw [B_toInt, c3] at A13
  rw [B_toInt, c4] at A15
  rw [B_toInt] at A26
  rw [B_toInt, ← c5] at A28
  rw [B_toInt, c6] at A30
  by_cases h : x = y
  · refine sets_same 100 m a b (B m ||| V x).toInt (B m &&& ~~~ V x).toInt (B m ||| V x ||| V y).toInt (B m ||| V y).toInt true w ⟨sanity_ok⟩ ⟨by rw [← ex]; exact A5⟩ ⟨by rw [← ex]; exact A6⟩ ⟨by rw [← ex]; exact A9⟩ ⟨by rw [← ex]; exact A11⟩ ⟨by rw [← ex]; exact A13⟩ ⟨by rw [← ex]; exact A15⟩ ?_ ?_ ⟨by rw [← ey]; exact A26⟩ ⟨by rw [← ey]; exact A27⟩ ⟨by rw [← ex]; exact A28⟩ ⟨by rw [← ex]; exact A30⟩
    · rw [← ex, ← ey, h]; simp
    · rw [← ex, ← ey, h]; simp
  · have A19 := in_eq (B m ||| V x).toInt y
    have A20 := in_eq m y
    have A22 := in_eq (B m &&& ~~~ V x).toInt y
    rw [c7 h] at A19
    rw [c8 h] at A22
    refine sets_other 100 m a b (B m ||| V x).toInt (B m &&& ~~~ V x).toInt (B m ||| V x ||| V y).toInt (B m ||| V y).toInt (has m y) w ⟨sanity_ok⟩ ⟨by rw [← ex]; exact A5⟩ ⟨by rw [← ex]; exact A6⟩ ⟨by rw [← ex]; exact A9⟩ ⟨by rw [← ex]; exact A11⟩ ⟨by rw [← ex]; exact A13⟩ ⟨by rw [← ex]; exact A15⟩ ?_ ?_ ⟨by rw [← ey]; exact A19⟩ ⟨by rw [← ey]; exact A20⟩ ⟨by rw [← ey]; exact A22⟩ ⟨by rw [← ey]; exact A26⟩ ⟨by rw [← ey]; exact A27⟩ ⟨by rw [← ex]; exact A28⟩ ⟨by rw [← ex]; exact A30⟩
    · rw [← ex, ← ey, beq_eq_false_iff_ne]; exact h
    · rw [← ex, ← ey, bne_iff_ne]; exact h
end Go.Proofs.Ytkabmbaghgfffaa.Pure
