/- For all 32-bit values: two versions, two owners, two pairs of attempt number and kind have equal encodings only if they are equal. No condition. -/
import Derived.Test.YtkabmbaghgfffaaInj
import Derived.Test.YtkabmbaghgfffaaCore
namespace Go.Proofs.Ytkabmbaghgfffaa.Pure
open Go.RowKit Go.Proofs.Ytkabmbaghgfffaa.PWord Go.Proofs.YtkabmbaghgfffaaW.PrintWords Go.Proofs.YtkabmbaghgfffaaW.PrintLast
open Go.Proofs.Ytkabmbaghgfffaa.Math Go.Proofs.Ytkabmbaghgfffaa.Core

theorem free_eq {v : Int} (h0 : 0 ≤ v) (h1 : v ≤ 4294967295) : word_Free.f (wrap64 v) = some (v * 2) := by
  unfold word_Free.f
  rw [wrap_in (x := v) ⟨by omega, by omega⟩, wrap_in ⟨by omega, by omega⟩]
theorem held_eq {v : Int} (h0 : 0 ≤ v) (h1 : v ≤ 4294967295) : word_Held.f (wrap64 v) = some (v * 2 + 1) := by
  unfold word_Held.f
  rw [wrap_in (x := v) ⟨by omega, by omega⟩, wrap_in (x := v * 2) ⟨by omega, by omega⟩, or_low _ _ 1 (by rw [Int.pow_one]; omega) (by decide) (by decide), wrap_in ⟨by omega, by omega⟩]
theorem status_eq {v k : Int} (h0 : 0 ≤ v) (h1 : v ≤ 4294967295) (k0 : 0 ≤ k) : word_Status.f (wrap64 v) (wrap64 (k.tmod 4)) = some (v * 4 + k % 4) := by
  unfold word_Status.f
  rw [Int.tmod_eq_emod_of_nonneg k0, wrap_in (x := v) ⟨by omega, by omega⟩, wrap_in (x := v * 4) ⟨by omega, by omega⟩, wrap_in (x := k % 4) ⟨by omega, by omega⟩, and_three,
    or_low _ _ 2 (by rw [show (2 : Int) ^ 2 = 4 from rfl]; omega) (by omega) (by rw [show (2 : Int) ^ 2 = 4 from rfl]; omega), wrap_in ⟨by omega, by omega⟩]
  congr 1; omega
theorem inj_walk (a0 a1 a2 a3 : Int) (w : World) (w0 : (Lit.int .u32 a0).wf = true) (w1 : (Lit.int .u32 a1).wf = true) (w2 : (Lit.int .u8 a2).wf = true) (w3 : (Lit.int .u8 a3).wf = true) :
    Calls Try.prog 7 #[.int .u32 a0, .int .u32 a1, .int .u8 a2, .int .u8 a3] w fun e w' => e = .returned (.bool true) ∧ Below w.heap.size w w' := by
  obtain ⟨p0, p1⟩ := u32_of_wf w0
  obtain ⟨q0, q1⟩ := u32_of_wf w1
  obtain ⟨r0, r1⟩ := u8_of_wf w2
  obtain ⟨s0, s1⟩ := u8_of_wf w3
  by_cases h : a0 = a1
  · refine inj_same 100 a0 a1 a2 a3 _ _ _ _ _ _ (a2 % 4 == a3 % 4) w ⟨sanity_ok⟩ ⟨status_eq p0 p1 r0⟩ ⟨status_eq q0 q1 s0⟩ ⟨free_eq p0 p1⟩ ⟨free_eq q0 q1⟩ ⟨held_eq p0 p1⟩ ⟨held_eq q0 q1⟩ ?_ ?_ ?_ ?_ ?_
    · rw [h]; simp
    · rw [h]; simp
    · rw [h]; simp
    · rw [Bool.eq_iff_iff, beq_iff_eq, beq_iff_eq]; omega
    · rw [Int.tmod_eq_emod_of_nonneg r0, Int.tmod_eq_emod_of_nonneg s0]
  · refine inj_other 100 a0 a1 a2 a3 _ _ _ _ _ _ true w ⟨sanity_ok⟩ ⟨status_eq p0 p1 r0⟩ ⟨status_eq q0 q1 s0⟩ ⟨free_eq p0 p1⟩ ⟨free_eq q0 q1⟩ ⟨held_eq p0 p1⟩ ⟨held_eq q0 q1⟩ ?_ ?_ ?_ ?_
    · rw [beq_eq_false_iff_ne]; omega
    · rw [beq_eq_false_iff_ne]; omega
    · rw [beq_eq_false_iff_ne]; omega
    · rw [beq_eq_false_iff_ne]; omega
end Go.Proofs.Ytkabmbaghgfffaa.Pure
