/- For every mask and every thread, word.Bit, In, With, Without and Bits answer as the reference (hallmootref01) does. No condition. -/
import Derived.Test.YtkabmbaghgfffaaPWordx3
import Derived.Test.YtkabmbaghgfffaaCore
namespace Go.Proofs.Ytkabmbaghgfffaa.Pure
open Go.RowKit Go.Proofs.Ytkabmbaghgfffaa.PWord Go.Proofs.YtkabmbaghgfffaaW.PrintWords Go.Proofs.YtkabmbaghgfffaaW.PrintLast
open Go.Proofs.Ytkabmbaghgfffaa.Math Go.Proofs.Ytkabmbaghgfffaa.Core

theorem up_of {α : Type} {g : Nat → Option α} {r : α} (mono : ∀ k r, g k = some r → g (k + 1) = some r) {n : Nat} (h : g n = some r) : ∀ {k}, n ≤ k → g k = some r := by
  intro k
  induction k with
  | zero => intro hk; obtain rfl : n = 0 := by omega
            exact h
  | succ k ih =>
    intro hk
    by_cases e : n = k + 1
    · rw [← e]; exact h
    · exact mono k r (ih (by omega))
theorem WordMasks : hallmootlaw01_WordMasks.Pure := by
  intro m t hw _
  have hm := w64_of_wf hw
  obtain ⟨K, hK⟩ : ∃ K : Nat, 200 ≤ K := ⟨200, Nat.le_refl _⟩
  refine ⟨K, ?_⟩
  have s := up_of (g := fun k => hallmootlaw01_sanity.f k) (fun k r => hallmootlaw01_sanity.mono k r) sanity_ok (k := K) (by omega)
  have b := up_of (g := fun k => hallmootref01_Bit.f k t) (fun k r => hallmootref01_Bit.mono t k r) (rbit_eq t) (k := K) (by omega)
  have i := up_of (g := fun k => hallmootref01_In.f k m t) (fun k r => hallmootref01_In.mono m t k r) (rin_eq m t hm) (k := K) (by omega)
  have wi := up_of (g := fun k => hallmootref01_With.f k m t) (fun k r => hallmootref01_With.mono m t k r) (rwith_eq m t hm) (k := K) (by omega)
  have wo := up_of (g := fun k => hallmootref01_Without.f k m t) (fun k r => hallmootref01_Without.mono m t k r) (rwithout_eq m t hm) (k := K) (by omega)
  have l1 : word_Bits.f K m = some (bl m 0 62) := by
    have := bits_loop m 62 K 0 [] (by decide) (by omega) (by decide)
    simpa [word_Bits.f] using this
  have l2 : hallmootref01_Bits.f K m = some (bl m 0 62) := by
    have := rbits_loop m hm 62 K 0 [] (by decide) (by omega) (by decide)
    simpa [hallmootref01_Bits.f] using this
  have l3 : hallmootref01_Ints.f K (bl m 0 62) (bl m 0 62) = some true := by
    have hl := bl_length m 0 62
    have := ints_loop (bl m 0 62) (bl m 0 62).length K 0 (by omega) (by omega) (by omega)
    unfold hallmootref01_Ints.f
    rw [if_pos rfl]; exact this
  generalize bl m 0 62 = l at l1 l2 l3
  unfold hallmootlaw01_WordMasks.f
  simp only [s, bit_eq, b, in_eq, i, with_f, wi, without_f, wo, l1, l2, l3, Option.bind_some, if_true, beq_self_eq_true]
end Go.Proofs.Ytkabmbaghgfffaa.Pure
