/- For all integers, word.Status, Try and Kind answer as the reference (hallmootref01) does. No condition. -/
import Derived.Test.YtkabmbaghgfffaaPWordx2
import Derived.Test.YtkabmbaghgfffaaCore
namespace Go.Proofs.Ytkabmbaghgfffaa.Pure
open Go.RowKit Go.Proofs.Ytkabmbaghgfffaa.PWord Go.Proofs.YtkabmbaghgfffaaW.PrintWords Go.Proofs.YtkabmbaghgfffaaW.PrintLast
open Go.Proofs.Ytkabmbaghgfffaa.Math Go.Proofs.Ytkabmbaghgfffaa.Core

theorem WordStatus : hallmootlaw01_WordStatus.Pure := by
  intro a b hw hv
  have ha := w64_of_wf hw
  refine ⟨100, ?_⟩
  have h4 := down_eq a 2 (by decide) ha
  rw [show (2 : Int) ^ 2 = 4 from rfl] at h4
  have hh : bits .or .i64 (wrap64 (a * 4)) (b % 4) = wrap64 (wrap64 (a * 4) + b % 4) :=
    or_low _ _ 2 (by rw [show (2 : Int) ^ 2 = 4 from rfl]; unfold wrap64; omega) (by omega) (by rw [show (2 : Int) ^ 2 = 4 from rfl]; omega)
  unfold hallmootlaw01_WordStatus.f word_Status.f hallmootref01_Status.f word_Try.f hallmootref01_Try.f word_Kind.f hallmootref01_Kind.f
  rw [sanity_ok, mod_eq a 4 (by decide) (by decide), mod_eq b 4 (by decide) (by decide), h4, and_three, and_three, hh, Int.mul_comm 4 a]
  simp
end Go.Proofs.Ytkabmbaghgfffaa.Pure
