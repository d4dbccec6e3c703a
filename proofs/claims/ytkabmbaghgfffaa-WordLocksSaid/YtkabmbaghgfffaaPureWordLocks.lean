/- For every integer n, word.Free, Held, Locked, Ver and Who answer as the reference (hallmootref01) does. No condition. -/
import Derived.Test.YtkabmbaghgfffaaPWordx2
import Derived.Test.YtkabmbaghgfffaaCore
namespace Go.Proofs.Ytkabmbaghgfffaa.Pure
open Go.RowKit Go.Proofs.Ytkabmbaghgfffaa.PWord Go.Proofs.YtkabmbaghgfffaaW.PrintWords Go.Proofs.YtkabmbaghgfffaaW.PrintLast
open Go.Proofs.Ytkabmbaghgfffaa.Math Go.Proofs.Ytkabmbaghgfffaa.Core

theorem WordLocks : hallmootlaw01_WordLocks.Pure := by
  intro a hw
  have ha := w64_of_wf hw
  refine ⟨100, ?_⟩
  have h2 := down_eq a 1 (by decide) ha
  rw [Int.pow_one] at h2
  have hh : bits .or .i64 (wrap64 (a * 2)) 1 = wrap64 (wrap64 (a * 2) + 1) :=
    or_low _ _ 1 (by rw [Int.pow_one]; unfold wrap64; omega) (by decide) (by decide)
  unfold hallmootlaw01_WordLocks.f word_Free.f hallmootref01_Free.f word_Held.f hallmootref01_Held.f word_Locked.f hallmootref01_Locked.f word_Ver.f hallmootref01_Ver.f word_Who.f hallmootref01_Who.f
  rw [sanity_ok, mod_eq a 2 (by decide) (by decide), h2, hh, and_one, Int.mul_comm 2 a]
  simp
end Go.Proofs.Ytkabmbaghgfffaa.Pure
