/- For all 32-bit versions and threads and every kind modulo 4: decoding an encoded version, owner, attempt number or kind gives the value back, and a locked word never equals an unlocked one. No condition. -/
import Derived.Test.YtkabmbaghgfffaaPWordx3
import Derived.Test.YtkabmbaghgfffaaCore
namespace Go.Proofs.Ytkabmbaghgfffaa.Pure
open Go.RowKit Go.Proofs.Ytkabmbaghgfffaa.PWord Go.Proofs.YtkabmbaghgfffaaW.PrintWords Go.Proofs.YtkabmbaghgfffaaW.PrintLast
open Go.Proofs.Ytkabmbaghgfffaa.Math Go.Proofs.Ytkabmbaghgfffaa.Core

theorem WordRoundTrip : hallmootlaw01_WordRoundTrip.Pure := by
  intro v t k hv ht hk
  obtain ⟨v0, v1⟩ := u32_of_wf hv
  obtain ⟨t0, t1⟩ := u32_of_wf ht
  obtain ⟨k0, k1⟩ := u8_of_wf hk
  refine ⟨100, ?_⟩
  have km : Int.tmod k 4 = k % 4 := Int.tmod_eq_emod_of_nonneg k0
  have e1 : wrap64 v = v := wrap_in ⟨by omega, by omega⟩
  have e2 : wrap64 t = t := wrap_in ⟨by omega, by omega⟩
  have e3 : wrap64 (k % 4) = k % 4 := wrap_in ⟨by omega, by omega⟩
  have e4 : wrap64 (v * 2) = v * 2 := wrap_in ⟨by omega, by omega⟩
  have e5 : wrap64 (t * 2) = t * 2 := wrap_in ⟨by omega, by omega⟩
  have e6 : wrap64 (v * 4) = v * 4 := wrap_in ⟨by omega, by omega⟩
  have h1 : bits .or .i64 (t * 2) 1 = t * 2 + 1 := by
    rw [or_low _ _ 1 (by rw [Int.pow_one]; omega) (by decide) (by decide), wrap_in ⟨by omega, by omega⟩]
  have h2 : bits .or .i64 (v * 4) (k % 4 % 4) = v * 4 + k % 4 := by
    rw [or_low _ _ 2 (by rw [show (2 : Int) ^ 2 = 4 from rfl]; omega) (by omega) (by rw [show (2 : Int) ^ 2 = 4 from rfl]; omega), wrap_in ⟨by omega, by omega⟩]; omega
  unfold hallmootlaw01_WordRoundTrip.f word_Free.f word_Held.f word_Locked.f word_Ver.f word_Who.f word_Status.f word_Try.f word_Kind.f
  rw [sanity_ok]
  simp only [Option.bind_some, km, e1, e2, e3, e4, e5, e6, and_one, and_three, h1, h2]
  rw [if_pos trivial, if_neg (by simp), if_pos (by omega), if_pos (by first | omega | (simp; done) | (simp; omega)), if_pos (by omega), if_neg (by omega), if_pos (by omega)]
  simp
end Go.Proofs.Ytkabmbaghgfffaa.Pure
