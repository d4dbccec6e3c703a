/- Sum, Seal and Open answer as the specification does, on every slice of bytes (P3.4). No condition. -/
import Derived.Test.YtmhabhfkglhleaaPLSm
import Derived.Test.YtmhabhfkglhleaaArg
import Derived.Test.YtmhabhfkglhleaaCore6
namespace Go.Proofs.Ytmhabhfkglhleaa.Pure
open Go.RowKit Go.Proofs.Ytmhabhfkglhleaa.PWire Go.Proofs.YtmhabhfkglhleaaW.PrintWords Go.Proofs.YtmhabhfkglhleaaW.PrintLast
open Go.Proofs.Ytmhabhfkglhleaa.Math Go.Proofs.Ytmhabhfkglhleaa.Core

theorem sm_row (a0 : Option Addr) (len0 cap0 : Nat) (z0 : List Int) (w : World)
    (w0 : (a0 = none ∧ len0 = 0 ∧ cap0 = 0 ∧ z0 = []) ∨ ∃ x, a0 = some x ∧ len0 ≤ cap0 ∧ cap0 ≤ maxLen ∧ z0.length = cap0 ∧ (∀ i, i < z0.length → w.cell? (x.add i) = some (.int .u8 (z0.getD i 0))) ∧ ∀ n ∈ z0, (Lit.int .u8 n).wf = true)
    (y0 : len0 * 1 ≤ 140737488351232) :
    Calls Try.prog 13 #[.slice a0 len0 cap0] w fun e w' => e = .returned (.bool true) ∧ Below w.heap.size w w' := by
  obtain ⟨l, hR, hb, hnil⟩ := arg_bytes w0
  have hlen := hR.len
  by_cases h : 1000 < len0
  · exact sm_long a0 len0 cap0 w h (by omega)
  · have hs := seal_len' (l := l) (by omega)
    have hob := openS_bytes hb
    have t1 := sum_eq hb (by omega) (k := 200000) (by omega)
    have t2 := rsum_eq hb (by omega) (k := 200000) (by omega)
    have t3 := seal_eq hb (by omega) (k := 200000) (by omega)
    have t4 := rseal_eq hb (by omega) (k := 200000) (by omega)
    have t5 := same_eq (sealed l) (sealed l) (by omega) (k := 200000) (by omega)
    have t6 := same_eq (openS l).1 (openS l).1 (by omega) (k := 200000) (by omega)
    rw [decide_eq_true rfl] at t5 t6
    refine sm_walk 200000 l (sealed l) (openS l).1 (openS l).2.1 (openS l).2.2 (Core.sum l) a0 len0 cap0 w ⟨hR⟩ (by omega) ⟨fun w hr => ?_⟩ ⟨fun w hr => ?_⟩ ⟨t1⟩ ⟨t2⟩ ⟨t3⟩ ⟨t4⟩ ⟨t5⟩ ⟨t6⟩
    · refine (open_calls a0 len0 cap0 l w hr hb (by omega)).mono ?_
      rintro e w' ⟨A', c', rfl, hr', hB⟩
      exact ⟨A', c', rfl, ⟨hr'⟩, ⟨hB⟩⟩
    · refine (ropen_calls a0 len0 cap0 l w hr hb (by omega)).mono ?_
      rintro e w' ⟨A', c', rfl, hr', hB⟩
      exact ⟨A', c', rfl, ⟨hr'⟩, ⟨hB⟩⟩
end Go.Proofs.Ytmhabhfkglhleaa.Pure
