/- What Seal made is opened again whatever follows it, and no proper head of it is (P3.4, P3.5). No condition. -/
import Derived.Test.YtmhabhfkglhleaaPLSr
import Derived.Test.YtmhabhfkglhleaaArg
import Derived.Test.YtmhabhfkglhleaaCore7
namespace Go.Proofs.Ytmhabhfkglhleaa.Pure
open Go.RowKit Go.Proofs.Ytmhabhfkglhleaa.PWire Go.Proofs.YtmhabhfkglhleaaW.PrintWords Go.Proofs.YtmhabhfkglhleaaW.PrintLast
open Go.Proofs.Ytmhabhfkglhleaa.Math Go.Proofs.Ytmhabhfkglhleaa.Core

theorem sr_row (a0 : Option Addr) (len0 cap0 : Nat) (z0 : List Int) (a1 : Option Addr) (len1 cap1 : Nat) (z1 : List Int) (w : World)
    (w0 : (a0 = none ∧ len0 = 0 ∧ cap0 = 0 ∧ z0 = []) ∨ ∃ x, a0 = some x ∧ len0 ≤ cap0 ∧ cap0 ≤ maxLen ∧ z0.length = cap0 ∧ (∀ i, i < z0.length → w.cell? (x.add i) = some (.int .u8 (z0.getD i 0))) ∧ ∀ n ∈ z0, (Lit.int .u8 n).wf = true)
    (y0 : len0 * 1 ≤ 140737488351232)
    (w1 : (a1 = none ∧ len1 = 0 ∧ cap1 = 0 ∧ z1 = []) ∨ ∃ x, a1 = some x ∧ len1 ≤ cap1 ∧ cap1 ≤ maxLen ∧ z1.length = cap1 ∧ (∀ i, i < z1.length → w.cell? (x.add i) = some (.int .u8 (z1.getD i 0))) ∧ ∀ n ∈ z1, (Lit.int .u8 n).wf = true)
    (y1 : len1 * 1 ≤ 140737488351232) :
    Calls Try.prog 3 #[.slice a0 len0 cap0, .slice a1 len1 cap1] w fun e w' => e = .returned (.bool true) ∧ Below w.heap.size w w' := by
  obtain ⟨l, hR, hb, _⟩ := arg_bytes w0
  obtain ⟨r, hR1, hb1, hnil⟩ := arg_bytes w1
  have hlen := hR.len
  have hlen1 := hR1.len
  by_cases h : 600 < len0 + len1
  · exact sr_long a0 len0 cap0 a1 len1 cap1 w h (by omega)
  · have hs := seal_len' (l := l) (by omega)
    have hsb := seal_bytes hb
    have t3 := seal_eq hb (by omega) (k := 200000) (by omega)
    have t6 := same_eq l l (by omega) (k := 200000) (by omega)
    have o1 := openS_sealed hb (by omega) r
    have o2 := fun j (hj : j < (sealed l).length) => openS_cut hb (by omega) hj
    rw [decide_eq_true rfl] at t6
    refine sr_walk 200000 l (sealed l) r a0 len0 cap0 a1 len1 cap1 w ⟨hR⟩ ⟨hR1⟩ (by omega) ⟨hnil⟩ ⟨t3⟩ (by omega) (by omega) ⟨fun w A c hr => ?_⟩ ⟨fun w A c j hj hr => ?_⟩ ⟨t6⟩
    · refine (open_calls A _ c _ w hr (hsb.app hb1) (by omega)).mono ?_
      rw [o1]
      rintro e w' ⟨A', c', rfl, hr', hB⟩
      exact ⟨A', c', rfl, ⟨hr'⟩, ⟨hB⟩⟩
    · refine (open_calls A _ c _ w hr (hsb.taken _) (by omega)).mono ?_
      rw [o2 j hj]
      rintro e w' ⟨A', c', rfl, hr', hB⟩
      exact ⟨A', c', rfl, ⟨hB⟩⟩
end Go.Proofs.Ytmhabhfkglhleaa.Pure
