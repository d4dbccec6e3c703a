/- Decoding the encoding of an integer gives the integer and the length of the encoding, which is at most ten bytes, whatever follows it (P3.5). No condition. -/
import Derived.Test.YtmhabhfkglhleaaPLRt
import Derived.Test.YtmhabhfkglhleaaArg
import Derived.Test.YtmhabhfkglhleaaCore3
namespace Go.Proofs.Ytmhabhfkglhleaa.Pure
open Go.RowKit Go.Proofs.Ytmhabhfkglhleaa.PWire Go.Proofs.YtmhabhfkglhleaaW.PrintWords Go.Proofs.YtmhabhfkglhleaaW.PrintLast
open Go.Proofs.Ytmhabhfkglhleaa.Math Go.Proofs.Ytmhabhfkglhleaa.Core

theorem rt_row (n : Int) (a1 : Option Addr) (len1 cap1 : Nat) (z1 : List Int) (w : World) (w0 : (Lit.int .i64 n).wf = true)
    (w1 : (a1 = none ∧ len1 = 0 ∧ cap1 = 0 ∧ z1 = []) ∨ ∃ x, a1 = some x ∧ len1 ≤ cap1 ∧ cap1 ≤ maxLen ∧ z1.length = cap1 ∧ (∀ i, i < z1.length → w.cell? (x.add i) = some (.int .u8 (z1.getD i 0))) ∧ ∀ n ∈ z1, (Lit.int .u8 n).wf = true)
    (y1 : len1 * 1 ≤ 140737488351232) :
    Calls Try.prog 7 #[.int .i64 n, .slice a1 len1 cap1] w fun e w' => e = .returned (.bool true) ∧ Below w.heap.size w w' := by
  obtain ⟨l, hR, hb, hnil⟩ := arg_bytes w1
  have hlen := hR.len
  have hn := w64_of_wf w0
  by_cases h : 1000 < len1
  · exact rt_long n a1 len1 cap1 w h (by omega)
  · have h1 := put_len hn
    have h2 := put_pos n
    refine rt_walk 100 n (put n) l a1 len1 cap1 w ⟨put_eq hn (by omega)⟩ (by omega) h1 ⟨hR⟩ (by omega) ⟨hnil⟩ ⟨?_⟩
    rw [get_eq ((put_bytes n).app hb) (by rw [List.length_append]; omega) (by omega), get_put hn l]
end Go.Proofs.Ytmhabhfkglhleaa.Pure
