/- The encoding of every string is that of the specification; it can be decoded whatever follows it, and cannot be decoded without its last byte (P3.2, P3.5). No condition. -/
import Derived.Test.YtmhabhfkglhleaaPLTx
import Derived.Test.YtmhabhfkglhleaaArg
import Derived.Test.YtmhabhfkglhleaaCore4
namespace Go.Proofs.Ytmhabhfkglhleaa.Pure
open Go.RowKit Go.Proofs.Ytmhabhfkglhleaa.PWire Go.Proofs.YtmhabhfkglhleaaW.PrintWords Go.Proofs.YtmhabhfkglhleaaW.PrintLast
open Go.Proofs.Ytmhabhfkglhleaa.Math Go.Proofs.Ytmhabhfkglhleaa.Core

theorem tx_row (s : ByteArray) (a1 : Option Addr) (len1 cap1 : Nat) (z1 : List Int) (w : World) (w0 : s.size ≤ 140737488351232)
    (w1 : (a1 = none ∧ len1 = 0 ∧ cap1 = 0 ∧ z1 = []) ∨ ∃ x, a1 = some x ∧ len1 ≤ cap1 ∧ cap1 ≤ maxLen ∧ z1.length = cap1 ∧ (∀ i, i < z1.length → w.cell? (x.add i) = some (.int .u8 (z1.getD i 0))) ∧ ∀ n ∈ z1, (Lit.int .u8 n).wf = true)
    (y1 : len1 * 1 ≤ 140737488351232) :
    Calls Try.prog 9 #[.string s, .slice a1 len1 cap1] w fun e w' => e = .returned (.bool true) ∧ Below w.heap.size w w' := by
  obtain ⟨l, hR, hb, hnil⟩ := arg_bytes w1
  have hlen := hR.len
  by_cases h : 1000 < s.size ∨ 1000 < len1
  · refine tx_long s a1 len1 cap1 w (by omega) (by omega) _ _ rfl rfl ?_
    rcases h with h | h
    · exact .inl (decide_eq_true h)
    · exact .inr (decide_eq_true h)
  · obtain ⟨e1, e2, e3⟩ := text_len (s := s) (by omega)
    have t1 := text_eq (s := s) (by omega) (k := 3000) (by omega)
    have t2 := rtext_eq (s := s) (by omega) (k := 3000) (by omega)
    have t3 := gtext_eq ((text_bytes s).app hb) (by rw [List.length_append]; omega) (k := 3000) (by omega)
    rw [gtext_text (by omega)] at t3
    have t4 := gtext_eq ((text_bytes s).taken ((text s).length - 1)) (by rw [List.length_take]; omega) (k := 3000) (by omega)
    rw [gtext_cut (by omega) (by omega)] at t4
    have t5 := same_eq (text s) (text s) (by omega) (k := 3000) (by omega)
    rw [decide_eq_true rfl] at t5
    have hl : 0 < (text s).length ∧ (text s).length ≤ 2000 := by omega
    generalize text s = p at *
    exact tx_walk 3000 s p l a1 len1 cap1 (p.length - 1) w (by omega) ⟨t1⟩ ⟨t2⟩ hl.1 hl.2 ⟨by omega⟩ ⟨hR⟩ (by omega) ⟨hnil⟩ ⟨t3⟩ ⟨t4⟩ ⟨t5⟩
end Go.Proofs.Ytmhabhfkglhleaa.Pure
