/- A byte put in another's place and two neighbours exchanged change the checksum; a seal with a byte replaced is not opened (P3.5). No condition. -/
import Derived.Test.YtmhabhfkglhleaaPLSd1
import Derived.Test.YtmhabhfkglhleaaArg
import Derived.Test.YtmhabhfkglhleaaCore8
namespace Go.Proofs.Ytmhabhfkglhleaa.Pure
open Go.RowKit Go.Proofs.Ytmhabhfkglhleaa.PWire Go.Proofs.YtmhabhfkglhleaaW.PrintWords Go.Proofs.YtmhabhfkglhleaaW.PrintLast
open Go.Proofs.Ytmhabhfkglhleaa.Math Go.Proofs.Ytmhabhfkglhleaa.Core

theorem sd_row (a0 : Option Addr) (len0 cap0 : Nat) (z0 : List Int) (a1 a2 : Int) (a3 : Option Addr) (len3 cap3 : Nat) (z3 : List Int) (w : World)
    (w0 : (a0 = none ∧ len0 = 0 ∧ cap0 = 0 ∧ z0 = []) ∨ ∃ x, a0 = some x ∧ len0 ≤ cap0 ∧ cap0 ≤ maxLen ∧ z0.length = cap0 ∧ (∀ i, i < z0.length → w.cell? (x.add i) = some (.int .u8 (z0.getD i 0))) ∧ ∀ n ∈ z0, (Lit.int .u8 n).wf = true)
    (y0 : len0 * 1 ≤ 140737488351232) (w1 : (Lit.int .u8 a1).wf = true) (w2 : (Lit.int .u8 a2).wf = true)
    (w3 : (a3 = none ∧ len3 = 0 ∧ cap3 = 0 ∧ z3 = []) ∨ ∃ x, a3 = some x ∧ len3 ≤ cap3 ∧ cap3 ≤ maxLen ∧ z3.length = cap3 ∧ (∀ i, i < z3.length → w.cell? (x.add i) = some (.int .u8 (z3.getD i 0))) ∧ ∀ n ∈ z3, (Lit.int .u8 n).wf = true)
    (y3 : len3 * 1 ≤ 140737488351232) :
    Calls Try.prog 4 #[.slice a0 len0 cap0, .int .u8 a1, .int .u8 a2, .slice a3 len3 cap3] w fun e w' => e = .returned (.bool true) ∧ Below w.heap.size w w' := by
  obtain ⟨a, hR, hb, _⟩ := arg_bytes w0
  obtain ⟨b, hR1, hb1, _⟩ := arg_bytes w3
  have hlen := hR.len
  have hlen1 := hR1.len
  have hx := byte_of_wf w1
  have hy := byte_of_wf w2
  by_cases h : 600 < len0 + len3
  · exact sd_long a0 len0 cap0 a1 a2 a3 len3 cap3 w h (by omega)
  · have one : ∀ z, Byte z → Bytes [z] := fun z hz u hu => by
      have : u = z := by simpa using hu
      rw [this]; exact hz
    have two : ∀ z u, Byte z → Byte u → Bytes [z, u] := fun z u hz hu => (one z hz).app (one u hu)
    have b1 : Bytes (a ++ [a1] ++ b) := (hb.app (one _ hx)).app hb1
    have b2 : Bytes (a ++ [a2] ++ b) := (hb.app (one _ hy)).app hb1
    have b3 : Bytes (a ++ [a1, a2] ++ b) := (hb.app (two _ _ hx hy)).app hb1
    have b4 : Bytes (a ++ [a2, a1] ++ b) := (hb.app (two _ _ hy hx)).app hb1
    have l1 : (a ++ [a1] ++ b).length = len0 + 1 + len3 := by simp; omega
    have l2 : (a ++ [a2] ++ b).length = len0 + 1 + len3 := by simp; omega
    have l3 : (a ++ [a1, a2] ++ b).length = len0 + 2 + len3 := by simp; omega
    have l4 : (a ++ [a2, a1] ++ b).length = len0 + 2 + len3 := by simp; omega
    have hn : W64 ((a ++ [a1] ++ b).length : Int) := ⟨by omega, by omega⟩
    have g1 := sum_eq b1 (by omega) (k := 200000) (by omega)
    have g2 := sum_eq b2 (by omega) (k := 200000) (by omega)
    have g3 := sum_eq b3 (by omega) (k := 200000) (by omega)
    have g4 := sum_eq b4 (by omega) (k := 200000) (by omega)
    have hs := seal_len' (l := a ++ [a1] ++ b) (by omega)
    have hse := seal_eq b1 (by omega) (k := 200000) (by omega)
    have hpt := put_eq hn (k := 200000) (by omega)
    have hsb : Bytes ((sealed (a ++ [a1] ++ b)).set ((put ((a ++ [a1] ++ b).length : Int)).length + a.length) a2) := by
      rw [sealed_set, List.append_nil]
      exact ((put_bytes _).app b2).app (put_bytes _)
    have ho := openS_of b2 (by omega) (sum_w64 (a ++ [a1] ++ b)) []
    rw [← sealed_set (x := a1)] at ho
    have hc : ∀ (W : World) (A : Option Addr) (c : Nat), Rd W A (sealed (a ++ [a1] ++ b)).length c ((sealed (a ++ [a1] ++ b)).set ((put ((a ++ [a1] ++ b).length : Int)).length + a.length) a2) →
        Calls Try.prog 16 #[.slice A (sealed (a ++ [a1] ++ b)).length c] W fun e w' => ∃ A' c', e = .returned (.tuple #[.slice A' (openS ((sealed (a ++ [a1] ++ b)).set ((put ((a ++ [a1] ++ b).length : Int)).length + a.length) a2)).1.length c', .int .i64 (openS ((sealed (a ++ [a1] ++ b)).set ((put ((a ++ [a1] ++ b).length : Int)).length + a.length) a2)).2.1, .int .i64 (openS ((sealed (a ++ [a1] ++ b)).set ((put ((a ++ [a1] ++ b).length : Int)).length + a.length) a2)).2.2]) ∧ Aside0 (Below W.heap.size W w') := by
      intro W A c hr
      refine (open_calls A _ c _ W hr hsb (by omega)).mono ?_
      rintro e w' ⟨A', c', rfl, _, hB⟩
      exact ⟨A', c', rfl, ⟨hB⟩⟩
    by_cases hxy : a1 = a2
    · subst hxy
      rw [if_pos rfl] at ho
      refine sd_walk1 200000 a0 len0 cap0 a a1 a1 a3 len3 cap3 b _ _ _ _ (sealed (a ++ [a1] ++ b)) (put ((a ++ [a1] ++ b).length : Int)) _ _ _ _ _ _ _ ((put ((a ++ [a1] ++ b).length : Int)).length + a.length) w ⟨hR⟩ ⟨hR1⟩ (by omega) (by omega) ⟨rfl⟩ ⟨rfl⟩ ⟨rfl⟩ ⟨rfl⟩ ⟨g1⟩ ⟨g2⟩ ⟨g3⟩ ⟨g4⟩ ⟨hse⟩ ⟨hpt⟩ (by omega) (by omega) (by omega) ⟨hc⟩ ?_ ?_ ?_ ?_
      · rw [ho]; rfl
      · exact beq_self_eq_true _
      · exact beq_self_eq_true _
      · exact beq_self_eq_true _
    · rw [if_neg (fun hh => hxy (sum_one hx hy hh))] at ho
      refine sd_walk0 200000 a0 len0 cap0 a a1 a2 a3 len3 cap3 b _ _ _ _ (sealed (a ++ [a1] ++ b)) (put ((a ++ [a1] ++ b).length : Int)) _ _ _ _ _ _ _ ((put ((a ++ [a1] ++ b).length : Int)).length + a.length) w ⟨hR⟩ ⟨hR1⟩ (by omega) (by omega) ⟨rfl⟩ ⟨rfl⟩ ⟨rfl⟩ ⟨rfl⟩ ⟨g1⟩ ⟨g2⟩ ⟨g3⟩ ⟨g4⟩ ⟨hse⟩ ⟨hpt⟩ (by omega) (by omega) (by omega) ⟨hc⟩ ?_ ?_ ?_ ?_
      · rw [ho]; rfl
      · exact beq_eq_false_iff_ne.mpr (fun hh => hxy (sum_one hx hy hh))
      · exact beq_eq_false_iff_ne.mpr (fun hh => hxy (sum_two hx hy hh))
      · exact beq_eq_false_iff_ne.mpr hxy
end Go.Proofs.Ytmhabhfkglhleaa.Pure
