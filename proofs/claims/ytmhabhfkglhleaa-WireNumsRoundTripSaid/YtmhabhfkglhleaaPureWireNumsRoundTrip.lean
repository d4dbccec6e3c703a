/- The encoding of every list of integers is that of the specification; it can be decoded whatever follows it, and cannot be decoded without its last byte (P3.3, P3.5). No condition. -/
import Derived.Test.YtmhabhfkglhleaaPLNm
import Derived.Test.YtmhabhfkglhleaaArg
import Derived.Test.YtmhabhfkglhleaaCore4
namespace Go.Proofs.Ytmhabhfkglhleaa.Pure
open Go.RowKit Go.Proofs.Ytmhabhfkglhleaa.PWire Go.Proofs.YtmhabhfkglhleaaW.PrintWords Go.Proofs.YtmhabhfkglhleaaW.PrintLast
open Go.Proofs.Ytmhabhfkglhleaa.Math Go.Proofs.Ytmhabhfkglhleaa.Core

theorem numsL_cut {l : List Int} : ∀ (pre out : List Int) (j : Nat), Ws l → j < (flat l).length → numsL (pre ++ (flat l).take j) l.length pre.length out = none := by
  induction l with
  | nil => intro pre out j _ h; simp [flat] at h
  | cons x l ih =>
    intro pre out j hw h
    have hx := hw x List.mem_cons_self
    have e : flat (x :: l) = put x ++ flat l := rfl
    simp only [List.length_cons, numsL]
    rw [List.drop_left]
    by_cases hj : j < (put x).length
    · have hs := get_short (n := x) (r := flat l) hj ((put_bytes x).app (flat_bytes l))
      rw [← e] at hs
      rw [hs, if_neg (by decide)]
    · have e2 : (flat (x :: l)).take j = put x ++ (flat l).take (j - (put x).length) := by
        rw [e, List.take_append, List.take_of_length_le (by omega)]
      rw [e2, get_put hx, if_pos rfl]
      show numsL (pre ++ (put x ++ (flat l).take (j - (put x).length))) l.length (pre.length + ((put x).length : Int).toNat) (out ++ [x]) = none
      have := ih (pre ++ put x) (out ++ [x]) (j - (put x).length) (fun y hy => hw y (List.mem_cons_of_mem _ hy)) (by rw [e, List.length_append] at h; omega)
      rw [List.length_append] at this
      rw [Int.toNat_natCast, ← List.append_assoc]
      exact this
theorem numsS_cut {l : List Int} (hw : Ws l) (hl : l.length ≤ 100000) {q : Nat} (hq : q < (encNums l).length) : numsS ((encNums l).take q) = ([], 0, 3) := by
  have hn : W64 (l.length : Int) := ⟨by omega, by omega⟩
  have hb := encNums_bytes l
  rw [numsS_fin (hb.taken q)]
  by_cases hc : q < (put l.length).length
  · have := get_short (n := (l.length : Int)) (r := flat l) hc hb
    unfold encNums
    rw [this, if_neg (fun hh => absurd hh.1 (by decide))]
  · have e : (encNums l).take q = put l.length ++ (flat l).take (q - (put l.length).length) := by
      unfold encNums
      rw [List.take_append, List.take_of_length_le (by omega)]
    rw [e, get_put hn]
    simp only
    rw [if_pos ⟨trivial, by omega⟩, Int.toNat_natCast, Int.toNat_natCast, numsL_cut _ _ _ hw (by unfold encNums at hq; rw [List.length_append] at hq; omega)]
    rfl
theorem nm_row (a0 : Option Addr) (len0 cap0 : Nat) (z0 : List Int) (a1 : Option Addr) (len1 cap1 : Nat) (z1 : List Int) (w : World)
    (w0 : (a0 = none ∧ len0 = 0 ∧ cap0 = 0 ∧ z0 = []) ∨ ∃ x, a0 = some x ∧ len0 ≤ cap0 ∧ cap0 ≤ maxLen ∧ z0.length = cap0 ∧ (∀ i, i < z0.length → w.cell? (x.add i) = some (.int .i64 (z0.getD i 0))) ∧ ∀ n ∈ z0, (Lit.int .i64 n).wf = true)
    (y0 : len0 * 8 ≤ 140737488351232)
    (w1 : (a1 = none ∧ len1 = 0 ∧ cap1 = 0 ∧ z1 = []) ∨ ∃ x, a1 = some x ∧ len1 ≤ cap1 ∧ cap1 ≤ maxLen ∧ z1.length = cap1 ∧ (∀ i, i < z1.length → w.cell? (x.add i) = some (.int .u8 (z1.getD i 0))) ∧ ∀ n ∈ z1, (Lit.int .u8 n).wf = true)
    (y1 : len1 * 1 ≤ 140737488351232) :
    Calls Try.prog 10 #[.slice a0 len0 cap0, .slice a1 len1 cap1] w fun e w' => e = .returned (.bool true) ∧ Below w.heap.size w w' := by
  obtain ⟨l, hR, hb, hnil⟩ := arg_bytes w1
  obtain ⟨s, hs, hcs, hC, hws⟩ := arg_ints w0
  have hlen := hR.len
  by_cases h : 300 < len0 ∨ 1000 < len1
  · refine nm_long a0 len0 cap0 a1 len1 cap1 w (by omega) (by omega) _ _ rfl rfl ?_
    rcases h with h | h
    · exact .inl (decide_eq_true h)
    · exact .inr (decide_eq_true h)
  · have t1 := nums_eq hws (by omega) (k := 5000) (by omega)
    have t2 := rencNums_eq hws (by omega) (k := 5000) (by omega)
    have e1 := encNums_len hws (by omega)
    have bs := encNums_bytes s
    have t3 := numsS_enc hws (by omega) l hb
    have t4 := numsS_cut hws (by omega) (q := (encNums s).length - 1)
    have e2 : 1 ≤ (encNums s).length := by
      have := put_pos (s.length : Int)
      unfold encNums; rw [List.length_append]; omega
    have t5 := same_eq (encNums s) (encNums s) (by omega) (k := 5000) (by omega)
    have t6 := ints_eq s s (by omega) (k := 5000) (by omega)
    rw [decide_eq_true rfl] at t5 t6
    generalize encNums s = p at *
    refine nm_walk 5000 s p l a0 len0 cap0 a1 len1 cap1 (p.length - 1) w ⟨⟨hs, hcs, hC⟩⟩ (by omega) ⟨t1⟩ ⟨t2⟩ (by omega) (by omega) ⟨by omega⟩ ⟨hR⟩ (by omega) ⟨hnil⟩ ⟨?_⟩ ⟨?_⟩ ⟨t5⟩ ⟨t6⟩
    · unfold wire_GetNums.f
      rw [if_pos (okBytes_iff.2 ⟨bs.app hb, by rw [List.length_append]; omega⟩), t3]
    · unfold wire_GetNums.f
      rw [if_pos (okBytes_iff.2 ⟨bs.taken _, by rw [List.length_take]; omega⟩), t4 (by omega)]
end Go.Proofs.Ytmhabhfkglhleaa.Pure
