/- For every mask below 2^62, word.Bits gives exactly the contained threads in ascending order, and adding them to the empty mask gives the mask back. No condition. -/
import Derived.Test.YtkabmbaghgfffaaBits
import Derived.Test.YtkabmbaghgfffaaCore
namespace Go.Proofs.Ytkabmbaghgfffaa.Pure
open Go.RowKit Go.Proofs.Ytkabmbaghgfffaa.PWord Go.Proofs.YtkabmbaghgfffaaW.PrintWords Go.Proofs.YtkabmbaghgfffaaW.PrintLast
open Go.Proofs.Ytkabmbaghgfffaa.Math Go.Proofs.Ytkabmbaghgfffaa.Core

def join (l : List Int) : BitVec 64 := l.foldl (fun b t => b ||| V t) 0#64
theorem join_snoc (l : List Int) (t : Int) : join (l ++ [t]) = join l ||| V t := by
  unfold join; rw [List.foldl_append]; rfl
theorem join_bit (l : List Int) (h : ∀ t ∈ l, 0 ≤ t ∧ t < 62) (j : Nat) : (join l).getLsbD j = decide ((j : Int) ∈ l) := by
  unfold join
  have gen : ∀ (l : List Int) (b : BitVec 64), (∀ t ∈ l, 0 ≤ t ∧ t < 62) → (l.foldl (fun b t => b ||| V t) b).getLsbD j = (b.getLsbD j || decide ((j : Int) ∈ l)) := by
    intro l
    induction l with
    | nil => intro b _; simp
    | cons t l ih =>
      intro b hb
      have ht := hb t List.mem_cons_self
      rw [List.foldl_cons, ih _ (fun x hx => hb x (List.mem_cons_of_mem _ hx)), BitVec.getLsbD_or]
      have hv : (V t).getLsbD j = decide ((j : Int) = t) := by
        unfold V
        rw [if_pos ht, BitVec.getLsbD_twoPow, decide_eq_true (show t.toNat < 64 by omega), Bool.true_and, decide_eq_decide]
        omega
      rw [hv, Bool.or_assoc]
      congr 1
      rw [← Bool.decide_or, decide_eq_decide, List.mem_cons]
  have := gen l 0#64 h
  simpa using this
theorem bl_mem (m t : Int) : t ∈ bl m 0 62 ↔ 0 ≤ t ∧ t < 62 ∧ has m t = true := by
  unfold bl
  rw [List.mem_map]
  constructor
  · rintro ⟨i, hi, rfl⟩
    rw [List.mem_filter, List.mem_range'_1] at hi
    exact ⟨by omega, by omega, hi.2⟩
  · rintro ⟨h0, h1, h2⟩
    refine ⟨t.toNat, ?_, by omega⟩
    rw [List.mem_filter, List.mem_range'_1]
    refine ⟨by omega, ?_⟩
    rw [show ((t.toNat : Nat) : Int) = t by omega]; exact h2
theorem bl_sorted (m : Int) : (bl m 0 62).Pairwise (· < ·) := by
  unfold bl
  rw [List.pairwise_map]
  exact ((List.pairwise_lt_range' (s := 0) (n := 62)).filter _).imp (fun h => by omega)
theorem rd_get (l : List Int) (i : Nat) (h : i < l.length) : rd l (i : Int) = l[i] := by
  unfold rd
  rw [Int.toNat_natCast]
  simp [List.getD, h]

theorem bits_row (a0 : Int) (w : World) (w0 : (Lit.int .u64 a0).wf = true) :
    Calls Try.prog 9 #[.int .u64 a0] w fun e w' => e = .returned (.bool true) ∧ Below w.heap.size w w' := by
  obtain ⟨h0, h1⟩ := u64_of_wf w0
  have em : wrap64 (Int.tmod a0 4611686018427387904) = a0 % 4611686018427387904 := by
    rw [Int.tmod_eq_emod_of_nonneg h0]; exact wrap_in ⟨by omega, by omega⟩
  have m0 : 0 ≤ wrap64 (Int.tmod a0 4611686018427387904) := by rw [em]; omega
  have m1 : wrap64 (Int.tmod a0 4611686018427387904) < 4611686018427387904 := by rw [em]; omega
  have hl := bl_length (wrap64 (Int.tmod a0 4611686018427387904)) 0 62
  have A3 : word_Bits.f 100 (wrap64 (Int.tmod a0 4611686018427387904)) = some (bl (wrap64 (Int.tmod a0 4611686018427387904)) 0 62) := by
    have := bits_loop (wrap64 (Int.tmod a0 4611686018427387904)) 62 100 0 [] (by decide) (by decide) (by decide)
    unfold word_Bits.f
    rw [List.nil_append] at this
    exact this
  refine bits_walk 100 a0 w (bl (wrap64 (Int.tmod a0 4611686018427387904)) 0 62) (fun n => (join ((bl (wrap64 (Int.tmod a0 4611686018427387904)) 0 62).take n.toNat)).toInt) true ⟨rfl⟩ hl ⟨sanity_ok⟩ ⟨A3⟩ ⟨?_, ?_, ?_⟩
  · show (join (List.take (Int.toNat 0) _)).toInt = 0
    rw [Int.toNat_zero, List.take_zero]; decide
  · generalize wrap64 (Int.tmod a0 4611686018427387904) = m at *
    show (join (List.take (Int.toNat ((bl m 0 62).length : Int)) (bl m 0 62))).toInt = m
    rw [Int.toNat_natCast, List.take_length]
    have hm : W64 m := ⟨by omega, by omega⟩
    conv => rhs; rw [← B_in hm]
    congr 1
    apply BitVec.eq_of_getLsbD_eq
    intro j hj
    rw [join_bit _ (fun t ht => by have := (bl_mem m t).1 ht; exact ⟨this.1, this.2.1⟩)]
    by_cases h62 : j < 62
    · have e : (B m).getLsbD j = has m j := by
        unfold has
        rw [Int.toNat_natCast, decide_eq_true ⟨by omega, by omega⟩, Bool.true_and]
      rw [e, Bool.eq_iff_iff, decide_eq_true_iff, bl_mem]
      constructor
      · exact fun h => h.2.2
      · exact fun h => ⟨by omega, by omega, h⟩
    · rw [B_bit m j hj, decide_eq_decide, bl_mem]
      have : m / 2 ^ j = 0 := by
        apply Int.ediv_eq_zero_of_lt m0
        have : (2 : Nat) ^ 62 ≤ 2 ^ j := Nat.pow_le_pow_right (by decide) (by omega)
        have e : ((2 : Int) ^ j) = ((2 ^ j : Nat) : Int) := by simp
        rw [e]
        generalize 2 ^ j = z at *
        omega
      rw [this]
      constructor
      · intro h; omega
      · intro h; simp at h
  · generalize wrap64 (Int.tmod a0 4611686018427387904) = m at *
    intro n hn0 hn1
    obtain ⟨i, rfl⟩ := Int.eq_ofNat_of_zero_le hn0
    have hi : i < (bl m 0 62).length := by omega
    have hmem := (bl_mem m _).1 (List.getElem_mem hi)
    rw [rd_get _ _ hi]
    refine ⟨?_, ?_, ?_⟩
    · rw [in_eq, hmem.2.2]
    · rw [with_f]
      show some _ = some (join (List.take (((i : Int) + 1).toNat) (bl m 0 62))).toInt
      rw [Int.toNat_natCast, B_toInt, ← join_snoc, show ((i : Int) + 1).toNat = i + 1 by omega, List.take_succ_eq_append_getElem hi]
    · intro hp
      rw [show (i : Int) - 1 = ((i - 1 : Nat) : Int) by omega, rd_get _ _ (by omega)]
      exact List.pairwise_iff_getElem.1 (bl_sorted m) _ _ _ _ (by omega)
end Go.Proofs.Ytkabmbaghgfffaa.Pure
