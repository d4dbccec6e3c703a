/- What Seal made is opened again; a cut of it is not. -/
import Derived.Test.YtmhabhfkglhleaaCore6
namespace Go.Proofs.Ytmhabhfkglhleaa.Core
open Go.RowKit Go.Proofs.Ytmhabhfkglhleaa.PWire Go.Proofs.YtmhabhfkglhleaaW.PrintWords Go.Proofs.YtmhabhfkglhleaaW.PrintLast Go.Proofs.YtmhabhfkglhleaaW.PrintMore
open Go.Proofs.Ytmhabhfkglhleaa.Math
set_option linter.unusedVariables false

theorem text_list {l : List Int} (hb : Bytes l) : text (strOfNums l) = put l.length ++ l := by
  unfold text
  rw [str_size, bytesOf_str hb]
theorem openS_of {b : List Int} {n : Int} (hb : Bytes b) (hl : b.length ≤ 100000) (hn : W64 n) (r : List Int) :
    openS (put b.length ++ b ++ (put n ++ r)) = if n = sum b then (b, (((put b.length).length + b.length + (put n).length : Nat) : Int), 0) else ([], 0, 3) := by
  have hz := str_size (l := b)
  have ht := text_list hb
  have hg := gtext_text (s := strOfNums b) (by omega) (put n ++ r)
  rw [ht] at hg
  have hd : (put (b.length : Int) ++ b ++ (put n ++ r)).drop (put (b.length : Int) ++ b).length = put n ++ r := List.drop_left
  have hp := get_put hn r
  unfold openS
  rw [hg]
  simp only
  rw [Int.toNat_natCast, hd, hp, bytesOf_str hb]
  simp only [true_and]
  by_cases h : n = sum b
  · rw [if_pos h, if_pos h, List.length_append]
    refine Prod.ext rfl (Prod.ext ?_ rfl)
    show (((put (b.length : Int)).length + b.length : Nat) : Int) + ((put n).length : Int) = (((put (b.length : Int)).length + b.length + (put n).length : Nat) : Int)
    omega
  · rw [if_neg h, if_neg h]
theorem openS_sealed {b : List Int} (hb : Bytes b) (hl : b.length ≤ 100000) (r : List Int) : openS (sealed b ++ r) = (b, ((sealed b).length : Int), 0) := by
  have := openS_of hb hl (sum_w64 b) r
  rw [if_pos rfl] at this
  have e : sealed b ++ r = put b.length ++ b ++ (put (sum b) ++ r) := by unfold sealed; rw [List.append_assoc]
  rw [e, this]
  refine Prod.ext rfl (Prod.ext ?_ rfl)
  unfold sealed
  rw [List.length_append, List.length_append]
theorem openS_cut {b : List Int} (hb : Bytes b) (hl : b.length ≤ 100000) {j : Nat} (hj : j < (sealed b).length) : openS ((sealed b).take j) = ([], 0, 3) := by
  have hz := str_size (l := b)
  have ht := text_list hb
  have hsl := seal_len' hl
  have hs : sealed b = text (strOfNums b) ++ put (sum b) := by rw [ht]; rfl
  have htl : (text (strOfNums b)).length = (put (b.length : Int)).length + b.length := by rw [ht, List.length_append]
  by_cases hc : j < (text (strOfNums b)).length
  · have hg := gtext_cut (s := strOfNums b) (by omega) hc
    rw [hs, List.take_append_of_le_length (by omega)]
    unfold openS
    rw [hg, if_neg (fun hh => absurd hh.1 (by decide))]
  · have e : (sealed b).take j = text (strOfNums b) ++ (put (sum b)).take (j - (text (strOfNums b)).length) := by
      rw [hs, List.take_append, List.take_of_length_le (by omega)]
    have hg := gtext_text (s := strOfNums b) (by omega) ((put (sum b)).take (j - (text (strOfNums b)).length))
    have hsh := get_short (n := sum b) (r := []) (k := j - (text (strOfNums b)).length) (by omega) (by rw [List.append_nil]; exact put_bytes _)
    rw [List.append_nil] at hsh
    unfold openS
    rw [e, hg]
    simp only
    rw [Int.toNat_natCast, List.drop_left, hsh, if_neg (fun hh => absurd hh.2.1 (by decide))]
end Go.Proofs.Ytmhabhfkglhleaa.Core
