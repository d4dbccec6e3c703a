/- Two integers have the same encoding if and only if they are equal; of two of the same sign the one with the greater absolute value does not have the shorter encoding (P3.1, P3.5). No condition. -/
import Derived.Test.YtmhabhfkglhleaaPLInj
import Derived.Test.YtmhabhfkglhleaaCore3
namespace Go.Proofs.Ytmhabhfkglhleaa.Pure
open Go.RowKit Go.Proofs.Ytmhabhfkglhleaa.PWire Go.Proofs.YtmhabhfkglhleaaW.PrintWords Go.Proofs.YtmhabhfkglhleaaW.PrintLast
open Go.Proofs.Ytmhabhfkglhleaa.Math Go.Proofs.Ytmhabhfkglhleaa.Core

theorem inj_row (m n : Int) (w : World) (wm : (Lit.int .i64 m).wf = true) (wn : (Lit.int .i64 n).wf = true) :
    Calls Try.prog 11 #[.int .i64 m, .int .i64 n] w fun e w' => e = .returned (.bool true) ∧ Below w.heap.size w w' := by
  have hm := w64_of_wf wm
  have hn := w64_of_wf wn
  have h1 := put_eq hm (k := 100) (by omega)
  have h2 := put_eq hn (k := 100) (by omega)
  have l1 := put_len hm
  have l2 := put_len hn
  have hs := same_eq (put m) (put n) (by omega) (k := 100) (by omega)
  have he : (m == n) = decide (put m = put n) := by
    rw [Bool.eq_iff_iff, beq_iff_eq, decide_eq_true_iff]
    exact ⟨fun h => by rw [h], put_inj⟩
  have mono : zig m ≤ zig n → (put m).length ≤ (put n).length := fun h => enc_mono _ _ h
  by_cases a : 0 ≤ m
  · by_cases b : 0 ≤ n
    · by_cases c : m ≤ n
      · refine inj_b 100 m n _ _ _ w ⟨h1⟩ ⟨h2⟩ ⟨hs⟩ (by omega) (by omega) he (decide_eq_true a) (decide_eq_true b) (decide_eq_true c) (decide_eq_false ?_)
        have := mono (by unfold zig; rw [if_pos a, if_pos b]; omega)
        omega
      · exact inj_c 100 m n _ _ _ w ⟨h1⟩ ⟨h2⟩ ⟨hs⟩ (by omega) (by omega) he (decide_eq_true a) (decide_eq_true b) (decide_eq_false c) (decide_eq_false (by omega))
    · exact inj_a 100 m n _ _ _ w ⟨h1⟩ ⟨h2⟩ ⟨hs⟩ (by omega) (by omega) he (decide_eq_true a) (decide_eq_false b)
  · by_cases b : 0 ≤ n
    · exact inj_f 100 m n _ _ _ w ⟨h1⟩ ⟨h2⟩ ⟨hs⟩ (by omega) (by omega) he (decide_eq_false a) (decide_eq_true b)
    · by_cases c : n ≤ m
      · refine inj_d 100 m n _ _ _ w ⟨h1⟩ ⟨h2⟩ ⟨hs⟩ (by omega) (by omega) he (decide_eq_false a) (decide_eq_false b) (decide_eq_true (by omega)) (decide_eq_true c) (decide_eq_false ?_)
        have := mono (by unfold zig; rw [if_neg a, if_neg b]; omega)
        omega
      · exact inj_e 100 m n _ _ _ w ⟨h1⟩ ⟨h2⟩ ⟨hs⟩ (by omega) (by omega) he (decide_eq_false a) (decide_eq_false b) (decide_eq_true (by omega)) (decide_eq_false c)
end Go.Proofs.Ytmhabhfkglhleaa.Pure
