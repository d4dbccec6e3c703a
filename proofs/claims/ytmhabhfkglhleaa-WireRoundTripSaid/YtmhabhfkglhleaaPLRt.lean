/- The walk of the law WireRoundTrip, by hand. -/
import Derived.Test.YtmhabhfkglhleaaPApp
namespace Go.Proofs.Ytmhabhfkglhleaa.PWire
open Go.RowKit Go.Proofs.YtmhabhfkglhleaaW.PrintWords Go.Proofs.YtmhabhfkglhleaaW.PrintLast Go.Proofs.YtmhabhfkglhleaaW.PrintMore
attribute [local go_sem] max2_int min2_int max_two min_two max_three min_three max_four min_four
set_option linter.unusedVariables false
set_option linter.unusedSimpArgs false

set_option maxHeartbeats 2000000 in
set_option maxRecDepth 100000 in
theorem rt_walk (k : Nat) (n : Int) (p l : List Int) (A : Option Addr) (m c : Nat) (w : World) (hp : Aside0 (wire_Put.f k n = some p)) (hpos : 0 < p.length) (hlen : p.length ≤ 10)
    (HR : Aside0 (Rd w A m c l)) (hm : m ≤ 1000) (hnil : Aside0 (A = none → m = 0 ∧ c = 0)) (hg : Aside0 (wire_Get.f k (p ++ l) = some (n, (p.length : Int), 0))) :
    Calls Try.prog 7 #[.int .i64 n, .slice A m c] w fun e w' => e = .returned (.bool true) ∧ Below w.heap.size w w' := by
  have h1 : decide (1000 < (m : Int)) = false := decide_eq_false (by omega)
  have h2 : decide (1000 < m) = false := decide_eq_false (by omega)
  have h3 : decide (1 ≤ (p.length : Int)) = true := decide_eq_true (by omega)
  have h4 : decide ((p.length : Int) ≤ 10) = true := decide_eq_true (by omega)
  go_enter Try.func7, Try.ntmps7
  go_wp2_with (first | (go_at_call 20; (with_reducible refine (put_own k n p _ hp.out hpos).mono ?_); rintro e w1 ⟨g, c1, rfl, HR1, HL1_, HB1⟩; have HL1 := HL1_.out; clear HL1_) | ((with_reducible refine gate_builtin (b := .append) (xs := #[.tmp 21, .tmp 22]) rfl ?_); at_builtin; refine append_tail _ rfl (.tmp 21) (.tmp 22) rfl g p.length p ?a1 ?a2 ?a3 A m c l rfl ?a5 hnil.out ?a6 ?_; (case a1 => rfl); (case a2 => exact ⟨rfl, Nat.le_refl _, HR1.out.C⟩); (case a3 => exact hpos); (case a5 => exact HR.out.below HB1.out); (case a6 => omega); intro A2 c2 w2 HR2_ HB2_; have HR2 := Aside0.mk HR2_; have HB2 := Aside0.mk HB2_; clear HR2_ HB2_) | (go_at_call 22; (with_reducible refine (get_row k A2 _ c2 (p ++ l) n (p.length : Int) 0 _ ?s1 ?s2).mono ?_); (case s1 => exact HR2.out); (case s2 => exact hg.out); rintro e w' ⟨rfl, ⟨nd, rfl⟩⟩) | (go_at_call 14; (with_reducible refine (sanity_row _).mono ?_); rintro e w3 ⟨rfl, HB3⟩))
  go_ret
  exact ⟨by first | rfl | (simp; done) | (simp [*]; done), below_step (pw_below_drewN (below_step HB1.out HB2.out) _) HB3.out⟩
theorem rt_long (n : Int) (A : Option Addr) (m c : Nat) (w : World) (hm : 1000 < m) (hm2 : m ≤ 9223372036854775807) :
    Calls Try.prog 7 #[.int .i64 n, .slice A m c] w fun e w' => e = .returned (.bool true) ∧ Below w.heap.size w w' := by
  have h1 : decide (1000 < (m : Int)) = true := decide_eq_true (by omega)
  have h2 : decide (1000 < m) = true := decide_eq_true (by omega)
  go_enter Try.func7, Try.ntmps7
  go_wp2_with (first | (go_at_call 14; (with_reducible refine (sanity_row _).mono ?_); rintro e w3 ⟨rfl, HB3⟩))
  go_ret
  exact ⟨rfl, HB3.out⟩
end Go.Proofs.Ytmhabhfkglhleaa.PWire
