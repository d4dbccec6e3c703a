/- The walk of the law WireInjective, by hand: the tests' outcomes are laid ahead. -/
import Derived.Test.YtmhabhfkglhleaaPHand
namespace Go.Proofs.Ytmhabhfkglhleaa.PWire
open Go.RowKit Go.Proofs.YtmhabhfkglhleaaW.PrintWords Go.Proofs.YtmhabhfkglhleaaW.PrintLast Go.Proofs.YtmhabhfkglhleaaW.PrintMore
attribute [local go_sem] max2_int min2_int max_two min_two max_three min_three max_four min_four
set_option linter.unusedVariables false
set_option linter.unusedSimpArgs false
set_option maxHeartbeats 2000000 in
set_option maxRecDepth 100000 in
theorem inj_a (k : Nat) (m n : Int) (p q : List Int) (r : Bool) (w : World) (hp : Aside0 (wire_Put.f k m = some p)) (hq : Aside0 (wire_Put.f k n = some q)) (hr : Aside0 (hallmootref03_Same.f k p q = some r))
    (hlp : p.length ≤ 100) (hlq : q.length ≤ 100) (he : (m == n) = r) (h1 : decide (0 ≤ m) = true) (h2 : decide (0 ≤ n) = false) :
    Calls Try.prog 11 #[.int .i64 m, .int .i64 n] w fun e w' => e = .returned (.bool true) ∧ Below w.heap.size w w' := by
  go_enter Try.func11, Try.ntmps11
  go_wp2_with (first | (go_at_call 20; (with_reducible refine (put_row k m p _ hp.out).mono ?_); rintro e w1 ⟨A1, c1, rfl, HR1, HO1, HB1⟩) | (go_at_call 20; (with_reducible refine (put_row k n q _ hq.out).mono ?_); rintro e w2 ⟨A2, c2, rfl, HR2, HO2, HB2⟩) | (go_at_call 14; (with_reducible refine (sanity_row _).mono ?_); rintro e w3 ⟨rfl, HB3⟩) | (go_at_call 17; (with_reducible refine (same_row k A1 p.length c1 A2 q.length c2 p q r _ ?s1 ?s2 hr.out).mono ?_); (case s1 => exact (HR1.out.below HB2.out).below HB3.out); (case s2 => exact HR2.out.below HB3.out); rintro e w' ⟨rfl, ⟨nd, rfl⟩⟩))
  go_ret
  exact ⟨by first | rfl | (simp; done) | (simp [*]; done), by repeat (first | exact below_step (below_step HB1.out HB2.out) HB3.out | apply pw_below_drewN | apply below_drew1)⟩
set_option maxHeartbeats 2000000 in
set_option maxRecDepth 100000 in
theorem inj_f (k : Nat) (m n : Int) (p q : List Int) (r : Bool) (w : World) (hp : Aside0 (wire_Put.f k m = some p)) (hq : Aside0 (wire_Put.f k n = some q)) (hr : Aside0 (hallmootref03_Same.f k p q = some r))
    (hlp : p.length ≤ 100) (hlq : q.length ≤ 100) (he : (m == n) = r) (h1 : decide (0 ≤ m) = false) (h2 : decide (0 ≤ n) = true) :
    Calls Try.prog 11 #[.int .i64 m, .int .i64 n] w fun e w' => e = .returned (.bool true) ∧ Below w.heap.size w w' := by
  go_enter Try.func11, Try.ntmps11
  go_wp2_with (first | (go_at_call 20; (with_reducible refine (put_row k m p _ hp.out).mono ?_); rintro e w1 ⟨A1, c1, rfl, HR1, HO1, HB1⟩) | (go_at_call 20; (with_reducible refine (put_row k n q _ hq.out).mono ?_); rintro e w2 ⟨A2, c2, rfl, HR2, HO2, HB2⟩) | (go_at_call 14; (with_reducible refine (sanity_row _).mono ?_); rintro e w3 ⟨rfl, HB3⟩) | (go_at_call 17; (with_reducible refine (same_row k A1 p.length c1 A2 q.length c2 p q r _ ?s1 ?s2 hr.out).mono ?_); (case s1 => exact (HR1.out.below HB2.out).below HB3.out); (case s2 => exact HR2.out.below HB3.out); rintro e w' ⟨rfl, ⟨nd, rfl⟩⟩))
  go_ret
  exact ⟨by first | rfl | (simp; done) | (simp [*]; done), by repeat (first | exact below_step (below_step HB1.out HB2.out) HB3.out | apply pw_below_drewN | apply below_drew1)⟩
set_option maxHeartbeats 2000000 in
set_option maxRecDepth 100000 in
theorem inj_b (k : Nat) (m n : Int) (p q : List Int) (r : Bool) (w : World) (hp : Aside0 (wire_Put.f k m = some p)) (hq : Aside0 (wire_Put.f k n = some q)) (hr : Aside0 (hallmootref03_Same.f k p q = some r))
    (hlp : p.length ≤ 100) (hlq : q.length ≤ 100) (he : (m == n) = r) (h1 : decide (0 ≤ m) = true) (h2 : decide (0 ≤ n) = true) (h3 : decide (m ≤ n) = true) (h6 : decide (q.length < p.length) = false) :
    Calls Try.prog 11 #[.int .i64 m, .int .i64 n] w fun e w' => e = .returned (.bool true) ∧ Below w.heap.size w w' := by
  go_enter Try.func11, Try.ntmps11
  go_wp2_with (first | (go_at_call 20; (with_reducible refine (put_row k m p _ hp.out).mono ?_); rintro e w1 ⟨A1, c1, rfl, HR1, HO1, HB1⟩) | (go_at_call 20; (with_reducible refine (put_row k n q _ hq.out).mono ?_); rintro e w2 ⟨A2, c2, rfl, HR2, HO2, HB2⟩) | (go_at_call 14; (with_reducible refine (sanity_row _).mono ?_); rintro e w3 ⟨rfl, HB3⟩) | (go_at_call 17; (with_reducible refine (same_row k A1 p.length c1 A2 q.length c2 p q r _ ?s1 ?s2 hr.out).mono ?_); (case s1 => exact (HR1.out.below HB2.out).below HB3.out); (case s2 => exact HR2.out.below HB3.out); rintro e w' ⟨rfl, ⟨nd, rfl⟩⟩))
  go_ret
  exact ⟨by first | rfl | (simp; done) | (simp [*]; done), by repeat (first | exact below_step (below_step HB1.out HB2.out) HB3.out | apply pw_below_drewN | apply below_drew1)⟩
set_option maxHeartbeats 2000000 in
set_option maxRecDepth 100000 in
theorem inj_c (k : Nat) (m n : Int) (p q : List Int) (r : Bool) (w : World) (hp : Aside0 (wire_Put.f k m = some p)) (hq : Aside0 (wire_Put.f k n = some q)) (hr : Aside0 (hallmootref03_Same.f k p q = some r))
    (hlp : p.length ≤ 100) (hlq : q.length ≤ 100) (he : (m == n) = r) (h1 : decide (0 ≤ m) = true) (h2 : decide (0 ≤ n) = true) (h3 : decide (m ≤ n) = false) (h4 : decide (m < 0) = false) :
    Calls Try.prog 11 #[.int .i64 m, .int .i64 n] w fun e w' => e = .returned (.bool true) ∧ Below w.heap.size w w' := by
  go_enter Try.func11, Try.ntmps11
  go_wp2_with (first | (go_at_call 20; (with_reducible refine (put_row k m p _ hp.out).mono ?_); rintro e w1 ⟨A1, c1, rfl, HR1, HO1, HB1⟩) | (go_at_call 20; (with_reducible refine (put_row k n q _ hq.out).mono ?_); rintro e w2 ⟨A2, c2, rfl, HR2, HO2, HB2⟩) | (go_at_call 14; (with_reducible refine (sanity_row _).mono ?_); rintro e w3 ⟨rfl, HB3⟩) | (go_at_call 17; (with_reducible refine (same_row k A1 p.length c1 A2 q.length c2 p q r _ ?s1 ?s2 hr.out).mono ?_); (case s1 => exact (HR1.out.below HB2.out).below HB3.out); (case s2 => exact HR2.out.below HB3.out); rintro e w' ⟨rfl, ⟨nd, rfl⟩⟩))
  go_ret
  exact ⟨by first | rfl | (simp; done) | (simp [*]; done), by repeat (first | exact below_step (below_step HB1.out HB2.out) HB3.out | apply pw_below_drewN | apply below_drew1)⟩
set_option maxHeartbeats 2000000 in
set_option maxRecDepth 100000 in
theorem inj_d (k : Nat) (m n : Int) (p q : List Int) (r : Bool) (w : World) (hp : Aside0 (wire_Put.f k m = some p)) (hq : Aside0 (wire_Put.f k n = some q)) (hr : Aside0 (hallmootref03_Same.f k p q = some r))
    (hlp : p.length ≤ 100) (hlq : q.length ≤ 100) (he : (m == n) = r) (h1 : decide (0 ≤ m) = false) (h2 : decide (0 ≤ n) = false) (h4 : decide (m < 0) = true) (h5 : decide (n ≤ m) = true) (h6 : decide (q.length < p.length) = false) :
    Calls Try.prog 11 #[.int .i64 m, .int .i64 n] w fun e w' => e = .returned (.bool true) ∧ Below w.heap.size w w' := by
  go_enter Try.func11, Try.ntmps11
  go_wp2_with (first | (go_at_call 20; (with_reducible refine (put_row k m p _ hp.out).mono ?_); rintro e w1 ⟨A1, c1, rfl, HR1, HO1, HB1⟩) | (go_at_call 20; (with_reducible refine (put_row k n q _ hq.out).mono ?_); rintro e w2 ⟨A2, c2, rfl, HR2, HO2, HB2⟩) | (go_at_call 14; (with_reducible refine (sanity_row _).mono ?_); rintro e w3 ⟨rfl, HB3⟩) | (go_at_call 17; (with_reducible refine (same_row k A1 p.length c1 A2 q.length c2 p q r _ ?s1 ?s2 hr.out).mono ?_); (case s1 => exact (HR1.out.below HB2.out).below HB3.out); (case s2 => exact HR2.out.below HB3.out); rintro e w' ⟨rfl, ⟨nd, rfl⟩⟩))
  go_ret
  exact ⟨by first | rfl | (simp; done) | (simp [*]; done), by repeat (first | exact below_step (below_step HB1.out HB2.out) HB3.out | apply pw_below_drewN | apply below_drew1)⟩
set_option maxHeartbeats 2000000 in
set_option maxRecDepth 100000 in
theorem inj_e (k : Nat) (m n : Int) (p q : List Int) (r : Bool) (w : World) (hp : Aside0 (wire_Put.f k m = some p)) (hq : Aside0 (wire_Put.f k n = some q)) (hr : Aside0 (hallmootref03_Same.f k p q = some r))
    (hlp : p.length ≤ 100) (hlq : q.length ≤ 100) (he : (m == n) = r) (h1 : decide (0 ≤ m) = false) (h2 : decide (0 ≤ n) = false) (h4 : decide (m < 0) = true) (h5 : decide (n ≤ m) = false) :
    Calls Try.prog 11 #[.int .i64 m, .int .i64 n] w fun e w' => e = .returned (.bool true) ∧ Below w.heap.size w w' := by
  go_enter Try.func11, Try.ntmps11
  go_wp2_with (first | (go_at_call 20; (with_reducible refine (put_row k m p _ hp.out).mono ?_); rintro e w1 ⟨A1, c1, rfl, HR1, HO1, HB1⟩) | (go_at_call 20; (with_reducible refine (put_row k n q _ hq.out).mono ?_); rintro e w2 ⟨A2, c2, rfl, HR2, HO2, HB2⟩) | (go_at_call 14; (with_reducible refine (sanity_row _).mono ?_); rintro e w3 ⟨rfl, HB3⟩) | (go_at_call 17; (with_reducible refine (same_row k A1 p.length c1 A2 q.length c2 p q r _ ?s1 ?s2 hr.out).mono ?_); (case s1 => exact (HR1.out.below HB2.out).below HB3.out); (case s2 => exact HR2.out.below HB3.out); rintro e w' ⟨rfl, ⟨nd, rfl⟩⟩))
  go_ret
  exact ⟨by first | rfl | (simp; done) | (simp [*]; done), by repeat (first | exact below_step (below_step HB1.out HB2.out) HB3.out | apply pw_below_drewN | apply below_drew1)⟩
end Go.Proofs.Ytmhabhfkglhleaa.PWire
