/- The walk of the law WireSealMatchesSpec, by hand. -/
import Derived.Test.YtmhabhfkglhleaaCore5
import Derived.Test.YtmhabhfkglhleaaPC
namespace Go.Proofs.Ytmhabhfkglhleaa.PWire
open Go.RowKit Go.Proofs.YtmhabhfkglhleaaW.PrintWords Go.Proofs.YtmhabhfkglhleaaW.PrintLast Go.Proofs.YtmhabhfkglhleaaW.PrintMore
attribute [local go_sem] max2_int min2_int max_two min_two max_three min_three max_four min_four
set_option linter.unusedVariables false
set_option linter.unusedSimpArgs false

theorem seal_row (k : Nat) (A0 : Option Addr) (n0 c0 : Nat) (l0 p : List Int) (w : World) (h0 : Rd w A0 n0 c0 l0) (h : wire_Seal.f k l0 = some p) :
    Calls Try.prog 15 #[.slice A0 n0 c0] w fun e w' => ∃ A c, e = .returned (.slice A p.length c) ∧ Aside0 (Rd w' A p.length c p) ∧ Aside0 (Below w.heap.size w w') := by
  refine (seal_len k A0 n0 c0 l0 p w h0.len h0.C h0.le h).mono ?_
  rintro e w' ⟨v, rfl, hR, hb⟩
  obtain ⟨A, c, rfl, hr⟩ := Rd.ofR hR
  exact ⟨A, c, rfl, ⟨hr⟩, ⟨hb⟩⟩
theorem rseal_row (k : Nat) (A0 : Option Addr) (n0 c0 : Nat) (l0 p : List Int) (w : World) (h0 : Rd w A0 n0 c0 l0) (h : hallmootref03_Seal.f k l0 = some p) :
    Calls Try.prog 35 #[.slice A0 n0 c0] w fun e w' => ∃ A c, e = .returned (.slice A p.length c) ∧ Aside0 (Rd w' A p.length c p) ∧ Aside0 (Below w.heap.size w w') := by
  obtain ⟨rfl, hle, hC⟩ := h0
  refine (hallmootref03_Seal.calls k A0 c0 l0 p w hC hle h).mono ?_
  rintro e w' ⟨v, rfl, hR, hb⟩
  obtain ⟨A, c, rfl, hr⟩ := Rd.ofR hR
  exact ⟨A, c, rfl, ⟨hr⟩, ⟨hb⟩⟩
theorem seal_own (k : Nat) (A0 : Option Addr) (n0 c0 : Nat) (l0 p : List Int) (w : World) (h0 : Rd w A0 n0 c0 l0) (h : wire_Seal.f k l0 = some p) (hp : 0 < p.length) :
    Calls Try.prog 15 #[.slice A0 n0 c0] w fun e w' => ∃ g c, e = .returned (.slice (some ⟨g, 0, none⟩) p.length c) ∧ Aside0 (Rd w' (some ⟨g, 0, none⟩) p.length c p) ∧ Aside0 (p.length ≤ c) ∧ Aside0 (Below w.heap.size w w') := by
  refine (seal_len k A0 n0 c0 l0 p w h0.len h0.C h0.le h).mono ?_
  rintro e w' ⟨v, rfl, hR, hb⟩
  obtain ⟨g, c, rfl, hr⟩ := Rd.head hR hp
  exact ⟨g, c, rfl, ⟨hr⟩, ⟨hr.le⟩, ⟨hb⟩⟩

set_option maxHeartbeats 4000000 in
set_option maxRecDepth 100000 in
theorem sm_walk (k : Nat) (l p xs : List Int) (nn ee v : Int) (A : Option Addr) (n c : Nat) (w : World) (HR : Aside0 (Rd w A n c l)) (hn : n ≤ 1000)
    (HO : Aside0 (∀ w, Rd w A n c l → Calls Try.prog 16 #[.slice A n c] w fun e w' => ∃ A' c', e = .returned (.tuple #[.slice A' xs.length c', .int .i64 nn, .int .i64 ee]) ∧ Aside0 (Rd w' A' xs.length c' xs) ∧ Aside0 (Below w.heap.size w w')))
    (HQ : Aside0 (∀ w, Rd w A n c l → Calls Try.prog 33 #[.slice A n c] w fun e w' => ∃ A' c', e = .returned (.tuple #[.slice A' xs.length c', .int .i64 nn, .int .i64 ee]) ∧ Aside0 (Rd w' A' xs.length c' xs) ∧ Aside0 (Below w.heap.size w w')))
    (h1 : Aside0 (wire_Sum.f k l = some v)) (h2 : Aside0 (hallmootref03_Sum.f k l = some v)) (h3 : Aside0 (wire_Seal.f k l = some p)) (h4 : Aside0 (hallmootref03_Seal.f k l = some p))
    (h5 : Aside0 (hallmootref03_Same.f k p p = some true)) (h6 : Aside0 (hallmootref03_Same.f k xs xs = some true)) :
    Calls Try.prog 13 #[.slice A n c] w fun e w' => e = .returned (.bool true) ∧ Below w.heap.size w w' := by
  have t1 : decide (1000 < (n : Int)) = false := decide_eq_false (by omega)
  have t2 : decide (1000 < n) = false := decide_eq_false (by omega)
  go_enter Try.func13, Try.ntmps13
  go_wp2_with (first | (go_at_call 16; (with_reducible refine (HO.out _ HR.out).mono ?_); rintro e w1 ⟨A1, c1, rfl, HR1, HB1⟩) | (go_at_call 33; (with_reducible refine (HQ.out _ (HR.out.below HB1.out)).mono ?_); rintro e w2 ⟨A2, c2, rfl, HR2, HB2⟩) | (go_at_call 14; (with_reducible refine (sanity_row _).mono ?_); rintro e w3 ⟨rfl, HB3⟩) | (go_at_call 19; (with_reducible refine (sum_row k A n c l v _ ?u1 h1.out).mono ?_); (case u1 => repeat (first | exact HR.out | exact HR1.out | exact HR2.out | exact HR4.out | exact HR5.out | (with_reducible refine Rd.drewN ?_ _) | (refine Rd.below ?_ HB5.out) | (refine Rd.below ?_ HB4.out) | (refine Rd.below ?_ HB3.out) | (refine Rd.below ?_ HB2.out) | (refine Rd.below ?_ HB1.out))); rintro e w' ⟨rfl, ⟨nd1, rfl⟩⟩) | (go_at_call 34; (with_reducible refine (rsum_row k A n c l v _ ?u2 h2.out).mono ?_); (case u2 => repeat (first | exact HR.out | exact HR1.out | exact HR2.out | exact HR4.out | exact HR5.out | (with_reducible refine Rd.drewN ?_ _) | (refine Rd.below ?_ HB5.out) | (refine Rd.below ?_ HB4.out) | (refine Rd.below ?_ HB3.out) | (refine Rd.below ?_ HB2.out) | (refine Rd.below ?_ HB1.out))); rintro e w' ⟨rfl, ⟨nd2, rfl⟩⟩) | (go_at_call 15; (with_reducible refine (seal_row k A n c l p _ ?u3 h3.out).mono ?_); (case u3 => repeat (first | exact HR.out | exact HR1.out | exact HR2.out | exact HR4.out | exact HR5.out | (with_reducible refine Rd.drewN ?_ _) | (refine Rd.below ?_ HB5.out) | (refine Rd.below ?_ HB4.out) | (refine Rd.below ?_ HB3.out) | (refine Rd.below ?_ HB2.out) | (refine Rd.below ?_ HB1.out))); rintro e w4 ⟨A4, c4, rfl, HR4, HB4⟩) | (go_at_call 35; (with_reducible refine (rseal_row k A n c l p _ ?u4 h4.out).mono ?_); (case u4 => repeat (first | exact HR.out | exact HR1.out | exact HR2.out | exact HR4.out | exact HR5.out | (with_reducible refine Rd.drewN ?_ _) | (refine Rd.below ?_ HB5.out) | (refine Rd.below ?_ HB4.out) | (refine Rd.below ?_ HB3.out) | (refine Rd.below ?_ HB2.out) | (refine Rd.below ?_ HB1.out))); rintro e w5 ⟨A5, c5, rfl, HR5, HB5⟩) | (go_at_call 17; (with_reducible refine (same_row k A4 p.length c4 A5 p.length c5 p p true _ ?u5 ?u6 h5.out).mono ?_); (case u5 => repeat (first | exact HR.out | exact HR1.out | exact HR2.out | exact HR4.out | exact HR5.out | (with_reducible refine Rd.drewN ?_ _) | (refine Rd.below ?_ HB5.out) | (refine Rd.below ?_ HB4.out) | (refine Rd.below ?_ HB3.out) | (refine Rd.below ?_ HB2.out) | (refine Rd.below ?_ HB1.out))); (case u6 => repeat (first | exact HR.out | exact HR1.out | exact HR2.out | exact HR4.out | exact HR5.out | (with_reducible refine Rd.drewN ?_ _) | (refine Rd.below ?_ HB5.out) | (refine Rd.below ?_ HB4.out) | (refine Rd.below ?_ HB3.out) | (refine Rd.below ?_ HB2.out) | (refine Rd.below ?_ HB1.out))); rintro e w' ⟨rfl, ⟨nd5, rfl⟩⟩) | (go_at_call 17; (with_reducible refine (same_row k A1 xs.length c1 A2 xs.length c2 xs xs true _ ?u7 ?u8 h6.out).mono ?_); (case u7 => repeat (first | exact HR.out | exact HR1.out | exact HR2.out | exact HR4.out | exact HR5.out | (with_reducible refine Rd.drewN ?_ _) | (refine Rd.below ?_ HB5.out) | (refine Rd.below ?_ HB4.out) | (refine Rd.below ?_ HB3.out) | (refine Rd.below ?_ HB2.out) | (refine Rd.below ?_ HB1.out))); (case u8 => repeat (first | exact HR.out | exact HR1.out | exact HR2.out | exact HR4.out | exact HR5.out | (with_reducible refine Rd.drewN ?_ _) | (refine Rd.below ?_ HB5.out) | (refine Rd.below ?_ HB4.out) | (refine Rd.below ?_ HB3.out) | (refine Rd.below ?_ HB2.out) | (refine Rd.below ?_ HB1.out))); rintro e w' ⟨rfl, ⟨nd6, rfl⟩⟩))
  all_goals
    go_ret
    exact ⟨by first | rfl | (simp; done) | (simp [*]; done), by repeat (first | exact HB1.out | apply pw_below_drewN | refine below_step ?_ HB5.out | refine below_step ?_ HB4.out | refine below_step ?_ HB3.out | refine below_step ?_ HB2.out)⟩
theorem sm_long (A : Option Addr) (n c : Nat) (w : World) (hn : 1000 < n) (hn2 : n ≤ 9223372036854775807) :
    Calls Try.prog 13 #[.slice A n c] w fun e w' => e = .returned (.bool true) ∧ Below w.heap.size w w' := by
  have t1 : decide (1000 < (n : Int)) = true := decide_eq_true (by omega)
  have t2 : decide (1000 < n) = true := decide_eq_true (by omega)
  go_enter Try.func13, Try.ntmps13
  go_wp2_with (first | (go_at_call 14; (with_reducible refine (sanity_row _).mono ?_); rintro e w3 ⟨rfl, HB3⟩))
  go_ret
  exact ⟨rfl, HB3.out⟩
end Go.Proofs.Ytmhabhfkglhleaa.PWire
