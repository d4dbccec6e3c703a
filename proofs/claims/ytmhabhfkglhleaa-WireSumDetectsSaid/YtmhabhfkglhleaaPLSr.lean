/- The walk of the law WireSealRoundTrip, by hand. -/
import Derived.Test.YtmhabhfkglhleaaPLSm
namespace Go.Proofs.Ytmhabhfkglhleaa.PWire
open Go.RowKit Go.Proofs.YtmhabhfkglhleaaW.PrintWords Go.Proofs.YtmhabhfkglhleaaW.PrintLast Go.Proofs.YtmhabhfkglhleaaW.PrintMore
attribute [local go_sem] max2_int min2_int max_two min_two max_three min_three max_four min_four
set_option linter.unusedVariables false
set_option linter.unusedSimpArgs false

set_option maxHeartbeats 4000000 in
set_option maxRecDepth 100000 in
theorem sr_walk (k : Nat) (l p r : List Int) (A : Option Addr) (n c : Nat) (B : Option Addr) (m cb : Nat) (w : World) (HR : Aside0 (Rd w A n c l)) (HT : Aside0 (Rd w B m cb r)) (hnm : n + m ≤ 600) (hnil : Aside0 (B = none → m = 0 ∧ cb = 0))
    (h3 : Aside0 (wire_Seal.f k l = some p)) (hpos : 0 < p.length) (hlen : p.length ≤ 2000)
    (HO : Aside0 (∀ w A c, Rd w A (p.length + m) c (p ++ r) → Calls Try.prog 16 #[.slice A (p.length + m) c] w fun e w' => ∃ A' c', e = .returned (.tuple #[.slice A' l.length c', .int .i64 p.length, .int .i64 0]) ∧ Aside0 (Rd w' A' l.length c' l) ∧ Aside0 (Below w.heap.size w w')))
    (HC : Aside0 (∀ w A c j, j < p.length → Rd w A j c (p.take j) → Calls Try.prog 16 #[.slice A j c] w fun e w' => ∃ A' c', e = .returned (.tuple #[.slice A' 0 c', .int .i64 0, .int .i64 3]) ∧ Aside0 (Below w.heap.size w w')))
    (h6 : Aside0 (hallmootref03_Same.f k l l = some true)) :
    Calls Try.prog 3 #[.slice A n c, .slice B m cb] w fun e w' => e = .returned (.bool true) ∧ Below w.heap.size w w' := by
  have t1 : decide (600 < (n : Int) + (m : Int)) = false := decide_eq_false (by omega)
  have t2 : decide (600 < n + m) = false := decide_eq_false (by omega)
  have t3 : decide (600 < wrap64 ((n : Int) + (m : Int))) = false := decide_eq_false (by rw [Math.wrap_in ⟨by omega, by omega⟩]; omega)
  obtain ⟨i0, hi0, _, hsz0, _⟩ := info_parts info5
  have hcutA := fun (g c1 j : Nat) (hl : p.length ≤ c1) (hj : j ≤ p.length) => (print_take_of (P := Try.prog) (Value.int .u8) 0 22 5 .i64 Try.underlying22 hi0 hsz0 (some ⟨g, 0, none⟩) c1 p (j : Int) (by omega) (by omega) hl).1
  have HCU := Aside0.mk hcutA
  clear hcutA hi0 hsz0
  go_enter Try.func3, Try.ntmps3
  go_wp2_with (first | (go_at_call 15; (with_reducible refine (seal_own k A n c l p _ HR.out h3.out hpos).mono ?_); rintro e w1 ⟨g, c1, rfl, HR1, HL1_, HB1⟩; have HL1 := HL1_.out; clear HL1_) | ((with_reducible refine gate_builtin (b := .append) (xs := #[.tmp 28, .tmp 29]) rfl ?_); at_builtin; refine append_tail _ rfl (.tmp 28) (.tmp 29) rfl g p.length p ?a1 ?a2 ?a3 B m cb r rfl ?a5 hnil.out ?a6 ?_; (case a1 => rfl); (case a2 => exact ⟨rfl, Nat.le_refl _, HR1.out.C⟩); (case a3 => exact hpos); (case a5 => exact HT.out.below HB1.out); (case a6 => omega); intro A2 c2 w2 HR2_ HB2_; have HR2 := Aside0.mk HR2_; have HB2 := Aside0.mk HB2_; clear HR2_ HB2_) | (go_at_call 16; (with_reducible refine (HO.out _ A2 c2 HR2.out).mono ?_); rintro e w5 ⟨A5, c5, rfl, HR5, HB5⟩))
  go_loopg [37] p.length (fun kq v37 w' => ∃ j : Nat, v37 = .int .i64 (j : Int) ∧ Aside0 (kq + j = p.length) ∧ Aside0 (Below w5.heap.size w5 w'))
  case atStart => exact ⟨0, rfl, ⟨rfl⟩, ⟨Below.refl _ _⟩⟩
  case round =>
    obtain ⟨j, rfl, HK, HB6⟩ := hrel
    have hk := HK.out
    cases gk with
    | zero =>
      have hjl : j = p.length := by omega
      subst hjl
      have d1 : decide ((p.length : Int) < (p.length : Int)) = false := decide_eq_false (by omega)
      go_wp2_with (first | (go_at_call 14; (with_reducible refine (sanity_row _).mono ?_); rintro e w3 ⟨rfl, HB3⟩) | (go_at_call 17; (with_reducible refine (same_row k A5 l.length c5 A n c l l true _ ?u5 ?u6 h6.out).mono ?_); (case u5 => repeat (first | exact HR.out | exact HT.out | exact HR1.out | exact HR2.out | exact HR5.out | (with_reducible refine Rd.drewN ?_ _) | (refine Rd.below ?_ HB3.out) | (refine Rd.below ?_ HB6.out) | (refine Rd.below ?_ HB5.out) | (refine Rd.below ?_ HB2.out) | (refine Rd.below ?_ HB1.out))); (case u6 => repeat (first | exact HR.out | exact HT.out | exact HR1.out | exact HR2.out | exact HR5.out | (with_reducible refine Rd.drewN ?_ _) | (refine Rd.below ?_ HB3.out) | (refine Rd.below ?_ HB6.out) | (refine Rd.below ?_ HB5.out) | (refine Rd.below ?_ HB2.out) | (refine Rd.below ?_ HB1.out))); rintro e w' ⟨rfl, ⟨nd5, rfl⟩⟩))
      go_ret
      exact ⟨by first | rfl | (simp; done) | (simp [*]; done), pw_below_drewN (below_step (below_step (below_step (below_step HB1.out HB2.out) HB5.out) HB6.out) HB3.out) _⟩
    | succ k1 =>
      have hj : j < p.length := by omega
      have d1 : decide ((j : Int) < (p.length : Int)) = true := decide_eq_true (by omega)
      have d2 : decide (j < p.length) = true := decide_eq_true hj
      have hcut := HCU.out g c1 j HL1 (by omega)
      rw [show (List.take ((j : Int).toNat) p).length = j by rw [List.length_take]; omega] at hcut
      clear hk
      go_wp2_with (first | (go_at_call 16; (with_reducible refine (HC.out _ _ c1 j hj ?s1).mono ?_); (case s1 => exact Rd.take (n := p.length) (by repeat (first | exact HR.out | exact HT.out | exact HR1.out | exact HR2.out | exact HR5.out | (with_reducible refine Rd.drewN ?_ _) | (refine Rd.below ?_ HB3.out) | (refine Rd.below ?_ HB6.out) | (refine Rd.below ?_ HB5.out) | (refine Rd.below ?_ HB2.out) | (refine Rd.below ?_ HB1.out))) j (by omega)); rintro e w7 ⟨A7, c7, rfl, HB7⟩))
      go_roundg k1
      case measure => omega
      case rel => exact ⟨j + 1, congrArg (Value.int .i64) (by omega), ⟨by have := HK.out; omega⟩, ⟨HB6.out.trans (HB7.out.mono HB6.out.size)⟩⟩
theorem sr_long (A : Option Addr) (n c : Nat) (B : Option Addr) (m cb : Nat) (w : World) (hn : 600 < n + m) (hn2 : n + m ≤ 9223372036854775807) :
    Calls Try.prog 3 #[.slice A n c, .slice B m cb] w fun e w' => e = .returned (.bool true) ∧ Below w.heap.size w w' := by
  have t1 : decide (600 < (n : Int) + (m : Int)) = true := decide_eq_true (by omega)
  have t2 : decide (600 < n + m) = true := decide_eq_true (by omega)
  have t3 : decide (600 < wrap64 ((n : Int) + (m : Int))) = true := decide_eq_true (by rw [Math.wrap_in ⟨by omega, by omega⟩]; omega)
  go_enter Try.func3, Try.ntmps3
  go_wp2_with (first | (go_at_call 14; (with_reducible refine (sanity_row _).mono ?_); rintro e w3 ⟨rfl, HB3⟩))
  go_ret
  exact ⟨rfl, HB3.out⟩
end Go.Proofs.Ytmhabhfkglhleaa.PWire
