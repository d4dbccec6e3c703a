/- The walk of the law WordBits, by the printed contracts of its callees: the tests' outcomes come of what the row of threads is told to be. -/
import Derived.Test.YtkabmbaghgfffaaPWordx1
namespace Go.Proofs.Ytkabmbaghgfffaa.PWord
open Go.RowKit Go.Proofs.YtkabmbaghgfffaaW.PrintWords Go.Proofs.YtkabmbaghgfffaaW.PrintLast Go.Proofs.YtkabmbaghgfffaaW.PrintMore
attribute [local go_sem] max2_int min2_int max_two min_two max_three min_three max_four min_four
set_option linter.unusedVariables false
set_option linter.unusedSimpArgs false
set_option maxHeartbeats 2000000 in
set_option maxRecDepth 100000 in
theorem bits_walk (k : Nat) (a0 : Int) (w : World) (t210 : List Int) (F : Int → Int) (t209 : Bool) (e9 : Aside0 (t209 = true)) (hl : t210.length ≤ 62)
    (A2 : Aside0 (hallmootlaw01_sanity.f k = some t209)) (A3 : Aside0 (word_Bits.f k (wrap64 (Int.tmod a0 4611686018427387904)) = some t210))
    (hF : Aside0 (F 0 = 0 ∧ F t210.length = (wrap64 (Int.tmod a0 4611686018427387904)) ∧ ∀ n : Int, 0 ≤ n → n < t210.length → word_In.f (wrap64 (Int.tmod a0 4611686018427387904)) (rd t210 n) = some true ∧ word_With.f (F n) (rd t210 n) = some (F (n + 1)) ∧ (0 < n → rd t210 (n - 1) < rd t210 n))) :
    Calls Try.prog 9 #[.int .u64 a0] w fun e w' => e = .returned (.bool true) ∧ Below w.heap.size w w' := by
  have HB := Aside0.mk (Below.refl w.heap.size w)
  go_enter Try.func9, Try.ntmps9
  go_wp2_with (first | (go_at_call 10; (with_reducible refine (hallmootlaw01_sanity.calls k  t209 _ A2.out).mono ?_); rintro e w4 ⟨rfl, hb⟩; have n0_ := Aside0.mk (below_step (by repeat (first | (with_reducible first | exact HB.out | apply below_alloc | apply pw_below_drewN | apply below_drew1) | exact HB.out)) hb); clear HB; have HB := n0_; clear n0_; (try clear hb); (try clear hb2); (try clear hk); (try clear hi)) | (go_at_call 36; (with_reducible refine (word_Bits.calls k (wrap64 (Int.tmod a0 4611686018427387904)) t210 _ A3.out).mono ?_); rintro e w5 ⟨v211, rfl, ho0, hb⟩; have n0_ := Aside0.mk (Kd.R_lower ho0 (below_size (by repeat (first | (with_reducible first | exact HB.out | apply below_alloc | apply pw_below_drewN | apply below_drew1) | exact HB.out)))); have n1_ := Aside0.mk (below_step (by repeat (first | (with_reducible first | exact HB.out | apply below_alloc | apply pw_below_drewN | apply below_drew1) | exact HB.out)) hb); clear HB; have HO212 := n0_; have HB := n1_; clear n0_ n1_; (try clear hb); (try clear hb2); (try clear hk); (try clear hi); (try clear ho0)))
  generalize hm : (wrap64 (Int.tmod a0 4611686018427387904)) = m at *
  have hm' := Aside0.mk hm
  clear hm
  go_loopg [6, 7] t210.length (fun kq v6 v7 w' => ∃ (x6_1 : Int) (x7_1 : Int), v6 = .int .i64 x6_1 ∧ v7 = .int .i64 x7_1 ∧ Aside0 (0 ≤ x7_1 ∧ x7_1 ≤ t210.length ∧ kq + x7_1.toNat = t210.length ∧ x6_1 = F x7_1) ∧ Aside0 (Kd.R (Kd.int .i64) 3 w' w.heap.size (fun _ => True) v211 t210) ∧ Aside0 (Below w.heap.size w w'))
  case atStart => exact ⟨0, 0, rfl, rfl, ⟨by omega, by omega, by simp, hF.out.1.symm⟩, ⟨by (with_reducible repeat (first | apply Kd.R_alloc | apply Kd.R_drewN | apply Kd.R_drew)); exact HO212.out⟩, ⟨by repeat (first | (with_reducible first | exact HB.out | apply below_alloc | apply pw_below_drewN | apply below_drew1) | exact HB.out)⟩⟩
  case round =>
    obtain ⟨x6_1, x7_1, rfl, rfl, HA, HO_5, HB⟩ := hrel
    obtain ⟨Ao, co, eo⟩ := Kd.R_slice HO_5.out
    subst eo
    by_cases c6 : x7_1 < (t210.length : Int)
    · have p1 : 0 ≤ x7_1 := HA.out.1
      obtain ⟨b1, b2, b3⟩ := hF.out.2.2 x7_1 p1 c6
      have A14 := Aside0.mk b1
      obtain ⟨t218, ht⟩ : ∃ z, z = F (x7_1 + 1) := ⟨_, rfl⟩
      rw [← HA.out.2.2.2, ← ht] at b2
      have A16 := Aside0.mk b2
      have HT := Aside0.mk ht
      clear b1 b2 ht
      have q1 := c6
      have hw : wrap64 (x7_1 + 1) = x7_1 + 1 := by unfold wrap64; omega
      obtain ⟨ad1, e1, hx1⟩ := Kd.at_int (Kd.R_reads' HO_5.out).2.2 x7_1 p1 q1
      cases e1
      by_cases c7 : 0 < x7_1
      · have b4 := b3 c7
        obtain ⟨j, hj⟩ : ∃ j, j = x7_1 - 1 := ⟨_, rfl⟩
        rw [← hj] at b4
        have hji : (if wrap64 (x7_1 - 1) < 0 then 0 else wrap64 (x7_1 - 1)) = j := by
          have : wrap64 (x7_1 - 1) = x7_1 - 1 := by unfold wrap64; omega
          rw [this, if_neg (by omega), hj]
        have hj2 : IntKind.i64.wrap (x7_1 - 1) = j := by rw [IntKind.wrap_i64]; omega
        have hj3 : (j < 0) = False := eq_false (by omega)
        have p2 : 0 ≤ j := by omega
        have q2 : j < (t210.length : Int) := by omega
        obtain ⟨ad2, e2, hx2⟩ := Kd.at_int (Kd.R_reads' HO_5.out).2.2 j p2 q2
        obtain rfl : ad1 = ad2 := by injection e2
        have HJ := Aside0.mk hj
        clear hj b3
        have c7b : decide (0 < x7_1) = true := decide_eq_true c7
        have c6b : decide (x7_1 < (t210.length : Int)) = true := decide_eq_true c6
        have c8b : decide (rd t210 x7_1 ≤ rd t210 j) = false := decide_eq_false (by omega)
        have p1b : decide (0 ≤ x7_1) = true := decide_eq_true p1
        have p2b : decide (0 ≤ j) = true := decide_eq_true p2
        have q2b : decide (j < (t210.length : Int)) = true := decide_eq_true q2
        clear b4
        have hw' := Aside0.mk hw
        clear hw
        go_wp2
        go_quiet (first | (go_at_call 29; (with_reducible refine (word_In.calls m (rd t210 x7_1) true _ A14.out).mono ?_); rintro e w' ⟨rfl, ⟨nd, rfl⟩⟩; (try first | exact ⟨rfl, _, World.drewN_drewN _ _ _⟩ | exact ⟨rfl, _, Eq.trans (World.drewN_drewN _ _ _) (congrArg (World.drewN _) (Nat.add_assoc _ _ _))⟩)) | (go_at_call 31; (with_reducible refine (word_With.calls x6_1 (rd t210 x7_1) t218 _ A16.out).mono ?_); rintro e w' ⟨rfl, ⟨nd, rfl⟩⟩; (try first | exact ⟨rfl, _, World.drewN_drewN _ _ _⟩ | exact ⟨rfl, _, Eq.trans (World.drewN_drewN _ _ _) (congrArg (World.drewN _) (Nat.add_assoc _ _ _))⟩)))
        go_wp2_with (first | (go_at_call 29; (with_reducible refine (word_In.calls m (rd t210 x7_1) true _ A14.out).mono ?_); rintro e w' ⟨rfl, ⟨nd, rfl⟩⟩; (try first | exact ⟨rfl, _, World.drewN_drewN _ _ _⟩ | exact ⟨rfl, _, Eq.trans (World.drewN_drewN _ _ _) (congrArg (World.drewN _) (Nat.add_assoc _ _ _))⟩)) | (go_at_call 31; (with_reducible refine (word_With.calls x6_1 (rd t210 x7_1) t218 _ A16.out).mono ?_); rintro e w' ⟨rfl, ⟨nd, rfl⟩⟩; (try first | exact ⟨rfl, _, World.drewN_drewN _ _ _⟩ | exact ⟨rfl, _, Eq.trans (World.drewN_drewN _ _ _) (congrArg (World.drewN _) (Nat.add_assoc _ _ _))⟩)))
        go_roundg (gk - 1)
        case measure => have := HA.out; omega
        case rel => exact ⟨t218, (x7_1 + 1), (by first | rfl | (simp; done) | (simp [*]; done)), (by first | rfl | (rw [hw'.out]) | (simp; done) | (simp [*]; done)), ⟨by omega, by omega, by have := HA.out; omega, HT.out⟩, ⟨by (with_reducible repeat (first | apply Kd.R_alloc | apply Kd.R_drewN | apply Kd.R_drew)); exact HO_5.out⟩, ⟨by repeat (first | (with_reducible first | exact HB.out | apply below_alloc | apply pw_below_drewN | apply below_drew1) | exact HB.out)⟩⟩
      · have c7b : decide (0 < x7_1) = false := decide_eq_false c7
        have c6b : decide (x7_1 < (t210.length : Int)) = true := decide_eq_true c6
        have p1b : decide (0 ≤ x7_1) = true := decide_eq_true p1
        have hw' := Aside0.mk hw
        clear hw b3
        go_wp2
        go_quiet (first | (go_at_call 29; (with_reducible refine (word_In.calls m (rd t210 x7_1) true _ A14.out).mono ?_); rintro e w' ⟨rfl, ⟨nd, rfl⟩⟩; (try first | exact ⟨rfl, _, World.drewN_drewN _ _ _⟩ | exact ⟨rfl, _, Eq.trans (World.drewN_drewN _ _ _) (congrArg (World.drewN _) (Nat.add_assoc _ _ _))⟩)) | (go_at_call 31; (with_reducible refine (word_With.calls x6_1 (rd t210 x7_1) t218 _ A16.out).mono ?_); rintro e w' ⟨rfl, ⟨nd, rfl⟩⟩; (try first | exact ⟨rfl, _, World.drewN_drewN _ _ _⟩ | exact ⟨rfl, _, Eq.trans (World.drewN_drewN _ _ _) (congrArg (World.drewN _) (Nat.add_assoc _ _ _))⟩)))
        go_wp2_with (first | (go_at_call 29; (with_reducible refine (word_In.calls m (rd t210 x7_1) true _ A14.out).mono ?_); rintro e w' ⟨rfl, ⟨nd, rfl⟩⟩; (try first | exact ⟨rfl, _, World.drewN_drewN _ _ _⟩ | exact ⟨rfl, _, Eq.trans (World.drewN_drewN _ _ _) (congrArg (World.drewN _) (Nat.add_assoc _ _ _))⟩)) | (go_at_call 31; (with_reducible refine (word_With.calls x6_1 (rd t210 x7_1) t218 _ A16.out).mono ?_); rintro e w' ⟨rfl, ⟨nd, rfl⟩⟩; (try first | exact ⟨rfl, _, World.drewN_drewN _ _ _⟩ | exact ⟨rfl, _, Eq.trans (World.drewN_drewN _ _ _) (congrArg (World.drewN _) (Nat.add_assoc _ _ _))⟩)))
        go_roundg (gk - 1)
        case measure => have := HA.out; omega
        case rel => exact ⟨t218, (x7_1 + 1), (by first | rfl | (simp; done) | (simp [*]; done)), (by first | rfl | (rw [hw'.out]) | (simp; done) | (simp [*]; done)), ⟨by omega, by omega, by have := HA.out; omega, HT.out⟩, ⟨by (with_reducible repeat (first | apply Kd.R_alloc | apply Kd.R_drewN | apply Kd.R_drew)); exact HO_5.out⟩, ⟨by repeat (first | (with_reducible first | exact HB.out | apply below_alloc | apply pw_below_drewN | apply below_drew1) | exact HB.out)⟩⟩
    · have hx : F x7_1 = m := by
        rw [show x7_1 = (t210.length : Int) by have := HA.out; omega]; exact hF.out.2.1
      have c6b : decide (x7_1 < (t210.length : Int)) = false := decide_eq_false c6
      have hfin : (x6_1 == m) = true := by rw [beq_iff_eq, HA.out.2.2.2, hx]
      have h9 := e9.out
      clear hx
      go_wp2
      repeat (go_quiet (fail); try go_wp2)
      go_ret
      exact ⟨by first | rfl | (simp; done) | (simp [*]; done), by repeat (first | (with_reducible first | exact HB.out | apply below_alloc | apply pw_below_drewN | apply below_drew1) | exact HB.out)⟩
end Go.Proofs.Ytkabmbaghgfffaa.PWord
