-- PRINTED by print.py (a twelfth state) out of the translation. Not trusted: Lean checks it.
import Derived.Test.YtkabmbaghgfffaaPWordx0
import Derived.Test.YtkabmbaghgfffaaPWordx1
import Derived.Test.YtkabmbaghgfffaaPWordx2
namespace Go.Proofs.Ytkabmbaghgfffaa.PWord
open Go.RowKit Go.Proofs.YtkabmbaghgfffaaW.PrintWords Go.Proofs.YtkabmbaghgfffaaW.PrintLast Go.Proofs.YtkabmbaghgfffaaW.PrintMore
attribute [local go_sem] max2_int min2_int max_two min_two max_three min_three max_four min_four   -- for this text's walks alone
set_option linter.unusedVariables false
set_option linter.unusedSimpArgs false

/-! ### hallmootlaw01_WordMasks: function 5 -/
def hallmootlaw01_WordMasks.f (k : Nat) (a0 : Int) (a1 : Int) : Option (Bool) := (hallmootlaw01_sanity.f k).bind fun t168 => (if t168 = true then ((word_Bit.f a1).bind fun t169 => ((hallmootref01_Bit.f k a1).bind fun t170 => (if t169 = t170 then ((word_In.f a0 a1).bind fun t171 => ((hallmootref01_In.f k a0 a1).bind fun t172 => (if (t171 == t172) = true then ((word_With.f a0 a1).bind fun t173 => ((hallmootref01_With.f k a0 a1).bind fun t174 => (if t173 = t174 then ((word_Without.f a0 a1).bind fun t175 => ((hallmootref01_Without.f k a0 a1).bind fun t176 => (if t175 = t176 then ((word_Bits.f k a0).bind fun t177 => ((hallmootref01_Bits.f k a0).bind fun t180 => ((hallmootref01_Ints.f k t177 t180).bind fun t183 => (some t183)))) else (some false)))) else (some false)))) else (some false)))) else (some false)))) else (some false))
theorem hallmootlaw01_WordMasks.mono : ∀ a0 a1 k, LeO (hallmootlaw01_WordMasks.f k a0 a1) (hallmootlaw01_WordMasks.f (k + 1) a0 a1) := by
  intro a0 a1 k
  unfold hallmootlaw01_WordMasks.f
  repeat' first
      | (with_reducible exact hallmootlaw01_sanity.mono _)
      | (with_reducible exact hallmootref01_Bit.mono _ _)
      | (with_reducible exact hallmootref01_Bits.mono _ _)
      | (with_reducible exact hallmootref01_In.mono _ _ _)
      | (with_reducible exact hallmootref01_Ints.mono _ _ _)
      | (with_reducible exact hallmootref01_With.mono _ _ _)
      | (with_reducible exact hallmootref01_Without.mono _ _ _)
      | (with_reducible exact word_Bits.mono _ _)
      | (with_reducible exact LeO.refl _)
      | (with_reducible exact LeO.none _)
      | (with_reducible refine LeO.ite ?_ ?_)
      | (with_reducible refine LeO.bind ?_ (fun _ => ?_))
      | exact hallmootlaw01_sanity.mono _
      | exact hallmootref01_Bit.mono _ _
      | exact hallmootref01_Bits.mono _ _
      | exact hallmootref01_In.mono _ _ _
      | exact hallmootref01_Ints.mono _ _ _
      | exact hallmootref01_With.mono _ _ _
      | exact hallmootref01_Without.mono _ _ _
      | exact word_Bits.mono _ _
      | exact LeO.none _
      | refine LeO.ite ?_ ?_
      | refine LeO.bind ?_ (fun _ => ?_)
set_option maxHeartbeats 8000000 in
set_option maxRecDepth 100000 in
theorem hallmootlaw01_WordMasks.calls (k : Nat) (a0 : Int) (a1 : Int) (r : Bool) (w : World) (h : hallmootlaw01_WordMasks.f k a0 a1 = some r) :
    Calls Try.prog 5 #[.int .i64 a0, .int .i64 a1] w fun e w' => e = .returned (.bool r) ∧ Below w.heap.size w w' := by
  have HB := Aside0.mk (Below.refl w.heap.size w)
  have H : ((hallmootlaw01_sanity.f k).bind fun t168 => (if t168 = true then ((word_Bit.f a1).bind fun t169 => ((hallmootref01_Bit.f k a1).bind fun t170 => (if t169 = t170 then ((word_In.f a0 a1).bind fun t171 => ((hallmootref01_In.f k a0 a1).bind fun t172 => (if (t171 == t172) = true then ((word_With.f a0 a1).bind fun t173 => ((hallmootref01_With.f k a0 a1).bind fun t174 => (if t173 = t174 then ((word_Without.f a0 a1).bind fun t175 => ((hallmootref01_Without.f k a0 a1).bind fun t176 => (if t175 = t176 then ((word_Bits.f k a0).bind fun t177 => ((hallmootref01_Bits.f k a0).bind fun t180 => ((hallmootref01_Ints.f k t177 t180).bind fun t183 => (some t183)))) else (some false)))) else (some false)))) else (some false)))) else (some false)))) else (some false))) = some r := h
  clear h
  replace H := Option.bind_eq_some_iff.mp H
  obtain ⟨t168, A30, H⟩ := H
  replace H : (if t168 = true then ((word_Bit.f a1).bind fun t169 => ((hallmootref01_Bit.f k a1).bind fun t170 => (if t169 = t170 then ((word_In.f a0 a1).bind fun t171 => ((hallmootref01_In.f k a0 a1).bind fun t172 => (if (t171 == t172) = true then ((word_With.f a0 a1).bind fun t173 => ((hallmootref01_With.f k a0 a1).bind fun t174 => (if t173 = t174 then ((word_Without.f a0 a1).bind fun t175 => ((hallmootref01_Without.f k a0 a1).bind fun t176 => (if t175 = t176 then ((word_Bits.f k a0).bind fun t177 => ((hallmootref01_Bits.f k a0).bind fun t180 => ((hallmootref01_Ints.f k t177 t180).bind fun t183 => (some t183)))) else (some false)))) else (some false)))) else (some false)))) else (some false)))) else (some false)) = some r := H
  have A3 := Aside0.mk A30
  clear A30
  by_cases c4 : t168 = true
  · subst c4
    have H1 : ((word_Bit.f a1).bind fun t169 => ((hallmootref01_Bit.f k a1).bind fun t170 => (if t169 = t170 then ((word_In.f a0 a1).bind fun t171 => ((hallmootref01_In.f k a0 a1).bind fun t172 => (if (t171 == t172) = true then ((word_With.f a0 a1).bind fun t173 => ((hallmootref01_With.f k a0 a1).bind fun t174 => (if t173 = t174 then ((word_Without.f a0 a1).bind fun t175 => ((hallmootref01_Without.f k a0 a1).bind fun t176 => (if t175 = t176 then ((word_Bits.f k a0).bind fun t177 => ((hallmootref01_Bits.f k a0).bind fun t180 => ((hallmootref01_Ints.f k t177 t180).bind fun t183 => (some t183)))) else (some false)))) else (some false)))) else (some false)))) else (some false)))) = some r := by rw [if_pos rfl] at H; exact H
    clear H
    have H := H1
    clear H1
    replace H := Option.bind_eq_some_iff.mp H
    obtain ⟨t169, A50, H⟩ := H
    replace H : ((hallmootref01_Bit.f k a1).bind fun t170 => (if t169 = t170 then ((word_In.f a0 a1).bind fun t171 => ((hallmootref01_In.f k a0 a1).bind fun t172 => (if (t171 == t172) = true then ((word_With.f a0 a1).bind fun t173 => ((hallmootref01_With.f k a0 a1).bind fun t174 => (if t173 = t174 then ((word_Without.f a0 a1).bind fun t175 => ((hallmootref01_Without.f k a0 a1).bind fun t176 => (if t175 = t176 then ((word_Bits.f k a0).bind fun t177 => ((hallmootref01_Bits.f k a0).bind fun t180 => ((hallmootref01_Ints.f k t177 t180).bind fun t183 => (some t183)))) else (some false)))) else (some false)))) else (some false)))) else (some false))) = some r := H
    have A5 := Aside0.mk A50
    clear A50
    replace H := Option.bind_eq_some_iff.mp H
    obtain ⟨t170, A60, H⟩ := H
    replace H : (if t169 = t170 then ((word_In.f a0 a1).bind fun t171 => ((hallmootref01_In.f k a0 a1).bind fun t172 => (if (t171 == t172) = true then ((word_With.f a0 a1).bind fun t173 => ((hallmootref01_With.f k a0 a1).bind fun t174 => (if t173 = t174 then ((word_Without.f a0 a1).bind fun t175 => ((hallmootref01_Without.f k a0 a1).bind fun t176 => (if t175 = t176 then ((word_Bits.f k a0).bind fun t177 => ((hallmootref01_Bits.f k a0).bind fun t180 => ((hallmootref01_Ints.f k t177 t180).bind fun t183 => (some t183)))) else (some false)))) else (some false)))) else (some false)))) else (some false)) = some r := H
    have A6 := Aside0.mk A60
    clear A60
    by_cases c7 : t169 = t170
    · rw [if_pos c7] at H
      have c7b0 : (t169 == t170) = true := beq_iff_eq.mpr c7
      have c7b1 : (t169 != t170) = false := bne_eq_false_iff_eq.mpr c7
      clear c7
      replace H := Option.bind_eq_some_iff.mp H
      obtain ⟨t171, A80, H⟩ := H
      replace H : ((hallmootref01_In.f k a0 a1).bind fun t172 => (if (t171 == t172) = true then ((word_With.f a0 a1).bind fun t173 => ((hallmootref01_With.f k a0 a1).bind fun t174 => (if t173 = t174 then ((word_Without.f a0 a1).bind fun t175 => ((hallmootref01_Without.f k a0 a1).bind fun t176 => (if t175 = t176 then ((word_Bits.f k a0).bind fun t177 => ((hallmootref01_Bits.f k a0).bind fun t180 => ((hallmootref01_Ints.f k t177 t180).bind fun t183 => (some t183)))) else (some false)))) else (some false)))) else (some false))) = some r := H
      have A8 := Aside0.mk A80
      clear A80
      replace H := Option.bind_eq_some_iff.mp H
      obtain ⟨t172, A90, H⟩ := H
      replace H : (if (t171 == t172) = true then ((word_With.f a0 a1).bind fun t173 => ((hallmootref01_With.f k a0 a1).bind fun t174 => (if t173 = t174 then ((word_Without.f a0 a1).bind fun t175 => ((hallmootref01_Without.f k a0 a1).bind fun t176 => (if t175 = t176 then ((word_Bits.f k a0).bind fun t177 => ((hallmootref01_Bits.f k a0).bind fun t180 => ((hallmootref01_Ints.f k t177 t180).bind fun t183 => (some t183)))) else (some false)))) else (some false)))) else (some false)) = some r := H
      have A9 := Aside0.mk A90
      clear A90
      by_cases c10 : (t171 == t172) = true
      · rw [if_pos c10] at H
        have c10b0 : (t171 == t172) = true := c10
        (try (have c10b1 : decide (t171 = t172) = true := by simpa using c10))
        (try (have c10b2 : (t171 == t172) = true := by simpa using c10))
        clear c10
        replace H := Option.bind_eq_some_iff.mp H
        obtain ⟨t173, A110, H⟩ := H
        replace H : ((hallmootref01_With.f k a0 a1).bind fun t174 => (if t173 = t174 then ((word_Without.f a0 a1).bind fun t175 => ((hallmootref01_Without.f k a0 a1).bind fun t176 => (if t175 = t176 then ((word_Bits.f k a0).bind fun t177 => ((hallmootref01_Bits.f k a0).bind fun t180 => ((hallmootref01_Ints.f k t177 t180).bind fun t183 => (some t183)))) else (some false)))) else (some false))) = some r := H
        have A11 := Aside0.mk A110
        clear A110
        replace H := Option.bind_eq_some_iff.mp H
        obtain ⟨t174, A120, H⟩ := H
        replace H : (if t173 = t174 then ((word_Without.f a0 a1).bind fun t175 => ((hallmootref01_Without.f k a0 a1).bind fun t176 => (if t175 = t176 then ((word_Bits.f k a0).bind fun t177 => ((hallmootref01_Bits.f k a0).bind fun t180 => ((hallmootref01_Ints.f k t177 t180).bind fun t183 => (some t183)))) else (some false)))) else (some false)) = some r := H
        have A12 := Aside0.mk A120
        clear A120
        by_cases c13 : t173 = t174
        · rw [if_pos c13] at H
          have c13b0 : (t173 == t174) = true := beq_iff_eq.mpr c13
          have c13b1 : (t173 != t174) = false := bne_eq_false_iff_eq.mpr c13
          clear c13
          replace H := Option.bind_eq_some_iff.mp H
          obtain ⟨t175, A140, H⟩ := H
          replace H : ((hallmootref01_Without.f k a0 a1).bind fun t176 => (if t175 = t176 then ((word_Bits.f k a0).bind fun t177 => ((hallmootref01_Bits.f k a0).bind fun t180 => ((hallmootref01_Ints.f k t177 t180).bind fun t183 => (some t183)))) else (some false))) = some r := H
          have A14 := Aside0.mk A140
          clear A140
          replace H := Option.bind_eq_some_iff.mp H
          obtain ⟨t176, A150, H⟩ := H
          replace H : (if t175 = t176 then ((word_Bits.f k a0).bind fun t177 => ((hallmootref01_Bits.f k a0).bind fun t180 => ((hallmootref01_Ints.f k t177 t180).bind fun t183 => (some t183)))) else (some false)) = some r := H
          have A15 := Aside0.mk A150
          clear A150
          by_cases c16 : t175 = t176
          · rw [if_pos c16] at H
            have c16b0 : (t175 == t176) = true := beq_iff_eq.mpr c16
            have c16b1 : (t175 != t176) = false := bne_eq_false_iff_eq.mpr c16
            clear c16
            replace H := Option.bind_eq_some_iff.mp H
            obtain ⟨t177, A170, H⟩ := H
            replace H : ((hallmootref01_Bits.f k a0).bind fun t180 => ((hallmootref01_Ints.f k t177 t180).bind fun t183 => (some t183))) = some r := H
            have A17 := Aside0.mk A170
            clear A170
            replace H := Option.bind_eq_some_iff.mp H
            obtain ⟨t180, A180, H⟩ := H
            replace H : ((hallmootref01_Ints.f k t177 t180).bind fun t183 => (some t183)) = some r := H
            have A18 := Aside0.mk A180
            clear A180
            replace H := Option.bind_eq_some_iff.mp H
            obtain ⟨t183, A190, H⟩ := H
            replace H : (some t183) = some r := H
            have A19 := Aside0.mk A190
            clear A190
            obtain rfl := Option.some.inj H
            go_enter Try.func5, Try.ntmps5
            go_wp2_with (first | ((with_reducible refine gate_callee (f := 10) rfl ?_); refine goesL_ (some 6) rfl rfl Try.func10 (by kernel_rfl) rfl #[] rfl (by (try simp only [List.map_toArray, List.map_cons, List.map_nil]); first | done | rfl | (simp only [List.length_drop, List.length_take]; rfl)) ?_; (with_reducible refine (hallmootlaw01_sanity.calls k  true _ A3.out).mono ?_); rintro e w20 ⟨rfl, hb⟩; refine ⟨_, rfl, ?_⟩; have n0_ := Aside0.mk (below_step (by repeat (first | (with_reducible first | exact HB.out | apply below_alloc | apply pw_below_drewN | apply below_drew1) | exact HB.out)) hb); clear HB; have HB := n0_; clear n0_; (try clear hb); (try clear hb2); (try clear hk); (try clear hi)) | (go_at_call 27; (with_reducible refine (word_Bit.calls a1 t169 _ A5.out).mono ?_); rintro e w' ⟨rfl, ⟨nd, rfl⟩⟩) | (go_at_call 28; (with_reducible refine (hallmootref01_Bit.calls k a1 t170 _ A6.out).mono ?_); rintro e w' ⟨rfl, ⟨nd, rfl⟩⟩) | (go_at_call 29; (with_reducible refine (word_In.calls a0 a1 t171 _ A8.out).mono ?_); rintro e w' ⟨rfl, ⟨nd, rfl⟩⟩) | (go_at_call 30; (with_reducible refine (hallmootref01_In.calls k a0 a1 t172 _ A9.out).mono ?_); rintro e w' ⟨rfl, ⟨nd, rfl⟩⟩) | (go_at_call 31; (with_reducible refine (word_With.calls a0 a1 t173 _ A11.out).mono ?_); rintro e w' ⟨rfl, ⟨nd, rfl⟩⟩) | (go_at_call 32; (with_reducible refine (hallmootref01_With.calls k a0 a1 t174 _ A12.out).mono ?_); rintro e w' ⟨rfl, ⟨nd, rfl⟩⟩) | (go_at_call 33; (with_reducible refine (word_Without.calls a0 a1 t175 _ A14.out).mono ?_); rintro e w' ⟨rfl, ⟨nd, rfl⟩⟩) | (go_at_call 34; (with_reducible refine (hallmootref01_Without.calls k a0 a1 t176 _ A15.out).mono ?_); rintro e w' ⟨rfl, ⟨nd, rfl⟩⟩) | (go_at_call 36; (with_reducible refine (word_Bits.calls k a0 t177 _ A17.out).mono ?_); rintro e w21 ⟨v178, rfl, ho0, hb⟩; have n0_ := Aside0.mk (Kd.R_lower ho0 (below_size (by repeat (first | (with_reducible first | exact HB.out | apply below_alloc | apply pw_below_drewN | apply below_drew1) | exact HB.out)))); have n1_ := Aside0.mk (below_step (by repeat (first | (with_reducible first | exact HB.out | apply below_alloc | apply pw_below_drewN | apply below_drew1) | exact HB.out)) hb); clear HB; have HO179 := n0_; have HB := n1_; clear n0_ n1_; (try clear hb); (try clear hb2); (try clear hk); (try clear hi); (try clear ho0)) | (go_at_call 37; (with_reducible refine (hallmootref01_Bits.calls k a0 t180 _ A18.out).mono ?_); rintro e w22 ⟨v181, rfl, ho0, hb⟩; have n0_ := Aside0.mk (Kd.R_elder' (by (with_reducible repeat (first | apply Kd.R_alloc | apply Kd.R_drewN | apply Kd.R_drew)); exact HO179.out) (Kd.R_base ho0) hb); have n1_ := Aside0.mk (Kd.R_lower (Kd.R_new' ho0 (Kd.R_lt (by (with_reducible repeat (first | apply Kd.R_alloc | apply Kd.R_drewN | apply Kd.R_drew)); exact HO179.out))) (below_size (by repeat (first | (with_reducible first | exact HB.out | apply below_alloc | apply pw_below_drewN | apply below_drew1) | exact HB.out)))); have n2_ := Aside0.mk (below_step (by repeat (first | (with_reducible first | exact HB.out | apply below_alloc | apply pw_below_drewN | apply below_drew1) | exact HB.out)) hb); clear HO179; clear HB; have HO179 := n0_; have HO182 := n1_; have HB := n2_; clear n0_ n1_ n2_; (try clear hb); (try clear hb2); (try clear hk); (try clear hi); (try clear ho0); obtain ⟨Ao23, co23, eo23⟩ := Kd.R_slice HO179.out; subst eo23; obtain ⟨Ao24, co24, eo24⟩ := Kd.R_slice HO182.out; subst eo24) | (go_at_call 35; (with_reducible refine (hallmootref01_Ints.calls k _ _ t177 _ _ t180 t183 _ ?side1 ?side2 ?side3 ?side4 A19.out).mono ?_); (case side1 => repeat (first | exact (Kd.R_reads' HO179.out).2.2 | (with_reducible refine Kd.C_alloc ?_ _) | (with_reducible refine Kd.C_drewN ?_ _) | (with_reducible refine Kd.C_drew ?_))); (case side2 => exact (Kd.R_reads' HO179.out).2.1); (case side3 => repeat (first | exact (Kd.R_reads' HO182.out).2.2 | (with_reducible refine Kd.C_alloc ?_ _) | (with_reducible refine Kd.C_drewN ?_ _) | (with_reducible refine Kd.C_drew ?_))); (case side4 => exact (Kd.R_reads' HO182.out).2.1); rintro e w' ⟨rfl, ⟨nd, rfl⟩⟩))
            go_ret
            exact ⟨by first | rfl | (simp [errW_none, errW_some] <;> rfl) | (simp [*, errW_none, errW_some] <;> rfl), by repeat (first | (with_reducible first | exact HB.out | apply below_alloc | apply pw_below_drewN | apply below_drew1) | exact HB.out)⟩
          · rw [if_neg c16] at H
            have c16b0 : (t175 == t176) = false := beq_eq_false_iff_ne.mpr c16
            have c16b1 : (t175 != t176) = true := bne_iff_ne.mpr c16
            obtain rfl := Option.some.inj H
            go_enter Try.func5, Try.ntmps5
            go_wp2_with (first | ((with_reducible refine gate_callee (f := 10) rfl ?_); refine goesL_ (some 6) rfl rfl Try.func10 (by kernel_rfl) rfl #[] rfl (by (try simp only [List.map_toArray, List.map_cons, List.map_nil]); first | done | rfl | (simp only [List.length_drop, List.length_take]; rfl)) ?_; (with_reducible refine (hallmootlaw01_sanity.calls k  true _ A3.out).mono ?_); rintro e w25 ⟨rfl, hb⟩; refine ⟨_, rfl, ?_⟩; have n0_ := Aside0.mk (below_step (by repeat (first | (with_reducible first | exact HB.out | apply below_alloc | apply pw_below_drewN | apply below_drew1) | exact HB.out)) hb); clear HB; have HB := n0_; clear n0_; (try clear hb); (try clear hb2); (try clear hk); (try clear hi)) | (go_at_call 27; (with_reducible refine (word_Bit.calls a1 t169 _ A5.out).mono ?_); rintro e w' ⟨rfl, ⟨nd, rfl⟩⟩) | (go_at_call 28; (with_reducible refine (hallmootref01_Bit.calls k a1 t170 _ A6.out).mono ?_); rintro e w' ⟨rfl, ⟨nd, rfl⟩⟩) | (go_at_call 29; (with_reducible refine (word_In.calls a0 a1 t171 _ A8.out).mono ?_); rintro e w' ⟨rfl, ⟨nd, rfl⟩⟩) | (go_at_call 30; (with_reducible refine (hallmootref01_In.calls k a0 a1 t172 _ A9.out).mono ?_); rintro e w' ⟨rfl, ⟨nd, rfl⟩⟩) | (go_at_call 31; (with_reducible refine (word_With.calls a0 a1 t173 _ A11.out).mono ?_); rintro e w' ⟨rfl, ⟨nd, rfl⟩⟩) | (go_at_call 32; (with_reducible refine (hallmootref01_With.calls k a0 a1 t174 _ A12.out).mono ?_); rintro e w' ⟨rfl, ⟨nd, rfl⟩⟩) | (go_at_call 33; (with_reducible refine (word_Without.calls a0 a1 t175 _ A14.out).mono ?_); rintro e w' ⟨rfl, ⟨nd, rfl⟩⟩) | (go_at_call 34; (with_reducible refine (hallmootref01_Without.calls k a0 a1 t176 _ A15.out).mono ?_); rintro e w' ⟨rfl, ⟨nd, rfl⟩⟩))
            go_ret
            exact ⟨by first | rfl | (simp [errW_none, errW_some] <;> rfl) | (simp [*, errW_none, errW_some] <;> rfl), by repeat (first | (with_reducible first | exact HB.out | apply below_alloc | apply pw_below_drewN | apply below_drew1) | exact HB.out)⟩
        · rw [if_neg c13] at H
          have c13b0 : (t173 == t174) = false := beq_eq_false_iff_ne.mpr c13
          have c13b1 : (t173 != t174) = true := bne_iff_ne.mpr c13
          obtain rfl := Option.some.inj H
          go_enter Try.func5, Try.ntmps5
          go_wp2_with (first | ((with_reducible refine gate_callee (f := 10) rfl ?_); refine goesL_ (some 6) rfl rfl Try.func10 (by kernel_rfl) rfl #[] rfl (by (try simp only [List.map_toArray, List.map_cons, List.map_nil]); first | done | rfl | (simp only [List.length_drop, List.length_take]; rfl)) ?_; (with_reducible refine (hallmootlaw01_sanity.calls k  true _ A3.out).mono ?_); rintro e w26 ⟨rfl, hb⟩; refine ⟨_, rfl, ?_⟩; have n0_ := Aside0.mk (below_step (by repeat (first | (with_reducible first | exact HB.out | apply below_alloc | apply pw_below_drewN | apply below_drew1) | exact HB.out)) hb); clear HB; have HB := n0_; clear n0_; (try clear hb); (try clear hb2); (try clear hk); (try clear hi)) | (go_at_call 27; (with_reducible refine (word_Bit.calls a1 t169 _ A5.out).mono ?_); rintro e w' ⟨rfl, ⟨nd, rfl⟩⟩) | (go_at_call 28; (with_reducible refine (hallmootref01_Bit.calls k a1 t170 _ A6.out).mono ?_); rintro e w' ⟨rfl, ⟨nd, rfl⟩⟩) | (go_at_call 29; (with_reducible refine (word_In.calls a0 a1 t171 _ A8.out).mono ?_); rintro e w' ⟨rfl, ⟨nd, rfl⟩⟩) | (go_at_call 30; (with_reducible refine (hallmootref01_In.calls k a0 a1 t172 _ A9.out).mono ?_); rintro e w' ⟨rfl, ⟨nd, rfl⟩⟩) | (go_at_call 31; (with_reducible refine (word_With.calls a0 a1 t173 _ A11.out).mono ?_); rintro e w' ⟨rfl, ⟨nd, rfl⟩⟩) | (go_at_call 32; (with_reducible refine (hallmootref01_With.calls k a0 a1 t174 _ A12.out).mono ?_); rintro e w' ⟨rfl, ⟨nd, rfl⟩⟩))
          go_ret
          exact ⟨by first | rfl | (simp [errW_none, errW_some] <;> rfl) | (simp [*, errW_none, errW_some] <;> rfl), by repeat (first | (with_reducible first | exact HB.out | apply below_alloc | apply pw_below_drewN | apply below_drew1) | exact HB.out)⟩
      · rw [if_neg c10] at H
        have c10b0 : (t171 == t172) = false := by simpa using c10
        (try (have c10b1 : decide (t171 = t172) = false := by simpa using c10))
        (try (have c10b2 : (t171 == t172) = false := by simpa using c10))
        (try (have c10b3 : ¬ (t171 = t172) := by simpa using c10))
        clear c10
        obtain rfl := Option.some.inj H
        go_enter Try.func5, Try.ntmps5
        go_wp2_with (first | ((with_reducible refine gate_callee (f := 10) rfl ?_); refine goesL_ (some 6) rfl rfl Try.func10 (by kernel_rfl) rfl #[] rfl (by (try simp only [List.map_toArray, List.map_cons, List.map_nil]); first | done | rfl | (simp only [List.length_drop, List.length_take]; rfl)) ?_; (with_reducible refine (hallmootlaw01_sanity.calls k  true _ A3.out).mono ?_); rintro e w27 ⟨rfl, hb⟩; refine ⟨_, rfl, ?_⟩; have n0_ := Aside0.mk (below_step (by repeat (first | (with_reducible first | exact HB.out | apply below_alloc | apply pw_below_drewN | apply below_drew1) | exact HB.out)) hb); clear HB; have HB := n0_; clear n0_; (try clear hb); (try clear hb2); (try clear hk); (try clear hi)) | (go_at_call 27; (with_reducible refine (word_Bit.calls a1 t169 _ A5.out).mono ?_); rintro e w' ⟨rfl, ⟨nd, rfl⟩⟩) | (go_at_call 28; (with_reducible refine (hallmootref01_Bit.calls k a1 t170 _ A6.out).mono ?_); rintro e w' ⟨rfl, ⟨nd, rfl⟩⟩) | (go_at_call 29; (with_reducible refine (word_In.calls a0 a1 t171 _ A8.out).mono ?_); rintro e w' ⟨rfl, ⟨nd, rfl⟩⟩) | (go_at_call 30; (with_reducible refine (hallmootref01_In.calls k a0 a1 t172 _ A9.out).mono ?_); rintro e w' ⟨rfl, ⟨nd, rfl⟩⟩))
        go_ret
        exact ⟨by first | rfl | (simp [errW_none, errW_some] <;> rfl) | (simp [*, errW_none, errW_some] <;> rfl), by repeat (first | (with_reducible first | exact HB.out | apply below_alloc | apply pw_below_drewN | apply below_drew1) | exact HB.out)⟩
    · rw [if_neg c7] at H
      have c7b0 : (t169 == t170) = false := beq_eq_false_iff_ne.mpr c7
      have c7b1 : (t169 != t170) = true := bne_iff_ne.mpr c7
      obtain rfl := Option.some.inj H
      go_enter Try.func5, Try.ntmps5
      go_wp2_with (first | ((with_reducible refine gate_callee (f := 10) rfl ?_); refine goesL_ (some 6) rfl rfl Try.func10 (by kernel_rfl) rfl #[] rfl (by (try simp only [List.map_toArray, List.map_cons, List.map_nil]); first | done | rfl | (simp only [List.length_drop, List.length_take]; rfl)) ?_; (with_reducible refine (hallmootlaw01_sanity.calls k  true _ A3.out).mono ?_); rintro e w28 ⟨rfl, hb⟩; refine ⟨_, rfl, ?_⟩; have n0_ := Aside0.mk (below_step (by repeat (first | (with_reducible first | exact HB.out | apply below_alloc | apply pw_below_drewN | apply below_drew1) | exact HB.out)) hb); clear HB; have HB := n0_; clear n0_; (try clear hb); (try clear hb2); (try clear hk); (try clear hi)) | (go_at_call 27; (with_reducible refine (word_Bit.calls a1 t169 _ A5.out).mono ?_); rintro e w' ⟨rfl, ⟨nd, rfl⟩⟩) | (go_at_call 28; (with_reducible refine (hallmootref01_Bit.calls k a1 t170 _ A6.out).mono ?_); rintro e w' ⟨rfl, ⟨nd, rfl⟩⟩))
      go_ret
      exact ⟨by first | rfl | (simp [errW_none, errW_some] <;> rfl) | (simp [*, errW_none, errW_some] <;> rfl), by repeat (first | (with_reducible first | exact HB.out | apply below_alloc | apply pw_below_drewN | apply below_drew1) | exact HB.out)⟩
  · replace c4 := Bool.eq_false_iff.mpr c4
    subst c4
    have H1 : (some false) = some r := by rw [if_neg (show ¬ (false = true) by decide)] at H; exact H
    clear H
    have H := H1
    clear H1
    obtain rfl := Option.some.inj H
    go_enter Try.func5, Try.ntmps5
    go_wp2_with (first | ((with_reducible refine gate_callee (f := 10) rfl ?_); refine goesL_ (some 6) rfl rfl Try.func10 (by kernel_rfl) rfl #[] rfl (by (try simp only [List.map_toArray, List.map_cons, List.map_nil]); first | done | rfl | (simp only [List.length_drop, List.length_take]; rfl)) ?_; (with_reducible refine (hallmootlaw01_sanity.calls k  false _ A3.out).mono ?_); rintro e w29 ⟨rfl, hb⟩; refine ⟨_, rfl, ?_⟩; have n0_ := Aside0.mk (below_step (by repeat (first | (with_reducible first | exact HB.out | apply below_alloc | apply pw_below_drewN | apply below_drew1) | exact HB.out)) hb); clear HB; have HB := n0_; clear n0_; (try clear hb); (try clear hb2); (try clear hk); (try clear hi)))
    go_ret
    exact ⟨by first | rfl | (simp [errW_none, errW_some] <;> rfl) | (simp [*, errW_none, errW_some] <;> rfl), by repeat (first | (with_reducible first | exact HB.out | apply below_alloc | apply pw_below_drewN | apply below_drew1) | exact HB.out)⟩

/-- THE ONE PURE STATEMENT of hallmootlaw01_WordMasks: yours. -/
def hallmootlaw01_WordMasks.Pure : Prop := ∀ (a0 : Int) (a1 : Int), (Lit.int .i64 a0).wf = true → (Lit.int .i64 a1).wf = true → ∃ k, hallmootlaw01_WordMasks.f k a0 a1 = some true
theorem hallmootlaw01_WordMasks.walk (P : hallmootlaw01_WordMasks.Pure) (a0 : Int) (a1 : Int) (w : World) (w0 : (Lit.int .i64 a0).wf = true) (w1 : (Lit.int .i64 a1).wf = true) :
    Calls Try.prog 5 #[.int .i64 a0, .int .i64 a1] w fun e w' => e = .returned (.bool true) ∧ Below w.heap.size w w' := by
  obtain ⟨k, h⟩ := P a0 a1 w0 w1
  refine (hallmootlaw01_WordMasks.calls k a0 a1 true w h).mono ?_
  rintro e w' ⟨rfl, hd⟩
  exact ⟨rfl, hd⟩

/-! ### hallmootlaw01_WordRoundTrip: function 6 -/
def hallmootlaw01_WordRoundTrip.f (k : Nat) (a0 : Int) (a1 : Int) (a2 : Int) : Option (Bool) := (hallmootlaw01_sanity.f k).bind fun t184 => ((word_Free.f (wrap64 (a0))).bind fun t185 => ((word_Held.f (wrap64 (a1))).bind fun t186 => ((word_Status.f (wrap64 (a0)) (wrap64 (Int.tmod a2 4))).bind fun t187 => (if t184 = true then ((word_Locked.f t185).bind fun t188 => (if t188 = true then (some false) else ((word_Ver.f t185).bind fun t189 => (if t189 = (wrap64 (a0)) then ((word_Locked.f t186).bind fun t190 => (if t190 = true then ((word_Who.f t186).bind fun t191 => (if t191 = (wrap64 (a1)) then (if t185 = t186 then (some false) else ((word_Try.f t187).bind fun t192 => (if t192 = (wrap64 (a0)) then ((word_Kind.f t187).bind fun t193 => (some (t193 == (wrap64 (Int.tmod a2 4))))) else (some false)))) else (some false))) else (some false))) else (some false))))) else (some false)))))
theorem hallmootlaw01_WordRoundTrip.mono : ∀ a0 a1 a2 k, LeO (hallmootlaw01_WordRoundTrip.f k a0 a1 a2) (hallmootlaw01_WordRoundTrip.f (k + 1) a0 a1 a2) := by
  intro a0 a1 a2 k
  unfold hallmootlaw01_WordRoundTrip.f
  repeat' first
      | (with_reducible exact hallmootlaw01_sanity.mono _)
      | (with_reducible exact LeO.refl _)
      | (with_reducible exact LeO.none _)
      | (with_reducible refine LeO.ite ?_ ?_)
      | (with_reducible refine LeO.bind ?_ (fun _ => ?_))
      | exact hallmootlaw01_sanity.mono _
      | exact LeO.none _
      | refine LeO.ite ?_ ?_
      | refine LeO.bind ?_ (fun _ => ?_)
set_option maxHeartbeats 8000000 in
set_option maxRecDepth 100000 in
theorem hallmootlaw01_WordRoundTrip.calls (k : Nat) (a0 : Int) (a1 : Int) (a2 : Int) (r : Bool) (w : World) (h : hallmootlaw01_WordRoundTrip.f k a0 a1 a2 = some r) :
    Calls Try.prog 6 #[.int .u32 a0, .int .u32 a1, .int .u8 a2] w fun e w' => e = .returned (.bool r) ∧ Below w.heap.size w w' := by
  have HB := Aside0.mk (Below.refl w.heap.size w)
  have H : ((hallmootlaw01_sanity.f k).bind fun t184 => ((word_Free.f (wrap64 (a0))).bind fun t185 => ((word_Held.f (wrap64 (a1))).bind fun t186 => ((word_Status.f (wrap64 (a0)) (wrap64 (Int.tmod a2 4))).bind fun t187 => (if t184 = true then ((word_Locked.f t185).bind fun t188 => (if t188 = true then (some false) else ((word_Ver.f t185).bind fun t189 => (if t189 = (wrap64 (a0)) then ((word_Locked.f t186).bind fun t190 => (if t190 = true then ((word_Who.f t186).bind fun t191 => (if t191 = (wrap64 (a1)) then (if t185 = t186 then (some false) else ((word_Try.f t187).bind fun t192 => (if t192 = (wrap64 (a0)) then ((word_Kind.f t187).bind fun t193 => (some (t193 == (wrap64 (Int.tmod a2 4))))) else (some false)))) else (some false))) else (some false))) else (some false))))) else (some false)))))) = some r := h
  clear h
  replace H := Option.bind_eq_some_iff.mp H
  obtain ⟨t184, A40, H⟩ := H
  replace H : ((word_Free.f (wrap64 (a0))).bind fun t185 => ((word_Held.f (wrap64 (a1))).bind fun t186 => ((word_Status.f (wrap64 (a0)) (wrap64 (Int.tmod a2 4))).bind fun t187 => (if t184 = true then ((word_Locked.f t185).bind fun t188 => (if t188 = true then (some false) else ((word_Ver.f t185).bind fun t189 => (if t189 = (wrap64 (a0)) then ((word_Locked.f t186).bind fun t190 => (if t190 = true then ((word_Who.f t186).bind fun t191 => (if t191 = (wrap64 (a1)) then (if t185 = t186 then (some false) else ((word_Try.f t187).bind fun t192 => (if t192 = (wrap64 (a0)) then ((word_Kind.f t187).bind fun t193 => (some (t193 == (wrap64 (Int.tmod a2 4))))) else (some false)))) else (some false))) else (some false))) else (some false))))) else (some false))))) = some r := H
  have A4 := Aside0.mk A40
  clear A40
  replace H := Option.bind_eq_some_iff.mp H
  obtain ⟨t185, A50, H⟩ := H
  replace H : ((word_Held.f (wrap64 (a1))).bind fun t186 => ((word_Status.f (wrap64 (a0)) (wrap64 (Int.tmod a2 4))).bind fun t187 => (if t184 = true then ((word_Locked.f t185).bind fun t188 => (if t188 = true then (some false) else ((word_Ver.f t185).bind fun t189 => (if t189 = (wrap64 (a0)) then ((word_Locked.f t186).bind fun t190 => (if t190 = true then ((word_Who.f t186).bind fun t191 => (if t191 = (wrap64 (a1)) then (if t185 = t186 then (some false) else ((word_Try.f t187).bind fun t192 => (if t192 = (wrap64 (a0)) then ((word_Kind.f t187).bind fun t193 => (some (t193 == (wrap64 (Int.tmod a2 4))))) else (some false)))) else (some false))) else (some false))) else (some false))))) else (some false)))) = some r := H
  have A5 := Aside0.mk A50
  clear A50
  replace H := Option.bind_eq_some_iff.mp H
  obtain ⟨t186, A60, H⟩ := H
  replace H : ((word_Status.f (wrap64 (a0)) (wrap64 (Int.tmod a2 4))).bind fun t187 => (if t184 = true then ((word_Locked.f t185).bind fun t188 => (if t188 = true then (some false) else ((word_Ver.f t185).bind fun t189 => (if t189 = (wrap64 (a0)) then ((word_Locked.f t186).bind fun t190 => (if t190 = true then ((word_Who.f t186).bind fun t191 => (if t191 = (wrap64 (a1)) then (if t185 = t186 then (some false) else ((word_Try.f t187).bind fun t192 => (if t192 = (wrap64 (a0)) then ((word_Kind.f t187).bind fun t193 => (some (t193 == (wrap64 (Int.tmod a2 4))))) else (some false)))) else (some false))) else (some false))) else (some false))))) else (some false))) = some r := H
  have A6 := Aside0.mk A60
  clear A60
  replace H := Option.bind_eq_some_iff.mp H
  obtain ⟨t187, A70, H⟩ := H
  replace H : (if t184 = true then ((word_Locked.f t185).bind fun t188 => (if t188 = true then (some false) else ((word_Ver.f t185).bind fun t189 => (if t189 = (wrap64 (a0)) then ((word_Locked.f t186).bind fun t190 => (if t190 = true then ((word_Who.f t186).bind fun t191 => (if t191 = (wrap64 (a1)) then (if t185 = t186 then (some false) else ((word_Try.f t187).bind fun t192 => (if t192 = (wrap64 (a0)) then ((word_Kind.f t187).bind fun t193 => (some (t193 == (wrap64 (Int.tmod a2 4))))) else (some false)))) else (some false))) else (some false))) else (some false))))) else (some false)) = some r := H
  have A7 := Aside0.mk A70
  clear A70
  by_cases c8 : t184 = true
  · subst c8
    have H1 : ((word_Locked.f t185).bind fun t188 => (if t188 = true then (some false) else ((word_Ver.f t185).bind fun t189 => (if t189 = (wrap64 (a0)) then ((word_Locked.f t186).bind fun t190 => (if t190 = true then ((word_Who.f t186).bind fun t191 => (if t191 = (wrap64 (a1)) then (if t185 = t186 then (some false) else ((word_Try.f t187).bind fun t192 => (if t192 = (wrap64 (a0)) then ((word_Kind.f t187).bind fun t193 => (some (t193 == (wrap64 (Int.tmod a2 4))))) else (some false)))) else (some false))) else (some false))) else (some false))))) = some r := by rw [if_pos rfl] at H; exact H
    clear H
    have H := H1
    clear H1
    replace H := Option.bind_eq_some_iff.mp H
    obtain ⟨t188, A90, H⟩ := H
    replace H : (if t188 = true then (some false) else ((word_Ver.f t185).bind fun t189 => (if t189 = (wrap64 (a0)) then ((word_Locked.f t186).bind fun t190 => (if t190 = true then ((word_Who.f t186).bind fun t191 => (if t191 = (wrap64 (a1)) then (if t185 = t186 then (some false) else ((word_Try.f t187).bind fun t192 => (if t192 = (wrap64 (a0)) then ((word_Kind.f t187).bind fun t193 => (some (t193 == (wrap64 (Int.tmod a2 4))))) else (some false)))) else (some false))) else (some false))) else (some false)))) = some r := H
    have A9 := Aside0.mk A90
    clear A90
    by_cases c10 : t188 = true
    · subst c10
      have H1 : (some false) = some r := by rw [if_pos rfl] at H; exact H
      clear H
      have H := H1
      clear H1
      obtain rfl := Option.some.inj H
      go_enter Try.func6, Try.ntmps6
      go_wp2_with (first | ((with_reducible refine gate_callee (f := 10) rfl ?_); refine goesL_ (some 11) rfl rfl Try.func10 (by kernel_rfl) rfl #[] rfl (by (try simp only [List.map_toArray, List.map_cons, List.map_nil]); first | done | rfl | (simp only [List.length_drop, List.length_take]; rfl)) ?_; (with_reducible refine (hallmootlaw01_sanity.calls k  true _ A4.out).mono ?_); rintro e w11 ⟨rfl, hb⟩; refine ⟨_, rfl, ?_⟩; have n0_ := Aside0.mk (below_step (by repeat (first | (with_reducible first | exact HB.out | apply below_alloc | apply pw_below_drewN | apply below_drew1) | exact HB.out)) hb); clear HB; have HB := n0_; clear n0_; (try clear hb); (try clear hb2); (try clear hk); (try clear hi)) | ((with_reducible refine gate_callee (f := 11) rfl ?_); refine goesL_ (some 14) rfl rfl Try.func11 (by kernel_rfl) rfl #[.int .i64 (wrap64 (a0))] rfl (by (try simp only [List.map_toArray, List.map_cons, List.map_nil]); first | done | rfl | (simp only [List.length_drop, List.length_take]; rfl)) ?_; (with_reducible refine (word_Free.calls (wrap64 (a0)) t185 _ A5.out).mono ?_); rintro e w' ⟨rfl, ⟨nd, rfl⟩⟩; refine ⟨_, rfl, ?_⟩) | ((with_reducible refine gate_callee (f := 13) rfl ?_); refine goesL_ (some 17) rfl rfl Try.func13 (by kernel_rfl) rfl #[.int .i64 (wrap64 (a1))] rfl (by (try simp only [List.map_toArray, List.map_cons, List.map_nil]); first | done | rfl | (simp only [List.length_drop, List.length_take]; rfl)) ?_; (with_reducible refine (word_Held.calls (wrap64 (a1)) t186 _ A6.out).mono ?_); rintro e w' ⟨rfl, ⟨nd, rfl⟩⟩; refine ⟨_, rfl, ?_⟩) | ((with_reducible refine gate_callee (f := 21) rfl ?_); refine goesL_ (some 23) rfl rfl Try.func21 (by kernel_rfl) rfl #[.int .i64 (wrap64 (a0)), .int .i64 (wrap64 (Int.tmod a2 4))] rfl (by (try simp only [List.map_toArray, List.map_cons, List.map_nil]); first | done | rfl | (simp only [List.length_drop, List.length_take]; rfl)) ?_; (with_reducible refine (word_Status.calls (wrap64 (a0)) (wrap64 (Int.tmod a2 4)) t187 _ A7.out).mono ?_); rintro e w' ⟨rfl, ⟨nd, rfl⟩⟩; refine ⟨_, rfl, ?_⟩) | (go_at_call 15; (with_reducible refine (word_Locked.calls t185 true _ A9.out).mono ?_); rintro e w' ⟨rfl, ⟨nd, rfl⟩⟩))
      go_ret
      exact ⟨by first | rfl | (simp [errW_none, errW_some] <;> rfl) | (simp [*, errW_none, errW_some] <;> rfl), by repeat (first | (with_reducible first | exact HB.out | apply below_alloc | apply pw_below_drewN | apply below_drew1) | exact HB.out)⟩
    · replace c10 := Bool.eq_false_iff.mpr c10
      subst c10
      have H1 : ((word_Ver.f t185).bind fun t189 => (if t189 = (wrap64 (a0)) then ((word_Locked.f t186).bind fun t190 => (if t190 = true then ((word_Who.f t186).bind fun t191 => (if t191 = (wrap64 (a1)) then (if t185 = t186 then (some false) else ((word_Try.f t187).bind fun t192 => (if t192 = (wrap64 (a0)) then ((word_Kind.f t187).bind fun t193 => (some (t193 == (wrap64 (Int.tmod a2 4))))) else (some false)))) else (some false))) else (some false))) else (some false))) = some r := by rw [if_neg (show ¬ (false = true) by decide)] at H; exact H
      clear H
      have H := H1
      clear H1
      replace H := Option.bind_eq_some_iff.mp H
      obtain ⟨t189, A120, H⟩ := H
      replace H : (if t189 = (wrap64 (a0)) then ((word_Locked.f t186).bind fun t190 => (if t190 = true then ((word_Who.f t186).bind fun t191 => (if t191 = (wrap64 (a1)) then (if t185 = t186 then (some false) else ((word_Try.f t187).bind fun t192 => (if t192 = (wrap64 (a0)) then ((word_Kind.f t187).bind fun t193 => (some (t193 == (wrap64 (Int.tmod a2 4))))) else (some false)))) else (some false))) else (some false))) else (some false)) = some r := H
      have A12 := Aside0.mk A120
      clear A120
      by_cases c13 : t189 = (wrap64 (a0))
      · rw [if_pos c13] at H
        have c13b0 : (t189 == (wrap64 (a0))) = true := beq_iff_eq.mpr c13
        have c13b1 : (t189 != (wrap64 (a0))) = false := bne_eq_false_iff_eq.mpr c13
        clear c13
        replace H := Option.bind_eq_some_iff.mp H
        obtain ⟨t190, A140, H⟩ := H
        replace H : (if t190 = true then ((word_Who.f t186).bind fun t191 => (if t191 = (wrap64 (a1)) then (if t185 = t186 then (some false) else ((word_Try.f t187).bind fun t192 => (if t192 = (wrap64 (a0)) then ((word_Kind.f t187).bind fun t193 => (some (t193 == (wrap64 (Int.tmod a2 4))))) else (some false)))) else (some false))) else (some false)) = some r := H
        have A14 := Aside0.mk A140
        clear A140
        by_cases c15 : t190 = true
        · subst c15
          have H1 : ((word_Who.f t186).bind fun t191 => (if t191 = (wrap64 (a1)) then (if t185 = t186 then (some false) else ((word_Try.f t187).bind fun t192 => (if t192 = (wrap64 (a0)) then ((word_Kind.f t187).bind fun t193 => (some (t193 == (wrap64 (Int.tmod a2 4))))) else (some false)))) else (some false))) = some r := by rw [if_pos rfl] at H; exact H
          clear H
          have H := H1
          clear H1
          replace H := Option.bind_eq_some_iff.mp H
          obtain ⟨t191, A160, H⟩ := H
          replace H : (if t191 = (wrap64 (a1)) then (if t185 = t186 then (some false) else ((word_Try.f t187).bind fun t192 => (if t192 = (wrap64 (a0)) then ((word_Kind.f t187).bind fun t193 => (some (t193 == (wrap64 (Int.tmod a2 4))))) else (some false)))) else (some false)) = some r := H
          have A16 := Aside0.mk A160
          clear A160
          by_cases c17 : t191 = (wrap64 (a1))
          · rw [if_pos c17] at H
            have c17b0 : (t191 == (wrap64 (a1))) = true := beq_iff_eq.mpr c17
            have c17b1 : (t191 != (wrap64 (a1))) = false := bne_eq_false_iff_eq.mpr c17
            clear c17
            by_cases c18 : t185 = t186
            · rw [if_pos c18] at H
              have c18b0 : (t185 == t186) = true := beq_iff_eq.mpr c18
              have c18b1 : (t185 != t186) = false := bne_eq_false_iff_eq.mpr c18
              clear c18
              obtain rfl := Option.some.inj H
              go_enter Try.func6, Try.ntmps6
              go_wp2_with (first | ((with_reducible refine gate_callee (f := 10) rfl ?_); refine goesL_ (some 11) rfl rfl Try.func10 (by kernel_rfl) rfl #[] rfl (by (try simp only [List.map_toArray, List.map_cons, List.map_nil]); first | done | rfl | (simp only [List.length_drop, List.length_take]; rfl)) ?_; (with_reducible refine (hallmootlaw01_sanity.calls k  true _ A4.out).mono ?_); rintro e w19 ⟨rfl, hb⟩; refine ⟨_, rfl, ?_⟩; have n0_ := Aside0.mk (below_step (by repeat (first | (with_reducible first | exact HB.out | apply below_alloc | apply pw_below_drewN | apply below_drew1) | exact HB.out)) hb); clear HB; have HB := n0_; clear n0_; (try clear hb); (try clear hb2); (try clear hk); (try clear hi)) | ((with_reducible refine gate_callee (f := 11) rfl ?_); refine goesL_ (some 14) rfl rfl Try.func11 (by kernel_rfl) rfl #[.int .i64 (wrap64 (a0))] rfl (by (try simp only [List.map_toArray, List.map_cons, List.map_nil]); first | done | rfl | (simp only [List.length_drop, List.length_take]; rfl)) ?_; (with_reducible refine (word_Free.calls (wrap64 (a0)) t185 _ A5.out).mono ?_); rintro e w' ⟨rfl, ⟨nd, rfl⟩⟩; refine ⟨_, rfl, ?_⟩) | ((with_reducible refine gate_callee (f := 13) rfl ?_); refine goesL_ (some 17) rfl rfl Try.func13 (by kernel_rfl) rfl #[.int .i64 (wrap64 (a1))] rfl (by (try simp only [List.map_toArray, List.map_cons, List.map_nil]); first | done | rfl | (simp only [List.length_drop, List.length_take]; rfl)) ?_; (with_reducible refine (word_Held.calls (wrap64 (a1)) t186 _ A6.out).mono ?_); rintro e w' ⟨rfl, ⟨nd, rfl⟩⟩; refine ⟨_, rfl, ?_⟩) | ((with_reducible refine gate_callee (f := 21) rfl ?_); refine goesL_ (some 23) rfl rfl Try.func21 (by kernel_rfl) rfl #[.int .i64 (wrap64 (a0)), .int .i64 (wrap64 (Int.tmod a2 4))] rfl (by (try simp only [List.map_toArray, List.map_cons, List.map_nil]); first | done | rfl | (simp only [List.length_drop, List.length_take]; rfl)) ?_; (with_reducible refine (word_Status.calls (wrap64 (a0)) (wrap64 (Int.tmod a2 4)) t187 _ A7.out).mono ?_); rintro e w' ⟨rfl, ⟨nd, rfl⟩⟩; refine ⟨_, rfl, ?_⟩) | (go_at_call 15; (with_reducible refine (word_Locked.calls t185 false _ A9.out).mono ?_); rintro e w' ⟨rfl, ⟨nd, rfl⟩⟩) | (go_at_call 17; (with_reducible refine (word_Ver.calls t185 t189 _ A12.out).mono ?_); rintro e w' ⟨rfl, ⟨nd, rfl⟩⟩) | (go_at_call 15; (with_reducible refine (word_Locked.calls t186 true _ A14.out).mono ?_); rintro e w' ⟨rfl, ⟨nd, rfl⟩⟩) | (go_at_call 19; (with_reducible refine (word_Who.calls t186 t191 _ A16.out).mono ?_); rintro e w' ⟨rfl, ⟨nd, rfl⟩⟩))
              go_ret
              exact ⟨by first | rfl | (simp [errW_none, errW_some] <;> rfl) | (simp [*, errW_none, errW_some] <;> rfl), by repeat (first | (with_reducible first | exact HB.out | apply below_alloc | apply pw_below_drewN | apply below_drew1) | exact HB.out)⟩
            · rw [if_neg c18] at H
              have c18b0 : (t185 == t186) = false := beq_eq_false_iff_ne.mpr c18
              have c18b1 : (t185 != t186) = true := bne_iff_ne.mpr c18
              replace H := Option.bind_eq_some_iff.mp H
              obtain ⟨t192, A200, H⟩ := H
              replace H : (if t192 = (wrap64 (a0)) then ((word_Kind.f t187).bind fun t193 => (some (t193 == (wrap64 (Int.tmod a2 4))))) else (some false)) = some r := H
              have A20 := Aside0.mk A200
              clear A200
              by_cases c21 : t192 = (wrap64 (a0))
              · rw [if_pos c21] at H
                have c21b0 : (t192 == (wrap64 (a0))) = true := beq_iff_eq.mpr c21
                have c21b1 : (t192 != (wrap64 (a0))) = false := bne_eq_false_iff_eq.mpr c21
                clear c21
                replace H := Option.bind_eq_some_iff.mp H
                obtain ⟨t193, A220, H⟩ := H
                replace H : (some (t193 == (wrap64 (Int.tmod a2 4)))) = some r := H
                have A22 := Aside0.mk A220
                clear A220
                obtain rfl := Option.some.inj H
                go_enter Try.func6, Try.ntmps6
                go_wp2_with (first | ((with_reducible refine gate_callee (f := 10) rfl ?_); refine goesL_ (some 11) rfl rfl Try.func10 (by kernel_rfl) rfl #[] rfl (by (try simp only [List.map_toArray, List.map_cons, List.map_nil]); first | done | rfl | (simp only [List.length_drop, List.length_take]; rfl)) ?_; (with_reducible refine (hallmootlaw01_sanity.calls k  true _ A4.out).mono ?_); rintro e w23 ⟨rfl, hb⟩; refine ⟨_, rfl, ?_⟩; have n0_ := Aside0.mk (below_step (by repeat (first | (with_reducible first | exact HB.out | apply below_alloc | apply pw_below_drewN | apply below_drew1) | exact HB.out)) hb); clear HB; have HB := n0_; clear n0_; (try clear hb); (try clear hb2); (try clear hk); (try clear hi)) | ((with_reducible refine gate_callee (f := 11) rfl ?_); refine goesL_ (some 14) rfl rfl Try.func11 (by kernel_rfl) rfl #[.int .i64 (wrap64 (a0))] rfl (by (try simp only [List.map_toArray, List.map_cons, List.map_nil]); first | done | rfl | (simp only [List.length_drop, List.length_take]; rfl)) ?_; (with_reducible refine (word_Free.calls (wrap64 (a0)) t185 _ A5.out).mono ?_); rintro e w' ⟨rfl, ⟨nd, rfl⟩⟩; refine ⟨_, rfl, ?_⟩) | ((with_reducible refine gate_callee (f := 13) rfl ?_); refine goesL_ (some 17) rfl rfl Try.func13 (by kernel_rfl) rfl #[.int .i64 (wrap64 (a1))] rfl (by (try simp only [List.map_toArray, List.map_cons, List.map_nil]); first | done | rfl | (simp only [List.length_drop, List.length_take]; rfl)) ?_; (with_reducible refine (word_Held.calls (wrap64 (a1)) t186 _ A6.out).mono ?_); rintro e w' ⟨rfl, ⟨nd, rfl⟩⟩; refine ⟨_, rfl, ?_⟩) | ((with_reducible refine gate_callee (f := 21) rfl ?_); refine goesL_ (some 23) rfl rfl Try.func21 (by kernel_rfl) rfl #[.int .i64 (wrap64 (a0)), .int .i64 (wrap64 (Int.tmod a2 4))] rfl (by (try simp only [List.map_toArray, List.map_cons, List.map_nil]); first | done | rfl | (simp only [List.length_drop, List.length_take]; rfl)) ?_; (with_reducible refine (word_Status.calls (wrap64 (a0)) (wrap64 (Int.tmod a2 4)) t187 _ A7.out).mono ?_); rintro e w' ⟨rfl, ⟨nd, rfl⟩⟩; refine ⟨_, rfl, ?_⟩) | (go_at_call 15; (with_reducible refine (word_Locked.calls t185 false _ A9.out).mono ?_); rintro e w' ⟨rfl, ⟨nd, rfl⟩⟩) | (go_at_call 17; (with_reducible refine (word_Ver.calls t185 t189 _ A12.out).mono ?_); rintro e w' ⟨rfl, ⟨nd, rfl⟩⟩) | (go_at_call 15; (with_reducible refine (word_Locked.calls t186 true _ A14.out).mono ?_); rintro e w' ⟨rfl, ⟨nd, rfl⟩⟩) | (go_at_call 19; (with_reducible refine (word_Who.calls t186 t191 _ A16.out).mono ?_); rintro e w' ⟨rfl, ⟨nd, rfl⟩⟩) | (go_at_call 23; (with_reducible refine (word_Try.calls t187 t192 _ A20.out).mono ?_); rintro e w' ⟨rfl, ⟨nd, rfl⟩⟩) | (go_at_call 25; (with_reducible refine (word_Kind.calls t187 t193 _ A22.out).mono ?_); rintro e w' ⟨rfl, ⟨nd, rfl⟩⟩))
                go_ret
                exact ⟨by first | rfl | (simp [errW_none, errW_some] <;> rfl) | (simp [*, errW_none, errW_some] <;> rfl), by repeat (first | (with_reducible first | exact HB.out | apply below_alloc | apply pw_below_drewN | apply below_drew1) | exact HB.out)⟩
              · rw [if_neg c21] at H
                have c21b0 : (t192 == (wrap64 (a0))) = false := beq_eq_false_iff_ne.mpr c21
                have c21b1 : (t192 != (wrap64 (a0))) = true := bne_iff_ne.mpr c21
                obtain rfl := Option.some.inj H
                go_enter Try.func6, Try.ntmps6
                go_wp2_with (first | ((with_reducible refine gate_callee (f := 10) rfl ?_); refine goesL_ (some 11) rfl rfl Try.func10 (by kernel_rfl) rfl #[] rfl (by (try simp only [List.map_toArray, List.map_cons, List.map_nil]); first | done | rfl | (simp only [List.length_drop, List.length_take]; rfl)) ?_; (with_reducible refine (hallmootlaw01_sanity.calls k  true _ A4.out).mono ?_); rintro e w24 ⟨rfl, hb⟩; refine ⟨_, rfl, ?_⟩; have n0_ := Aside0.mk (below_step (by repeat (first | (with_reducible first | exact HB.out | apply below_alloc | apply pw_below_drewN | apply below_drew1) | exact HB.out)) hb); clear HB; have HB := n0_; clear n0_; (try clear hb); (try clear hb2); (try clear hk); (try clear hi)) | ((with_reducible refine gate_callee (f := 11) rfl ?_); refine goesL_ (some 14) rfl rfl Try.func11 (by kernel_rfl) rfl #[.int .i64 (wrap64 (a0))] rfl (by (try simp only [List.map_toArray, List.map_cons, List.map_nil]); first | done | rfl | (simp only [List.length_drop, List.length_take]; rfl)) ?_; (with_reducible refine (word_Free.calls (wrap64 (a0)) t185 _ A5.out).mono ?_); rintro e w' ⟨rfl, ⟨nd, rfl⟩⟩; refine ⟨_, rfl, ?_⟩) | ((with_reducible refine gate_callee (f := 13) rfl ?_); refine goesL_ (some 17) rfl rfl Try.func13 (by kernel_rfl) rfl #[.int .i64 (wrap64 (a1))] rfl (by (try simp only [List.map_toArray, List.map_cons, List.map_nil]); first | done | rfl | (simp only [List.length_drop, List.length_take]; rfl)) ?_; (with_reducible refine (word_Held.calls (wrap64 (a1)) t186 _ A6.out).mono ?_); rintro e w' ⟨rfl, ⟨nd, rfl⟩⟩; refine ⟨_, rfl, ?_⟩) | ((with_reducible refine gate_callee (f := 21) rfl ?_); refine goesL_ (some 23) rfl rfl Try.func21 (by kernel_rfl) rfl #[.int .i64 (wrap64 (a0)), .int .i64 (wrap64 (Int.tmod a2 4))] rfl (by (try simp only [List.map_toArray, List.map_cons, List.map_nil]); first | done | rfl | (simp only [List.length_drop, List.length_take]; rfl)) ?_; (with_reducible refine (word_Status.calls (wrap64 (a0)) (wrap64 (Int.tmod a2 4)) t187 _ A7.out).mono ?_); rintro e w' ⟨rfl, ⟨nd, rfl⟩⟩; refine ⟨_, rfl, ?_⟩) | (go_at_call 15; (with_reducible refine (word_Locked.calls t185 false _ A9.out).mono ?_); rintro e w' ⟨rfl, ⟨nd, rfl⟩⟩) | (go_at_call 17; (with_reducible refine (word_Ver.calls t185 t189 _ A12.out).mono ?_); rintro e w' ⟨rfl, ⟨nd, rfl⟩⟩) | (go_at_call 15; (with_reducible refine (word_Locked.calls t186 true _ A14.out).mono ?_); rintro e w' ⟨rfl, ⟨nd, rfl⟩⟩) | (go_at_call 19; (with_reducible refine (word_Who.calls t186 t191 _ A16.out).mono ?_); rintro e w' ⟨rfl, ⟨nd, rfl⟩⟩) | (go_at_call 23; (with_reducible refine (word_Try.calls t187 t192 _ A20.out).mono ?_); rintro e w' ⟨rfl, ⟨nd, rfl⟩⟩))
                go_ret
                exact ⟨by first | rfl | (simp [errW_none, errW_some] <;> rfl) | (simp [*, errW_none, errW_some] <;> rfl), by repeat (first | (with_reducible first | exact HB.out | apply below_alloc | apply pw_below_drewN | apply below_drew1) | exact HB.out)⟩
          · rw [if_neg c17] at H
            have c17b0 : (t191 == (wrap64 (a1))) = false := beq_eq_false_iff_ne.mpr c17
            have c17b1 : (t191 != (wrap64 (a1))) = true := bne_iff_ne.mpr c17
            obtain rfl := Option.some.inj H
            go_enter Try.func6, Try.ntmps6
            go_wp2_with (first | ((with_reducible refine gate_callee (f := 10) rfl ?_); refine goesL_ (some 11) rfl rfl Try.func10 (by kernel_rfl) rfl #[] rfl (by (try simp only [List.map_toArray, List.map_cons, List.map_nil]); first | done | rfl | (simp only [List.length_drop, List.length_take]; rfl)) ?_; (with_reducible refine (hallmootlaw01_sanity.calls k  true _ A4.out).mono ?_); rintro e w25 ⟨rfl, hb⟩; refine ⟨_, rfl, ?_⟩; have n0_ := Aside0.mk (below_step (by repeat (first | (with_reducible first | exact HB.out | apply below_alloc | apply pw_below_drewN | apply below_drew1) | exact HB.out)) hb); clear HB; have HB := n0_; clear n0_; (try clear hb); (try clear hb2); (try clear hk); (try clear hi)) | ((with_reducible refine gate_callee (f := 11) rfl ?_); refine goesL_ (some 14) rfl rfl Try.func11 (by kernel_rfl) rfl #[.int .i64 (wrap64 (a0))] rfl (by (try simp only [List.map_toArray, List.map_cons, List.map_nil]); first | done | rfl | (simp only [List.length_drop, List.length_take]; rfl)) ?_; (with_reducible refine (word_Free.calls (wrap64 (a0)) t185 _ A5.out).mono ?_); rintro e w' ⟨rfl, ⟨nd, rfl⟩⟩; refine ⟨_, rfl, ?_⟩) | ((with_reducible refine gate_callee (f := 13) rfl ?_); refine goesL_ (some 17) rfl rfl Try.func13 (by kernel_rfl) rfl #[.int .i64 (wrap64 (a1))] rfl (by (try simp only [List.map_toArray, List.map_cons, List.map_nil]); first | done | rfl | (simp only [List.length_drop, List.length_take]; rfl)) ?_; (with_reducible refine (word_Held.calls (wrap64 (a1)) t186 _ A6.out).mono ?_); rintro e w' ⟨rfl, ⟨nd, rfl⟩⟩; refine ⟨_, rfl, ?_⟩) | ((with_reducible refine gate_callee (f := 21) rfl ?_); refine goesL_ (some 23) rfl rfl Try.func21 (by kernel_rfl) rfl #[.int .i64 (wrap64 (a0)), .int .i64 (wrap64 (Int.tmod a2 4))] rfl (by (try simp only [List.map_toArray, List.map_cons, List.map_nil]); first | done | rfl | (simp only [List.length_drop, List.length_take]; rfl)) ?_; (with_reducible refine (word_Status.calls (wrap64 (a0)) (wrap64 (Int.tmod a2 4)) t187 _ A7.out).mono ?_); rintro e w' ⟨rfl, ⟨nd, rfl⟩⟩; refine ⟨_, rfl, ?_⟩) | (go_at_call 15; (with_reducible refine (word_Locked.calls t185 false _ A9.out).mono ?_); rintro e w' ⟨rfl, ⟨nd, rfl⟩⟩) | (go_at_call 17; (with_reducible refine (word_Ver.calls t185 t189 _ A12.out).mono ?_); rintro e w' ⟨rfl, ⟨nd, rfl⟩⟩) | (go_at_call 15; (with_reducible refine (word_Locked.calls t186 true _ A14.out).mono ?_); rintro e w' ⟨rfl, ⟨nd, rfl⟩⟩) | (go_at_call 19; (with_reducible refine (word_Who.calls t186 t191 _ A16.out).mono ?_); rintro e w' ⟨rfl, ⟨nd, rfl⟩⟩))
            go_ret
            exact ⟨by first | rfl | (simp [errW_none, errW_some] <;> rfl) | (simp [*, errW_none, errW_some] <;> rfl), by repeat (first | (with_reducible first | exact HB.out | apply below_alloc | apply pw_below_drewN | apply below_drew1) | exact HB.out)⟩
        · replace c15 := Bool.eq_false_iff.mpr c15
          subst c15
          have H1 : (some false) = some r := by rw [if_neg (show ¬ (false = true) by decide)] at H; exact H
          clear H
          have H := H1
          clear H1
          obtain rfl := Option.some.inj H
          go_enter Try.func6, Try.ntmps6
          go_wp2_with (first | ((with_reducible refine gate_callee (f := 10) rfl ?_); refine goesL_ (some 11) rfl rfl Try.func10 (by kernel_rfl) rfl #[] rfl (by (try simp only [List.map_toArray, List.map_cons, List.map_nil]); first | done | rfl | (simp only [List.length_drop, List.length_take]; rfl)) ?_; (with_reducible refine (hallmootlaw01_sanity.calls k  true _ A4.out).mono ?_); rintro e w26 ⟨rfl, hb⟩; refine ⟨_, rfl, ?_⟩; have n0_ := Aside0.mk (below_step (by repeat (first | (with_reducible first | exact HB.out | apply below_alloc | apply pw_below_drewN | apply below_drew1) | exact HB.out)) hb); clear HB; have HB := n0_; clear n0_; (try clear hb); (try clear hb2); (try clear hk); (try clear hi)) | ((with_reducible refine gate_callee (f := 11) rfl ?_); refine goesL_ (some 14) rfl rfl Try.func11 (by kernel_rfl) rfl #[.int .i64 (wrap64 (a0))] rfl (by (try simp only [List.map_toArray, List.map_cons, List.map_nil]); first | done | rfl | (simp only [List.length_drop, List.length_take]; rfl)) ?_; (with_reducible refine (word_Free.calls (wrap64 (a0)) t185 _ A5.out).mono ?_); rintro e w' ⟨rfl, ⟨nd, rfl⟩⟩; refine ⟨_, rfl, ?_⟩) | ((with_reducible refine gate_callee (f := 13) rfl ?_); refine goesL_ (some 17) rfl rfl Try.func13 (by kernel_rfl) rfl #[.int .i64 (wrap64 (a1))] rfl (by (try simp only [List.map_toArray, List.map_cons, List.map_nil]); first | done | rfl | (simp only [List.length_drop, List.length_take]; rfl)) ?_; (with_reducible refine (word_Held.calls (wrap64 (a1)) t186 _ A6.out).mono ?_); rintro e w' ⟨rfl, ⟨nd, rfl⟩⟩; refine ⟨_, rfl, ?_⟩) | ((with_reducible refine gate_callee (f := 21) rfl ?_); refine goesL_ (some 23) rfl rfl Try.func21 (by kernel_rfl) rfl #[.int .i64 (wrap64 (a0)), .int .i64 (wrap64 (Int.tmod a2 4))] rfl (by (try simp only [List.map_toArray, List.map_cons, List.map_nil]); first | done | rfl | (simp only [List.length_drop, List.length_take]; rfl)) ?_; (with_reducible refine (word_Status.calls (wrap64 (a0)) (wrap64 (Int.tmod a2 4)) t187 _ A7.out).mono ?_); rintro e w' ⟨rfl, ⟨nd, rfl⟩⟩; refine ⟨_, rfl, ?_⟩) | (go_at_call 15; (with_reducible refine (word_Locked.calls t185 false _ A9.out).mono ?_); rintro e w' ⟨rfl, ⟨nd, rfl⟩⟩) | (go_at_call 17; (with_reducible refine (word_Ver.calls t185 t189 _ A12.out).mono ?_); rintro e w' ⟨rfl, ⟨nd, rfl⟩⟩) | (go_at_call 15; (with_reducible refine (word_Locked.calls t186 false _ A14.out).mono ?_); rintro e w' ⟨rfl, ⟨nd, rfl⟩⟩))
          go_ret
          exact ⟨by first | rfl | (simp [errW_none, errW_some] <;> rfl) | (simp [*, errW_none, errW_some] <;> rfl), by repeat (first | (with_reducible first | exact HB.out | apply below_alloc | apply pw_below_drewN | apply below_drew1) | exact HB.out)⟩
      · rw [if_neg c13] at H
        have c13b0 : (t189 == (wrap64 (a0))) = false := beq_eq_false_iff_ne.mpr c13
        have c13b1 : (t189 != (wrap64 (a0))) = true := bne_iff_ne.mpr c13
        obtain rfl := Option.some.inj H
        go_enter Try.func6, Try.ntmps6
        go_wp2_with (first | ((with_reducible refine gate_callee (f := 10) rfl ?_); refine goesL_ (some 11) rfl rfl Try.func10 (by kernel_rfl) rfl #[] rfl (by (try simp only [List.map_toArray, List.map_cons, List.map_nil]); first | done | rfl | (simp only [List.length_drop, List.length_take]; rfl)) ?_; (with_reducible refine (hallmootlaw01_sanity.calls k  true _ A4.out).mono ?_); rintro e w27 ⟨rfl, hb⟩; refine ⟨_, rfl, ?_⟩; have n0_ := Aside0.mk (below_step (by repeat (first | (with_reducible first | exact HB.out | apply below_alloc | apply pw_below_drewN | apply below_drew1) | exact HB.out)) hb); clear HB; have HB := n0_; clear n0_; (try clear hb); (try clear hb2); (try clear hk); (try clear hi)) | ((with_reducible refine gate_callee (f := 11) rfl ?_); refine goesL_ (some 14) rfl rfl Try.func11 (by kernel_rfl) rfl #[.int .i64 (wrap64 (a0))] rfl (by (try simp only [List.map_toArray, List.map_cons, List.map_nil]); first | done | rfl | (simp only [List.length_drop, List.length_take]; rfl)) ?_; (with_reducible refine (word_Free.calls (wrap64 (a0)) t185 _ A5.out).mono ?_); rintro e w' ⟨rfl, ⟨nd, rfl⟩⟩; refine ⟨_, rfl, ?_⟩) | ((with_reducible refine gate_callee (f := 13) rfl ?_); refine goesL_ (some 17) rfl rfl Try.func13 (by kernel_rfl) rfl #[.int .i64 (wrap64 (a1))] rfl (by (try simp only [List.map_toArray, List.map_cons, List.map_nil]); first | done | rfl | (simp only [List.length_drop, List.length_take]; rfl)) ?_; (with_reducible refine (word_Held.calls (wrap64 (a1)) t186 _ A6.out).mono ?_); rintro e w' ⟨rfl, ⟨nd, rfl⟩⟩; refine ⟨_, rfl, ?_⟩) | ((with_reducible refine gate_callee (f := 21) rfl ?_); refine goesL_ (some 23) rfl rfl Try.func21 (by kernel_rfl) rfl #[.int .i64 (wrap64 (a0)), .int .i64 (wrap64 (Int.tmod a2 4))] rfl (by (try simp only [List.map_toArray, List.map_cons, List.map_nil]); first | done | rfl | (simp only [List.length_drop, List.length_take]; rfl)) ?_; (with_reducible refine (word_Status.calls (wrap64 (a0)) (wrap64 (Int.tmod a2 4)) t187 _ A7.out).mono ?_); rintro e w' ⟨rfl, ⟨nd, rfl⟩⟩; refine ⟨_, rfl, ?_⟩) | (go_at_call 15; (with_reducible refine (word_Locked.calls t185 false _ A9.out).mono ?_); rintro e w' ⟨rfl, ⟨nd, rfl⟩⟩) | (go_at_call 17; (with_reducible refine (word_Ver.calls t185 t189 _ A12.out).mono ?_); rintro e w' ⟨rfl, ⟨nd, rfl⟩⟩))
        go_ret
        exact ⟨by first | rfl | (simp [errW_none, errW_some] <;> rfl) | (simp [*, errW_none, errW_some] <;> rfl), by repeat (first | (with_reducible first | exact HB.out | apply below_alloc | apply pw_below_drewN | apply below_drew1) | exact HB.out)⟩
  · replace c8 := Bool.eq_false_iff.mpr c8
    subst c8
    have H1 : (some false) = some r := by rw [if_neg (show ¬ (false = true) by decide)] at H; exact H
    clear H
    have H := H1
    clear H1
    obtain rfl := Option.some.inj H
    go_enter Try.func6, Try.ntmps6
    go_wp2_with (first | ((with_reducible refine gate_callee (f := 10) rfl ?_); refine goesL_ (some 11) rfl rfl Try.func10 (by kernel_rfl) rfl #[] rfl (by (try simp only [List.map_toArray, List.map_cons, List.map_nil]); first | done | rfl | (simp only [List.length_drop, List.length_take]; rfl)) ?_; (with_reducible refine (hallmootlaw01_sanity.calls k  false _ A4.out).mono ?_); rintro e w28 ⟨rfl, hb⟩; refine ⟨_, rfl, ?_⟩; have n0_ := Aside0.mk (below_step (by repeat (first | (with_reducible first | exact HB.out | apply below_alloc | apply pw_below_drewN | apply below_drew1) | exact HB.out)) hb); clear HB; have HB := n0_; clear n0_; (try clear hb); (try clear hb2); (try clear hk); (try clear hi)) | ((with_reducible refine gate_callee (f := 11) rfl ?_); refine goesL_ (some 14) rfl rfl Try.func11 (by kernel_rfl) rfl #[.int .i64 (wrap64 (a0))] rfl (by (try simp only [List.map_toArray, List.map_cons, List.map_nil]); first | done | rfl | (simp only [List.length_drop, List.length_take]; rfl)) ?_; (with_reducible refine (word_Free.calls (wrap64 (a0)) t185 _ A5.out).mono ?_); rintro e w' ⟨rfl, ⟨nd, rfl⟩⟩; refine ⟨_, rfl, ?_⟩) | ((with_reducible refine gate_callee (f := 13) rfl ?_); refine goesL_ (some 17) rfl rfl Try.func13 (by kernel_rfl) rfl #[.int .i64 (wrap64 (a1))] rfl (by (try simp only [List.map_toArray, List.map_cons, List.map_nil]); first | done | rfl | (simp only [List.length_drop, List.length_take]; rfl)) ?_; (with_reducible refine (word_Held.calls (wrap64 (a1)) t186 _ A6.out).mono ?_); rintro e w' ⟨rfl, ⟨nd, rfl⟩⟩; refine ⟨_, rfl, ?_⟩) | ((with_reducible refine gate_callee (f := 21) rfl ?_); refine goesL_ (some 23) rfl rfl Try.func21 (by kernel_rfl) rfl #[.int .i64 (wrap64 (a0)), .int .i64 (wrap64 (Int.tmod a2 4))] rfl (by (try simp only [List.map_toArray, List.map_cons, List.map_nil]); first | done | rfl | (simp only [List.length_drop, List.length_take]; rfl)) ?_; (with_reducible refine (word_Status.calls (wrap64 (a0)) (wrap64 (Int.tmod a2 4)) t187 _ A7.out).mono ?_); rintro e w' ⟨rfl, ⟨nd, rfl⟩⟩; refine ⟨_, rfl, ?_⟩))
    go_ret
    exact ⟨by first | rfl | (simp [errW_none, errW_some] <;> rfl) | (simp [*, errW_none, errW_some] <;> rfl), by repeat (first | (with_reducible first | exact HB.out | apply below_alloc | apply pw_below_drewN | apply below_drew1) | exact HB.out)⟩

/-- THE ONE PURE STATEMENT of hallmootlaw01_WordRoundTrip: yours. -/
def hallmootlaw01_WordRoundTrip.Pure : Prop := ∀ (a0 : Int) (a1 : Int) (a2 : Int), (Lit.int .u32 a0).wf = true → (Lit.int .u32 a1).wf = true → (Lit.int .u8 a2).wf = true → ∃ k, hallmootlaw01_WordRoundTrip.f k a0 a1 a2 = some true
theorem hallmootlaw01_WordRoundTrip.walk (P : hallmootlaw01_WordRoundTrip.Pure) (a0 : Int) (a1 : Int) (a2 : Int) (w : World) (w0 : (Lit.int .u32 a0).wf = true) (w1 : (Lit.int .u32 a1).wf = true) (w2 : (Lit.int .u8 a2).wf = true) :
    Calls Try.prog 6 #[.int .u32 a0, .int .u32 a1, .int .u8 a2] w fun e w' => e = .returned (.bool true) ∧ Below w.heap.size w w' := by
  obtain ⟨k, h⟩ := P a0 a1 a2 w0 w1 w2
  refine (hallmootlaw01_WordRoundTrip.calls k a0 a1 a2 true w h).mono ?_
  rintro e w' ⟨rfl, hd⟩
  exact ⟨rfl, hd⟩

end Go.Proofs.Ytkabmbaghgfffaa.PWord
