/- The walk of the law WireNumsRoundTrip, by hand. -/
import Derived.Test.YtmhabhfkglhleaaPLTx
namespace Go.Proofs.Ytmhabhfkglhleaa.PWire
open Go.RowKit Go.Proofs.YtmhabhfkglhleaaW.PrintWords Go.Proofs.YtmhabhfkglhleaaW.PrintLast Go.Proofs.YtmhabhfkglhleaaW.PrintMore
attribute [local go_sem] max2_int min2_int max_two min_two max_three min_three max_four min_four
set_option linter.unusedVariables false
set_option linter.unusedSimpArgs false

/-- A row of ints is read at A. -/
structure RdI (w : World) (A : Option Addr) (n c : Nat) (l : List Int) : Prop where
  len : l.length = n
  le : n ≤ c
  C : Kd.C (Kd.int .i64) w A n l
theorem RdI.below {w w1 : World} {A : Option Addr} {n c : Nat} {l : List Int} (h : RdI w A n c l) (hb : Below w.heap.size w w1) : RdI w1 A n c l := ⟨h.len, h.le, Kd.C_below h.C hb⟩
theorem RdI.drewN {w : World} {A : Option Addr} {n c : Nat} {l : List Int} (h : RdI w A n c l) (m : Nat) : RdI (w.drewN m) A n c l := ⟨h.len, h.le, Kd.C_drewN h.C m⟩
theorem RdI.ofR {w : World} {base : Nat} {ok : Nat → Prop} {v : Value} {l : List Int} (h : Kd.R (Kd.int .i64) 3 w base ok v l) : ∃ A c, v = .slice A l.length c ∧ RdI w A l.length c l := by
  obtain ⟨A, c, rfl⟩ := Kd.R_slice h
  have := Kd.R_reads' h
  exact ⟨A, c, rfl, rfl, this.2.1, this.2.2⟩
theorem encn_own (k : Nat) (A0 : Option Addr) (n0 c0 : Nat) (l0 p : List Int) (w : World) (h0 : RdI w A0 n0 c0 l0) (h : wire_Nums.f k l0 = some p) (hp : 0 < p.length) :
    Calls Try.prog 31 #[.slice A0 n0 c0] w fun e w' => ∃ g c, e = .returned (.slice (some ⟨g, 0, none⟩) p.length c) ∧ Aside0 (Rd w' (some ⟨g, 0, none⟩) p.length c p) ∧ Aside0 (p.length ≤ c) ∧ Aside0 (Below w.heap.size w w') := by
  refine (nums_len k A0 n0 c0 l0 p w h0.len h0.C h0.le h).mono ?_
  rintro e w' ⟨v, rfl, hR, hb⟩
  obtain ⟨g, c, rfl, hr⟩ := Rd.head hR hp
  exact ⟨g, c, rfl, ⟨hr⟩, ⟨hr.le⟩, ⟨hb⟩⟩
theorem rencn_row (k : Nat) (A0 : Option Addr) (n0 c0 : Nat) (l0 p : List Int) (w : World) (h0 : RdI w A0 n0 c0 l0) (h : hallmootref03_Nums.f k l0 = some p) :
    Calls Try.prog 32 #[.slice A0 n0 c0] w fun e w' => ∃ A c, e = .returned (.slice A p.length c) ∧ Aside0 (Rd w' A p.length c p) ∧ Aside0 (Below w.heap.size w w') := by
  obtain ⟨rfl, hle, hC⟩ := h0
  refine (hallmootref03_Nums.calls k A0 c0 l0 p w hC hle h).mono ?_
  rintro e w' ⟨v, rfl, hR, hb⟩
  obtain ⟨A, c, rfl, hr⟩ := Rd.ofR hR
  exact ⟨A, c, rfl, ⟨hr⟩, ⟨hb⟩⟩
theorem gnums_row (k : Nat) (A0 : Option Addr) (n0 c0 : Nat) (l0 : List Int) (r1 : List Int) (r2 r3 : Int) (w : World) (h0 : Rd w A0 n0 c0 l0) (h : wire_GetNums.f k l0 = some (r1, r2, r3)) :
    Calls Try.prog 26 #[.slice A0 n0 c0] w fun e w' => ∃ A c, e = .returned (.tuple #[.slice A r1.length c, .int .i64 r2, .int .i64 r3]) ∧ Aside0 (RdI w' A r1.length c r1) ∧ Aside0 (Below w.heap.size w w') := by
  obtain ⟨rfl, hle, hC⟩ := h0
  refine (wire_GetNums.calls k A0 c0 l0 r1 r2 r3 w hC hle h).mono ?_
  rintro e w' ⟨v, rfl, hR, hb⟩
  obtain ⟨A, c, rfl, hr⟩ := RdI.ofR hR
  exact ⟨A, c, rfl, ⟨hr⟩, ⟨hb⟩⟩
theorem ints_row (k : Nat) (A0 : Option Addr) (n0 c0 : Nat) (A1 : Option Addr) (n1 c1 : Nat) (l0 l1 : List Int) (r : Bool) (w : World) (h0 : RdI w A0 n0 c0 l0) (h1 : RdI w A1 n1 c1 l1) (h : hallmootref03_Ints.f k l0 l1 = some r) :
    Calls Try.prog 28 #[.slice A0 n0 c0, .slice A1 n1 c1] w fun e w' => e = .returned (.bool r) ∧ Drawn0 w w' :=
  ints_len k A0 n0 c0 A1 n1 c1 l0 l1 r w h0.len h1.len h0.C h0.le h1.C h1.le h

set_option maxHeartbeats 4000000 in
set_option maxRecDepth 100000 in
theorem nm_walk (k : Nat) (s p l : List Int) (A0 : Option Addr) (n0 c0 : Nat) (A : Option Addr) (m c q : Nat) (w : World) (HL : Aside0 (RdI w A0 n0 c0 s)) (hs : n0 ≤ 300) (hp : Aside0 (wire_Nums.f k s = some p)) (hpr : Aside0 (hallmootref03_Nums.f k s = some p)) (hpos : 0 < p.length) (hlen : p.length ≤ 4000)
    (hq : Aside0 (q + 1 = p.length)) (HR : Aside0 (Rd w A m c l)) (hm : m ≤ 1000) (hnil : Aside0 (A = none → m = 0 ∧ c = 0)) (hg : Aside0 (wire_GetNums.f k (p ++ l) = some (s, (p.length : Int), 0)))
    (hg2 : Aside0 (wire_GetNums.f k (p.take q) = some (([] : List Int), 0, 3))) (hsm : Aside0 (hallmootref03_Same.f k p p = some true)) (him : Aside0 (hallmootref03_Ints.f k s s = some true)) :
    Calls Try.prog 10 #[.slice A0 n0 c0, .slice A m c] w fun e w' => e = .returned (.bool true) ∧ Below w.heap.size w w' := by
  have h1 : decide (1000 < (m : Int)) = false := decide_eq_false (by omega)
  have h2 : decide (1000 < m) = false := decide_eq_false (by omega)
  have h3 : decide (300 < (n0 : Int)) = false := decide_eq_false (by omega)
  have h4 : decide (300 < n0) = false := decide_eq_false (by omega)
  go_enter Try.func10, Try.ntmps10
  go_wp2_with (first | (go_at_call 31; (with_reducible refine (encn_own k A0 n0 c0 s p _ HL.out hp.out hpos).mono ?_); rintro e w1 ⟨g, c1, rfl, HR1, HL1_, HB1⟩; have HL1 := HL1_.out; clear HL1_) | ((with_reducible refine gate_builtin (b := .append) (xs := #[.tmp 29, .tmp 30]) rfl ?_); at_builtin; refine append_tail _ rfl (.tmp 29) (.tmp 30) rfl g p.length p ?a1 ?a2 ?a3 A m c l rfl ?a5 hnil.out ?a6 ?_; (case a1 => rfl); (case a2 => exact ⟨rfl, Nat.le_refl _, HR1.out.C⟩); (case a3 => exact hpos); (case a5 => exact HR.out.below HB1.out); (case a6 => omega); intro A2 c2 w2 HR2_ HB2_; have HR2 := Aside0.mk HR2_; have HB2 := Aside0.mk HB2_; clear HR2_ HB2_) | (go_at_call 26; (with_reducible refine (gnums_row k A2 _ c2 (p ++ l) s (p.length : Int) 0 _ ?s1 hg.out).mono ?_); (case s1 => exact HR2.out); rintro e w5 ⟨A5, c5, rfl, HR5, HB5⟩) | (go_at_call 26; (with_reducible refine (gnums_row k _ (p.length - 1) c1 (p.take q) ([] : List Int) 0 3 _ ?t1 hg2.out).mono ?_); (case t1 => rw [show p.length - 1 = q from by have := hq.out; omega]; refine Rd.take (n := p.length) ?_ q (by have := hq.out; omega); repeat (first | exact HR1.out | exact HR4.out | exact HR5.out | exact HL.out | (with_reducible refine Rd.drewN ?_ _) | (refine Rd.below ?_ HB6.out) | (refine Rd.below ?_ HB5.out) | (refine Rd.below ?_ HB4.out) | (refine Rd.below ?_ HB3.out) | (refine Rd.below ?_ HB2.out) | (refine Rd.below ?_ HB1.out))); rintro e w6 ⟨A6, c6, rfl, HR6, HB6⟩) | (go_at_call 26; have hq0 : q = 0 := (by have := hq.out; omega); have Hq0 := Aside0.mk hq0; clear hq0; (with_reducible refine (gnums_row k _ 0 c1 (p.take q) ([] : List Int) 0 3 _ ?t1 hg2.out).mono ?_); (case t1 => rw [Hq0.out]; refine Rd.take (n := p.length) ?_ 0 (by omega); repeat (first | exact HR1.out | exact HR4.out | exact HR5.out | exact HL.out | (with_reducible refine Rd.drewN ?_ _) | (refine Rd.below ?_ HB6.out) | (refine Rd.below ?_ HB5.out) | (refine Rd.below ?_ HB4.out) | (refine Rd.below ?_ HB3.out) | (refine Rd.below ?_ HB2.out) | (refine Rd.below ?_ HB1.out))); rintro e w6 ⟨A6, c6, rfl, HR6, HB6⟩) | (go_at_call 14; (with_reducible refine (sanity_row _).mono ?_); rintro e w3 ⟨rfl, HB3⟩) | (go_at_call 32; (with_reducible refine (rencn_row k A0 n0 c0 s p _ ?s1 hpr.out).mono ?_); (case s1 => repeat (first | exact HR1.out | exact HR4.out | exact HR5.out | exact HL.out | (with_reducible refine RdI.drewN ?_ _) | (refine RdI.below ?_ HB6.out) | (refine RdI.below ?_ HB5.out) | (refine RdI.below ?_ HB4.out) | (refine RdI.below ?_ HB3.out) | (refine RdI.below ?_ HB2.out) | (refine RdI.below ?_ HB1.out))); rintro e w4 ⟨A4, c4, rfl, HR4, HB4⟩) | (go_at_call 17; (with_reducible refine (same_row k _ p.length c1 A4 p.length c4 p p true _ ?s1 ?s2 hsm.out).mono ?_); (case s1 => repeat (first | exact HR1.out | exact HR4.out | exact HR5.out | exact HL.out | (with_reducible refine Rd.drewN ?_ _) | (refine Rd.below ?_ HB6.out) | (refine Rd.below ?_ HB5.out) | (refine Rd.below ?_ HB4.out) | (refine Rd.below ?_ HB3.out) | (refine Rd.below ?_ HB2.out) | (refine Rd.below ?_ HB1.out))); (case s2 => repeat (first | exact HR1.out | exact HR4.out | exact HR5.out | exact HL.out | (with_reducible refine Rd.drewN ?_ _) | (refine Rd.below ?_ HB6.out) | (refine Rd.below ?_ HB5.out) | (refine Rd.below ?_ HB4.out) | (refine Rd.below ?_ HB3.out) | (refine Rd.below ?_ HB2.out) | (refine Rd.below ?_ HB1.out))); rintro e w' ⟨rfl, ⟨nd3, rfl⟩⟩) | (go_at_call 28; (with_reducible refine (ints_row k A5 s.length c5 A0 n0 c0 s s true _ ?s1 ?s2 him.out).mono ?_); (case s1 => repeat (first | exact HR1.out | exact HR4.out | exact HR5.out | exact HL.out | (with_reducible refine RdI.drewN ?_ _) | (refine RdI.below ?_ HB6.out) | (refine RdI.below ?_ HB5.out) | (refine RdI.below ?_ HB4.out) | (refine RdI.below ?_ HB3.out) | (refine RdI.below ?_ HB2.out) | (refine RdI.below ?_ HB1.out))); (case s2 => repeat (first | exact HR1.out | exact HR4.out | exact HR5.out | exact HL.out | (with_reducible refine RdI.drewN ?_ _) | (refine RdI.below ?_ HB6.out) | (refine RdI.below ?_ HB5.out) | (refine RdI.below ?_ HB4.out) | (refine RdI.below ?_ HB3.out) | (refine RdI.below ?_ HB2.out) | (refine RdI.below ?_ HB1.out))); rintro e w' ⟨rfl, ⟨nd4, rfl⟩⟩))
  all_goals
    go_ret
    exact ⟨by first | rfl | (simp; done) | (simp [*]; done), by repeat (first | exact HB1.out | apply pw_below_drewN | refine below_step ?_ HB4.out | refine below_step ?_ HB3.out | refine below_step ?_ HB6.out | refine below_step ?_ HB5.out | refine below_step ?_ HB2.out)⟩
theorem nm_long (A0 : Option Addr) (n0 c0 : Nat) (A : Option Addr) (m c : Nat) (w : World) (hm2 : m ≤ 9223372036854775807) (hs2 : n0 ≤ 9223372036854775807) (b1 b2 : Bool) (h1 : decide (300 < n0) = b1) (h2 : decide (1000 < m) = b2) (hb : b1 = true ∨ b2 = true) :
    Calls Try.prog 10 #[.slice A0 n0 c0, .slice A m c] w fun e w' => e = .returned (.bool true) ∧ Below w.heap.size w w' := by
  have h3 : decide (1000 < (m : Int)) = b2 := by rw [← h2, decide_eq_decide]; omega
  have h4 : decide (300 < (n0 : Int)) = b1 := by rw [← h1, decide_eq_decide]; omega
  rcases hb with rfl | rfl
  · go_enter Try.func10, Try.ntmps10
    go_wp2_with (first | (go_at_call 14; (with_reducible refine (sanity_row _).mono ?_); rintro e w3 ⟨rfl, HB3⟩))
    go_ret
    exact ⟨rfl, HB3.out⟩
  · cases b1 <;> (
      go_enter Try.func10, Try.ntmps10
      go_wp2_with (first | (go_at_call 14; (with_reducible refine (sanity_row _).mono ?_); rintro e w3 ⟨rfl, HB3⟩))
      go_ret
      exact ⟨rfl, HB3.out⟩)
end Go.Proofs.Ytmhabhfkglhleaa.PWire
