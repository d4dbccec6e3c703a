/- The walk of the law WireTextRoundTrip, by hand. -/
import Derived.Test.YtmhabhfkglhleaaPApp
import Derived.Test.YtmhabhfkglhleaaPTxtR
import Derived.Test.YtmhabhfkglhleaaPC
namespace Go.Proofs.Ytmhabhfkglhleaa.PWire
open Go.RowKit Go.Proofs.YtmhabhfkglhleaaW.PrintWords Go.Proofs.YtmhabhfkglhleaaW.PrintLast Go.Proofs.YtmhabhfkglhleaaW.PrintMore
attribute [local go_sem] max2_int min2_int max_two min_two max_three min_three max_four min_four
set_option linter.unusedVariables false
set_option linter.unusedSimpArgs false

theorem Rd.head {w : World} {base : Nat} {ok : Nat → Prop} {v : Value} {l : List Int} (hR : Kd.R (Kd.int .u8) 5 w base ok v l) (hp : 0 < l.length) : ∃ g c, v = .slice (some ⟨g, 0, none⟩) l.length c ∧ Rd w (some ⟨g, 0, none⟩) l.length c l := by
  have ho := Kd.own_of_R hR
  obtain ⟨A, c, rfl, hr⟩ := Rd.ofR hR
  rcases ho.2 with ⟨e, h0⟩ | ⟨g, cap, cur, e, _⟩
  · omega
  · simp only [Value.slice.injEq] at e
    obtain ⟨rfl, _, rfl⟩ := e
    exact ⟨g, c, rfl, hr⟩
theorem Rd.take {w : World} {A : Option Addr} {n c : Nat} {l : List Int} (h : Rd w A n c l) (q : Nat) (hq : q ≤ n) : Rd w A q c (l.take q) := by
  have hl := h.len
  refine ⟨by rw [List.length_take]; omega, by have := h.le; omega, ?_⟩
  have hr := Kd.reads_of_C (d := (0 : Int)) h.C
  refine Kd.C_of_reads (d := (0 : Int)) (h1 := fun _ => rfl) ⟨by rw [List.length_take]; omega, by have := hr.2.1; omega, fun hp => ?_⟩
  obtain ⟨ad, e, hc⟩ := hr.2.2 (by omega)
  refine ⟨ad, e, fun j hj => ?_⟩
  rw [hc j (by omega)]
  congr 2
  simp [List.getD, List.getElem?_take, hj]
theorem text_own (k : Nat) (s : ByteArray) (p : List Int) (w : World) (h : wire_Text.f k s = some p) (hp : 0 < p.length) :
    Calls Try.prog 29 #[.string s] w fun e w' => ∃ g c, e = .returned (.slice (some ⟨g, 0, none⟩) p.length c) ∧ Aside0 (Rd w' (some ⟨g, 0, none⟩) p.length c p) ∧ Aside0 (p.length ≤ c) ∧ Aside0 (Below w.heap.size w w') := by
  refine (wire_Text.calls k s p w h).mono ?_
  rintro e w' ⟨v, rfl, hR, hb⟩
  obtain ⟨g, c, rfl, hr⟩ := Rd.head hR hp
  exact ⟨g, c, rfl, ⟨hr⟩, ⟨hr.le⟩, ⟨hb⟩⟩
theorem rtext_row (k : Nat) (s : ByteArray) (p : List Int) (w : World) (h : hallmootref03_Text.f k s = some p) :
    Calls Try.prog 30 #[.string s] w fun e w' => ∃ A c, e = .returned (.slice A p.length c) ∧ Aside0 (Rd w' A p.length c p) ∧ Aside0 (Below w.heap.size w w') := by
  refine (hallmootref03_Text.calls k s p w h).mono ?_
  rintro e w' ⟨v, rfl, hR, hb⟩
  obtain ⟨A, c, rfl, hr⟩ := Rd.ofR hR
  exact ⟨A, c, rfl, ⟨hr⟩, ⟨hb⟩⟩
theorem gtext_row (k : Nat) (A0 : Option Addr) (n0 c0 : Nat) (l0 : List Int) (r1 : ByteArray) (r2 r3 : Int) (w : World) (h0 : Rd w A0 n0 c0 l0) (h : wire_GetText.f k l0 = some (r1, r2, r3)) :
    Calls Try.prog 24 #[.slice A0 n0 c0] w fun e w' => e = .returned (.tuple #[.string r1, .int .i64 r2, .int .i64 r3]) ∧ Drawn0 w w' := by
  obtain ⟨rfl, hle, hC⟩ := h0
  exact wire_GetText.calls k A0 c0 l0 r1 r2 r3 w hC hle h

set_option maxHeartbeats 2000000 in
set_option maxRecDepth 100000 in
theorem tx_walk (k : Nat) (s : ByteArray) (p l : List Int) (A : Option Addr) (m c q : Nat) (w : World) (hs : s.size ≤ 1000) (hp : Aside0 (wire_Text.f k s = some p)) (hpr : Aside0 (hallmootref03_Text.f k s = some p)) (hpos : 0 < p.length) (hlen : p.length ≤ 2000)
    (hq : Aside0 (q + 1 = p.length)) (HR : Aside0 (Rd w A m c l)) (hm : m ≤ 1000) (hnil : Aside0 (A = none → m = 0 ∧ c = 0)) (hg : Aside0 (wire_GetText.f k (p ++ l) = some (s, (p.length : Int), 0)))
    (hg2 : Aside0 (wire_GetText.f k (p.take q) = some ((⟨#[]⟩ : ByteArray), 0, 3))) (hsm : Aside0 (hallmootref03_Same.f k p p = some true)) :
    Calls Try.prog 9 #[.string s, .slice A m c] w fun e w' => e = .returned (.bool true) ∧ Below w.heap.size w w' := by
  have h1 : decide (1000 < (m : Int)) = false := decide_eq_false (by omega)
  have h2 : decide (1000 < m) = false := decide_eq_false (by omega)
  have h3 : decide (1000 < (s.size : Int)) = false := decide_eq_false (by omega)
  have h4 : decide (1000 < s.size) = false := decide_eq_false (by omega)
  go_enter Try.func9, Try.ntmps9
  go_wp2_with (first | (go_at_call 29; (with_reducible refine (text_own k s p _ hp.out hpos).mono ?_); rintro e w1 ⟨g, c1, rfl, HR1, HL1_, HB1⟩; have HL1 := HL1_.out; clear HL1_) | ((with_reducible refine gate_builtin (b := .append) (xs := #[.tmp 29, .tmp 30]) rfl ?_); at_builtin; refine append_tail _ rfl (.tmp 29) (.tmp 30) rfl g p.length p ?a1 ?a2 ?a3 A m c l rfl ?a5 hnil.out ?a6 ?_; (case a1 => rfl); (case a2 => exact ⟨rfl, Nat.le_refl _, HR1.out.C⟩); (case a3 => exact hpos); (case a5 => exact HR.out.below HB1.out); (case a6 => omega); intro A2 c2 w2 HR2_ HB2_; have HR2 := Aside0.mk HR2_; have HB2 := Aside0.mk HB2_; clear HR2_ HB2_) | (go_at_call 24; (with_reducible refine (gtext_row k A2 _ c2 (p ++ l) s (p.length : Int) 0 _ ?s1 hg.out).mono ?_); (case s1 => exact HR2.out); rintro e w' ⟨rfl, ⟨nd, rfl⟩⟩) | (go_at_call 14; (with_reducible refine (sanity_row _).mono ?_); rintro e w3 ⟨rfl, HB3⟩) | (go_at_call 30; (with_reducible refine (rtext_row k s p _ hpr.out).mono ?_); rintro e w4 ⟨A4, c4, rfl, HR4, HB4⟩) | (go_at_call 24; (with_reducible refine (gtext_row k _ (p.length - 1) c1 (p.take q) (⟨#[]⟩ : ByteArray) 0 3 _ ?t1 hg2.out).mono ?_); (case t1 => rw [show p.length - 1 = q from by have := hq.out; omega]; refine Rd.take (n := p.length) ?_ q (by have := hq.out; omega); repeat (first | exact HR1.out | exact HR4.out | (with_reducible refine Rd.drewN ?_ _) | (refine Rd.below ?_ HB4.out) | (refine Rd.below ?_ HB3.out) | (refine Rd.below ?_ HB2.out) | (refine Rd.below ?_ HB1.out))); rintro e w' ⟨rfl, ⟨nd2, rfl⟩⟩) | (go_at_call 24; have hq0 : q = 0 := (by have := hq.out; omega); have Hq0 := Aside0.mk hq0; clear hq0; (with_reducible refine (gtext_row k _ 0 c1 (p.take q) (⟨#[]⟩ : ByteArray) 0 3 _ ?t1 hg2.out).mono ?_); (case t1 => rw [Hq0.out]; refine Rd.take (n := p.length) ?_ 0 (by omega); repeat (first | exact HR1.out | exact HR4.out | (with_reducible refine Rd.drewN ?_ _) | (refine Rd.below ?_ HB4.out) | (refine Rd.below ?_ HB3.out) | (refine Rd.below ?_ HB2.out) | (refine Rd.below ?_ HB1.out))); rintro e w' ⟨rfl, ⟨nd2, rfl⟩⟩) | (go_at_call 17; (with_reducible refine (same_row k _ p.length c1 A4 p.length c4 p p true _ ?s1 ?s2 hsm.out).mono ?_); (case s1 => repeat (first | exact HR1.out | exact HR4.out | (with_reducible refine Rd.drewN ?_ _) | (refine Rd.below ?_ HB4.out) | (refine Rd.below ?_ HB3.out) | (refine Rd.below ?_ HB2.out) | (refine Rd.below ?_ HB1.out))); (case s2 => repeat (first | exact HR1.out | exact HR4.out | (with_reducible refine Rd.drewN ?_ _) | (refine Rd.below ?_ HB4.out) | (refine Rd.below ?_ HB3.out) | (refine Rd.below ?_ HB2.out) | (refine Rd.below ?_ HB1.out))); rintro e w' ⟨rfl, ⟨nd3, rfl⟩⟩))
  all_goals
    go_ret
    exact ⟨by first | rfl | (simp; done) | (simp [*]; done), by repeat (first | exact HB1.out | apply pw_below_drewN | refine below_step ?_ HB4.out | refine below_step ?_ HB3.out | refine below_step ?_ HB2.out)⟩
theorem tx_long (s : ByteArray) (A : Option Addr) (m c : Nat) (w : World) (hm2 : m ≤ 9223372036854775807) (hs2 : s.size ≤ 9223372036854775807) (b1 b2 : Bool) (h1 : decide (1000 < s.size) = b1) (h2 : decide (1000 < m) = b2) (hb : b1 = true ∨ b2 = true) :
    Calls Try.prog 9 #[.string s, .slice A m c] w fun e w' => e = .returned (.bool true) ∧ Below w.heap.size w w' := by
  have h3 : decide (1000 < (m : Int)) = b2 := by rw [← h2, decide_eq_decide]; omega
  have h4 : decide (1000 < (s.size : Int)) = b1 := by rw [← h1, decide_eq_decide]; omega
  rcases hb with rfl | rfl
  · go_enter Try.func9, Try.ntmps9
    go_wp2_with (first | (go_at_call 14; (with_reducible refine (sanity_row _).mono ?_); rintro e w3 ⟨rfl, HB3⟩))
    go_ret
    exact ⟨rfl, HB3.out⟩
  · cases b1 <;> (
      go_enter Try.func9, Try.ntmps9
      go_wp2_with (first | (go_at_call 14; (with_reducible refine (sanity_row _).mono ?_); rintro e w3 ⟨rfl, HB3⟩))
      go_ret
      exact ⟨rfl, HB3.out⟩)
end Go.Proofs.Ytmhabhfkglhleaa.PWire
