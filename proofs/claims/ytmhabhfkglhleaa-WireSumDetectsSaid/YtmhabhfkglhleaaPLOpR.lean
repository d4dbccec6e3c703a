/- The contract of the reference's Open, by hand. -/
import Derived.Test.YtmhabhfkglhleaaPLOp
namespace Go.Proofs.Ytmhabhfkglhleaa.PWire
open Go.RowKit Go.Proofs.YtmhabhfkglhleaaW.PrintWords Go.Proofs.YtmhabhfkglhleaaW.PrintLast Go.Proofs.YtmhabhfkglhleaaW.PrintMore
attribute [local go_sem] max2_int min2_int max_two min_two max_three min_three max_four min_four
set_option linter.unusedVariables false
set_option linter.unusedSimpArgs false

theorem rget_row (k : Nat) (A0 : Option Addr) (n0 c0 : Nat) (l0 : List Int) (r1 r2 r3 : Int) (w : World) (h0 : Rd w A0 n0 c0 l0) (h : hallmootref03_Get.f k l0 = some (r1, r2, r3)) :
    Calls Try.prog 23 #[.slice A0 n0 c0] w fun e w' => e = .returned (.tuple #[.int .i64 r1, .int .i64 r2, .int .i64 r3]) ∧ Aside0 (Below w.heap.size w w') := by
  obtain ⟨rfl, hle, hC⟩ := h0
  refine (hallmootref03_Get.calls k A0 c0 l0 r1 r2 r3 w hC hle h).mono ?_
  rintro e w' ⟨rfl, hb⟩
  exact ⟨rfl, ⟨hb⟩⟩
theorem rsum_row (k : Nat) (A0 : Option Addr) (n0 c0 : Nat) (l0 : List Int) (r : Int) (w : World) (h0 : Rd w A0 n0 c0 l0) (h : hallmootref03_Sum.f k l0 = some r) :
    Calls Try.prog 34 #[.slice A0 n0 c0] w fun e w' => e = .returned (.int .i64 r) ∧ Drawn0 w w' := by
  obtain ⟨rfl, hle, hC⟩ := h0
  exact hallmootref03_Sum.calls k A0 c0 l0 r w hC hle h

set_option maxHeartbeats 2000000 in
set_option maxRecDepth 100000 in
theorem ropen_e1 (k : Nat) (A : Option Addr) (n c : Nat) (l : List Int) (x p : Int) (w : World) (HR0 : Rd w A n c l) (h1 : Aside0 (hallmootref03_Get.f k l = some (x, p, 3))) :
    Calls Try.prog 33 #[.slice A n c] w fun e w' => e = .returned (.tuple #[.slice none 0 0, .int .i64 0, .int .i64 3]) ∧ Below w.heap.size w w' := by
  obtain ⟨rfl, hc0, hC⟩ := HR0
  have HR := Aside0.mk (show Rd w A l.length c l from ⟨rfl, hc0, hC⟩)
  go_enter Try.func33, Try.ntmps33
  go_wp2_with (first | (go_at_call 23; (with_reducible refine (rget_row k A _ c l x p 3 _ ?s1 h1.out).mono ?_); (case s1 => exact HR.out); rintro e w1 ⟨rfl, HB1⟩))
  go_ret3
  exact ⟨rfl, HB1.out⟩
set_option maxHeartbeats 2000000 in
set_option maxRecDepth 100000 in
theorem ropen_e1b (k : Nat) (A : Option Addr) (n c : Nat) (l : List Int) (x p : Int) (w : World) (HR0 : Rd w A n c l) (h1 : Aside0 (hallmootref03_Get.f k l = some (x, p, 0))) (hx : x < 0 ∨ wrap64 ((l.length : Int) - p) < x) :
    Calls Try.prog 33 #[.slice A n c] w fun e w' => e = .returned (.tuple #[.slice none 0 0, .int .i64 0, .int .i64 3]) ∧ Below w.heap.size w w' := by
  obtain ⟨rfl, hc0, hC⟩ := HR0
  have HR := Aside0.mk (show Rd w A l.length c l from ⟨rfl, hc0, hC⟩)
  by_cases hx0 : x < 0
  · have hx1 : decide (x < 0) = true := decide_eq_true hx0
    clear hx
    go_enter Try.func33, Try.ntmps33
    go_wp2_with (first | (go_at_call 23; (with_reducible refine (rget_row k A _ c l x p 0 _ ?s1 h1.out).mono ?_); (case s1 => exact HR.out); rintro e w1 ⟨rfl, HB1⟩))
    go_ret3
    exact ⟨rfl, HB1.out⟩
  · have hx1 : decide (x < 0) = false := decide_eq_false hx0
    have hx2 : decide (wrap64 ((l.length : Int) - p) < x) = true := decide_eq_true (by omega)
    clear hx
    go_enter Try.func33, Try.ntmps33
    go_wp2_with (first | (go_at_call 23; (with_reducible refine (rget_row k A _ c l x p 0 _ ?s1 h1.out).mono ?_); (case s1 => exact HR.out); rintro e w1 ⟨rfl, HB1⟩))
    go_ret3
    exact ⟨rfl, HB1.out⟩
set_option maxHeartbeats 2000000 in
set_option maxRecDepth 100000 in
theorem ropen_e2 (k : Nat) (A : Option Addr) (n c : Nat) (l : List Int) (x p v u : Int) (w : World) (HR0 : Rd w A n c l) (h1 : Aside0 (hallmootref03_Get.f k l = some (x, p, 0)))
    (hp0 : 0 ≤ p) (hp1 : p ≤ wrap64 (p + x)) (hp2 : wrap64 (p + x) ≤ l.length) (hx3 : 0 ≤ x) (hx4 : x ≤ wrap64 ((l.length : Int) - p)) (h2 : Aside0 (hallmootref03_Get.f k (l.drop (wrap64 (p + x)).toNat) = some (v, u, 3))) :
    Calls Try.prog 33 #[.slice A n c] w fun e w' => e = .returned (.tuple #[.slice none 0 0, .int .i64 0, .int .i64 3]) ∧ Below w.heap.size w w' := by
  obtain ⟨i0, hi0, _, hsz0, _⟩ := info_parts info5
  obtain ⟨rfl, hc0, hC⟩ := HR0
  obtain ⟨A', hcut, hA, hC'⟩ := print_drop_of (P := Try.prog) (Value.int .u8) 0 22 5 .i64 Try.underlying22 hi0 hsz0 A c l (wrap64 (p + x)) (by omega) (by omega) hc0
  simp only [List.length_drop] at hcut hC' hA
  have HR2 := Aside0.mk (show Rd w A' (l.length - (wrap64 (p + x)).toNat) (c - (wrap64 (p + x)).toNat) (l.drop (wrap64 (p + x)).toNat) from ⟨List.length_drop, hC', Kd.C_of_reads (h1 := fun _ => rfl) (hA _ (Kd.reads_of_C hC))⟩)
  obtain ⟨A'', hcut2, hA2, hC2⟩ := print_mid_of (P := Try.prog) (Value.int .u8) 0 22 5 .i64 .i64 Try.underlying22 hi0 hsz0 A c l p (wrap64 (p + x)) hp0 hp1 hp2 hc0
  have hln : ((l.take (wrap64 (p + x)).toNat).drop p.toNat).length = (wrap64 (p + x)).toNat - p.toNat := by rw [List.length_drop, List.length_take]; omega
  rw [hln] at hcut2 hA2 hC2
  have HR3 := Aside0.mk (show Rd w A'' ((wrap64 (p + x)).toNat - p.toNat) (c - p.toNat) ((l.take (wrap64 (p + x)).toNat).drop p.toNat) from ⟨hln, hC2, Kd.C_of_reads (h1 := fun _ => rfl) (hA2 _ (Kd.reads_of_C hC))⟩)
  have HR := Aside0.mk (show Rd w A l.length c l from ⟨rfl, hc0, hC⟩)
  clear hA hC hC' hi0 hsz0 hA2 hC2 hln
  have hx0 : decide (x < 0) = false := decide_eq_false (by omega)
  have hx1 : decide (wrap64 ((l.length : Int) - p) < x) = false := decide_eq_false (by omega)
  go_enter Try.func33, Try.ntmps33
  go_wp2_with (first | (go_at_call 23; (with_reducible refine (rget_row k A _ c l x p 0 _ ?s1 h1.out).mono ?_); (case s1 => exact HR.out); rintro e w1 ⟨rfl, HB1⟩) | (go_at_call 23; (with_reducible refine (rget_row k A' _ _ (l.drop (wrap64 (p + x)).toNat) v u 3 _ ?t1 h2.out).mono ?_); (case t1 => exact HR2.out.below HB1.out); rintro e w2 ⟨rfl, HB2⟩))
  go_ret3
  exact ⟨rfl, below_step HB1.out HB2.out⟩
set_option maxHeartbeats 2000000 in
set_option maxRecDepth 100000 in
theorem ropen_e3 (k : Nat) (A : Option Addr) (n c : Nat) (l : List Int) (x p m v u : Int) (w : World) (HR0 : Rd w A n c l) (h1 : Aside0 (hallmootref03_Get.f k l = some (x, p, 0)))
    (hp0 : 0 ≤ p) (hp1 : p ≤ wrap64 (p + x)) (hp2 : wrap64 (p + x) ≤ l.length) (hx3 : 0 ≤ x) (hx4 : x ≤ wrap64 ((l.length : Int) - p)) (h2 : Aside0 (hallmootref03_Get.f k (l.drop (wrap64 (p + x)).toNat) = some (m, u, 0)))
    (h3 : Aside0 (hallmootref03_Sum.f k ((l.take (wrap64 (p + x)).toNat).drop p.toNat) = some v)) (hne : m ≠ v) :
    Calls Try.prog 33 #[.slice A n c] w fun e w' => e = .returned (.tuple #[.slice none 0 0, .int .i64 0, .int .i64 3]) ∧ Below w.heap.size w w' := by
  obtain ⟨i0, hi0, _, hsz0, _⟩ := info_parts info5
  obtain ⟨rfl, hc0, hC⟩ := HR0
  obtain ⟨A', hcut, hA, hC'⟩ := print_drop_of (P := Try.prog) (Value.int .u8) 0 22 5 .i64 Try.underlying22 hi0 hsz0 A c l (wrap64 (p + x)) (by omega) (by omega) hc0
  simp only [List.length_drop] at hcut hC' hA
  have HR2 := Aside0.mk (show Rd w A' (l.length - (wrap64 (p + x)).toNat) (c - (wrap64 (p + x)).toNat) (l.drop (wrap64 (p + x)).toNat) from ⟨List.length_drop, hC', Kd.C_of_reads (h1 := fun _ => rfl) (hA _ (Kd.reads_of_C hC))⟩)
  obtain ⟨A'', hcut2, hA2, hC2⟩ := print_mid_of (P := Try.prog) (Value.int .u8) 0 22 5 .i64 .i64 Try.underlying22 hi0 hsz0 A c l p (wrap64 (p + x)) hp0 hp1 hp2 hc0
  have hln : ((l.take (wrap64 (p + x)).toNat).drop p.toNat).length = (wrap64 (p + x)).toNat - p.toNat := by rw [List.length_drop, List.length_take]; omega
  rw [hln] at hcut2 hA2 hC2
  have HR3 := Aside0.mk (show Rd w A'' ((wrap64 (p + x)).toNat - p.toNat) (c - p.toNat) ((l.take (wrap64 (p + x)).toNat).drop p.toNat) from ⟨hln, hC2, Kd.C_of_reads (h1 := fun _ => rfl) (hA2 _ (Kd.reads_of_C hC))⟩)
  have HR := Aside0.mk (show Rd w A l.length c l from ⟨rfl, hc0, hC⟩)
  clear hA hC hC' hi0 hsz0 hA2 hC2 hln
  have hx0 : decide (x < 0) = false := decide_eq_false (by omega)
  have hx1 : decide (wrap64 ((l.length : Int) - p) < x) = false := decide_eq_false (by omega)
  have c0 : (m == v) = false := beq_eq_false_iff_ne.mpr hne
  have c1 : (m != v) = true := bne_iff_ne.mpr hne
  go_enter Try.func33, Try.ntmps33
  go_wp2_with (first | (go_at_call 23; (with_reducible refine (rget_row k A _ c l x p 0 _ ?s1 h1.out).mono ?_); (case s1 => exact HR.out); rintro e w1 ⟨rfl, HB1⟩) | (go_at_call 23; (with_reducible refine (rget_row k A' _ _ (l.drop (wrap64 (p + x)).toNat) m u 0 _ ?t1 h2.out).mono ?_); (case t1 => exact HR2.out.below HB1.out); rintro e w2 ⟨rfl, HB2⟩) | (go_at_call 34; (with_reducible refine (rsum_row k A'' _ _ ((l.take (wrap64 (p + x)).toNat).drop p.toNat) v _ ?u1 h3.out).mono ?_); (case u1 => exact (HR3.out.below HB1.out).below HB2.out); rintro e w' ⟨rfl, ⟨nd3, rfl⟩⟩))
  go_ret3
  exact ⟨rfl, pw_below_drewN (below_step HB1.out HB2.out) _⟩
set_option maxHeartbeats 2000000 in
set_option maxRecDepth 100000 in
theorem ropen_ok (k : Nat) (A : Option Addr) (n c : Nat) (l : List Int) (x p v u : Int) (w : World) (HR0 : Rd w A n c l) (h1 : Aside0 (hallmootref03_Get.f k l = some (x, p, 0)))
    (hp0 : 0 ≤ p) (hp1 : p ≤ wrap64 (p + x)) (hp2 : wrap64 (p + x) ≤ l.length) (hx3 : 0 ≤ x) (hx4 : x ≤ wrap64 ((l.length : Int) - p)) (h2 : Aside0 (hallmootref03_Get.f k (l.drop (wrap64 (p + x)).toNat) = some (v, u, 0)))
    (h3 : Aside0 (hallmootref03_Sum.f k ((l.take (wrap64 (p + x)).toNat).drop p.toNat) = some v)) :
    Calls Try.prog 33 #[.slice A n c] w fun e w' => ∃ A' c', e = .returned (.tuple #[.slice A' ((wrap64 (p + x)).toNat - p.toNat) c', .int .i64 (wrap64 (wrap64 (p + x) + u)), .int .i64 0]) ∧ Rd w' A' ((wrap64 (p + x)).toNat - p.toNat) c' ((l.take (wrap64 (p + x)).toNat).drop p.toNat) ∧ Below w.heap.size w w' := by
  obtain ⟨i0, hi0, _, hsz0, _⟩ := info_parts info5
  obtain ⟨rfl, hc0, hC⟩ := HR0
  obtain ⟨A', hcut, hA, hC'⟩ := print_drop_of (P := Try.prog) (Value.int .u8) 0 22 5 .i64 Try.underlying22 hi0 hsz0 A c l (wrap64 (p + x)) (by omega) (by omega) hc0
  simp only [List.length_drop] at hcut hC' hA
  have HR2 := Aside0.mk (show Rd w A' (l.length - (wrap64 (p + x)).toNat) (c - (wrap64 (p + x)).toNat) (l.drop (wrap64 (p + x)).toNat) from ⟨List.length_drop, hC', Kd.C_of_reads (h1 := fun _ => rfl) (hA _ (Kd.reads_of_C hC))⟩)
  obtain ⟨A'', hcut2, hA2, hC2⟩ := print_mid_of (P := Try.prog) (Value.int .u8) 0 22 5 .i64 .i64 Try.underlying22 hi0 hsz0 A c l p (wrap64 (p + x)) hp0 hp1 hp2 hc0
  have hln : ((l.take (wrap64 (p + x)).toNat).drop p.toNat).length = (wrap64 (p + x)).toNat - p.toNat := by rw [List.length_drop, List.length_take]; omega
  rw [hln] at hcut2 hA2 hC2
  have HR3 := Aside0.mk (show Rd w A'' ((wrap64 (p + x)).toNat - p.toNat) (c - p.toNat) ((l.take (wrap64 (p + x)).toNat).drop p.toNat) from ⟨hln, hC2, Kd.C_of_reads (h1 := fun _ => rfl) (hA2 _ (Kd.reads_of_C hC))⟩)
  have HR := Aside0.mk (show Rd w A l.length c l from ⟨rfl, hc0, hC⟩)
  clear hA hC hC' hi0 hsz0 hA2 hC2 hln
  have hx0 : decide (x < 0) = false := decide_eq_false (by omega)
  have hx1 : decide (wrap64 ((l.length : Int) - p) < x) = false := decide_eq_false (by omega)
  go_enter Try.func33, Try.ntmps33
  go_wp2_with (first | (go_at_call 23; (with_reducible refine (rget_row k A _ c l x p 0 _ ?s1 h1.out).mono ?_); (case s1 => exact HR.out); rintro e w1 ⟨rfl, HB1⟩) | (go_at_call 23; (with_reducible refine (rget_row k A' _ _ (l.drop (wrap64 (p + x)).toNat) v u 0 _ ?t1 h2.out).mono ?_); (case t1 => exact HR2.out.below HB1.out); rintro e w2 ⟨rfl, HB2⟩) | (go_at_call 34; (with_reducible refine (rsum_row k A'' _ _ ((l.take (wrap64 (p + x)).toNat).drop p.toNat) v _ ?u1 h3.out).mono ?_); (case u1 => exact (HR3.out.below HB1.out).below HB2.out); rintro e w' ⟨rfl, ⟨nd3, rfl⟩⟩))
  go_ret3
  exact ⟨_, _, rfl, ((HR3.out.below HB1.out).below HB2.out).drewN _, pw_below_drewN (below_step HB1.out HB2.out) _⟩
end Go.Proofs.Ytmhabhfkglhleaa.PWire
