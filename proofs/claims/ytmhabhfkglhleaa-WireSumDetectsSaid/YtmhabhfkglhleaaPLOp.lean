/- The contract of wire.Open, by hand. -/
import Derived.Test.YtmhabhfkglhleaaPLTx
namespace Go.Proofs.Ytmhabhfkglhleaa.PWire
open Go.RowKit Go.Proofs.YtmhabhfkglhleaaW.PrintWords Go.Proofs.YtmhabhfkglhleaaW.PrintLast Go.Proofs.YtmhabhfkglhleaaW.PrintMore
attribute [local go_sem] max2_int min2_int max_two min_two max_three min_three max_four min_four
set_option linter.unusedVariables false
set_option linter.unusedSimpArgs false

theorem Rd.bytes (W : World) (s : ByteArray) (hs : s.size ≤ 9223372036854775807) : Rd (Lib.bytesWorld W 5 s) (some ⟨W.heap.size, 0, none⟩) s.size (grownCap W s.size 0 5) (bytesOf s) :=
  ⟨bytesOf_length s, grownCap_ge _ _ _ _, Kd.C_of_reads (d := (0 : Int)) (h1 := fun _ => rfl) (bytes_reads W 5 s hs)⟩
theorem sum_row (k : Nat) (A0 : Option Addr) (n0 c0 : Nat) (l0 : List Int) (r : Int) (w : World) (h0 : Rd w A0 n0 c0 l0) (h : wire_Sum.f k l0 = some r) :
    Calls Try.prog 19 #[.slice A0 n0 c0] w fun e w' => e = .returned (.int .i64 r) ∧ Drawn0 w w' :=
  sum_len k A0 n0 c0 l0 r w h0.len h0.C h0.le h
theorem bytes_below' {B : Nat} {w W : World} (h : Below B w W) (hB : B ≤ W.heap.size) (s : ByteArray) : Below B w (Lib.bytesWorld W 5 s) := bytes_below h hB 5 s

set_option maxHeartbeats 2000000 in
set_option maxRecDepth 100000 in
theorem open_e1 (k : Nat) (A : Option Addr) (n c : Nat) (l : List Int) (s : ByteArray) (p : Int) (w : World) (HR0 : Rd w A n c l) (h1 : Aside0 (wire_GetText.f k l = some (s, p, 3))) :
    Calls Try.prog 16 #[.slice A n c] w fun e w' => e = .returned (.tuple #[.slice none 0 0, .int .i64 0, .int .i64 3]) ∧ Below w.heap.size w w' := by
  have HR := Aside0.mk HR0
  clear HR0
  go_enter Try.func16, Try.ntmps16
  go_wp2_with (first | (go_at_call 24; (with_reducible refine (gtext_row k A _ c l s p 3 _ ?s1 h1.out).mono ?_); (case s1 => exact HR.out); rintro e w' ⟨rfl, ⟨nd, rfl⟩⟩))
  go_ret3
  exact ⟨rfl, by repeat (first | exact Below.refl _ _ | apply pw_below_drewN)⟩
set_option maxHeartbeats 2000000 in
set_option maxRecDepth 100000 in
theorem open_e2 (k : Nat) (A : Option Addr) (n c : Nat) (l : List Int) (s : ByteArray) (p v u : Int) (w : World) (HR0 : Rd w A n c l) (h1 : Aside0 (wire_GetText.f k l = some (s, p, 0)))
    (hp0 : 0 ≤ p) (hp1 : p ≤ l.length) (h2 : Aside0 (wire_Get.f k (l.drop p.toNat) = some (v, u, 3))) :
    Calls Try.prog 16 #[.slice A n c] w fun e w' => e = .returned (.tuple #[.slice none 0 0, .int .i64 0, .int .i64 3]) ∧ Below w.heap.size w w' := by
  obtain ⟨i0, hi0, _, hsz0, _⟩ := info_parts info5
  obtain ⟨rfl, hc0, hC⟩ := HR0
  obtain ⟨A', hcut, hA, hC'⟩ := print_drop_of (P := Try.prog) (Value.int .u8) 0 22 5 .i64 Try.underlying22 hi0 hsz0 A c l p (by omega) (by omega) hc0
  simp only [List.length_drop] at hcut hC' hA
  have HR2 := Aside0.mk (show Rd w A' (l.length - p.toNat) (c - p.toNat) (l.drop p.toNat) from ⟨List.length_drop, hC', Kd.C_of_reads (h1 := fun _ => rfl) (hA _ (Kd.reads_of_C hC))⟩)
  have HR := Aside0.mk (show Rd w A l.length c l from ⟨rfl, hc0, hC⟩)
  clear hA hC hC' hi0 hsz0
  go_enter Try.func16, Try.ntmps16
  go_wp2_with (first | (go_at_call 24; (with_reducible refine (gtext_row k A _ c l s p 0 _ ?s1 h1.out).mono ?_); (case s1 => exact HR.out); rintro e w' ⟨rfl, ⟨nd, rfl⟩⟩) | (go_at_call 22; (with_reducible refine (get_row k A' _ _ (l.drop p.toNat) v u 3 _ ?t1 h2.out).mono ?_); (case t1 => exact HR2.out.drewN _); rintro e w' ⟨rfl, ⟨nd2, rfl⟩⟩))
  go_ret3
  exact ⟨rfl, by repeat (first | exact Below.refl _ _ | apply pw_below_drewN)⟩
set_option maxHeartbeats 2000000 in
set_option maxRecDepth 100000 in
theorem open_e3 (k : Nat) (A : Option Addr) (n c : Nat) (l : List Int) (s : ByteArray) (p m u v : Int) (w : World) (HR0 : Rd w A n c l) (h1 : Aside0 (wire_GetText.f k l = some (s, p, 0)))
    (hp0 : 0 ≤ p) (hp1 : p ≤ l.length) (h2 : Aside0 (wire_Get.f k (l.drop p.toNat) = some (m, u, 0))) (h3 : Aside0 (wire_Sum.f k (bytesOf s) = some v)) (hsz : s.size ≤ 9223372036854775807) (hne : m ≠ v) :
    Calls Try.prog 16 #[.slice A n c] w fun e w' => e = .returned (.tuple #[.slice none 0 0, .int .i64 0, .int .i64 3]) ∧ Below w.heap.size w w' := by
  obtain ⟨i0, hi0, _, hsz0, _⟩ := info_parts info5
  obtain ⟨rfl, hc0, hC⟩ := HR0
  obtain ⟨A', hcut, hA, hC'⟩ := print_drop_of (P := Try.prog) (Value.int .u8) 0 22 5 .i64 Try.underlying22 hi0 hsz0 A c l p (by omega) (by omega) hc0
  simp only [List.length_drop] at hcut hC' hA
  have HR2 := Aside0.mk (show Rd w A' (l.length - p.toNat) (c - p.toNat) (l.drop p.toNat) from ⟨List.length_drop, hC', Kd.C_of_reads (h1 := fun _ => rfl) (hA _ (Kd.reads_of_C hC))⟩)
  have HR := Aside0.mk (show Rd w A l.length c l from ⟨rfl, hc0, hC⟩)
  clear hA hC hC' hi0 hsz0
  have kb := fun W => print_bytes (P := Try.prog) 9 22 5 Try.underlying9 Try.underlying22 Try.underlying5 s W
  have c0 : (m == v) = false := beq_eq_false_iff_ne.mpr hne
  have c1 : (m != v) = true := bne_iff_ne.mpr hne
  go_enter Try.func16, Try.ntmps16
  go_wp2_with (first | (go_at_call 24; (with_reducible refine (gtext_row k A _ c l s p 0 _ ?s1 h1.out).mono ?_); (case s1 => exact HR.out); rintro e w' ⟨rfl, ⟨nd, rfl⟩⟩) | (go_at_call 22; (with_reducible refine (get_row k A' _ _ (l.drop p.toNat) m u 0 _ ?t1 h2.out).mono ?_); (case t1 => exact HR2.out.drewN _); rintro e w' ⟨rfl, ⟨nd2, rfl⟩⟩) | (go_at_call 19; (with_reducible refine (sum_row k _ s.size _ (bytesOf s) v _ ?u1 h3.out).mono ?_); (case u1 => exact Rd.bytes _ s hsz); rintro e w' ⟨rfl, ⟨nd3, rfl⟩⟩))
  go_ret3
  exact ⟨rfl, pw_below_drewN (bytes_below' (pw_below_drewN (Below.refl _ _) _) (Nat.le_refl _) _) _⟩
set_option maxHeartbeats 2000000 in
set_option maxRecDepth 100000 in
theorem open_ok (k : Nat) (A : Option Addr) (n c : Nat) (l : List Int) (s : ByteArray) (p v u : Int) (w : World) (HR0 : Rd w A n c l) (h1 : Aside0 (wire_GetText.f k l = some (s, p, 0)))
    (hp0 : 0 ≤ p) (hp1 : p ≤ l.length) (h2 : Aside0 (wire_Get.f k (l.drop p.toNat) = some (v, u, 0))) (h3 : Aside0 (wire_Sum.f k (bytesOf s) = some v)) (hsz : s.size ≤ 9223372036854775807) :
    Calls Try.prog 16 #[.slice A n c] w fun e w' => ∃ A' c', e = .returned (.tuple #[.slice A' s.size c', .int .i64 (wrap64 (p + u)), .int .i64 0]) ∧ Rd w' A' s.size c' (bytesOf s) ∧ Below w.heap.size w w' := by
  obtain ⟨i0, hi0, _, hsz0, _⟩ := info_parts info5
  obtain ⟨rfl, hc0, hC⟩ := HR0
  obtain ⟨A', hcut, hA, hC'⟩ := print_drop_of (P := Try.prog) (Value.int .u8) 0 22 5 .i64 Try.underlying22 hi0 hsz0 A c l p (by omega) (by omega) hc0
  simp only [List.length_drop] at hcut hC' hA
  have HR2 := Aside0.mk (show Rd w A' (l.length - p.toNat) (c - p.toNat) (l.drop p.toNat) from ⟨List.length_drop, hC', Kd.C_of_reads (h1 := fun _ => rfl) (hA _ (Kd.reads_of_C hC))⟩)
  have HR := Aside0.mk (show Rd w A l.length c l from ⟨rfl, hc0, hC⟩)
  clear hA hC hC' hi0 hsz0
  have kb := fun W => print_bytes (P := Try.prog) 9 22 5 Try.underlying9 Try.underlying22 Try.underlying5 s W
  go_enter Try.func16, Try.ntmps16
  go_wp2_with (first | (go_at_call 24; (with_reducible refine (gtext_row k A _ c l s p 0 _ ?s1 h1.out).mono ?_); (case s1 => exact HR.out); rintro e w' ⟨rfl, ⟨nd, rfl⟩⟩) | (go_at_call 22; (with_reducible refine (get_row k A' _ _ (l.drop p.toNat) v u 0 _ ?t1 h2.out).mono ?_); (case t1 => exact HR2.out.drewN _); rintro e w' ⟨rfl, ⟨nd2, rfl⟩⟩) | (go_at_call 19; (with_reducible refine (sum_row k _ s.size _ (bytesOf s) v _ ?u1 h3.out).mono ?_); (case u1 => exact Rd.bytes _ s hsz); rintro e w' ⟨rfl, ⟨nd3, rfl⟩⟩))
  go_ret3
  exact ⟨_, _, rfl, Rd.bytes _ s hsz, bytes_below' (pw_below_drewN (bytes_below' (pw_below_drewN (Below.refl _ _) _) (Nat.le_refl _) _) _) (by show w.heap.size ≤ (Lib.bytesWorld _ 5 s).heap.size; rw [Lib.bytesWorld_size]; exact Nat.le_succ _) _⟩
end Go.Proofs.Ytmhabhfkglhleaa.PWire
