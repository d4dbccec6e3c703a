/- The contracts of wire.reader's two closures and of wire.reader. -/
import Derived.Test.YtmhabhfkglhleaaCore2
namespace Go.Proofs.Ytmhabhfkglhleaa.PWire
open Go.RowKit Go.Proofs.YtmhabhfkglhleaaW.PrintWords Go.Proofs.YtmhabhfkglhleaaW.PrintLast Go.Proofs.YtmhabhfkglhleaaW.PrintMore
attribute [local go_sem] max2_int min2_int max_two min_two max_three min_three max_four min_four
set_option linter.unusedVariables false
set_option linter.unusedSimpArgs false

theorem get_len (k : Nat) (A0 : Option Addr) (c0 n : Nat) (l0 : List Int) (r1 r2 r3 : Int) (w : World) (hn : l0.length = n) (hr0 : Kd.C (Kd.int .u8) w A0 n l0) (hc0 : n ≤ c0) (h : wire_Get.f k l0 = some (r1, r2, r3)) :
    Calls Try.prog 22 #[.slice A0 n c0] w fun e w' => e = .returned (.tuple #[.int .i64 r1, .int .i64 r2, .int .i64 r3]) ∧ Drawn0 w w' := by
  subst hn
  exact wire_Get.calls k A0 c0 l0 r1 r2 r3 w hr0 hc0 h

set_option maxHeartbeats 2000000 in
set_option maxRecDepth 100000 in
theorem next_calls (k : Nat) (A0 : Option Addr) (c0 i : Nat) (l0 : List Int) (n used e0 : Int) (bp ap : Addr) (w : World)
    (hb : w.cell? bp = some (.slice A0 l0.length c0)) (ha : w.cell? ap = some (.int .i64 i)) (haf : w.frozen? ap = false)
    (hr0 : Kd.C (Kd.int .u8) w A0 l0.length l0) (hc0 : l0.length ≤ c0) (hi : i ≤ l0.length) (hl : l0.length ≤ 140737488355328)
    (hu : 0 ≤ used) (hu2 : used ≤ 140737488355328) (h : wire_Get.f k (l0.drop i) = some (n, used, e0)) :
    Calls Try.prog 39 #[.pointer (some bp), .pointer (some ap)] w fun e w' => e = .returned (.tuple #[.int .i64 n, .bool (e0 == 0)]) ∧ ∃ m, w' = (w.setCell ap (.int .i64 (i + used))).drewN m := by
  obtain ⟨i0, hi0, _, hsz, _⟩ := info_parts info5
  obtain ⟨A', hcut, hA, hC⟩ := print_drop_of (P := Try.prog) (Value.int .u8) 0 22 5 .i64 Try.underlying22 hi0 hsz A0 c0 l0 i (by omega) (by omega) hc0
  have HR := Aside0.mk (Kd.C_of_reads (h1 := fun _ => rfl) (hA _ (Kd.reads_of_C hr0)))
  have HC := Aside0.mk hC
  have H := Aside0.mk h
  clear hA hC hi0 hsz h hr0
  rw [Int.toNat_natCast] at HR HC
  simp only [Int.toNat_natCast] at hcut
  rw [show (List.drop i l0).length = l0.length - i from List.length_drop] at HR HC hcut
  go_enter Try.func39, Try.ntmps39
  go_wp2_with (first | (go_at_call 22; (with_reducible refine (get_len k _ _ _ (l0.drop i) n used e0 _ ?s1 ?s2 ?s3 H.out).mono ?_); (case s1 => exact List.length_drop); (case s2 => exact HR.out); (case s3 => exact HC.out); rintro e w' ⟨rfl, ⟨nd, rfl⟩⟩))
  go_ret2
  exact ⟨rfl, nd, rfl⟩

set_option maxRecDepth 100000 in
theorem upto_calls (i : Int) (ap : Addr) (w : World) (ha : w.cell? ap = some (.int .i64 i)) :
    Calls Try.prog 40 #[.pointer (some ap)] w fun e w' => e = .returned (.int .i64 i) ∧ w' = w := by
  go_enter Try.func40, Try.ntmps40
  go_wp2
  go_ret
  exact ⟨rfl, rfl⟩

set_option maxRecDepth 100000 in
theorem reader_calls (A0 : Option Addr) (n c0 : Nat) (w : World) :
    Calls Try.prog 37 #[.slice A0 n c0] w fun e w' => e = .returned (.tuple #[.func (.func 39) #[] #[.pointer (some ⟨w.heap.size, 0, none⟩), .pointer (some ⟨w.heap.size + 1, 0, none⟩)], .func (.func 40) #[] #[.pointer (some ⟨w.heap.size + 1, 0, none⟩)]]) ∧
      w' = (w.alloc (.cells #[.slice A0 n c0] 22)).alloc (.cells #[.int .i64 0] 3) := by
  have hmf : ∀ (fn : Fn) (first cap : Array Value) (w : World), (Instr.makeFunc fn first cap).run Try.prog w = .ok (.func fn first cap) w := fun _ _ _ _ => rfl
  go_enter Try.func37, Try.ntmps37
  go_wp2
  go_ret2
  exact ⟨rfl, rfl⟩
end Go.Proofs.Ytmhabhfkglhleaa.PWire
