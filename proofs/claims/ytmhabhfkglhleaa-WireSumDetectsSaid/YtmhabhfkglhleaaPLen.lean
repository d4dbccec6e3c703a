/- Contracts of Same, Ints, Nums, Sum and Seal at a length in whatever spelling; a literal's row. -/
import Derived.Test.YtmhabhfkglhleaaPB
import Derived.Test.YtmhabhfkglhleaaPTxt
import Derived.Test.YtmhabhfkglhleaaPNumsL
namespace Go.Proofs.Ytmhabhfkglhleaa.PWire
open Go.RowKit Go.Proofs.YtmhabhfkglhleaaW.PrintWords Go.Proofs.YtmhabhfkglhleaaW.PrintLast Go.Proofs.YtmhabhfkglhleaaW.PrintMore
attribute [local go_sem] max2_int min2_int max_two min_two max_three min_three max_four min_four   -- for this text's walks alone
set_option linter.unusedVariables false
set_option linter.unusedSimpArgs false


theorem lit_C (k : IntKind) (W : World) (xs : List Int) (e b : Nat) (hb : W.heap.size = b) (hl : xs.length ≤ 9223372036854775807 := by decide) : Kd.C (Kd.int k) (W.alloc (.cells (xs.map (Value.int k)).toArray e)) (some ⟨b, 0, none⟩) xs.length xs := by
  subst hb
  refine Kd.C_of_reads (d := (0 : Int)) (h1 := fun _ => rfl) ⟨rfl, hl, fun _ => ⟨_, rfl, fun j hj => ?_⟩⟩
  rw [Addr.add_lit, Nat.zero_add, World.cell?_alloc_at _ _ _ _ rfl]
  simp [List.getD, hj]
theorem same_len (k : Nat) (A0 : Option Addr) (n0 c0 : Nat) (A1 : Option Addr) (n1 c1 : Nat) (l0 l1 : List Int) (r : Bool) (w : World) (e0 : l0.length = n0) (e1 : l1.length = n1)
    (hr0 : Kd.C (Kd.int .u8) w A0 n0 l0) (hc0 : n0 ≤ c0) (hr1 : Kd.C (Kd.int .u8) w A1 n1 l1) (hc1 : n1 ≤ c1) (h : hallmootref03_Same.f k l0 l1 = some r) :
    Calls Try.prog 17 #[.slice A0 n0 c0, .slice A1 n1 c1] w fun e w' => e = .returned (.bool r) ∧ Drawn0 w w' := by
  subst e0 e1
  exact hallmootref03_Same.calls k A0 c0 l0 A1 c1 l1 r w hr0 hc0 hr1 hc1 h
theorem ints_len (k : Nat) (A0 : Option Addr) (n0 c0 : Nat) (A1 : Option Addr) (n1 c1 : Nat) (l0 l1 : List Int) (r : Bool) (w : World) (e0 : l0.length = n0) (e1 : l1.length = n1)
    (hr0 : Kd.C (Kd.int .i64) w A0 n0 l0) (hc0 : n0 ≤ c0) (hr1 : Kd.C (Kd.int .i64) w A1 n1 l1) (hc1 : n1 ≤ c1) (h : hallmootref03_Ints.f k l0 l1 = some r) :
    Calls Try.prog 28 #[.slice A0 n0 c0, .slice A1 n1 c1] w fun e w' => e = .returned (.bool r) ∧ Drawn0 w w' := by
  subst e0 e1
  exact hallmootref03_Ints.calls k A0 c0 l0 A1 c1 l1 r w hr0 hc0 hr1 hc1 h
theorem nums_len (k : Nat) (A0 : Option Addr) (n0 c0 : Nat) (l0 r : List Int) (w : World) (e0 : l0.length = n0) (hr0 : Kd.C (Kd.int .i64) w A0 n0 l0) (hc0 : n0 ≤ c0) (h : wire_Nums.f k l0 = some r) :
    Calls Try.prog 31 #[.slice A0 n0 c0] w fun e w' => ∃ v0_ : Value, e = .returned v0_ ∧ Kd.R (Kd.int .u8) 5 w' w.heap.size (fun _ => True) v0_ r ∧ Below w.heap.size w w' := by
  subst e0
  exact wire_Nums.calls k A0 c0 l0 r w hr0 hc0 h
theorem sum_len (k : Nat) (A0 : Option Addr) (n0 c0 : Nat) (l0 : List Int) (r : Int) (w : World) (e0 : l0.length = n0) (hr0 : Kd.C (Kd.int .u8) w A0 n0 l0) (hc0 : n0 ≤ c0) (h : wire_Sum.f k l0 = some r) :
    Calls Try.prog 19 #[.slice A0 n0 c0] w fun e w' => e = .returned (.int .i64 r) ∧ Drawn0 w w' := by
  subst e0
  exact wire_Sum.calls k A0 c0 l0 r w hr0 hc0 h
theorem seal_len (k : Nat) (A0 : Option Addr) (n0 c0 : Nat) (l0 r : List Int) (w : World) (e0 : l0.length = n0) (hr0 : Kd.C (Kd.int .u8) w A0 n0 l0) (hc0 : n0 ≤ c0) (h : wire_Seal.f k l0 = some r) :
    Calls Try.prog 15 #[.slice A0 n0 c0] w fun e w' => ∃ v0_ : Value, e = .returned v0_ ∧ Kd.R (Kd.int .u8) 5 w' w.heap.size (fun _ => True) v0_ r ∧ Below w.heap.size w w' := by
  subst e0
  exact wire_Seal.calls k A0 c0 l0 r w hr0 hc0 h
end Go.Proofs.Ytmhabhfkglhleaa.PWire
