/- Contracts in the form in which the walks by hand use them: a row of bytes that is read. -/
import Derived.Test.YtmhabhfkglhleaaPSan
namespace Go.Proofs.Ytmhabhfkglhleaa.PWire
open Go.RowKit Go.Proofs.YtmhabhfkglhleaaW.PrintWords Go.Proofs.YtmhabhfkglhleaaW.PrintLast Go.Proofs.YtmhabhfkglhleaaW.PrintMore
set_option linter.unusedVariables false

/-- A row of bytes is read at A. -/
structure Rd (w : World) (A : Option Addr) (n c : Nat) (l : List Int) : Prop where
  len : l.length = n
  le : n ≤ c
  C : Kd.C (Kd.int .u8) w A n l
theorem Rd.below {w w1 : World} {A : Option Addr} {n c : Nat} {l : List Int} (h : Rd w A n c l) (hb : Below w.heap.size w w1) : Rd w1 A n c l := ⟨h.len, h.le, Kd.C_below h.C hb⟩
theorem Rd.belowB {w0 w w1 : World} {A : Option Addr} {n c : Nat} {l : List Int} (h : Rd w0 A n c l) (hb : Below w0.heap.size w0 w1) : Rd w1 A n c l := ⟨h.len, h.le, Kd.C_below h.C hb⟩
theorem Rd.drewN {w : World} {A : Option Addr} {n c : Nat} {l : List Int} (h : Rd w A n c l) (m : Nat) : Rd (w.drewN m) A n c l := ⟨h.len, h.le, Kd.C_drewN h.C m⟩
theorem Rd.ofR {w : World} {base : Nat} {ok : Nat → Prop} {v : Value} {l : List Int} (h : Kd.R (Kd.int .u8) 5 w base ok v l) : ∃ A c, v = .slice A l.length c ∧ Rd w A l.length c l := by
  obtain ⟨A, c, rfl⟩ := Kd.R_slice h
  have := Kd.R_reads' h
  exact ⟨A, c, rfl, rfl, this.2.1, this.2.2⟩

theorem put_row (k : Nat) (n : Int) (p : List Int) (w : World) (h : wire_Put.f k n = some p) :
    Calls Try.prog 20 #[.int .i64 n] w fun e w' => ∃ A c, e = .returned (.slice A p.length c) ∧ Aside0 (Rd w' A p.length c p) ∧ Aside0 (Kd.R (Kd.int .u8) 5 w' w.heap.size (fun _ => True) (.slice A p.length c) p) ∧ Aside0 (Below w.heap.size w w') := by
  refine (wire_Put.calls k n p w h).mono ?_
  rintro e w' ⟨v, rfl, hR, hb⟩
  obtain ⟨A, c, rfl, hr⟩ := Rd.ofR hR
  exact ⟨A, c, rfl, ⟨hr⟩, ⟨hR⟩, ⟨hb⟩⟩
theorem sanity_row (w : World) : Calls Try.prog 14 #[] w fun e w' => e = .returned (.bool true) ∧ Aside0 (Below w.heap.size w w') := by
  refine (hallmootlaw03_sanity.calls 0 true w rfl).mono ?_
  rintro e w' ⟨rfl, hb⟩
  exact ⟨rfl, ⟨hb⟩⟩
theorem same_row (k : Nat) (A0 : Option Addr) (n0 c0 : Nat) (A1 : Option Addr) (n1 c1 : Nat) (l0 l1 : List Int) (r : Bool) (w : World) (h0 : Rd w A0 n0 c0 l0) (h1 : Rd w A1 n1 c1 l1) (h : hallmootref03_Same.f k l0 l1 = some r) :
    Calls Try.prog 17 #[.slice A0 n0 c0, .slice A1 n1 c1] w fun e w' => e = .returned (.bool r) ∧ Drawn0 w w' :=
  same_len k A0 n0 c0 A1 n1 c1 l0 l1 r w h0.len h1.len h0.C h0.le h1.C h1.le h
theorem get_row (k : Nat) (A0 : Option Addr) (n0 c0 : Nat) (l0 : List Int) (r1 r2 r3 : Int) (w : World) (h0 : Rd w A0 n0 c0 l0) (h : wire_Get.f k l0 = some (r1, r2, r3)) :
    Calls Try.prog 22 #[.slice A0 n0 c0] w fun e w' => e = .returned (.tuple #[.int .i64 r1, .int .i64 r2, .int .i64 r3]) ∧ Drawn0 w w' :=
  get_len k A0 c0 n0 l0 r1 r2 r3 w h0.len h0.C h0.le h
end Go.Proofs.Ytmhabhfkglhleaa.PWire
