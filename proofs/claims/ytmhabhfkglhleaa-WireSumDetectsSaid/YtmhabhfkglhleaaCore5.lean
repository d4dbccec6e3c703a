/- Open, of wire and of the reference: one law in plain lists, and both contracts out of it. -/
import Derived.Test.YtmhabhfkglhleaaCore4
import Derived.Test.YtmhabhfkglhleaaPLOpR
namespace Go.Proofs.Ytmhabhfkglhleaa.Core
open Go.RowKit Go.Proofs.Ytmhabhfkglhleaa.PWire Go.Proofs.YtmhabhfkglhleaaW.PrintWords Go.Proofs.YtmhabhfkglhleaaW.PrintLast Go.Proofs.YtmhabhfkglhleaaW.PrintMore
open Go.Proofs.Ytmhabhfkglhleaa.Math
set_option linter.unusedVariables false

def openS (l : List Int) : List Int × Int × Int :=
  if (gtext l).2.2 = 0 ∧ (dget (l.drop (gtext l).2.1.toNat)).2.2 = 0 ∧ (dget (l.drop (gtext l).2.1.toNat)).1 = sum (bytesOf (gtext l).1) then
    (bytesOf (gtext l).1, (gtext l).2.1 + (dget (l.drop (gtext l).2.1.toNat)).2.1, 0)
  else ([], 0, 3)
def mid (l : List Int) (u x : Int) : List Int := (l.take (u + x).toNat).drop u.toNat
theorem open_cases {l : List Int} (hb : Bytes l) :
    (dget l = (0, 0, 3) ∧ gtext l = (⟨#[]⟩, 0, 3) ∧ openS l = ([], 0, 3)) ∨ ∃ x u, dget l = (x, u, 0) ∧ 1 ≤ u ∧ u ≤ l.length ∧ W64 x ∧
      (((x < 0 ∨ (l.length : Int) - u < x) ∧ gtext l = (⟨#[]⟩, 0, 3) ∧ openS l = ([], 0, 3)) ∨
        (0 ≤ x ∧ u + x ≤ l.length ∧ gtext l = (strOfNums (mid l u x), u + x, 0) ∧
          ((dget (l.drop (u + x).toNat) = (0, 0, 3) ∧ openS l = ([], 0, 3)) ∨ ∃ y v, dget (l.drop (u + x).toNat) = (y, v, 0) ∧ 1 ≤ v ∧ v ≤ l.length ∧
            ((y ≠ sum (mid l u x) ∧ openS l = ([], 0, 3)) ∨ (y = sum (mid l u x) ∧ openS l = (mid l u x, u + x + v, 0)))))) := by
  have hd := dget_bounds hb
  have hg : gtext l = if (dget l).2.2 = 0 ∧ 0 ≤ (dget l).1 ∧ (dget l).1 ≤ (l.length : Int) - (dget l).2.1 then
    (strOfNums ((l.take ((dget l).2.1 + (dget l).1).toNat).drop (dget l).2.1.toNat), (dget l).2.1 + (dget l).1, 0)
  else (⟨#[]⟩, 0, 3) := rfl
  rcases hd with h | ⟨h0, h1, h2, h3⟩
  · left
    rw [h, if_neg (fun hh => absurd hh.1 (by decide))] at hg
    refine ⟨h, hg, ?_⟩
    unfold openS
    rw [hg, if_neg (fun hh => absurd hh.1 (by decide))]
  · right
    generalize hz : dget l = z at *
    obtain ⟨x, u, e⟩ := z
    simp only at h0 h1 h2 h3 hg
    subst h0
    refine ⟨x, u, rfl, h1, h2, h3, ?_⟩
    by_cases hx : 0 ≤ x ∧ x ≤ (l.length : Int) - u
    · right
      rw [if_pos ⟨rfl, hx⟩] at hg
      refine ⟨hx.1, by omega, hg, ?_⟩
      have hbd := hb.dropped (u + x).toNat
      have hmb : Bytes (mid l u x) := (hb.taken _).dropped _
      have hs := bytesOf_str hmb
      have ho : openS l = if (dget (l.drop (u + x).toNat)).2.2 = 0 ∧ (dget (l.drop (u + x).toNat)).1 = sum (mid l u x) then (mid l u x, u + x + (dget (l.drop (u + x).toNat)).2.1, 0) else ([], 0, 3) := by
        unfold openS
        rw [hg]
        simp only [true_and]
        unfold mid at hs ⊢
        rw [hs]
      rcases dget_bounds hbd with h | ⟨g0, g1, g2, g3⟩
      · left
        rw [h, if_neg (fun hh => absurd hh.1 (by decide))] at ho
        exact ⟨h, ho⟩
      · right
        generalize hy : dget (l.drop (u + x).toNat) = z at *
        obtain ⟨y, v, e⟩ := z
        simp only at g0 g1 g2 g3 ho
        subst g0
        refine ⟨y, v, rfl, g1, by rw [List.length_drop] at g2; omega, ?_⟩
        by_cases hs2 : y = sum (mid l u x)
        · exact .inr ⟨hs2, by rw [ho, if_pos ⟨rfl, hs2⟩]⟩
        · exact .inl ⟨hs2, by rw [ho, if_neg (fun hh => hs2 hh.2)]⟩
    · left
      rw [if_neg (fun hh => hx hh.2)] at hg
      refine ⟨by omega, hg, ?_⟩
      unfold openS
      rw [hg, if_neg (fun hh => absurd hh.1 (by decide))]
theorem Rd.none (w : World) : Rd w none 0 0 [] := ⟨rfl, Nat.le_refl _, Kd.C_of_reads (d := (0 : Int)) (h1 := fun _ => rfl) ⟨rfl, by omega, fun h => absurd h (by omega)⟩⟩
theorem str_size {l : List Int} : (strOfNums l).size = l.length := by
  unfold strOfNums
  simp [ByteArray.size]
theorem openS_bytes {l : List Int} (hb : Bytes l) : Bytes (openS l).1 ∧ (openS l).1.length ≤ l.length := by
  have hn : Bytes ([] : List Int) := fun x hx => absurd hx (by simp)
  have hm : ∀ u x, Bytes (mid l u x) ∧ (mid l u x).length ≤ l.length := fun u x => ⟨(hb.taken _).dropped _, by unfold mid; rw [List.length_drop, List.length_take]; omega⟩
  rcases open_cases hb with ⟨_, _, h⟩ | ⟨x, u, _, _, _, _, ⟨_, _, h⟩ | ⟨_, _, _, ⟨_, h⟩ | ⟨y, v, _, _, _, ⟨_, h⟩ | ⟨_, h⟩⟩⟩⟩ <;> rw [h] <;> first | exact ⟨hn, by simp⟩ | exact hm u x
theorem open_calls (A : Option Addr) (n c : Nat) (l : List Int) (w : World) (hR : Rd w A n c l) (hb : Bytes l) (hl : n ≤ 100000) :
    Calls Try.prog 16 #[.slice A n c] w fun e w' => ∃ A' c', e = .returned (.tuple #[.slice A' (openS l).1.length c', .int .i64 (openS l).2.1, .int .i64 (openS l).2.2]) ∧ Rd w' A' (openS l).1.length c' (openS l).1 ∧ Below w.heap.size w w' := by
  have hlen := hR.len
  have hG := gtext_eq hb (by omega) (k := 200000) (by omega)
  have hD : ∀ p, wire_Get.f 200000 (l.drop p) = some (dget (l.drop p)) := fun p => get_eq (hb.dropped p) (by rw [List.length_drop]; omega) (by omega)
  have err : openS l = ([], 0, 3) → (Calls Try.prog 16 #[.slice A n c] w fun e w' => e = .returned (.tuple #[.slice none 0 0, .int .i64 0, .int .i64 3]) ∧ Below w.heap.size w w') →
      Calls Try.prog 16 #[.slice A n c] w fun e w' => ∃ A' c', e = .returned (.tuple #[.slice A' (openS l).1.length c', .int .i64 (openS l).2.1, .int .i64 (openS l).2.2]) ∧ Rd w' A' (openS l).1.length c' (openS l).1 ∧ Below w.heap.size w w' := by
    intro ho h
    refine h.mono ?_
    rintro e w' ⟨rfl, hB⟩
    rw [ho]
    exact ⟨none, 0, rfl, Rd.none w', hB⟩
  rcases open_cases hb with ⟨_, g, h⟩ | ⟨x, u, hd, hu1, hu2, hw, ⟨_, g, h⟩ | ⟨hx, hux, g, ⟨hd2, h⟩ | ⟨y, v, hd2, hv1, hv2, hh⟩⟩⟩
  · rw [g] at hG
    exact err h (open_e1 200000 A n c l _ _ w hR ⟨hG⟩)
  · rw [g] at hG
    exact err h (open_e1 200000 A n c l _ _ w hR ⟨hG⟩)
  · rw [g] at hG
    have := hD (u + x).toNat
    rw [hd2] at this
    exact err h (open_e2 200000 A n c l _ _ _ _ w hR ⟨hG⟩ (by omega) hux ⟨this⟩)
  · rw [g] at hG
    have hD2 := hD (u + x).toNat
    rw [hd2] at hD2
    have hmb : Bytes (mid l u x) := (hb.taken _).dropped _
    have hml : (mid l u x).length ≤ l.length := by unfold mid; rw [List.length_drop, List.length_take]; omega
    have hs := bytesOf_str hmb
    have hz := str_size (l := mid l u x)
    have hS := sum_eq hmb (by omega) (k := 200000) (by omega)
    have hS2 : wire_Sum.f 200000 (bytesOf (strOfNums (mid l u x))) = some (sum (mid l u x)) := by rw [hs]; exact hS
    rcases hh with ⟨hne, h⟩ | ⟨he, h⟩
    · exact err h (open_e3 200000 A n c l _ _ _ _ _ w hR ⟨hG⟩ (by omega) hux ⟨hD2⟩ ⟨hS2⟩ (by rw [hz]; omega) hne)
    · rw [he] at hD2
      refine (open_ok 200000 A n c l _ _ _ _ w hR ⟨hG⟩ (by omega) hux ⟨hD2⟩ ⟨hS2⟩ (by rw [hz]; omega)).mono ?_
      rintro e w' ⟨A', c', rfl, hr, hB⟩
      rw [h]
      rw [hz, hs] at hr
      rw [hz, wrap_in (x := u + x + v) ⟨by omega, by omega⟩]
      exact ⟨A', c', rfl, hr, hB⟩
theorem ropen_calls (A : Option Addr) (n c : Nat) (l : List Int) (w : World) (hR : Rd w A n c l) (hb : Bytes l) (hl : n ≤ 100000) :
    Calls Try.prog 33 #[.slice A n c] w fun e w' => ∃ A' c', e = .returned (.tuple #[.slice A' (openS l).1.length c', .int .i64 (openS l).2.1, .int .i64 (openS l).2.2]) ∧ Rd w' A' (openS l).1.length c' (openS l).1 ∧ Below w.heap.size w w' := by
  have hlen := hR.len
  have hG := rget_eq hb (by omega) (k := 200000) (by omega)
  have hD : ∀ p, hallmootref03_Get.f 200000 (l.drop p) = some (dget (l.drop p)) := fun p => rget_eq (hb.dropped p) (by rw [List.length_drop]; omega) (by omega)
  have err : openS l = ([], 0, 3) → (Calls Try.prog 33 #[.slice A n c] w fun e w' => e = .returned (.tuple #[.slice none 0 0, .int .i64 0, .int .i64 3]) ∧ Below w.heap.size w w') →
      Calls Try.prog 33 #[.slice A n c] w fun e w' => ∃ A' c', e = .returned (.tuple #[.slice A' (openS l).1.length c', .int .i64 (openS l).2.1, .int .i64 (openS l).2.2]) ∧ Rd w' A' (openS l).1.length c' (openS l).1 ∧ Below w.heap.size w w' := by
    intro ho h
    refine h.mono ?_
    rintro e w' ⟨rfl, hB⟩
    rw [ho]
    exact ⟨none, 0, rfl, Rd.none w', hB⟩
  rcases open_cases hb with ⟨hd, g, h⟩ | ⟨x, u, hd, hu1, hu2, hw, ⟨hx, g, h⟩ | ⟨hx, hux, g, ⟨hd2, h⟩ | ⟨y, v, hd2, hv1, hv2, hh⟩⟩⟩
  · rw [hd] at hG
    exact err h (ropen_e1 200000 A n c l _ _ w hR ⟨hG⟩)
  · rw [hd] at hG
    exact err h (ropen_e1b 200000 A n c l _ _ w hR ⟨hG⟩ (by rw [wrap_in (x := (l.length : Int) - u) ⟨by omega, by omega⟩]; exact hx))
  · rw [hd] at hG
    have hD2 := hD (u + x).toNat
    rw [hd2] at hD2
    have e1 : wrap64 (u + x) = u + x := wrap_in ⟨by omega, by omega⟩
    have e2 : wrap64 ((l.length : Int) - u) = (l.length : Int) - u := wrap_in ⟨by omega, by omega⟩
    exact err h (ropen_e2 200000 A n c l x u _ _ w hR ⟨hG⟩ (by omega) (by omega) (by omega) hx (by omega) ⟨by rw [e1]; exact hD2⟩)
  · rw [hd] at hG
    have hD2 := hD (u + x).toNat
    rw [hd2] at hD2
    have e1 : wrap64 (u + x) = u + x := wrap_in ⟨by omega, by omega⟩
    have e2 : wrap64 ((l.length : Int) - u) = (l.length : Int) - u := wrap_in ⟨by omega, by omega⟩
    have hmb : Bytes (mid l u x) := (hb.taken _).dropped _
    have hml : (mid l u x).length = (u + x).toNat - u.toNat := by unfold mid; rw [List.length_drop, List.length_take]; omega
    have hS := rsum_eq hmb (by omega) (k := 200000) (by omega)
    rcases hh with ⟨hne, h⟩ | ⟨he, h⟩
    · exact err h (ropen_e3 200000 A n c l x u _ _ _ w hR ⟨hG⟩ (by omega) (by omega) (by omega) hx (by omega) ⟨by rw [e1]; exact hD2⟩ ⟨by rw [e1]; exact hS⟩ hne)
    · rw [he] at hD2
      refine (ropen_ok 200000 A n c l x u _ _ w hR ⟨hG⟩ (by omega) (by omega) (by omega) hx (by omega) ⟨by rw [e1]; exact hD2⟩ ⟨by rw [e1]; exact hS⟩).mono ?_
      rintro e w' ⟨A', c', rfl, hr, hB⟩
      rw [h]
      rw [e1] at hr
      rw [e1, wrap_in (x := u + x + v) ⟨by omega, by omega⟩]
      rw [← hml] at hr ⊢
      exact ⟨A', c', rfl, hr, hB⟩
end Go.Proofs.Ytmhabhfkglhleaa.Core
