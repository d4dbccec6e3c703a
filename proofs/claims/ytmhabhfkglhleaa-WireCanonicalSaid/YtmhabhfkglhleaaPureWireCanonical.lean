/- If a number can be decoded from a byte sequence, then the consumed bytes are the encoding of that number, and none of their proper prefixes can be decoded (P3.1, P3.5). No condition. -/
import Derived.Test.YtmhabhfkglhleaaPLCanon
import Derived.Test.YtmhabhfkglhleaaCore3
namespace Go.Proofs.Ytmhabhfkglhleaa.Pure
open Go.RowKit Go.Proofs.Ytmhabhfkglhleaa.PWire Go.Proofs.YtmhabhfkglhleaaW.PrintWords Go.Proofs.YtmhabhfkglhleaaW.PrintLast
open Go.Proofs.Ytmhabhfkglhleaa.Math Go.Proofs.Ytmhabhfkglhleaa.Core

theorem canon_loop {l : List Int} (hb : Bytes l) (hl : l.length ≤ 1000) (m : Nat) (hm : m ≤ l.length) (hs : ∀ i, i < m → dget (l.take i) = (0, 0, 3)) (d : Nat) : ∀ (k i : Nat), i + d = m → d + 40 ≤ k →
    hallmootlaw03_WireCanonical.l0 k l (m : Int) i = some true := by
  induction d with
  | zero =>
    intro k i hi hk
    obtain ⟨k, rfl⟩ : ∃ z, k = z + 1 := ⟨k - 1, by omega⟩
    simp only [hallmootlaw03_WireCanonical.l0]
    rw [if_neg (by omega)]
    rfl
  | succ d ih =>
    intro k i hi hk
    obtain ⟨k, rfl⟩ : ∃ z, k = z + 1 := ⟨k - 1, by omega⟩
    have h1 := get_eq (hb.taken i) (by rw [List.length_take]; omega) (k := k) (by omega)
    rw [hs i (by omega)] at h1
    simp only [hallmootlaw03_WireCanonical.l0]
    rw [if_pos (by omega), if_pos (by omega), if_pos (by omega), Int.toNat_natCast, h1, Option.bind_some, if_pos rfl, wrap_in (x := (i : Int) + 1) ⟨by omega, by omega⟩]
    exact ih k (i + 1) (by omega) (by omega)
theorem WireCanonical : hallmootlaw03_WireCanonical.Pure := by
  intro l _ hl hw
  have hb : Bytes l := fun x hx => byte_of_wf (hw x hx)
  obtain ⟨K, hK⟩ : ∃ K : Nat, 2000 ≤ K := ⟨2000, Nat.le_refl _⟩
  refine ⟨K + 1, ?_⟩
  have hs : ∀ k, hallmootlaw03_sanity.f k = some true := fun _ => rfl
  unfold hallmootlaw03_WireCanonical.f
  by_cases h : (l.length : Int) > 1000
  · rw [if_pos h, hs, Option.bind_some]
  · rw [if_neg h]
    have h1 := get_eq hb (by omega) (k := K + 1) (by omega)
    rcases get_or hb with he | ⟨n, r, hn, rfl⟩
    · rw [he] at h1
      rw [h1, Option.bind_some, if_neg (by decide), hs, Option.bind_some, if_pos rfl, if_pos rfl]
      rfl
    · have hg := get_put hn r
      rw [hg] at h1
      have hp := put_eq hn (k := K + 1) (by omega)
      have hp1 := put_pos n
      have hp2 := put_len hn
      have hshort : ∀ i, i < (put n).length → dget ((put n ++ r).take i) = (0, 0, 3) := fun i hi => get_short hi hb
      have hlen : (put n ++ r).length = (put n).length + r.length := List.length_append
      have hL := canon_loop hb (by omega) (put n).length (by omega) hshort (put n).length K 0 (by omega) (by omega)
      have htake : (put n ++ r).take (put n).length = put n := List.take_left
      generalize put n = p at *
      have hsame := same_eq p p (by omega) (k := K + 1) (by omega)
      rw [decide_eq_true rfl] at hsame
      have c1 : ¬ ((n, (p.length : Int), (0 : Int)).2.1 < 1) := by show ¬ (p.length : Int) < 1; omega
      have c2 : ¬ ((n, (p.length : Int), (0 : Int)).2.1 > ((p ++ r).length : Int)) := by show ¬ (p.length : Int) > ((p ++ r).length : Int); omega
      have c3 : 0 ≤ (n, (p.length : Int), (0 : Int)).2.1 := by show 0 ≤ (p.length : Int); omega
      have c4 : (n, (p.length : Int), (0 : Int)).2.1 ≤ ((p ++ r).length : Int) := by show (p.length : Int) ≤ ((p ++ r).length : Int); omega
      rw [h1, Option.bind_some, if_pos rfl, if_neg c1, if_neg c2]
      show ((wire_Put.f (K + 1) n).bind _) = _
      rw [hp, Option.bind_some, if_pos c3, if_pos c4]
      show ((hallmootref03_Same.f (K + 1) p ((p ++ r).take ((p.length : Int)).toNat)).bind _) = _
      rw [Int.toNat_natCast, htake, hsame, Option.bind_some]
      simp only [hallmootlaw03_WireCanonical.j0]
      rw [if_neg (by decide)]
      exact hL
end Go.Proofs.Ytmhabhfkglhleaa.Pure
