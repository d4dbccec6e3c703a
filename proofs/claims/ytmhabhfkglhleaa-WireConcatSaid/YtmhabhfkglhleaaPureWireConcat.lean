/- Two lists that were encoded one after the other are decoded one after the other (P3.3, P3.5). No condition. -/
import Derived.Test.YtmhabhfkglhleaaPLConcat
import Derived.Test.YtmhabhfkglhleaaCore3
namespace Go.Proofs.Ytmhabhfkglhleaa.Pure
open Go.RowKit Go.Proofs.Ytmhabhfkglhleaa.PWire Go.Proofs.YtmhabhfkglhleaaW.PrintWords Go.Proofs.YtmhabhfkglhleaaW.PrintLast
open Go.Proofs.Ytmhabhfkglhleaa.Math Go.Proofs.Ytmhabhfkglhleaa.Core

theorem WireConcat : hallmootlaw03_WireConcat.Pure := by
  intro l m _ hl wl _ hm wm
  have hwl : Ws l := fun x hx => w64_of_wf (wl x hx)
  have hwm : Ws m := fun x hx => w64_of_wf (wm x hx)
  obtain ⟨K, hK⟩ : ∃ K : Nat, 2000000 ≤ K := ⟨2000000, Nat.le_refl _⟩
  refine ⟨K + 1, ?_⟩
  have hs : ∀ k, hallmootlaw03_sanity.f k = some true := fun _ => rfl
  unfold hallmootlaw03_WireConcat.f
  rw [wrap_in (x := (l.length : Int) + (m.length : Int)) ⟨by omega, by omega⟩]
  by_cases h : (l.length : Int) + (m.length : Int) > 300
  · rw [if_pos h, hs, Option.bind_some]
  · rw [if_neg h]
    have h1 := nums_eq hwl (by omega) (k := K + 1) (by omega)
    have h2 := nums_eq hwm (by omega) (k := K + 1) (by omega)
    have ll := encNums_len hwl (by omega)
    have lm := encNums_len hwm (by omega)
    have bl := encNums_bytes l
    have bm := encNums_bytes m
    have d1 := numsS_enc hwl (by omega) (encNums m) bm
    have d2 := numsS_enc hwm (by omega) [] (fun _ hx => absurd hx (by simp))
    rw [List.append_nil] at d2
    have i1 := ints_eq l l (by omega) (k := K) (by omega)
    have i2 := ints_eq m m (by omega) (k := K) (by omega)
    rw [decide_eq_true rfl] at i1 i2
    generalize encNums l = a at *
    generalize encNums m = b at *
    have hb : Bytes (a ++ b) := bl.app bm
    have hlen : (a ++ b).length = a.length + b.length := List.length_append
    have h3 : wire_GetNums.f (K + 1) (a ++ b) = some (l, (a.length : Int), 0) := by
      unfold wire_GetNums.f
      rw [if_pos (okBytes_iff.2 ⟨hb, by omega⟩), d1]
    have h4 : wire_GetNums.f K b = some (m, (b.length : Int), 0) := by
      unfold wire_GetNums.f
      rw [if_pos (okBytes_iff.2 ⟨bm, by omega⟩), d2]
    have hj : hallmootlaw03_WireConcat.j0 (K + 1) l m (a ++ b) l (a.length : Int) false = some true := by
      simp only [hallmootlaw03_WireConcat.j0]
      rw [if_neg Bool.false_ne_true, if_pos (by omega), if_pos (by omega), Int.toNat_natCast, List.drop_left, h4, Option.bind_some, hs, Option.bind_some, if_pos rfl, i1, Option.bind_some, if_pos rfl, i2, Option.bind_some, if_pos rfl, if_pos rfl]
      rw [wrap_in (x := (a.length : Int) + (b.length : Int)) ⟨by omega, by omega⟩, hlen]
      simp
    rw [h1, Option.bind_some, h2, Option.bind_some, if_pos (by omega), Option.bind_some, h3, Option.bind_some, if_pos rfl, if_neg (by show ¬ (a.length : Int) < 0; omega)]
    show hallmootlaw03_WireConcat.j0 (K + 1) l m (a ++ b) l (a.length : Int) (decide ((a.length : Int) > ((a ++ b).length : Int))) = some true
    rw [decide_eq_false (by omega)]
    exact hj
end Go.Proofs.Ytmhabhfkglhleaa.Pure
