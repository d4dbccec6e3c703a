/- For every byte sequence, decoding a number, a string and a list from its beginning gives what the reference gives (P3.1 to P3.3). No condition. -/
import Derived.Test.YtmhabhfkglhleaaPLDecode
import Derived.Test.YtmhabhfkglhleaaCore3
namespace Go.Proofs.Ytmhabhfkglhleaa.Pure
open Go.RowKit Go.Proofs.Ytmhabhfkglhleaa.PWire Go.Proofs.YtmhabhfkglhleaaW.PrintWords Go.Proofs.YtmhabhfkglhleaaW.PrintLast
open Go.Proofs.Ytmhabhfkglhleaa.Math Go.Proofs.Ytmhabhfkglhleaa.Core

theorem numsL_len (l : List Int) (m : Nat) : ∀ (p : Nat) (out o : List Int) (q : Nat), numsL l m p out = some (o, q) → o.length = out.length + m := by
  induction m with
  | zero => intro p out o q h; simp only [numsL, Option.some.injEq, Prod.mk.injEq] at h; rw [h.1]; rfl
  | succ m ih =>
    intro p out o q h
    simp only [numsL] at h
    split at h
    · have := ih _ _ _ _ h
      rw [List.length_append] at this
      simp at this; omega
    · simp at h
theorem numsS_len (l : List Int) : (numsS l).1.length ≤ l.length := by
  unfold numsS
  split
  · rename_i hc
    cases h : numsL l (dget l).1.toNat (dget l).2.1.toNat [] with
    | none => simp
    | some z =>
      obtain ⟨o, q⟩ := z
      have := numsL_len _ _ _ _ _ _ h
      simp only [List.length_nil] at this
      show o.length ≤ l.length
      omega
  · simp
theorem WireDecodeMatchesSpec : hallmootlaw03_WireDecodeMatchesSpec.Pure := by
  intro l _ hl hw
  have hb : Bytes l := fun x hx => byte_of_wf (hw x hx)
  obtain ⟨K, hK⟩ : ∃ K : Nat, 2000000 ≤ K := ⟨2000000, Nat.le_refl _⟩
  refine ⟨K, ?_⟩
  have hs : hallmootlaw03_sanity.f K = some true := rfl
  unfold hallmootlaw03_WireDecodeMatchesSpec.f
  by_cases h : (l.length : Int) > 1000
  · rw [if_pos h, hs, Option.bind_some]
  · have h1 := get_eq hb (by omega) (k := K) (by omega)
    have h2 := rget_eq hb (by omega) (k := K) (by omega)
    have h3 := gtext_eq hb (by omega) (k := K) (by omega)
    have h4 := rgtext_eq hb (by omega) (k := K) (by omega)
    have h5 : wire_GetNums.f K l = some (numsS l) := by
      unfold wire_GetNums.f
      rw [if_pos (okBytes_iff.2 ⟨hb, by omega⟩)]
    have h6 := rnums_eq hb (by omega) (k := K) (by omega)
    have hn := numsS_len l
    have h7 := ints_eq (numsS l).1 (numsS l).1 (by omega) (k := K) (by omega)
    rw [decide_eq_true rfl] at h7
    generalize numsS l = z1 at *
    generalize gtext l = z2 at *
    generalize dget l = z3 at *
    rw [if_neg h, h1, Option.bind_some, h2, Option.bind_some, h3, Option.bind_some, h4, Option.bind_some, h5, Option.bind_some, h6, Option.bind_some, hs, Option.bind_some,
      if_pos rfl, if_pos rfl, if_pos rfl, if_pos rfl, if_pos rfl, if_pos rfl, if_pos rfl, h7, Option.bind_some, if_pos rfl, if_pos rfl, beq_self_eq_true]
end Go.Proofs.Ytmhabhfkglhleaa.Pure
