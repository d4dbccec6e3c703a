/- For every integer, wire.Put's encoding is the reference's (P3.1). No condition. -/
import Derived.Test.YtmhabhfkglhleaaPLPut
import Derived.Test.YtmhabhfkglhleaaCore2
namespace Go.Proofs.Ytmhabhfkglhleaa.Pure
open Go.RowKit Go.Proofs.Ytmhabhfkglhleaa.PWire Go.Proofs.YtmhabhfkglhleaaW.PrintWords Go.Proofs.YtmhabhfkglhleaaW.PrintLast
open Go.Proofs.Ytmhabhfkglhleaa.Math Go.Proofs.Ytmhabhfkglhleaa.Core

theorem WirePutMatchesSpec : hallmootlaw03_WirePutMatchesSpec.Pure := by
  intro n hw
  have hn := w64_of_wf hw
  obtain ⟨K, hK⟩ : ∃ K : Nat, 100 ≤ K := ⟨100, Nat.le_refl _⟩
  refine ⟨K, ?_⟩
  have hs : hallmootlaw03_sanity.f K = some true := rfl
  have h1 := put_eq hn (k := K) (by omega)
  have h2 := rput_eq hn (k := K) (by omega)
  have hl := put_len hn
  generalize put n = p at *
  have h3 := same_eq p p (by omega) (k := K) (by omega)
  rw [decide_eq_true rfl] at h3
  unfold hallmootlaw03_WirePutMatchesSpec.f
  rw [hs, Option.bind_some, if_pos rfl, h1, Option.bind_some, h2, Option.bind_some, h3, Option.bind_some]
end Go.Proofs.Ytmhabhfkglhleaa.Pure
