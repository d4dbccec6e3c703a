/- Seal, in plain lists. -/
import Derived.Test.YtmhabhfkglhleaaCore5
import Derived.Test.YtmhabhfkglhleaaPC
namespace Go.Proofs.Ytmhabhfkglhleaa.Core
open Go.RowKit Go.Proofs.Ytmhabhfkglhleaa.PWire Go.Proofs.YtmhabhfkglhleaaW.PrintWords Go.Proofs.YtmhabhfkglhleaaW.PrintLast Go.Proofs.YtmhabhfkglhleaaW.PrintMore
open Go.Proofs.Ytmhabhfkglhleaa.Math
set_option linter.unusedVariables false

def sealed (l : List Int) : List Int := put l.length ++ l ++ put (sum l)
theorem sum_w64 (l : List Int) : W64 (sum l) := by
  have := sum_w l
  exact ⟨by omega, by omega⟩
theorem seal_bytes {l : List Int} (hb : Bytes l) : Bytes (sealed l) := ((put_bytes _).app hb).app (put_bytes _)
theorem seal_len' {l : List Int} (hl : l.length ≤ 100000) : (sealed l).length = (put l.length).length + l.length + (put (sum l)).length ∧ (put l.length).length ≤ 10 ∧ 1 ≤ (put l.length).length ∧ (put (sum l)).length ≤ 10 ∧ 1 ≤ (put (sum l)).length := by
  have hn : W64 (l.length : Int) := ⟨by omega, by omega⟩
  refine ⟨?_, put_len hn, put_pos _, put_len (sum_w64 l), put_pos _⟩
  unfold sealed
  rw [List.length_append, List.length_append]
theorem seal_eq {l : List Int} (hb : Bytes l) (hl : l.length ≤ 100000) {k : Nat} (hk : 100100 ≤ k) : wire_Seal.f k l = some (sealed l) := by
  have hn : W64 (l.length : Int) := ⟨by omega, by omega⟩
  obtain ⟨h0, h1, h2, h3, h4⟩ := seal_len' hl
  have e1 := put_eq hn (k := k) (by omega)
  have e2 := sum_eq hb (by omega) (k := k) (by omega)
  have e3 := put_eq (sum_w64 l) (k := k) (by omega)
  unfold wire_Seal.f
  unfold sealed at *
  generalize put (l.length : Int) = p at *
  generalize put (sum l) = q at *
  rw [e1]; simp only [Option.bind_some]
  rw [if_pos (by omega), e2]; simp only [Option.bind_some]
  rw [e3]; simp only [Option.bind_some]
  rw [if_pos (by rw [List.length_append]; omega)]
theorem rseal_eq {l : List Int} (hb : Bytes l) (hl : l.length ≤ 100000) {k : Nat} (hk : 100100 ≤ k) : hallmootref03_Seal.f k l = some (sealed l) := by
  have hn : W64 (l.length : Int) := ⟨by omega, by omega⟩
  obtain ⟨h0, h1, h2, h3, h4⟩ := seal_len' hl
  have e1 := rput_eq hn (k := k) (by omega)
  have e2 := rsum_eq hb (by omega) (k := k) (by omega)
  have e3 := rput_eq (sum_w64 l) (k := k) (by omega)
  unfold hallmootref03_Seal.f
  unfold sealed at *
  generalize put (l.length : Int) = p at *
  generalize put (sum l) = q at *
  rw [e1]; simp only [Option.bind_some]
  rw [if_pos (by omega), e2]; simp only [Option.bind_some]
  rw [e3]; simp only [Option.bind_some]
  rw [if_pos (by rw [List.length_append]; omega)]
end Go.Proofs.Ytmhabhfkglhleaa.Core
