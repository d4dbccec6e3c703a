/- What the checksum tells apart: a byte put in another's place, and two neighbours exchanged. -/
import Derived.Test.YtmhabhfkglhleaaCore7
namespace Go.Proofs.Ytmhabhfkglhleaa.Core
open Go.RowKit Go.Proofs.Ytmhabhfkglhleaa.PWire Go.Proofs.YtmhabhfkglhleaaW.PrintWords Go.Proofs.YtmhabhfkglhleaaW.PrintLast Go.Proofs.YtmhabhfkglhleaaW.PrintMore
open Go.Proofs.Ytmhabhfkglhleaa.Math
set_option linter.unusedVariables false

theorem fold_x (l : List Int) : ∀ s t : Int × Int, ((l.foldl sumStep s).1 - (l.foldl sumStep t).1) % 65521 = (s.1 - t.1) % 65521 := by
  induction l with
  | nil => intro s t; rfl
  | cons c l ih =>
    intro s t
    rw [List.foldl_cons, List.foldl_cons, ih]
    unfold sumStep
    simp only
    omega
theorem fold_y (l : List Int) : ∀ s t : Int × Int, s.1 = t.1 → (l.foldl sumStep s).1 = (l.foldl sumStep t).1 ∧ ((l.foldl sumStep s).2 - (l.foldl sumStep t).2) % 65521 = (s.2 - t.2) % 65521 := by
  induction l with
  | nil => intro s t h; exact ⟨h, rfl⟩
  | cons c l ih =>
    intro s t h
    rw [List.foldl_cons, List.foldl_cons]
    have h1 : (sumStep s c).1 = (sumStep t c).1 := by unfold sumStep; simp only; rw [h]
    obtain ⟨g1, g2⟩ := ih (sumStep s c) (sumStep t c) h1
    refine ⟨g1, ?_⟩
    rw [g2]
    unfold sumStep
    simp only
    rw [h]
    omega
theorem sum_parts {l m : List Int} (h : sum l = sum m) : (sumXY l).1 = (sumXY m).1 ∧ (sumXY l).2 = (sumXY m).2 := by
  have h1 := sumXY_mod l
  have h2 := sumXY_mod m
  unfold Mod at h1 h2
  unfold sum at h
  omega
theorem sum_one {a b : List Int} {x y : Int} (hx : Byte x) (hy : Byte y) (h : sum (a ++ [x] ++ b) = sum (a ++ [y] ++ b)) : x = y := by
  have h1 := (sum_parts h).1
  unfold sumXY at h1
  rw [List.foldl_append, List.foldl_append, List.foldl_append, List.foldl_append] at h1
  have h2 := fold_x b ([x].foldl sumStep (a.foldl sumStep (1, 0))) ([y].foldl sumStep (a.foldl sumStep (1, 0)))
  rw [h1] at h2
  generalize a.foldl sumStep (1, 0) = s at h2
  simp only [List.foldl_cons, List.foldl_nil, sumStep] at h2
  unfold Byte at hx hy
  omega
theorem sum_two {a b : List Int} {x y : Int} (hx : Byte x) (hy : Byte y) (h : sum (a ++ [x, y] ++ b) = sum (a ++ [y, x] ++ b)) : x = y := by
  have h1 := (sum_parts h).2
  unfold sumXY at h1
  rw [List.foldl_append, List.foldl_append, List.foldl_append, List.foldl_append] at h1
  generalize a.foldl sumStep (1, 0) = s at h1
  have he : ([x, y].foldl sumStep s).1 = ([y, x].foldl sumStep s).1 := by
    simp only [List.foldl_cons, List.foldl_nil, sumStep]
    omega
  have h2 := (fold_y b _ _ he).2
  rw [h1] at h2
  simp only [List.foldl_cons, List.foldl_nil, sumStep] at h2
  unfold Byte at hx hy
  omega
theorem sealed_set {a b : List Int} {x y : Int} : (sealed (a ++ [x] ++ b)).set ((put ((a ++ [x] ++ b).length : Int)).length + a.length) y = put ((a ++ [y] ++ b).length : Int) ++ (a ++ [y] ++ b) ++ (put (sum (a ++ [x] ++ b)) ++ []) := by
  have e : (a ++ [x] ++ b).length = (a ++ [y] ++ b).length := by simp
  unfold sealed
  generalize put (sum (a ++ [x] ++ b)) = r
  rw [← e]
  generalize put ((a ++ [x] ++ b).length : Int) = p
  rw [List.append_nil]
  have e2 : p ++ (a ++ [x] ++ b) ++ r = (p ++ a) ++ (x :: (b ++ r)) := by simp
  have e3 : p ++ (a ++ [y] ++ b) ++ r = (p ++ a) ++ (y :: (b ++ r)) := by simp
  rw [e2, e3, ← List.length_append, List.set_append_right _ _ (Nat.le_refl _), Nat.sub_self]
  rfl
end Go.Proofs.Ytmhabhfkglhleaa.Core
