/- The contract of wire.GetNums, over the true program (it decodes by wire.reader's closures). -/
import Derived.Test.YtmhabhfkglhleaaPNext
namespace Go.Proofs.Ytmhabhfkglhleaa.Core
open Go.RowKit Go.Proofs.YtmhabhfkglhleaaW.PrintWords Go.Proofs.YtmhabhfkglhleaaW.PrintLast Go.Proofs.YtmhabhfkglhleaaW.PrintMore
open Go.Proofs.Ytmhabhfkglhleaa.PWire Go.Proofs.Ytmhabhfkglhleaa.Math

theorem dget_bounds {l : List Int} (hb : Bytes l) : dget l = (0, 0, 3) ∨ ((dget l).2.2 = 0 ∧ 1 ≤ (dget l).2.1 ∧ (dget l).2.1 ≤ l.length ∧ W64 (dget l).1) := by
  rcases get_or hb with h | ⟨n, r, hn, rfl⟩
  · exact .inl h
  · rw [get_put hn]
    have := put_pos n
    refine .inr ⟨rfl, ?_, ?_, hn⟩
    · show (1 : Int) ≤ ((put n).length : Int); omega
    · show ((put n).length : Int) ≤ ((put n ++ r).length : Int); rw [List.length_append]; omega

def numsL (l : List Int) : Nat → Nat → List Int → Option (List Int × Nat)
  | 0, p, out => some (out, p)
  | m + 1, p, out => if (dget (l.drop p)).2.2 = 0 then numsL l m (p + (dget (l.drop p)).2.1.toNat) (out ++ [(dget (l.drop p)).1]) else none
def numsS (l : List Int) : List Int × Int × Int :=
  if (dget l).2.2 = 0 ∧ 0 ≤ (dget l).1 ∧ (dget l).1 ≤ l.length then
    match numsL l (dget l).1.toNat (dget l).2.1.toNat [] with
    | some (o, p) => (o, (p : Int), 0)
    | none => ([], 0, 3)
  else ([], 0, 3)
end Go.Proofs.Ytmhabhfkglhleaa.Core
namespace Go.Proofs.Ytmhabhfkglhleaa.PWire
open Go.RowKit Go.Proofs.YtmhabhfkglhleaaW.PrintWords Go.Proofs.YtmhabhfkglhleaaW.PrintLast Go.Proofs.YtmhabhfkglhleaaW.PrintMore
open Go.Proofs.Ytmhabhfkglhleaa.Core Go.Proofs.Ytmhabhfkglhleaa.Math
attribute [local go_sem] max2_int min2_int max_two min_two max_three min_three max_four min_four
set_option linter.unusedVariables false
set_option linter.unusedSimpArgs false

/-- The two captured variables stand, and what was there before is as it was. -/
structure Inv (w0 w : World) (A0 : Option Addr) (n c0 : Nat) (p : Nat) : Prop where
  cb : w.cell? ⟨w0.heap.size, 0, none⟩ = some (.slice A0 n c0)
  ca : w.cell? ⟨w0.heap.size + 1, 0, none⟩ = some (.int .i64 p)
  fa : w.frozen? ⟨w0.heap.size + 1, 0, none⟩ = false
  bel : Below w0.heap.size w0 w
  sz : w0.heap.size + 2 ≤ w.heap.size

theorem Inv.start (w0 : World) (A0 : Option Addr) (n c0 : Nat) : Inv w0 ((w0.alloc (.cells #[.slice A0 n c0] 22)).alloc (.cells #[.int .i64 0] 3)) A0 n c0 0 where
  cb := by rw [World.cell?_alloc_past _ _ _ (by simp), World.cell?_alloc_at _ _ _ _ rfl]; rfl
  ca := by rw [World.cell?_alloc_at _ _ _ _ (by simp)]; rfl
  fa := World.frozen?_alloc_at _ _ _ _ (by simp)
  bel := ((Below.refl _ _).alloc (Nat.le_refl _) _).alloc (by simp) _
  sz := by simp
theorem Inv.drew {w0 w : World} {A0 : Option Addr} {n c0 p : Nat} (h : Inv w0 w A0 n c0 p) (m : Nat) : Inv w0 (w.drewN m) A0 n c0 p where
  cb := h.cb
  ca := h.ca
  fa := h.fa
  bel := pw_below_drewN h.bel m
  sz := h.sz
theorem Inv.set {w0 w : World} {A0 : Option Addr} {n c0 p : Nat} (h : Inv w0 w A0 n c0 p) (q : Nat) : Inv w0 (w.setCell ⟨w0.heap.size + 1, 0, none⟩ (.int .i64 q)) A0 n c0 q where
  cb := (World.cell?_setCell_other _ _ _ _ (by intro e; have := congrArg Addr.block e; simp at this)).trans h.cb
  ca := World.cell?_setCell_same _ _ _ h.ca
  fa := (World.frozen?_setCell _ _ _ _).trans h.fa
  bel := h.bel.setCell (by show w0.heap.size ≤ w0.heap.size + 1; omega) _
  sz := by have := h.sz; simpa [World.setCell] using this
theorem Inv.below {w0 w w2 : World} {A0 : Option Addr} {n c0 p : Nat} (h : Inv w0 w A0 n c0 p) (hb : Below w.heap.size w w2) : Inv w0 w2 A0 n c0 p where
  cb := (hb.cell (p := ⟨w0.heap.size, 0, none⟩) (by have := h.sz; show w0.heap.size < w.heap.size; omega)).trans h.cb
  ca := (hb.cell (p := ⟨w0.heap.size + 1, 0, none⟩) (by have := h.sz; show w0.heap.size + 1 < w.heap.size; omega)).trans h.ca
  fa := (hb.frozen (p := ⟨w0.heap.size + 1, 0, none⟩) (by have := h.sz; show w0.heap.size + 1 < w.heap.size; omega)).trans h.fa
  bel := below_step h.bel hb
  sz := Nat.le_trans h.sz hb.size
theorem Inv.app {w0 w w3 : World} {A0 : Option Addr} {n c0 p : Nat} {row : Option Nat} (h : Inv w0 w A0 n c0 p) (hb : Below w0.heap.size w0 w3) (hg : w.grownBy w3 row) (hr : ∀ k, row = some k → w0.heap.size + 2 ≤ k) : Inv w0 w3 A0 n c0 p where
  cb := (hg.cell_far ⟨w0.heap.size, 0, none⟩ (by have := h.sz; show w0.heap.size < w.heap.size; omega) (by intro e; have := hr _ e.symm; simp at this; omega)).trans h.cb
  ca := (hg.cell_far ⟨w0.heap.size + 1, 0, none⟩ (by have := h.sz; show w0.heap.size + 1 < w.heap.size; omega) (by intro e; have := hr _ e.symm; simp at this)).trans h.ca
  fa := (hg.frozen_far ⟨w0.heap.size + 1, 0, none⟩ (by have := h.sz; show w0.heap.size + 1 < w.heap.size; omega) (by intro e; have := hr _ e.symm; simp at this)).trans h.fa
  bel := hb
  sz := Nat.le_trans h.sz hg.size

theorem next_inv (A0 : Option Addr) (c0 p : Nat) (l0 : List Int) (w0 w : World) (hI : Inv w0 w A0 l0.length c0 p)
    (hr0 : Kd.C (Kd.int .u8) w0 A0 l0.length l0) (hc0 : l0.length ≤ c0) (hp : p ≤ l0.length) (hl : l0.length ≤ 140737488355328) (hby : Bytes l0) :
    Calls Try.prog 39 #[.pointer (some ⟨w0.heap.size, 0, none⟩), .pointer (some ⟨w0.heap.size + 1, 0, none⟩)] w fun e w' =>
      e = .returned (.tuple #[.int .i64 (dget (l0.drop p)).1, .bool ((dget (l0.drop p)).2.2 == 0)]) ∧
      Aside0 (Inv w0 w' A0 l0.length c0 (p + (dget (l0.drop p)).2.1.toNat)) ∧
      Aside0 (∀ v out, Kd.R (Kd.int .i64) 3 w w0.heap.size (fun k => w0.heap.size + 2 ≤ k) v out → Kd.R (Kd.int .i64) 3 w' w0.heap.size (fun k => w0.heap.size + 2 ≤ k) v out) := by
  have hd := dget_bounds (hby.dropped p)
  have hle : (l0.drop p).length ≤ 140737488355328 := by rw [List.length_drop]; omega
  have hg := get_eq (hby.dropped p) hle (k := 40) (by omega)
  have hu : 0 ≤ (dget (l0.drop p)).2.1 ∧ (dget (l0.drop p)).2.1 ≤ 140737488355328 := by
    rcases hd with h | ⟨_, h1, h2, _⟩
    · rw [h]; decide
    · omega
  refine (next_calls 40 A0 c0 p l0 (dget (l0.drop p)).1 (dget (l0.drop p)).2.1 (dget (l0.drop p)).2.2 _ _ w hI.cb hI.ca hI.fa (Kd.C_below hr0 hI.bel) hc0 hp hl hu.1 hu.2 hg).mono ?_
  rintro e w' ⟨rfl, m, rfl⟩
  have e1 : ((p : Int) + (dget (l0.drop p)).2.1) = ((p + (dget (l0.drop p)).2.1.toNat : Nat) : Int) := by omega
  rw [e1]
  refine ⟨rfl, ⟨(hI.set _).drew m⟩, ⟨fun v out h => ?_⟩⟩
  exact Kd.R_drewN (Kd.R_far h (fun k hk => by show k ≠ w0.heap.size + 1; omega) _) m

set_option maxHeartbeats 2000000 in
set_option maxRecDepth 100000 in
theorem nums_err (A0 : Option Addr) (c0 : Nat) (l0 : List Int) (n used e0 : Int) (w : World)
    (hr0 : Aside0 (Kd.C (Kd.int .u8) w A0 l0.length l0)) (hc0 : Aside0 (l0.length ≤ c0)) (hl : Aside0 (l0.length ≤ 140737488355328)) (hby : Aside0 (Bytes l0))
    (Hd : Aside0 (dget l0 = (n, used, e0))) (b1 b2 b3 : Bool) (h1 : (e0 == 0) = b1) (h2 : decide (n < 0) = b2) (h3 : decide ((l0.length : Int) < n) = b3) (hb : b1 = false ∨ b2 = true ∨ b3 = true) :
    Calls Try.prog 26 #[.slice A0 l0.length c0] w fun e w' => e = .returned (.tuple #[.slice none 0 0, .int .i64 0, .int .i64 3]) ∧ Below w.heap.size w w' := by
  have hl1 : l0.length ≤ 9223372036854775807 := by have := hl.out; omega
  rcases hb with rfl | rfl | rfl
  · go_enter Try.func26, Try.ntmps26
    go_wp2_with (first | (go_at_call 37; (with_reducible refine (reader_calls A0 l0.length c0 _).mono ?_); rintro e w' ⟨rfl, rfl⟩) | (go_at_call 39; (with_reducible refine (next_inv A0 c0 0 l0 w _ (Inv.start w A0 l0.length c0) hr0.out hc0.out (Nat.zero_le _) hl.out hby.out).mono ?_); rw [List.drop_zero, Hd.out]; rintro e w1 ⟨rfl, HI, HK⟩))
    go_ret3
    exact ⟨rfl, HI.out.bel⟩
  · cases b1 <;> (
      go_enter Try.func26, Try.ntmps26
      go_wp2_with (first | (go_at_call 37; (with_reducible refine (reader_calls A0 l0.length c0 _).mono ?_); rintro e w' ⟨rfl, rfl⟩) | (go_at_call 39; (with_reducible refine (next_inv A0 c0 0 l0 w _ (Inv.start w A0 l0.length c0) hr0.out hc0.out (Nat.zero_le _) hl.out hby.out).mono ?_); rw [List.drop_zero, Hd.out]; rintro e w1 ⟨rfl, HI, HK⟩))
      go_ret3
      exact ⟨rfl, HI.out.bel⟩)
  · cases b1 <;> cases b2 <;> (
      go_enter Try.func26, Try.ntmps26
      go_wp2_with (first | (go_at_call 37; (with_reducible refine (reader_calls A0 l0.length c0 _).mono ?_); rintro e w' ⟨rfl, rfl⟩) | (go_at_call 39; (with_reducible refine (next_inv A0 c0 0 l0 w _ (Inv.start w A0 l0.length c0) hr0.out hc0.out (Nat.zero_le _) hl.out hby.out).mono ?_); rw [List.drop_zero, Hd.out]; rintro e w1 ⟨rfl, HI, HK⟩))
      go_ret3
      exact ⟨rfl, HI.out.bel⟩)
end Go.Proofs.Ytmhabhfkglhleaa.PWire
