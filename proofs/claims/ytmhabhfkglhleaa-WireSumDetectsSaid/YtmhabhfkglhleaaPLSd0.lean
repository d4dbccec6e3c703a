/- The contract of WireSumDetects' closure 'of', by hand. -/
import Derived.Test.YtmhabhfkglhleaaPLSr
namespace Go.Proofs.Ytmhabhfkglhleaa.PWire
open Go.RowKit Go.Proofs.YtmhabhfkglhleaaW.PrintWords Go.Proofs.YtmhabhfkglhleaaW.PrintLast Go.Proofs.YtmhabhfkglhleaaW.PrintMore
attribute [local go_sem] max2_int min2_int max_two min_two max_three min_three max_four min_four
set_option linter.unusedVariables false
set_option linter.unusedSimpArgs false

theorem Rd.drew {w : World} {A : Option Addr} {n c : Nat} {l : List Int} (h : Rd w A n c l) : Rd w.drew A n c l := ⟨h.len, h.le, Kd.C_drew h.C⟩
theorem Rd.alloc {w : World} {A : Option Addr} {n c : Nat} {l : List Int} (h : Rd w A n c l) (o : Obj) : Rd (w.alloc o) A n c l := ⟨h.len, h.le, Kd.C_alloc h.C _⟩
theorem own_step {ops : Array Oper} {o : Oper} {a : Act} {K : Act → World → Prop} {Q : Exit → Act → World → Prop} {E : Prop} {w0 W : World} (base : Nat) (hgd : o.guard = none) (s x : Operand)
    (ho : o.op = .call { callee := .builtin .append, args := #[s, x], argTypes := #[22, 22] }) (v : Value) (xs ys : List Int) (A : Option Addr) (m c : Nat) (hs : a.eval s = v) (hx : a.eval x = .slice A m c)
    (HO : Kd.R (Kd.int .u8) 5 W base (fun _ => True) v xs) (HR : Rd W A m c ys) (HB : Below base w0 W) (hbase : base ≤ W.heap.size) (hl : xs.length + m ≤ 140737488355328)
    (h : ∀ v1 w1, Kd.R (Kd.int .u8) 5 w1 base (fun _ => True) v1 (xs ++ ys) → Below base w0 w1 → K (a.put o.dst v1) w1) :
    if Region.wanted o (yielded ops a.tmps) = true then Oper.wp Try.prog o a W K Q else E := by
  have hw : Region.wanted o (yielded ops a.tmps) = true := by simp [Region.wanted, hgd]
  have := Kd.R_append_rows_step (P := Try.prog) (ops := ops) (Q := Q) (Kc := K) (Kd.int .u8) (w0 := w0) base hw s x 22 5 (.int .u8 0) 1 ho Try.underlying22 info5 rfl (by decide) (by omega) v xs ys A m c (fun _ => True) (fun _ => False) hs hx HO HR.C (fun _ _ h => h) (fun _ h => h.elim) (fun _ _ => trivial) HB hbase (by omega) (fun v1 w1 ho hb hg hat => h v1 w1 ho hb)
  rw [if_pos hw] at this ⊢
  exact this

set_option maxHeartbeats 4000000 in
set_option maxRecDepth 100000 in
theorem of_calls (pA pB : Addr) (A : Option Addr) (n c : Nat) (la : List Int) (B : Option Addr) (m cb : Nat) (lb : List Int) (L : Option Addr) (q cl : Nat) (l : List Int) (w : World)
    (ha : w.cell? pA = some (.slice A n c)) (hb : w.cell? pB = some (.slice B m cb)) (HA : Aside0 (Rd w A n c la)) (HT : Aside0 (Rd w B m cb lb)) (HL : Aside0 (Rd w L q cl l)) (hn : la.length = n) (hq : l.length = q) (hm : lb.length = m) (hlen : n + q + m ≤ 100000) :
    Calls Try.prog 18 #[.slice L q cl, .pointer (some pA), .pointer (some pB)] w fun e w' => ∃ v, e = .returned v ∧ Kd.R (Kd.int .u8) 5 w' w.heap.size (fun _ => True) v (la ++ l ++ lb) ∧ Below w.heap.size w w' := by
  have lA := World.block_lt_of_cell? w _ ha
  have lB := World.block_lt_of_cell? w _ hb
  go_enter Try.func18, Try.ntmps18
  go_wp2_with fail
  go_region_held3 (fun w' => w'.cell? pA = some (.slice A n c) ∧ w'.cell? pB = some (.slice B m cb))
    (first
      | go_keep
      | exact ⟨by rw [hB3.cell lA]; exact ha, by rw [hB3.cell lB]; exact hb⟩
      | exact ⟨by rw [hB2.cell lA]; exact ha, by rw [hB2.cell lB]; exact hb⟩
      | exact ⟨by rw [hB1.cell lA]; exact ha, by rw [hB1.cell lB]; exact hb⟩)
    (first | ((refine own_step (w0 := w) w.heap.size (by rfl) (.tmp 5) (.tmp 6) (by rfl) (.slice (some ⟨w.heap.size, 0, none⟩) 0 0) [] la A n c (by rfl) (by rfl) ?o1 ?r1 ?b1 ?h1 ?l1 ?_; (case o1 => repeat (first | exact Kd.R_of_own (h1 := fun _ => rfl) (own_lit _ w.heap.size 5 .u8 [] (Nat.le_refl _) (by simp)) (fun _ _ => trivial) | (with_reducible refine Kd.R_drew ?_) | (with_reducible refine Kd.R_drewN ?_ _))); (case r1 => repeat (first | exact HA.out | exact HL.out | exact HT.out | exact HA.out.below hB1 | exact HL.out.below hB1 | exact HT.out.below hB1 | exact HL.out.below hB2 | exact HT.out.below hB2 | exact HT.out.below hB3 | (refine Rd.drew ?_) | (refine Rd.alloc ?_ _))); (case b1 => repeat (first | exact Below.refl _ _ | exact hB1 | exact hB2 | apply below_drew | (refine below_alloc ?_ _))); (case h1 => first | exact Below.size (by repeat (first | exact Below.refl _ _ | exact hB1 | exact hB2 | apply below_drew | (refine below_alloc ?_ _))) | (simp; done)); (case l1 => simp; omega)); intro v1 w1 hO1_ hB1; have hO1 := Aside0.mk hO1_; clear hO1_) | ((refine own_step (w0 := w) w.heap.size (by rfl) (.tmp 7) (.tmp 8) (by rfl) v1 ([] ++ la) l L q cl (by rfl) (by rfl) ?o1 ?r1 ?b1 ?h1 ?l1 ?_; (case o1 => exact hO1.out); (case r1 => repeat (first | exact HA.out | exact HL.out | exact HT.out | exact HA.out.below hB1 | exact HL.out.below hB1 | exact HT.out.below hB1 | exact HL.out.below hB2 | exact HT.out.below hB2 | exact HT.out.below hB3 | (refine Rd.drew ?_) | (refine Rd.alloc ?_ _))); (case b1 => repeat (first | exact Below.refl _ _ | exact hB1 | exact hB2 | apply below_drew | (refine below_alloc ?_ _))); (case h1 => first | exact Below.size (by repeat (first | exact Below.refl _ _ | exact hB1 | exact hB2 | apply below_drew | (refine below_alloc ?_ _))) | (simp; done)); (case l1 => simp; omega)); intro v2 w2 hO2_ hB2; have hO2 := Aside0.mk hO2_; clear hO2_) | ((refine own_step (w0 := w) w.heap.size (by rfl) (.tmp 9) (.tmp 10) (by rfl) v2 ([] ++ la ++ l) lb B m cb (by rfl) (by rfl) ?o1 ?r1 ?b1 ?h1 ?l1 ?_; (case o1 => exact hO2.out); (case r1 => repeat (first | exact HA.out | exact HL.out | exact HT.out | exact HA.out.below hB1 | exact HL.out.below hB1 | exact HT.out.below hB1 | exact HL.out.below hB2 | exact HT.out.below hB2 | exact HT.out.below hB3 | (refine Rd.drew ?_) | (refine Rd.alloc ?_ _))); (case b1 => repeat (first | exact Below.refl _ _ | exact hB1 | exact hB2 | apply below_drew | (refine below_alloc ?_ _))); (case h1 => first | exact Below.size (by repeat (first | exact Below.refl _ _ | exact hB1 | exact hB2 | apply below_drew | (refine below_alloc ?_ _))) | (simp; done)); (case l1 => simp; omega)); intro v3 w3 hO3_ hB3; have hO3 := Aside0.mk hO3_; clear hO3_))
  go_wp2
  go_ret
  exact ⟨v3, by first | rfl | (simp; done), by simpa using hO3.out, hB3⟩
end Go.Proofs.Ytmhabhfkglhleaa.PWire
