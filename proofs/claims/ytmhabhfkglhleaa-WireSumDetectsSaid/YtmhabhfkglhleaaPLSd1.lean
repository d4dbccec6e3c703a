/- The walk of the law WireSumDetects, by hand. -/
import Derived.Test.YtmhabhfkglhleaaPLSd0
namespace Go.Proofs.Ytmhabhfkglhleaa.PWire
open Go.RowKit Go.Proofs.YtmhabhfkglhleaaW.PrintWords Go.Proofs.YtmhabhfkglhleaaW.PrintLast Go.Proofs.YtmhabhfkglhleaaW.PrintMore
attribute [local go_sem] max2_int min2_int max_two min_two max_three min_three max_four min_four
set_option linter.unusedVariables false
set_option linter.unusedSimpArgs false

/-- The two boxes, and what is read through them. -/
structure Bx (w : World) (A : Option Addr) (n c : Nat) (la : List Int) (B : Option Addr) (m cb : Nat) (lb : List Int) (W : World) : Prop where
  cA : W.cell? ⟨w.heap.size, 0, none⟩ = some (.slice A n c)
  cB : W.cell? ⟨w.heap.size + 1, 0, none⟩ = some (.slice B m cb)
  rA : Rd W A n c la
  rB : Rd W B m cb lb
  below : Below w.heap.size w W
theorem Bx.step {w : World} {A : Option Addr} {n c : Nat} {la : List Int} {B : Option Addr} {m cb : Nat} {lb : List Int} {W W' : World} (h : Bx w A n c la B m cb lb W) (hb : Below W.heap.size W W') : Bx w A n c la B m cb lb W' :=
  ⟨by rw [hb.cell (World.block_lt_of_cell? W _ h.cA)]; exact h.cA, by rw [hb.cell (World.block_lt_of_cell? W _ h.cB)]; exact h.cB, h.rA.below hb, h.rB.below hb, below_step h.below hb⟩
theorem Bx.alloc {w : World} {A : Option Addr} {n c : Nat} {la : List Int} {B : Option Addr} {m cb : Nat} {lb : List Int} {W : World} (h : Bx w A n c la B m cb lb W) (o : Obj) : Bx w A n c la B m cb lb (W.alloc o) := h.step (below_alloc (Below.refl _ _) o)
theorem Bx.drewN {w : World} {A : Option Addr} {n c : Nat} {la : List Int} {B : Option Addr} {m cb : Nat} {lb : List Int} {W : World} (h : Bx w A n c la B m cb lb W) (q : Nat) : Bx w A n c la B m cb lb (W.drewN q) := h.step (pw_below_drewN (Below.refl _ _) q)
theorem Bx.drew {w : World} {A : Option Addr} {n c : Nat} {la : List Int} {B : Option Addr} {m cb : Nat} {lb : List Int} {W : World} (h : Bx w A n c la B m cb lb W) : Bx w A n c la B m cb lb W.drew := h.step (below_drew (Below.refl _ _))
theorem Bx.start {w : World} {A : Option Addr} {n c : Nat} {la : List Int} {B : Option Addr} {m cb : Nat} {lb : List Int} (hA : Rd w A n c la) (hB : Rd w B m cb lb) :
    Bx w A n c la B m cb lb ((w.alloc (.cells #[.slice A n c] 22)).alloc (.cells #[.slice B m cb] 22)) :=
  ⟨by simp, by simp, (hA.alloc _).alloc _, (hB.alloc _).alloc _, below_alloc (below_alloc (Below.refl _ _) _) _⟩
theorem lit_row (W : World) (xs : List Int) (e b : Nat) (hb : W.heap.size = b) (hl : xs.length ≤ 9223372036854775807) : Rd (W.alloc (.cells (xs.map (Value.int .u8)).toArray e)) (some ⟨b, 0, none⟩) xs.length xs.length xs :=
  ⟨rfl, Nat.le_refl _, lit_C .u8 W xs e b hb hl⟩
theorem of_row (w : World) (A : Option Addr) (n c : Nat) (la : List Int) (B : Option Addr) (m cb : Nat) (lb : List Int) {L : Option Addr} {q cl : Nat} (l p : List Int) (W : World) (hp : la ++ l ++ lb = p) (hlen : n + m ≤ 1000)
    (hx : Bx w A n c la B m cb lb W) (hl : Rd W L q cl l) (hq : l.length ≤ 2) :
    Calls Try.prog 18 #[.slice L q cl, .pointer (some ⟨w.heap.size, 0, none⟩), .pointer (some ⟨w.heap.size + 1, 0, none⟩)] W fun e w' => ∃ A' c', e = .returned (.slice A' p.length c') ∧ Aside0 (Rd w' A' p.length c' p) ∧ Aside0 (Bx w A n c la B m cb lb w') ∧ Aside0 (Below W.heap.size W w') := by
  subst hp
  have hl1 := hl.len
  refine (of_calls _ _ A n c la B m cb lb L q cl l W hx.cA hx.cB ⟨hx.rA⟩ ⟨hx.rB⟩ ⟨hl⟩ hx.rA.len hl.len hx.rB.len (by omega)).mono ?_
  rintro e w' ⟨v, rfl, hR, hb⟩
  obtain ⟨A', c', rfl, hr⟩ := Rd.ofR hR
  exact ⟨A', c', rfl, ⟨hr⟩, ⟨hx.step hb⟩, ⟨hb⟩⟩
theorem copy_plain {ops : Array Oper} {rest : List Oper} {o : Oper} {a : Act} {Q : Exit → Act → World → Prop} (w0 W : World) (hgd : o.guard = none) (s x : Operand)
    (ho : o.op = .call { callee := .builtin .append, args := #[s, x], argTypes := #[22, 22] }) (b : Nat) (hb : W.heap.size = b) (ys : List Int) (A : Option Addr) (m c : Nat) (hs : a.eval s = .slice (some ⟨b, 0, none⟩) 0 0) (hx : a.eval x = .slice A m c)
    (HR : Rd W A m c ys) (HB : Below w0.heap.size w0 W) (hl : m ≤ 100000) (hm : 0 < m)
    (h : ∀ g cap w1, w1.ownsRow w0.heap.size 5 1 (.slice (some ⟨g, 0, none⟩) m cap) m (nums .u8 ys) → w0.heap.size ≤ g → Below w0.heap.size w0 w1 → wpList Try.prog ops Q rest (a.put o.dst (.slice (some ⟨g, 0, none⟩) m cap)) w1) :
    wpList Try.prog ops Q (o :: rest) a (W.alloc (.cells #[] 5)) := by
  subst hb
  have hlen := HR.len
  have hR := HR.alloc (.cells #[] 5)
  refine Kd.R_append_row (P := Try.prog) (Value.int .u8) (0 : Int) (h1 := fun _ => rfl) (w0 := w0) w0.heap.size hgd s x 22 5 (.int .u8 0) 1 ho Try.underlying22 info5 rfl (by decide) _ [] ys A m c (fun _ => True) hs hx (fun _ _ => trivial) ?_ hR.C (below_alloc HB _) ?_ ?_ ?_
  · exact Kd.R_of_own (h1 := fun _ => rfl) (own_lit W w0.heap.size 5 .u8 [] HB.size (by simp)) (fun _ _ => trivial)
  · exact (below_alloc HB (.cells #[] 5)).size
  · simp; omega
  · intro v1 w1 hR1 hB1 hg hat
    have ho1 := Kd.own_of_R hR1
    obtain ⟨g, cap, rfl, hbg, _⟩ := ho1.form (by simp; omega)
    have ho2 : w1.ownsRow w0.heap.size 5 1 (.slice (some ⟨g, 0, none⟩) ys.length cap) ys.length (nums .u8 ys) := ho1
    rw [hlen] at ho2
    have := h g cap w1 ho2 hbg hB1
    rw [← hlen] at this
    exact this
theorem store_row {w0 w : World} {g n cap q : Nat} {l : List Int} (h : w.ownsRow w0.heap.size 5 1 (.slice (some ⟨g, 0, none⟩) n cap) n (nums .u8 l)) (hB : Below w0.heap.size w0 w) (hg : w0.heap.size ≤ g) (y : Int) :
    Rd (w.setCell ⟨g, q, none⟩ (.int .u8 y)) (some ⟨g, 0, none⟩) n cap (l.set q y) ∧ Below w0.heap.size w0 (w.setCell ⟨g, q, none⟩ (.int .u8 y)) := by
  have hs := own_store h (q : Int) y
  rw [Int.toNat_natCast] at hs
  obtain ⟨A, c, e, hr⟩ := Rd.ofOwn hs.1
  simp only [Value.slice.injEq] at e
  obtain ⟨rfl, _, rfl⟩ := e
  exact ⟨hr, hB.grown hs.2 hB.size (fun k hk => by injection hk with hk; omega)⟩
theorem at_row {w : World} {base g n cap q : Nat} {l : List Int} (h : w.ownsRow base 5 1 (.slice (some ⟨g, 0, none⟩) n cap) n (nums .u8 l)) (hq : q < n) :
    w.cell? ⟨g, q, none⟩ = some (.int .u8 (rd l q)) ∧ w.frozen? ⟨g, q, none⟩ = false := by
  have := own_at h (q : Int) (by omega) (by omega)
  rwa [Int.toNat_natCast] at this

set_option maxHeartbeats 4000000 in
set_option maxRecDepth 100000 in
theorem sd_walk1 (k : Nat) (A : Option Addr) (n c : Nat) (la : List Int) (x y : Int) (B : Option Addr) (m cb : Nat) (lb p1 p2 p3 p4 sl pt xs : List Int) (s1 s2 s3 s4 nn ee : Int) (q : Nat) (w : World) (HA : Aside0 (Rd w A n c la)) (HT : Aside0 (Rd w B m cb lb)) (hlen : n + m ≤ 1000) (hnm : n + m ≤ 600)
    (h1 : Aside0 (la ++ [x] ++ lb = p1)) (h2 : Aside0 (la ++ [y] ++ lb = p2)) (h3 : Aside0 (la ++ [x, y] ++ lb = p3)) (h4 : Aside0 (la ++ [y, x] ++ lb = p4))
    (g1 : Aside0 (wire_Sum.f k p1 = some s1)) (g2 : Aside0 (wire_Sum.f k p2 = some s2)) (g3 : Aside0 (wire_Sum.f k p3 = some s3)) (g4 : Aside0 (wire_Sum.f k p4 = some s4))
    (hse : Aside0 (wire_Seal.f k p1 = some sl)) (hpt : Aside0 (wire_Put.f k p1.length = some pt))
    (hq : pt.length + n = q) (hqs : q < sl.length) (hsl : sl.length ≤ 2000)
    (HO : Aside0 (∀ w A c, Rd w A sl.length c (sl.set q y) → Calls Try.prog 16 #[.slice A sl.length c] w fun e w' => ∃ A' c', e = .returned (.tuple #[.slice A' xs.length c', .int .i64 nn, .int .i64 ee]) ∧ Aside0 (Below w.heap.size w w')))
    (eee : (ee == 0) = true) (e12 : (s1 == s2) = true) (e34 : (s3 == s4) = true) (exy : (x == y) = true) :
    Calls Try.prog 4 #[.slice A n c, .int .u8 x, .int .u8 y, .slice B m cb] w fun e w' => e = .returned (.bool true) ∧ Below w.heap.size w w' := by
  have t1 : decide (600 < (n : Int) + (m : Int)) = false := decide_eq_false (by omega)
  have t2 : decide (600 < n + m) = false := decide_eq_false (by omega)
  have d1 : decide (sl.length ≤ q) = false := decide_eq_false (by omega)
  have d2 : decide ((sl.length : Int) ≤ (q : Int)) = false := decide_eq_false (by omega)
  have HX0 := Aside0.mk (Bx.start HA.out HT.out)
  have hmf : ∀ (fn : Fn) (first cap : Array Value) (w : World), (Instr.makeFunc fn first cap).run Try.prog w = .ok (.func fn first cap) w := fun _ _ _ _ => rfl
  go_enter Try.func4, Try.ntmps4
  go_wp2_with (first | (go_at_call 18; (with_reducible refine (of_row w A n c la B m cb lb [x] p1 _ h1.out hlen ?b1 ?l1 ?q1).mono ?_); (case q1 => simp); (case b1 => repeat (first | exact HX1.out | exact HX2.out | exact HX3.out | exact HX0.out | (with_reducible refine Bx.drewN ?_ _) | (refine Bx.alloc ?_ _))); (case l1 => exact lit_row _ [x] 5 _ (by first | rfl | simp) (by simp)); rintro e w1 ⟨A1, c1, rfl, HR1, HX1, HB1⟩) | (go_at_call 18; (with_reducible refine (of_row w A n c la B m cb lb [y] p2 _ h2.out hlen ?b2 ?l2 ?q2).mono ?_); (case q2 => simp); (case b2 => repeat (first | exact HX1.out | exact HX2.out | exact HX3.out | exact HX0.out | (with_reducible refine Bx.drewN ?_ _) | (refine Bx.alloc ?_ _))); (case l2 => exact lit_row _ [y] 5 _ (by first | rfl | simp) (by simp)); rintro e w2 ⟨A2, c2, rfl, HR2, HX2, HB2⟩) | (go_at_call 18; (with_reducible refine (of_row w A n c la B m cb lb [x, y] p3 _ h3.out hlen ?b3 ?l3 ?q3).mono ?_); (case q3 => simp); (case b3 => repeat (first | exact HX1.out | exact HX2.out | exact HX3.out | exact HX0.out | (with_reducible refine Bx.drewN ?_ _) | (refine Bx.alloc ?_ _))); (case l3 => exact lit_row _ [x, y] 5 _ (by first | rfl | simp) (by simp)); rintro e w3 ⟨A3, c3, rfl, HR3, HX3, HB3⟩) | (go_at_call 18; (with_reducible refine (of_row w A n c la B m cb lb [y, x] p4 _ h4.out hlen ?b4 ?l4 ?q4).mono ?_); (case q4 => simp); (case b4 => repeat (first | exact HX1.out | exact HX2.out | exact HX3.out | exact HX0.out | (with_reducible refine Bx.drewN ?_ _) | (refine Bx.alloc ?_ _))); (case l4 => exact lit_row _ [y, x] 5 _ (by first | rfl | simp) (by simp)); rintro e w4 ⟨A4, c4, rfl, HR4, HX4, HB4⟩) | (go_at_call 19; (with_reducible refine (sum_row k A1 p1.length c1 p1 s1 _ ?u1 g1.out).mono ?_); (case u1 => repeat (first | exact HR1.out | exact HR2.out | exact HR3.out | exact HR4.out | (with_reducible refine Rd.drewN ?_ _) | (refine Rd.below ?_ HB4.out) | (refine Rd.below ?_ HB3.out) | (refine Rd.below ?_ HB2.out) | (refine Rd.alloc ?_ _))); rintro e w' ⟨rfl, ⟨nd1, rfl⟩⟩) | (go_at_call 19; (with_reducible refine (sum_row k A2 p2.length c2 p2 s2 _ ?u2 g2.out).mono ?_); (case u2 => repeat (first | exact HR1.out | exact HR2.out | exact HR3.out | exact HR4.out | (with_reducible refine Rd.drewN ?_ _) | (refine Rd.below ?_ HB4.out) | (refine Rd.below ?_ HB3.out) | (refine Rd.below ?_ HB2.out) | (refine Rd.alloc ?_ _))); rintro e w' ⟨rfl, ⟨nd2, rfl⟩⟩) | (go_at_call 19; (with_reducible refine (sum_row k A3 p3.length c3 p3 s3 _ ?u3 g3.out).mono ?_); (case u3 => repeat (first | exact HR1.out | exact HR2.out | exact HR3.out | exact HR4.out | (with_reducible refine Rd.drewN ?_ _) | (refine Rd.below ?_ HB4.out) | (refine Rd.below ?_ HB3.out) | (refine Rd.below ?_ HB2.out) | (refine Rd.alloc ?_ _))); rintro e w' ⟨rfl, ⟨nd3, rfl⟩⟩) | (go_at_call 19; (with_reducible refine (sum_row k A4 p4.length c4 p4 s4 _ ?u4 g4.out).mono ?_); (case u4 => repeat (first | exact HR1.out | exact HR2.out | exact HR3.out | exact HR4.out | (with_reducible refine Rd.drewN ?_ _) | (refine Rd.below ?_ HB4.out) | (refine Rd.below ?_ HB3.out) | (refine Rd.below ?_ HB2.out) | (refine Rd.alloc ?_ _))); rintro e w' ⟨rfl, ⟨nd4, rfl⟩⟩) | (go_at_call 15; (with_reducible refine (seal_row k A1 p1.length c1 p1 sl _ ?u5 hse.out).mono ?_); (case u5 => repeat (first | exact HR1.out | exact HR2.out | exact HR3.out | exact HR4.out | (with_reducible refine Rd.drewN ?_ _) | (refine Rd.below ?_ HB4.out) | (refine Rd.below ?_ HB3.out) | (refine Rd.below ?_ HB2.out) | (refine Rd.alloc ?_ _))); rintro e w5 ⟨A5, c5, rfl, HR5, HB5⟩; have HX5 : Aside0 (Bx w A n c la B m cb lb w5) := ⟨Bx.step (by repeat (first | exact HX4.out | (with_reducible refine Bx.drewN ?_ _))) HB5.out⟩))
  have hc5 := HX5.out.cA
  go_region_held3 (fun w' => w'.cell? ⟨w.heap.size, 0, none⟩ = some (.slice A n c)) (first | go_keep | exact HX6.out.cA)
    (first | (go_at_call 20; (with_reducible refine (put_row k p1.length pt _ hpt.out).mono ?_); rintro e w6 ⟨A6, c6, rfl, HR6, HO6, HB6⟩; have HX6 : Aside0 (Bx w A n c la B m cb lb w6) := ⟨Bx.step (by repeat (first | exact HX5.out | (with_reducible refine Bx.drewN ?_ _) | (with_reducible refine Bx.drew ?_))) HB6.out⟩) | fail)
  rw [show IntKind.i64.wrap ((pt.length : Int) + (n : Int)) = (q : Int) from by rw [IntKind.wrap_i64]; omega]
  go_wp2_with (first | ((with_reducible refine gate_builtin (b := .append) (xs := #[.tmp 74, .tmp 75]) rfl ?_); at_builtin; refine copy_plain w w6 rfl (.tmp 74) (.tmp 75) rfl w6.heap.size rfl sl A5 sl.length c5 rfl rfl ?z1 ?z2 ?z4 ?z5 ?_; (case z1 => exact (HR5.out.drew).below HB6.out); (case z2 => exact HX6.out.below); (case z4 => omega); (case z5 => omega); intro g cap w7 ho7_ hg7 hB7_; have HO7 := Aside0.mk ho7_; have HB7 := Aside0.mk hB7_; have HC7 := at_row ho7_ hqs; have HS7 := Aside0.mk (store_row (q := q) ho7_ hB7_ hg7 y); clear ho7_ hB7_; obtain ⟨hc7, hf7⟩ := HC7) | (go_at_call 16; (with_reducible refine (HO.out _ _ cap ?s1).mono ?_); (case s1 => exact HS7.out.1); rintro e w8 ⟨A8, c8, rfl, HB8⟩) | (go_at_call 14; (with_reducible refine (sanity_row _).mono ?_); rintro e w9 ⟨rfl, HB9⟩))
  go_ret
  exact ⟨by first | rfl | (simp; done) | (simp [*]; done), below_step (below_step HS7.out.2 HB8.out) HB9.out⟩
set_option maxHeartbeats 4000000 in
set_option maxRecDepth 100000 in
theorem sd_walk0 (k : Nat) (A : Option Addr) (n c : Nat) (la : List Int) (x y : Int) (B : Option Addr) (m cb : Nat) (lb p1 p2 p3 p4 sl pt xs : List Int) (s1 s2 s3 s4 nn ee : Int) (q : Nat) (w : World) (HA : Aside0 (Rd w A n c la)) (HT : Aside0 (Rd w B m cb lb)) (hlen : n + m ≤ 1000) (hnm : n + m ≤ 600)
    (h1 : Aside0 (la ++ [x] ++ lb = p1)) (h2 : Aside0 (la ++ [y] ++ lb = p2)) (h3 : Aside0 (la ++ [x, y] ++ lb = p3)) (h4 : Aside0 (la ++ [y, x] ++ lb = p4))
    (g1 : Aside0 (wire_Sum.f k p1 = some s1)) (g2 : Aside0 (wire_Sum.f k p2 = some s2)) (g3 : Aside0 (wire_Sum.f k p3 = some s3)) (g4 : Aside0 (wire_Sum.f k p4 = some s4))
    (hse : Aside0 (wire_Seal.f k p1 = some sl)) (hpt : Aside0 (wire_Put.f k p1.length = some pt))
    (hq : pt.length + n = q) (hqs : q < sl.length) (hsl : sl.length ≤ 2000)
    (HO : Aside0 (∀ w A c, Rd w A sl.length c (sl.set q y) → Calls Try.prog 16 #[.slice A sl.length c] w fun e w' => ∃ A' c', e = .returned (.tuple #[.slice A' xs.length c', .int .i64 nn, .int .i64 ee]) ∧ Aside0 (Below w.heap.size w w')))
    (eee : (ee == 0) = false) (e12 : (s1 == s2) = false) (e34 : (s3 == s4) = false) (exy : (x == y) = false) :
    Calls Try.prog 4 #[.slice A n c, .int .u8 x, .int .u8 y, .slice B m cb] w fun e w' => e = .returned (.bool true) ∧ Below w.heap.size w w' := by
  have t1 : decide (600 < (n : Int) + (m : Int)) = false := decide_eq_false (by omega)
  have t2 : decide (600 < n + m) = false := decide_eq_false (by omega)
  have d1 : decide (sl.length ≤ q) = false := decide_eq_false (by omega)
  have d2 : decide ((sl.length : Int) ≤ (q : Int)) = false := decide_eq_false (by omega)
  have HX0 := Aside0.mk (Bx.start HA.out HT.out)
  have hmf : ∀ (fn : Fn) (first cap : Array Value) (w : World), (Instr.makeFunc fn first cap).run Try.prog w = .ok (.func fn first cap) w := fun _ _ _ _ => rfl
  go_enter Try.func4, Try.ntmps4
  go_wp2_with (first | (go_at_call 18; (with_reducible refine (of_row w A n c la B m cb lb [x] p1 _ h1.out hlen ?b1 ?l1 ?q1).mono ?_); (case q1 => simp); (case b1 => repeat (first | exact HX1.out | exact HX2.out | exact HX3.out | exact HX0.out | (with_reducible refine Bx.drewN ?_ _) | (refine Bx.alloc ?_ _))); (case l1 => exact lit_row _ [x] 5 _ (by first | rfl | simp) (by simp)); rintro e w1 ⟨A1, c1, rfl, HR1, HX1, HB1⟩) | (go_at_call 18; (with_reducible refine (of_row w A n c la B m cb lb [y] p2 _ h2.out hlen ?b2 ?l2 ?q2).mono ?_); (case q2 => simp); (case b2 => repeat (first | exact HX1.out | exact HX2.out | exact HX3.out | exact HX0.out | (with_reducible refine Bx.drewN ?_ _) | (refine Bx.alloc ?_ _))); (case l2 => exact lit_row _ [y] 5 _ (by first | rfl | simp) (by simp)); rintro e w2 ⟨A2, c2, rfl, HR2, HX2, HB2⟩) | (go_at_call 18; (with_reducible refine (of_row w A n c la B m cb lb [x, y] p3 _ h3.out hlen ?b3 ?l3 ?q3).mono ?_); (case q3 => simp); (case b3 => repeat (first | exact HX1.out | exact HX2.out | exact HX3.out | exact HX0.out | (with_reducible refine Bx.drewN ?_ _) | (refine Bx.alloc ?_ _))); (case l3 => exact lit_row _ [x, y] 5 _ (by first | rfl | simp) (by simp)); rintro e w3 ⟨A3, c3, rfl, HR3, HX3, HB3⟩) | (go_at_call 18; (with_reducible refine (of_row w A n c la B m cb lb [y, x] p4 _ h4.out hlen ?b4 ?l4 ?q4).mono ?_); (case q4 => simp); (case b4 => repeat (first | exact HX1.out | exact HX2.out | exact HX3.out | exact HX0.out | (with_reducible refine Bx.drewN ?_ _) | (refine Bx.alloc ?_ _))); (case l4 => exact lit_row _ [y, x] 5 _ (by first | rfl | simp) (by simp)); rintro e w4 ⟨A4, c4, rfl, HR4, HX4, HB4⟩) | (go_at_call 19; (with_reducible refine (sum_row k A1 p1.length c1 p1 s1 _ ?u1 g1.out).mono ?_); (case u1 => repeat (first | exact HR1.out | exact HR2.out | exact HR3.out | exact HR4.out | (with_reducible refine Rd.drewN ?_ _) | (refine Rd.below ?_ HB4.out) | (refine Rd.below ?_ HB3.out) | (refine Rd.below ?_ HB2.out) | (refine Rd.alloc ?_ _))); rintro e w' ⟨rfl, ⟨nd1, rfl⟩⟩) | (go_at_call 19; (with_reducible refine (sum_row k A2 p2.length c2 p2 s2 _ ?u2 g2.out).mono ?_); (case u2 => repeat (first | exact HR1.out | exact HR2.out | exact HR3.out | exact HR4.out | (with_reducible refine Rd.drewN ?_ _) | (refine Rd.below ?_ HB4.out) | (refine Rd.below ?_ HB3.out) | (refine Rd.below ?_ HB2.out) | (refine Rd.alloc ?_ _))); rintro e w' ⟨rfl, ⟨nd2, rfl⟩⟩) | (go_at_call 19; (with_reducible refine (sum_row k A3 p3.length c3 p3 s3 _ ?u3 g3.out).mono ?_); (case u3 => repeat (first | exact HR1.out | exact HR2.out | exact HR3.out | exact HR4.out | (with_reducible refine Rd.drewN ?_ _) | (refine Rd.below ?_ HB4.out) | (refine Rd.below ?_ HB3.out) | (refine Rd.below ?_ HB2.out) | (refine Rd.alloc ?_ _))); rintro e w' ⟨rfl, ⟨nd3, rfl⟩⟩) | (go_at_call 19; (with_reducible refine (sum_row k A4 p4.length c4 p4 s4 _ ?u4 g4.out).mono ?_); (case u4 => repeat (first | exact HR1.out | exact HR2.out | exact HR3.out | exact HR4.out | (with_reducible refine Rd.drewN ?_ _) | (refine Rd.below ?_ HB4.out) | (refine Rd.below ?_ HB3.out) | (refine Rd.below ?_ HB2.out) | (refine Rd.alloc ?_ _))); rintro e w' ⟨rfl, ⟨nd4, rfl⟩⟩) | (go_at_call 15; (with_reducible refine (seal_row k A1 p1.length c1 p1 sl _ ?u5 hse.out).mono ?_); (case u5 => repeat (first | exact HR1.out | exact HR2.out | exact HR3.out | exact HR4.out | (with_reducible refine Rd.drewN ?_ _) | (refine Rd.below ?_ HB4.out) | (refine Rd.below ?_ HB3.out) | (refine Rd.below ?_ HB2.out) | (refine Rd.alloc ?_ _))); rintro e w5 ⟨A5, c5, rfl, HR5, HB5⟩; have HX5 : Aside0 (Bx w A n c la B m cb lb w5) := ⟨Bx.step (by repeat (first | exact HX4.out | (with_reducible refine Bx.drewN ?_ _))) HB5.out⟩))
  have hc5 := HX5.out.cA
  go_region_held3 (fun w' => w'.cell? ⟨w.heap.size, 0, none⟩ = some (.slice A n c)) (first | go_keep | exact HX6.out.cA)
    (first | (go_at_call 20; (with_reducible refine (put_row k p1.length pt _ hpt.out).mono ?_); rintro e w6 ⟨A6, c6, rfl, HR6, HO6, HB6⟩; have HX6 : Aside0 (Bx w A n c la B m cb lb w6) := ⟨Bx.step (by repeat (first | exact HX5.out | (with_reducible refine Bx.drewN ?_ _) | (with_reducible refine Bx.drew ?_))) HB6.out⟩) | fail)
  rw [show IntKind.i64.wrap ((pt.length : Int) + (n : Int)) = (q : Int) from by rw [IntKind.wrap_i64]; omega]
  go_wp2_with (first | ((with_reducible refine gate_builtin (b := .append) (xs := #[.tmp 74, .tmp 75]) rfl ?_); at_builtin; refine copy_plain w w6 rfl (.tmp 74) (.tmp 75) rfl w6.heap.size rfl sl A5 sl.length c5 rfl rfl ?z1 ?z2 ?z4 ?z5 ?_; (case z1 => exact (HR5.out.drew).below HB6.out); (case z2 => exact HX6.out.below); (case z4 => omega); (case z5 => omega); intro g cap w7 ho7_ hg7 hB7_; have HO7 := Aside0.mk ho7_; have HB7 := Aside0.mk hB7_; have HC7 := at_row ho7_ hqs; have HS7 := Aside0.mk (store_row (q := q) ho7_ hB7_ hg7 y); clear ho7_ hB7_; obtain ⟨hc7, hf7⟩ := HC7) | (go_at_call 16; (with_reducible refine (HO.out _ _ cap ?s1).mono ?_); (case s1 => exact HS7.out.1); rintro e w8 ⟨A8, c8, rfl, HB8⟩) | (go_at_call 14; (with_reducible refine (sanity_row _).mono ?_); rintro e w9 ⟨rfl, HB9⟩))
  go_ret
  exact ⟨by first | rfl | (simp; done) | (simp [*]; done), below_step (below_step HS7.out.2 HB8.out) HB9.out⟩
theorem sd_long (A : Option Addr) (n c : Nat) (x y : Int) (B : Option Addr) (m cb : Nat) (w : World) (hn : 600 < n + m) (hn2 : n + m ≤ 9223372036854775807) :
    Calls Try.prog 4 #[.slice A n c, .int .u8 x, .int .u8 y, .slice B m cb] w fun e w' => e = .returned (.bool true) ∧ Below w.heap.size w w' := by
  have t1 : decide (600 < (n : Int) + (m : Int)) = true := decide_eq_true (by omega)
  have t2 : decide (600 < n + m) = true := decide_eq_true (by omega)
  go_enter Try.func4, Try.ntmps4
  go_wp2_with (first | (go_at_call 14; (with_reducible refine (sanity_row _).mono ?_); rintro e w9 ⟨rfl, HB9⟩))
  go_ret
  exact ⟨rfl, below_step (below_alloc (below_alloc (Below.refl _ _) _) _) HB9.out⟩
end Go.Proofs.Ytmhabhfkglhleaa.PWire
