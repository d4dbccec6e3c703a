/- append(b[:len(b):len(b)], behind...) : the answer is b's bytes and behind's, in new memory or (nothing behind) in b's own. -/
import Derived.Test.YtmhabhfkglhleaaPHand
namespace Go.Proofs.Ytmhabhfkglhleaa.PWire
open Go.RowKit Go.Proofs.YtmhabhfkglhleaaW.PrintWords Go.Proofs.YtmhabhfkglhleaaW.PrintLast Go.Proofs.YtmhabhfkglhleaaW.PrintMore
set_option linter.unusedVariables false

theorem Rd.cells {w : World} {A : Option Addr} {n c : Nat} {l : List Int} (h : Rd w A n c l) (ad : Addr) (hA : A = some ad) : ∀ (j : Nat) (u : Value), (l.map (Value.int .u8))[j]? = some u → w.cell? (ad.add j) = some u := by
  intro j u hj
  have hr := Kd.reads_of_C (d := (0 : Int)) h.C
  have hjl : j < l.length := by
    have := (List.getElem?_eq_some_iff.1 hj).1
    rwa [List.length_map] at this
  have hn : 0 < n := by have := h.len; omega
  obtain ⟨ad', e, hc⟩ := hr.2.2 hn
  rw [hA] at e
  obtain rfl := Option.some.inj e
  rw [hc j (by have := h.len; omega)]
  simp [List.getD, hjl] at hj ⊢
  exact hj
theorem Rd.ofOwn {w : World} {base n : Nat} {v : Value} {l : List Int} (h : w.ownsRow base 5 1 v n (l.map (Value.int .u8))) : ∃ A c, v = .slice A n c ∧ Rd w A n c l := by
  have hl : l.length = n := by have := h.1; simpa using this
  obtain ⟨A, c, rfl, hr⟩ := own_reads_of (enc := Value.int .u8) (d := (0 : Int)) h
  refine ⟨A, c, rfl, hl, ?_, Kd.C_of_reads (h1 := fun _ => rfl) hr⟩
  rcases h.2 with ⟨e, h0⟩ | ⟨g, cap, cur, e, _, _, hnc, _⟩
  · omega
  · simp only [Value.slice.injEq] at e
    omega
theorem below_of_grown {w w' : World} (h : w.grownBy w' none) : Below w.heap.size w w' := (Below.refl _ _).grown h (Nat.le_refl _) (fun k hk => by simp at hk)

theorem append_tail {ops : Array Oper} {rest : List Oper} {o : Oper} {a : Act} {Q : Exit → Act → World → Prop} (w : World) (hgd : o.guard = none) (s x : Operand)
    (hop : o.op = .call { callee := .builtin .append, args := #[s, x], argTypes := #[22, 22] })
    (g n : Nat) (xs : List Int) (hs : a.eval s = .slice (some ⟨g, 0, none⟩) n n) (h0 : Rd w (some ⟨g, 0, none⟩) n n xs) (hn : 0 < n)
    (B : Option Addr) (m c2 : Nat) (ys : List Int) (hx : a.eval x = .slice B m c2) (h1 : Rd w B m c2 ys) (hnil : B = none → m = 0 ∧ c2 = 0) (hl : n + m ≤ 140737488355328)
    (hK : ∀ A' c' w', Rd w' A' (n + m) c' (xs ++ ys) → Below w.heap.size w w' → wpList Try.prog ops Q rest (a.put o.dst (.slice A' (n + m) c')) w') :
    wpList Try.prog ops Q (o :: rest) a w := by
  obtain ⟨i0, hi, hz0, hz1, hz2⟩ := info_parts info5
  have hlen0 := h0.len
  have hlen1 := h1.len
  by_cases hm : m = 0
  · subst hm
    obtain rfl : ys = [] := List.eq_nil_of_length_eq_zero hlen1
    have hK' := hK (some ⟨g, 0, none⟩) n w (by rw [List.append_nil]; exact h0) (Below.refl _ _)
    rw [Nat.add_zero] at hK'
    refine wpList_plain hgd fun K hK2 => ?_
    cases B with
    | none =>
      obtain ⟨_, rfl⟩ := hnil rfl
      have hrun : (Builtin.append_ #[22, 22] o.type #[.slice (some ⟨g, 0, none⟩) n n, .slice none 0 0]).run Try.prog w = .ok (.slice (some ⟨g, 0, none⟩) n n) w := by
        simp [Builtin.append_, run_underlying Try.underlying22, sizeOf, typeInfo, hi, Builtin.lenOf, Builtin.firstCells, storeCells]
      unfold Oper.wp
      simp [execOp, hop, resolve, invoke, builtin, hs, hx, hrun, Result.andThen]
      exact hK2 _ _ hK'
    | some ad =>
      have hrun := run_append_room_cells (P := Try.prog) w 22 o.type 5 i0 Try.underlying22 hi g 0 n n ad 0 c2 [] (by simp) (by intro j u hj; simp at hj) (by intro u hu; simp at hu) (by omega) (by intro j hj; simp at hj) (by intro j hj; simp at hj)
      simp only [World.setCells, Nat.add_zero] at hrun
      unfold Oper.wp
      simp [execOp, hop, resolve, invoke, builtin, hs, hx, hrun, Result.andThen]
      exact hK2 _ _ hK'
  · cases B with
    | none => have := hnil rfl; omega
    | some ad =>
      refine wpList_append_grows w hgd s x 22 hop 5 i0 (.int .u8 0) 1 1 Try.underlying22 hi hz0 hz1 hz2 rfl (by decide) (some ⟨g, 0, none⟩) n n (xs.map (Value.int .u8)) hs (by simp) (by rw [List.length_map]; omega)
        (fun b hb => h0.cells b hb) ad m c2 (ys.map (Value.int .u8)) hx (by rw [List.length_map]; omega) (h1.cells ad rfl) (by intro u hu; obtain ⟨y, _, rfl⟩ := List.mem_map.1 hu; rfl) (by omega) (by unfold maxLen; omega) (by omega) ?_
      intro v' w' hown hg
      rw [← List.map_append] at hown
      obtain ⟨A', c', rfl, hr⟩ := Rd.ofOwn hown
      exact hK A' c' w' hr (below_of_grown hg)

/-- wire.Put's answer lies at the head of a block. -/
theorem put_own (k : Nat) (n : Int) (p : List Int) (w : World) (h : wire_Put.f k n = some p) (hp : 0 < p.length) :
    Calls Try.prog 20 #[.int .i64 n] w fun e w' => ∃ g c, e = .returned (.slice (some ⟨g, 0, none⟩) p.length c) ∧ Aside0 (Rd w' (some ⟨g, 0, none⟩) p.length c p) ∧ Aside0 (p.length ≤ c) ∧ Aside0 (Below w.heap.size w w') := by
  refine (wire_Put.calls k n p w h).mono ?_
  rintro e w' ⟨v, rfl, hR, hb⟩
  have ho := Kd.own_of_R hR
  obtain ⟨A, c, rfl, hr⟩ := Rd.ofR hR
  rcases ho.2 with ⟨e, h0⟩ | ⟨g, cap, cur, e, _⟩
  · omega
  · simp only [Value.slice.injEq] at e
    obtain ⟨rfl, _, rfl⟩ := e
    exact ⟨g, c, rfl, ⟨hr⟩, ⟨hr.le⟩, ⟨hb⟩⟩
end Go.Proofs.Ytmhabhfkglhleaa.PWire
