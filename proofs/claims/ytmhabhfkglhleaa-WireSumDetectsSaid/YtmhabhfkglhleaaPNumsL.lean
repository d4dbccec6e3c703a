/- The loop of wire.GetNums, and its contract. -/
import Derived.Test.YtmhabhfkglhleaaPNums
namespace Go.Proofs.Ytmhabhfkglhleaa.PWire
open Go.RowKit Go.Proofs.YtmhabhfkglhleaaW.PrintWords Go.Proofs.YtmhabhfkglhleaaW.PrintLast Go.Proofs.YtmhabhfkglhleaaW.PrintMore
open Go.Proofs.Ytmhabhfkglhleaa.Core Go.Proofs.Ytmhabhfkglhleaa.Math
attribute [local go_sem] max2_int min2_int max_two min_two max_three min_three max_four min_four
set_option linter.unusedVariables false
set_option linter.unusedSimpArgs false


/-- What GetNums leaves: the decoded list in new memory and what was consumed, or the error. -/
def NumsPost (w0 : World) (res : Option (List Int × Nat)) (e : Ending) (w1 : World) : Prop :=
  ∃ v0_ : Value, (∀ o p, res = some (o, p) → e = .returned (.tuple #[v0_, .int .i64 ((p : Nat) : Int), .int .i64 0]) ∧ Kd.R (Kd.int .i64) 3 w1 w0.heap.size (fun _ => True) v0_ o) ∧
    (res = none → e = .returned (.tuple #[v0_, .int .i64 0, .int .i64 3]) ∧ v0_ = .slice none 0 0) ∧ Below w0.heap.size w0 w1
set_option maxHeartbeats 4000000 in
set_option maxRecDepth 100000 in
theorem nums_loop (A0 : Option Addr) (c0 : Nat) (l0 : List Int) (n used e0 : Int) (N p0 : Nat) (w : World)
    (hr0 : Aside0 (Kd.C (Kd.int .u8) w A0 l0.length l0)) (hc0 : Aside0 (l0.length ≤ c0)) (hl : Aside0 (l0.length ≤ 140737488355328)) (hl2 : Aside0 (l0.length ≤ 17592186044415)) (hby : Aside0 (Bytes l0))
    (Hd : Aside0 (dget l0 = (n, used, e0))) (hN : Aside0 (n = (N : Int) ∧ N ≤ l0.length ∧ used.toNat = p0 ∧ p0 ≤ l0.length)) (h1 : (e0 == 0) = true) (h2 : decide (n < 0) = false) (h3 : decide ((l0.length : Int) < n) = false)
    (res : Option (List Int × Nat)) (hres : Aside0 (numsL l0 N p0 [] = res)) :
    Calls Try.prog 26 #[.slice A0 l0.length c0] w fun e w' => NumsPost w res e w' := by
  have hl1 : l0.length ≤ 9223372036854775807 := by have := hl.out; omega
  go_enter Try.func26, Try.ntmps26
  go_wp2_with (first | (go_at_call 37; (with_reducible refine (reader_calls A0 l0.length c0 _).mono ?_); rintro e w' ⟨rfl, rfl⟩) | (go_at_call 39; (with_reducible refine (next_inv A0 c0 0 l0 w _ (Inv.start w A0 l0.length c0) hr0.out hc0.out (Nat.zero_le _) hl.out hby.out).mono ?_); rw [List.drop_zero, Hd.out]; rintro e w1 ⟨rfl, HI, HK⟩))
  go_loopg [9, 35] N (fun kq v9 v35 w' => ∃ (j p : Nat) (out : List Int), v35 = .int .i64 j ∧ Aside0 (kq + j = N ∧ out.length = j ∧ p ≤ l0.length ∧ numsL l0 kq p out = res) ∧ Aside0 (Kd.R (Kd.int .i64) 3 w' w.heap.size (fun k => w.heap.size + 2 ≤ k) v9 out) ∧ Aside0 (Inv w w' A0 l0.length c0 p))
  case atStart => exact ⟨0, p0, [], rfl, ⟨by omega, rfl, hN.out.2.2.2, hres.out⟩, ⟨Kd.R_nil _ _ _ _ _⟩, ⟨by have := HI.out; rw [Nat.zero_add, hN.out.2.2.1] at this; exact this⟩⟩
  case round =>
    obtain ⟨j, p, out, rfl, HA, HO, HI9⟩ := hrel
    clear HI HK
    have HI := HI9
    clear HI9
    have HP : Aside0 (p ≤ l0.length ∧ (out.length + 1) * 8 ≤ 140737488355328) := ⟨HA.out.2.2.1, by have := HA.out; have := hN.out; have := hl2.out; omega⟩
    cases gk with
    | zero =>
      have e : (j : Int) = n := by have := HA.out; have := hN.out; omega
      have h4 : decide ((j : Int) < n) = false := decide_eq_false (by omega)
      have hr := HA.out.2.2.2
      simp only [numsL] at hr
      have HR := Aside0.mk hr
      clear hr e
      go_wp2_with (first | (go_at_call 40; (with_reducible refine (upto_calls p _ _ HI.out.ca).mono ?_); rintro e w' ⟨rfl, rfl⟩))
      go_ret3
      exact ⟨u9, fun o q h => by
        have hq := Option.some.inj (HR.out.trans h)
        simp only [Prod.mk.injEq] at hq
        obtain ⟨rfl, rfl⟩ := hq
        exact ⟨rfl, Kd.R_mono HO.out (fun _ _ => trivial)⟩, fun h => by have := HR.out.trans h; simp at this, HI.out.bel⟩
    | succ m =>
      have h4 : decide ((j : Int) < n) = true := decide_eq_true (by have := HA.out; have := hN.out; omega)
      obtain ⟨⟨n2, used2, e2⟩, hd2⟩ : ∃ z, z = dget (l0.drop p) := ⟨_, rfl⟩
      have hr := HA.out.2.2.2
      simp only [numsL] at hr
      rw [← hd2] at hr
      have hbd := dget_bounds (hby.out.dropped p)
      rw [← hd2] at hbd
      have Hd2 := Aside0.mk hd2.symm
      clear hd2
      by_cases h5 : e2 = 0
      · rw [if_pos h5] at hr
        have hbd2 := Aside0.mk hbd
        have HW : Aside0 (wrap64 ((j : Int) + 1) = (j : Int) + 1) := ⟨by have := HA.out; have := hN.out; unfold wrap64; omega⟩
        have HR := Aside0.mk hr
        clear hr hbd
        have h6 : (e2 == 0) = true := beq_iff_eq.mpr h5
        clear h5
        go_wp2_with (first | (go_at_call 39; (with_reducible refine (next_inv A0 c0 p l0 w _ HI.out hr0.out hc0.out HP.out.1 hl.out hby.out).mono ?_); rw [Hd2.out]; rintro e w2 ⟨rfl, HI2, HK2⟩) | ((with_reducible refine gate_builtin (b := .append) (xs := #[.tmp 44, .tmp 46]) rfl ?_); at_builtin; refine Kd.R_append (Kd.int .i64) (w0 := w) w.heap.size rfl (.tmp 44) (.tmp 46) 38 3 (.int .i64 0) 8 rfl Try.underlying38 info3 rfl (by decide) (by omega) u9 out n2 [.int .i64 n2] (fun k => w.heap.size + 2 ≤ k) (fun _ => False) rfl rfl ?aP (fun _ hk => hk.elim) ?aF ?aO ?aB ?aS ?aL ?_; (case aP => exact rfl); (case aB => exact (by repeat (first | exact HI2.out.bel | (with_reducible first | apply below_alloc | apply pw_below_drewN | apply below_drew1)))); (case aF => exact (fun k hk => by have := HI2.out.sz; omega)); (case aO => exact (by (with_reducible repeat (first | apply Kd.R_alloc | apply Kd.R_drewN | apply Kd.R_drew)); exact HK2.out _ _ HO.out)); (case aS => have := HI2.out.sz; omega); (case aL => have := HP.out.2; omega); intro v106 w3 ho hb hg hat; have HI3 := Aside0.mk (HI2.out.app hb hg (fun k hk => HO.out.1 k hk)); have HO3 := Aside0.mk ho; clear ho hb hg hat))
        go_roundg m
        case measure => omega
        case rel => exact ⟨j + 1, p + used2.toNat, out ++ [n2], (by first | rfl | (simp; done) | (simp; exact HW.out)), ⟨by have := HA.out; omega, by have := HA.out; simp; omega, by
          rcases hbd2.out with h | ⟨_, _, h, _⟩
          · simp at h; have := HP.out.1; omega
          · simp only [List.length_drop] at h; have := HP.out.1; omega, HR.out⟩, HO3, HI3⟩
      · rw [if_neg h5] at hr
        have HR := Aside0.mk hr
        clear hr hbd
        have h6 : (e2 == 0) = false := beq_eq_false_iff_ne.mpr h5
        clear h5
        go_wp2_with (first | (go_at_call 39; (with_reducible refine (next_inv A0 c0 p l0 w _ HI.out hr0.out hc0.out HP.out.1 hl.out hby.out).mono ?_); rw [Hd2.out]; rintro e w2 ⟨rfl, HI2, HK2⟩))
        go_ret3
        exact ⟨.slice none 0 0, fun o q h => by have := HR.out.trans h; simp at this, fun _ => ⟨rfl, rfl⟩, HI2.out.bel⟩

/-- GetNums as a Lean function, in the form of print.py's: k rounds (none are needed), the bytes' bounds as its guard. -/
def okBytes (l : List Int) : Bool := l.all (fun x => decide (0 ≤ x) && decide (x ≤ 255)) && decide (l.length ≤ 17592186044415)
theorem okBytes_iff {l : List Int} : okBytes l = true ↔ Bytes l ∧ l.length ≤ 17592186044415 := by
  unfold okBytes Bytes Byte
  rw [Bool.and_eq_true, List.all_eq_true, decide_eq_true_iff]
  simp only [Bool.and_eq_true, decide_eq_true_iff]
def wire_GetNums.f (_k : Nat) (l0 : List Int) : Option (List Int × Int × Int) := if okBytes l0 then some (numsS l0) else none
theorem wire_GetNums.mono : ∀ a0 k, LeO (wire_GetNums.f k a0) (wire_GetNums.f (k + 1) a0) := fun _ _ => LeO.refl _
theorem wire_GetNums.calls (k : Nat) (A0 : Option Addr) (c0 : Nat) (l0 : List Int) (r1 : List Int) (r2 : Int) (r3 : Int) (w : World) (hr0 : Kd.C (Kd.int .u8) w A0 l0.length l0) (hc0 : l0.length ≤ c0) (h : wire_GetNums.f k l0 = some (r1, r2, r3)) :
    Calls Try.prog 26 #[.slice A0 l0.length c0] w fun e w' => ∃ v0_ : Value, e = .returned (.tuple #[v0_, .int .i64 r2, .int .i64 r3]) ∧ Kd.R (Kd.int .i64) 3 w' w.heap.size (fun _ => True) v0_ r1 ∧ Below w.heap.size w w' := by
  unfold wire_GetNums.f at h
  by_cases hok : okBytes l0 = true
  · rw [if_pos hok] at h
    obtain ⟨hby, hlen⟩ := okBytes_iff.1 hok
    have hn := Option.some.inj h
    unfold numsS at hn
    obtain ⟨⟨n, used, e0⟩, hd⟩ : ∃ z, z = dget l0 := ⟨_, rfl⟩
    rw [← hd] at hn
    have hbd := dget_bounds hby
    rw [← hd] at hbd
    by_cases hg : e0 = 0 ∧ 0 ≤ n ∧ n ≤ l0.length
    · rw [if_pos hg] at hn
      have hu : 1 ≤ used ∧ used ≤ l0.length := by
        rcases hbd with hz | ⟨_, h1, h2, _⟩
        · simp at hz; omega
        · exact ⟨h1, h2⟩
      refine (nums_loop A0 c0 l0 n used e0 n.toNat used.toNat w ⟨hr0⟩ ⟨hc0⟩ ⟨by omega⟩ ⟨hlen⟩ ⟨hby⟩ ⟨hd.symm⟩ ⟨by omega, by omega, rfl, by omega⟩ (beq_iff_eq.mpr hg.1) (decide_eq_false (by omega)) (decide_eq_false (by omega)) _ ⟨rfl⟩).mono ?_
      rintro e w' ⟨v0_, hsome, hnone, hb⟩
      cases hr : numsL l0 n.toNat used.toNat [] with
      | none =>
        rw [hr] at hn
        simp only [Prod.mk.injEq] at hn
        obtain ⟨rfl, rfl, rfl⟩ := hn
        obtain ⟨he, hv⟩ := hnone hr
        refine ⟨v0_, he, ?_, hb⟩
        rw [hv]; exact Kd.R_nil _ _ _ _ _
      | some z =>
        obtain ⟨o, q⟩ := z
        rw [hr] at hn
        simp only [Prod.mk.injEq] at hn
        obtain ⟨rfl, rfl, rfl⟩ := hn
        obtain ⟨he, hR⟩ := hsome o q hr
        exact ⟨v0_, he, hR, hb⟩
    · rw [if_neg hg] at hn
      simp only [Prod.mk.injEq] at hn
      obtain ⟨rfl, rfl, rfl⟩ := hn
      refine (nums_err A0 c0 l0 n used e0 w ⟨hr0⟩ ⟨hc0⟩ ⟨by omega⟩ ⟨hby⟩ ⟨hd.symm⟩ _ _ _ rfl rfl rfl ?_).mono ?_
      · by_cases h1 : e0 = 0
        · by_cases h2 : n < 0
          · exact .inr (.inl (decide_eq_true h2))
          · exact .inr (.inr (decide_eq_true (by omega)))
        · exact .inl (beq_eq_false_iff_ne.mpr h1)
      · rintro e w' ⟨rfl, hb⟩
        exact ⟨_, rfl, Kd.R_nil _ _ _ _ _, hb⟩
  · rw [if_neg hok] at h
    exact absurd h (by simp)
end Go.Proofs.Ytmhabhfkglhleaa.PWire
