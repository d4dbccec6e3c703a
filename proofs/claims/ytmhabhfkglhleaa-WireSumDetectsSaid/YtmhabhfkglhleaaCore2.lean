/- What the printed functions of wire's reference answer: Same, Ints, Get, Sum; and wire.Sum. -/
import Derived.Test.YtmhabhfkglhleaaCore
namespace Go.Proofs.Ytmhabhfkglhleaa.Core
open Go.RowKit Go.Proofs.Ytmhabhfkglhleaa.PWire Go.Proofs.YtmhabhfkglhleaaW.PrintWords Go.Proofs.YtmhabhfkglhleaaW.PrintLast Go.Proofs.YtmhabhfkglhleaaW.PrintMore
open Go.Proofs.Ytmhabhfkglhleaa.Math

theorem same_loop (a b : List Int) (hab : a.length = b.length) (hl : a.length ≤ 140737488355328) (d : Nat) : ∀ (k i : Nat), i + d = a.length → d < k →
    hallmootref03_Same.l0 k a b i = some (decide (a.drop i = b.drop i)) := by
  induction d with
  | zero =>
    intro k i hi hk
    obtain ⟨k, rfl⟩ : ∃ m, k = m + 1 := ⟨k - 1, by omega⟩
    simp only [hallmootref03_Same.l0]
    rw [if_neg (by omega), List.drop_eq_nil_of_le (by omega), List.drop_eq_nil_of_le (by omega)]
    simp
  | succ d ih =>
    intro k i hi hk
    obtain ⟨k, rfl⟩ : ∃ m, k = m + 1 := ⟨k - 1, by omega⟩
    simp only [hallmootref03_Same.l0]
    rw [if_pos (by omega), if_pos (by omega), if_pos (by omega), wrap_in (x := (i : Int) + 1) ⟨by omega, by omega⟩, rd_drop (l := a) (by omega), rd_drop (l := b) (by omega)]
    by_cases h : rd a (i : Nat) = rd b (i : Nat)
    · rw [if_pos h, h]
      have := ih k (i + 1) (by omega) (by omega)
      rw [show ((i + 1 : Nat) : Int) = (i : Int) + 1 by omega] at this
      rw [this]; simp
    · rw [if_neg h, decide_eq_false]
      intro e
      exact h (List.cons.inj e).1
theorem same_eq (a b : List Int) (hl : a.length ≤ 140737488355328) {k : Nat} (hk : a.length < k) : hallmootref03_Same.f k a b = some (decide (a = b)) := by
  unfold hallmootref03_Same.f
  by_cases h : a.length = b.length
  · rw [if_pos (by omega)]
    have := same_loop a b h hl a.length k 0 (by omega) hk
    simpa using this
  · rw [if_neg (by omega), decide_eq_false]
    intro e; exact h (by rw [e])
theorem ints_loop (a b : List Int) (hab : a.length = b.length) (hl : a.length ≤ 140737488355328) (d : Nat) : ∀ (k i : Nat), i + d = a.length → d < k →
    hallmootref03_Ints.l0 k a b i = some (decide (a.drop i = b.drop i)) := by
  induction d with
  | zero =>
    intro k i hi hk
    obtain ⟨k, rfl⟩ : ∃ m, k = m + 1 := ⟨k - 1, by omega⟩
    simp only [hallmootref03_Ints.l0]
    rw [if_neg (by omega), List.drop_eq_nil_of_le (by omega), List.drop_eq_nil_of_le (by omega)]
    simp
  | succ d ih =>
    intro k i hi hk
    obtain ⟨k, rfl⟩ : ∃ m, k = m + 1 := ⟨k - 1, by omega⟩
    simp only [hallmootref03_Ints.l0]
    rw [if_pos (by omega), if_pos (by omega), if_pos (by omega), wrap_in (x := (i : Int) + 1) ⟨by omega, by omega⟩, rd_drop (l := a) (by omega), rd_drop (l := b) (by omega)]
    by_cases h : rd a (i : Nat) = rd b (i : Nat)
    · rw [if_pos h, h]
      have := ih k (i + 1) (by omega) (by omega)
      rw [show ((i + 1 : Nat) : Int) = (i : Int) + 1 by omega] at this
      rw [this]; simp
    · rw [if_neg h, decide_eq_false]
      intro e
      exact h (List.cons.inj e).1
theorem ints_eq (a b : List Int) (hl : a.length ≤ 140737488355328) {k : Nat} (hk : a.length < k) : hallmootref03_Ints.f k a b = some (decide (a = b)) := by
  unfold hallmootref03_Ints.f
  by_cases h : a.length = b.length
  · rw [if_pos (by omega)]
    have := ints_loop a b h hl a.length k 0 (by omega) hk
    simpa using this
  · rw [if_neg (by omega), decide_eq_false]
    intro e; exact h (by rw [e])

/-! The reference's Get. -/
def res (l : List Int) (i : Nat) (n : Int) : Int × Int × Int := if put n = l.take (i + 1) then (n, (i : Int) + 1, 0) else (0, 0, 3)
theorem rget_j4 {l : List Int} {i : Nat} {n : Int} (hn : W64 n) (hi : i < l.length) (h9 : i ≤ 9) {k : Nat} (hk : 30 ≤ k) : hallmootref03_Get.j4 k l i n = some (res l i n) := by
  obtain ⟨k, rfl⟩ : ∃ m, k = m + 1 := ⟨k - 1, by omega⟩
  have hl := put_len hn
  have hp := rput_eq hn (k := k) (by omega)
  unfold res
  generalize put n = p at *
  have h1 : wrap64 ((i : Int) + 1) = (i : Int) + 1 := wrap_in ⟨by omega, by omega⟩
  have h2 : ((i : Int) + 1).toNat = i + 1 := by omega
  have hs := same_eq p (l.take (i + 1)) (by omega) (k := k) (by omega)
  simp only [hallmootref03_Get.j4]
  rw [hp, Option.bind_some, h1, if_pos (by omega), if_pos (by omega), h2, hs, Option.bind_some]
  by_cases h : p = l.take (i + 1)
  · rw [if_pos h, decide_eq_true h, if_pos rfl]
  · rw [if_neg h, decide_eq_false h, if_neg Bool.false_ne_true]
def down (l : List Int) : Nat → Int → Int
  | 0, x => x
  | j + 1, x => down l j ((128 * x + rd l j % 128) % 18446744073709551616)
theorem unzig_int {x : Int} (h0 : 0 ≤ x) (h1 : x < 18446744073709551616) :
    (if Int.tmod x 2 = 1 then wrap64 ((wrap64 (-(wrap64 (IntKind.u64.wrap (Int.tdiv x 2))))) - 1) else wrap64 (IntKind.u64.wrap (Int.tdiv x 2))) = unzig x.toNat := by
  rw [Int.tdiv_eq_ediv_of_nonneg h0, Int.tmod_eq_emod_of_nonneg h0, wrap_u64]
  unfold unzig wrap64
  split <;> split <;> omega
theorem rget_l1 {l : List Int} (hb : Bytes l) {i : Nat} (hi : i < l.length) (h9 : i ≤ 9) (j : Nat) : ∀ (k : Nat) (x : Int), j ≤ i + 1 → 0 ≤ x → x < 18446744073709551616 → j + 40 ≤ k →
    hallmootref03_Get.l1 k l x i ((j : Int) - 1) = some (res l i (unzig (down l j x).toNat)) := by
  induction j with
  | zero =>
    intro k x hj h0 h1 hk
    obtain ⟨k, rfl⟩ : ∃ m, k = m + 1 := ⟨k - 1, by omega⟩
    simp only [hallmootref03_Get.l1, down]
    rw [if_neg (by omega)]
    have e := unzig_int h0 h1
    have hw : W64 (unzig x.toNat) := unzig_w (by omega)
    by_cases h2 : Int.tmod x 2 = 1
    · rw [if_pos h2] at e ⊢
      rw [e, rget_j4 hw hi h9 (by omega)]
    · rw [if_neg h2] at e ⊢
      rw [e, rget_j4 hw hi h9 (by omega)]
  | succ j ih =>
    intro k x hj h0 h1 hk
    obtain ⟨k, rfl⟩ : ∃ m, k = m + 1 := ⟨k - 1, by omega⟩
    simp only [hallmootref03_Get.l1, down]
    rw [show ((j + 1 : Nat) : Int) - 1 = (j : Int) by omega, if_pos (by omega), if_pos (by omega), if_pos (by omega), wrap_in (x := (j : Int) - 1) ⟨by omega, by omega⟩]
    have hx := rd_byte hb (j : Nat)
    unfold Byte at hx
    rw [Int.tmod_eq_emod_of_nonneg hx.1, wrap_u64, wrap_u64, wrap_u64]
    have e : (128 * x % 18446744073709551616 + rd l (j : Nat) % 128 % 18446744073709551616) % 18446744073709551616 = (128 * x + rd l (j : Nat) % 128) % 18446744073709551616 := by omega
    rw [e]
    exact ih k _ (by omega) (by omega) (by omega) (by omega)
theorem down_val (l : List Int) (j : Nat) : ∀ (x : Int), j ≤ l.length → x = val (l.drop j) → val l < 18446744073709551616 → Bytes l → down l j x = val l := by
  induction j with
  | zero => intro x _ hx _ _; rw [down, hx, List.drop_zero]
  | succ j ih =>
    intro x hj hx hv hb
    rw [down]
    have mono : ∀ j, j ≤ l.length → val (l.drop j) ≤ val l := by
      intro j
      induction j with
      | zero => intro _; simp
      | succ j ihj =>
        intro hj
        have := ihj (by omega)
        rw [rd_drop (l := l) (i := j) (by omega)] at this
        simp only [val] at this
        omega
    have hs := rd_drop (l := l) (i := j) (by omega)
    have hvj := mono j (by omega)
    apply ih _ (by omega) _ hv hb
    rw [hs] at hvj ⊢
    simp only [val] at hvj ⊢
    have hy := rd_byte hb (j : Nat)
    unfold Byte at hy
    omega
theorem down_lt (l : List Int) (j : Nat) : ∀ x : Int, 0 ≤ x → x < 18446744073709551616 → 0 ≤ down l j x ∧ down l j x < 18446744073709551616 := by
  induction j with
  | zero => intro x h0 h1; exact ⟨h0, h1⟩
  | succ j ih => intro x h0 h1; rw [down]; exact ih _ (by omega) (by omega)
theorem down_congr {l m : List Int} (j : Nat) : ∀ x : Int, (∀ i : Nat, i < j → rd l (i : Nat) = rd m (i : Nat)) → down l j x = down m j x := by
  induction j with
  | zero => intro x _; rfl
  | succ j ih => intro x h; rw [down, down, h j (by omega), ih _ (fun i hi => h i (by omega))]

/-- Where the scan stops. -/
def stop (l : List Int) : Nat → Nat → Nat
  | 0, i => i
  | d + 1, i => if i < l.length ∧ rd l i ≥ 128 then stop l d (i + 1) else i
theorem rget_scan {l : List Int} (d : Nat) : ∀ (k i : Nat), i + d = 10 → d < k → ∃ k', k ≤ k' + d + 1 ∧
    hallmootref03_Get.l0 k l 0 i = hallmootref03_Get.j1 k' l 0 (stop l d i) := by
  induction d with
  | zero =>
    intro k i hi hk
    obtain ⟨k, rfl⟩ : ∃ m, k = m + 1 := ⟨k - 1, by omega⟩
    refine ⟨k, by omega, ?_⟩
    simp only [hallmootref03_Get.l0, stop]
    by_cases h : (i : Int) < l.length
    · rw [if_pos h, if_neg (by omega)]
    · rw [if_neg h]
  | succ d ih =>
    intro k i hi hk
    obtain ⟨k, rfl⟩ : ∃ m, k = m + 1 := ⟨k - 1, by omega⟩
    simp only [hallmootref03_Get.l0, stop]
    by_cases h : i < l.length
    · by_cases h2 : rd l (i : Nat) ≥ 128
      · rw [if_pos (by omega), if_pos (by omega), if_pos (by omega), if_pos h2, if_pos ⟨h, h2⟩, wrap_in (x := (i : Int) + 1) ⟨by omega, by omega⟩]
        obtain ⟨k', hk', e⟩ := ih k (i + 1) (by omega) (by omega)
        exact ⟨k', by omega, e⟩
      · rw [if_pos (by omega), if_pos (by omega), if_pos (by omega), if_neg h2, if_neg (by omega)]
        exact ⟨k, by omega, rfl⟩
    · rw [if_neg (by omega), if_neg (by omega)]
      exact ⟨k, by omega, rfl⟩
theorem stop_le (l : List Int) (d : Nat) : ∀ i, i ≤ l.length → i + d = 10 → stop l d i ≤ l.length ∧ stop l d i ≤ 10 := by
  induction d with
  | zero => intro i h h2; rw [stop]; exact ⟨h, by omega⟩
  | succ d ih =>
    intro i h h2
    rw [stop]
    split
    · exact ih (i + 1) (by omega) (by omega)
    · exact ⟨h, by omega⟩
theorem stop_enc (u : Nat) : ∀ (p r : List Int) (d : Nat), (enc u).length ≤ d → stop (p ++ enc u ++ r) d p.length = p.length + (enc u).length - 1 := by
  induction u using Nat.strongRecOn with
  | ind u ih =>
    intro p r d hd
    have hp := enc_pos u
    obtain ⟨d, rfl⟩ : ∃ m, d = m + 1 := ⟨d - 1, by omega⟩
    by_cases h1 : u < 128
    · have e : rd (p ++ enc u ++ r) (p.length : Nat) = u := by
        rw [enc_small h1]
        simp [rd, List.getD]
      rw [stop, if_neg (by rw [e]; omega), enc_small h1]; simp
    · have e : rd (p ++ enc u ++ r) (p.length : Nat) = ((u % 128 + 128 : Nat) : Int) := by
        rw [enc_big (by omega)]
        simp [rd, List.getD]
      rw [stop, if_pos ⟨by simp; omega, by rw [e]; omega⟩]
      rw [enc_big (u := u) (by omega), List.length_cons] at hd ⊢
      have := ih (u / 128) (by omega) (p ++ [((u % 128 + 128 : Nat) : Int)]) r d (by omega)
      simp only [List.length_append, List.length_cons, List.length_nil, List.append_assoc, List.cons_append, List.nil_append] at this ⊢
      rw [Nat.zero_add] at this
      rw [this]; omega
theorem rget_eq {l : List Int} (hb : Bytes l) (hl : l.length ≤ 140737488355328) {k : Nat} (hk : 100 ≤ k) : hallmootref03_Get.f k l = some (dget l) := by
  unfold hallmootref03_Get.f
  obtain ⟨k', hk', e⟩ := rget_scan (l := l) 10 k 0 (by omega) (by omega)
  rw [show ((0 : Nat) : Int) = 0 from rfl] at e
  rw [e]
  obtain ⟨hs1, hs2⟩ := stop_le l 10 0 (by omega) (by omega)
  obtain ⟨k', rfl⟩ : ∃ m, k' = m + 2 := ⟨k' - 2, by omega⟩
  simp only [hallmootref03_Get.j1]
  have err : ∀ z, (z = 10 ∨ z = l.length) → stop l 10 0 = z → some (0, 0, 3) = some (dget l) := by
    intro z hz hz2
    congr 1
    refine (get_err hb ?_).symm
    intro n r hn e
    have := stop_enc (zig n) [] r 10 (put_len hn)
    simp only [List.nil_append, List.length_nil, Nat.zero_add] at this
    have e' : l = enc (zig n) ++ r := e
    rw [← e'] at this
    have h1 := put_len hn
    have h2 := put_pos n
    unfold put at h1 h2
    have h3 := congrArg List.length e'
    rw [List.length_append] at h3
    omega
  by_cases h1 : stop l 10 0 = l.length
  · rw [if_pos (by omega)]
    simp only [hallmootref03_Get.j2]
    rw [if_pos trivial]
    exact err _ (.inr rfl) h1
  · rw [if_neg (by omega)]
    by_cases h2 : stop l 10 0 = 10
    · simp only [hallmootref03_Get.j2]
      rw [if_pos (by rw [beq_iff_eq]; omega)]
      exact err _ (.inl rfl) h2
    · simp only [hallmootref03_Get.j2]
      rw [if_neg (by rw [beq_iff_eq]; omega)]
      have hL := rget_l1 hb (i := stop l 10 0) (by omega) (by omega) (stop l 10 0 + 1) k' 0 (by omega) (by omega) (by omega) (by omega)
      rw [show ((stop l 10 0 + 1 : Nat) : Int) - 1 = (stop l 10 0 : Int) by omega] at hL
      rw [hL]
      congr 1
      rcases get_or hb with hg | ⟨n, r, hn, hl2⟩
      · rw [hg]
        unfold res
        rw [if_neg]
        intro hp
        have hd := down_lt l (stop l 10 0 + 1) 0 (by omega) (by omega)
        have hw : W64 (unzig (down l (stop l 10 0 + 1) 0).toNat) := unzig_w (by omega)
        have e2 : l = put (unzig (down l (stop l 10 0 + 1) 0).toNat) ++ l.drop (stop l 10 0 + 1) := by
          rw [hp, List.take_append_drop]
        have e3 := get_put hw (l.drop (stop l 10 0 + 1))
        rw [← e2, hg] at e3
        have := congrArg (fun z => z.2.2) e3
        simp at this
      · have hs := stop_enc (zig n) [] r 10 (put_len hn)
        simp only [List.nil_append, List.length_nil, Nat.zero_add] at hs
        have hl3 : l = enc (zig n) ++ r := hl2
        rw [← hl3] at hs
        have hp1 := put_pos n
        unfold put at hp1
        have es : stop l 10 0 + 1 = (enc (zig n)).length := by omega
        have ed : down l (stop l 10 0 + 1) 0 = (zig n : Int) := by
          rw [down_congr (m := enc (zig n))]
          · rw [es, down_val _ _ _ (Nat.le_refl _) (by simp [val]) (by rw [val_enc]; exact zig_lt hn) (enc_bytes _), val_enc]
          · intro i hi
            rw [hl3]
            simp only [rd, Int.toNat_natCast, List.getD]
            rw [List.getElem?_append_left (by omega)]
        rw [ed]
        unfold res
        rw [Int.toNat_natCast, unzig_zig, es, if_pos]
        · have := get_put hn r
          rw [← hl2] at this
          rw [this]
          unfold put
          refine Prod.ext rfl (Prod.ext ?_ rfl)
          show ((stop l 10 0 : Nat) : Int) + 1 = ((enc (zig n)).length : Int)
          omega
        · rw [hl3, List.take_left]; rfl

/-! The sum. -/
def sumStep (s : Int × Int) (c : Int) : Int × Int := ((s.1 + c) % 65521, (s.2 + (s.1 + c) % 65521) % 65521)
def sumXY (l : List Int) : Int × Int := l.foldl sumStep (1, 0)
def sum (l : List Int) : Int := 65536 * (sumXY l).2 + (sumXY l).1
def Mod (s : Int × Int) : Prop := 0 ≤ s.1 ∧ s.1 < 65521 ∧ 0 ≤ s.2 ∧ s.2 < 65521
theorem sumStep_mod (s : Int × Int) (c : Int) : Mod (sumStep s c) := by unfold Mod sumStep; simp only; omega
theorem fold_mod (l : List Int) : ∀ s, Mod s → Mod (l.foldl sumStep s) := by
  induction l with
  | nil => intro s h; exact h
  | cons c l ih => intro s _; exact ih _ (sumStep_mod s c)
theorem sumXY_mod (l : List Int) : Mod (sumXY l) := fold_mod l _ ⟨by decide, by decide, by decide, by decide⟩
theorem sum_w (l : List Int) : 0 ≤ sum l ∧ sum l < 4294967296 := by
  have := sumXY_mod l
  unfold Mod at this
  unfold sum; omega
theorem step_go {x y c : Int} (hx : Mod (x, y)) (hc : Byte c) : (Int.tmod (wrap64 (x + wrap64 c)) 65521, Int.tmod (wrap64 (y + (Int.tmod (wrap64 (x + wrap64 c)) 65521))) 65521) = sumStep (x, y) c := by
  unfold Mod at hx
  unfold Byte at hc
  simp only at hx
  rw [wrap_in (x := c) ⟨by omega, by omega⟩, wrap_in (x := x + c) ⟨by omega, by omega⟩, Int.tmod_eq_emod_of_nonneg (by omega), wrap_in (x := y + (x + c) % 65521) ⟨by omega, by omega⟩, Int.tmod_eq_emod_of_nonneg (by omega)]
  rfl
theorem sum_loop {l : List Int} (hb : Bytes l) (hl : l.length ≤ 140737488355328) (d : Nat) : ∀ (k i : Nat) (x y : Int), Mod (x, y) → i + d = l.length → d < k →
    wire_Sum.l0 k x y l (l.length : Int) i = some (65536 * ((l.drop i).foldl sumStep (x, y)).2 + ((l.drop i).foldl sumStep (x, y)).1) := by
  induction d with
  | zero =>
    intro k i x y hm hi hk
    obtain ⟨k, rfl⟩ : ∃ m, k = m + 1 := ⟨k - 1, by omega⟩
    simp only [wire_Sum.l0]
    unfold Mod at hm
    simp only at hm
    rw [if_neg (by omega), List.drop_eq_nil_of_le (by omega)]
    simp only [List.foldl_nil]
    rw [wrap_in (x := y * 65536) ⟨by omega, by omega⟩, bits_join .i64 63 (by decide) (fun n h0 h1 => by rw [IntKind.wrap_i64]; omega) 16 (y * 65536) x (by omega) (by omega) (by omega) (by omega) (by omega) (by omega)]
    congr 1; omega
  | succ d ih =>
    intro k i x y hm hi hk
    obtain ⟨k, rfl⟩ : ∃ m, k = m + 1 := ⟨k - 1, by omega⟩
    simp only [wire_Sum.l0]
    have hc := rd_byte hb (i : Nat)
    have e := step_go hm hc
    rw [if_pos (by omega), if_pos (by omega), if_pos (by omega), wrap_in (x := (i : Int) + 1) ⟨by omega, by omega⟩, rd_drop (l := l) (by omega), List.foldl_cons, ← e]
    rw [show ((i : Int) + 1) = ((i + 1 : Nat) : Int) by omega]
    exact ih k (i + 1) _ _ (by rw [e]; exact sumStep_mod _ _) (by omega) (by omega)
theorem sum_eq {l : List Int} (hb : Bytes l) (hl : l.length ≤ 140737488355328) {k : Nat} (hk : l.length < k) : wire_Sum.f k l = some (sum l) := by
  unfold wire_Sum.f sum sumXY
  have := sum_loop hb hl l.length k 0 1 0 ⟨by decide, by decide, by decide, by decide⟩ (by omega) hk
  simpa using this
theorem rsum_loop {l : List Int} (hb : Bytes l) (hl : l.length ≤ 140737488355328) (d : Nat) : ∀ (k i : Nat) (x y : Int), Mod (x, y) → i + d = l.length → d < k →
    hallmootref03_sums.l0 k l x y i = some ((l.drop i).foldl sumStep (x, y)) := by
  induction d with
  | zero =>
    intro k i x y hm hi hk
    obtain ⟨k, rfl⟩ : ∃ m, k = m + 1 := ⟨k - 1, by omega⟩
    simp only [hallmootref03_sums.l0]
    rw [if_neg (by omega), List.drop_eq_nil_of_le (by omega)]
    rfl
  | succ d ih =>
    intro k i x y hm hi hk
    obtain ⟨k, rfl⟩ : ∃ m, k = m + 1 := ⟨k - 1, by omega⟩
    simp only [hallmootref03_sums.l0]
    have hc := rd_byte hb (i : Nat)
    have e := step_go hm hc
    rw [if_pos (by omega), if_pos (by omega), wrap_in (x := (i : Int) + 1) ⟨by omega, by omega⟩, rd_drop (l := l) (by omega), List.foldl_cons, ← e]
    rw [show ((i : Int) + 1) = ((i + 1 : Nat) : Int) by omega]
    exact ih k (i + 1) _ _ (by rw [e]; exact sumStep_mod _ _) (by omega) (by omega)
theorem rsum_eq {l : List Int} (hb : Bytes l) (hl : l.length ≤ 140737488355328) {k : Nat} (hk : l.length < k) : hallmootref03_Sum.f k l = some (sum l) := by
  unfold hallmootref03_Sum.f hallmootref03_sums.f
  have := rsum_loop hb hl l.length k 0 1 0 ⟨by decide, by decide, by decide, by decide⟩ (by omega) hk
  rw [show ((0 : Nat) : Int) = 0 from rfl, List.drop_zero] at this
  rw [this]
  simp only [Option.bind_some]
  have hm := sumXY_mod l
  unfold Mod at hm
  unfold sum
  unfold sumXY at hm ⊢
  rw [wrap_in (x := 65536 * _) ⟨by omega, by omega⟩, wrap_in ⟨by omega, by omega⟩]
end Go.Proofs.Ytmhabhfkglhleaa.Core
