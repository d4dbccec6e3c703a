/- What the printed functions answer: lists, texts, seals, of package wire and of its reference. -/
import Derived.Test.YtmhabhfkglhleaaPSan
import Derived.Test.YtmhabhfkglhleaaPTxtR
import Derived.Test.YtmhabhfkglhleaaPC
namespace Go.Proofs.Ytmhabhfkglhleaa.Core
open Go.RowKit Go.Proofs.Ytmhabhfkglhleaa.PWire Go.Proofs.YtmhabhfkglhleaaW.PrintWords Go.Proofs.YtmhabhfkglhleaaW.PrintLast Go.Proofs.YtmhabhfkglhleaaW.PrintMore
open Go.Proofs.Ytmhabhfkglhleaa.Math

theorem up_of {α : Type} {g : Nat → Option α} {r : α} (mono : ∀ k r, g k = some r → g (k + 1) = some r) {n : Nat} (h : g n = some r) : ∀ {k}, n ≤ k → g k = some r := by
  intro k
  induction k with
  | zero => intro hk; obtain rfl : n = 0 := by omega
            exact h
  | succ k ih =>
    intro hk
    by_cases e : n = k + 1
    · rw [← e]; exact h
    · exact mono k r (ih (by omega))

/-! GetText. -/
def gtext (l : List Int) : ByteArray × Int × Int :=
  if (dget l).2.2 = 0 ∧ 0 ≤ (dget l).1 ∧ (dget l).1 ≤ (l.length : Int) - (dget l).2.1 then
    (strOfNums ((l.take ((dget l).2.1 + (dget l).1).toNat).drop (dget l).2.1.toNat), (dget l).2.1 + (dget l).1, 0)
  else (⟨#[]⟩, 0, 3)
theorem gtext_eq {l : List Int} (hb : Bytes l) (hl : l.length ≤ 140737488355328) {k : Nat} (hk : 20 ≤ k) : wire_GetText.f k l = some (gtext l) := by
  unfold wire_GetText.f gtext
  rw [get_eq hb hl hk, Option.bind_some]
  have hd := dget_bounds hb
  generalize dget l = z at *
  obtain ⟨n, u, e⟩ := z
  simp only at hd ⊢
  by_cases h0 : e = 0
  · rw [if_pos h0]
    have hu : 1 ≤ u ∧ u ≤ l.length ∧ W64 n := by
      rcases hd with h | ⟨_, h1, h2, h3⟩
      · simp at h; omega
      · exact ⟨h1, h2, h3⟩
    have hw := hu.2.2
    unfold W64 at hw
    by_cases h1 : n < 0
    · rw [if_pos h1, if_neg (by omega)]
    · rw [if_neg h1, wrap_in (x := (l.length : Int) - u) ⟨by omega, by omega⟩]
      by_cases h2 : n > (l.length : Int) - u
      · rw [if_pos h2, if_neg (by omega)]
      · rw [if_neg h2, wrap_in (x := u + n) ⟨by omega, by omega⟩, if_pos (by omega), if_pos (by omega), if_pos (by omega), if_pos ⟨h0, by omega, by omega⟩]
  · rw [if_neg h0, if_neg (by omega)]
theorem rgtext_eq {l : List Int} (hb : Bytes l) (hl : l.length ≤ 140737488355328) {k : Nat} (hk : 100 ≤ k) : hallmootref03_GetText.f k l = some (gtext l) := by
  unfold hallmootref03_GetText.f gtext
  rw [rget_eq hb hl hk, Option.bind_some]
  have hd := dget_bounds hb
  generalize dget l = z at *
  obtain ⟨n, u, e⟩ := z
  simp only at hd ⊢
  by_cases h0 : e = 0
  · rw [if_pos h0]
    have hu : 1 ≤ u ∧ u ≤ l.length ∧ W64 n := by
      rcases hd with h | ⟨_, h1, h2, h3⟩
      · simp at h; omega
      · exact ⟨h1, h2, h3⟩
    have hw := hu.2.2
    unfold W64 at hw
    by_cases h1 : n < 0
    · rw [if_pos h1, if_neg (by omega)]
    · rw [if_neg h1, wrap_in (x := (l.length : Int) - u) ⟨by omega, by omega⟩]
      by_cases h2 : n > (l.length : Int) - u
      · rw [if_pos h2, if_neg (by omega)]
      · rw [if_neg h2, wrap_in (x := u + n) ⟨by omega, by omega⟩, if_pos (by omega), if_pos (by omega), if_pos (by omega), if_pos ⟨h0, by omega, by omega⟩]
  · rw [if_neg h0, if_neg (by omega)]

/-! GetNums of the reference. -/
def fin (r : Option (List Int × Nat)) : List Int × Int × Int := match r with
  | some (o, p) => (o, (p : Int), 0)
  | none => ([], 0, 3)
theorem rnums_loop {l : List Int} (hb : Bytes l) (hl : l.length ≤ 1000000) (N : Int) (hN : W64 N) (d : Nat) : ∀ (k p i : Nat) (out : List Int), p ≤ l.length → l.length - p ≤ d → (i : Int) ≤ N → out.length ≤ p → d + 200 ≤ k → i ≤ p →
    hallmootref03_GetNums.l0 k l N p out i = some (fin (numsL l (N - i).toNat p out)) := by
  induction d with
  | zero =>
    intro k p i out hp hd hi ho hk hip
    obtain ⟨k, rfl⟩ : ∃ m, k = m + 1 := ⟨k - 1, by omega⟩
    unfold W64 at hN
    simp only [hallmootref03_GetNums.l0]
    by_cases h : (i : Int) < N
    · obtain ⟨m, hm⟩ : ∃ m, (N - i).toNat = m + 1 := ⟨(N - i).toNat - 1, by omega⟩
      rw [if_pos h, if_pos (by omega), if_pos (by omega), Int.toNat_natCast, rget_eq (hb.dropped p) (by rw [List.length_drop]; omega) (by omega), Option.bind_some, hm]
      have e : dget (l.drop p) = (0, 0, 3) := by rw [List.drop_eq_nil_of_le (by omega)]; rfl
      simp only [numsL]
      rw [e, if_neg (by decide), if_neg (by decide)]
      rfl
    · rw [if_neg h, show (N - i).toNat = 0 by omega]
      rfl
  | succ d ih =>
    intro k p i out hp hd hi ho hk hip
    obtain ⟨k, rfl⟩ : ∃ m, k = m + 1 := ⟨k - 1, by omega⟩
    have hN' := hN
    unfold W64 at hN'
    simp only [hallmootref03_GetNums.l0]
    by_cases h : (i : Int) < N
    · obtain ⟨m, hm⟩ : ∃ m, (N - i).toNat = m + 1 := ⟨(N - i).toNat - 1, by omega⟩
      have hle : (l.drop p).length = l.length - p := List.length_drop
      rw [if_pos h, if_pos (by omega), if_pos (by omega), Int.toNat_natCast, rget_eq (hb.dropped p) (by omega) (by omega), Option.bind_some, hm]
      have hbd := dget_bounds (hb.dropped p)
      simp only [numsL]
      generalize dget (l.drop p) = z at *
      obtain ⟨n, u, e⟩ := z
      simp only at hbd ⊢
      by_cases h0 : e = 0
      · have hu : 1 ≤ u ∧ u ≤ l.length - p := by
          rcases hbd with hz | ⟨_, h1, h2, _⟩
          · simp at hz; omega
          · omega
        rw [if_pos h0, if_pos h0, if_pos (by omega), wrap_in (x := (p : Int) + u) ⟨by omega, by omega⟩, wrap_in (x := (i : Int) + 1) ⟨by omega, by omega⟩,
          show (p : Int) + u = ((p + u.toNat : Nat) : Int) by omega, show (i : Int) + 1 = ((i + 1 : Nat) : Int) by omega,
          ih k (p + u.toNat) (i + 1) _ (by omega) (by omega) (by omega) (by simp; omega) (by omega) (by omega), show (N - ((i + 1 : Nat) : Int)).toNat = m by omega]
      · rw [if_neg h0, if_neg h0]
        rfl
    · rw [if_neg h, show (N - i).toNat = 0 by omega]
      rfl
theorem numsL_short {l : List Int} (hb : Bytes l) (m : Nat) : ∀ (p : Nat) (out : List Int), p ≤ l.length → l.length - p < m → numsL l m p out = none := by
  induction m with
  | zero => intro p out _ h; omega
  | succ m ih =>
    intro p out hp h
    simp only [numsL]
    have hbd := dget_bounds (hb.dropped p)
    rw [List.length_drop] at hbd
    by_cases h0 : (dget (l.drop p)).2.2 = 0
    · rw [if_pos h0]
      rcases hbd with hz | ⟨_, h1, h2, _⟩
      · rw [hz] at h0; simp at h0
      · exact ih _ _ (by omega) (by omega)
    · rw [if_neg h0]
theorem numsS_fin {l : List Int} (hb : Bytes l) : numsS l = if (dget l).2.2 = 0 ∧ 0 ≤ (dget l).1 then fin (numsL l (dget l).1.toNat (dget l).2.1.toNat []) else ([], 0, 3) := by
  unfold numsS
  by_cases h : (dget l).2.2 = 0 ∧ 0 ≤ (dget l).1
  · rw [if_pos h]
    by_cases h2 : (dget l).1 ≤ l.length
    · rw [if_pos ⟨h.1, h.2, h2⟩]; rfl
    · rw [if_neg (by omega), numsL_short hb _ _ _ ?_ (by omega)]
      · rfl
      · rcases dget_bounds hb with hz | ⟨_, h1, h3, _⟩
        · rw [hz]; simp
        · omega
  · rw [if_neg h, if_neg (by omega)]
theorem rnums_eq {l : List Int} (hb : Bytes l) (hl : l.length ≤ 1000000) {k : Nat} (hk : 1000300 ≤ k) : hallmootref03_GetNums.f k l = some (numsS l) := by
  rw [numsS_fin hb]
  unfold hallmootref03_GetNums.f
  rw [rget_eq hb (by omega) (by omega), Option.bind_some]
  have hbd := dget_bounds hb
  generalize dget l = z at *
  obtain ⟨n, u, e⟩ := z
  simp only at hbd ⊢
  obtain ⟨k, rfl⟩ : ∃ m, k = m + 1 := ⟨k - 1, by omega⟩
  by_cases h0 : e = 0
  · have hu : 1 ≤ u ∧ u ≤ l.length ∧ W64 n := by
      rcases hbd with hz | ⟨_, h1, h2, h3⟩
      · simp at hz; omega
      · exact ⟨h1, h2, h3⟩
    rw [if_pos h0]
    simp only [hallmootref03_GetNums.j0]
    by_cases h1 : n < 0
    · rw [if_pos (decide_eq_true h1), if_neg (by omega)]
    · rw [if_neg (by simpa using h1), if_pos ⟨h0, by omega⟩]
      have := rnums_loop hb hl n hu.2.2 l.length k u.toNat 0 [] (by omega) (by omega) (by omega) (by simp) (by omega) (by omega)
      rw [show ((u.toNat : Nat) : Int) = u by omega] at this
      rw [show ((0 : Nat) : Int) = 0 from rfl, Int.sub_zero] at this
      exact this
  · rw [if_neg h0, if_neg (by omega)]
    simp only [hallmootref03_GetNums.j0]
    rw [if_pos trivial]

/-! Nums: the encoding of a list. -/
def flat (l : List Int) : List Int := l.flatMap put
def encNums (l : List Int) : List Int := put l.length ++ flat l
def Ws (l : List Int) : Prop := ∀ x ∈ l, W64 x
theorem flat_bytes (l : List Int) : Bytes (flat l) := by
  intro x hx
  unfold flat at hx
  rw [List.mem_flatMap] at hx
  obtain ⟨y, _, h⟩ := hx
  exact put_bytes y x h
theorem flat_len {l : List Int} (h : Ws l) : (flat l).length ≤ 10 * l.length := by
  induction l with
  | nil => simp [flat]
  | cons x l ih =>
    have h1 := put_len (h x List.mem_cons_self)
    have h2 := ih (fun y hy => h y (List.mem_cons_of_mem _ hy))
    have e : flat (x :: l) = put x ++ flat l := rfl
    rw [e, List.length_append, List.length_cons]; omega
theorem rd_w {l : List Int} (h : Ws l) (i : Int) : W64 (rd l i) := by
  unfold rd List.getD
  cases e : l[i.toNat]? with
  | none => exact ⟨by simp, by simp⟩
  | some x => exact h x (List.mem_of_getElem? e)
theorem nums_loop_eq {l : List Int} (hw : Ws l) (hl : l.length ≤ 100000) (d : Nat) : ∀ (k i : Nat) (acc : List Int), i + d = l.length → d + 10 < k → acc.length ≤ 10 + 10 * i →
    wire_Nums.l0 k acc l (l.length : Int) i = some (acc ++ flat (l.drop i)) := by
  induction d with
  | zero =>
    intro k i acc hi hk ha
    obtain ⟨k, rfl⟩ : ∃ m, k = m + 1 := ⟨k - 1, by omega⟩
    simp only [wire_Nums.l0]
    rw [if_neg (by omega), List.drop_eq_nil_of_le (by omega)]
    simp [flat]
  | succ d ih =>
    intro k i acc hi hk ha
    obtain ⟨k, rfl⟩ : ∃ m, k = m + 1 := ⟨k - 1, by omega⟩
    have hx := rd_w hw (i : Nat)
    have hp := put_len hx
    have hd := rd_drop (l := l) (i := i) (by omega)
    have hq := put_eq hx (k := k) (by omega)
    have hf : flat (l.drop i) = put (rd l (i : Nat)) ++ flat (l.drop (i + 1)) := by rw [hd]; rfl
    rw [hf]
    generalize put (rd l (i : Nat)) = q at *
    simp only [wire_Nums.l0]
    rw [if_pos (by omega), if_pos (by omega), if_pos (by omega), hq, Option.bind_some, if_pos (by omega), wrap_in (x := (i : Int) + 1) ⟨by omega, by omega⟩,
      show (i : Int) + 1 = ((i + 1 : Nat) : Int) by omega, ih k (i + 1) _ (by omega) (by omega) (by rw [List.length_append]; omega), List.append_assoc]
theorem nums_eq {l : List Int} (hw : Ws l) (hl : l.length ≤ 100000) {k : Nat} (hk : l.length + 20 < k) : wire_Nums.f k l = some (encNums l) := by
  unfold wire_Nums.f encNums
  have hn : W64 (l.length : Int) := ⟨by omega, by omega⟩
  have hp := put_len hn
  rw [put_eq hn (by omega), Option.bind_some]
  have := nums_loop_eq hw hl l.length k 0 (put (l.length : Int)) (by omega) (by omega) (by omega)
  rw [List.drop_zero] at this
  exact this
theorem rnums_loop_eq {l : List Int} (hw : Ws l) (hl : l.length ≤ 100000) (d : Nat) : ∀ (k i : Nat) (acc : List Int), i + d = l.length → d + 10 < k → acc.length ≤ 10 + 10 * i →
    hallmootref03_Nums.l0 k l acc i = some (acc ++ flat (l.drop i)) := by
  induction d with
  | zero =>
    intro k i acc hi hk ha
    obtain ⟨k, rfl⟩ : ∃ m, k = m + 1 := ⟨k - 1, by omega⟩
    simp only [hallmootref03_Nums.l0]
    rw [if_neg (by omega), List.drop_eq_nil_of_le (by omega)]
    simp [flat]
  | succ d ih =>
    intro k i acc hi hk ha
    obtain ⟨k, rfl⟩ : ∃ m, k = m + 1 := ⟨k - 1, by omega⟩
    have hx := rd_w hw (i : Nat)
    have hp := put_len hx
    have hd := rd_drop (l := l) (i := i) (by omega)
    have hq := rput_eq hx (k := k) (by omega)
    have hf : flat (l.drop i) = put (rd l (i : Nat)) ++ flat (l.drop (i + 1)) := by rw [hd]; rfl
    rw [hf]
    generalize put (rd l (i : Nat)) = q at *
    simp only [hallmootref03_Nums.l0]
    rw [if_pos (by omega), if_pos (by omega), hq, Option.bind_some, if_pos (by omega), wrap_in (x := (i : Int) + 1) ⟨by omega, by omega⟩,
      show (i : Int) + 1 = ((i + 1 : Nat) : Int) by omega, ih k (i + 1) _ (by omega) (by omega) (by rw [List.length_append]; omega), List.append_assoc]
theorem rencNums_eq {l : List Int} (hw : Ws l) (hl : l.length ≤ 100000) {k : Nat} (hk : l.length + 20 < k) : hallmootref03_Nums.f k l = some (encNums l) := by
  unfold hallmootref03_Nums.f encNums
  have hn : W64 (l.length : Int) := ⟨by omega, by omega⟩
  have hp := put_len hn
  rw [rput_eq hn (by omega), Option.bind_some]
  have := rnums_loop_eq hw hl l.length k 0 (put (l.length : Int)) (by omega) (by omega) (by omega)
  rw [List.drop_zero] at this
  exact this
theorem encNums_bytes (l : List Int) : Bytes (encNums l) := (put_bytes _).app (flat_bytes l)
theorem encNums_len {l : List Int} (h : Ws l) (hl : l.length ≤ 100000) : (encNums l).length ≤ 10 + 10 * l.length := by
  have hn : W64 (l.length : Int) := ⟨by omega, by omega⟩
  have := put_len hn
  have := flat_len h
  unfold encNums; rw [List.length_append]; omega
theorem numsL_enc {l : List Int} : ∀ (pre rest out : List Int), Ws l → numsL (pre ++ flat l ++ rest) l.length pre.length out = some (out ++ l, pre.length + (flat l).length) := by
  induction l with
  | nil => intro pre rest out _; simp [numsL, flat]
  | cons x l ih =>
    intro pre rest out hw
    have hx := hw x List.mem_cons_self
    have e : flat (x :: l) = put x ++ flat l := rfl
    have e2 : (pre ++ flat (x :: l) ++ rest).drop pre.length = put x ++ (flat l ++ rest) := by
      rw [e]; simp
    simp only [List.length_cons, numsL]
    rw [e2, get_put hx, if_pos rfl]
    show numsL (pre ++ flat (x :: l) ++ rest) l.length (pre.length + ((put x).length : Int).toNat) (out ++ [x]) = _
    have := ih (pre ++ put x) rest (out ++ [x]) (fun y hy => hw y (List.mem_cons_of_mem _ hy))
    rw [List.length_append] at this
    rw [Int.toNat_natCast, e, ← List.append_assoc pre, this, List.append_assoc, List.length_append]
    congr 2
    omega
theorem numsS_enc {l : List Int} (hw : Ws l) (hl : l.length ≤ 100000) (rest : List Int) (hr : Bytes rest) : numsS (encNums l ++ rest) = (l, ((encNums l).length : Int), 0) := by
  have hn : W64 (l.length : Int) := ⟨by omega, by omega⟩
  have hb : Bytes (encNums l ++ rest) := (encNums_bytes l).app hr
  have e : encNums l ++ rest = put l.length ++ (flat l ++ rest) := by unfold encNums; rw [List.append_assoc]
  have hg : dget (encNums l ++ rest) = ((l.length : Int), ((put l.length).length : Int), 0) := by rw [e]; exact get_put hn _
  rw [numsS_fin hb, hg]
  simp only
  rw [if_pos ⟨trivial, by omega⟩, Int.toNat_natCast, Int.toNat_natCast, e, ← List.append_assoc, numsL_enc _ _ _ hw]
  unfold fin encNums
  rw [List.nil_append, List.length_append]
end Go.Proofs.Ytmhabhfkglhleaa.Core
