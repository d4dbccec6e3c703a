/- The encoding of a string, and its decoding. -/
import Derived.Test.YtmhabhfkglhleaaCore3
namespace Go.Proofs.Ytmhabhfkglhleaa.Core
open Go.RowKit Go.Proofs.Ytmhabhfkglhleaa.PWire Go.Proofs.YtmhabhfkglhleaaW.PrintWords Go.Proofs.YtmhabhfkglhleaaW.PrintLast Go.Proofs.YtmhabhfkglhleaaW.PrintMore
open Go.Proofs.Ytmhabhfkglhleaa.Math

theorem str_bytes (s : ByteArray) : strOfNums (bytesOf s) = s := by
  unfold strOfNums bytesOf
  apply ByteArray.ext
  apply Array.toList_inj.1
  rw [List.map_map]
  have : ((fun n : Int => UInt8.ofNat n.toNat) ∘ fun b : UInt8 => (b.toNat : Int)) = id := by
    funext b
    simp
  rw [this]; simp
theorem bytesOf_bytes (s : ByteArray) : Bytes (bytesOf s) := by
  intro x hx
  unfold bytesOf at hx
  obtain ⟨b, _, rfl⟩ := List.mem_map.1 hx
  have := b.toNat_lt
  exact ⟨by omega, by omega⟩
theorem bytesOf_str {l : List Int} (h : Bytes l) : bytesOf (strOfNums l) = l := by
  unfold strOfNums bytesOf
  simp only [List.map_map]
  conv => rhs; rw [← List.map_id l]
  apply List.map_congr_left
  intro x hx
  have := h x hx
  unfold Byte at this
  simp only [Function.comp_apply, id_eq]
  rw [UInt8.toNat_ofNat']
  omega
def text (s : ByteArray) : List Int := put s.size ++ bytesOf s
theorem text_bytes (s : ByteArray) : Bytes (text s) := (put_bytes _).app (bytesOf_bytes s)
theorem text_len {s : ByteArray} (h : s.size ≤ 100000) : (text s).length = (put s.size).length + s.size ∧ (put s.size).length ≤ 10 ∧ 1 ≤ (put s.size).length := by
  have hn : W64 (s.size : Int) := ⟨by omega, by omega⟩
  have := put_len hn
  have := put_pos (s.size : Int)
  unfold text
  rw [List.length_append, bytesOf_length]
  exact ⟨rfl, by omega, by omega⟩
theorem text_eq {s : ByteArray} (h : s.size ≤ 100000) {k : Nat} (hk : 10 ≤ k) : wire_Text.f k s = some (text s) := by
  have hn : W64 (s.size : Int) := ⟨by omega, by omega⟩
  have hl := put_len hn
  have hp := put_eq hn hk
  unfold wire_Text.f text
  generalize put (s.size : Int) = p at *
  rw [hp, Option.bind_some, if_pos (by omega)]
theorem rtext_eq {s : ByteArray} (h : s.size ≤ 100000) {k : Nat} (hk : 10 ≤ k) : hallmootref03_Text.f k s = some (text s) := by
  have hn : W64 (s.size : Int) := ⟨by omega, by omega⟩
  have hl := put_len hn
  have hp := rput_eq hn hk
  unfold hallmootref03_Text.f text
  generalize put (s.size : Int) = p at *
  rw [hp, Option.bind_some, if_pos (by omega)]
theorem gtext_text {s : ByteArray} (h : s.size ≤ 100000) (r : List Int) : gtext (text s ++ r) = (s, ((text s).length : Int), 0) := by
  have hn : W64 (s.size : Int) := ⟨by omega, by omega⟩
  have e : text s ++ r = put s.size ++ (bytesOf s ++ r) := by unfold text; rw [List.append_assoc]
  have hg := get_put hn (bytesOf s ++ r)
  obtain ⟨hl, _, _⟩ := text_len h
  have hb := bytesOf_length s
  have hs := str_bytes s
  unfold gtext
  rw [e, hg, hl]
  generalize put (s.size : Int) = p at *
  simp only
  rw [List.length_append, List.length_append, if_pos ⟨trivial, by omega, by omega⟩]
  have e1 : ((p.length : Int) + (s.size : Int)).toNat = p.length + s.size := by omega
  have e2 : ((p ++ (bytesOf s ++ r)).take (p.length + s.size)).drop p.length = bytesOf s := by
    rw [← hb, List.take_length_add_append, List.take_left, List.drop_left]
  rw [e1, Int.toNat_natCast, e2, hs]
  rfl
/-- Without its last byte, or cut anywhere, it is no text. -/
theorem gtext_cut {s : ByteArray} (h : s.size ≤ 100000) {q : Nat} (hq : q < (text s).length) : gtext ((text s).take q) = (⟨#[]⟩, 0, 3) := by
  have hn : W64 (s.size : Int) := ⟨by omega, by omega⟩
  obtain ⟨hl, _, _⟩ := text_len h
  have hb := text_bytes s
  unfold gtext
  by_cases hc : q < (put s.size).length
  · have := get_short (n := (s.size : Int)) (r := bytesOf s) hc hb
    unfold text
    rw [this, if_neg (fun hh => absurd hh.1 (by decide))]
  · have e : (text s).take q = put s.size ++ (bytesOf s).take (q - (put s.size).length) := by
      unfold text
      rw [List.take_append, List.take_of_length_le (by omega)]
    have hlen : ((text s).take q).length = q := by rw [List.length_take]; omega
    rw [hlen, e, get_put hn]
    simp only
    rw [if_neg]
    rintro ⟨_, _, h3⟩
    omega
end Go.Proofs.Ytmhabhfkglhleaa.Core
