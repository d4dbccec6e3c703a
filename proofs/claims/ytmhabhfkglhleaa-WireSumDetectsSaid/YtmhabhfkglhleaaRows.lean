/-
  No cell of these rows narrows 'for every input' (looked for: loops, veiled, ifaces, maps, wideKeys, modest, calm, conditions, laid).
  DERIVED. THE GIVEN ROWS OF THIS SEAT. 11 by the template 'for every input the law returns true; each argument reads behind the call as it read before'; 0 by the template 'total and deterministic' (their statements: YtmhabhfkglhleaaTotals.lean).
  GIVEN WITH THE SEED: the statements are not yours to turn. If you find one false, say at which input.
  Laid BY PROGRAM, IN A SANDBOX (cutbox-rows.mjs): the forced cells as the released guide's own fill.sh prints them over the translation 928e4abcbda182cf… (all of the seat's roots in one cut). By AI agents, Wed Nov 11 2026. No macro, syntax, notation, axiom, sorry.
-/
import Derived.Test.YtmhabhfkglhleaaChecked
import GoSem.Claim
import GoSem.ClaimJoined
import GoSem.ClaimMapViews
import Derived.JoinedTies
import Derived.KernelRfl
namespace Go.Proofs.Ytmhabhfkglhleaa
/- THE CELL 'sum', in the pinned program and in every row, IS THE sha256 OF THE DUMP (.gsa) THAT YtmhabhfkglhleaaProg.lean LOADS. Nothing in Lean hashes anything: it is a label: what it is worth is what the hold of that sum in a sandbox is worth. -/
noncomputable def Try.pinned : Pinned := { name := "ytmhabhfkglhleaa", sum := "928e4abcbda182cf9e1edf8f5aa293717187cfb3c7fa63add908a7130414b55e", checked := Try.checked }
namespace Rows
def none {H : Type} : Left H := { results := [], args := [] }

/-- 'hallmootlaw03.WireSealRoundTrip': WHATEVER THE INPUT: true; the input reads as it did. -/
def wireSealRoundTripSpec : ChangeSpec := { name := "wireSealRoundTrip", fn := fun _ => fun
  | [d1, d2] => { results := [.lit (.bool true)], args := [d1, d2] }
  | _ => none }
def wireSealRoundTripRow : OpenClaim := { program := "ytmhabhfkglhleaa", sum := "928e4abcbda182cf9e1edf8f5aa293717187cfb3c7fa63add908a7130414b55e", func := "hallmoot/hallmootlaw03.WireSealRoundTrip", spec := "wireSealRoundTrip", unfollowed := true, recurses := true, apart := false }
def WireSealRoundTripSaid : Prop := wireSealRoundTripRow.holds Try.pinned (OpenSpec.ofChange wireSealRoundTripSpec)

/-- ITS FALSE NEIGHBOUR: 'it returns false'. Refute it at one input. -/
def wireSealRoundTripWrong : ChangeSpec := { name := "wireSealRoundTrip", fn := fun _ => fun
  | [d1, d2] => { results := [.lit (.bool false)], args := [d1, d2] }
  | _ => none }
def WireSealRoundTripWrongFalsely : Prop := wireSealRoundTripRow.holds Try.pinned (OpenSpec.ofChange wireSealRoundTripWrong)

/-- 'hallmootlaw03.WireSumDetects': WHATEVER THE INPUT: true; the input reads as it did. -/
def wireSumDetectsSpec : ChangeSpec := { name := "wireSumDetects", fn := fun _ => fun
  | [d1, d2, d3, d4] => { results := [.lit (.bool true)], args := [d1, d2, d3, d4] }
  | _ => none }
def wireSumDetectsRow : OpenClaim := { program := "ytmhabhfkglhleaa", sum := "928e4abcbda182cf9e1edf8f5aa293717187cfb3c7fa63add908a7130414b55e", func := "hallmoot/hallmootlaw03.WireSumDetects", spec := "wireSumDetects", unfollowed := true, recurses := true, apart := false }
def WireSumDetectsSaid : Prop := wireSumDetectsRow.holds Try.pinned (OpenSpec.ofChange wireSumDetectsSpec)

/-- ITS FALSE NEIGHBOUR: 'it returns false'. Refute it at one input. -/
def wireSumDetectsWrong : ChangeSpec := { name := "wireSumDetects", fn := fun _ => fun
  | [d1, d2, d3, d4] => { results := [.lit (.bool false)], args := [d1, d2, d3, d4] }
  | _ => none }
def WireSumDetectsWrongFalsely : Prop := wireSumDetectsRow.holds Try.pinned (OpenSpec.ofChange wireSumDetectsWrong)

/-- 'hallmootlaw03.WirePutMatchesSpec': WHATEVER THE INPUT: true; the input reads as it did. -/
def wirePutMatchesSpecSpec : ChangeSpec := { name := "wirePutMatchesSpec", fn := fun _ => fun
  | [d] => { results := [.lit (.bool true)], args := [d] }
  | _ => none }
def wirePutMatchesSpecRow : OpenClaim := { program := "ytmhabhfkglhleaa", sum := "928e4abcbda182cf9e1edf8f5aa293717187cfb3c7fa63add908a7130414b55e", func := "hallmoot/hallmootlaw03.WirePutMatchesSpec", spec := "wirePutMatchesSpec", unfollowed := true, recurses := true, apart := false }
def WirePutMatchesSpecSaid : Prop := wirePutMatchesSpecRow.holds Try.pinned (OpenSpec.ofChange wirePutMatchesSpecSpec)

/-- ITS FALSE NEIGHBOUR: 'it returns false'. Refute it at one input. -/
def wirePutMatchesSpecWrong : ChangeSpec := { name := "wirePutMatchesSpec", fn := fun _ => fun
  | [d] => { results := [.lit (.bool false)], args := [d] }
  | _ => none }
def WirePutMatchesSpecWrongFalsely : Prop := wirePutMatchesSpecRow.holds Try.pinned (OpenSpec.ofChange wirePutMatchesSpecWrong)

/-- 'hallmootlaw03.WireDecodeMatchesSpec': WHATEVER THE INPUT: true; the input reads as it did. -/
def wireDecodeMatchesSpecSpec : ChangeSpec := { name := "wireDecodeMatchesSpec", fn := fun _ => fun
  | [d] => { results := [.lit (.bool true)], args := [d] }
  | _ => none }
def wireDecodeMatchesSpecRow : OpenClaim := { program := "ytmhabhfkglhleaa", sum := "928e4abcbda182cf9e1edf8f5aa293717187cfb3c7fa63add908a7130414b55e", func := "hallmoot/hallmootlaw03.WireDecodeMatchesSpec", spec := "wireDecodeMatchesSpec", unfollowed := true, recurses := true, apart := false }
def WireDecodeMatchesSpecSaid : Prop := wireDecodeMatchesSpecRow.holds Try.pinned (OpenSpec.ofChange wireDecodeMatchesSpecSpec)

/-- ITS FALSE NEIGHBOUR: 'it returns false'. Refute it at one input. -/
def wireDecodeMatchesSpecWrong : ChangeSpec := { name := "wireDecodeMatchesSpec", fn := fun _ => fun
  | [d] => { results := [.lit (.bool false)], args := [d] }
  | _ => none }
def WireDecodeMatchesSpecWrongFalsely : Prop := wireDecodeMatchesSpecRow.holds Try.pinned (OpenSpec.ofChange wireDecodeMatchesSpecWrong)

/-- 'hallmootlaw03.WireRoundTrip': WHATEVER THE INPUT: true; the input reads as it did. -/
def wireRoundTripSpec : ChangeSpec := { name := "wireRoundTrip", fn := fun _ => fun
  | [d1, d2] => { results := [.lit (.bool true)], args := [d1, d2] }
  | _ => none }
def wireRoundTripRow : OpenClaim := { program := "ytmhabhfkglhleaa", sum := "928e4abcbda182cf9e1edf8f5aa293717187cfb3c7fa63add908a7130414b55e", func := "hallmoot/hallmootlaw03.WireRoundTrip", spec := "wireRoundTrip", unfollowed := true, recurses := true, apart := false }
def WireRoundTripSaid : Prop := wireRoundTripRow.holds Try.pinned (OpenSpec.ofChange wireRoundTripSpec)

/-- ITS FALSE NEIGHBOUR: 'it returns false'. Refute it at one input. -/
def wireRoundTripWrong : ChangeSpec := { name := "wireRoundTrip", fn := fun _ => fun
  | [d1, d2] => { results := [.lit (.bool false)], args := [d1, d2] }
  | _ => none }
def WireRoundTripWrongFalsely : Prop := wireRoundTripRow.holds Try.pinned (OpenSpec.ofChange wireRoundTripWrong)

/-- 'hallmootlaw03.WireCanonical': WHATEVER THE INPUT: true; the input reads as it did. -/
def wireCanonicalSpec : ChangeSpec := { name := "wireCanonical", fn := fun _ => fun
  | [d] => { results := [.lit (.bool true)], args := [d] }
  | _ => none }
def wireCanonicalRow : OpenClaim := { program := "ytmhabhfkglhleaa", sum := "928e4abcbda182cf9e1edf8f5aa293717187cfb3c7fa63add908a7130414b55e", func := "hallmoot/hallmootlaw03.WireCanonical", spec := "wireCanonical", unfollowed := true, recurses := true, apart := false }
def WireCanonicalSaid : Prop := wireCanonicalRow.holds Try.pinned (OpenSpec.ofChange wireCanonicalSpec)

/-- ITS FALSE NEIGHBOUR: 'it returns false'. Refute it at one input. -/
def wireCanonicalWrong : ChangeSpec := { name := "wireCanonical", fn := fun _ => fun
  | [d] => { results := [.lit (.bool false)], args := [d] }
  | _ => none }
def WireCanonicalWrongFalsely : Prop := wireCanonicalRow.holds Try.pinned (OpenSpec.ofChange wireCanonicalWrong)

/-- 'hallmootlaw03.WireTextRoundTrip': WHATEVER THE INPUT: true; the input reads as it did. -/
def wireTextRoundTripSpec : ChangeSpec := { name := "wireTextRoundTrip", fn := fun _ => fun
  | [d1, d2] => { results := [.lit (.bool true)], args := [d1, d2] }
  | _ => none }
def wireTextRoundTripRow : OpenClaim := { program := "ytmhabhfkglhleaa", sum := "928e4abcbda182cf9e1edf8f5aa293717187cfb3c7fa63add908a7130414b55e", func := "hallmoot/hallmootlaw03.WireTextRoundTrip", spec := "wireTextRoundTrip", unfollowed := true, recurses := true, apart := false }
def WireTextRoundTripSaid : Prop := wireTextRoundTripRow.holds Try.pinned (OpenSpec.ofChange wireTextRoundTripSpec)

/-- ITS FALSE NEIGHBOUR: 'it returns false'. Refute it at one input. -/
def wireTextRoundTripWrong : ChangeSpec := { name := "wireTextRoundTrip", fn := fun _ => fun
  | [d1, d2] => { results := [.lit (.bool false)], args := [d1, d2] }
  | _ => none }
def WireTextRoundTripWrongFalsely : Prop := wireTextRoundTripRow.holds Try.pinned (OpenSpec.ofChange wireTextRoundTripWrong)

/-- 'hallmootlaw03.WireNumsRoundTrip': WHATEVER THE INPUT: true; the input reads as it did. -/
def wireNumsRoundTripSpec : ChangeSpec := { name := "wireNumsRoundTrip", fn := fun _ => fun
  | [d1, d2] => { results := [.lit (.bool true)], args := [d1, d2] }
  | _ => none }
def wireNumsRoundTripRow : OpenClaim := { program := "ytmhabhfkglhleaa", sum := "928e4abcbda182cf9e1edf8f5aa293717187cfb3c7fa63add908a7130414b55e", func := "hallmoot/hallmootlaw03.WireNumsRoundTrip", spec := "wireNumsRoundTrip", unfollowed := true, recurses := true, apart := false }
def WireNumsRoundTripSaid : Prop := wireNumsRoundTripRow.holds Try.pinned (OpenSpec.ofChange wireNumsRoundTripSpec)

/-- ITS FALSE NEIGHBOUR: 'it returns false'. Refute it at one input. -/
def wireNumsRoundTripWrong : ChangeSpec := { name := "wireNumsRoundTrip", fn := fun _ => fun
  | [d1, d2] => { results := [.lit (.bool false)], args := [d1, d2] }
  | _ => none }
def WireNumsRoundTripWrongFalsely : Prop := wireNumsRoundTripRow.holds Try.pinned (OpenSpec.ofChange wireNumsRoundTripWrong)

/-- 'hallmootlaw03.WireInjective': WHATEVER THE INPUT: true; the input reads as it did. -/
def wireInjectiveSpec : ChangeSpec := { name := "wireInjective", fn := fun _ => fun
  | [d1, d2] => { results := [.lit (.bool true)], args := [d1, d2] }
  | _ => none }
def wireInjectiveRow : OpenClaim := { program := "ytmhabhfkglhleaa", sum := "928e4abcbda182cf9e1edf8f5aa293717187cfb3c7fa63add908a7130414b55e", func := "hallmoot/hallmootlaw03.WireInjective", spec := "wireInjective", unfollowed := true, recurses := true, apart := false }
def WireInjectiveSaid : Prop := wireInjectiveRow.holds Try.pinned (OpenSpec.ofChange wireInjectiveSpec)

/-- ITS FALSE NEIGHBOUR: 'it returns false'. Refute it at one input. -/
def wireInjectiveWrong : ChangeSpec := { name := "wireInjective", fn := fun _ => fun
  | [d1, d2] => { results := [.lit (.bool false)], args := [d1, d2] }
  | _ => none }
def WireInjectiveWrongFalsely : Prop := wireInjectiveRow.holds Try.pinned (OpenSpec.ofChange wireInjectiveWrong)

/-- 'hallmootlaw03.WireConcat': WHATEVER THE INPUT: true; the input reads as it did. -/
def wireConcatSpec : ChangeSpec := { name := "wireConcat", fn := fun _ => fun
  | [d1, d2] => { results := [.lit (.bool true)], args := [d1, d2] }
  | _ => none }
def wireConcatRow : OpenClaim := { program := "ytmhabhfkglhleaa", sum := "928e4abcbda182cf9e1edf8f5aa293717187cfb3c7fa63add908a7130414b55e", func := "hallmoot/hallmootlaw03.WireConcat", spec := "wireConcat", unfollowed := true, recurses := true, apart := false }
def WireConcatSaid : Prop := wireConcatRow.holds Try.pinned (OpenSpec.ofChange wireConcatSpec)

/-- ITS FALSE NEIGHBOUR: 'it returns false'. Refute it at one input. -/
def wireConcatWrong : ChangeSpec := { name := "wireConcat", fn := fun _ => fun
  | [d1, d2] => { results := [.lit (.bool false)], args := [d1, d2] }
  | _ => none }
def WireConcatWrongFalsely : Prop := wireConcatRow.holds Try.pinned (OpenSpec.ofChange wireConcatWrong)

/-- 'hallmootlaw03.WireSealMatchesSpec': WHATEVER THE INPUT: true; the input reads as it did. -/
def wireSealMatchesSpecSpec : ChangeSpec := { name := "wireSealMatchesSpec", fn := fun _ => fun
  | [d] => { results := [.lit (.bool true)], args := [d] }
  | _ => none }
def wireSealMatchesSpecRow : OpenClaim := { program := "ytmhabhfkglhleaa", sum := "928e4abcbda182cf9e1edf8f5aa293717187cfb3c7fa63add908a7130414b55e", func := "hallmoot/hallmootlaw03.WireSealMatchesSpec", spec := "wireSealMatchesSpec", unfollowed := true, recurses := true, apart := false }
def WireSealMatchesSpecSaid : Prop := wireSealMatchesSpecRow.holds Try.pinned (OpenSpec.ofChange wireSealMatchesSpecSpec)

/-- ITS FALSE NEIGHBOUR: 'it returns false'. Refute it at one input. -/
def wireSealMatchesSpecWrong : ChangeSpec := { name := "wireSealMatchesSpec", fn := fun _ => fun
  | [d] => { results := [.lit (.bool false)], args := [d] }
  | _ => none }
def WireSealMatchesSpecWrongFalsely : Prop := wireSealMatchesSpecRow.holds Try.pinned (OpenSpec.ofChange wireSealMatchesSpecWrong)

/- THE SECOND FORM. 'bulk': how many values and letters a reading holds, each counted each time it is reached (what is shared counts as often as it is met; a slice's spare places count too). A statement '..UptoSaid' is the law's where the arguments, and the package variables that the reading takes, are together of bulk at most 1048576: NARROWER than '..Said'. Prove '..Said' where nothing that the law and all that it calls make is longer than what came in: it says more and counts as full. Else prove '..UptoSaid'. A law counts once. -/
mutual
def uptoBulk {H : Type} : DataW H → Nat
  | .lit (.string bytes) => bytes.length + 1
  | .lit _ => 1
  | .nil => 1
  | .ptr d => uptoBulk d + 1
  | .slice elems spare => uptoBulkAll elems + uptoBulkAll spare + 1
  | .agg parts => uptoBulkAll parts + 1
  | .iface _ d => uptoBulk d + 1
  | .map entries => uptoBulkEntries entries + 1
  | .held _ => 1
def uptoBulkAll {H : Type} : List (DataW H) → Nat
  | [] => 0
  | d :: r => uptoBulk d + uptoBulkAll r
def uptoBulkEntries {H : Type} : List (Lit × DataW H) → Nat
  | [] => 0
  | x :: r => uptoBulkEntry x + uptoBulkEntries r
def uptoBulkEntry {H : Type} : Lit × DataW H → Nat
  | (.string bytes, d) => bytes.length + uptoBulk d + 1
  | (_, d) => uptoBulk d + 1
 end
def uptoSmall : (H : Type) → List (DataW H) → Bool := fun _ ds => decide (uptoBulkAll ds ≤ 1048576)
def OpenSpec.upto (s : _root_.Go.ChangeSpec) : _root_.Go.OpenSpec := { _root_.Go.OpenSpec.ofChange s with cond := some uptoSmall }

/-- 'hallmootlaw03.WireSealRoundTrip', WHERE WHAT IT READS IS OF BULK AT MOST 1048576: true; the input reads as it did. -/
def wireSealRoundTripUptoRow : OpenClaim := { program := "ytmhabhfkglhleaa", sum := "928e4abcbda182cf9e1edf8f5aa293717187cfb3c7fa63add908a7130414b55e", func := "hallmoot/hallmootlaw03.WireSealRoundTrip", spec := "wireSealRoundTrip", unfollowed := true, recurses := true, apart := false, narrowed := true }
def WireSealRoundTripUptoSaid : Prop := wireSealRoundTripUptoRow.holds Try.pinned (OpenSpec.upto wireSealRoundTripSpec)

/-- 'hallmootlaw03.WireSumDetects', WHERE WHAT IT READS IS OF BULK AT MOST 1048576: true; the input reads as it did. -/
def wireSumDetectsUptoRow : OpenClaim := { program := "ytmhabhfkglhleaa", sum := "928e4abcbda182cf9e1edf8f5aa293717187cfb3c7fa63add908a7130414b55e", func := "hallmoot/hallmootlaw03.WireSumDetects", spec := "wireSumDetects", unfollowed := true, recurses := true, apart := false, narrowed := true }
def WireSumDetectsUptoSaid : Prop := wireSumDetectsUptoRow.holds Try.pinned (OpenSpec.upto wireSumDetectsSpec)

/-- 'hallmootlaw03.WirePutMatchesSpec', WHERE WHAT IT READS IS OF BULK AT MOST 1048576: true; the input reads as it did. -/
def wirePutMatchesSpecUptoRow : OpenClaim := { program := "ytmhabhfkglhleaa", sum := "928e4abcbda182cf9e1edf8f5aa293717187cfb3c7fa63add908a7130414b55e", func := "hallmoot/hallmootlaw03.WirePutMatchesSpec", spec := "wirePutMatchesSpec", unfollowed := true, recurses := true, apart := false, narrowed := true }
def WirePutMatchesSpecUptoSaid : Prop := wirePutMatchesSpecUptoRow.holds Try.pinned (OpenSpec.upto wirePutMatchesSpecSpec)

/-- 'hallmootlaw03.WireDecodeMatchesSpec', WHERE WHAT IT READS IS OF BULK AT MOST 1048576: true; the input reads as it did. -/
def wireDecodeMatchesSpecUptoRow : OpenClaim := { program := "ytmhabhfkglhleaa", sum := "928e4abcbda182cf9e1edf8f5aa293717187cfb3c7fa63add908a7130414b55e", func := "hallmoot/hallmootlaw03.WireDecodeMatchesSpec", spec := "wireDecodeMatchesSpec", unfollowed := true, recurses := true, apart := false, narrowed := true }
def WireDecodeMatchesSpecUptoSaid : Prop := wireDecodeMatchesSpecUptoRow.holds Try.pinned (OpenSpec.upto wireDecodeMatchesSpecSpec)

/-- 'hallmootlaw03.WireRoundTrip', WHERE WHAT IT READS IS OF BULK AT MOST 1048576: true; the input reads as it did. -/
def wireRoundTripUptoRow : OpenClaim := { program := "ytmhabhfkglhleaa", sum := "928e4abcbda182cf9e1edf8f5aa293717187cfb3c7fa63add908a7130414b55e", func := "hallmoot/hallmootlaw03.WireRoundTrip", spec := "wireRoundTrip", unfollowed := true, recurses := true, apart := false, narrowed := true }
def WireRoundTripUptoSaid : Prop := wireRoundTripUptoRow.holds Try.pinned (OpenSpec.upto wireRoundTripSpec)

/-- 'hallmootlaw03.WireCanonical', WHERE WHAT IT READS IS OF BULK AT MOST 1048576: true; the input reads as it did. -/
def wireCanonicalUptoRow : OpenClaim := { program := "ytmhabhfkglhleaa", sum := "928e4abcbda182cf9e1edf8f5aa293717187cfb3c7fa63add908a7130414b55e", func := "hallmoot/hallmootlaw03.WireCanonical", spec := "wireCanonical", unfollowed := true, recurses := true, apart := false, narrowed := true }
def WireCanonicalUptoSaid : Prop := wireCanonicalUptoRow.holds Try.pinned (OpenSpec.upto wireCanonicalSpec)

/-- 'hallmootlaw03.WireTextRoundTrip', WHERE WHAT IT READS IS OF BULK AT MOST 1048576: true; the input reads as it did. -/
def wireTextRoundTripUptoRow : OpenClaim := { program := "ytmhabhfkglhleaa", sum := "928e4abcbda182cf9e1edf8f5aa293717187cfb3c7fa63add908a7130414b55e", func := "hallmoot/hallmootlaw03.WireTextRoundTrip", spec := "wireTextRoundTrip", unfollowed := true, recurses := true, apart := false, narrowed := true }
def WireTextRoundTripUptoSaid : Prop := wireTextRoundTripUptoRow.holds Try.pinned (OpenSpec.upto wireTextRoundTripSpec)

/-- 'hallmootlaw03.WireNumsRoundTrip', WHERE WHAT IT READS IS OF BULK AT MOST 1048576: true; the input reads as it did. -/
def wireNumsRoundTripUptoRow : OpenClaim := { program := "ytmhabhfkglhleaa", sum := "928e4abcbda182cf9e1edf8f5aa293717187cfb3c7fa63add908a7130414b55e", func := "hallmoot/hallmootlaw03.WireNumsRoundTrip", spec := "wireNumsRoundTrip", unfollowed := true, recurses := true, apart := false, narrowed := true }
def WireNumsRoundTripUptoSaid : Prop := wireNumsRoundTripUptoRow.holds Try.pinned (OpenSpec.upto wireNumsRoundTripSpec)

/-- 'hallmootlaw03.WireInjective', WHERE WHAT IT READS IS OF BULK AT MOST 1048576: true; the input reads as it did. -/
def wireInjectiveUptoRow : OpenClaim := { program := "ytmhabhfkglhleaa", sum := "928e4abcbda182cf9e1edf8f5aa293717187cfb3c7fa63add908a7130414b55e", func := "hallmoot/hallmootlaw03.WireInjective", spec := "wireInjective", unfollowed := true, recurses := true, apart := false, narrowed := true }
def WireInjectiveUptoSaid : Prop := wireInjectiveUptoRow.holds Try.pinned (OpenSpec.upto wireInjectiveSpec)

/-- 'hallmootlaw03.WireConcat', WHERE WHAT IT READS IS OF BULK AT MOST 1048576: true; the input reads as it did. -/
def wireConcatUptoRow : OpenClaim := { program := "ytmhabhfkglhleaa", sum := "928e4abcbda182cf9e1edf8f5aa293717187cfb3c7fa63add908a7130414b55e", func := "hallmoot/hallmootlaw03.WireConcat", spec := "wireConcat", unfollowed := true, recurses := true, apart := false, narrowed := true }
def WireConcatUptoSaid : Prop := wireConcatUptoRow.holds Try.pinned (OpenSpec.upto wireConcatSpec)

/-- 'hallmootlaw03.WireSealMatchesSpec', WHERE WHAT IT READS IS OF BULK AT MOST 1048576: true; the input reads as it did. -/
def wireSealMatchesSpecUptoRow : OpenClaim := { program := "ytmhabhfkglhleaa", sum := "928e4abcbda182cf9e1edf8f5aa293717187cfb3c7fa63add908a7130414b55e", func := "hallmoot/hallmootlaw03.WireSealMatchesSpec", spec := "wireSealMatchesSpec", unfollowed := true, recurses := true, apart := false, narrowed := true }
def WireSealMatchesSpecUptoSaid : Prop := wireSealMatchesSpecUptoRow.holds Try.pinned (OpenSpec.upto wireSealMatchesSpecSpec)

end Rows
end Go.Proofs.Ytmhabhfkglhleaa
