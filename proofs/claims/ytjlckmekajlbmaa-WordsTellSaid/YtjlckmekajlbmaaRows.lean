/-
  No cell of these rows narrows 'for every input' (looked for: loops, veiled, ifaces, maps, wideKeys, modest, calm, conditions, laid).
  DERIVED. THE GIVEN ROWS OF THIS SEAT. 9 by the template 'for every input the law returns true; each argument reads behind the call as it read before'; 0 by the template 'total and deterministic' (their statements: YtjlckmekajlbmaaTotals.lean).
  GIVEN WITH THE SEED: the statements are not yours to turn. If you find one false, say at which input.
  Laid BY PROGRAM, IN A SANDBOX (cutbox-rows.mjs): the forced cells as the released guide's own fill.sh prints them over the translation 8fe4c78771f40d7e… (all of the seat's roots in one cut). By AI agents, Wed Nov 11 2026. No macro, syntax, notation, axiom, sorry.
-/
import Derived.Test.YtjlckmekajlbmaaChecked
import GoSem.Claim
import GoSem.ClaimJoined
import GoSem.ClaimMapViews
import Derived.JoinedTies
import Derived.KernelRfl
namespace Go.Proofs.Ytjlckmekajlbmaa
/- THE CELL 'sum', in the pinned program and in every row, IS THE sha256 OF THE DUMP (.gsa) THAT YtjlckmekajlbmaaProg.lean LOADS. Nothing in Lean hashes anything: it is a label: what it is worth is what the hold of that sum in a sandbox is worth. -/
noncomputable def Try.pinned : Pinned := { name := "ytjlckmekajlbmaa", sum := "8fe4c78771f40d7e13eaea5ce76e33e534d67313ed889e5e808f824bd23f0460", checked := Try.checked }
namespace Rows
def none {H : Type} : Left H := { results := [], args := [] }

/-- 'saucierlaw08.SumBursts': WHATEVER THE INPUT: true; the input reads as it did. -/
def sumBurstsSpec : ChangeSpec := { name := "sumBursts", fn := fun _ => fun
  | [d1, d2, d3] => { results := [.lit (.bool true)], args := [d1, d2, d3] }
  | _ => none }
def sumBurstsRow : OpenClaim := { program := "ytjlckmekajlbmaa", sum := "8fe4c78771f40d7e13eaea5ce76e33e534d67313ed889e5e808f824bd23f0460", func := "saucier/saucierlaw08.SumBursts", spec := "sumBursts", apart := false }
def SumBurstsSaid : Prop := sumBurstsRow.holds Try.pinned (OpenSpec.ofChange sumBurstsSpec)

/-- ITS FALSE NEIGHBOUR: 'it returns false'. Refute it at one input. -/
def sumBurstsWrong : ChangeSpec := { name := "sumBursts", fn := fun _ => fun
  | [d1, d2, d3] => { results := [.lit (.bool false)], args := [d1, d2, d3] }
  | _ => none }
def SumBurstsWrongFalsely : Prop := sumBurstsRow.holds Try.pinned (OpenSpec.ofChange sumBurstsWrong)

/-- 'saucierlaw08.SumThrees': WHATEVER THE INPUT: true; the input reads as it did. -/
def sumThreesSpec : ChangeSpec := { name := "sumThrees", fn := fun _ => fun
  | [d1, d2, d3] => { results := [.lit (.bool true)], args := [d1, d2, d3] }
  | _ => none }
def sumThreesRow : OpenClaim := { program := "ytjlckmekajlbmaa", sum := "8fe4c78771f40d7e13eaea5ce76e33e534d67313ed889e5e808f824bd23f0460", func := "saucier/saucierlaw08.SumThrees", spec := "sumThrees", apart := false }
def SumThreesSaid : Prop := sumThreesRow.holds Try.pinned (OpenSpec.ofChange sumThreesSpec)

/-- ITS FALSE NEIGHBOUR: 'it returns false'. Refute it at one input. -/
def sumThreesWrong : ChangeSpec := { name := "sumThrees", fn := fun _ => fun
  | [d1, d2, d3] => { results := [.lit (.bool false)], args := [d1, d2, d3] }
  | _ => none }
def SumThreesWrongFalsely : Prop := sumThreesRow.holds Try.pinned (OpenSpec.ofChange sumThreesWrong)

/-- 'saucierlaw08.SumTells': WHATEVER THE INPUT: true; the input reads as it did. -/
def sumTellsSpec : ChangeSpec := { name := "sumTells", fn := fun _ => fun
  | [d1, d2, d3, d4] => { results := [.lit (.bool true)], args := [d1, d2, d3, d4] }
  | _ => none }
def sumTellsRow : OpenClaim := { program := "ytjlckmekajlbmaa", sum := "8fe4c78771f40d7e13eaea5ce76e33e534d67313ed889e5e808f824bd23f0460", func := "saucier/saucierlaw08.SumTells", spec := "sumTells", apart := false }
def SumTellsSaid : Prop := sumTellsRow.holds Try.pinned (OpenSpec.ofChange sumTellsSpec)

/-- ITS FALSE NEIGHBOUR: 'it returns false'. Refute it at one input. -/
def sumTellsWrong : ChangeSpec := { name := "sumTells", fn := fun _ => fun
  | [d1, d2, d3, d4] => { results := [.lit (.bool false)], args := [d1, d2, d3, d4] }
  | _ => none }
def SumTellsWrongFalsely : Prop := sumTellsRow.holds Try.pinned (OpenSpec.ofChange sumTellsWrong)

/-- 'saucierlaw08.SumZeros': WHATEVER THE INPUT: true; the input reads as it did. -/
def sumZerosSpec : ChangeSpec := { name := "sumZeros", fn := fun _ => fun
  | [d1, d2, d3, d4] => { results := [.lit (.bool true)], args := [d1, d2, d3, d4] }
  | _ => none }
def sumZerosRow : OpenClaim := { program := "ytjlckmekajlbmaa", sum := "8fe4c78771f40d7e13eaea5ce76e33e534d67313ed889e5e808f824bd23f0460", func := "saucier/saucierlaw08.SumZeros", spec := "sumZeros", apart := false }
def SumZerosSaid : Prop := sumZerosRow.holds Try.pinned (OpenSpec.ofChange sumZerosSpec)

/-- ITS FALSE NEIGHBOUR: 'it returns false'. Refute it at one input. -/
def sumZerosWrong : ChangeSpec := { name := "sumZeros", fn := fun _ => fun
  | [d1, d2, d3, d4] => { results := [.lit (.bool false)], args := [d1, d2, d3, d4] }
  | _ => none }
def SumZerosWrongFalsely : Prop := sumZerosRow.holds Try.pinned (OpenSpec.ofChange sumZerosWrong)

/-- 'saucierlaw08.SumJoins': WHATEVER THE INPUT: true; the input reads as it did. -/
def sumJoinsSpec : ChangeSpec := { name := "sumJoins", fn := fun _ => fun
  | [d1, d2] => { results := [.lit (.bool true)], args := [d1, d2] }
  | _ => none }
def sumJoinsRow : OpenClaim := { program := "ytjlckmekajlbmaa", sum := "8fe4c78771f40d7e13eaea5ce76e33e534d67313ed889e5e808f824bd23f0460", func := "saucier/saucierlaw08.SumJoins", spec := "sumJoins", apart := false }
def SumJoinsSaid : Prop := sumJoinsRow.holds Try.pinned (OpenSpec.ofChange sumJoinsSpec)

/-- ITS FALSE NEIGHBOUR: 'it returns false'. Refute it at one input. -/
def sumJoinsWrong : ChangeSpec := { name := "sumJoins", fn := fun _ => fun
  | [d1, d2] => { results := [.lit (.bool false)], args := [d1, d2] }
  | _ => none }
def SumJoinsWrongFalsely : Prop := sumJoinsRow.holds Try.pinned (OpenSpec.ofChange sumJoinsWrong)

/-- 'saucierlaw06.WordsTell': WHATEVER THE INPUT: true; the input reads as it did. -/
def wordsTellSpec : ChangeSpec := { name := "wordsTell", fn := fun _ => fun
  | [d1, d2, d3, d4, d5] => { results := [.lit (.bool true)], args := [d1, d2, d3, d4, d5] }
  | _ => none }
def wordsTellRow : OpenClaim := { program := "ytjlckmekajlbmaa", sum := "8fe4c78771f40d7e13eaea5ce76e33e534d67313ed889e5e808f824bd23f0460", func := "saucier/saucierlaw06.WordsTell", spec := "wordsTell", apart := false }
def WordsTellSaid : Prop := wordsTellRow.holds Try.pinned (OpenSpec.ofChange wordsTellSpec)

/-- ITS FALSE NEIGHBOUR: 'it returns false'. Refute it at one input. -/
def wordsTellWrong : ChangeSpec := { name := "wordsTell", fn := fun _ => fun
  | [d1, d2, d3, d4, d5] => { results := [.lit (.bool false)], args := [d1, d2, d3, d4, d5] }
  | _ => none }
def WordsTellWrongFalsely : Prop := wordsTellRow.holds Try.pinned (OpenSpec.ofChange wordsTellWrong)

/-- 'saucierlaw06.WordsBack': WHATEVER THE INPUT: true; the input reads as it did. -/
def wordsBackSpec : ChangeSpec := { name := "wordsBack", fn := fun _ => fun
  | [d1, d2, d3, d4, d5, d6] => { results := [.lit (.bool true)], args := [d1, d2, d3, d4, d5, d6] }
  | _ => none }
def wordsBackRow : OpenClaim := { program := "ytjlckmekajlbmaa", sum := "8fe4c78771f40d7e13eaea5ce76e33e534d67313ed889e5e808f824bd23f0460", func := "saucier/saucierlaw06.WordsBack", spec := "wordsBack", apart := false }
def WordsBackSaid : Prop := wordsBackRow.holds Try.pinned (OpenSpec.ofChange wordsBackSpec)

/-- ITS FALSE NEIGHBOUR: 'it returns false'. Refute it at one input. -/
def wordsBackWrong : ChangeSpec := { name := "wordsBack", fn := fun _ => fun
  | [d1, d2, d3, d4, d5, d6] => { results := [.lit (.bool false)], args := [d1, d2, d3, d4, d5, d6] }
  | _ => none }
def WordsBackWrongFalsely : Prop := wordsBackRow.holds Try.pinned (OpenSpec.ofChange wordsBackWrong)

/-- 'saucierlaw06.WordsBits': WHATEVER THE INPUT: true; the input reads as it did. -/
def wordsBitsSpec : ChangeSpec := { name := "wordsBits", fn := fun _ => fun
  | [d1, d2, d3] => { results := [.lit (.bool true)], args := [d1, d2, d3] }
  | _ => none }
def wordsBitsRow : OpenClaim := { program := "ytjlckmekajlbmaa", sum := "8fe4c78771f40d7e13eaea5ce76e33e534d67313ed889e5e808f824bd23f0460", func := "saucier/saucierlaw06.WordsBits", spec := "wordsBits", apart := false }
def WordsBitsSaid : Prop := wordsBitsRow.holds Try.pinned (OpenSpec.ofChange wordsBitsSpec)

/-- ITS FALSE NEIGHBOUR: 'it returns false'. Refute it at one input. -/
def wordsBitsWrong : ChangeSpec := { name := "wordsBits", fn := fun _ => fun
  | [d1, d2, d3] => { results := [.lit (.bool false)], args := [d1, d2, d3] }
  | _ => none }
def WordsBitsWrongFalsely : Prop := wordsBitsRow.holds Try.pinned (OpenSpec.ofChange wordsBitsWrong)

/-- 'saucierlaw06.WordsAdd': WHATEVER THE INPUT: true; the input reads as it did. -/
def wordsAddSpec : ChangeSpec := { name := "wordsAdd", fn := fun _ => fun
  | [d1, d2, d3, d4, d5, d6] => { results := [.lit (.bool true)], args := [d1, d2, d3, d4, d5, d6] }
  | _ => none }
def wordsAddRow : OpenClaim := { program := "ytjlckmekajlbmaa", sum := "8fe4c78771f40d7e13eaea5ce76e33e534d67313ed889e5e808f824bd23f0460", func := "saucier/saucierlaw06.WordsAdd", spec := "wordsAdd", apart := false }
def WordsAddSaid : Prop := wordsAddRow.holds Try.pinned (OpenSpec.ofChange wordsAddSpec)

/-- ITS FALSE NEIGHBOUR: 'it returns false'. Refute it at one input. -/
def wordsAddWrong : ChangeSpec := { name := "wordsAdd", fn := fun _ => fun
  | [d1, d2, d3, d4, d5, d6] => { results := [.lit (.bool false)], args := [d1, d2, d3, d4, d5, d6] }
  | _ => none }
def WordsAddWrongFalsely : Prop := wordsAddRow.holds Try.pinned (OpenSpec.ofChange wordsAddWrong)

/- THE SECOND FORM. 'bulk': how many values and letters a reading holds, each counted each time it is reached (what is shared counts as often as it is met; a slice's spare places count too). A statement '..UptoSaid' is the law's where the arguments, and the package variables that the reading takes, are together of bulk at most 1048576: NARROWER than '..Said'. Prove '..Said' where nothing that the law and all that it calls make is longer than what came in: it says more and counts as full. Else prove '..UptoSaid'. A law counts once. -/
mutual
def uptoBulk {H : Type} : DataW H → Nat
  | .lit (.string bytes) => bytes.length + 1
  | .lit _ => 1
  | .nil => 1
  | .ptr d => uptoBulk d + 1
  | .slice elems spare => uptoBulkAll elems + uptoBulkAll spare + 1
  | .agg parts => uptoBulkAll parts + 1
  | .iface _ d => uptoBulk d + 1
  | .map entries => uptoBulkEntries entries + 1
  | .held _ => 1
def uptoBulkAll {H : Type} : List (DataW H) → Nat
  | [] => 0
  | d :: r => uptoBulk d + uptoBulkAll r
def uptoBulkEntries {H : Type} : List (Lit × DataW H) → Nat
  | [] => 0
  | x :: r => uptoBulkEntry x + uptoBulkEntries r
def uptoBulkEntry {H : Type} : Lit × DataW H → Nat
  | (.string bytes, d) => bytes.length + uptoBulk d + 1
  | (_, d) => uptoBulk d + 1
 end
def uptoSmall : (H : Type) → List (DataW H) → Bool := fun _ ds => decide (uptoBulkAll ds ≤ 1048576)
def OpenSpec.upto (s : _root_.Go.ChangeSpec) : _root_.Go.OpenSpec := { _root_.Go.OpenSpec.ofChange s with cond := some uptoSmall }

/-- 'saucierlaw08.SumBursts', WHERE WHAT IT READS IS OF BULK AT MOST 1048576: true; the input reads as it did. -/
def sumBurstsUptoRow : OpenClaim := { program := "ytjlckmekajlbmaa", sum := "8fe4c78771f40d7e13eaea5ce76e33e534d67313ed889e5e808f824bd23f0460", func := "saucier/saucierlaw08.SumBursts", spec := "sumBursts", apart := false, narrowed := true }
def SumBurstsUptoSaid : Prop := sumBurstsUptoRow.holds Try.pinned (OpenSpec.upto sumBurstsSpec)

/-- 'saucierlaw08.SumThrees', WHERE WHAT IT READS IS OF BULK AT MOST 1048576: true; the input reads as it did. -/
def sumThreesUptoRow : OpenClaim := { program := "ytjlckmekajlbmaa", sum := "8fe4c78771f40d7e13eaea5ce76e33e534d67313ed889e5e808f824bd23f0460", func := "saucier/saucierlaw08.SumThrees", spec := "sumThrees", apart := false, narrowed := true }
def SumThreesUptoSaid : Prop := sumThreesUptoRow.holds Try.pinned (OpenSpec.upto sumThreesSpec)

/-- 'saucierlaw08.SumTells', WHERE WHAT IT READS IS OF BULK AT MOST 1048576: true; the input reads as it did. -/
def sumTellsUptoRow : OpenClaim := { program := "ytjlckmekajlbmaa", sum := "8fe4c78771f40d7e13eaea5ce76e33e534d67313ed889e5e808f824bd23f0460", func := "saucier/saucierlaw08.SumTells", spec := "sumTells", apart := false, narrowed := true }
def SumTellsUptoSaid : Prop := sumTellsUptoRow.holds Try.pinned (OpenSpec.upto sumTellsSpec)

/-- 'saucierlaw08.SumZeros', WHERE WHAT IT READS IS OF BULK AT MOST 1048576: true; the input reads as it did. -/
def sumZerosUptoRow : OpenClaim := { program := "ytjlckmekajlbmaa", sum := "8fe4c78771f40d7e13eaea5ce76e33e534d67313ed889e5e808f824bd23f0460", func := "saucier/saucierlaw08.SumZeros", spec := "sumZeros", apart := false, narrowed := true }
def SumZerosUptoSaid : Prop := sumZerosUptoRow.holds Try.pinned (OpenSpec.upto sumZerosSpec)

/-- 'saucierlaw08.SumJoins', WHERE WHAT IT READS IS OF BULK AT MOST 1048576: true; the input reads as it did. -/
def sumJoinsUptoRow : OpenClaim := { program := "ytjlckmekajlbmaa", sum := "8fe4c78771f40d7e13eaea5ce76e33e534d67313ed889e5e808f824bd23f0460", func := "saucier/saucierlaw08.SumJoins", spec := "sumJoins", apart := false, narrowed := true }
def SumJoinsUptoSaid : Prop := sumJoinsUptoRow.holds Try.pinned (OpenSpec.upto sumJoinsSpec)

/-- 'saucierlaw06.WordsTell', WHERE WHAT IT READS IS OF BULK AT MOST 1048576: true; the input reads as it did. -/
def wordsTellUptoRow : OpenClaim := { program := "ytjlckmekajlbmaa", sum := "8fe4c78771f40d7e13eaea5ce76e33e534d67313ed889e5e808f824bd23f0460", func := "saucier/saucierlaw06.WordsTell", spec := "wordsTell", apart := false, narrowed := true }
def WordsTellUptoSaid : Prop := wordsTellUptoRow.holds Try.pinned (OpenSpec.upto wordsTellSpec)

/-- 'saucierlaw06.WordsBack', WHERE WHAT IT READS IS OF BULK AT MOST 1048576: true; the input reads as it did. -/
def wordsBackUptoRow : OpenClaim := { program := "ytjlckmekajlbmaa", sum := "8fe4c78771f40d7e13eaea5ce76e33e534d67313ed889e5e808f824bd23f0460", func := "saucier/saucierlaw06.WordsBack", spec := "wordsBack", apart := false, narrowed := true }
def WordsBackUptoSaid : Prop := wordsBackUptoRow.holds Try.pinned (OpenSpec.upto wordsBackSpec)

/-- 'saucierlaw06.WordsBits', WHERE WHAT IT READS IS OF BULK AT MOST 1048576: true; the input reads as it did. -/
def wordsBitsUptoRow : OpenClaim := { program := "ytjlckmekajlbmaa", sum := "8fe4c78771f40d7e13eaea5ce76e33e534d67313ed889e5e808f824bd23f0460", func := "saucier/saucierlaw06.WordsBits", spec := "wordsBits", apart := false, narrowed := true }
def WordsBitsUptoSaid : Prop := wordsBitsUptoRow.holds Try.pinned (OpenSpec.upto wordsBitsSpec)

/-- 'saucierlaw06.WordsAdd', WHERE WHAT IT READS IS OF BULK AT MOST 1048576: true; the input reads as it did. -/
def wordsAddUptoRow : OpenClaim := { program := "ytjlckmekajlbmaa", sum := "8fe4c78771f40d7e13eaea5ce76e33e534d67313ed889e5e808f824bd23f0460", func := "saucier/saucierlaw06.WordsAdd", spec := "wordsAdd", apart := false, narrowed := true }
def WordsAddUptoSaid : Prop := wordsAddUptoRow.holds Try.pinned (OpenSpec.upto wordsAddSpec)

end Rows
end Go.Proofs.Ytjlckmekajlbmaa
