/-
  No cell of these rows narrows 'for every input' (looked for: loops, veiled, ifaces, maps, wideKeys, modest, calm, conditions, laid).
  DERIVED. THE GIVEN ROWS OF THIS SEAT. 6 by the template 'for every input the law returns true; each argument reads behind the call as it read before'; 0 by the template 'total and deterministic' (their statements: YtmldpamkghdohaaTotals.lean).
  GIVEN WITH THE SEED: the statements are not yours to turn. If you find one false, say at which input.
  Laid BY PROGRAM, IN A SANDBOX (cutbox-rows.mjs): the forced cells as the released guide's own fill.sh prints them over the translation a3108f7f77262440… (all of the seat's roots in one cut). By AI agents, Wed Nov 11 2026. No macro, syntax, notation, axiom, sorry.
-/
import Derived.Test.YtmldpamkghdohaaChecked
import GoSem.Claim
import GoSem.ClaimJoined
import GoSem.ClaimMapViews
import Derived.JoinedTies
import Derived.KernelRfl
namespace Go.Proofs.Ytmldpamkghdohaa
/- THE CELL 'sum', in the pinned program and in every row, IS THE sha256 OF THE DUMP (.gsa) THAT YtmldpamkghdohaaProg.lean LOADS. Nothing in Lean hashes anything: it is a label: what it is worth is what the hold of that sum in a sandbox is worth. -/
noncomputable def Try.pinned : Pinned := { name := "ytmldpamkghdohaa", sum := "a3108f7f77262440b5529d26e3feb83032469cf8553e3dcfdbc0ea1618908719", checked := Try.checked }
namespace Rows
def none {H : Type} : Left H := { results := [], args := [] }

/-- 'quillpresslaw06.CtrNumbers': WHATEVER THE INPUT: true; the input reads as it did. -/
def ctrNumbersSpec : ChangeSpec := { name := "ctrNumbers", fn := fun _ => fun
  | [] => { results := [.lit (.bool true)], args := [] }
  | _ => none }
def ctrNumbersRow : OpenClaim := { program := "ytmldpamkghdohaa", sum := "a3108f7f77262440b5529d26e3feb83032469cf8553e3dcfdbc0ea1618908719", func := "quillpress/quillpresslaw06.CtrNumbers", spec := "ctrNumbers", unfollowed := true, recurses := true, apart := false }
def CtrNumbersSaid : Prop := ctrNumbersRow.holds Try.pinned (OpenSpec.ofChange ctrNumbersSpec)

/-- ITS FALSE NEIGHBOUR: 'it returns false'. Refute it at one input. -/
def ctrNumbersWrong : ChangeSpec := { name := "ctrNumbers", fn := fun _ => fun
  | [] => { results := [.lit (.bool false)], args := [] }
  | _ => none }
def CtrNumbersWrongFalsely : Prop := ctrNumbersRow.holds Try.pinned (OpenSpec.ofChange ctrNumbersWrong)

/-- 'quillpresslaw06.CtrTells': WHATEVER THE INPUT: true; the input reads as it did. -/
def ctrTellsSpec : ChangeSpec := { name := "ctrTells", fn := fun _ => fun
  | [d1, d2, d3, d4, d5] => { results := [.lit (.bool true)], args := [d1, d2, d3, d4, d5] }
  | _ => none }
def ctrTellsRow : OpenClaim := { program := "ytmldpamkghdohaa", sum := "a3108f7f77262440b5529d26e3feb83032469cf8553e3dcfdbc0ea1618908719", func := "quillpress/quillpresslaw06.CtrTells", spec := "ctrTells", unfollowed := true, recurses := true, apart := false }
def CtrTellsSaid : Prop := ctrTellsRow.holds Try.pinned (OpenSpec.ofChange ctrTellsSpec)

/-- ITS FALSE NEIGHBOUR: 'it returns false'. Refute it at one input. -/
def ctrTellsWrong : ChangeSpec := { name := "ctrTells", fn := fun _ => fun
  | [d1, d2, d3, d4, d5] => { results := [.lit (.bool false)], args := [d1, d2, d3, d4, d5] }
  | _ => none }
def CtrTellsWrongFalsely : Prop := ctrTellsRow.holds Try.pinned (OpenSpec.ofChange ctrTellsWrong)

/-- 'quillpresslaw06.CtrPlaces': WHATEVER THE INPUT: true; the input reads as it did. -/
def ctrPlacesSpec : ChangeSpec := { name := "ctrPlaces", fn := fun _ => fun
  | [d1, d2, d3, d4, d5] => { results := [.lit (.bool true)], args := [d1, d2, d3, d4, d5] }
  | _ => none }
def ctrPlacesRow : OpenClaim := { program := "ytmldpamkghdohaa", sum := "a3108f7f77262440b5529d26e3feb83032469cf8553e3dcfdbc0ea1618908719", func := "quillpress/quillpresslaw06.CtrPlaces", spec := "ctrPlaces", unfollowed := true, recurses := true, apart := false }
def CtrPlacesSaid : Prop := ctrPlacesRow.holds Try.pinned (OpenSpec.ofChange ctrPlacesSpec)

/-- ITS FALSE NEIGHBOUR: 'it returns false'. Refute it at one input. -/
def ctrPlacesWrong : ChangeSpec := { name := "ctrPlaces", fn := fun _ => fun
  | [d1, d2, d3, d4, d5] => { results := [.lit (.bool false)], args := [d1, d2, d3, d4, d5] }
  | _ => none }
def CtrPlacesWrongFalsely : Prop := ctrPlacesRow.holds Try.pinned (OpenSpec.ofChange ctrPlacesWrong)

/-- 'quillpresslaw08.CryptNone': WHATEVER THE INPUT: true; the input reads as it did. -/
def cryptNoneSpec : ChangeSpec := { name := "cryptNone", fn := fun _ => fun
  | [d1, d2] => { results := [.lit (.bool true)], args := [d1, d2] }
  | _ => none }
def cryptNoneRow : OpenClaim := { program := "ytmldpamkghdohaa", sum := "a3108f7f77262440b5529d26e3feb83032469cf8553e3dcfdbc0ea1618908719", func := "quillpress/quillpresslaw08.CryptNone", spec := "cryptNone", inPlace := ["math/bits.Add64"], unfollowed := true, recurses := true, apart := false }
def CryptNoneSaid : Prop := cryptNoneRow.holds Try.pinned (OpenSpec.ofChange cryptNoneSpec)

/-- ITS FALSE NEIGHBOUR: 'it returns false'. Refute it at one input. -/
def cryptNoneWrong : ChangeSpec := { name := "cryptNone", fn := fun _ => fun
  | [d1, d2] => { results := [.lit (.bool false)], args := [d1, d2] }
  | _ => none }
def CryptNoneWrongFalsely : Prop := cryptNoneRow.holds Try.pinned (OpenSpec.ofChange cryptNoneWrong)

/-- 'quillpresslaw08.CryptNumbers': WHATEVER THE INPUT: true; the input reads as it did. -/
def cryptNumbersSpec : ChangeSpec := { name := "cryptNumbers", fn := fun _ => fun
  | [] => { results := [.lit (.bool true)], args := [] }
  | _ => none }
def cryptNumbersRow : OpenClaim := { program := "ytmldpamkghdohaa", sum := "a3108f7f77262440b5529d26e3feb83032469cf8553e3dcfdbc0ea1618908719", func := "quillpress/quillpresslaw08.CryptNumbers", spec := "cryptNumbers", inPlace := ["math/bits.Add64"], unfollowed := true, recurses := true, apart := false }
def CryptNumbersSaid : Prop := cryptNumbersRow.holds Try.pinned (OpenSpec.ofChange cryptNumbersSpec)

/-- ITS FALSE NEIGHBOUR: 'it returns false'. Refute it at one input. -/
def cryptNumbersWrong : ChangeSpec := { name := "cryptNumbers", fn := fun _ => fun
  | [] => { results := [.lit (.bool false)], args := [] }
  | _ => none }
def CryptNumbersWrongFalsely : Prop := cryptNumbersRow.holds Try.pinned (OpenSpec.ofChange cryptNumbersWrong)

/-- 'quillpresslaw08.CryptSees': WHATEVER THE INPUT: true; the input reads as it did. -/
def cryptSeesSpec : ChangeSpec := { name := "cryptSees", fn := fun _ => fun
  | [d1, d2, d3] => { results := [.lit (.bool true)], args := [d1, d2, d3] }
  | _ => none }
def cryptSeesRow : OpenClaim := { program := "ytmldpamkghdohaa", sum := "a3108f7f77262440b5529d26e3feb83032469cf8553e3dcfdbc0ea1618908719", func := "quillpress/quillpresslaw08.CryptSees", spec := "cryptSees", inPlace := ["math/bits.Add64"], unfollowed := true, recurses := true, apart := false }
def CryptSeesSaid : Prop := cryptSeesRow.holds Try.pinned (OpenSpec.ofChange cryptSeesSpec)

/-- ITS FALSE NEIGHBOUR: 'it returns false'. Refute it at one input. -/
def cryptSeesWrong : ChangeSpec := { name := "cryptSees", fn := fun _ => fun
  | [d1, d2, d3] => { results := [.lit (.bool false)], args := [d1, d2, d3] }
  | _ => none }
def CryptSeesWrongFalsely : Prop := cryptSeesRow.holds Try.pinned (OpenSpec.ofChange cryptSeesWrong)

/- THE SECOND FORM. 'bulk': how many values and letters a reading holds, each counted each time it is reached (what is shared counts as often as it is met; a slice's spare places count too). A statement '..UptoSaid' is the law's where the arguments, and the package variables that the reading takes, are together of bulk at most 1048576: NARROWER than '..Said'. Prove '..Said' where nothing that the law and all that it calls make is longer than what came in: it says more and counts as full. Else prove '..UptoSaid'. A law counts once. -/
mutual
def uptoBulk {H : Type} : DataW H → Nat
  | .lit (.string bytes) => bytes.length + 1
  | .lit _ => 1
  | .nil => 1
  | .ptr d => uptoBulk d + 1
  | .slice elems spare => uptoBulkAll elems + uptoBulkAll spare + 1
  | .agg parts => uptoBulkAll parts + 1
  | .iface _ d => uptoBulk d + 1
  | .map entries => uptoBulkEntries entries + 1
  | .held _ => 1
def uptoBulkAll {H : Type} : List (DataW H) → Nat
  | [] => 0
  | d :: r => uptoBulk d + uptoBulkAll r
def uptoBulkEntries {H : Type} : List (Lit × DataW H) → Nat
  | [] => 0
  | x :: r => uptoBulkEntry x + uptoBulkEntries r
def uptoBulkEntry {H : Type} : Lit × DataW H → Nat
  | (.string bytes, d) => bytes.length + uptoBulk d + 1
  | (_, d) => uptoBulk d + 1
 end
def uptoSmall : (H : Type) → List (DataW H) → Bool := fun _ ds => decide (uptoBulkAll ds ≤ 1048576)
def OpenSpec.upto (s : _root_.Go.ChangeSpec) : _root_.Go.OpenSpec := { _root_.Go.OpenSpec.ofChange s with cond := some uptoSmall }

/-- 'quillpresslaw06.CtrNumbers', WHERE WHAT IT READS IS OF BULK AT MOST 1048576: true; the input reads as it did. -/
def ctrNumbersUptoRow : OpenClaim := { program := "ytmldpamkghdohaa", sum := "a3108f7f77262440b5529d26e3feb83032469cf8553e3dcfdbc0ea1618908719", func := "quillpress/quillpresslaw06.CtrNumbers", spec := "ctrNumbers", unfollowed := true, recurses := true, apart := false, narrowed := true }
def CtrNumbersUptoSaid : Prop := ctrNumbersUptoRow.holds Try.pinned (OpenSpec.upto ctrNumbersSpec)

/-- 'quillpresslaw06.CtrTells', WHERE WHAT IT READS IS OF BULK AT MOST 1048576: true; the input reads as it did. -/
def ctrTellsUptoRow : OpenClaim := { program := "ytmldpamkghdohaa", sum := "a3108f7f77262440b5529d26e3feb83032469cf8553e3dcfdbc0ea1618908719", func := "quillpress/quillpresslaw06.CtrTells", spec := "ctrTells", unfollowed := true, recurses := true, apart := false, narrowed := true }
def CtrTellsUptoSaid : Prop := ctrTellsUptoRow.holds Try.pinned (OpenSpec.upto ctrTellsSpec)

/-- 'quillpresslaw06.CtrPlaces', WHERE WHAT IT READS IS OF BULK AT MOST 1048576: true; the input reads as it did. -/
def ctrPlacesUptoRow : OpenClaim := { program := "ytmldpamkghdohaa", sum := "a3108f7f77262440b5529d26e3feb83032469cf8553e3dcfdbc0ea1618908719", func := "quillpress/quillpresslaw06.CtrPlaces", spec := "ctrPlaces", unfollowed := true, recurses := true, apart := false, narrowed := true }
def CtrPlacesUptoSaid : Prop := ctrPlacesUptoRow.holds Try.pinned (OpenSpec.upto ctrPlacesSpec)

/-- 'quillpresslaw08.CryptNone', WHERE WHAT IT READS IS OF BULK AT MOST 1048576: true; the input reads as it did. -/
def cryptNoneUptoRow : OpenClaim := { program := "ytmldpamkghdohaa", sum := "a3108f7f77262440b5529d26e3feb83032469cf8553e3dcfdbc0ea1618908719", func := "quillpress/quillpresslaw08.CryptNone", spec := "cryptNone", inPlace := ["math/bits.Add64"], unfollowed := true, recurses := true, apart := false, narrowed := true }
def CryptNoneUptoSaid : Prop := cryptNoneUptoRow.holds Try.pinned (OpenSpec.upto cryptNoneSpec)

/-- 'quillpresslaw08.CryptNumbers', WHERE WHAT IT READS IS OF BULK AT MOST 1048576: true; the input reads as it did. -/
def cryptNumbersUptoRow : OpenClaim := { program := "ytmldpamkghdohaa", sum := "a3108f7f77262440b5529d26e3feb83032469cf8553e3dcfdbc0ea1618908719", func := "quillpress/quillpresslaw08.CryptNumbers", spec := "cryptNumbers", inPlace := ["math/bits.Add64"], unfollowed := true, recurses := true, apart := false, narrowed := true }
def CryptNumbersUptoSaid : Prop := cryptNumbersUptoRow.holds Try.pinned (OpenSpec.upto cryptNumbersSpec)

/-- 'quillpresslaw08.CryptSees', WHERE WHAT IT READS IS OF BULK AT MOST 1048576: true; the input reads as it did. -/
def cryptSeesUptoRow : OpenClaim := { program := "ytmldpamkghdohaa", sum := "a3108f7f77262440b5529d26e3feb83032469cf8553e3dcfdbc0ea1618908719", func := "quillpress/quillpresslaw08.CryptSees", spec := "cryptSees", inPlace := ["math/bits.Add64"], unfollowed := true, recurses := true, apart := false, narrowed := true }
def CryptSeesUptoSaid : Prop := cryptSeesUptoRow.holds Try.pinned (OpenSpec.upto cryptSeesSpec)

end Rows
end Go.Proofs.Ytmldpamkghdohaa
