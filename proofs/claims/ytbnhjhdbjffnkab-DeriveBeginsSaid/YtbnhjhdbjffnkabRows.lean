/-
  No cell of these rows narrows 'for every input' (looked for: loops, veiled, ifaces, maps, wideKeys, modest, calm, conditions, laid).
  DERIVED. THE GIVEN ROWS OF THIS SEAT. 5 by the template 'for every input the law returns true; each argument reads behind the call as it read before'; 0 by the template 'total and deterministic' (their statements: YtbnhjhdbjffnkabTotals.lean).
  GIVEN WITH THE SEED: the statements are not yours to turn. If you find one false, say at which input.
  Laid BY PROGRAM, IN A SANDBOX (cutbox-rows.mjs): the forced cells as the released guide's own fill.sh prints them over the translation 15b666d26ee13e70… (all of the seat's roots in one cut). By AI agents, Wed Nov 11 2026. No macro, syntax, notation, axiom, sorry.
-/
import Derived.Test.YtbnhjhdbjffnkabChecked
import GoSem.Claim
import GoSem.ClaimJoined
import GoSem.ClaimMapViews
import Derived.JoinedTies
import Derived.KernelRfl
namespace Go.Proofs.Ytbnhjhdbjffnkab
/- THE CELL 'sum', in the pinned program and in every row, IS THE sha256 OF THE DUMP (.gsa) THAT YtbnhjhdbjffnkabProg.lean LOADS. Nothing in Lean hashes anything: it is a label: what it is worth is what the hold of that sum in a sandbox is worth. -/
noncomputable def Try.pinned : Pinned := { name := "ytbnhjhdbjffnkab", sum := "15b666d26ee13e703f96b3da75c633c9380b5a57a2daf393f6ff52f9d317cbb9", checked := Try.checked }
namespace Rows
def none {H : Type} : Left H := { results := [], args := [] }

/-- 'quillpresslaw03.DigestCuts': WHATEVER THE INPUT: true; the input reads as it did. -/
def digestCutsSpec : ChangeSpec := { name := "digestCuts", fn := fun _ => fun
  | [d] => { results := [.lit (.bool true)], args := [d] }
  | _ => none }
def digestCutsRow : OpenClaim := { program := "ytbnhjhdbjffnkab", sum := "15b666d26ee13e703f96b3da75c633c9380b5a57a2daf393f6ff52f9d317cbb9", func := "quillpress/quillpresslaw03.DigestCuts", spec := "digestCuts", inPlace := ["math/bits.Add64"], apart := false }
def DigestCutsSaid : Prop := digestCutsRow.holds Try.pinned (OpenSpec.ofChange digestCutsSpec)

/-- ITS FALSE NEIGHBOUR: 'it returns false'. Refute it at one input. -/
def digestCutsWrong : ChangeSpec := { name := "digestCuts", fn := fun _ => fun
  | [d] => { results := [.lit (.bool false)], args := [d] }
  | _ => none }
def DigestCutsWrongFalsely : Prop := digestCutsRow.holds Try.pinned (OpenSpec.ofChange digestCutsWrong)

/-- 'quillpresslaw03.DigestTells': WHATEVER THE INPUT: true; the input reads as it did. -/
def digestTellsSpec : ChangeSpec := { name := "digestTells", fn := fun _ => fun
  | [d] => { results := [.lit (.bool true)], args := [d] }
  | _ => none }
def digestTellsRow : OpenClaim := { program := "ytbnhjhdbjffnkab", sum := "15b666d26ee13e703f96b3da75c633c9380b5a57a2daf393f6ff52f9d317cbb9", func := "quillpress/quillpresslaw03.DigestTells", spec := "digestTells", inPlace := ["math/bits.Add64"], apart := false }
def DigestTellsSaid : Prop := digestTellsRow.holds Try.pinned (OpenSpec.ofChange digestTellsSpec)

/-- ITS FALSE NEIGHBOUR: 'it returns false'. Refute it at one input. -/
def digestTellsWrong : ChangeSpec := { name := "digestTells", fn := fun _ => fun
  | [d] => { results := [.lit (.bool false)], args := [d] }
  | _ => none }
def DigestTellsWrongFalsely : Prop := digestTellsRow.holds Try.pinned (OpenSpec.ofChange digestTellsWrong)

/-- 'quillpresslaw04.DeriveNumbers': WHATEVER THE INPUT: true; the input reads as it did. -/
def deriveNumbersSpec : ChangeSpec := { name := "deriveNumbers", fn := fun _ => fun
  | [] => { results := [.lit (.bool true)], args := [] }
  | _ => none }
def deriveNumbersRow : OpenClaim := { program := "ytbnhjhdbjffnkab", sum := "15b666d26ee13e703f96b3da75c633c9380b5a57a2daf393f6ff52f9d317cbb9", func := "quillpress/quillpresslaw04.DeriveNumbers", spec := "deriveNumbers", inPlace := ["math/bits.Add64"], unfollowed := true, recurses := true, apart := false }
def DeriveNumbersSaid : Prop := deriveNumbersRow.holds Try.pinned (OpenSpec.ofChange deriveNumbersSpec)

/-- ITS FALSE NEIGHBOUR: 'it returns false'. Refute it at one input. -/
def deriveNumbersWrong : ChangeSpec := { name := "deriveNumbers", fn := fun _ => fun
  | [] => { results := [.lit (.bool false)], args := [] }
  | _ => none }
def DeriveNumbersWrongFalsely : Prop := deriveNumbersRow.holds Try.pinned (OpenSpec.ofChange deriveNumbersWrong)

/-- 'quillpresslaw04.DeriveTells': WHATEVER THE INPUT: true; the input reads as it did. -/
def deriveTellsSpec : ChangeSpec := { name := "deriveTells", fn := fun _ => fun
  | [d1, d2, d3, d4] => { results := [.lit (.bool true)], args := [d1, d2, d3, d4] }
  | _ => none }
def deriveTellsRow : OpenClaim := { program := "ytbnhjhdbjffnkab", sum := "15b666d26ee13e703f96b3da75c633c9380b5a57a2daf393f6ff52f9d317cbb9", func := "quillpress/quillpresslaw04.DeriveTells", spec := "deriveTells", inPlace := ["math/bits.Add64"], unfollowed := true, recurses := true, apart := false }
def DeriveTellsSaid : Prop := deriveTellsRow.holds Try.pinned (OpenSpec.ofChange deriveTellsSpec)

/-- ITS FALSE NEIGHBOUR: 'it returns false'. Refute it at one input. -/
def deriveTellsWrong : ChangeSpec := { name := "deriveTells", fn := fun _ => fun
  | [d1, d2, d3, d4] => { results := [.lit (.bool false)], args := [d1, d2, d3, d4] }
  | _ => none }
def DeriveTellsWrongFalsely : Prop := deriveTellsRow.holds Try.pinned (OpenSpec.ofChange deriveTellsWrong)

/-- 'quillpresslaw04.DeriveBegins': WHATEVER THE INPUT: true; the input reads as it did. -/
def deriveBeginsSpec : ChangeSpec := { name := "deriveBegins", fn := fun _ => fun
  | [d1, d2, d3, d4, d5, d6] => { results := [.lit (.bool true)], args := [d1, d2, d3, d4, d5, d6] }
  | _ => none }
def deriveBeginsRow : OpenClaim := { program := "ytbnhjhdbjffnkab", sum := "15b666d26ee13e703f96b3da75c633c9380b5a57a2daf393f6ff52f9d317cbb9", func := "quillpress/quillpresslaw04.DeriveBegins", spec := "deriveBegins", inPlace := ["math/bits.Add64"], unfollowed := true, recurses := true, apart := false }
def DeriveBeginsSaid : Prop := deriveBeginsRow.holds Try.pinned (OpenSpec.ofChange deriveBeginsSpec)

/-- ITS FALSE NEIGHBOUR: 'it returns false'. Refute it at one input. -/
def deriveBeginsWrong : ChangeSpec := { name := "deriveBegins", fn := fun _ => fun
  | [d1, d2, d3, d4, d5, d6] => { results := [.lit (.bool false)], args := [d1, d2, d3, d4, d5, d6] }
  | _ => none }
def DeriveBeginsWrongFalsely : Prop := deriveBeginsRow.holds Try.pinned (OpenSpec.ofChange deriveBeginsWrong)

/- THE SECOND FORM. 'bulk': how many values and letters a reading holds, each counted each time it is reached (what is shared counts as often as it is met; a slice's spare places count too). A statement '..UptoSaid' is the law's where the arguments, and the package variables that the reading takes, are together of bulk at most 1048576: NARROWER than '..Said'. Prove '..Said' where nothing that the law and all that it calls make is longer than what came in: it says more and counts as full. Else prove '..UptoSaid'. A law counts once. -/
mutual
def uptoBulk {H : Type} : DataW H → Nat
  | .lit (.string bytes) => bytes.length + 1
  | .lit _ => 1
  | .nil => 1
  | .ptr d => uptoBulk d + 1
  | .slice elems spare => uptoBulkAll elems + uptoBulkAll spare + 1
  | .agg parts => uptoBulkAll parts + 1
  | .iface _ d => uptoBulk d + 1
  | .map entries => uptoBulkEntries entries + 1
  | .held _ => 1
def uptoBulkAll {H : Type} : List (DataW H) → Nat
  | [] => 0
  | d :: r => uptoBulk d + uptoBulkAll r
def uptoBulkEntries {H : Type} : List (Lit × DataW H) → Nat
  | [] => 0
  | x :: r => uptoBulkEntry x + uptoBulkEntries r
def uptoBulkEntry {H : Type} : Lit × DataW H → Nat
  | (.string bytes, d) => bytes.length + uptoBulk d + 1
  | (_, d) => uptoBulk d + 1
 end
def uptoSmall : (H : Type) → List (DataW H) → Bool := fun _ ds => decide (uptoBulkAll ds ≤ 1048576)
def OpenSpec.upto (s : _root_.Go.ChangeSpec) : _root_.Go.OpenSpec := { _root_.Go.OpenSpec.ofChange s with cond := some uptoSmall }

/-- 'quillpresslaw03.DigestCuts', WHERE WHAT IT READS IS OF BULK AT MOST 1048576: true; the input reads as it did. -/
def digestCutsUptoRow : OpenClaim := { program := "ytbnhjhdbjffnkab", sum := "15b666d26ee13e703f96b3da75c633c9380b5a57a2daf393f6ff52f9d317cbb9", func := "quillpress/quillpresslaw03.DigestCuts", spec := "digestCuts", inPlace := ["math/bits.Add64"], apart := false, narrowed := true }
def DigestCutsUptoSaid : Prop := digestCutsUptoRow.holds Try.pinned (OpenSpec.upto digestCutsSpec)

/-- 'quillpresslaw03.DigestTells', WHERE WHAT IT READS IS OF BULK AT MOST 1048576: true; the input reads as it did. -/
def digestTellsUptoRow : OpenClaim := { program := "ytbnhjhdbjffnkab", sum := "15b666d26ee13e703f96b3da75c633c9380b5a57a2daf393f6ff52f9d317cbb9", func := "quillpress/quillpresslaw03.DigestTells", spec := "digestTells", inPlace := ["math/bits.Add64"], apart := false, narrowed := true }
def DigestTellsUptoSaid : Prop := digestTellsUptoRow.holds Try.pinned (OpenSpec.upto digestTellsSpec)

/-- 'quillpresslaw04.DeriveNumbers', WHERE WHAT IT READS IS OF BULK AT MOST 1048576: true; the input reads as it did. -/
def deriveNumbersUptoRow : OpenClaim := { program := "ytbnhjhdbjffnkab", sum := "15b666d26ee13e703f96b3da75c633c9380b5a57a2daf393f6ff52f9d317cbb9", func := "quillpress/quillpresslaw04.DeriveNumbers", spec := "deriveNumbers", inPlace := ["math/bits.Add64"], unfollowed := true, recurses := true, apart := false, narrowed := true }
def DeriveNumbersUptoSaid : Prop := deriveNumbersUptoRow.holds Try.pinned (OpenSpec.upto deriveNumbersSpec)

/-- 'quillpresslaw04.DeriveTells', WHERE WHAT IT READS IS OF BULK AT MOST 1048576: true; the input reads as it did. -/
def deriveTellsUptoRow : OpenClaim := { program := "ytbnhjhdbjffnkab", sum := "15b666d26ee13e703f96b3da75c633c9380b5a57a2daf393f6ff52f9d317cbb9", func := "quillpress/quillpresslaw04.DeriveTells", spec := "deriveTells", inPlace := ["math/bits.Add64"], unfollowed := true, recurses := true, apart := false, narrowed := true }
def DeriveTellsUptoSaid : Prop := deriveTellsUptoRow.holds Try.pinned (OpenSpec.upto deriveTellsSpec)

/-- 'quillpresslaw04.DeriveBegins', WHERE WHAT IT READS IS OF BULK AT MOST 1048576: true; the input reads as it did. -/
def deriveBeginsUptoRow : OpenClaim := { program := "ytbnhjhdbjffnkab", sum := "15b666d26ee13e703f96b3da75c633c9380b5a57a2daf393f6ff52f9d317cbb9", func := "quillpress/quillpresslaw04.DeriveBegins", spec := "deriveBegins", inPlace := ["math/bits.Add64"], unfollowed := true, recurses := true, apart := false, narrowed := true }
def DeriveBeginsUptoSaid : Prop := deriveBeginsUptoRow.holds Try.pinned (OpenSpec.upto deriveBeginsSpec)

end Rows
end Go.Proofs.Ytbnhjhdbjffnkab
