/-
  No cell of these rows narrows 'for every input' (looked for: loops, veiled, ifaces, maps, wideKeys, modest, calm, conditions, laid).
  DERIVED. THE GIVEN ROWS OF THIS SEAT. 6 by the template 'for every input the law returns true; each argument reads behind the call as it read before'; 0 by the template 'total and deterministic' (their statements: YtbnhjhdbjffnkaaTotals.lean).
  GIVEN WITH THE SEED: the statements are not yours to turn. If you find one false, say at which input.
  Laid BY PROGRAM, IN A SANDBOX (cutbox-rows.mjs): the forced cells as the released guide's own fill.sh prints them over the translation 6ca209d8baf68207… (all of the seat's roots in one cut). By AI agents, Wed Nov 11 2026. No macro, syntax, notation, axiom, sorry.
-/
import Derived.Test.YtbnhjhdbjffnkaaChecked
import GoSem.Claim
import GoSem.ClaimJoined
import GoSem.ClaimMapViews
import Derived.JoinedTies
import Derived.KernelRfl
namespace Go.Proofs.Ytbnhjhdbjffnkaa
/- THE CELL 'sum', in the pinned program and in every row, IS THE sha256 OF THE DUMP (.gsa) THAT YtbnhjhdbjffnkaaProg.lean LOADS. Nothing in Lean hashes anything: it is a label: what it is worth is what the hold of that sum in a sandbox is worth. -/
noncomputable def Try.pinned : Pinned := { name := "ytbnhjhdbjffnkaa", sum := "6ca209d8baf68207878e78a44efc40a1e41d75abab836253c2abe2714280691c", checked := Try.checked }
namespace Rows
def none {H : Type} : Left H := { results := [], args := [] }

/-- 'quillpresslaw05.AesTells': WHATEVER THE INPUT: true; the input reads as it did. -/
def aesTellsSpec : ChangeSpec := { name := "aesTells", fn := fun _ => fun
  | [d1, d2, d3, d4] => { results := [.lit (.bool true)], args := [d1, d2, d3, d4] }
  | _ => none }
def aesTellsRow : OpenClaim := { program := "ytbnhjhdbjffnkaa", sum := "6ca209d8baf68207878e78a44efc40a1e41d75abab836253c2abe2714280691c", func := "quillpress/quillpresslaw05.AesTells", spec := "aesTells", unfollowed := true, recurses := true, apart := false }
def AesTellsSaid : Prop := aesTellsRow.holds Try.pinned (OpenSpec.ofChange aesTellsSpec)

/-- ITS FALSE NEIGHBOUR: 'it returns false'. Refute it at one input. -/
def aesTellsWrong : ChangeSpec := { name := "aesTells", fn := fun _ => fun
  | [d1, d2, d3, d4] => { results := [.lit (.bool false)], args := [d1, d2, d3, d4] }
  | _ => none }
def AesTellsWrongFalsely : Prop := aesTellsRow.holds Try.pinned (OpenSpec.ofChange aesTellsWrong)

/-- 'quillpresslaw05.AesField': WHATEVER THE INPUT: true; the input reads as it did. -/
def aesFieldSpec : ChangeSpec := { name := "aesField", fn := fun _ => fun
  | [d1, d2, d3] => { results := [.lit (.bool true)], args := [d1, d2, d3] }
  | _ => none }
def aesFieldRow : OpenClaim := { program := "ytbnhjhdbjffnkaa", sum := "6ca209d8baf68207878e78a44efc40a1e41d75abab836253c2abe2714280691c", func := "quillpress/quillpresslaw05.AesField", spec := "aesField", unfollowed := true, recurses := true, apart := false }
def AesFieldSaid : Prop := aesFieldRow.holds Try.pinned (OpenSpec.ofChange aesFieldSpec)

/-- ITS FALSE NEIGHBOUR: 'it returns false'. Refute it at one input. -/
def aesFieldWrong : ChangeSpec := { name := "aesField", fn := fun _ => fun
  | [d1, d2, d3] => { results := [.lit (.bool false)], args := [d1, d2, d3] }
  | _ => none }
def AesFieldWrongFalsely : Prop := aesFieldRow.holds Try.pinned (OpenSpec.ofChange aesFieldWrong)

/-- 'quillpresslaw05.AesNumbers': WHATEVER THE INPUT: true; the input reads as it did. -/
def aesNumbersSpec : ChangeSpec := { name := "aesNumbers", fn := fun _ => fun
  | [] => { results := [.lit (.bool true)], args := [] }
  | _ => none }
def aesNumbersRow : OpenClaim := { program := "ytbnhjhdbjffnkaa", sum := "6ca209d8baf68207878e78a44efc40a1e41d75abab836253c2abe2714280691c", func := "quillpress/quillpresslaw05.AesNumbers", spec := "aesNumbers", unfollowed := true, recurses := true, apart := false }
def AesNumbersSaid : Prop := aesNumbersRow.holds Try.pinned (OpenSpec.ofChange aesNumbersSpec)

/-- ITS FALSE NEIGHBOUR: 'it returns false'. Refute it at one input. -/
def aesNumbersWrong : ChangeSpec := { name := "aesNumbers", fn := fun _ => fun
  | [] => { results := [.lit (.bool false)], args := [] }
  | _ => none }
def AesNumbersWrongFalsely : Prop := aesNumbersRow.holds Try.pinned (OpenSpec.ofChange aesNumbersWrong)

/-- 'quillpresslaw05.AesBack': WHATEVER THE INPUT: true; the input reads as it did. -/
def aesBackSpec : ChangeSpec := { name := "aesBack", fn := fun _ => fun
  | [d1, d2, d3] => { results := [.lit (.bool true)], args := [d1, d2, d3] }
  | _ => none }
def aesBackRow : OpenClaim := { program := "ytbnhjhdbjffnkaa", sum := "6ca209d8baf68207878e78a44efc40a1e41d75abab836253c2abe2714280691c", func := "quillpress/quillpresslaw05.AesBack", spec := "aesBack", unfollowed := true, recurses := true, apart := false }
def AesBackSaid : Prop := aesBackRow.holds Try.pinned (OpenSpec.ofChange aesBackSpec)

/-- ITS FALSE NEIGHBOUR: 'it returns false'. Refute it at one input. -/
def aesBackWrong : ChangeSpec := { name := "aesBack", fn := fun _ => fun
  | [d1, d2, d3] => { results := [.lit (.bool false)], args := [d1, d2, d3] }
  | _ => none }
def AesBackWrongFalsely : Prop := aesBackRow.holds Try.pinned (OpenSpec.ofChange aesBackWrong)

/-- 'quillpresslaw03.DigestNumbers': WHATEVER THE INPUT: true; the input reads as it did. -/
def digestNumbersSpec : ChangeSpec := { name := "digestNumbers", fn := fun _ => fun
  | [] => { results := [.lit (.bool true)], args := [] }
  | _ => none }
def digestNumbersRow : OpenClaim := { program := "ytbnhjhdbjffnkaa", sum := "6ca209d8baf68207878e78a44efc40a1e41d75abab836253c2abe2714280691c", func := "quillpress/quillpresslaw03.DigestNumbers", spec := "digestNumbers", inPlace := ["math/bits.Add64"], apart := false }
def DigestNumbersSaid : Prop := digestNumbersRow.holds Try.pinned (OpenSpec.ofChange digestNumbersSpec)

/-- ITS FALSE NEIGHBOUR: 'it returns false'. Refute it at one input. -/
def digestNumbersWrong : ChangeSpec := { name := "digestNumbers", fn := fun _ => fun
  | [] => { results := [.lit (.bool false)], args := [] }
  | _ => none }
def DigestNumbersWrongFalsely : Prop := digestNumbersRow.holds Try.pinned (OpenSpec.ofChange digestNumbersWrong)

/-- 'quillpresslaw03.DigestNone': WHATEVER THE INPUT: true; the input reads as it did. -/
def digestNoneSpec : ChangeSpec := { name := "digestNone", fn := fun _ => fun
  | [d] => { results := [.lit (.bool true)], args := [d] }
  | _ => none }
def digestNoneRow : OpenClaim := { program := "ytbnhjhdbjffnkaa", sum := "6ca209d8baf68207878e78a44efc40a1e41d75abab836253c2abe2714280691c", func := "quillpress/quillpresslaw03.DigestNone", spec := "digestNone", inPlace := ["math/bits.Add64"], apart := false }
def DigestNoneSaid : Prop := digestNoneRow.holds Try.pinned (OpenSpec.ofChange digestNoneSpec)

/-- ITS FALSE NEIGHBOUR: 'it returns false'. Refute it at one input. -/
def digestNoneWrong : ChangeSpec := { name := "digestNone", fn := fun _ => fun
  | [d] => { results := [.lit (.bool false)], args := [d] }
  | _ => none }
def DigestNoneWrongFalsely : Prop := digestNoneRow.holds Try.pinned (OpenSpec.ofChange digestNoneWrong)

/- THE SECOND FORM. 'bulk': how many values and letters a reading holds, each counted each time it is reached (what is shared counts as often as it is met; a slice's spare places count too). A statement '..UptoSaid' is the law's where the arguments, and the package variables that the reading takes, are together of bulk at most 1048576: NARROWER than '..Said'. Prove '..Said' where nothing that the law and all that it calls make is longer than what came in: it says more and counts as full. Else prove '..UptoSaid'. A law counts once. -/
mutual
def uptoBulk {H : Type} : DataW H → Nat
  | .lit (.string bytes) => bytes.length + 1
  | .lit _ => 1
  | .nil => 1
  | .ptr d => uptoBulk d + 1
  | .slice elems spare => uptoBulkAll elems + uptoBulkAll spare + 1
  | .agg parts => uptoBulkAll parts + 1
  | .iface _ d => uptoBulk d + 1
  | .map entries => uptoBulkEntries entries + 1
  | .held _ => 1
def uptoBulkAll {H : Type} : List (DataW H) → Nat
  | [] => 0
  | d :: r => uptoBulk d + uptoBulkAll r
def uptoBulkEntries {H : Type} : List (Lit × DataW H) → Nat
  | [] => 0
  | x :: r => uptoBulkEntry x + uptoBulkEntries r
def uptoBulkEntry {H : Type} : Lit × DataW H → Nat
  | (.string bytes, d) => bytes.length + uptoBulk d + 1
  | (_, d) => uptoBulk d + 1
 end
def uptoSmall : (H : Type) → List (DataW H) → Bool := fun _ ds => decide (uptoBulkAll ds ≤ 1048576)
def OpenSpec.upto (s : _root_.Go.ChangeSpec) : _root_.Go.OpenSpec := { _root_.Go.OpenSpec.ofChange s with cond := some uptoSmall }

/-- 'quillpresslaw05.AesTells', WHERE WHAT IT READS IS OF BULK AT MOST 1048576: true; the input reads as it did. -/
def aesTellsUptoRow : OpenClaim := { program := "ytbnhjhdbjffnkaa", sum := "6ca209d8baf68207878e78a44efc40a1e41d75abab836253c2abe2714280691c", func := "quillpress/quillpresslaw05.AesTells", spec := "aesTells", unfollowed := true, recurses := true, apart := false, narrowed := true }
def AesTellsUptoSaid : Prop := aesTellsUptoRow.holds Try.pinned (OpenSpec.upto aesTellsSpec)

/-- 'quillpresslaw05.AesField', WHERE WHAT IT READS IS OF BULK AT MOST 1048576: true; the input reads as it did. -/
def aesFieldUptoRow : OpenClaim := { program := "ytbnhjhdbjffnkaa", sum := "6ca209d8baf68207878e78a44efc40a1e41d75abab836253c2abe2714280691c", func := "quillpress/quillpresslaw05.AesField", spec := "aesField", unfollowed := true, recurses := true, apart := false, narrowed := true }
def AesFieldUptoSaid : Prop := aesFieldUptoRow.holds Try.pinned (OpenSpec.upto aesFieldSpec)

/-- 'quillpresslaw05.AesNumbers', WHERE WHAT IT READS IS OF BULK AT MOST 1048576: true; the input reads as it did. -/
def aesNumbersUptoRow : OpenClaim := { program := "ytbnhjhdbjffnkaa", sum := "6ca209d8baf68207878e78a44efc40a1e41d75abab836253c2abe2714280691c", func := "quillpress/quillpresslaw05.AesNumbers", spec := "aesNumbers", unfollowed := true, recurses := true, apart := false, narrowed := true }
def AesNumbersUptoSaid : Prop := aesNumbersUptoRow.holds Try.pinned (OpenSpec.upto aesNumbersSpec)

/-- 'quillpresslaw05.AesBack', WHERE WHAT IT READS IS OF BULK AT MOST 1048576: true; the input reads as it did. -/
def aesBackUptoRow : OpenClaim := { program := "ytbnhjhdbjffnkaa", sum := "6ca209d8baf68207878e78a44efc40a1e41d75abab836253c2abe2714280691c", func := "quillpress/quillpresslaw05.AesBack", spec := "aesBack", unfollowed := true, recurses := true, apart := false, narrowed := true }
def AesBackUptoSaid : Prop := aesBackUptoRow.holds Try.pinned (OpenSpec.upto aesBackSpec)

/-- 'quillpresslaw03.DigestNumbers', WHERE WHAT IT READS IS OF BULK AT MOST 1048576: true; the input reads as it did. -/
def digestNumbersUptoRow : OpenClaim := { program := "ytbnhjhdbjffnkaa", sum := "6ca209d8baf68207878e78a44efc40a1e41d75abab836253c2abe2714280691c", func := "quillpress/quillpresslaw03.DigestNumbers", spec := "digestNumbers", inPlace := ["math/bits.Add64"], apart := false, narrowed := true }
def DigestNumbersUptoSaid : Prop := digestNumbersUptoRow.holds Try.pinned (OpenSpec.upto digestNumbersSpec)

/-- 'quillpresslaw03.DigestNone', WHERE WHAT IT READS IS OF BULK AT MOST 1048576: true; the input reads as it did. -/
def digestNoneUptoRow : OpenClaim := { program := "ytbnhjhdbjffnkaa", sum := "6ca209d8baf68207878e78a44efc40a1e41d75abab836253c2abe2714280691c", func := "quillpress/quillpresslaw03.DigestNone", spec := "digestNone", inPlace := ["math/bits.Add64"], apart := false, narrowed := true }
def DigestNoneUptoSaid : Prop := digestNoneUptoRow.holds Try.pinned (OpenSpec.upto digestNoneSpec)

end Rows
end Go.Proofs.Ytbnhjhdbjffnkaa
