/-
  No cell of these rows narrows 'for every input' (looked for: loops, veiled, ifaces, maps, wideKeys, modest, calm, conditions, laid).
  DERIVED. THE GIVEN ROWS OF THIS SEAT. 3 by the template 'for every input the law returns true; each argument reads behind the call as it read before'; 0 by the template 'total and deterministic' (their statements: YtlhbijpmhokmnaaGreatTotals.lean).
  GIVEN WITH THE SEED: the statements are not yours to turn. If you find one false, say at which input.
  Laid BY PROGRAM, IN A SANDBOX (cutbox-rows.mjs): the forced cells as the released guide's own fill.sh prints them over the translation d9b0e4fa8996d686… (all of the seat's roots in one cut). By AI agents, Wed Nov 11 2026. No macro, syntax, notation, axiom, sorry.
-/
import Derived.Test.YtlhbijpmhokmnaaGreatChecked
import GoSem.Claim
import GoSem.ClaimJoined
import GoSem.ClaimMapViews
import Derived.JoinedTies
import Derived.KernelRfl
namespace Go.Proofs.YtlhbijpmhokmnaaGreat
/- THE CELL 'sum', in the pinned program and in every row, IS THE sha256 OF THE DUMP (.gsa) THAT YtlhbijpmhokmnaaGreatProg.lean LOADS. Nothing in Lean hashes anything: it is a label: what it is worth is what the hold of that sum in a sandbox is worth. -/
noncomputable def Tryz.pinned : Pinned := { name := "ytlhbijpmhokmnaagreat", sum := "d9b0e4fa8996d68679799b9a041df0a4f68620bce588f61fd82fcfe10fe38adf", checked := Tryz.checked }
namespace Rows
def none {H : Type} : Left H := { results := [], args := [] }

/-- 'quillpresslaw29.JournalAny': WHATEVER THE INPUT: true; the input reads as it did. -/
def journalAnySpec : ChangeSpec := { name := "journalAny", fn := fun _ => fun
  | [d1, d2, d3] => { results := [.lit (.bool true)], args := [d1, d2, d3] }
  | _ => none }
def journalAnyRow : OpenClaim := { program := "ytlhbijpmhokmnaagreat", sum := "d9b0e4fa8996d68679799b9a041df0a4f68620bce588f61fd82fcfe10fe38adf", func := "quillpress/quillpresslaw29.JournalAny", spec := "journalAny", inPlace := ["math/bits.Add64"], unfollowed := true, recurses := true, apart := false }
def JournalAnySaid : Prop := journalAnyRow.holds Tryz.pinned (OpenSpec.ofChange journalAnySpec)

/-- ITS FALSE NEIGHBOUR: 'it returns false'. Refute it at one input. -/
def journalAnyWrong : ChangeSpec := { name := "journalAny", fn := fun _ => fun
  | [d1, d2, d3] => { results := [.lit (.bool false)], args := [d1, d2, d3] }
  | _ => none }
def JournalAnyWrongFalsely : Prop := journalAnyRow.holds Tryz.pinned (OpenSpec.ofChange journalAnyWrong)

/-- 'quillpresslaw29.JournalNumbers': WHATEVER THE INPUT: true; the input reads as it did. -/
def journalNumbersSpec : ChangeSpec := { name := "journalNumbers", fn := fun _ => fun
  | [] => { results := [.lit (.bool true)], args := [] }
  | _ => none }
def journalNumbersRow : OpenClaim := { program := "ytlhbijpmhokmnaagreat", sum := "d9b0e4fa8996d68679799b9a041df0a4f68620bce588f61fd82fcfe10fe38adf", func := "quillpress/quillpresslaw29.JournalNumbers", spec := "journalNumbers", inPlace := ["math/bits.Add64"], unfollowed := true, recurses := true, apart := false }
def JournalNumbersSaid : Prop := journalNumbersRow.holds Tryz.pinned (OpenSpec.ofChange journalNumbersSpec)

/-- ITS FALSE NEIGHBOUR: 'it returns false'. Refute it at one input. -/
def journalNumbersWrong : ChangeSpec := { name := "journalNumbers", fn := fun _ => fun
  | [] => { results := [.lit (.bool false)], args := [] }
  | _ => none }
def JournalNumbersWrongFalsely : Prop := journalNumbersRow.holds Tryz.pinned (OpenSpec.ofChange journalNumbersWrong)

/-- 'quillpresslaw29.JournalKept': WHATEVER THE INPUT: true; the input reads as it did. -/
def journalKeptSpec : ChangeSpec := { name := "journalKept", fn := fun _ => fun
  | [d1, d2] => { results := [.lit (.bool true)], args := [d1, d2] }
  | _ => none }
def journalKeptRow : OpenClaim := { program := "ytlhbijpmhokmnaagreat", sum := "d9b0e4fa8996d68679799b9a041df0a4f68620bce588f61fd82fcfe10fe38adf", func := "quillpress/quillpresslaw29.JournalKept", spec := "journalKept", inPlace := ["math/bits.Add64"], unfollowed := true, recurses := true, apart := false }
def JournalKeptSaid : Prop := journalKeptRow.holds Tryz.pinned (OpenSpec.ofChange journalKeptSpec)

/-- ITS FALSE NEIGHBOUR: 'it returns false'. Refute it at one input. -/
def journalKeptWrong : ChangeSpec := { name := "journalKept", fn := fun _ => fun
  | [d1, d2] => { results := [.lit (.bool false)], args := [d1, d2] }
  | _ => none }
def JournalKeptWrongFalsely : Prop := journalKeptRow.holds Tryz.pinned (OpenSpec.ofChange journalKeptWrong)

/- THE SECOND FORM. 'bulk': how many values and letters a reading holds, each counted each time it is reached (what is shared counts as often as it is met; a slice's spare places count too). A statement '..UptoSaid' is the law's where the arguments, and the package variables that the reading takes, are together of bulk at most 1048576: NARROWER than '..Said'. Prove '..Said' where nothing that the law and all that it calls make is longer than what came in: it says more and counts as full. Else prove '..UptoSaid'. A law counts once. -/
mutual
def uptoBulk {H : Type} : DataW H → Nat
  | .lit (.string bytes) => bytes.length + 1
  | .lit _ => 1
  | .nil => 1
  | .ptr d => uptoBulk d + 1
  | .slice elems spare => uptoBulkAll elems + uptoBulkAll spare + 1
  | .agg parts => uptoBulkAll parts + 1
  | .iface _ d => uptoBulk d + 1
  | .map entries => uptoBulkEntries entries + 1
  | .held _ => 1
def uptoBulkAll {H : Type} : List (DataW H) → Nat
  | [] => 0
  | d :: r => uptoBulk d + uptoBulkAll r
def uptoBulkEntries {H : Type} : List (Lit × DataW H) → Nat
  | [] => 0
  | x :: r => uptoBulkEntry x + uptoBulkEntries r
def uptoBulkEntry {H : Type} : Lit × DataW H → Nat
  | (.string bytes, d) => bytes.length + uptoBulk d + 1
  | (_, d) => uptoBulk d + 1
 end
def uptoSmall : (H : Type) → List (DataW H) → Bool := fun _ ds => decide (uptoBulkAll ds ≤ 1048576)
def OpenSpec.upto (s : _root_.Go.ChangeSpec) : _root_.Go.OpenSpec := { _root_.Go.OpenSpec.ofChange s with cond := some uptoSmall }

/-- 'quillpresslaw29.JournalAny', WHERE WHAT IT READS IS OF BULK AT MOST 1048576: true; the input reads as it did. -/
def journalAnyUptoRow : OpenClaim := { program := "ytlhbijpmhokmnaagreat", sum := "d9b0e4fa8996d68679799b9a041df0a4f68620bce588f61fd82fcfe10fe38adf", func := "quillpress/quillpresslaw29.JournalAny", spec := "journalAny", inPlace := ["math/bits.Add64"], unfollowed := true, recurses := true, apart := false, narrowed := true }
def JournalAnyUptoSaid : Prop := journalAnyUptoRow.holds Tryz.pinned (OpenSpec.upto journalAnySpec)

/-- 'quillpresslaw29.JournalNumbers', WHERE WHAT IT READS IS OF BULK AT MOST 1048576: true; the input reads as it did. -/
def journalNumbersUptoRow : OpenClaim := { program := "ytlhbijpmhokmnaagreat", sum := "d9b0e4fa8996d68679799b9a041df0a4f68620bce588f61fd82fcfe10fe38adf", func := "quillpress/quillpresslaw29.JournalNumbers", spec := "journalNumbers", inPlace := ["math/bits.Add64"], unfollowed := true, recurses := true, apart := false, narrowed := true }
def JournalNumbersUptoSaid : Prop := journalNumbersUptoRow.holds Tryz.pinned (OpenSpec.upto journalNumbersSpec)

/-- 'quillpresslaw29.JournalKept', WHERE WHAT IT READS IS OF BULK AT MOST 1048576: true; the input reads as it did. -/
def journalKeptUptoRow : OpenClaim := { program := "ytlhbijpmhokmnaagreat", sum := "d9b0e4fa8996d68679799b9a041df0a4f68620bce588f61fd82fcfe10fe38adf", func := "quillpress/quillpresslaw29.JournalKept", spec := "journalKept", inPlace := ["math/bits.Add64"], unfollowed := true, recurses := true, apart := false, narrowed := true }
def JournalKeptUptoSaid : Prop := journalKeptUptoRow.holds Tryz.pinned (OpenSpec.upto journalKeptSpec)

end Rows
end Go.Proofs.YtlhbijpmhokmnaaGreat
