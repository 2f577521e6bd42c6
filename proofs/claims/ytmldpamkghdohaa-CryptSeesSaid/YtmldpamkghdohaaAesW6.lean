/-
  THE WALKS OF THE AES CHAPTER: Decrypt. Conditions: the pointer leads to a cipher, the slice to sixteen bytes.
-/
import Derived.Test.YtmldpamkghdohaaAesW5
namespace Go.Proofs.Ytmldpamkghdohaa
open Go.RowKit
set_option linter.unusedSimpArgs false
set_option linter.unusedVariables false

def decX (kb : Nat → Nat) (r : Nat) (s : Nat → Nat) (i : Nat) : Nat := s i ^^^ kb (r * 16 + i)
def decM (kb : Nat → Nat) (r : Nat) (s : Nat → Nat) (i : Nat) : Nat := if r < 14 then mixF (decX kb r s) 14 11 13 9 i else decX kb r s i
def decS (kb : Nat → Nat) (r : Nat) (s : Nat → Nat) (i : Nat) : Nat := bk (decM kb r s (pd i))
def decN (kb s : Nat → Nat) : Nat → Nat → Nat
  | 0 => s
  | n + 1 => decS kb (14 - n) (decN kb s n)
theorem decX_lt {kb s : Nat → Nat} {r : Nat} (hk : ∀ i, i < 240 → kb i < 256) (hs : ∀ i, i < 16 → s i < 256) (hr : r ≤ 14) {i : Nat} (hi : i < 16) : decX kb r s i < 256 := xor_lt8 (hs i hi) (hk _ (by omega))
theorem decM_lt {kb s : Nat → Nat} {r : Nat} (hk : ∀ i, i < 240 → kb i < 256) (hs : ∀ i, i < 16 → s i < 256) (hr : r ≤ 14) {i : Nat} (hi : i < 16) : decM kb r s i < 256 := by
  unfold decM
  split
  · exact mixF_lt _ _ _ _ (fun i hi => decX_lt hk hs hr hi) hi
  · exact decX_lt hk hs hr hi
theorem decN_lt {kb s : Nat → Nat} (hk : ∀ i, i < 240 → kb i < 256) (hs : ∀ i, i < 16 → s i < 256) : ∀ n, n ≤ 14 → ∀ i, i < 16 → decN kb s n i < 256
  | 0, _, i, hi => hs i hi
  | n + 1, hn, i, hi => bk_lt (decM_lt hk (decN_lt hk hs n (by omega)) (by omega) (pd_lt i))

end Go.Proofs.Ytmldpamkghdohaa
