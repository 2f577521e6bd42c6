/-
  THE WALKS OF THE AES CHAPTER: Decrypt. Conditions: the pointer leads to a cipher, the slice to sixteen bytes.
-/
import Derived.Test.YtbnhjhdbjffnkaaAesW5
namespace Go.Proofs.Ytbnhjhdbjffnkaa
open Go.RowKit
set_option linter.unusedSimpArgs false
set_option linter.unusedVariables false

def decX (kb : Nat → Nat) (r : Nat) (s : Nat → Nat) (i : Nat) : Nat := s i ^^^ kb (r * 16 + i)
def decM (kb : Nat → Nat) (r : Nat) (s : Nat → Nat) (i : Nat) : Nat := if r < 14 then mixF (decX kb r s) 14 11 13 9 i else decX kb r s i
def decS (kb : Nat → Nat) (r : Nat) (s : Nat → Nat) (i : Nat) : Nat := bk (decM kb r s (pd i))
def decN (kb s : Nat → Nat) : Nat → Nat → Nat
  | 0 => s
  | n + 1 => decS kb (14 - n) (decN kb s n)
theorem decX_lt {kb s : Nat → Nat} {r : Nat} (hk : ∀ i, i < 240 → kb i < 256) (hs : ∀ i, i < 16 → s i < 256) (hr : r ≤ 14) {i : Nat} (hi : i < 16) : decX kb r s i < 256 := xor_lt8 (hs i hi) (hk _ (by omega))
theorem decM_lt {kb s : Nat → Nat} {r : Nat} (hk : ∀ i, i < 240 → kb i < 256) (hs : ∀ i, i < 16 → s i < 256) (hr : r ≤ 14) {i : Nat} (hi : i < 16) : decM kb r s i < 256 := by
  unfold decM
  split
  · exact mixF_lt _ _ _ _ (fun i hi => decX_lt hk hs hr hi) hi
  · exact decX_lt hk hs hr hi
theorem decN_lt {kb s : Nat → Nat} (hk : ∀ i, i < 240 → kb i < 256) (hs : ∀ i, i < 16 → s i < 256) : ∀ n, n ≤ 14 → ∀ i, i < 16 → decN kb s n i < 256
  | 0, _, i, hi => hs i hi
  | n + 1, hn, i, hi => bk_lt (decM_lt hk (decN_lt hk hs n (by omega)) (by omega) (pd_lt i))

set_option maxRecDepth 100000 in
set_option maxHeartbeats 2000000 in
theorem decrypt_any (g gb ob cap : Nat) (kb s : Nat → Nat) (w : World) (hc : Cph w g kb) (hkb : ∀ i, i < 240 → kb i < 256) (hs : ∀ i, i < 16 → s i < 256)
    (hb : ∀ i, i < 16 → w.cell? ⟨gb, ob + i, none⟩ = some (.int .u8 (s i : Nat))) :
    Calls Try.prog 22 #[.pointer (some ⟨g, 0, none⟩), .slice (some ⟨gb, ob, none⟩) 16 cap] w fun e w' =>
      e = .returned (.tuple #[.slice (some ⟨w.heap.size, 0, none⟩) 16 16, .int .i64 0]) ∧ w'.rowIs w.heap.size 40 16 (fun i => .int .u8 (decN kb s 14 i ^^^ kb i : Nat)) ∧ Below w.heap.size w w' := by
  have hm := hc.mark
  have hat := fun W : World => run_arrayAt (P := Try.prog) (w := W) 40 5 16 (some ⟨gb, ob, none⟩) 16 cap Try.underlying40 (Nat.le_refl _)
  obtain ⟨cs, hcs, hce⟩ := bytes_arr 16 s
  have HB := Lib.hid (bytes_range hcs hce hb)
  have HS := Lib.hid hcs
  have HE := Lib.hid hce
  clear hcs hce
  have HC := Lib.hid hc
  clear hb hc
  go_enter Try.func22, Try.ntmps22
  go_wp2_with (first
    | (go_at_call 36; refine (may_ok g cap _ _ hm).mono ?_; rintro e w' ⟨rfl, rfl⟩)
    | (refine wpList_load_mid rfl 40 (.tmp 16) rfl gb ob rfl _ _ HB.out Try.underlying40 rfl (by rw [Array.length_toList, HS.out]; exact size16) ?_)
    | (refine wpList_store_new 40 (.tmp 7) (.tmp 17) rfl rfl _ cs rfl rfl (by rw [HS.out]; exact size16) (by rw [HS.out]; rfl) (bytes_oneCell HS.out HE.out) ?_))
  have hc1 : Cph (w.alloc (.cells cs 40)) g kb := World.rowIs.alloc HC.out _
  have hgl := HC.out.lt
  have hr1 := row_of_bytes w 40 16 s HS.out HE.out
  have hb1 := (Below.refl w.heap.size w).alloc (Nat.le_refl _) (.cells cs 40)
  have hz1 : w.heap.size < (w.alloc (.cells cs 40)).heap.size := by simp
  generalize w.alloc (.cells cs 40) = W1 at *
  have HR2 := Lib.hid hr1
  have HC2 := Lib.hid hc1
  have HB2 := Lib.hid hb1
  clear hr1 hc1 hb1 HB HS HE hat hm
  go_loopw [8] (fun i wr => ∃ k : Nat, k ≤ 14 ∧ i = .int .i64 (14 - k : Nat) ∧ wr.rowIs w.heap.size 40 16 (fun i => .int .u8 (decN kb s k i : Nat)) ∧ Cph wr g kb ∧ Below w.heap.size w wr ∧ w.heap.size < wr.heap.size) (fun i _ => (intOf i).toNat)
  case atStart => exact ⟨0, by omega, rfl, HR2.out, HC2.out, HB2.out, hz1⟩
  case round =>
    clear HR2 HC2 HB2 hz1
    obtain ⟨k, hk, rfl, hr, hc, hbw, hz⟩ := hrel
    by_cases e0 : k < 14
    · have hlt := decN_lt hkb hs k hk
      obtain ⟨r, hr14⟩ : ∃ r, r = 14 - k := ⟨_, rfl⟩
      rw [← hr14]
      have hr1 : 1 ≤ r := by omega
      have hr2 : r ≤ 14 := by omega
      have HRK := Lib.hid hr14
      have HE := Lib.hid hlt
      have HR := Lib.hid hr
      have HCr := Lib.hid hc
      have HBr := Lib.hid hbw
      clear hr hc hbw hlt hr14
      go_wp2_with fail
      refine (xor_int g w.heap.size r (decN kb s k) (fun i => kb (r * 16 + i)) wr _ (by omega) (by omega) (by omega) HE.out (fun i hi => hkb _ (by omega)) HR.out HCr.out.lt (fun j hj => HCr.out.keyT (by omega) hj)).mono ?_
      rintro e w3 ⟨rfl, hr3, hg3⟩
      have hc3 := HCr.out.grown hg3 (by omega)
      have hb3 := below_of_grown HBr.out hg3 (by omega) (Nat.le_refl _)
      have hz3 : w.heap.size < w3.heap.size := Nat.lt_of_lt_of_le hz hg3.size
      have HR3 : Hid (w3.rowIs w.heap.size 40 16 (fun i => .int .u8 (decX kb r (decN kb s k) i : Nat))) := hr3
      have HC3 := Lib.hid hc3
      have HB3 := Lib.hid hb3
      clear HR HCr HBr hr3 hc3 hb3 hg3
      by_cases e1 : r < 14
      · go_wp2_with fail
        refine (mixed_any w.heap.size 14 11 13 9 (decX kb r (decN kb s k)) w3 (fun i hi => decX_lt hkb HE.out hr2 hi) (by omega) (by omega) (by omega) (by omega) HR3.out).mono ?_
        rintro e w4 ⟨rfl, hr4, hg4⟩
        have hc4 := HC3.out.grown hg4 (by omega)
        have hb4 := below_of_grown HB3.out hg4 (by omega) (Nat.le_refl _)
        have hz4 : w.heap.size < w4.heap.size := Nat.lt_of_lt_of_le hz3 hg4.size
        have HR4 : Hid (w4.rowIs w.heap.size 40 16 (fun i => .int .u8 (decM kb r (decN kb s k) i : Nat))) := hr4.congr (fun i hi => by unfold decM; rw [if_pos e1])
        have HC4 := Lib.hid hc4
        have HB4 := Lib.hid hb4
        clear HR3 HC3 HB3 hr4 hc4 hb4 hg4
        go_wp2_with fail
        refine (moved_dec g w.heap.size 257 (decM kb r (decN kb s k)) bk w4 (by omega) (fun i hi => decM_lt hkb HE.out hr2 hi) (fun i hi => bk_lt hi) HR4.out HC4.out.lt (fun j hj => HC4.out.backT hj)).mono ?_
        rintro e w5 ⟨rfl, hr5, hg5⟩
        have hc5 := HC4.out.grown hg5 (by omega)
        have hb5 := below_of_grown HB4.out hg5 (by omega) (Nat.le_refl _)
        have hz5 : w.heap.size < w5.heap.size := Nat.lt_of_lt_of_le hz4 hg5.size
        have HR5 : Hid (w5.rowIs w.heap.size 40 16 (fun i => .int .u8 (decN kb s (k + 1) i : Nat))) := hr5.congr (fun i hi => by
          show _ = Value.int .u8 (decS kb (14 - k) (decN kb s k) i : Nat)
          rw [← HRK.out]
          rfl)
        have HC5 := Lib.hid hc5
        have HB5 := Lib.hid hb5
        clear HR4 HC4 HB4 hr5 hc5 hb5 hg5
        go_wp2_with fail
        go_roundw
        case rel => exact ⟨k + 1, by omega, (by have := HRK.out; go_num), HR5.out, HC5.out, HB5.out, hz5⟩
        case measure => simp [intOf]; omega
      · go_wp2_with fail
        have HR4 : Hid (w3.rowIs w.heap.size 40 16 (fun i => .int .u8 (decM kb r (decN kb s k) i : Nat))) := HR3.out.congr (fun i hi => by unfold decM; rw [if_neg e1])
        refine (moved_dec g w.heap.size 257 (decM kb r (decN kb s k)) bk w3 (by omega) (fun i hi => decM_lt hkb HE.out hr2 hi) (fun i hi => bk_lt hi) HR4.out HC3.out.lt (fun j hj => HC3.out.backT hj)).mono ?_
        rintro e w5 ⟨rfl, hr5, hg5⟩
        have hc5 := HC3.out.grown hg5 (by omega)
        have hb5 := below_of_grown HB3.out hg5 (by omega) (Nat.le_refl _)
        have hz5 : w.heap.size < w5.heap.size := Nat.lt_of_lt_of_le hz3 hg5.size
        have HR5 : Hid (w5.rowIs w.heap.size 40 16 (fun i => .int .u8 (decN kb s (k + 1) i : Nat))) := hr5.congr (fun i hi => by
          show _ = Value.int .u8 (decS kb (14 - k) (decN kb s k) i : Nat)
          rw [← HRK.out]
          rfl)
        have HC5 := Lib.hid hc5
        have HB5 := Lib.hid hb5
        clear HR3 HC3 HB3 HR4 hr5 hc5 hb5 hg5
        go_wp2_with fail
        go_roundw
        case rel => exact ⟨k + 1, by omega, (by have := HRK.out; go_num), HR5.out, HC5.out, HB5.out, hz5⟩
        case measure => simp [intOf]; omega
    · obtain rfl : k = 14 := by omega
      have HR := Lib.hid hr
      have HCr := Lib.hid hc
      have HBr := Lib.hid hbw
      have hlt := decN_lt hkb hs 14 (Nat.le_refl _)
      have HE := Lib.hid hlt
      clear hr hc hbw hlt
      go_wp2_with fail
      refine (xor_int g w.heap.size 0 (decN kb s 14) kb wr 0 rfl (by omega) (by omega) HE.out (fun i hi => hkb i (by omega)) HR.out HCr.out.lt (fun j hj => by simpa using HCr.out.keyT (r := 0) (by omega) hj)).mono ?_
      rintro e w3 ⟨rfl, hr3, hg3⟩
      have hb3 := below_of_grown HBr.out hg3 (by omega) (Nat.le_refl _)
      have HR3 := Lib.hid hr3
      have HB3 := Lib.hid hb3
      clear HR HCr HBr hr3 hb3 hg3
      go_wp2_with fail
      go_ret2
      exact ⟨rfl, HR3.out, HB3.out⟩
end Go.Proofs.Ytbnhjhdbjffnkaa
