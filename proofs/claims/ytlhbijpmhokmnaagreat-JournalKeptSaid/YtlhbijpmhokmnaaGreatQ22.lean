/-
  THE WALKS OF THE AES CHAPTER: Made, may, Encrypt, Decrypt. Conditions: the pointer leads to a cipher, the slice to sixteen bytes.
  THE WALKS OF THE AES CHAPTER: Decrypt. Conditions: the pointer leads to a cipher, the slice to sixteen bytes.
  FOR THE WALK OF aes.New: the block of a cipher while it is filled; the round keys, byte by byte. Conditions: none.
  THE WALKS OF quillpressref05.Table AND OF quillpresslaw05.row. Conditions: none.
-/
import Derived.Test.YtlhbijpmhokmnaaGreatQ21
import Derived.Test.YtlhbijpmhokmnaaGreatQ01
import Derived.Deep.RegionHeld3
import Derived.Test.YtlhbijpmhokmnaaGreatQ11
namespace Go.Proofs.YtlhbijpmhokmnaaGreat
open Go.RowKit
set_option linter.unusedSimpArgs false
set_option linter.unusedVariables false

/-- What lies in a cipher's block: the mark, Sub's table, Back's table, the round keys' bytes. -/
def cphV (kb : Nat → Nat) (j : Nat) : Value :=
  if j = 0 then .bool true else if j < 257 then .int .u8 (sb (j - 1) : Nat) else if j < 513 then .int .u8 (bk (j - 257) : Nat) else .int .u8 (kb (j - 513) : Nat)
def Cph (w : World) (g : Nat) (kb : Nat → Nat) : Prop := w.rowIs g 109 753 (cphV kb)
section
variable {w w' : World} {g : Nat} {kb : Nat → Nat}
theorem Cph.lt (h : Cph w g kb) : g < w.heap.size := World.rowIs.lt h
theorem Cph.mark (h : Cph w g kb) : w.cell? ⟨g, 0, none⟩ = some (.bool true) := World.rowIs.cell h (by omega)
theorem Cph.subT (h : Cph w g kb) {j : Nat} (hj : j < 256) : w.cell? ⟨g, 1 + j, none⟩ = some (.int .u8 (sb j : Nat)) := by
  rw [World.rowIs.cell h (by omega)]
  unfold cphV
  rw [if_neg (by omega), if_pos (by omega), show 1 + j - 1 = j by omega]
theorem Cph.backT (h : Cph w g kb) {j : Nat} (hj : j < 256) : w.cell? ⟨g, 257 + j, none⟩ = some (.int .u8 (bk j : Nat)) := by
  rw [World.rowIs.cell h (by omega)]
  unfold cphV
  rw [if_neg (by omega), if_neg (by omega), if_pos (by omega), show 257 + j - 257 = j by omega]
theorem Cph.keyT (h : Cph w g kb) {r j : Nat} (hr : r < 15) (hj : j < 16) : w.cell? ⟨g, 513 + r * 16 + j, none⟩ = some (.int .u8 (kb (r * 16 + j) : Nat)) := by
  rw [World.rowIs.cell h (by omega)]
  unfold cphV
  rw [if_neg (by omega), if_neg (by omega), if_neg (by omega), show 513 + r * 16 + j - 513 = r * 16 + j by omega]
theorem Cph.below {B : Nat} (h : Cph w g kb) (hb : Below B w w') (hg : g < B) : Cph w' g kb := below_row hb h hg
theorem Cph.grown {g' : Nat} (h : Cph w g kb) (hb : w.grownBy w' (some g')) (hne : g ≠ g') : Cph w' g kb := grown_row hb h hne
end

theorem made_any (g : Nat) (w : World) (b : Bool) (h : w.cell? ⟨g, 0, none⟩ = some (.bool b)) : Calls Tryz.prog 98 #[.pointer (some ⟨g, 0, none⟩)] w fun e w' => e = .returned (.bool b) ∧ w = w' := by
  go_enter Tryz.func98, Tryz.ntmps98
  go_wp2
  go_ret
  exact ⟨rfl, rfl⟩
theorem made_nil (w : World) : Calls Tryz.prog 98 #[.pointer none] w fun e w' => e = .returned (.bool false) ∧ w = w' := by
  go_enter Tryz.func98, Tryz.ntmps98
  go_wp2
  go_ret
  exact ⟨rfl, rfl⟩
theorem may_ok (g c : Nat) (A : Option Addr) (w : World) (h : w.cell? ⟨g, 0, none⟩ = some (.bool true)) : Calls Tryz.prog 109 #[.pointer (some ⟨g, 0, none⟩), .slice A 16 c] w fun e w' => e = .returned (.int .i64 0) ∧ w = w' := by
  go_enter Tryz.func109, Tryz.ntmps109
  go_wp2_with (go_at_call 98; refine (made_any g _ true h).mono ?_; rintro e w' ⟨rfl, rfl⟩)
  go_ret
  exact ⟨rfl, rfl⟩
theorem may_len (g n c : Nat) (A : Option Addr) (w : World) (h : w.cell? ⟨g, 0, none⟩ = some (.bool true)) (hn : n ≠ 16) : Calls Tryz.prog 109 #[.pointer (some ⟨g, 0, none⟩), .slice A n c] w fun e w' => e = .returned (.int .i64 2) ∧ w = w' := by
  have hn2 : ((n : Int) != 16) = true := by rw [bne_iff_ne]; omega
  go_enter Tryz.func109, Tryz.ntmps109
  go_wp2_with (go_at_call 98; refine (made_any g _ true h).mono ?_; rintro e w' ⟨rfl, rfl⟩)
  go_ret
  exact ⟨rfl, rfl⟩
theorem may_nil (v : Value) (w : World) : Calls Tryz.prog 109 #[.pointer none, v] w fun e w' => e = .returned (.int .i64 1) ∧ w = w' := by
  go_enter Tryz.func109, Tryz.ntmps109
  go_wp2_with (go_at_call 98; refine (made_nil _).mono ?_; rintro e w' ⟨rfl, rfl⟩)
  go_ret
  exact ⟨rfl, rfl⟩
theorem may_zero (g : Nat) (v : Value) (w : World) (h : w.cell? ⟨g, 0, none⟩ = some (.bool false)) : Calls Tryz.prog 109 #[.pointer (some ⟨g, 0, none⟩), v] w fun e w' => e = .returned (.int .i64 1) ∧ w = w' := by
  go_enter Tryz.func109, Tryz.ntmps109
  go_wp2_with (go_at_call 98; refine (made_any g _ false h).mono ?_; rintro e w' ⟨rfl, rfl⟩)
  go_ret
  exact ⟨rfl, rfl⟩

/-! ### Encrypt, as a function of the round keys' bytes and the block's -/
def encT (s : Nat → Nat) (i : Nat) : Nat := sb (s (pe i))
def encS (kb : Nat → Nat) (r : Nat) (s : Nat → Nat) (i : Nat) : Nat := (if r < 14 then mixF (encT s) 2 3 1 1 i else encT s i) ^^^ kb (r * 16 + i)
def encN (kb s : Nat → Nat) : Nat → Nat → Nat
  | 0 => fun i => s i ^^^ kb i
  | n + 1 => encS kb (n + 1) (encN kb s n)
theorem mixF_lt {s : Nat → Nat} (a b c d : Nat) (hs : ∀ i, i < 16 → s i < 256) {i : Nat} (hi : i < 16) : mixF s a b c d i < 256 :=
  xor_lt8 (xor_lt8 (xor_lt8 (tm_lt _ _ (hs _ (by omega))) (tm_lt _ _ (hs _ (mix_ix hi)))) (tm_lt _ _ (hs _ (mix_ix hi)))) (tm_lt _ _ (hs _ (mix_ix hi)))
theorem encT_lt {s : Nat → Nat} (hs : ∀ i, i < 16 → s i < 256) {i : Nat} (hi : i < 16) : encT s i < 256 := sb_lt (hs _ (pe_lt i))
theorem encN_lt {kb s : Nat → Nat} (hk : ∀ i, i < 240 → kb i < 256) (hs : ∀ i, i < 16 → s i < 256) : ∀ n, n ≤ 14 → ∀ i, i < 16 → encN kb s n i < 256
  | 0, _, i, hi => xor_lt8 (hs i hi) (hk i (by omega))
  | n + 1, hn, i, hi => by
    have ih := encN_lt hk hs n (by omega)
    show encS kb (n + 1) (encN kb s n) i < 256
    unfold encS
    refine xor_lt8 ?_ (hk _ (by omega))
    split
    · exact mixF_lt 2 3 1 1 (fun i hi => encT_lt ih hi) hi
    · exact encT_lt ih hi

theorem bytes_arr (n : Nat) (s : Nat → Nat) : ∃ cs : Array Value, cs.size = n ∧ ∀ i, i < n → cs[i]? = some (.int .u8 (s i : Nat)) :=
  ⟨((List.range n).map fun i => Value.int .u8 (s i : Nat)).toArray, by simp, fun i hi => by simp [hi]⟩
theorem bytes_range {w : World} {g o n : Nat} {s : Nat → Nat} {cs : Array Value} (hn : cs.size = n) (hcs : ∀ i, i < n → cs[i]? = some (.int .u8 (s i : Nat)))
    (hs : ∀ i, i < n → w.cell? ⟨g, o + i, none⟩ = some (.int .u8 (s i : Nat))) : w.rangeAt g o cs.toList := by
  intro j v hv
  have hj : j < n := by
    have := (List.getElem?_eq_some_iff.1 hv).1
    simpa [hn] using this
  have h := hcs j hj
  rw [Array.getElem?_toList] at hv
  rw [hv] at h
  rw [hs j hj, h]
theorem row_of_bytes (w : World) (t n : Nat) (s : Nat → Nat) {cs : Array Value} (hn : cs.size = n) (hcs : ∀ i, i < n → cs[i]? = some (.int .u8 (s i : Nat))) :
    (w.alloc (.cells cs t)).rowIs w.heap.size t n (fun i => .int .u8 (s i : Nat)) := ⟨_, heap_alloc_new w _, hn, hcs⟩

theorem xor_int (gc gs r : Nat) (s K : Nat → Nat) (w : World) (z : Int) (hz : z = r) (hr : r < 15) (hne : gc ≠ gs) (hs : ∀ i, i < 16 → s i < 256) (hK : ∀ i, i < 16 → K i < 256)
    (hrow : w.rowIs gs 106 16 (fun i => .int .u8 (s i))) (hcl : gc < w.heap.size) (hk : ∀ j, j < 16 → w.cell? ⟨gc, 513 + r * 16 + j, none⟩ = some (.int .u8 (K j))) :
    Calls Tryz.prog 110 #[.pointer (some ⟨gc, 0, none⟩), .pointer (some ⟨gs, 0, none⟩), .int .i64 z] w fun e w' => e = .returned (.tuple #[]) ∧
      w'.rowIs gs 106 16 (fun i => .int .u8 (s i ^^^ K i : Nat)) ∧ w.grownBy w' (some gs) := by
  subst hz
  exact xor_any gc gs r s K w hr hne hs hK hrow hcl hk

set_option maxRecDepth 100000 in
set_option maxHeartbeats 2000000 in
theorem encrypt_any (g gb ob cap : Nat) (kb s : Nat → Nat) (w : World) (hc : Cph w g kb) (hkb : ∀ i, i < 240 → kb i < 256) (hs : ∀ i, i < 16 → s i < 256)
    (hb : ∀ i, i < 16 → w.cell? ⟨gb, ob + i, none⟩ = some (.int .u8 (s i : Nat))) :
    Calls Tryz.prog 100 #[.pointer (some ⟨g, 0, none⟩), .slice (some ⟨gb, ob, none⟩) 16 cap] w fun e w' =>
      e = .returned (.tuple #[.slice (some ⟨w.heap.size, 0, none⟩) 16 16, .int .i64 0]) ∧ w'.rowIs w.heap.size 106 16 (fun i => .int .u8 (encN kb s 14 i : Nat)) ∧ Below w.heap.size w w' := by
  have hm := hc.mark
  have hat := fun W : World => run_arrayAt (P := Tryz.prog) (w := W) 106 5 16 (some ⟨gb, ob, none⟩) 16 cap Tryz.underlying106 (Nat.le_refl _)
  obtain ⟨cs, hcs, hce⟩ := bytes_arr 16 s
  have HB := Lib.hid (bytes_range hcs hce hb)
  have HS := Lib.hid hcs
  have HE := Lib.hid hce
  clear hcs hce
  have HC := Lib.hid hc
  clear hb hc
  go_enter Tryz.func100, Tryz.ntmps100
  go_wp2_with (first
    | (go_at_call 109; refine (may_ok g cap _ _ hm).mono ?_; rintro e w' ⟨rfl, rfl⟩)
    | (refine wpList_load_mid rfl 106 (.tmp 16) rfl gb ob rfl _ _ HB.out Tryz.underlying106 rfl (by rw [Array.length_toList, HS.out]; exact size16) ?_)
    | (refine wpList_store_new 106 (.tmp 7) (.tmp 17) rfl rfl _ cs rfl rfl (by rw [HS.out]; exact size16) (by rw [HS.out]; rfl) (bytes_oneCell HS.out HE.out) ?_))
  have hc1 : Cph (w.alloc (.cells cs 106)) g kb := World.rowIs.alloc HC.out _
  have hgl := HC.out.lt
  have hr1 := row_of_bytes w 106 16 s HS.out HE.out
  have hb1 := (Below.refl w.heap.size w).alloc (Nat.le_refl _) (.cells cs 106)
  have hz1 : w.heap.size < (w.alloc (.cells cs 106)).heap.size := by simp
  generalize w.alloc (.cells cs 106) = W1 at *
  refine (xor_int g w.heap.size 0 s kb W1 0 rfl (by omega) (by omega) hs (fun i hi => hkb i (by omega)) hr1 hc1.lt (fun j hj => by simpa using hc1.keyT (r := 0) (by omega) hj)).mono ?_
  rintro e w1 ⟨rfl, hr2, hg2⟩
  have hc2 := hc1.grown hg2 (by omega)
  have hb2 := below_of_grown hb1 hg2 (by omega) (Nat.le_refl _)
  have hz2 : w.heap.size < w1.heap.size := Nat.lt_of_lt_of_le hz1 hg2.size
  have HR2 := Lib.hid hr2
  have HC2 := Lib.hid hc2
  have HB2 := Lib.hid hb2
  clear hr1 hr2 hg2 hc1 hc2 hb1 hb2 HB HS HE hat hm
  go_wp2_with fail
  go_loopw [8] (fun i wr => ∃ k : Nat, k ≤ 14 ∧ i = .int .i64 (k + 1 : Nat) ∧ wr.rowIs w.heap.size 106 16 (fun i => .int .u8 (encN kb s k i : Nat)) ∧ Cph wr g kb ∧ Below w.heap.size w wr ∧ w.heap.size < wr.heap.size) (fun i _ => 15 - (intOf i).toNat)
  case atStart => exact ⟨0, by omega, rfl, HR2.out, HC2.out, HB2.out, hz2⟩
  case round =>
    clear HR2 HC2 HB2 hz2 hz1
    obtain ⟨k, hk, rfl, hr, hc, hbw, hz⟩ := hrel
    by_cases e0 : k < 14
    · have hlt := encN_lt hkb hs k hk
      have HE := Lib.hid hlt
      have HR := Lib.hid hr
      have HCr := Lib.hid hc
      have HBr := Lib.hid hbw
      clear hr hc hbw hlt
      go_wp2_with fail
      refine (moved_enc g w.heap.size 1 (encN kb s k) sb wr (by omega) HE.out (fun i hi => sb_lt hi) HR.out HCr.out.lt (fun j hj => HCr.out.subT hj)).mono ?_
      rintro e w3 ⟨rfl, hr3, hg3⟩
      have hc3 := HCr.out.grown hg3 (by omega)
      have hb3 := below_of_grown HBr.out hg3 (by omega) (Nat.le_refl _)
      have hz3 : w.heap.size < w3.heap.size := Nat.lt_of_lt_of_le hz hg3.size
      have HR3 := Lib.hid hr3
      have HC3 := Lib.hid hc3
      have HB3 := Lib.hid hb3
      clear HR HCr HBr hr3 hc3 hb3 hg3
      by_cases e1 : k + 1 < 14
      · go_wp2_with fail
        refine (mixed_any w.heap.size 2 3 1 1 (encT (encN kb s k)) w3 (fun i hi => encT_lt HE.out hi) (by omega) (by omega) (by omega) (by omega) HR3.out).mono ?_
        rintro e w4 ⟨rfl, hr4, hg4⟩
        have hc4 := HC3.out.grown hg4 (by omega)
        have hb4 := below_of_grown HB3.out hg4 (by omega) (Nat.le_refl _)
        have hz4 : w.heap.size < w4.heap.size := Nat.lt_of_lt_of_le hz3 hg4.size
        have HR4 := Lib.hid hr4
        have HC4 := Lib.hid hc4
        have HB4 := Lib.hid hb4
        clear HR3 HC3 HB3 hr4 hc4 hb4 hg4
        go_wp2_with fail
        refine (xor_int g w.heap.size (k + 1) (mixF (encT (encN kb s k)) 2 3 1 1) (fun i => kb ((k + 1) * 16 + i)) w4 _ (by omega) (by omega) (by omega) (fun i hi => mixF_lt _ _ _ _ (fun i hi => encT_lt HE.out hi) hi) (fun i hi => hkb _ (by omega)) HR4.out HC4.out.lt (fun j hj => HC4.out.keyT (by omega) hj)).mono ?_
        rintro e w5 ⟨rfl, hr5, hg5⟩
        have hc5 := HC4.out.grown hg5 (by omega)
        have hb5 := below_of_grown HB4.out hg5 (by omega) (Nat.le_refl _)
        have hz5 : w.heap.size < w5.heap.size := Nat.lt_of_lt_of_le hz4 hg5.size
        have HR5 : Hid (w5.rowIs w.heap.size 106 16 (fun i => .int .u8 (encN kb s (k + 1) i : Nat))) := hr5.congr (fun i hi => by
          show _ = Value.int .u8 (encS kb (k + 1) (encN kb s k) i : Nat)
          unfold encS
          rw [if_pos e1])
        have HC5 := Lib.hid hc5
        have HB5 := Lib.hid hb5
        clear HR4 HC4 HB4 hr5 hc5 hb5 hg5
        go_wp2_with fail
        go_roundw
        case rel => exact ⟨k + 1, by omega, by go_num, HR5.out, HC5.out, HB5.out, hz5⟩
        case measure => simp [intOf]; omega
      · go_wp2_with fail
        refine (xor_int g w.heap.size (k + 1) (encT (encN kb s k)) (fun i => kb ((k + 1) * 16 + i)) w3 _ (by omega) (by omega) (by omega) (fun i hi => encT_lt HE.out hi) (fun i hi => hkb _ (by omega)) HR3.out HC3.out.lt (fun j hj => HC3.out.keyT (by omega) hj)).mono ?_
        rintro e w5 ⟨rfl, hr5, hg5⟩
        have hc5 := HC3.out.grown hg5 (by omega)
        have hb5 := below_of_grown HB3.out hg5 (by omega) (Nat.le_refl _)
        have hz5 : w.heap.size < w5.heap.size := Nat.lt_of_lt_of_le hz3 hg5.size
        have HR5 : Hid (w5.rowIs w.heap.size 106 16 (fun i => .int .u8 (encN kb s (k + 1) i : Nat))) := hr5.congr (fun i hi => by
          show _ = Value.int .u8 (encS kb (k + 1) (encN kb s k) i : Nat)
          unfold encS
          rw [if_neg e1])
        have HC5 := Lib.hid hc5
        have HB5 := Lib.hid hb5
        clear HR3 HC3 HB3 hr5 hc5 hb5 hg5
        go_wp2_with fail
        go_roundw
        case rel => exact ⟨k + 1, by omega, by go_num, HR5.out, HC5.out, HB5.out, hz5⟩
        case measure => simp [intOf]; omega
    · obtain rfl : k = 14 := by omega
      have HR := Lib.hid hr
      have HBr := Lib.hid hbw
      clear hr hc hbw
      go_wp2_with fail
      go_ret2
      exact ⟨rfl, HR.out, HBr.out⟩
end Go.Proofs.YtlhbijpmhokmnaaGreat
namespace Go.Proofs.YtlhbijpmhokmnaaGreat
open Go.RowKit
set_option linter.unusedSimpArgs false
set_option linter.unusedVariables false

def decX (kb : Nat → Nat) (r : Nat) (s : Nat → Nat) (i : Nat) : Nat := s i ^^^ kb (r * 16 + i)
def decM (kb : Nat → Nat) (r : Nat) (s : Nat → Nat) (i : Nat) : Nat := if r < 14 then mixF (decX kb r s) 14 11 13 9 i else decX kb r s i
def decS (kb : Nat → Nat) (r : Nat) (s : Nat → Nat) (i : Nat) : Nat := bk (decM kb r s (pd i))
def decN (kb s : Nat → Nat) : Nat → Nat → Nat
  | 0 => s
  | n + 1 => decS kb (14 - n) (decN kb s n)
theorem decX_lt {kb s : Nat → Nat} {r : Nat} (hk : ∀ i, i < 240 → kb i < 256) (hs : ∀ i, i < 16 → s i < 256) (hr : r ≤ 14) {i : Nat} (hi : i < 16) : decX kb r s i < 256 := xor_lt8 (hs i hi) (hk _ (by omega))
theorem decM_lt {kb s : Nat → Nat} {r : Nat} (hk : ∀ i, i < 240 → kb i < 256) (hs : ∀ i, i < 16 → s i < 256) (hr : r ≤ 14) {i : Nat} (hi : i < 16) : decM kb r s i < 256 := by
  unfold decM
  split
  · exact mixF_lt _ _ _ _ (fun i hi => decX_lt hk hs hr hi) hi
  · exact decX_lt hk hs hr hi
theorem decN_lt {kb s : Nat → Nat} (hk : ∀ i, i < 240 → kb i < 256) (hs : ∀ i, i < 16 → s i < 256) : ∀ n, n ≤ 14 → ∀ i, i < 16 → decN kb s n i < 256
  | 0, _, i, hi => hs i hi
  | n + 1, hn, i, hi => bk_lt (decM_lt hk (decN_lt hk hs n (by omega)) (by omega) (pd_lt i))

end Go.Proofs.YtlhbijpmhokmnaaGreat
namespace Go.Proofs.YtlhbijpmhokmnaaGreat
open Go.RowKit
set_option linter.unusedSimpArgs false
set_option linter.unusedVariables false

/-- What lies in a cipher's block, by the two tables and the round keys' bytes. -/
def cphF (s b kk : Nat → Nat) (j : Nat) : Value :=
  if j = 0 then .bool true else if j < 257 then .int .u8 (s (j - 1) : Nat) else if j < 513 then .int .u8 (b (j - 257) : Nat) else .int .u8 (kk (j - 513) : Nat)
theorem cphV_eq (kb : Nat → Nat) : cphV kb = cphF sb bk kb := rfl
def zf (_ : Nat) : Nat := 0
/-- A cipher's block as it is made: the mark, noughts. -/
def cph0 : Array Value := #[.bool true] ++ Array.replicate 752 (.int .u8 0)
theorem cph0_eq : Tryz.zeroCells109.setIfInBounds 0 (.bool true) = cph0 := by kernel_rfl
theorem cph0_row (w : World) : (w.alloc (.cells cph0 109)).rowIs w.heap.size 109 753 (cphF zf zf zf) := by
  refine ⟨_, heap_alloc_new w _, by simp [cph0], fun j hj => ?_⟩
  unfold cph0 cphF zf
  rcases Nat.eq_zero_or_pos j with h | h
  · subst h; simp
  · rw [Array.getElem?_append_right (by simp; omega), if_neg (by omega)]
    have : (Array.replicate 752 (Value.int .u8 0))[j - #[Value.bool true].size]? = some (.int .u8 0) := by
      simp [Array.getElem?_replicate]
      omega
    rw [this]
    split
    · rfl
    · split <;> rfl
theorem ite_near {i k : Nat} (x y : Nat) (h : i ≠ k) : (if i < k then x else y) = if i < k + 1 then x else y := by
  by_cases e : i < k
  · rw [if_pos e, if_pos (by omega)]
  · rw [if_neg e, if_neg (by omega)]
theorem cph_step {w : World} {g k : Nat} (hk : k < 256) (h : w.rowIs g 109 753 (cphF (upd k sb zf) (upd k bk zf) zf)) :
    ((w.setCell ⟨g, 1 + k, none⟩ (.int .u8 (sb k : Nat))).setCell ⟨g, 257 + k, none⟩ (.int .u8 (bk k : Nat))).rowIs g 109 753 (cphF (upd (k + 1) sb zf) (upd (k + 1) bk zf) zf) := by
  refine ((h.set (1 + k) _).set (257 + k) _).congr ?_
  intro j hj
  unfold cphF upd
  by_cases e2 : j = 257 + k
  · subst e2
    rw [if_pos rfl, if_neg (by omega), if_neg (by omega), if_pos (by omega), if_pos (by omega), show 257 + k - 257 = k by omega]
  · rw [if_neg e2]
    by_cases e1 : j = 1 + k
    · subst e1
      rw [if_pos rfl, if_neg (by omega), if_pos (by omega), if_pos (by omega), show 1 + k - 1 = k by omega]
    · rw [if_neg e1]
      split
      · rfl
      · split
        · exact congrArg (fun n : Nat => Value.int .u8 n) (ite_near _ _ (by omega))
        · split
          · exact congrArg (fun n : Nat => Value.int .u8 n) (ite_near _ _ (by omega))
          · rfl

/-! ### The round keys, byte by byte -/
def ksT (l : List Nat) (p i k : Nat) : Nat :=
  if i % 8 = 0 then (if k = 0 then sb (nth l (4 * i - 4 + 1)) ^^^ p else sb (nth l (4 * i - 4 + (k + 1) % 4))) else if i % 8 = 4 then sb (nth l (4 * i - 4 + k)) else nth l (4 * i - 4 + k)
def ksA (l : List Nat) (p i : Nat) : List Nat := l ++ (List.range 4).map fun k => nth l (4 * i - 32 + k) ^^^ ksT l p i k
def ksF : Nat → List Nat → Nat → Nat → List Nat
  | 0, l, _, _ => l
  | f + 1, l, p, i => ksF f (ksA l p i) (if i % 8 = 0 then tm p 2 else p) (i + 1)
def ks (key : List Nat) : List Nat := ksF 52 key 1 8
theorem ksA_length (l : List Nat) (p i : Nat) : (ksA l p i).length = l.length + 4 := by simp [ksA]
theorem ksF_length (f : Nat) : ∀ l p i, (ksF f l p i).length = l.length + 4 * f := by
  induction f with
  | zero => intro l p i; rfl
  | succ f ih => intro l p i; unfold ksF; rw [ih, ksA_length]; omega
theorem ks_length {key : List Nat} (h : key.length = 32) : (ks key).length = 240 := by unfold ks; rw [ksF_length, h]
theorem ksT_lt {l : List Nat} {p i k : Nat} (hl : ∀ x ∈ l, x < 256) (hp : p < 256) : ksT l p i k < 256 := by
  have h := nth_lt hl
  unfold ksT
  split
  · split
    · exact xor_lt8 (sb_lt (h _)) hp
    · exact sb_lt (h _)
  · split
    · exact sb_lt (h _)
    · exact h _

def sel4 (a0 a1 a2 a3 k : Nat) : Nat := nth [a0, a1, a2, a3] k
theorem idx4 (a0 a1 a2 a3 k : Nat) (hk : k < 4) (W : World) : (Instr.index 111 (.agg #[.int .u8 (a0 : Nat), .int .u8 (a1 : Nat), .int .u8 (a2 : Nat), .int .u8 (a3 : Nat)]) (.int .i64 (k : Int))).run Tryz.prog W = .ok (.int .u8 (sel4 a0 a1 a2 a3 k : Nat)) W := by
  have h0 : (Instr.index 111 (.agg #[.int .u8 (a0 : Nat), .int .u8 (a1 : Nat), .int .u8 (a2 : Nat), .int .u8 (a3 : Nat)]) (.int .i64 0)).run Tryz.prog W = .ok (.int .u8 (a0 : Nat)) W := by kernel_rfl
  have h1 : (Instr.index 111 (.agg #[.int .u8 (a0 : Nat), .int .u8 (a1 : Nat), .int .u8 (a2 : Nat), .int .u8 (a3 : Nat)]) (.int .i64 1)).run Tryz.prog W = .ok (.int .u8 (a1 : Nat)) W := by kernel_rfl
  have h2 : (Instr.index 111 (.agg #[.int .u8 (a0 : Nat), .int .u8 (a1 : Nat), .int .u8 (a2 : Nat), .int .u8 (a3 : Nat)]) (.int .i64 2)).run Tryz.prog W = .ok (.int .u8 (a2 : Nat)) W := by kernel_rfl
  have h3 : (Instr.index 111 (.agg #[.int .u8 (a0 : Nat), .int .u8 (a1 : Nat), .int .u8 (a2 : Nat), .int .u8 (a3 : Nat)]) (.int .i64 3)).run Tryz.prog W = .ok (.int .u8 (a3 : Nat)) W := by kernel_rfl
  match k, hk with
  | 0, _ => exact h0
  | 1, _ => exact h1
  | 2, _ => exact h2
  | 3, _ => exact h3
theorem four_cells {W : World} {T t : Nat} {a0 a1 a2 a3 : Value} (h : W.heap[T]? = some (.cells #[a0, a1, a2, a3] t (0, 0))) (b0 b1 b2 b3 : Nat) :
    ∀ j, j < 4 → ((((((W.setCell ⟨T, 0, none⟩ (.int .u8 (b0 : Nat))).setCell ⟨T, 1, none⟩ (.int .u8 (b1 : Nat))).setCell ⟨T, 2, none⟩ (.int .u8 (b2 : Nat))).setCell ⟨T, 3, none⟩ (.int .u8 (b3 : Nat))).drew).cell? ⟨T, j, none⟩ = some (.int .u8 (sel4 b0 b1 b2 b3 j : Nat))) := by
  have hr : W.rowIs T t 4 (fun j => #[a0, a1, a2, a3].getD j a0) := ⟨_, h, rfl, fun i hi => by
    match i, hi with
    | 0, _ => rfl
    | 1, _ => rfl
    | 2, _ => rfl
    | 3, _ => rfl⟩
  intro j hj
  have := (((((hr.set 0 (.int .u8 (b0 : Nat))).set 1 (.int .u8 (b1 : Nat))).set 2 (.int .u8 (b2 : Nat))).set 3 (.int .u8 (b3 : Nat))).drew).cell hj
  rw [this]
  rcases (show j = 0 ∨ j = 1 ∨ j = 2 ∨ j = 3 by omega) with rfl | rfl | rfl | rfl <;> simp [sel4, nth]
theorem cphS_sub {w : World} {g : Nat} {b kk : Nat → Nat} (h : w.rowIs g 109 753 (cphF sb b kk)) {j : Nat} (hj : j < 256) : w.cell? ⟨g, 1 + j, none⟩ = some (.int .u8 (sb j : Nat)) := by
  rw [World.rowIs.cell h (by omega)]
  unfold cphF
  rw [if_neg (by omega), if_pos (by omega), show 1 + j - 1 = j by omega]

theorem idx4f (f : Nat → Nat) (k : Nat) (hk : k < 4) (W : World) : (Instr.index 111 (.agg #[.int .u8 (f 0 : Nat), .int .u8 (f 1 : Nat), .int .u8 (f 2 : Nat), .int .u8 (f 3 : Nat)]) (.int .i64 (k : Int))).run Tryz.prog W = .ok (.int .u8 (f k : Nat)) W := by
  have h := idx4 (f 0) (f 1) (f 2) (f 3) k hk W
  have e : sel4 (f 0) (f 1) (f 2) (f 3) k = f k := by
    rcases (show k = 0 ∨ k = 1 ∨ k = 2 ∨ k = 3 by omega) with rfl | rfl | rfl | rfl <;> simp [sel4, nth]
  rw [e] at h
  exact h
theorem sel4_lt {a0 a1 a2 a3 : Nat} (h0 : a0 < 256) (h1 : a1 < 256) (h2 : a2 < 256) (h3 : a3 < 256) (k : Nat) : sel4 a0 a1 a2 a3 k < 256 :=
  nth_lt (by intro x hx; simp at hx; rcases hx with rfl | rfl | rfl | rfl <;> assumption) k
theorem nth_app_l {l m : List Nat} {i : Nat} (h : i < l.length) : nth (l ++ m) i = nth l i := by
  unfold nth
  rw [List.getD_eq_getElem?_getD, List.getD_eq_getElem?_getD, List.getElem?_append_left h]
theorem nth_part {l : List Nat} {k n i : Nat} (hi : i < n) : nth ((l.drop k).take n) i = nth l (k + i) := by
  simp [nth, List.getElem?_take, List.getElem?_drop, hi]
theorem selT0 (l : List Nat) (p n : Nat) (h : n % 8 = 0) : ∀ j, j < 4 → sel4 (sb (nth l (4 * n - 4 + 1)) ^^^ p) (sb (nth l (4 * n - 4 + 2))) (sb (nth l (4 * n - 4 + 3))) (sb (nth l (4 * n - 4 + 0))) j = ksT l p n j := by
  intro j hj
  unfold ksT
  rw [if_pos h]
  rcases (show j = 0 ∨ j = 1 ∨ j = 2 ∨ j = 3 by omega) with rfl | rfl | rfl | rfl <;> simp [sel4, nth]
theorem selT4 (l : List Nat) (p n : Nat) (h : n % 8 = 4) : ∀ j, j < 4 → sel4 (sb (nth l (4 * n - 4 + 0))) (sb (nth l (4 * n - 4 + 1))) (sb (nth l (4 * n - 4 + 2))) (sb (nth l (4 * n - 4 + 3))) j = ksT l p n j := by
  intro j hj
  unfold ksT
  rw [if_neg (by omega), if_pos h]
  rcases (show j = 0 ∨ j = 1 ∨ j = 2 ∨ j = 3 by omega) with rfl | rfl | rfl | rfl <;> simp [sel4, nth]
theorem selTn (l : List Nat) (p n : Nat) (h : ¬ n % 8 = 0) (h' : ¬ n % 8 = 4) : ∀ j, j < 4 → sel4 (nth l (4 * n - 4 + 0)) (nth l (4 * n - 4 + 1)) (nth l (4 * n - 4 + 2)) (nth l (4 * n - 4 + 3)) j = ksT l p n j := by
  intro j hj
  unfold ksT
  rw [if_neg h, if_neg h']
  rcases (show j = 0 ∨ j = 1 ∨ j = 2 ∨ j = 3 by omega) with rfl | rfl | rfl | rfl <;> simp [sel4, nth]
end Go.Proofs.YtlhbijpmhokmnaaGreat
namespace Go.Proofs.YtlhbijpmhokmnaaGreat
open Go.RowKit
set_option linter.unusedSimpArgs false
set_option linter.unusedVariables false

theorem range_snoc (f : Nat → Nat) (k : Nat) : (List.range (k + 1)).map f = (List.range k).map f ++ [f k] := by
  rw [List.range_succ, List.map_append]; rfl
def subL : List Nat := (List.range 256).map sb
def rowL (a b n : Nat) : List Nat := (List.range n).map fun i => (a + i * b) % 256
end Go.Proofs.YtlhbijpmhokmnaaGreat
