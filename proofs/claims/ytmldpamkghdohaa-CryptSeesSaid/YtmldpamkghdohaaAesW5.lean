/-
  THE WALKS OF THE AES CHAPTER: Made, may, Encrypt, Decrypt. Conditions: the pointer leads to a cipher, the slice to sixteen bytes.
-/
import Derived.Test.YtmldpamkghdohaaAesW4
namespace Go.Proofs.Ytmldpamkghdohaa
open Go.RowKit
set_option linter.unusedSimpArgs false
set_option linter.unusedVariables false

/-- What lies in a cipher's block: the mark, Sub's table, Back's table, the round keys' bytes. -/
def cphV (kb : Nat → Nat) (j : Nat) : Value :=
  if j = 0 then .bool true else if j < 257 then .int .u8 (sb (j - 1) : Nat) else if j < 513 then .int .u8 (bk (j - 257) : Nat) else .int .u8 (kb (j - 513) : Nat)
def Cph (w : World) (g : Nat) (kb : Nat → Nat) : Prop := w.rowIs g 36 753 (cphV kb)
section
variable {w w' : World} {g : Nat} {kb : Nat → Nat}
theorem Cph.lt (h : Cph w g kb) : g < w.heap.size := World.rowIs.lt h
theorem Cph.mark (h : Cph w g kb) : w.cell? ⟨g, 0, none⟩ = some (.bool true) := World.rowIs.cell h (by omega)
theorem Cph.subT (h : Cph w g kb) {j : Nat} (hj : j < 256) : w.cell? ⟨g, 1 + j, none⟩ = some (.int .u8 (sb j : Nat)) := by
  rw [World.rowIs.cell h (by omega)]
  unfold cphV
  rw [if_neg (by omega), if_pos (by omega), show 1 + j - 1 = j by omega]
theorem Cph.backT (h : Cph w g kb) {j : Nat} (hj : j < 256) : w.cell? ⟨g, 257 + j, none⟩ = some (.int .u8 (bk j : Nat)) := by
  rw [World.rowIs.cell h (by omega)]
  unfold cphV
  rw [if_neg (by omega), if_neg (by omega), if_pos (by omega), show 257 + j - 257 = j by omega]
theorem Cph.keyT (h : Cph w g kb) {r j : Nat} (hr : r < 15) (hj : j < 16) : w.cell? ⟨g, 513 + r * 16 + j, none⟩ = some (.int .u8 (kb (r * 16 + j) : Nat)) := by
  rw [World.rowIs.cell h (by omega)]
  unfold cphV
  rw [if_neg (by omega), if_neg (by omega), if_neg (by omega), show 513 + r * 16 + j - 513 = r * 16 + j by omega]
theorem Cph.below {B : Nat} (h : Cph w g kb) (hb : Below B w w') (hg : g < B) : Cph w' g kb := below_row hb h hg
theorem Cph.grown {g' : Nat} (h : Cph w g kb) (hb : w.grownBy w' (some g')) (hne : g ≠ g') : Cph w' g kb := grown_row hb h hne
end

theorem made_any (g : Nat) (w : World) (b : Bool) (h : w.cell? ⟨g, 0, none⟩ = some (.bool b)) : Calls Try.prog 41 #[.pointer (some ⟨g, 0, none⟩)] w fun e w' => e = .returned (.bool b) ∧ w = w' := by
  go_enter Try.func41, Try.ntmps41
  go_wp2
  go_ret
  exact ⟨rfl, rfl⟩
theorem made_nil (w : World) : Calls Try.prog 41 #[.pointer none] w fun e w' => e = .returned (.bool false) ∧ w = w' := by
  go_enter Try.func41, Try.ntmps41
  go_wp2
  go_ret
  exact ⟨rfl, rfl⟩
theorem may_ok (g c : Nat) (A : Option Addr) (w : World) (h : w.cell? ⟨g, 0, none⟩ = some (.bool true)) : Calls Try.prog 43 #[.pointer (some ⟨g, 0, none⟩), .slice A 16 c] w fun e w' => e = .returned (.int .i64 0) ∧ w = w' := by
  go_enter Try.func43, Try.ntmps43
  go_wp2_with (go_at_call 41; refine (made_any g _ true h).mono ?_; rintro e w' ⟨rfl, rfl⟩)
  go_ret
  exact ⟨rfl, rfl⟩
theorem may_len (g n c : Nat) (A : Option Addr) (w : World) (h : w.cell? ⟨g, 0, none⟩ = some (.bool true)) (hn : n ≠ 16) : Calls Try.prog 43 #[.pointer (some ⟨g, 0, none⟩), .slice A n c] w fun e w' => e = .returned (.int .i64 2) ∧ w = w' := by
  have hn2 : ((n : Int) != 16) = true := by rw [bne_iff_ne]; omega
  go_enter Try.func43, Try.ntmps43
  go_wp2_with (go_at_call 41; refine (made_any g _ true h).mono ?_; rintro e w' ⟨rfl, rfl⟩)
  go_ret
  exact ⟨rfl, rfl⟩
theorem may_nil (v : Value) (w : World) : Calls Try.prog 43 #[.pointer none, v] w fun e w' => e = .returned (.int .i64 1) ∧ w = w' := by
  go_enter Try.func43, Try.ntmps43
  go_wp2_with (go_at_call 41; refine (made_nil _).mono ?_; rintro e w' ⟨rfl, rfl⟩)
  go_ret
  exact ⟨rfl, rfl⟩
theorem may_zero (g : Nat) (v : Value) (w : World) (h : w.cell? ⟨g, 0, none⟩ = some (.bool false)) : Calls Try.prog 43 #[.pointer (some ⟨g, 0, none⟩), v] w fun e w' => e = .returned (.int .i64 1) ∧ w = w' := by
  go_enter Try.func43, Try.ntmps43
  go_wp2_with (go_at_call 41; refine (made_any g _ false h).mono ?_; rintro e w' ⟨rfl, rfl⟩)
  go_ret
  exact ⟨rfl, rfl⟩

/-! ### Encrypt, as a function of the round keys' bytes and the block's -/
def encT (s : Nat → Nat) (i : Nat) : Nat := sb (s (pe i))
def encS (kb : Nat → Nat) (r : Nat) (s : Nat → Nat) (i : Nat) : Nat := (if r < 14 then mixF (encT s) 2 3 1 1 i else encT s i) ^^^ kb (r * 16 + i)
def encN (kb s : Nat → Nat) : Nat → Nat → Nat
  | 0 => fun i => s i ^^^ kb i
  | n + 1 => encS kb (n + 1) (encN kb s n)
theorem mixF_lt {s : Nat → Nat} (a b c d : Nat) (hs : ∀ i, i < 16 → s i < 256) {i : Nat} (hi : i < 16) : mixF s a b c d i < 256 :=
  xor_lt8 (xor_lt8 (xor_lt8 (tm_lt _ _ (hs _ (by omega))) (tm_lt _ _ (hs _ (mix_ix hi)))) (tm_lt _ _ (hs _ (mix_ix hi)))) (tm_lt _ _ (hs _ (mix_ix hi)))
theorem encT_lt {s : Nat → Nat} (hs : ∀ i, i < 16 → s i < 256) {i : Nat} (hi : i < 16) : encT s i < 256 := sb_lt (hs _ (pe_lt i))
theorem encN_lt {kb s : Nat → Nat} (hk : ∀ i, i < 240 → kb i < 256) (hs : ∀ i, i < 16 → s i < 256) : ∀ n, n ≤ 14 → ∀ i, i < 16 → encN kb s n i < 256
  | 0, _, i, hi => xor_lt8 (hs i hi) (hk i (by omega))
  | n + 1, hn, i, hi => by
    have ih := encN_lt hk hs n (by omega)
    show encS kb (n + 1) (encN kb s n) i < 256
    unfold encS
    refine xor_lt8 ?_ (hk _ (by omega))
    split
    · exact mixF_lt 2 3 1 1 (fun i hi => encT_lt ih hi) hi
    · exact encT_lt ih hi

theorem bytes_arr (n : Nat) (s : Nat → Nat) : ∃ cs : Array Value, cs.size = n ∧ ∀ i, i < n → cs[i]? = some (.int .u8 (s i : Nat)) :=
  ⟨((List.range n).map fun i => Value.int .u8 (s i : Nat)).toArray, by simp, fun i hi => by simp [hi]⟩
theorem bytes_range {w : World} {g o n : Nat} {s : Nat → Nat} {cs : Array Value} (hn : cs.size = n) (hcs : ∀ i, i < n → cs[i]? = some (.int .u8 (s i : Nat)))
    (hs : ∀ i, i < n → w.cell? ⟨g, o + i, none⟩ = some (.int .u8 (s i : Nat))) : w.rangeAt g o cs.toList := by
  intro j v hv
  have hj : j < n := by
    have := (List.getElem?_eq_some_iff.1 hv).1
    simpa [hn] using this
  have h := hcs j hj
  rw [Array.getElem?_toList] at hv
  rw [hv] at h
  rw [hs j hj, h]
theorem row_of_bytes (w : World) (t n : Nat) (s : Nat → Nat) {cs : Array Value} (hn : cs.size = n) (hcs : ∀ i, i < n → cs[i]? = some (.int .u8 (s i : Nat))) :
    (w.alloc (.cells cs t)).rowIs w.heap.size t n (fun i => .int .u8 (s i : Nat)) := ⟨_, heap_alloc_new w _, hn, hcs⟩

theorem xor_int (gc gs r : Nat) (s K : Nat → Nat) (w : World) (z : Int) (hz : z = r) (hr : r < 15) (hne : gc ≠ gs) (hs : ∀ i, i < 16 → s i < 256) (hK : ∀ i, i < 16 → K i < 256)
    (hrow : w.rowIs gs 33 16 (fun i => .int .u8 (s i))) (hcl : gc < w.heap.size) (hk : ∀ j, j < 16 → w.cell? ⟨gc, 513 + r * 16 + j, none⟩ = some (.int .u8 (K j))) :
    Calls Try.prog 44 #[.pointer (some ⟨gc, 0, none⟩), .pointer (some ⟨gs, 0, none⟩), .int .i64 z] w fun e w' => e = .returned (.tuple #[]) ∧
      w'.rowIs gs 33 16 (fun i => .int .u8 (s i ^^^ K i : Nat)) ∧ w.grownBy w' (some gs) := by
  subst hz
  exact xor_any gc gs r s K w hr hne hs hK hrow hcl hk

set_option maxRecDepth 100000 in
set_option maxHeartbeats 2000000 in
theorem encrypt_any (g gb ob cap : Nat) (kb s : Nat → Nat) (w : World) (hc : Cph w g kb) (hkb : ∀ i, i < 240 → kb i < 256) (hs : ∀ i, i < 16 → s i < 256)
    (hb : ∀ i, i < 16 → w.cell? ⟨gb, ob + i, none⟩ = some (.int .u8 (s i : Nat))) :
    Calls Try.prog 12 #[.pointer (some ⟨g, 0, none⟩), .slice (some ⟨gb, ob, none⟩) 16 cap] w fun e w' =>
      e = .returned (.tuple #[.slice (some ⟨w.heap.size, 0, none⟩) 16 16, .int .i64 0]) ∧ w'.rowIs w.heap.size 33 16 (fun i => .int .u8 (encN kb s 14 i : Nat)) ∧ Below w.heap.size w w' := by
  have hm := hc.mark
  have hat := fun W : World => run_arrayAt (P := Try.prog) (w := W) 33 5 16 (some ⟨gb, ob, none⟩) 16 cap Try.underlying33 (Nat.le_refl _)
  obtain ⟨cs, hcs, hce⟩ := bytes_arr 16 s
  have HB := Lib.hid (bytes_range hcs hce hb)
  have HS := Lib.hid hcs
  have HE := Lib.hid hce
  clear hcs hce
  have HC := Lib.hid hc
  clear hb hc
  go_enter Try.func12, Try.ntmps12
  go_wp2_with (first
    | (go_at_call 43; refine (may_ok g cap _ _ hm).mono ?_; rintro e w' ⟨rfl, rfl⟩)
    | (refine wpList_load_mid rfl 33 (.tmp 16) rfl gb ob rfl _ _ HB.out Try.underlying33 rfl (by rw [Array.length_toList, HS.out]; exact size16) ?_)
    | (refine wpList_store_new 33 (.tmp 7) (.tmp 17) rfl rfl _ cs rfl rfl (by rw [HS.out]; exact size16) (by rw [HS.out]; rfl) (bytes_oneCell HS.out HE.out) ?_))
  have hc1 : Cph (w.alloc (.cells cs 33)) g kb := World.rowIs.alloc HC.out _
  have hgl := HC.out.lt
  have hr1 := row_of_bytes w 33 16 s HS.out HE.out
  have hb1 := (Below.refl w.heap.size w).alloc (Nat.le_refl _) (.cells cs 33)
  have hz1 : w.heap.size < (w.alloc (.cells cs 33)).heap.size := by simp
  generalize w.alloc (.cells cs 33) = W1 at *
  refine (xor_int g w.heap.size 0 s kb W1 0 rfl (by omega) (by omega) hs (fun i hi => hkb i (by omega)) hr1 hc1.lt (fun j hj => by simpa using hc1.keyT (r := 0) (by omega) hj)).mono ?_
  rintro e w1 ⟨rfl, hr2, hg2⟩
  have hc2 := hc1.grown hg2 (by omega)
  have hb2 := below_of_grown hb1 hg2 (by omega) (Nat.le_refl _)
  have hz2 : w.heap.size < w1.heap.size := Nat.lt_of_lt_of_le hz1 hg2.size
  have HR2 := Lib.hid hr2
  have HC2 := Lib.hid hc2
  have HB2 := Lib.hid hb2
  clear hr1 hr2 hg2 hc1 hc2 hb1 hb2 HB HS HE hat hm
  go_wp2_with fail
  go_loopw [8] (fun i wr => ∃ k : Nat, k ≤ 14 ∧ i = .int .i64 (k + 1 : Nat) ∧ wr.rowIs w.heap.size 33 16 (fun i => .int .u8 (encN kb s k i : Nat)) ∧ Cph wr g kb ∧ Below w.heap.size w wr ∧ w.heap.size < wr.heap.size) (fun i _ => 15 - (intOf i).toNat)
  case atStart => exact ⟨0, by omega, rfl, HR2.out, HC2.out, HB2.out, hz2⟩
  case round =>
    clear HR2 HC2 HB2 hz2 hz1
    obtain ⟨k, hk, rfl, hr, hc, hbw, hz⟩ := hrel
    by_cases e0 : k < 14
    · have hlt := encN_lt hkb hs k hk
      have HE := Lib.hid hlt
      have HR := Lib.hid hr
      have HCr := Lib.hid hc
      have HBr := Lib.hid hbw
      clear hr hc hbw hlt
      go_wp2_with fail
      refine (moved_enc g w.heap.size 1 (encN kb s k) sb wr (by omega) HE.out (fun i hi => sb_lt hi) HR.out HCr.out.lt (fun j hj => HCr.out.subT hj)).mono ?_
      rintro e w3 ⟨rfl, hr3, hg3⟩
      have hc3 := HCr.out.grown hg3 (by omega)
      have hb3 := below_of_grown HBr.out hg3 (by omega) (Nat.le_refl _)
      have hz3 : w.heap.size < w3.heap.size := Nat.lt_of_lt_of_le hz hg3.size
      have HR3 := Lib.hid hr3
      have HC3 := Lib.hid hc3
      have HB3 := Lib.hid hb3
      clear HR HCr HBr hr3 hc3 hb3 hg3
      by_cases e1 : k + 1 < 14
      · go_wp2_with fail
        refine (mixed_any w.heap.size 2 3 1 1 (encT (encN kb s k)) w3 (fun i hi => encT_lt HE.out hi) (by omega) (by omega) (by omega) (by omega) HR3.out).mono ?_
        rintro e w4 ⟨rfl, hr4, hg4⟩
        have hc4 := HC3.out.grown hg4 (by omega)
        have hb4 := below_of_grown HB3.out hg4 (by omega) (Nat.le_refl _)
        have hz4 : w.heap.size < w4.heap.size := Nat.lt_of_lt_of_le hz3 hg4.size
        have HR4 := Lib.hid hr4
        have HC4 := Lib.hid hc4
        have HB4 := Lib.hid hb4
        clear HR3 HC3 HB3 hr4 hc4 hb4 hg4
        go_wp2_with fail
        refine (xor_int g w.heap.size (k + 1) (mixF (encT (encN kb s k)) 2 3 1 1) (fun i => kb ((k + 1) * 16 + i)) w4 _ (by omega) (by omega) (by omega) (fun i hi => mixF_lt _ _ _ _ (fun i hi => encT_lt HE.out hi) hi) (fun i hi => hkb _ (by omega)) HR4.out HC4.out.lt (fun j hj => HC4.out.keyT (by omega) hj)).mono ?_
        rintro e w5 ⟨rfl, hr5, hg5⟩
        have hc5 := HC4.out.grown hg5 (by omega)
        have hb5 := below_of_grown HB4.out hg5 (by omega) (Nat.le_refl _)
        have hz5 : w.heap.size < w5.heap.size := Nat.lt_of_lt_of_le hz4 hg5.size
        have HR5 : Hid (w5.rowIs w.heap.size 33 16 (fun i => .int .u8 (encN kb s (k + 1) i : Nat))) := hr5.congr (fun i hi => by
          show _ = Value.int .u8 (encS kb (k + 1) (encN kb s k) i : Nat)
          unfold encS
          rw [if_pos e1])
        have HC5 := Lib.hid hc5
        have HB5 := Lib.hid hb5
        clear HR4 HC4 HB4 hr5 hc5 hb5 hg5
        go_wp2_with fail
        go_roundw
        case rel => exact ⟨k + 1, by omega, by go_num, HR5.out, HC5.out, HB5.out, hz5⟩
        case measure => simp [intOf]; omega
      · go_wp2_with fail
        refine (xor_int g w.heap.size (k + 1) (encT (encN kb s k)) (fun i => kb ((k + 1) * 16 + i)) w3 _ (by omega) (by omega) (by omega) (fun i hi => encT_lt HE.out hi) (fun i hi => hkb _ (by omega)) HR3.out HC3.out.lt (fun j hj => HC3.out.keyT (by omega) hj)).mono ?_
        rintro e w5 ⟨rfl, hr5, hg5⟩
        have hc5 := HC3.out.grown hg5 (by omega)
        have hb5 := below_of_grown HB3.out hg5 (by omega) (Nat.le_refl _)
        have hz5 : w.heap.size < w5.heap.size := Nat.lt_of_lt_of_le hz3 hg5.size
        have HR5 : Hid (w5.rowIs w.heap.size 33 16 (fun i => .int .u8 (encN kb s (k + 1) i : Nat))) := hr5.congr (fun i hi => by
          show _ = Value.int .u8 (encS kb (k + 1) (encN kb s k) i : Nat)
          unfold encS
          rw [if_neg e1])
        have HC5 := Lib.hid hc5
        have HB5 := Lib.hid hb5
        clear HR3 HC3 HB3 hr5 hc5 hb5 hg5
        go_wp2_with fail
        go_roundw
        case rel => exact ⟨k + 1, by omega, by go_num, HR5.out, HC5.out, HB5.out, hz5⟩
        case measure => simp [intOf]; omega
    · obtain rfl : k = 14 := by omega
      have HR := Lib.hid hr
      have HBr := Lib.hid hbw
      clear hr hc hbw
      go_wp2_with fail
      go_ret2
      exact ⟨rfl, HR.out, HBr.out⟩
end Go.Proofs.Ytmldpamkghdohaa
