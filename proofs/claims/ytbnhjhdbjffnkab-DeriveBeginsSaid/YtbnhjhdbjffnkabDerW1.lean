/-
  CHAPTER 04, IN PLAIN LEAN; THE WALKS OF derive.begun's closure AND OF begun. Conditions: the key reads as a list of bytes.
-/
import Derived.Test.YtbnhjhdbjffnkabShaCutW
namespace Go.Proofs.Ytbnhjhdbjffnkab
open Go.RowKit
set_option linter.unusedSimpArgs false
set_option linter.unusedVariables false

/-- A key of at most 64 bytes, noughts behind it, turned by t. -/
def padS (k : List Nat) (t : Nat) : List Nat := (List.range 64).map fun i => nth k i ^^^ t
def keyS (key : List Nat) : List Nat := if 64 < key.length then sha key else key
def hmac (key b : List Nat) : List Nat := sha (padS (keyS key) 92 ++ sha (padS (keyS key) 54 ++ b))
theorem padS_length (k : List Nat) (t : Nat) : (padS k t).length = 64 := by simp [padS]
theorem keyS_length (key : List Nat) : (keyS key).length ≤ 64 := by
  unfold keyS
  split
  · rw [sha_length]; omega
  · omega
theorem xor8_lt {a b : Nat} (ha : a < 256) (hb : b < 256) : a ^^^ b < 256 := Nat.xor_lt_two_pow (n := 8) ha hb
theorem padS_lt {k : List Nat} (hk : ∀ x ∈ k, x < 256) {t : Nat} (ht : t < 256) : ∀ x ∈ padS k t, x < 256 := by
  intro x hx
  obtain ⟨i, _, rfl⟩ := List.mem_map.1 hx
  exact xor8_lt (nth_lt hk i) ht
theorem nth_none {l : List Nat} {i : Nat} (h : l.length ≤ i) : nth l i = 0 := by simp [nth, List.getElem?_eq_none h]
theorem row_rd {w : World} {g t n : Nat} {f : Nat → Nat} (h : w.rowIs g t n (fun i => .int .u8 (f i : Nat))) (hf : ∀ i, i < n → f i < 256) : Rd w (some ⟨g, 0, none⟩) ((List.range n).map f) := by
  refine ⟨fun x hx => ?_, fun _ => ⟨g, 0, rfl, h.lt, fun i hi => ?_⟩⟩
  · obtain ⟨i, hi, rfl⟩ := List.mem_map.1 hx
    exact hf i (by simpa using hi)
  · have hi : i < n := by simpa using hi
    rw [Nat.zero_add, h.cell hi]
    simp [nth, hi]
theorem one_pad (w : World) (Z : Array Value) (hZ : Z = ((List.range 64).map fun _ => Value.int .u8 0).toArray) : Below w.heap.size w (w.alloc (.cells Z 65)) ∧ (w.alloc (.cells Z 65)).rowIs w.heap.size 65 64 (fun _ => .int .u8 0) := by
  subst hZ
  exact ⟨(Below.refl _ _).alloc (Nat.le_refl _) _, rowNew rfl (by simp) fun i hi => by simp [hi]⟩
set_option maxRecDepth 100000 in
set_option maxHeartbeats 2000000 in
theorem ahead_any (t p : Nat) (ht : t < 256) (A : Option Addr) (c : Nat) (k : List Nat) (hk : k.length ≤ 64) (w : World) (hbox : w.cell? ⟨p, 0, none⟩ = some (.slice A k.length c)) (hr : Rd w A k) :
    Calls Try.prog 41 #[.int .u8 t, .pointer (some ⟨p, 0, none⟩)] w fun e w' => ∃ g rv, e = .returned (.pointer (some ⟨g, 0, none⟩)) ∧ Dg w w' g rv (padS k t) := by
  have HR := Lib.hid hr
  have hpl := block_lt_of_cell hbox
  have HBX := Lib.hid hbox
  have HR1 := Lib.hid hr.1
  clear hr hbox
  go_enter Try.func41, Try.ntmps41
  go_wp2_with fail
  obtain ⟨hb0, hr0⟩ := one_pad w #[.int .u8 0, .int .u8 0, .int .u8 0, .int .u8 0, .int .u8 0, .int .u8 0, .int .u8 0, .int .u8 0, .int .u8 0, .int .u8 0, .int .u8 0, .int .u8 0, .int .u8 0, .int .u8 0, .int .u8 0, .int .u8 0, .int .u8 0, .int .u8 0, .int .u8 0, .int .u8 0, .int .u8 0, .int .u8 0, .int .u8 0, .int .u8 0, .int .u8 0, .int .u8 0, .int .u8 0, .int .u8 0, .int .u8 0, .int .u8 0, .int .u8 0, .int .u8 0, .int .u8 0, .int .u8 0, .int .u8 0, .int .u8 0, .int .u8 0, .int .u8 0, .int .u8 0, .int .u8 0, .int .u8 0, .int .u8 0, .int .u8 0, .int .u8 0, .int .u8 0, .int .u8 0, .int .u8 0, .int .u8 0, .int .u8 0, .int .u8 0, .int .u8 0, .int .u8 0, .int .u8 0, .int .u8 0, .int .u8 0, .int .u8 0, .int .u8 0, .int .u8 0, .int .u8 0, .int .u8 0, .int .u8 0, .int .u8 0, .int .u8 0, .int .u8 0] (by kernel_rfl)
  have hpx : (w.alloc (.cells #[.int .u8 0, .int .u8 0, .int .u8 0, .int .u8 0, .int .u8 0, .int .u8 0, .int .u8 0, .int .u8 0, .int .u8 0, .int .u8 0, .int .u8 0, .int .u8 0, .int .u8 0, .int .u8 0, .int .u8 0, .int .u8 0, .int .u8 0, .int .u8 0, .int .u8 0, .int .u8 0, .int .u8 0, .int .u8 0, .int .u8 0, .int .u8 0, .int .u8 0, .int .u8 0, .int .u8 0, .int .u8 0, .int .u8 0, .int .u8 0, .int .u8 0, .int .u8 0, .int .u8 0, .int .u8 0, .int .u8 0, .int .u8 0, .int .u8 0, .int .u8 0, .int .u8 0, .int .u8 0, .int .u8 0, .int .u8 0, .int .u8 0, .int .u8 0, .int .u8 0, .int .u8 0, .int .u8 0, .int .u8 0, .int .u8 0, .int .u8 0, .int .u8 0, .int .u8 0, .int .u8 0, .int .u8 0, .int .u8 0, .int .u8 0, .int .u8 0, .int .u8 0, .int .u8 0, .int .u8 0, .int .u8 0, .int .u8 0, .int .u8 0, .int .u8 0] 65)).cell? ⟨p, 0, none⟩ = some (.slice A k.length c) := (hb0.cell (p := ⟨p, 0, none⟩) hpl).trans HBX.out
  have hrx := HR.out.below hb0
  generalize w.alloc (.cells #[.int .u8 0, .int .u8 0, .int .u8 0, .int .u8 0, .int .u8 0, .int .u8 0, .int .u8 0, .int .u8 0, .int .u8 0, .int .u8 0, .int .u8 0, .int .u8 0, .int .u8 0, .int .u8 0, .int .u8 0, .int .u8 0, .int .u8 0, .int .u8 0, .int .u8 0, .int .u8 0, .int .u8 0, .int .u8 0, .int .u8 0, .int .u8 0, .int .u8 0, .int .u8 0, .int .u8 0, .int .u8 0, .int .u8 0, .int .u8 0, .int .u8 0, .int .u8 0, .int .u8 0, .int .u8 0, .int .u8 0, .int .u8 0, .int .u8 0, .int .u8 0, .int .u8 0, .int .u8 0, .int .u8 0, .int .u8 0, .int .u8 0, .int .u8 0, .int .u8 0, .int .u8 0, .int .u8 0, .int .u8 0, .int .u8 0, .int .u8 0, .int .u8 0, .int .u8 0, .int .u8 0, .int .u8 0, .int .u8 0, .int .u8 0, .int .u8 0, .int .u8 0, .int .u8 0, .int .u8 0, .int .u8 0, .int .u8 0, .int .u8 0, .int .u8 0] 65) = X at *
  have HB0 := Lib.hid hb0
  have HR0 := Lib.hid hr0
  have HRX := Lib.hid hrx
  clear hb0 hr0 hrx HR
  refine wp_region_still_tail 2 (by kernel_rfl) (by kernel_rfl) ?_
  simp only [List.take_succ_cons, List.take_zero, List.drop_succ_cons, List.drop_zero]
  repeat still_step
  try refine wpStill_nil ?_
  change wpList _ _ _ _ _ X.drew
  have hrd : X.drew.rowIs w.heap.size 65 64 (fun _ => .int .u8 0) := HR0.out
  refine copy_bytes (.tmp 7) (.tmp 8) rfl rfl w.heap.size 0 64 64 rfl A k.length c rfl 65 64 _ hrd k (by show k.length = min k.length 64; omega) HRX.out.drew (by omega) ?_
  intro w1 hro hg1
  have hro : w1.rowIs w.heap.size 65 64 (fun j => .int .u8 (upd 0 (fun i => nth k i ^^^ t) (nth k) j : Nat)) := hro.congr fun j hj => by
    rw [upd_zero]
    by_cases e : j < k.length
    · rw [if_pos (by omega), Nat.sub_zero]
    · rw [if_neg (by omega), nth_none (by omega)]
      rfl
  have hb1 : Below w.heap.size w w1 := below_of_grown (below_drewN' HB0.out 1) hg1 HB0.out.size (Nat.le_refl _)
  have HRO := Lib.hid hro
  have HB1 := Lib.hid hb1
  clear hrd hro hg1 hb1 HR0 HB0 HRX hpx
  go_wp2_with fail
  go_loopw [10] (fun v wr => ∃ i : Nat, i ≤ 64 ∧ v = .int .i64 i ∧ wr.rowIs w.heap.size 65 64 (fun j => .int .u8 (upd i (fun i => nth k i ^^^ t) (nth k) j : Nat)) ∧ w1.grownBy wr (some w.heap.size)) (fun v _ => 64 - (intOf v).toNat)
  case atStart => exact ⟨0, by omega, rfl, HRO.out, grown_refl _ _⟩
  case round =>
    obtain ⟨i, hi, rfl, hro, hg⟩ := hrel
    have HRo := Lib.hid hro
    have HG := Lib.hid hg
    clear hro hg
    by_cases i64 : i < 64
    · have i64' : (i : Int) < 64 := by omega
      have c1 := HRo.out.cell i64
      have x1 := HRo.out.frozen i
      rw [upd_ge _ _ (Nat.le_refl _)] at c1
      have hx := u8_xor_nat (nth k i) t (nth_lt HR1.out i) ht
      go_wp2_with fail
      go_roundw
      case rel =>
        first
        | exact ⟨i + 1, by omega, by go_num, row_upd8v HRo.out rfl, grown_set (p := ⟨w.heap.size, i, none⟩) HG.out (.inl rfl) _⟩
        | (repeat apply Exists.intro); refine ⟨⟨i + 1, by omega, by go_num, row_upd8v HRo.out rfl, grown_set (p := ⟨w.heap.size, i, none⟩) HG.out (.inl rfl) _⟩, rfl⟩
      case measure => simp [intOf]; omega
    · obtain rfl : i = 64 := by omega
      go_wp2_with fail
      have hrp : Rd wr (some ⟨w.heap.size, 0, none⟩) (padS k t) := row_rd (HRo.out.congr fun j hj => by rw [upd_lt _ _ hj]) (fun i hi => xor8_lt (nth_lt HR1.out i) ht)
      have hb3 : Below w.heap.size w wr := below_of_grown HB1.out HG.out HB1.out.size (Nat.le_refl _)
      have HRP := Lib.hid hrp
      have HB3 := Lib.hid hb3
      clear hrp hb3 HRo HG
      refine (dnew_any wr).mono ?_
      rintro e w2 ⟨rfl, hrow, hb2⟩
      have hdg : Dg w w2 wr.heap.size (.slice none 0 0) [] := ⟨dr_new hrow, Ow.nil _ _, by simp [Value.ownBlock], HB3.out.size, HB3.out.trans (hb2.mono HB3.out.size)⟩
      have HRP2 := Lib.hid (HRP.out.below hb2)
      have HDG := Lib.hid hdg
      clear hrow hb2 hdg HRP HB3
      generalize wr.heap.size = g at *
      go_wp2_with fail
      refine (write_dg HDG.out (by simp) _ 64 64 (padS k t) (padS_length k t).symm (by rw [padS_length]; omega) HRP2.out).mono ?_
      rintro e w3 ⟨rfl, rv', hd3, -, -⟩
      have HD3 := Lib.hid hd3
      clear hd3
      go_wp2_with fail
      go_ret
      exact ⟨g, rv', rfl, HD3.out⟩
end Go.Proofs.Ytbnhjhdbjffnkab
