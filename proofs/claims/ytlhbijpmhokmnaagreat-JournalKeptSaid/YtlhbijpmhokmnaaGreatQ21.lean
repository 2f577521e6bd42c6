/-
  THE WALKS OF THE AES CHAPTER's SCALAR FUNCTIONS, the second part. Conditions: the arguments are bytes.
  THE WALKS OF THE AES CHAPTER's STATE FUNCTIONS: xor with a round key, moved, mixed. Conditions: the pointers lead to rows of bytes, the cipher's block is another one.
  THE WALKS OF THE AES CHAPTER's STATE FUNCTIONS: mixed. Conditions: the pointer leads to a row of bytes.
-/
import Derived.Test.YtlhbijpmhokmnaaGreatQ20
import Derived.Test.YtlhbijpmhokmnaaGreatQ01
import Derived.StillTailTactics
import Derived.Deep.QuietTactic
import Derived.BigQuiet
import Derived.Deep.RegionHeld3
import Derived.Deep.MidRow
import Derived.Deep.WholeRow
namespace Go.Proofs.YtlhbijpmhokmnaaGreat
open Go.RowKit
set_option linter.unusedSimpArgs false
set_option linter.unusedVariables false

set_option maxHeartbeats 400000 in
theorem inverse_any (b : Nat) (hb : b < 256) (w : World) :
    Calls Tryz.prog 96 #[.int .u8 b] w fun e w' => e = .returned (.int .u8 (inv b)) ∧ w = w' := by
  unfold inv
  go_enter Tryz.func96, Tryz.ntmps96
  go_wp2
  go_loop [0, 3, 4] (fun x p e => ∃ (f b' p' e' : Nat), b' < 256 ∧ p' < 256 ∧ e' < 2 ^ f ∧ f ≤ 8 ∧ x = .int .u8 b' ∧ p = .int .u8 p' ∧ e = .int .i64 e' ∧ invF f p' b' e' = invF 8 1 b 254) (fun _ _ e => (intOf e).toNat)
  case atStart => exact ⟨8, b, 1, 254, by omega, by omega, by omega, by omega, rfl, rfl, rfl, rfl⟩
  case round =>
    obtain ⟨f, b', p', e', h1, h2, h3, h4, rfl, rfl, rfl, h5⟩ := hrel
    have H5 := Lib.hid h5
    clear h5
    have he : e' < 256 := Nat.lt_of_lt_of_le h3 (Nat.pow_le_pow_right (by omega) h4)
    by_cases e0 : e' = 0
    · subst e0
      go_wp2
      go_ret
      refine ⟨?_, rfl⟩
      rw [← H5.out, invF_zero]
      rfl
    · obtain ⟨f, rfl⟩ : ∃ g, f = g + 1 := ⟨f - 1, by cases f with | zero => simp at h3; omega | succ f => rfl⟩
      have hb1 : 0 < e' := by omega
      clear e0
      have H3 : e' / 2 < 2 ^ f := by rw [Nat.pow_succ] at h3; omega
      have k1 := i64_and1 e' (by omega)
      have H5' := H5.out
      rw [invF_succ] at H5'
      rcases Nat.mod_two_eq_zero_or_one e' with c1 | c1
      all_goals
        simp only [c1] at k1 H5'
        have H6 := Lib.hid H5'
        clear c1 H5'
        go_wp2_with (first | (go_at_call 85; refine (times_any _ _ (by assumption) (by assumption) _).mono ?_; rintro e w' ⟨rfl, rfl⟩))
        go_round
        case rel => exact ⟨f, tm b' b', _, e' / 2, tm_lt _ _ h1, (by first | exact h2 | exact tm_lt _ _ h2), H3, by omega, rfl, rfl, by go_num, H6.out⟩
        case measure => simp [intOf]; omega

set_option maxHeartbeats 400000 in
theorem sub_any (b : Nat) (hb : b < 256) (w : World) :
    Calls Tryz.prog 83 #[.int .u8 b] w fun e w' => e = .returned (.int .u8 (sb b)) ∧ w = w' := by
  have hc := inv_lt hb
  rw [sb_def]
  go_enter Tryz.func83, Tryz.ntmps83
  go_wp2_with (first | (go_at_call 96; refine (inverse_any _ hb _).mono ?_; rintro e w' ⟨rfl, rfl⟩))
  go_loop [4, 8] (fun s i => ∃ (f k s' : Nat), k + f = 5 ∧ s' < 256 ∧ i = .int .i64 k ∧ s = .int .u8 s' ∧ sbF f k (inv b) s' = sbF 5 0 (inv b) 99) (fun _ i => 5 - (intOf i).toNat)
  case atStart => exact ⟨5, 0, 99, by omega, by omega, rfl, rfl, rfl⟩
  case round =>
    obtain ⟨f, k, s', h1, h2, rfl, rfl, h5⟩ := hrel
    have H5 := Lib.hid h5
    have H1 := Lib.hid h1
    clear h5 h1
    have hk : k ≤ 5 := by have := H1.out; omega
    by_cases e0 : k < 5
    · obtain ⟨f, rfl⟩ : ∃ g, f = g + 1 := ⟨f - 1, by have := H1.out; omega⟩
      have H5' := H5.out
      rw [sbF_succ] at H5'
      have H6 := Lib.hid H5'
      clear H5' H5
      have k3 : bits BinOp.xor IntKind.u8 (s' : Int) ((rot8 (inv b) k : Nat) : Int) = ((s' ^^^ rot8 (inv b) k : Nat) : Int) := u8_xor_nat _ _ h2 (rot8_lt _ hc)
      go_wp2_with (first | (go_at_call 97; refine (rot8_any _ _ hc (by omega) _).mono ?_; rintro e w' ⟨rfl, rfl⟩))
      go_round
      case rel => exact ⟨f, k + 1, _, by have := H1.out; omega, xor_lt8 h2 (rot8_lt _ hc), by go_num, rfl, H6.out⟩
      case measure => simp [intOf]; omega
    · obtain rfl : k = 5 := by omega
      obtain rfl : f = 0 := by have := H1.out; omega
      clear H1
      go_wp2
      go_ret
      exact ⟨by rw [← H5.out]; rfl, rfl⟩

set_option maxHeartbeats 400000 in
theorem back_any (b : Nat) (hb : b < 256) (w : World) :
    Calls Tryz.prog 84 #[.int .u8 b] w fun e w' => e = .returned (.int .u8 (bk b)) ∧ w = w' := by
  have h1 := rot8_lt 1 hb
  have h3 := rot8_lt 3 hb
  have h6 := rot8_lt 6 hb
  unfold bk
  have k3 : bits BinOp.xor IntKind.u8 ((rot8 b 1 : Nat) : Int) ((rot8 b 3 : Nat) : Int) = ((rot8 b 1 ^^^ rot8 b 3 : Nat) : Int) := u8_xor_nat _ _ h1 h3
  have k4 : bits BinOp.xor IntKind.u8 ((rot8 b 1 ^^^ rot8 b 3 : Nat) : Int) ((rot8 b 6 : Nat) : Int) = ((rot8 b 1 ^^^ rot8 b 3 ^^^ rot8 b 6 : Nat) : Int) := u8_xor_nat _ _ (xor_lt8 h1 h3) h6
  have k5 : bits BinOp.xor IntKind.u8 ((rot8 b 1 ^^^ rot8 b 3 ^^^ rot8 b 6 : Nat) : Int) 5 = ((rot8 b 1 ^^^ rot8 b 3 ^^^ rot8 b 6 ^^^ 5 : Nat) : Int) :=
    u8_xor_nat _ 5 (xor_lt8 (xor_lt8 h1 h3) h6) (by omega)
  have h7 := xor_lt8 (xor_lt8 (xor_lt8 h1 h3) h6) (show 5 < 256 by omega)
  go_enter Tryz.func84, Tryz.ntmps84
  go_wp2_with fail
  refine (rot8_any b 1 hb (by omega) _).mono ?_
  rintro e w' ⟨rfl, rfl⟩
  go_wp2_with fail
  refine (rot8_any b 3 hb (by omega) _).mono ?_
  rintro e w' ⟨rfl, rfl⟩
  go_wp2_with fail
  refine (rot8_any b 6 hb (by omega) _).mono ?_
  rintro e w' ⟨rfl, rfl⟩
  go_wp2_with fail
  refine (inverse_any _ h7 _).mono ?_
  rintro e w' ⟨rfl, rfl⟩
  go_wp2_with fail
  go_ret
  exact ⟨rfl, rfl⟩

/-! ### The reference's Sub -/
def rinvF (b : Nat) : Nat → Nat → Nat → Nat
  | 0, _, c => c
  | f + 1, x, c => rinvF b f (x + 1) (if rtm x b = 1 then x else c)
theorem rinvF_eq {b : Nat} (hb : b < 256) (f : Nat) : ∀ x c, x + f = 256 → 1 ≤ x → (c = 0 ∨ c = inv b) → (c = 0 → ∀ y, 1 ≤ y → y < x → tm y b ≠ 1) → rinvF b f x c = inv b := by
  induction f with
  | zero =>
    intro x c hx _ hc hn
    have e : x = 256 := by omega
    subst e
    rcases hc with h | h
    · subst h
      rcases Nat.eq_zero_or_pos b with h0 | h0
      · subst h0; exact inv_zero.symm
      · have h1 := inv_mul hb (by omega)
        have hne : inv b ≠ 0 := by
          intro e
          rw [e, tm_zero_l] at h1
          cases h1
        exact absurd h1 (hn rfl (inv b) (by omega) (inv_lt hb))
    · exact h
  | succ f ih =>
    intro x c hx h1 hc hn
    unfold rinvF
    have ex : rtm x b = tm x b := rtm_eq (by omega) hb
    rw [ex]
    split
    · rename_i h
      refine ih _ _ (by omega) (by omega) (.inr (inv_only (by omega) hb h)) ?_
      intro e
      omega
    · rename_i h
      refine ih _ _ (by omega) (by omega) hc ?_
      intro e y hy hy2
      rcases Nat.lt_or_ge y x with hlt | hge
      · exact hn e y hy hlt
      · have : y = x := by omega
        subst this
        exact h
theorem rinv_eq {b : Nat} (hb : b < 256) : rinvF b 255 1 0 = inv b := rinvF_eq hb 255 1 0 (by omega) (by omega) (.inl rfl) (fun _ y h1 h2 => by omega)
theorem rinvF_lt (b : Nat) (f : Nat) : ∀ x c, x + f ≤ 256 → c < 256 → rinvF b f x c < 256 := by
  induction f with
  | zero => intro x c _ h; exact h
  | succ f ih =>
    intro x c hx hc
    unfold rinvF
    exact ih _ _ (by omega) (by split <;> omega)

theorem bit_step (bit c e : Nat) (h1 : bit < 2) (h2 : c < 256) : bits BinOp.xor IntKind.i64 (bit : Int) (bits BinOp.and IntKind.i64 ((c : Int) / 2 ^ e) 1) = ((bit ^^^ (c / 2 ^ e % 2) : Nat) : Int) := by
  have hle := Nat.div_le_self c (2 ^ e)
  have k1 : bits BinOp.and IntKind.i64 ((c : Int) / 2 ^ e) 1 = ((c / 2 ^ e % 2 : Nat) : Int) := by
    have := i64_and1 (c / 2 ^ e) (by omega)
    simpa using this
  rw [k1, i64_xor_nat _ _ (by omega) (by omega)]
theorem xor_lt2 {a b : Nat} (ha : a < 2) : a ^^^ b % 2 < 2 := Nat.xor_lt_two_pow (n := 1) ha (by omega)

end Go.Proofs.YtlhbijpmhokmnaaGreat
namespace Go.Proofs.YtlhbijpmhokmnaaGreat
open Go.RowKit
set_option linter.unusedSimpArgs false
set_option linter.unusedVariables false

set_option maxRecDepth 100000 in
set_option maxHeartbeats 1000000 in
theorem xor_any (gc gs r : Nat) (s K : Nat → Nat) (w : World) (hr : r < 15) (hne : gc ≠ gs) (hs : ∀ i, i < 16 → s i < 256) (hK : ∀ i, i < 16 → K i < 256)
    (hrow : w.rowIs gs 106 16 (fun i => .int .u8 (s i))) (hcl : gc < w.heap.size) (hk : ∀ j, j < 16 → w.cell? ⟨gc, 513 + r * 16 + j, none⟩ = some (.int .u8 (K j))) :
    Calls Tryz.prog 110 #[.pointer (some ⟨gc, 0, none⟩), .pointer (some ⟨gs, 0, none⟩), .int .i64 r] w fun e w' => e = .returned (.tuple #[]) ∧
      w'.rowIs gs 106 16 (fun i => .int .u8 (s i ^^^ K i : Nat)) ∧ w.grownBy w' (some gs) := by
  have hrI : (r : Int) < 15 := by omega
  have HK := Lib.hid hk
  clear hk
  go_enter Tryz.func110, Tryz.ntmps110
  go_wp2
  go_loopw [7] (fun i wr => ∃ k : Nat, k ≤ 16 ∧ i = .int .i64 k ∧ wr.rowIs gs 106 16 (fun j => .int .u8 (upd k (fun j => s j ^^^ K j) s j : Nat)) ∧ w.grownBy wr (some gs)) (fun i _ => 16 - (intOf i).toNat)
  case atStart => exact ⟨0, by omega, rfl, hrow.congr (fun i _ => by rw [upd_zero]), grown_refl _ _⟩
  case round =>
    obtain ⟨k, hk, rfl, hrw, hg⟩ := hrel
    by_cases e0 : k < 16
    · have c1 : wr.cell? ⟨gs, k, none⟩ = some (.int .u8 (s k)) := by rw [hrw.cell e0, upd_ge _ _ (Nat.le_refl _)]
      have c2 : wr.cell? ⟨gc, 513 + r * 16 + k, none⟩ = some (.int .u8 (K k)) := (grown_cell hg (p := ⟨gc, 513 + r * 16 + k, none⟩) hcl hne).trans (HK.out k e0)
      have c3 := hrw.frozen k
      have k3 : bits BinOp.xor IntKind.u8 (s k : Int) (K k : Int) = ((s k ^^^ K k : Nat) : Int) := u8_xor_nat _ _ (hs k e0) (hK k e0)
      have HR := Lib.hid hrw
      have HG := Lib.hid hg
      clear hrw hg
      go_wp2_with fail
      go_still_tail 16, (by kernel_rfl)
      change wpList _ _ _ _ _ wr.drew
      go_wp2
      go_roundw
      case rel =>
        refine ⟨k + 1, by omega, by go_num, ?_, ?_⟩
        · exact row_upd (a := fun j => s j ^^^ K j) HR.out.drew
        · exact grown_set (grown_drew HG.out) (.inl rfl) _
      case measure => simp [intOf]; omega
    · obtain rfl : k = 16 := by omega
      go_wp2
      go_end0
      exact ⟨rfl, hrw.congr (fun i hi => by rw [upd_lt _ _ hi]), hg⟩

/-! ### The rows of the shift, and moved -/
def pe (i : Nat) : Nat := (i + 4 * (i % 4)) % 16
def pd (i : Nat) : Nat := (i + 12 * (i % 4)) % 16
theorem pe_lt (i : Nat) : pe i < 16 := Nat.mod_lt _ (by omega)
theorem pd_lt (i : Nat) : pd i < 16 := Nat.mod_lt _ (by omega)
theorem pe_any (i : Nat) (hi : i < 16) (w : World) : Calls Tryz.prog 112 #[.int .i64 i] w fun e w' => e = .returned (.int .i64 (pe i)) ∧ w' = w := by
  go_enter Tryz.func112, Tryz.ntmps112
  go_wp2
  go_ret
  exact ⟨by simp [pe], rfl⟩
theorem size16 : (Tryz.prog.info? 106).map (·.size) = some 16 := by kernel_rfl

set_option maxRecDepth 100000 in
set_option maxHeartbeats 1000000 in
theorem moved_enc (gc gs o : Nat) (s T : Nat → Nat) (w : World) (hne : gc ≠ gs) (hs : ∀ i, i < 16 → s i < 256) (hT : ∀ i, i < 256 → T i < 256)
    (hrow : w.rowIs gs 106 16 (fun i => .int .u8 (s i))) (hcl : gc < w.heap.size) (hk : ∀ j, j < 256 → w.cell? ⟨gc, o + j, none⟩ = some (.int .u8 (T j))) :
    Calls Tryz.prog 111 #[.pointer (some ⟨gs, 0, none⟩), .pointer (some ⟨gc, o, none⟩), .func (.func 112) #[] #[]] w fun e w' => e = .returned (.tuple #[]) ∧
      w'.rowIs gs 106 16 (fun i => .int .u8 (T (s (pe i)) : Nat)) ∧ w.grownBy w' (some gs) := by
  have HK := Lib.hid hk
  clear hk
  obtain ⟨cs, hb, hcs, hcell⟩ := hrow
  have HB := Lib.hid hb
  have HC := Lib.hid hcs
  have HCE := Lib.hid hcell
  clear hb hcs hcell
  go_enter Tryz.func111, Tryz.ntmps111
  go_wp2_with (first
    | (refine wpList_load_row rfl 106 (.tmp 9) rfl gs rfl 106 cs (0, 0) _ HB.out Tryz.underlying106 rfl (by rw [HC.out]; exact size16) ?_)
    | (refine wpList_store_new 106 (.tmp 6) (.tmp 10) rfl rfl _ cs rfl rfl (by rw [HC.out]; exact size16) (by rw [HC.out]; rfl) (bytes_oneCell HC.out HCE.out) ?_))
  have hb := HB.out
  have hB := lt_of_block hb
  have hrow2 : (w.alloc (.cells cs 106)).rowIs gs 106 16 (fun i => .int .u8 (s i)) := World.rowIs.alloc ⟨cs, hb, HC.out, HCE.out⟩ _
  have hrow3 : (w.alloc (.cells cs 106)).rowIs w.heap.size 106 16 (fun i => .int .u8 (s i)) := ⟨cs, heap_alloc_new w _, HC.out, HCE.out⟩
  have hg0 : w.grownBy (w.alloc (.cells cs 106)) (some gs) := World.grownBy_alloc _ _ _
  clear hb HB HC HCE
  go_loopw [11] (fun i wr => ∃ k : Nat, k ≤ 16 ∧ i = .int .i64 k ∧ wr.rowIs gs 106 16 (fun j => .int .u8 (upd k (fun j => T (s (pe j))) s j : Nat)) ∧
      wr.rowIs w.heap.size 106 16 (fun i => .int .u8 (s i)) ∧ w.grownBy wr (some gs)) (fun i _ => 16 - (intOf i).toNat)
  case atStart => exact ⟨0, by omega, rfl, hrow2.congr (fun i _ => by rw [upd_zero]), hrow3, hg0⟩
  case round =>
    clear hrow2 hrow3 hg0
    obtain ⟨k, hk, rfl, hrw, hrb, hg⟩ := hrel
    by_cases e0 : k < 16
    · have c1 : wr.cell? ⟨w.heap.size, pe k, none⟩ = some (.int .u8 (s (pe k))) := hrb.cell (pe_lt k)
      have c2 : wr.cell? ⟨gc, o + s (pe k), none⟩ = some (.int .u8 (T (s (pe k)))) := (grown_cell hg (p := ⟨gc, o + s (pe k), none⟩) hcl hne).trans (HK.out _ (hs _ (pe_lt k)))
      have c3 := hrw.frozen k
      have c4 := hrw.cell e0
      have b1 : ((pe k : Nat) : Int) < 16 := by have := pe_lt k; omega
      have b2 : ((s (pe k) : Nat) : Int) < 256 := by have := hs _ (pe_lt k); omega
      have HR := Lib.hid hrw
      have HRB := Lib.hid hrb
      have HG := Lib.hid hg
      clear hrw hg hrb
      go_wp2_with fail
      refine wp_region_still_tail 13 (by kernel_rfl) (by kernel_rfl) ?_
      simp only [List.take_succ_cons, List.take_zero, List.drop_succ_cons, List.drop_zero]
      repeat still_step
      still_call (pe_any k e0 _)
      repeat still_step
      try refine wpStill_nil ?_
      change wpList _ _ _ _ _ wr.drew
      go_wp2
      go_roundw
      case rel =>
        refine ⟨k + 1, by omega, by go_num, ?_, ?_, ?_⟩
        · exact row_upd (a := fun j => T (s (pe j))) HR.out.drew
        · exact (HRB.out.drew).setOther (by show w.heap.size ≠ gs; omega) _
        · exact grown_set (grown_drew HG.out) (.inl rfl) _
      case measure => simp [intOf]; omega
    · obtain rfl : k = 16 := by omega
      go_wp2
      go_end0
      exact ⟨rfl, hrw.congr (fun i hi => by rw [upd_lt _ _ hi]), hg⟩
end Go.Proofs.YtlhbijpmhokmnaaGreat
namespace Go.Proofs.YtlhbijpmhokmnaaGreat
open Go.RowKit
set_option linter.unusedSimpArgs false
set_option linter.unusedVariables false

def mixF (s : Nat → Nat) (a b c d i : Nat) : Nat := tm (s (i / 4 * 4 + i % 4)) a ^^^ tm (s (i / 4 * 4 + (i + 1) % 4)) b ^^^ tm (s (i / 4 * 4 + (i + 2) % 4)) c ^^^ tm (s (i / 4 * 4 + (i + 3) % 4)) d
theorem mix_ix {i k : Nat} (hi : i < 16) : i / 4 * 4 + (i + k) % 4 < 16 := by omega
theorem times_still (a b : Nat) (ha : a < 256) (hb : b < 256) (w : World) :
    Calls Tryz.prog 85 #[.int .u8 a, .int .u8 b] w fun e w' => e = .returned (.int .u8 (tm a b)) ∧ w' = w :=
  (times_any a b ha hb w).mono fun _ _ ⟨h, k⟩ => ⟨h, k.symm⟩
set_option maxHeartbeats 1000000 in
theorem mixat_any (gw gc gi i k : Nat) (s : Nat → Nat) (w : World) (hi : i < 16) (hk : k < 4) (hw : ∀ j, j < 16 → w.cell? ⟨gw, j, none⟩ = some (.int .u8 (s j)))
    (hc : w.cell? ⟨gc, 0, none⟩ = some (.int .i64 ((i / 4 * 4 : Nat) : Int))) (hci : w.cell? ⟨gi, 0, none⟩ = some (.int .i64 i)) :
    Calls Tryz.prog 117 #[.int .i64 k, .pointer (some ⟨gw, 0, none⟩), .pointer (some ⟨gc, 0, none⟩), .pointer (some ⟨gi, 0, none⟩)] w fun e w' =>
      e = .returned (.int .u8 (s (i / 4 * 4 + (i + k) % 4))) ∧ w' = w := by
  have hx := hw _ (mix_ix (k := k) hi)
  have b1 : ((i / 4 * 4 : Nat) : Int) + ((i : Int) + k) % 4 < 16 := by omega
  have b2 : (((i / 4 * 4 : Nat) : Int) + ((i : Int) + k) % 4).toNat = i / 4 * 4 + (i + k) % 4 := by omega
  clear hw
  go_enter Tryz.func117, Tryz.ntmps117
  go_wp2
  go_ret
  exact ⟨rfl, rfl⟩

theorem i64_clear3 (i : Nat) (hi : i < 16) : bits BinOp.andNot IntKind.i64 (i : Int) 3 = ((i / 4 * 4 : Nat) : Int) := by
  have h : ∀ i : Nat, i < 16 → bits BinOp.andNot IntKind.i64 (i : Int) 3 = ((i / 4 * 4 : Nat) : Int) := by decide +kernel
  exact h i hi

set_option maxRecDepth 100000 in
set_option maxHeartbeats 2000000 in
theorem mixed_any (gs a b c d : Nat) (s : Nat → Nat) (w : World) (hs : ∀ i, i < 16 → s i < 256) (ha : a < 256) (hb : b < 256) (hc : c < 256) (hd : d < 256)
    (hrow : w.rowIs gs 106 16 (fun i => .int .u8 (s i))) :
    Calls Tryz.prog 113 #[.pointer (some ⟨gs, 0, none⟩), .int .u8 a, .int .u8 b, .int .u8 c, .int .u8 d] w fun e w' => e = .returned (.tuple #[]) ∧
      w'.rowIs gs 106 16 (fun i => .int .u8 (mixF s a b c d i : Nat)) ∧ w.grownBy w' (some gs) := by
  obtain ⟨cs, hblk, hcs, hcell⟩ := hrow
  have HB := Lib.hid hblk
  have HC := Lib.hid hcs
  have HCE := Lib.hid hcell
  clear hblk hcs hcell
  go_enter Tryz.func113, Tryz.ntmps113
  go_wp2_with (first
    | (refine wpList_load_row rfl 106 (.tmp 15) rfl gs rfl 106 cs (0, 0) _ HB.out Tryz.underlying106 rfl (by rw [HC.out]; exact size16) ?_)
    | (refine wpList_store_new 106 (.tmp 10) (.tmp 16) rfl rfl _ cs rfl rfl (by rw [HC.out]; exact size16) (by rw [HC.out]; rfl) (bytes_oneCell HC.out HCE.out) ?_))
  have hblk := HB.out
  have hB := lt_of_block hblk
  have hrow2 : (w.alloc (.cells cs 106)).rowIs gs 106 16 (fun i => .int .u8 (s i)) := World.rowIs.alloc ⟨cs, hblk, HC.out, HCE.out⟩ _
  have hrow3 : (w.alloc (.cells cs 106)).rowIs w.heap.size 106 16 (fun i => .int .u8 (s i)) := ⟨cs, heap_alloc_new w _, HC.out, HCE.out⟩
  have hg0 : w.grownBy (w.alloc (.cells cs 106)) (some gs) := World.grownBy_alloc _ _ _
  have hsz0 : w.heap.size < (w.alloc (.cells cs 106)).heap.size := by simp
  clear hblk HB HC HCE
  go_loopw [17] (fun i wr => ∃ k : Nat, k ≤ 16 ∧ i = .int .i64 k ∧ wr.rowIs gs 106 16 (fun j => .int .u8 (upd k (mixF s a b c d) s j : Nat)) ∧
      wr.rowIs w.heap.size 106 16 (fun i => .int .u8 (s i)) ∧ w.grownBy wr (some gs) ∧ w.heap.size < wr.heap.size) (fun i _ => 16 - (intOf i).toNat)
  case atStart => exact ⟨0, by omega, rfl, hrow2.congr (fun i _ => by rw [upd_zero]), hrow3, hg0, hsz0⟩
  case round =>
    clear hrow2 hrow3 hg0 hsz0
    obtain ⟨k, hk, rfl, hrw, hrb, hg, hsz⟩ := hrel
    by_cases e0 : k < 16
    · have k1 := i64_clear3 k e0
      have hgs : gs ≠ wr.heap.size ∧ gs ≠ wr.heap.size + 1 := by omega
      have HR := Lib.hid hrw
      have HRB := Lib.hid hrb
      have HG := Lib.hid hg
      clear hrw hg hrb
      go_wp2_with fail
      have w2 : ∀ j, j < 16 → ((wr.alloc (.cells #[.int .i64 (k : Int)] 3)).alloc (.cells #[.int .i64 ((k : Int) / 4 * 4)] 3)).cell? ⟨w.heap.size, j, none⟩ = some (.int .u8 (s j)) :=
        fun j hj => ((HRB.out.alloc _).alloc _).cell hj
      have wc : ((wr.alloc (.cells #[.int .i64 (k : Int)] 3)).alloc (.cells #[.int .i64 ((k : Int) / 4 * 4)] 3)).cell? ⟨wr.heap.size + 1, 0, none⟩ = some (.int .i64 ((k / 4 * 4 : Nat) : Int)) := by
        have h := heap_alloc2_new wr (.cells #[.int .i64 (k : Int)] 3) (.cells #[.int .i64 ((k : Int) / 4 * 4)] 3)
        rw [cell_of_row _ _ _ _ _ _ h]
        simp
      have wi : ((wr.alloc (.cells #[.int .i64 (k : Int)] 3)).alloc (.cells #[.int .i64 ((k : Int) / 4 * 4)] 3)).cell? ⟨wr.heap.size, 0, none⟩ = some (.int .i64 (k : Int)) := by
        have h := heap_alloc2_old wr (.cells #[.int .i64 (k : Int)] 3) (.cells #[.int .i64 ((k : Int) / 4 * 4)] 3)
        rw [cell_of_row _ _ _ _ _ _ h]
        rfl
      have hr2 := (HR.out.alloc (.cells #[.int .i64 (k : Int)] 3)).alloc (.cells #[.int .i64 ((k : Int) / 4 * 4)] 3)
      have hrb2 := (HRB.out.alloc (.cells #[.int .i64 (k : Int)] 3)).alloc (.cells #[.int .i64 ((k : Int) / 4 * 4)] 3)
      have hg2 := grown_alloc (grown_alloc HG.out (.cells #[.int .i64 (k : Int)] 3)) (.cells #[.int .i64 ((k : Int) / 4 * 4)] 3)
      have hz2 : w.heap.size < ((wr.alloc (.cells #[.int .i64 (k : Int)] 3)).alloc (.cells #[.int .i64 ((k : Int) / 4 * 4)] 3)).heap.size := by simp; omega
      generalize (wr.alloc (.cells #[.int .i64 (k : Int)] 3)).alloc (.cells #[.int .i64 ((k : Int) / 4 * 4)] 3) = W at *
      have c3 := hr2.frozen k
      have c4 := hr2.cell e0
      have x0 : s (k / 4 * 4 + k % 4) < 256 := hs _ (by omega)
      have x1 := hs _ (mix_ix (k := 1) e0)
      have x2 := hs _ (mix_ix (k := 2) e0)
      have x3 := hs _ (mix_ix (k := 3) e0)
      have K1 : bits BinOp.xor IntKind.u8 (tm (s (k / 4 * 4 + k % 4)) a : Int) (tm (s (k / 4 * 4 + (k + 1) % 4)) b : Int) = ((tm (s (k / 4 * 4 + k % 4)) a ^^^ tm (s (k / 4 * 4 + (k + 1) % 4)) b : Nat) : Int) :=
        u8_xor_nat _ _ (tm_lt _ _ x0) (tm_lt _ _ x1)
      have K2 : bits BinOp.xor IntKind.u8 ((tm (s (k / 4 * 4 + k % 4)) a ^^^ tm (s (k / 4 * 4 + (k + 1) % 4)) b : Nat) : Int) (tm (s (k / 4 * 4 + (k + 2) % 4)) c : Int) = ((tm (s (k / 4 * 4 + k % 4)) a ^^^ tm (s (k / 4 * 4 + (k + 1) % 4)) b ^^^ tm (s (k / 4 * 4 + (k + 2) % 4)) c : Nat) : Int) :=
        u8_xor_nat _ _ (xor_lt8 (tm_lt _ _ x0) (tm_lt _ _ x1)) (tm_lt _ _ x2)
      have K3 : bits BinOp.xor IntKind.u8 ((tm (s (k / 4 * 4 + k % 4)) a ^^^ tm (s (k / 4 * 4 + (k + 1) % 4)) b ^^^ tm (s (k / 4 * 4 + (k + 2) % 4)) c : Nat) : Int) (tm (s (k / 4 * 4 + (k + 3) % 4)) d : Int) = ((mixF s a b c d k : Nat) : Int) :=
        u8_xor_nat _ _ (xor_lt8 (xor_lt8 (tm_lt _ _ x0) (tm_lt _ _ x1)) (tm_lt _ _ x2)) (tm_lt _ _ x3)
      have HW2 := Lib.hid w2
      have WC := Lib.hid wc
      have WI := Lib.hid wi
      have HR2 := Lib.hid hr2
      have HRB2 := Lib.hid hrb2
      have HG2 := Lib.hid hg2
      clear w2 wc hr2 hrb2 hg2 HR HRB HG
      refine wp_region_still_tail 23 (by kernel_rfl) (by kernel_rfl) ?_
      simp only [List.take_succ_cons, List.take_zero, List.drop_succ_cons, List.drop_zero]
      repeat still_step
      still_call (by have := mixat_any w.heap.size (wr.heap.size + 1) wr.heap.size k 0 s W.drew e0 (by omega) (fun j hj => HW2.out j hj) WC.out WI.out; simp only [Nat.add_zero] at this; exact this)
      repeat still_step
      still_call (times_still _ a x0 ha _)
      repeat still_step
      still_call (mixat_any w.heap.size (wr.heap.size + 1) wr.heap.size k 1 s W.drew e0 (by omega) (fun j hj => HW2.out j hj) WC.out WI.out)
      repeat still_step
      still_call (times_still _ b x1 hb _)
      repeat still_step
      still_call (mixat_any w.heap.size (wr.heap.size + 1) wr.heap.size k 2 s W.drew e0 (by omega) (fun j hj => HW2.out j hj) WC.out WI.out)
      repeat still_step
      still_call (times_still _ c x2 hc _)
      repeat still_step
      still_call (mixat_any w.heap.size (wr.heap.size + 1) wr.heap.size k 3 s W.drew e0 (by omega) (fun j hj => HW2.out j hj) WC.out WI.out)
      repeat still_step
      still_call (times_still _ d x3 hd _)
      repeat still_step
      try refine wpStill_nil ?_
      change wpList _ _ _ _ _ W.drew
      go_wp2
      go_roundw
      case rel =>
        refine ⟨k + 1, by omega, by go_num, ?_, ?_, ?_, ?_⟩
        · exact row_upd (a := mixF s a b c d) HR2.out.drew
        · exact (HRB2.out.drew).setOther (by show w.heap.size ≠ gs; omega) _
        · exact grown_set (grown_drew HG2.out) (.inl rfl) _
        · simpa using hz2
      case measure => simp [intOf]; omega
    · obtain rfl : k = 16 := by omega
      go_wp2
      go_end0
      exact ⟨rfl, hrw.congr (fun i hi => by rw [upd_lt _ _ hi]), hg⟩
end Go.Proofs.YtlhbijpmhokmnaaGreat
