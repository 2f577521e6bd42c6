/-
  THE WALK OF quillpresslaw05.awake: the chapter's examples come out. Conditions: none.
-/
import Derived.Test.YtbnhjhdbjffnkaaAesW7
import Derived.Test.YtbnhjhdbjffnkaaAesE
namespace Go.Proofs.Ytbnhjhdbjffnkaa
open Go.RowKit
set_option linter.unusedSimpArgs false
set_option linter.unusedVariables false

theorem row_rd {w : World} {g t n : Nat} {f : Nat → Nat} (h : w.rowIs g t n (fun i => .int .u8 (f i : Nat))) (hf : ∀ i, i < n → f i < 256) : Rd w (some ⟨g, 0, none⟩) ((List.range n).map f) := by
  refine ⟨fun x hx => ?_, fun _ => ⟨g, 0, rfl, h.lt, fun i hi => ?_⟩⟩
  · simp only [List.mem_map, List.mem_range] at hx
    obtain ⟨i, hi, rfl⟩ := hx
    exact hf i hi
  · have hi' : i < n := by simpa using hi
    rw [Nat.zero_add, h.cell hi']
    simp [nth, hi']
/-- A literal of bytes, as it lies in its block. -/
theorem lit_rd (w : World) (t : TypeId) (l : List Nat) (hl : ∀ x ∈ l, x < 256) (cs : Array Value) (h : cs.toList = bs l) : Rd (w.alloc (.cells cs t)) (some ⟨w.heap.size, 0, none⟩) l := by
  refine ⟨hl, fun _ => ⟨_, 0, rfl, by simp, fun i hi => ?_⟩⟩
  rw [Nat.zero_add, cell_of_row _ _ _ _ _ _ (heap_alloc_new w _), ← Array.getElem?_toList, h, bs_get hi, nth_get hi]
  rfl
theorem rowL_lt (a b n : Nat) : ∀ x ∈ rowL a b n, x < 256 := by
  intro x hx
  simp only [rowL, List.mem_map] at hx
  obtain ⟨i, _, rfl⟩ := hx
  omega
theorem rowL_length (a b n : Nat) : (rowL a b n).length = n := by simp [rowL]
theorem ks_lt {key : List Nat} (h : ∀ x ∈ key, x < 256) : ∀ x ∈ ks key, x < 256 := by
  have step : ∀ l p i, (∀ x ∈ l, x < 256) → p < 256 → ∀ x ∈ ksA l p i, x < 256 := by
    intro l p i hl hp x hx
    unfold ksA at hx
    rcases List.mem_append.1 hx with hx | hx
    · exact hl x hx
    · simp only [List.mem_map] at hx
      obtain ⟨k, _, rfl⟩ := hx
      exact xor_lt8 (nth_lt hl _) (ksT_lt hl hp)
  have key' : ∀ f l p i, (∀ x ∈ l, x < 256) → p < 256 → ∀ x ∈ ksF f l p i, x < 256 := by
    intro f
    induction f with
    | zero => intro l p i hl _; exact hl
    | succ f ih =>
      intro l p i hl hp
      unfold ksF
      refine ih _ _ _ (step l p i hl hp) ?_
      split
      · exact tm_lt _ _ hp
      · exact hp
  exact key' 52 key 1 8 h (by omega)

theorem same_n (A1 A2 : Option Addr) (n1 n2 c1 c2 : Nat) (a b : List Nat) (w : World) (h1 : n1 = a.length) (h2 : n2 = b.length) (ha : Rd w A1 a) (hb : Rd w A2 b) (hla : a.length ≤ 9223372036854775807) (hlb : b.length ≤ 9223372036854775807) :
    Calls Try.prog 18 #[.slice A1 n1 c1, .slice A2 n2 c2] w (Quiet (.bool (sameB a b)) w) := by
  subst h1; subst h2
  exact same_any A1 A2 c1 c2 a b w ha hb hla hlb

set_option maxRecDepth 100000 in
set_option maxHeartbeats 1000000 in
theorem awake_any (w : World) : Calls Try.prog 9 #[] w fun e w' => e = .returned (.bool true) ∧ Below w.heap.size w w' := by
  go_enter Try.func9, Try.ntmps9
  go_wp2_with fail
  refine (row_any 0 1 32 (by omega) (by omega) (by omega) _).mono ?_
  rintro e w1 ⟨v1, rfl, ho1, hb1⟩
  obtain ⟨A1, c1, rfl, _, _, hr1⟩ := ho1.form
  rw [rowL_length]
  have HR1 := Lib.hid hr1
  have HB1 := Lib.hid hb1
  clear ho1 hb1 hr1
  go_wp2_with fail
  refine (new_any A1 c1 (rowL 0 1 32) w1 (rowL_length _ _ _) HR1.out).mono ?_
  rintro e w2 ⟨rfl, hc2, hb2⟩
  have HC2 := Lib.hid hc2
  have HB2 : Hid (Below w.heap.size w w2) := HB1.out.trans (hb2.mono HB1.out.size)
  clear hc2 hb2 HB1 HR1
  go_wp2_with fail
  refine (made_any _ _ true HC2.out.mark).mono ?_
  rintro e w' ⟨rfl, rfl⟩
  go_wp2_with fail
  refine (row_any 0 17 16 (by omega) (by omega) (by omega) _).mono ?_
  rintro e w3 ⟨v3, rfl, ho3, hb3⟩
  obtain ⟨g3, c3, rfl, _, _, _, hcell3, _⟩ := ho3.form0 (by intro e; have := congrArg List.length e; rw [rowL_length] at this; simp at this)
  rw [rowL_length]
  have HC3 : Hid (Cph w3 w1.heap.size (nth (ks (rowL 0 1 32)))) := HC2.out.below hb3 HC2.out.lt
  have HB3 : Hid (Below w.heap.size w w3) := HB2.out.trans (hb3.mono HB2.out.size)
  have HCell := Lib.hid hcell3
  clear HC2 HB2 ho3 hb3 hcell3
  go_wp2_with fail
  refine (encrypt_any w1.heap.size g3 0 c3 (nth (ks (rowL 0 1 32))) (nth (rowL 0 17 16)) w3 HC3.out (fun i _ => nth_lt (ks_lt (rowL_lt _ _ _)) i) (fun i _ => nth_lt (rowL_lt _ _ _) i) (fun i hi => by rw [Nat.zero_add]; exact HCell.out i (by rw [rowL_length]; exact hi))).mono ?_
  rintro e w4 ⟨rfl, hr4, hb4⟩
  have HR4 := Lib.hid (row_rd hr4 (fun i hi => encN_lt (fun i _ => nth_lt (ks_lt (rowL_lt _ _ _)) i) (fun i _ => nth_lt (rowL_lt _ _ _) i) 14 (by omega) i hi))
  have HB4 : Hid (Below w.heap.size w w4) := HB3.out.trans (hb4.mono HB3.out.size)
  clear HC3 HB3 HCell hr4 hb4
  go_wp2_with fail
  have hlit := lit_rd w4 5 exampleL (by decide) #[.int .u8 142, .int .u8 162, .int .u8 183, .int .u8 202, .int .u8 81, .int .u8 103, .int .u8 69, .int .u8 191, .int .u8 234, .int .u8 252, .int .u8 73, .int .u8 144, .int .u8 75, .int .u8 73, .int .u8 96, .int .u8 137] rfl
  refine (same_n _ _ 16 16 16 16 _ exampleL _ (by simp) rfl (HR4.out.alloc _) hlit (by simp) (by decide)).mono ?_
  rintro e w5 ⟨rfl, n5, rfl⟩
  have hs : sameB ((List.range 16).map (encN (nth (ks (rowL 0 1 32))) (nth (rowL 0 17 16)) 14)) exampleL = true := by rw [example_row]; exact (sameB_iff _ _).2 rfl
  rw [hs]
  have HB5 := Lib.hid (below_drewN' (HB4.out.alloc HB4.out.size (.cells #[.int .u8 142, .int .u8 162, .int .u8 183, .int .u8 202, .int .u8 81, .int .u8 103, .int .u8 69, .int .u8 191, .int .u8 234, .int .u8 252, .int .u8 73, .int .u8 144, .int .u8 75, .int .u8 73, .int .u8 96, .int .u8 137] 5)) n5)
  clear hlit hs HR4 HB4
  go_wp2_with fail
  refine (times_any 87 131 (by omega) (by omega) _).mono ?_
  rintro e w' ⟨rfl, rfl⟩
  rw [example_tm]
  go_wp2_with fail
  refine (sub_any 83 (by omega) _).mono ?_
  rintro e w' ⟨rfl, rfl⟩
  rw [example_sb]
  go_wp2_with fail
  refine (back_any 237 (by omega) _).mono ?_
  rintro e w' ⟨rfl, rfl⟩
  rw [example_bk]
  go_wp2_with fail
  go_ret
  exact ⟨rfl, HB5.out⟩
end Go.Proofs.Ytbnhjhdbjffnkaa
