/-
  THE WALKS OF slices.Equal AT BYTES AND OF quillpresslow's SMALL FUNCTIONS ON LISTS OF BYTES. Conditions: the slices read as lists of bytes.
-/
import Derived.Test.YtmldpamkghdohaaBytes
import Derived.WalkSpells
import Derived.WalkLawsBesides
import Derived.Deep.QuietTactic
import Derived.BigQuiet
import Derived.Outline
import Derived.Deep.RegionHeld3
namespace Go.Proofs.Ytmldpamkghdohaa
open Go.RowKit
set_option linter.unusedSimpArgs false
set_option linter.unusedVariables false

/-- Are two lists of bytes the same? -/
def sameB (a b : List Nat) : Bool := decide (a = b)
theorem sameB_iff (a b : List Nat) : sameB a b = true ↔ a = b := by simp [sameB]
theorem sameB_len {a b : List Nat} (h : a.length ≠ b.length) : sameB a b = false := by
  simp only [sameB, decide_eq_false_iff_not]
  rintro rfl
  exact h rfl
theorem eq_of_nth {a b : List Nat} (hl : a.length = b.length) (h : ∀ i, i < a.length → nth a i = nth b i) : a = b := by
  apply List.ext_getElem hl
  intro i h1 h2
  have := h i h1
  rw [nth_get h1, nth_get h2] at this
  exact this
/-- What was read without a change of memory. -/
def Quiet (v : Value) (w : World) (e : Ending) (w' : World) : Prop := e = .returned v ∧ ∃ n, w' = w.drewN n

set_option maxRecDepth 100000 in
set_option maxHeartbeats 1000000 in
theorem equal_any (A1 A2 : Option Addr) (c1 c2 : Nat) (a b : List Nat) (w : World) (ha : Rd w A1 a) (hb : Rd w A2 b) (hla : a.length ≤ 9223372036854775807) (hlb : b.length ≤ 9223372036854775807) :
    Calls Try.prog 51 #[.slice A1 a.length c1, .slice A2 b.length c2] w (Quiet (.bool (sameB a b)) w) := by
  by_cases hl : a.length = b.length
  · have hne : (((a.length : Nat) : Int) != ((b.length : Nat) : Int)) = false := by rw [hl]; simp
    have HL := Lib.hid hl
    have HA := Lib.hid ha
    have HB := Lib.hid hb
    clear ha hb hl
    go_enter Try.func51, Try.ntmps51
    go_wp2
    go_loopw [13] (fun i wr => ∃ k n : Nat, k ≤ a.length ∧ i = .int .i64 k ∧ wr = w.drewN n ∧ ∀ j, j < k → nth a j = nth b j) (fun i _ => a.length - (intOf i).toNat)
    case atStart => exact ⟨0, 0, by omega, rfl, rfl, fun j hj => by omega⟩
    case round =>
      obtain ⟨k, n, hk, rfl, rfl, hs⟩ := hrel
      have HS := Lib.hid hs
      clear hs
      by_cases e0 : k < a.length
      · obtain ⟨g1, o1, rfl, hg1, hc1⟩ := HA.out.2 (by rintro rfl; simp at e0)
        obtain ⟨g2, o2, rfl, hg2, hc2⟩ := HB.out.2 (by rintro rfl; have := HL.out; simp at this; subst this; simp at e0)
        have x1 := hc1 k e0
        have x2 := hc2 k (by have := HL.out; omega)
        have b2 : (k : Int) < (b.length : Int) := by have := HL.out; omega
        have b1 : (k : Int) < (a.length : Int) := by omega
        have HX1 := Lib.hid hc1
        have HX2 := Lib.hid hc2
        clear hc1 hc2
        by_cases e1 : nth a k = nth b k
        · have e2 : (((nth a k : Nat) : Int) != ((nth b k : Nat) : Int)) = false := by rw [e1]; simp
          have E1 := Lib.hid e1
          clear e1
          go_wp2_with fail
          go_quiet (fail)
          go_wp2
          go_roundw
          case rel =>
            refine ⟨k + 1, n + nq, by omega, by go_num, by simp [World.drewN_drewN], fun j hj => ?_⟩
            rcases Nat.lt_or_ge j k with h | h
            · exact HS.out j h
            · have : j = k := by omega
              subst this
              exact E1.out
          case measure => simp [intOf]; omega
        · have e2 : (((nth a k : Nat) : Int) != ((nth b k : Nat) : Int)) = true := by rw [bne_iff_ne]; omega
          have E1 := Lib.hid e1
          clear e1
          have E3 : Hid (sameB a b = false) := by
            have := E1.out
            simp only [Hid, sameB, decide_eq_false_iff_not]
            rintro rfl
            exact this rfl
          go_wp2_with fail
          go_quiet (fail)
          go_wp2
          go_ret
          exact ⟨by rw [E3.out]; rfl, n + nq, by simp [World.drewN_drewN]⟩
      · obtain rfl : k = a.length := by omega
        have E3 : Hid (sameB a b = true) := (sameB_iff a b).2 (eq_of_nth HL.out HS.out)
        go_wp2
        go_ret
        exact ⟨by rw [E3.out]; rfl, n, rfl⟩
  · have hne : (((a.length : Nat) : Int) != ((b.length : Nat) : Int)) = true := by rw [bne_iff_ne]; omega
    have E3 := Lib.hid (sameB_len hl)
    clear hl
    go_enter Try.func51, Try.ntmps51
    go_wp2
    go_ret
    exact ⟨by rw [E3.out]; rfl, 0, rfl⟩

theorem drewN_zero' (w : World) : w.drewN 0 = w := rfl
set_option maxHeartbeats 400000 in
theorem same_any (A1 A2 : Option Addr) (c1 c2 : Nat) (a b : List Nat) (w : World) (ha : Rd w A1 a) (hb : Rd w A2 b) (hla : a.length ≤ 9223372036854775807) (hlb : b.length ≤ 9223372036854775807) :
    Calls Try.prog 15 #[.slice A1 a.length c1, .slice A2 b.length c2] w (Quiet (.bool (sameB a b)) w) := by
  go_enter Try.func15, Try.ntmps15
  go_wp2_with fail
  refine (equal_any A1 A2 c1 c2 a b w ha hb hla hlb).mono ?_
  rintro e w' ⟨rfl, n, rfl⟩
  go_wp2_with fail
  go_ret
  exact ⟨rfl, n, rfl⟩

set_option maxHeartbeats 400000 in
theorem own_any (A : Option Addr) (n c : Nat) (l : List Nat) (w : World) (hn : n = l.length) (h : Rd w A l) (hl : l.length ≤ 140737488355328) :
    Calls Try.prog 73 #[.slice A n c] w fun e w' => ∃ v, e = .returned v ∧ Ow w' w.heap.size v l ∧ Below w.heap.size w w' := by
  have HN := Lib.hid hn
  have HA := Lib.hid h
  clear hn h
  go_enter Try.func73, Try.ntmps73
  go_wp2_with (refine append_bytes (v := .slice none 0 0) (l := []) (.const (.slice none 0 0)) (.tmp 3) rfl rfl rfl (Ow.nil _ w.heap.size) A n c l rfl HN.out HA.out (by simpa using hl) (Nat.le_refl _) ?_; intro v1 w1 ho1 hg1 ha1)
  go_ret
  exact ⟨v1, rfl, by simpa using ho1, (Below.refl _ _).grown hg1 (Nat.le_refl _) (by simp [Value.ownBlock])⟩

theorem equal_n (A1 A2 : Option Addr) (n1 n2 c1 c2 : Nat) (a b : List Nat) (w : World) (h1 : n1 = a.length) (h2 : n2 = b.length) (ha : Rd w A1 a) (hb : Rd w A2 b) (hla : a.length ≤ 9223372036854775807) (hlb : b.length ≤ 9223372036854775807) :
    Calls Try.prog 51 #[.slice A1 n1 c1, .slice A2 n2 c2] w (Quiet (.bool (sameB a b)) w) := by
  subst h1; subst h2
  exact equal_any A1 A2 c1 c2 a b w ha hb hla hlb
def tailB : List Nat := [116, 97, 105, 108]
set_option maxHeartbeats 400000 in
theorem lent_any (A : Option Addr) (n c : Nat) (l : List Nat) (w : World) (hn : n = l.length) (h : Rd w A l) (hl : l.length ≤ 140737488355320) :
    Calls Try.prog 52 #[.slice A n c] w fun e w' => ∃ v, e = .returned v ∧ Ow w' w.heap.size v (l ++ tailB) ∧ Below w.heap.size w w' := by
  subst hn
  go_enter Try.func52, Try.ntmps52
  go_wp2_with fail
  refine (own_any A l.length c l w rfl h (by omega)).mono ?_
  rintro e w1 ⟨v, rfl, ho, hb⟩
  have HO := Lib.hid ho
  have HB := Lib.hid hb
  clear ho hb h
  go_wp2_with (refine append_str (.tmp 4) (.const (.string ⟨#[116, 97, 105, 108]⟩)) rfl rfl rfl HO.out ⟨#[116, 97, 105, 108]⟩ rfl (by simp [ByteArray.size]; omega) HB.out.size ?_; intro v1 w2 ho1 hg1)
  go_ret
  exact ⟨v1, rfl, ho1, below_of_append HB.out HO.out hg1 HB.out.size (Nat.le_refl _)⟩

/-- What was lent: the bytes, and behind them, in the spare room, the tail. -/
def Lent (w : World) (base : Nat) (v : Value) (l : List Nat) : Prop := ∃ g c, v = .slice (some ⟨g, 0, none⟩) l.length c ∧ l.length + 4 ≤ c ∧ base ≤ g ∧ Rd w (some ⟨g, 0, none⟩) (l ++ tailB)
set_option maxHeartbeats 400000 in
theorem lentb_any (A : Option Addr) (c : Nat) (l : List Nat) (w : World) (h : Rd w A l) (hl : l.length ≤ 140737488355320) :
    Calls Try.prog 17 #[.slice A l.length c] w fun e w' => ∃ v, e = .returned v ∧ Lent w' w.heap.size v l ∧ Below w.heap.size w w' := by
  go_enter Try.func17, Try.ntmps17
  go_wp2_with fail
  refine (lent_any A l.length c l w rfl h hl).mono ?_
  rintro e w1 ⟨v, rfl, ho, hb⟩
  obtain ⟨g, c1, rfl, hc1, hg1, hg2, hcell, hfr⟩ := ho.form0 (by simp [tailB])
  have hlen : (l ++ tailB).length = l.length + 4 := by simp [tailB]
  have hr : Rd w1 (some ⟨g, 0, none⟩) (l ++ tailB) := ⟨ho.1, fun _ => ⟨g, 0, rfl, hg2, fun i hi => by rw [Nat.zero_add]; exact hcell i hi⟩⟩
  have hc2 : l.length + 4 ≤ c1 := by omega
  have hc3 : l.length ≤ c1 := by omega
  have HR := Lib.hid hr
  have HB := Lib.hid hb
  rw [hlen]
  clear hr hb ho hcell hfr h hlen hc1
  go_wp2_with fail
  go_ret
  exact ⟨_, rfl, ⟨g, c1, rfl, hc2, hg1, HR.out⟩, HB.out⟩

set_option maxHeartbeats 400000 in
theorem kept_any (A A2 : Option Addr) (n c c2 : Nat) (m l : List Nat) (w : World) (hm : Rd w A m) (hlm : m.length = n + 4) (hc : n + 4 ≤ c) (hcc : c ≤ 9223372036854775807) (h : Rd w A2 l) (hl : l.length ≤ 140737488355320) :
    Calls Try.prog 18 #[.slice A n c, .slice A2 l.length c2] w fun e w' => e = .returned (.bool (sameB m (l ++ tailB))) ∧ Below w.heap.size w w' := by
  have HM := Lib.hid hm
  have HL := Lib.hid hlm
  have HA := Lib.hid h
  clear hm hlm h
  have hc2 : (n : Int) + 4 ≤ c := by omega
  have hc3 : (0 : Int) ≤ (n : Int) + 4 := by omega
  have hc4 : IntKind.i64.wrap ((n : Int) + 4) = (n : Int) + 4 := IntWalk.i64_in _ ⟨by omega, by omega⟩
  have hc5 : ((n : Int) + 4).toNat = n + 4 := by omega
  go_enter Try.func18, Try.ntmps18
  go_wp2_with fail
  go_region_held3 (fun _ => True) (exact trivial) (first
    | (go_at_call 52; (refine (lent_any A2 l.length c2 l _ rfl (by exact HA.out) hl).mono ?_); rintro e w1 ⟨v, rfl, ho, hb⟩; obtain ⟨A3, c3, rfl, _, _, hr3⟩ := ho.form; have HB : Hid (Below w.heap.size w w1) := ⟨hb.os, hb.tape, hb.output, hb.size, hb.block⟩; have HR3 := Lib.hid hr3; clear ho hb hr3)
    | (go_at_call 51; (refine (equal_n A A3 (n + 4) (l.length + tailB.length) c c3 m (l ++ tailB) w1 (by rw [HL.out]) (by rw [List.length_append]) (HM.out.below HB.out) HR3.out (by rw [HL.out]; omega) (by simp [tailB]; omega)).mono ?_); rintro e w2 ⟨rfl, nn, rfl⟩))
  go_wp2
  go_ret
  exact ⟨rfl, below_drewN' (HB.out) _⟩
end Go.Proofs.Ytmldpamkghdohaa
