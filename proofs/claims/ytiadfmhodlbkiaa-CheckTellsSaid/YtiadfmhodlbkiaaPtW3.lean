/-
  THE WALKS OF parts.Memory, parts.Right. Conditions: the slice reads as parts.
-/
import Derived.Test.YtiadfmhodlbkiaaPtW2
import Derived.Deep.DeepCutAuto
namespace Go.Proofs.Ytiadfmhodlbkiaa
open Go.RowKit
set_option linter.unusedSimpArgs false
set_option linter.unusedVariables false
theorem memP_drop {l : List PartS} {k : Nat} (h : k < l.length) : memP (l.drop k) = placesP l[k] + memP (l.drop (k + 1)) := by
  rw [List.drop_eq_getElem_cons h]; rfl
theorem allP_drop {l : List PartS} {k : Nat} (h : k < l.length) : allP k (l.drop k) = (partOk l[k] k && allP (k + 1) (l.drop (k + 1))) := by
  rw [List.drop_eq_getElem_cons h]; rfl
def MmR (l : List PartS) (w : World) (s3 s8 : Value) (wr : World) : Prop := ∃ (k : Nat) (a : Int), k ≤ l.length ∧ s3 = .int .i64 a ∧ s8 = .int .i64 k ∧ 0 ≤ a ∧ a ≤ k * 4194304 ∧ a + memP (l.drop k) = memP l ∧ Below w.heap.size w wr
set_option maxRecDepth 100000 in
set_option maxHeartbeats 8000000 in
theorem memory_any (l : List PartS) (v : Value) (S : Nat → Prop) (w : World) (hl : l.length ≤ 1000) (hp : PrT w S v l) : Calls Try.prog 72 #[v] w fun e w' => e = .returned (.int .i64 (memP l)) ∧ Below w.heap.size w w' := by
  obtain ⟨A, c, rfl⟩ := hp.form
  have HP := Lib.hid hp
  have HL := Lib.hid hl
  clear hp hl
  go_enter Try.func72, Try.ntmps72
  go_wp2_with fail
  go_loopw [3, 8] (fun s3 s8 wr => MmR l w s3 s8 wr) (fun _ s8 _ => l.length - (intOf s8).toNat)
  case atStart => exact ⟨0, 0, Nat.zero_le _, rfl, rfl, Int.le_refl _, by simp, by simp, Below.refl _ _⟩
  case round =>
    obtain ⟨k, a, hk, rfl, rfl, ha0, ha1, hm, hb⟩ := hrel
    have HB := Lib.hid hb
    by_cases e0 : k < l.length
    · have b1 : (k : Int) < (l.length : Int) := by omega
      rw [memP_drop e0] at hm
      obtain ⟨g, o, rfl, hg, hc⟩ := (HP.out.below HB.out).nth e0
      have x0 := hc 0 (by omega)
      have x1 := hc 1 (by omega)
      have x2 := hc 2 (by omega)
      have x3 := hc 3 (by omega)
      have x4 := hc 4 (by omega)
      have x5 := hc 5 (by omega)
      have x6 := hc 6 (by omega)
      simp only [ptF] at x0 x1 x2 x3 x4 x5 x6
      rw [Nat.add_zero] at x0
      generalize l[k] = p at *
      have hpl := places_le p
      have hw1 := wrapE (x := (k : Int) + 1) (by have := HL.out; omega)
      have hw2 := wrapE (x := a + placesP p) (by have := HL.out; omega)
      have HM := Lib.hid (And.intro ha0 (And.intro ha1 (And.intro hm hpl)))
      have HPA := Lib.hid (places_any p)
      clear hb hc hm ha0 ha1 hpl
      unfold ptA at HPA
      go_wp2_with fail
      refine (HPA.out _).mono ?_
      rintro e w2 ⟨rfl, hb2⟩
      have HB2 := Lib.hid (HB.out.trans (((Below.refl wr.heap.size wr).alloc (Nat.le_refl _) _).trans (hb2.mono (by rw [World.size_alloc]; omega)) |>.mono HB.out.size))
      clear hb2
      go_wp2_with fail
      go_roundw
      case rel => exact ⟨k + 1, a + placesP p, by omega, rfl, by go_num, by have := HM.out; omega, by have := HM.out; push_cast; omega, by have := HM.out; omega, HB2.out⟩
      case measure => simp [intOf]; omega
    · obtain rfl : k = l.length := by omega
      have b1 : ¬ ((l.length : Int) < (l.length : Int)) := by omega
      rw [List.drop_eq_nil_of_le (Nat.le_refl _)] at hm
      have hma : a = memP l := by rw [← hm]; simp [memP]
      clear hm hb ha0 ha1
      go_wp2_with fail
      go_ret
      exact ⟨by rw [← hma]; rfl, HB.out⟩
def PrR (l : List PartS) (w : World) (s15 : Value) (wr : World) : Prop := ∃ (k : Nat), k ≤ l.length ∧ s15 = .int .i64 k ∧ allP k (l.drop k) = allP 0 l ∧ Below w.heap.size w wr
set_option maxRecDepth 100000 in
set_option maxHeartbeats 8000000 in
theorem rightPs_any (l : List PartS) (v : Value) (S : Nat → Prop) (w : World) (hp : PrT w S v l) : Calls Try.prog 52 #[v] w fun e w' => e = .returned (.int .i64 (rightPs l)) ∧ Below w.heap.size w w' := by
  have hm : l.length ≤ maxLen := by obtain ⟨_, c, _, h3, h4, _⟩ := hp; omega
  obtain ⟨A, c, rfl⟩ := hp.form
  have HP := Lib.hid hp
  clear hp hm
  obtain ⟨z, hz⟩ : ∃ z, z = rightPs l := ⟨_, rfl⟩
  rw [← hz]
  unfold rightPs at hz
  by_cases h0 : l.length = 0
  · rw [if_pos (.inl h0)] at hz
    subst hz
    have i0 : ((l.length : Int) == 0) = true := by rw [h0]; rfl
    clear h0
    go_enter Try.func52, Try.ntmps52
    go_wp2_with fail
    go_ret
    exact ⟨rfl, Below.refl _ _⟩
  · have i0 : ((l.length : Int) == 0) = false := by rw [beq_eq_false_iff_ne]; omega
    by_cases h16 : 16 < l.length
    · rw [if_pos (.inr h16)] at hz
      subst hz
      have i1 : (16 : Int) < (l.length : Int) := by omega
      clear h0 h16
      go_enter Try.func52, Try.ntmps52
      go_wp2_with fail
      go_ret
      exact ⟨rfl, Below.refl _ _⟩
    · rw [if_neg (by omega)] at hz
      have i1 : ¬ (16 : Int) < (l.length : Int) := by omega
      have HZ := Lib.hid hz
      have HL := Lib.hid (show l.length ≤ 16 by omega)
      clear h0 h16 hz
      go_enter Try.func52, Try.ntmps52
      go_wp2_with fail
      go_loopw [15] (fun s15 wr => PrR l w s15 wr) (fun s15 _ => l.length - (intOf s15).toNat)
      case atStart => exact ⟨0, Nat.zero_le _, rfl, rfl, Below.refl _ _⟩
      case round =>
        obtain ⟨k, hk, rfl, hal, hb⟩ := hrel
        have HB := Lib.hid hb
        by_cases e0 : k < l.length
        · have b1 : (k : Int) < (l.length : Int) := by omega
          rw [allP_drop e0] at hal
          obtain ⟨g, o, rfl, hg, hc⟩ := (HP.out.below HB.out).nth e0
          have x0 := hc 0 (by omega)
          have x1 := hc 1 (by omega)
          have x2 := hc 2 (by omega)
          have x3 := hc 3 (by omega)
          have x4 := hc 4 (by omega)
          have x5 := hc 5 (by omega)
          have x6 := hc 6 (by omega)
          simp only [ptF] at x0 x1 x2 x3 x4 x5 x6
          rw [Nat.add_zero] at x0
          generalize l[k] = p at *
          have hw1 := wrapE (x := (k : Int) + 1) (by have := HL.out; omega)
          have HPA := Lib.hid (part_any p k (by have := HL.out; omega))
          obtain ⟨b, hbb⟩ : ∃ b, b = partOk p k := ⟨_, rfl⟩
          rw [← hbb] at hal HPA
          have HAL := Lib.hid hal
          clear hb hc hal hbb
          unfold ptA at HPA
          go_wp2_with fail
          refine (HPA.out _).mono ?_
          rintro e w2 ⟨rfl, hb2⟩
          have HB2 := Lib.hid (HB.out.trans (((Below.refl wr.heap.size wr).alloc (Nat.le_refl _) _).trans (hb2.mono (by rw [World.size_alloc]; omega)) |>.mono HB.out.size))
          clear hb2
          cases b with
          | false =>
            go_wp2_with fail
            go_ret
            refine ⟨?_, HB2.out⟩
            rw [HZ.out, ← HAL.out]
            rfl
          | true =>
            go_wp2_with fail
            go_roundw
            case rel => exact ⟨k + 1, by omega, by go_num, by have := HAL.out; rw [← this]; rfl, HB2.out⟩
            case measure => simp [intOf]; omega
        · obtain rfl : k = l.length := by omega
          have b1 : ¬ ((l.length : Int) < (l.length : Int)) := by omega
          rw [List.drop_eq_nil_of_le (Nat.le_refl _)] at hal
          have hal' : allP 0 l = true := by rw [← hal]; rfl
          have hz := HZ.out
          rw [if_pos hal'] at hz
          have HZ2 := Lib.hid hz
          have HM := Lib.hid (fun W (hb : Below w.heap.size w W) => memory_any l _ S W (by have := HL.out; omega) (HP.out.below hb))
          clear hal hal' hb hz
          go_wp2_with fail
          refine (HM.out _ HB.out).mono ?_
          rintro e w2 ⟨rfl, hb2⟩
          have HB2 := Lib.hid (HB.out.trans (hb2.mono HB.out.size))
          have hz := HZ2.out
          clear hb2
          by_cases hm : 1048576 < memP l
          · rw [if_pos hm] at hz
            subst hz
            go_wp2_with fail
            go_ret
            exact ⟨rfl, HB2.out⟩
          · rw [if_neg hm] at hz
            subst hz
            go_wp2_with fail
            go_ret
            exact ⟨rfl, HB2.out⟩
end Go.Proofs.Ytiadfmhodlbkiaa
