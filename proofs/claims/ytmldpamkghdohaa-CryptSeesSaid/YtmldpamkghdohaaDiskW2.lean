/-
  THE WALKS OF disk's Image, Arm, Fail, operation. Conditions: the disk lies in memory.
-/
import Derived.Test.YtmldpamkghdohaaDiskW1
namespace Go.Proofs.Ytmldpamkghdohaa
open Go.RowKit
set_option linter.unusedSimpArgs false
set_option linter.unusedVariables false

theorem dk_floor (d : DkS) (x : Nat) (nv ov : Value) (i : Nat) (hi : i < 9) : dkC { d with floor := x } nv ov i = if i = 4 then dkC { d with floor := x } nv ov 4 else dkC d nv ov i := by
  match i, hi with
  | 0, _ => rfl
  | 1, _ => rfl
  | 2, _ => rfl
  | 3, _ => rfl
  | 4, _ => rfl
  | 5, _ => rfl
  | 6, _ => rfl
  | 7, _ => rfl
  | 8, _ => rfl
theorem dk_down (d : DkS) (x : Bool) (nv ov : Value) (i : Nat) (hi : i < 9) : dkC { d with down := x } nv ov i = if i = 5 then dkC { d with down := x } nv ov 5 else dkC d nv ov i := by
  match i, hi with
  | 0, _ => rfl
  | 1, _ => rfl
  | 2, _ => rfl
  | 3, _ => rfl
  | 4, _ => rfl
  | 5, _ => rfl
  | 6, _ => rfl
  | 7, _ => rfl
  | 8, _ => rfl
theorem dk_armed (d : DkS) (x : Int) (nv ov : Value) (i : Nat) (hi : i < 9) : dkC { d with armed := x } nv ov i = if i = 6 then dkC { d with armed := x } nv ov 6 else dkC d nv ov i := by
  match i, hi with
  | 0, _ => rfl
  | 1, _ => rfl
  | 2, _ => rfl
  | 3, _ => rfl
  | 4, _ => rfl
  | 5, _ => rfl
  | 6, _ => rfl
  | 7, _ => rfl
  | 8, _ => rfl
theorem dk_fails (d : DkS) (x : Nat) (nv ov : Value) (i : Nat) (hi : i < 9) : dkC { d with fails := x } nv ov i = if i = 7 then dkC { d with fails := x } nv ov 7 else dkC d nv ov i := by
  match i, hi with
  | 0, _ => rfl
  | 1, _ => rfl
  | 2, _ => rfl
  | 3, _ => rfl
  | 4, _ => rfl
  | 5, _ => rfl
  | 6, _ => rfl
  | 7, _ => rfl
  | 8, _ => rfl
theorem dk_err (d : DkS) (x : Int) (nv ov : Value) (i : Nat) (hi : i < 9) : dkC { d with err := x } nv ov i = if i = 8 then dkC { d with err := x } nv ov 8 else dkC d nv ov i := by
  match i, hi with
  | 0, _ => rfl
  | 1, _ => rfl
  | 2, _ => rfl
  | 3, _ => rfl
  | 4, _ => rfl
  | 5, _ => rfl
  | 6, _ => rfl
  | 7, _ => rfl
  | 8, _ => rfl
theorem image_any {g : Nat} {nb ob : Option Nat} {d : DkS} {w : World} (h : Dk w g nb ob d) : Calls Try.prog 36 #[.pointer (some ⟨g, 0, none⟩)] w fun e w' => ∃ v b, e = .returned v ∧ Sl w' v d.now b ∧ (∀ k, b = some k → w.heap.size ≤ k) ∧ Below w.heap.size w w' := by
  obtain ⟨A, c, h2, hc1, hc2, hr, hb⟩ := h.nowC
  have hl : d.now.length ≤ 140737488355328 := by have := h.wf.now; have := h.wf.most; omega
  have H := Lib.hid h
  have HR := Lib.hid hr
  clear h hr hb
  go_enter Try.func36, Try.ntmps36
  go_wp2_with fail
  refine (none_any H.out).mono ?_
  rintro e w' ⟨rfl, rfl⟩
  go_wp2_with fail
  refine (clone_any A _ c d.now _ rfl HR.out hl).mono ?_
  rintro e w1 ⟨v, b, rfl, hs, hb, hbl⟩
  have HS := Lib.hid hs
  have HB := Lib.hid hb
  have HL := Lib.hid hbl
  clear hs hb hbl
  go_wp2_with fail
  go_ret
  exact ⟨v, b, rfl, HS.out, HB.out, HL.out⟩

theorem arm_no {g : Nat} {nb ob : Option Nat} {d : DkS} {w : World} (h : Dk w g nb ob d) (n : Int) (hn : n < 0) : Calls Try.prog 65 #[.pointer (some ⟨g, 0, none⟩), .int .i64 n] w fun e w' => e = .returned (.int .i64 2) ∧ w = w' := by
  have H := Lib.hid h
  clear h
  go_enter Try.func65, Try.ntmps65
  go_wp2_with fail
  refine (none_any H.out).mono ?_
  rintro e w' ⟨rfl, rfl⟩
  go_wp2_with fail
  go_ret
  exact ⟨rfl, rfl⟩
theorem arm_any {g : Nat} {nb ob : Option Nat} {d : DkS} {w : World} (h : Dk w g nb ob d) (n : Int) (hn : 0 ≤ n) (hn2 : n ≤ 9223372036854775807) : Calls Try.prog 65 #[.pointer (some ⟨g, 0, none⟩), .int .i64 n] w fun e w' =>
    e = .returned (.int .i64 0) ∧ Dk w' g nb ob { d with armed := n } ∧ w.grownBy w' (some g) := by
  have f6 := h.fz 6
  have h6 := h.c.2.2.2.2.1
  have H := Lib.hid h
  have k1 : ¬ n < 0 := by omega
  clear h
  go_enter Try.func65, Try.ntmps65
  go_wp2_with fail
  refine (none_any H.out).mono ?_
  rintro e w' ⟨rfl, rfl⟩
  go_wp2_with fail
  go_ret
  refine ⟨rfl, ?_, grown_set (grown_refl _ _) (.inl rfl) _⟩
  exact H.out.set 6 _ (by decide) ⟨rfl, rfl⟩ ⟨H.out.wf.most, H.out.wf.now, H.out.wf.old, H.out.wf.floor, by show -1 ≤ n; omega, hn2, H.out.wf.fails⟩ (fun nv ov i hi => dk_armed d n nv ov i hi)
/-- Fail's answers. -/
def failB (n e : Int) : Bool := decide (n < 1) || (e != 10 && e != 5)
theorem fail_no {g : Nat} {nb ob : Option Nat} {d : DkS} {w : World} (h : Dk w g nb ob d) (n er : Int) (hn : failB n er = true) : Calls Try.prog 30 #[.pointer (some ⟨g, 0, none⟩), .int .i64 n, .int .i64 er] w fun e w' => e = .returned (.int .i64 2) ∧ w = w' := by
  have H := Lib.hid h
  clear h
  by_cases k1 : n < 1
  · clear hn
    go_enter Try.func30, Try.ntmps30
    go_wp2_with fail
    refine (none_any H.out).mono ?_
    rintro e w' ⟨rfl, rfl⟩
    go_wp2_with fail
    go_ret
    exact ⟨rfl, rfl⟩
  · unfold failB at hn
    rw [decide_eq_false k1, Bool.false_or, Bool.and_eq_true] at hn
    obtain ⟨k2, k3⟩ := hn
    go_enter Try.func30, Try.ntmps30
    go_wp2_with fail
    refine (none_any H.out).mono ?_
    rintro e w' ⟨rfl, rfl⟩
    go_wp2_with fail
    go_ret
    exact ⟨rfl, rfl⟩
set_option maxHeartbeats 1000000 in
theorem fail_any {g : Nat} {nb ob : Option Nat} {d : DkS} {w : World} (h : Dk w g nb ob d) (n : Nat) (er : Int) (hn : failB n er = false) (hn2 : n ≤ 9223372036854775807) : Calls Try.prog 30 #[.pointer (some ⟨g, 0, none⟩), .int .i64 n, .int .i64 er] w fun e w' =>
    e = .returned (.int .i64 0) ∧ Dk w' g nb ob { d with fails := n, err := er } ∧ w.grownBy w' (some g) := by
  have f7 := h.fz 7
  have h7 := h.c.2.2.2.2.2.1
  have f8 := h.fz 8
  have h8 := h.c.2.2.2.2.2.2
  have H := Lib.hid h
  clear h
  unfold failB at hn
  rw [Bool.or_eq_false_iff, decide_eq_false_iff_not] at hn
  obtain ⟨k1, k2⟩ := hn
  have hfin : Dk ((w.setCell ⟨g, 7, none⟩ (.int .i64 n)).setCell ⟨g, 8, none⟩ (.int .i64 er)) g nb ob { d with fails := n, err := er } := by
    have h1 : Dk (w.setCell ⟨g, 7, none⟩ (.int .i64 n)) g nb ob { d with fails := n } := Dk.set H.out 7 _ (by decide) ⟨rfl, rfl⟩ ⟨H.out.wf.most, H.out.wf.now, H.out.wf.old, H.out.wf.floor, H.out.wf.armed0, H.out.wf.armed, hn2⟩ (fun nv ov i hi => dk_fails d n nv ov i hi)
    exact Dk.set h1 8 _ (by decide) ⟨rfl, rfl⟩ ⟨H.out.wf.most, H.out.wf.now, H.out.wf.old, H.out.wf.floor, H.out.wf.armed0, H.out.wf.armed, hn2⟩ (fun nv ov i hi => dk_err { d with fails := n } er nv ov i hi)
  have hgr : w.grownBy ((w.setCell ⟨g, 7, none⟩ (.int .i64 n)).setCell ⟨g, 8, none⟩ (.int .i64 er)) (some g) :=
    grown_set (p := ⟨g, 8, none⟩) (grown_set (p := ⟨g, 7, none⟩) (grown_refl _ _) (.inl rfl) _) (.inl rfl) _
  have HF := Lib.hid hfin
  have HG := Lib.hid hgr
  clear hfin hgr
  by_cases k3 : er = 10
  all_goals
    first
      | (have k4 : (er != 10) = false := by rw [k3]; rfl
         clear k2)
      | (have k4 : (er != 10) = true := by rw [bne_iff_ne]; exact k3
         rw [k4, Bool.true_and] at k2)
    clear k3
    go_enter Try.func30, Try.ntmps30
    go_wp2_with fail
    refine (none_any H.out).mono ?_
    rintro e w' ⟨rfl, rfl⟩
    go_wp2_with fail
    go_ret
    exact ⟨rfl, HF.out, HG.out⟩
end Go.Proofs.Ytmldpamkghdohaa
