/-
  THE WALK OF disk's operation: what is ahead, then the closure. Conditions: the disk lies in memory; the closure by its contract.
-/
import Derived.Test.YtmldpamkghdohaaDiskW2
namespace Go.Proofs.Ytmldpamkghdohaa
open Go.RowKit
set_option linter.unusedSimpArgs false
set_option linter.unusedVariables false

/-- An error's number is handed back. -/
def Ret (R : Int → World → Prop) (e : Ending) (w' : World) : Prop := ∃ r : Int, e = .returned (.int .i64 r) ∧ R r w'
/-- What may follow. -/
structure Ahead (f : FuncId) (cap : Array Value) (g : Nat) (nb ob : Option Nat) (d : DkS) (w : World) (R : Int → World → Prop) : Prop where
  go : ∀ w2, d.pre.1 = none → Dk w2 g nb ob d.pre.2 → w.grownBy w2 (some g) → w2.heap.size = w.heap.size → Calls Try.prog f cap w2 (Ret R)
  no : ∀ w2 er, d.pre.1 = some er → Dk w2 g nb ob d.pre.2 → w.grownBy w2 (some g) → w2.heap.size = w.heap.size → R er w2
set_option maxRecDepth 100000 in
set_option maxHeartbeats 4000000 in
theorem op_any (f : FuncId) (cap : Array Value) {g : Nat} {nb ob : Option Nat} {d : DkS} {w : World} {R : Int → World → Prop} (h : Dk w g nb ob d) (hcf : ∀ W : World, (callFunc f cap).run Try.prog W = .ok (.enter f cap) W) (hq : Ahead f cap g nb ob d w R) :
    Calls Try.prog 61 #[.pointer (some ⟨g, 0, none⟩), .func (.func f) #[] cap] w (Ret R) := by
  have hwf := h.wf.pre
  obtain ⟨h0, h1, h4, h5, h6, h7, h8⟩ := h.c
  have f5 := h.fz 5
  have f6 := h.fz 6
  have f7 := h.fz 7
  have a0 := h.wf.armed0
  have a1 := h.wf.armed
  have a2 := h.wf.fails
  have HQ := Lib.hid hq
  have HW := Lib.hid hwf
  have H := Lib.hid h
  clear h0 h1 h4 hq hwf h
  by_cases hd : d.down = true
  · have hp : d.pre = (some 11, d) := by unfold DkS.pre; rw [if_pos hd]
    rw [hd] at h5
    have HP := Lib.hid hp
    clear hp hd
    go_enter Try.func61, Try.ntmps61
    go_wp2_with fail
    go_ret
    exact ⟨11, rfl, HQ.out.no w 11 (by rw [HP.out]) (by rw [HP.out]; exact H.out) (grown_refl _ _) rfl⟩
  · rw [Bool.not_eq_true] at hd
    have hd2 := hd
    rw [hd] at h5
    have HD := Lib.hid hd2
    clear hd hd2
    by_cases ha : d.armed = 0
    · have hp : d.pre = (some 11, { d with down := true }) := by unfold DkS.pre; rw [if_neg (by rw [HD.out]; simp), if_pos ha]
      have k1 : (d.armed == 0) = true := by rw [ha]; rfl
      have HP := Lib.hid hp
      clear hp ha
      go_enter Try.func61, Try.ntmps61
      go_wp2_with fail
      go_ret
      refine ⟨11, rfl, HQ.out.no _ 11 (by rw [HP.out]) ?_ (grown_set (p := ⟨g, 5, none⟩) (grown_refl _ _) (.inl rfl) _) (by simp [World.setCell])⟩
      have := HW.out
      rw [HP.out] at this ⊢
      exact Dk.set H.out 5 _ (by decide) ⟨rfl, rfl⟩ this (fun nv ov i hi => dk_down d true nv ov i hi)
    · have k1 : (d.armed == 0) = false := by rw [beq_eq_false_iff_ne]; exact ha
      have hgen : ∀ (am : Int) (W : World), (am = if 0 < d.armed then d.armed - 1 else d.armed) → Dk W g nb ob { d with armed := am } → w.grownBy W (some g) → W.heap.size = w.heap.size →
          (d.fails = 0 → d.pre = (none, { d with armed := am }) ∧ (Dk W g nb ob { d with armed := am } ∧ w.grownBy W (some g) ∧ W.heap.size = w.heap.size)) ∧
          (d.fails = 1 → d.pre = (some d.err, { d with armed := am, fails := 0 }) ∧ (Dk (W.setCell ⟨g, 7, none⟩ (.int .i64 0)) g nb ob { d with armed := am, fails := 0 } ∧ w.grownBy (W.setCell ⟨g, 7, none⟩ (.int .i64 0)) (some g) ∧ (W.setCell ⟨g, 7, none⟩ (.int .i64 0)).heap.size = w.heap.size)) ∧
          (1 < d.fails → d.pre = (none, { d with armed := am, fails := d.fails - 1 }) ∧ (Dk (W.setCell ⟨g, 7, none⟩ (.int .i64 ((d.fails : Int) - 1))) g nb ob { d with armed := am, fails := d.fails - 1 } ∧ w.grownBy (W.setCell ⟨g, 7, none⟩ (.int .i64 ((d.fails : Int) - 1))) (some g) ∧ (W.setCell ⟨g, 7, none⟩ (.int .i64 ((d.fails : Int) - 1))).heap.size = w.heap.size)) := by
        intro am W ham hD hg hs
        subst ham
        have hpre : d.pre = if d.fails = 0 then (none, { d with armed := if 0 < d.armed then d.armed - 1 else d.armed }) else if d.fails = 1 then (some d.err, { d with armed := if 0 < d.armed then d.armed - 1 else d.armed, fails := 0 }) else (none, { d with armed := if 0 < d.armed then d.armed - 1 else d.armed, fails := d.fails - 1 }) := by
          unfold DkS.pre
          rw [if_neg (by rw [HD.out]; simp), if_neg ha]
        have hw := HW.out
        refine ⟨fun h0 => ⟨by rw [hpre, if_pos h0], hD, hg, hs⟩, fun h1 => ?_, fun h2 => ?_⟩
        · have e : d.pre = (some d.err, { d with armed := if 0 < d.armed then d.armed - 1 else d.armed, fails := 0 }) := by rw [hpre, if_neg (by omega), if_pos h1]
          rw [e] at hw
          exact ⟨e, Dk.set hD 7 _ (by decide) ⟨rfl, rfl⟩ hw (fun nv ov i hi => dk_fails { d with armed := if 0 < d.armed then d.armed - 1 else d.armed } 0 nv ov i hi), grown_set (p := ⟨g, 7, none⟩) hg (.inl rfl) _, by simpa [World.setCell] using hs⟩
        · have e : d.pre = (none, { d with armed := if 0 < d.armed then d.armed - 1 else d.armed, fails := d.fails - 1 }) := by rw [hpre, if_neg (by omega), if_neg (by omega)]
          rw [e] at hw
          have ec : ((d.fails : Int) - 1) = ((d.fails - 1 : Nat) : Int) := by omega
          rw [ec]
          exact ⟨e, Dk.set hD 7 _ (by decide) ⟨rfl, rfl⟩ hw (fun nv ov i hi => dk_fails { d with armed := if 0 < d.armed then d.armed - 1 else d.armed } (d.fails - 1) nv ov i hi), grown_set (p := ⟨g, 7, none⟩) hg (.inl rfl) _, by simpa [World.setCell] using hs⟩
      have HG := Lib.hid hgen
      have k6 : IntKind.i64.wrap ((d.fails : Int) - 1) = d.fails - 1 := by simp [IntKind.wrap, IntKind.signed, IntKind.bits]; omega
      have k8 : IntKind.i64.wrap (d.armed - 1) = d.armed - 1 := by simp [IntKind.wrap, IntKind.signed, IntKind.bits]; omega
      clear hgen ha
      by_cases hA : 0 < d.armed
      all_goals
        first
          | (have hx := HG.out (d.armed - 1) (w.setCell ⟨g, 6, none⟩ (.int .i64 (d.armed - 1))) (by rw [if_pos hA])
               (Dk.set H.out 6 _ (by decide) ⟨rfl, rfl⟩ ⟨H.out.wf.most, H.out.wf.now, H.out.wf.old, H.out.wf.floor, by show -1 ≤ d.armed - 1; omega, by show d.armed - 1 ≤ _; omega, H.out.wf.fails⟩ (fun nv ov i hi => dk_armed d (d.armed - 1) nv ov i hi))
               (grown_set (p := ⟨g, 6, none⟩) (grown_refl _ _) (.inl rfl) _) (by simp [World.setCell]))
          | (have hx := HG.out d.armed w (by rw [if_neg hA]) H.out (grown_refl _ _) rfl)
        have HX := Lib.hid hx
        clear hx
        have hcase : d.fails = 0 ∨ d.fails = 1 ∨ 1 < d.fails := by omega
        rcases hcase with hf | hf | hf
        · obtain ⟨hp, hdk⟩ := HX.out.1 hf
          have k2 : ¬ (0 : Int) < d.fails := by omega
          have HP := Lib.hid hp
          have HK := Lib.hid hdk
          clear hp hdk hf
          go_enter Try.func61, Try.ntmps61
          go_wp2_with fail
          refine (HQ.out.go _ (by rw [HP.out]) (by rw [HP.out]; exact HK.out.1) HK.out.2.1 (by first | exact HK.out.2.2 | rfl)).mono ?_
          rintro e w' ⟨r, rfl, hr⟩
          go_wp2_with fail
          go_ret
          exact ⟨r, rfl, hr⟩
        · obtain ⟨hp, hdk⟩ := HX.out.2.1 hf
          have k2 : (0 : Int) < d.fails := by omega
          have k3 : ((d.fails : Int) - 1 == 0) = true := by rw [beq_iff_eq]; omega
          have k4 : (d.fails : Int) - 1 = 0 := by omega
          have HP := Lib.hid hp
          have HK := Lib.hid hdk
          have K4 := Lib.hid k4
          clear hp hdk hf k4
          go_enter Try.func61, Try.ntmps61
          go_wp2_with fail
          rw [K4.out]
          go_ret
          exact ⟨d.err, rfl, HQ.out.no _ d.err (by rw [HP.out]) (by rw [HP.out]; exact HK.out.1) HK.out.2.1 HK.out.2.2⟩
        · obtain ⟨hp, hdk⟩ := HX.out.2.2 hf
          have k2 : (0 : Int) < d.fails := by omega
          have k3 : ((d.fails : Int) - 1 == 0) = false := by rw [beq_eq_false_iff_ne]; omega
          have HP := Lib.hid hp
          have HK := Lib.hid hdk
          clear hp hdk
          go_enter Try.func61, Try.ntmps61
          go_wp2_with fail
          refine (HQ.out.go _ (by rw [HP.out]) (by rw [HP.out]; exact HK.out.1) HK.out.2.1 (by first | exact HK.out.2.2 | rfl)).mono ?_
          rintro e w' ⟨r, rfl, hr⟩
          go_wp2_with fail
          go_ret
          exact ⟨r, rfl, hr⟩
end Go.Proofs.Ytmldpamkghdohaa
