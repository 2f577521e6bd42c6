/-
  THE WALKS OF disk's Append, Sync, Truncate, ReadAt. Conditions: the disk lies in memory.
-/
import Derived.Test.YtmldpamkghdohaaDiskW3
import Derived.Test.YtmldpamkghdohaaBytes3
import Derived.Deep.RegionHeld3
import Derived.Deep.QuietTactic
import Derived.BigQuiet
namespace Go.Proofs.Ytmldpamkghdohaa
open Go.RowKit
set_option linter.unusedSimpArgs false
set_option linter.unusedVariables false

/-- What a call on a disk leaves: the answer, the disk then, all else as it was. -/
def After (w : World) (g : Nat) (nb ob : Option Nat) (d' : DkS) (w' : World) : Prop := ∃ nb' ob', Dk w' g nb' ob' d' ∧ (New w nb nb' ∨ New w ob nb') ∧ (New w nb ob' ∨ New w ob ob') ∧ w.grownBy w' (some g)
/-- The two lists' values in the fields. -/
theorem Dk.setNow {w : World} {g : Nat} {nb ob b : Option Nat} {d d' : DkS} {v : Value} (h : Dk w g nb ob d) (hv : Sl w v d'.now b) (hb : b ≠ some g) (hbl : ∀ k, b = some k → k < w.heap.size) (hd : d' = { d with now := d'.now }) (hw : d'.Wf) : Dk (w.setCell ⟨g, 2, none⟩ v) g b ob d' := by
  obtain ⟨nv, ov, k1, k2, k3⟩ := h.lies
  have hg : w.grownBy (w.setCell ⟨g, 2, none⟩ v) (some g) := grown_set (p := ⟨g, 2, none⟩) (grown_refl _ _) (.inl rfl) v
  refine ⟨hw, hb, h.on, fun k e => Nat.lt_of_lt_of_le (hbl k e) hg.size, fun k e => Nat.lt_of_lt_of_le (h.ol k e) hg.size, v, ov, (k1.set 2 v).congr fun i hi => ?_, hv.grown hg (fun k e e2 => hb (by rw [e, e2])), ?_⟩
  · rw [hd]
    match i, hi with
    | 0, _ => rfl
    | 1, _ => rfl
    | 2, _ => rfl
    | 3, _ => rfl
    | 4, _ => rfl
    | 5, _ => rfl
    | 6, _ => rfl
    | 7, _ => rfl
    | 8, _ => rfl
  · rw [hd]; exact k3.grown hg (fun k e e2 => h.on (by rw [e, e2]))
/-- What the closures do. -/
def app1 (m : List Nat) (d : DkS) : Int × DkS := if d.most < d.now.length + m.length then (5, d) else (0, { d with now := d.now ++ m })
theorem Dk.after {w w' : World} {g : Nat} {nb ob : Option Nat} {d : DkS} (h : Dk w' g nb ob d) (hg : w.grownBy w' (some g)) : After w g nb ob d w' := ⟨nb, ob, h, .inl (.inl rfl), .inr (.inl rfl), hg⟩
theorem grown_of_below' {w w' : World} {row : Option Nat} (h : Below w.heap.size w w') : w.grownBy w' row := grown_of_below h row
theorem cell_ne_set {w : World} {p q : Addr} {u v : Value} (h : w.cell? p = some v) (hne : p.block ≠ q.block) : (w.setCell q u).cell? p = some v :=
  (World.cell?_of_block (Below.heap_setCell w q u p.block hne)).trans h
set_option maxRecDepth 100000 in
set_option maxHeartbeats 1000000 in
theorem append1 {g : Nat} {nb ob : Option Nat} {d : DkS} {w : World} (h : Dk w g nb ob d) (p1 p2 : Nat) (A : Option Addr) (c : Nat) (m : List Nat) (hm : m.length ≤ 5000000) (hr : Rd w A m)
    (h1 : w.cell? ⟨p1, 0, none⟩ = some (.slice A m.length c)) (h2 : w.cell? ⟨p2, 0, none⟩ = some (.pointer (some ⟨g, 0, none⟩))) (hp1 : p1 ≠ g) (hp2 : p2 ≠ g) :
    Calls Try.prog 75 #[.pointer (some ⟨p1, 0, none⟩), .pointer (some ⟨p2, 0, none⟩)] w (Ret fun r w' => After w g nb ob (app1 m d).2 w' ∧ r = (app1 m d).1) := by
  have hcm := h.c.2.1
  obtain ⟨B, cb, hcn, hb1, hb2, hrn, hbn⟩ := h.nowC
  have w1 := h.wf.most
  have w2 := h.wf.now
  have e1 : IntKind.i64.wrap ((d.most : Int) - d.now.length) = d.most - d.now.length := by simp [IntKind.wrap, IntKind.signed, IntKind.bits]; omega
  have H := Lib.hid h
  have HR := Lib.hid hr
  have HN := Lib.hid hrn
  have HBN := Lib.hid hbn
  clear h hr hrn hbn
  by_cases hfull : d.most < d.now.length + m.length
  · have k1 : (d.most : Int) - d.now.length < m.length := by omega
    go_enter Try.func75, Try.ntmps75
    go_wp2_with fail
    go_quiet (fail)
    go_wp2
    go_ret
    have he : app1 m d = (5, d) := if_pos hfull
    refine ⟨5, rfl, ?_, by rw [he]⟩
    rw [he]
    exact (H.out.below (below_drewN' (Below.refl _ _) nq)).after (grown_drewN (grown_refl _ _) nq)
  · have k1 : ¬ (d.most : Int) - d.now.length < m.length := by omega
    have he : app1 m d = (0, { d with now := d.now ++ m }) := if_neg hfull
    rw [he]
    have hwf' : DkS.Wf { d with now := d.now ++ m } := by
      obtain ⟨q1, q2, q3, q4, q5, q6, q7⟩ := H.out.wf
      exact ⟨q1, by simp; omega, q3, by simp; omega, q5, q6, q7⟩
    have hp1l := block_lt_of_cell h1
    have hp2l := block_lt_of_cell h2
    have hgl := H.out.lt
    clear he
    go_enter Try.func75, Try.ntmps75
    go_wp2_with fail
    go_quiet (fail)
    have HB0 : Hid (Below w.heap.size w (w.drewN nq)) := below_drewN' (Below.refl _ _) nq
    replace h1 := (HB0.out.cell hp1l).trans h1
    replace h2 := (HB0.out.cell hp2l).trans h2
    replace hcn := (HB0.out.cell hgl).trans hcn
    have HFz : Hid ((w.drewN nq).frozen? ⟨g, 2, none⟩ = false) := H.out.fz 2
    have HD : Hid (Dk (w.drewN nq) g nb ob d) := H.out.below HB0.out
    have HG0 : Hid (w.grownBy (w.drewN nq) (some g)) := grown_drewN (grown_refl _ _) nq
    generalize w.drewN nq = W at *
    go_wp2_with fail
    have f2 := HFz.out
    go_region_law (first
      | (refine step_append_clip (.tmp 21) (.tmp 22) rfl rfl B d.now.length d.now rfl rfl (HN.out.below HB0.out.drew) A m.length c m rfl rfl (HR.out.below HB0.out.drew) (by omega) ?_; intro v3 w3 b3 hs3 hn3 hb3
         have f3 : w3.frozen? ⟨g, 2, none⟩ = false := (hb3.frozen (p := ⟨g, 2, none⟩) (Nat.lt_of_lt_of_le hgl HB0.out.size)).trans HFz.out
         have c3 : w3.cell? ⟨g, 2, none⟩ = some (.slice B d.now.length cb) := (hb3.cell (p := ⟨g, 2, none⟩) (Nat.lt_of_lt_of_le hgl HB0.out.size)).trans hcn
         have c4 : w3.cell? ⟨p1, 0, none⟩ = some (.slice A m.length c) := (hb3.cell (p := ⟨p1, 0, none⟩) (Nat.lt_of_lt_of_le hp1l HB0.out.size)).trans h1
         have c5 : w3.cell? ⟨p2, 0, none⟩ = some (.pointer (some ⟨g, 0, none⟩)) := (hb3.cell (p := ⟨p2, 0, none⟩) (Nat.lt_of_lt_of_le hp2l HB0.out.size)).trans h2
         have HS3 := Lib.hid hs3
         have HN3 := Lib.hid hn3
         have HB3 := Lib.hid hb3
         obtain ⟨A3, c3', rfl, hs4⟩ := hs3
         clear hs4)
      | (go_simp; go_at_call 76; (refine (clip_any B d.now.length cb _ hb1).mono ?_); rintro e w' ⟨rfl, rfl⟩))
    all_goals
      go_wp2
      go_ret
      refine ⟨0, rfl, ?_, rfl⟩
      have hb4 : Below W.heap.size W w3 := (below_drewN' (Below.refl _ _) 1).trans HB3.out
      have hnb : b3 ≠ some g := by
        rcases HN3.out with e | e
        · rw [e, HBN.out]; exact H.out.nn
        · intro e2; have := (e g e2).1; have := HD.out.lt; have : g < W.drew.heap.size := this; omega
      have hnl : ∀ k, b3 = some k → k < w3.heap.size := by
        rcases HN3.out with e | e
        · rw [e, HBN.out]; exact fun k e => Nat.lt_of_lt_of_le (HD.out.nl k e) hb4.size
        · exact fun k hk => (e k hk).2
      have hnew : New w nb b3 := by
        rcases HN3.out with e | e
        · exact .inl (by rw [e, HBN.out])
        · exact .inr fun k hk => Nat.le_trans HB0.out.size (e k hk).1
      refine ⟨b3, ob, Dk.setNow (d' := { d with now := d.now ++ m }) (HD.out.below hb4) (by have := HS3.out; rw [List.length_append] at this; exact this) hnb hnl rfl hwf', .inl hnew, .inr (.inl rfl), ?_⟩
      exact grown_set (p := ⟨g, 2, none⟩) (nil_grown HG0.out (grown_of_below hb4 _)) (.inl rfl) _
end Go.Proofs.Ytmldpamkghdohaa
