/-
  THE WALKS OF disk's Append, Sync, Truncate, ReadAt. Conditions: the disk lies in memory.
  THE WALK OF disk's Append. Conditions: the disk lies in memory, the bytes read as a list.
  THE WALKS OF disk's Sync, Truncate. Conditions: the disk lies in memory.
-/
import Derived.Test.YtlhbijpmhokmnaaQ12
import Derived.Deep.RegionHeld3
import Derived.Deep.QuietTactic
import Derived.BigQuiet
import Derived.RegionTactic
import Derived.BigRegion
namespace Go.Proofs.Ytlhbijpmhokmnaa
open Go.RowKit
set_option linter.unusedSimpArgs false
set_option linter.unusedVariables false

/-- What a call on a disk leaves: the answer, the disk then, all else as it was. -/
def After (w : World) (g : Nat) (nb ob : Option Nat) (d' : DkS) (w' : World) : Prop := ∃ nb' ob', Dk w' g nb' ob' d' ∧ (New w nb nb' ∨ New w ob nb') ∧ (New w nb ob' ∨ New w ob ob') ∧ w.grownBy w' (some g)
/-- The two lists' values in the fields. -/
theorem Dk.setNow {w : World} {g : Nat} {nb ob b : Option Nat} {d d' : DkS} {v : Value} (h : Dk w g nb ob d) (hv : Sl w v d'.now b) (hb : b ≠ some g) (hbl : ∀ k, b = some k → k < w.heap.size) (hd : d' = { d with now := d'.now }) (hw : d'.Wf) : Dk (w.setCell ⟨g, 2, none⟩ v) g b ob d' := by
  obtain ⟨nv, ov, k1, k2, k3⟩ := h.lies
  have hg : w.grownBy (w.setCell ⟨g, 2, none⟩ v) (some g) := grown_set (p := ⟨g, 2, none⟩) (grown_refl _ _) (.inl rfl) v
  refine ⟨hw, hb, h.on, fun k e => Nat.lt_of_lt_of_le (hbl k e) hg.size, fun k e => Nat.lt_of_lt_of_le (h.ol k e) hg.size, v, ov, (k1.set 2 v).congr fun i hi => ?_, hv.grown hg (fun k e e2 => hb (by rw [e, e2])), ?_⟩
  · rw [hd]
    match i, hi with
    | 0, _ => rfl
    | 1, _ => rfl
    | 2, _ => rfl
    | 3, _ => rfl
    | 4, _ => rfl
    | 5, _ => rfl
    | 6, _ => rfl
    | 7, _ => rfl
    | 8, _ => rfl
  · rw [hd]; exact k3.grown hg (fun k e e2 => h.on (by rw [e, e2]))
/-- What the closures do. -/
def app1 (m : List Nat) (d : DkS) : Int × DkS := if d.most < d.now.length + m.length then (5, d) else (0, { d with now := d.now ++ m })
theorem Dk.after {w w' : World} {g : Nat} {nb ob : Option Nat} {d : DkS} (h : Dk w' g nb ob d) (hg : w.grownBy w' (some g)) : After w g nb ob d w' := ⟨nb, ob, h, .inl (.inl rfl), .inr (.inl rfl), hg⟩
theorem grown_of_below' {w w' : World} {row : Option Nat} (h : Below w.heap.size w w') : w.grownBy w' row := grown_of_below h row
theorem cell_ne_set {w : World} {p q : Addr} {u v : Value} (h : w.cell? p = some v) (hne : p.block ≠ q.block) : (w.setCell q u).cell? p = some v :=
  (World.cell?_of_block (Below.heap_setCell w q u p.block hne)).trans h
set_option maxRecDepth 100000 in
set_option maxHeartbeats 1000000 in
theorem append1 {g : Nat} {nb ob : Option Nat} {d : DkS} {w : World} (h : Dk w g nb ob d) (p1 p2 : Nat) (A : Option Addr) (c : Nat) (m : List Nat) (hm : m.length ≤ 5000000) (hr : Rd w A m)
    (h1 : w.cell? ⟨p1, 0, none⟩ = some (.slice A m.length c)) (h2 : w.cell? ⟨p2, 0, none⟩ = some (.pointer (some ⟨g, 0, none⟩))) (hp1 : p1 ≠ g) (hp2 : p2 ≠ g) :
    Calls Try.prog 45 #[.pointer (some ⟨p1, 0, none⟩), .pointer (some ⟨p2, 0, none⟩)] w (Ret fun r w' => After w g nb ob (app1 m d).2 w' ∧ r = (app1 m d).1) := by
  have hcm := h.c.2.1
  obtain ⟨B, cb, hcn, hb1, hb2, hrn, hbn⟩ := h.nowC
  have w1 := h.wf.most
  have w2 := h.wf.now
  have e1 : IntKind.i64.wrap ((d.most : Int) - d.now.length) = d.most - d.now.length := by simp [IntKind.wrap, IntKind.signed, IntKind.bits]; omega
  have H := Lib.hid h
  have HR := Lib.hid hr
  have HN := Lib.hid hrn
  have HBN := Lib.hid hbn
  clear h hr hrn hbn
  by_cases hfull : d.most < d.now.length + m.length
  · have k1 : (d.most : Int) - d.now.length < m.length := by omega
    go_enter Try.func45, Try.ntmps45
    go_wp2_with fail
    go_quiet (fail)
    go_wp2
    go_ret
    have he : app1 m d = (5, d) := if_pos hfull
    refine ⟨5, rfl, ?_, by rw [he]⟩
    rw [he]
    exact (H.out.below (below_drewN' (Below.refl _ _) nq)).after (grown_drewN (grown_refl _ _) nq)
  · have k1 : ¬ (d.most : Int) - d.now.length < m.length := by omega
    have he : app1 m d = (0, { d with now := d.now ++ m }) := if_neg hfull
    rw [he]
    have hwf' : DkS.Wf { d with now := d.now ++ m } := by
      obtain ⟨q1, q2, q3, q4, q5, q6, q7⟩ := H.out.wf
      exact ⟨q1, by simp; omega, q3, by simp; omega, q5, q6, q7⟩
    have hp1l := block_lt_of_cell h1
    have hp2l := block_lt_of_cell h2
    have hgl := H.out.lt
    clear he
    go_enter Try.func45, Try.ntmps45
    go_wp2_with fail
    go_quiet (fail)
    have HB0 : Hid (Below w.heap.size w (w.drewN nq)) := below_drewN' (Below.refl _ _) nq
    replace h1 := (HB0.out.cell hp1l).trans h1
    replace h2 := (HB0.out.cell hp2l).trans h2
    replace hcn := (HB0.out.cell hgl).trans hcn
    have HFz : Hid ((w.drewN nq).frozen? ⟨g, 2, none⟩ = false) := H.out.fz 2
    have HD : Hid (Dk (w.drewN nq) g nb ob d) := H.out.below HB0.out
    have HG0 : Hid (w.grownBy (w.drewN nq) (some g)) := grown_drewN (grown_refl _ _) nq
    generalize w.drewN nq = W at *
    go_wp2_with fail
    have f2 := HFz.out
    go_region_law (first
      | (refine step_append_clip (.tmp 21) (.tmp 22) rfl rfl B d.now.length d.now rfl rfl (HN.out.below HB0.out.drew) A m.length c m rfl rfl (HR.out.below HB0.out.drew) (by omega) ?_; intro v3 w3 b3 hs3 hn3 hb3
         have f3 : w3.frozen? ⟨g, 2, none⟩ = false := (hb3.frozen (p := ⟨g, 2, none⟩) (Nat.lt_of_lt_of_le hgl HB0.out.size)).trans HFz.out
         have c3 : w3.cell? ⟨g, 2, none⟩ = some (.slice B d.now.length cb) := (hb3.cell (p := ⟨g, 2, none⟩) (Nat.lt_of_lt_of_le hgl HB0.out.size)).trans hcn
         have c4 : w3.cell? ⟨p1, 0, none⟩ = some (.slice A m.length c) := (hb3.cell (p := ⟨p1, 0, none⟩) (Nat.lt_of_lt_of_le hp1l HB0.out.size)).trans h1
         have c5 : w3.cell? ⟨p2, 0, none⟩ = some (.pointer (some ⟨g, 0, none⟩)) := (hb3.cell (p := ⟨p2, 0, none⟩) (Nat.lt_of_lt_of_le hp2l HB0.out.size)).trans h2
         have HS3 := Lib.hid hs3
         have HN3 := Lib.hid hn3
         have HB3 := Lib.hid hb3
         obtain ⟨A3, c3', rfl, hs4⟩ := hs3
         clear hs4)
      | (go_simp; go_at_call 46; (refine (clip_any B d.now.length cb _ hb1).mono ?_); rintro e w' ⟨rfl, rfl⟩))
    all_goals
      go_wp2
      go_ret
      refine ⟨0, rfl, ?_, rfl⟩
      have hb4 : Below W.heap.size W w3 := (below_drewN' (Below.refl _ _) 1).trans HB3.out
      have hnb : b3 ≠ some g := by
        rcases HN3.out with e | e
        · rw [e, HBN.out]; exact H.out.nn
        · intro e2; have := (e g e2).1; have := HD.out.lt; have : g < W.drew.heap.size := this; omega
      have hnl : ∀ k, b3 = some k → k < w3.heap.size := by
        rcases HN3.out with e | e
        · rw [e, HBN.out]; exact fun k e => Nat.lt_of_lt_of_le (HD.out.nl k e) hb4.size
        · exact fun k hk => (e k hk).2
      have hnew : New w nb b3 := by
        rcases HN3.out with e | e
        · exact .inl (by rw [e, HBN.out])
        · exact .inr fun k hk => Nat.le_trans HB0.out.size (e k hk).1
      refine ⟨b3, ob, Dk.setNow (d' := { d with now := d.now ++ m }) (HD.out.below hb4) (by have := HS3.out; rw [List.length_append] at this; exact this) hnb hnl rfl hwf', .inl hnew, .inr (.inl rfl), ?_⟩
      exact grown_set (p := ⟨g, 2, none⟩) (nil_grown HG0.out (grown_of_below hb4 _)) (.inl rfl) _
end Go.Proofs.Ytlhbijpmhokmnaa
namespace Go.Proofs.Ytlhbijpmhokmnaa
open Go.RowKit
set_option linter.unusedSimpArgs false
set_option linter.unusedVariables false

theorem After.from {w W w' : World} {g : Nat} {nb ob : Option Nat} {d : DkS} (hg : w.grownBy W (some g)) (h : After W g nb ob d w') : After w g nb ob d w' := by
  obtain ⟨n', o', h1, h2, h3, h4⟩ := h
  have key : ∀ x y, New W x y → New w x y := fun x y h => by
    rcases h with h | h
    · exact .inl h
    · exact .inr fun k e => Nat.le_trans hg.size (h k e)
  exact ⟨n', o', h1, h2.imp (key _ _) (key _ _), h3.imp (key _ _) (key _ _), nil_grown hg h4⟩
/-- Bytes do not lie in a disk's own block. -/
theorem Dk.apart {w : World} {g : Nat} {nb ob : Option Nat} {d : DkS} (h : Dk w g nb ob d) {A : Option Addr} {m : List Nat} (hr : Rd w A m) : m = [] ∨ ∃ b o, A = some ⟨b, o, none⟩ ∧ b ≠ g ∧ b < w.heap.size := by
  by_cases hm : m = []
  · exact .inl hm
  · obtain ⟨b, o, rfl, hb, hc⟩ := hr.2 hm
    refine .inr ⟨b, o, rfl, ?_, hb⟩
    rintro rfl
    have h0 := hc 0 (List.length_pos_iff.2 hm)
    obtain ⟨nv, ov, ⟨cs, h1, h2, h3⟩, ⟨A1, c1, rfl, _⟩, ⟨A2, c2, rfl, _⟩⟩ := h.lies
    rw [Nat.add_zero, cell_of_row _ _ _ _ _ _ h1] at h0
    rcases Nat.lt_or_ge o 9 with ho | ho
    · rw [h3 o ho] at h0
      rcases (show o = 0 ∨ o = 1 ∨ o = 2 ∨ o = 3 ∨ o = 4 ∨ o = 5 ∨ o = 6 ∨ o = 7 ∨ o = 8 by omega) with rfl | rfl | rfl | rfl | rfl | rfl | rfl | rfl | rfl <;> simp [dkC] at h0
    · rw [Array.getElem?_eq_none (by omega)] at h0
      cases h0
theorem Dk.rd {w w' : World} {g : Nat} {nb ob : Option Nat} {d : DkS} (h : Dk w g nb ob d) {A : Option Addr} {m : List Nat} (hr : Rd w A m) (hg : w.grownBy w' (some g)) : Rd w' A m := by
  rcases h.apart hr with rfl | ⟨b, o, rfl, hb, hl⟩
  · exact ⟨hr.1, fun h => absurd rfl h⟩
  · exact hr.grown hg (fun a e => by injection e with e; subst e; intro e; injection e with e; exact hb e)
set_option maxRecDepth 100000 in
set_option maxHeartbeats 1000000 in
theorem append_any {g : Nat} {nb ob : Option Nat} {d : DkS} {w : World} (h : Dk w g nb ob d) (A : Option Addr) (c : Nat) (m : List Nat) (hm : m.length ≤ 5000000) (hr : Rd w A m) :
    Calls Try.prog 25 #[.pointer (some ⟨g, 0, none⟩), .slice A m.length c] w (Ret fun r w' => After w g nb ob (d.append m).2 w' ∧ r = (d.append m).1) := by
  have hgl := h.lt
  have H := Lib.hid h
  have HR := Lib.hid hr
  clear h hr
  go_enter Try.func25, Try.ntmps25
  go_wp2_with fail
  have hg0 : Below w.heap.size w ((w.alloc (.cells #[.pointer (some ⟨g, 0, none⟩)] 39)).alloc (.cells #[.slice A m.length c] 22)) := ((Below.refl _ _).alloc (Nat.le_refl _) _).alloc (by simp) _
  have c1 : ((w.alloc (.cells #[.pointer (some ⟨g, 0, none⟩)] 39)).alloc (.cells #[.slice A m.length c] 22)).cell? ⟨w.heap.size + 1, 0, none⟩ = some (.slice A m.length c) := by
    rw [cell_of_row _ _ _ _ _ _ (heap_alloc2_new _ _ _)]; rfl
  have c2 : ((w.alloc (.cells #[.pointer (some ⟨g, 0, none⟩)] 39)).alloc (.cells #[.slice A m.length c] 22)).cell? ⟨w.heap.size, 0, none⟩ = some (.pointer (some ⟨g, 0, none⟩)) := by
    rw [cell_of_row _ _ _ _ _ _ (heap_alloc2_old _ _ _)]; rfl
  have hs : ((w.alloc (.cells #[.pointer (some ⟨g, 0, none⟩)] 39)).alloc (.cells #[.slice A m.length c] 22)).heap.size = w.heap.size + 2 := by simp
  generalize (w.alloc (.cells #[.pointer (some ⟨g, 0, none⟩)] 39)).alloc (.cells #[.slice A m.length c] 22) = W at *
  have HD := Lib.hid (H.out.below hg0)
  have HG := Lib.hid (grown_of_below hg0 (some g))
  have HS := Lib.hid hs
  have HRW := Lib.hid (HR.out.below hg0)
  have C1 := Lib.hid c1
  clear hg0 hs c1
  refine (none_any HD.out).mono ?_
  rintro e w' ⟨rfl, rfl⟩
  have C2 := Lib.hid c2
  go_wp2_with fail
  have hah : Ahead 45 #[.pointer (some ⟨w.heap.size + 1, 0, none⟩), .pointer (some ⟨w.heap.size, 0, none⟩)] g nb ob d W (fun r w' => After w g nb ob (d.append m).2 w' ∧ r = (d.append m).1) := by
    refine ⟨fun w2 hp hd hg hsz => ?_, fun w2 er hp hd hg hsz => ?_⟩
    · have hw2 := hd.wf
      refine (append1 hd (w.heap.size + 1) w.heap.size A c m hm ?_ ?_ ?_ (by omega) (by omega)).mono ?_
      · exact HD.out.rd HRW.out hg
      · exact (World.cell?_of_block (hg.block (w.heap.size + 1) (by rw [HS.out]; omega) (by intro e; injection e with e; omega))).trans C1.out
      · exact (World.cell?_of_block (hg.block w.heap.size (by rw [HS.out]; omega) (by intro e; injection e with e; omega))).trans C2.out
      · rintro e w' ⟨r, rfl, ha, rfl⟩
        have he : d.append m = app1 m d.pre.2 := by
          unfold DkS.append DkS.op
          cases hq : d.pre with
          | mk x y => rw [hq] at hp; have : x = none := hp; subst this; rfl
        exact ⟨_, rfl, by rw [he]; exact (ha.from hg).from HG.out, by rw [he]⟩
    · have he : d.append m = (er, d.pre.2) := by
        unfold DkS.append DkS.op
        cases hq : d.pre with
        | mk x y => rw [hq] at hp; have : x = some er := hp; subst this; rfl
      rw [he]
      exact ⟨((hd.after hg).from HG.out), rfl⟩
  refine (op_any _ _ HD.out (fun W => ?_) hah).mono ?_
  · kernel_rfl
  rintro e w' ⟨r, rfl, hr⟩
  have HRR := Lib.hid hr
  clear hr hah
  go_wp2_with fail
  go_ret
  exact ⟨r, rfl, HRR.out⟩
end Go.Proofs.Ytlhbijpmhokmnaa
namespace Go.Proofs.Ytlhbijpmhokmnaa
open Go.RowKit
set_option linter.unusedSimpArgs false
set_option linter.unusedVariables false

theorem Dk.setOld {w : World} {g : Nat} {nb ob b : Option Nat} {d d' : DkS} {v : Value} (h : Dk w g nb ob d) (hv : Sl w v d'.old b) (hb : b ≠ some g) (hbl : ∀ k, b = some k → k < w.heap.size) (hd : d' = { d with old := d'.old }) (hw : d'.Wf) : Dk (w.setCell ⟨g, 3, none⟩ v) g nb b d' := by
  obtain ⟨nv, ov, k1, k2, k3⟩ := h.lies
  have hg : w.grownBy (w.setCell ⟨g, 3, none⟩ v) (some g) := grown_set (p := ⟨g, 3, none⟩) (grown_refl _ _) (.inl rfl) v
  refine ⟨hw, h.nn, hb, fun k e => Nat.lt_of_lt_of_le (h.nl k e) hg.size, fun k e => Nat.lt_of_lt_of_le (hbl k e) hg.size, nv, v, (k1.set 3 v).congr fun i hi => ?_, ?_, hv.grown hg (fun k e e2 => hb (by rw [e, e2]))⟩
  · rw [hd]
    match i, hi with
    | 0, _ => rfl
    | 1, _ => rfl
    | 2, _ => rfl
    | 3, _ => rfl
    | 4, _ => rfl
    | 5, _ => rfl
    | 6, _ => rfl
    | 7, _ => rfl
    | 8, _ => rfl
  · rw [hd]; exact k2.grown hg (fun k e e2 => h.nn (by rw [e, e2]))
theorem keep_set {w : World} {a b : Addr} {u v : Value} (h : w.cell? b = some v) (hne : a ≠ b) : (w.setCell a u).cell? b = some v := by
  rw [World.cell?_setCell_other (h := hne)]
  exact h
theorem grown_set2 {w W : World} {g : Nat} (hg : w.grownBy W (some g)) (i j : Nat) (u v : Value) : w.grownBy ((W.setCell ⟨g, i, none⟩ u).setCell ⟨g, j, none⟩ v) (some g) :=
  grown_set (p := ⟨g, j, none⟩) (grown_set (p := ⟨g, i, none⟩) hg (.inl rfl) u) (.inl rfl) v
set_option maxRecDepth 100000 in
set_option maxHeartbeats 1000000 in
theorem sync1 {g : Nat} {nb ob : Option Nat} {d : DkS} {w : World} (h : Dk w g nb ob d) (p : Nat) (h2 : w.cell? ⟨p, 0, none⟩ = some (.pointer (some ⟨g, 0, none⟩))) (hp : p ≠ g) :
    Calls Try.prog 47 #[.pointer (some ⟨p, 0, none⟩)] w (Ret fun r w' => After w g nb ob { d with old := d.now, floor := d.now.length } w' ∧ r = 0) := by
  obtain ⟨B, cb, hcn, hb1, hb2, hrn, hbn⟩ := h.nowC
  obtain ⟨Bo, co, hco, -, -, -, -⟩ := h.oldC
  have hcf := h.c.2.2.1
  have f3 := h.fz 3
  have f4 := h.fz 4
  have hl : d.now.length ≤ 140737488355328 := by have := h.wf.now; have := h.wf.most; omega
  have hpl := block_lt_of_cell h2
  have hgl := h.lt
  have H := Lib.hid h
  have HN := Lib.hid hrn
  have F3 := Lib.hid f3
  have F4 := Lib.hid f4
  have CO := Lib.hid hco
  have CF := Lib.hid hcf
  clear h hrn hbn
  go_enter Try.func47, Try.ntmps47
  go_wp2_with fail
  go_region_held3 (fun w' => w'.cell? ⟨p, 0, none⟩ = some (.pointer (some ⟨g, 0, none⟩)) ∧ w'.cell? ⟨g, 2, none⟩ = some (.slice B d.now.length cb))
    (first
      | exact ⟨h2, hcn⟩
      | exact ⟨(HB3.out.cell (p := ⟨p, 0, none⟩) hpl).trans h2, (HB3.out.cell (p := ⟨g, 2, none⟩) hgl).trans hcn⟩
      | exact ⟨keep_set cp (by simp), keep_set c2 (by simp)⟩
      | exact ⟨keep_set (keep_set cp (by simp)) (by simp), keep_set (keep_set c2 (by simp)) (by simp)⟩
      | go_keep)
    (first
      | (go_at_call 43; (refine (clone_lt B d.now.length cb d.now _ rfl HN.out.drew hl).mono ?_); rintro e w3 ⟨v3, b3, rfl, ⟨A3, c3', rfl, hs3⟩, hn3, hb3⟩
         have HB3 : Hid (Below w.heap.size w w3) := (below_drewN' (Below.refl _ _) 1).trans hb3
         have g3 : w3.frozen? ⟨g, 3, none⟩ = false := (HB3.out.frozen (p := ⟨g, 3, none⟩) hgl).trans F3.out
         have g4 : w3.frozen? ⟨g, 4, none⟩ = false := (HB3.out.frozen (p := ⟨g, 4, none⟩) hgl).trans F4.out
         have c3 : w3.cell? ⟨g, 3, none⟩ = some (.slice Bo d.old.length co) := (HB3.out.cell (p := ⟨g, 3, none⟩) hgl).trans CO.out
         have c4 : w3.cell? ⟨g, 4, none⟩ = some (.int .i64 d.floor) := (HB3.out.cell (p := ⟨g, 4, none⟩) hgl).trans CF.out
         have cp : w3.cell? ⟨p, 0, none⟩ = some (.pointer (some ⟨g, 0, none⟩)) := (HB3.out.cell (p := ⟨p, 0, none⟩) hpl).trans h2
         have c2 : w3.cell? ⟨g, 2, none⟩ = some (.slice B d.now.length cb) := (HB3.out.cell (p := ⟨g, 2, none⟩) hgl).trans hcn
         have HS3 : Hid (Sl w3 (.slice A3 d.now.length c3') d.now b3) := ⟨A3, c3', rfl, hs3⟩
         have HN3 := Lib.hid hn3
         clear hb3 hn3 hs3))
  all_goals
    go_wp2
    go_ret
    have hnb : b3 ≠ some g := by
      intro e; have := (HN3.out g e).1; have : w.heap.size ≤ g := this; omega
    have hnew : New w ob b3 := .inr fun k hk => (HN3.out k hk).1
    have hD := H.out.below HB3.out
    obtain ⟨q1, q2, q3, q4, q5, q6, q7⟩ := H.out.wf
    refine ⟨0, rfl, ?_, rfl⟩
    refine ⟨nb, b3, ?_, .inl (.inl rfl), .inr hnew, grown_set2 (grown_of_below HB3.out _) _ _ _ _⟩
    first
      | exact Dk.set (Dk.setOld (d' := { d with old := d.now }) hD HS3.out hnb (fun k e => (HN3.out k e).2) rfl ⟨q1, q2, q2, q4, q5, q6, q7⟩) 4 _ (by decide) ⟨rfl, rfl⟩ ⟨q1, q2, q2, q2, q5, q6, q7⟩ (fun nv ov i hi => dk_floor { d with old := d.now } d.now.length nv ov i hi)
      | exact Dk.setOld (d' := { d with old := d.now, floor := d.now.length }) (Dk.set (d' := { d with floor := d.now.length }) hD 4 _ (by decide) ⟨rfl, rfl⟩ ⟨q1, q2, q3, q2, q5, q6, q7⟩ (fun nv ov i hi => dk_floor d d.now.length nv ov i hi)) (HS3.out.grown (grown_set (p := ⟨g, 4, none⟩) (row := some g) (grown_refl _ _) (.inl rfl) _) (fun k e e2 => hnb (by rw [e, e2]))) hnb (fun k e => by have := (HN3.out k e).2; simpa [World.setCell] using this) rfl ⟨q1, q2, q2, q2, q5, q6, q7⟩
theorem op_of {f : FuncId} {cap : Array Value} {g : Nat} {nb ob : Option Nat} {d : DkS} {w W : World} (F : DkS → Int × DkS) (HD : Dk W g nb ob d) (HG : w.grownBy W (some g))
    (h : ∀ w2, Dk w2 g nb ob d.pre.2 → W.grownBy w2 (some g) → w2.heap.size = W.heap.size → Calls Try.prog f cap w2 (Ret fun r w' => After w2 g nb ob (F d.pre.2).2 w' ∧ r = (F d.pre.2).1)) :
    Ahead f cap g nb ob d W (fun r w' => After w g nb ob (d.op F).2 w' ∧ r = (d.op F).1) := by
  refine ⟨fun w2 hp hd hg hsz => ?_, fun w2 er hp hd hg hsz => ?_⟩
  · refine (h w2 hd hg hsz).mono ?_
    rintro e w' ⟨r, rfl, ha, rfl⟩
    have he : d.op F = F d.pre.2 := by
      unfold DkS.op
      cases hq : d.pre with
      | mk x y => rw [hq] at hp; have : x = none := hp; subst this; rfl
    exact ⟨_, rfl, by rw [he]; exact (ha.from hg).from HG, by rw [he]⟩
  · have he : d.op F = (er, d.pre.2) := by
      unfold DkS.op
      cases hq : d.pre with
      | mk x y => rw [hq] at hp; have : x = some er := hp; subst this; rfl
    rw [he]
    exact ⟨((hd.after hg).from HG), rfl⟩
set_option maxRecDepth 100000 in
set_option maxHeartbeats 1000000 in
theorem sync_any {g : Nat} {nb ob : Option Nat} {d : DkS} {w : World} (h : Dk w g nb ob d) : Calls Try.prog 26 #[.pointer (some ⟨g, 0, none⟩)] w (Ret fun r w' => After w g nb ob d.sync.2 w' ∧ r = d.sync.1) := by
  have hgl := h.lt
  have H := Lib.hid h
  clear h
  go_enter Try.func26, Try.ntmps26
  go_wp2_with fail
  have hg0 : Below w.heap.size w (w.alloc (.cells #[.pointer (some ⟨g, 0, none⟩)] 39)) := (Below.refl _ _).alloc (Nat.le_refl _) _
  have c2 : (w.alloc (.cells #[.pointer (some ⟨g, 0, none⟩)] 39)).cell? ⟨w.heap.size, 0, none⟩ = some (.pointer (some ⟨g, 0, none⟩)) := by
    rw [cell_of_row _ _ _ _ _ _ (heap_alloc_new w _)]; rfl
  have hs : (w.alloc (.cells #[.pointer (some ⟨g, 0, none⟩)] 39)).heap.size = w.heap.size + 1 := by simp
  generalize w.alloc (.cells #[.pointer (some ⟨g, 0, none⟩)] 39) = W at *
  have HD := Lib.hid (H.out.below hg0)
  have HG := Lib.hid (grown_of_below hg0 (some g))
  have HS := Lib.hid hs
  clear hg0 hs
  refine (none_any HD.out).mono ?_
  rintro e w' ⟨rfl, rfl⟩
  have C2 := Lib.hid c2
  go_wp2_with fail
  refine (op_any _ _ HD.out (fun W => ?_) (op_of (fun d => (0, { d with old := d.now, floor := d.now.length })) HD.out HG.out fun w2 hd hg hsz => ?_)).mono ?_
  · kernel_rfl
  · exact sync1 hd w.heap.size ((World.cell?_of_block (hg.block w.heap.size (by rw [HS.out]; omega) (by intro e; injection e with e; omega))).trans C2.out) (by omega)
  rintro e w' ⟨r, rfl, hr⟩
  have HRR := Lib.hid hr
  clear hr
  go_wp2_with fail
  go_ret
  exact ⟨r, rfl, HRR.out⟩

set_option maxRecDepth 100000 in
set_option maxHeartbeats 2000000 in
theorem trunc1 {g : Nat} {nb ob : Option Nat} {d : DkS} {w : World} (h : Dk w g nb ob d) (p q n : Nat) (hn : n ≤ d.now.length) (h2 : w.cell? ⟨p, 0, none⟩ = some (.pointer (some ⟨g, 0, none⟩))) (h3 : w.cell? ⟨q, 0, none⟩ = some (.int .i64 n)) (hp : p ≠ g) (hq : q ≠ g) :
    Calls Try.prog 42 #[.pointer (some ⟨p, 0, none⟩), .pointer (some ⟨q, 0, none⟩)] w (Ret fun r w' => After w g nb ob { d with now := d.now.take n, floor := min d.floor n } w' ∧ r = 0) := by
  obtain ⟨B, cb, hcn, hb1, hb2, hrn, hbn⟩ := h.nowC
  have hcf := h.c.2.2.1
  have f2 := h.fz 2
  have f4 := h.fz 4
  have hl : d.now.length ≤ 5000000 := by have := h.wf.now; have := h.wf.most; omega
  have hpl := block_lt_of_cell h2
  have hql := block_lt_of_cell h3
  have hgl := h.lt
  have k1 : (n : Int) ≤ cb := by omega
  have k2 : n ≤ cb := by omega
  have hrt : Rd w B (d.now.take n) := by
    refine ⟨fun x hx => hrn.1 x (List.mem_of_mem_take hx), fun hne => ?_⟩
    obtain ⟨b, o, rfl, hb, hc⟩ := hrn.2 (by intro e; rw [e] at hne; simp at hne)
    refine ⟨b, o, rfl, hb, fun i hi => ?_⟩
    simp only [List.length_take] at hi
    rw [hc i (by omega)]
    simp [nth, List.getElem?_take, show i < n by omega]
  have H := Lib.hid h
  have HT := Lib.hid hrt
  have F2 := Lib.hid f2
  have F4 := Lib.hid f4
  have CF := Lib.hid hcf
  clear h hrn hbn hrt
  go_enter Try.func42, Try.ntmps42
  go_wp2_with fail
  go_region_law (first
    | (go_simp; go_at_call 43; (refine (clone_lt B n cb (d.now.take n) _ (by simp; omega) HT.out.drew (by simp; omega)).mono ?_); rintro e w3 ⟨v3, b3, rfl, ⟨A3, c3', rfl, hs3⟩, hn3, hb3⟩
       have HB3 : Hid (Below w.heap.size w w3) := (below_drewN' (Below.refl _ _) 1).trans hb3
       have g2 : w3.frozen? ⟨g, 2, none⟩ = false := (HB3.out.frozen (p := ⟨g, 2, none⟩) hgl).trans F2.out
       have cp : w3.cell? ⟨p, 0, none⟩ = some (.pointer (some ⟨g, 0, none⟩)) := (HB3.out.cell (p := ⟨p, 0, none⟩) hpl).trans h2
       have c2 : w3.cell? ⟨g, 2, none⟩ = some (.slice B d.now.length cb) := (HB3.out.cell (p := ⟨g, 2, none⟩) hgl).trans hcn
       have cq : w3.cell? ⟨q, 0, none⟩ = some (.int .i64 n) := (HB3.out.cell (p := ⟨q, 0, none⟩) hql).trans h3
       have HS3 : Hid (Sl w3 (.slice A3 (d.now.take n).length c3') (d.now.take n) b3) := ⟨A3, c3', rfl, hs3⟩
       have HN3 := Lib.hid hn3
       clear hb3 hn3 hs3))
  all_goals
    have hnb : b3 ≠ some g := by
      intro e; have := (HN3.out g e).1; have : w.heap.size ≤ g := this; omega
    have hnew : New w nb b3 := .inr fun k hk => (HN3.out k hk).1
    have hD := H.out.below HB3.out
    obtain ⟨q1, q2, q3, q4, q5, q6, q7⟩ := H.out.wf
    have hlen : (d.now.take n).length = n := by simp; omega
    have hk3 : Sl w3 (.slice A3 n c3') (d.now.take n) b3 := by have := HS3.out; rw [hlen] at this; exact this
    have hD2 : Dk (w3.setCell ⟨g, 2, none⟩ (.slice A3 n c3')) g b3 ob { d with now := d.now.take n } := Dk.setNow (d' := { d with now := d.now.take n }) hD hk3 hnb (fun k e => (HN3.out k e).2) rfl ⟨q1, by show (d.now.take n).length ≤ d.most; rw [hlen]; omega, q3, q4, q5, q6, q7⟩
    have x4 := hD2.c.2.2.1
    have y4 := hD2.fz 4
    have xp := keep_set (u := .slice A3 n c3') (a := ⟨g, 2, none⟩) cp (by simp)
    have xq := keep_set (u := .slice A3 n c3') (a := ⟨g, 2, none⟩) cq (by simp)
    have hg2 : w.grownBy (w3.setCell ⟨g, 2, none⟩ (.slice A3 n c3')) (some g) := grown_set (p := ⟨g, 2, none⟩) (grown_of_below HB3.out _) (.inl rfl) _
    have HD2 := Lib.hid hD2
    have HG2 := Lib.hid hg2
    have HNew := Lib.hid hnew
    clear hD hD2 hg2 hnew hk3 hlen cp cq c2 g2 h2 h3 hcn hcf f2 f4
    generalize w3.setCell ⟨g, 2, none⟩ (.slice A3 n c3') = X at *
    go_wp2_with fail
    go_region
  all_goals
    go_wp2
    all_goals
      go_ret
      first
        | (have e1 : min d.floor n = d.floor := by omega
           rw [e1]
           exact ⟨0, rfl, ⟨b3, ob, (Dk.set (d' := { d with now := d.now.take n, floor := d.floor }) HD2.out 4 _ (by decide) ⟨rfl, rfl⟩ HD2.out.wf (fun nv ov i hi => dk_floor { d with now := d.now.take n } d.floor nv ov i hi)).drew, .inl HNew.out, .inr (.inl rfl), grown_drew (grown_set (p := ⟨g, 4, none⟩) HG2.out (.inl rfl) _)⟩, rfl⟩)
        | (have e1 : min d.floor n = n := by omega
           rw [e1]
           exact ⟨0, rfl, ⟨b3, ob, (Dk.set (d' := { d with now := d.now.take n, floor := n }) HD2.out 4 _ (by decide) ⟨rfl, rfl⟩ ⟨HD2.out.wf.most, HD2.out.wf.now, HD2.out.wf.old, by show n ≤ d.most; omega, HD2.out.wf.armed0, HD2.out.wf.armed, HD2.out.wf.fails⟩ (fun nv ov i hi => dk_floor { d with now := d.now.take n } n nv ov i hi)).drew, .inl HNew.out, .inr (.inl rfl), grown_drew (grown_set (p := ⟨g, 4, none⟩) HG2.out (.inl rfl) _)⟩, rfl⟩)
end Go.Proofs.Ytlhbijpmhokmnaa
