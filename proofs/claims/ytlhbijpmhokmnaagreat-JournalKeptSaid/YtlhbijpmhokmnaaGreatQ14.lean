/-
  THE WALKS OF disk's Sync, Truncate. Conditions: the disk lies in memory.
-/
import Derived.Test.YtlhbijpmhokmnaaGreatQ13
import Derived.RegionTactic
import Derived.BigRegion
namespace Go.Proofs.YtlhbijpmhokmnaaGreat
open Go.RowKit
set_option linter.unusedSimpArgs false
set_option linter.unusedVariables false

theorem Dk.setOld {w : World} {g : Nat} {nb ob b : Option Nat} {d d' : DkS} {v : Value} (h : Dk w g nb ob d) (hv : Sl w v d'.old b) (hb : b ≠ some g) (hbl : ∀ k, b = some k → k < w.heap.size) (hd : d' = { d with old := d'.old }) (hw : d'.Wf) : Dk (w.setCell ⟨g, 3, none⟩ v) g nb b d' := by
  obtain ⟨nv, ov, k1, k2, k3⟩ := h.lies
  have hg : w.grownBy (w.setCell ⟨g, 3, none⟩ v) (some g) := grown_set (p := ⟨g, 3, none⟩) (grown_refl _ _) (.inl rfl) v
  refine ⟨hw, h.nn, hb, fun k e => Nat.lt_of_lt_of_le (h.nl k e) hg.size, fun k e => Nat.lt_of_lt_of_le (hbl k e) hg.size, nv, v, (k1.set 3 v).congr fun i hi => ?_, ?_, hv.grown hg (fun k e e2 => hb (by rw [e, e2]))⟩
  · rw [hd]
    match i, hi with
    | 0, _ => rfl
    | 1, _ => rfl
    | 2, _ => rfl
    | 3, _ => rfl
    | 4, _ => rfl
    | 5, _ => rfl
    | 6, _ => rfl
    | 7, _ => rfl
    | 8, _ => rfl
  · rw [hd]; exact k2.grown hg (fun k e e2 => h.nn (by rw [e, e2]))
theorem keep_set {w : World} {a b : Addr} {u v : Value} (h : w.cell? b = some v) (hne : a ≠ b) : (w.setCell a u).cell? b = some v := by
  rw [World.cell?_setCell_other (h := hne)]
  exact h
theorem grown_set2 {w W : World} {g : Nat} (hg : w.grownBy W (some g)) (i j : Nat) (u v : Value) : w.grownBy ((W.setCell ⟨g, i, none⟩ u).setCell ⟨g, j, none⟩ v) (some g) :=
  grown_set (p := ⟨g, j, none⟩) (grown_set (p := ⟨g, i, none⟩) hg (.inl rfl) u) (.inl rfl) v
set_option maxRecDepth 100000 in
set_option maxHeartbeats 1000000 in
theorem sync1 {g : Nat} {nb ob : Option Nat} {d : DkS} {w : World} (h : Dk w g nb ob d) (p : Nat) (h2 : w.cell? ⟨p, 0, none⟩ = some (.pointer (some ⟨g, 0, none⟩))) (hp : p ≠ g) :
    Calls Tryz.prog 81 #[.pointer (some ⟨p, 0, none⟩)] w (Ret fun r w' => After w g nb ob { d with old := d.now, floor := d.now.length } w' ∧ r = 0) := by
  obtain ⟨B, cb, hcn, hb1, hb2, hrn, hbn⟩ := h.nowC
  obtain ⟨Bo, co, hco, -, -, -, -⟩ := h.oldC
  have hcf := h.c.2.2.1
  have f3 := h.fz 3
  have f4 := h.fz 4
  have hl : d.now.length ≤ 140737488355328 := by have := h.wf.now; have := h.wf.most; omega
  have hpl := block_lt_of_cell h2
  have hgl := h.lt
  have H := Lib.hid h
  have HN := Lib.hid hrn
  have F3 := Lib.hid f3
  have F4 := Lib.hid f4
  have CO := Lib.hid hco
  have CF := Lib.hid hcf
  clear h hrn hbn
  go_enter Tryz.func81, Tryz.ntmps81
  go_wp2_with fail
  go_region_held3 (fun w' => w'.cell? ⟨p, 0, none⟩ = some (.pointer (some ⟨g, 0, none⟩)) ∧ w'.cell? ⟨g, 2, none⟩ = some (.slice B d.now.length cb))
    (first
      | exact ⟨h2, hcn⟩
      | exact ⟨(HB3.out.cell (p := ⟨p, 0, none⟩) hpl).trans h2, (HB3.out.cell (p := ⟨g, 2, none⟩) hgl).trans hcn⟩
      | exact ⟨keep_set cp (by simp), keep_set c2 (by simp)⟩
      | exact ⟨keep_set (keep_set cp (by simp)) (by simp), keep_set (keep_set c2 (by simp)) (by simp)⟩
      | go_keep)
    (first
      | (go_at_call 29; (refine (clone_lt B d.now.length cb d.now _ rfl HN.out.drew hl).mono ?_); rintro e w3 ⟨v3, b3, rfl, ⟨A3, c3', rfl, hs3⟩, hn3, hb3⟩
         have HB3 : Hid (Below w.heap.size w w3) := (below_drewN' (Below.refl _ _) 1).trans hb3
         have g3 : w3.frozen? ⟨g, 3, none⟩ = false := (HB3.out.frozen (p := ⟨g, 3, none⟩) hgl).trans F3.out
         have g4 : w3.frozen? ⟨g, 4, none⟩ = false := (HB3.out.frozen (p := ⟨g, 4, none⟩) hgl).trans F4.out
         have c3 : w3.cell? ⟨g, 3, none⟩ = some (.slice Bo d.old.length co) := (HB3.out.cell (p := ⟨g, 3, none⟩) hgl).trans CO.out
         have c4 : w3.cell? ⟨g, 4, none⟩ = some (.int .i64 d.floor) := (HB3.out.cell (p := ⟨g, 4, none⟩) hgl).trans CF.out
         have cp : w3.cell? ⟨p, 0, none⟩ = some (.pointer (some ⟨g, 0, none⟩)) := (HB3.out.cell (p := ⟨p, 0, none⟩) hpl).trans h2
         have c2 : w3.cell? ⟨g, 2, none⟩ = some (.slice B d.now.length cb) := (HB3.out.cell (p := ⟨g, 2, none⟩) hgl).trans hcn
         have HS3 : Hid (Sl w3 (.slice A3 d.now.length c3') d.now b3) := ⟨A3, c3', rfl, hs3⟩
         have HN3 := Lib.hid hn3
         clear hb3 hn3 hs3))
  all_goals
    go_wp2
    go_ret
    have hnb : b3 ≠ some g := by
      intro e; have := (HN3.out g e).1; have : w.heap.size ≤ g := this; omega
    have hnew : New w ob b3 := .inr fun k hk => (HN3.out k hk).1
    have hD := H.out.below HB3.out
    obtain ⟨q1, q2, q3, q4, q5, q6, q7⟩ := H.out.wf
    refine ⟨0, rfl, ?_, rfl⟩
    refine ⟨nb, b3, ?_, .inl (.inl rfl), .inr hnew, grown_set2 (grown_of_below HB3.out _) _ _ _ _⟩
    first
      | exact Dk.set (Dk.setOld (d' := { d with old := d.now }) hD HS3.out hnb (fun k e => (HN3.out k e).2) rfl ⟨q1, q2, q2, q4, q5, q6, q7⟩) 4 _ (by decide) ⟨rfl, rfl⟩ ⟨q1, q2, q2, q2, q5, q6, q7⟩ (fun nv ov i hi => dk_floor { d with old := d.now } d.now.length nv ov i hi)
      | exact Dk.setOld (d' := { d with old := d.now, floor := d.now.length }) (Dk.set (d' := { d with floor := d.now.length }) hD 4 _ (by decide) ⟨rfl, rfl⟩ ⟨q1, q2, q3, q2, q5, q6, q7⟩ (fun nv ov i hi => dk_floor d d.now.length nv ov i hi)) (HS3.out.grown (grown_set (p := ⟨g, 4, none⟩) (row := some g) (grown_refl _ _) (.inl rfl) _) (fun k e e2 => hnb (by rw [e, e2]))) hnb (fun k e => by have := (HN3.out k e).2; simpa [World.setCell] using this) rfl ⟨q1, q2, q2, q2, q5, q6, q7⟩
theorem op_of {f : FuncId} {cap : Array Value} {g : Nat} {nb ob : Option Nat} {d : DkS} {w W : World} (F : DkS → Int × DkS) (HD : Dk W g nb ob d) (HG : w.grownBy W (some g))
    (h : ∀ w2, Dk w2 g nb ob d.pre.2 → W.grownBy w2 (some g) → w2.heap.size = W.heap.size → Calls Tryz.prog f cap w2 (Ret fun r w' => After w2 g nb ob (F d.pre.2).2 w' ∧ r = (F d.pre.2).1)) :
    Ahead f cap g nb ob d W (fun r w' => After w g nb ob (d.op F).2 w' ∧ r = (d.op F).1) := by
  refine ⟨fun w2 hp hd hg hsz => ?_, fun w2 er hp hd hg hsz => ?_⟩
  · refine (h w2 hd hg hsz).mono ?_
    rintro e w' ⟨r, rfl, ha, rfl⟩
    have he : d.op F = F d.pre.2 := by
      unfold DkS.op
      cases hq : d.pre with
      | mk x y => rw [hq] at hp; have : x = none := hp; subst this; rfl
    exact ⟨_, rfl, by rw [he]; exact (ha.from hg).from HG, by rw [he]⟩
  · have he : d.op F = (er, d.pre.2) := by
      unfold DkS.op
      cases hq : d.pre with
      | mk x y => rw [hq] at hp; have : x = some er := hp; subst this; rfl
    rw [he]
    exact ⟨((hd.after hg).from HG), rfl⟩
set_option maxRecDepth 100000 in
set_option maxHeartbeats 1000000 in
theorem sync_any {g : Nat} {nb ob : Option Nat} {d : DkS} {w : World} (h : Dk w g nb ob d) : Calls Tryz.prog 59 #[.pointer (some ⟨g, 0, none⟩)] w (Ret fun r w' => After w g nb ob d.sync.2 w' ∧ r = d.sync.1) := by
  have hgl := h.lt
  have H := Lib.hid h
  clear h
  go_enter Tryz.func59, Tryz.ntmps59
  go_wp2_with fail
  have hg0 : Below w.heap.size w (w.alloc (.cells #[.pointer (some ⟨g, 0, none⟩)] 23)) := (Below.refl _ _).alloc (Nat.le_refl _) _
  have c2 : (w.alloc (.cells #[.pointer (some ⟨g, 0, none⟩)] 23)).cell? ⟨w.heap.size, 0, none⟩ = some (.pointer (some ⟨g, 0, none⟩)) := by
    rw [cell_of_row _ _ _ _ _ _ (heap_alloc_new w _)]; rfl
  have hs : (w.alloc (.cells #[.pointer (some ⟨g, 0, none⟩)] 23)).heap.size = w.heap.size + 1 := by simp
  generalize w.alloc (.cells #[.pointer (some ⟨g, 0, none⟩)] 23) = W at *
  have HD := Lib.hid (H.out.below hg0)
  have HG := Lib.hid (grown_of_below hg0 (some g))
  have HS := Lib.hid hs
  clear hg0 hs
  refine (none_any HD.out).mono ?_
  rintro e w' ⟨rfl, rfl⟩
  have C2 := Lib.hid c2
  go_wp2_with fail
  refine (op_any _ _ HD.out (fun W => ?_) (op_of (fun d => (0, { d with old := d.now, floor := d.now.length })) HD.out HG.out fun w2 hd hg hsz => ?_)).mono ?_
  · kernel_rfl
  · exact sync1 hd w.heap.size ((World.cell?_of_block (hg.block w.heap.size (by rw [HS.out]; omega) (by intro e; injection e with e; omega))).trans C2.out) (by omega)
  rintro e w' ⟨r, rfl, hr⟩
  have HRR := Lib.hid hr
  clear hr
  go_wp2_with fail
  go_ret
  exact ⟨r, rfl, HRR.out⟩

set_option maxRecDepth 100000 in
set_option maxHeartbeats 2000000 in
theorem trunc1 {g : Nat} {nb ob : Option Nat} {d : DkS} {w : World} (h : Dk w g nb ob d) (p q n : Nat) (hn : n ≤ d.now.length) (h2 : w.cell? ⟨p, 0, none⟩ = some (.pointer (some ⟨g, 0, none⟩))) (h3 : w.cell? ⟨q, 0, none⟩ = some (.int .i64 n)) (hp : p ≠ g) (hq : q ≠ g) :
    Calls Tryz.prog 71 #[.pointer (some ⟨p, 0, none⟩), .pointer (some ⟨q, 0, none⟩)] w (Ret fun r w' => After w g nb ob { d with now := d.now.take n, floor := min d.floor n } w' ∧ r = 0) := by
  obtain ⟨B, cb, hcn, hb1, hb2, hrn, hbn⟩ := h.nowC
  have hcf := h.c.2.2.1
  have f2 := h.fz 2
  have f4 := h.fz 4
  have hl : d.now.length ≤ 5000000 := by have := h.wf.now; have := h.wf.most; omega
  have hpl := block_lt_of_cell h2
  have hql := block_lt_of_cell h3
  have hgl := h.lt
  have k1 : (n : Int) ≤ cb := by omega
  have k2 : n ≤ cb := by omega
  have hrt : Rd w B (d.now.take n) := by
    refine ⟨fun x hx => hrn.1 x (List.mem_of_mem_take hx), fun hne => ?_⟩
    obtain ⟨b, o, rfl, hb, hc⟩ := hrn.2 (by intro e; rw [e] at hne; simp at hne)
    refine ⟨b, o, rfl, hb, fun i hi => ?_⟩
    simp only [List.length_take] at hi
    rw [hc i (by omega)]
    simp [nth, List.getElem?_take, show i < n by omega]
  have H := Lib.hid h
  have HT := Lib.hid hrt
  have F2 := Lib.hid f2
  have F4 := Lib.hid f4
  have CF := Lib.hid hcf
  clear h hrn hbn hrt
  go_enter Tryz.func71, Tryz.ntmps71
  go_wp2_with fail
  go_region_law (first
    | (go_simp; go_at_call 29; (refine (clone_lt B n cb (d.now.take n) _ (by simp; omega) HT.out.drew (by simp; omega)).mono ?_); rintro e w3 ⟨v3, b3, rfl, ⟨A3, c3', rfl, hs3⟩, hn3, hb3⟩
       have HB3 : Hid (Below w.heap.size w w3) := (below_drewN' (Below.refl _ _) 1).trans hb3
       have g2 : w3.frozen? ⟨g, 2, none⟩ = false := (HB3.out.frozen (p := ⟨g, 2, none⟩) hgl).trans F2.out
       have cp : w3.cell? ⟨p, 0, none⟩ = some (.pointer (some ⟨g, 0, none⟩)) := (HB3.out.cell (p := ⟨p, 0, none⟩) hpl).trans h2
       have c2 : w3.cell? ⟨g, 2, none⟩ = some (.slice B d.now.length cb) := (HB3.out.cell (p := ⟨g, 2, none⟩) hgl).trans hcn
       have cq : w3.cell? ⟨q, 0, none⟩ = some (.int .i64 n) := (HB3.out.cell (p := ⟨q, 0, none⟩) hql).trans h3
       have HS3 : Hid (Sl w3 (.slice A3 (d.now.take n).length c3') (d.now.take n) b3) := ⟨A3, c3', rfl, hs3⟩
       have HN3 := Lib.hid hn3
       clear hb3 hn3 hs3))
  all_goals
    have hnb : b3 ≠ some g := by
      intro e; have := (HN3.out g e).1; have : w.heap.size ≤ g := this; omega
    have hnew : New w nb b3 := .inr fun k hk => (HN3.out k hk).1
    have hD := H.out.below HB3.out
    obtain ⟨q1, q2, q3, q4, q5, q6, q7⟩ := H.out.wf
    have hlen : (d.now.take n).length = n := by simp; omega
    have hk3 : Sl w3 (.slice A3 n c3') (d.now.take n) b3 := by have := HS3.out; rw [hlen] at this; exact this
    have hD2 : Dk (w3.setCell ⟨g, 2, none⟩ (.slice A3 n c3')) g b3 ob { d with now := d.now.take n } := Dk.setNow (d' := { d with now := d.now.take n }) hD hk3 hnb (fun k e => (HN3.out k e).2) rfl ⟨q1, by show (d.now.take n).length ≤ d.most; rw [hlen]; omega, q3, q4, q5, q6, q7⟩
    have x4 := hD2.c.2.2.1
    have y4 := hD2.fz 4
    have xp := keep_set (u := .slice A3 n c3') (a := ⟨g, 2, none⟩) cp (by simp)
    have xq := keep_set (u := .slice A3 n c3') (a := ⟨g, 2, none⟩) cq (by simp)
    have hg2 : w.grownBy (w3.setCell ⟨g, 2, none⟩ (.slice A3 n c3')) (some g) := grown_set (p := ⟨g, 2, none⟩) (grown_of_below HB3.out _) (.inl rfl) _
    have HD2 := Lib.hid hD2
    have HG2 := Lib.hid hg2
    have HNew := Lib.hid hnew
    clear hD hD2 hg2 hnew hk3 hlen cp cq c2 g2 h2 h3 hcn hcf f2 f4
    generalize w3.setCell ⟨g, 2, none⟩ (.slice A3 n c3') = X at *
    go_wp2_with fail
    go_region
  all_goals
    go_wp2
    all_goals
      go_ret
      first
        | (have e1 : min d.floor n = d.floor := by omega
           rw [e1]
           exact ⟨0, rfl, ⟨b3, ob, (Dk.set (d' := { d with now := d.now.take n, floor := d.floor }) HD2.out 4 _ (by decide) ⟨rfl, rfl⟩ HD2.out.wf (fun nv ov i hi => dk_floor { d with now := d.now.take n } d.floor nv ov i hi)).drew, .inl HNew.out, .inr (.inl rfl), grown_drew (grown_set (p := ⟨g, 4, none⟩) HG2.out (.inl rfl) _)⟩, rfl⟩)
        | (have e1 : min d.floor n = n := by omega
           rw [e1]
           exact ⟨0, rfl, ⟨b3, ob, (Dk.set (d' := { d with now := d.now.take n, floor := n }) HD2.out 4 _ (by decide) ⟨rfl, rfl⟩ ⟨HD2.out.wf.most, HD2.out.wf.now, HD2.out.wf.old, by show n ≤ d.most; omega, HD2.out.wf.armed0, HD2.out.wf.armed, HD2.out.wf.fails⟩ (fun nv ov i hi => dk_floor { d with now := d.now.take n } n nv ov i hi)).drew, .inl HNew.out, .inr (.inl rfl), grown_drew (grown_set (p := ⟨g, 4, none⟩) HG2.out (.inl rfl) _)⟩, rfl⟩)
end Go.Proofs.YtlhbijpmhokmnaaGreat
