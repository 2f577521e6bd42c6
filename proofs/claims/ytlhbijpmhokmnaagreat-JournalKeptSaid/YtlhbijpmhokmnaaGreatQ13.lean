/-
  'append(slices.Clip(s), b...)': an append to a slice without room. Conditions: both read as lists of bytes.
  THE WALKS OF disk's Append, Sync, Truncate, ReadAt. Conditions: the disk lies in memory.
  THE WALK OF disk's Append. Conditions: the disk lies in memory, the bytes read as a list.
-/
import Derived.Test.YtlhbijpmhokmnaaGreatQ12
import Derived.ArgAppend
import Derived.Deep.RegionLaw
import Derived.Deep.RegionHeld3
import Derived.Deep.QuietTactic
import Derived.BigQuiet
namespace Go.Proofs.YtlhbijpmhokmnaaGreat
open Go.RowKit
set_option linter.unusedSimpArgs false
set_option linter.unusedVariables false

section
variable {w : World} {ops : Array Oper} {rest : List Oper} {o : Oper} {a : Act} {K : Act → World → Prop} {Q : Exit → Act → World → Prop} {E : Prop}
theorem run_append_clip (ty : TypeId) (B : Option Addr) (l : List Nat) (hB : Rd w B l) (A : Option Addr) (c : Nat) (m : List Nat) (hA : Rd w A m) (hn : l.length + m.length ≤ 140737488355328) :
    ∃ v' w' b, (Builtin.append_ #[22, 22] ty #[.slice B l.length l.length, .slice A m.length c]).run Tryz.prog w = .ok v' w' ∧ Sl w' v' (l ++ m) b ∧ (b = B.map (·.block) ∨ ∀ k, b = some k → w.heap.size ≤ k ∧ k < w'.heap.size) ∧ Below w.heap.size w w' := by
  obtain ⟨i, hi, hz, hs, hb⟩ := info_parts info_u8
  by_cases hm : m = []
  · subst hm
    refine ⟨.slice B l.length l.length, w, B.map (·.block), ?_, ⟨B, l.length, by simp, by simp, by omega, by simpa using hB, rfl⟩, .inl rfl, Below.refl _ _⟩
    rcases A with _ | ad
    all_goals
      rcases B with _ | bd
      all_goals simp [Builtin.append_, run_underlying Tryz.underlying22, sizeOf, typeInfo, hi, Builtin.lenOf, Builtin.firstCells, storeCells, loadCells, loadCellsFrom]
  · obtain ⟨g, off, rfl, hg, hc⟩ := hA.2 hm
    have hm0 : 0 < m.length := List.length_pos_iff.2 hm
    have hcells : ∀ j u, (bs m)[j]? = some u → w.cell? ((⟨g, off, none⟩ : Addr).add j) = some u := by
      intro j u hu
      have hj : j < m.length := by have := (List.getElem?_eq_some_iff.1 hu).1; simpa [bs_length] using this
      rw [add_none, hc j hj, nth_get hj]
      rw [bs_get hj] at hu
      exact hu
    have fin : ∀ v' w', w'.ownsRow w.heap.size 5 1 v' (l.length + m.length) (bs l ++ bs m) → ∃ b, Sl w' v' (l ++ m) b ∧ ∀ k, b = some k → w.heap.size ≤ k ∧ k < w'.heap.size := fun v' w' h => by
      have : Ow w' w.heap.size v' (l ++ m) := ⟨fun x hx => by
        rcases List.mem_append.1 hx with h | h
        · exact hB.1 x h
        · exact hA.1 x h, by rw [List.length_append, bs_append]; exact h⟩
      obtain ⟨b, h1, h2⟩ := this.sl
      exact ⟨b, h1, fun k e => ⟨(h2 k e).1, this.ownLt (h2 k e).2⟩⟩
    rcases B with _ | bd
    · have hl : l = [] := by
        cases l with
        | nil => rfl
        | cons x t => obtain ⟨g, o, e, _⟩ := hB.2 (by simp); cases e
      subst hl
      obtain ⟨v', w', hrun, h2, h3, _⟩ := run_append_own (P := Tryz.prog) w w.heap.size 22 ty 5 i (.int .u8 0) 1 1 Tryz.underlying22 hi hz hs hb rfl (by omega) (.slice none 0 0) 0 [] (World.ownsRow_nil w _ _ _) ⟨g, off, none⟩ m.length c (bs m)
        (by rw [bs_length, Nat.mul_one]) hcells (bs_oneCell m) (by unfold maxLen; simp at hn; omega) (by simp at hn; omega) (Nat.le_refl _)
      obtain ⟨b, h4, h5⟩ := fin v' w' (by simpa [bs] using h2)
      exact ⟨v', w', b, hrun, h4, .inr h5, (Below.refl _ _).grown h3 (Nat.le_refl _) (by simp [Value.ownBlock])⟩
    · obtain ⟨v', w', hrun, h2, h3⟩ := run_append_arg_grows (P := Tryz.prog) w 22 ty 5 i (.int .u8 0) 1 1 Tryz.underlying22 hi hz hs hb rfl (by omega) bd l.length l.length (bs l) (by rw [bs_length, Nat.mul_one])
        (fun j u hu => by
          have hj : j < l.length := by have := (List.getElem?_eq_some_iff.1 hu).1; simpa [bs_length] using this
          obtain ⟨g', o', e, _, hc'⟩ := hB.2 (by rintro rfl; simp at hj)
          obtain rfl := Option.some.inj e
          rw [add_none, hc' j hj, nth_get hj]
          rw [bs_get hj] at hu
          exact hu)
        ⟨g, off, none⟩ m.length c (bs m) (by rw [bs_length, Nat.mul_one]) hcells (by omega) (by unfold maxLen; omega) (by omega)
      obtain ⟨b, h4, h5⟩ := fin v' w' h2
      exact ⟨v', w', b, hrun, h4, .inr h5, (Below.refl _ _).grown h3 (Nat.le_refl _) (by simp)⟩
theorem step_append_clip (s x : Operand) (hgd : o.guard = none) (ho : o.op = .call { callee := .builtin .append, args := #[s, x], argTypes := #[22, 22] })
    (B : Option Addr) (n : Nat) (l : List Nat) (hnl : n = l.length) (hs : a.eval s = .slice B n n) (hB : Rd w B l) (A : Option Addr) (k c : Nat) (m : List Nat) (hkm : k = m.length) (hx : a.eval x = .slice A k c) (hA : Rd w A m) (hn : l.length + m.length ≤ 140737488355328)
    (h : ∀ v' w' b, Sl w' v' (l ++ m) b → (b = B.map (·.block) ∨ ∀ k, b = some k → w.heap.size ≤ k ∧ k < w'.heap.size) → Below w.heap.size w w' → K (a.put o.dst v') w') :
    if Region.wanted o (yielded ops a.tmps) = true then Oper.wp Tryz.prog o a w K Q else E := by
  subst hnl; subst hkm
  have hw : Region.wanted o (yielded ops a.tmps) = true := by simp [Region.wanted, hgd]
  rw [if_pos hw]
  obtain ⟨v', w', b, hrun, h1, h2, h3⟩ := run_append_clip o.type B l hB A c m hA hn
  unfold Oper.wp execOp
  simp only [ho, resolve, invoke, builtin, Sem.run_bind, Sem.run_pure, Result.andThen_ok, List.map_toArray, List.map_cons, List.map_nil, hs, hx, hrun]
  exact h v' w' b h1 h2 h3
end
end Go.Proofs.YtlhbijpmhokmnaaGreat
namespace Go.Proofs.YtlhbijpmhokmnaaGreat
open Go.RowKit
set_option linter.unusedSimpArgs false
set_option linter.unusedVariables false

/-- What a call on a disk leaves: the answer, the disk then, all else as it was. -/
def After (w : World) (g : Nat) (nb ob : Option Nat) (d' : DkS) (w' : World) : Prop := ∃ nb' ob', Dk w' g nb' ob' d' ∧ (New w nb nb' ∨ New w ob nb') ∧ (New w nb ob' ∨ New w ob ob') ∧ w.grownBy w' (some g)
/-- The two lists' values in the fields. -/
theorem Dk.setNow {w : World} {g : Nat} {nb ob b : Option Nat} {d d' : DkS} {v : Value} (h : Dk w g nb ob d) (hv : Sl w v d'.now b) (hb : b ≠ some g) (hbl : ∀ k, b = some k → k < w.heap.size) (hd : d' = { d with now := d'.now }) (hw : d'.Wf) : Dk (w.setCell ⟨g, 2, none⟩ v) g b ob d' := by
  obtain ⟨nv, ov, k1, k2, k3⟩ := h.lies
  have hg : w.grownBy (w.setCell ⟨g, 2, none⟩ v) (some g) := grown_set (p := ⟨g, 2, none⟩) (grown_refl _ _) (.inl rfl) v
  refine ⟨hw, hb, h.on, fun k e => Nat.lt_of_lt_of_le (hbl k e) hg.size, fun k e => Nat.lt_of_lt_of_le (h.ol k e) hg.size, v, ov, (k1.set 2 v).congr fun i hi => ?_, hv.grown hg (fun k e e2 => hb (by rw [e, e2])), ?_⟩
  · rw [hd]
    match i, hi with
    | 0, _ => rfl
    | 1, _ => rfl
    | 2, _ => rfl
    | 3, _ => rfl
    | 4, _ => rfl
    | 5, _ => rfl
    | 6, _ => rfl
    | 7, _ => rfl
    | 8, _ => rfl
  · rw [hd]; exact k3.grown hg (fun k e e2 => h.on (by rw [e, e2]))
/-- What the closures do. -/
def app1 (m : List Nat) (d : DkS) : Int × DkS := if d.most < d.now.length + m.length then (5, d) else (0, { d with now := d.now ++ m })
theorem Dk.after {w w' : World} {g : Nat} {nb ob : Option Nat} {d : DkS} (h : Dk w' g nb ob d) (hg : w.grownBy w' (some g)) : After w g nb ob d w' := ⟨nb, ob, h, .inl (.inl rfl), .inr (.inl rfl), hg⟩
theorem grown_of_below' {w w' : World} {row : Option Nat} (h : Below w.heap.size w w') : w.grownBy w' row := grown_of_below h row
theorem cell_ne_set {w : World} {p q : Addr} {u v : Value} (h : w.cell? p = some v) (hne : p.block ≠ q.block) : (w.setCell q u).cell? p = some v :=
  (World.cell?_of_block (Below.heap_setCell w q u p.block hne)).trans h
set_option maxRecDepth 100000 in
set_option maxHeartbeats 1000000 in
theorem append1 {g : Nat} {nb ob : Option Nat} {d : DkS} {w : World} (h : Dk w g nb ob d) (p1 p2 : Nat) (A : Option Addr) (c : Nat) (m : List Nat) (hm : m.length ≤ 5000000) (hr : Rd w A m)
    (h1 : w.cell? ⟨p1, 0, none⟩ = some (.slice A m.length c)) (h2 : w.cell? ⟨p2, 0, none⟩ = some (.pointer (some ⟨g, 0, none⟩))) (hp1 : p1 ≠ g) (hp2 : p2 ≠ g) :
    Calls Tryz.prog 79 #[.pointer (some ⟨p1, 0, none⟩), .pointer (some ⟨p2, 0, none⟩)] w (Ret fun r w' => After w g nb ob (app1 m d).2 w' ∧ r = (app1 m d).1) := by
  have hcm := h.c.2.1
  obtain ⟨B, cb, hcn, hb1, hb2, hrn, hbn⟩ := h.nowC
  have w1 := h.wf.most
  have w2 := h.wf.now
  have e1 : IntKind.i64.wrap ((d.most : Int) - d.now.length) = d.most - d.now.length := by simp [IntKind.wrap, IntKind.signed, IntKind.bits]; omega
  have H := Lib.hid h
  have HR := Lib.hid hr
  have HN := Lib.hid hrn
  have HBN := Lib.hid hbn
  clear h hr hrn hbn
  by_cases hfull : d.most < d.now.length + m.length
  · have k1 : (d.most : Int) - d.now.length < m.length := by omega
    go_enter Tryz.func79, Tryz.ntmps79
    go_wp2_with fail
    go_quiet (fail)
    go_wp2
    go_ret
    have he : app1 m d = (5, d) := if_pos hfull
    refine ⟨5, rfl, ?_, by rw [he]⟩
    rw [he]
    exact (H.out.below (below_drewN' (Below.refl _ _) nq)).after (grown_drewN (grown_refl _ _) nq)
  · have k1 : ¬ (d.most : Int) - d.now.length < m.length := by omega
    have he : app1 m d = (0, { d with now := d.now ++ m }) := if_neg hfull
    rw [he]
    have hwf' : DkS.Wf { d with now := d.now ++ m } := by
      obtain ⟨q1, q2, q3, q4, q5, q6, q7⟩ := H.out.wf
      exact ⟨q1, by simp; omega, q3, by simp; omega, q5, q6, q7⟩
    have hp1l := block_lt_of_cell h1
    have hp2l := block_lt_of_cell h2
    have hgl := H.out.lt
    clear he
    go_enter Tryz.func79, Tryz.ntmps79
    go_wp2_with fail
    go_quiet (fail)
    have HB0 : Hid (Below w.heap.size w (w.drewN nq)) := below_drewN' (Below.refl _ _) nq
    replace h1 := (HB0.out.cell hp1l).trans h1
    replace h2 := (HB0.out.cell hp2l).trans h2
    replace hcn := (HB0.out.cell hgl).trans hcn
    have HFz : Hid ((w.drewN nq).frozen? ⟨g, 2, none⟩ = false) := H.out.fz 2
    have HD : Hid (Dk (w.drewN nq) g nb ob d) := H.out.below HB0.out
    have HG0 : Hid (w.grownBy (w.drewN nq) (some g)) := grown_drewN (grown_refl _ _) nq
    generalize w.drewN nq = W at *
    go_wp2_with fail
    have f2 := HFz.out
    go_region_law (first
      | (refine step_append_clip (.tmp 21) (.tmp 22) rfl rfl B d.now.length d.now rfl rfl (HN.out.below HB0.out.drew) A m.length c m rfl rfl (HR.out.below HB0.out.drew) (by omega) ?_; intro v3 w3 b3 hs3 hn3 hb3
         have f3 : w3.frozen? ⟨g, 2, none⟩ = false := (hb3.frozen (p := ⟨g, 2, none⟩) (Nat.lt_of_lt_of_le hgl HB0.out.size)).trans HFz.out
         have c3 : w3.cell? ⟨g, 2, none⟩ = some (.slice B d.now.length cb) := (hb3.cell (p := ⟨g, 2, none⟩) (Nat.lt_of_lt_of_le hgl HB0.out.size)).trans hcn
         have c4 : w3.cell? ⟨p1, 0, none⟩ = some (.slice A m.length c) := (hb3.cell (p := ⟨p1, 0, none⟩) (Nat.lt_of_lt_of_le hp1l HB0.out.size)).trans h1
         have c5 : w3.cell? ⟨p2, 0, none⟩ = some (.pointer (some ⟨g, 0, none⟩)) := (hb3.cell (p := ⟨p2, 0, none⟩) (Nat.lt_of_lt_of_le hp2l HB0.out.size)).trans h2
         have HS3 := Lib.hid hs3
         have HN3 := Lib.hid hn3
         have HB3 := Lib.hid hb3
         obtain ⟨A3, c3', rfl, hs4⟩ := hs3
         clear hs4)
      | (go_simp; go_at_call 80; (refine (clip_any B d.now.length cb _ hb1).mono ?_); rintro e w' ⟨rfl, rfl⟩))
    all_goals
      go_wp2
      go_ret
      refine ⟨0, rfl, ?_, rfl⟩
      have hb4 : Below W.heap.size W w3 := (below_drewN' (Below.refl _ _) 1).trans HB3.out
      have hnb : b3 ≠ some g := by
        rcases HN3.out with e | e
        · rw [e, HBN.out]; exact H.out.nn
        · intro e2; have := (e g e2).1; have := HD.out.lt; have : g < W.drew.heap.size := this; omega
      have hnl : ∀ k, b3 = some k → k < w3.heap.size := by
        rcases HN3.out with e | e
        · rw [e, HBN.out]; exact fun k e => Nat.lt_of_lt_of_le (HD.out.nl k e) hb4.size
        · exact fun k hk => (e k hk).2
      have hnew : New w nb b3 := by
        rcases HN3.out with e | e
        · exact .inl (by rw [e, HBN.out])
        · exact .inr fun k hk => Nat.le_trans HB0.out.size (e k hk).1
      refine ⟨b3, ob, Dk.setNow (d' := { d with now := d.now ++ m }) (HD.out.below hb4) (by have := HS3.out; rw [List.length_append] at this; exact this) hnb hnl rfl hwf', .inl hnew, .inr (.inl rfl), ?_⟩
      exact grown_set (p := ⟨g, 2, none⟩) (nil_grown HG0.out (grown_of_below hb4 _)) (.inl rfl) _
end Go.Proofs.YtlhbijpmhokmnaaGreat
namespace Go.Proofs.YtlhbijpmhokmnaaGreat
open Go.RowKit
set_option linter.unusedSimpArgs false
set_option linter.unusedVariables false

theorem After.from {w W w' : World} {g : Nat} {nb ob : Option Nat} {d : DkS} (hg : w.grownBy W (some g)) (h : After W g nb ob d w') : After w g nb ob d w' := by
  obtain ⟨n', o', h1, h2, h3, h4⟩ := h
  have key : ∀ x y, New W x y → New w x y := fun x y h => by
    rcases h with h | h
    · exact .inl h
    · exact .inr fun k e => Nat.le_trans hg.size (h k e)
  exact ⟨n', o', h1, h2.imp (key _ _) (key _ _), h3.imp (key _ _) (key _ _), nil_grown hg h4⟩
/-- Bytes do not lie in a disk's own block. -/
theorem Dk.apart {w : World} {g : Nat} {nb ob : Option Nat} {d : DkS} (h : Dk w g nb ob d) {A : Option Addr} {m : List Nat} (hr : Rd w A m) : m = [] ∨ ∃ b o, A = some ⟨b, o, none⟩ ∧ b ≠ g ∧ b < w.heap.size := by
  by_cases hm : m = []
  · exact .inl hm
  · obtain ⟨b, o, rfl, hb, hc⟩ := hr.2 hm
    refine .inr ⟨b, o, rfl, ?_, hb⟩
    rintro rfl
    have h0 := hc 0 (List.length_pos_iff.2 hm)
    obtain ⟨nv, ov, ⟨cs, h1, h2, h3⟩, ⟨A1, c1, rfl, _⟩, ⟨A2, c2, rfl, _⟩⟩ := h.lies
    rw [Nat.add_zero, cell_of_row _ _ _ _ _ _ h1] at h0
    rcases Nat.lt_or_ge o 9 with ho | ho
    · rw [h3 o ho] at h0
      rcases (show o = 0 ∨ o = 1 ∨ o = 2 ∨ o = 3 ∨ o = 4 ∨ o = 5 ∨ o = 6 ∨ o = 7 ∨ o = 8 by omega) with rfl | rfl | rfl | rfl | rfl | rfl | rfl | rfl | rfl <;> simp [dkC] at h0
    · rw [Array.getElem?_eq_none (by omega)] at h0
      cases h0
theorem Dk.rd {w w' : World} {g : Nat} {nb ob : Option Nat} {d : DkS} (h : Dk w g nb ob d) {A : Option Addr} {m : List Nat} (hr : Rd w A m) (hg : w.grownBy w' (some g)) : Rd w' A m := by
  rcases h.apart hr with rfl | ⟨b, o, rfl, hb, hl⟩
  · exact ⟨hr.1, fun h => absurd rfl h⟩
  · exact hr.grown hg (fun a e => by injection e with e; subst e; intro e; injection e with e; exact hb e)
set_option maxRecDepth 100000 in
set_option maxHeartbeats 1000000 in
theorem append_any {g : Nat} {nb ob : Option Nat} {d : DkS} {w : World} (h : Dk w g nb ob d) (A : Option Addr) (c : Nat) (m : List Nat) (hm : m.length ≤ 5000000) (hr : Rd w A m) :
    Calls Tryz.prog 58 #[.pointer (some ⟨g, 0, none⟩), .slice A m.length c] w (Ret fun r w' => After w g nb ob (d.append m).2 w' ∧ r = (d.append m).1) := by
  have hgl := h.lt
  have H := Lib.hid h
  have HR := Lib.hid hr
  clear h hr
  go_enter Tryz.func58, Tryz.ntmps58
  go_wp2_with fail
  have hg0 : Below w.heap.size w ((w.alloc (.cells #[.pointer (some ⟨g, 0, none⟩)] 23)).alloc (.cells #[.slice A m.length c] 22)) := ((Below.refl _ _).alloc (Nat.le_refl _) _).alloc (by simp) _
  have c1 : ((w.alloc (.cells #[.pointer (some ⟨g, 0, none⟩)] 23)).alloc (.cells #[.slice A m.length c] 22)).cell? ⟨w.heap.size + 1, 0, none⟩ = some (.slice A m.length c) := by
    rw [cell_of_row _ _ _ _ _ _ (heap_alloc2_new _ _ _)]; rfl
  have c2 : ((w.alloc (.cells #[.pointer (some ⟨g, 0, none⟩)] 23)).alloc (.cells #[.slice A m.length c] 22)).cell? ⟨w.heap.size, 0, none⟩ = some (.pointer (some ⟨g, 0, none⟩)) := by
    rw [cell_of_row _ _ _ _ _ _ (heap_alloc2_old _ _ _)]; rfl
  have hs : ((w.alloc (.cells #[.pointer (some ⟨g, 0, none⟩)] 23)).alloc (.cells #[.slice A m.length c] 22)).heap.size = w.heap.size + 2 := by simp
  generalize (w.alloc (.cells #[.pointer (some ⟨g, 0, none⟩)] 23)).alloc (.cells #[.slice A m.length c] 22) = W at *
  have HD := Lib.hid (H.out.below hg0)
  have HG := Lib.hid (grown_of_below hg0 (some g))
  have HS := Lib.hid hs
  have HRW := Lib.hid (HR.out.below hg0)
  have C1 := Lib.hid c1
  clear hg0 hs c1
  refine (none_any HD.out).mono ?_
  rintro e w' ⟨rfl, rfl⟩
  have C2 := Lib.hid c2
  go_wp2_with fail
  have hah : Ahead 79 #[.pointer (some ⟨w.heap.size + 1, 0, none⟩), .pointer (some ⟨w.heap.size, 0, none⟩)] g nb ob d W (fun r w' => After w g nb ob (d.append m).2 w' ∧ r = (d.append m).1) := by
    refine ⟨fun w2 hp hd hg hsz => ?_, fun w2 er hp hd hg hsz => ?_⟩
    · have hw2 := hd.wf
      refine (append1 hd (w.heap.size + 1) w.heap.size A c m hm ?_ ?_ ?_ (by omega) (by omega)).mono ?_
      · exact HD.out.rd HRW.out hg
      · exact (World.cell?_of_block (hg.block (w.heap.size + 1) (by rw [HS.out]; omega) (by intro e; injection e with e; omega))).trans C1.out
      · exact (World.cell?_of_block (hg.block w.heap.size (by rw [HS.out]; omega) (by intro e; injection e with e; omega))).trans C2.out
      · rintro e w' ⟨r, rfl, ha, rfl⟩
        have he : d.append m = app1 m d.pre.2 := by
          unfold DkS.append DkS.op
          cases hq : d.pre with
          | mk x y => rw [hq] at hp; have : x = none := hp; subst this; rfl
        exact ⟨_, rfl, by rw [he]; exact (ha.from hg).from HG.out, by rw [he]⟩
    · have he : d.append m = (er, d.pre.2) := by
        unfold DkS.append DkS.op
        cases hq : d.pre with
        | mk x y => rw [hq] at hp; have : x = some er := hp; subst this; rfl
      rw [he]
      exact ⟨((hd.after hg).from HG.out), rfl⟩
  refine (op_any _ _ HD.out (fun W => ?_) hah).mono ?_
  · kernel_rfl
  rintro e w' ⟨r, rfl, hr⟩
  have HRR := Lib.hid hr
  clear hr hah
  go_wp2_with fail
  go_ret
  exact ⟨r, rfl, HRR.out⟩
end Go.Proofs.YtlhbijpmhokmnaaGreat
