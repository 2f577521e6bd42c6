/-
  THE WALK OF parse's cond. Conditions: a parser.
-/
import Derived.Test.YthmpagehmfillaaQ10
namespace Go.Proofs.Ythmpagehmfillaa
open Go.RowKit
set_option linter.unusedSimpArgs false
set_option linter.unusedVariables false
/-- A condition in memory, as a value. -/
def conF (c : ConS) : Nat → Value
  | 0 => .bool c.nt
  | 1 => .int .u8 c.i.o
  | 2 => .int .i64 c.i.d
  | 3 => .int .i64 c.i.s
  | _ => .int .i64 c.i.n
def conC (c : ConS) : Array Value := #[.bool c.nt, .int .u8 c.i.o, .int .i64 c.i.d, .int .i64 c.i.s, .int .i64 c.i.n]
theorem con_row {w : World} {g : Nat} {t : TypeId} {c : ConS} (h : w.heap[g]? = some (.cells (conC c) t (0, 0))) : w.rowIs g t 5 (conF c) := ⟨_, h, rfl, fun i hi => by
  match i, hi with
  | 0, _ => rfl
  | 1, _ => rfl
  | 2, _ => rfl
  | 3, _ => rfl
  | 4, _ => rfl⟩
theorem con_heap {w : World} {g : Nat} {t : TypeId} {c : ConS} (h : w.rowIs g t 5 (conF c)) : w.heap[g]? = some (.cells (conC c) t (0, 0)) := by
  obtain ⟨cs, h1, h2, h3⟩ := h
  rw [h1]
  have : cs = conC c := by
    apply Array.ext (by rw [h2]; rfl)
    intro i hi1 hi2
    have h4 := h3 i (by omega)
    have e : (conC c)[i]? = some (conF c i) := by
      rw [h2] at hi1
      match i, hi1 with
      | 0, _ => rfl
      | 1, _ => rfl
      | 2, _ => rfl
      | 3, _ => rfl
      | 4, _ => rfl
    rw [← e, Array.getElem?_eq_getElem hi1, Array.getElem?_eq_getElem hi2] at h4
    exact Option.some.inj h4
  rw [this]
theorem con_set5 {w : World} {g : Nat} {t : TypeId} {f : Nat → Value} (c : ConS) (h : w.rowIs g t 5 f) :
    (((((w.setCell ⟨g, 0, none⟩ (.bool c.nt)).setCell ⟨g, 1, none⟩ (.int .u8 c.i.o)).setCell ⟨g, 2, none⟩ (.int .i64 c.i.d)).setCell ⟨g, 3, none⟩ (.int .i64 c.i.s)).setCell ⟨g, 4, none⟩ (.int .i64 c.i.n)).rowIs g t 5 (conF c) :=
  (((((h.set 0 _).set 1 _).set 2 _).set 3 _).set 4 _).congr fun i hi => by
    match i, hi with
    | 0, _ => rfl
    | 1, _ => rfl
    | 2, _ => rfl
    | 3, _ => rfl
    | 4, _ => rfl
theorem con_size : (Try.prog.info? 58).map (·.size) = some 5 := by kernel_rfl
theorem con_results {fn : Func} {p : Tmp} (h : fn.results = #[.cell p 58]) (tmps : Array Value) (w : World) (g : Nat) (c : ConS) (hp : tmps.getD p undef = .pointer (some ⟨g, 0, none⟩)) (hr : w.rowIs g 58 5 (conF c)) : (results fn tmps).run Try.prog w = .ok (.agg (conC c)) w :=
  results_cell_row h tmps w g _ (conC c) (0, 0) _ hp (con_heap hr) Try.underlying58 rfl con_size
theorem con_setO {w : World} {g : Nat} {t : TypeId} {r : Bool} (h : w.rowIs g t 5 (conF ⟨r, i0⟩)) (o : Nat) : (w.setCell ⟨g, 1, none⟩ (.int .u8 o)).rowIs g t 5 (conF ⟨r, ⟨o, 0, 0, 0⟩⟩) :=
  (h.set 1 _).congr fun i hi => by
    match i, hi with
    | 0, _ => rfl
    | 1, _ => rfl
    | 2, _ => rfl
    | 3, _ => rfl
    | 4, _ => rfl
theorem cmps_ne {s : List Nat} {n : Nat} (h : look cmps s = some n) : s ≠ [] ∧ n < 256 := by
  have h1 := look_mem h
  have h2 : ∀ x ∈ cmps, x.1 ≠ [] ∧ x.2 < 256 := by decide
  exact h2 _ h1
section
variable {w : World} {B gp gi : Nat} {l : List Tok} {b : Option Flt} {many : Nat}
theorem zero_op (w : World) : (zeroValue 54).run Try.prog w = .ok (.int .u8 0) w := by kernel_rfl
section
variable {r : Bool} {l1 l2 l' : List Tok} {b2 b' : Option Flt} {x : ConS} {s n o : Nat}
theorem cond_no (hr : r = (b.isNone && decide ((hd l).s = [110, 111, 116]))) (h1 : l1 = if r = true then l.tail else l) (hm : Rel (must [97]) l1 b () l2 b2) (h : look cmps (hd l2).s = none) : Rel cond l b x l2 (b2.or (some (121, (hd l2).ln))) := by
  unfold Rel at hm ⊢
  unfold cond
  cases b with
  | some e =>
    simp only at hm
    rw [hm]; rfl
  | none =>
    simp only [Option.isNone_none, Bool.true_and] at hr
    simp only
    rw [← hr, ← h1]
    cases hq : must [97] l1 with
    | error e => rw [hq] at hm; simp only at hm ⊢; rw [hm]; rfl
    | ok y =>
      rw [hq] at hm
      obtain ⟨rfl, -, rfl⟩ := hm
      simp only [h]
      rfl
theorem cond_ok (hr : r = (b.isNone && decide ((hd l).s = [110, 111, 116]))) (h1 : l1 = if r = true then l.tail else l) (hm : Rel (must [97]) l1 b () l2 b2) (h : look cmps (hd l2).s = some o) (ho : Rel operand l2.tail b2 (s, n) l' b') : Rel cond l b ⟨r, ⟨o, 0, s, n⟩⟩ l' b' := by
  unfold Rel at hm ⊢
  unfold cond
  cases b with
  | some e =>
    simp only at hm
    rw [hm] at ho
    exact ho
  | none =>
    simp only [Option.isNone_none, Bool.true_and] at hr
    simp only
    rw [← hr, ← h1]
    cases hq : must [97] l1 with
    | error e => rw [hq] at hm; simp only at hm; rw [hm] at ho; exact ho
    | ok y =>
      rw [hq] at hm
      obtain ⟨rfl, -, rfl⟩ := hm
      unfold Rel at ho
      simp only [h]
      cases hp : operand y.2.tail with
      | error e => rw [hp] at ho; exact ho
      | ok z =>
        rw [hp] at ho
        obtain ⟨rfl, h2, rfl⟩ := ho
        exact ⟨rfl, by show _ = (⟨r, ⟨o, 0, z.1.1, z.1.2⟩⟩ : ConS); rw [← h2], rfl⟩
end
set_option maxRecDepth 100000 in
set_option maxHeartbeats 4000000 in
theorem pcond_any (h : PS B w gp l b many) : Calls Try.prog 100 #[.pointer (some ⟨gp, 0, none⟩)] w fun e w' => ∃ c l' b', e = .returned (.agg (conC c)) ∧ PS B w' gp l' b' many ∧ Rel cond l b c l' b' ∧ w.grownBy w' (some gp) := by
  have hba : Below w.heap.size w (w.alloc (.cells (conC c0) 58)) := (Below.refl _ _).alloc (Nat.le_refl _) _
  have h1 := h.below hba
  have hr2 := con_row (heap_alloc_new w (.cells (conC c0) 58))
  have HI := Lib.hid (pmay_any h1 ⟨#[110, 111, 116]⟩ [110, 111, 116] rfl (by decide) (by decide))
  have HW := Lib.hid (And.intro h.bw h.bp)
  have HB := Lib.hid hba
  have HR2 := Lib.hid hr2
  have hgx : w.heap.size ≠ gp := by have := h.bw; have := h.bp; omega
  have HGX := Lib.hid hgx
  clear h h1 hba hr2 hgx
  go_enter Try.func100, Try.ntmps100
  go_wp2_with fail
  refine HI.out.mono ?_
  rintro e W1 ⟨r, hr, rfl, h1, h2⟩
  have hr21 := grown_row h2 HR2.out HGX.out
  have hg1 := nil_grown (grown_of_below HB.out (some gp)) h2
  generalize hgz : w.heap.size = g2 at *
  have HG2 : Hid (w.heap.size ≤ g2) := by unfold Hid; omega
  have HGB : Hid (B ≤ g2) := by have := HW.out.1; unfold Hid; omega
  have HR := Lib.hid hr
  obtain ⟨l1, hl1⟩ : ∃ l1, l1 = if r = true then l.tail else l := ⟨_, rfl⟩
  rw [← hl1] at h1
  have HL1 := Lib.hid hl1
  have hbc : Below W1.heap.size W1 (W1.alloc (.cells (conC ⟨r, i0⟩) 58)) := (Below.refl _ _).alloc (Nat.le_refl _) _
  have hr3 := con_row (heap_alloc_new W1 (.cells (conC ⟨r, i0⟩) 58))
  have HM := Lib.hid (pmust_any (h1.below hbc) ⟨#[97]⟩ [97] rfl (by decide) (by decide))
  have HR2b := Lib.hid (below_row hbc hr21 hr21.lt)
  have HG1 := Lib.hid (nil_grown hg1 (grown_of_below hbc (some gp)))
  have HR3 := Lib.hid hr3
  have HBC := Lib.hid (grown_of_below hbc (some gp))
  have HR21 := Lib.hid hr21
  have HGW1 := Lib.hid hg1
  have HL := Lib.hid (And.intro hg1.size (And.intro h1.bp h1.bw))
  have HN2 : Hid (g2 < W1.heap.size) := hr21.lt
  clear hr hl1 h1 h2 hr21 hg1 hbc hr3 HI HB HR2
  go_wp2_with fail
  refine HM.out.mono ?_
  rintro e W4 ⟨rfl, l2, b2, h4, hrel, hg4⟩
  generalize hg3 : W1.heap.size = g3 at *
  have HG3 := Lib.hid hg3
  clear hg3
  have hne3 : g3 ≠ gp := by have := HL.out.2; omega
  have hr24 := grown_row hg4 HR2b.out HGX.out
  have hr34 := grown_row hg4 HR3.out hne3
  have hg4' := nil_grown HG1.out hg4
  have HGC := Lib.hid (nil_grown HBC.out hg4)
  obtain ⟨g, o, c, q1, q2, q3, q4, q5, q6⟩ := h4.ex
  obtain ⟨t0, t1, t2, t3⟩ := q6.head h4.tl
  have f0 : W4.cell? ⟨gp, 0, none⟩ = some (.slice (some ⟨g, o, none⟩) l2.length c) := q1.cell (by omega)
  have hl : 0 < l2.length := List.length_pos_iff.2 h4.tl.ne
  have hlI : (0 : Int) < l2.length := by omega
  obtain ⟨s, hs⟩ : ∃ s, s = (hd l2).s := ⟨_, rfl⟩
  have hs8 : B8 s := by rw [hs]; exact h4.tl.hd_ok.1
  rw [← hs] at t1
  have HS := Lib.hid hs
  have H4 := Lib.hid h4
  have F0 := Lib.hid f0
  have T1 := Lib.hid t1
  have HREL := Lib.hid hrel
  have HG4 := Lib.hid hg4'
  have HR24 := Lib.hid hr24
  have HR34 := Lib.hid hr34
  have HNE3 := Lib.hid hne3
  clear h4 hrel hg4 hg4' hr24 hr34 hne3 HM HR3 HR2b HG1 q1 q6 t0 t2 t3 hs
  have hmm := @run_makeMap Try.prog
  have hMB := MB.made W4
  cases hlk : look cmps s with
  | none =>
    have HLK := Lib.hid hlk
    go_wp2_with (first
      | (refine wpList_ins rfl _ _ _ _ rfl 9 54 Try.underlying177 Try.underlying9 _ _ rfl hMB _ rfl _ rfl (by rfl) ?_; clear hMB f0 t1; intro W5 hMB; have f0 := hMB.cell F0.out; have t1 := hMB.cell T1.out)
      | (refine wpList_lookN rfl _ _ _ rfl 9 54 .u8 Try.underlying177 Try.underlying9 zero_op _ cmps rfl (hMB.to (by kernel_rfl)) (by decide) s hs8 rfl ?_; rw [show lookN cmps s = _ from hlk]; dsimp only [Option.getD_some, Option.isSome_some, Option.getD_none, Option.isSome_none]))
    have hb5 := hMB.be
    have HF := Lib.hid (pfail_any (H4.out.be hMB) 121 (by decide))
    have r2 := below_row hb5 HR24.out HR24.out.lt
    have r3 := below_row hb5 HR34.out HR34.out.lt
    have HG5 := Lib.hid (nil_grown HG4.out (grown_of_below hb5 (some gp)))
    clear f0 t1 hMB hb5
    refine HF.out.mono ?_
    rintro e W6 ⟨rfl, h6, hg6⟩
    have h2 := grown_row hg6 r2 HGX.out
    have h3 := grown_row hg6 r3 HNE3.out
    have hg := nil_grown HG5.out hg6
    have H6 := Lib.hid h6
    have HG := Lib.hid hg
    have H2 := Lib.hid h2
    have a0 := h3.cell (show 0 < 5 by omega)
    have a1 := h3.cell (show 1 < 5 by omega)
    have a2 := h3.cell (show 2 < 5 by omega)
    have a3 := h3.cell (show 3 < 5 by omega)
    have a4 := h3.cell (show 4 < 5 by omega)
    have b0 := h2.cell (show 0 < 5 by omega)
    have b1 := h2.cell (show 1 < 5 by omega)
    have b2' := h2.cell (show 2 < 5 by omega)
    have b3 := h2.cell (show 3 < 5 by omega)
    have b4 := h2.cell (show 4 < 5 by omega)
    have z0 := h2.frozen 0
    have z1 := h2.frozen 1
    have z2 := h2.frozen 2
    have z3 := h2.frozen 3
    have z4 := h2.frozen 4
    dsimp only [conF] at a0 a1 a2 a3 a4 b0 b1 b2' b3 b4
    clear h6 hg h2 h3
    go_wp2_with fail
    (try simp only [Exit.inBlock, Exit.then])
    have hx1 := con_set5 ⟨r, i0⟩ H2.out
    have hx2 := H6.out.kept (row := some g2) (grown_set (grown_set (grown_set (grown_set (grown_set (grown_refl _ _) (.inl rfl) (p := ⟨g2, 0, none⟩) (.bool r)) (.inl rfl) (p := ⟨g2, 1, none⟩) (.int .u8 i0.o)) (.inl rfl) (p := ⟨g2, 2, none⟩) (.int .i64 i0.d)) (.inl rfl) (p := ⟨g2, 3, none⟩) (.int .i64 i0.s)) (.inl rfl) (p := ⟨g2, 4, none⟩) (.int .i64 i0.n)) (fun k e => by injection e with e; subst e; exact HGB.out)
    have hx3 := grown_set (grown_set (grown_set (grown_set (grown_set HG.out (.inr HG2.out) (p := ⟨g2, 0, none⟩) (.bool r)) (.inr HG2.out) (p := ⟨g2, 1, none⟩) (.int .u8 i0.o)) (.inr HG2.out) (p := ⟨g2, 2, none⟩) (.int .i64 i0.d)) (.inr HG2.out) (p := ⟨g2, 3, none⟩) (.int .i64 i0.s)) (.inr HG2.out) (p := ⟨g2, 4, none⟩) (.int .i64 i0.n)
    dsimp only at hx1 hx2 hx3 ⊢
    generalize (((((World.setCell W6 ⟨g2, 0, none⟩ (.bool r)).setCell ⟨g2, 1, none⟩ (.int .u8 i0.o)).setCell ⟨g2, 2, none⟩ (.int .i64 i0.d)).setCell ⟨g2, 3, none⟩ (.int .i64 i0.s)).setCell ⟨g2, 4, none⟩ (.int .i64 i0.n)) = W9 at hx1 hx2 hx3 ⊢
    refine bodyPost_ret (con_results rfl _ _ g2 ⟨r, i0⟩ rfl hx1) rfl ?_
    exact ⟨⟨r, i0⟩, l2, _, rfl, hx2, cond_no HR.out HL1.out HREL.out (HS.out ▸ HLK.out), hx3⟩
  | some op =>
    have hn := cmps_ne hlk
    have HK4 : Hid ((hd l2).k ≠ 4) := (H4.out.tl.hd_s (by rw [← HS.out]; exact hn.1)).1
    have HLK := Lib.hid hlk
    clear hn
    go_wp2_with (first
      | (refine wpList_ins rfl _ _ _ _ rfl 9 54 Try.underlying177 Try.underlying9 _ _ rfl hMB _ rfl _ rfl (by rfl) ?_; clear hMB f0 t1; intro W5 hMB; have f0 := hMB.cell F0.out; have t1 := hMB.cell T1.out)
      | (refine wpList_lookN rfl _ _ _ rfl 9 54 .u8 Try.underlying177 Try.underlying9 zero_op _ cmps rfl (hMB.to (by kernel_rfl)) (by decide) s hs8 rfl ?_; rw [show lookN cmps s = _ from hlk]; dsimp only [Option.getD_some, Option.isSome_some, Option.getD_none, Option.isSome_none]))
    have hb5 := hMB.be
    have hst := pstep_any (H4.out.be hMB)
    rw [if_neg HK4.out] at hst
    have HF := Lib.hid hst
    have r3 := below_row hb5 HR34.out HR34.out.lt
    have HG5 := Lib.hid (nil_grown HGC.out (grown_of_below hb5 (some gp)))
    clear f0 t1 hMB hb5 hst
    refine HF.out.mono ?_
    rintro e W6 ⟨rfl, h6, hg6⟩
    have h3 := grown_row hg6 r3 HNE3.out
    have hg := nil_grown HG5.out hg6
    have hB3 : B ≤ g3 := by have := HL.out.2; omega
    have hP := h6.off (p := ⟨g3, 1, none⟩) hB3 (.int .u8 op)
    have hG := grown_set hg (.inr (Nat.le_of_eq HG3.out) : (⟨g3, 1, none⟩ : Addr).block = gp ∨ W1.heap.size ≤ (⟨g3, 1, none⟩ : Addr).block) (.int .u8 op)
    have z1 := h3.frozen 1
    have a1 := h3.cell (show 1 < 5 by omega)
    dsimp only [conF] at a1
    have HO := Lib.hid (poperand_any hP hG (Nat.le_of_eq HG3.out) hB3 (con_setO h3 op) (o := 1) (by omega) rfl)
    clear hB3 hP hG h3 hg h6 hg6 r3 HF
    go_wp2_with fail
    refine HO.out.mono ?_
    rintro e W7 ⟨rfl, sv, nv, l', b', hs7, hn7, h6, h3', hrel, hg7⟩
    have hg := nil_grown HGW1.out hg7
    have h2 := grown_row hg7 HR21.out HGX.out
    have h3 : W7.rowIs g3 58 5 (conF ⟨r, ⟨op, 0, sv, nv⟩⟩) := h3'.congr fun i hi => by
      match i, hi with
      | 0, _ => rfl
      | 1, _ => rfl
      | 2, _ => rfl
      | 3, _ => rfl
      | 4, _ => rfl
    have HREL7 := Lib.hid hrel
    clear h3' hrel hg7 z1 a1 HO
    have H6 := Lib.hid h6
    have HG := Lib.hid hg
    have H2 := Lib.hid h2
    have a0 := h3.cell (show 0 < 5 by omega)
    have a1 := h3.cell (show 1 < 5 by omega)
    have a2 := h3.cell (show 2 < 5 by omega)
    have a3 := h3.cell (show 3 < 5 by omega)
    have a4 := h3.cell (show 4 < 5 by omega)
    have b0 := h2.cell (show 0 < 5 by omega)
    have b1 := h2.cell (show 1 < 5 by omega)
    have b2' := h2.cell (show 2 < 5 by omega)
    have b3 := h2.cell (show 3 < 5 by omega)
    have b4 := h2.cell (show 4 < 5 by omega)
    have z0 := h2.frozen 0
    have z1 := h2.frozen 1
    have z2 := h2.frozen 2
    have z3 := h2.frozen 3
    have z4 := h2.frozen 4
    dsimp only [conF] at a0 a1 a2 a3 a4 b0 b1 b2' b3 b4
    clear h6 hg h2 h3
    go_wp2_with fail
    (try simp only [Exit.inBlock, Exit.then])
    have hx1 := con_set5 ⟨r, ⟨op, 0, sv, nv⟩⟩ H2.out
    have hx2 := H6.out.kept (row := some g2) (grown_set (grown_set (grown_set (grown_set (grown_set (grown_refl _ _) (.inl rfl) (p := ⟨g2, 0, none⟩) (.bool r)) (.inl rfl) (p := ⟨g2, 1, none⟩) (.int .u8 (⟨op, 0, sv, nv⟩ : InsS).o)) (.inl rfl) (p := ⟨g2, 2, none⟩) (.int .i64 (⟨op, 0, sv, nv⟩ : InsS).d)) (.inl rfl) (p := ⟨g2, 3, none⟩) (.int .i64 (⟨op, 0, sv, nv⟩ : InsS).s)) (.inl rfl) (p := ⟨g2, 4, none⟩) (.int .i64 (⟨op, 0, sv, nv⟩ : InsS).n)) (fun k e => by injection e with e; subst e; exact HGB.out)
    have hx3 := grown_set (grown_set (grown_set (grown_set (grown_set HG.out (.inr HG2.out) (p := ⟨g2, 0, none⟩) (.bool r)) (.inr HG2.out) (p := ⟨g2, 1, none⟩) (.int .u8 (⟨op, 0, sv, nv⟩ : InsS).o)) (.inr HG2.out) (p := ⟨g2, 2, none⟩) (.int .i64 (⟨op, 0, sv, nv⟩ : InsS).d)) (.inr HG2.out) (p := ⟨g2, 3, none⟩) (.int .i64 (⟨op, 0, sv, nv⟩ : InsS).s)) (.inr HG2.out) (p := ⟨g2, 4, none⟩) (.int .i64 (⟨op, 0, sv, nv⟩ : InsS).n)
    dsimp only at hx1 hx2 hx3 ⊢
    generalize (((((World.setCell W7 ⟨g2, 0, none⟩ (.bool r)).setCell ⟨g2, 1, none⟩ (.int .u8 (⟨op, 0, sv, nv⟩ : InsS).o)).setCell ⟨g2, 2, none⟩ (.int .i64 (⟨op, 0, sv, nv⟩ : InsS).d)).setCell ⟨g2, 3, none⟩ (.int .i64 (⟨op, 0, sv, nv⟩ : InsS).s)).setCell ⟨g2, 4, none⟩ (.int .i64 (⟨op, 0, sv, nv⟩ : InsS).n)) = W9 at hx1 hx2 hx3 ⊢
    refine bodyPost_ret (con_results rfl _ _ g2 ⟨r, ⟨op, 0, sv, nv⟩⟩ rfl hx1) rfl ?_
    exact ⟨⟨r, ⟨op, 0, sv, nv⟩⟩, l', _, rfl, hx2, cond_ok HR.out HL1.out HREL.out (HS.out ▸ HLK.out) HREL7.out, hx3⟩
end
end Go.Proofs.Ythmpagehmfillaa
