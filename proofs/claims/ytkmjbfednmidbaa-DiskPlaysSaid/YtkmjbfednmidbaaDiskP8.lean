/-
  THE WALK OF quillpresslaw07.DiskPlays: it returns true. Conditions: the arguments read.
-/
import Derived.Test.YtkmjbfednmidbaaDiskP7
import Derived.Test.YtkmjbfednmidbaaArgsOp
import Derived.Deep.DeepCutAuto
import Derived.Great.BuildSlice
import Derived.Deep.CutBlock
namespace Go.Proofs.Ytkmjbfednmidbaa
open Go.RowKit
set_option linter.unusedSimpArgs false
set_option linter.unusedVariables false

/-- What a call leaves: both disks, both answers. -/
def PlayR (w : World) (gb B3 : Nat) (bb : List Nat) (Bo : Option Addr) (lv : Value) (k : Nat) (s7 s15 s16 s17 s18 : Value) (wx : World) : Prop :=
  ∃ (g : Nat) (nb ob : Option Nat) (d : DkS) (r : RfS) (x : Int) (Ap Aq : Option Addr) (cp cq : Nat) (p : List Nat), s7 = .pointer (some ⟨g, 0, none⟩) ∧ s15 = .int .i64 x ∧ s16 = .int .i64 x ∧ s17 = .slice Ap p.length cp ∧ s18 = .slice Aq p.length cq ∧
    Rd wx Ap p ∧ Rd wx Aq p ∧ p.length ≤ 9223372036854775807 ∧ PS w wx w.heap.size g nb ob d gb r k ∧ Lent wx B3 lv bb ∧ Rd wx Bo bb
/-- The program's answer is there: what is kept till the document's is. -/
structure Mid (w w4 : World) (g : Nat) (nb ob : Option Nat) (d : DkS) (gb B3 po : Nat) (r : RfS) (bb : List Nat) (Bo : Option Addr) (lv : Value) (oc : Array Value) : Prop where
  pa : PA w w4 w.heap.size g nb ob d gb r
  lent : Lent w4 B3 lv bb
  rdb : Rd w4 Bo bb
  op : w4.heap[po]? = some (.cells oc 67 (0, 0))
  ne : po ≠ gb
theorem mid_after {w w3 w4 : World} {g : Nat} {nb ob : Option Nat} {d d' : DkS} {gb B3 po : Nat} {r : RfS} {bb : List Nat} {Bo : Option Addr} {lv : Value} {oc : Array Value} {k : Nat} (hp : PS w w3 w.heap.size g nb ob d gb r k) (hl : Lent w3 B3 lv bb) (hr : Rd w3 Bo bb) (ho : w3.heap[po]? = some (.cells oc 67 (0, 0))) (hne : po ≠ gb) (hng : po ≠ g)
    (ha : After w3 g nb ob d' w4) : ∃ nb' ob', Mid w w4 g nb' ob' d' gb B3 po r bb Bo lv oc := by
  obtain ⟨nb', ob', hpa⟩ := hp.after ha
  obtain ⟨_, _, _, _, _, hg⟩ := ha
  exact ⟨nb', ob', hpa, hl.dk hp.dk hg, hp.dk.rd hr hg, (hg.block po (lt_of_block ho) (by intro e; injection e with e; exact hng e)).trans ho, hne⟩
theorem mid_below {w w3 w4 : World} {g : Nat} {nb ob : Option Nat} {d : DkS} {gb B3 po : Nat} {r : RfS} {bb : List Nat} {Bo : Option Addr} {lv : Value} {oc : Array Value} {k : Nat} (hp : PS w w3 w.heap.size g nb ob d gb r k) (hl : Lent w3 B3 lv bb) (hr : Rd w3 Bo bb) (ho : w3.heap[po]? = some (.cells oc 67 (0, 0))) (hne : po ≠ gb)
    (hb : Below w3.heap.size w3 w4) : Mid w w4 g nb ob d gb B3 po r bb Bo lv oc :=
  ⟨hp.pa.bel hb, hl.below hb, hr.below hb, (hb.block po (lt_of_block ho)).trans ho, hne⟩
theorem mid_store {w w4 w5 : World} {g : Nat} {nb ob : Option Nat} {d : DkS} {gb B3 po : Nat} {r r' : RfS} {bb : List Nat} {Bo : Option Addr} {lv : Value} {oc : Array Value} (h : Mid w w4 g nb ob d gb B3 po r bb Bo lv oc) (hb : Below w4.heap.size w4 w5) {A B : Option Addr} {c e : Nat} (hv : RfV w5 (.agg (rfC r' A B c e)) r') :
    Mid w (w5.setRow gb (rfC r' A B c e)) g nb ob d gb B3 po r' bb Bo lv oc ∧ ∀ (D : Option Addr) (l : List Nat), Rd w5 D l → Rd (w5.setRow gb (rfC r' A B c e)) D l := by
  obtain ⟨A0, c0, B0, e0, k1, k2⟩ := h.pa.box
  have k1' := (hb.block gb (lt_of_block k1)).trans k1
  refine ⟨⟨h.pa.store hb hv, (h.lent.below hb).grownRow k1' (rfC_no _ _ _ _ _) (setRow_grown _ _ _), (h.rdb.below hb).grownRow k1' (rfC_no _ _ _ _ _) (setRow_grown _ _ _), ?_, h.ne⟩, fun D l hd => hd.grownRow k1' (rfC_no _ _ _ _ _) (setRow_grown _ _ _)⟩
  exact (setRow_other w5 gb po _ h.ne).trans ((hb.block po (lt_of_block h.op)).trans h.op)
theorem Mid.cell {w w4 : World} {g : Nat} {nb ob : Option Nat} {d : DkS} {gb B3 po : Nat} {r : RfS} {bb : List Nat} {Bo : Option Addr} {lv : Value} {a b c e f : Value} (h : Mid w w4 g nb ob d gb B3 po r bb Bo lv #[a, b, c, e, f]) : w4.cell? ⟨po, 0, none⟩ = some a ∧ w4.cell? ⟨po, 1, none⟩ = some b ∧ w4.cell? ⟨po, 2, none⟩ = some c ∧ w4.cell? ⟨po, 3, none⟩ = some e := by
  refine ⟨?_, ?_, ?_, ?_⟩
  all_goals
    rw [cell_of_row _ _ _ _ _ _ h.op]
    rfl
theorem RfS.pre_now (r : RfS) : r.pre.2.now = r.now := by
  unfold RfS.pre
  repeat' split
  all_goals rfl
theorem op_zero (d : DkS) : (d.op fun d => ((0 : Int), d)).2 = d.pre.2 := by
  unfold DkS.op
  cases d.pre with
  | mk x y => cases x <;> rfl
theorem DR.read {k : Nat} {d : DkS} {r : RfS} (h : DR k d r) (hk : k ≤ 1000) (a n : Nat) : r.pre.1 = (d.op fun d => ((0 : Int), d)).1 ∧ DR (k + 1) d.pre.2 r.pre.2 ∧ r.readL a n = readL d a n := by
  have h1 := h.op hk (fun d => ((0 : Int), d)) (fun r => ((0 : Int), r)) (fun h' => ⟨rfl, h'⟩)
  have h2 := h.pre hk
  have e1 : r.pre.1 = (d.op fun d => ((0 : Int), d)).1 := by
    rw [← h1.1]
    unfold RfS.op
    split
    · rename_i e; exact e
    · rfl
  refine ⟨e1, h2.2, ?_⟩
  unfold RfS.readL readL
  rw [h.now]
  have h3 := h2.1
  cases hp : d.pre.1 with
  | none =>
    rw [hp] at h3
    rw [if_pos h3, if_pos rfl]
  | some e =>
    rw [hp] at h3
    rw [if_neg (by rw [h3.1]; exact h3.2), if_neg (by simp)]
theorem pl_crash {g : Nat} {nb ob : Option Nat} {d : DkS} {w : World} (h : Dk w g nb ob d) (hfl : d.floor ≤ d.now.length) (keep : Int) (AJ : Option Addr) (n jc : Nat) (junk : List Nat) (hn : n = junk.length) (hJ : Rd w AJ junk) (hjl : junk.length ≤ 9223372036854775807) :
    Calls Try.prog 23 #[.pointer (some ⟨g, 0, none⟩), .agg #[.int .i64 keep, .slice AJ n jc]] w fun e w' => e = .returned (.int .i64 0) ∧ After w g nb ob (crashD d (crLeft d keep junk)) w' := by
  subst hn
  by_cases hk : keep < 0
  · have e : crLeft d keep junk = d.old := if_pos hk
    rw [e]
    exact crash_old h keep hk AJ _ jc
  · exact crash_now h hfl keep (by omega) AJ junk jc hJ hjl
theorem wpList_conv_const {ops : Array Oper} {rest : List Oper} {o : Oper} {a : Act} {W : World} {Q : Exit → Act → World → Prop} (hgd : o.guard = none) (x : Operand) (ho : o.op = .convert 32 32 x) (C : Array Value) (n c : Nat) (hx : a.eval x = .slice (some ⟨W.heap.size, 0, none⟩) n c)
    (h : wpList Try.prog ops Q rest (a.put o.dst (.slice (some ⟨W.heap.size, 0, none⟩) n c)) (W.alloc (.cells C 5 (C.size, C.size + 1)))) : wpList Try.prog ops Q (o :: rest) a (W.alloc (.cells C 5)) :=
  wpList_plain hgd fun _ hK => by
    unfold Oper.wp execOp
    simp only [ho, hx, Sem.run_bind, Lib.run_convert_bytes_const (P := Try.prog) W 32 5 C n c Try.underlying32 Try.underlying5, Result.andThen_ok, Sem.run_pure]
    exact hK _ _ h
set_option maxRecDepth 100000 in
set_option maxHeartbeats 80000000 in
theorem diskPlays_any (most : Int) (A1 : Option Addr) (c1 : Nat) (first : List Nat) (A2 : Option Addr) (c2 : Nat) (L : List OpS) (w : World) (hm1 : -9223372036854775808 ≤ most) (hm2 : most ≤ 9223372036854775807) (hr : Rd w A1 first) (hfl : first.length ≤ 9223372036854775807)
    (hL : Ops w A2 L) (hLl : L.length ≤ 9223372036854775807) :
    Calls Try.prog 8 #[.int .i64 most, .slice A1 first.length c1, .slice A2 L.length c2] w fun e w' => e = .returned (.bool true) ∧ Below w.heap.size w w' := by
  have kc := fun (w : World) (C : Array Value) (n c : Nat) => Lib.run_convert_bytes_const (P := Try.prog) w 32 5 C n c Try.underlying32 Try.underlying5
  have HR := Lib.hid hr
  have HL := Lib.hid hL
  have HLL := Lib.hid hLl
  have HFL := Lib.hid hfl
  have HM1 := Lib.hid hm1
  have HM2 := Lib.hid hm2
  clear hr hL hLl hfl hm1 hm2
  by_cases e0 : 5000 < first.length
  · have e0' : (5000 : Int) < first.length := by omega
    go_enter Try.func8, Try.ntmps8
    go_wp2_with fail
    refine (awake_any w).mono ?_
    rintro e w1 ⟨rfl, hb⟩
    go_wp2_with fail
    go_ret
    exact ⟨rfl, hb⟩
  · have e0' : ¬ (5000 : Int) < first.length := by omega
    by_cases e1 : (decide (most < 0) || decide (4194304 < most) || decide (most < first.length)) = true
    · have E1 := Lib.hid e1
      clear e1
      go_enter Try.func8, Try.ntmps8
      go_wp2_with fail
      refine (load_no most A1 first.length c1 w E1.out).mono ?_
      rintro e w1 ⟨rfl, rfl⟩
      go_wp2_with fail
      refine (rload_no most A1 first.length c1 w E1.out).mono ?_
      rintro e w1 ⟨rfl, hb⟩
      have HB := Lib.hid (hb.alloc hb.size (.cells #[.int .i64 0, .slice none 0 0, .slice none 0 0, .int .i64 0, .bool false, .int .i64 0, .int .i64 0, .int .i64 0] 63))
      clear hb
      go_wp2_with fail
      refine (awake_any _).mono ?_
      rintro e w2 ⟨rfl, hb⟩
      have HB2 := Lib.hid (HB.out.trans (hb.mono HB.out.size))
      clear hb
      go_wp2_with fail
      go_ret
      exact ⟨rfl, HB2.out⟩
    · obtain ⟨ms, rfl⟩ : ∃ k : Nat, most = k := ⟨most.toNat, by simp at e1; omega⟩
      have e2 : ms ≤ 4194304 ∧ first.length ≤ ms := by simp at e1; omega
      have E2 := Lib.hid e2
      clear e1 e2
      go_enter Try.func8, Try.ntmps8
      go_wp2_with fail
      refine (load_any ms A1 c1 first w E2.out.1 E2.out.2 HR.out).mono ?_
      rintro e w1 ⟨g, nb, ob, rfl, hd, hg, hnb, hob, hb⟩
      have D1 := Lib.hid hd
      have G1 := Lib.hid (show w.heap.size ≤ g ∧ (∀ k, nb = some k → w.heap.size ≤ k) ∧ (∀ k, ob = some k → w.heap.size ≤ k) from ⟨hg, hnb, hob⟩)
      have B1 := Lib.hid hb
      clear hd hg hnb hob hb
      go_wp2_with fail
      refine (rload_any ms A1 first.length c1 first w1 rfl E2.out.1 E2.out.2 (HR.out.below B1.out)).mono ?_
      rintro e w2 ⟨v, rfl, hv, hb⟩
      obtain ⟨Aw, Bw, cw, ew, rfl⟩ := rfV_form hv
      have V2 := Lib.hid hv
      have B2 := Lib.hid hb
      clear hv hb
      go_wp2_with (refine wpList_store_new 63 (.tmp 9) (.tmp 34) rfl rfl _ (rfC (mkR ms first) Aw Bw cw ew) rfl rfl rf_size rfl (rfC_one _ _ _ _ _) ?_)
      have hbx : Below w2.heap.size w2 (w2.alloc (.cells (rfC (mkR ms first) Aw Bw cw ew) 63)) := (Below.refl _ _).alloc (Nat.le_refl _) _
      have hps : PS w (w2.alloc (.cells (rfC (mkR ms first) Aw Bw cw ew) 63)) w.heap.size g nb ob (mkD ms first) w2.heap.size (mkR ms first) 0 := by
        have q1 := B1.out.size
        have q2 := B2.out.size
        have d2 := D1.out.below B2.out
        refine ⟨d2.below hbx, G1.out.1, G1.out.2.1, G1.out.2.2, by omega, fun e => by have := d2.lt; omega, fun e => by have := d2.nl _ e; omega, fun e => by have := d2.ol _ e; omega, ⟨Aw, cw, Bw, ew, heap_alloc_new _ _, V2.out.below hbx⟩, ⟨rfl, rfl, rfl, rfl, rfl, .inl ⟨rfl, rfl⟩, .inl ⟨rfl, rfl⟩, .inl rfl, Nat.le_refl _⟩, (B1.out.trans (B2.out.mono q1)).trans (hbx.mono (by omega)), Nat.le_refl _⟩
      generalize w2.alloc (.cells (rfC (mkR ms first) Aw Bw cw ew) 63) = Y at *
      generalize w2.heap.size = gb at *
      have HPS := Lib.hid hps
      clear hbx hps V2 B2 D1 G1 B1
      go_loopw [7, 11] (fun v7 v11 wr => ∃ (i g : Nat) (nb ob : Option Nat) (d : DkS) (r : RfS), v7 = .pointer (some ⟨g, 0, none⟩) ∧ v11 = .int .i64 i ∧ i ≤ L.length ∧ i ≤ 60 ∧ PS w wr w.heap.size g nb ob d gb r i) (fun _ v _ => 60 - (intOf v).toNat)
      case atStart => exact ⟨0, g, nb, ob, _, _, rfl, rfl, by omega, by omega, HPS.out⟩
      case round =>
        obtain ⟨i, g', nb', ob', d, r, rfl, rfl, hi1, hi2, hps⟩ := hrel
        obtain ⟨X, rfl⟩ : ∃ X, X = wr := ⟨wr, rfl⟩
        have HP := Lib.hid hps
        clear hps HPS
        by_cases hin : i < L.length ∧ i < 60
        · obtain ⟨hiL, hi60⟩ := hin
          have k1 : (i : Int) < L.length := by omega
          have k2 : (i : Int) < 60 := by omega
          obtain ⟨gs, os, rfl, hgs, hop⟩ := HL.out (by intro e; rw [e] at hiL; simp at hiL)
          have hop1 := (hop i hiL).below hgs HP.out.below
          have hgsX : gs < X.heap.size := Nat.lt_of_lt_of_le hgs HP.out.below.size
          obtain ⟨o, ho⟩ : ∃ o, o = L[i] := ⟨_, rfl⟩
          rw [← ho] at hop1
          obtain ⟨x0, x1, x2, x3, ⟨Bo, co, x4, x5, x6, x7⟩, q0, q1, q2, q3⟩ := hop1
          have HRB := Lib.hid x7
          clear hop ho x7
          obtain ⟨n, hn⟩ : ∃ n : Nat, n = min o.b.length 3000 := ⟨_, rfl⟩
          have hnm : (if (3000 : Int) < o.b.length then 3000 else (o.b.length : Int)) = n := by split <;> omega
          have hn1 : (n : Int) ≤ co := by omega
          have hn2 : n ≤ co := by omega
          have hn3 : n ≤ o.b.length := by omega
          have hn4 : n ≤ 3000 := by omega
          clear hn
          obtain ⟨bb, hbb⟩ : ∃ bb, bb = o.b.take n := ⟨_, rfl⟩
          have hbl : n = bb.length := by rw [hbb, List.length_take]; omega
          have HBL := Lib.hid hbl
          have hrb : Rd X Bo bb := by rw [hbb]; exact rd_takeL HRB.out n
          clear hbb hbl
          go_wp2_with fail
          have hax : Below X.heap.size X (X.alloc (.cells #[.int .i64 o.k, .int .i64 o.n, .int .i64 o.m, .int .i64 o.e, .slice Bo o.b.length co] 67)) := (Below.refl _ _).alloc (Nat.le_refl _) _
          have hro := heap_alloc_new X (.cells #[.int .i64 o.k, .int .i64 o.n, .int .i64 o.m, .int .i64 o.e, .slice Bo o.b.length co] 67)
          have hpz := HP.out.bel hax
          have hrz := hrb.below hax
          generalize X.alloc (.cells #[.int .i64 o.k, .int .i64 o.n, .int .i64 o.m, .int .i64 o.e, .slice Bo o.b.length co] 67) = Z at *
          generalize X.heap.size = po at *
          have HRZ := Lib.hid hrz
          have HPZ := Lib.hid hpz
          have HRO := Lib.hid hro
          clear hax hpz hrz hro hrb x0 x1 x2 x3 x4 HP HRB
          refine (lentb_n Bo n co bb Z HBL.out HRZ.out (by have := HBL.out; omega)).mono ?_
          rintro e w3 ⟨gl, cl, rfl, hl, hb⟩
          rw [← HBL.out] at hl ⊢
          have HP3 := Lib.hid (HPZ.out.bel hb)
          have HLE := Lib.hid hl
          have HRB := Lib.hid (HRZ.out.below hb)
          have hro := (hb.block po (lt_of_block HRO.out)).trans HRO.out
          have y0 : w3.cell? ⟨po, 0, none⟩ = some (.int .i64 o.k) := by rw [cell_of_row _ _ _ _ _ _ hro]; rfl
          have y1 : w3.cell? ⟨po, 1, none⟩ = some (.int .i64 o.n) := by rw [cell_of_row _ _ _ _ _ _ hro]; rfl
          have y2 : w3.cell? ⟨po, 2, none⟩ = some (.int .i64 o.m) := by rw [cell_of_row _ _ _ _ _ _ hro]; rfl
          have y3 : w3.cell? ⟨po, 3, none⟩ = some (.int .i64 o.e) := by rw [cell_of_row _ _ _ _ _ _ hro]; rfl
          have HRO3 := Lib.hid hro
          clear hl hb hro HRO HPZ HRZ
          have hpgb : po ≠ gb := by
            intro e
            obtain ⟨A0, c0, B0, e0, k1, k2⟩ := HP3.out.box
            have h1 := HRO3.out
            rw [e, k1] at h1
            injection h1 with h1
            injection h1 with h2 h3
            exact absurd h3 (by decide)
          have hpg : po ≠ g' := by
            intro e
            obtain ⟨nv, ov, ⟨cs, k1, k2, k3⟩, _⟩ := HP3.out.dk.lies
            have h1 := HRO3.out
            rw [e, k1] at h1
            injection h1 with h1
            injection h1 with h2 h3
            exact absurd h3 (by decide)
          go_upto_block 2 with fail
          go_cut [7, 15, 16, 17, 18] (fun s7 s15 s16 s17 s18 wx => PlayR w gb Z.heap.size bb Bo (.slice (some ⟨gl, 0, none⟩) n cl) (i + 1) s7 s15 s16 s17 s18 wx)
          case rest =>
            as_aux_lemma =>
              obtain ⟨g2, nb2, ob2, d2, r2, x, Ap, Aq, cp, cq, p, rfl, rfl, rfl, rfl, rfl, hrp, hrq, hpl, hps, hlent, hrbb⟩ := hcut
              obtain ⟨Ab, cb, Bb, eb, hbox, hval⟩ := hps.box
              have f1 : wc.cell? ⟨gb, 1, none⟩ = some (.slice Ab d2.now.length cb) := by rw [cell_of_row _ _ _ _ _ _ hbox, ← hps.dr.now]; rfl
              have f3 : wc.cell? ⟨gb, 3, none⟩ = some (.int .i64 d2.floor) := by rw [cell_of_row _ _ _ _ _ _ hbox, ← hps.dr.floor]; rfl
              have f4 : wc.cell? ⟨gb, 4, none⟩ = some (.bool d2.down) := by rw [cell_of_row _ _ _ _ _ _ hbox, ← hps.dr.down]; rfl
              have hrn : Rd wc Ab d2.now := by
                obtain ⟨A', c', B', e', q1, _, _, q4, _⟩ := hval
                injection q1 with q1
                have q2 := congrArg (fun a : Array Value => a[1]?) q1
                simp [rfC] at q2
                rw [← hps.dr.now, q2.1]
                exact q4
              have hgbl := hps.gl
              have keep : ∀ W, Below wc.heap.size wc W → W.cell? ⟨gb, 1, none⟩ = some (.slice Ab d2.now.length cb) ∧ W.cell? ⟨gb, 3, none⟩ = some (.int .i64 d2.floor) ∧ W.cell? ⟨gb, 4, none⟩ = some (.bool d2.down) := fun W hW => ⟨(hW.cell (p := ⟨gb, 1, none⟩) hgbl).trans f1, (hW.cell (p := ⟨gb, 3, none⟩) hgbl).trans f3, (hW.cell (p := ⟨gb, 4, none⟩) hgbl).trans f4⟩
              have KEEP := Lib.hid keep
              have HPQ := Lib.hid (And.intro hrp hrq)
              have HP4 := Lib.hid hps
              have HL4 := Lib.hid hlent
              have HR4 := Lib.hid hrbb
              have HN4 := Lib.hid hrn
              have hdl : d2.now.length ≤ 9223372036854775807 := by have := hps.dk.wf.now; have := hps.dk.wf.most; omega
              have HD0 : Hid (Below wc.heap.size wc wc.drew) := below_drewN' (Below.refl _ _) 1
              clear hrp hrq hps hlent hrbb hrn keep hbox hval
              go_wp2_with fail
              go_region_held3 (fun W => W.cell? ⟨gb, 1, none⟩ = some (.slice Ab d2.now.length cb) ∧ W.cell? ⟨gb, 3, none⟩ = some (.int .i64 d2.floor) ∧ W.cell? ⟨gb, 4, none⟩ = some (.bool d2.down))
                (first
                  | with_reducible exact ⟨f1, f3, f4⟩
                  | with_reducible exact KEEP.out _ HB7.out
                  | with_reducible exact KEEP.out _ HB6.out
                  | with_reducible exact KEEP.out _ HB5.out
                  | with_reducible exact KEEP.out _ HB4.out
                  | exact ⟨f1, f3, f4⟩)
                (first
                  | (go_at_call 20; (refine (same_yes Ap Aq p.length p.length cp cq p _ rfl rfl (by exact HPQ.out.1) (by exact HPQ.out.2) hpl).mono ?_); rintro e w4 ⟨rfl, hb4⟩
                     have HB4 : Hid (Below wc.heap.size wc w4) := (below_drewN' (Below.refl _ _) 1).trans hb4
                     clear hb4)
                  | (go_at_call 43; (refine (kept_n _ Z.heap.size Bo n co bb w4 HBL.out (HL4.out.below HB4.out) (HR4.out.below HB4.out) (by have := HBL.out; omega)).mono ?_); rintro e w5 ⟨rfl, hb5⟩
                     have HB5 := Lib.hid (HB4.out.trans (hb5.mono HB4.out.size))
                     clear hb5)
                  | (go_at_call 29; (refine (size_any (HP4.out.dk.below HB5.out)).mono ?_); rintro e w' ⟨rfl, rfl⟩)
                  | (go_at_call 22; (refine (synced_any (HP4.out.dk.below HB5.out)).mono ?_); rintro e w' ⟨rfl, rfl⟩)
                  | (go_at_call 33; (refine (down_any (HP4.out.dk.below HB5.out)).mono ?_); rintro e w' ⟨rfl, rfl⟩)
                  | (go_at_call 21; (refine (image_any (HP4.out.dk.below HB5.out)).mono ?_); rintro e w6 ⟨v6, b6, rfl, ⟨A6, c6, rfl, h6c, h6m, h6r, -⟩, -, hb6⟩
                     have HB6 := Lib.hid (HB5.out.trans (hb6.mono HB5.out.size))
                     have H6R := Lib.hid h6r
                     clear hb6 h6c h6m h6r)
                  | (go_at_call 20; (refine (same_yes A6 Ab d2.now.length d2.now.length c6 cb d2.now w6 rfl rfl H6R.out (HN4.out.below HB6.out) hdl).mono ?_); rintro e w7 ⟨rfl, hb7⟩
                     have HB7 := Lib.hid (HB6.out.trans (hb7.mono HB6.out.size))
                     clear hb7))
              go_wp2_with fail
              go_roundw
              case rel => exact ⟨i + 1, g2, nb2, ob2, d2, r2, rfl, by go_num, by omega, by omega, HP4.out.bel HB7.out⟩
              case measure => simp [intOf]; omega
          case first =>
            by_cases e1 : o.k = 1
            · have t1 : (o.k == 1) = true := by rw [e1]; rfl
              clear e1
              as_aux_lemma =>
                go_wp2_with fail
                refine (pl_append HP3.out.dk (some ⟨gl, 0, none⟩) n cl bb HBL.out (by have := HBL.out; omega) HLE.out.app).mono ?_
                rintro e w4 ⟨x, rfl, ha, hx⟩
                obtain ⟨nb4, ob4, hmid⟩ := mid_after HP3.out HLE.out HRB.out HRO3.out hpgb hpg ha
                have HMID := Lib.hid hmid
                have HX := Lib.hid hx
                clear ha hmid hx y0 y1 y2 y3
                obtain ⟨z0, z1, z2, z3⟩ := HMID.out.cell
                obtain ⟨A4, c4, B4, e4, hbox, hval⟩ := HMID.out.pa.box
                have HBOX := Lib.hid hbox
                have HVAL := Lib.hid hval
                clear hbox hval
                go_wp2_with (refine wpList_load_row rfl 63 (.tmp 9) rfl gb rfl 63 _ (0, 0) _ HBOX.out Try.underlying63 rfl rf_size ?_)
                refine (rappend_any _ r Bo n co bb w4 HVAL.out HBL.out HMID.out.rdb (by have := HBL.out; omega)).mono ?_
                rintro e w5 ⟨v', rfl, hv, hb⟩
                obtain ⟨A5, B5, c5, e5, rfl⟩ := rfV_form hv
                have HBOX5 := Lib.hid ((hb.block gb (lt_of_block HBOX.out)).trans HBOX.out)
                have HM5 := Lib.hid (mid_store HMID.out hb hv)
                have HSZ := Lib.hid hb
                clear hb hv HBOX HVAL z0 z1 z2 z3
                go_wp2_with (refine wpList_store_row rfl 63 (.tmp 9) (.tmp 87) rfl gb (rfC ((r.append bb).2) A5 B5 c5 e5) rfl rfl 63 _ HBOX5.out rf_size rfl (rfC_one _ _ _ _ _) ?_)
                go_meet
                case rel =>
                  have hdr := HP3.out.dr.append (by omega) bb
                  refine ⟨g', nb4, ob4, _, _, x, none, none, 0, 0, [], rfl, rfl, ?_, rfl, rfl, Rd.nil, Rd.nil, by simp, HM5.out.1.pa.ps hdr.2, HM5.out.1.lent, HM5.out.1.rdb⟩
                  rw [hdr.1, ← HX.out]
            · have t1 : (o.k == 1) = false := by rw [beq_eq_false_iff_ne]; exact e1
              clear e1
              by_cases e2 : o.k = 2
              · have t2 : (o.k == 2) = true := by rw [e2]; rfl
                clear e2
                as_aux_lemma =>
                  go_wp2_with fail
                  refine (sync_any HP3.out.dk).mono ?_
                  rintro e w4 ⟨x, rfl, ha, hx⟩
                  obtain ⟨nb4, ob4, hmid⟩ := mid_after HP3.out HLE.out HRB.out HRO3.out hpgb hpg ha
                  have HMID := Lib.hid hmid
                  have HX := Lib.hid hx
                  clear ha hmid hx y0 y1 y2 y3
                  obtain ⟨z0, z1, z2, z3⟩ := HMID.out.cell
                  obtain ⟨A4, c4, B4, e4, hbox, hval⟩ := HMID.out.pa.box
                  have HBOX := Lib.hid hbox
                  have HVAL := Lib.hid hval
                  clear hbox hval
                  go_wp2_with (refine wpList_load_row rfl 63 (.tmp 9) rfl gb rfl 63 _ (0, 0) _ HBOX.out Try.underlying63 rfl rf_size ?_)
                  refine (rsync_any _ r w4 HVAL.out).mono ?_
                  rintro e w5 ⟨v', rfl, hv, hb⟩
                  obtain ⟨A5, B5, c5, e5, rfl⟩ := rfV_form hv
                  have HBOX5 := Lib.hid ((hb.block gb (lt_of_block HBOX.out)).trans HBOX.out)
                  have HM5 := Lib.hid (mid_store HMID.out hb hv)
                  have HSZ := Lib.hid hb
                  clear hb hv HBOX HVAL z0 z1 z2 z3
                  go_wp2_with (refine wpList_store_row rfl 63 (.tmp 9) (.tmp 96) rfl gb (rfC (r.sync.2) A5 B5 c5 e5) rfl rfl 63 _ HBOX5.out rf_size rfl (rfC_one _ _ _ _ _) ?_)
                  go_meet
                  case rel =>
                    have hdr := HP3.out.dr.sync (by omega)
                    refine ⟨g', nb4, ob4, _, _, x, none, none, 0, 0, [], rfl, rfl, ?_, rfl, rfl, Rd.nil, Rd.nil, by simp, HM5.out.1.pa.ps hdr.2, HM5.out.1.lent, HM5.out.1.rdb⟩
                    rw [hdr.1, ← HX.out]
              · have t2 : (o.k == 2) = false := by rw [beq_eq_false_iff_ne]; exact e2
                clear e2
                by_cases e3 : o.k = 3
                · have t3 : (o.k == 3) = true := by rw [e3]; rfl
                  clear e3
                  as_aux_lemma =>
                    have hnow := HP3.out.dr.now
                    by_cases hb0 : readB d o.n o.m = true
                    · have hcond : o.n < 0 ∨ o.m < 0 ∨ (r.now.length : Int) < o.n ∨ (r.now.length : Int) - o.n < o.m := by
                        rw [hnow]
                        unfold readB at hb0
                        simp only [Bool.or_eq_true, decide_eq_true_eq] at hb0
                        omega
                      have HCD := Lib.hid hcond
                      have HB0 := Lib.hid hb0
                      have hq1 := (i64_of_wf q1).2
                      clear hcond hb0 hnow
                      go_wp2_with fail
                      refine (read_no HP3.out.dk o.n o.m HB0.out).mono ?_
                      rintro e w4 ⟨rfl, hb⟩
                      have HMID := Lib.hid (mid_below HP3.out HLE.out HRB.out HRO3.out hpgb hb)
                      clear hb y0 y1 y2 y3
                      obtain ⟨z0, z1, z2, z3⟩ := HMID.out.cell
                      obtain ⟨A4, c4, B4, e4, hbox, hval⟩ := HMID.out.pa.box
                      have HBOX := Lib.hid hbox
                      have HVAL := Lib.hid hval
                      clear hbox hval
                      go_wp2_with (refine wpList_load_row rfl 63 (.tmp 9) rfl gb rfl 63 _ (0, 0) _ HBOX.out Try.underlying63 rfl rf_size ?_)
                      refine (rread_no _ r o.n o.m w4 HVAL.out hq1 HCD.out).mono ?_
                      rintro e w5 ⟨v', rfl, hv, hb⟩
                      obtain ⟨A5, B5, c5, e5, rfl⟩ := rfV_form hv
                      have HBOX5 := Lib.hid ((hb.block gb (lt_of_block HBOX.out)).trans HBOX.out)
                      have HM5 := Lib.hid (mid_store HMID.out hb hv)
                      have HSZ := Lib.hid hb
                      clear hb hv HBOX HVAL z0 z1 z2 z3
                      go_wp2_with (refine wpList_store_row rfl 63 (.tmp 9) (.tmp 116) rfl gb (rfC (r) A5 B5 c5 e5) rfl rfl 63 _ HBOX5.out rf_size rfl (rfC_one _ _ _ _ _) ?_)
                      go_meet
                      case rel =>
                        exact ⟨g', nb', ob', _, _, 2, none, none, 0, 0, [], rfl, rfl, rfl, rfl, rfl, Rd.nil, Rd.nil, by simp, HM5.out.1.pa.ps (HP3.out.dr.mono (by omega)), HM5.out.1.lent, HM5.out.1.rdb⟩
                    · obtain ⟨a, ha⟩ : ∃ a : Nat, o.n = a := ⟨o.n.toNat, by unfold readB at hb0; simp only [Bool.or_eq_true, decide_eq_true_eq] at hb0; omega⟩
                      obtain ⟨mm, hmm⟩ : ∃ a : Nat, o.m = a := ⟨o.m.toNat, by unfold readB at hb0; simp only [Bool.or_eq_true, decide_eq_true_eq] at hb0; omega⟩
                      have hamn : a + mm ≤ d.now.length := by unfold readB at hb0; simp only [Bool.or_eq_true, decide_eq_true_eq] at hb0; omega
                      have hamr : a + mm ≤ r.now.length := by rw [hnow]; exact hamn
                      rw [ha] at y1
                      rw [hmm] at y2
                      have HA := Lib.hid ha
                      have HMM := Lib.hid hmm
                      clear hb0 hnow ha hmm
                      go_wp2_with fail
                      refine (read_any HP3.out.dk a mm hamn).mono ?_
                      rintro e w4 ⟨vp, rfl, hop, hd4, hg4⟩
                      obtain ⟨nb4, ob4, hmid⟩ := mid_after HP3.out HLE.out HRB.out HRO3.out hpgb hpg (hd4.after hg4)
                      obtain ⟨Ap, cp, rfl, -, -, hrp⟩ := hop.form
                      rw [HA.out, HMM.out] at hmid
                      have HMID := Lib.hid hmid
                      have HRP := Lib.hid hrp
                      clear hd4 hg4 hmid hop hrp y0 y1 y2 y3
                      obtain ⟨z0, z1, z2, z3⟩ := HMID.out.cell
                      obtain ⟨A4, c4, B4, e4, hbox, hval⟩ := HMID.out.pa.box
                      have HBOX := Lib.hid hbox
                      have HVAL := Lib.hid hval
                      clear hbox hval
                      go_wp2_with (refine wpList_load_row rfl 63 (.tmp 9) rfl gb rfl 63 _ (0, 0) _ HBOX.out Try.underlying63 rfl rf_size ?_)
                      refine (rread_any _ r a mm w4 HVAL.out hamr (RfS.pre_now r)).mono ?_
                      rintro e w5 ⟨v', Aq, cq, rfl, hv, hrq, hb⟩
                      obtain ⟨A5, B5, c5, e5, rfl⟩ := rfV_form hv
                      have HBOX5 := Lib.hid ((hb.block gb (lt_of_block HBOX.out)).trans HBOX.out)
                      have HM5 := Lib.hid (mid_store HMID.out hb hv)
                      have HSZ := Lib.hid hb
                      clear hb hv HBOX HVAL z0 z1 z2 z3
                      go_wp2_with (refine wpList_store_row rfl 63 (.tmp 9) (.tmp 116) rfl gb (rfC (r.pre.2) A5 B5 c5 e5) rfl rfl 63 _ HBOX5.out rf_size rfl (rfC_one _ _ _ _ _) ?_)
                      go_meet
                      case rel =>
                        have hdr := HP3.out.dr.read (by omega) a mm
                        refine ⟨g', nb4, ob4, _, _, (d.op fun d => ((0 : Int), d)).1, Ap, Aq, cp, cq, readL d a mm, rfl, rfl, by rw [hdr.1], rfl, by rw [hdr.2.2], HM5.out.2 _ _ (HRP.out.below HSZ.out), HM5.out.2 _ _ (by rw [← hdr.2.2]; exact hrq), ?_, HM5.out.1.pa.ps hdr.2.1, HM5.out.1.lent, HM5.out.1.rdb⟩
                        unfold readL
                        split
                        · rw [List.length_take, List.length_drop]; have := HP3.out.dk.wf.now; have := HP3.out.dk.wf.most; omega
                        · simp
                · have t3 : (o.k == 3) = false := by rw [beq_eq_false_iff_ne]; exact e3
                  clear e3
                  by_cases e4 : o.k = 4
                  · have t4 : (o.k == 4) = true := by rw [e4]; rfl
                    clear e4
                    as_aux_lemma =>
                      have hnow := HP3.out.dr.now
                      by_cases hb0 : truncB d o.n = true
                      · have hcond : o.n < 0 ∨ (r.now.length : Int) < o.n := by
                          rw [hnow]
                          unfold truncB at hb0
                          simp only [Bool.or_eq_true, decide_eq_true_eq] at hb0
                          omega
                        have HCD := Lib.hid hcond
                        have HB0 := Lib.hid hb0
                        clear hcond hb0 hnow
                        go_wp2_with fail
                        refine (trunc_no HP3.out.dk o.n HB0.out).mono ?_
                        rintro e w4 ⟨rfl, hb⟩
                        have HMID := Lib.hid (mid_below HP3.out HLE.out HRB.out HRO3.out hpgb hb)
                        clear hb y0 y1 y2 y3
                        obtain ⟨z0, z1, z2, z3⟩ := HMID.out.cell
                        obtain ⟨A4, c4, B4, e4, hbox, hval⟩ := HMID.out.pa.box
                        have HBOX := Lib.hid hbox
                        have HVAL := Lib.hid hval
                        clear hbox hval
                        go_wp2_with (refine wpList_load_row rfl 63 (.tmp 9) rfl gb rfl 63 _ (0, 0) _ HBOX.out Try.underlying63 rfl rf_size ?_)
                        refine (rtrunc_no _ r o.n w4 HVAL.out HCD.out).mono ?_
                        rintro e w5 ⟨v', rfl, hv, hb⟩
                        obtain ⟨A5, B5, c5, e5, rfl⟩ := rfV_form hv
                        have HBOX5 := Lib.hid ((hb.block gb (lt_of_block HBOX.out)).trans HBOX.out)
                        have HM5 := Lib.hid (mid_store HMID.out hb hv)
                        have HSZ := Lib.hid hb
                        clear hb hv HBOX HVAL z0 z1 z2 z3
                        go_wp2_with (refine wpList_store_row rfl 63 (.tmp 9) (.tmp 130) rfl gb (rfC (r) A5 B5 c5 e5) rfl rfl 63 _ HBOX5.out rf_size rfl (rfC_one _ _ _ _ _) ?_)
                        go_meet
                        case rel =>
                          exact ⟨g', nb', ob', _, _, 2, none, none, 0, 0, [], rfl, rfl, rfl, rfl, rfl, Rd.nil, Rd.nil, by simp, HM5.out.1.pa.ps (HP3.out.dr.mono (by omega)), HM5.out.1.lent, HM5.out.1.rdb⟩
                      · obtain ⟨a, ha⟩ : ∃ a : Nat, o.n = a := ⟨o.n.toNat, by unfold truncB at hb0; simp only [Bool.or_eq_true, decide_eq_true_eq] at hb0; omega⟩
                        have hamn : a ≤ d.now.length := by unfold truncB at hb0; simp only [Bool.or_eq_true, decide_eq_true_eq] at hb0; omega
                        have hamr : a ≤ r.now.length := by rw [hnow]; exact hamn
                        rw [ha] at y1
                        have HA := Lib.hid ha
                        clear hb0 hnow ha
                        go_wp2_with fail
                        refine (trunc_any HP3.out.dk a hamn).mono ?_
                        rintro e w4 ⟨x, rfl, ha, hx⟩
                        obtain ⟨nb4, ob4, hmid⟩ := mid_after HP3.out HLE.out HRB.out HRO3.out hpgb hpg ha
                        rw [HA.out] at hmid
                        have HMID := Lib.hid hmid
                        have HX := Lib.hid hx
                        clear ha hmid hx y0 y1 y2 y3
                        obtain ⟨z0, z1, z2, z3⟩ := HMID.out.cell
                        obtain ⟨A4, c4, B4, e4, hbox, hval⟩ := HMID.out.pa.box
                        have HBOX := Lib.hid hbox
                        have HVAL := Lib.hid hval
                        clear hbox hval
                        go_wp2_with (refine wpList_load_row rfl 63 (.tmp 9) rfl gb rfl 63 _ (0, 0) _ HBOX.out Try.underlying63 rfl rf_size ?_)
                        refine (rtrunc_any _ r a w4 HVAL.out hamr (RfS.pre_now r)).mono ?_
                        rintro e w5 ⟨v', rfl, hv, hb⟩
                        obtain ⟨A5, B5, c5, e5, rfl⟩ := rfV_form hv
                        have HBOX5 := Lib.hid ((hb.block gb (lt_of_block HBOX.out)).trans HBOX.out)
                        have HM5 := Lib.hid (mid_store HMID.out hb hv)
                        have HSZ := Lib.hid hb
                        clear hb hv HBOX HVAL z0 z1 z2 z3
                        go_wp2_with (refine wpList_store_row rfl 63 (.tmp 9) (.tmp 130) rfl gb (rfC ((r.trunc a).2) A5 B5 c5 e5) rfl rfl 63 _ HBOX5.out rf_size rfl (rfC_one _ _ _ _ _) ?_)
                        go_meet
                        case rel =>
                          have hdr := HP3.out.dr.trunc (by omega) a hamn
                          refine ⟨g', nb4, ob4, _, _, x, none, none, 0, 0, [], rfl, rfl, ?_, rfl, rfl, Rd.nil, Rd.nil, by simp, HM5.out.1.pa.ps hdr.2, HM5.out.1.lent, HM5.out.1.rdb⟩
                          rw [hdr.1, ← HX.out]
                  · have t4 : (o.k == 4) = false := by rw [beq_eq_false_iff_ne]; exact e4
                    clear e4
                    by_cases e5 : o.k = 5
                    · have t5 : (o.k == 5) = true := by rw [e5]; rfl
                      clear e5
                      as_aux_lemma =>
                        by_cases hb0 : o.n < 0
                        · have HB0 := Lib.hid hb0
                          clear hb0
                          go_wp2_with fail
                          refine (arm_no HP3.out.dk o.n HB0.out).mono ?_
                          rintro e w4 ⟨rfl, rfl⟩
                          have HMID := Lib.hid (mid_below HP3.out HLE.out HRB.out HRO3.out hpgb (Below.refl _ _))
                          clear y0 y1 y2 y3
                          obtain ⟨z0, z1, z2, z3⟩ := HMID.out.cell
                          obtain ⟨A4, c4, B4, e4, hbox, hval⟩ := HMID.out.pa.box
                          have HBOX := Lib.hid hbox
                          have HVAL := Lib.hid hval
                          clear hbox hval
                          go_wp2_with (refine wpList_load_row rfl 63 (.tmp 9) rfl gb rfl 63 _ (0, 0) _ HBOX.out Try.underlying63 rfl rf_size ?_)
                          refine (rarm_no _ r o.n w3 HVAL.out HB0.out).mono ?_
                          rintro e w5 ⟨v', rfl, hv, hb⟩
                          obtain ⟨A5, B5, c5, e5, rfl⟩ := rfV_form hv
                          have HBOX5 := Lib.hid ((hb.block gb (lt_of_block HBOX.out)).trans HBOX.out)
                          have HM5 := Lib.hid (mid_store HMID.out hb hv)
                          have HSZ := Lib.hid hb
                          clear hb hv HBOX HVAL z0 z1 z2 z3
                          go_wp2_with (refine wpList_store_row rfl 63 (.tmp 9) (.tmp 143) rfl gb (rfC (r) A5 B5 c5 e5) rfl rfl 63 _ HBOX5.out rf_size rfl (rfC_one _ _ _ _ _) ?_)
                          go_meet
                          case rel =>
                            exact ⟨g', nb', ob', _, _, 2, none, none, 0, 0, [], rfl, rfl, rfl, rfl, rfl, Rd.nil, Rd.nil, by simp, HM5.out.1.pa.ps (HP3.out.dr.mono (by omega)), HM5.out.1.lent, HM5.out.1.rdb⟩
                        · obtain ⟨a, ha⟩ : ∃ a : Nat, o.n = a := ⟨o.n.toNat, by omega⟩
                          have hab : (a : Int) ≤ 9223372036854775807 := by have := (i64_of_wf q1).2; omega
                          rw [ha] at y1
                          have HA := Lib.hid ha
                          clear hb0 ha
                          go_wp2_with fail
                          refine (arm_any HP3.out.dk (a : Int) (by omega) hab).mono ?_
                          rintro e w4 ⟨rfl, hd4, hg4⟩
                          obtain ⟨nb4, ob4, hmid⟩ := mid_after HP3.out HLE.out HRB.out HRO3.out hpgb hpg (hd4.after hg4)
                          rw [HA.out] at hmid
                          have HMID := Lib.hid hmid
                          clear hd4 hg4 hmid y0 y1 y2 y3
                          obtain ⟨z0, z1, z2, z3⟩ := HMID.out.cell
                          obtain ⟨A4, c4, B4, e4, hbox, hval⟩ := HMID.out.pa.box
                          have HBOX := Lib.hid hbox
                          have HVAL := Lib.hid hval
                          clear hbox hval
                          go_wp2_with (refine wpList_load_row rfl 63 (.tmp 9) rfl gb rfl 63 _ (0, 0) _ HBOX.out Try.underlying63 rfl rf_size ?_)
                          refine (rarm_any _ r a w4 HVAL.out).mono ?_
                          rintro e w5 ⟨v', rfl, hv, hb⟩
                          obtain ⟨A5, B5, c5, e5, rfl⟩ := rfV_form hv
                          have HBOX5 := Lib.hid ((hb.block gb (lt_of_block HBOX.out)).trans HBOX.out)
                          have HM5 := Lib.hid (mid_store HMID.out hb hv)
                          have HSZ := Lib.hid hb
                          clear hb hv HBOX HVAL z0 z1 z2 z3
                          go_wp2_with (refine wpList_store_row rfl 63 (.tmp 9) (.tmp 143) rfl gb (rfC (r.arm a) A5 B5 c5 e5) rfl rfl 63 _ HBOX5.out rf_size rfl (rfC_one _ _ _ _ _) ?_)
                          go_meet
                          case rel =>
                            have hdr := (HP3.out.dr.arm a).mono (show i ≤ i + 1 by omega)
                            exact ⟨g', nb4, ob4, _, _, 0, none, none, 0, 0, [], rfl, rfl, rfl, rfl, rfl, Rd.nil, Rd.nil, by simp, HM5.out.1.pa.ps hdr, HM5.out.1.lent, HM5.out.1.rdb⟩
                    · have t5 : (o.k == 5) = false := by rw [beq_eq_false_iff_ne]; exact e5
                      clear e5
                      by_cases e6 : o.k = 6
                      · have t6 : (o.k == 6) = true := by rw [e6]; rfl
                        clear e6
                        as_aux_lemma =>
                          by_cases hb0 : failB o.n o.e = true
                          · have HB0 := Lib.hid hb0
                            clear hb0
                            go_wp2_with fail
                            refine (fail_no HP3.out.dk o.n o.e HB0.out).mono ?_
                            rintro e w4 ⟨rfl, rfl⟩
                            have HMID := Lib.hid (mid_below HP3.out HLE.out HRB.out HRO3.out hpgb (Below.refl _ _))
                            clear y0 y1 y2 y3
                            obtain ⟨z0, z1, z2, z3⟩ := HMID.out.cell
                            obtain ⟨A4, c4, B4, e4, hbox, hval⟩ := HMID.out.pa.box
                            have HBOX := Lib.hid hbox
                            have HVAL := Lib.hid hval
                            clear hbox hval
                            go_wp2_with (refine wpList_load_row rfl 63 (.tmp 9) rfl gb rfl 63 _ (0, 0) _ HBOX.out Try.underlying63 rfl rf_size ?_)
                            refine (rfail_no _ r o.n o.e w3 HVAL.out HB0.out).mono ?_
                            rintro e w5 ⟨v', rfl, hv, hb⟩
                            obtain ⟨A5, B5, c5, e5, rfl⟩ := rfV_form hv
                            have HBOX5 := Lib.hid ((hb.block gb (lt_of_block HBOX.out)).trans HBOX.out)
                            have HM5 := Lib.hid (mid_store HMID.out hb hv)
                            have HSZ := Lib.hid hb
                            clear hb hv HBOX HVAL z0 z1 z2 z3
                            go_wp2_with (refine wpList_store_row rfl 63 (.tmp 9) (.tmp 160) rfl gb (rfC (r) A5 B5 c5 e5) rfl rfl 63 _ HBOX5.out rf_size rfl (rfC_one _ _ _ _ _) ?_)
                            go_meet
                            case rel =>
                              exact ⟨g', nb', ob', _, _, 2, none, none, 0, 0, [], rfl, rfl, rfl, rfl, rfl, Rd.nil, Rd.nil, by simp, HM5.out.1.pa.ps (HP3.out.dr.mono (by omega)), HM5.out.1.lent, HM5.out.1.rdb⟩
                          · have hb1 : failB o.n o.e = false := by simpa using hb0
                            have hb2 := hb1
                            unfold failB at hb2
                            rw [Bool.or_eq_false_iff, decide_eq_false_iff_not] at hb2
                            obtain ⟨a, ha⟩ : ∃ a : Nat, o.n = a := ⟨o.n.toNat, by omega⟩
                            have ha1 : 1 ≤ a := by omega
                            have he0 : o.e ≠ 0 := by
                              intro e
                              rw [e] at hb2
                              simp at hb2
                            have hab : a ≤ 9223372036854775807 := by have := (i64_of_wf q1).2; omega
                            rw [ha] at y1 hb1
                            have HA := Lib.hid ha
                            have HB1 := Lib.hid hb1
                            have HE0 := Lib.hid he0
                            clear hb0 ha hb1 hb2 he0
                            go_wp2_with fail
                            refine (fail_any HP3.out.dk a o.e HB1.out hab).mono ?_
                            rintro e w4 ⟨rfl, hd4, hg4⟩
                            obtain ⟨nb4, ob4, hmid⟩ := mid_after HP3.out HLE.out HRB.out HRO3.out hpgb hpg (hd4.after hg4)
                            rw [HA.out] at hmid
                            have HMID := Lib.hid hmid
                            clear hd4 hg4 hmid y0 y1 y2 y3
                            obtain ⟨z0, z1, z2, z3⟩ := HMID.out.cell
                            obtain ⟨A4, c4, B4, e4, hbox, hval⟩ := HMID.out.pa.box
                            have HBOX := Lib.hid hbox
                            have HVAL := Lib.hid hval
                            clear hbox hval
                            go_wp2_with (refine wpList_load_row rfl 63 (.tmp 9) rfl gb rfl 63 _ (0, 0) _ HBOX.out Try.underlying63 rfl rf_size ?_)
                            refine (rfail_any _ r a o.e w4 HVAL.out HB1.out).mono ?_
                            rintro e w5 ⟨v', rfl, hv, hb⟩
                            obtain ⟨A5, B5, c5, e5, rfl⟩ := rfV_form hv
                            have HBOX5 := Lib.hid ((hb.block gb (lt_of_block HBOX.out)).trans HBOX.out)
                            have HM5 := Lib.hid (mid_store HMID.out hb hv)
                            have HSZ := Lib.hid hb
                            clear hb hv HBOX HVAL z0 z1 z2 z3
                            go_wp2_with (refine wpList_store_row rfl 63 (.tmp 9) (.tmp 160) rfl gb (rfC (r.fail a o.e) A5 B5 c5 e5) rfl rfl 63 _ HBOX5.out rf_size rfl (rfC_one _ _ _ _ _) ?_)
                            go_meet
                            case rel =>
                              have hdr := (HP3.out.dr.fail a ha1 o.e HE0.out).mono (show i ≤ i + 1 by omega)
                              exact ⟨g', nb4, ob4, _, _, 0, none, none, 0, 0, [], rfl, rfl, rfl, rfl, rfl, Rd.nil, Rd.nil, by simp, HM5.out.1.pa.ps hdr, HM5.out.1.lent, HM5.out.1.rdb⟩
                      · have t6 : (o.k == 6) = false := by rw [beq_eq_false_iff_ne]; exact e6
                        clear e6
                        by_cases e7 : o.k = 7
                        · have t7 : (o.k == 7) = true := by rw [e7]; rfl
                          clear e7
                          as_aux_lemma =>
                            go_wp2_with fail
                            refine (pl_crash HP3.out.dk HP3.out.dr.fl o.n (some ⟨gl, 0, none⟩) n cl bb HBL.out HLE.out.app (by have := HBL.out; omega)).mono ?_
                            rintro e w4 ⟨rfl, ha⟩
                            obtain ⟨nb4, ob4, hmid⟩ := mid_after HP3.out HLE.out HRB.out HRO3.out hpgb hpg ha
                            have HMID := Lib.hid hmid
                            clear ha hmid y0 y1 y2 y3
                            obtain ⟨z0, z1, z2, z3⟩ := HMID.out.cell
                            obtain ⟨A4, c4, B4, e4, hbox, hval⟩ := HMID.out.pa.box
                            have HBOX := Lib.hid hbox
                            have HVAL := Lib.hid hval
                            clear hbox hval
                            go_wp2_with (refine wpList_load_row rfl 63 (.tmp 9) rfl gb rfl 63 _ (0, 0) _ HBOX.out Try.underlying63 rfl rf_size ?_)
                            refine (rcrash_any _ r o.n Bo n co bb w4 HVAL.out (by rw [HP3.out.dr.floor, HP3.out.dr.now]; exact HP3.out.dr.fl) HBL.out HMID.out.rdb (by have := HBL.out; omega) (i64_of_wf q1).1 (i64_of_wf q1).2).mono ?_
                            rintro e w5 ⟨v', rfl, hv, hb⟩
                            obtain ⟨A5, B5, c5, e5, rfl⟩ := rfV_form hv
                            have HBOX5 := Lib.hid ((hb.block gb (lt_of_block HBOX.out)).trans HBOX.out)
                            have HM5 := Lib.hid (mid_store HMID.out hb hv)
                            have HSZ := Lib.hid hb
                            clear hb hv HBOX HVAL z0 z1 z2 z3
                            go_wp2_with (refine wpList_store_row rfl 63 (.tmp 9) (.tmp 175) rfl gb (rfC (r.crash (rcLeft r o.n bb)) A5 B5 c5 e5) rfl rfl 63 _ HBOX5.out rf_size rfl (rfC_one _ _ _ _ _) ?_)
                            go_meet
                            case rel =>
                              exact ⟨g', nb4, ob4, _, _, 0, none, none, 0, 0, [], rfl, rfl, rfl, rfl, rfl, Rd.nil, Rd.nil, by simp, HM5.out.1.pa.ps (HP3.out.dr.crash o.n bb), HM5.out.1.lent, HM5.out.1.rdb⟩
                        · have t7 : (o.k == 7) = false := by rw [beq_eq_false_iff_ne]; exact e7
                          clear e7
                          by_cases e8 : o.k = 8
                          · have t8 : (o.k == 8) = true := by rw [e8]; rfl
                            clear e8
                            as_aux_lemma =>
                              go_wp2_with fail
                              refine (copy_any HP3.out.dk).mono ?_
                              rintro e w4 ⟨g4, nb4, ob4, rfl, hd4, hg4, hn4, ho4, hb4⟩
                              have hgl := HP3.out.dk.lt
                              have hb4' := hb4.alloc hb4.size (.cells #[.int .u8 111, .int .u8 116, .int .u8 104, .int .u8 101, .int .u8 114] 5 (5, 5 + 1))
                              have hd4' := hd4.alloc (.cells #[.int .u8 111, .int .u8 116, .int .u8 104, .int .u8 101, .int .u8 114] 5 (5, 5 + 1))
                              have HG4 := Lib.hid (show w3.heap.size ≤ g4 ∧ (∀ k, nb4 = some k → w3.heap.size ≤ k) ∧ (∀ k, ob4 = some k → w3.heap.size ≤ k) from ⟨hg4, hn4, ho4⟩)
                              have HD4 := Lib.hid hd4'
                              have HB4 := Lib.hid hb4'
                              clear hd4 hg4 hn4 ho4 hb4 hb4' hd4' y0 y1 y2 y3 kc
                              go_wp2_with (first
                                | (refine wpList_buildFlat rfl 32 5 5 _ rfl .u8 [111, 116, 104, 101, 114] Try.underlying32 (by kernel_rfl) (by kernel_rfl) rfl (by decide) (by decide) rfl ?_)
                                | (refine wpList_conv_const rfl (.tmp 181) rfl #[.int .u8 111, .int .u8 116, .int .u8 104, .int .u8 101, .int .u8 114] 5 5 rfl ?_))
                              refine (append_any (HP3.out.dk.below HB4.out) (some ⟨w4.heap.size, 0, none⟩) 5 [111, 116, 104, 101, 114] (by simp) (constW_rd w4 5 [111, 116, 104, 101, 114] (by simp) _)).mono ?_
                              rintro e w5 ⟨x, rfl, ⟨_, _, _, _, _, hg5⟩, hx⟩
                              have HG5 := Lib.hid hg5
                              clear hg5 hx
                              go_wp2_with fail
                              go_meet
                              case rel =>
                                have hdo := HP3.out.dk.below HB4.out
                                have hd5 : Dk w5 g4 nb4 ob4 d := HD4.out.grown HG5.out (fun e => by injection e with e; have := HG4.out.1; omega) (fun k e e2 => by injection e2 with e2; have := HG4.out.2.1 k e; omega) (fun k e e2 => by injection e2 with e2; have := HG4.out.2.2 k e; omega)
                                obtain ⟨A0, c0, B0, e0, k1, k2⟩ := HP3.out.box
                                have hle := HP3.out.le
                                have hgb := lt_of_block k1
                                have k1' := (HG5.out.block gb (Nat.lt_of_lt_of_le hgb HB4.out.size) (by intro e; injection e with e; exact HP3.out.gg e)).trans ((HB4.out.block gb hgb).trans k1)
                                refine ⟨g4, nb4, ob4, d, r, 0, none, none, 0, 0, [], rfl, rfl, rfl, rfl, rfl, Rd.nil, Rd.nil, by simp, ⟨hd5, Nat.le_trans hle HG4.out.1, fun k e => Nat.le_trans hle (HG4.out.2.1 k e), fun k e => Nat.le_trans hle (HG4.out.2.2 k e), HP3.out.bb, fun e => by have := HG4.out.1; omega, fun e => by have := HG4.out.2.1 _ e; omega, fun e => by have := HG4.out.2.2 _ e; omega, ⟨A0, c0, B0, e0, k1', (k2.below HB4.out).dk hdo HG5.out⟩, HP3.out.dr.mono (by omega), below_of_grown (HP3.out.below.trans (HB4.out.mono hle)) HG5.out (Nat.le_trans hle HB4.out.size) HP3.out.bg, HP3.out.sz⟩, (HLE.out.below HB4.out).dk hdo HG5.out, hdo.rd (HRB.out.below HB4.out) HG5.out⟩
                          · have t8 : (o.k == 8) = false := by rw [beq_eq_false_iff_ne]; exact e8
                            clear e8
                            as_aux_lemma =>
                              go_wp2_with fail
                              go_meet
                              case rel =>
                                exact ⟨g', nb', ob', d, r, 0, none, none, 0, 0, [], rfl, rfl, rfl, rfl, rfl, Rd.nil, Rd.nil, by simp, HP3.out.pa.ps (HP3.out.dr.mono (by omega)), HLE.out, HRB.out⟩
        · have hcase : ((i : Int) < L.length ∧ ¬ (i : Int) < 60) ∨ ¬ (i : Int) < L.length := by omega
          rcases hcase with ⟨k1, k2⟩ | k1
          all_goals
            go_wp2_with fail
            refine (awake_any X).mono ?_
            rintro e w3 ⟨rfl, hb⟩
            have HB := Lib.hid (HP.out.below.trans (hb.mono HP.out.le))
            clear hb
            go_wp2_with fail
            go_ret
            exact ⟨rfl, HB.out⟩
end Go.Proofs.Ytkmjbfednmidbaa
