/-
  THE WALK OF parse.Parse, second part: a text that has tokens. Conditions: the text's size.
-/
import Derived.Test.YthmpagehmfillaaQ22
import Derived.Test.YthmpagehmfillaaQ27
namespace Go.Proofs.Ythmpagehmfillaa
open Go.RowKit
set_option linter.unusedSimpArgs false
set_option linter.unusedVariables false
theorem To.tks {w : World} {base : Nat} {v : Value} {l : List Tok} (h : To w base v l) (hl : l ≠ []) : ∃ g c, v = .slice (some ⟨g, 0, none⟩) l.length c ∧ l.length ≤ c ∧ c ≤ maxLen ∧ g < w.heap.size ∧ base ≤ g ∧ TksAt w g 0 l := by
  obtain ⟨g, c, e, h1, h2, h3, h4⟩ := h.form hl
  have hc : c ≤ maxLen := by
    obtain ⟨-, ⟨e0, hn⟩ | ⟨g', cap, cur, e', -, -, -, hm, -⟩⟩ := h
    · rw [e0] at e; cases e
    · rw [e'] at e; injection e with e1 e2 e3; rw [← e3]; exact hm
  exact ⟨g, c, e, h1, hc, h3, h2, fun i hi => by rw [Nat.zero_add]; exact h4 i hi⟩
section
variable {w : World} {g : Nat} {t : TypeId} {h m ph pm : Int} {vp vc vq : Value} {has : Bool}
theorem cfg_setHM (h' m' : Int) (hr : w.rowIs g t 8 (cfgF h m ph pm vp vc vq has)) : ((w.setCell ⟨g, 0, none⟩ (.int .i64 h')).setCell ⟨g, 1, none⟩ (.int .i64 m')).rowIs g t 8 (cfgF h' m' ph pm vp vc vq has) :=
  ((hr.set 0 _).set 1 _).congr fun i hi => by
    match i, hi with
    | 0, _ => rfl
    | 1, _ => rfl
    | 2, _ => rfl
    | 3, _ => rfl
    | 4, _ => rfl
    | 5, _ => rfl
    | 6, _ => rfl
    | 7, _ => rfl
theorem cfg_setPQ (h' m' : Int) (hr : w.rowIs g t 8 (cfgF h m ph pm vp vc vq has)) : ((w.setCell ⟨g, 2, none⟩ (.int .i64 h')).setCell ⟨g, 3, none⟩ (.int .i64 m')).rowIs g t 8 (cfgF h m h' m' vp vc vq has) :=
  ((hr.set 2 _).set 3 _).congr fun i hi => by
    match i, hi with
    | 0, _ => rfl
    | 1, _ => rfl
    | 2, _ => rfl
    | 3, _ => rfl
    | 4, _ => rfl
    | 5, _ => rfl
    | 6, _ => rfl
    | 7, _ => rfl
theorem cfg_setP (u : Value) (hr : w.rowIs g t 8 (cfgF h m ph pm vp vc vq has)) : (w.setCell ⟨g, 4, none⟩ u).rowIs g t 8 (cfgF h m ph pm u vc vq has) :=
  (hr.set 4 _).congr fun i hi => by
    match i, hi with
    | 0, _ => rfl
    | 1, _ => rfl
    | 2, _ => rfl
    | 3, _ => rfl
    | 4, _ => rfl
    | 5, _ => rfl
    | 6, _ => rfl
    | 7, _ => rfl
theorem cfg_setC (u : Value) (hr : w.rowIs g t 8 (cfgF h m ph pm vp vc vq has)) : (w.setCell ⟨g, 5, none⟩ u).rowIs g t 8 (cfgF h m ph pm vp u vq has) :=
  (hr.set 5 _).congr fun i hi => by
    match i, hi with
    | 0, _ => rfl
    | 1, _ => rfl
    | 2, _ => rfl
    | 3, _ => rfl
    | 4, _ => rfl
    | 5, _ => rfl
    | 6, _ => rfl
    | 7, _ => rfl
theorem cfg_setQ (u : Value) (hr : w.rowIs g t 8 (cfgF h m ph pm vp vc vq has)) : (w.setCell ⟨g, 6, none⟩ u).rowIs g t 8 (cfgF h m ph pm vp vc u has) :=
  (hr.set 6 _).congr fun i hi => by
    match i, hi with
    | 0, _ => rfl
    | 1, _ => rfl
    | 2, _ => rfl
    | 3, _ => rfl
    | 4, _ => rfl
    | 5, _ => rfl
    | 6, _ => rfl
    | 7, _ => rfl
theorem cfg_setHas (u : Bool) (hr : w.rowIs g t 8 (cfgF h m ph pm vp vc vq has)) : (w.setCell ⟨g, 7, none⟩ (.bool u)).rowIs g t 8 (cfgF h m ph pm vp vc vq u) :=
  (hr.set 7 _).congr fun i hi => by
    match i, hi with
    | 0, _ => rfl
    | 1, _ => rfl
    | 2, _ => rfl
    | 3, _ => rfl
    | 4, _ => rfl
    | 5, _ => rfl
    | 6, _ => rfl
    | 7, _ => rfl
end
/-- What parsing a text comes to. -/
def ParPost (r : Res CfgS) (w : World) (e : Ending) (w' : World) : Prop :=
    (match r with
      | .error x => e = .returned (.tuple #[.agg (cfgA 0 0 0 0 (.slice none 0 0) (.slice none 0 0) (.slice none 0 0) false), .agg #[.int .i64 x.1, .int .i64 x.2]])
      | .ok c => ∃ vp vc vq, e = .returned (.tuple #[.agg (cfgA c.h c.m c.ph c.pm vp vc vq c.has), .agg #[.int .i64 0, .int .i64 0]]) ∧ PrT w' (fun k => w.heap.size ≤ k) vp c.parts ∧ Tr w' (fun k => w.heap.size ≤ k) vc c.code ∧ Tr w' (fun k => w.heap.size ≤ k) vq c.post) ∧ Below w.heap.size w w'
/-- What the parts' loop keeps. -/
def CfR (l1 : List Tok) (b1 : Option Flt) (B gp g2 g3 g7 many : Nat) (hh hm : Int) (w wr : World) : Prop :=
  ∃ l b ps vp, PS B wr gp l b many ∧ wr.rowIs g7 62 8 (cfgF hh hm 0 0 vp (.slice none 0 0) (.slice none 0 0) false) ∧ wr.rowIs g2 62 8 (cfgF 0 0 0 0 (.slice none 0 0) (.slice none 0 0) (.slice none 0 0) false) ∧ wr.rowIs g3 29 2 (fltF 0 0) ∧ Below w.heap.size w wr ∧
    PrL wr (g7 + 1) vp ps ∧ (b = none → ps.length + l.length ≤ 20000) ∧ Sel b1 b (LoopQ (loopP (l1.length + 1) l1 []) l b ps)
theorem fin_err {l l' : List Tok} {x : CfgS} {e : Flt} (h : Rel parseR l none x l' (some e)) : parseL l = .error e := by
  rw [parseL_R]
  unfold Rel at h
  simp only at h
  rcases hq : parseR l with e' | ⟨y, z⟩
  · rw [hq] at h; simp only at h; injection h with h; rw [h]
  · rw [hq] at h; cases h.1
theorem fin_ok {l l' : List Tok} {x : CfgS} (h : Rel parseR l none x l' none) : parseL l = .ok x := by
  rw [parseL_R]
  unfold Rel at h
  simp only at h
  rcases hq : parseR l with e' | ⟨y, z⟩
  · rw [hq] at h; cases h
  · rw [hq] at h; simp only; rw [h.2.1]
theorem ppart_all {w : World} {B gp : Nat} {l : List Tok} {many : Nat} (h : PS B w gp l none many) : Calls Try.prog 41 #[.pointer (some ⟨gp, 0, none⟩)] w fun e w' => ∃ x l' b', e = .returned (.agg (ptA x)) ∧ PS B w' gp l' b' many ∧ Rel part l none x l' b' ∧ w.grownBy w' (some gp) := by
  cases hlk : look partL (hd l).s with
  | none => exact ppart_no h hlk
  | some k => exact ppart_yes h hlk
section
variable {w : World} {s : ByteArray}
set_option maxRecDepth 100000 in
set_option maxHeartbeats 40000000 in
theorem parse_good (hs : s.size ≤ 16384) {l : List Tok} (hlex : lexN (strB s) = .inl l) (htl : TL l) (hlen : l.length ≤ 20000) : Calls Try.prog 16 #[.string s] w fun e w' =>
    ParPost (parseL l) w e w' := by
  have hT := fun W => tokens_any s W hs
  rw [hlex] at hT
  go_enter Try.func16, Try.ntmps16
  go_wp2_with fail
  have hb1 : Below w.heap.size w (w.alloc (.cells #[.int .i64 0, .int .i64 0, .int .i64 0, .int .i64 0, .slice none 0 0, .slice none 0 0, .slice none 0 0, .bool false] 62)) := (Below.refl _ _).alloc (Nat.le_refl _) _
  have hr2 := cfg_row (h := 0) (m := 0) (ph := 0) (pm := 0) (vp := .slice none 0 0) (vc := .slice none 0 0) (vq := .slice none 0 0) (has := false) (heap_alloc_new w (.cells #[.int .i64 0, .int .i64 0, .int .i64 0, .int .i64 0, .slice none 0 0, .slice none 0 0, .slice none 0 0, .bool false] 62))
  have e1 : (w.alloc (.cells #[.int .i64 0, .int .i64 0, .int .i64 0, .int .i64 0, .slice none 0 0, .slice none 0 0, .slice none 0 0, .bool false] 62)).heap.size = w.heap.size + 1 := World.size_alloc _ _
  generalize w.alloc (.cells #[.int .i64 0, .int .i64 0, .int .i64 0, .int .i64 0, .slice none 0 0, .slice none 0 0, .slice none 0 0, .bool false] 62) = W1 at *
  have hb2 : Below W1.heap.size W1 (W1.alloc (.cells #[.int .i64 0, .int .i64 0] 29)) := (Below.refl _ _).alloc (Nat.le_refl _) _
  have hr22 := below_row hb2 hr2 hr2.lt
  have hr3 := flt_row (heap_alloc_new W1 (.cells #[.int .i64 0, .int .i64 0] 29))
  have hb3 := hb1.trans (hb2.mono hb1.size)
  rw [show w.heap.size + 1 = W1.heap.size by omega]
  generalize W1.alloc (.cells #[.int .i64 0, .int .i64 0] 29) = W2 at *
  generalize W1.heap.size = g3 at *
  obtain ⟨g2, hg2e⟩ : ∃ g2, g2 = w.heap.size := ⟨_, rfl⟩
  rw [← hg2e] at hr22 e1 ⊢
  have HE := Lib.hid (And.intro hg2e e1)
  have HR2 := Lib.hid hr22
  have HR3 := Lib.hid hr3
  have HB3 := Lib.hid hb3
  have HLX := Lib.hid (And.intro htl hlen)
  clear hr22 hr3 hb3 hb1 hb2 hr2 e1 hg2e W1 hlex htl hlen
  refine (hT W2).mono ?_
  rintro e W3 ⟨⟨v, rfl, hto⟩, hb⟩
  obtain ⟨gt, ct, rfl, hlc, hcm, hgt, hgb, htk⟩ := hto.tks HLX.out.1.ne
  have HTK := Lib.hid htk
  clear hto htk
  go_wp2_with fail
  have htk := HTK.out
  -- the fault
  have hb4 : Below W3.heap.size W3 (W3.alloc (.cells #[.int .i64 0, .int .i64 0] 29)) := (Below.refl _ _).alloc (Nat.le_refl _) _
  have htk4 := htk.keep (hb4.block gt hgt)
  have e4 : (W3.alloc (.cells #[.int .i64 0, .int .i64 0] 29)).heap.size = W3.heap.size + 1 := World.size_alloc _ _
  have hbA := hb.trans (hb4.mono hb.size)
  have hz1 := hb.size
  have hlt2 := HR2.out.lt
  generalize W3.alloc (.cells #[.int .i64 0, .int .i64 0] 29) = W4 at *
  -- the parser
  have hb5 : Below W4.heap.size W4 (W4.alloc (.cells #[.slice (some ⟨gt, 0, none⟩) l.length ct, .int .i64 0, .int .i64 0, .int .i64 0] 104)) := (Below.refl _ _).alloc (Nat.le_refl _) _
  have e5 : (W4.alloc (.cells #[.slice (some ⟨gt, 0, none⟩) l.length ct, .int .i64 0, .int .i64 0, .int .i64 0] 104)).heap.size = W4.heap.size + 1 := World.size_alloc _ _
  have hgt4 : gt < W4.heap.size := by omega
  have hps : PS (W4.heap.size + 1) (W4.alloc (.cells #[.slice (some ⟨gt, 0, none⟩) l.length ct, .int .i64 0, .int .i64 0, .int .i64 0] 104)) W4.heap.size l none 0 :=
    ⟨⟨gt, 0, ct, ⟨_, heap_alloc_new _ _, rfl, fun i hi => by
      match i, hi with
      | 0, _ => rfl
      | 1, _ => rfl
      | 2, _ => rfl
      | 3, _ => rfl⟩, by omega, by omega, hlc, hcm, htk4.keep (hb5.block gt hgt4)⟩, HLX.out.1, (fun e h => by cases h), by omega, HLX.out.2, by omega, by omega⟩
  have hbB := hbA.trans (hb5.mono hbA.size)
  generalize W4.alloc (.cells #[.slice (some ⟨gt, 0, none⟩) l.length ct, .int .i64 0, .int .i64 0, .int .i64 0] 104) = W5 at *
  -- the config
  have hb6 : Below W5.heap.size W5 (W5.alloc (.cells #[.int .i64 0, .int .i64 0, .int .i64 0, .int .i64 0, .slice none 0 0, .slice none 0 0, .slice none 0 0, .bool false] 62)) := (Below.refl _ _).alloc (Nat.le_refl _) _
  have hr7 := cfg_row (h := 0) (m := 0) (ph := 0) (pm := 0) (vp := .slice none 0 0) (vc := .slice none 0 0) (vq := .slice none 0 0) (has := false) (heap_alloc_new W5 (.cells #[.int .i64 0, .int .i64 0, .int .i64 0, .int .i64 0, .slice none 0 0, .slice none 0 0, .slice none 0 0, .bool false] 62))
  have hps6 := hps.below hb6
  have hbC := hbB.trans (hb6.mono hbB.size)
  have hsz7 : W5.heap.size < (W5.alloc (.cells #[.int .i64 0, .int .i64 0, .int .i64 0, .int .i64 0, .slice none 0 0, .slice none 0 0, .slice none 0 0, .bool false] 62)).heap.size := by rw [World.size_alloc]; omega
  generalize W5.alloc (.cells #[.int .i64 0, .int .i64 0, .int .i64 0, .int .i64 0, .slice none 0 0, .slice none 0 0, .slice none 0 0, .bool false] 62) = W6 at *
  have R2 := Lib.hid (below_row hbC HR2.out HR2.out.lt)
  have R3 := Lib.hid (below_row hbC HR3.out HR3.out.lt)
  have R7 := Lib.hid hr7
  have HP := Lib.hid hps6
  have HB := Lib.hid (HB3.out.trans (hbC.mono HB3.out.size))
  have hlt3 := HR3.out.lt
  have NE : Hid (W5.heap.size ≠ W4.heap.size ∧ g2 ≠ W4.heap.size ∧ g3 ≠ W4.heap.size ∧ w.heap.size ≤ W4.heap.size ∧ g2 ≠ W5.heap.size ∧ g3 ≠ W5.heap.size ∧ w.heap.size ≤ W5.heap.size ∧ W4.heap.size + 1 ≤ W5.heap.size ∧ W4.heap.size < W5.heap.size) := by
    have := HE.out
    unfold Hid
    omega
  have HSZ : Hid (W5.heap.size < W6.heap.size) := hsz7
  rw [show W3.heap.size + 1 + 1 = W5.heap.size by omega, show W3.heap.size + 1 = W4.heap.size by omega]
  clear hb4 htk4 e4 hbA hz1 hlt2 hb5 e5 hgt4 hps hbB hb6 hr7 hps6 hbC hsz7 hlt3 HR2 HR3 HB3 hb htk HTK
  generalize W3.heap.size = g5 at *
  generalize W4.heap.size = gp at *
  generalize W5.heap.size = g7 at *
  clear W4 W5 W3
  generalize gp + 1 = B at *
  obtain ⟨bS, lS, mn, hS⟩ : ∃ (bS : Option Flt) (lS : List Tok) (mn : Nat), PS B W6 gp lS bS mn := ⟨_, _, _, HP.out⟩
  have HM := Lib.hid (pmust_any HP.out ⟨#[109, 111, 100, 101, 108]⟩ [109, 111, 100, 101, 108] rfl (by decide) (by decide))
  go_wp2_with fail
  refine HM.out.mono ?_
  rintro e W7 ⟨rfl, l1, b1, hp, hr1, hgn⟩
  have R7' := Lib.hid (grown_row hgn R7.out NE.out.1)
  have R2' := Lib.hid (grown_row hgn R2.out NE.out.2.1)
  have R3' := Lib.hid (grown_row hgn R3.out NE.out.2.2.1)
  have HB' := Lib.hid (below_of_grown HB.out hgn HB.out.size NE.out.2.2.2.1)
  clear HM R7 R2 R3 HB HP
  have R7 := R7'
  have R2 := R2'
  have R3 := R3'
  have HB := HB'
  have HP := Lib.hid hp
  clear R7' R2' R3' HB' hp
  have HR1 := Lib.hid hr1
  clear hr1 hgn
  have HM := Lib.hid (pnum_any HP.out 65535 (by omega))
  go_wp2_with fail
  refine HM.out.mono ?_
  rintro e W8 ⟨hh, l2, b2, hh5, rfl, hp, hr1, hgn⟩
  have R7' := Lib.hid (grown_row hgn R7.out NE.out.1)
  have R2' := Lib.hid (grown_row hgn R2.out NE.out.2.1)
  have R3' := Lib.hid (grown_row hgn R3.out NE.out.2.2.1)
  have HB' := Lib.hid (below_of_grown HB.out hgn HB.out.size NE.out.2.2.2.1)
  clear HM R7 R2 R3 HB HP
  have R7 := R7'
  have R2 := R2'
  have R3 := R3'
  have HB := HB'
  have HP := Lib.hid hp
  clear R7' R2' R3' HB' hp
  have HR2' := Lib.hid hr1
  clear hr1 hgn
  have HM := Lib.hid (pnum_any HP.out 65535 (by omega))
  go_wp2_with fail
  refine HM.out.mono ?_
  rintro e W9 ⟨hm, l3, b3, hm5, rfl, hp, hr1, hgn⟩
  have R7' := Lib.hid (grown_row hgn R7.out NE.out.1)
  have R2' := Lib.hid (grown_row hgn R2.out NE.out.2.1)
  have R3' := Lib.hid (grown_row hgn R3.out NE.out.2.2.1)
  have HB' := Lib.hid (below_of_grown HB.out hgn HB.out.size NE.out.2.2.2.1)
  clear HM R7 R2 R3 HB HP
  have R7 := R7'
  have R2 := R2'
  have R3 := R3'
  have HB := HB'
  have HP := Lib.hid hp
  clear R7' R2' R3' HB' hp
  have HR3' := Lib.hid hr1
  clear hr1 hgn
  have y0 := R7.out.cell (show 0 < 8 by omega)
  have x0 := R7.out.frozen 0
  have y1 := R7.out.cell (show 1 < 8 by omega)
  have x1 := R7.out.frozen 1
  dsimp only [cfgF] at y0 y1
  have hp := (HP.out.off (p := ⟨g7, 0, none⟩) NE.out.2.2.2.2.2.2.2.1 (.int .i64 (hh : Nat))).off (p := ⟨g7, 1, none⟩) NE.out.2.2.2.2.2.2.2.1 (.int .i64 (hm : Nat))
  have R7' := Lib.hid (cfg_setHM (hh : Nat) (hm : Nat) R7.out)
  have R2' := Lib.hid (row_other (row_other R2.out NE.out.2.2.2.2.1 0 (.int .i64 (hh : Nat))) NE.out.2.2.2.2.1 1 (.int .i64 (hm : Nat)))
  have R3' := Lib.hid (row_other (row_other R3.out NE.out.2.2.2.2.2.1 0 (.int .i64 (hh : Nat))) NE.out.2.2.2.2.2.1 1 (.int .i64 (hm : Nat)))
  have HB' := Lib.hid ((HB.out.setCell (p := ⟨g7, 0, none⟩) NE.out.2.2.2.2.2.2.1 (.int .i64 (hh : Nat))).setCell (p := ⟨g7, 1, none⟩) NE.out.2.2.2.2.2.2.1 (.int .i64 (hm : Nat)))
  clear R7 R2 R3 HB HP
  have R7 := R7'
  have R2 := R2'
  have R3 := R3'
  have HB := HB'
  have HP := Lib.hid hp
  clear R7' R2' R3' HB' hp
  have HM := Lib.hid (pmust_any HP.out ⟨#[123]⟩ [123] rfl (by decide) (by decide))
  go_wp2_with fail
  refine HM.out.mono ?_
  rintro e WA ⟨rfl, l4, b4, hp, hr1, hgn⟩
  have R7' := Lib.hid (grown_row hgn R7.out NE.out.1)
  have R2' := Lib.hid (grown_row hgn R2.out NE.out.2.1)
  have R3' := Lib.hid (grown_row hgn R3.out NE.out.2.2.1)
  have HB' := Lib.hid (below_of_grown HB.out hgn HB.out.size NE.out.2.2.2.1)
  clear HM R7 R2 R3 HB HP
  have R7 := R7'
  have R2 := R2'
  have R3 := R3'
  have HB := HB'
  have HP := Lib.hid hp
  clear R7' R2' R3' HB' hp
  have HR4 := Lib.hid hr1
  have hl4 : l4.length ≤ 20000 := HP.out.ll
  have R0 : CfR l4 b4 B gp g2 g3 g7 0 hh hm w WA := ⟨l4, b4, [], _, HP.out, R7.out, R2.out, R3.out, HB.out, PrL.nil _ _, fun _ => by simpa using hl4, by cases b4 <;> rfl⟩
  clear hr1 hgn y0 y1 x0 x1 hl4 HP R7 R2 R3 HB
  go_wp2_with fail
  go_loopw [] (fun wr => CfR l4 b4 B gp g2 g3 g7 0 hh hm w wr) (fun wr => pMeas wr gp)
  case atStart => exact R0
  case round =>
    clear R0
    obtain ⟨lc, bc, ps, vp, hp, r7, r2, r3, hb, hpr, hle, hJ⟩ := hrel
    obtain ⟨A, c, hvp⟩ := hpr.tr.form
    subst hvp
    have HP := Lib.hid hp
    have R7 := Lib.hid r7
    have R2 := Lib.hid r2
    have R3 := Lib.hid r3
    have HB := Lib.hid hb
    have HPR := Lib.hid hpr
    have HJ := Lib.hid hJ
    clear hp r7 r2 r3 hb hpr hJ
    cases bc
    case' some e0 =>
      clear hle
      go_wp2_with fail
      refine (pok_any HP.out).mono ?_
      rintro e w' ⟨rfl, rfl⟩
      have HRP := Lib.hid (parts_end HJ.out (fun e => by cases e))
      clear HJ
    case' none =>
      have HLE := Lib.hid (hle rfl)
      clear hle
      go_wp2_with fail
      refine (pok_any HP.out).mono ?_
      rintro e w' ⟨rfl, rfl⟩
      have HI := Lib.hid (pis_any HP.out ⟨#[125]⟩ [125] rfl (by decide) (by decide))
      go_wp2_with fail
      refine HI.out.mono ?_
      rintro e w' ⟨rfl, rfl⟩
      simp only [Option.isNone_none, Bool.true_and]
      clear HI
      by_cases hs : (hd lc).s = [125]
      case' pos =>
        rw [decide_eq_true hs]
        have HS := Lib.hid hs
        clear hs
        have HRP := Lib.hid (parts_end HJ.out (fun _ => HS.out))
        clear HJ
      case neg =>
        rw [decide_eq_false hs]
        have HS := Lib.hid hs
        clear hs
        have hbd : Below wr.heap.size wr wr.drew := below_drewN' (Below.refl _ _) 1
        have HPD := Lib.hid (HP.out.below hbd)
        have c4 : wr.cell? ⟨g7, 4, none⟩ = some (.slice A ps.length c) := R7.out.cell (show 4 < 8 by omega)
        have HC4 := Lib.hid c4
        have HZ4 : Hid (wr.drew.frozen? ⟨g7, 4, none⟩ = false) := R7.out.frozen 4
        have HLT7 := Lib.hid R7.out.lt
        clear hbd
        go_wp2_with fail
        go_region_law (first
          | (refine step_append_part (.tmp 39) (.tmp 42) rfl rfl _ x _ rfl rfl _ rfl rfl HPR2.out (by have := HLE.out; omega) (by have h1 : wr.heap.size ≤ w2.heap.size := HGN.out.size; have := HLT7.out; omega) ?_; intro v3 w3 hpr3 hg3
             have c43 : w3.cell? ⟨g7, 4, none⟩ = some (.slice A ps.length c) := (World.cell?_of_block (hg3.block g7 (World.block_lt_of_cell? _ _ c4') (fun e => by have := (HPR2.out.lt g7 e.symm).1; omega))).trans c4'
             have z43 : w3.frozen? ⟨g7, 4, none⟩ = false := ((grown_row HGN.out R7.out NE.out.1).of_block (hg3.block g7 (World.block_lt_of_cell? _ _ c4') (fun e => by have := (HPR2.out.lt g7 e.symm).1; omega))).frozen 4
             have HPR3 := Lib.hid hpr3
             have HG3 := Lib.hid hg3
             obtain ⟨A3, c3, e3⟩ := hpr3.tr.form
             subst e3
             clear hpr3 hg3)
          | (go_simp; go_at_call 41; (refine (ppart_all HPD.out).mono ?_); rintro e w2 ⟨x, l', b', rfl, h2, hr2, hgn⟩
             have c4' : w2.cell? ⟨g7, 4, none⟩ = some (.slice A ps.length c) := hgn.cell HC4.out (fun e => by injection e with e; exact NE.out.1 e)
             have c4a : (w2.alloc (.cells #[.int .u8 x.k, .int .i64 x.size, .int .i64 x.a, .int .i64 x.b, .int .i64 x.c, .int .i64 x.rate, .int .i64 x.limit] 69)).cell? ⟨g7, 4, none⟩ = some (.slice A ps.length c) := (World.cell?_of_block (Below.heap_alloc w2 _ g7 (World.block_lt_of_cell? _ _ c4'))).trans c4'
             have HGN := Lib.hid hgn
             have H2 := Lib.hid h2
             have HR2x := Lib.hid hr2
             have HPR2 := Lib.hid ((HPR.out.below (below_drewN' (Below.refl _ _) 1)).kept hgn (fun k e => by injection e with e; have := NE.out; omega))
             clear h2 hr2 hgn
             dsimp only [ptA]))
        all_goals
          have hown : ∀ k, (Value.slice A ps.length c).ownBlock = some k → g7 < k := fun k e => (HPR2.out.lt k e).1
          have hps4 := (H2.out.kept HG3.out (fun k e => by have := hown k e; have := NE.out; omega)).off (p := ⟨g7, 4, none⟩) NE.out.2.2.2.2.2.2.2.1 (.slice A3 (ps.length + 1) c3)
          have keep : ∀ {g t n : Nat} {f : Nat → Value}, wr.rowIs g t n f → g ≠ gp → g ≤ g7 → w3.rowIs g t n f := fun hr hne hle => (grown_row HGN.out hr hne).of_block (HG3.out.block _ (grown_row HGN.out hr hne).lt (fun e => by have := hown _ e.symm; omega))
          have r7 := cfg_setP (.slice A3 (ps.length + 1) c3) (keep R7.out NE.out.1 (Nat.le_refl _))
          have r2 := row_other (keep R2.out NE.out.2.1 (by have := HE.out; have := NE.out; omega)) NE.out.2.2.2.2.1 4 (.slice A3 (ps.length + 1) c3)
          have r3 := row_other (keep R3.out NE.out.2.2.1 (by have := HE.out; have := NE.out; omega)) NE.out.2.2.2.2.2.1 4 (.slice A3 (ps.length + 1) c3)
          have hbd : Below w.heap.size w wr.drew := below_drewN' HB.out 1
          have hb2 : Below w.heap.size w w2 := below_of_grown hbd HGN.out hbd.size NE.out.2.2.2.1
          have hb3 : Below w.heap.size w w3 := hb2.grown HG3.out hb2.size (fun k e => by have := hown k e; have := NE.out; omega)
          have hb4 := hb3.setCell (p := ⟨g7, 4, none⟩) NE.out.2.2.2.2.2.2.1 (.slice A3 (ps.length + 1) c3)
          have hgs : w3.grownBy (w3.setCell ⟨g7, 4, none⟩ (.slice A3 (ps.length + 1) c3)) (some g7) := grown_set (grown_refl _ _) (.inl rfl) _
          have hpr4 : PrL (w3.setCell ⟨g7, 4, none⟩ (.slice A3 (ps.length + 1) c3)) (g7 + 1) (.slice A3 (ps.length + 1) c3) (ps ++ [x]) := by
            have h1 := HPR3.out.kept hgs (fun k e => by injection e with e; omega)
            rw [show (ps ++ [x]).length = ps.length + 1 by simp] at h1
            exact h1
          have hJ2 : Sel b4 b' (LoopQ (loopP (l4.length + 1) l4 []) l' b' (ps ++ [x])) := by
            have h1 := HJ.out
            unfold Sel at h1 ⊢
            cases b4 with
            | some e => cases h1
            | none => exact loopQ_go h1 HS.out HR2x.out
          have R : CfR l4 b4 B gp g2 g3 g7 0 hh hm w (w3.setCell ⟨g7, 4, none⟩ (.slice A3 (ps.length + 1) c3)) :=
            ⟨l', b', ps ++ [x], _, hps4, r7, r2, r3, hb4, hpr4, fun e => by have := part_len HR2x.out e; have := HLE.out; rw [List.length_append]; show ps.length + 1 + l'.length ≤ 20000; omega, hJ2⟩
          have hme : pMeas (w3.setCell ⟨g7, 4, none⟩ (.slice A3 (ps.length + 1) c3)) gp < pMeas wr gp := by
            rw [hps4.meas, HP.out.meas]
            cases hb' : b' with
            | none => have := part_len HR2x.out hb'; show l'.length + 1 < lc.length + 1; omega
            | some e => show 0 < lc.length + 1; omega
          have HRr := Lib.hid (And.intro R hme)
          clear hown hps4 keep r7 r2 r3 hbd hb2 hb3 hb4 hgs hpr4 hJ2 R hme
          first
            | exact HRr.out
            | (go_wp2; first
                | exact HRr.out
                | (refine ⟨_, ?_⟩; exact HRr.out)
                | trace_state)
    all_goals
      have HM := Lib.hid (pmust_any HP.out ⟨#[125]⟩ [125] rfl (by decide) (by decide))
      go_wp2_with fail
      refine HM.out.mono ?_
      rintro e WB ⟨rfl, l5, b5, hp, hr1, hgn⟩
      have R7' := Lib.hid (grown_row hgn R7.out NE.out.1)
      have R2' := Lib.hid (grown_row hgn R2.out NE.out.2.1)
      have R3' := Lib.hid (grown_row hgn R3.out NE.out.2.2.1)
      have HB' := Lib.hid (below_of_grown HB.out hgn HB.out.size NE.out.2.2.2.1)
      clear HM R7 R2 R3 HB HP
      have R7 := R7'
      have R2 := R2'
      have R3 := R3'
      have HB := HB'
      have HP := Lib.hid hp
      clear R7' R2' R3' HB' hp
      have HPR5 := Lib.hid (HPR.out.kept hgn (fun k e => by injection e with e; have := NE.out; omega))
      have HR5 := Lib.hid hr1
      clear hr1 hgn HPR
      have HM := Lib.hid (pmust_any HP.out ⟨#[99, 111, 100, 101]⟩ [99, 111, 100, 101] rfl (by decide) (by decide))
      go_wp2_with fail
      refine HM.out.mono ?_
      rintro e WC ⟨rfl, l6, b6, hp, hr1, hgn⟩
      have R7' := Lib.hid (grown_row hgn R7.out NE.out.1)
      have R2' := Lib.hid (grown_row hgn R2.out NE.out.2.1)
      have R3' := Lib.hid (grown_row hgn R3.out NE.out.2.2.1)
      have HB' := Lib.hid (below_of_grown HB.out hgn HB.out.size NE.out.2.2.2.1)
      clear HM R7 R2 R3 HB HP
      have R7 := R7'
      have R2 := R2'
      have R3 := R3'
      have HB := HB'
      have HP := Lib.hid hp
      clear R7' R2' R3' HB' hp
      have HPR6 := Lib.hid (HPR5.out.kept hgn (fun k e => by injection e with e; have := NE.out; omega))
      have HR6 := Lib.hid hr1
      have HLT := Lib.hid R7.out.lt
      clear hr1 hgn HPR5
      have HM := Lib.hid (pprogram_any HP.out)
      go_wp2_with fail
      refine HM.out.mono ?_
      rintro e WD ⟨vc, T, l7, b7, m7, rfl, htr, hp, hr1, hgn⟩
      have R7' := Lib.hid (grown_row hgn R7.out NE.out.1)
      have R2' := Lib.hid (grown_row hgn R2.out NE.out.2.1)
      have R3' := Lib.hid (grown_row hgn R3.out NE.out.2.2.1)
      have HB' := Lib.hid (below_of_grown HB.out hgn HB.out.size NE.out.2.2.2.1)
      clear HM R7 R2 R3 HB HP
      have R7 := R7'
      have R2 := R2'
      have R3 := R3'
      have HB := HB'
      have HP := Lib.hid hp
      clear R7' R2' R3' HB' hp
      have HPR7 := Lib.hid (HPR6.out.kept hgn (fun k e => by injection e with e; have := NE.out; omega))
      have HR7 := Lib.hid hr1
      obtain ⟨Ac, cc, hvc⟩ := htr.form
      subst hvc
      have HTC := Lib.hid (htr.mono (S' := fun k => g7 < k) (fun k hk _ => Nat.lt_of_lt_of_le HLT.out hk))
      clear hr1 hgn HPR6 htr HLT
      have hgs : WD.grownBy (WD.setCell ⟨g7, 5, none⟩ (.slice Ac T.len cc)) (some g7) := grown_set (grown_refl _ _) (.inl rfl) _
      have HPR8 := Lib.hid (HPR7.out.kept hgs (fun k e => by injection e with e; omega))
      have HTC8 := Lib.hid (HTC.out.grown hgs (fun k hk e => by injection e with e; have hk1 : g7 < k := hk; omega))
      have y5 := R7.out.cell (show 5 < 8 by omega)
      have x5 := R7.out.frozen 5
      dsimp only [cfgF] at y5
      have hp := HP.out.off (p := ⟨g7, 5, none⟩) NE.out.2.2.2.2.2.2.2.1 (.slice Ac T.len cc)
      have R7' := Lib.hid (cfg_setC (.slice Ac T.len cc) R7.out)
      have R2' := Lib.hid (row_other R2.out NE.out.2.2.2.2.1 5 (.slice Ac T.len cc))
      have R3' := Lib.hid (row_other R3.out NE.out.2.2.2.2.2.1 5 (.slice Ac T.len cc))
      have HB' := Lib.hid (HB.out.setCell (p := ⟨g7, 5, none⟩) NE.out.2.2.2.2.2.2.1 (.slice Ac T.len cc))
      clear R7 R2 R3 HB HP
      have R7 := R7'
      have R2 := R2'
      have R3 := R3'
      have HB := HB'
      have HP := Lib.hid hp
      clear R7' R2' R3' HB' hp
      clear hgs HPR7 HTC
      have HM := Lib.hid (pmay_any HP.out ⟨#[112, 111, 115, 116]⟩ [112, 111, 115, 116] rfl (by decide) (by decide))
      go_wp2_with fail
      refine HM.out.mono ?_
      rintro e WE ⟨r, hr, rfl, hp, hgn⟩
      have R7' := Lib.hid (grown_row hgn R7.out NE.out.1)
      have R2' := Lib.hid (grown_row hgn R2.out NE.out.2.1)
      have R3' := Lib.hid (grown_row hgn R3.out NE.out.2.2.1)
      have HB' := Lib.hid (below_of_grown HB.out hgn HB.out.size NE.out.2.2.2.1)
      clear HM R7 R2 R3 HB HP
      have R7 := R7'
      have R2 := R2'
      have R3 := R3'
      have HB := HB'
      have HP := Lib.hid hp
      clear R7' R2' R3' HB' hp
      have HPR9 := Lib.hid (HPR8.out.kept hgn (fun k e => by injection e with e; have := NE.out; omega))
      have HTC9 := Lib.hid (HTC8.out.grown hgn (fun k hk e => by injection e with e; have hk1 : g7 < k := hk; have := NE.out; omega))
      have HRR := Lib.hid hr
      clear hr hgn HPR8 HTC8 y5 x5
      cases r with
      | false =>
        have hp2 := HP.out
        rw [if_neg (by decide)] at hp2
        clear HP
        have HP := Lib.hid hp2
        clear hp2
        have hrel : ∀ (c : CfgS) (x : CfgS) (l' : List Tok) (b' : Option Flt), c = ⟨hh, hm, 0, 0, ps, T, .nil, false⟩ → Rel (endR c) l7 b7 x l' b' → Rel parseR l none x l' b' := fun c x l' b' hc h =>
          .bindR HR1.out (.bindR HR2'.out (.bindR HR3'.out (.bindR HR4.out (.bindR HRP.out (.bindR HR5.out (.bindR HR6.out (.bindR HR7.out (post_no HRR.out (hc ▸ h)))))))))
        have HRELF := Lib.hid hrel
        clear hrel
        cases b7 with
        | some e0 =>
          go_wp2_with fail
          refine (pok_any HP.out).mono ?_
          rintro e w' ⟨rfl, rfl⟩
          go_wp2_with fail
          refine (pok_any HP.out).mono ?_
          rintro e w' ⟨rfl, rfl⟩
          have a0 := R2.out.cell (show 0 < 8 by omega)
          have z0 := R2.out.frozen 0
          have a1 := R2.out.cell (show 1 < 8 by omega)
          have z1 := R2.out.frozen 1
          have a2 := R2.out.cell (show 2 < 8 by omega)
          have z2 := R2.out.frozen 2
          have a3 := R2.out.cell (show 3 < 8 by omega)
          have z3 := R2.out.frozen 3
          have a4 := R2.out.cell (show 4 < 8 by omega)
          have z4 := R2.out.frozen 4
          have a5 := R2.out.cell (show 5 < 8 by omega)
          have z5 := R2.out.frozen 5
          have a6 := R2.out.cell (show 6 < 8 by omega)
          have z6 := R2.out.frozen 6
          have a7 := R2.out.cell (show 7 < 8 by omega)
          have z7 := R2.out.frozen 7
          have b0x := R3.out.cell (show 0 < 2 by omega)
          have x0x := R3.out.frozen 0
          have b1x := R3.out.cell (show 1 < 2 by omega)
          have x1x := R3.out.frozen 1
          dsimp only [cfgF, fltF] at a0 a1 a2 a3 a4 a5 a6 a7 b0x b1x
          obtain ⟨gq', oq', cq', q1, -⟩ := HP.out.ex
          have c1q := q1.cell (show 1 < 4 by omega)
          have c2q := q1.cell (show 2 < 4 by omega)
          dsimp only [psF, erO, lnO] at c1q c2q
          have n2p := NE.out.2.1
          have n3p := NE.out.2.2.1
          have n23 : g2 ≠ g3 := by have := HE.out; omega
          have q2 := cfg_all 0 0 0 0 (.slice none 0 0) (.slice none 0 0) (.slice none 0 0) false R2.out
          have q3' := flt_all (g := g3) (e0.1 : Nat) (e0.2 : Nat) (grown_row (g := g2) (row_sets8 WE g2 0 0 0 0 (.slice none 0 0) (.slice none 0 0) (.slice none 0 0) false) R3.out (by have := HE.out; omega))
          have q2' := row_other (row_other q2 n23 0 (.int .i64 (e0.1 : Nat))) n23 1 (.int .i64 (e0.2 : Nat))
          have qb := (Below.setCell (Below.setCell (Below.setCell (Below.setCell (Below.setCell (Below.setCell (Below.setCell (Below.setCell (Below.setCell (Below.setCell HB.out (p := ⟨g2, 0, none⟩) (Nat.le_of_eq HE.out.1.symm) (.int .i64 0)) (p := ⟨g2, 1, none⟩) (Nat.le_of_eq HE.out.1.symm) (.int .i64 0)) (p := ⟨g2, 2, none⟩) (Nat.le_of_eq HE.out.1.symm) (.int .i64 0)) (p := ⟨g2, 3, none⟩) (Nat.le_of_eq HE.out.1.symm) (.int .i64 0)) (p := ⟨g2, 4, none⟩) (Nat.le_of_eq HE.out.1.symm) (.slice none 0 0)) (p := ⟨g2, 5, none⟩) (Nat.le_of_eq HE.out.1.symm) (.slice none 0 0)) (p := ⟨g2, 6, none⟩) (Nat.le_of_eq HE.out.1.symm) (.slice none 0 0)) (p := ⟨g2, 7, none⟩) (Nat.le_of_eq HE.out.1.symm) (.bool false)) (p := ⟨g3, 0, none⟩) (by have := HE.out; show w.heap.size ≤ g3; omega) (.int .i64 (e0.1 : Nat))) (p := ⟨g3, 1, none⟩) (by have := HE.out; show w.heap.size ≤ g3; omega) (.int .i64 (e0.2 : Nat)))
          have Q2 := Lib.hid (rowIs_drewN' q2' 1)
          have Q3 := Lib.hid (rowIs_drewN' q3' 1)
          have QB := Lib.hid (below_drewN' qb 1)
          clear q1 q2 q3' q2' qb
          go_wp2_with fail
          go_region_with (fail)
          all_goals
            go_wp2
            (try simp only [Exit.inBlock, Exit.then])
            have q2 := Q2.out
            have q3 := Q3.out
            have qb := QB.out
            rw [show ∀ W : World, W.drewN 1 = W.drew from fun _ => rfl] at q2 q3 qb
            generalize (World.drew (World.setCell (World.setCell (World.setCell (World.setCell (World.setCell (World.setCell (World.setCell (World.setCell (World.setCell (World.setCell WE ⟨g2, 0, none⟩ (.int .i64 0)) ⟨g2, 1, none⟩ (.int .i64 0)) ⟨g2, 2, none⟩ (.int .i64 0)) ⟨g2, 3, none⟩ (.int .i64 0)) ⟨g2, 4, none⟩ (.slice none 0 0)) ⟨g2, 5, none⟩ (.slice none 0 0)) ⟨g2, 6, none⟩ (.slice none 0 0)) ⟨g2, 7, none⟩ (.bool false)) ⟨g3, 0, none⟩ (.int .i64 (e0.1 : Nat))) ⟨g3, 1, none⟩ (.int .i64 (e0.2 : Nat)))) = W99 at q2 q3 qb ⊢
            refine bodyPost_ret (cf_results rfl _ _ g2 g3 rfl rfl q2 q3) rfl ?_
            rw [fin_err (HRELF.out _ _ _ _ rfl (end_rel (c := ⟨hh, hm, 0, 0, ps, T, .nil, false⟩)))]
            exact ⟨rfl, qb⟩
        | none =>
          obtain ⟨gq', oq', cq', q1, q2, q3, q4, q5, q6⟩ := HP.out.ex
          obtain ⟨t0q, -, -, -⟩ := q6.head HP.out.tl
          have f0q := q1.cell (show 0 < 4 by omega)
          dsimp only [psF] at f0q
          have hlq : 0 < l7.length := List.length_pos_iff.2 HP.out.tl.ne
          have hlqI : (0 : Int) < (l7.length : Nat) := by omega
          generalize hnq : l7.length = nq at f0q hlq hlqI
          clear q1 q6 hnq
          by_cases hk : (hd l7).k = 4
          · have hkI : (((hd l7).k : Int) != 4) = false := by rw [hk]; rfl
            have hkI2 : (((hd l7).k : Int) == 4) = true := by rw [hk]; rfl
            have HK := Lib.hid hk
            have hrel := HRELF.out _ _ _ _ rfl (end_rel (c := ⟨hh, hm, 0, 0, ps, T, .nil, false⟩) (b := none))
            simp only [Option.isNone_none, Bool.true_and, hk, ne_eq, not_true_eq_false, decide_false, Bool.false_eq_true, if_false] at hrel
            have HRELE := Lib.hid hrel
            clear hk hrel
            go_wp2_with fail
            refine (pok_any HP.out).mono ?_
            rintro e w' ⟨rfl, rfl⟩
            go_wp2_with fail
            refine (pok_any HP.out).mono ?_
            rintro e w' ⟨rfl, rfl⟩
            clear hkI hkI2 t0q f0q hlq hlqI
            have a0 := R2.out.cell (show 0 < 8 by omega)
            have z0 := R2.out.frozen 0
            have a1 := R2.out.cell (show 1 < 8 by omega)
            have z1 := R2.out.frozen 1
            have a2 := R2.out.cell (show 2 < 8 by omega)
            have z2 := R2.out.frozen 2
            have a3 := R2.out.cell (show 3 < 8 by omega)
            have z3 := R2.out.frozen 3
            have a4 := R2.out.cell (show 4 < 8 by omega)
            have z4 := R2.out.frozen 4
            have a5 := R2.out.cell (show 5 < 8 by omega)
            have z5 := R2.out.frozen 5
            have a6 := R2.out.cell (show 6 < 8 by omega)
            have z6 := R2.out.frozen 6
            have a7 := R2.out.cell (show 7 < 8 by omega)
            have z7 := R2.out.frozen 7
            have b0x := R3.out.cell (show 0 < 2 by omega)
            have x0x := R3.out.frozen 0
            have b1x := R3.out.cell (show 1 < 2 by omega)
            have x1x := R3.out.frozen 1
            dsimp only [cfgF, fltF] at a0 a1 a2 a3 a4 a5 a6 a7 b0x b1x
            have d0 := R7.out.cell (show 0 < 8 by omega)
            have d1 := R7.out.cell (show 1 < 8 by omega)
            have d2 := R7.out.cell (show 2 < 8 by omega)
            have d3 := R7.out.cell (show 3 < 8 by omega)
            have d4 := R7.out.cell (show 4 < 8 by omega)
            have d5 := R7.out.cell (show 5 < 8 by omega)
            have d6 := R7.out.cell (show 6 < 8 by omega)
            have d7 := R7.out.cell (show 7 < 8 by omega)
            dsimp only [cfgF] at d0 d1 d2 d3 d4 d5 d6 d7
            have n27 := NE.out.2.2.2.2.1
            have n37 := NE.out.2.2.2.2.2.1
            have n23 : g2 ≠ g3 := by have := HE.out; omega
            have q2 := cfg_all ((hh : Nat)) ((hm : Nat)) (0) (0) (.slice A ps.length c) (.slice Ac T.len cc) (.slice none 0 0) false R2.out
            have hg8 := row_sets8 WE g2 ((hh : Nat)) ((hm : Nat)) (0) (0) (.slice A ps.length c) (.slice Ac T.len cc) (.slice none 0 0) false
            have q3' := flt_all (g := g3) 0 0 (grown_row (g := g2) hg8 R3.out (by have := HE.out; omega))
            have q2' := row_other (row_other q2 n23 0 (.int .i64 0)) n23 1 (.int .i64 0)
            have qb := (Below.setCell (Below.setCell (Below.setCell (Below.setCell (Below.setCell (Below.setCell (Below.setCell (Below.setCell (Below.setCell (Below.setCell HB.out (p := ⟨g2, 0, none⟩) (Nat.le_of_eq HE.out.1.symm) (.int .i64 (hh : Nat))) (p := ⟨g2, 1, none⟩) (Nat.le_of_eq HE.out.1.symm) (.int .i64 (hm : Nat))) (p := ⟨g2, 2, none⟩) (Nat.le_of_eq HE.out.1.symm) (.int .i64 0)) (p := ⟨g2, 3, none⟩) (Nat.le_of_eq HE.out.1.symm) (.int .i64 0)) (p := ⟨g2, 4, none⟩) (Nat.le_of_eq HE.out.1.symm) (.slice A ps.length c)) (p := ⟨g2, 5, none⟩) (Nat.le_of_eq HE.out.1.symm) (.slice Ac T.len cc)) (p := ⟨g2, 6, none⟩) (Nat.le_of_eq HE.out.1.symm) (.slice none 0 0)) (p := ⟨g2, 7, none⟩) (Nat.le_of_eq HE.out.1.symm) (.bool false)) (p := ⟨g3, 0, none⟩) (by have := HE.out; show w.heap.size ≤ g3; omega) (.int .i64 0)) (p := ⟨g3, 1, none⟩) (by have := HE.out; show w.heap.size ≤ g3; omega) (.int .i64 0))
            have hg3 := grown_set (grown_set (grown_refl (World.setCell (World.setCell (World.setCell (World.setCell (World.setCell (World.setCell (World.setCell (World.setCell WE ⟨g2, 0, none⟩ (.int .i64 (hh : Nat))) ⟨g2, 1, none⟩ (.int .i64 (hm : Nat))) ⟨g2, 2, none⟩ (.int .i64 0)) ⟨g2, 3, none⟩ (.int .i64 0)) ⟨g2, 4, none⟩ (.slice A ps.length c)) ⟨g2, 5, none⟩ (.slice Ac T.len cc)) ⟨g2, 6, none⟩ (.slice none 0 0)) ⟨g2, 7, none⟩ (.bool false)) (some g3)) (.inl rfl) (p := ⟨g3, 0, none⟩) (.int .i64 0)) (.inl rfl) (p := ⟨g3, 1, none⟩) (.int .i64 0)
            have t1 := ((HPR9.out.tr).grown hg8 (fun k hk e => by injection e with e; have hk1 : g7 < k := hk; have := HE.out; have := NE.out; omega)).grown hg3 (fun k hk e => by injection e with e; have hk1 : g7 < k := hk; have := HE.out; have := NE.out; omega)
            have t2 := ((HTC9.out).grown hg8 (fun k hk e => by injection e with e; have hk1 : g7 < k := hk; have := HE.out; have := NE.out; omega)).grown hg3 (fun k hk e => by injection e with e; have hk1 : g7 < k := hk; have := HE.out; have := NE.out; omega)
            have t3 := ((Tr.nil WE (fun k => g7 < k)).grown hg8 (fun k hk e => by injection e with e; have hk1 : g7 < k := hk; have := HE.out; have := NE.out; omega)).grown hg3 (fun k hk e => by injection e with e; have hk1 : g7 < k := hk; have := HE.out; have := NE.out; omega)
            have Q2 := Lib.hid q2'
            have Q3 := Lib.hid q3'
            have QB := Lib.hid qb
            have T1 := Lib.hid (t1.mono (S' := fun k => w.heap.size ≤ k) (fun k hk _ => by have hk1 : g7 < k := hk; have := NE.out; omega))
            have T2 := Lib.hid (t2.mono (S' := fun k => w.heap.size ≤ k) (fun k hk _ => by have hk1 : g7 < k := hk; have := NE.out; omega))
            have T3 := Lib.hid (t3.mono (S' := fun k => w.heap.size ≤ k) (fun k hk _ => by have hk1 : g7 < k := hk; have := NE.out; omega))
            clear q2 q3' q2' qb hg8 hg3 t1 t2 t3
            go_wp2_with fail
            (try simp only [Exit.inBlock, Exit.then])
            have q2 := Q2.out
            have q3 := Q3.out
            have qb := QB.out
            have t1 := T1.out
            have t2 := T2.out
            have t3 := T3.out
            generalize (World.setCell (World.setCell (World.setCell (World.setCell (World.setCell (World.setCell (World.setCell (World.setCell (World.setCell (World.setCell WE ⟨g2, 0, none⟩ (.int .i64 (hh : Nat))) ⟨g2, 1, none⟩ (.int .i64 (hm : Nat))) ⟨g2, 2, none⟩ (.int .i64 0)) ⟨g2, 3, none⟩ (.int .i64 0)) ⟨g2, 4, none⟩ (.slice A ps.length c)) ⟨g2, 5, none⟩ (.slice Ac T.len cc)) ⟨g2, 6, none⟩ (.slice none 0 0)) ⟨g2, 7, none⟩ (.bool false)) ⟨g3, 0, none⟩ (.int .i64 0)) ⟨g3, 1, none⟩ (.int .i64 0)) = W99 at q2 q3 qb t1 t2 t3 ⊢
            refine bodyPost_ret (cf_results rfl _ _ g2 g3 rfl rfl q2 q3) rfl ?_
            rw [fin_ok (HRELE.out)]
            exact ⟨⟨_, _, _, rfl, t1, t2, t3⟩, qb⟩
          · have hkI : (((hd l7).k : Int) != 4) = true := by rw [bne_iff_ne]; omega
            have hkI2 : (((hd l7).k : Int) == 4) = false := by rw [beq_eq_false_iff_ne]; omega
            have HK := Lib.hid hk
            have hrel := HRELF.out _ _ _ _ rfl (end_rel (c := ⟨hh, hm, 0, 0, ps, T, .nil, false⟩) (b := none))
            simp only [Option.isNone_none, Bool.true_and, hk, ne_eq, not_false_eq_true, decide_true, if_true] at hrel
            have HRELE := Lib.hid hrel
            clear hk hrel
            go_wp2_with fail
            refine (pok_any HP.out).mono ?_
            rintro e w' ⟨rfl, rfl⟩
            have HM := Lib.hid (pfail_any HP.out 121 (by decide))
            go_wp2_with fail
            refine HM.out.mono ?_
            rintro e WZ ⟨rfl, hp, hgn⟩
            have R7' := Lib.hid (grown_row hgn R7.out NE.out.1)
            have R2' := Lib.hid (grown_row hgn R2.out NE.out.2.1)
            have R3' := Lib.hid (grown_row hgn R3.out NE.out.2.2.1)
            have HB' := Lib.hid (below_of_grown HB.out hgn HB.out.size NE.out.2.2.2.1)
            clear HM R7 R2 R3 HB HP
            have R7 := R7'
            have R2 := R2'
            have R3 := R3'
            have HB := HB'
            have HP := Lib.hid hp
            clear R7' R2' R3' HB' hp
            clear hkI hkI2 t0q f0q hlq hlqI hgn
            have hp2 : PS B WZ gp l7 (some (121, (hd l7).ln)) _ := HP.out
            clear HP
            have HP := Lib.hid hp2
            clear hp2
            go_wp2_with fail
            refine (pok_any HP.out).mono ?_
            rintro e w' ⟨rfl, rfl⟩
            have a0 := R2.out.cell (show 0 < 8 by omega)
            have z0 := R2.out.frozen 0
            have a1 := R2.out.cell (show 1 < 8 by omega)
            have z1 := R2.out.frozen 1
            have a2 := R2.out.cell (show 2 < 8 by omega)
            have z2 := R2.out.frozen 2
            have a3 := R2.out.cell (show 3 < 8 by omega)
            have z3 := R2.out.frozen 3
            have a4 := R2.out.cell (show 4 < 8 by omega)
            have z4 := R2.out.frozen 4
            have a5 := R2.out.cell (show 5 < 8 by omega)
            have z5 := R2.out.frozen 5
            have a6 := R2.out.cell (show 6 < 8 by omega)
            have z6 := R2.out.frozen 6
            have a7 := R2.out.cell (show 7 < 8 by omega)
            have z7 := R2.out.frozen 7
            have b0x := R3.out.cell (show 0 < 2 by omega)
            have x0x := R3.out.frozen 0
            have b1x := R3.out.cell (show 1 < 2 by omega)
            have x1x := R3.out.frozen 1
            dsimp only [cfgF, fltF] at a0 a1 a2 a3 a4 a5 a6 a7 b0x b1x
            obtain ⟨gq', oq', cq', q1, -⟩ := HP.out.ex
            have c1q := q1.cell (show 1 < 4 by omega)
            have c2q := q1.cell (show 2 < 4 by omega)
            dsimp only [psF, erO, lnO] at c1q c2q
            have n2p := NE.out.2.1
            have n3p := NE.out.2.2.1
            have n23 : g2 ≠ g3 := by have := HE.out; omega
            have q2 := cfg_all 0 0 0 0 (.slice none 0 0) (.slice none 0 0) (.slice none 0 0) false R2.out
            have q3' := flt_all (g := g3) (((121, (hd l7).ln) : Nat × Nat).1 : Nat) (((121, (hd l7).ln) : Nat × Nat).2 : Nat) (grown_row (g := g2) (row_sets8 WZ g2 0 0 0 0 (.slice none 0 0) (.slice none 0 0) (.slice none 0 0) false) R3.out (by have := HE.out; omega))
            have q2' := row_other (row_other q2 n23 0 (.int .i64 (((121, (hd l7).ln) : Nat × Nat).1 : Nat))) n23 1 (.int .i64 (((121, (hd l7).ln) : Nat × Nat).2 : Nat))
            have qb := (Below.setCell (Below.setCell (Below.setCell (Below.setCell (Below.setCell (Below.setCell (Below.setCell (Below.setCell (Below.setCell (Below.setCell HB.out (p := ⟨g2, 0, none⟩) (Nat.le_of_eq HE.out.1.symm) (.int .i64 0)) (p := ⟨g2, 1, none⟩) (Nat.le_of_eq HE.out.1.symm) (.int .i64 0)) (p := ⟨g2, 2, none⟩) (Nat.le_of_eq HE.out.1.symm) (.int .i64 0)) (p := ⟨g2, 3, none⟩) (Nat.le_of_eq HE.out.1.symm) (.int .i64 0)) (p := ⟨g2, 4, none⟩) (Nat.le_of_eq HE.out.1.symm) (.slice none 0 0)) (p := ⟨g2, 5, none⟩) (Nat.le_of_eq HE.out.1.symm) (.slice none 0 0)) (p := ⟨g2, 6, none⟩) (Nat.le_of_eq HE.out.1.symm) (.slice none 0 0)) (p := ⟨g2, 7, none⟩) (Nat.le_of_eq HE.out.1.symm) (.bool false)) (p := ⟨g3, 0, none⟩) (by have := HE.out; show w.heap.size ≤ g3; omega) (.int .i64 (((121, (hd l7).ln) : Nat × Nat).1 : Nat))) (p := ⟨g3, 1, none⟩) (by have := HE.out; show w.heap.size ≤ g3; omega) (.int .i64 (((121, (hd l7).ln) : Nat × Nat).2 : Nat)))
            have Q2 := Lib.hid (rowIs_drewN' q2' 1)
            have Q3 := Lib.hid (rowIs_drewN' q3' 1)
            have QB := Lib.hid (below_drewN' qb 1)
            clear q1 q2 q3' q2' qb
            go_wp2_with fail
            go_region_with (fail)
            all_goals
              go_wp2
              (try simp only [Exit.inBlock, Exit.then])
              have q2 := Q2.out
              have q3 := Q3.out
              have qb := QB.out
              rw [show ∀ W : World, W.drewN 1 = W.drew from fun _ => rfl] at q2 q3 qb
              generalize (World.drew (World.setCell (World.setCell (World.setCell (World.setCell (World.setCell (World.setCell (World.setCell (World.setCell (World.setCell (World.setCell WZ ⟨g2, 0, none⟩ (.int .i64 0)) ⟨g2, 1, none⟩ (.int .i64 0)) ⟨g2, 2, none⟩ (.int .i64 0)) ⟨g2, 3, none⟩ (.int .i64 0)) ⟨g2, 4, none⟩ (.slice none 0 0)) ⟨g2, 5, none⟩ (.slice none 0 0)) ⟨g2, 6, none⟩ (.slice none 0 0)) ⟨g2, 7, none⟩ (.bool false)) ⟨g3, 0, none⟩ (.int .i64 (((121, (hd l7).ln) : Nat × Nat).1 : Nat))) ⟨g3, 1, none⟩ (.int .i64 (((121, (hd l7).ln) : Nat × Nat).2 : Nat)))) = W99 at q2 q3 qb ⊢
              refine bodyPost_ret (cf_results rfl _ _ g2 g3 rfl rfl q2 q3) rfl ?_
              rw [fin_err (HRELE.out)]
              exact ⟨rfl, qb⟩
      | true =>
        have hp2 := HP.out
        rw [if_pos rfl] at hp2
        clear HP
        have HP := Lib.hid hp2
        have HPR := HPR9
        have HTC := HTC9
        clear hp2 HPR9 HTC9
        have hgs : WE.grownBy (WE.setCell ⟨g7, 7, none⟩ (.bool true)) (some g7) := grown_set (grown_refl _ _) (.inl rfl) _
        have HPR' := Lib.hid (HPR.out.kept hgs (fun k e => by injection e with e; omega))
        have HTC' := Lib.hid (HTC.out.grown hgs (fun k hk e => by injection e with e; have hk1 : g7 < k := hk; omega))
        clear HPR HTC
        have HPR := HPR'
        have HTC := HTC'
        clear HPR' HTC'
        clear hgs
        have y7 := R7.out.cell (show 7 < 8 by omega)
        have x7 := R7.out.frozen 7
        dsimp only [cfgF] at y7
        have hp := HP.out.off (p := ⟨g7, 7, none⟩) NE.out.2.2.2.2.2.2.2.1 (.bool true)
        have R7' := Lib.hid (cfg_setHas true R7.out)
        have R2' := Lib.hid (row_other R2.out NE.out.2.2.2.2.1 7 (.bool true))
        have R3' := Lib.hid (row_other R3.out NE.out.2.2.2.2.2.1 7 (.bool true))
        have HB' := Lib.hid (HB.out.setCell (p := ⟨g7, 7, none⟩) NE.out.2.2.2.2.2.2.1 (.bool true))
        clear R7 R2 R3 HB HP
        have R7 := R7'
        have R2 := R2'
        have R3 := R3'
        have HB := HB'
        have HP := Lib.hid hp
        clear R7' R2' R3' HB' hp
        have HM := Lib.hid (pnum_any HP.out 65535 (by omega))
        go_wp2_with fail
        refine HM.out.mono ?_
        rintro e WF ⟨pn, l8, b8, hn8, rfl, hp, hr1, hgn⟩
        have R7' := Lib.hid (grown_row hgn R7.out NE.out.1)
        have R2' := Lib.hid (grown_row hgn R2.out NE.out.2.1)
        have R3' := Lib.hid (grown_row hgn R3.out NE.out.2.2.1)
        have HB' := Lib.hid (below_of_grown HB.out hgn HB.out.size NE.out.2.2.2.1)
        clear HM R7 R2 R3 HB HP
        have R7 := R7'
        have R2 := R2'
        have R3 := R3'
        have HB := HB'
        have HP := Lib.hid hp
        clear R7' R2' R3' HB' hp
        have HR8 := Lib.hid hr1
        have HPR' := Lib.hid (HPR.out.kept hgn (fun k e => by injection e with e; have := NE.out; omega))
        have HTC' := Lib.hid (HTC.out.grown hgn (fun k hk e => by injection e with e; have hk1 : g7 < k := hk; have := NE.out; omega))
        clear HPR HTC
        have HPR := HPR'
        have HTC := HTC'
        clear HPR' HTC'
        clear hr1 hgn y7 x7
        have HM := Lib.hid (pnum_any HP.out 65535 (by omega))
        go_wp2_with fail
        refine HM.out.mono ?_
        rintro e WG ⟨pm, l9, b9, hn9, rfl, hp, hr1, hgn⟩
        have R7' := Lib.hid (grown_row hgn R7.out NE.out.1)
        have R2' := Lib.hid (grown_row hgn R2.out NE.out.2.1)
        have R3' := Lib.hid (grown_row hgn R3.out NE.out.2.2.1)
        have HB' := Lib.hid (below_of_grown HB.out hgn HB.out.size NE.out.2.2.2.1)
        clear HM R7 R2 R3 HB HP
        have R7 := R7'
        have R2 := R2'
        have R3 := R3'
        have HB := HB'
        have HP := Lib.hid hp
        clear R7' R2' R3' HB' hp
        have HR9 := Lib.hid hr1
        have HPR' := Lib.hid (HPR.out.kept hgn (fun k e => by injection e with e; have := NE.out; omega))
        have HTC' := Lib.hid (HTC.out.grown hgn (fun k hk e => by injection e with e; have hk1 : g7 < k := hk; have := NE.out; omega))
        clear HPR HTC
        have HPR := HPR'
        have HTC := HTC'
        clear HPR' HTC'
        clear hr1 hgn
        have hgs := grown_set (grown_set (grown_refl WG (some g7)) (.inl rfl) (p := ⟨g7, 2, none⟩) (.int .i64 (pn : Nat))) (.inl rfl) (p := ⟨g7, 3, none⟩) (.int .i64 (pm : Nat))
        have HPR' := Lib.hid (HPR.out.kept hgs (fun k e => by injection e with e; omega))
        have HTC' := Lib.hid (HTC.out.grown hgs (fun k hk e => by injection e with e; have hk1 : g7 < k := hk; omega))
        clear HPR HTC
        have HPR := HPR'
        have HTC := HTC'
        clear HPR' HTC'
        clear hgs
        have y2 := R7.out.cell (show 2 < 8 by omega)
        have x2 := R7.out.frozen 2
        have y3 := R7.out.cell (show 3 < 8 by omega)
        have x3 := R7.out.frozen 3
        dsimp only [cfgF] at y2 y3
        have hp := (HP.out.off (p := ⟨g7, 2, none⟩) NE.out.2.2.2.2.2.2.2.1 (.int .i64 (pn : Nat))).off (p := ⟨g7, 3, none⟩) NE.out.2.2.2.2.2.2.2.1 (.int .i64 (pm : Nat))
        have R7' := Lib.hid (cfg_setPQ (pn : Nat) (pm : Nat) R7.out)
        have R2' := Lib.hid (row_other (row_other R2.out NE.out.2.2.2.2.1 2 (.int .i64 (pn : Nat))) NE.out.2.2.2.2.1 3 (.int .i64 (pm : Nat)))
        have R3' := Lib.hid (row_other (row_other R3.out NE.out.2.2.2.2.2.1 2 (.int .i64 (pn : Nat))) NE.out.2.2.2.2.2.1 3 (.int .i64 (pm : Nat)))
        have HB' := Lib.hid ((HB.out.setCell (p := ⟨g7, 2, none⟩) NE.out.2.2.2.2.2.2.1 (.int .i64 (pn : Nat))).setCell (p := ⟨g7, 3, none⟩) NE.out.2.2.2.2.2.2.1 (.int .i64 (pm : Nat)))
        clear R7 R2 R3 HB HP
        have R7 := R7'
        have R2 := R2'
        have R3 := R3'
        have HB := HB'
        have HP := Lib.hid hp
        clear R7' R2' R3' HB' hp
        have HLT := Lib.hid R7.out.lt
        have HM := Lib.hid (pprogram_any HP.out)
        go_wp2_with fail
        refine HM.out.mono ?_
        rintro e WH ⟨vq, Tq, l10, b10, m10, rfl, htr, hp, hr1, hgn⟩
        have R7' := Lib.hid (grown_row hgn R7.out NE.out.1)
        have R2' := Lib.hid (grown_row hgn R2.out NE.out.2.1)
        have R3' := Lib.hid (grown_row hgn R3.out NE.out.2.2.1)
        have HB' := Lib.hid (below_of_grown HB.out hgn HB.out.size NE.out.2.2.2.1)
        clear HM R7 R2 R3 HB HP
        have R7 := R7'
        have R2 := R2'
        have R3 := R3'
        have HB := HB'
        have HP := Lib.hid hp
        clear R7' R2' R3' HB' hp
        have HR10 := Lib.hid hr1
        have HPR' := Lib.hid (HPR.out.kept hgn (fun k e => by injection e with e; have := NE.out; omega))
        have HTC' := Lib.hid (HTC.out.grown hgn (fun k hk e => by injection e with e; have hk1 : g7 < k := hk; have := NE.out; omega))
        clear HPR HTC
        have HPR := HPR'
        have HTC := HTC'
        clear HPR' HTC'
        obtain ⟨Aq, cq, hvq⟩ := htr.form
        subst hvq
        have HTQ0 := Lib.hid (htr.mono (S' := fun k => g7 < k) (fun k hk _ => Nat.lt_of_lt_of_le HLT.out hk))
        clear hr1 hgn htr HLT y2 y3 x2 x3
        have hgs : WH.grownBy (WH.setCell ⟨g7, 6, none⟩ (.slice Aq Tq.len cq)) (some g7) := grown_set (grown_refl _ _) (.inl rfl) _
        have HTQ := Lib.hid (HTQ0.out.grown hgs (fun k hk e => by injection e with e; have hk1 : g7 < k := hk; omega))
        have HPR' := Lib.hid (HPR.out.kept hgs (fun k e => by injection e with e; omega))
        have HTC' := Lib.hid (HTC.out.grown hgs (fun k hk e => by injection e with e; have hk1 : g7 < k := hk; omega))
        clear HPR HTC
        have HPR := HPR'
        have HTC := HTC'
        clear HPR' HTC'
        clear hgs HTQ0
        have y6 := R7.out.cell (show 6 < 8 by omega)
        have x6 := R7.out.frozen 6
        dsimp only [cfgF] at y6
        have hp := HP.out.off (p := ⟨g7, 6, none⟩) NE.out.2.2.2.2.2.2.2.1 (.slice Aq Tq.len cq)
        have R7' := Lib.hid (cfg_setQ (.slice Aq Tq.len cq) R7.out)
        have R2' := Lib.hid (row_other R2.out NE.out.2.2.2.2.1 6 (.slice Aq Tq.len cq))
        have R3' := Lib.hid (row_other R3.out NE.out.2.2.2.2.2.1 6 (.slice Aq Tq.len cq))
        have HB' := Lib.hid (HB.out.setCell (p := ⟨g7, 6, none⟩) NE.out.2.2.2.2.2.2.1 (.slice Aq Tq.len cq))
        clear R7 R2 R3 HB HP
        have R7 := R7'
        have R2 := R2'
        have R3 := R3'
        have HB := HB'
        have HP := Lib.hid hp
        clear R7' R2' R3' HB' hp
        have hrel : ∀ (c : CfgS) (x : CfgS) (l' : List Tok) (b' : Option Flt), c = ⟨hh, hm, pn, pm, ps, T, Tq, true⟩ → Rel (endR c) l10 b10 x l' b' → Rel parseR l none x l' b' := fun c x l' b' hc h =>
          .bindR HR1.out (.bindR HR2'.out (.bindR HR3'.out (.bindR HR4.out (.bindR HRP.out (.bindR HR5.out (.bindR HR6.out (.bindR HR7.out (post_yes HRR.out (.bindR HR8.out (.bindR HR9.out (.bindR HR10.out (hc ▸ h))))))))))))
        have HRELF := Lib.hid hrel
        clear hrel
        obtain ⟨WV, hWV⟩ : ∃ WV, WV = WH.setCell ⟨g7, 6, none⟩ (.slice Aq Tq.len cq) := ⟨_, rfl⟩
        cases b10 with
        | some e0 =>
          go_wp2_with fail
          refine (pok_any HP.out).mono ?_
          rintro e w' ⟨rfl, rfl⟩
          go_wp2_with fail
          refine (pok_any HP.out).mono ?_
          rintro e w' ⟨rfl, rfl⟩
          have a0 := R2.out.cell (show 0 < 8 by omega)
          have z0 := R2.out.frozen 0
          have a1 := R2.out.cell (show 1 < 8 by omega)
          have z1 := R2.out.frozen 1
          have a2 := R2.out.cell (show 2 < 8 by omega)
          have z2 := R2.out.frozen 2
          have a3 := R2.out.cell (show 3 < 8 by omega)
          have z3 := R2.out.frozen 3
          have a4 := R2.out.cell (show 4 < 8 by omega)
          have z4 := R2.out.frozen 4
          have a5 := R2.out.cell (show 5 < 8 by omega)
          have z5 := R2.out.frozen 5
          have a6 := R2.out.cell (show 6 < 8 by omega)
          have z6 := R2.out.frozen 6
          have a7 := R2.out.cell (show 7 < 8 by omega)
          have z7 := R2.out.frozen 7
          have b0x := R3.out.cell (show 0 < 2 by omega)
          have x0x := R3.out.frozen 0
          have b1x := R3.out.cell (show 1 < 2 by omega)
          have x1x := R3.out.frozen 1
          dsimp only [cfgF, fltF] at a0 a1 a2 a3 a4 a5 a6 a7 b0x b1x
          obtain ⟨gq', oq', cq', q1, -⟩ := HP.out.ex
          have c1q := q1.cell (show 1 < 4 by omega)
          have c2q := q1.cell (show 2 < 4 by omega)
          dsimp only [psF, erO, lnO] at c1q c2q
          have n2p := NE.out.2.1
          have n3p := NE.out.2.2.1
          have n23 : g2 ≠ g3 := by have := HE.out; omega
          have q2 := cfg_all 0 0 0 0 (.slice none 0 0) (.slice none 0 0) (.slice none 0 0) false R2.out
          have q3' := flt_all (g := g3) (e0.1 : Nat) (e0.2 : Nat) (grown_row (g := g2) (row_sets8 (WH.setCell ⟨g7, 6, none⟩ (.slice Aq Tq.len cq)) g2 0 0 0 0 (.slice none 0 0) (.slice none 0 0) (.slice none 0 0) false) R3.out (by have := HE.out; omega))
          have q2' := row_other (row_other q2 n23 0 (.int .i64 (e0.1 : Nat))) n23 1 (.int .i64 (e0.2 : Nat))
          have qb := (Below.setCell (Below.setCell (Below.setCell (Below.setCell (Below.setCell (Below.setCell (Below.setCell (Below.setCell (Below.setCell (Below.setCell HB.out (p := ⟨g2, 0, none⟩) (Nat.le_of_eq HE.out.1.symm) (.int .i64 0)) (p := ⟨g2, 1, none⟩) (Nat.le_of_eq HE.out.1.symm) (.int .i64 0)) (p := ⟨g2, 2, none⟩) (Nat.le_of_eq HE.out.1.symm) (.int .i64 0)) (p := ⟨g2, 3, none⟩) (Nat.le_of_eq HE.out.1.symm) (.int .i64 0)) (p := ⟨g2, 4, none⟩) (Nat.le_of_eq HE.out.1.symm) (.slice none 0 0)) (p := ⟨g2, 5, none⟩) (Nat.le_of_eq HE.out.1.symm) (.slice none 0 0)) (p := ⟨g2, 6, none⟩) (Nat.le_of_eq HE.out.1.symm) (.slice none 0 0)) (p := ⟨g2, 7, none⟩) (Nat.le_of_eq HE.out.1.symm) (.bool false)) (p := ⟨g3, 0, none⟩) (by have := HE.out; show w.heap.size ≤ g3; omega) (.int .i64 (e0.1 : Nat))) (p := ⟨g3, 1, none⟩) (by have := HE.out; show w.heap.size ≤ g3; omega) (.int .i64 (e0.2 : Nat)))
          have Q2 := Lib.hid (rowIs_drewN' q2' 1)
          have Q3 := Lib.hid (rowIs_drewN' q3' 1)
          have QB := Lib.hid (below_drewN' qb 1)
          clear q1 q2 q3' q2' qb
          go_wp2_with fail
          go_region_with (fail)
          all_goals
            go_wp2
            (try simp only [Exit.inBlock, Exit.then])
            have q2 := Q2.out
            have q3 := Q3.out
            have qb := QB.out
            rw [show ∀ W : World, W.drewN 1 = W.drew from fun _ => rfl] at q2 q3 qb
            generalize (World.drew (World.setCell (World.setCell (World.setCell (World.setCell (World.setCell (World.setCell (World.setCell (World.setCell (World.setCell (World.setCell (WH.setCell ⟨g7, 6, none⟩ (.slice Aq Tq.len cq)) ⟨g2, 0, none⟩ (.int .i64 0)) ⟨g2, 1, none⟩ (.int .i64 0)) ⟨g2, 2, none⟩ (.int .i64 0)) ⟨g2, 3, none⟩ (.int .i64 0)) ⟨g2, 4, none⟩ (.slice none 0 0)) ⟨g2, 5, none⟩ (.slice none 0 0)) ⟨g2, 6, none⟩ (.slice none 0 0)) ⟨g2, 7, none⟩ (.bool false)) ⟨g3, 0, none⟩ (.int .i64 (e0.1 : Nat))) ⟨g3, 1, none⟩ (.int .i64 (e0.2 : Nat)))) = W99 at q2 q3 qb ⊢
            refine bodyPost_ret (cf_results rfl _ _ g2 g3 rfl rfl q2 q3) rfl ?_
            rw [fin_err (HRELF.out _ _ _ _ rfl (end_rel (c := ⟨hh, hm, pn, pm, ps, T, Tq, true⟩)))]
            exact ⟨rfl, qb⟩
        | none =>
          obtain ⟨gq', oq', cq', q1, q2, q3, q4, q5, q6⟩ := HP.out.ex
          obtain ⟨t0q, -, -, -⟩ := q6.head HP.out.tl
          have f0q := q1.cell (show 0 < 4 by omega)
          dsimp only [psF] at f0q
          have hlq : 0 < l10.length := List.length_pos_iff.2 HP.out.tl.ne
          have hlqI : (0 : Int) < (l10.length : Nat) := by omega
          generalize hnq : l10.length = nq at f0q hlq hlqI
          clear q1 q6 hnq
          by_cases hk : (hd l10).k = 4
          · have hkI : (((hd l10).k : Int) != 4) = false := by rw [hk]; rfl
            have hkI2 : (((hd l10).k : Int) == 4) = true := by rw [hk]; rfl
            have HK := Lib.hid hk
            have hrel := HRELF.out _ _ _ _ rfl (end_rel (c := ⟨hh, hm, pn, pm, ps, T, Tq, true⟩) (b := none))
            simp only [Option.isNone_none, Bool.true_and, hk, ne_eq, not_true_eq_false, decide_false, Bool.false_eq_true, if_false] at hrel
            have HRELE := Lib.hid hrel
            clear hk hrel
            go_wp2_with fail
            refine (pok_any HP.out).mono ?_
            rintro e w' ⟨rfl, rfl⟩
            go_wp2_with fail
            refine (pok_any HP.out).mono ?_
            rintro e w' ⟨rfl, rfl⟩
            clear hkI hkI2 t0q f0q hlq hlqI
            have a0 := R2.out.cell (show 0 < 8 by omega)
            have z0 := R2.out.frozen 0
            have a1 := R2.out.cell (show 1 < 8 by omega)
            have z1 := R2.out.frozen 1
            have a2 := R2.out.cell (show 2 < 8 by omega)
            have z2 := R2.out.frozen 2
            have a3 := R2.out.cell (show 3 < 8 by omega)
            have z3 := R2.out.frozen 3
            have a4 := R2.out.cell (show 4 < 8 by omega)
            have z4 := R2.out.frozen 4
            have a5 := R2.out.cell (show 5 < 8 by omega)
            have z5 := R2.out.frozen 5
            have a6 := R2.out.cell (show 6 < 8 by omega)
            have z6 := R2.out.frozen 6
            have a7 := R2.out.cell (show 7 < 8 by omega)
            have z7 := R2.out.frozen 7
            have b0x := R3.out.cell (show 0 < 2 by omega)
            have x0x := R3.out.frozen 0
            have b1x := R3.out.cell (show 1 < 2 by omega)
            have x1x := R3.out.frozen 1
            dsimp only [cfgF, fltF] at a0 a1 a2 a3 a4 a5 a6 a7 b0x b1x
            have d0 := R7.out.cell (show 0 < 8 by omega)
            have d1 := R7.out.cell (show 1 < 8 by omega)
            have d2 := R7.out.cell (show 2 < 8 by omega)
            have d3 := R7.out.cell (show 3 < 8 by omega)
            have d4 := R7.out.cell (show 4 < 8 by omega)
            have d5 := R7.out.cell (show 5 < 8 by omega)
            have d6 := R7.out.cell (show 6 < 8 by omega)
            have d7 := R7.out.cell (show 7 < 8 by omega)
            dsimp only [cfgF] at d0 d1 d2 d3 d4 d5 d6 d7
            have n27 := NE.out.2.2.2.2.1
            have n37 := NE.out.2.2.2.2.2.1
            have n23 : g2 ≠ g3 := by have := HE.out; omega
            have q2 := cfg_all ((hh : Nat)) ((hm : Nat)) ((pn : Nat)) ((pm : Nat)) (.slice A ps.length c) (.slice Ac T.len cc) (.slice Aq Tq.len cq) true R2.out
            have hg8 := row_sets8 (WH.setCell ⟨g7, 6, none⟩ (.slice Aq Tq.len cq)) g2 ((hh : Nat)) ((hm : Nat)) ((pn : Nat)) ((pm : Nat)) (.slice A ps.length c) (.slice Ac T.len cc) (.slice Aq Tq.len cq) true
            have q3' := flt_all (g := g3) 0 0 (grown_row (g := g2) hg8 R3.out (by have := HE.out; omega))
            have q2' := row_other (row_other q2 n23 0 (.int .i64 0)) n23 1 (.int .i64 0)
            have qb := (Below.setCell (Below.setCell (Below.setCell (Below.setCell (Below.setCell (Below.setCell (Below.setCell (Below.setCell (Below.setCell (Below.setCell HB.out (p := ⟨g2, 0, none⟩) (Nat.le_of_eq HE.out.1.symm) (.int .i64 (hh : Nat))) (p := ⟨g2, 1, none⟩) (Nat.le_of_eq HE.out.1.symm) (.int .i64 (hm : Nat))) (p := ⟨g2, 2, none⟩) (Nat.le_of_eq HE.out.1.symm) (.int .i64 (pn : Nat))) (p := ⟨g2, 3, none⟩) (Nat.le_of_eq HE.out.1.symm) (.int .i64 (pm : Nat))) (p := ⟨g2, 4, none⟩) (Nat.le_of_eq HE.out.1.symm) (.slice A ps.length c)) (p := ⟨g2, 5, none⟩) (Nat.le_of_eq HE.out.1.symm) (.slice Ac T.len cc)) (p := ⟨g2, 6, none⟩) (Nat.le_of_eq HE.out.1.symm) (.slice Aq Tq.len cq)) (p := ⟨g2, 7, none⟩) (Nat.le_of_eq HE.out.1.symm) (.bool true)) (p := ⟨g3, 0, none⟩) (by have := HE.out; show w.heap.size ≤ g3; omega) (.int .i64 0)) (p := ⟨g3, 1, none⟩) (by have := HE.out; show w.heap.size ≤ g3; omega) (.int .i64 0))
            have hg3 := grown_set (grown_set (grown_refl (World.setCell (World.setCell (World.setCell (World.setCell (World.setCell (World.setCell (World.setCell (World.setCell (WH.setCell ⟨g7, 6, none⟩ (.slice Aq Tq.len cq)) ⟨g2, 0, none⟩ (.int .i64 (hh : Nat))) ⟨g2, 1, none⟩ (.int .i64 (hm : Nat))) ⟨g2, 2, none⟩ (.int .i64 (pn : Nat))) ⟨g2, 3, none⟩ (.int .i64 (pm : Nat))) ⟨g2, 4, none⟩ (.slice A ps.length c)) ⟨g2, 5, none⟩ (.slice Ac T.len cc)) ⟨g2, 6, none⟩ (.slice Aq Tq.len cq)) ⟨g2, 7, none⟩ (.bool true)) (some g3)) (.inl rfl) (p := ⟨g3, 0, none⟩) (.int .i64 0)) (.inl rfl) (p := ⟨g3, 1, none⟩) (.int .i64 0)
            have t1 := ((HPR.out.tr).grown hg8 (fun k hk e => by injection e with e; have hk1 : g7 < k := hk; have := HE.out; have := NE.out; omega)).grown hg3 (fun k hk e => by injection e with e; have hk1 : g7 < k := hk; have := HE.out; have := NE.out; omega)
            have t2 := ((HTC.out).grown hg8 (fun k hk e => by injection e with e; have hk1 : g7 < k := hk; have := HE.out; have := NE.out; omega)).grown hg3 (fun k hk e => by injection e with e; have hk1 : g7 < k := hk; have := HE.out; have := NE.out; omega)
            have t3 := ((HTQ.out).grown hg8 (fun k hk e => by injection e with e; have hk1 : g7 < k := hk; have := HE.out; have := NE.out; omega)).grown hg3 (fun k hk e => by injection e with e; have hk1 : g7 < k := hk; have := HE.out; have := NE.out; omega)
            have Q2 := Lib.hid q2'
            have Q3 := Lib.hid q3'
            have QB := Lib.hid qb
            have T1 := Lib.hid (t1.mono (S' := fun k => w.heap.size ≤ k) (fun k hk _ => by have hk1 : g7 < k := hk; have := NE.out; omega))
            have T2 := Lib.hid (t2.mono (S' := fun k => w.heap.size ≤ k) (fun k hk _ => by have hk1 : g7 < k := hk; have := NE.out; omega))
            have T3 := Lib.hid (t3.mono (S' := fun k => w.heap.size ≤ k) (fun k hk _ => by have hk1 : g7 < k := hk; have := NE.out; omega))
            clear q2 q3' q2' qb hg8 hg3 t1 t2 t3
            go_wp2_with fail
            (try simp only [Exit.inBlock, Exit.then])
            have q2 := Q2.out
            have q3 := Q3.out
            have qb := QB.out
            have t1 := T1.out
            have t2 := T2.out
            have t3 := T3.out
            generalize (World.setCell (World.setCell (World.setCell (World.setCell (World.setCell (World.setCell (World.setCell (World.setCell (World.setCell (World.setCell (WH.setCell ⟨g7, 6, none⟩ (.slice Aq Tq.len cq)) ⟨g2, 0, none⟩ (.int .i64 (hh : Nat))) ⟨g2, 1, none⟩ (.int .i64 (hm : Nat))) ⟨g2, 2, none⟩ (.int .i64 (pn : Nat))) ⟨g2, 3, none⟩ (.int .i64 (pm : Nat))) ⟨g2, 4, none⟩ (.slice A ps.length c)) ⟨g2, 5, none⟩ (.slice Ac T.len cc)) ⟨g2, 6, none⟩ (.slice Aq Tq.len cq)) ⟨g2, 7, none⟩ (.bool true)) ⟨g3, 0, none⟩ (.int .i64 0)) ⟨g3, 1, none⟩ (.int .i64 0)) = W99 at q2 q3 qb t1 t2 t3 ⊢
            refine bodyPost_ret (cf_results rfl _ _ g2 g3 rfl rfl q2 q3) rfl ?_
            rw [fin_ok (HRELE.out)]
            exact ⟨⟨_, _, _, rfl, t1, t2, t3⟩, qb⟩
          · have hkI : (((hd l10).k : Int) != 4) = true := by rw [bne_iff_ne]; omega
            have hkI2 : (((hd l10).k : Int) == 4) = false := by rw [beq_eq_false_iff_ne]; omega
            have HK := Lib.hid hk
            have hrel := HRELF.out _ _ _ _ rfl (end_rel (c := ⟨hh, hm, pn, pm, ps, T, Tq, true⟩) (b := none))
            simp only [Option.isNone_none, Bool.true_and, hk, ne_eq, not_false_eq_true, decide_true, if_true] at hrel
            have HRELE := Lib.hid hrel
            clear hk hrel
            go_wp2_with fail
            refine (pok_any HP.out).mono ?_
            rintro e w' ⟨rfl, rfl⟩
            have HM := Lib.hid (pfail_any HP.out 121 (by decide))
            go_wp2_with fail
            refine HM.out.mono ?_
            rintro e WZ ⟨rfl, hp, hgn⟩
            have R7' := Lib.hid (grown_row hgn R7.out NE.out.1)
            have R2' := Lib.hid (grown_row hgn R2.out NE.out.2.1)
            have R3' := Lib.hid (grown_row hgn R3.out NE.out.2.2.1)
            have HB' := Lib.hid (below_of_grown HB.out hgn HB.out.size NE.out.2.2.2.1)
            clear HM R7 R2 R3 HB HP
            have R7 := R7'
            have R2 := R2'
            have R3 := R3'
            have HB := HB'
            have HP := Lib.hid hp
            clear R7' R2' R3' HB' hp
            clear hkI hkI2 t0q f0q hlq hlqI hgn
            have hp2 : PS B WZ gp l10 (some (121, (hd l10).ln)) _ := HP.out
            clear HP
            have HP := Lib.hid hp2
            clear hp2
            go_wp2_with fail
            refine (pok_any HP.out).mono ?_
            rintro e w' ⟨rfl, rfl⟩
            have a0 := R2.out.cell (show 0 < 8 by omega)
            have z0 := R2.out.frozen 0
            have a1 := R2.out.cell (show 1 < 8 by omega)
            have z1 := R2.out.frozen 1
            have a2 := R2.out.cell (show 2 < 8 by omega)
            have z2 := R2.out.frozen 2
            have a3 := R2.out.cell (show 3 < 8 by omega)
            have z3 := R2.out.frozen 3
            have a4 := R2.out.cell (show 4 < 8 by omega)
            have z4 := R2.out.frozen 4
            have a5 := R2.out.cell (show 5 < 8 by omega)
            have z5 := R2.out.frozen 5
            have a6 := R2.out.cell (show 6 < 8 by omega)
            have z6 := R2.out.frozen 6
            have a7 := R2.out.cell (show 7 < 8 by omega)
            have z7 := R2.out.frozen 7
            have b0x := R3.out.cell (show 0 < 2 by omega)
            have x0x := R3.out.frozen 0
            have b1x := R3.out.cell (show 1 < 2 by omega)
            have x1x := R3.out.frozen 1
            dsimp only [cfgF, fltF] at a0 a1 a2 a3 a4 a5 a6 a7 b0x b1x
            obtain ⟨gq', oq', cq', q1, -⟩ := HP.out.ex
            have c1q := q1.cell (show 1 < 4 by omega)
            have c2q := q1.cell (show 2 < 4 by omega)
            dsimp only [psF, erO, lnO] at c1q c2q
            have n2p := NE.out.2.1
            have n3p := NE.out.2.2.1
            have n23 : g2 ≠ g3 := by have := HE.out; omega
            have q2 := cfg_all 0 0 0 0 (.slice none 0 0) (.slice none 0 0) (.slice none 0 0) false R2.out
            have q3' := flt_all (g := g3) (((121, (hd l10).ln) : Nat × Nat).1 : Nat) (((121, (hd l10).ln) : Nat × Nat).2 : Nat) (grown_row (g := g2) (row_sets8 WZ g2 0 0 0 0 (.slice none 0 0) (.slice none 0 0) (.slice none 0 0) false) R3.out (by have := HE.out; omega))
            have q2' := row_other (row_other q2 n23 0 (.int .i64 (((121, (hd l10).ln) : Nat × Nat).1 : Nat))) n23 1 (.int .i64 (((121, (hd l10).ln) : Nat × Nat).2 : Nat))
            have qb := (Below.setCell (Below.setCell (Below.setCell (Below.setCell (Below.setCell (Below.setCell (Below.setCell (Below.setCell (Below.setCell (Below.setCell HB.out (p := ⟨g2, 0, none⟩) (Nat.le_of_eq HE.out.1.symm) (.int .i64 0)) (p := ⟨g2, 1, none⟩) (Nat.le_of_eq HE.out.1.symm) (.int .i64 0)) (p := ⟨g2, 2, none⟩) (Nat.le_of_eq HE.out.1.symm) (.int .i64 0)) (p := ⟨g2, 3, none⟩) (Nat.le_of_eq HE.out.1.symm) (.int .i64 0)) (p := ⟨g2, 4, none⟩) (Nat.le_of_eq HE.out.1.symm) (.slice none 0 0)) (p := ⟨g2, 5, none⟩) (Nat.le_of_eq HE.out.1.symm) (.slice none 0 0)) (p := ⟨g2, 6, none⟩) (Nat.le_of_eq HE.out.1.symm) (.slice none 0 0)) (p := ⟨g2, 7, none⟩) (Nat.le_of_eq HE.out.1.symm) (.bool false)) (p := ⟨g3, 0, none⟩) (by have := HE.out; show w.heap.size ≤ g3; omega) (.int .i64 (((121, (hd l10).ln) : Nat × Nat).1 : Nat))) (p := ⟨g3, 1, none⟩) (by have := HE.out; show w.heap.size ≤ g3; omega) (.int .i64 (((121, (hd l10).ln) : Nat × Nat).2 : Nat)))
            have Q2 := Lib.hid (rowIs_drewN' q2' 1)
            have Q3 := Lib.hid (rowIs_drewN' q3' 1)
            have QB := Lib.hid (below_drewN' qb 1)
            clear q1 q2 q3' q2' qb
            go_wp2_with fail
            go_region_with (fail)
            all_goals
              go_wp2
              (try simp only [Exit.inBlock, Exit.then])
              have q2 := Q2.out
              have q3 := Q3.out
              have qb := QB.out
              rw [show ∀ W : World, W.drewN 1 = W.drew from fun _ => rfl] at q2 q3 qb
              generalize (World.drew (World.setCell (World.setCell (World.setCell (World.setCell (World.setCell (World.setCell (World.setCell (World.setCell (World.setCell (World.setCell WZ ⟨g2, 0, none⟩ (.int .i64 0)) ⟨g2, 1, none⟩ (.int .i64 0)) ⟨g2, 2, none⟩ (.int .i64 0)) ⟨g2, 3, none⟩ (.int .i64 0)) ⟨g2, 4, none⟩ (.slice none 0 0)) ⟨g2, 5, none⟩ (.slice none 0 0)) ⟨g2, 6, none⟩ (.slice none 0 0)) ⟨g2, 7, none⟩ (.bool false)) ⟨g3, 0, none⟩ (.int .i64 (((121, (hd l10).ln) : Nat × Nat).1 : Nat))) ⟨g3, 1, none⟩ (.int .i64 (((121, (hd l10).ln) : Nat × Nat).2 : Nat)))) = W99 at q2 q3 qb ⊢
              refine bodyPost_ret (cf_results rfl _ _ g2 g3 rfl rfl q2 q3) rfl ?_
              rw [fin_err (HRELE.out)]
              exact ⟨rfl, qb⟩
end
end Go.Proofs.Ythmpagehmfillaa
