/-
  THE WALKS OF package syntax, third part: Right's closure, walk. Conditions: an Op is a byte; the tree lies below the two counters.
  THE WALKS OF package syntax, fourth part: Right, Config. Conditions: an Op is a byte; fewer than 2^60 statements.
-/
import Derived.Test.YthmpagehmfillaaQ25
import Derived.Deep.DeepCutAuto
namespace Go.Proofs.Ythmpagehmfillaa
open Go.RowKit
set_option linter.unusedSimpArgs false
set_option linter.unusedVariables false
/-- The two counters of Right, and its flag. -/
def StR (w : World) (B pn pg pp : Nat) (n : Nat) (gd post : Bool) : Prop :=
  w.rowIs pn 3 1 (fun _ => .int .i64 n) ∧ w.rowIs pg 4 1 (fun _ => .bool gd) ∧ w.cell? ⟨pp, 0, none⟩ = some (.bool post) ∧ B ≤ pn ∧ B ≤ pg ∧ pn ≠ pg ∧ pp < B ∧ B ≤ w.heap.size
theorem StR.below {w w' : World} {B pn pg pp n : Nat} {gd post : Bool} (h : StR w B pn pg pp n gd post) (hb : Below w.heap.size w w') : StR w' B pn pg pp n gd post := by
  obtain ⟨h1, h2, h3, h4, h5, h6, h7, h8⟩ := h
  exact ⟨below_row hb h1 h1.lt, below_row hb h2 h2.lt, (hb.cell (p := ⟨pp, 0, none⟩) (by show pp < _; omega)).trans h3, h4, h5, h6, h7, Nat.le_trans h8 hb.size⟩
set_option maxRecDepth 100000 in
set_option maxHeartbeats 8000000 in
theorem tell_any {B pn pg pp : Nat} (g o : Nat) (x : StS) (vb ve : Value) (n : Nat) (gd post : Bool) (w : World) (hst : StR w B pn pg pp n gd post) (hgB : g < B) (hx : StAt w g o x vb ve) (hb : UB vb x.b.len) (he : UB ve x.e.len) (hsz : x.b.len < 2 ^ 62 ∧ x.e.len < 2 ^ 62) (h8 : x.i.o < 256 ∧ x.c.i.o < 256) (hn : n < 2 ^ 62) :
    Calls Try.prog 50 #[.pointer (some ⟨g, o, none⟩), .pointer (some ⟨pn, 0, none⟩), .pointer (some ⟨pg, 0, none⟩), .pointer (some ⟨pp, 0, none⟩)] w fun e w' => e = .returned (.tuple #[]) ∧ StR w' B pn pg pp (n + 1) (gd && rightS post x) post ∧ Below B w w' := by
  obtain ⟨h1, h2, h3, h4, h5, h6, h7, hB⟩ := hst
  have c1 : w.cell? ⟨pn, 0, none⟩ = some (.int .i64 n) := h1.cell (by omega)
  have z1 := h1.frozen 0
  have c2 : w.cell? ⟨pg, 0, none⟩ = some (.bool gd) := h2.cell (by omega)
  have z2 := h2.frozen 0
  have hw : IntKind.i64.wrap ((n : Int) + 1) = ((n + 1 : Nat) : Int) := by rw [IntKind.wrap_i64]; omega; all_goals omega
  have H1 := Lib.hid h1
  have H2 := Lib.hid h2
  have HN := Lib.hid (And.intro h4 (And.intro h5 (And.intro h6 (And.intro h7 hB))))
  have HX := Lib.hid hx
  have HU := Lib.hid (And.intro hb (And.intro he (And.intro hsz h8)))
  have npg : pn ≠ pg := h6
  have npp : pn ≠ pp := by omega
  clear h1 h2 h4 h5 h6 h7 hx hb he hsz h8 hn hB
  have r1 : (w.setCell ⟨pn, 0, none⟩ (.int .i64 ((n : Int) + 1))).rowIs pn 3 1 (fun _ => .int .i64 (n + 1 : Nat)) := (H1.out.set 0 _).congr fun i hi => by
    match i, hi with
    | 0, _ => rfl
  have r2 := row_other (g' := pn) H2.out (fun e => npg e.symm) 0 (.int .i64 ((n : Int) + 1))
  have hbs : Below B w (w.setCell ⟨pn, 0, none⟩ (.int .i64 ((n : Int) + 1))) := (Below.refl B w).setCell (p := ⟨pn, 0, none⟩) HN.out.1 _
  have hsz1 : (w.setCell ⟨pn, 0, none⟩ (.int .i64 ((n : Int) + 1))).heap.size = w.heap.size := World.size_setCell ..
  have c3 : (w.setCell ⟨pn, 0, none⟩ (.int .i64 ((n : Int) + 1))).cell? ⟨pp, 0, none⟩ = some (.bool post) := (hbs.cell (p := ⟨pp, 0, none⟩) HN.out.2.2.2.1).trans h3
  have R1 := Lib.hid r1
  have R2 := Lib.hid r2
  have HBS := Lib.hid hbs
  have HSZ := Lib.hid hsz1
  have HC3 := Lib.hid c3
  clear r1 r2 hbs hsz1 c3
  cases gd with
  | false =>
    go_enter Try.func50, Try.ntmps50
    go_wp2_with fail
    have q2 := (R2.out.set 0 (.bool false)).congr (g := fun _ => .bool false) fun i hi => by
      match i, hi with
      | 0, _ => rfl
    have q1 := row_other (g' := pg) R1.out npg 0 (.bool false)
    have qb : Below B w _ := HBS.out.setCell (p := ⟨pg, 0, none⟩) HN.out.2.1 (.bool false)
    have q3 := (qb.cell (p := ⟨pp, 0, none⟩) HN.out.2.2.2.1).trans h3
    go_end0
    exact ⟨rfl, ⟨q1, q2, q3, HN.out.1, HN.out.2.1, npg, HN.out.2.2.2.1, Nat.le_trans HN.out.2.2.2.2 qb.size⟩, qb⟩
  | true =>
    go_enter Try.func50, Try.ntmps50
    go_wp2_with fail
    refine (rightS_any g o x vb ve post _ (HX.out.below HBS.out hgB) HU.out.1 HU.out.2.1 HU.out.2.2.1 HU.out.2.2.2).mono ?_
    rintro e w2 ⟨rfl, hb2⟩
    have r1 := below_row hb2 R1.out R1.out.lt
    have r2 := below_row hb2 R2.out R2.out.lt
    have z2' := r2.frozen 0
    have c2' : w2.cell? ⟨pg, 0, none⟩ = some (.bool true) := r2.cell (by omega)
    have HB2 : Hid (Below B w w2) := HBS.out.trans (hb2.mono (Nat.le_trans HN.out.2.2.2.2 HBS.out.size))
    have Q1 := Lib.hid r1
    have Q2 := Lib.hid r2
    clear r1 r2 hb2
    go_wp2_with fail
    have q2 := (Q2.out.set 0 (.bool (rightS post x))).congr (g := fun _ => .bool (rightS post x)) fun i hi => by
      match i, hi with
      | 0, _ => rfl
    have q1 := row_other (g' := pg) Q1.out npg 0 (.bool (rightS post x))
    have qb : Below B w _ := HB2.out.setCell (p := ⟨pg, 0, none⟩) HN.out.2.1 (.bool (rightS post x))
    have q3 := (qb.cell (p := ⟨pp, 0, none⟩) HN.out.2.2.2.1).trans h3
    go_end0
    exact ⟨rfl, ⟨q1, q2, q3, HN.out.1, HN.out.2.1, npg, HN.out.2.2.2.1, Nat.le_trans HN.out.2.2.2.2 qb.size⟩, qb⟩
theorem Tr.low {w w' : World} {S : Nat → Prop} {v : Value} {T : Sts} {B : Nat} (h : Tr w S v T) (hS : ∀ k, S k → k < B) (hb : Below B w w') : Tr w' S v T := h.keep (fun k hk _ => hb.block k (hS k hk)) hb.size (fun _ h _ => h)
/-- What the loop keeps. -/
def WkR (T : Sts) (lv B pn pg pp n : Nat) (gd post : Bool) (w : World) (s7 s18 : Value) (wr : World) : Prop :=
  ∃ (k nk : Nat) (gk dk : Bool), k ≤ T.len ∧ s7 = .bool dk ∧ s18 = .int .i64 k ∧ StR wr B pn pg pp nk gk post ∧ Below B w wr ∧ nk + cnt lv (Sts.drp k T) = n + cnt lv T ∧ (gk && alR post lv (Sts.drp k T)) = (gd && alR post lv T) ∧ (dk && dpt lv (Sts.drp k T)) = dpt lv T ∧ nk + (Sts.drp k T).all ≤ n + T.all
set_option maxRecDepth 100000 in
set_option maxHeartbeats 8000000 in
/-- The walk over a tree. -/
theorem walk_any {B pn pg pp : Nat} (post : Bool) : ∀ (N : Nat) (T : Sts) (lv : Nat) (v : Value) (S : Nat → Prop) (n : Nat) (gd : Bool) (w : World), T.all < N → T.b8 → lv ≤ 20 → Tr w S v T → (∀ k, S k → k < B) → StR w B pn pg pp n gd post → n + T.all < 2 ^ 62 →
    Calls Try.prog 49 #[v, .int .i64 lv, .func (.func 50) #[] #[.pointer (some ⟨pn, 0, none⟩), .pointer (some ⟨pg, 0, none⟩), .pointer (some ⟨pp, 0, none⟩)]] w fun e w' => e = .returned (.bool (dpt lv T)) ∧ StR w' B pn pg pp (n + cnt lv T) (gd && alR post lv T) post ∧ Below B w w' := by
  intro N
  induction N with
  | zero => intro T lv v S n gd w h; exact absurd h (Nat.not_lt_zero _)
  | succ N ih =>
    intro T lv v S n gd w hN h8 hlv hT hS hst hn
    obtain ⟨A1, c1, rfl, hc1, hm1⟩ := hT.frm
    have hlen : T.len ≤ T.all := T.len_all
    have HT := Lib.hid hT
    have HX := Lib.hid (And.intro hN (And.intro h8 (And.intro hS hn)))
    have HST := Lib.hid hst
    have IH := Lib.hid ih
    have hlvI : (lv : Int) ≤ 20 := by omega
    have hcl := cnt_all lv T
    have HCL := Lib.hid hcl
    clear hN h8 hT hS hst hn ih hc1 hm1 hlen hcl
    by_cases hz : 0 < T.len ∧ lv = 0
    · have ht0 : (0 : Int) < (T.len : Int) := by omega
      obtain ⟨hz1, rfl⟩ := hz
      have e1 : dpt 0 T = false := by
        cases T with
        | nil => exact absurd hz1 (Nat.lt_irrefl _)
        | cons k i c b e ln r => rfl
      rw [e1, cnt_zero, alR_zero, Bool.and_true]
      clear IH HX HT hz1 e1
      go_enter Try.func49, Try.ntmps49
      go_wp2_with fail
      go_ret
      exact ⟨rfl, HST.out, Below.refl _ _⟩
    · have hgo : (0 : Int) < (T.len : Int) → ¬ (lv : Int) < 1 := by omega
      have R0 : WkR T lv B pn pg pp n gd post w (.bool true) (.int .i64 0) w := ⟨0, n, gd, true, Nat.zero_le _, rfl, rfl, HST.out, Below.refl _ _, rfl, rfl, by simp [Sts.drp], Nat.le_refl _⟩
      have HR0 := Lib.hid R0
      clear R0
      have main : (0 : Int) < (T.len : Int) ∧ ¬ (lv : Int) < 1 ∨ ¬ (0 : Int) < (T.len : Int) := by
        by_cases h : (0 : Int) < (T.len : Int)
        · exact .inl ⟨h, hgo h⟩
        · exact .inr h
      clear hgo
      rcases main with ⟨h0, h1⟩ | h0
      all_goals
        go_enter Try.func49, Try.ntmps49
        go_wp2_with fail
        go_loopw [7, 18] (fun s7 s18 wr => WkR T lv B pn pg pp n gd post w s7 s18 wr) (fun _ s _ => T.len - (intOf s).toNat)
        case atStart => exact HR0.out
        case round =>
          clear HR0
          obtain ⟨k, nk, gk, dk, hk, rfl, rfl, hst, hbw, hcn, hal, hdp, hpo⟩ := hrel
          have HSR := Lib.hid hst
          have HB := Lib.hid hbw
          have HE := Lib.hid (And.intro hcn (And.intro hal (And.intro hdp hpo)))
          clear hst hbw hcn hal hdp hpo
          by_cases e0 : k < T.len
          · first
            | (exfalso; omega; done)
            | (obtain ⟨lv', hlv1⟩ : ∃ l', lv = l' + 1 := ⟨lv - 1, by omega⟩
               have b1 : (k : Int) < (T.len : Int) := by omega
               obtain ⟨g, o, vb, ve, rfl, hsg, hg, hbT, heT, hcl⟩ := (HT.out.low HX.out.2.2.1 HB.out).nth e0
               obtain ⟨y1, y2, y3, y4, y5⟩ := Sts.b8_nth HX.out.2.1 e0
               have hna := Sts.nth_all e0
               have hdr := Sts.drp_nth e0
               have hx : StAt wr g (o + k * 13) (T.nth k) vb ve := ⟨hg, hcl⟩
               obtain ⟨q1, q2, q3, q4⟩ := HE.out
               rw [hdr, hlv1] at q1 q2 q3
               rw [hdr] at q4
               generalize T.nth k = x at *
               obtain ⟨B1, d1, rfl, hd1, -⟩ := hbT.frm
               obtain ⟨E1, n1, rfl, hd2, -⟩ := heT.frm
               have q5 : nk + (x.b.all + x.e.all + (Sts.drp (k + 1) T).all + 1) ≤ n + T.all := q4
               have q6 : nk + (1 + cnt lv' x.b + cnt lv' x.e + cnt (lv' + 1) (Sts.drp (k + 1) T)) = n + cnt (lv' + 1) T := q1
               have q7 : (gk && (rightS post x && alR post lv' x.b && alR post lv' x.e && alR post (lv' + 1) (Sts.drp (k + 1) T))) = (gd && alR post (lv' + 1) T) := q2
               have q8 : (dk && (dpt lv' x.b && dpt lv' x.e && dpt (lv' + 1) (Sts.drp (k + 1) T))) = dpt (lv' + 1) T := q3
               have hxs := HX.out
               have z1 := x.b.len_all
               have z2 := x.e.len_all
               have z3 := cnt_all lv' x.b
               have z4 := cnt_all lv' x.e
               have hgB : g < B := hxs.2.2.1 g hsg
               have hkk : IntKind.i64.wrap ((k : Int) + 1) = ((k + 1 : Nat) : Int) := by
                 have := T.len_all
                 rw [IntKind.wrap_i64]; omega; all_goals omega
               have hlw : IntKind.i64.wrap ((lv : Int) - 1) = (lv' : Int) := by rw [IntKind.wrap_i64]; omega; all_goals omega
               have HLV := Lib.hid (And.intro hlv1 hlv)
               have HBT := Lib.hid (And.intro hbT heT)
               have HXX := Lib.hid hx
               have Hq := Lib.hid (And.intro q5 (And.intro q6 (And.intro q7 q8)))
               have HY := Lib.hid (And.intro y1 (And.intro y2 (And.intro y3 (And.intro y4 y5))))
               have HNA := Lib.hid hna
               have HGB := Lib.hid hgB
               have HZ := Lib.hid (And.intro z1 (And.intro z2 (And.intro z3 z4)))
               clear hlv1 hsg hcl hna hdr hx q1 q2 q3 q4 q5 q6 q7 q8 hbT heT hxs z1 z2 z3 z4 hgB hd1 hd2 y1 y2 y3 y4 y5
               go_wp2_with fail
               refine (tell_any g (o + k * 13) x _ _ nk gk post wr HSR.out HGB.out HXX.out ⟨_, _, rfl⟩ ⟨_, _, rfl⟩ ⟨by have := HZ.out; have := Hq.out.1; have := HX.out; omega, by have := HZ.out; have := Hq.out.1; have := HX.out; omega⟩ ⟨HY.out.2.1, HY.out.2.2.1⟩ (by have := Hq.out.1; have := HX.out; omega)).mono ?_
               rintro e w2 ⟨rfl, hst2, hb2⟩
               have hx2 := HXX.out.below hb2 HGB.out
               have fa := hx2.2 10 (by omega)
               simp only [smF] at fa
               have HS2 := Lib.hid hst2
               have HB2 := Lib.hid hb2
               have HX2 := Lib.hid hx2
               clear hst2 hb2 hx2
               go_wp2_with fail
               refine (IH.out x.b lv' _ S (nk + 1) (gk && rightS post x) w2 (by have := HX.out; have := HNA.out; omega) HY.out.2.2.2.1 (by have := HLV.out; omega) (HBT.out.1.low HX.out.2.2.1 HB2.out) HX.out.2.2.1 HS2.out (by have := Hq.out.1; have := HX.out; omega)).mono ?_
               rintro e w3 ⟨rfl, hst3, hb3⟩
               have hx3 := HX2.out.below hb3 HGB.out
               have fb := hx3.2 11 (by omega)
               simp only [smF] at fb
               have HS3 := Lib.hid hst3
               have HB3 := Lib.hid (HB2.out.trans hb3)
               clear hst3 hb3 hx3 fa
               obtain ⟨db, hdb⟩ : ∃ db, db = dpt lv' x.b := ⟨_, rfl⟩
               rw [← hdb]
               have HDB := Lib.hid hdb
               clear hdb
               cases db
               all_goals
                 go_wp2_with fail
                 refine (IH.out x.e lv' _ S (nk + 1 + cnt lv' x.b) (gk && rightS post x && alR post lv' x.b) w3 (by have := HX.out; have := HNA.out; omega) HY.out.2.2.2.2 (by have := HLV.out; omega) (HBT.out.2.low HX.out.2.2.1 HB3.out) HX.out.2.2.1 HS3.out (by have := Hq.out.1; have := HZ.out; have := HX.out; omega)).mono ?_
                 rintro e w4 ⟨rfl, hst4, hb4⟩
                 have HS4 := Lib.hid hst4
                 have HB4 := Lib.hid (HB.out.trans (HB3.out.trans hb4))
                 clear hst4 hb4
                 obtain ⟨de, hde⟩ : ∃ de, de = dpt lv' x.e := ⟨_, rfl⟩
                 rw [← hde]
                 have HDE := Lib.hid hde
                 clear hde
                 cases de
                 all_goals
                   go_wp2_with fail
                   go_roundw
                   case rel =>
                     refine ⟨k + 1, nk + 1 + cnt lv' x.b + cnt lv' x.e, gk && rightS post x && alR post lv' x.b && alR post lv' x.e, _, by omega, rfl, rfl, HS4.out, HB4.out, ?_, ?_, ?_, ?_⟩
                     · rw [HLV.out.1]; have := Hq.out.2.1; omega
                     · rw [HLV.out.1, ← Hq.out.2.2.1]
                       simp only [Bool.and_assoc]
                     · rw [HLV.out.1]
                       have h := Hq.out.2.2.2
                       rw [← HDB.out, ← HDE.out] at h
                       simpa using h
                     · have := Hq.out.1; have := HZ.out; omega
                   case measure => simp [intOf]; omega)
          · obtain rfl : k = T.len := by omega
            have b1 : ¬ ((T.len : Int) < (T.len : Int)) := by omega
            go_wp2_with fail
            go_ret
            obtain ⟨q1, q2, q3, -⟩ := HE.out
            rw [Sts.drp_len, cnt_nil] at q1
            rw [Sts.drp_len, alR_nil, Bool.and_true] at q2
            rw [Sts.drp_len, dpt_nil, Bool.and_true] at q3
            rw [← q1, ← q2, ← q3]
            exact ⟨rfl, HSR.out, HB.out⟩
end Go.Proofs.Ythmpagehmfillaa
namespace Go.Proofs.Ythmpagehmfillaa
open Go.RowKit
set_option linter.unusedSimpArgs false
set_option linter.unusedVariables false
theorem one_row {w : World} {a : Value} {t : TypeId} : (w.alloc (.cells #[a] t)).rowIs w.heap.size t 1 (fun _ => a) := ⟨#[a], heap_alloc_new w _, rfl, fun i hi => by
  match i, hi with
  | 0, _ => rfl⟩
set_option maxRecDepth 100000 in
set_option maxHeartbeats 8000000 in
theorem rightT_any (post : Bool) (T : Sts) (v : Value) (S : Nat → Prop) (w : World) (h8 : T.b8) (hn : T.all < 2 ^ 60) (hT : Tr w S v T) :
    Calls Try.prog 24 #[v, .bool post] w fun e w' => e = .returned (.bool (rightT post T)) ∧ Below w.heap.size w w' := by
  obtain ⟨A1, c1, rfl, -, -⟩ := hT.frm
  have e1 := World.size_alloc w (.cells #[.bool post] 4)
  have hb1 : Below w.heap.size w (w.alloc (.cells #[.bool post] 4)) := (Below.refl _ _).alloc (Nat.le_refl _) _
  have r1 := one_row (w := w) (a := .bool post) (t := 4)
  have HT := Lib.hid (hT.keep (w' := w.alloc (.cells #[.bool post] 4)) (S' := fun k => k < w.heap.size) (fun k _ hk => hb1.block k hk) hb1.size (fun k _ hk => hk))
  have HE := Lib.hid (And.intro e1 (And.intro h8 hn))
  have HB1 := Lib.hid hb1
  have HR1 := Lib.hid r1
  clear hT e1 h8 hn hb1 r1
  unfold rightT
  obtain ⟨a, ha⟩ : ∃ a, a = dpt 20 T := ⟨_, rfl⟩
  obtain ⟨b, hb⟩ : ∃ b, b = alR post 20 T := ⟨_, rfl⟩
  obtain ⟨n, hn⟩ : ∃ n, n = cnt 20 T := ⟨_, rfl⟩
  rw [← ha, ← hb, ← hn]
  have HAB := Lib.hid (And.intro ha (And.intro hb hn))
  clear ha hb hn
  go_enter Try.func24, Try.ntmps24
  go_wp2_with fail
  generalize w.alloc (.cells #[.bool post] 4) = W1 at *
  have e2 := World.size_alloc W1 (.cells #[.int .i64 0] 3)
  have e3 := World.size_alloc (W1.alloc (.cells #[.int .i64 0] 3)) (.cells #[.bool true] 4)
  have hb2 : Below W1.heap.size W1 (W1.alloc (.cells #[.int .i64 0] 3)) := (Below.refl _ _).alloc (Nat.le_refl _) _
  have hb3 : Below (W1.alloc (.cells #[.int .i64 0] 3)).heap.size (W1.alloc (.cells #[.int .i64 0] 3)) ((W1.alloc (.cells #[.int .i64 0] 3)).alloc (.cells #[.bool true] 4)) := (Below.refl _ _).alloc (Nat.le_refl _) _
  have r2 := below_row hb3 (one_row (w := W1) (a := .int .i64 0) (t := 3)) (by omega)
  have r3 := one_row (w := W1.alloc (.cells #[.int .i64 0] 3)) (a := .bool true) (t := 4)
  rw [e2] at r3
  have hbB : Below W1.heap.size W1 ((W1.alloc (.cells #[.int .i64 0] 3)).alloc (.cells #[.bool true] 4)) := hb2.trans (hb3.mono (by omega))
  generalize (W1.alloc (.cells #[.int .i64 0] 3)).alloc (.cells #[.bool true] 4) = W2 at *
  have hE := HE.out.1
  rw [show w.heap.size + 1 = W1.heap.size from hE.symm]
  have hrp : W2.cell? ⟨w.heap.size, 0, none⟩ = some (.bool post) := ((below_row hbB HR1.out HR1.out.lt).cell (by omega))
  have hst : StR W2 W1.heap.size W1.heap.size (W1.heap.size + 1) w.heap.size 0 true post := ⟨r2, r3, hrp, Nat.le_refl _, by omega, by omega, by omega, by omega⟩
  have HW := Lib.hid (walk_any post (T.all + 1) T 20 (.slice A1 T.len c1) (fun k => k < w.heap.size) 0 true W2 (Nat.lt_succ_self _) HE.out.2.1 (by omega) (HT.out.below hbB) (fun k hk => by omega) hst (by have := HE.out; omega))
  rw [← HAB.out.1, ← HAB.out.2.1, ← HAB.out.2.2] at HW
  have HB2 : Hid (Below w.heap.size w W2) := HB1.out.trans (hbB.mono HB1.out.size)
  have HL : Hid (w.heap.size ≤ W1.heap.size) := HB1.out.size
  clear e2 e3 hb2 hb3 r2 r3 hbB hE hrp hst HT HR1 HB1 HE
  generalize W1.heap.size = pn at *
  clear W1
  refine HW.out.mono ?_
  rintro e w3 ⟨rfl, hst, hb3⟩
  obtain ⟨q1, q2, q3, q4, q5, q6, q7, q8⟩ := hst
  have c1' : w3.cell? ⟨pn, 0, none⟩ = some (.int .i64 (0 + n : Nat)) := q1.cell (by omega)
  have c2' : w3.cell? ⟨pn + 1, 0, none⟩ = some (.bool (true && b)) := q2.cell (by omega)
  rw [Nat.zero_add] at c1'
  rw [Bool.true_and] at c2'
  have HB3 : Hid (Below w.heap.size w w3) := HB2.out.trans (hb3.mono HL.out)
  clear q1 q2 q3 q4 q5 q6 q7 q8 hb3 HW HB2 HL
  cases a with
  | false =>
    go_wp2_with fail
    go_ret
    exact ⟨rfl, HB3.out⟩
  | true =>
    cases b with
    | false =>
      go_wp2_with fail
      go_ret
      exact ⟨rfl, HB3.out⟩
    | true =>
      by_cases h5 : n ≤ 500
      · have h5I : (n : Int) ≤ 500 := by omega
        have H5 := Lib.hid h5
        clear h5
        go_wp2_with fail
        go_ret
        exact ⟨by rw [decide_eq_true H5.out]; rfl, HB3.out⟩
      · have h5I : ¬ (n : Int) ≤ 500 := by omega
        have H5 : Hid (¬ n ≤ 500) := h5
        clear h5
        go_wp2_with fail
        go_ret
        refine ⟨?_, HB3.out⟩
        rw [decide_eq_false H5.out]
        first
          | rfl
          | (show Ending.returned (.bool (decide ((n : Int) ≤ 500))) = _; rw [decide_eq_false (show ¬ (n : Int) ≤ 500 by omega)]; rfl)
set_option maxRecDepth 100000 in
set_option maxHeartbeats 8000000 in
theorem configT_any (c : CfgS) (vp vc vq : Value) (S : Nat → Prop) (w : World) (hvp : ∃ A n k, vp = .slice A n k) (h8 : c.code.b8 ∧ c.post.b8) (hn : c.code.all < 2 ^ 60 ∧ c.post.all < 2 ^ 60) (hc : Tr w S vc c.code) (hq : Tr w S vq c.post) :
    Calls Try.prog 45 #[.agg (cfgA c.h c.m c.ph c.pm vp vc vq c.has)] w fun e w' => e = .returned (.bool (configT c)) ∧ Below w.heap.size w w' := by
  obtain ⟨A1, n1, d1, rfl⟩ := hvp
  obtain ⟨A3, n3, rfl, -, -⟩ := hc.frm
  obtain ⟨A5, n5, rfl, -, -⟩ := hq.frm
  have HC := Lib.hid hc
  have HQ := Lib.hid hq
  have HX := Lib.hid (And.intro h8 hn)
  obtain ⟨z, hz⟩ : ∃ z, z = (decide (c.post.len = 0) && decide (c.ph = 0) && decide (c.pm = 0)) := ⟨_, rfl⟩
  obtain ⟨x1, hx1⟩ : ∃ x, x = rightT false c.code := ⟨_, rfl⟩
  obtain ⟨x2, hx2⟩ : ∃ x, x = rightT true c.post := ⟨_, rfl⟩
  unfold configT
  rw [← hz, ← hx1, ← hx2]
  have H1 := Lib.hid (fun W (hb : Below w.heap.size w W) => hx1 ▸ rightT_any false c.code _ S W h8.1 hn.1 (hc.below hb))
  have H2 := Lib.hid (fun W (hb : Below w.heap.size w W) => hx2 ▸ rightT_any true c.post _ S W h8.2 hn.2 (hq.below hb))
  have main : (((c.post.len : Int) == 0) = false ∧ z = false) ∨ (((c.post.len : Int) == 0) = true ∧ (c.ph == 0) = false ∧ z = false) ∨ (((c.post.len : Int) == 0) = true ∧ (c.ph == 0) = true ∧ (c.pm == 0) = false ∧ z = false) ∨ (((c.post.len : Int) == 0) = true ∧ (c.ph == 0) = true ∧ (c.pm == 0) = true ∧ z = true) := by
    rw [hz]
    by_cases h1 : c.post.len = 0
    · have e1 : ((c.post.len : Int) == 0) = true := by rw [h1]; rfl
      by_cases h2 : c.ph = 0
      · by_cases h3 : c.pm = 0
        · simp [h1, h2, h3]
        · simp [h1, h2, h3]
      · simp [h1, h2]
    · have e1 : ((c.post.len : Int) == 0) = false := by rw [beq_eq_false_iff_ne]; omega
      exact .inl ⟨e1, by simp [h1]⟩
  have hb1 : Below w.heap.size w (w.alloc (.cells (cfgA c.h c.m c.ph c.pm (.slice A1 n1 d1) (.slice A3 c.code.len n3) (.slice A5 c.post.len n5) c.has) 62)) := (Below.refl _ _).alloc (Nat.le_refl _) _
  have HB1 := Lib.hid hb1
  have HCR := Lib.hid (cfg_row (heap_alloc_new w (.cells (cfgA c.h c.m c.ph c.pm (.slice A1 n1 d1) (.slice A3 c.code.len n3) (.slice A5 c.post.len n5) c.has) 62)))
  clear hc hq h8 hn HC HQ HX hz hx1 hx2 hb1
  unfold cfgA at *
  generalize c.has = hs at *
  rcases main with ⟨i1, rfl⟩ | ⟨i1, i2, rfl⟩ | ⟨i1, i2, i3, rfl⟩ | ⟨i1, i2, i3, rfl⟩
  all_goals
    go_enter Try.func45, Try.ntmps45
    go_wp2_with fail
    refine (H1.out _ HB1.out).mono ?_
    rintro e w2 ⟨rfl, hb2⟩
    have hr2 := below_row hb2 HCR.out HCR.out.lt
    have HR2 := Lib.hid hr2
    have HB2 := Lib.hid (HB1.out.trans (hb2.mono HB1.out.size))
    have c6 : w2.cell? ⟨w.heap.size, 6, none⟩ = some (.slice A5 c.post.len n5) := hr2.cell (by omega)
    clear hr2 hb2
    cases x1 with
    | false =>
      go_wp2_with fail
      go_ret
      exact ⟨rfl, HB2.out⟩
    | true =>
      go_wp2_with fail
      refine (H2.out _ HB2.out).mono ?_
      rintro e w3 ⟨rfl, hb3⟩
      have hr3 := below_row hb3 HR2.out HR2.out.lt
      have HB3 := Lib.hid (HB2.out.trans (hb3.mono HB2.out.size))
      have c7 : w3.cell? ⟨w.heap.size, 7, none⟩ = some (.bool hs) := hr3.cell (by omega)
      clear hr3 hb3
      cases x2 with
      | false =>
        go_wp2_with fail
        go_ret
        exact ⟨rfl, HB3.out⟩
      | true =>
        cases hs with
        | false =>
          go_wp2_with fail
          go_ret
          exact ⟨rfl, HB3.out⟩
        | true =>
          go_wp2_with fail
          go_ret
          exact ⟨rfl, HB3.out⟩
end Go.Proofs.Ythmpagehmfillaa
