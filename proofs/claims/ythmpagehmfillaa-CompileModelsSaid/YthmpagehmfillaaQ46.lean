/-
  THE WALKS OF valid's each and Check. Conditions: the bytes read so.
  THE WALK OF valid.each with Check's closure. Conditions: the bytes read so.
-/
import Derived.Test.YthmpagehmfillaaQ45
import Derived.Test.YthmpagehmfillaaQ10
namespace Go.Proofs.Ythmpagehmfillaa
open Go.RowKit
open Go.Maps (has)
set_option linter.unusedSimpArgs false
set_option linter.unusedVariables false
set_option maxRecDepth 100000
abbrev oneU : DataW Unit := .lit (.int .i64 1)
theorem K3 : Maps.Keyed Try.prog 3 := Maps.int_keyed Try.underlying3
theorem one_elem : plainElem (H := Unit) Try.prog 3 (.int .i64 1) = some (.lit (.int .i64 1), []) := plainElem_int Try.underlying3 (by decide)
theorem key_mk {a : Int} (h : 0 ≤ a ∧ a ≤ 100000) : keyOf Try.prog 3 (.int .i64 a) = some (.int .i64 a) := by
  refine Maps.keyOf_int_mk Try.underlying3 ?_
  simp [Lit.wf, IntKind.min, IntKind.max, IntKind.signed, IntKind.bits]
  omega
/-- A map of the call's own: these keys, each with a one. -/
def MpK (w : World) (m n : Nat) (l : List Lit) : Prop := w.ownsMap Try.prog 3 (plainElem (H := Unit) Try.prog 3) m n (Maps.setOf oneU l)
/-- What Check keeps while its instructions are told: all in blocks from B on. -/
def CkR (B : Nat) (post : Bool) (L : List (Nat × InsS)) (w : World) : Prop :=
  (w.rowIs B 4 1 (fun _ => .bool post) ∧ w.rowIs (B + 3) 74 1 (fun _ => .map (some (B + 1))) ∧ w.rowIs (B + 4) 74 1 (fun _ => .map (some (B + 2))) ∧ w.rowIs (B + 5) 4 1 (fun _ => .bool (goodF post L)) ∧ w.rowIs (B + 6) 54 1 (fun _ => .int .u8 (lastF L))) ∧
    MpK w (B + 1) L.length (startL L) ∧ MpK w (B + 2) L.length (goesL L)
theorem CkR.below {B : Nat} {post : Bool} {L : List (Nat × InsS)} {w w' : World} (h : CkR B post L w) (hb : Below w.heap.size w w') : CkR B post L w' := by
  obtain ⟨⟨h1, h2, h3, h4, h5⟩, h6, h7⟩ := h
  exact ⟨⟨below_row hb h1 h1.lt, below_row hb h2 h2.lt, below_row hb h3 h3.lt, below_row hb h4 h4.lt, below_row hb h5 h5.lt⟩, h6.kept (grown_of_below hb none) (by simp), h7.kept (grown_of_below hb none) (by simp)⟩
theorem ck_fin {B : Nat} {post : Bool} {L : List (Nat × InsS)} {x : Nat × InsS} {W : World} (v : Bool) (hv : goodF post (L ++ [x]) = v) {f f' : Nat → Value} (q1 : W.rowIs B 4 1 (fun _ => .bool post)) (q2 : W.rowIs (B + 3) 74 1 (fun _ => .map (some (B + 1)))) (q3 : W.rowIs (B + 4) 74 1 (fun _ => .map (some (B + 2)))) (q4 : W.rowIs (B + 5) 4 1 f) (q5 : W.rowIs (B + 6) 54 1 f')
    (m1 : MpK W (B + 1) (L ++ [x]).length (startL (L ++ [x]))) (m2 : MpK W (B + 2) (L ++ [x]).length (goesL (L ++ [x]))) : CkR B post (L ++ [x]) ((W.setCell ⟨B + 5, 0, none⟩ (.bool v)).setCell ⟨B + 6, 0, none⟩ (.int .u8 x.2.o)) := by
  refine ⟨⟨row_oth (row_oth q1 (by omega) 0 _) (by omega) 0 _, row_oth (row_oth q2 (by omega) 0 _) (by omega) 0 _, row_oth (row_oth q3 (by omega) 0 _) (by omega) 0 _, row_oth ((q4.set 0 _).congr fun i hi => ?_) (by omega) 0 _, ((row_oth q5 (show B + 6 ≠ B + 5 by omega) 0 (.bool v)).set 0 _).congr fun i hi => ?_⟩, (m1.setCell (by simp) _).setCell (by simp) _, (m2.setCell (by simp) _).setCell (by simp) _⟩
  · obtain rfl : i = 0 := by omega
    rw [hv]
    rfl
  · obtain rfl : i = 0 := by omega
    rw [lastF_snoc]
    rfl
set_option maxHeartbeats 8000000 in
theorem ck1_any (B : Nat) (post : Bool) (L : List (Nat × InsS)) (p : Nat) (i : InsS) (w : World) (hp : p ≤ 65536) (hn : 0 ≤ i.n ∧ i.n ≤ 65535) (hL : L.length ≤ 5000) (h : CkR B post L w) :
    Calls Try.prog 22 #[.int .i64 p, .agg #[.int .u8 i.o, .int .i64 i.d, .int .i64 i.s, .int .i64 i.n], .pointer (some ⟨B + 3, 0, none⟩), .pointer (some ⟨B + 4, 0, none⟩), .pointer (some ⟨B + 5, 0, none⟩), .pointer (some ⟨B, 0, none⟩), .pointer (some ⟨B + 6, 0, none⟩)] w fun e w' => e = .returned (.tuple #[]) ∧ CkR B post (L ++ [(p, i)]) w' ∧ Below B w w' := by
  have hba : Below w.heap.size w (w.alloc (.cells #[.int .u8 i.o, .int .i64 i.d, .int .i64 i.s, .int .i64 i.n] 56)) := (Below.refl _ _).alloc (Nat.le_refl _) _
  have hrow := in_row w i.o i.d i.s i.n
  have h2 := h.below hba
  have hBw : B + 6 < w.heap.size := h.1.2.2.2.2.lt
  obtain ⟨o, d, s, n⟩ := i
  (try dsimp only at hn hrow hba h2 ⊢)
  generalize hw1 : w.alloc (.cells #[.int .u8 o, .int .i64 d, .int .i64 s, .int .i64 n] 56) = w1 at *
  obtain ⟨⟨q1, q2, q3, q4, q5⟩, m1, m2⟩ := h2
  have c2 := q2.cell (show 0 < 1 by omega)
  have HX := Lib.hid (And.intro hp (And.intro hn (And.intro hL hBw)))
  have HQ := Lib.hid (And.intro q1 (And.intro q2 (And.intro q3 (And.intro q4 (And.intro q5 (And.intro m1 (And.intro m2 (And.intro hrow hba))))))))
  have HM1 := Lib.hid m1
  clear q1 q2 q3 q4 q5 m1 m2 hrow hba h hp hn hL hBw
  subst hw1
  go_enter Try.func22, Try.ntmps22
  go_upto_region 1 with fail
  generalize w.alloc (.cells #[.int .u8 o, .int .i64 d, .int .i64 s, .int .i64 n] 56) = w1 at *
  go_upto_region 2 with (first | (at_mapUpdate; refine wpList_mapUpdate_own _ rfl _ _ _ 74 rfl 3 3 K3 Try.underlying74 _ (B + 1) L.length _ rfl HM1.out (by have := HX.out; unfold maxLen; omega) _ _ (.int .i64 (p : Nat)) rfl rfl (key_mk (by have := HX.out; omega)) oneU [] one_elem ?_; intro w2 hown1 hgrow1) | fail)
  have HM2 : Hid (MpK w2 (B + 1) (L ++ [(p, (⟨o, d, s, n⟩ : InsS))]).length (startL (L ++ [(p, (⟨o, d, s, n⟩ : InsS))]))) := by rw [List.length_append, startL_snoc, MpK, Maps.setOf_snoc]; exact hown1
  have HG2 := Lib.hid (And.intro (grown_row hgrow1 HQ.out.1 (by omega)) (And.intro (grown_row hgrow1 HQ.out.2.1 (by omega)) (And.intro (grown_row hgrow1 HQ.out.2.2.1 (by omega)) (And.intro (grown_row hgrow1 HQ.out.2.2.2.1 (by omega)) (And.intro (grown_row hgrow1 HQ.out.2.2.2.2.1 (by omega)) (grown_row hgrow1 HQ.out.2.2.2.2.2.2.2.1 (by have := HX.out; omega)))))))
  have HM3 := Lib.hid (show MpK w2 (B + 2) L.length (goesL L) from HQ.out.2.2.2.2.2.2.1.kept hgrow1 (by simp))
  have HB2 : Hid (Below B w w2) := below_of_grown (HQ.out.2.2.2.2.2.2.2.2.mono (Nat.le_trans (Nat.le_add_right _ _) (Nat.le_of_lt HX.out.2.2.2))) hgrow1 (Nat.le_trans (Nat.le_trans (Nat.le_add_right _ _) (Nat.le_of_lt HX.out.2.2.2)) HQ.out.2.2.2.2.2.2.2.2.size) (Nat.le_succ _)
  clear hown1 hgrow1 HM1 HQ c2
  obtain ⟨q1, q2, q3, q4, q5, qi⟩ := HG2.out
  have i0c := qi.cell (show 0 < 4 by omega)
  have i3c := qi.cell (show 3 < 4 by omega)
  have c4 := q3.cell (show 0 < 1 by omega)
  dsimp only [inF] at i0c i3c
  go_frame
  by_cases h27 : 27 ≤ o
  · have i27 : (27 : Int) ≤ (o : Int) := by omega
    go_upto_region 4 with (first | (at_mapUpdate; refine wpList_mapUpdate_own _ rfl _ _ _ 74 rfl 3 3 K3 Try.underlying74 _ (B + 2) L.length _ rfl HM3.out (by have := HX.out; unfold maxLen; omega) _ _ (.int .i64 n) rfl rfl (key_mk (by have := HX.out; omega)) oneU [] one_elem ?_; intro w3 hown1 hgrow1) | fail)
    have HM4 : Hid (MpK w3 (B + 2) (L ++ [(p, (⟨o, d, s, n⟩ : InsS))]).length (goesL (L ++ [(p, (⟨o, d, s, n⟩ : InsS))]))) := by rw [List.length_append, goesL_snoc, if_pos h27, MpK, Maps.setOf_snoc]; exact hown1
    have HM2' := Lib.hid (show MpK w3 (B + 1) _ _ from HM2.out.kept hgrow1 (by simp))
    have HG3 := Lib.hid (And.intro (grown_row hgrow1 q1 (by omega)) (And.intro (grown_row hgrow1 q2 (by omega)) (And.intro (grown_row hgrow1 q3 (by omega)) (And.intro (grown_row hgrow1 q4 (by omega)) (And.intro (grown_row hgrow1 q5 (by omega)) (grown_row hgrow1 qi (by have := HX.out; omega)))))))
    have HB3 : Hid (Below B w w3) := below_of_grown HB2.out hgrow1 (Nat.le_trans (Nat.le_trans (Nat.le_add_right _ _) (Nat.le_of_lt HX.out.2.2.2)) HB2.out.size) (Nat.le_add_right _ _)
    clear hown1 hgrow1 HM2 HM3 HG2 HB2 q1 q2 q3 q4 q5 qi i0c i3c c4
    obtain ⟨q1, q2, q3, q4, q5, qi⟩ := HG3.out
    go_frame
    have i26 : ((o : Int) == 26) = false := by rw [beq_eq_false_iff_ne]; omega
    have HV : Hid (∀ g, goodF post L = g → goodF post (L ++ [(p, (⟨o, d, s, n⟩ : InsS))]) = g) := fun g hg => by rw [goodF_snoc, hg]; dsimp only; rw [decide_eq_true (by omega)]; cases g <;> cases post <;> rfl
    obtain ⟨g, hg⟩ : ∃ g, goodF post L = g := ⟨_, rfl⟩
    rw [hg] at q4
    have hv := HV.out g hg
    have e4 := q4.cell (show 0 < 1 by omega)
    have e3 := q1.cell (show 0 < 1 by omega)
    have e5 := q5.cell (show 0 < 1 by omega)
    have y4 := q4.frozen 0
    have y5 := q5.frozen 0
    have n58 : w.heap.size ≠ B + 5 := by have := HX.out; omega
    have n85 : B + 5 ≠ w.heap.size := by have := HX.out; omega
    have i0c := qi.cell (show 0 < 4 by omega)
    dsimp only [inF] at i0c
    have HQF := Lib.hid (And.intro q1 (And.intro q2 (And.intro q3 (And.intro q4 q5))))
    have HVV := Lib.hid hv
    clear hg hv HV q1 q2 q3 q4 q5 qi
    cases g with
    | false =>
      go_wp2_with fail
      go_end0
      exact ⟨rfl, ck_fin false HVV.out HQF.out.1 HQF.out.2.1 HQF.out.2.2.1 HQF.out.2.2.2.1 HQF.out.2.2.2.2 HM2'.out HM4.out, (HB3.out.setCell (p := ⟨B + 5, 0, none⟩) (Nat.le_add_right _ _) _).setCell (p := ⟨B + 6, 0, none⟩) (Nat.le_add_right _ _) _⟩
    | true =>
      cases post with
      | false =>
        go_wp2_with fail
        go_end0
        exact ⟨rfl, ck_fin _ (HVV.out.trans (by first | rfl | (rw [bne, i26]; rfl))) HQF.out.1 HQF.out.2.1 HQF.out.2.2.1 HQF.out.2.2.2.1 HQF.out.2.2.2.2 HM2'.out HM4.out, (HB3.out.setCell (p := ⟨B + 5, 0, none⟩) (Nat.le_add_right _ _) _).setCell (p := ⟨B + 6, 0, none⟩) (Nat.le_add_right _ _) _⟩
      | true =>
        go_wp2_with fail
        go_end0
        exact ⟨rfl, ck_fin _ (HVV.out.trans (by first | rfl | (rw [bne, i26]; rfl))) HQF.out.1 HQF.out.2.1 HQF.out.2.2.1 HQF.out.2.2.2.1 HQF.out.2.2.2.2 HM2'.out HM4.out, (HB3.out.setCell (p := ⟨B + 5, 0, none⟩) (Nat.le_add_right _ _) _).setCell (p := ⟨B + 6, 0, none⟩) (Nat.le_add_right _ _) _⟩
  · have i27 : ¬ (27 : Int) ≤ (o : Int) := by omega
    have HM4 : Hid (MpK w2 (B + 2) (L ++ [(p, (⟨o, d, s, n⟩ : InsS))]).length (goesL (L ++ [(p, (⟨o, d, s, n⟩ : InsS))]))) := by rw [List.length_append, goesL_snoc, if_neg h27]; exact HM3.out.mono (Nat.le_succ _)
    go_upto_region 4 with fail
    clear i0c i3c c4 HM3
    by_cases h26 : o = 26
    · have i26 : ((o : Int) == 26) = true := by rw [h26]; rfl
      have HV : Hid (∀ g, goodF post L = g → goodF post (L ++ [(p, (⟨o, d, s, n⟩ : InsS))]) = (g && post)) := fun g hg => by rw [goodF_snoc, hg]; dsimp only; rw [decide_eq_false (by omega)]; cases g <;> cases post <;> rfl
      clear h26
      obtain ⟨g, hg⟩ : ∃ g, goodF post L = g := ⟨_, rfl⟩
      rw [hg] at q4
      have hv := HV.out g hg
      have e4 := q4.cell (show 0 < 1 by omega)
      have e3 := q1.cell (show 0 < 1 by omega)
      have e5 := q5.cell (show 0 < 1 by omega)
      have y4 := q4.frozen 0
      have y5 := q5.frozen 0
      have n58 : w.heap.size ≠ B + 5 := by have := HX.out; omega
      have n85 : B + 5 ≠ w.heap.size := by have := HX.out; omega
      have i0c := qi.cell (show 0 < 4 by omega)
      dsimp only [inF] at i0c
      have HQF := Lib.hid (And.intro q1 (And.intro q2 (And.intro q3 (And.intro q4 q5))))
      have HVV := Lib.hid hv
      clear hg hv HV q1 q2 q3 q4 q5 qi
      cases g with
      | false =>
        go_wp2_with fail
        go_end0
        exact ⟨rfl, ck_fin false HVV.out HQF.out.1 HQF.out.2.1 HQF.out.2.2.1 HQF.out.2.2.2.1 HQF.out.2.2.2.2 HM2.out HM4.out, (HB2.out.setCell (p := ⟨B + 5, 0, none⟩) (Nat.le_add_right _ _) _).setCell (p := ⟨B + 6, 0, none⟩) (Nat.le_add_right _ _) _⟩
      | true =>
        cases post with
        | false =>
          go_wp2_with fail
          go_end0
          exact ⟨rfl, ck_fin _ (HVV.out.trans (by first | rfl | (rw [bne, i26]; rfl))) HQF.out.1 HQF.out.2.1 HQF.out.2.2.1 HQF.out.2.2.2.1 HQF.out.2.2.2.2 HM2.out HM4.out, (HB2.out.setCell (p := ⟨B + 5, 0, none⟩) (Nat.le_add_right _ _) _).setCell (p := ⟨B + 6, 0, none⟩) (Nat.le_add_right _ _) _⟩
        | true =>
          go_wp2_with fail
          go_end0
          exact ⟨rfl, ck_fin _ (HVV.out.trans (by first | rfl | (rw [bne, i26]; rfl))) HQF.out.1 HQF.out.2.1 HQF.out.2.2.1 HQF.out.2.2.2.1 HQF.out.2.2.2.2 HM2.out HM4.out, (HB2.out.setCell (p := ⟨B + 5, 0, none⟩) (Nat.le_add_right _ _) _).setCell (p := ⟨B + 6, 0, none⟩) (Nat.le_add_right _ _) _⟩
    · have i26 : ((o : Int) == 26) = false := by rw [beq_eq_false_iff_ne]; omega
      have HV : Hid (∀ g, goodF post L = g → goodF post (L ++ [(p, (⟨o, d, s, n⟩ : InsS))]) = g) := fun g hg => by rw [goodF_snoc, hg]; dsimp only; rw [decide_eq_true (by omega)]; cases g <;> cases post <;> rfl
      clear h26
      obtain ⟨g, hg⟩ : ∃ g, goodF post L = g := ⟨_, rfl⟩
      rw [hg] at q4
      have hv := HV.out g hg
      have e4 := q4.cell (show 0 < 1 by omega)
      have e3 := q1.cell (show 0 < 1 by omega)
      have e5 := q5.cell (show 0 < 1 by omega)
      have y4 := q4.frozen 0
      have y5 := q5.frozen 0
      have n58 : w.heap.size ≠ B + 5 := by have := HX.out; omega
      have n85 : B + 5 ≠ w.heap.size := by have := HX.out; omega
      have i0c := qi.cell (show 0 < 4 by omega)
      dsimp only [inF] at i0c
      have HQF := Lib.hid (And.intro q1 (And.intro q2 (And.intro q3 (And.intro q4 q5))))
      have HVV := Lib.hid hv
      clear hg hv HV q1 q2 q3 q4 q5 qi
      cases g with
      | false =>
        go_wp2_with fail
        go_end0
        exact ⟨rfl, ck_fin false HVV.out HQF.out.1 HQF.out.2.1 HQF.out.2.2.1 HQF.out.2.2.2.1 HQF.out.2.2.2.2 HM2.out HM4.out, (HB2.out.setCell (p := ⟨B + 5, 0, none⟩) (Nat.le_add_right _ _) _).setCell (p := ⟨B + 6, 0, none⟩) (Nat.le_add_right _ _) _⟩
      | true =>
        cases post with
        | false =>
          go_wp2_with fail
          go_end0
          exact ⟨rfl, ck_fin _ (HVV.out.trans (by first | rfl | (rw [bne, i26]; rfl))) HQF.out.1 HQF.out.2.1 HQF.out.2.2.1 HQF.out.2.2.2.1 HQF.out.2.2.2.2 HM2.out HM4.out, (HB2.out.setCell (p := ⟨B + 5, 0, none⟩) (Nat.le_add_right _ _) _).setCell (p := ⟨B + 6, 0, none⟩) (Nat.le_add_right _ _) _⟩
        | true =>
          go_wp2_with fail
          go_end0
          exact ⟨rfl, ck_fin _ (HVV.out.trans (by first | rfl | (rw [bne, i26]; rfl))) HQF.out.1 HQF.out.2.1 HQF.out.2.2.1 HQF.out.2.2.2.1 HQF.out.2.2.2.2 HM2.out HM4.out, (HB2.out.setCell (p := ⟨B + 5, 0, none⟩) (Nat.le_add_right _ _) _).setCell (p := ⟨B + 6, 0, none⟩) (Nat.le_add_right _ _) _⟩
end Go.Proofs.Ythmpagehmfillaa
namespace Go.Proofs.Ythmpagehmfillaa
open Go.RowKit
set_option linter.unusedSimpArgs false
set_option linter.unusedVariables false
set_option maxRecDepth 100000
def fnC (B : Nat) : Value := .func (.func 22) #[] #[.pointer (some ⟨B + 3, 0, none⟩), .pointer (some ⟨B + 4, 0, none⟩), .pointer (some ⟨B + 5, 0, none⟩), .pointer (some ⟨B, 0, none⟩), .pointer (some ⟨B + 6, 0, none⟩)]
def EcR (post : Bool) (b : List Nat) (w : World) (s5 : Value) (wr : World) : Prop :=
  ∃ (p n : Nat) (L : List (Nat × InsS)), s5 = .int .i64 p ∧ p ≤ b.length ∧ b.length ≤ p + n ∧ CkR w.heap.size post L wr ∧ Below w.heap.size w wr ∧ L.length ≤ p ∧ eachF b.length b 0 = (eachF n b p).map (L ++ ·)
def EcP (post : Bool) (b : List Nat) (w : World) (e : Ending) (w' : World) : Prop := e = .returned (.int .i64 (eachE b)) ∧ Below w.heap.size w w' ∧ (eachE b = 0 → ∃ L, eachF b.length b 0 = some L ∧ L.length ≤ 4096 ∧ CkR w.heap.size post L w')
set_option maxHeartbeats 8000000 in
theorem each_chk (post : Bool) (b : List Nat) (A : Option Addr) (c : Nat) (w w1 : World) (hR : Rd w A b) (hb1 : Below w.heap.size w w1) (hC : CkR w.heap.size post [] w1) :
    Calls Try.prog 21 #[.slice A b.length c, fnC w.heap.size] w1 (EcP post b w) := by
  have HR := Lib.hid hR
  have HB1 := Lib.hid hb1
  unfold fnC
  by_cases h4 : 4096 < b.length
  · have i4 : (4096 : Int) < (b.length : Int) := by omega
    have hE : eachE b = 3 := by unfold eachE; rw [if_pos h4]
    have HE := Lib.hid hE
    clear h4 hE hR hb1 hC
    go_enter Try.func21, Try.ntmps21
    go_wp2_with fail
    go_ret
    exact ⟨by rw [HE.out]; rfl, HB1.out, fun h => by rw [HE.out] at h; cases h⟩
  have i4 : ¬ (4096 : Int) < (b.length : Int) := by omega
  by_cases h0 : b.length = 0
  · have i0' : ((b.length : Int) == 0) = true := by rw [h0]; rfl
    have hE : eachE b = 110 := by unfold eachE; rw [if_neg h4, if_pos h0]
    have HE := Lib.hid hE
    clear h4 h0 hE hR hb1 hC
    go_enter Try.func21, Try.ntmps21
    go_wp2_with fail
    go_ret
    exact ⟨by rw [HE.out]; rfl, HB1.out, fun h => by rw [HE.out] at h; cases h⟩
  have i0' : ((b.length : Int) == 0) = false := by rw [beq_eq_false_iff_ne]; omega
  have hE : eachE b = if (eachF b.length b 0).isNone then 110 else 0 := by unfold eachE; rw [if_neg h4, if_neg h0]
  have HE := Lib.hid hE
  have HL := Lib.hid (show b.length ≤ 4096 by omega)
  have R0 : EcR post b w (.int .i64 0) w1 := ⟨0, b.length, [], rfl, Nat.zero_le _, by omega, hC, hb1, Nat.le_refl _, by cases eachF b.length b 0 <;> rfl⟩
  have HR0 := Lib.hid R0
  clear h4 h0 hE hR hb1 hC R0
  go_enter Try.func21, Try.ntmps21
  go_wp2_with fail
  go_loopw [5] (fun s5 wr => EcR post b w s5 wr) (fun s _ => b.length - (intOf s).toNat)
  case atStart => exact HR0.out
  case round =>
    clear HR0
    obtain ⟨p, n, L, rfl, hp, hn, hck, hbw, hlp, heq⟩ := hrel
    by_cases hlt : p < b.length
    · have j1 : (p : Int) < (b.length : Int) := by omega
      obtain ⟨n', rfl⟩ : ∃ n', n = n' + 1 := ⟨n - 1, by omega⟩
      have hrd : Rd wr A b := HR.out.below hbw
      have HG := Lib.hid (get_any b p A c wr hrd hlt (by have := HL.out; omega))
      have hnx := getR_next (b := b) (p := p)
      have heq' : eachF b.length b 0 = (if (getR b p).2.2 = 0 then (eachF n' b (getR b p).2.1).map ((p, (getR b p).1) :: ·) else none).map (L ++ ·) := by
        rw [heq]
        show (eachF (n' + 1) b p).map _ = _
        rw [show eachF (n' + 1) b p = if b.length ≤ p then some [] else if (getR b p).2.2 = 0 then (eachF n' b (getR b p).2.1).map ((p, (getR b p).1) :: ·) else none from rfl, if_neg (by omega)]
      have HP := Lib.hid (And.intro hlt (And.intro hn hlp))
      unfold GetP at HG
      generalize getR b p = r at HG hnx heq'
      obtain ⟨i, q, z⟩ := r
      obtain ⟨o, d, s, nn⟩ := i
      unfold getV at HG
      dsimp only at HG hnx heq'
      have HNX := Lib.hid hnx
      have HEQ := Lib.hid heq'
      have HCK := Lib.hid hck
      have HBW := Lib.hid hbw
      clear hlt hn hlp hp heq heq' hnx hck hbw hrd
      go_wp2_with fail
      refine HG.out.mono ?_
      rintro e w3 ⟨rfl, hb3⟩
      have HB3 := Lib.hid hb3
      clear hb3 HG
      by_cases hz : z = 0
      · subst hz
        have HQ := Lib.hid (HNX.out rfl)
        have jz : (((0 : Nat) : Int) == 0) = true := rfl
        have hba : Below w3.heap.size w3 (w3.alloc (.cells #[.int .u8 o, .int .i64 d, .int .i64 s, .int .i64 nn] 56)) := (Below.refl _ _).alloc (Nat.le_refl _) _
        have HCL := Lib.hid (ck1_any w.heap.size post L p ⟨o, d, s, nn⟩ (w3.alloc (.cells #[.int .u8 o, .int .i64 d, .int .i64 s, .int .i64 nn] 56)) (by have := HP.out; have := HL.out; omega) HQ.out.2.2.2 (by have := HP.out; have := HL.out; omega) ((HCK.out.below HB3.out).below hba))
        have HBA := Lib.hid (HBW.out.trans ((HB3.out.trans (hba.mono HB3.out.size)).mono HBW.out.size))
        clear hba HNX
        go_wp2_with fail
        refine HCL.out.mono ?_
        rintro e w5 ⟨rfl, hck5, hb5⟩
        have HC5 := Lib.hid hck5
        have HB5 := Lib.hid (HBA.out.trans hb5)
        clear hck5 hb5 HCL
        go_wp2_with fail
        go_roundw
        case rel =>
          refine ⟨q, n', L ++ [(p, ⟨o, d, s, nn⟩)], rfl, HQ.out.2.1, by have := HQ.out; have := HP.out; omega, HC5.out, HB5.out, by have := HQ.out; have := HP.out; simp only [List.length_append, List.length_singleton]; omega, ?_⟩
          rw [HEQ.out]
          first | rw [if_pos trivial] | rw [if_pos rfl]
          rw [Option.map_map]
          congr 1
          funext l
          simp
        case measure => have := HQ.out; have := HP.out; simp [intOf]; omega
      · have jz : ((z : Int) == 0) = false := by rw [beq_eq_false_iff_ne]; omega
        have hE : eachE b = 110 := by rw [HE.out, HEQ.out, if_neg hz]; rfl
        have HE' := Lib.hid hE
        clear hz hE
        go_wp2_with fail
        go_ret
        exact ⟨by rw [HE'.out]; rfl, (HBW.out.trans (HB3.out.mono HBW.out.size)).alloc (Nat.le_trans HBW.out.size HB3.out.size) _, fun h => by rw [HE'.out] at h; cases h⟩
    · obtain rfl : p = b.length := by omega
      have j1 : ¬ ((b.length : Int) < (b.length : Int)) := by omega
      have hf : eachF b.length b 0 = some L := by
        rw [heq]
        cases n with
        | zero => show (if b.length ≤ b.length then some [] else none : Option (List (Nat × InsS))).map _ = _; rw [if_pos (Nat.le_refl _)]; simp
        | succ n => show (if b.length ≤ b.length then some [] else _ : Option (List (Nat × InsS))).map _ = _; rw [if_pos (Nat.le_refl _)]; simp
      have HF := Lib.hid (And.intro hf (And.intro hck (And.intro hbw hlp)))
      clear hf hck hbw hlp heq hn hp
      go_wp2_with fail
      go_ret
      exact ⟨by rw [HE.out, HF.out.1]; rfl, HF.out.2.2.1, fun _ => ⟨L, HF.out.1, Nat.le_trans HF.out.2.2.2 HL.out, HF.out.2.1⟩⟩
end Go.Proofs.Ythmpagehmfillaa
