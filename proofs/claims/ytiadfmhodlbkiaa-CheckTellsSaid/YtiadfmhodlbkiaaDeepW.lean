/-
  THE WALKS OF quillpresskit.deep, Deep: where they tell false, the tree is no deeper and no greater than asked. Conditions: each list has at most 2^40 statements.
-/
import Derived.Test.YtiadfmhodlbkiaaSynW4
namespace Go.Proofs.Ytiadfmhodlbkiaa
open Go.RowKit
set_option linter.unusedSimpArgs false
set_option linter.unusedVariables false
/-- No list within is longer than 2^40. -/
def Sts.inn : Sts → Prop
  | .nil => True
  | .cons _ _ _ b e _ r => (b.len ≤ 1099511627776 ∧ b.inn) ∧ (e.len ≤ 1099511627776 ∧ e.inn) ∧ r.inn
theorem Sts.inn_nth : ∀ {T : Sts} {j : Nat}, T.inn → j < T.len → ((T.nth j).b.len ≤ 1099511627776 ∧ (T.nth j).b.inn) ∧ ((T.nth j).e.len ≤ 1099511627776 ∧ (T.nth j).e.inn)
  | .nil, _, _, h => absurd h (Nat.not_lt_zero _)
  | .cons k i c b e ln r, 0, h, _ => ⟨h.1, h.2.1⟩
  | .cons k i c b e ln r, j + 1, h, hj => Sts.inn_nth (T := r) (j := j) h.2.2 (by have : j + 1 < r.len + 1 := hj; omega)
theorem Sts.drp_len' : ∀ {T : Sts} {j : Nat}, j ≤ T.len → (Sts.drp j T).len = T.len - j
  | .nil, 0, _ => rfl
  | .nil, j + 1, h => absurd h (Nat.not_succ_le_zero _)
  | .cons k i c b e ln r, 0, _ => rfl
  | .cons k i c b e ln r, j + 1, h => by
    have h1 : j + 1 ≤ r.len + 1 := h
    have := Sts.drp_len' (T := r) (j := j) (by omega)
    show (Sts.drp j r).len = r.len + 1 - (j + 1)
    omega
/-- What deep comes to. -/
def DpP (T : Sts) (lv pn n : Nat) (w : World) (e : Ending) (w' : World) : Prop := ∃ (b : Bool) (n' : Int), e = .returned (.bool b) ∧ w'.rowIs pn 3 1 (fun _ => .int .i64 n') ∧ w.grownBy w' (some pn) ∧ (b = false → dpt lv T = true ∧ n' = (n + T.all : Nat) ∧ n + T.all ≤ 3000)
def DpR (T : Sts) (lv pn n : Nat) (w : World) (s9 : Value) (wr : World) : Prop :=
  ∃ (k nk : Nat), k ≤ T.len ∧ s9 = .int .i64 k ∧ wr.rowIs pn 3 1 (fun _ => .int .i64 nk) ∧ w.grownBy wr (some pn) ∧ nk ≤ 3000 ∧ nk + (Sts.drp k T).all = n + T.all + (Sts.drp k T).len ∧ dpt lv (Sts.drp k T) = dpt lv T
set_option maxRecDepth 100000 in
set_option maxHeartbeats 8000000 in
theorem deep_any {pn : Nat} : ∀ (N : Nat) (T : Sts) (lv : Nat) (v : Value) (S : Nat → Prop) (n : Nat) (w : World), T.all < N → T.len ≤ 1099511627776 → T.inn → lv ≤ 60 → Tr w S v T → (∀ k, S k → k ≠ pn) → w.rowIs pn 3 1 (fun _ => .int .i64 n) → n ≤ 3000 →
    Calls Try.prog 70 #[v, .int .i64 lv, .int .i64 3000, .pointer (some ⟨pn, 0, none⟩)] w (DpP T lv pn n w) := by
  intro N
  induction N with
  | zero => intro T lv v S n w h; exact absurd h (Nat.not_lt_zero _)
  | succ N ih =>
    intro T lv v S n w hN hl hin hlv hT hS hr hn
    obtain ⟨A1, c1, rfl, -, -⟩ := hT.frm
    have hnl : n + T.len ≤ 2000000000000 := by omega
    have cn : w.cell? ⟨pn, 0, none⟩ = some (.int .i64 n) := hr.cell (by omega)
    have zn := hr.frozen 0
    have hw : IntKind.i64.wrap ((n : Int) + (T.len : Int)) = ((n + T.len : Nat) : Int) := by rw [IntKind.wrap_i64]; omega; all_goals omega
    have r1 : (w.setCell ⟨pn, 0, none⟩ (.int .i64 ((n : Int) + (T.len : Int)))).rowIs pn 3 1 (fun _ => .int .i64 ((n + T.len : Nat))) := (hr.set 0 _).congr fun i hi => by
      match i, hi with
      | 0, _ => exact congrArg (Value.int .i64) (by push_cast; rfl)
    have hg1 : w.grownBy (w.setCell ⟨pn, 0, none⟩ (.int .i64 ((n : Int) + (T.len : Int)))) (some pn) := grown_set (grown_refl _ _) (.inl rfl) _
    have HT2 := Lib.hid hT
    have HT := Lib.hid (hT.grown hg1 (fun k hk e => by injection e with e; exact hS k hk e.symm))
    have HX := Lib.hid (And.intro hN (And.intro hl (And.intro hin (And.intro hlv (And.intro hS hn)))))
    have R1 := Lib.hid r1
    have G1 := Lib.hid hg1
    have IH := Lib.hid ih
    clear hN hl hin hT hS hr hn r1 hg1 ih hnl hlv
    go_enter Try.func70, Try.ntmps70
    go_upto_region 2 with fail
    generalize w.setCell ⟨pn, 0, none⟩ (.int .i64 ((n : Int) + (T.len : Int))) = W1 at *
    have c1' : W1.cell? ⟨pn, 0, none⟩ = some (.int .i64 (n + T.len : Nat)) := R1.out.cell (by omega)
    clear cn zn hw
    by_cases h3 : 3000 < n + T.len
    · have i3 : (3000 : Int) < (n : Int) + (T.len : Int) := by omega
      clear h3
      go_wp2_with fail
      go_ret
      exact ⟨true, _, rfl, R1.out, G1.out, fun h => by cases h⟩
    have i3 : ¬ (3000 : Int) < (n : Int) + (T.len : Int) := by omega
    have H3 := Lib.hid (show n + T.len ≤ 3000 by omega)
    clear h3
    by_cases hz : 0 < T.len ∧ lv = 0
    · have ht0 : (0 : Int) < (T.len : Int) := by omega
      obtain ⟨-, rfl⟩ := hz
      go_wp2_with fail
      go_ret
      exact ⟨true, _, rfl, R1.out, G1.out, fun h => by cases h⟩
    have R0 : DpR T lv pn n w (.int .i64 0) W1 := ⟨0, n + T.len, Nat.zero_le _, rfl, R1.out, G1.out, H3.out, by show n + T.len + T.all = n + T.all + T.len; omega, rfl⟩
    have HR0 := Lib.hid R0
    clear R0
    have main : (0 : Int) < (T.len : Int) ∧ ¬ (lv : Int) < 1 ∨ ¬ (0 : Int) < (T.len : Int) := by
      by_cases h : (0 : Int) < (T.len : Int)
      · exact .inl ⟨h, by omega⟩
      · exact .inr h
    clear hz
    rcases main with ⟨h0, h1⟩ | h0
    all_goals
      go_wp2_with fail
      go_loopw [9] (fun s9 wr => DpR T lv pn n w s9 wr) (fun s9 _ => T.len - (intOf s9).toNat)
      case atStart => exact HR0.out
      case round =>
        clear HR0
        obtain ⟨k, nk, hk, rfl, hrw, hgw, hnk, hpo, hdp⟩ := hrel
        have HRW := Lib.hid hrw
        have HGW := Lib.hid hgw
        have HE := Lib.hid (And.intro hnk (And.intro hpo hdp))
        clear hrw hgw hnk hpo hdp
        by_cases e0 : k < T.len
        · first
            | (exfalso; omega; done)
            | (obtain ⟨lv', hlv1⟩ : ∃ l', lv = l' + 1 := ⟨lv - 1, by omega⟩
               have b1 : (k : Int) < (T.len : Int) := by omega
               have hTw : Tr wr S (.slice A1 T.len c1) T := HT2.out.grown HGW.out (fun k hk e => by injection e with e; exact HX.out.2.2.2.2.1 k hk e.symm)
               obtain ⟨g, o, vb, ve, rfl, hsg, hg, hbT, heT, hcl⟩ := hTw.nth e0
               obtain ⟨⟨y1, y2⟩, ⟨y3, y4⟩⟩ := Sts.inn_nth HX.out.2.2.1 e0
               have hna := Sts.nth_all e0
               have hdr := Sts.drp_nth e0
               have hdl := Sts.drp_len' (T := T) (j := k + 1) (by omega)
               have hx : StAt wr g (o + k * 13) (T.nth k) vb ve := ⟨hg, hcl⟩
               obtain ⟨q1, q2, q3⟩ := HE.out
               rw [hdr] at q2 q3
               rw [hlv1] at q3
               generalize T.nth k = x at *
               obtain ⟨B1, d1, rfl, -, -⟩ := hbT.frm
               obtain ⟨E1, n1, rfl, -, -⟩ := heT.frm
               have q5 : nk + (x.b.all + x.e.all + (Sts.drp (k + 1) T).all + 1) = n + T.all + ((Sts.drp (k + 1) T).len + 1) := q2
               have q8 : (dpt lv' x.b && dpt lv' x.e && dpt (lv' + 1) (Sts.drp (k + 1) T)) = dpt (lv' + 1) T := q3
               have hkk : IntKind.i64.wrap ((k : Int) + 1) = ((k + 1 : Nat) : Int) := by
                 have := HX.out.2.1
                 rw [IntKind.wrap_i64]; omega; all_goals omega
               have hlw : IntKind.i64.wrap ((lv : Int) - 1) = (lv' : Int) := by
                 have := HX.out.2.2.2.1
                 rw [IntKind.wrap_i64]; omega; all_goals omega
               have HLV := Lib.hid hlv1
               have hgp : g ≠ pn := HX.out.2.2.2.2.1 g hsg
               have HBT := Lib.hid (And.intro hbT heT)
               have HXX := Lib.hid hx
               have Hq := Lib.hid (And.intro q1 (And.intro q5 (And.intro q8 hdl)))
               have HY := Lib.hid (And.intro y1 (And.intro y2 (And.intro y3 y4)))
               have HNA := Lib.hid hna
               have HGP := Lib.hid hgp
               have fa := hcl 10 (by omega)
               simp only [smF] at fa
               clear hlv1 hsg hcl hna hdr hdl hx q1 q2 q3 q5 q8 hbT heT y1 y2 y3 y4 hgp hTw
               go_wp2_with fail
               refine (IH.out x.b lv' _ S nk wr (by have := HX.out; have := HNA.out; omega) HY.out.1 HY.out.2.1 (by have := HX.out.2.2.2.1; have := HLV.out; omega) HBT.out.1 HX.out.2.2.2.2.1 HRW.out Hq.out.1).mono ?_
               rintro e w3 ⟨db, n2, rfl, hr3, hg3, himp⟩
               have hgx3 := nil_grown HGW.out hg3
               have fb : w3.cell? ⟨g, o + k * 13 + 11, none⟩ = some (.slice E1 x.e.len n1) := (grown_cell hg3 (p := ⟨g, o + k * 13 + 11, none⟩) HXX.out.1 HGP.out).trans (HXX.out.2 11 (by omega))
               cases db with
               | true =>
                 have HF := Lib.hid (And.intro hr3 hgx3)
                 clear hr3 hg3 himp hgx3
                 go_wp2_with fail
                 go_ret
                 exact ⟨true, _, rfl, HF.out.1, HF.out.2, fun h => by cases h⟩
               | false =>
                 obtain ⟨i1, rfl, i2⟩ := himp rfl
                 have HF := Lib.hid (And.intro hr3 (And.intro hg3 (And.intro hgx3 (And.intro i1 i2))))
                 clear hr3 hg3 himp hgx3 i1 i2
                 go_wp2_with fail
                 refine (IH.out x.e lv' _ S (nk + x.b.all) w3 (by have := HX.out; have := HNA.out; omega) HY.out.2.2.1 HY.out.2.2.2 (by have := HX.out.2.2.2.1; have := HLV.out; omega) (HBT.out.2.grown HF.out.2.1 (fun k hk e => by injection e with e; exact HX.out.2.2.2.2.1 k hk e.symm)) HX.out.2.2.2.2.1 HF.out.1 HF.out.2.2.2.2).mono ?_
                 rintro e w4 ⟨de, n3, rfl, hr4, hg4, himp4⟩
                 have hgx4 := nil_grown HF.out.2.2.1 hg4
                 cases de with
                 | true =>
                   have HF4 := Lib.hid (And.intro hr4 hgx4)
                   clear hr4 hg4 himp4 hgx4
                   go_wp2_with fail
                   go_ret
                   exact ⟨true, _, rfl, HF4.out.1, HF4.out.2, fun h => by cases h⟩
                 | false =>
                   obtain ⟨i3', rfl, i4⟩ := himp4 rfl
                   have HF4 := Lib.hid (And.intro hr4 (And.intro hgx4 (And.intro i3' i4)))
                   clear hr4 hg4 himp4 hgx4 i3' i4
                   go_wp2_with fail
                   go_roundw
                   case rel =>
                     refine ⟨k + 1, nk + x.b.all + x.e.all, by omega, rfl, HF4.out.1, HF4.out.2.1, HF4.out.2.2.2, ?_, ?_⟩
                     · have := Hq.out.2.1; omega
                     · have h := Hq.out.2.2.1
                       rw [HF.out.2.2.2.1, HF4.out.2.2.1] at h
                       rw [HLV.out]
                       simpa using h
                   case measure => simp [intOf]; omega)
        · obtain rfl : k = T.len := by omega
          have b1 : ¬ ((T.len : Int) < (T.len : Int)) := by omega
          obtain ⟨q1, q2, q3⟩ := HE.out
          rw [Sts.drp_len] at q2 q3
          rw [dpt_nil] at q3
          have q4 : nk = n + T.all := by have : Sts.nil.all = 0 := rfl; have : Sts.nil.len = 0 := rfl; omega
          subst q4
          have HQ := Lib.hid (And.intro q3.symm q1)
          clear q1 q2 q3
          go_wp2_with fail
          go_ret
          exact ⟨false, _, rfl, HRW.out, HGW.out, fun _ => ⟨HQ.out.1, rfl, HQ.out.2⟩⟩
def DeP (T : Sts) (w : World) (e : Ending) (w' : World) : Prop := ∃ b : Bool, e = .returned (.bool b) ∧ Below w.heap.size w w' ∧ (b = false → dpt 60 T = true ∧ T.all ≤ 3000)
theorem deepT_any (T : Sts) (v : Value) (S : Nat → Prop) (w : World) (hl : T.len ≤ 1099511627776) (hi : T.inn) (hT : Tr w S v T) :
    Calls Try.prog 47 #[v, .int .i64 60, .int .i64 3000] w (DeP T w) := by
  have hba : Below w.heap.size w (w.alloc (.cells #[.int .i64 0] 3)) := (Below.refl _ _).alloc (Nat.le_refl _) _
  have hT2 := hT.keep (w' := w.alloc (.cells #[.int .i64 0] 3)) (S' := fun k => k < w.heap.size) (fun k _ hk => hba.block k hk) hba.size (fun k _ hk => hk)
  obtain ⟨A1, c1, rfl, -, -⟩ := hT.frm
  have HD := Lib.hid (deep_any (pn := w.heap.size) (T.all + 1) T 60 _ (fun k => k < w.heap.size) 0 _ (Nat.lt_succ_self _) hl hi (Nat.le_refl _) hT2 (fun k hk => by omega) one_row (by omega))
  have HBA := Lib.hid hba
  clear hba hT hT2 hl hi
  go_enter Try.func47, Try.ntmps47
  go_wp2_with fail
  refine HD.out.mono ?_
  rintro e w2 ⟨b, n', rfl, hr, hg, himp⟩
  have HB := Lib.hid (below_of_grown HBA.out hg HBA.out.size (Nat.le_refl _))
  have HI := Lib.hid himp
  clear hr hg himp
  go_wp2_with fail
  go_ret
  exact ⟨b, rfl, HB.out, fun h => by have := HI.out h; exact ⟨this.1, by omega⟩⟩
end Go.Proofs.Ytiadfmhodlbkiaa
