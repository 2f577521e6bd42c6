/-
 THE WALKS OF the document's block and outer. Conditions: a parser.
-/
import Derived.Test.YtiadfmhodlbkiaaQ29
import Derived.Test.YtiadfmhodlbkiaaQ14
namespace Go.Proofs.Ytiadfmhodlbkiaa
open Go.RowKit
set_option linter.unusedSimpArgs false
set_option linter.unusedVariables false
def rMeas (w : World) (gp : Nat) : Nat := match w.cell? ⟨gp, 2, none⟩, w.cell? ⟨gp, 0, none⟩, w.cell? ⟨gp, 1, none⟩ with
 | some (.int _ e), some (.slice _ n _), some (.int _ k) => if e = 0 then n - k.toNat + 1 else 0
 | _, _, _ => 0
theorem RS.meas {B : Nat} {w : World} {gp : Nat} {l : List Tok} {b : Option Flt} {many : Nat} (h : RS B w gp l b many) : rMeas w gp = if b.isNone then l.length + 1 else 0 := by
 obtain ⟨g, c, L, k, q1, q2, q3, q4, q5, q6, q7, q8⟩ := h.ex
 unfold rMeas
 have e2 := q1.cell (show 2 < 5 by omega)
 have e0 := q1.cell (show 0 < 5 by omega)
 have e1 := q1.cell (show 1 < 5 by omega)
 have he := er_eqR h
 rw [e2, e0, e1]
 simp only [rsF]
 have hl : L.length - ((k : Int)).toNat = l.length := by rw [← q7, List.length_drop]; omega
 rw [hl]
 cases b with
 | none => rfl
 | some e =>
   simp only [Option.isNone_some] at he ⊢
   have := of_decide_eq_false he
   rw [if_neg this]; rfl
def RBlkR (st : List Tok → Nat → Res (StS × List Tok × Nat)) (R : Res (Sts × List Tok × Nat)) (b1 : Option Flt) (B gp : Nat) (w wr : World) (v : Value) : Prop :=
 ∃ l b m T, Lst wr w.heap.size v T ∧ RS B wr gp l b m ∧ (b = none → m ≤ 500 ∧ T.len + l.length ≤ 20000) ∧ w.grownBy wr (some gp) ∧ Sel b1 b (LoopJ st R l b m T)
set_option maxRecDepth 100000 in
set_option maxHeartbeats 40000000 in
theorem rblock_any (dp : Nat) (st : List Tok → Nat → Res (StS × List Tok × Nat)) (hst : ∀ l m x l' m', st l m = .ok (x, l', m') → l'.length < l.length) (hstc : RStC dp st) : RBlkC dp (block st) := by
 intro B gp w l b many h hm
 have hbw := h.bw
 have hbp := h.bp
 have hle := h.ll
 have HM := Lib.hid (rtake_any h ⟨#[123]⟩ [123] rfl (by decide) (by decide))
 have HW := Lib.hid (And.intro hbw hbp)
 have HMM := Lib.hid hm
 have HST := Lib.hid (And.intro hst hstc)
 clear h hm hst hstc hbw hbp
 go_enter Try.func62, Try.ntmps62
 go_wp2_with fail
 refine HM.out.mono ?_
 rintro e w1 ⟨rfl, l1, b1, h1, hrel, hg1⟩
 have hll : b1 = none → l1.length ≤ l.length := by
  intro e
  cases b with
  | some e' => unfold Rel at hrel; simp only at hrel; rw [hrel] at e; cases e
  | none =>
    unfold Rel at hrel
    simp only at hrel
    rcases hq : must [123] l with e' | ⟨y, z⟩
    · rw [hq] at hrel; simp only at hrel; rw [hrel] at e; cases e
    · rw [hq] at hrel; obtain ⟨-, -, rfl⟩ := hrel; exact must_le hq
 have hbn : b1 = none → b = none := fun e => by
  cases b with
  | none => rfl
  | some e' => unfold Rel at hrel; simp only at hrel; rw [hrel] at e; cases e
 have R0 : RBlkR st (loopS st (l1.length + 1) l1 many .nil) b1 B gp w w1 (.slice none 0 0) := ⟨l1, b1, many, .nil, Lst.nil _ _, h1, fun e => ⟨HMM.out (hbn e), by have := hll e; show 0 + _ ≤ _; omega⟩, hg1, by cases b1 <;> rfl⟩
 have HREL := Lib.hid hrel
 clear HM h1 hrel hll hbn hg1
 go_wp2_with fail
 go_loopw [5] (fun v wr => RBlkR st (loopS st (l1.length + 1) l1 many .nil) b1 B gp w wr v) (fun _ wr => rMeas wr gp)
 case atStart => exact R0
 case round =>
  clear R0
  obtain ⟨lc, bc, m, T, hl, hp, hb, hg, hJ⟩ := hrel
  have HL := Lib.hid hl
  have HP := Lib.hid hp
  have HG := Lib.hid hg
  have HJ := Lib.hid hJ
  clear hl hp hg hJ
  cases bc with
  | some e0 =>
    clear hb
    obtain ⟨gq, cq0, Lq, kq, qq, -⟩ := HP.out.ex
    have f2q : wr.cell? ⟨gp, 2, none⟩ = some (.int .i64 (erO (some e0) : Nat)) := qq.cell (show 2 < 5 by omega)
    have hxb : (((erO (some e0) : Nat) : Int) == 0) = false := by have := HP.out.er e0 rfl; rw [beq_eq_false_iff_ne]; show ((e0.1 : Nat) : Int) ≠ 0; omega
    clear qq
    have HC := Lib.hid (rtake_any HP.out ⟨#[125]⟩ [125] rfl (by decide) (by decide))
    go_wp2_with fail
    refine HC.out.mono ?_
    rintro e w5 ⟨rfl, l2, b2, h5, hr5, hg5⟩
    have H5 := Lib.hid h5
    have HR5 := Lib.hid hr5
    have HG5 := Lib.hid hg5
    clear h5 hr5 hg5 HC
    go_wp2_with fail
    go_ret
    refine ⟨_, T, l2, b2, m, rfl, HL.out.tr.grown HG5.out (fun k hk e => ?_), H5.out, fun e => ?_, block_end HREL.out HJ.out (fun e => by cases e) HR5.out, zd HG.out HG5.out⟩
    · injection e with e
      have hk1 : w.heap.size ≤ k := hk
      have := HW.out
      omega
    · subst e
      have := none_back' HR5.out; cases this
  | none =>
    have HB := Lib.hid (hb rfl)
    obtain ⟨gq, cq0, Lq, kq, qq, -⟩ := HP.out.ex
    have f2q : wr.cell? ⟨gp, 2, none⟩ = some (.int .i64 0) := qq.cell (show 2 < 5 by omega)
    have HME := Lib.hid (HP.out.meas)
    clear hb qq
    have HI := Lib.hid (ris_any HP.out ⟨#[125]⟩ [125] rfl (by decide) (by decide))
    go_wp2_with fail
    refine HI.out.mono ?_
    rintro e w9 ⟨rfl, hb9⟩
    replace HP := Lib.hid (HP.out.below hb9)
    replace HG := Lib.hid (zd HG.out (zb hb9 (some gp)))
    replace HL := Lib.hid (HL.out.below hb9)
    clear hb9 HI f2q
    by_cases hs : (hd lc).s = [125]
    · rw [decide_eq_true hs]
      have HS := Lib.hid hs
      clear hs
      have HC := Lib.hid (rtake_any HP.out ⟨#[125]⟩ [125] rfl (by decide) (by decide))
      go_wp2_with fail
      refine HC.out.mono ?_
      rintro e w5 ⟨rfl, l2, b2, h5, hr5, hg5⟩
      have H5 := Lib.hid h5
      have HR5 := Lib.hid hr5
      have HG5 := Lib.hid hg5
      clear h5 hr5 hg5 HC
      go_wp2_with fail
      go_ret
      refine ⟨_, T, l2, b2, m, rfl, HL.out.tr.grown HG5.out (fun k hk e => ?_), H5.out, fun e => ?_, block_end HREL.out HJ.out (fun _ => HS.out) HR5.out, zd HG.out HG5.out⟩
      · injection e with e
        have hk1 : w.heap.size ≤ k := hk
        have := HW.out
        omega
      · subst e
        exact HB.out.1
    · rw [decide_eq_false hs]
      have HS := Lib.hid hs
      clear hs
      have HC := Lib.hid (HST.out.2 B gp w9 lc m HP.out HB.out.1)
      go_wp2_with fail
      refine HC.out.mono ?_
      rintro e w3 ⟨x, vb, ve, l', b', m', rfl, htb, hte, h3, hm3, hr3, hg3⟩
      obtain ⟨Ab, cb, hvb⟩ := htb.form
      subst hvb
      obtain ⟨Ae, ce, hve⟩ := hte.form
      subst hve
      have hll : b' = none → l'.length < lc.length := fun e => by
       subst e
       unfold RelM at hr3
       simp only at hr3
       rcases hq : st lc m with e' | ⟨y, z, n⟩
       · rw [hq] at hr3; cases hr3
       · rw [hq] at hr3; obtain ⟨-, -, rfl, -⟩ := hr3; exact HST.out.1 _ _ _ _ _ hq
      have hJ2 : Sel b1 b' (LoopJ st (loopS st (l1.length + 1) l1 many .nil) l' b' m' (T.push x)) := by
       have h1 := HJ.out
       unfold Sel at h1 ⊢
       cases b1 with
       | some e => cases h1
       | none => exact loopJ_go HST.out.1 h1 HS.out hr3
      have HL3 := Lib.hid (HL.out.kept hg3 (fun k e => by injection e with e; have := HW.out; omega))
      have HLT := Lib.hid HL.out.lt
      have hoff : ∀ k, w9.heap.size ≤ k → Off w.heap.size u5 k := fun k hk => ⟨by have := HG.out.size; omega, fun e => by have := HLT.out k e; omega⟩
      have HTB := Lib.hid (htb.mono (fun k hk _ => hoff k hk))
      have HTE := Lib.hid (hte.mono (fun k hk _ => hoff k hk))
      have H3 := Lib.hid h3
      have HM3 := Lib.hid hm3
      have HG3 := Lib.hid hg3
      have HLL := Lib.hid hll
      have HJ2 := Lib.hid hJ2
      clear htb hte h3 hm3 hr3 hg3 hll hJ2 hoff HC
      dsimp only [stA]
      go_wp2_with (at_builtin; refine append_stmt (.tmp 19) (.tmp 23) rfl rfl _ x (.slice Ab x.b.len cb) (.slice Ae x.e.len ce) _ rfl rfl _ rfl rfl HL3.out HTB.out HTE.out ⟨rfl, rfl⟩ (by have := HB.out.2; omega) (Nat.le_trans HG.out.size HG3.out.size) ?_; intro v2 w2 ho2 hg2)
      have hg2' : w3.grownBy w2 u5.ownBlock := hg2
      have hP2 := H3.out.kept hg2' (fun k e => by have := (HLT.out k e).1; have := HW.out; omega)
      have hG2 := grown_young (zd HG.out HG3.out) hg2' (fun k e => (HLT.out k e).1)
      refine ⟨⟨l', b', m', T.push x, ho2, hP2, fun e => ⟨HM3.out e, ?_⟩, hG2, HJ2.out⟩, ?_⟩
      · rw [Sts.push_len]; have := HLL.out e; have := HB.out.2; omega
      · rw [HME.out, hP2.meas]
        cases b' with
        | none => have := HLL.out rfl; show l'.length + 1 < lc.length + 1; omega
        | some e => show 0 < lc.length + 1; omega
theorem rblkD_any : ∀ d, d ≤ 20 → RStC (21 - d) (stmtD d)
 | 0, _ => rstmt_deep
 | d + 1, h => rstmt_any (21 - (d + 1)) (by omega) _ (by
     have e : 21 - (d + 1) + 1 = 21 - d := by omega
     rw [e]
     exact rblock_any (21 - d) _ (stmtD_lt d) (rblkD_any d (by omega)))
theorem router_any {B gp : Nat} {w : World} {l : List Tok} {b : Option Flt} {many : Nat} (h : RS B w gp l b many) : Calls Try.prog 35 #[.pointer (some ⟨gp, 0, none⟩)] w fun e w' => ∃ v T l' b' many', e = .returned v ∧ Tr w' (fun k => w.heap.size ≤ k) v T ∧ RS B w' gp l' b' many' ∧ Rel prog l b T l' b' ∧ w.grownBy w' (some gp) := by
 obtain ⟨g, c, L, k, q1, -⟩ := h.ex
 have f3 : w.cell? ⟨gp, 4, none⟩ = some (.int .i64 many) := q1.cell (show 4 < 5 by omega)
 have z3 := q1.frozen 4
 have HB := Lib.hid (rblock_any 1 _ (stmtD_lt 20) (rblkD_any 20 (by omega)) B gp _ l b 0 (h.setM (m := 0) (by omega)) (fun _ => by omega))
 have HG : Hid (w.grownBy (w.setCell ⟨gp, 4, none⟩ (.int .i64 (0 : Nat))) (some gp)) := za (zf _ _) (.inl rfl) _
 clear h q1
 rw [show (Value.int .i64 ((0 : Nat) : Int)) = .int .i64 0 from rfl] at HB HG
 rw [show (Value.int .i64 ((1 : Nat) : Int)) = .int .i64 1 from rfl] at HB
 go_enter Try.func35, Try.ntmps35
 go_wp2_with fail
 refine HB.out.mono ?_
 rintro e w2 ⟨v, T, l', b', m', rfl, ht, hp, -, hr, hg⟩
 obtain ⟨A, cc, hv⟩ := ht.form
 subst hv
 have HT := Lib.hid ht
 have HP := Lib.hid hp
 have HR := Lib.hid hr
 have HG2 := Lib.hid hg
 clear ht hp hr hg
 go_wp2_with fail
 go_ret
 refine ⟨_, T, l', b', m', rfl, HT.out.mono (fun k hk _ => by have := HG.out.size; have hk1 : _ ≤ k := hk; omega), HP.out, ?_, zd HG.out HG2.out⟩
 have hr := HR.out
 unfold RelM at hr
 unfold Rel prog
 cases b with
 | some e => exact hr
 | none =>
   simp only at hr ⊢
   rcases hq : block (stmtD 20) l 0 with e | ⟨y, z, n⟩
   · rw [hq] at hr; exact hr
   · rw [hq] at hr
     obtain ⟨rfl, rfl, rfl, rfl⟩ := hr
     exact ⟨by trivial, by trivial, by trivial⟩
end Go.Proofs.Ytiadfmhodlbkiaa
