/-
  THE WALKS OF parse's stmt, as a whole, block and program. Conditions: a parser.
-/
import Derived.Test.YthmpagehmfillaaQ17
namespace Go.Proofs.Ythmpagehmfillaa
open Go.RowKit
set_option linter.unusedSimpArgs false
set_option linter.unusedVariables false
/-- What a statement's parser does, so deep. -/
def StC (dp : Nat) (st : List Tok → Nat → Res (StS × List Tok × Nat)) : Prop := ∀ (B gp : Nat) (w : World) (l : List Tok) (many : Nat), PS B w gp l none many → many ≤ 500 →
  Calls Try.prog 95 #[.pointer (some ⟨gp, 0, none⟩), .int .i64 dp] w (StPost st B gp w l many)
theorem known_dec (s : List Nat) : Known s ∨ (look bareL s = none ∧ look unaL s = none ∧ look firL s = none) := by
  unfold Known
  cases look bareL s <;> cases look unaL s <;> cases look firL s <;> simp
theorem pstmt_deep : StC 21 (stmt true (fun _ _ => .error (0, 0))) := by
  intro B gp w l many h hm
  rcases known_dec (hd l).s with hk | ⟨h1, h2, h3⟩
  · exact pstmt_long 21 (by omega) true rfl _ h hm hk (.inr rfl)
  · exact pstmt_syn 21 true _ h hm h1 h2 h3
theorem pstmt_any (dp : Nat) (hd20 : dp ≤ 20) (blk : Blk) (hblk : BlkC (dp + 1) blk) : StC dp (stmt false blk) := by
  intro B gp w l many h hm
  rcases known_dec (hd l).s with hk | ⟨h1, h2, h3⟩
  · by_cases h5 : 500 < many + 1
    · exact pstmt_long dp (by omega) false (by rw [decide_eq_false (by omega)]) _ h hm hk (.inl h5)
    · have hm5 : many < 500 := by omega
      cases h1 : look bareL (hd l).s with
      | some o => exact pstmt_bare dp hd20 blk h hm5 h1
      | none =>
        cases h2 : look unaL (hd l).s with
        | some o => exact pstmt_una dp hd20 blk h hm5 h1 h2
        | none =>
          cases h3 : look firL (hd l).s with
          | none => exact absurd hk (by unfold Known; rw [h1, h2, h3]; simp)
          | some o =>
            have := fir_one h3
            subst this
            by_cases q1 : (hd l).s = [104, 97, 108, 116]
            · exact pstmt_halt dp hd20 blk h hm5 h1 h2 h3 q1
            by_cases q2 : (hd l).s = [114]
            · exact pstmt_store dp hd20 blk h hm5 h1 h2 h3 q2
            by_cases q3 : (hd l).s = [105, 102]
            · exact pstmt_if dp hd20 blk hblk h hm5 h1 h2 h3 q3
            by_cases q4 : (hd l).s = [100, 111]
            · exact pstmt_do dp hd20 blk hblk h hm5 h1 h2 h3 q4
            · exact pstmt_on dp hd20 blk h hm5 h1 h2 h3 q1 q2 q3 q4
  · exact pstmt_syn dp false _ h hm h1 h2 h3
/-- How much a parser has ahead; nothing, where it has a fault. -/
def pMeas (w : World) (gp : Nat) : Nat := match w.cell? ⟨gp, 1, none⟩, w.cell? ⟨gp, 0, none⟩ with
  | some (.int _ e), some (.slice _ n _) => if e = 0 then n + 1 else 0
  | _, _ => 0
theorem PS.meas {B : Nat} {w : World} {gp : Nat} {l : List Tok} {b : Option Flt} {many : Nat} (h : PS B w gp l b many) : pMeas w gp = if b.isNone then l.length + 1 else 0 := by
  obtain ⟨g, o, c, q1, -⟩ := h.ex
  unfold pMeas
  have e1 := q1.cell (show 1 < 4 by omega)
  have e0 := q1.cell (show 0 < 4 by omega)
  have he := er_eq h
  rw [e1, e0]
  simp only [psF]
  cases b with
  | none => rfl
  | some e =>
    simp only [Option.isNone_some] at he ⊢
    have := of_decide_eq_false he
    rw [if_neg this]; rfl
def Sel (b1 b : Option Flt) (P : Prop) : Prop := match b1 with
  | some e => b = some e
  | none => P
/-- What the loop keeps: where it would come to, of what is ahead. -/
def LoopJ (st : List Tok → Nat → Res (StS × List Tok × Nat)) (R : Res (Sts × List Tok × Nat)) (l : List Tok) (b : Option Flt) (m : Nat) (T : Sts) : Prop := match b with
  | none => R = loopS st (l.length + 1) l m T
  | some e => R = .error e
def BlkR (st : List Tok → Nat → Res (StS × List Tok × Nat)) (R : Res (Sts × List Tok × Nat)) (b1 : Option Flt) (B gp : Nat) (w wr : World) (v : Value) : Prop :=
  ∃ l b m T, Lst wr w.heap.size v T ∧ PS B wr gp l b m ∧ (b = none → m ≤ 500 ∧ T.len + l.length ≤ 20000) ∧ w.grownBy wr (some gp) ∧ Sel b1 b (LoopJ st R l b m T)
section
variable {st : List Tok → Nat → Res (StS × List Tok × Nat)} {R : Res (Sts × List Tok × Nat)} {l l1 l' : List Tok} {many m m' : Nat} {b b1 b' : Option Flt} {T : Sts} {x : StS}
theorem loopJ_go (hst : ∀ l m x l' m', st l m = .ok (x, l', m') → l'.length < l.length) (h : LoopJ st R l none m T) (hs : (hd l).s ≠ [125]) (hr : RelM st l m none x l' b' m') : LoopJ st R l' b' m' (T.push x) := by
  unfold LoopJ at h
  simp only at h
  rw [loopS_go hs] at h
  unfold RelM at hr
  simp only at hr
  rcases hq : st l m with e | ⟨y, z, n⟩
  · rw [hq] at hr h
    simp only at hr h
    subst hr
    exact h
  · rw [hq] at hr h
    obtain ⟨rfl, rfl, rfl, rfl⟩ := hr
    have := hst _ _ _ _ _ hq
    show R = _
    rw [h]
    exact loopS_fuel hst _ _ _ _ _ this (by omega)
theorem block_end (h1 : Rel (must [123]) l b () l1 b1) (hJ : Sel b1 b' (LoopJ st (loopS st (l1.length + 1) l1 many .nil) l' b' m T)) (hs : b' = none → (hd l').s = [125]) {l2 : List Tok} {b2 : Option Flt} (h2 : Rel (must [125]) l' b' () l2 b2) : RelM (block st) l many b T l2 b2 m := by
  unfold Sel at hJ
  unfold RelM
  cases b with
  | some e =>
    unfold Rel at h1; simp only at h1; subst h1
    simp only at hJ; subst hJ
    exact h2
  | none =>
    unfold Rel at h1
    simp only at h1 ⊢
    unfold block
    rcases hq : must [123] l with e | ⟨y, z⟩
    · rw [hq] at h1; simp only at h1; subst h1
      simp only at hJ; subst hJ
      exact h2
    · rw [hq] at h1
      obtain ⟨rfl, -, rfl⟩ := h1
      simp only at hJ ⊢
      cases b' with
      | some e =>
        unfold LoopJ at hJ; simp only at hJ
        rw [hJ]
        exact h2
      | none =>
        unfold LoopJ at hJ; simp only at hJ
        rw [hJ, loopS_end (hs rfl)]
        unfold Rel at h2
        simp only at h2 ⊢
        rcases hp : must [125] l' with e | ⟨y, z2⟩
        · rw [hp] at h2; exact h2
        · rw [hp] at h2
          obtain ⟨rfl, -, rfl⟩ := h2
          exact ⟨by trivial, by trivial, by trivial, by trivial⟩
end
theorem grown_young {w w1 w2 : World} {g : Nat} {row : Option Nat} (h : w.grownBy w1 (some g)) (hg : w1.grownBy w2 row) (hr : ∀ k, row = some k → w.heap.size ≤ k) : w.grownBy w2 (some g) :=
  ⟨hg.os.trans h.os, hg.tape.trans h.tape, hg.output.trans h.output, Nat.le_trans h.size hg.size, fun i hi hne => (hg.block i (Nat.lt_of_lt_of_le hi h.size) (fun e => by have := hr i e.symm; omega)).trans (h.block i hi hne)⟩
theorem none_back' {α : Type} {f : List Tok → Res (α × List Tok)} {x : α} {l1 l2 : List Tok} {b1 : Option Flt} (h1 : Rel f l1 b1 x l2 none) : b1 = none := by
  cases b1 with
  | none => rfl
  | some e => unfold Rel at h1; cases h1
set_option maxRecDepth 100000 in
set_option maxHeartbeats 40000000 in
theorem pblock_any (dp : Nat) (st : List Tok → Nat → Res (StS × List Tok × Nat)) (hst : ∀ l m x l' m', st l m = .ok (x, l', m') → l'.length < l.length) (hstc : StC dp st) : BlkC dp (block st) := by
  intro B gp w l b many h hm
  have hbw := h.bw
  have hbp := h.bp
  have hle := h.ll
  have HM := Lib.hid (pmust_any h ⟨#[123]⟩ [123] rfl (by decide) (by decide))
  have HW := Lib.hid (And.intro hbw hbp)
  have HMM := Lib.hid hm
  have HST := Lib.hid (And.intro hst hstc)
  clear h hm hst hstc hbw hbp
  go_enter Try.func73, Try.ntmps73
  go_wp2_with fail
  refine HM.out.mono ?_
  rintro e w1 ⟨rfl, l1, b1, h1, hrel, hg1⟩
  have hll : b1 = none → l1.length ≤ l.length := by
    intro e
    cases b with
    | some e' => unfold Rel at hrel; simp only at hrel; rw [hrel] at e; cases e
    | none =>
      unfold Rel at hrel
      simp only at hrel
      rcases hq : must [123] l with e' | ⟨y, z⟩
      · rw [hq] at hrel; simp only at hrel; rw [hrel] at e; cases e
      · rw [hq] at hrel; obtain ⟨-, -, rfl⟩ := hrel; exact must_le hq
  have hbn : b1 = none → b = none := fun e => by
    cases b with
    | none => rfl
    | some e' => unfold Rel at hrel; simp only at hrel; rw [hrel] at e; cases e
  have R0 : BlkR st (loopS st (l1.length + 1) l1 many .nil) b1 B gp w w1 (.slice none 0 0) := ⟨l1, b1, many, .nil, Lst.nil _ _, h1, fun e => ⟨HMM.out (hbn e), by have := hll e; show 0 + _ ≤ _; omega⟩, hg1, by cases b1 <;> rfl⟩
  have HREL := Lib.hid hrel
  clear HM h1 hrel hll hbn hg1
  go_wp2_with fail
  go_loopw [5] (fun v wr => BlkR st (loopS st (l1.length + 1) l1 many .nil) b1 B gp w wr v) (fun _ wr => pMeas wr gp)
  case atStart => exact R0
  case round =>
    clear R0
    obtain ⟨lc, bc, m, T, hl, hp, hb, hg, hJ⟩ := hrel
    have HL := Lib.hid hl
    have HP := Lib.hid hp
    have HG := Lib.hid hg
    have HJ := Lib.hid hJ
    clear hl hp hg hJ
    cases bc with
    | some e0 =>
      clear hb
      go_wp2_with fail
      refine (pok_any HP.out).mono ?_
      rintro e w' ⟨rfl, rfl⟩
      have HC := Lib.hid (pmust_any HP.out ⟨#[125]⟩ [125] rfl (by decide) (by decide))
      go_wp2_with fail
      refine HC.out.mono ?_
      rintro e w5 ⟨rfl, l2, b2, h5, hr5, hg5⟩
      have H5 := Lib.hid h5
      have HR5 := Lib.hid hr5
      have HG5 := Lib.hid hg5
      clear h5 hr5 hg5 HC
      go_wp2_with fail
      go_ret
      refine ⟨_, T, l2, b2, m, rfl, HL.out.tr.grown HG5.out (fun k hk e => ?_), H5.out, fun e => ?_, block_end HREL.out HJ.out (fun e => by cases e) HR5.out, nil_grown HG.out HG5.out⟩
      · injection e with e
        have hk1 : w.heap.size ≤ k := hk
        have := HW.out
        omega
      · subst e
        have := none_back' HR5.out; cases this
    | none =>
      have HB := Lib.hid (hb rfl)
      clear hb
      go_wp2_with fail
      refine (pok_any HP.out).mono ?_
      rintro e w' ⟨rfl, rfl⟩
      have HI := Lib.hid (pis_any HP.out ⟨#[125]⟩ [125] rfl (by decide) (by decide))
      go_wp2_with fail
      refine HI.out.mono ?_
      rintro e w' ⟨rfl, rfl⟩
      simp only [Option.isNone_none, Bool.true_and]
      clear HI
      by_cases hs : (hd lc).s = [125]
      · rw [decide_eq_true hs]
        have HS := Lib.hid hs
        clear hs
        have HC := Lib.hid (pmust_any HP.out ⟨#[125]⟩ [125] rfl (by decide) (by decide))
        go_wp2_with fail
        refine HC.out.mono ?_
        rintro e w5 ⟨rfl, l2, b2, h5, hr5, hg5⟩
        have H5 := Lib.hid h5
        have HR5 := Lib.hid hr5
        have HG5 := Lib.hid hg5
        clear h5 hr5 hg5 HC
        go_wp2_with fail
        go_ret
        refine ⟨_, T, l2, b2, m, rfl, HL.out.tr.grown HG5.out (fun k hk e => ?_), H5.out, fun e => ?_, block_end HREL.out HJ.out (fun _ => HS.out) HR5.out, nil_grown HG.out HG5.out⟩
        · injection e with e
          have hk1 : w.heap.size ≤ k := hk
          have := HW.out
          omega
        · subst e
          exact HB.out.1
      · rw [decide_eq_false hs]
        have HS := Lib.hid hs
        clear hs
        have HC := Lib.hid (HST.out.2 B gp wr lc m HP.out HB.out.1)
        go_wp2_with fail
        refine HC.out.mono ?_
        rintro e w3 ⟨x, vb, ve, l', b', m', rfl, htb, hte, h3, hm3, hr3, hg3⟩
        obtain ⟨Ab, cb, hvb⟩ := htb.form
        subst hvb
        obtain ⟨Ae, ce, hve⟩ := hte.form
        subst hve
        have hll : b' = none → l'.length < lc.length := fun e => by
          subst e
          unfold RelM at hr3
          simp only at hr3
          rcases hq : st lc m with e' | ⟨y, z, n⟩
          · rw [hq] at hr3; cases hr3
          · rw [hq] at hr3; obtain ⟨-, -, rfl, -⟩ := hr3; exact HST.out.1 _ _ _ _ _ hq
        have hJ2 : Sel b1 b' (LoopJ st (loopS st (l1.length + 1) l1 many .nil) l' b' m' (T.push x)) := by
          have h1 := HJ.out
          unfold Sel at h1 ⊢
          cases b1 with
          | some e => cases h1
          | none => exact loopJ_go HST.out.1 h1 HS.out hr3
        have HL3 := Lib.hid (HL.out.kept hg3 (fun k e => by injection e with e; have := HW.out; omega))
        have HLT := Lib.hid HL.out.lt
        have hoff : ∀ k, wr.heap.size ≤ k → Off w.heap.size u5 k := fun k hk => ⟨by have := HG.out.size; omega, fun e => by have := HLT.out k e; omega⟩
        have HTB := Lib.hid (htb.mono (fun k hk _ => hoff k hk))
        have HTE := Lib.hid (hte.mono (fun k hk _ => hoff k hk))
        have H3 := Lib.hid h3
        have HM3 := Lib.hid hm3
        have HG3 := Lib.hid hg3
        have HLL := Lib.hid hll
        have HJ2 := Lib.hid hJ2
        have HME := Lib.hid (HP.out.meas)
        clear htb hte h3 hm3 hr3 hg3 hll hJ2 hoff HC
        dsimp only [stA]
        go_wp2_with (at_builtin; refine append_stmt (.tmp 15) (.tmp 19) rfl rfl _ x (.slice Ab x.b.len cb) (.slice Ae x.e.len ce) _ rfl rfl _ rfl rfl HL3.out HTB.out HTE.out ⟨rfl, rfl⟩ (by have := HB.out.2; omega) (Nat.le_trans HG.out.size HG3.out.size) ?_; intro v2 w2 ho2 hg2)
        have hg2' : w3.grownBy w2 u5.ownBlock := hg2
        have hP2 := H3.out.kept hg2' (fun k e => by have := (HLT.out k e).1; have := HW.out; omega)
        have hG2 := grown_young (nil_grown HG.out HG3.out) hg2' (fun k e => (HLT.out k e).1)
        refine ⟨⟨l', b', m', T.push x, ho2, hP2, fun e => ⟨HM3.out e, ?_⟩, hG2, HJ2.out⟩, ?_⟩
        · rw [Sts.push_len]; have := HLL.out e; have := HB.out.2; omega
        · rw [HME.out, hP2.meas]
          cases b' with
          | none => have := HLL.out rfl; show l'.length + 1 < lc.length + 1; omega
          | some e => show 0 < lc.length + 1; omega
theorem blkD_any : ∀ d, d ≤ 20 → StC (21 - d) (stmtD d)
  | 0, _ => pstmt_deep
  | d + 1, h => pstmt_any (21 - (d + 1)) (by omega) _ (by
      have e : 21 - (d + 1) + 1 = 21 - d := by omega
      rw [e]
      exact pblock_any (21 - d) _ (stmtD_lt d) (blkD_any d (by omega)))
theorem pprogram_any {B gp : Nat} {w : World} {l : List Tok} {b : Option Flt} {many : Nat} (h : PS B w gp l b many) : Calls Try.prog 42 #[.pointer (some ⟨gp, 0, none⟩)] w fun e w' => ∃ v T l' b' many', e = .returned v ∧ Tr w' (fun k => w.heap.size ≤ k) v T ∧ PS B w' gp l' b' many' ∧ Rel prog l b T l' b' ∧ w.grownBy w' (some gp) := by
  obtain ⟨g, o, c, q1, -⟩ := h.ex
  have f3 : w.cell? ⟨gp, 3, none⟩ = some (.int .i64 many) := q1.cell (show 3 < 4 by omega)
  have z3 := q1.frozen 3
  have HB := Lib.hid (pblock_any 1 _ (stmtD_lt 20) (blkD_any 20 (by omega)) B gp _ l b 0 (h.setM (m := 0) (by omega)) (fun _ => by omega))
  have HG : Hid (w.grownBy (w.setCell ⟨gp, 3, none⟩ (.int .i64 (0 : Nat))) (some gp)) := grown_set (grown_refl _ _) (.inl rfl) _
  clear h q1
  rw [show (Value.int .i64 ((0 : Nat) : Int)) = .int .i64 0 from rfl] at HB HG
  rw [show (Value.int .i64 ((1 : Nat) : Int)) = .int .i64 1 from rfl] at HB
  go_enter Try.func42, Try.ntmps42
  go_wp2_with fail
  refine HB.out.mono ?_
  rintro e w2 ⟨v, T, l', b', m', rfl, ht, hp, -, hr, hg⟩
  obtain ⟨A, cc, hv⟩ := ht.form
  subst hv
  have HT := Lib.hid ht
  have HP := Lib.hid hp
  have HR := Lib.hid hr
  have HG2 := Lib.hid hg
  clear ht hp hr hg
  go_wp2_with fail
  go_ret
  refine ⟨_, T, l', b', m', rfl, HT.out.mono (fun k hk _ => by have := HG.out.size; have hk1 : _ ≤ k := hk; omega), HP.out, ?_, nil_grown HG.out HG2.out⟩
  have hr := HR.out
  unfold RelM at hr
  unfold Rel prog
  cases b with
  | some e => exact hr
  | none =>
    simp only at hr ⊢
    rcases hq : block (stmtD 20) l 0 with e | ⟨y, z, n⟩
    · rw [hq] at hr; exact hr
    · rw [hq] at hr
      obtain ⟨rfl, rfl, rfl, rfl⟩ := hr
      exact ⟨by trivial, by trivial, by trivial⟩
end Go.Proofs.Ythmpagehmfillaa
