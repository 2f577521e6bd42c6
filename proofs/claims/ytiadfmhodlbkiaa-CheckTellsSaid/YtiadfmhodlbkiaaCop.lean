/-
  THE WALKS OF quillpresskit.CopyParts, CopyStmts: a copy, in memory of the call's own. Conditions: at most 3000 statements, at most 300 parts.
  THE WALK OF quillpresskit.CopyConfig: a copy, in memory of the call's own. Conditions: at most 3000 statements in each list, at most 3000 parts.
-/
import Derived.Test.YtiadfmhodlbkiaaR19
import Derived.Deep.RegionWith
import Derived.Deep.DeepCutAuto
import Derived.Test.YtiadfmhodlbkiaaParX3
namespace Go.Proofs.Ytiadfmhodlbkiaa
open Go.RowKit
set_option linter.unusedSimpArgs false
set_option linter.unusedVariables false
def Sts.tak : Nat → Sts → Sts
  | 0, _ => .nil
  | _ + 1, .nil => .nil
  | n + 1, .cons k i c b e ln r => .cons k i c b e ln (Sts.tak n r)
theorem Sts.tak_zero (T : Sts) : Sts.tak 0 T = .nil := by cases T <;> rfl
theorem Sts.tak_all : ∀ (T : Sts), Sts.tak T.len T = T
  | .nil => rfl
  | .cons k i c b e ln r => by
    show Sts.cons k i c b e ln (Sts.tak r.len r) = _
    rw [Sts.tak_all r]
theorem Sts.tak_push : ∀ {T : Sts} {j : Nat}, j < T.len → Sts.tak (j + 1) T = (Sts.tak j T).push (T.nth j)
  | .nil, _, h => absurd h (Nat.not_lt_zero _)
  | .cons k i c b e ln r, 0, _ => by
    show Sts.cons k i c b e ln (Sts.tak 0 r) = _
    rw [Sts.tak_zero]; rfl
  | .cons k i c b e ln r, j + 1, h => by
    show Sts.cons k i c b e ln (Sts.tak (j + 1) r) = Sts.cons k i c b e ln ((Sts.tak j r).push (r.nth j))
    rw [Sts.tak_push (T := r) (j := j) (by have : j + 1 < r.len + 1 := h; omega)]
theorem Sts.tak_len : ∀ {T : Sts} {j : Nat}, j ≤ T.len → (Sts.tak j T).len = j
  | T, 0, _ => by rw [Sts.tak_zero]; rfl
  | .nil, j + 1, h => absurd h (Nat.not_succ_le_zero _)
  | .cons k i c b e ln r, j + 1, h => by
    show (Sts.tak j r).len + 1 = j + 1
    rw [Sts.tak_len (T := r) (j := j) (by have : j + 1 ≤ r.len + 1 := h; omega)]
theorem smF_set10 (k : Nat) (i : InsS) (c : ConS) (vb ve v : Value) (ln : Int) (j : Nat) (h : j < 13) : (if j = 10 then v else smF k i c vb ve ln j) = smF k i c v ve ln j := by
  match j, h with
  | 0, _ => rfl
  | 1, _ => rfl
  | 2, _ => rfl
  | 3, _ => rfl
  | 4, _ => rfl
  | 5, _ => rfl
  | 6, _ => rfl
  | 7, _ => rfl
  | 8, _ => rfl
  | 9, _ => rfl
  | 10, _ => rfl
  | 11, _ => rfl
  | 12, _ => rfl
theorem smF_set11 (k : Nat) (i : InsS) (c : ConS) (vb ve v : Value) (ln : Int) (j : Nat) (h : j < 13) : (if j = 11 then v else smF k i c vb ve ln j) = smF k i c vb v ln j := by
  match j, h with
  | 0, _ => rfl
  | 1, _ => rfl
  | 2, _ => rfl
  | 3, _ => rfl
  | 4, _ => rfl
  | 5, _ => rfl
  | 6, _ => rfl
  | 7, _ => rfl
  | 8, _ => rfl
  | 9, _ => rfl
  | 10, _ => rfl
  | 11, _ => rfl
  | 12, _ => rfl
theorem strow_alloc (wr : World) (x : StS) (vb ve : Value) : (wr.alloc (.cells #[.int .u8 x.k, .int .u8 x.i.o, .int .i64 x.i.d, .int .i64 x.i.s, .int .i64 x.i.n, .bool x.c.nt, .int .u8 x.c.i.o, .int .i64 x.c.i.d, .int .i64 x.c.i.s, .int .i64 x.c.i.n, vb, ve, .int .i64 x.ln] 75)).rowIs wr.heap.size 75 13 (smF x.k x.i x.c vb ve x.ln) := by
  refine ⟨_, heap_alloc_new wr _, rfl, fun j hj => ?_⟩
  match j, hj with
  | 0, _ => rfl
  | 1, _ => rfl
  | 2, _ => rfl
  | 3, _ => rfl
  | 4, _ => rfl
  | 5, _ => rfl
  | 6, _ => rfl
  | 7, _ => rfl
  | 8, _ => rfl
  | 9, _ => rfl
  | 10, _ => rfl
  | 11, _ => rfl
  | 12, _ => rfl
def CpR (T : Sts) (w : World) (s3 s4 : Value) (wr : World) : Prop := ∃ k : Nat, k ≤ T.len ∧ s4 = .int .i64 k ∧ Lst wr w.heap.size s3 (Sts.tak k T) ∧ Below w.heap.size w wr
/-- A statement in its block, its nested lists copied. -/
def CpP (p n : Nat) (x : StS) (wp wx : World) : Prop := ∃ Ab cb Ae ce, wx.rowIs p 75 13 (smF x.k x.i x.c (.slice Ab x.b.len cb) (.slice Ae x.e.len ce) x.ln) ∧ Tr wx (fun k => n ≤ k) (.slice Ab x.b.len cb) x.b ∧ Tr wx (fun k => n ≤ k) (.slice Ae x.e.len ce) x.e ∧ Below p wp wx
/-- What a copy comes to. -/
def CpO (T : Sts) (w : World) (e : Ending) (w' : World) : Prop := ∃ v, e = .returned v ∧ Tr w' (fun k => w.heap.size ≤ k) v T ∧ Below w.heap.size w w'
theorem cpP_done {wp w3 w4 : World} {p : Nat} {x : StS} {B E Ab Ae : Option Addr} {d n cb ce : Nat} (hs : w4.rowIs p 75 13 (smF x.k x.i x.c (.slice B x.b.len d) (.slice E x.e.len n) x.ln)) (h3 : Tr w3 (fun k => wp.heap.size ≤ k) (.slice Ab x.b.len cb) x.b) (h4 : Tr w4 (fun k => w3.heap.size ≤ k) (.slice Ae x.e.len ce) x.e) (hb3 : Below wp.heap.size wp w3) (hb4 : Below w3.heap.size w3 w4) (hp : p < wp.heap.size) :
    CpP p wp.heap.size x wp ((w4.setCell ⟨p, 10, none⟩ (.slice Ab x.b.len cb)).setCell ⟨p, 11, none⟩ (.slice Ae x.e.len ce)) := by
  have hg : w4.grownBy ((w4.setCell ⟨p, 10, none⟩ (.slice Ab x.b.len cb)).setCell ⟨p, 11, none⟩ (.slice Ae x.e.len ce)) (some p) := by
    have hg1 : w4.grownBy (w4.setCell ⟨p, 10, none⟩ (.slice Ab x.b.len cb)) (some p) := grown_set (grown_refl _ _) (.inl rfl) _
    exact grown_set hg1 (.inl rfl) _
  have hz := hb3.size
  have hb : Below wp.heap.size wp w4 := hb3.trans (hb4.mono hz)
  refine ⟨Ab, cb, Ae, ce, ?_, (h3.below hb4).grown hg (fun k hk e => by injection e with e; have hk : wp.heap.size ≤ k := hk; omega), (h4.grown hg (fun k hk e => by injection e with e; have hk : w3.heap.size ≤ k := hk; omega)).mono (fun k hk _ => Nat.le_trans hz hk), ?_⟩
  · exact (((hs.set 10 _).congr fun j hj => smF_set10 _ _ _ _ _ _ _ j hj).set 11 _).congr fun j hj => smF_set11 _ _ _ _ _ _ _ j hj
  · exact ((hb.mono (Nat.le_of_lt hp)).setCell (p := ⟨p, 10, none⟩) (Nat.le_refl _) _).setCell (p := ⟨p, 11, none⟩) (Nat.le_refl _) _
set_option maxRecDepth 100000 in
set_option maxHeartbeats 8000000 in
theorem copyS_any : ∀ (N : Nat) (T : Sts) (v : Value) (S : Nat → Prop) (w : World), T.all < N → T.all ≤ 3000 → Tr w S v T → Calls Try.prog 50 #[v] w (CpO T w) := by
  intro N
  induction N with
  | zero => intro T v S w h; exact absurd h (Nat.not_lt_zero _)
  | succ N ih =>
    intro T v S w hN h3 hT
    obtain ⟨A1, c1, rfl, -, -⟩ := hT.frm
    have R0 : CpR T w (.slice none 0 0) (.int .i64 0) w := ⟨0, Nat.zero_le _, rfl, by rw [Sts.tak_zero]; exact Lst.nil _ _, Below.refl _ _⟩
    have HR0 := Lib.hid R0
    have HT := Lib.hid hT
    have HX := Lib.hid (And.intro hN (And.intro h3 T.len_all))
    have IH := Lib.hid ih
    clear R0 hT hN h3 ih
    go_enter Try.func50, Try.ntmps50
    go_wp2_with fail
    go_loopw [3, 4] (fun s3 s4 wr => CpR T w s3 s4 wr) (fun _ s _ => T.len - (intOf s).toNat)
    case atStart => exact HR0.out
    case round =>
      clear HR0
      obtain ⟨k, hk, rfl, hls, hbw⟩ := hrel
      have hTr : Tr wr S (.slice A1 T.len c1) T := HT.out.below hbw
      by_cases h0 : k < T.len
      · have b1 : (k : Int) < (T.len : Int) := by omega
        have b0 : (0 : Int) ≤ (k : Int) := by omega
        obtain ⟨g, o, vb, ve, rfl, hsg, hg, hbT, heT, hcl⟩ := hTr.nth h0
        have hna := Sts.nth_all h0
        have htp := Sts.tak_push h0
        have htl := Sts.tak_len (Nat.le_of_lt h0)
        have f0 := hcl 0 (by omega)
        have f1 := hcl 1 (by omega)
        have f2 := hcl 2 (by omega)
        have f3 := hcl 3 (by omega)
        have f4 := hcl 4 (by omega)
        have f5 := hcl 5 (by omega)
        have f6 := hcl 6 (by omega)
        have f7 := hcl 7 (by omega)
        have f8 := hcl 8 (by omega)
        have f9 := hcl 9 (by omega)
        have fa := hcl 10 (by omega)
        have fb := hcl 11 (by omega)
        have fc := hcl 12 (by omega)
        simp only [smF] at f0 f1 f2 f3 f4 f5 f6 f7 f8 f9 fa fb fc
        rw [Nat.add_zero] at f0
        generalize T.nth k = x at *
        obtain ⟨B1, d1, rfl, -, -⟩ := hbT.frm
        obtain ⟨E1, n1, rfl, -, -⟩ := heT.frm
        have hkk : IntKind.i64.wrap ((k : Int) + 1) = ((k + 1 : Nat) : Int) := wrN (by have := HX.out; omega) (by omega)
        have HB := Lib.hid hbT
        have HF := Lib.hid heT
        have HLS := Lib.hid hls
        have HBW := Lib.hid hbw
        have HNA := Lib.hid (And.intro hna (And.intro htp htl))
        have HS0 := Lib.hid (strow_alloc wr x (.slice B1 x.b.len d1) (.slice E1 x.e.len n1))
        have HB0 := Lib.hid ((Below.refl wr.heap.size wr).alloc (Nat.le_refl _) (.cells #[.int .u8 x.k, .int .u8 x.i.o, .int .i64 x.i.d, .int .i64 x.i.s, .int .i64 x.i.n, .bool x.c.nt, .int .u8 x.c.i.o, .int .i64 x.c.i.d, .int .i64 x.c.i.s, .int .i64 x.c.i.n, .slice B1 x.b.len d1, .slice E1 x.e.len n1, .int .i64 x.ln] 75))
        clear hcl hTr hbT heT hls hbw hna htp htl hsg hg
        go_upto_region 6 with fail
        generalize hwp : wr.alloc (.cells #[.int .u8 x.k, .int .u8 x.i.o, .int .i64 x.i.d, .int .i64 x.i.s, .int .i64 x.i.n, .bool x.c.nt, .int .u8 x.c.i.o, .int .i64 x.c.i.d, .int .i64 x.c.i.s, .int .i64 x.c.i.n, .slice B1 x.b.len d1, .slice E1 x.e.len n1, .int .i64 x.ln] 75) = wp at *
        clear hwp f0 f1 f2 f3 f4 f5 f6 f7 f8 f9 fa fb fc
        go_cut [5] (fun s5 wx => s5 = .pointer (some ⟨wr.heap.size, 0, none⟩) ∧ CpP wr.heap.size wp.heap.size x wp wx)
        case first =>
          have da : wp.cell? ⟨wr.heap.size, 10, none⟩ = some (.slice B1 x.b.len d1) := HS0.out.cell (by omega)
          have db : wp.cell? ⟨wr.heap.size, 11, none⟩ = some (.slice E1 x.e.len n1) := HS0.out.cell (by omega)
          go_region_with (first
            | (go_at_call_of 50 B1; (refine (IH.out x.b _ S _ (by have := HX.out; have := HNA.out; omega) (by have := HX.out; have := HNA.out; omega) ((HB.out.below HB0.out).below (below_drewN' (Below.refl _ _) 1))).mono ?_); rintro e w3 ⟨v1, rfl, ht3, hb3⟩
               obtain ⟨A3, c3, rfl, -, -⟩ := ht3.frm
               have hr3 := below_row hb3 HS0.out HS0.out.lt
               have HS3 := Lib.hid hr3
               have HT3 := Lib.hid ht3
               have db3 : w3.cell? ⟨wr.heap.size, 11, none⟩ = some (.slice E1 x.e.len n1) := hr3.cell (by omega)
               have HB3 : Hid (Below wp.heap.size wp w3) := (below_drewN' (Below.refl _ _) 1).trans hb3
               clear ht3 hr3 hb3)
            | (go_at_call_of 50 E1; (refine (IH.out x.e _ S w3 (by have := HX.out; have := HNA.out; omega) (by have := HX.out; have := HNA.out; omega) ((HF.out.below HB0.out).below HB3.out)).mono ?_); rintro e w4 ⟨v2, rfl, ht4, hb4⟩
               obtain ⟨A4, c4, rfl, -, -⟩ := ht4.frm
               have hr4 := below_row hb4 HS3.out HS3.out.lt
               have HS4 := Lib.hid hr4
               have HT4 := Lib.hid ht4
               have ea : w4.cell? ⟨wr.heap.size, 10, none⟩ = some (.slice B1 x.b.len d1) := hr4.cell (by omega)
               have eb : w4.cell? ⟨wr.heap.size, 11, none⟩ = some (.slice E1 x.e.len n1) := hr4.cell (by omega)
               have za := hr4.frozen 10
               have zb := hr4.frozen 11
               have HB4 := Lib.hid hb4
               clear ht4 hr4 hb4))
          all_goals
            go_wp2_with fail
            go_meet
            exact ⟨rfl, cpP_done HS4.out HT3.out HT4.out HB3.out HB4.out HS0.out.lt⟩
        case rest =>
          obtain ⟨rfl, Ab, cb, Ae, ce, hrow, htb, hte, hbx⟩ := hcut
          have r0 := hrow.cell (show 0 < 13 by omega)
          have r1 := hrow.cell (show 1 < 13 by omega)
          have r2 := hrow.cell (show 2 < 13 by omega)
          have r3 := hrow.cell (show 3 < 13 by omega)
          have r4 := hrow.cell (show 4 < 13 by omega)
          have r5 := hrow.cell (show 5 < 13 by omega)
          have r6 := hrow.cell (show 6 < 13 by omega)
          have r7 := hrow.cell (show 7 < 13 by omega)
          have r8 := hrow.cell (show 8 < 13 by omega)
          have r9 := hrow.cell (show 9 < 13 by omega)
          have r10 := hrow.cell (show 10 < 13 by omega)
          have r11 := hrow.cell (show 11 < 13 by omega)
          have r12 := hrow.cell (show 12 < 13 by omega)
          simp only [smF] at r0 r1 r2 r3 r4 r5 r6 r7 r8 r9 r10 r11 r12
          have hbc : Below wr.heap.size wr wc := HB0.out.trans hbx
          have HBC := Lib.hid hbc
          have HL := Lib.hid (HLS.out.below hbc)
          have HLT := Lib.hid HLS.out.lt
          have hoff : ∀ k, wp.heap.size ≤ k → Off w.heap.size u3 k := fun k hk => ⟨by have := HBW.out.size; have := HB0.out.size; omega, fun e => by have := HLT.out k e; have := HB0.out.size; omega⟩
          have HTB := Lib.hid (htb.mono (fun k hk _ => hoff k hk))
          have HTE := Lib.hid (hte.mono (fun k hk _ => hoff k hk))
          clear hrow htb hte hbx hbc hoff
          go_wp2_with (at_builtin; refine append_stmt (.tmp 24) (.tmp 26) rfl rfl _ x (.slice Ab x.b.len cb) (.slice Ae x.e.len ce) _ rfl rfl _ rfl rfl HL.out HTB.out HTE.out ⟨rfl, rfl⟩ (by have := HNA.out; have := HX.out; omega) (Nat.le_trans HBW.out.size HBC.out.size) ?_; intro v2 w2 ho2 hg2)
          have HO := Lib.hid ho2
          have HG := Lib.hid hg2
          clear ho2 hg2
          go_roundw
          case rel => exact ⟨k + 1, by omega, by go_num, by rw [HNA.out.2.1]; exact HO.out, (HBW.out.trans (HBC.out.mono HBW.out.size)).grown HG.out (Nat.le_trans HBW.out.size HBC.out.size) (fun k e => (HLT.out k e).1)⟩
          case measure => simp [intOf]; omega
      · obtain rfl : k = T.len := by omega
        have b1 : ¬ ((T.len : Int) < (T.len : Int)) := by omega
        have HO := Lib.hid (And.intro hls.tr hbw)
        clear hls hbw hTr
        go_wp2_with fail
        go_ret
        exact ⟨_, rfl, by have := HO.out.1; rw [Sts.tak_all] at this; exact this, HO.out.2⟩
section
variable {W : World} {ops : Array Oper} {rest : List Oper} {o : Oper} {a : Act} {Q : Exit → Act → World → Prop} {base : Nat} {v : Value} {l : List PartS}
set_option maxRecDepth 100000 in
/-- 'out = append(out, x)' behind the block that was made for x. -/
theorem append_part (s x : Operand) (hgd : o.guard = none) (ho : o.op = .call { callee := .builtin .append, args := #[s, x], argTypes := #[22, 22] }) (c : Nat) (y : PartS) (cs : Array Value) (hcs : cs.toList = ptC y)
    (hs : a.eval s = v) (H : Nat) (hx : a.eval x = .slice (some ⟨H, 0, none⟩) 1 c) (hH : W.heap.size = H) (hown : PrL W base v l) (hn : l.length + 1 ≤ 1000000) (hbase : base ≤ W.heap.size)
    (h : ∀ v' w', PrL w' base v' (l ++ [y]) → W.grownBy w' v.ownBlock → wpList Try.prog ops Q rest (a.put o.dst v') w') :
    wpList Try.prog ops Q (o :: rest) a (W.alloc (.cells cs 55)) := by
  subst hH
  refine wpList_plain hgd fun _ hK => ?_
  obtain ⟨i, hi, hz, hs1, hb⟩ := info_parts info_pt
  obtain ⟨v', w', hrun, h2, h3, _, h5⟩ := run_append_own_at (P := Try.prog) (W.alloc (.cells cs 55)) base 22 o.type 55 i _ 7 56 Try.underlying22 hi hz hs1 hb rfl (by omega) v l.length (prF l) (World.ownsRow.alloc hown _) ⟨W.heap.size, 0, none⟩ 1 c (ptC y)
    rfl (fun j u hj => by
      rw [add_none, Nat.zero_add, cell_of_row _ _ _ _ _ _ (heap_alloc_new W _), ← Array.getElem?_toList, hcs]
      exact hj) (fun u hu => by simp [ptC] at hu; rcases hu with rfl | rfl | rfl | rfl | rfl | rfl | rfl <;> rfl) (by unfold maxLen; omega) (by omega) (by rw [World.size_alloc]; omega)
  unfold Oper.wp execOp
  simp only [ho, resolve, invoke, builtin, Sem.run_bind, Sem.run_pure, Result.andThen_ok, List.map_toArray, List.map_cons, List.map_nil, hs, hx, hrun]
  refine hK _ _ (h v' w' ?_ (nil_grown (World.grownBy_alloc _ _ _) h3))
  show World.ownsRow _ _ _ _ _ _ _
  rw [prF_app, List.length_append]
  exact h2
end
def CqR (l : List PartS) (w : World) (s3 s4 : Value) (wr : World) : Prop := ∃ k : Nat, k ≤ l.length ∧ s4 = .int .i64 k ∧ PrL wr w.heap.size s3 (l.take k) ∧ Below w.heap.size w wr
/-- What a copy of parts comes to. -/
def CqO (l : List PartS) (w : World) (e : Ending) (w' : World) : Prop := ∃ v, e = .returned v ∧ PrT w' (fun k => w.heap.size ≤ k) v l ∧ Below w.heap.size w w'
set_option maxRecDepth 100000 in
set_option maxHeartbeats 8000000 in
theorem copyP_any (l : List PartS) (v : Value) (S : Nat → Prop) (w : World) (hl : l.length ≤ 3000) (hp : PrT w S v l) : Calls Try.prog 49 #[v] w (CqO l w) := by
  obtain ⟨A, c, rfl⟩ := hp.form
  have HR0 : Hid (CqR l w (.slice none 0 0) (.int .i64 0) w) := ⟨0, Nat.zero_le _, rfl, by rw [List.take_zero]; exact PrL.nil _ _, Below.refl _ _⟩
  have HP := Lib.hid hp
  have HL := Lib.hid hl
  clear hp hl
  go_enter Try.func49, Try.ntmps49
  go_wp2_with fail
  go_loopw [3, 4] (fun s3 s4 wr => CqR l w s3 s4 wr) (fun _ s _ => l.length - (intOf s).toNat)
  case atStart => exact HR0.out
  case round =>
    clear HR0
    obtain ⟨k, hk, rfl, hls, hbw⟩ := hrel
    by_cases h0 : k < l.length
    · have b1 : (k : Int) < (l.length : Int) := by omega
      have b0 : (0 : Int) ≤ (k : Int) := by omega
      obtain ⟨g, o, rfl, hg, hc⟩ := (HP.out.below hbw).nth h0
      have x0 := hc 0 (by omega)
      have x1 := hc 1 (by omega)
      have x2 := hc 2 (by omega)
      have x3 := hc 3 (by omega)
      have x4 := hc 4 (by omega)
      have x5 := hc 5 (by omega)
      have x6 := hc 6 (by omega)
      simp only [ptF] at x0 x1 x2 x3 x4 x5 x6
      rw [Nat.add_zero] at x0
      have htk : l.take (k + 1) = l.take k ++ [l[k]] := by rw [List.take_succ_eq_append_getElem h0]
      have htl : (l.take k).length = k := by rw [List.length_take]; omega
      generalize l[k] = p at *
      have hkk : IntKind.i64.wrap ((k : Int) + 1) = ((k + 1 : Nat) : Int) := wrN (by have := HL.out; omega) (by omega)
      have HLS := Lib.hid hls
      have HBW := Lib.hid hbw
      have HTK := Lib.hid (And.intro htk htl)
      have HLT := Lib.hid hls.lt
      clear hc hls hbw htk htl hg
      go_wp2_with (at_builtin; refine append_part (.tmp 11) (.tmp 16) rfl rfl _ p _ rfl rfl _ rfl rfl HLS.out (by have := HTK.out.2; have := HL.out; omega) HBW.out.size ?_; intro v2 w2 ho2 hg2)
      have HO := Lib.hid ho2
      have HG := Lib.hid hg2
      clear ho2 hg2
      go_roundw
      case rel => exact ⟨k + 1, by omega, by go_num, by rw [HTK.out.1]; exact HO.out, HBW.out.grown HG.out HBW.out.size (fun k e => (HLT.out k e).1)⟩
      case measure => simp [intOf]; omega
    · obtain rfl : k = l.length := by omega
      have b1 : ¬ ((l.length : Int) < (l.length : Int)) := by omega
      have HO := Lib.hid (And.intro hls.tr hbw)
      clear hls hbw
      go_wp2_with fail
      go_ret
      exact ⟨_, rfl, by have := HO.out.1; rw [List.take_length] at this; exact this, HO.out.2⟩
end Go.Proofs.Ytiadfmhodlbkiaa
namespace Go.Proofs.Ytiadfmhodlbkiaa
open Go.RowKit
set_option linter.unusedSimpArgs false
set_option linter.unusedVariables false
theorem cfg1_results {fn : Func} {p : Tmp} (h : fn.results = #[.cell p 25]) (tmps : Array Value) (w : World) (g : Nat) {a b c d : Int} {vp vc vq : Value} {has : Bool}
    (hp : tmps.getD p undef = .pointer (some ⟨g, 0, none⟩)) (hr : w.rowIs g 25 8 (cfgF a b c d vp vc vq has)) : (results fn tmps).run Try.prog w = .ok (.agg (cfgA a b c d vp vc vq has)) w :=
  results_cell_row h tmps w g _ (cfgA a b c d vp vc vq has) (0, 0) _ hp (cfg_heap hr) Try.underlying25 rfl cfg_size
/-- A config whose lists are copied, in its block. -/
def CgP (g : Nat) (c : CfgS) (w wx : World) : Prop := ∃ Ap cp Ac cc Aq cq, wx.rowIs g 25 8 (cfgF c.h c.m c.ph c.pm (.slice Ap c.parts.length cp) (.slice Ac c.code.len cc) (.slice Aq c.post.len cq) c.has) ∧ PrT wx (fun k => g + 2 ≤ k) (.slice Ap c.parts.length cp) c.parts ∧ Tr wx (fun k => g + 2 ≤ k) (.slice Ac c.code.len cc) c.code ∧ Tr wx (fun k => g + 2 ≤ k) (.slice Aq c.post.len cq) c.post ∧
  wx.rowIs (g + 1) 25 8 (cfgF 0 0 0 0 (.slice none 0 0) (.slice none 0 0) (.slice none 0 0) false) ∧ Below w.heap.size w wx
theorem cgP_done {c : CfgS} {w w2 w3 w4 w5 : World} {g : Nat} {vp vc vq : Value} {Ap Ac Aq : Option Addr} {cp cc cq : Nat}
    (hs : w5.rowIs g 25 8 (cfgF c.h c.m c.ph c.pm vp vc vq c.has)) (hz : w5.rowIs (g + 1) 25 8 (cfgF 0 0 0 0 (.slice none 0 0) (.slice none 0 0) (.slice none 0 0) false))
    (h3 : PrT w3 (fun k => w2.heap.size ≤ k) (.slice Ap c.parts.length cp) c.parts) (h4 : Tr w4 (fun k => w3.heap.size ≤ k) (.slice Ac c.code.len cc) c.code) (h5 : Tr w5 (fun k => w4.heap.size ≤ k) (.slice Aq c.post.len cq) c.post)
    (hb2 : Below w.heap.size w w2) (hb3 : Below w2.heap.size w2 w3) (hb4 : Below w3.heap.size w3 w4) (hb5 : Below w4.heap.size w4 w5) (hg : w.heap.size ≤ g) (hg2 : g + 2 ≤ w2.heap.size) :
    CgP g c w (((w5.setCell ⟨g, 4, none⟩ (.slice Ap c.parts.length cp)).setCell ⟨g, 5, none⟩ (.slice Ac c.code.len cc)).setCell ⟨g, 6, none⟩ (.slice Aq c.post.len cq)) := by
  have e1 : w5.grownBy (w5.setCell ⟨g, 4, none⟩ (.slice Ap c.parts.length cp)) (some g) := grown_set (grown_refl _ _) (.inl rfl) _
  have e2 : w5.grownBy ((w5.setCell ⟨g, 4, none⟩ (.slice Ap c.parts.length cp)).setCell ⟨g, 5, none⟩ (.slice Ac c.code.len cc)) (some g) := grown_set e1 (.inl rfl) _
  have e3 : w5.grownBy (((w5.setCell ⟨g, 4, none⟩ (.slice Ap c.parts.length cp)).setCell ⟨g, 5, none⟩ (.slice Ac c.code.len cc)).setCell ⟨g, 6, none⟩ (.slice Aq c.post.len cq)) (some g) := grown_set e2 (.inl rfl) _
  have z2 := hb2.size
  have z3 := hb3.size
  have z4 := hb4.size
  have z5 := hb5.size
  have q3 : PrT w5 (fun k => w2.heap.size ≤ k) (.slice Ap c.parts.length cp) c.parts := (h3.below hb4).below (hb5)
  have q4 : Tr w5 (fun k => w3.heap.size ≤ k) (.slice Ac c.code.len cc) c.code := h4.below hb5
  have hb : Below w.heap.size w w5 := hb2.trans ((hb3.trans ((hb4.trans (hb5.mono z4)).mono z3)).mono z2)
  refine ⟨Ap, cp, Ac, cc, Aq, cq, ?_, ?_, ?_, ?_, ?_, ?_⟩
  · exact cfg_setQ _ (cfg_setC _ (cfg_setP _ hs))
  · exact (q3.grown e3 (fun k hk e => by injection e with e; have hk : w2.heap.size ≤ k := hk; omega)).mono (fun k hk _ => Nat.le_trans hg2 hk)
  · exact (q4.grown e3 (fun k hk e => by injection e with e; have hk : w3.heap.size ≤ k := hk; omega)).mono (fun k hk _ => Nat.le_trans (Nat.le_trans hg2 z3) hk)
  · exact (h5.grown e3 (fun k hk e => by injection e with e; have hk : w4.heap.size ≤ k := hk; omega)).mono (fun k hk _ => Nat.le_trans (Nat.le_trans (Nat.le_trans hg2 z3) z4) hk)
  · exact row_other (row_other (row_other hz (by omega) 4 _) (by omega) 5 _) (by omega) 6 _
  · exact ((hb.setCell (p := ⟨g, 4, none⟩) hg _).setCell (p := ⟨g, 5, none⟩) hg _).setCell (p := ⟨g, 6, none⟩) hg _
theorem cfg_grown {w : World} {g : Nat} (h m ph pm vp vc vq has : Value) : w.grownBy ((((((((w.setCell ⟨g, 0, none⟩ h).setCell ⟨g, 1, none⟩ m).setCell ⟨g, 2, none⟩ ph).setCell ⟨g, 3, none⟩ pm).setCell ⟨g, 4, none⟩ vp).setCell ⟨g, 5, none⟩ vc).setCell ⟨g, 6, none⟩ vq).setCell ⟨g, 7, none⟩ has) (some g) := by
  have e0 : w.grownBy (w.setCell ⟨g, 0, none⟩ h) (some g) := grown_set (grown_refl _ _) (.inl rfl) _
  have e1 := grown_set (p := ⟨g, 1, none⟩) e0 (.inl rfl) m
  have e2 := grown_set (p := ⟨g, 2, none⟩) e1 (.inl rfl) ph
  have e3 := grown_set (p := ⟨g, 3, none⟩) e2 (.inl rfl) pm
  have e4 := grown_set (p := ⟨g, 4, none⟩) e3 (.inl rfl) vp
  have e5 := grown_set (p := ⟨g, 5, none⟩) e4 (.inl rfl) vc
  have e6 := grown_set (p := ⟨g, 6, none⟩) e5 (.inl rfl) vq
  exact grown_set (p := ⟨g, 7, none⟩) e6 (.inl rfl) has
/-- What a copy of a config comes to. -/
def CgO (c : CfgS) (w : World) (e : Ending) (w' : World) : Prop := ∃ vp vc vq, e = .returned (.agg (cfgA c.h c.m c.ph c.pm vp vc vq c.has)) ∧ PrT w' (fun k => w.heap.size ≤ k) vp c.parts ∧ Tr w' (fun k => w.heap.size ≤ k) vc c.code ∧ Tr w' (fun k => w.heap.size ≤ k) vq c.post ∧ Below w.heap.size w w'
set_option maxRecDepth 100000 in
set_option maxHeartbeats 8000000 in
theorem copyC_any (c : CfgS) (vp vc vq : Value) (S : Nat → Prop) (w : World) (hl : c.parts.length ≤ 3000) (hn : c.code.all ≤ 3000 ∧ c.post.all ≤ 3000) (hp : PrT w S vp c.parts) (hc : Tr w S vc c.code) (hq : Tr w S vq c.post) :
    Calls Try.prog 17 #[.agg (cfgA c.h c.m c.ph c.pm vp vc vq c.has)] w (CgO c w) := by
  obtain ⟨A1, d1, rfl⟩ := hp.form
  obtain ⟨A3, n3, rfl, -, -⟩ := hc.frm
  obtain ⟨A5, n5, rfl, -, -⟩ := hq.frm
  have HCP := Lib.hid (fun W (hb : Below w.heap.size w W) => copyP_any c.parts _ S W hl (hp.below hb))
  have HCC := Lib.hid (fun W (hb : Below w.heap.size w W) => copyS_any (c.code.all + 1) c.code _ S W (Nat.lt_succ_self _) hn.1 (hc.below hb))
  have HCQ := Lib.hid (fun W (hb : Below w.heap.size w W) => copyS_any (c.post.all + 1) c.post _ S W (Nat.lt_succ_self _) hn.2 (hq.below hb))
  clear hl hn hp hc hq
  have e1 := World.size_alloc w (.cells (cfgA c.h c.m c.ph c.pm (.slice A1 c.parts.length d1) (.slice A3 c.code.len n3) (.slice A5 c.post.len n5) c.has) 25)
  have hb1 : Below w.heap.size w (w.alloc (.cells (cfgA c.h c.m c.ph c.pm (.slice A1 c.parts.length d1) (.slice A3 c.code.len n3) (.slice A5 c.post.len n5) c.has) 25)) := (Below.refl _ _).alloc (Nat.le_refl _) _
  have r1 := cfg_row (heap_alloc_new w (.cells (cfgA c.h c.m c.ph c.pm (.slice A1 c.parts.length d1) (.slice A3 c.code.len n3) (.slice A5 c.post.len n5) c.has) 25))
  unfold cfgA at *
  go_enter Try.func17, Try.ntmps17
  go_upto_region 1 with fail
  generalize w.alloc (.cells #[.int .i64 c.h, .int .i64 c.m, .int .i64 c.ph, .int .i64 c.pm, .slice A1 c.parts.length d1, .slice A3 c.code.len n3, .slice A5 c.post.len n5, .bool c.has] 25) = W1 at *
  have e2 := World.size_alloc W1 (.cells (cfgA 0 0 0 0 (.slice none 0 0) (.slice none 0 0) (.slice none 0 0) false) 25)
  have hb2 : Below W1.heap.size W1 (W1.alloc (.cells (cfgA 0 0 0 0 (.slice none 0 0) (.slice none 0 0) (.slice none 0 0) false) 25)) := (Below.refl _ _).alloc (Nat.le_refl _) _
  have r2 := cfg_row (heap_alloc_new W1 (.cells (cfgA 0 0 0 0 (.slice none 0 0) (.slice none 0 0) (.slice none 0 0) false) 25))
  unfold cfgA at *
  have r1' := below_row hb2 r1 r1.lt
  have hb12 := hb1.trans (hb2.mono hb1.size)
  generalize W1.alloc (.cells #[.int .i64 0, .int .i64 0, .int .i64 0, .int .i64 0, .slice none 0 0, .slice none 0 0, .slice none 0 0, .bool false] 25) = W2 at *
  rw [e1] at r2
  have HR1 := Lib.hid r1'
  have HR2 := Lib.hid r2
  have HB2 := Lib.hid hb12
  have HG := Lib.hid (show w.heap.size + 2 ≤ W2.heap.size by omega)
  clear e1 e2 hb1 hb2 r1 r2 r1' hb12
  go_cut [1, 2] (fun s1 s2 wx => s1 = .pointer (some ⟨w.heap.size, 0, none⟩) ∧ s2 = .pointer (some ⟨w.heap.size + 1, 0, none⟩) ∧ CgP w.heap.size c w wx)
  case first =>
    have a4 : W2.cell? ⟨w.heap.size, 4, none⟩ = some (.slice A1 c.parts.length d1) := HR1.out.cell (by omega)
    have a5 : W2.cell? ⟨w.heap.size, 5, none⟩ = some (.slice A3 c.code.len n3) := HR1.out.cell (by omega)
    have a6 : W2.cell? ⟨w.heap.size, 6, none⟩ = some (.slice A5 c.post.len n5) := HR1.out.cell (by omega)
    go_region_with (first
      | (go_at_call 49; (refine (HCP.out _ (below_drewN' HB2.out 1)).mono ?_); rintro e w3 ⟨v1, rfl, ht3, hb3⟩
         obtain ⟨Ap, cp, rfl⟩ := ht3.form
         have hs3 := below_row hb3 HR1.out HR1.out.lt
         have hz3 := below_row hb3 HR2.out HR2.out.lt
         have b5 : w3.cell? ⟨w.heap.size, 5, none⟩ = some (.slice A3 c.code.len n3) := hs3.cell (by omega)
         have b6 : w3.cell? ⟨w.heap.size, 6, none⟩ = some (.slice A5 c.post.len n5) := hs3.cell (by omega)
         have HS3 := Lib.hid hs3
         have HZ3 := Lib.hid hz3
         have HT3 := Lib.hid ht3
         have HB3 : Hid (Below W2.heap.size W2 w3) := (below_drewN' (Below.refl _ _) 1).trans hb3
         have HBw3 := Lib.hid (HB2.out.trans (HB3.out.mono HB2.out.size))
         clear ht3 hs3 hz3 hb3)
      | (go_at_call_of 50 A3; (refine (HCC.out w3 HBw3.out).mono ?_); rintro e w4 ⟨v2, rfl, ht4, hb4⟩
         obtain ⟨Ac, cc, rfl, -, -⟩ := ht4.frm
         have hs4 := below_row hb4 HS3.out HS3.out.lt
         have hz4 := below_row hb4 HZ3.out HZ3.out.lt
         have g6 : w4.cell? ⟨w.heap.size, 6, none⟩ = some (.slice A5 c.post.len n5) := hs4.cell (by omega)
         have HS4 := Lib.hid hs4
         have HZ4 := Lib.hid hz4
         have HT4 := Lib.hid ht4
         have HB4 := Lib.hid hb4
         have HBw4 := Lib.hid (HBw3.out.trans (HB4.out.mono HBw3.out.size))
         clear ht4 hs4 hz4 hb4)
      | (go_at_call_of 50 A5; (refine (HCQ.out w4 HBw4.out).mono ?_); rintro e w5 ⟨v3, rfl, ht5, hb5⟩
         obtain ⟨Aq, cq, rfl, -, -⟩ := ht5.frm
         have hs5 := below_row hb5 HS4.out HS4.out.lt
         have hz5 := below_row hb5 HZ4.out HZ4.out.lt
         have k4 : w5.cell? ⟨w.heap.size, 4, none⟩ = some (.slice A1 c.parts.length d1) := hs5.cell (by omega)
         have k5 : w5.cell? ⟨w.heap.size, 5, none⟩ = some (.slice A3 c.code.len n3) := hs5.cell (by omega)
         have k6 : w5.cell? ⟨w.heap.size, 6, none⟩ = some (.slice A5 c.post.len n5) := hs5.cell (by omega)
         have j4 := hs5.frozen 4
         have j5 := hs5.frozen 5
         have j6 := hs5.frozen 6
         have HS5 := Lib.hid hs5
         have HZ5 := Lib.hid hz5
         have HT5 := Lib.hid ht5
         have HB5 := Lib.hid hb5
         clear ht5 hs5 hz5 hb5))
    all_goals
      go_wp2_with fail
      go_meet
      exact ⟨rfl, rfl, cgP_done (w2 := W2) HS5.out HZ5.out HT3.out HT4.out HT5.out HB2.out HB3.out HB4.out HB5.out (Nat.le_refl _) HG.out⟩
  case rest =>
    obtain ⟨rfl, rfl, Ap, cp, Ac, cc, Aq, cq, hs, hP, hC, hQ, hz, hbx⟩ := hcut
    have r0 := hs.cell (show 0 < 8 by omega)
    have r1 := hs.cell (show 1 < 8 by omega)
    have r2 := hs.cell (show 2 < 8 by omega)
    have r3 := hs.cell (show 3 < 8 by omega)
    have r4 := hs.cell (show 4 < 8 by omega)
    have r5 := hs.cell (show 5 < 8 by omega)
    have r6 := hs.cell (show 6 < 8 by omega)
    have r7 := hs.cell (show 7 < 8 by omega)
    have q0 := hz.cell (show 0 < 8 by omega)
    have q1 := hz.cell (show 1 < 8 by omega)
    have q2 := hz.cell (show 2 < 8 by omega)
    have q3 := hz.cell (show 3 < 8 by omega)
    have q4 := hz.cell (show 4 < 8 by omega)
    have q5 := hz.cell (show 5 < 8 by omega)
    have q6 := hz.cell (show 6 < 8 by omega)
    have q7 := hz.cell (show 7 < 8 by omega)
    simp only [cfgF] at r0 r1 r2 r3 r4 r5 r6 r7 q0 q1 q2 q3 q4 q5 q6 q7
    have z0 := hz.frozen 0
    have z1 := hz.frozen 1
    have z2 := hz.frozen 2
    have z3 := hz.frozen 3
    have z4 := hz.frozen 4
    have z5 := hz.frozen 5
    have z6 := hz.frozen 6
    have z7 := hz.frozen 7
    have HZ := Lib.hid hz
    have HX := Lib.hid (And.intro hP (And.intro hC (And.intro hQ hbx)))
    clear hs hP hC hQ hz hbx
    go_wp2_with fail
    (try simp only [Exit.inBlock, Exit.then])
    refine bodyPost_ret (cfg1_results rfl _ _ (w.heap.size + 1) rfl (cfg_all c.h c.m c.ph c.pm _ _ _ c.has HZ.out)) rfl ?_
    obtain ⟨hP, hC, hQ, hbx⟩ := HX.out
    have hg := cfg_grown (w := wc) (g := w.heap.size + 1) (.int .i64 c.h) (.int .i64 c.m) (.int .i64 c.ph) (.int .i64 c.pm) (.slice Ap c.parts.length cp) (.slice Ac c.code.len cc) (.slice Aq c.post.len cq) (.bool c.has)
    refine ⟨_, _, _, rfl, ?_, ?_, ?_, ?_⟩
    · exact (hP.grown hg (fun k hk e => by injection e with e; have hk : w.heap.size + 2 ≤ k := hk; omega)).mono (fun k hk _ => by have hk : w.heap.size + 2 ≤ k := hk; show w.heap.size ≤ k; omega)
    · exact (hC.grown hg (fun k hk e => by injection e with e; have hk : w.heap.size + 2 ≤ k := hk; omega)).mono (fun k hk _ => by have hk : w.heap.size + 2 ≤ k := hk; show w.heap.size ≤ k; omega)
    · exact (hQ.grown hg (fun k hk e => by injection e with e; have hk : w.heap.size + 2 ≤ k := hk; omega)).mono (fun k hk _ => by have hk : w.heap.size + 2 ≤ k := hk; show w.heap.size ≤ k; omega)
    · exact hbx.grown hg hbx.size (fun k e => by injection e with e; omega)
end Go.Proofs.Ytiadfmhodlbkiaa
