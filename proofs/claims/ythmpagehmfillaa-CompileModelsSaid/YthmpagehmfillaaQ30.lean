/-
  THE WALK OF quillpressref15.Right, the document's answer for an instruction. Conditions: an Op is a byte.
  THE WALKS OF quillpressref19's plain, condition. Conditions: an Op is a byte.
  THE WALKS OF quillpressref19's Depth, count, Count. Conditions: a tree of at most 3000 statements.
  THE WALK OF quillpressref19.each. Conditions: a tree of at most 3000 statements; an Op is a byte.
  THE WALKS OF quillpressref19's Right, Config. Conditions: trees of at most 3000 statements; an Op is a byte.
  THE WALKS OF quillpresskit.CopyParts, CopyStmts: a copy, in memory of the call's own. Conditions: at most 3000 statements, at most 300 parts.
  THE WALK OF quillpresskit.CopyConfig: a copy, in memory of the call's own. Conditions: at most 3000 statements in each list, at most 3000 parts.
  ARGUMENTS OF A ROW, OPENED: a slice of bytes, nil or not. Conditions: none.
-/
import Derived.Test.YthmpagehmfillaaQ02
import Derived.Deep.QuietTactic
import Derived.BigQuiet
import Derived.Deep.DeepCutAuto
import Derived.Test.YthmpagehmfillaaQ24
import Derived.Test.YthmpagehmfillaaQ29
import Derived.Deep.CutBlock
import Derived.Test.YthmpagehmfillaaQ26
import Derived.Deep.RegionWith
import Derived.Test.YthmpagehmfillaaQ28
import Derived.Test.YthmpagehmfillaaQ03
import Derived.ProofKit
import Derived.OpenShut
namespace Go.Proofs.Ythmpagehmfillaa
open Go.RowKit
set_option linter.unusedSimpArgs false
set_option linter.unusedVariables false
set_option maxRecDepth 100000
def wi (x a b : Int) : Bool := decide (a ≤ x) && decide (x ≤ b)
def clsN (o : Nat) : Nat :=
  if o = 0 ∨ o = 24 ∨ o = 25 ∨ o = 26 then 1 else if o = 1 then 2 else if o = 2 then 3 else if o ≤ 7 then 4 else if o ≤ 21 then 5 else if o = 22 then 6 else if o = 23 then 7 else if o ≤ 29 then 8 else if o = 30 then 9 else 0
theorem cls_shp (o : Nat) : (clsN o = 1 ∧ shp o = ⟨true, -1, false, false, false, false, false⟩) ∨ (clsN o = 2 ∧ shp o = ⟨true, 6, true, false, false, false, false⟩) ∨ (clsN o = 3 ∧ shp o = ⟨true, 6, false, false, true, false, false⟩) ∨ (clsN o = 4 ∧ shp o = ⟨true, 6, false, false, false, false, false⟩) ∨ (clsN o = 5 ∧ shp o = ⟨true, -1, false, true, false, false, false⟩) ∨ (clsN o = 6 ∧ shp o = ⟨true, 3, false, false, true, false, false⟩) ∨ (clsN o = 7 ∧ shp o = ⟨true, -1, false, false, true, false, false⟩) ∨ (clsN o = 8 ∧ shp o = ⟨true, -1, false, false, false, true, false⟩) ∨ (clsN o = 9 ∧ shp o = ⟨true, -1, false, false, false, false, true⟩) ∨ (clsN o = 0 ∧ shp o = ⟨false, 0, false, false, false, false, false⟩) := by
  by_cases h30 : o ≤ 30
  · have hc : o = 0 ∨ o = 1 ∨ o = 2 ∨ o = 3 ∨ o = 4 ∨ o = 5 ∨ o = 6 ∨ o = 7 ∨ o = 8 ∨ o = 9 ∨ o = 10 ∨ o = 11 ∨ o = 12 ∨ o = 13 ∨ o = 14 ∨ o = 15 ∨ o = 16 ∨ o = 17 ∨ o = 18 ∨ o = 19 ∨ o = 20 ∨ o = 21 ∨ o = 22 ∨ o = 23 ∨ o = 24 ∨ o = 25 ∨ o = 26 ∨ o = 27 ∨ o = 28 ∨ o = 29 ∨ o = 30 := by omega
    rcases hc with rfl | rfl | rfl | rfl | rfl | rfl | rfl | rfl | rfl | rfl | rfl | rfl | rfl | rfl | rfl | rfl | rfl | rfl | rfl | rfl | rfl | rfl | rfl | rfl | rfl | rfl | rfl | rfl | rfl | rfl | rfl <;> simp [clsN, shp]
  · have h1 : clsN o = 0 := by
      unfold clsN
      rw [if_neg (by omega), if_neg (by omega), if_neg (by omega), if_neg (by omega), if_neg (by omega), if_neg (by omega), if_neg (by omega), if_neg (by omega), if_neg (by omega)]
    have h2 : shp o = ⟨false, 0, false, false, false, false, false⟩ := by
      unfold shp
      rw [if_neg (by omega), if_neg (by omega), if_neg (by omega), if_neg (by omega), if_neg (by omega), if_neg (by omega), if_neg (by omega), if_neg (by omega), if_neg (by omega)]
    simp [h1, h2]
theorem rx_1 (d s n : Int) : rightX ⟨true, -1, false, false, false, false, false⟩ d s n = (decide (d = 0) && decide (s = 0) && decide (n = 0)) := by
  rw [Bool.eq_iff_iff]
  simp [rightX, inI, wi]
  omega
theorem rx_2 (d s n : Int) : rightX ⟨true, 6, true, false, false, false, false⟩ d s n = (wi d 0 6 && wi s 0 6 && decide (n = 0)) := by
  rw [Bool.eq_iff_iff]
  simp [rightX, inI, wi]
  omega
theorem rx_3 (d s n : Int) : rightX ⟨true, 6, false, false, true, false, false⟩ d s n = (wi d 0 6 && decide (s = 0) && wi n 0 255) := by
  rw [Bool.eq_iff_iff]
  simp [rightX, inI, wi]
  omega
theorem rx_4 (d s n : Int) : rightX ⟨true, 6, false, false, false, false, false⟩ d s n = (wi d 0 6 && decide (s = 0) && decide (n = 0)) := by
  rw [Bool.eq_iff_iff]
  simp [rightX, inI, wi]
  omega
theorem rx_6 (d s n : Int) : rightX ⟨true, 3, false, false, true, false, false⟩ d s n = (wi d 0 3 && decide (s = 0) && wi n 0 255) := by
  rw [Bool.eq_iff_iff]
  simp [rightX, inI, wi]
  omega
theorem rx_7 (d s n : Int) : rightX ⟨true, -1, false, false, true, false, false⟩ d s n = (decide (d = 0) && decide (s = 0) && wi n 0 255) := by
  rw [Bool.eq_iff_iff]
  simp [rightX, inI, wi]
  omega
theorem rx_8 (d s n : Int) : rightX ⟨true, -1, false, false, false, true, false⟩ d s n = (decide (d = 0) && decide (s = 0) && wi n 0 65535) := by
  rw [Bool.eq_iff_iff]
  simp [rightX, inI, wi]
  omega
theorem rx_9 (d s n : Int) : rightX ⟨true, -1, false, false, false, false, true⟩ d s n = (decide (d = 0) && decide (s = 0) && wi n 0 65535) := by
  rw [Bool.eq_iff_iff]
  simp [rightX, inI, wi]
  omega
theorem rx_5 (d s n : Int) : rightX ⟨true, -1, false, true, false, false, false⟩ d s n = (decide (d = 0) && ((wi s 0 6 && decide (n = 0)) || (decide (s = 7) && wi n 0 255))) := by
  rw [Bool.eq_iff_iff]
  by_cases h7 : s = 7
  · simp [rightX, inI, wi, h7]; try omega
  · simp [rightX, inI, wi, h7]; omega
end Go.Proofs.Ythmpagehmfillaa
namespace Go.Proofs.Ythmpagehmfillaa
open Go.RowKit
set_option linter.unusedSimpArgs false
set_option linter.unusedVariables false
end Go.Proofs.Ythmpagehmfillaa
namespace Go.Proofs.Ythmpagehmfillaa
open Go.RowKit
set_option linter.unusedSimpArgs false
set_option linter.unusedVariables false
/-- How deep a list is nested, at most one more than m. -/
def depN : Nat → Sts → Nat
  | _, .nil => 0
  | 0, .cons .. => 1
  | m + 1, .cons _ _ _ b e _ r => max (max (depN m b) (depN m e) + 1) (depN (m + 1) r)
theorem depN_nil (m : Nat) : depN m .nil = 0 := by cases m <;> rfl
theorem depN_le : ∀ (m : Nat) (T : Sts), depN m T ≤ m + 1
  | m, .nil => by rw [depN_nil]; omega
  | 0, .cons .. => Nat.le_refl _
  | m + 1, .cons _ _ _ b e _ r => by
    have h1 := depN_le m b
    have h2 := depN_le m e
    have h3 := depN_le (m + 1) r
    show max (max (depN m b) (depN m e) + 1) (depN (m + 1) r) ≤ m + 1 + 1
    omega
theorem depN_dpt : ∀ (lv : Nat) (T : Sts), depN (lv + 1) T ≤ lv ↔ dpt lv T = true
  | lv, .nil => by rw [depN_nil, dpt_nil]; simp
  | 0, .cons k i c b e ln r => by
    show max (max (depN 0 b) (depN 0 e) + 1) (depN 1 r) ≤ 0 ↔ false = true
    constructor
    · intro h; omega
    · intro h; cases h
  | lv + 1, .cons k i c b e ln r => by
    have h1 := depN_dpt lv b
    have h2 := depN_dpt lv e
    have h3 := depN_dpt (lv + 1) r
    show max (max (depN (lv + 1) b) (depN (lv + 1) e) + 1) (depN (lv + 1 + 1) r) ≤ lv + 1 ↔ (dpt lv b && dpt lv e && dpt (lv + 1) r) = true
    rw [Bool.and_eq_true, Bool.and_eq_true, ← h1, ← h2, ← h3]
    omega
def DeR (T : Sts) (m : Nat) (w : World) (s5 s6 : Value) (wr : World) : Prop :=
  ∃ (k d n : Nat), k ≤ T.len ∧ s5 = .int .i64 d ∧ s6 = .int .i64 k ∧ max (d + 1) (depN (m + 1) (Sts.drp k T)) = depN (m + 1) T ∧ d ≤ m + 1 ∧ wr = w.drewN n
theorem Tr.drw {w : World} {S : Nat → Prop} {v : Value} {T : Sts} (h : Tr w S v T) (n : Nat) : Tr (w.drewN n) S v T := h.below (below_drewN' (Below.refl _ _) n)
theorem World.drewN_add (w : World) (a : Nat) : ∀ b : Nat, (w.drewN a).drewN b = w.drewN (a + b)
  | 0 => rfl
  | b + 1 => by
    show ((w.drewN a).drewN b).drew = _
    rw [World.drewN_add w a b]; rfl
theorem wrI {x y : Int} (h : -9223372036854775808 ≤ x ∧ x < 9223372036854775808) (e : x = y) : IntKind.i64.wrap x = y := by subst e; rw [IntKind.wrap_i64]; omega; all_goals omega
theorem wrN {x : Int} {n : Nat} (hn : n ≤ 100000) (e : x = (n : Int)) : IntKind.i64.wrap x = (n : Int) := wrI (by omega) e
theorem wrN64 {x : Int} {n : Nat} (hn : n ≤ 100000) (e : x = (n : Int)) : wrap64 x = (n : Int) := by subst e; unfold wrap64; omega
theorem wr64 {x y : Int} (h : -9223372036854775808 ≤ x ∧ x < 9223372036854775808) (e : x = y) : wrap64 x = y := by subst e; unfold wrap64; omega
def CnR (T : Sts) (m : Nat) (w : World) (s5 s6 : Value) (wr : World) : Prop :=
  ∃ (k d n : Nat), k ≤ T.len ∧ s5 = .int .i64 d ∧ s6 = .int .i64 k ∧ d + cnt (m + 1) (Sts.drp k T) = cnt (m + 1) T + (Sts.drp k T).len ∧ wr = w.drewN n
end Go.Proofs.Ythmpagehmfillaa
namespace Go.Proofs.Ythmpagehmfillaa
open Go.RowKit
set_option linter.unusedSimpArgs false
set_option linter.unusedVariables false
/-- Is each statement right, at any depth? -/
def allR (post : Bool) : Sts → Bool
  | .nil => true
  | .cons k i c b e ln r => rightS post ⟨k, i, c, b, e, ln⟩ && allR post b && allR post e && allR post r
theorem allR_alR (post : Bool) : ∀ (lv : Nat) (T : Sts), dpt lv T = true → alR post lv T = allR post T
  | 0, .nil, _ => rfl
  | 0, .cons .., h => by cases h
  | _ + 1, .nil, _ => rfl
  | lv + 1, .cons k i c b e ln r, h => by
    have h' : (dpt lv b && dpt lv e && dpt (lv + 1) r) = true := h
    simp only [Bool.and_eq_true] at h'
    obtain ⟨⟨h1, h2⟩, h3⟩ := h'
    show (rightS post _ && alR post lv b && alR post lv e && alR post (lv + 1) r) = (rightS post _ && allR post b && allR post e && allR post r)
    rw [allR_alR post lv b h1, allR_alR post lv e h2, allR_alR post (lv + 1) r h3]
/-- The zero instruction, in a block. -/
def zIns : Obj := .cells #[.int .u8 0, .int .i64 0, .int .i64 0, .int .i64 0] 56
def EaR (T : Sts) (post : Bool) (w : World) (s6 : Value) (wr : World) : Prop :=
  ∃ k, k ≤ T.len ∧ s6 = .int .i64 k ∧ Below (w.heap.size + 1) (w.alloc zIns) wr ∧ allR post (Sts.drp k T) = allR post T
/-- A statement in a block of its own. -/
theorem stat_alloc (wr : World) (x : StS) (vb ve : Value) : StAt (wr.alloc (.cells #[.int .u8 x.k, .int .u8 x.i.o, .int .i64 x.i.d, .int .i64 x.i.s, .int .i64 x.i.n, .bool x.c.nt, .int .u8 x.c.i.o, .int .i64 x.c.i.d, .int .i64 x.c.i.s, .int .i64 x.c.i.n, vb, ve, .int .i64 x.ln] 60)) wr.heap.size 0 x vb ve := by
  have h1 := heap_alloc_new wr (.cells #[.int .u8 x.k, .int .u8 x.i.o, .int .i64 x.i.d, .int .i64 x.i.s, .int .i64 x.i.n, .bool x.c.nt, .int .u8 x.c.i.o, .int .i64 x.c.i.d, .int .i64 x.c.i.s, .int .i64 x.c.i.n, vb, ve, .int .i64 x.ln] 60)
  refine ⟨by rw [World.size_alloc]; exact Nat.lt_succ_self _, fun m hm => ?_⟩
  rw [Nat.zero_add, cell_of_row _ _ _ _ _ _ h1]
  match m, hm with
  | 0, _ => rfl
  | 1, _ => rfl
  | 2, _ => rfl
  | 3, _ => rfl
  | 4, _ => rfl
  | 5, _ => rfl
  | 6, _ => rfl
  | 7, _ => rfl
  | 8, _ => rfl
  | 9, _ => rfl
  | 10, _ => rfl
  | 11, _ => rfl
  | 12, _ => rfl
theorem zIns_at (w : World) (m : Nat) : (w.alloc zIns).cell? ⟨w.heap.size, m, none⟩ = (#[.int .u8 0, .int .i64 0, .int .i64 0, .int .i64 0] : Array Value)[m]? := cell_of_row _ _ _ _ _ _ (heap_alloc_new w zIns)
theorem bare2 (b e : Nat) : decide (b + e = 0) = (decide (b = 0) && decide (e = 0)) := by
  rw [Bool.eq_iff_iff]; simp
theorem len_eq0 (n : Nat) : ((n : Int) == 0) = decide (n = 0) := by
  rw [Bool.eq_iff_iff]; simp
end Go.Proofs.Ythmpagehmfillaa
namespace Go.Proofs.Ythmpagehmfillaa
open Go.RowKit
set_option linter.unusedSimpArgs false
set_option linter.unusedVariables false
theorem rightT_two (post : Bool) (T : Sts) : rightT post T = (decide (depN 21 T ≤ 20) && decide (cnt 20 T ≤ 500) && allR post T) := by
  unfold rightT
  have h1 := depN_dpt 20 T
  by_cases h : dpt 20 T = true
  · rw [h, allR_alR post 20 T h, decide_eq_true (h1.2 h)]
    cases allR post T <;> simp
  · have h2 : ¬ depN 21 T ≤ 20 := fun e => h (h1.1 e)
    rw [decide_eq_false h2]
    have h3 : dpt 20 T = false := by simpa using h
    rw [h3]; simp
end Go.Proofs.Ythmpagehmfillaa
namespace Go.Proofs.Ythmpagehmfillaa
open Go.RowKit
set_option linter.unusedSimpArgs false
set_option linter.unusedVariables false
def Sts.tak : Nat → Sts → Sts
  | 0, _ => .nil
  | _ + 1, .nil => .nil
  | n + 1, .cons k i c b e ln r => .cons k i c b e ln (Sts.tak n r)
theorem Sts.tak_zero (T : Sts) : Sts.tak 0 T = .nil := by cases T <;> rfl
theorem Sts.tak_all : ∀ (T : Sts), Sts.tak T.len T = T
  | .nil => rfl
  | .cons k i c b e ln r => by
    show Sts.cons k i c b e ln (Sts.tak r.len r) = _
    rw [Sts.tak_all r]
theorem Sts.tak_push : ∀ {T : Sts} {j : Nat}, j < T.len → Sts.tak (j + 1) T = (Sts.tak j T).push (T.nth j)
  | .nil, _, h => absurd h (Nat.not_lt_zero _)
  | .cons k i c b e ln r, 0, _ => by
    show Sts.cons k i c b e ln (Sts.tak 0 r) = _
    rw [Sts.tak_zero]; rfl
  | .cons k i c b e ln r, j + 1, h => by
    show Sts.cons k i c b e ln (Sts.tak (j + 1) r) = Sts.cons k i c b e ln ((Sts.tak j r).push (r.nth j))
    rw [Sts.tak_push (T := r) (j := j) (by have : j + 1 < r.len + 1 := h; omega)]
theorem Sts.tak_len : ∀ {T : Sts} {j : Nat}, j ≤ T.len → (Sts.tak j T).len = j
  | T, 0, _ => by rw [Sts.tak_zero]; rfl
  | .nil, j + 1, h => absurd h (Nat.not_succ_le_zero _)
  | .cons k i c b e ln r, j + 1, h => by
    show (Sts.tak j r).len + 1 = j + 1
    rw [Sts.tak_len (T := r) (j := j) (by have : j + 1 ≤ r.len + 1 := h; omega)]
theorem smF_set10 (k : Nat) (i : InsS) (c : ConS) (vb ve v : Value) (ln : Int) (j : Nat) (h : j < 13) : (if j = 10 then v else smF k i c vb ve ln j) = smF k i c v ve ln j := by
  match j, h with
  | 0, _ => rfl
  | 1, _ => rfl
  | 2, _ => rfl
  | 3, _ => rfl
  | 4, _ => rfl
  | 5, _ => rfl
  | 6, _ => rfl
  | 7, _ => rfl
  | 8, _ => rfl
  | 9, _ => rfl
  | 10, _ => rfl
  | 11, _ => rfl
  | 12, _ => rfl
theorem smF_set11 (k : Nat) (i : InsS) (c : ConS) (vb ve v : Value) (ln : Int) (j : Nat) (h : j < 13) : (if j = 11 then v else smF k i c vb ve ln j) = smF k i c vb v ln j := by
  match j, h with
  | 0, _ => rfl
  | 1, _ => rfl
  | 2, _ => rfl
  | 3, _ => rfl
  | 4, _ => rfl
  | 5, _ => rfl
  | 6, _ => rfl
  | 7, _ => rfl
  | 8, _ => rfl
  | 9, _ => rfl
  | 10, _ => rfl
  | 11, _ => rfl
  | 12, _ => rfl
theorem strow_alloc (wr : World) (x : StS) (vb ve : Value) : (wr.alloc (.cells #[.int .u8 x.k, .int .u8 x.i.o, .int .i64 x.i.d, .int .i64 x.i.s, .int .i64 x.i.n, .bool x.c.nt, .int .u8 x.c.i.o, .int .i64 x.c.i.d, .int .i64 x.c.i.s, .int .i64 x.c.i.n, vb, ve, .int .i64 x.ln] 60)).rowIs wr.heap.size 60 13 (smF x.k x.i x.c vb ve x.ln) := by
  refine ⟨_, heap_alloc_new wr _, rfl, fun j hj => ?_⟩
  match j, hj with
  | 0, _ => rfl
  | 1, _ => rfl
  | 2, _ => rfl
  | 3, _ => rfl
  | 4, _ => rfl
  | 5, _ => rfl
  | 6, _ => rfl
  | 7, _ => rfl
  | 8, _ => rfl
  | 9, _ => rfl
  | 10, _ => rfl
  | 11, _ => rfl
  | 12, _ => rfl
def CpR (T : Sts) (w : World) (s3 s4 : Value) (wr : World) : Prop := ∃ k : Nat, k ≤ T.len ∧ s4 = .int .i64 k ∧ Lst wr w.heap.size s3 (Sts.tak k T) ∧ Below w.heap.size w wr
/-- A statement in its block, its nested lists copied. -/
def CpP (p n : Nat) (x : StS) (wp wx : World) : Prop := ∃ Ab cb Ae ce, wx.rowIs p 60 13 (smF x.k x.i x.c (.slice Ab x.b.len cb) (.slice Ae x.e.len ce) x.ln) ∧ Tr wx (fun k => n ≤ k) (.slice Ab x.b.len cb) x.b ∧ Tr wx (fun k => n ≤ k) (.slice Ae x.e.len ce) x.e ∧ Below p wp wx
/-- What a copy comes to. -/
def CpO (T : Sts) (w : World) (e : Ending) (w' : World) : Prop := ∃ v, e = .returned v ∧ Tr w' (fun k => w.heap.size ≤ k) v T ∧ Below w.heap.size w w'
theorem cpP_done {wp w3 w4 : World} {p : Nat} {x : StS} {B E Ab Ae : Option Addr} {d n cb ce : Nat} (hs : w4.rowIs p 60 13 (smF x.k x.i x.c (.slice B x.b.len d) (.slice E x.e.len n) x.ln)) (h3 : Tr w3 (fun k => wp.heap.size ≤ k) (.slice Ab x.b.len cb) x.b) (h4 : Tr w4 (fun k => w3.heap.size ≤ k) (.slice Ae x.e.len ce) x.e) (hb3 : Below wp.heap.size wp w3) (hb4 : Below w3.heap.size w3 w4) (hp : p < wp.heap.size) :
    CpP p wp.heap.size x wp ((w4.setCell ⟨p, 10, none⟩ (.slice Ab x.b.len cb)).setCell ⟨p, 11, none⟩ (.slice Ae x.e.len ce)) := by
  have hg : w4.grownBy ((w4.setCell ⟨p, 10, none⟩ (.slice Ab x.b.len cb)).setCell ⟨p, 11, none⟩ (.slice Ae x.e.len ce)) (some p) := by
    have hg1 : w4.grownBy (w4.setCell ⟨p, 10, none⟩ (.slice Ab x.b.len cb)) (some p) := grown_set (grown_refl _ _) (.inl rfl) _
    exact grown_set hg1 (.inl rfl) _
  have hz := hb3.size
  have hb : Below wp.heap.size wp w4 := hb3.trans (hb4.mono hz)
  refine ⟨Ab, cb, Ae, ce, ?_, (h3.below hb4).grown hg (fun k hk e => by injection e with e; have hk : wp.heap.size ≤ k := hk; omega), (h4.grown hg (fun k hk e => by injection e with e; have hk : w3.heap.size ≤ k := hk; omega)).mono (fun k hk _ => Nat.le_trans hz hk), ?_⟩
  · exact (((hs.set 10 _).congr fun j hj => smF_set10 _ _ _ _ _ _ _ j hj).set 11 _).congr fun j hj => smF_set11 _ _ _ _ _ _ _ j hj
  · exact ((hb.mono (Nat.le_of_lt hp)).setCell (p := ⟨p, 10, none⟩) (Nat.le_refl _) _).setCell (p := ⟨p, 11, none⟩) (Nat.le_refl _) _
section
variable {W : World} {ops : Array Oper} {rest : List Oper} {o : Oper} {a : Act} {Q : Exit → Act → World → Prop} {base : Nat} {v : Value} {l : List PartS}
set_option maxRecDepth 100000 in
/-- 'out = append(out, x)' behind the block that was made for x. -/
theorem append_part (s x : Operand) (hgd : o.guard = none) (ho : o.op = .call { callee := .builtin .append, args := #[s, x], argTypes := #[23, 23] }) (c : Nat) (y : PartS) (cs : Array Value) (hcs : cs.toList = ptC y)
    (hs : a.eval s = v) (H : Nat) (hx : a.eval x = .slice (some ⟨H, 0, none⟩) 1 c) (hH : W.heap.size = H) (hown : PrL W base v l) (hn : l.length + 1 ≤ 1000000) (hbase : base ≤ W.heap.size)
    (h : ∀ v' w', PrL w' base v' (l ++ [y]) → W.grownBy w' v.ownBlock → wpList Try.prog ops Q rest (a.put o.dst v') w') :
    wpList Try.prog ops Q (o :: rest) a (W.alloc (.cells cs 69)) := by
  subst hH
  refine wpList_plain hgd fun _ hK => ?_
  obtain ⟨i, hi, hz, hs1, hb⟩ := info_parts info_pt
  obtain ⟨v', w', hrun, h2, h3, _, h5⟩ := run_append_own_at (P := Try.prog) (W.alloc (.cells cs 69)) base 23 o.type 69 i _ 7 56 Try.underlying23 hi hz hs1 hb rfl (by omega) v l.length (prF l) (World.ownsRow.alloc hown _) ⟨W.heap.size, 0, none⟩ 1 c (ptC y)
    rfl (fun j u hj => by
      rw [add_none, Nat.zero_add, cell_of_row _ _ _ _ _ _ (heap_alloc_new W _), ← Array.getElem?_toList, hcs]
      exact hj) (fun u hu => by simp [ptC] at hu; rcases hu with rfl | rfl | rfl | rfl | rfl | rfl | rfl <;> rfl) (by unfold maxLen; omega) (by omega) (by rw [World.size_alloc]; omega)
  unfold Oper.wp execOp
  simp only [ho, resolve, invoke, builtin, Sem.run_bind, Sem.run_pure, Result.andThen_ok, List.map_toArray, List.map_cons, List.map_nil, hs, hx, hrun]
  refine hK _ _ (h v' w' ?_ (nil_grown (World.grownBy_alloc _ _ _) h3))
  show World.ownsRow _ _ _ _ _ _ _
  rw [prF_app, List.length_append]
  exact h2
end
def CqR (l : List PartS) (w : World) (s3 s4 : Value) (wr : World) : Prop := ∃ k : Nat, k ≤ l.length ∧ s4 = .int .i64 k ∧ PrL wr w.heap.size s3 (l.take k) ∧ Below w.heap.size w wr
/-- What a copy of parts comes to. -/
def CqO (l : List PartS) (w : World) (e : Ending) (w' : World) : Prop := ∃ v, e = .returned v ∧ PrT w' (fun k => w.heap.size ≤ k) v l ∧ Below w.heap.size w w'
end Go.Proofs.Ythmpagehmfillaa
namespace Go.Proofs.Ythmpagehmfillaa
open Go.RowKit
set_option linter.unusedSimpArgs false
set_option linter.unusedVariables false
theorem cfg1_results {fn : Func} {p : Tmp} (h : fn.results = #[.cell p 62]) (tmps : Array Value) (w : World) (g : Nat) {a b c d : Int} {vp vc vq : Value} {has : Bool}
    (hp : tmps.getD p undef = .pointer (some ⟨g, 0, none⟩)) (hr : w.rowIs g 62 8 (cfgF a b c d vp vc vq has)) : (results fn tmps).run Try.prog w = .ok (.agg (cfgA a b c d vp vc vq has)) w :=
  results_cell_row h tmps w g _ (cfgA a b c d vp vc vq has) (0, 0) _ hp (cfg_heap hr) Try.underlying62 rfl cfg_size
/-- A config whose lists are copied, in its block. -/
def CgP (g : Nat) (c : CfgS) (w wx : World) : Prop := ∃ Ap cp Ac cc Aq cq, wx.rowIs g 62 8 (cfgF c.h c.m c.ph c.pm (.slice Ap c.parts.length cp) (.slice Ac c.code.len cc) (.slice Aq c.post.len cq) c.has) ∧ PrT wx (fun k => g + 2 ≤ k) (.slice Ap c.parts.length cp) c.parts ∧ Tr wx (fun k => g + 2 ≤ k) (.slice Ac c.code.len cc) c.code ∧ Tr wx (fun k => g + 2 ≤ k) (.slice Aq c.post.len cq) c.post ∧
  wx.rowIs (g + 1) 62 8 (cfgF 0 0 0 0 (.slice none 0 0) (.slice none 0 0) (.slice none 0 0) false) ∧ Below w.heap.size w wx
theorem cgP_done {c : CfgS} {w w2 w3 w4 w5 : World} {g : Nat} {vp vc vq : Value} {Ap Ac Aq : Option Addr} {cp cc cq : Nat}
    (hs : w5.rowIs g 62 8 (cfgF c.h c.m c.ph c.pm vp vc vq c.has)) (hz : w5.rowIs (g + 1) 62 8 (cfgF 0 0 0 0 (.slice none 0 0) (.slice none 0 0) (.slice none 0 0) false))
    (h3 : PrT w3 (fun k => w2.heap.size ≤ k) (.slice Ap c.parts.length cp) c.parts) (h4 : Tr w4 (fun k => w3.heap.size ≤ k) (.slice Ac c.code.len cc) c.code) (h5 : Tr w5 (fun k => w4.heap.size ≤ k) (.slice Aq c.post.len cq) c.post)
    (hb2 : Below w.heap.size w w2) (hb3 : Below w2.heap.size w2 w3) (hb4 : Below w3.heap.size w3 w4) (hb5 : Below w4.heap.size w4 w5) (hg : w.heap.size ≤ g) (hg2 : g + 2 ≤ w2.heap.size) :
    CgP g c w (((w5.setCell ⟨g, 4, none⟩ (.slice Ap c.parts.length cp)).setCell ⟨g, 5, none⟩ (.slice Ac c.code.len cc)).setCell ⟨g, 6, none⟩ (.slice Aq c.post.len cq)) := by
  have e1 : w5.grownBy (w5.setCell ⟨g, 4, none⟩ (.slice Ap c.parts.length cp)) (some g) := grown_set (grown_refl _ _) (.inl rfl) _
  have e2 : w5.grownBy ((w5.setCell ⟨g, 4, none⟩ (.slice Ap c.parts.length cp)).setCell ⟨g, 5, none⟩ (.slice Ac c.code.len cc)) (some g) := grown_set e1 (.inl rfl) _
  have e3 : w5.grownBy (((w5.setCell ⟨g, 4, none⟩ (.slice Ap c.parts.length cp)).setCell ⟨g, 5, none⟩ (.slice Ac c.code.len cc)).setCell ⟨g, 6, none⟩ (.slice Aq c.post.len cq)) (some g) := grown_set e2 (.inl rfl) _
  have z2 := hb2.size
  have z3 := hb3.size
  have z4 := hb4.size
  have z5 := hb5.size
  have q3 : PrT w5 (fun k => w2.heap.size ≤ k) (.slice Ap c.parts.length cp) c.parts := (h3.below hb4).below (hb5)
  have q4 : Tr w5 (fun k => w3.heap.size ≤ k) (.slice Ac c.code.len cc) c.code := h4.below hb5
  have hb : Below w.heap.size w w5 := hb2.trans ((hb3.trans ((hb4.trans (hb5.mono z4)).mono z3)).mono z2)
  refine ⟨Ap, cp, Ac, cc, Aq, cq, ?_, ?_, ?_, ?_, ?_, ?_⟩
  · exact cfg_setQ _ (cfg_setC _ (cfg_setP _ hs))
  · exact (q3.grown e3 (fun k hk e => by injection e with e; have hk : w2.heap.size ≤ k := hk; omega)).mono (fun k hk _ => Nat.le_trans hg2 hk)
  · exact (q4.grown e3 (fun k hk e => by injection e with e; have hk : w3.heap.size ≤ k := hk; omega)).mono (fun k hk _ => Nat.le_trans (Nat.le_trans hg2 z3) hk)
  · exact (h5.grown e3 (fun k hk e => by injection e with e; have hk : w4.heap.size ≤ k := hk; omega)).mono (fun k hk _ => Nat.le_trans (Nat.le_trans (Nat.le_trans hg2 z3) z4) hk)
  · exact row_other (row_other (row_other hz (by omega) 4 _) (by omega) 5 _) (by omega) 6 _
  · exact ((hb.setCell (p := ⟨g, 4, none⟩) hg _).setCell (p := ⟨g, 5, none⟩) hg _).setCell (p := ⟨g, 6, none⟩) hg _
theorem cfg_grown {w : World} {g : Nat} (h m ph pm vp vc vq has : Value) : w.grownBy ((((((((w.setCell ⟨g, 0, none⟩ h).setCell ⟨g, 1, none⟩ m).setCell ⟨g, 2, none⟩ ph).setCell ⟨g, 3, none⟩ pm).setCell ⟨g, 4, none⟩ vp).setCell ⟨g, 5, none⟩ vc).setCell ⟨g, 6, none⟩ vq).setCell ⟨g, 7, none⟩ has) (some g) := by
  have e0 : w.grownBy (w.setCell ⟨g, 0, none⟩ h) (some g) := grown_set (grown_refl _ _) (.inl rfl) _
  have e1 := grown_set (p := ⟨g, 1, none⟩) e0 (.inl rfl) m
  have e2 := grown_set (p := ⟨g, 2, none⟩) e1 (.inl rfl) ph
  have e3 := grown_set (p := ⟨g, 3, none⟩) e2 (.inl rfl) pm
  have e4 := grown_set (p := ⟨g, 4, none⟩) e3 (.inl rfl) vp
  have e5 := grown_set (p := ⟨g, 5, none⟩) e4 (.inl rfl) vc
  have e6 := grown_set (p := ⟨g, 6, none⟩) e5 (.inl rfl) vq
  exact grown_set (p := ⟨g, 7, none⟩) e6 (.inl rfl) has
/-- What a copy of a config comes to. -/
def CgO (c : CfgS) (w : World) (e : Ending) (w' : World) : Prop := ∃ vp vc vq, e = .returned (.agg (cfgA c.h c.m c.ph c.pm vp vc vq c.has)) ∧ PrT w' (fun k => w.heap.size ≤ k) vp c.parts ∧ Tr w' (fun k => w.heap.size ≤ k) vc c.code ∧ Tr w' (fun k => w.heap.size ≤ k) vq c.post ∧ Below w.heap.size w w'
end Go.Proofs.Ythmpagehmfillaa
namespace Go.Proofs.Ythmpagehmfillaa
open Go.RowKit Go.ChangeShapes Go.WideShapes Go.ChangeAt
set_option linter.unusedSimpArgs false
set_option linter.unusedVariables false

theorem laidOut : laidOutB Try.prog = true := by kernel_rfl
theorem nat_of_u8 {x : Int} (h : (Lit.int .u8 x).wf = true) : ∃ n : Nat, n < 256 ∧ x = n := by
  simp [Lit.wf, IntKind.min, IntKind.max, IntKind.signed, IntKind.bits] at h
  exact ⟨x.toNat, by omega, by omega⟩
theorem i64_of_wf {x : Int} (h : (Lit.int .i64 x).wf = true) : -9223372036854775808 ≤ x ∧ x ≤ 9223372036854775807 := by
  simp [Lit.wf, IntKind.min, IntKind.max, IntKind.signed, IntKind.bits] at h
  omega
/-- An argument of type []byte. -/
theorem open_sl {H : Type} {enc : TypeId × Value → H} {P : Program} {t e : TypeId} {W : World} {r : Reach} {b0 : Nat} {v : Value} {d : DataW H} {p : List MemPlace} (ht : P.underlying t = some (.slice e)) (he : P.underlying e = some (.int .u8)) (hc : P.cellsOf e = 1)
    (hval : Value.okWide P W r b0 t v) (h0 : DataW.Trod enc P W 0 (fun _ => true) true t v d p) :
    ∃ (A : Option Addr) (c : Nat) (l : List Nat), v = .slice A l.length c ∧ l.length ≤ c ∧ c ≤ maxLen ∧ Rd W A l := by
  obtain ⟨a0, len, cap, rfl⟩ := okWide_slice ht hval
  obtain ⟨fuel, hf⟩ := h0
  rcases open_ints ht he hc hf with ⟨hcs, hx⟩ | ⟨a, len', cap', zs, hcs, _, hl, hm, hz, hx, hcell, hwz⟩
  · simp [Value.cells] at hcs
    obtain ⟨rfl, rfl, rfl⟩ := hcs
    exact ⟨none, 0, [], rfl, Nat.le_refl _, by simp, Rd.nil⟩
  · simp [Value.cells] at hcs
    obtain ⟨rfl, rfl, rfl⟩ := hcs
    simp only [if_true] at hz
    have hln : ((zs.take len).map Int.toNat).length = len := by simp; omega
    refine ⟨some a, cap, (zs.take len).map Int.toNat, by rw [hln], by omega, hm, ?_, fun hn => ?_⟩
    · intro x hx
      simp only [List.mem_map] at hx
      obtain ⟨z, hz', rfl⟩ := hx
      obtain ⟨k, hk, rfl⟩ := nat_of_u8 (hwz z (List.mem_of_mem_take hz'))
      simpa using hk
    · have h0 : 0 < len := by
        rw [← hln]
        exact List.length_pos_iff.2 hn
      obtain ⟨b, off, s⟩ := a
      have hs0 := hcell 0 (by omega)
      obtain rfl : s = none := by simpa [Addr.add] using World.cell?_spot hs0
      refine ⟨b, off, rfl, ?_, fun i hi => ?_⟩
      · have := World.block_lt_of_cell? _ _ hs0
        simpa [add_none] using this
      · rw [hln] at hi
        have h1 := hcell i (by omega)
        rw [add_none] at h1
        rw [h1]
        obtain ⟨k, hk, e1⟩ := nat_of_u8 (hwz (zs.getD i 0) (by rw [List.getD_eq_getElem?_getD, List.getElem?_eq_getElem (by omega)]; exact List.getElem_mem _))
        rw [e1]
        have e2 : nth ((zs.take len).map Int.toNat) i = k := by
          have : i < zs.length := by omega
          simp [nth, List.getElem?_take, hi]
          rw [List.getD_eq_getElem?_getD, List.getElem?_eq_getElem this] at e1
          have e1 : zs[i] = (k : Int) := e1
          rw [List.getElem?_eq_getElem this, e1]
          simp
        rw [e2]
end Go.Proofs.Ythmpagehmfillaa
