/-
  THE WALK OF quillpresskit.SameStmts: of trees that are the same (but for lines, where these do not count) it tells true. Conditions: the slices read as the trees.
  THE WALKS OF quillpresskit.SameParts, SameConfig: of configs that are the same (but for lines, where these do not count) they tell true. Conditions: the slices read so.
-/
import Derived.Test.YtiadfmhodlbkiaaTree
import Derived.Deep.QuietTactic
import Derived.Deep.RegionHeld3
import Derived.Deep.RegionWith
import Derived.Deep.DeepCutAuto
import Derived.BigQuiet
import Derived.Test.YtiadfmhodlbkiaaParX1
namespace Go.Proofs.Ytiadfmhodlbkiaa
open Go.RowKit
set_option linter.unusedSimpArgs false
set_option linter.unusedVariables false
def Sts.nth : Sts → Nat → StS
  | .nil, _ => ⟨0, i0, c0, .nil, .nil, 0⟩
  | .cons k i c b e ln _, 0 => ⟨k, i, c, b, e, ln⟩
  | .cons _ _ _ _ _ _ r, n + 1 => r.nth n
/-- All statements, nested ones too. -/
def Sts.all : Sts → Nat
  | .nil => 0
  | .cons _ _ _ b e _ r => b.all + e.all + r.all + 1
/-- The same, but for lines where these do not count. -/
def SamT (lines : Bool) : Sts → Sts → Prop
  | .nil, .nil => True
  | .cons k i c b e ln r, .cons k' i' c' b' e' ln' r' => k = k' ∧ i = i' ∧ c = c' ∧ (lines = true → ln = ln') ∧ SamT lines b b' ∧ SamT lines e e' ∧ SamT lines r r'
  | _, _ => False
theorem SamT.refl (lines : Bool) : ∀ T, SamT lines T T
  | .nil => trivial
  | .cons k i c b e ln r => ⟨rfl, rfl, rfl, fun _ => rfl, SamT.refl lines b, SamT.refl lines e, SamT.refl lines r⟩
theorem SamT.len {lines : Bool} : ∀ {T U : Sts}, SamT lines T U → T.len = U.len
  | .nil, .nil, _ => rfl
  | .nil, .cons .., h => h.elim
  | .cons .., .nil, h => h.elim
  | .cons k i c b e ln r, .cons k' i' c' b' e' ln' r', h => by
    show r.len + 1 = r'.len + 1
    rw [SamT.len h.2.2.2.2.2.2]
theorem SamT.nth {lines : Bool} : ∀ {T U : Sts} {j : Nat}, SamT lines T U → j < T.len → (T.nth j).k = (U.nth j).k ∧ (T.nth j).i = (U.nth j).i ∧ (T.nth j).c = (U.nth j).c ∧ (lines = true → (T.nth j).ln = (U.nth j).ln) ∧ SamT lines (T.nth j).b (U.nth j).b ∧ SamT lines (T.nth j).e (U.nth j).e
  | .nil, .nil, _, _, h => absurd h (Nat.not_lt_zero _)
  | .nil, .cons .., _, h, _ => h.elim
  | .cons .., .nil, _, h, _ => h.elim
  | .cons k i c b e ln r, .cons k' i' c' b' e' ln' r', 0, h, _ => ⟨h.1, h.2.1, h.2.2.1, h.2.2.2.1, h.2.2.2.2.1, h.2.2.2.2.2.1⟩
  | .cons k i c b e ln r, .cons k' i' c' b' e' ln' r', j + 1, h, hj => SamT.nth (T := r) (U := r') (j := j) h.2.2.2.2.2.2 (by have : j + 1 < r.len + 1 := hj; omega)
theorem Sts.nth_all : ∀ {T : Sts} {j : Nat}, j < T.len → (T.nth j).b.all < T.all ∧ (T.nth j).e.all < T.all
  | .nil, _, h => absurd h (Nat.not_lt_zero _)
  | .cons k i c b e ln r, 0, _ => by
    show b.all < b.all + e.all + r.all + 1 ∧ e.all < b.all + e.all + r.all + 1
    omega
  | .cons k i c b e ln r, j + 1, h => by
    have := Sts.nth_all (T := r) (j := j) (by have : j + 1 < r.len + 1 := h; omega)
    show (r.nth j).b.all < b.all + e.all + r.all + 1 ∧ (r.nth j).e.all < b.all + e.all + r.all + 1
    omega
/-- One statement's cells, and its nested lists. -/
theorem El.nth {w : World} {S : Nat → Prop} : ∀ {T : Sts} {V : List Value} {j : Nat}, El w S T V → j < T.len → ∃ vb ve, Tr w S vb (T.nth j).b ∧ Tr w S ve (T.nth j).e ∧ ∀ m, m < 13 → V[j * 13 + m]? = (stC (T.nth j).k (T.nth j).i (T.nth j).c vb ve (T.nth j).ln)[m]?
  | .nil, _, _, _, h => absurd h (Nat.not_lt_zero _)
  | .cons k i c b e ln r, V, 0, h, _ => by
    obtain ⟨vb, ve, V', rfl, h1, h2, h3⟩ := h
    refine ⟨vb, ve, h1, h2, fun m hm => ?_⟩
    rw [Nat.zero_mul, Nat.zero_add, List.getElem?_append_left (by rw [stC_len]; omega)]
    rfl
  | .cons k i c b e ln r, V, j + 1, h, hj => by
    obtain ⟨vb, ve, V', rfl, -, -, h3⟩ := h
    obtain ⟨ub, ue, h4, h5, h6⟩ := El.nth (T := r) (j := j) h3 (by have : j + 1 < r.len + 1 := hj; omega)
    refine ⟨ub, ue, h4, h5, fun m hm => ?_⟩
    rw [List.getElem?_append_right (by rw [stC_len]; omega), stC_len, show (j + 1) * 13 + m - 13 = j * 13 + m by omega]
    exact h6 m hm
def smF (k : Nat) (i : InsS) (c : ConS) (vb ve : Value) (ln : Int) : Nat → Value
  | 0 => .int .u8 k
  | 1 => .int .u8 i.o
  | 2 => .int .i64 i.d
  | 3 => .int .i64 i.s
  | 4 => .int .i64 i.n
  | 5 => .bool c.nt
  | 6 => .int .u8 c.i.o
  | 7 => .int .i64 c.i.d
  | 8 => .int .i64 c.i.s
  | 9 => .int .i64 c.i.n
  | 10 => vb
  | 11 => ve
  | _ => .int .i64 ln
theorem Tr.nth {w : World} {S : Nat → Prop} {A : Option Addr} {n c : Nat} {T : Sts} {j : Nat} (h : Tr w S (.slice A n c) T) (hj : j < T.len) : ∃ g o vb ve, A = some ⟨g, o, none⟩ ∧ S g ∧ g < w.heap.size ∧ Tr w S vb (T.nth j).b ∧ Tr w S ve (T.nth j).e ∧ ∀ m, m < 13 → w.cell? ⟨g, o + j * 13 + m, none⟩ = some (smF (T.nth j).k (T.nth j).i (T.nth j).c vb ve (T.nth j).ln m) := by
  obtain ⟨V, ⟨hV, A', c', e, -, -, hc⟩, hE⟩ := h
  injection e with e1 e2 e3
  subst e1
  obtain ⟨g, o, rfl, hs, hg, hcell⟩ := hc (by omega)
  obtain ⟨vb, ve, h1, h2, h3⟩ := hE.nth hj
  refine ⟨g, o, vb, ve, rfl, hs, hg, h1, h2, fun m hm => ?_⟩
  have hlt : j * 13 + m < V.length := by omega
  have h4 := h3 m hm
  rw [List.getElem?_eq_getElem hlt] at h4
  have h5 := hcell _ hlt
  rw [show o + j * 13 + m = o + (j * 13 + m) by omega, h5, h4]
  match m, hm with
  | 0, _ => rfl
  | 1, _ => rfl
  | 2, _ => rfl
  | 3, _ => rfl
  | 4, _ => rfl
  | 5, _ => rfl
  | 6, _ => rfl
  | 7, _ => rfl
  | 8, _ => rfl
  | 9, _ => rfl
  | 10, _ => rfl
  | 11, _ => rfl
  | 12, _ => rfl
theorem Tr.frm {w : World} {S : Nat → Prop} {v : Value} {T : Sts} (h : Tr w S v T) : ∃ A c, v = .slice A T.len c ∧ T.len ≤ c ∧ c ≤ maxLen := by
  obtain ⟨V, ⟨-, A, c, h1, h2, h3, -⟩, -⟩ := h
  exact ⟨A, c, h1, h2, h3⟩
def smA (k : Nat) (i : InsS) (c : ConS) (vb ve : Value) (ln : Int) : Array Value := #[.int .u8 k, .int .u8 i.o, .int .i64 i.d, .int .i64 i.s, .int .i64 i.n, .bool c.nt, .int .u8 c.i.o, .int .i64 c.i.d, .int .i64 c.i.s, .int .i64 c.i.n, vb, ve, .int .i64 ln]
theorem two_blocks (w : World) (a b : Array Value) (t : TypeId) : ((w.alloc (.cells a t)).alloc (.cells b t)).drew.heap[w.heap.size]? = some (.cells a t (0, 0)) ∧ ((w.alloc (.cells a t)).alloc (.cells b t)).drew.heap[w.heap.size + 1]? = some (.cells b t (0, 0)) ∧ Below w.heap.size w ((w.alloc (.cells a t)).alloc (.cells b t)).drew := by
  have e := World.size_alloc w (.cells a t)
  have h1 := heap_alloc_new w (.cells a t)
  have h2 := heap_alloc_new (w.alloc (.cells a t)) (.cells b t)
  have hb : Below w.heap.size w (w.alloc (.cells a t)) := (Below.refl _ _).alloc (Nat.le_refl _) _
  have hb2 : Below (w.alloc (.cells a t)).heap.size (w.alloc (.cells a t)) ((w.alloc (.cells a t)).alloc (.cells b t)) := (Below.refl _ _).alloc (Nat.le_refl _) _
  refine ⟨(hb2.block _ (by omega)).trans h1, ?_, below_drewN' (hb.trans (hb2.mono (by omega))) 1⟩
  rw [← e]
  exact h2
set_option maxRecDepth 100000 in
set_option maxHeartbeats 8000000 in
theorem samS_any (lines : Bool) : ∀ (N : Nat) (T1 T2 : Sts) (v1 v2 : Value) (S1 S2 : Nat → Prop) (w : World), T1.all < N → Tr w S1 v1 T1 → Tr w S2 v2 T2 → SamT lines T1 T2 →
    Calls Try.prog 40 #[v1, v2, .bool lines] w fun e w' => e = .returned (.bool true) ∧ Below w.heap.size w w' := by
  intro N
  induction N with
  | zero => intro T1 T2 v1 v2 S1 S2 w h; exact absurd h (Nat.not_lt_zero _)
  | succ N ih =>
    intro T1 T2 v1 v2 S1 S2 w hN h1 h2 hsm
    obtain ⟨A1, c1, rfl, hc1, hm1⟩ := h1.frm
    obtain ⟨A2, c2, rfl, hc2, hm2⟩ := h2.frm
    have hle := hsm.len
    rw [← hle] at h2 ⊢
    have hsz : (T1.len : Int) < 9223372036854775808 := by unfold maxLen at hm1; omega
    have H1 := Lib.hid h1
    have H2 := Lib.hid h2
    have HS := Lib.hid hsm
    have HN := Lib.hid hN
    have IH := Lib.hid ih
    clear h1 h2 hsm hN ih hc1 hc2 hm1 hm2 hle
    go_enter Try.func40, Try.ntmps40
    go_wp2_with fail
    go_loopw [7] (fun i wr => ∃ k : Nat, k ≤ T1.len ∧ i = .int .i64 k ∧ Below w.heap.size w wr) (fun i _ => T1.len - (intOf i).toNat)
    case atStart => exact ⟨0, by omega, rfl, Below.refl _ _⟩
    case round =>
      obtain ⟨k, hk, rfl, hb⟩ := hrel
      have HB := Lib.hid hb
      clear hb
      by_cases e0 : k < T1.len
      · have b1 : (k : Int) < (T1.len : Int) := by omega
        obtain ⟨g1, o1, vb1, ve1, rfl, -, hg1, hb1, he1, hcl1⟩ := (H1.out.below HB.out).nth e0
        obtain ⟨g2, o2, vb2, ve2, rfl, -, hg2, hb2, he2, hcl2⟩ := (H2.out.below HB.out).nth (j := k) (by rw [← HS.out.len]; exact e0)
        obtain ⟨q1, q2, q3, q4, q5, q6⟩ := HS.out.nth e0
        have HA := Lib.hid (Sts.nth_all e0)
        rw [← q1, ← q2, ← q3] at hcl2
        generalize T1.nth k = x at *
        generalize T2.nth k = y at *
        have f0 := hcl1 0 (by omega)
        have f1 := hcl1 1 (by omega)
        have f2 := hcl1 2 (by omega)
        have f3 := hcl1 3 (by omega)
        have f4 := hcl1 4 (by omega)
        have f5 := hcl1 5 (by omega)
        have f6 := hcl1 6 (by omega)
        have f7 := hcl1 7 (by omega)
        have f8 := hcl1 8 (by omega)
        have f9 := hcl1 9 (by omega)
        have fa := hcl1 10 (by omega)
        have fb := hcl1 11 (by omega)
        have fc := hcl1 12 (by omega)
        have h0 := hcl2 0 (by omega)
        have h1 := hcl2 1 (by omega)
        have h2 := hcl2 2 (by omega)
        have h3 := hcl2 3 (by omega)
        have h4 := hcl2 4 (by omega)
        have h5 := hcl2 5 (by omega)
        have h6 := hcl2 6 (by omega)
        have h7 := hcl2 7 (by omega)
        have h8 := hcl2 8 (by omega)
        have h9 := hcl2 9 (by omega)
        have ha := hcl2 10 (by omega)
        have hb := hcl2 11 (by omega)
        have hc := hcl2 12 (by omega)
        have Q4 := Lib.hid (And.intro q4 (And.intro q5 q6))
        obtain ⟨B1, d1, rfl, -, -⟩ := hb1.frm
        obtain ⟨E1, n1, rfl, -, -⟩ := he1.frm
        obtain ⟨B2, d2, rfl, -, -⟩ := hb2.frm
        obtain ⟨E2, n2, rfl, -, -⟩ := he2.frm
        have HC1 := Lib.hid (And.intro hb1 he1)
        have HC2 := Lib.hid (And.intro hb2 he2)
        clear hcl1 hcl2 q1 q2 q3 q4 q5 q6 hb1 he1 hb2 he2
        simp only [smF] at f0 f1 f2 f3 f4 f5 f6 f7 f8 f9 fa fb fc h0 h1 h2 h3 h4 h5 h6 h7 h8 h9 ha hb hc
        rw [Nat.add_zero] at f0 h0
        go_upto_region 7 with fail
        go_cut [8, 9] (fun s8 s9 wx => ∃ p q, s8 = .pointer (some ⟨p, 0, none⟩) ∧ s9 = .pointer (some ⟨q, 0, none⟩) ∧ p ≠ q ∧ wr.heap.size ≤ p ∧ wr.heap.size ≤ q ∧ wx.heap[p]? = some (.cells (smA x.k x.i x.c (.slice B1 x.b.len d1) (.slice E1 x.e.len n1) x.ln) 75 (0, 0)) ∧ wx.heap[q]? = some (.cells (smA x.k x.i x.c (.slice B2 y.b.len d2) (.slice E2 y.e.len n2) y.ln) 75 (0, 0)) ∧ Below wr.heap.size wr wx)
        case first =>
          go_region_held3 (fun W => W.cell? ⟨g1, o1 + k * 13, none⟩ = some (.int .u8 x.k) ∧ W.cell? ⟨g1, o1 + k * 13 + 1, none⟩ = some (.int .u8 x.i.o) ∧ W.cell? ⟨g1, o1 + k * 13 + 2, none⟩ = some (.int .i64 x.i.d) ∧ W.cell? ⟨g1, o1 + k * 13 + 3, none⟩ = some (.int .i64 x.i.s) ∧ W.cell? ⟨g1, o1 + k * 13 + 4, none⟩ = some (.int .i64 x.i.n) ∧ W.cell? ⟨g1, o1 + k * 13 + 5, none⟩ = some (.bool x.c.nt) ∧ W.cell? ⟨g1, o1 + k * 13 + 6, none⟩ = some (.int .u8 x.c.i.o) ∧ W.cell? ⟨g1, o1 + k * 13 + 7, none⟩ = some (.int .i64 x.c.i.d) ∧ W.cell? ⟨g1, o1 + k * 13 + 8, none⟩ = some (.int .i64 x.c.i.s) ∧ W.cell? ⟨g1, o1 + k * 13 + 9, none⟩ = some (.int .i64 x.c.i.n) ∧ W.cell? ⟨g1, o1 + k * 13 + 10, none⟩ = some (.slice B1 x.b.len d1) ∧ W.cell? ⟨g1, o1 + k * 13 + 11, none⟩ = some (.slice E1 x.e.len n1) ∧ W.cell? ⟨g1, o1 + k * 13 + 12, none⟩ = some (.int .i64 x.ln) ∧ W.cell? ⟨g2, o2 + k * 13, none⟩ = some (.int .u8 x.k) ∧ W.cell? ⟨g2, o2 + k * 13 + 1, none⟩ = some (.int .u8 x.i.o) ∧ W.cell? ⟨g2, o2 + k * 13 + 2, none⟩ = some (.int .i64 x.i.d) ∧ W.cell? ⟨g2, o2 + k * 13 + 3, none⟩ = some (.int .i64 x.i.s) ∧ W.cell? ⟨g2, o2 + k * 13 + 4, none⟩ = some (.int .i64 x.i.n) ∧ W.cell? ⟨g2, o2 + k * 13 + 5, none⟩ = some (.bool x.c.nt) ∧ W.cell? ⟨g2, o2 + k * 13 + 6, none⟩ = some (.int .u8 x.c.i.o) ∧ W.cell? ⟨g2, o2 + k * 13 + 7, none⟩ = some (.int .i64 x.c.i.d) ∧ W.cell? ⟨g2, o2 + k * 13 + 8, none⟩ = some (.int .i64 x.c.i.s) ∧ W.cell? ⟨g2, o2 + k * 13 + 9, none⟩ = some (.int .i64 x.c.i.n) ∧ W.cell? ⟨g2, o2 + k * 13 + 10, none⟩ = some (.slice B2 y.b.len d2) ∧ W.cell? ⟨g2, o2 + k * 13 + 11, none⟩ = some (.slice E2 y.e.len n2) ∧ W.cell? ⟨g2, o2 + k * 13 + 12, none⟩ = some (.int .i64 y.ln)) (first | exact ⟨f0, f1, f2, f3, f4, f5, f6, f7, f8, f9, fa, fb, fc, h0, h1, h2, h3, h4, h5, h6, h7, h8, h9, ha, hb, hc⟩ | go_keep) (fail)
          · obtain ⟨b1, b2, b3⟩ := two_blocks wr (smA x.k x.i x.c (.slice B1 x.b.len d1) (.slice E1 x.e.len n1) x.ln) (smA x.k x.i x.c (.slice B2 y.b.len d2) (.slice E2 y.e.len n2) y.ln) 75
            go_wp2_with fail
            go_meet
            exact ⟨_, _, rfl, rfl, by omega, by omega, by omega, b1, b2, b3⟩
          · obtain ⟨b1, b2, b3⟩ := two_blocks wr (smA x.k x.i x.c (.slice B2 y.b.len d2) (.slice E2 y.e.len n2) y.ln) (smA x.k x.i x.c (.slice B1 x.b.len d1) (.slice E1 x.e.len n1) x.ln) 75
            go_wp2_with fail
            go_meet
            exact ⟨_, _, rfl, rfl, by omega, by omega, by omega, b2, b1, b3⟩
        case rest =>
          obtain ⟨p, q, rfl, rfl, hpq, hp, hq, hrp, hrq, hbx⟩ := hcut
          clear f0 f1 f2 f3 f4 f5 f6 f7 f8 f9 fa fb fc h0 h1 h2 h3 h4 h5 h6 h7 h8 h9 ha hb hc
          have HWX := Lib.hid hbx
          have hpl := lt_of_block hrp
          have hql := lt_of_block hrq
          have P : ∀ (W : World), Below wc.heap.size wc W → ∀ j, j < 13 → W.cell? ⟨p, j, none⟩ = (smA x.k x.i x.c (.slice B1 x.b.len d1) (.slice E1 x.e.len n1) x.ln)[j]? := fun W hW j _ => by
            rw [hW.cell (p := ⟨p, j, none⟩) hpl, cell_of_row wc p j _ _ _ hrp]
          have Q : ∀ (W : World), Below wc.heap.size wc W → ∀ j, j < 13 → W.cell? ⟨q, j, none⟩ = (smA x.k x.i x.c (.slice B2 y.b.len d2) (.slice E2 y.e.len n2) y.ln)[j]? := fun W hW j _ => by
            rw [hW.cell (p := ⟨q, j, none⟩) hql, cell_of_row wc q j _ _ _ hrq]
          have PP := Lib.hid P
          have QQ := Lib.hid Q
          have f0 := P wc (Below.refl _ _) 0 (by omega)
          have f1 := P wc (Below.refl _ _) 1 (by omega)
          have f2 := P wc (Below.refl _ _) 2 (by omega)
          have f3 := P wc (Below.refl _ _) 3 (by omega)
          have f4 := P wc (Below.refl _ _) 4 (by omega)
          have f5 := P wc (Below.refl _ _) 5 (by omega)
          have f6 := P wc (Below.refl _ _) 6 (by omega)
          have f7 := P wc (Below.refl _ _) 7 (by omega)
          have f8 := P wc (Below.refl _ _) 8 (by omega)
          have f9 := P wc (Below.refl _ _) 9 (by omega)
          have fa := P wc (Below.refl _ _) 10 (by omega)
          have fc := P wc (Below.refl _ _) 12 (by omega)
          have h0 := Q wc (Below.refl _ _) 0 (by omega)
          have h1 := Q wc (Below.refl _ _) 1 (by omega)
          have h2 := Q wc (Below.refl _ _) 2 (by omega)
          have h3 := Q wc (Below.refl _ _) 3 (by omega)
          have h4 := Q wc (Below.refl _ _) 4 (by omega)
          have h5 := Q wc (Below.refl _ _) 5 (by omega)
          have h6 := Q wc (Below.refl _ _) 6 (by omega)
          have h7 := Q wc (Below.refl _ _) 7 (by omega)
          have h8 := Q wc (Below.refl _ _) 8 (by omega)
          have h9 := Q wc (Below.refl _ _) 9 (by omega)
          have ha := Q wc (Below.refl _ _) 10 (by omega)
          have hc := Q wc (Below.refl _ _) 12 (by omega)
          simp only [smA, List.getElem?_toArray, List.getElem?_cons_zero, List.getElem?_cons_succ] at f0 f1 f2 f3 f4 f5 f6 f7 f8 f9 fa fc h0 h1 h2 h3 h4 h5 h6 h7 h8 h9 ha hc
          clear hpq hp hq hrp hrq hbx hpl hql P Q
          have main : (lines = true ∧ x.ln = y.ln) ∨ lines = false := by
            cases lines with
            | true => exact .inl ⟨rfl, Q4.out.1 rfl⟩
            | false => exact .inr rfl
          rcases main with ⟨rfl, hln⟩ | rfl
          · rw [← hln] at hc
            clear hln
            go_wp2_with fail
            refine (IH.out x.b y.b _ _ S1 S2 _ (by have := HA.out; have := HN.out; omega) (HC1.out.1.below HWX.out) (HC2.out.1.below HWX.out) Q4.out.2.1).mono ?_
            rintro e w2 ⟨rfl, hb2⟩
            have HB2 := Lib.hid hb2
            have gb := PP.out w2 hb2 11 (by omega)
            have gc := QQ.out w2 hb2 11 (by omega)
            simp only [smA, List.getElem?_toArray, List.getElem?_cons_zero, List.getElem?_cons_succ] at gb gc
            clear hb2
            go_wp2_with fail
            refine (IH.out x.e y.e _ _ S1 S2 _ (by have := HA.out; have := HN.out; omega) ((HC1.out.2.below HWX.out).below HB2.out) ((HC2.out.2.below HWX.out).below HB2.out) Q4.out.2.2).mono ?_
            rintro e w3 ⟨rfl, hb3⟩
            have HB3 := Lib.hid (HB.out.trans ((HWX.out.trans ((HB2.out.trans (hb3.mono HB2.out.size)).mono HWX.out.size)).mono HB.out.size))
            clear hb3
            go_wp2_with fail
            go_roundw
            case rel => exact ⟨k + 1, by omega, by go_num, HB3.out⟩
            case measure => simp [intOf]; omega
          · go_wp2_with fail
            refine (IH.out x.b y.b _ _ S1 S2 _ (by have := HA.out; have := HN.out; omega) (HC1.out.1.below HWX.out) (HC2.out.1.below HWX.out) Q4.out.2.1).mono ?_
            rintro e w2 ⟨rfl, hb2⟩
            have HB2 := Lib.hid hb2
            have gb := PP.out w2 hb2 11 (by omega)
            have gc := QQ.out w2 hb2 11 (by omega)
            simp only [smA, List.getElem?_toArray, List.getElem?_cons_zero, List.getElem?_cons_succ] at gb gc
            clear hb2
            go_wp2_with fail
            refine (IH.out x.e y.e _ _ S1 S2 _ (by have := HA.out; have := HN.out; omega) ((HC1.out.2.below HWX.out).below HB2.out) ((HC2.out.2.below HWX.out).below HB2.out) Q4.out.2.2).mono ?_
            rintro e w3 ⟨rfl, hb3⟩
            have HB3 := Lib.hid (HB.out.trans ((HWX.out.trans ((HB2.out.trans (hb3.mono HB2.out.size)).mono HWX.out.size)).mono HB.out.size))
            clear hb3
            go_wp2_with fail
            go_roundw
            case rel => exact ⟨k + 1, by omega, by go_num, HB3.out⟩
            case measure => simp [intOf]; omega
      · obtain rfl : k = T1.len := by omega
        have b1 : ¬ ((T1.len : Int) < (T1.len : Int)) := by omega
        clear H1 H2
        go_wp2
        go_ret
        exact ⟨rfl, HB.out⟩
end Go.Proofs.Ytiadfmhodlbkiaa
namespace Go.Proofs.Ytiadfmhodlbkiaa
open Go.RowKit
set_option linter.unusedSimpArgs false
set_option linter.unusedVariables false
theorem PrT.nth {w : World} {S : Nat → Prop} {A : Option Addr} {n c : Nat} {l : List PartS} {j : Nat} (h : PrT w S (.slice A n c) l) (hj : j < l.length) : ∃ g o, A = some ⟨g, o, none⟩ ∧ g < w.heap.size ∧ ∀ m, m < 7 → w.cell? ⟨g, o + j * 7 + m, none⟩ = some (ptF l[j] m) := by
  obtain ⟨A', c', e, -, -, hc⟩ := h
  injection e with e1 e2 e3
  subst e1
  obtain ⟨g, o, rfl, hs, hg, hcell⟩ := hc (by rintro rfl; simp at hj)
  refine ⟨g, o, rfl, hg, fun m hm => ?_⟩
  rw [show o + j * 7 + m = o + (j * 7 + m) by omega]
  exact hcell j hj m hm
set_option maxRecDepth 100000 in
set_option maxHeartbeats 2000000 in
theorem samP_any (l : List PartS) (v1 v2 : Value) (S1 S2 : Nat → Prop) (w : World) (h1 : PrT w S1 v1 l) (h2 : PrT w S2 v2 l) :
    Calls Try.prog 39 #[v1, v2] w fun e w' => e = .returned (.bool true) ∧ Below w.heap.size w w' := by
  have hm : l.length ≤ maxLen := by obtain ⟨_, c, _, h3, h4, _⟩ := h1; omega
  have hsz : (l.length : Int) < 9223372036854775808 := by unfold maxLen at hm; omega
  obtain ⟨A1, c1, rfl⟩ := h1.form
  obtain ⟨A2, c2, rfl⟩ := h2.form
  have H1 := Lib.hid h1
  have H2 := Lib.hid h2
  clear h1 h2 hm
  go_enter Try.func39, Try.ntmps39
  go_wp2
  go_loopw [5] (fun i wr => ∃ k n : Nat, k ≤ l.length ∧ i = .int .i64 k ∧ wr = w.drewN n) (fun i _ => l.length - (intOf i).toNat)
  case atStart => exact ⟨0, 0, by omega, rfl, rfl⟩
  case round =>
    obtain ⟨k, n, hk, rfl, rfl⟩ := hrel
    by_cases e0 : k < l.length
    · obtain ⟨g1, o1, rfl, hg1, hc1⟩ := H1.out.nth e0
      obtain ⟨g2, o2, rfl, hg2, hc2⟩ := H2.out.nth e0
      have x0 := hc1 0 (by omega)
      have x1 := hc1 1 (by omega)
      have x2 := hc1 2 (by omega)
      have x3 := hc1 3 (by omega)
      have x4 := hc1 4 (by omega)
      have x5 := hc1 5 (by omega)
      have x6 := hc1 6 (by omega)
      have y0 := hc2 0 (by omega)
      have y1 := hc2 1 (by omega)
      have y2 := hc2 2 (by omega)
      have y3 := hc2 3 (by omega)
      have y4 := hc2 4 (by omega)
      have y5 := hc2 5 (by omega)
      have y6 := hc2 6 (by omega)
      simp only [ptF] at x0 x1 x2 x3 x4 x5 x6 y0 y1 y2 y3 y4 y5 y6
      rw [Nat.add_zero] at x0 y0
      have b1 : (k : Int) < (l.length : Int) := by omega
      generalize l[k] = t at *
      clear hc1 hc2
      go_wp2_with fail
      go_quiet (fail)
      go_wp2
      go_roundw
      case rel => exact ⟨k + 1, n + nq, by omega, by go_num, rfl⟩
      case measure => simp [intOf]; omega
    · obtain rfl : k = l.length := by omega
      clear H1 H2
      go_wp2
      go_ret
      exact ⟨rfl, below_drewN' (Below.refl _ _) n⟩
theorem two_blk (w : World) (a b : Array Value) (t : TypeId) : ((w.alloc (.cells a t)).alloc (.cells b t)).heap[w.heap.size]? = some (.cells a t (0, 0)) ∧ ((w.alloc (.cells a t)).alloc (.cells b t)).heap[w.heap.size + 1]? = some (.cells b t (0, 0)) ∧ Below w.heap.size w ((w.alloc (.cells a t)).alloc (.cells b t)) := by
  have e := World.size_alloc w (.cells a t)
  have h1 := heap_alloc_new w (.cells a t)
  have h2 := heap_alloc_new (w.alloc (.cells a t)) (.cells b t)
  have hb : Below w.heap.size w (w.alloc (.cells a t)) := (Below.refl _ _).alloc (Nat.le_refl _) _
  have hb2 : Below (w.alloc (.cells a t)).heap.size (w.alloc (.cells a t)) ((w.alloc (.cells a t)).alloc (.cells b t)) := (Below.refl _ _).alloc (Nat.le_refl _) _
  refine ⟨(hb2.block _ (by omega)).trans h1, ?_, hb.trans (hb2.mono (by omega))⟩
  rw [← e]
  exact h2
set_option maxRecDepth 100000 in
set_option maxHeartbeats 8000000 in
theorem samC_any (lines : Bool) (c d : CfgS) (vp vc vq up uc uq : Value) (S : Nat → Prop) (w : World)
    (hp1 : PrT w S vp c.parts) (hp2 : PrT w S up c.parts) (hc1 : Tr w S vc c.code) (hc2 : Tr w S uc d.code) (hq1 : Tr w S vq c.post) (hq2 : Tr w S uq d.post)
    (hpp : d.parts = c.parts) (hh : d.h = c.h ∧ d.m = c.m ∧ d.ph = c.ph ∧ d.pm = c.pm ∧ d.has = c.has) (hsc : SamT lines c.code d.code) (hsq : SamT lines c.post d.post) :
    Calls Try.prog 9 #[.agg (cfgA c.h c.m c.ph c.pm vp vc vq c.has), .agg (cfgA d.h d.m d.ph d.pm up uc uq d.has), .bool lines] w fun e w' => e = .returned (.bool true) ∧ Below w.heap.size w w' := by
  obtain ⟨e1, e2, e3, e4, e5⟩ := hh
  rw [e1, e2, e3, e4, e5]
  clear e1 e2 e3 e4 e5
  obtain ⟨A1, n1, rfl⟩ := hp1.form
  obtain ⟨A2, n2, rfl⟩ := hp2.form
  obtain ⟨A3, n3, rfl, -, -⟩ := hc1.frm
  obtain ⟨A4, n4, rfl, -, -⟩ := hc2.frm
  obtain ⟨A5, n5, rfl, -, -⟩ := hq1.frm
  obtain ⟨A6, n6, rfl, -, -⟩ := hq2.frm
  have HP := Lib.hid (And.intro hp1 hp2)
  have HC := Lib.hid (And.intro hc1 hc2)
  have HQ := Lib.hid (And.intro hq1 hq2)
  have HS := Lib.hid (And.intro hsc hsq)
  clear hp1 hp2 hc1 hc2 hq1 hq2 hsc hsq hpp
  unfold cfgA
  go_enter Try.func9, Try.ntmps9
  go_wp2_with fail
  have h2 := two_blk w (cfgA c.h c.m c.ph c.pm (.slice A1 c.parts.length n1) (.slice A3 c.code.len n3) (.slice A5 c.post.len n5) c.has) (cfgA c.h c.m c.ph c.pm (.slice A2 c.parts.length n2) (.slice A4 d.code.len n4) (.slice A6 d.post.len n6) c.has) 25
  unfold cfgA at h2
  generalize (w.alloc (.cells #[.int .i64 c.h, .int .i64 c.m, .int .i64 c.ph, .int .i64 c.pm, .slice A1 c.parts.length n1, .slice A3 c.code.len n3, .slice A5 c.post.len n5, .bool c.has] 25)).alloc (.cells #[.int .i64 c.h, .int .i64 c.m, .int .i64 c.ph, .int .i64 c.pm, .slice A2 c.parts.length n2, .slice A4 d.code.len n4, .slice A6 d.post.len n6, .bool c.has] 25) = W0 at *
  obtain ⟨r1, r2, hb0⟩ := h2
  have P : ∀ (W : World), Below W0.heap.size W0 W → ∀ j, j < 8 → W.cell? ⟨w.heap.size, j, none⟩ = (cfgA c.h c.m c.ph c.pm (.slice A1 c.parts.length n1) (.slice A3 c.code.len n3) (.slice A5 c.post.len n5) c.has)[j]? := fun W hW j _ => by
    rw [hW.cell (p := ⟨w.heap.size, j, none⟩) (lt_of_block r1), cell_of_row W0 w.heap.size j _ _ _ r1]
    rfl
  have Q : ∀ (W : World), Below W0.heap.size W0 W → ∀ j, j < 8 → W.cell? ⟨w.heap.size + 1, j, none⟩ = (cfgA c.h c.m c.ph c.pm (.slice A2 c.parts.length n2) (.slice A4 d.code.len n4) (.slice A6 d.post.len n6) c.has)[j]? := fun W hW j _ => by
    rw [hW.cell (p := ⟨w.heap.size + 1, j, none⟩) (lt_of_block r2), cell_of_row W0 (w.heap.size + 1) j _ _ _ r2]
    rfl
  have PP := Lib.hid P
  have QQ := Lib.hid Q
  have HB0 := Lib.hid hb0
  clear r1 r2 hb0 P Q
  refine (samP_any c.parts _ _ S S _ (HP.out.1.below HB0.out) (HP.out.2.below HB0.out)).mono ?_
  rintro e w1 ⟨rfl, hb1⟩
  have x5 := PP.out w1 hb1 5 (by omega)
  have y5 := QQ.out w1 hb1 5 (by omega)
  simp only [cfgA, List.getElem?_toArray, List.getElem?_cons_zero, List.getElem?_cons_succ] at x5 y5
  have HB1 := Lib.hid hb1
  clear hb1
  go_wp2_with fail
  refine (samS_any lines _ c.code d.code _ _ S S _ (Nat.lt_succ_self _) ((HC.out.1.below HB0.out).below HB1.out) ((HC.out.2.below HB0.out).below HB1.out) HS.out.1).mono ?_
  rintro e w2 ⟨rfl, hb2⟩
  have hb2' := HB1.out.trans (hb2.mono HB1.out.size)
  have x6 := PP.out w2 hb2' 6 (by omega)
  have y6 := QQ.out w2 hb2' 6 (by omega)
  simp only [cfgA, List.getElem?_toArray, List.getElem?_cons_zero, List.getElem?_cons_succ] at x6 y6
  have HB2 := Lib.hid hb2'
  clear hb2 hb2' x5 y5
  go_wp2_with fail
  refine (samS_any lines _ c.post d.post _ _ S S _ (Nat.lt_succ_self _) ((HQ.out.1.below HB0.out).below HB2.out) ((HQ.out.2.below HB0.out).below HB2.out) HS.out.2).mono ?_
  rintro e w3 ⟨rfl, hb3⟩
  have HB3 := Lib.hid (HB0.out.trans ((HB2.out.trans (hb3.mono HB2.out.size)).mono HB0.out.size))
  clear hb3 x6 y6
  go_wp2_with fail
  go_ret
  exact ⟨rfl, HB3.out⟩
end Go.Proofs.Ytiadfmhodlbkiaa
