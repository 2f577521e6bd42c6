/-
  A SHA-1 DIGEST IN MEMORY; THE WALKS OF sha's New, Write, Sum, Of. Conditions: the digest lies in memory; the bytes read.
-/
import Derived.Test.YtlhbijpmhokmnaaGreatQ09
namespace Go.Proofs.YtlhbijpmhokmnaaGreat
open Go.RowKit
set_option linter.unusedSimpArgs false
set_option linter.unusedVariables false

/-- The fields of a digest. -/
def sgC (h : Nat → Nat) (rest : Value) (n : Nat) (i : Nat) : Value :=
  if i = 0 then .bool true else if i < 6 then .int .u32 (h (i - 1) : Nat) else if i = 6 then rest else .int .i64 n
/-- A digest at block g: its numbers, its rest, how many bytes. -/
structure Dh (w : World) (g : Nat) (s : S5) (rv : Value) (n : Nat) : Prop where
  wf : s.Wf
  row : w.rowIs g 118 8 (sgC s.word rv n)
section
variable {w w' : World} {g n : Nat} {s : S5} {rv : Value}
theorem Dh.of (h : Dh w g s rv n) (hb : w'.heap[g]? = w.heap[g]?) : Dh w' g s rv n := ⟨h.wf, h.row.of_block hb⟩
theorem Dh.lt (h : Dh w g s rv n) : g < w.heap.size := h.row.lt
theorem Dh.below (h : Dh w g s rv n) (hb : Below w.heap.size w w') : Dh w' g s rv n := h.of (hb.block g h.lt)
theorem Dh.made (h : Dh w g s rv n) : w.cell? ⟨g, 0, none⟩ = some (.bool true) := h.row.cell (i := 0) (by omega)
theorem Dh.rest (h : Dh w g s rv n) : w.cell? ⟨g, 6, none⟩ = some rv := h.row.cell (i := 6) (by omega)
theorem Dh.num (h : Dh w g s rv n) : w.cell? ⟨g, 7, none⟩ = some (.int .i64 n) := h.row.cell (i := 7) (by omega)
theorem Dh.hs (h : Dh w g s rv n) : w.cell? ⟨g, 1, none⟩ = some (.int .u32 s.a) ∧ w.cell? ⟨g, 2, none⟩ = some (.int .u32 s.b) ∧ w.cell? ⟨g, 3, none⟩ = some (.int .u32 s.c) ∧ w.cell? ⟨g, 4, none⟩ = some (.int .u32 s.d) ∧ w.cell? ⟨g, 5, none⟩ = some (.int .u32 s.e) :=
  ⟨h.row.cell (i := 1) (by omega), h.row.cell (i := 2) (by omega), h.row.cell (i := 3) (by omega), h.row.cell (i := 4) (by omega), h.row.cell (i := 5) (by omega)⟩
theorem Dh.setRest (h : Dh w g s rv n) (v : Value) : Dh (w.setCell ⟨g, 6, none⟩ v) g s v n := ⟨h.wf, (h.row.set 6 v).congr fun i hi => by
  by_cases e : i = 6
  · rw [if_pos e, e]; rfl
  · rw [if_neg e]; unfold sgC; simp [e]⟩
theorem Dh.setNum (h : Dh w g s rv n) (m : Nat) : Dh (w.setCell ⟨g, 7, none⟩ (.int .i64 m)) g s rv m := ⟨h.wf, (h.row.set 7 _).congr fun i hi => by
  by_cases e : i = 7
  · rw [if_pos e, e]; rfl
  · rw [if_neg e]
    match i, hi, e with
    | 0, _, _ => rfl
    | 1, _, _ => rfl
    | 2, _, _ => rfl
    | 3, _, _ => rfl
    | 4, _, _ => rfl
    | 5, _, _ => rfl
    | 6, _, _ => rfl
    | 7, _, e => exact absurd rfl e⟩
theorem Dh.setH (h : Dh w g s rv n) (z : S5) (hz : z.Wf) :
    Dh (((((w.setCell ⟨g, 1, none⟩ (.int .u32 z.a)).setCell ⟨g, 2, none⟩ (.int .u32 z.b)).setCell ⟨g, 3, none⟩ (.int .u32 z.c)).setCell ⟨g, 4, none⟩ (.int .u32 z.d)).setCell ⟨g, 5, none⟩ (.int .u32 z.e)) g z rv n := by
  refine ⟨hz, (((((h.row.set 1 _).set 2 _).set 3 _).set 4 _).set 5 _).congr fun i hi => ?_⟩
  match i, hi with
  | 0, _ => rfl
  | 1, _ => rfl
  | 2, _ => rfl
  | 3, _ => rfl
  | 4, _ => rfl
  | 5, _ => rfl
  | 6, _ => rfl
  | 7, _ => rfl
end
theorem snew_any (w : World) : Calls Tryz.prog 74 #[] w fun e w' => e = .returned (.pointer (some ⟨w.heap.size, 0, none⟩)) ∧ Dh w' w.heap.size g0 (.slice none 0 0) 0 ∧ Below w.heap.size w w' := by
  go_enter Tryz.func74, Tryz.ntmps74
  go_wp2
  go_ret
  refine ⟨rfl, ⟨g0_wf, rowNew rfl rfl fun i hi => ?_⟩, (Below.refl _ _).alloc (Nat.le_refl _) _⟩
  match i, hi with
  | 0, _ => rfl
  | 1, _ => rfl
  | 2, _ => rfl
  | 3, _ => rfl
  | 4, _ => rfl
  | 5, _ => rfl
  | 6, _ => rfl
  | 7, _ => rfl
/-- Bytes do not lie in a digest's own block. -/
theorem Dh.apart {w : World} {g n : Nat} {s : S5} {rv : Value} (h : Dh w g s rv n) {A : Option Addr} {m : List Nat} (hr : Rd w A m) (hrv : ∀ x, rv ≠ .int .u8 x) : m = [] ∨ ∃ b o, A = some ⟨b, o, none⟩ ∧ b ≠ g ∧ b < w.heap.size := by
  by_cases hm : m = []
  · exact .inl hm
  · obtain ⟨b, o, rfl, hb, hc⟩ := hr.2 hm
    refine .inr ⟨b, o, rfl, ?_, hb⟩
    rintro rfl
    have h0 := hc 0 (List.length_pos_iff.2 hm)
    obtain ⟨cs, h1, h2, h3⟩ := h.row
    rw [Nat.add_zero, cell_of_row _ _ _ _ _ _ h1] at h0
    rcases Nat.lt_or_ge o 8 with ho | ho
    · rw [h3 o ho] at h0
      unfold sgC at h0
      injection h0 with h0
      split at h0
      · cases h0
      · split at h0
        · cases h0
        · split at h0
          · exact hrv _ h0
          · cases h0
    · rw [Array.getElem?_eq_none (by omega)] at h0
      cases h0
theorem Dh.rd {w w' : World} {g n : Nat} {s : S5} {a : Option Addr} {k c : Nat} (h : Dh w g s (.slice a k c) n) {A : Option Addr} {m : List Nat} (hr : Rd w A m) (hg : w.grownBy w' (some g)) : Rd w' A m := by
  rcases h.apart hr (fun x e => by cases e) with rfl | ⟨b, o, rfl, hb, hl⟩
  · exact ⟨hr.1, fun h => absurd rfl h⟩
  · exact hr.grown hg (fun a e => by injection e with e; subst e; intro e; injection e with e; exact hb e)
set_option maxRecDepth 100000 in
set_option maxHeartbeats 2000000 in
theorem swrite_any {w : World} {base g n : Nat} {s : S5} {rv : Value} {r : List Nat} (h : Dh w g s rv n) (ho : Ow w base rv r) (hbw : base ≤ w.heap.size) (hgr : rv.ownBlock ≠ some g) (hn : n ≤ 70368744177664) (A : Option Addr) (c : Nat) (m : List Nat) (hm : m.length ≤ 70368744177664) (hrl : r.length < 64) (hr : Rd w A m) :
    Calls Tryz.prog 75 #[.pointer (some ⟨g, 0, none⟩), .slice A m.length c] w fun e w' => e = .returned (.int .i64 0) ∧
      ∃ rv', Dh w' g (chain5 s (r ++ m) ((r ++ m).length / 64)) rv' (n + m.length) ∧ Ow w' w.heap.size rv' ((r ++ m).drop (64 * ((r ++ m).length / 64))) ∧ Chg w w' (fun k => k = g ∨ rv.ownBlock = some k) := by
  have hgl := h.lt
  have c0 := h.made
  have c73 := h.rest
  have c74 := h.num
  have f73 := h.row.frozen 6
  have f74 := h.row.frozen 7
  have kw : IntKind.i64.wrap ((n : Int) + m.length) = ((n + m.length : Nat) : Int) := by simp [IntKind.wrap, IntKind.signed, IntKind.bits]; omega
  obtain ⟨rA, rc, rfl, hrc, hrb, hrr⟩ := ho.form
  have H := Lib.hid h
  have HO := Lib.hid ho
  have HR := Lib.hid hr
  have HRB := Lib.hid hrb
  have HGR := Lib.hid hgr
  clear h ho hr hrr hrb hgr
  go_enter Tryz.func75, Tryz.ntmps75
  go_upto_region 4 with fail
  have h1 : Dh (w.setCell ⟨g, 7, none⟩ (.int .i64 ((n : Int) + m.length))) g s (.slice rA r.length rc) (n + m.length) := H.out.setNum (n + m.length)
  have hg1 : w.grownBy (w.setCell ⟨g, 7, none⟩ (.int .i64 ((n : Int) + m.length))) (some g) := grown_set (p := ⟨g, 7, none⟩) (grown_refl _ _) (.inl rfl) _
  have hs1 : (w.setCell ⟨g, 7, none⟩ (.int .i64 ((n : Int) + m.length))).heap.size = w.heap.size := by simp [World.setCell]
  generalize w.setCell ⟨g, 7, none⟩ (.int .i64 ((n : Int) + m.length)) = W at *
  have ho1 : Ow W base (.slice rA r.length rc) r := HO.out.keepb' fun k hk => hg1.block k (HO.out.ownLt' hk) (by intro e; injection e with e; exact HGR.out (by rw [hk, e]))
  have hr1 : Rd W A m := Dh.rd H.out HR.out hg1
  have c73 := h1.rest
  have f73 := h1.row.frozen 6
  have H1 := Lib.hid h1
  have HG1 := Lib.hid hg1
  have HO1 := Lib.hid ho1
  have HR1 := Lib.hid hr1
  clear h1 hg1 ho1 hr1 f74 c74 c0
  go_upto_region 5 with (at_builtin; refine append_bytes (.tmp 27) (.tmp 28) rfl rfl rfl HO1.out A m.length c m rfl rfl HR1.out (by omega) (by omega) ?_; intro v2 w2 ho2 hg2 ha2; obtain ⟨A2, c2, rfl, -⟩ := ho2.form; have hng : (Value.slice rA r.length rc).ownBlock ≠ some g := HGR.out; have d73 := (World.cell?_of_block (hg2.block g H1.out.lt (fun e => hng e.symm))).trans H1.out.rest; have x73 := (World.frozen?_of_block (a := ⟨g, 6, none⟩) (hg2.block g H1.out.lt (fun e => hng e.symm))).trans (H1.out.row.frozen 6); clear c73 f73; have HO2 := Lib.hid ho2; have HG2 := Lib.hid hg2; have HA2 := Lib.hid ha2; clear ho2 hg2 ha2)
  obtain ⟨L, hL⟩ : ∃ L, L = r ++ m := ⟨_, rfl⟩
  have hLl : L.length = r.length + m.length := by rw [hL, List.length_append]
  rw [← hL] at HO2 HA2
  rw [← hLl]
  have hd2 : Dh w2 g s (.slice rA r.length rc) (n + m.length) := H1.out.of (HG2.out.block g H1.out.lt (fun e => hng e.symm))
  obtain ⟨X, hX⟩ : ∃ X, X = w2.setCell ⟨g, 6, none⟩ (.slice A2 L.length c2) := ⟨_, rfl⟩
  have hdX : Dh X g s (.slice A2 L.length c2) (n + m.length) := by rw [hX]; exact hd2.setRest _
  have hgX : w2.grownBy X (some g) := by rw [hX]; exact grown_set (p := ⟨g, 6, none⟩) (grown_refl _ _) (.inl rfl) _
  have hv2 : ∀ k, (Value.slice A2 L.length c2).ownBlock = some k → k ≠ g := by
    intro k e e2
    subst e2
    rcases HA2.out with h | h
    · exact hng (h.symm.trans e)
    · rw [e] at h; injection h with h; have := H1.out.lt; omega
  have hoX : Ow X base (.slice A2 L.length c2) L := by
    have h := HO2.out
    exact h.keepb' fun k hk => hgX.block k (h.ownLt' hk) (by intro e; injection e with e; exact hv2 k hk e)
  have hchg : Chg w X (fun k => k = g ∨ (Value.slice rA r.length rc).ownBlock = some k) := by
    refine ((Chg.grown (S := fun k => k = g ∨ (Value.slice rA r.length rc).ownBlock = some k) HG1.out ?_).trans (Chg.grown (S := fun k => k = g ∨ (Value.slice rA r.length rc).ownBlock = some k) HG2.out ?_) fun x hx h => h).trans (Chg.grown (S := fun k => k = g) hgX ?_) fun x hx h => .inl h
    · intro k e; injection e with e; exact .inl e.symm
    · intro k e; exact .inr e
    · intro k e; injection e with e; exact e.symm
  obtain ⟨A2', c2', e2, hc2, hown2, hrd2⟩ := hoX.form
  injection e2 with e2a e2b e2c
  subst e2a; subst e2c
  have hcap : c2 ≤ 9223372036854775807 := by
    obtain ⟨b, ⟨A3, c3, e3, q1, q2, q3⟩, -⟩ := hoX.sl'
    injection e3 with e3a e3b e3c
    subst e3c
    exact q2
  rw [← hX]
  have HDX := Lib.hid hdX
  have HCX := Lib.hid hchg
  have HRX := Lib.hid hrd2
  have HLL := Lib.hid hLl
  have hA2 : ∀ a, A2 = some a → a.block ≠ g := fun a e => hv2 a.block (by rw [e]; rfl)
  have HA2g := Lib.hid hA2
  have HLe := Lib.hid hL
  clear hd2 hdX hgX hv2 hoX hchg hown2 hrd2 hX d73 x73 HO2 HG2 HA2 hL hA2 hLl
  go_loopw [] (fun wr => ∃ (i : Nat) (A' : Option Addr) (c' : Nat), 64 * i ≤ L.length ∧ Dh wr g (chain5 s L i) (.slice A' (L.length - 64 * i) c') (n + m.length) ∧ Rd wr A' (L.drop (64 * i)) ∧ L.length - 64 * i ≤ c' ∧ c' ≤ 9223372036854775807 ∧ Chg X wr (fun k => k = g)) (fun wr => match wr.cell? ⟨g, 6, none⟩ with
    | some (.slice _ k _) => k
    | _ => 0)
  case atStart => exact ⟨0, A2, c2, by omega, HDX.out, by simpa using HRX.out, hc2, hcap, Chg.refl _ _⟩
  case round =>
    obtain ⟨i, A', c', hi, hd, hr', hcc, hc63, hch⟩ := hrel
    obtain ⟨q, hq⟩ : ∃ q, q = L.length - 64 * i := ⟨_, rfl⟩
    rw [← hq] at hd hcc
    have hql : (L.drop (64 * i)).length = q := by simp; omega
    have c73 := hd.rest
    have HD := Lib.hid hd
    have HR' := Lib.hid hr'
    have HCH := Lib.hid hch
    by_cases h64 : 64 ≤ q
    · have k1 : (64 : Int) ≤ q := by omega
      have k2 : (64 : Int) ≤ c' := by omega
      have k3 : 64 ≤ c' := by omega
      obtain ⟨x1, x2, x3, x4, x5⟩ := hd.hs
      have hwf := hd.wf
      have hgl' := hd.lt
      have hblk := blk5_wf (chain5 s L i) ((L.drop (64 * i)).take 64)
      obtain ⟨z, hz⟩ : ∃ z, z = chain5 s L i := ⟨_, rfl⟩
      rw [← hz] at x1 x2 x3 x4 x5 hwf hblk
      have hdz : Dh wr g z (.slice A' q c') (n + m.length) := by rw [hz]; exact HD.out
      have HDZ := Lib.hid hdz
      have HZ := Lib.hid hz
      have HWF := Lib.hid hwf
      have HBW := Lib.hid hblk
      have hp64 : ((L.drop (64 * i)).take 64).length = 64 := by simp; omega
      have HP := Lib.hid hp64
      have hrp : Rd wr A' ((L.drop (64 * i)).take 64) := rd_take hr' 64
      have HRP := Lib.hid hrp
      have HQ := Lib.hid hq
      clear hd hr' hch hz hwf hdz hblk hp64 hrp HD hql hq
      go_upto_region 6 with fail
      go_region_law (first
        | (go_simp; go_at_call 89; (with_reducible refine (block5_any z HWF.out A' c' ((L.drop (64 * i)).take 64) HP.out wr.drew HRP.out.drew).mono ?_); rintro e w3 ⟨he, hb3⟩
           obtain ⟨y, hy⟩ : ∃ y, y = blk5 z ((L.drop (64 * i)).take 64) := ⟨_, rfl⟩
           rw [← hy] at he
           unfold stV5 at he
           subst he
           have HY := Lib.hid hy
           have HB3 : Hid (Below wr.heap.size wr w3) := (below_drewN' (Below.refl _ _) 1).trans hb3
           have HD3 := Lib.hid (HDZ.out.below HB3.out)
           obtain ⟨u1, u2, u3, u4, u5⟩ := HD3.out.hs
           have f1 := HD3.out.row.frozen 1
           have f2 := HD3.out.row.frozen 2
           have f3 := HD3.out.row.frozen 3
           have f4 := HD3.out.row.frozen 4
           have f5 := HD3.out.row.frozen 5
           clear hb3 hy))
      all_goals
        have hd4 := HD3.out.setH y (by rw [HY.out]; exact HBW.out)
        have hg4 : w3.grownBy (((((w3.setCell ⟨g, 1, none⟩ (.int .u32 y.a)).setCell ⟨g, 2, none⟩ (.int .u32 y.b)).setCell ⟨g, 3, none⟩ (.int .u32 y.c)).setCell ⟨g, 4, none⟩ (.int .u32 y.d)).setCell ⟨g, 5, none⟩ (.int .u32 y.e)) (some g) :=
          grown_set (p := ⟨g, 5, none⟩) (grown_set (p := ⟨g, 4, none⟩) (grown_set (p := ⟨g, 3, none⟩) (grown_set (p := ⟨g, 2, none⟩) (grown_set (p := ⟨g, 1, none⟩) (grown_refl _ _) (.inl rfl) _) (.inl rfl) _) (.inl rfl) _) (.inl rfl) _) (.inl rfl) _
        generalize ((((w3.setCell ⟨g, 1, none⟩ (.int .u32 y.a)).setCell ⟨g, 2, none⟩ (.int .u32 y.b)).setCell ⟨g, 3, none⟩ (.int .u32 y.c)).setCell ⟨g, 4, none⟩ (.int .u32 y.d)).setCell ⟨g, 5, none⟩ (.int .u32 y.e) = w4 at *
        have hch4 : Chg wr w4 (fun k => k = g) := (Chg.of_below (S := fun k => k = g) HB3.out (fun k h1 h2 => by omega)).trans (Chg.grown (S := fun k => k = g) hg4 (fun k e => by injection e with e; exact e.symm)) (fun x _ h => h)
        have hr4 : Rd w4 A' (L.drop (64 * i)) := HD3.out.rd (HR'.out.below HB3.out) hg4
        have c73 := hd4.rest
        have f73 := hd4.row.frozen 6
        have HD4 := Lib.hid hd4
        have HC4 := Lib.hid hch4
        have HR4 := Lib.hid hr4
        have k4 : ((q : Int) - 64) = ((q - 64 : Nat) : Int) := by omega
        have k5 : ((c' : Int) - 64) = ((c' - 64 : Nat) : Int) := by omega
        clear hd4 hg4 hch4 hr4 u1 u2 u3 u4 u5 f1 f2 f3 f4 f5 x1 x2 x3 x4 x5
        have hy : chain5 s L (i + 1) = y := by rw [chain5, ← HZ.out, ← HY.out]
        have hq2 : L.length - 64 * (i + 1) = q - 64 := by have := HQ.out; omega
        have hcy := hch_all HCH.out HC4.out
        have Hy := Lib.hid hy
        have HQ2 := Lib.hid hq2
        have HCY := Lib.hid hcy
        clear hy hq2 hcy
        by_cases e64 : c' = 64
        · have hrd : Rd w4 A' (L.drop (64 * (i + 1))) := by
            have := rd_drop_same HR4.out 64 (by have := HQ.out; simp; omega)
            rw [List.drop_drop] at this
            exact this
          have HRD := Lib.hid hrd
          clear hrd
          go_wp2
          refine ⟨⟨i + 1, A', 0, by have := HQ.out; omega, ?_, ?_, by rw [HQ2.out]; omega, by omega, ?_⟩, ?_⟩
          · rw [Hy.out, HQ2.out]
            exact HD4.out.setRest _
          · exact HD4.out.rd HRD.out (grown_set (p := ⟨g, 6, none⟩) (grown_refl _ _) (.inl rfl) _)
          · exact chg_set HCY.out _
          · rw [(HD4.out.setRest _).rest, HDZ.out.rest]
            show q - 64 < q
            omega
        · have hrd : Rd w4 (A'.map fun x => ⟨x.block, x.off + 64, none⟩) (L.drop (64 * (i + 1))) := by
            have := rd_drop_on HR4.out 64
            rw [List.drop_drop] at this
            exact this
          have HRD := Lib.hid hrd
          clear hrd
          go_wp2
          refine ⟨⟨i + 1, A'.map fun x => (⟨x.block, x.off + 64, none⟩ : Addr), c' - 64, by have := HQ.out; omega, ?_, ?_, by rw [HQ2.out]; omega, by omega, ?_⟩, ?_⟩
          · rw [Hy.out, HQ2.out]
            exact HD4.out.setRest _
          · exact HD4.out.rd HRD.out (grown_set (p := ⟨g, 6, none⟩) (grown_refl _ _) (.inl rfl) _)
          · exact chg_set HCY.out _
          · rw [(HD4.out.setRest _).rest, HDZ.out.rest]
            show q - 64 < q
            omega
    · have hi2 : i = L.length / 64 := by omega
      have HI := Lib.hid hi2
      have HQ := Lib.hid hq
      have HQL := Lib.hid hql
      have f73 := hd.row.frozen 6
      clear hd hr' hch hq hql hi2
      have h64' : ¬ (64 : Int) ≤ q := by omega
      have hgl' := HD.out.lt
      go_wp2_with (at_builtin; refine append_bytes (.const (.slice none 0 0)) (.tmp 63) rfl rfl rfl (Ow.nil wr wr.heap.size) A' q c' (L.drop (64 * i)) rfl HQL.out.symm HR'.out (by rw [HQL.out]; simp; omega) (Nat.le_refl _) ?_; intro v5 w5 ho5 hg5 ha5; have hg5 : wr.grownBy w5 none := hg5; obtain ⟨A5, c5, rfl, -⟩ := ho5.form; have d73 := (World.cell?_of_block (hg5.block g hgl' (by simp))).trans HD.out.rest; have x73 := (World.frozen?_of_block (a := ⟨g, 6, none⟩) (hg5.block g hgl' (by simp))).trans (HD.out.row.frozen 6); clear c73 f73; have HO5 := Lib.hid ho5; have HG5 := Lib.hid hg5; clear ho5 hg5 ha5)
      go_ret
      have hd5 : Dh w5 g (chain5 s L i) (.slice A' q c') (n + m.length) := HD.out.of (HG5.out.block g hgl' (by simp))
      have hlen : (L.drop (64 * i)).length = L.length - 64 * i := by simp
      have ho6 := HO5.out
      rw [List.nil_append, hlen] at ho6
      have HO6 := Lib.hid ho6
      clear ho6
      have hgs : w5.grownBy (w5.setCell ⟨g, 6, none⟩ (.slice A5 (L.length - 64 * i) c5)) (some g) := grown_set (p := ⟨g, 6, none⟩) (grown_refl _ _) (.inl rfl) _
      have hown : ∀ k, (Value.slice A5 (L.length - 64 * i) c5).ownBlock = some k → wr.heap.size ≤ k := fun k e => by
        obtain ⟨A6, c6, e6, _, h6, _⟩ := HO6.out.form
        injection e6 with e6a
        subst e6a
        cases A5 with
        | none => cases e
        | some a => obtain ⟨q1, _, _⟩ := h6 a rfl; have : a.block = k := by injection e
                    omega
      have hwx : w.heap.size ≤ wr.heap.size := Nat.le_trans HCX.out.size HCH.out.size
      have hi3 : (r.length + m.length) / 64 = i := by rw [← HLL.out, HI.out]
      rw [hi3, ← HLe.out]
      refine ⟨rfl, _, hd5.setRest _, ?_, ?_⟩
      · exact (HO6.out.keepb' fun k hk => hgs.block k (HO6.out.ownLt' hk) (by intro e; injection e with e; have := hown k hk; omega)).mono hwx
      · refine ((HCX.out.trans HCH.out fun x _ h => .inl h).trans (Chg.grown (S := fun _ => False) HG5.out (fun k e => by cases e)) fun x _ h => h.elim).trans (Chg.grown (S := fun k => k = g) hgs fun k e => by injection e with e; exact e.symm) fun x _ h => .inl h
theorem word5_lt {s : S5} (h : s.Wf) (j : Nat) : s.word j < 4294967296 := by
  obtain ⟨l0, l1, l2, l3, l4⟩ := h
  unfold S5.word
  split <;> assumption
theorem size20 : (Tryz.prog.info? 96).map (·.size) = some 20 := by kernel_rfl
theorem two_outs5 (w : World) : Below w.heap.size w ((w.alloc (.cells #[.int .u8 0, .int .u8 0, .int .u8 0, .int .u8 0, .int .u8 0, .int .u8 0, .int .u8 0, .int .u8 0, .int .u8 0, .int .u8 0, .int .u8 0, .int .u8 0, .int .u8 0, .int .u8 0, .int .u8 0, .int .u8 0, .int .u8 0, .int .u8 0, .int .u8 0, .int .u8 0] 96)).alloc (.cells #[.int .u8 0, .int .u8 0, .int .u8 0, .int .u8 0, .int .u8 0, .int .u8 0, .int .u8 0, .int .u8 0, .int .u8 0, .int .u8 0, .int .u8 0, .int .u8 0, .int .u8 0, .int .u8 0, .int .u8 0, .int .u8 0, .int .u8 0, .int .u8 0, .int .u8 0, .int .u8 0] 96)) ∧ ((w.alloc (.cells #[.int .u8 0, .int .u8 0, .int .u8 0, .int .u8 0, .int .u8 0, .int .u8 0, .int .u8 0, .int .u8 0, .int .u8 0, .int .u8 0, .int .u8 0, .int .u8 0, .int .u8 0, .int .u8 0, .int .u8 0, .int .u8 0, .int .u8 0, .int .u8 0, .int .u8 0, .int .u8 0] 96)).alloc (.cells #[.int .u8 0, .int .u8 0, .int .u8 0, .int .u8 0, .int .u8 0, .int .u8 0, .int .u8 0, .int .u8 0, .int .u8 0, .int .u8 0, .int .u8 0, .int .u8 0, .int .u8 0, .int .u8 0, .int .u8 0, .int .u8 0, .int .u8 0, .int .u8 0, .int .u8 0, .int .u8 0] 96)).rowIs w.heap.size 96 20 (fun _ => .int .u8 0) ∧
    ((w.alloc (.cells #[.int .u8 0, .int .u8 0, .int .u8 0, .int .u8 0, .int .u8 0, .int .u8 0, .int .u8 0, .int .u8 0, .int .u8 0, .int .u8 0, .int .u8 0, .int .u8 0, .int .u8 0, .int .u8 0, .int .u8 0, .int .u8 0, .int .u8 0, .int .u8 0, .int .u8 0, .int .u8 0] 96)).alloc (.cells #[.int .u8 0, .int .u8 0, .int .u8 0, .int .u8 0, .int .u8 0, .int .u8 0, .int .u8 0, .int .u8 0, .int .u8 0, .int .u8 0, .int .u8 0, .int .u8 0, .int .u8 0, .int .u8 0, .int .u8 0, .int .u8 0, .int .u8 0, .int .u8 0, .int .u8 0, .int .u8 0] 96)).rowIs (w.heap.size + 1) 96 20 (fun _ => .int .u8 0) ∧ ((w.alloc (.cells #[.int .u8 0, .int .u8 0, .int .u8 0, .int .u8 0, .int .u8 0, .int .u8 0, .int .u8 0, .int .u8 0, .int .u8 0, .int .u8 0, .int .u8 0, .int .u8 0, .int .u8 0, .int .u8 0, .int .u8 0, .int .u8 0, .int .u8 0, .int .u8 0, .int .u8 0, .int .u8 0] 96)).alloc (.cells #[.int .u8 0, .int .u8 0, .int .u8 0, .int .u8 0, .int .u8 0, .int .u8 0, .int .u8 0, .int .u8 0, .int .u8 0, .int .u8 0, .int .u8 0, .int .u8 0, .int .u8 0, .int .u8 0, .int .u8 0, .int .u8 0, .int .u8 0, .int .u8 0, .int .u8 0, .int .u8 0] 96)).heap.size = w.heap.size + 2 := by
  have e : (#[.int .u8 0, .int .u8 0, .int .u8 0, .int .u8 0, .int .u8 0, .int .u8 0, .int .u8 0, .int .u8 0, .int .u8 0, .int .u8 0, .int .u8 0, .int .u8 0, .int .u8 0, .int .u8 0, .int .u8 0, .int .u8 0, .int .u8 0, .int .u8 0, .int .u8 0, .int .u8 0] : Array Value) = ((List.range 20).map fun _ => Value.int .u8 0).toArray := by kernel_rfl
  rw [e]
  refine ⟨((Below.refl _ _).alloc (Nat.le_refl _) _).alloc (by simp) _, ?_, ?_, by simp⟩
  · exact (rowNew rfl (by simp) fun i hi => by simp [hi]).alloc _
  · exact rowNew (by simp) (by simp) fun i hi => by simp [hi]
theorem outB5_int (z : S5) (j : Nat) : ((z.word (j / 4) : Int) / 2 ^ (24 - 8 * (j % 4)) % 256) = (outB5 z j : Nat) := by
  unfold outB5
  have e : 256 ^ (3 - j % 4) = 2 ^ (24 - 8 * (j % 4)) := by
    rw [show (256 : Nat) = 2 ^ 8 from rfl, ← Nat.pow_mul]
    congr 1
    omega
  rw [e, Int.natCast_emod, Int.natCast_ediv, Int.natCast_pow]
  rfl
set_option maxRecDepth 100000 in
set_option maxHeartbeats 2000000 in
theorem ssum_any {w : World} {g n : Nat} {s : S5} {rA : Option Addr} {rc : Nat} {r : List Nat} (h : Dh w g s (.slice rA r.length rc) n) (hr : Rd w rA r) (hrl : r.length < 64) (hn : n ≤ 70368744177664) :
    Calls Tryz.prog 76 #[.pointer (some ⟨g, 0, none⟩)] w fun e w' => e = .returned (bytesV (sumOf5 (chain5 s (padTo r n) ((padTo r n).length / 64)))) ∧ Below w.heap.size w w' := by
  have hgl := h.lt
  have H := Lib.hid h
  have HR := Lib.hid hr
  have c0 := h.made
  clear h hr
  go_enter Tryz.func76, Tryz.ntmps76
  go_upto_region 4 with fail
  obtain ⟨hb0, hr0, hr1, hz0⟩ := two_outs5 w
  generalize (w.alloc (.cells #[.int .u8 0, .int .u8 0, .int .u8 0, .int .u8 0, .int .u8 0, .int .u8 0, .int .u8 0, .int .u8 0, .int .u8 0, .int .u8 0, .int .u8 0, .int .u8 0, .int .u8 0, .int .u8 0, .int .u8 0, .int .u8 0, .int .u8 0, .int .u8 0, .int .u8 0, .int .u8 0] 96)).alloc (.cells #[.int .u8 0, .int .u8 0, .int .u8 0, .int .u8 0, .int .u8 0, .int .u8 0, .int .u8 0, .int .u8 0, .int .u8 0, .int .u8 0, .int .u8 0, .int .u8 0, .int .u8 0, .int .u8 0, .int .u8 0, .int .u8 0, .int .u8 0, .int .u8 0, .int .u8 0, .int .u8 0] 96) = W at *
  have hd := H.out.below hb0
  have hrW := HR.out.below hb0
  have c73 := hd.rest
  have HD := Lib.hid hd
  have HRW := Lib.hid hrW
  have HB0 := Lib.hid hb0
  have HR0 := Lib.hid hr0
  have HR1 := Lib.hid hr1
  have hBW : W.heap.size ≤ W.heap.size := Nat.le_refl _
  clear hd hrW hb0 hr0 hr1 H HR c0
  go_upto_region 5 with (first
    | (at_builtin; refine append_bytes (.const (.slice none 0 0)) (.tmp 21) rfl rfl rfl (Ow.nil W W.heap.size) rA r.length rc r rfl rfl HRW.out (by simp; omega) (Nat.le_refl _) ?_; intro v1 w1 ho1 hg1 ha1; have hg1 : W.grownBy w1 none := hg1; rw [List.nil_append] at ho1; have HO1 := Lib.hid ho1; have HG1 := Lib.hid hg1; have hs1 := hg1.size; clear ho1 hg1 ha1)
    | (at_builtin; refine append_new (.tmp 22) (.tmp 23) rfl rfl _ _ _ 128 rfl rfl HO1.out rfl (by omega) (by simp; omega) hs1 ?_; intro v2 w2 ho2 hg2 ha2; have HO2 := Lib.hid ho2; have HG2 := Lib.hid hg2; clear ho2 hg2 ha2))
  have hb2 : Below W.heap.size W w2 := by
    have h1 : Below W.heap.size W w1 := below_none' HG1.out
    exact h1.grown HG2.out hs1 (fun k e => ow_base HO1.out e)
  have HB2 := Lib.hid hb2
  clear hb2 HG1 HG2 HO1
  go_loopw [4] (fun v wr => ∃ k : Nat, k ≤ padZ r.length ∧ Ow wr W.heap.size v (r ++ [128] ++ List.replicate k 0) ∧ Below W.heap.size W wr) (fun v _ => match v with
    | .slice _ k _ => 500 - k
    | _ => 0)
  case atStart => exact ⟨0, by omega, by simpa using HO2.out, HB2.out⟩
  case round =>
    obtain ⟨k, hk, ho, hb⟩ := hrel
    have hpz : padZ r.length < 64 := by unfold padZ; omega
    have hlen : (r ++ [128] ++ List.replicate k 0).length = r.length + 1 + k := by simp; omega
    obtain ⟨A3, c3, rfl, -, -, -⟩ := ho.form
    rw [hlen] at ho
    rw [hlen]
    have HLN := Lib.hid hlen
    clear hlen
    have HO := Lib.hid ho
    have HB := Lib.hid hb
    clear ho hb HO2 HB2
    have hmod := padZ_mod r.length k hk
    have hbs := HB.out.size
    by_cases e0 : k = padZ r.length
    · have m1 : (((r.length : Int) + 1 + k) % 64 != 56) = false := by
        rw [bne_eq_false_iff_eq]
        have := hmod.2 e0
        omega
      have E0 := Lib.hid e0
      clear e0 hmod
      go_wp2_with fail
      obtain ⟨Z, hZ⟩ : ∃ Z, Z = r ++ [128] ++ List.replicate (padZ r.length) 0 := ⟨_, rfl⟩
      have hzl : Z.length = r.length + 1 + padZ r.length := by rw [hZ, ← E0.out, HLN.out]
      have hoZ : Ow wr W.heap.size (.slice A3 (r.length + 1 + k) c3) (Z ++ (be8 (8 * n)).take 0) := by
        have := HO.out
        rw [E0.out] at this ⊢
        rw [← hZ] at this
        simpa using this
      have HZ := Lib.hid hZ
      have HZL := Lib.hid hzl
      have HOZ := Lib.hid hoZ
      have HB1 := HB
      clear hZ hzl hoZ HO HB m1 hbs
      go_loopw [4, 32] (fun v i wq => ∃ i' : Nat, i' ≤ 8 ∧ i = .int .i64 i' ∧ Ow wq W.heap.size v (Z ++ (be8 (8 * n)).take i') ∧ Below W.heap.size W wq) (fun _ i _ => 8 - (intOf i).toNat)
      case atStart => exact ⟨0, by omega, rfl, HOZ.out, HB1.out⟩
      case round =>
        obtain ⟨i, hi, rfl, ho, hb⟩ := hrel
        have hlen2 : (Z ++ (be8 (8 * n)).take i).length = Z.length + i := by simp [be8_length]; omega
        obtain ⟨A5, c5, rfl, -, -, -⟩ := ho.form
        rw [hlen2] at ho
        rw [hlen2]
        have c74 := (HD.out.below hb).num
        have hbs := hb.size
        have HO := Lib.hid ho
        have HB := Lib.hid hb
        have HL2 := Lib.hid hlen2
        clear ho hb hlen2
        by_cases e8 : i = 8
        · subst e8
          go_upto_region 12 with fail
          have hdw := HD.out.below HB.out
          obtain ⟨P, hP⟩ : ∃ P, P = padTo r n := ⟨_, rfl⟩
          have hPZ : P = Z ++ be8 (8 * n) := by rw [hP, HZ.out]; rfl
          have hPl : P.length = Z.length + 8 := by rw [hPZ]; simp [be8_length]
          have hoP : Ow wr W.heap.size (.slice A5 (Z.length + 8) c5) P := by
            have := HO.out
            rw [List.take_of_length_le (by rw [be8_length]; omega), ← hPZ] at this
            exact this
          have hP64 : P.length % 64 = 0 := by
            have h1 := HZL.out
            have h2 : padZ r.length = (55 + 64 - r.length % 64) % 64 := rfl
            rw [hPl, h1]
            omega
          obtain ⟨A6, c6, e6, hc6, hA6, hr6⟩ := hoP.form
          obtain ⟨bb, ⟨A7, c7, e7, hc7, hm7, hr7⟩, -⟩ := hoP.sl'
          rw [← hPl] at e6 e7 ⊢
          injection e6 with e6a e6b e6c
          subst e6a; subst e6c
          injection e7 with e7a e7b e7c
          subst e7a; subst e7c
          obtain ⟨x1, x2, x3, x4, x5⟩ := hdw.hs
          have HDW := Lib.hid hdw
          have HP := Lib.hid hP
          have HP64 := Lib.hid hP64
          have HR6 := Lib.hid hr6
          have HPL := Lib.hid hPl
          clear hdw hP hPZ hPl hoP hP64 hA6 hr6 hr7 c74 HO HZ HZL
          go_wp2_with fail
          have hrH : (wr.alloc (.cells #[.int .u32 s.a, .int .u32 s.b, .int .u32 s.c, .int .u32 s.d, .int .u32 s.e] 116)).rowIs wr.heap.size 116 5 (fun j => .int .u32 (s.word j : Nat)) :=
            rowNew rfl rfl fun i hi => by
              match i, hi with
              | 0, _ => rfl
              | 1, _ => rfl
              | 2, _ => rfl
              | 3, _ => rfl
              | 4, _ => rfl
          have hdX := HDW.out.below ((Below.refl wr.heap.size wr).alloc (Nat.le_refl _) (.cells #[.int .u32 s.a, .int .u32 s.b, .int .u32 s.c, .int .u32 s.d, .int .u32 s.e] 116))
          have hrX := HR6.out.alloc (.cells #[.int .u32 s.a, .int .u32 s.b, .int .u32 s.c, .int .u32 s.d, .int .u32 s.e] 116)
          have hbX := HB.out.alloc hbs (.cells #[.int .u32 s.a, .int .u32 s.b, .int .u32 s.c, .int .u32 s.d, .int .u32 s.e] 116)
          generalize wr.alloc (.cells #[.int .u32 s.a, .int .u32 s.b, .int .u32 s.c, .int .u32 s.d, .int .u32 s.e] 116) = X at *
          have hgH : g < wr.heap.size := HDW.out.lt
          generalize hHb : wr.heap.size = Hb at *
          have HRH := Lib.hid hrH
          have HDX := Lib.hid hdX
          have HRX := Lib.hid hrX
          have HBX := Lib.hid hbX
          clear hrH hdX hrX hbX x1 x2 x3 x4 x5 hHb
          go_loopw [4] (fun v wq => ∃ (i : Nat) (A' : Option Addr) (c' : Nat), 64 * i ≤ P.length ∧ v = .slice A' (P.length - 64 * i) c' ∧ Rd wq A' (P.drop (64 * i)) ∧ P.length - 64 * i ≤ c' ∧ c' ≤ 9223372036854775807 ∧ wq.rowIs Hb 116 5 (fun j => .int .u32 ((chain5 s P i).word j : Nat)) ∧ Chg X wq (fun k => k = Hb)) (fun v _ => match v with
            | .slice _ k _ => k
            | _ => 0)
          case atStart => exact ⟨0, A5, c5, by omega, rfl, by simpa using HRX.out, hc6, hm7, HRH.out, Chg.refl _ _⟩
          case round =>
            obtain ⟨i, A', c', hi, rfl, hr', hcc, hc63, hrow, hch⟩ := hrel
            obtain ⟨q, hq⟩ : ∃ q, q = P.length - 64 * i := ⟨_, rfl⟩
            rw [← hq] at hcc
            rw [← hq]
            have hql : (P.drop (64 * i)).length = q := by simp; omega
            have hq64 : q % 64 = 0 := by have := HP64.out; omega
            have hdq : Dh wr g s (.slice rA r.length rc) n := HDX.out.of (hch.block g HDX.out.lt (by omega))
            have HR' := Lib.hid hr'
            have HRow := Lib.hid hrow
            have HCH := Lib.hid hch
            have HDQ := Lib.hid hdq
            by_cases h64 : q = 0
            · have hi2 : i = P.length / 64 := by omega
              have k0 : ¬ (0 : Int) < q := by omega
              have HI := Lib.hid hi2
              clear hr' hrow hch hdq hq hql hi2
              go_wp2_with fail
              obtain ⟨z, hz⟩ : ∃ z, z = chain5 s P i := ⟨_, rfl⟩
              have hzw : z.Wf := by rw [hz]; exact chain5_wf HDX.out.wf _ _
              have hrow := HRow.out
              rw [← hz] at hrow
              have hO : wr.rowIs (w.heap.size + 1) 96 20 (fun _ => .int .u8 0) := HR1.out.of_block ((HCH.out.block _ (by have := HBX.out.size; omega) (by omega)).trans (HBX.out.block _ (by omega)))
              have hR : wr.rowIs w.heap.size 96 20 (fun _ => .int .u8 0) := HR0.out.of_block ((HCH.out.block _ (by have := HBX.out.size; omega) (by omega)).trans (HBX.out.block _ (by omega)))
              have hbw : Below w.heap.size w wr := (HB0.out.trans (HBX.out.mono (by omega))).trans (HCH.out.below (B := w.heap.size) (fun k e => by omega) (by have := HBX.out.size; omega))
              have HZ := Lib.hid hz
              have HZW := Lib.hid hzw
              have HRw := Lib.hid hrow
              have HOR := Lib.hid hO
              have HRR := Lib.hid hR
              have HBW := Lib.hid hbw
              have hsz1 : w.heap.size + 2 ≤ wr.heap.size := by have := HBX.out.size; have := HCH.out.size; omega
              have hsz2 : w.heap.size + 2 ≤ Hb := by omega
              have hsz3 : Hb < wr.heap.size := HRw.out.lt
              clear hz hzw hrow hO hR hbw
              generalize hwy : wr = Y at *
              clear hwy
              go_loopw [63] (fun v wq => ∃ i' : Nat, i' ≤ 20 ∧ v = .int .i64 i' ∧ wq.rowIs (w.heap.size + 1) 96 20 (fun j => .int .u8 (upd i' (outB5 z) (fun _ => 0) j : Nat)) ∧ Y.grownBy wq (some (w.heap.size + 1))) (fun v _ => 20 - (intOf v).toNat)
              case atStart => exact ⟨0, by omega, rfl, HOR.out.congr (fun j hj => by rw [upd_zero]; rfl), grown_refl _ _⟩
              case round =>
                obtain ⟨j, hj, rfl, hro, hg⟩ := hrel
                have HRo := Lib.hid hro
                have HG := Lib.hid hg
                clear hro hg
                by_cases j32 : j < 20
                · have hrh := HRw.out.of_block (HG.out.block Hb hsz3 (by intro e; injection e with e; omega))
                  have c1 := hrh.cell (i := j / 4) (by omega)
                  have c2 := HRo.out.cell j32
                  have x2 := HRo.out.frozen j
                  have d1 : ((j : Int) / 4).toNat = j / 4 := by omega
                  have d2 : (j : Int) / 4 < 8 := by omega
                  have d3 : 0 ≤ (j : Int) / 4 := by omega
                  have d4 : (j : Int) < 20 := by omega
                  have hzl := word5_lt HZW.out (j / 4)
                  have HZL := Lib.hid hzl
                  clear hrh hzl
                  have e1 : IntKind.i64.wrap (24 - 8 * ((j : Int) % 4)) = ((24 - 8 * (j % 4) : Nat) : Int) := by simp [IntKind.wrap, IntKind.signed, IntKind.bits]; omega
                  go_upto_region 19 with fail
                  go_wp2
                  refine ⟨⟨j + 1, by omega, by go_num, ?_, grown_set (p := ⟨w.heap.size + 1, j, none⟩) HG.out (.inl rfl) _⟩, by simp [intOf]; omega⟩
                  exact row_upd8v HRo.out (outB5_int z j)
                · obtain rfl : j = 20 := by omega
                  have hro := HRo.out.congr (g := fun j => .int .u8 (outB5 z j : Nat)) (fun j hj => by rw [upd_lt _ _ hj])
                  obtain ⟨cs, hcs, hcn, hci⟩ := hro
                  obtain ⟨ds, hds, hdn, hdi⟩ := HRR.out.of_block (HG.out.block w.heap.size (by omega) (by intro e; injection e with e; omega))
                  have hbr := below_of_grown HBW.out HG.out (by omega) (by omega)
                  have CS := Lib.hid hcs
                  have CN := Lib.hid hcn
                  have CI := Lib.hid hci
                  have DS := Lib.hid hds
                  have DN := Lib.hid hdn
                  have HBR := Lib.hid hbr
                  clear hcs hcn hci hds hdn hdi hbr HRo HG
                  go_wp2_with (first
                    | (refine wpList_load_row rfl 96 (.tmp 3) rfl (w.heap.size + 1) rfl 96 cs (0, 0) _ CS.out Tryz.underlying96 rfl (by rw [CN.out]; exact size20) ?_)
                    | (refine wpList_store_row rfl 96 (.tmp 2) (.tmp 79) rfl w.heap.size cs rfl rfl 96 ds DS.out (by rw [CN.out]; exact size20) (by rw [CN.out, DN.out]) (u8_oneCell CN.out CI.out) ?_))
                  (try simp only [Exit.inBlock, Exit.then])
                  refine bodyPost_ret (results_cell_row rfl _ _ w.heap.size 96 cs (0, 0) _ rfl (setRow_heap _ _ _ _ _ _ DS.out) Tryz.underlying96 rfl (by rw [CN.out]; exact size20)) rfl ?_
                  refine ⟨?_, below_setRow HBR.out (Nat.le_refl _) _⟩
                  rw [← HP.out, ← HI.out, ← HZ.out, aggB CN.out CI.out]
                  rfl
            · have k0 : (0 : Int) < q := by omega
              have k1 : (64 : Int) ≤ q := by omega
              have k2 : (64 : Int) ≤ c' := by omega
              have k3 : 64 ≤ c' := by omega
              obtain ⟨z, hz⟩ : ∃ z, z = chain5 s P i := ⟨_, rfl⟩
              have hzw : z.Wf := by rw [hz]; exact chain5_wf HDX.out.wf _ _
              rw [← hz] at hrow
              have x0 : wr.cell? ⟨Hb, 0, none⟩ = some (.int .u32 z.a) := hrow.cell (i := 0) (by omega)
              have x1 : wr.cell? ⟨Hb, 1, none⟩ = some (.int .u32 z.b) := hrow.cell (i := 1) (by omega)
              have x2 : wr.cell? ⟨Hb, 2, none⟩ = some (.int .u32 z.c) := hrow.cell (i := 2) (by omega)
              have x3 : wr.cell? ⟨Hb, 3, none⟩ = some (.int .u32 z.d) := hrow.cell (i := 3) (by omega)
              have x4 : wr.cell? ⟨Hb, 4, none⟩ = some (.int .u32 z.e) := hrow.cell (i := 4) (by omega)
              have hp64 : ((P.drop (64 * i)).take 64).length = 64 := by simp; omega
              have hrp : Rd wr A' ((P.drop (64 * i)).take 64) := rd_take hr' 64
              have HZ := Lib.hid hz
              have HZW := Lib.hid hzw
              have HRow2 := Lib.hid hrow
              have HPP := Lib.hid hp64
              have HRP := Lib.hid hrp
              have HQ := Lib.hid hq
              clear hr' hrow hch hdq hq hql hz hzw hp64 hrp HRow
              go_upto_region 15 with fail
              go_region_law (first
                | (go_simp; go_at_call 89; (with_reducible refine (block5_any z HZW.out A' c' ((P.drop (64 * i)).take 64) HPP.out wr.drew HRP.out.drew).mono ?_); rintro e w3 ⟨he, hb3⟩
                   obtain ⟨y, hy⟩ : ∃ y, y = blk5 z ((P.drop (64 * i)).take 64) := ⟨_, rfl⟩
                   rw [← hy] at he
                   unfold stV5 at he
                   subst he
                   have HY := Lib.hid hy
                   have HB3 : Hid (Below wr.heap.size wr w3) := (below_drewN' (Below.refl _ _) 1).trans hb3
                   have hr3 := HRow2.out.of_block (HB3.out.block Hb HRow2.out.lt)
                   have u0 := hr3.cell (i := 0) (by omega)
                   have u1 := hr3.cell (i := 1) (by omega)
                   have u2 := hr3.cell (i := 2) (by omega)
                   have u3 := hr3.cell (i := 3) (by omega)
                   have u4 := hr3.cell (i := 4) (by omega)
                   have f0 := hr3.frozen 0
                   have f1 := hr3.frozen 1
                   have f2 := hr3.frozen 2
                   have f3 := hr3.frozen 3
                   have f4 := hr3.frozen 4
                   have HR3 := Lib.hid hr3
                   clear hb3 hy hr3))
              all_goals
                have hr4 := row5_set HR3.out (.int .u32 (y.a : Nat)) (.int .u32 (y.b : Nat)) (.int .u32 (y.c : Nat)) (.int .u32 (y.d : Nat)) (.int .u32 (y.e : Nat)) (fun j => .int .u32 (y.word j : Nat)) rfl rfl rfl rfl rfl
                have hg4 := grown5 (V := Hb) (grown_refl w3 (some Hb)) (.int .u32 (y.a : Nat)) (.int .u32 (y.b : Nat)) (.int .u32 (y.c : Nat)) (.int .u32 (y.d : Nat)) (.int .u32 (y.e : Nat))
                generalize ((((w3.setCell ⟨Hb, 0, none⟩ (.int .u32 (y.a : Nat))).setCell ⟨Hb, 1, none⟩ (.int .u32 (y.b : Nat))).setCell ⟨Hb, 2, none⟩ (.int .u32 (y.c : Nat))).setCell ⟨Hb, 3, none⟩ (.int .u32 (y.d : Nat))).setCell ⟨Hb, 4, none⟩ (.int .u32 (y.e : Nat)) = w4 at *
                have hch4 : Chg X w4 (fun k => k = Hb) := (HCH.out.trans (Chg.of_below (S := fun k => k = Hb) HB3.out (fun k h1 h2 => by omega)) fun x _ h => h).trans (Chg.grown (S := fun k => k = Hb) hg4 (fun k e => by injection e with e; exact e.symm)) (fun x _ h => h)
                have hrd4 : Rd w4 A' (P.drop (64 * i)) := rd_u32 HR3.out (HR'.out.below HB3.out) hg4
                have hy : chain5 s P (i + 1) = y := by rw [chain5, ← HZ.out, ← HY.out]
                rw [← hy] at hr4
                have HR4 := Lib.hid hr4
                have HC4 := Lib.hid hch4
                have HRd4 := Lib.hid hrd4
                have hq2 : P.length - 64 * (i + 1) = q - 64 := by have := HQ.out; omega
                have HQ2 := Lib.hid hq2
                have k4 : ((q : Int) - 64) = ((q - 64 : Nat) : Int) := by omega
                have k5 : ((c' : Int) - 64) = ((c' - 64 : Nat) : Int) := by omega
                clear hr4 hg4 hch4 hrd4 hy hq2 u0 u1 u2 u3 u4 f0 f1 f2 f3 f4 x0 x1 x2 x3 x4
                by_cases e64 : c' = 64
                · have hrd : Rd w4 A' (P.drop (64 * (i + 1))) := by
                    have := rd_drop_same HRd4.out 64 (by have := HQ.out; simp; omega)
                    rw [List.drop_drop] at this
                    exact this
                  have HRD := Lib.hid hrd
                  clear hrd
                  go_wp2
                  refine ⟨⟨i + 1, A', 0, by have := HQ.out; omega, by rw [HQ2.out], HRD.out, by rw [HQ2.out]; omega, by omega, HR4.out, HC4.out⟩, ?_⟩
                  show q - 64 < q
                  omega
                · have hrd : Rd w4 (A'.map fun x => ⟨x.block, x.off + 64, none⟩) (P.drop (64 * (i + 1))) := by
                    have := rd_drop_on HRd4.out 64
                    rw [List.drop_drop] at this
                    exact this
                  have HRD := Lib.hid hrd
                  clear hrd
                  go_wp2
                  refine ⟨⟨i + 1, A'.map fun x => (⟨x.block, x.off + 64, none⟩ : Addr), c' - 64, by have := HQ.out; omega, by rw [HQ2.out], HRD.out, by rw [HQ2.out]; omega, by omega, HR4.out, HC4.out⟩, ?_⟩
                  show q - 64 < q
                  omega
        · have hcase : i = 0 ∨ i = 1 ∨ i = 2 ∨ i = 3 ∨ i = 4 ∨ i = 5 ∨ i = 6 ∨ i = 7 := by omega
          have ku : IntKind.u64.wrap (n : Int) = n := by rw [IntKind.wrap_u64]; omega
          have ku2 : IntKind.u64.wrap ((n : Int) * 8) = n * 8 := by rw [IntKind.wrap_u64]; omega
          have hzl2 : Z.length ≤ 200 := by rw [HZL.out]; omega
          obtain ⟨b, hbn⟩ : ∃ b, b = nth (be8 (8 * n)) i := ⟨_, rfl⟩
          have hbv : b = 8 * n / 256 ^ (7 - i) % 256 := by rw [hbn, be8_nth _ (by omega)]
          have hb8 : b < 256 := by omega
          obtain ⟨j, hj⟩ : ∃ j, j = i + 1 := ⟨_, rfl⟩
          have hbt : (be8 (8 * n)).take i ++ [b] = (be8 (8 * n)).take j := by rw [hbn, hj]; exact be8_take _ (by omega)
          have HBT := Lib.hid hbt
          have HBV := Lib.hid hbv
          have HJ := Lib.hid hj
          clear hbn hbv hbt hj
          rcases hcase with rfl | rfl | rfl | rfl | rfl | rfl | rfl | rfl
          all_goals
            go_wp2_with (at_builtin; refine append_new (.tmp 35) (.tmp 47) rfl rfl _ _ _ b rfl rfl HO.out (by have h := HBV.out; simp only [Nat.reduceSub, Nat.reducePow] at h; omega) hb8 (by rw [HL2.out]; omega) hbs ?_; intro v6 w6 ho6 hg6 ha6; have HO6 := Lib.hid ho6; have HG6 := Lib.hid hg6; clear ho6 hg6 ha6)
            go_roundw
            case rel =>
              refine ⟨j, by rw [HJ.out]; omega, by rw [HJ.out]; rfl, ?_, HB.out.grown HG6.out hbs (fun x e => ow_base HO.out e)⟩
              have := HO6.out
              rw [List.append_assoc, HBT.out] at this
              exact this
            case measure => simp [intOf]
    · have m1 : (((r.length : Int) + 1 + k) % 64 != 56) = true := by
        rw [bne_iff_ne]
        intro e
        exact e0 (hmod.1 (by omega))
      clear hmod
      go_wp2_with (at_builtin; refine append_new (.tmp 29) (.tmp 30) rfl rfl _ _ _ 0 rfl rfl HO.out rfl (by omega) (by rw [HLN.out]; omega) hbs ?_; intro v4 w4 ho4 hg4 ha4; have HO4 := Lib.hid ho4; have HG4 := Lib.hid hg4; clear ho4 hg4 ha4)
      obtain ⟨A4, c4, rfl, -, -, -⟩ := HO4.out.form
      refine ⟨⟨k + 1, by omega, ?_, HB.out.grown HG4.out hbs (fun x e => ow_base HO.out e)⟩, ?_⟩
      · have := HO4.out
        have e1 : r ++ [128] ++ List.replicate k 0 ++ [0] = r ++ [128] ++ List.replicate (k + 1) 0 := by rw [List.append_assoc, ← List.replicate_succ']
        rw [e1] at this ⊢
        exact this
      · show 500 - (r ++ [128] ++ List.replicate k 0 ++ [0]).length < 500 - (r.length + 1 + k)
        rw [List.length_append, HLN.out]
        simp
        omega
theorem chain5_all (l : List Nat) : chain5 (chain5 g0 l (l.length / 64)) (padTo (l.drop (64 * (l.length / 64))) l.length) ((padTo (l.drop (64 * (l.length / 64))) l.length).length / 64) = shaSt5 l := by
  have hq : (l.take (64 * (l.length / 64))).length = 64 * (l.length / 64) := by rw [List.length_take]; omega
  have e1 : chain5 g0 l (l.length / 64) = chain5 g0 (l.take (64 * (l.length / 64))) (l.length / 64) := by
    have := chain5_add g0 (l.take (64 * (l.length / 64))) (l.drop (64 * (l.length / 64))) (l.length / 64) 0 hq
    rw [List.take_append_drop, Nat.add_zero] at this
    exact this
  have hpl : (padded l).length = 64 * (l.length / 64) + (padTo (l.drop (64 * (l.length / 64))) l.length).length := by rw [padded_split, List.length_append, hq]
  unfold shaSt5
  rw [e1, ← chain5_add g0 _ _ (l.length / 64) _ hq, ← padded_split, hpl]
  congr 1
  omega
theorem one_out5 (w : World) : Below w.heap.size w (w.alloc (.cells #[.int .u8 0, .int .u8 0, .int .u8 0, .int .u8 0, .int .u8 0, .int .u8 0, .int .u8 0, .int .u8 0, .int .u8 0, .int .u8 0, .int .u8 0, .int .u8 0, .int .u8 0, .int .u8 0, .int .u8 0, .int .u8 0, .int .u8 0, .int .u8 0, .int .u8 0, .int .u8 0] 96)) ∧ (w.alloc (.cells #[.int .u8 0, .int .u8 0, .int .u8 0, .int .u8 0, .int .u8 0, .int .u8 0, .int .u8 0, .int .u8 0, .int .u8 0, .int .u8 0, .int .u8 0, .int .u8 0, .int .u8 0, .int .u8 0, .int .u8 0, .int .u8 0, .int .u8 0, .int .u8 0, .int .u8 0, .int .u8 0] 96)).rowIs w.heap.size 96 20 (fun _ => .int .u8 0) := by
  have e : (#[.int .u8 0, .int .u8 0, .int .u8 0, .int .u8 0, .int .u8 0, .int .u8 0, .int .u8 0, .int .u8 0, .int .u8 0, .int .u8 0, .int .u8 0, .int .u8 0, .int .u8 0, .int .u8 0, .int .u8 0, .int .u8 0, .int .u8 0, .int .u8 0, .int .u8 0, .int .u8 0] : Array Value) = ((List.range 20).map fun _ => Value.int .u8 0).toArray := by kernel_rfl
  rw [e]
  exact ⟨(Below.refl _ _).alloc (Nat.le_refl _) _, rowNew rfl (by simp) fun i hi => by simp [hi]⟩
set_option maxRecDepth 100000 in
set_option maxHeartbeats 2000000 in
theorem sof_any (A : Option Addr) (c : Nat) (m : List Nat) (w : World) (hm : m.length ≤ 35184372088832) (hr : Rd w A m) :
    Calls Tryz.prog 73 #[.slice A m.length c] w fun e w' => e = .returned (bytesV (sha1 m)) ∧ Below w.heap.size w w' := by
  have HR := Lib.hid hr
  clear hr
  go_enter Tryz.func73, Tryz.ntmps73
  go_wp2_with fail
  obtain ⟨hb0, hr0⟩ := one_out5 w
  generalize w.alloc (.cells #[.int .u8 0, .int .u8 0, .int .u8 0, .int .u8 0, .int .u8 0, .int .u8 0, .int .u8 0, .int .u8 0, .int .u8 0, .int .u8 0, .int .u8 0, .int .u8 0, .int .u8 0, .int .u8 0, .int .u8 0, .int .u8 0, .int .u8 0, .int .u8 0, .int .u8 0, .int .u8 0] 96) = W at *
  have HB0 := Lib.hid hb0
  have HR0 := Lib.hid hr0
  have HRW := Lib.hid (HR.out.below hb0)
  clear hb0 hr0 HR
  refine (snew_any W).mono ?_
  rintro e w1 ⟨rfl, hd1, hb1⟩
  have HD1 := Lib.hid hd1
  have HB1 := Lib.hid hb1
  clear hd1 hb1
  go_wp2_with fail
  refine (swrite_any HD1.out (Ow.nil w1 W.heap.size) HB1.out.size (by simp [Value.ownBlock]) (by omega) A c m (by omega) (by simp) (HRW.out.below HB1.out)).mono ?_
  rintro e w2 ⟨rfl, rv, hd2, ho2, hc2⟩
  rw [List.nil_append, Nat.zero_add] at hd2
  rw [List.nil_append] at ho2
  obtain ⟨rA, rc, rfl, -, -, hr2⟩ := ho2.form
  have hb2 : Below W.heap.size w1 w2 := hc2.below (fun k e => by
    rcases e with rfl | e
    · exact Nat.le_refl _
    · cases e) HB1.out.size
  have HD2 := Lib.hid hd2
  have HR2 := Lib.hid hr2
  have HB2 : Hid (Below W.heap.size W w2) := HB1.out.trans hb2
  clear hd2 ho2 hc2 hr2 hb2
  go_wp2_with fail
  refine (ssum_any HD2.out HR2.out (by rw [List.length_drop]; omega) (by omega)).mono ?_
  rintro e w3 ⟨he, hb3⟩
  have HB3 : Hid (Below W.heap.size W w3) := HB2.out.trans (hb3.mono HB2.out.size)
  clear hb3
  rw [chain5_all] at he
  obtain ⟨cs, hcs⟩ : ∃ cs : Array Value, cs = ((sumOf5 (shaSt5 m)).map fun x => Value.int .u8 (x : Nat)).toArray := ⟨_, rfl⟩
  have he2 : e = .returned (.agg cs) := by rw [he, hcs]; rfl
  have hcn : cs.size = 20 := by rw [hcs]; simp [sumOf5]
  have hci : ∀ i, i < 20 → cs[i]? = some (.int .u8 (outB5 (shaSt5 m) i : Nat)) := by
    intro i hi
    rw [hcs]
    simp [sumOf5, hi]
  have hag : Value.agg cs = bytesV (sha1 m) := by rw [hcs]; rfl
  obtain ⟨ds, hds, hdn, -⟩ := HR0.out.of_block (HB3.out.block w.heap.size HR0.out.lt)
  have HCN := Lib.hid hcn
  have HCI := Lib.hid hci
  have HAG := Lib.hid hag
  have DS := Lib.hid hds
  have DN := Lib.hid hdn
  clear he hcs hcn hci hag hds hdn
  subst he2
  go_wp2_with (refine wpList_store_row rfl 96 (.tmp 2) (.tmp 9) rfl w.heap.size cs rfl rfl 96 ds DS.out (by rw [HCN.out]; exact size20) (by rw [HCN.out, DN.out]) (u8_oneCell HCN.out HCI.out) ?_)
  (try simp only [Exit.inBlock, Exit.then])
  refine bodyPost_ret (results_cell_row rfl _ _ w.heap.size 96 cs (0, 0) _ rfl (setRow_heap _ _ _ _ _ _ DS.out) Tryz.underlying96 rfl (by rw [HCN.out]; exact size20)) rfl ?_
  exact ⟨by rw [HAG.out], below_setRow (HB0.out.trans (HB3.out.mono HB0.out.size)) (Nat.le_refl _) _⟩
end Go.Proofs.YtlhbijpmhokmnaaGreat
