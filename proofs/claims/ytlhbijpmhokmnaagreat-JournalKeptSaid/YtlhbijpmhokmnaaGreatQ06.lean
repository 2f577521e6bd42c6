/-
  A DIGEST IN MEMORY; THE WALK OF digest's Write. Conditions: the digest lies in memory; the bytes read.
-/
import Derived.Test.YtlhbijpmhokmnaaGreatQ05
import Derived.Deep.RegionLaw
namespace Go.Proofs.YtlhbijpmhokmnaaGreat
open Go.RowKit
set_option linter.unusedSimpArgs false
set_option linter.unusedVariables false

theorem nextW_sched (p : List Nat) {t : Nat} (ht : t < 64) : nth (sched p 64) t = nextW p (sched p 64) t := by
  rw [sched_nth p ht]
  unfold nextW
  by_cases h : t < 16
  · rw [if_pos h, if_pos h]
  · rw [if_neg h, if_neg h, sched_nth p (s := t - 2) (t := t) (by omega), sched_nth p (s := t - 2) (t := 64) (by omega), sched_nth p (s := t - 7) (t := t) (by omega), sched_nth p (s := t - 7) (t := 64) (by omega),
      sched_nth p (s := t - 15) (t := t) (by omega), sched_nth p (s := t - 15) (t := 64) (by omega), sched_nth p (s := t - 16) (t := t) (by omega), sched_nth p (s := t - 16) (t := 64) (by omega)]
theorem block_any (g : Nat) (s : St) (hs : s.Wf) (AP : Option Addr) (c : Nat) (p : List Nat) (hp : p.length = 64) (w : World) (hr : Rd w AP p) (hk : ∀ j, j < 64 → w.cell? ⟨g, 9 + j, none⟩ = some (.int .u32 (nth kL j : Nat))) :
    Calls Tryz.prog 108 #[.pointer (some ⟨g, 0, none⟩), .agg #[.int .u32 s.a, .int .u32 s.b, .int .u32 s.c, .int .u32 s.d, .int .u32 s.e, .int .u32 s.f, .int .u32 s.g, .int .u32 s.h], .slice AP 64 c] w
      fun e w' => e = .returned (stV (blk s p)) ∧ Below w.heap.size w w' :=
  block_S (sched p 64) g s hs AP c p hp w hr (fun t ht => nextW_sched p ht) (fun t ht => sched_lt hr.1 ht) hk
/-- A digest at block g: its numbers, its rest, how many bytes. -/
structure Dr (w : World) (g : Nat) (s : St) (rv : Value) (n : Nat) : Prop where
  wf : s.Wf
  row : w.rowIs g 142 75 (dgC s.word (nth kL) rv n)
section
variable {w w' : World} {g n : Nat} {s : St} {rv : Value}
theorem Dr.of (h : Dr w g s rv n) (hb : w'.heap[g]? = w.heap[g]?) : Dr w' g s rv n := ⟨h.wf, h.row.of_block hb⟩
theorem Dr.lt (h : Dr w g s rv n) : g < w.heap.size := h.row.lt
theorem Dr.below (h : Dr w g s rv n) (hb : Below w.heap.size w w') : Dr w' g s rv n := h.of (hb.block g h.lt)
theorem Dr.k (h : Dr w g s rv n) (j : Nat) (hj : j < 64) : w.cell? ⟨g, 9 + j, none⟩ = some (.int .u32 (nth kL j : Nat)) := by
  have := h.row.cell (i := 9 + j) (by omega)
  rw [dgC_k hj] at this
  exact this
theorem Dr.made (h : Dr w g s rv n) : w.cell? ⟨g, 0, none⟩ = some (.bool true) := h.row.cell (i := 0) (by omega)
theorem Dr.rest (h : Dr w g s rv n) : w.cell? ⟨g, 73, none⟩ = some rv := h.row.cell (i := 73) (by omega)
theorem Dr.num (h : Dr w g s rv n) : w.cell? ⟨g, 74, none⟩ = some (.int .i64 n) := h.row.cell (i := 74) (by omega)
theorem Dr.hs (h : Dr w g s rv n) : w.cell? ⟨g, 1, none⟩ = some (.int .u32 s.a) ∧ w.cell? ⟨g, 2, none⟩ = some (.int .u32 s.b) ∧ w.cell? ⟨g, 3, none⟩ = some (.int .u32 s.c) ∧ w.cell? ⟨g, 4, none⟩ = some (.int .u32 s.d) ∧
    w.cell? ⟨g, 5, none⟩ = some (.int .u32 s.e) ∧ w.cell? ⟨g, 6, none⟩ = some (.int .u32 s.f) ∧ w.cell? ⟨g, 7, none⟩ = some (.int .u32 s.g) ∧ w.cell? ⟨g, 8, none⟩ = some (.int .u32 s.h) :=
  ⟨h.row.cell (i := 1) (by omega), h.row.cell (i := 2) (by omega), h.row.cell (i := 3) (by omega), h.row.cell (i := 4) (by omega), h.row.cell (i := 5) (by omega), h.row.cell (i := 6) (by omega), h.row.cell (i := 7) (by omega), h.row.cell (i := 8) (by omega)⟩
theorem Dr.setRest (h : Dr w g s rv n) (v : Value) : Dr (w.setCell ⟨g, 73, none⟩ v) g s v n := ⟨h.wf, (h.row.set 73 v).congr fun i hi => by
  by_cases e : i = 73
  · rw [if_pos e, e]; rfl
  · rw [if_neg e]; unfold dgC; simp [e]⟩
theorem Dr.setNum (h : Dr w g s rv n) (m : Nat) : Dr (w.setCell ⟨g, 74, none⟩ (.int .i64 m)) g s rv m := ⟨h.wf, (h.row.set 74 _).congr fun i hi => by
  by_cases e : i = 74
  · rw [if_pos e, e]; rfl
  · rw [if_neg e]
    unfold dgC
    by_cases j0 : i = 0
    · simp [j0]
    · by_cases j1 : i < 9
      · simp [j0, j1]
      · by_cases j2 : i < 73
        · simp [j0, j1, j2]
        · simp [j0, j1, j2, show i = 73 by omega]⟩
theorem Dr.setH (h : Dr w g s rv n) (z : St) (hz : z.Wf) :
    Dr ((((((((w.setCell ⟨g, 1, none⟩ (.int .u32 z.a)).setCell ⟨g, 2, none⟩ (.int .u32 z.b)).setCell ⟨g, 3, none⟩ (.int .u32 z.c)).setCell ⟨g, 4, none⟩ (.int .u32 z.d)).setCell ⟨g, 5, none⟩ (.int .u32 z.e)).setCell ⟨g, 6, none⟩ (.int .u32 z.f)).setCell ⟨g, 7, none⟩ (.int .u32 z.g)).setCell ⟨g, 8, none⟩ (.int .u32 z.h)) g z rv n := by
  refine ⟨hz, ((((((((h.row.set 1 _).set 2 _).set 3 _).set 4 _).set 5 _).set 6 _).set 7 _).set 8 _).congr fun i hi => ?_⟩
  rcases Nat.lt_or_ge i 9 with h9 | h9
  · match i, h9 with
    | 0, _ => rfl
    | 1, _ => rfl
    | 2, _ => rfl
    | 3, _ => rfl
    | 4, _ => rfl
    | 5, _ => rfl
    | 6, _ => rfl
    | 7, _ => rfl
    | 8, _ => rfl
  · rw [if_neg (by omega), if_neg (by omega), if_neg (by omega), if_neg (by omega), if_neg (by omega), if_neg (by omega), if_neg (by omega), if_neg (by omega)]
    unfold dgC
    simp [show ¬ i = 0 by omega, show ¬ i < 9 by omega]
end
theorem dr_new {w : World} {g : Nat} (h : w.rowIs g 142 75 (dgC (nth hL) (nth kL) (.slice none 0 0) 0)) : Dr w g h0 (.slice none 0 0) 0 := ⟨h0_wf, h.congr fun i hi => by
  unfold dgC
  by_cases j0 : i = 0
  · simp [j0]
  · by_cases j1 : i < 9
    · rw [if_neg j0, if_neg j0, if_pos j1, if_pos j1]
      match i, j0, j1 with
      | 1, _, _ => rfl
      | 2, _, _ => rfl
      | 3, _, _ => rfl
      | 4, _, _ => rfl
      | 5, _, _ => rfl
      | 6, _, _ => rfl
      | 7, _, _ => rfl
      | 8, _, _ => rfl
    · simp [j0, j1]⟩
/-- Only these blocks change. -/
structure Chg (w w' : World) (S : Nat → Prop) : Prop where
  os : w'.os = w.os
  tape : w'.tape = w.tape
  output : w'.output = w.output
  size : w.heap.size ≤ w'.heap.size
  block : ∀ k, k < w.heap.size → ¬ S k → w'.heap[k]? = w.heap[k]?
section
variable {w w1 w2 : World} {S T : Nat → Prop}
theorem Chg.refl (w : World) (S : Nat → Prop) : Chg w w S := ⟨rfl, rfl, rfl, Nat.le_refl _, fun _ _ _ => rfl⟩
theorem Chg.trans (h : Chg w w1 S) (k : Chg w1 w2 T) (hT : ∀ x, x < w.heap.size → T x → S x) : Chg w w2 S :=
  ⟨k.os.trans h.os, k.tape.trans h.tape, k.output.trans h.output, Nat.le_trans h.size k.size, fun x hx hs => (k.block x (Nat.lt_of_lt_of_le hx h.size) (fun ht => hs (hT x hx ht))).trans (h.block x hx hs)⟩
theorem Chg.grown {row : Option Nat} (h : w.grownBy w1 row) (hr : ∀ k, row = some k → S k) : Chg w w1 S := ⟨h.os, h.tape, h.output, h.size, fun x hx hs => h.block x hx fun e => hs (hr x e.symm)⟩
theorem Chg.of_below {B : Nat} (h : Below B w w1) (hB : ∀ k, B ≤ k → k < w.heap.size → S k) : Chg w w1 S := ⟨h.os, h.tape, h.output, h.size, fun x hx hs => by
  rcases Nat.lt_or_ge x B with hb | hb
  · exact h.block x hb
  · exact absurd (hB x hb hx) hs⟩
theorem Chg.below {B : Nat} (h : Chg w w1 S) (hB : ∀ k, S k → B ≤ k) (hw : B ≤ w.heap.size) : Below B w w1 := ⟨h.os, h.tape, h.output, h.size, fun x hx => h.block x (Nat.lt_of_lt_of_le hx hw) fun hs => by have := hB x hs; omega⟩
end

theorem Ow.sl' {w : World} {base : Nat} {v : Value} {l : List Nat} (h : Ow w base v l) : ∃ b, (∃ A c, v = .slice A l.length c ∧ l.length ≤ c ∧ c ≤ 9223372036854775807 ∧ Rd w A l) ∧ v.ownBlock = b := by
  have h0 := h
  obtain ⟨hb, hlen, ⟨rfl, hn⟩ | ⟨g, cap, cur, rfl, hg, hh, hn, hm, hs, ht⟩⟩ := h0
  · have : l = [] := List.eq_nil_of_length_eq_zero hn
    subst this
    exact ⟨none, ⟨none, 0, rfl, Nat.le_refl _, by omega, Rd.nil⟩, rfl⟩
  · obtain ⟨A, c, e, _, _, hr⟩ := h.form
    injection e with e1 e2 e3
    subst e1
    exact ⟨some g, ⟨_, cap, rfl, hn, by unfold maxLen at hm; omega, hr⟩, rfl⟩
theorem rd_take {w : World} {A : Option Addr} {l : List Nat} (h : Rd w A l) (n : Nat) : Rd w A (l.take n) := by
  refine ⟨fun x hx => h.1 x (List.mem_of_mem_take hx), fun hne => ?_⟩
  obtain ⟨b, o, rfl, hb, hc⟩ := h.2 (by intro e; rw [e] at hne; simp at hne)
  refine ⟨b, o, rfl, hb, fun i hi => ?_⟩
  simp only [List.length_take] at hi
  rw [hc i (by omega)]
  simp [nth, List.getElem?_take, show i < n by omega]
theorem rd_drop_on {w : World} {A : Option Addr} {l : List Nat} (h : Rd w A l) (n : Nat) : Rd w (A.map fun x => ⟨x.block, x.off + n, none⟩) (l.drop n) := by
  refine ⟨fun x hx => h.1 x (List.mem_of_mem_drop hx), fun hne => ?_⟩
  obtain ⟨b, o, rfl, hb, hc⟩ := h.2 (by intro e; rw [e] at hne; simp at hne)
  refine ⟨b, o + n, rfl, hb, fun i hi => ?_⟩
  simp only [List.length_drop] at hi
  rw [Nat.add_assoc, hc (n + i) (by omega)]
  simp [nth, List.getElem?_drop]
theorem rd_drop_same {w : World} {A : Option Addr} {l : List Nat} (h : Rd w A l) (n : Nat) (hn : l.length ≤ n) : Rd w A (l.drop n) := by
  rw [List.drop_eq_nil_of_le hn]
  exact ⟨by simp, fun h => absurd rfl h⟩
theorem hch_all {X w w1 : World} {g : Nat} (h : Chg X w (fun k => k = g)) (h1 : Chg w w1 (fun k => k = g)) : Chg X w1 (fun k => k = g) := h.trans h1 fun _ _ h => h
theorem chg_set {w w1 : World} {g j : Nat} (h : Chg w w1 (fun k => k = g)) (v : Value) : Chg w (w1.setCell ⟨g, j, none⟩ v) (fun k => k = g) :=
  h.trans (Chg.grown (S := fun k => k = g) (grown_set (p := ⟨g, j, none⟩) (grown_refl w1 (some g)) (.inl rfl) v) fun k e => by injection e with e; exact e.symm) fun _ _ h => h
theorem Ow.keepb' {w w' : World} {base : Nat} {v : Value} {l : List Nat} (h : Ow w base v l) (hk : ∀ k, v.ownBlock = some k → w'.heap[k]? = w.heap[k]?) : Ow w' base v l := by
  obtain ⟨h1, h2, h | ⟨g, cap, cur, rfl, hg, hh, hr⟩⟩ := h
  · exact ⟨h1, h2, .inl h⟩
  · exact ⟨h1, h2, .inr ⟨g, cap, cur, rfl, hg, (hk g rfl).trans hh, hr⟩⟩
theorem Ow.ownLt' {w : World} {base : Nat} {v : Value} {l : List Nat} (h : Ow w base v l) {k : Nat} (e : v.ownBlock = some k) : k < w.heap.size := by
  obtain ⟨hb, hlen, ⟨rfl, hn⟩ | ⟨g, cap, cur, rfl, hg, hh, hn, hm, hs, ht⟩⟩ := h
  · cases e
  · obtain rfl : g = k := by injection e
    exact lt_of_block hh
/-- Bytes do not lie in a digest's own block. -/
theorem Dr.apart {w : World} {g n : Nat} {s : St} {rv : Value} (h : Dr w g s rv n) {A : Option Addr} {m : List Nat} (hr : Rd w A m) (hrv : ∀ x, rv ≠ .int .u8 x) : m = [] ∨ ∃ b o, A = some ⟨b, o, none⟩ ∧ b ≠ g ∧ b < w.heap.size := by
  by_cases hm : m = []
  · exact .inl hm
  · obtain ⟨b, o, rfl, hb, hc⟩ := hr.2 hm
    refine .inr ⟨b, o, rfl, ?_, hb⟩
    rintro rfl
    have h0 := hc 0 (List.length_pos_iff.2 hm)
    obtain ⟨cs, h1, h2, h3⟩ := h.row
    rw [Nat.add_zero, cell_of_row _ _ _ _ _ _ h1] at h0
    rcases Nat.lt_or_ge o 75 with ho | ho
    · rw [h3 o ho] at h0
      unfold dgC at h0
      injection h0 with h0
      split at h0
      · cases h0
      · split at h0
        · cases h0
        · split at h0
          · cases h0
          · split at h0
            · exact hrv _ h0
            · cases h0
    · rw [Array.getElem?_eq_none (by omega)] at h0
      cases h0
theorem Dr.rd {w w' : World} {g n : Nat} {s : St} {a : Option Addr} {k c : Nat} (h : Dr w g s (.slice a k c) n) {A : Option Addr} {m : List Nat} (hr : Rd w A m) (hg : w.grownBy w' (some g)) : Rd w' A m := by
  rcases h.apart hr (fun x e => by cases e) with rfl | ⟨b, o, rfl, hb, hl⟩
  · exact ⟨hr.1, fun h => absurd rfl h⟩
  · exact hr.grown hg (fun a e => by injection e with e; subst e; intro e; injection e with e; exact hb e)
set_option maxRecDepth 100000 in
set_option maxHeartbeats 2000000 in
theorem write_any {w : World} {base g n : Nat} {s : St} {rv : Value} {r : List Nat} (h : Dr w g s rv n) (ho : Ow w base rv r) (hbw : base ≤ w.heap.size) (hgr : rv.ownBlock ≠ some g) (hn : n ≤ 70368744177664) (A : Option Addr) (c : Nat) (m : List Nat) (hm : m.length ≤ 70368744177664) (hrl : r.length < 64) (hr : Rd w A m) :
    Calls Tryz.prog 94 #[.pointer (some ⟨g, 0, none⟩), .slice A m.length c] w fun e w' => e = .returned (.int .i64 0) ∧
      ∃ rv', Dr w' g (chain s (r ++ m) ((r ++ m).length / 64)) rv' (n + m.length) ∧ Ow w' w.heap.size rv' ((r ++ m).drop (64 * ((r ++ m).length / 64))) ∧ Chg w w' (fun k => k = g ∨ rv.ownBlock = some k) := by
  have hgl := h.lt
  have c0 := h.made
  have c73 := h.rest
  have c74 := h.num
  have f73 := h.row.frozen 73
  have f74 := h.row.frozen 74
  have kw : IntKind.i64.wrap ((n : Int) + m.length) = ((n + m.length : Nat) : Int) := by simp [IntKind.wrap, IntKind.signed, IntKind.bits]; omega
  obtain ⟨rA, rc, rfl, hrc, hrb, hrr⟩ := ho.form
  have H := Lib.hid h
  have HO := Lib.hid ho
  have HR := Lib.hid hr
  have HRB := Lib.hid hrb
  have HGR := Lib.hid hgr
  clear h ho hr hrr hrb hgr
  go_enter Tryz.func94, Tryz.ntmps94
  go_upto_region 4 with fail
  have h1 : Dr (w.setCell ⟨g, 74, none⟩ (.int .i64 ((n : Int) + m.length))) g s (.slice rA r.length rc) (n + m.length) := H.out.setNum (n + m.length)
  have hg1 : w.grownBy (w.setCell ⟨g, 74, none⟩ (.int .i64 ((n : Int) + m.length))) (some g) := grown_set (p := ⟨g, 74, none⟩) (grown_refl _ _) (.inl rfl) _
  have hs1 : (w.setCell ⟨g, 74, none⟩ (.int .i64 ((n : Int) + m.length))).heap.size = w.heap.size := by simp [World.setCell]
  generalize w.setCell ⟨g, 74, none⟩ (.int .i64 ((n : Int) + m.length)) = W at *
  have ho1 : Ow W base (.slice rA r.length rc) r := HO.out.keepb' fun k hk => hg1.block k (HO.out.ownLt' hk) (by intro e; injection e with e; exact HGR.out (by rw [hk, e]))
  have hr1 : Rd W A m := Dr.rd H.out HR.out hg1
  have c73 := h1.rest
  have f73 := h1.row.frozen 73
  have H1 := Lib.hid h1
  have HG1 := Lib.hid hg1
  have HO1 := Lib.hid ho1
  have HR1 := Lib.hid hr1
  clear h1 hg1 ho1 hr1 f74 c74 c0
  go_upto_region 5 with (at_builtin; refine append_bytes (.tmp 27) (.tmp 28) rfl rfl rfl HO1.out A m.length c m rfl rfl HR1.out (by omega) (by omega) ?_; intro v2 w2 ho2 hg2 ha2; obtain ⟨A2, c2, rfl, -⟩ := ho2.form; have hng : (Value.slice rA r.length rc).ownBlock ≠ some g := HGR.out; have d73 := (World.cell?_of_block (hg2.block g H1.out.lt (fun e => hng e.symm))).trans H1.out.rest; have x73 := (World.frozen?_of_block (a := ⟨g, 73, none⟩) (hg2.block g H1.out.lt (fun e => hng e.symm))).trans (H1.out.row.frozen 73); clear c73 f73; have HO2 := Lib.hid ho2; have HG2 := Lib.hid hg2; have HA2 := Lib.hid ha2; clear ho2 hg2 ha2)
  obtain ⟨L, hL⟩ : ∃ L, L = r ++ m := ⟨_, rfl⟩
  have hLl : L.length = r.length + m.length := by rw [hL, List.length_append]
  rw [← hL] at HO2 HA2
  rw [← hLl]
  have hd2 : Dr w2 g s (.slice rA r.length rc) (n + m.length) := H1.out.of (HG2.out.block g H1.out.lt (fun e => hng e.symm))
  obtain ⟨X, hX⟩ : ∃ X, X = w2.setCell ⟨g, 73, none⟩ (.slice A2 L.length c2) := ⟨_, rfl⟩
  have hdX : Dr X g s (.slice A2 L.length c2) (n + m.length) := by rw [hX]; exact hd2.setRest _
  have hgX : w2.grownBy X (some g) := by rw [hX]; exact grown_set (p := ⟨g, 73, none⟩) (grown_refl _ _) (.inl rfl) _
  have hv2 : ∀ k, (Value.slice A2 L.length c2).ownBlock = some k → k ≠ g := by
    intro k e e2
    subst e2
    rcases HA2.out with h | h
    · exact hng (h.symm.trans e)
    · rw [e] at h; injection h with h; have := H1.out.lt; omega
  have hoX : Ow X base (.slice A2 L.length c2) L := by
    have h := HO2.out
    exact h.keepb' fun k hk => hgX.block k (h.ownLt' hk) (by intro e; injection e with e; exact hv2 k hk e)
  have hchg : Chg w X (fun k => k = g ∨ (Value.slice rA r.length rc).ownBlock = some k) := by
    refine ((Chg.grown (S := fun k => k = g ∨ (Value.slice rA r.length rc).ownBlock = some k) HG1.out ?_).trans (Chg.grown (S := fun k => k = g ∨ (Value.slice rA r.length rc).ownBlock = some k) HG2.out ?_) fun x hx h => h).trans (Chg.grown (S := fun k => k = g) hgX ?_) fun x hx h => .inl h
    · intro k e; injection e with e; exact .inl e.symm
    · intro k e; exact .inr e
    · intro k e; injection e with e; exact e.symm
  obtain ⟨A2', c2', e2, hc2, hown2, hrd2⟩ := hoX.form
  injection e2 with e2a e2b e2c
  subst e2a; subst e2c
  have hcap : c2 ≤ 9223372036854775807 := by
    obtain ⟨b, ⟨A3, c3, e3, q1, q2, q3⟩, -⟩ := hoX.sl'
    injection e3 with e3a e3b e3c
    subst e3c
    exact q2
  rw [← hX]
  have HDX := Lib.hid hdX
  have HCX := Lib.hid hchg
  have HRX := Lib.hid hrd2
  have HLL := Lib.hid hLl
  have hA2 : ∀ a, A2 = some a → a.block ≠ g := fun a e => hv2 a.block (by rw [e]; rfl)
  have HA2g := Lib.hid hA2
  have HLe := Lib.hid hL
  clear hd2 hdX hgX hv2 hoX hchg hown2 hrd2 hX d73 x73 HO2 HG2 HA2 hL hA2 hLl
  go_loopw [] (fun wr => ∃ (i : Nat) (A' : Option Addr) (c' : Nat), 64 * i ≤ L.length ∧ Dr wr g (chain s L i) (.slice A' (L.length - 64 * i) c') (n + m.length) ∧ Rd wr A' (L.drop (64 * i)) ∧ L.length - 64 * i ≤ c' ∧ c' ≤ 9223372036854775807 ∧ Chg X wr (fun k => k = g)) (fun wr => match wr.cell? ⟨g, 73, none⟩ with
    | some (.slice _ k _) => k
    | _ => 0)
  case atStart => exact ⟨0, A2, c2, by omega, HDX.out, by simpa using HRX.out, hc2, hcap, Chg.refl _ _⟩
  case round =>
    obtain ⟨i, A', c', hi, hd, hr', hcc, hc63, hch⟩ := hrel
    obtain ⟨q, hq⟩ : ∃ q, q = L.length - 64 * i := ⟨_, rfl⟩
    rw [← hq] at hd hcc
    have hql : (L.drop (64 * i)).length = q := by simp; omega
    have c73 := hd.rest
    have HD := Lib.hid hd
    have HR' := Lib.hid hr'
    have HCH := Lib.hid hch
    by_cases h64 : 64 ≤ q
    · have k1 : (64 : Int) ≤ q := by omega
      have k2 : (64 : Int) ≤ c' := by omega
      have k3 : 64 ≤ c' := by omega
      obtain ⟨x1, x2, x3, x4, x5, x6, x7, x8⟩ := hd.hs
      have hwf := hd.wf
      have hgl' := hd.lt
      have hblk := blk_wf (chain s L i) ((L.drop (64 * i)).take 64)
      obtain ⟨z, hz⟩ : ∃ z, z = chain s L i := ⟨_, rfl⟩
      rw [← hz] at x1 x2 x3 x4 x5 x6 x7 x8 hwf hblk
      have hdz : Dr wr g z (.slice A' q c') (n + m.length) := by rw [hz]; exact HD.out
      have HDZ := Lib.hid hdz
      have HZ := Lib.hid hz
      have HWF := Lib.hid hwf
      have HBW := Lib.hid hblk
      have hp64 : ((L.drop (64 * i)).take 64).length = 64 := by simp; omega
      have HP := Lib.hid hp64
      have hrp : Rd wr A' ((L.drop (64 * i)).take 64) := rd_take hr' 64
      have HRP := Lib.hid hrp
      have HQ := Lib.hid hq
      clear hd hr' hch hz hwf hdz hblk hp64 hrp HD hql hq
      go_upto_region 6 with fail
      go_region_law (first
        | (go_simp; go_at_call 108; (with_reducible refine (block_any g z HWF.out A' c' ((L.drop (64 * i)).take 64) HP.out wr.drew HRP.out.drew (HDZ.out.of (w' := wr.drew) rfl).k).mono ?_); rintro e w3 ⟨he, hb3⟩
           obtain ⟨y, hy⟩ : ∃ y, y = blk z ((L.drop (64 * i)).take 64) := ⟨_, rfl⟩
           rw [← hy] at he
           unfold stV at he
           subst he
           have HY := Lib.hid hy
           have HB3 : Hid (Below wr.heap.size wr w3) := (below_drewN' (Below.refl _ _) 1).trans hb3
           have HD3 := Lib.hid (HDZ.out.below HB3.out)
           obtain ⟨u1, u2, u3, u4, u5, u6, u7, u8⟩ := HD3.out.hs
           have f1 := HD3.out.row.frozen 1
           have f2 := HD3.out.row.frozen 2
           have f3 := HD3.out.row.frozen 3
           have f4 := HD3.out.row.frozen 4
           have f5 := HD3.out.row.frozen 5
           have f6 := HD3.out.row.frozen 6
           have f7 := HD3.out.row.frozen 7
           have f8 := HD3.out.row.frozen 8
           clear hb3 hy))
      all_goals
        have hd4 := HD3.out.setH y (by rw [HY.out]; exact HBW.out)
        have hg4 : w3.grownBy ((((((((w3.setCell ⟨g, 1, none⟩ (.int .u32 y.a)).setCell ⟨g, 2, none⟩ (.int .u32 y.b)).setCell ⟨g, 3, none⟩ (.int .u32 y.c)).setCell ⟨g, 4, none⟩ (.int .u32 y.d)).setCell ⟨g, 5, none⟩ (.int .u32 y.e)).setCell ⟨g, 6, none⟩ (.int .u32 y.f)).setCell ⟨g, 7, none⟩ (.int .u32 y.g)).setCell ⟨g, 8, none⟩ (.int .u32 y.h)) (some g) :=
          grown_set (p := ⟨g, 8, none⟩) (grown_set (p := ⟨g, 7, none⟩) (grown_set (p := ⟨g, 6, none⟩) (grown_set (p := ⟨g, 5, none⟩) (grown_set (p := ⟨g, 4, none⟩) (grown_set (p := ⟨g, 3, none⟩) (grown_set (p := ⟨g, 2, none⟩) (grown_set (p := ⟨g, 1, none⟩) (grown_refl _ _) (.inl rfl) _) (.inl rfl) _) (.inl rfl) _) (.inl rfl) _) (.inl rfl) _) (.inl rfl) _) (.inl rfl) _) (.inl rfl) _
        generalize (((((((w3.setCell ⟨g, 1, none⟩ (.int .u32 y.a)).setCell ⟨g, 2, none⟩ (.int .u32 y.b)).setCell ⟨g, 3, none⟩ (.int .u32 y.c)).setCell ⟨g, 4, none⟩ (.int .u32 y.d)).setCell ⟨g, 5, none⟩ (.int .u32 y.e)).setCell ⟨g, 6, none⟩ (.int .u32 y.f)).setCell ⟨g, 7, none⟩ (.int .u32 y.g)).setCell ⟨g, 8, none⟩ (.int .u32 y.h) = w4 at *
        have hch4 : Chg wr w4 (fun k => k = g) := (Chg.of_below (S := fun k => k = g) HB3.out (fun k h1 h2 => by omega)).trans (Chg.grown (S := fun k => k = g) hg4 (fun k e => by injection e with e; exact e.symm)) (fun x _ h => h)
        have hr4 : Rd w4 A' (L.drop (64 * i)) := HD3.out.rd (HR'.out.below HB3.out) hg4
        have c73 := hd4.rest
        have f73 := hd4.row.frozen 73
        have HD4 := Lib.hid hd4
        have HC4 := Lib.hid hch4
        have HR4 := Lib.hid hr4
        have k4 : ((q : Int) - 64) = ((q - 64 : Nat) : Int) := by omega
        have k5 : ((c' : Int) - 64) = ((c' - 64 : Nat) : Int) := by omega
        clear hd4 hg4 hch4 hr4 u1 u2 u3 u4 u5 u6 u7 u8 f1 f2 f3 f4 f5 f6 f7 f8 x1 x2 x3 x4 x5 x6 x7 x8
        have hy : chain s L (i + 1) = y := by rw [chain, ← HZ.out, ← HY.out]
        have hq2 : L.length - 64 * (i + 1) = q - 64 := by have := HQ.out; omega
        have hcy := hch_all HCH.out HC4.out
        have Hy := Lib.hid hy
        have HQ2 := Lib.hid hq2
        have HCY := Lib.hid hcy
        clear hy hq2 hcy
        by_cases e64 : c' = 64
        · have hrd : Rd w4 A' (L.drop (64 * (i + 1))) := by
            have := rd_drop_same HR4.out 64 (by have := HQ.out; simp; omega)
            rw [List.drop_drop] at this
            exact this
          have HRD := Lib.hid hrd
          clear hrd
          go_wp2
          refine ⟨⟨i + 1, A', 0, by have := HQ.out; omega, ?_, ?_, by rw [HQ2.out]; omega, by omega, ?_⟩, ?_⟩
          · rw [Hy.out, HQ2.out]
            exact HD4.out.setRest _
          · exact HD4.out.rd HRD.out (grown_set (p := ⟨g, 73, none⟩) (grown_refl _ _) (.inl rfl) _)
          · exact chg_set HCY.out _
          · rw [(HD4.out.setRest _).rest, HDZ.out.rest]
            show q - 64 < q
            omega
        · have hrd : Rd w4 (A'.map fun x => ⟨x.block, x.off + 64, none⟩) (L.drop (64 * (i + 1))) := by
            have := rd_drop_on HR4.out 64
            rw [List.drop_drop] at this
            exact this
          have HRD := Lib.hid hrd
          clear hrd
          go_wp2
          refine ⟨⟨i + 1, A'.map fun x => (⟨x.block, x.off + 64, none⟩ : Addr), c' - 64, by have := HQ.out; omega, ?_, ?_, by rw [HQ2.out]; omega, by omega, ?_⟩, ?_⟩
          · rw [Hy.out, HQ2.out]
            exact HD4.out.setRest _
          · exact HD4.out.rd HRD.out (grown_set (p := ⟨g, 73, none⟩) (grown_refl _ _) (.inl rfl) _)
          · exact chg_set HCY.out _
          · rw [(HD4.out.setRest _).rest, HDZ.out.rest]
            show q - 64 < q
            omega
    · have hi2 : i = L.length / 64 := by omega
      have HI := Lib.hid hi2
      have HQ := Lib.hid hq
      have HQL := Lib.hid hql
      have f73 := hd.row.frozen 73
      clear hd hr' hch hq hql hi2
      have h64' : ¬ (64 : Int) ≤ q := by omega
      have hgl' := HD.out.lt
      go_wp2_with (at_builtin; refine append_bytes (.const (.slice none 0 0)) (.tmp 64) rfl rfl rfl (Ow.nil wr wr.heap.size) A' q c' (L.drop (64 * i)) rfl HQL.out.symm HR'.out (by rw [HQL.out]; simp; omega) (Nat.le_refl _) ?_; intro v5 w5 ho5 hg5 ha5; have hg5 : wr.grownBy w5 none := hg5; obtain ⟨A5, c5, rfl, -⟩ := ho5.form; have d73 := (World.cell?_of_block (hg5.block g hgl' (by simp))).trans HD.out.rest; have x73 := (World.frozen?_of_block (a := ⟨g, 73, none⟩) (hg5.block g hgl' (by simp))).trans (HD.out.row.frozen 73); clear c73 f73; have HO5 := Lib.hid ho5; have HG5 := Lib.hid hg5; clear ho5 hg5 ha5)
      go_ret
      have hd5 : Dr w5 g (chain s L i) (.slice A' q c') (n + m.length) := HD.out.of (HG5.out.block g hgl' (by simp))
      have hlen : (L.drop (64 * i)).length = L.length - 64 * i := by simp
      have ho6 := HO5.out
      rw [List.nil_append, hlen] at ho6
      have HO6 := Lib.hid ho6
      clear ho6
      have hgs : w5.grownBy (w5.setCell ⟨g, 73, none⟩ (.slice A5 (L.length - 64 * i) c5)) (some g) := grown_set (p := ⟨g, 73, none⟩) (grown_refl _ _) (.inl rfl) _
      have hown : ∀ k, (Value.slice A5 (L.length - 64 * i) c5).ownBlock = some k → wr.heap.size ≤ k := fun k e => by
        obtain ⟨A6, c6, e6, _, h6, _⟩ := HO6.out.form
        injection e6 with e6a
        subst e6a
        cases A5 with
        | none => cases e
        | some a => obtain ⟨q1, _, _⟩ := h6 a rfl; have : a.block = k := by injection e
                    omega
      have hwx : w.heap.size ≤ wr.heap.size := Nat.le_trans HCX.out.size HCH.out.size
      have hi3 : (r.length + m.length) / 64 = i := by rw [← HLL.out, HI.out]
      rw [hi3, ← HLe.out]
      refine ⟨rfl, _, hd5.setRest _, ?_, ?_⟩
      · exact (HO6.out.keepb' fun k hk => hgs.block k (HO6.out.ownLt' hk) (by intro e; injection e with e; have := hown k hk; omega)).mono hwx
      · refine ((HCX.out.trans HCH.out fun x _ h => .inl h).trans (Chg.grown (S := fun _ => False) HG5.out (fun k e => by cases e)) fun x _ h => h.elim).trans (Chg.grown (S := fun k => k = g) hgs fun k e => by injection e with e; exact e.symm) fun x _ h => .inl h
end Go.Proofs.YtlhbijpmhokmnaaGreat
