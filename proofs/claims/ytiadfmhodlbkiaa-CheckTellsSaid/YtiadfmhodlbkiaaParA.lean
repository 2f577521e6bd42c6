/-
  THE WALK OF quillpresslaw20.awake: the chapter's examples. Conditions: none.
-/
import Derived.Test.YtiadfmhodlbkiaaParY
import Derived.Test.YtiadfmhodlbkiaaSamC
namespace Go.Proofs.Ytiadfmhodlbkiaa
open Go.RowKit
set_option linter.unusedSimpArgs false
set_option linter.unusedVariables false
set_option maxRecDepth 100000
theorem par_a : parseT ⟨#[109, 111, 100, 101, 108, 32, 48, 32, 48, 32, 123, 32, 99, 111, 110, 115, 116, 32, 53, 32, 125, 32, 99, 111, 100, 101, 32, 123, 32, 97, 43, 43, 32, 125]⟩ = .ok ⟨0, 0, 0, 0, [⟨1, 0, 0, 0, 5, 0, 0⟩], .cons 1 ⟨3, 0, 0, 0⟩ c0 .nil .nil 1 .nil, .nil, false⟩ := by kernel_rfl
theorem par_b : parseT ⟨#[109, 111, 100, 101, 108, 32, 49, 32, 50, 32, 123, 32, 99, 109, 32, 56, 32, 50, 53, 53, 32, 125, 32, 99, 111, 100, 101, 32, 123, 10, 100, 111, 32, 123, 32, 97, 32, 94, 61, 32, 42, 100, 32, 97, 45, 45, 32, 125, 32, 119, 104, 105, 108, 101, 32, 97, 32, 62, 32, 48, 32, 125, 32, 112, 111, 115, 116, 32, 48, 32, 48, 32, 123, 32, 111, 117, 116, 32, 125]⟩ = .ok ⟨1, 2, 0, 0, [⟨2, 8, 0, 0, 0, 0, 255⟩], .cons 3 i0 ⟨false, ⟨21, 0, 7, 0⟩⟩ (.cons 1 ⟨16, 0, 6, 0⟩ c0 .nil .nil 2 (.cons 1 ⟨4, 0, 0, 0⟩ c0 .nil .nil 2 .nil)) .nil 2 .nil, .cons 1 ⟨26, 0, 0, 0⟩ c0 .nil .nil 2 .nil, true⟩ := by kernel_rfl
theorem par_g : parseT ⟨#[109, 111, 100, 101, 108, 32, 48, 32, 48, 32, 123, 32, 125, 32, 99, 111, 100, 101, 32, 123, 32, 97, 32, 61, 32, 50, 53, 54, 32, 125]⟩ = .error (123, 1) := by kernel_rfl
theorem par_h : parseT ⟨#[109, 111, 100, 101, 108, 32, 48, 32, 48, 32, 123, 32, 125, 10, 99, 111, 100, 101, 32, 123, 32, 98, 32, 43, 61, 32, 49, 32, 125]⟩ = .error (121, 2) := by kernel_rfl
theorem Tr.first {w : World} {S : Nat → Prop} {v : Value} {k : Nat} {i : InsS} {c : ConS} {b e : Sts} {ln : Int} {r : Sts} (h : Tr w S v (.cons k i c b e ln r)) : ∃ g o cc vb ve, v = .slice (some ⟨g, o, none⟩) (r.len + 1) cc ∧ r.len + 1 ≤ cc ∧ g < w.heap.size ∧ Tr w S vb b ∧ Tr w S ve e ∧ ∀ m, m < 13 → w.cell? ⟨g, o + m, none⟩ = some (smF k i c vb ve ln m) := by
  obtain ⟨A, cc, rfl, hc, hm⟩ := h.frm
  obtain ⟨g, o, vb, ve, rfl, -, hg, hb, he, hcl⟩ := h.nth (j := 0) (Nat.succ_pos _)
  exact ⟨g, o, cc, vb, ve, rfl, hc, hg, hb, he, fun m hm => by have := hcl m hm; rw [Nat.zero_mul, Nat.add_zero] at this; exact this⟩
theorem PrT.first {w : World} {S : Nat → Prop} {v : Value} {x : PartS} {l : List PartS} (h : PrT w S v (x :: l)) : ∃ g o cc, v = .slice (some ⟨g, o, none⟩) (l.length + 1) cc ∧ l.length + 1 ≤ cc ∧ g < w.heap.size ∧ ∀ m, m < 7 → w.cell? ⟨g, o + m, none⟩ = some (ptF x m) := by
  have h' := h
  obtain ⟨A, cc, rfl, hc, hm, -⟩ := h'
  obtain ⟨g, o, rfl, hg, hcl⟩ := h.nth (j := 0) (Nat.succ_pos _)
  exact ⟨g, o, cc, rfl, hc, hg, fun m hm => by have := hcl m hm; rw [Nat.zero_mul, Nat.add_zero] at this; exact this⟩
theorem keep2 {w1 : World} (a b : Array Value) (t u : TypeId) : (∀ j, ((w1.alloc (.cells a t)).alloc (.cells b u)).cell? ⟨w1.heap.size, j, none⟩ = a[j]?) ∧ (∀ j, ((w1.alloc (.cells a t)).alloc (.cells b u)).cell? ⟨w1.heap.size + 1, j, none⟩ = b[j]?) ∧ Below w1.heap.size w1 ((w1.alloc (.cells a t)).alloc (.cells b u)) ∧ w1.heap.size + 1 < ((w1.alloc (.cells a t)).alloc (.cells b u)).heap.size := by
  have e := World.size_alloc w1 (.cells a t)
  have e2 := World.size_alloc (w1.alloc (.cells a t)) (.cells b u)
  have h1 := heap_alloc_new w1 (.cells a t)
  have h2 := heap_alloc_new (w1.alloc (.cells a t)) (.cells b u)
  have hb : Below w1.heap.size w1 (w1.alloc (.cells a t)) := (Below.refl _ _).alloc (Nat.le_refl _) _
  have hb2 : Below (w1.alloc (.cells a t)).heap.size (w1.alloc (.cells a t)) ((w1.alloc (.cells a t)).alloc (.cells b u)) := (Below.refl _ _).alloc (Nat.le_refl _) _
  rw [e] at h2
  exact ⟨fun j => cell_of_row _ _ _ _ _ _ ((hb2.block _ (by omega)).trans h1), fun j => cell_of_row _ _ _ _ _ _ h2, hb.trans (hb2.mono (by omega)), by omega⟩
set_option maxHeartbeats 4000000 in
theorem par_awake (w : World) : Calls Try.prog 10 #[] w fun e w' => e = .returned (.bool true) ∧ Below w.heap.size w w' := by
  go_enter Try.func10, Try.ntmps10
  go_wp2_with fail
  refine (parse_ok par_a).mono ?_
  rintro e w1 ⟨vp, vc, vq, rfl, hp, hc, hq, hb1⟩
  obtain ⟨g1, o1, c1, rfl, hc1, hg1, x1⟩ := hp.first
  obtain ⟨h1, p1, d1, ub, ue, rfl, hd1, hh1, -, -, y1⟩ := hc.first
  obtain ⟨A, n, rfl, -, -⟩ := hq.frm
  have X1 := Lib.hid (And.intro hg1 (x1 4 (by omega)))
  have Y1 := Lib.hid (And.intro hh1 (y1 1 (by omega)))
  have HB1 := Lib.hid hb1
  clear hp hc hq x1 y1 hb1 hg1 hh1
  dsimp only [List.length_nil, Sts.len, cfgA]
  go_wp2_with fail
  obtain ⟨ka, kb, kc, kd⟩ := keep2 (w1 := w1) #[.int .i64 0, .int .i64 0, .int .i64 0, .int .i64 0, .slice (some ⟨g1, o1, none⟩) 1 c1, .slice (some ⟨h1, p1, none⟩) 1 d1, .slice A 0 n, .bool false] #[.int .i64 0, .int .i64 0] 25 28
  generalize (w1.alloc (.cells #[.int .i64 0, .int .i64 0, .int .i64 0, .int .i64 0, .slice (some ⟨g1, o1, none⟩) 1 c1, .slice (some ⟨h1, p1, none⟩) 1 d1, .slice A 0 n, .bool false] 25)).alloc (.cells #[.int .i64 0, .int .i64 0] 28) = V1 at ka kb kc kd ⊢
  have K1 := Lib.hid (And.intro ka (And.intro kb (And.intro kc kd)))
  clear ka kb kc kd
  refine (parse_ok par_b).mono ?_
  rintro e w2 ⟨vp, vc, vq, rfl, hp, hc, hq, hb2⟩
  obtain ⟨B2, n2, rfl, -⟩ := hp
  obtain ⟨h2, p2, d2, ub2, ue2, rfl, hd2, hh2, hbd, -, y2⟩ := hc.first
  obtain ⟨h3, p3, d3, ub3, ue3, rfl, hd3, hh3, -, -, y3⟩ := hbd.first
  obtain ⟨A2, m2, rfl, -, -⟩ := hq.frm
  have Y2 := Lib.hid (And.intro hh2 y2)
  have Y3 := Lib.hid (And.intro hh3 y3)
  have HB2 := Lib.hid hb2
  clear hc hq hbd y2 y3 hb2 hh2 hh3
  dsimp only [List.length_nil, List.length_cons, Sts.len, cfgA]
  go_wp2_with fail
  obtain ⟨ka, kb, kc, kd⟩ := keep2 (w1 := w2) #[.int .i64 1, .int .i64 2, .int .i64 0, .int .i64 0, .slice B2 1 n2, .slice (some ⟨h2, p2, none⟩) 1 d2, .slice A2 1 m2, .bool true] #[.int .i64 0, .int .i64 0] 25 28
  generalize (w2.alloc (.cells #[.int .i64 1, .int .i64 2, .int .i64 0, .int .i64 0, .slice B2 1 n2, .slice (some ⟨h2, p2, none⟩) 1 d2, .slice A2 1 m2, .bool true] 25)).alloc (.cells #[.int .i64 0, .int .i64 0] 28) = V2 at ka kb kc kd ⊢
  have K2 := Lib.hid (And.intro ka (And.intro kb (And.intro kc kd)))
  clear ka kb kc kd
  refine (parse_err par_g).mono ?_
  rintro e w3 ⟨rfl, hb3⟩
  have HB3 := Lib.hid hb3
  clear hb3
  dsimp only [cfgA]
  go_wp2_with fail
  obtain ⟨ka, kb, kc, kd⟩ := keep2 (w1 := w3) #[.int .i64 0, .int .i64 0, .int .i64 0, .int .i64 0, .slice none 0 0, .slice none 0 0, .slice none 0 0, .bool false] #[.int .i64 123, .int .i64 1] 25 28
  generalize (w3.alloc (.cells #[.int .i64 0, .int .i64 0, .int .i64 0, .int .i64 0, .slice none 0 0, .slice none 0 0, .slice none 0 0, .bool false] 25)).alloc (.cells #[.int .i64 123, .int .i64 1] 28) = V3 at ka kb kc kd ⊢
  have K3 := Lib.hid (And.intro ka (And.intro kb (And.intro kc kd)))
  clear ka kb kc kd
  refine (parse_err par_h).mono ?_
  rintro e w4 ⟨rfl, hb4⟩
  have HB4 := Lib.hid hb4
  obtain ⟨ka, kb, kc, kd⟩ := keep2 (w1 := w4) #[.int .i64 0, .int .i64 0, .int .i64 0, .int .i64 0, .slice none 0 0, .slice none 0 0, .slice none 0 0, .bool false] #[.int .i64 121, .int .i64 2] 25 28
  have q4 : Below V3.heap.size V3 ((w4.alloc (.cells #[.int .i64 0, .int .i64 0, .int .i64 0, .int .i64 0, .slice none 0 0, .slice none 0 0, .slice none 0 0, .bool false] 25)).alloc (.cells #[.int .i64 121, .int .i64 2] 28)) := HB4.out.trans (kc.mono HB4.out.size)
  have z4 := kb
  dsimp only [cfgA]
  generalize hV4 : (w4.alloc (.cells #[.int .i64 0, .int .i64 0, .int .i64 0, .int .i64 0, .slice none 0 0, .slice none 0 0, .slice none 0 0, .bool false] 25)).alloc (.cells #[.int .i64 121, .int .i64 2] 28) = V4 at q4 z4
  have q3 : Below V2.heap.size V2 V4 := HB3.out.trans ((K3.out.2.2.1.trans (q4.mono K3.out.2.2.1.size)).mono HB3.out.size)
  have q2 : Below V1.heap.size V1 V4 := HB2.out.trans ((K2.out.2.2.1.trans (q3.mono K2.out.2.2.1.size)).mono HB2.out.size)
  have q1 : Below w.heap.size w V4 := HB1.out.trans ((K1.out.2.2.1.trans (q2.mono K1.out.2.2.1.size)).mono HB1.out.size)
  have r1 : Below w1.heap.size w1 V4 := K1.out.2.2.1.trans (q2.mono K1.out.2.2.1.size)
  have r2 : Below w2.heap.size w2 V4 := K2.out.2.2.1.trans (q3.mono K2.out.2.2.1.size)
  have s1 := K1.out.2.2.2
  have s2 := K2.out.2.2.2
  have s3 := K3.out.2.2.2
  have f1 : V4.cell? ⟨w1.heap.size + 1, 0, none⟩ = some (.int .i64 0) := (q2.cell s1).trans (K1.out.2.1 0)
  have f2 : V4.cell? ⟨w1.heap.size, 4, none⟩ = some (.slice (some ⟨g1, o1, none⟩) 1 c1) := (q2.cell (Nat.lt_of_succ_lt s1)).trans (K1.out.1 4)
  have f3 : V4.cell? ⟨g1, o1 + 4, none⟩ = some (.int .i64 5) := (r1.cell X1.out.1).trans X1.out.2
  have f4 : V4.cell? ⟨w1.heap.size, 5, none⟩ = some (.slice (some ⟨h1, p1, none⟩) 1 d1) := (q2.cell (Nat.lt_of_succ_lt s1)).trans (K1.out.1 5)
  have f5 : V4.cell? ⟨h1, p1 + 1, none⟩ = some (.int .u8 3) := (r1.cell Y1.out.1).trans Y1.out.2
  have f6 : V4.cell? ⟨w2.heap.size + 1, 0, none⟩ = some (.int .i64 0) := (q3.cell s2).trans (K2.out.2.1 0)
  have f7 : V4.cell? ⟨w2.heap.size, 7, none⟩ = some (.bool true) := (q3.cell (Nat.lt_of_succ_lt s2)).trans (K2.out.1 7)
  have f8 : V4.cell? ⟨w2.heap.size, 5, none⟩ = some (.slice (some ⟨h2, p2, none⟩) 1 d2) := (q3.cell (Nat.lt_of_succ_lt s2)).trans (K2.out.1 5)
  have f9 : V4.cell? ⟨h2, p2, none⟩ = some (.int .u8 3) := (r2.cell Y2.out.1).trans (Y2.out.2 0 (by omega))
  have fa : V4.cell? ⟨h2, p2 + 12, none⟩ = some (.int .i64 2) := (r2.cell Y2.out.1).trans (Y2.out.2 12 (by omega))
  have fb : V4.cell? ⟨h2, p2 + 10, none⟩ = some (.slice (some ⟨h3, p3, none⟩) 2 d3) := (r2.cell Y2.out.1).trans (Y2.out.2 10 (by omega))
  have fc : V4.cell? ⟨h3, p3 + 1, none⟩ = some (.int .u8 16) := (r2.cell Y3.out.1).trans (Y3.out.2 1 (by omega))
  have fd : V4.cell? ⟨h3, p3 + 2, none⟩ = some (.int .i64 0) := (r2.cell Y3.out.1).trans (Y3.out.2 2 (by omega))
  have fe : V4.cell? ⟨h3, p3 + 3, none⟩ = some (.int .i64 6) := (r2.cell Y3.out.1).trans (Y3.out.2 3 (by omega))
  have ff : V4.cell? ⟨h3, p3 + 4, none⟩ = some (.int .i64 0) := (r2.cell Y3.out.1).trans (Y3.out.2 4 (by omega))
  have fg : V4.cell? ⟨w3.heap.size + 1, 0, none⟩ = some (.int .i64 123) := (q4.cell s3).trans (K3.out.2.1 0)
  have fh : V4.cell? ⟨w3.heap.size + 1, 1, none⟩ = some (.int .i64 1) := (q4.cell s3).trans (K3.out.2.1 1)
  have fi : V4.cell? ⟨w4.heap.size + 1, 0, none⟩ = some (.int .i64 121) := z4 0
  have fj : V4.cell? ⟨w4.heap.size + 1, 1, none⟩ = some (.int .i64 2) := z4 1
  have Q1 := Lib.hid q1
  clear q1 q2 q3 q4 r1 r2 s1 s2 s3 z4 ka kb kc kd hb4 HB1 HB2 HB3 HB4 K1 K2 K3 X1 Y1 Y2 Y3
  subst hV4
  go_wp2_with fail
  go_ret
  exact ⟨rfl, Q1.out⟩
end Go.Proofs.Ytiadfmhodlbkiaa
