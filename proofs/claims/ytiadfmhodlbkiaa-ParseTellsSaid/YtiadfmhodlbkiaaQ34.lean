/-
 THE WALK OF quillpresslaw20.awake: the chapter's examples. Conditions: none.
 THE WALK OF quillpresslaw20.ParseTells. Conditions: none.
 ARGUMENTS OF A ROW, OPENED: a slice of bytes, nil or not. Conditions: none.
-/
import Derived.Test.YtiadfmhodlbkiaaQ20
import Derived.Test.YtiadfmhodlbkiaaQ33
import Derived.Test.YtiadfmhodlbkiaaQ01
import Derived.ProofKit
import Derived.OpenShut
namespace Go.Proofs.Ytiadfmhodlbkiaa
open Go.RowKit
set_option linter.unusedSimpArgs false
set_option linter.unusedVariables false
set_option maxRecDepth 100000
theorem par_a : parseT ⟨#[109, 111, 100, 101, 108, 32, 48, 32, 48, 32, 123, 32, 99, 111, 110, 115, 116, 32, 53, 32, 125, 32, 99, 111, 100, 101, 32, 123, 32, 97, 43, 43, 32, 125]⟩ = .ok ⟨0, 0, 0, 0, [⟨1, 0, 0, 0, 5, 0, 0⟩], .cons 1 ⟨3, 0, 0, 0⟩ c0 .nil .nil 1 .nil, .nil, false⟩ := by kernel_rfl
theorem par_b : parseT ⟨#[109, 111, 100, 101, 108, 32, 49, 32, 50, 32, 123, 32, 99, 109, 32, 56, 32, 50, 53, 53, 32, 125, 32, 99, 111, 100, 101, 32, 123, 10, 100, 111, 32, 123, 32, 97, 32, 94, 61, 32, 42, 100, 32, 97, 45, 45, 32, 125, 32, 119, 104, 105, 108, 101, 32, 97, 32, 62, 32, 48, 32, 125, 32, 112, 111, 115, 116, 32, 48, 32, 48, 32, 123, 32, 111, 117, 116, 32, 125]⟩ = .ok ⟨1, 2, 0, 0, [⟨2, 8, 0, 0, 0, 0, 255⟩], .cons 3 i0 ⟨false, ⟨21, 0, 7, 0⟩⟩ (.cons 1 ⟨16, 0, 6, 0⟩ c0 .nil .nil 2 (.cons 1 ⟨4, 0, 0, 0⟩ c0 .nil .nil 2 .nil)) .nil 2 .nil, .cons 1 ⟨26, 0, 0, 0⟩ c0 .nil .nil 2 .nil, true⟩ := by kernel_rfl
theorem par_g : parseT ⟨#[109, 111, 100, 101, 108, 32, 48, 32, 48, 32, 123, 32, 125, 32, 99, 111, 100, 101, 32, 123, 32, 97, 32, 61, 32, 50, 53, 54, 32, 125]⟩ = .error (123, 1) := by kernel_rfl
theorem par_h : parseT ⟨#[109, 111, 100, 101, 108, 32, 48, 32, 48, 32, 123, 32, 125, 10, 99, 111, 100, 101, 32, 123, 32, 98, 32, 43, 61, 32, 49, 32, 125]⟩ = .error (121, 2) := by kernel_rfl
theorem Tr.first {w : World} {S : Nat → Prop} {v : Value} {k : Nat} {i : InsS} {c : ConS} {b e : Sts} {ln : Int} {r : Sts} (h : Tr w S v (.cons k i c b e ln r)) : ∃ g o cc vb ve, v = .slice (some ⟨g, o, none⟩) (r.len + 1) cc ∧ r.len + 1 ≤ cc ∧ g < w.heap.size ∧ Tr w S vb b ∧ Tr w S ve e ∧ ∀ m, m < 13 → w.cell? ⟨g, o + m, none⟩ = some (smF k i c vb ve ln m) := by
 obtain ⟨A, cc, rfl, hc, hm⟩ := h.frm
 obtain ⟨g, o, vb, ve, rfl, -, hg, hb, he, hcl⟩ := h.nth (j := 0) (Nat.succ_pos _)
 exact ⟨g, o, cc, vb, ve, rfl, hc, hg, hb, he, fun m hm => by have := hcl m hm; rw [Nat.zero_mul, Nat.add_zero] at this; exact this⟩
theorem PrT.first {w : World} {S : Nat → Prop} {v : Value} {x : PartS} {l : List PartS} (h : PrT w S v (x :: l)) : ∃ g o cc, v = .slice (some ⟨g, o, none⟩) (l.length + 1) cc ∧ l.length + 1 ≤ cc ∧ g < w.heap.size ∧ ∀ m, m < 7 → w.cell? ⟨g, o + m, none⟩ = some (ptF x m) := by
 have h' := h
 obtain ⟨A, cc, rfl, hc, hm, -⟩ := h'
 obtain ⟨g, o, rfl, hg, hcl⟩ := h.nth (j := 0) (Nat.succ_pos _)
 exact ⟨g, o, cc, rfl, hc, hg, fun m hm => by have := hcl m hm; rw [Nat.zero_mul, Nat.add_zero] at this; exact this⟩
theorem keep2 {w1 : World} (a b : Array Value) (t u : TypeId) : (∀ j, ((w1.alloc (.cells a t)).alloc (.cells b u)).cell? ⟨w1.heap.size, j, none⟩ = a[j]?) ∧ (∀ j, ((w1.alloc (.cells a t)).alloc (.cells b u)).cell? ⟨w1.heap.size + 1, j, none⟩ = b[j]?) ∧ Below w1.heap.size w1 ((w1.alloc (.cells a t)).alloc (.cells b u)) ∧ w1.heap.size + 1 < ((w1.alloc (.cells a t)).alloc (.cells b u)).heap.size := by
 have e := World.size_alloc w1 (.cells a t)
 have e2 := World.size_alloc (w1.alloc (.cells a t)) (.cells b u)
 have h1 := heap_alloc_new w1 (.cells a t)
 have h2 := heap_alloc_new (w1.alloc (.cells a t)) (.cells b u)
 have hb : Below w1.heap.size w1 (w1.alloc (.cells a t)) := (Below.refl _ _).alloc (Nat.le_refl _) _
 have hb2 : Below (w1.alloc (.cells a t)).heap.size (w1.alloc (.cells a t)) ((w1.alloc (.cells a t)).alloc (.cells b u)) := (Below.refl _ _).alloc (Nat.le_refl _) _
 rw [e] at h2
 exact ⟨fun j => cell_of_row _ _ _ _ _ _ ((hb2.block _ (by omega)).trans h1), fun j => cell_of_row _ _ _ _ _ _ h2, hb.trans (hb2.mono (by omega)), by omega⟩
set_option maxHeartbeats 4000000 in
theorem par_awake (w : World) : Calls Try.prog 10 #[] w fun e w' => e = .returned (.bool true) ∧ Below w.heap.size w w' := by
 go_enter Try.func10, Try.ntmps10
 go_wp2_with fail
 refine (parse_ok par_a).mono ?_
 rintro e w1 ⟨vp, vc, vq, rfl, hp, hc, hq, hb1⟩
 obtain ⟨g1, o1, c1, rfl, hc1, hg1, x1⟩ := hp.first
 obtain ⟨h1, p1, d1, ub, ue, rfl, hd1, hh1, -, -, y1⟩ := hc.first
 obtain ⟨A, n, rfl, -, -⟩ := hq.frm
 have X1 := Lib.hid (And.intro hg1 (x1 4 (by omega)))
 have Y1 := Lib.hid (And.intro hh1 (y1 1 (by omega)))
 have HB1 := Lib.hid hb1
 clear hp hc hq x1 y1 hb1 hg1 hh1
 dsimp only [List.length_nil, Sts.len, cfgA]
 go_wp2_with fail
 obtain ⟨ka, kb, kc, kd⟩ := keep2 (w1 := w1) #[.int .i64 0, .int .i64 0, .int .i64 0, .int .i64 0, .slice (some ⟨g1, o1, none⟩) 1 c1, .slice (some ⟨h1, p1, none⟩) 1 d1, .slice A 0 n, .bool false] #[.int .i64 0, .int .i64 0] 25 28
 generalize (w1.alloc (.cells #[.int .i64 0, .int .i64 0, .int .i64 0, .int .i64 0, .slice (some ⟨g1, o1, none⟩) 1 c1, .slice (some ⟨h1, p1, none⟩) 1 d1, .slice A 0 n, .bool false] 25)).alloc (.cells #[.int .i64 0, .int .i64 0] 28) = V1 at ka kb kc kd ⊢
 have K1 := Lib.hid (And.intro ka (And.intro kb (And.intro kc kd)))
 clear ka kb kc kd
 refine (parse_ok par_b).mono ?_
 rintro e w2 ⟨vp, vc, vq, rfl, hp, hc, hq, hb2⟩
 obtain ⟨B2, n2, rfl, -⟩ := hp
 obtain ⟨h2, p2, d2, ub2, ue2, rfl, hd2, hh2, hbd, -, y2⟩ := hc.first
 obtain ⟨h3, p3, d3, ub3, ue3, rfl, hd3, hh3, -, -, y3⟩ := hbd.first
 obtain ⟨A2, m2, rfl, -, -⟩ := hq.frm
 have Y2 := Lib.hid (And.intro hh2 y2)
 have Y3 := Lib.hid (And.intro hh3 y3)
 have HB2 := Lib.hid hb2
 clear hc hq hbd y2 y3 hb2 hh2 hh3
 dsimp only [List.length_nil, List.length_cons, Sts.len, cfgA]
 go_wp2_with fail
 obtain ⟨ka, kb, kc, kd⟩ := keep2 (w1 := w2) #[.int .i64 1, .int .i64 2, .int .i64 0, .int .i64 0, .slice B2 1 n2, .slice (some ⟨h2, p2, none⟩) 1 d2, .slice A2 1 m2, .bool true] #[.int .i64 0, .int .i64 0] 25 28
 generalize (w2.alloc (.cells #[.int .i64 1, .int .i64 2, .int .i64 0, .int .i64 0, .slice B2 1 n2, .slice (some ⟨h2, p2, none⟩) 1 d2, .slice A2 1 m2, .bool true] 25)).alloc (.cells #[.int .i64 0, .int .i64 0] 28) = V2 at ka kb kc kd ⊢
 have K2 := Lib.hid (And.intro ka (And.intro kb (And.intro kc kd)))
 clear ka kb kc kd
 refine (parse_err par_g).mono ?_
 rintro e w3 ⟨rfl, hb3⟩
 have HB3 := Lib.hid hb3
 clear hb3
 dsimp only [cfgA]
 go_wp2_with fail
 obtain ⟨ka, kb, kc, kd⟩ := keep2 (w1 := w3) #[.int .i64 0, .int .i64 0, .int .i64 0, .int .i64 0, .slice none 0 0, .slice none 0 0, .slice none 0 0, .bool false] #[.int .i64 123, .int .i64 1] 25 28
 generalize (w3.alloc zZ7).alloc (.cells #[.int .i64 123, .int .i64 1] 28) = V3 at ka kb kc kd ⊢
 have K3 := Lib.hid (And.intro ka (And.intro kb (And.intro kc kd)))
 clear ka kb kc kd
 refine (parse_err par_h).mono ?_
 rintro e w4 ⟨rfl, hb4⟩
 have HB4 := Lib.hid hb4
 obtain ⟨ka, kb, kc, kd⟩ := keep2 (w1 := w4) #[.int .i64 0, .int .i64 0, .int .i64 0, .int .i64 0, .slice none 0 0, .slice none 0 0, .slice none 0 0, .bool false] #[.int .i64 121, .int .i64 2] 25 28
 have q4 : Below V3.heap.size V3 ((w4.alloc zZ7).alloc (.cells #[.int .i64 121, .int .i64 2] 28)) := HB4.out.trans (kc.mono HB4.out.size)
 have z4 := kb
 dsimp only [cfgA]
 generalize hV4 : (w4.alloc zZ7).alloc (.cells #[.int .i64 121, .int .i64 2] 28) = V4 at q4 z4
 have q3 : Below V2.heap.size V2 V4 := HB3.out.trans ((K3.out.2.2.1.trans (q4.mono K3.out.2.2.1.size)).mono HB3.out.size)
 have q2 : Below V1.heap.size V1 V4 := HB2.out.trans ((K2.out.2.2.1.trans (q3.mono K2.out.2.2.1.size)).mono HB2.out.size)
 have q1 : Below w.heap.size w V4 := HB1.out.trans ((K1.out.2.2.1.trans (q2.mono K1.out.2.2.1.size)).mono HB1.out.size)
 have r1 : Below w1.heap.size w1 V4 := K1.out.2.2.1.trans (q2.mono K1.out.2.2.1.size)
 have r2 : Below w2.heap.size w2 V4 := K2.out.2.2.1.trans (q3.mono K2.out.2.2.1.size)
 have s1 := K1.out.2.2.2
 have s2 := K2.out.2.2.2
 have s3 := K3.out.2.2.2
 have f1 : V4.cell? ⟨w1.heap.size + 1, 0, none⟩ = some (.int .i64 0) := (q2.cell s1).trans (K1.out.2.1 0)
 have f2 : V4.cell? ⟨w1.heap.size, 4, none⟩ = some (.slice (some ⟨g1, o1, none⟩) 1 c1) := (q2.cell (Nat.lt_of_succ_lt s1)).trans (K1.out.1 4)
 have f3 : V4.cell? ⟨g1, o1 + 4, none⟩ = some (.int .i64 5) := (r1.cell X1.out.1).trans X1.out.2
 have f4 : V4.cell? ⟨w1.heap.size, 5, none⟩ = some (.slice (some ⟨h1, p1, none⟩) 1 d1) := (q2.cell (Nat.lt_of_succ_lt s1)).trans (K1.out.1 5)
 have f5 : V4.cell? ⟨h1, p1 + 1, none⟩ = some (.int .u8 3) := (r1.cell Y1.out.1).trans Y1.out.2
 have f6 : V4.cell? ⟨w2.heap.size + 1, 0, none⟩ = some (.int .i64 0) := (q3.cell s2).trans (K2.out.2.1 0)
 have f7 : V4.cell? ⟨w2.heap.size, 7, none⟩ = some (.bool true) := (q3.cell (Nat.lt_of_succ_lt s2)).trans (K2.out.1 7)
 have f8 : V4.cell? ⟨w2.heap.size, 5, none⟩ = some (.slice (some ⟨h2, p2, none⟩) 1 d2) := (q3.cell (Nat.lt_of_succ_lt s2)).trans (K2.out.1 5)
 have f9 : V4.cell? ⟨h2, p2, none⟩ = some (.int .u8 3) := (r2.cell Y2.out.1).trans (Y2.out.2 0 (by omega))
 have fa : V4.cell? ⟨h2, p2 + 12, none⟩ = some (.int .i64 2) := (r2.cell Y2.out.1).trans (Y2.out.2 12 (by omega))
 have fb : V4.cell? ⟨h2, p2 + 10, none⟩ = some (.slice (some ⟨h3, p3, none⟩) 2 d3) := (r2.cell Y2.out.1).trans (Y2.out.2 10 (by omega))
 have fc : V4.cell? ⟨h3, p3 + 1, none⟩ = some (.int .u8 16) := (r2.cell Y3.out.1).trans (Y3.out.2 1 (by omega))
 have fd : V4.cell? ⟨h3, p3 + 2, none⟩ = some (.int .i64 0) := (r2.cell Y3.out.1).trans (Y3.out.2 2 (by omega))
 have fe : V4.cell? ⟨h3, p3 + 3, none⟩ = some (.int .i64 6) := (r2.cell Y3.out.1).trans (Y3.out.2 3 (by omega))
 have ff : V4.cell? ⟨h3, p3 + 4, none⟩ = some (.int .i64 0) := (r2.cell Y3.out.1).trans (Y3.out.2 4 (by omega))
 have fg : V4.cell? ⟨w3.heap.size + 1, 0, none⟩ = some (.int .i64 123) := (q4.cell s3).trans (K3.out.2.1 0)
 have fh : V4.cell? ⟨w3.heap.size + 1, 1, none⟩ = some (.int .i64 1) := (q4.cell s3).trans (K3.out.2.1 1)
 have fi : V4.cell? ⟨w4.heap.size + 1, 0, none⟩ = some (.int .i64 121) := z4 0
 have fj : V4.cell? ⟨w4.heap.size + 1, 1, none⟩ = some (.int .i64 2) := z4 1
 have Q1 := Lib.hid q1
 clear q1 q2 q3 q4 r1 r2 s1 s2 s3 z4 ka kb kc kd hb4 HB1 HB2 HB3 HB4 K1 K2 K3 X1 Y1 Y2 Y3
 subst hV4
 go_wp2_with fail
 go_ret
 exact ⟨rfl, Q1.out⟩
end Go.Proofs.Ytiadfmhodlbkiaa
namespace Go.Proofs.Ytiadfmhodlbkiaa
open Go.RowKit
set_option linter.unusedSimpArgs false
set_option linter.unusedVariables false
def cfgOf : Res CfgS → CfgS
 | .error _ => ⟨0, 0, 0, 0, [], .nil, .nil, false⟩
 | .ok c => c
def fltOf : Res CfgS → Flt
 | .error x => x
 | .ok _ => (0, 0)
/-- What parsing comes to, in one form. -/
theorem ParPost.form {r : Res CfgS} {w w' : World} {e : Ending} (h : ParPost r w e w') : ∃ (c : CfgS) (vp vc vq : Value) (x y : Nat), e = .returned (.tuple #[.agg (cfgA c.h c.m c.ph c.pm vp vc vq c.has), .agg #[.int .i64 x, .int .i64 y]]) ∧ PrT w' (fun k => w.heap.size ≤ k) vp c.parts ∧ Tr w' (fun k => w.heap.size ≤ k) vc c.code ∧ Tr w' (fun k => w.heap.size ≤ k) vq c.post ∧ Below w.heap.size w w' ∧ c = cfgOf r ∧ (x, y) = fltOf r := by
 unfold ParPost at h
 cases r with
 | error x =>
   obtain ⟨rfl, hb⟩ := h
   exact ⟨⟨0, 0, 0, 0, [], .nil, .nil, false⟩, .slice none 0 0, .slice none 0 0, .slice none 0 0, x.1, x.2, rfl, PrT.nil _ _, Tr.nil _ _, Tr.nil _ _, hb, rfl, rfl⟩
 | ok c =>
   obtain ⟨⟨vp, vc, vq, rfl, h1, h2, h3⟩, hb⟩ := h
   exact ⟨c, vp, vc, vq, 0, 0, rfl, h1, h2, h3, hb, rfl, rfl⟩
theorem same_of {r : Res CfgS} {c d : CfgS} {x y x' y' : Nat} (h1 : c = cfgOf r) (h2 : d = cfgOf r) (h3 : (x, y) = fltOf r) (h4 : (x', y') = fltOf r) : d = c ∧ x' = x ∧ y' = y := by
 rw [← h3] at h4
 injection h4 with a b
 exact ⟨h2.trans h1.symm, a, b⟩
set_option maxRecDepth 100000 in
set_option maxHeartbeats 4000000 in
theorem parseTells_walk (s : ByteArray) (w : World) (z : s.size ≤ maxLen) : Calls Try.prog 3 #[.string s] w fun e w' => e = .returned (.bool true) ∧ Below w.heap.size w w' := by
 by_cases h1 : 17000 < s.size
 · have k1 : (17000 : Int) < s.size := by omega
   have k2 : (17000 : Int) ≤ s.size := by omega
   clear h1
   go_enter Try.func3, Try.ntmps3
   go_wp2_with fail
   refine (parse_any (s.extract 0 17000) _).mono ?_
   rintro e w1 hp
   obtain ⟨c, vp, vc, vq, x, y, rfl, hp1, hc1, hq1, hb1, hc, hx⟩ := hp.form
   clear hp
   obtain ⟨A1, n1, rfl⟩ := hp1.form
   obtain ⟨A3, n3, rfl, -, -⟩ := hc1.frm
   obtain ⟨A5, n5, rfl, -, -⟩ := hq1.frm
   have HC := Lib.hid (And.intro hc hx)
   have H1 := Lib.hid (And.intro hp1 (And.intro hc1 hq1))
   have HB1 := Lib.hid hb1
   clear hc hx hp1 hc1 hq1 hb1
   dsimp only [cfgA]
   go_wp2_with fail
   obtain ⟨ka, kb, kc, kd⟩ := keep2 (w1 := w1) #[.int .i64 c.h, .int .i64 c.m, .int .i64 c.ph, .int .i64 c.pm, .slice A1 c.parts.length n1, .slice A3 c.code.len n3, .slice A5 c.post.len n5, .bool c.has] #[.int .i64 x, .int .i64 y] 25 28
   generalize (w1.alloc (.cells #[.int .i64 c.h, .int .i64 c.m, .int .i64 c.ph, .int .i64 c.pm, .slice A1 c.parts.length n1, .slice A3 c.code.len n3, .slice A5 c.post.len n5, .bool c.has] 25)).alloc (.cells #[.int .i64 x, .int .i64 y] 28) = V1 at ka kb kc kd ⊢
   have K1 := Lib.hid (And.intro ka (And.intro kb (And.intro kc kd)))
   clear ka kb kc kd
   refine (rparse_any (s.extract 0 17000) _).mono ?_
   rintro e w2 hp
   obtain ⟨d, up, uc, uq, x', y', rfl, hp2, hc2, hq2, hb2, hd, hx'⟩ := hp.form
   obtain ⟨hdc, rfl, rfl⟩ := same_of HC.out.1 hd HC.out.2 hx'
   clear hd
   subst hdc
   clear hp hx'
   obtain ⟨A2, n2, rfl⟩ := hp2.form
   obtain ⟨A4, n4, rfl, -, -⟩ := hc2.frm
   obtain ⟨A6, n6, rfl, -, -⟩ := hq2.frm
   have H2 := Lib.hid (And.intro hp2 (And.intro hc2 hq2))
   have HB2 := Lib.hid hb2
   clear hp2 hc2 hq2 hb2
   dsimp only [cfgA]
   go_upto_region 5 with fail
   obtain ⟨ka, kb, kc, kd⟩ := keep2 (w1 := w2) #[.int .i64 d.h, .int .i64 d.m, .int .i64 d.ph, .int .i64 d.pm, .slice A2 d.parts.length n2, .slice A4 d.code.len n4, .slice A6 d.post.len n6, .bool d.has] #[.int .i64 x', .int .i64 y'] 25 28
   generalize (w2.alloc (.cells #[.int .i64 d.h, .int .i64 d.m, .int .i64 d.ph, .int .i64 d.pm, .slice A2 d.parts.length n2, .slice A4 d.code.len n4, .slice A6 d.post.len n6, .bool d.has] 25)).alloc (.cells #[.int .i64 x', .int .i64 y'] 28) = V2 at ka kb kc kd ⊢
   have q : Below V1.heap.size V1 V2 := HB2.out.trans (kc.mono HB2.out.size)
   have s1 := K1.out.2.2.2
   have a0 := (q.cell (p := ⟨w1.heap.size, 0, none⟩) (Nat.lt_of_succ_lt s1)).trans (K1.out.1 0)
   have a1 := (q.cell (p := ⟨w1.heap.size, 1, none⟩) (Nat.lt_of_succ_lt s1)).trans (K1.out.1 1)
   have a2 := (q.cell (p := ⟨w1.heap.size, 2, none⟩) (Nat.lt_of_succ_lt s1)).trans (K1.out.1 2)
   have a3 := (q.cell (p := ⟨w1.heap.size, 3, none⟩) (Nat.lt_of_succ_lt s1)).trans (K1.out.1 3)
   have a4 := (q.cell (p := ⟨w1.heap.size, 4, none⟩) (Nat.lt_of_succ_lt s1)).trans (K1.out.1 4)
   have a5 := (q.cell (p := ⟨w1.heap.size, 5, none⟩) (Nat.lt_of_succ_lt s1)).trans (K1.out.1 5)
   have a6 := (q.cell (p := ⟨w1.heap.size, 6, none⟩) (Nat.lt_of_succ_lt s1)).trans (K1.out.1 6)
   have a7 := (q.cell (p := ⟨w1.heap.size, 7, none⟩) (Nat.lt_of_succ_lt s1)).trans (K1.out.1 7)
   have b0 := (q.cell (p := ⟨w1.heap.size + 1, 0, none⟩) s1).trans (K1.out.2.1 0)
   have b1 := (q.cell (p := ⟨w1.heap.size + 1, 1, none⟩) s1).trans (K1.out.2.1 1)
   have c0 := ka 0
   have c1 := ka 1
   have c2 := ka 2
   have c3 := ka 3
   have c4 := ka 4
   have c5 := ka 5
   have c6 := ka 6
   have c7 := ka 7
   have d0 := kb 0
   have d1 := kb 1
   simp only [List.getElem?_toArray, List.getElem?_cons_zero, List.getElem?_cons_succ] at a0 a1 a2 a3 a4 a5 a6 a7 b0 b1 c0 c1 c2 c3 c4 c5 c6 c7 d0 d1
   have U1 : Below w1.heap.size w1 V2 := K1.out.2.2.1.trans (q.mono K1.out.2.2.1.size)
   have U2 : Below w2.heap.size w2 V2 := kc
   have U0 : Below w.heap.size w V2 := HB1.out.trans (U1.mono HB1.out.size)
   have P := Lib.hid (And.intro U0 (And.intro U1 U2))
   have HZ := Lib.hid (show w.heap.size ≤ V1.heap.size from (HB1.out.trans (K1.out.2.2.1.mono HB1.out.size)).size)
   clear q s1 ka kb kc kd U1 U2 U0
   go_wp2_with fail
   refine (samC_any true d d _ _ _ _ _ _ (fun _ => True) V2 ((H1.out.1.below P.out.2.1).mono (fun _ _ _ => trivial)) ((H2.out.1.below P.out.2.2).mono (fun _ _ _ => trivial)) ((H1.out.2.1.below P.out.2.1).mono (fun _ _ _ => trivial)) ((H2.out.2.1.below P.out.2.2).mono (fun _ _ _ => trivial)) ((H1.out.2.2.below P.out.2.1).mono (fun _ _ _ => trivial)) ((H2.out.2.2.below P.out.2.2).mono (fun _ _ _ => trivial)) rfl ⟨rfl, rfl, rfl, rfl, rfl⟩ (SamT.refl _ _) (SamT.refl _ _)).mono ?_
   rintro e w3 ⟨rfl, hb3⟩
   have P3 := Lib.hid (P.out.1.trans (hb3.mono P.out.1.size))
   clear hb3
   go_wp2_with fail
   refine (par_awake _).mono ?_
   rintro e w4 ⟨rfl, hb4⟩
   have P4 := Lib.hid (P3.out.trans (hb4.mono P3.out.size))
   clear hb4
   go_wp2_with fail
   go_ret
   exact ⟨rfl, P4.out⟩
 · have k1 : ¬ (17000 : Int) < s.size := by omega
   clear h1
   go_enter Try.func3, Try.ntmps3
   go_wp2_with fail
   refine (parse_any (s) _).mono ?_
   rintro e w1 hp
   obtain ⟨c, vp, vc, vq, x, y, rfl, hp1, hc1, hq1, hb1, hc, hx⟩ := hp.form
   clear hp
   obtain ⟨A1, n1, rfl⟩ := hp1.form
   obtain ⟨A3, n3, rfl, -, -⟩ := hc1.frm
   obtain ⟨A5, n5, rfl, -, -⟩ := hq1.frm
   have HC := Lib.hid (And.intro hc hx)
   have H1 := Lib.hid (And.intro hp1 (And.intro hc1 hq1))
   have HB1 := Lib.hid hb1
   clear hc hx hp1 hc1 hq1 hb1
   dsimp only [cfgA]
   go_wp2_with fail
   obtain ⟨ka, kb, kc, kd⟩ := keep2 (w1 := w1) #[.int .i64 c.h, .int .i64 c.m, .int .i64 c.ph, .int .i64 c.pm, .slice A1 c.parts.length n1, .slice A3 c.code.len n3, .slice A5 c.post.len n5, .bool c.has] #[.int .i64 x, .int .i64 y] 25 28
   generalize (w1.alloc (.cells #[.int .i64 c.h, .int .i64 c.m, .int .i64 c.ph, .int .i64 c.pm, .slice A1 c.parts.length n1, .slice A3 c.code.len n3, .slice A5 c.post.len n5, .bool c.has] 25)).alloc (.cells #[.int .i64 x, .int .i64 y] 28) = V1 at ka kb kc kd ⊢
   have K1 := Lib.hid (And.intro ka (And.intro kb (And.intro kc kd)))
   clear ka kb kc kd
   refine (rparse_any (s) _).mono ?_
   rintro e w2 hp
   obtain ⟨d, up, uc, uq, x', y', rfl, hp2, hc2, hq2, hb2, hd, hx'⟩ := hp.form
   obtain ⟨hdc, rfl, rfl⟩ := same_of HC.out.1 hd HC.out.2 hx'
   clear hd
   subst hdc
   clear hp hx'
   obtain ⟨A2, n2, rfl⟩ := hp2.form
   obtain ⟨A4, n4, rfl, -, -⟩ := hc2.frm
   obtain ⟨A6, n6, rfl, -, -⟩ := hq2.frm
   have H2 := Lib.hid (And.intro hp2 (And.intro hc2 hq2))
   have HB2 := Lib.hid hb2
   clear hp2 hc2 hq2 hb2
   dsimp only [cfgA]
   go_upto_region 5 with fail
   obtain ⟨ka, kb, kc, kd⟩ := keep2 (w1 := w2) #[.int .i64 d.h, .int .i64 d.m, .int .i64 d.ph, .int .i64 d.pm, .slice A2 d.parts.length n2, .slice A4 d.code.len n4, .slice A6 d.post.len n6, .bool d.has] #[.int .i64 x', .int .i64 y'] 25 28
   generalize (w2.alloc (.cells #[.int .i64 d.h, .int .i64 d.m, .int .i64 d.ph, .int .i64 d.pm, .slice A2 d.parts.length n2, .slice A4 d.code.len n4, .slice A6 d.post.len n6, .bool d.has] 25)).alloc (.cells #[.int .i64 x', .int .i64 y'] 28) = V2 at ka kb kc kd ⊢
   have q : Below V1.heap.size V1 V2 := HB2.out.trans (kc.mono HB2.out.size)
   have s1 := K1.out.2.2.2
   have a0 := (q.cell (p := ⟨w1.heap.size, 0, none⟩) (Nat.lt_of_succ_lt s1)).trans (K1.out.1 0)
   have a1 := (q.cell (p := ⟨w1.heap.size, 1, none⟩) (Nat.lt_of_succ_lt s1)).trans (K1.out.1 1)
   have a2 := (q.cell (p := ⟨w1.heap.size, 2, none⟩) (Nat.lt_of_succ_lt s1)).trans (K1.out.1 2)
   have a3 := (q.cell (p := ⟨w1.heap.size, 3, none⟩) (Nat.lt_of_succ_lt s1)).trans (K1.out.1 3)
   have a4 := (q.cell (p := ⟨w1.heap.size, 4, none⟩) (Nat.lt_of_succ_lt s1)).trans (K1.out.1 4)
   have a5 := (q.cell (p := ⟨w1.heap.size, 5, none⟩) (Nat.lt_of_succ_lt s1)).trans (K1.out.1 5)
   have a6 := (q.cell (p := ⟨w1.heap.size, 6, none⟩) (Nat.lt_of_succ_lt s1)).trans (K1.out.1 6)
   have a7 := (q.cell (p := ⟨w1.heap.size, 7, none⟩) (Nat.lt_of_succ_lt s1)).trans (K1.out.1 7)
   have b0 := (q.cell (p := ⟨w1.heap.size + 1, 0, none⟩) s1).trans (K1.out.2.1 0)
   have b1 := (q.cell (p := ⟨w1.heap.size + 1, 1, none⟩) s1).trans (K1.out.2.1 1)
   have c0 := ka 0
   have c1 := ka 1
   have c2 := ka 2
   have c3 := ka 3
   have c4 := ka 4
   have c5 := ka 5
   have c6 := ka 6
   have c7 := ka 7
   have d0 := kb 0
   have d1 := kb 1
   simp only [List.getElem?_toArray, List.getElem?_cons_zero, List.getElem?_cons_succ] at a0 a1 a2 a3 a4 a5 a6 a7 b0 b1 c0 c1 c2 c3 c4 c5 c6 c7 d0 d1
   have U1 : Below w1.heap.size w1 V2 := K1.out.2.2.1.trans (q.mono K1.out.2.2.1.size)
   have U2 : Below w2.heap.size w2 V2 := kc
   have U0 : Below w.heap.size w V2 := HB1.out.trans (U1.mono HB1.out.size)
   have P := Lib.hid (And.intro U0 (And.intro U1 U2))
   have HZ := Lib.hid (show w.heap.size ≤ V1.heap.size from (HB1.out.trans (K1.out.2.2.1.mono HB1.out.size)).size)
   clear q s1 ka kb kc kd U1 U2 U0
   go_wp2_with fail
   refine (samC_any true d d _ _ _ _ _ _ (fun _ => True) V2 ((H1.out.1.below P.out.2.1).mono (fun _ _ _ => trivial)) ((H2.out.1.below P.out.2.2).mono (fun _ _ _ => trivial)) ((H1.out.2.1.below P.out.2.1).mono (fun _ _ _ => trivial)) ((H2.out.2.1.below P.out.2.2).mono (fun _ _ _ => trivial)) ((H1.out.2.2.below P.out.2.1).mono (fun _ _ _ => trivial)) ((H2.out.2.2.below P.out.2.2).mono (fun _ _ _ => trivial)) rfl ⟨rfl, rfl, rfl, rfl, rfl⟩ (SamT.refl _ _) (SamT.refl _ _)).mono ?_
   rintro e w3 ⟨rfl, hb3⟩
   have P3 := Lib.hid (P.out.1.trans (hb3.mono P.out.1.size))
   clear hb3
   go_wp2_with fail
   refine (par_awake _).mono ?_
   rintro e w4 ⟨rfl, hb4⟩
   have P4 := Lib.hid (P3.out.trans (hb4.mono P3.out.size))
   clear hb4
   go_wp2_with fail
   go_ret
   exact ⟨rfl, P4.out⟩
end Go.Proofs.Ytiadfmhodlbkiaa
namespace Go.Proofs.Ytiadfmhodlbkiaa
open Go.RowKit Go.ChangeShapes Go.WideShapes Go.ChangeAt
set_option linter.unusedSimpArgs false
set_option linter.unusedVariables false
theorem laidOut : laidOutB Try.prog = true := by kernel_rfl
theorem nat_of_u8 {x : Int} (h : (Lit.int .u8 x).wf = true) : ∃ n : Nat, n < 256 ∧ x = n := by
 simp [Lit.wf, IntKind.min, IntKind.max, IntKind.signed, IntKind.bits] at h
 exact ⟨x.toNat, by omega, by omega⟩
theorem i64_of_wf {x : Int} (h : (Lit.int .i64 x).wf = true) : -9223372036854775808 ≤ x ∧ x ≤ 9223372036854775807 := by
 simp [Lit.wf, IntKind.min, IntKind.max, IntKind.signed, IntKind.bits] at h
 omega
/-- An argument of type []byte. -/
theorem open_sl {H : Type} {enc : TypeId × Value → H} {P : Program} {t e : TypeId} {W : World} {r : Reach} {b0 : Nat} {v : Value} {d : DataW H} {p : List MemPlace} (ht : P.underlying t = some (.slice e)) (he : P.underlying e = some (.int .u8)) (hc : P.cellsOf e = 1)
  (hval : Value.okWide P W r b0 t v) (h0 : DataW.Trod enc P W 0 (fun _ => true) true t v d p) :
  ∃ (A : Option Addr) (c : Nat) (l : List Nat), v = .slice A l.length c ∧ l.length ≤ c ∧ c ≤ maxLen ∧ Rd W A l := by
 obtain ⟨a0, len, cap, rfl⟩ := okWide_slice ht hval
 obtain ⟨fuel, hf⟩ := h0
 rcases open_ints ht he hc hf with ⟨hcs, hx⟩ | ⟨a, len', cap', zs, hcs, _, hl, hm, hz, hx, hcell, hwz⟩
 · simp [Value.cells] at hcs
   obtain ⟨rfl, rfl, rfl⟩ := hcs
   exact ⟨none, 0, [], rfl, Nat.le_refl _, by simp, Rd.nil⟩
 · simp [Value.cells] at hcs
   obtain ⟨rfl, rfl, rfl⟩ := hcs
   simp only [if_true] at hz
   have hln : ((zs.take len).map Int.toNat).length = len := by simp; omega
   refine ⟨some a, cap, (zs.take len).map Int.toNat, by rw [hln], by omega, hm, ?_, fun hn => ?_⟩
   · intro x hx
     simp only [List.mem_map] at hx
     obtain ⟨z, hz', rfl⟩ := hx
     obtain ⟨k, hk, rfl⟩ := nat_of_u8 (hwz z (List.mem_of_mem_take hz'))
     simpa using hk
   · have h0 : 0 < len := by
      rw [← hln]
      exact List.length_pos_iff.2 hn
     obtain ⟨b, off, s⟩ := a
     have hs0 := hcell 0 (by omega)
     obtain rfl : s = none := by simpa [Addr.add] using World.cell?_spot hs0
     refine ⟨b, off, rfl, ?_, fun i hi => ?_⟩
     · have := World.block_lt_of_cell? _ _ hs0
       simpa [add_none] using this
     · rw [hln] at hi
       have h1 := hcell i (by omega)
       rw [add_none] at h1
       rw [h1]
       obtain ⟨k, hk, e1⟩ := nat_of_u8 (hwz (zs.getD i 0) (by rw [List.getD_eq_getElem?_getD, List.getElem?_eq_getElem (by omega)]; exact List.getElem_mem _))
       rw [e1]
       have e2 : nth ((zs.take len).map Int.toNat) i = k := by
        have : i < zs.length := by omega
        simp [nth, List.getElem?_take, hi]
        rw [List.getD_eq_getElem?_getD, List.getElem?_eq_getElem this] at e1
        have e1 : zs[i] = (k : Int) := e1
        rw [List.getElem?_eq_getElem this, e1]
        simp
       rw [e2]
end Go.Proofs.Ytiadfmhodlbkiaa
