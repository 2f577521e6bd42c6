/-
  THE WALKS OF quillpresslaw21's great, said, awake. Conditions: the config reads so.
-/
import Derived.Test.YtiadfmhodlbkiaaChkW
import Derived.Test.YtiadfmhodlbkiaaDeepW
import Derived.Test.YtiadfmhodlbkiaaPriR
import Derived.Test.YtiadfmhodlbkiaaParA
namespace Go.Proofs.Ytiadfmhodlbkiaa
open Go.RowKit
set_option linter.unusedSimpArgs false
set_option linter.unusedVariables false
set_option maxRecDepth 100000
def GrP (c : CfgS) (w : World) (e : Ending) (w' : World) : Prop := ∃ b : Bool, e = .returned (.bool b) ∧ Below w.heap.size w w' ∧ (b = false → c.parts.length ≤ 300 ∧ (dpt 60 c.code = true ∧ c.code.all ≤ 3000) ∧ (dpt 60 c.post = true ∧ c.post.all ≤ 3000))
set_option maxHeartbeats 8000000 in
theorem great_any (c : CfgS) (vp vc vq : Value) (S : Nat → Prop) (w : World) (hl : c.code.len ≤ 1099511627776 ∧ c.post.len ≤ 1099511627776) (hi : c.code.inn ∧ c.post.inn) (hp : PrT w S vp c.parts) (hc : Tr w S vc c.code) (hq : Tr w S vq c.post) :
    Calls Try.prog 15 #[.agg (cfgA c.h c.m c.ph c.pm vp vc vq c.has)] w (GrP c w) := by
  obtain ⟨A1, d1, rfl⟩ := hp.form
  obtain ⟨A3, n3, rfl, -, -⟩ := hc.frm
  obtain ⟨A5, n5, rfl, -, -⟩ := hq.frm
  have H1 := Lib.hid (fun W (hb : Below w.heap.size w W) => deepT_any c.code _ S W hl.1 hi.1 (hc.below hb))
  have H2 := Lib.hid (fun W (hb : Below w.heap.size w W) => deepT_any c.post _ S W hl.2 hi.2 (hq.below hb))
  have hba : Below w.heap.size w (w.alloc (.cells (cfgA c.h c.m c.ph c.pm (.slice A1 c.parts.length d1) (.slice A3 c.code.len n3) (.slice A5 c.post.len n5) c.has) 25)) := (Below.refl _ _).alloc (Nat.le_refl _) _
  have hrow := cfg_row (heap_alloc_new w (.cells (cfgA c.h c.m c.ph c.pm (.slice A1 c.parts.length d1) (.slice A3 c.code.len n3) (.slice A5 c.post.len n5) c.has) 25))
  have HBA := Lib.hid hba
  have HROW := Lib.hid hrow
  clear hba hrow hl hi hp hc hq
  unfold cfgA at *
  by_cases h300 : 300 < c.parts.length
  · have i0 : (300 : Int) < (c.parts.length : Int) := by omega
    clear h300
    go_enter Try.func15, Try.ntmps15
    go_wp2_with fail
    go_ret
    exact ⟨true, rfl, HBA.out, fun h => by cases h⟩
  · have i0 : ¬ (300 : Int) < (c.parts.length : Int) := by omega
    have H300 := Lib.hid (show c.parts.length ≤ 300 by omega)
    clear h300
    go_enter Try.func15, Try.ntmps15
    go_wp2_with fail
    generalize w.alloc (.cells #[.int .i64 c.h, .int .i64 c.m, .int .i64 c.ph, .int .i64 c.pm, .slice A1 c.parts.length d1, .slice A3 c.code.len n3, .slice A5 c.post.len n5, .bool c.has] 25) = W1 at *
    refine (H1.out _ HBA.out).mono ?_
    rintro e w2 ⟨b1, rfl, hb2, himp⟩
    have hr2 := below_row hb2 HROW.out HROW.out.lt
    have c6 : w2.cell? ⟨w.heap.size, 6, none⟩ = some (.slice A5 c.post.len n5) := hr2.cell (by omega)
    have HB2 := Lib.hid (HBA.out.trans (hb2.mono HBA.out.size))
    have HI := Lib.hid himp
    clear hr2 hb2 himp
    cases b1 with
    | true =>
      go_wp2_with fail
      go_ret
      exact ⟨true, rfl, HB2.out, fun h => by cases h⟩
    | false =>
      go_wp2_with fail
      refine (H2.out _ HB2.out).mono ?_
      rintro e w3 ⟨b2, rfl, hb3, himp⟩
      have HB3 := Lib.hid (HB2.out.trans (hb3.mono HB2.out.size))
      have HI2 := Lib.hid himp
      clear hb3 himp
      go_wp2_with fail
      go_ret
      exact ⟨b2, rfl, HB3.out, fun h => ⟨H300.out, HI.out (by first | exact True.intro | rfl), HI2.out h⟩⟩
set_option maxHeartbeats 8000000 in
theorem said_ok {s : ByteArray} {c : CfgS} {w : World} {z : Int} (h : parseT s = .ok c) (hz : checkT c = z) : Calls Try.prog 48 #[.string s] w fun e w' => e = .returned (.int .i64 z) ∧ Below w.heap.size w w' := by
  have hg := parseT_good h
  have HP := Lib.hid (parse_ok (w := w) h)
  have HG := Lib.hid (And.intro hg hz)
  clear h hg hz
  go_enter Try.func48, Try.ntmps48
  go_wp2_with fail
  refine HP.out.mono ?_
  rintro e w1 ⟨vp, vc, vq, rfl, hp1, hc1, hq1, hb1⟩
  obtain ⟨A1, n1, rfl⟩ := hp1.form
  obtain ⟨A3, n3, rfl, -, -⟩ := hc1.frm
  obtain ⟨A5, n5, rfl, -, -⟩ := hq1.frm
  have H1 := Lib.hid (And.intro hp1 (And.intro hc1 hq1))
  have HB1 := Lib.hid hb1
  clear hp1 hc1 hq1 hb1
  dsimp only [cfgA]
  go_upto_region 2 with fail
  obtain ⟨ka, kb, kc, kd⟩ := keep2 (w1 := w1) #[.int .i64 c.h, .int .i64 c.m, .int .i64 c.ph, .int .i64 c.pm, .slice A1 c.parts.length n1, .slice A3 c.code.len n3, .slice A5 c.post.len n5, .bool c.has] #[.int .i64 0, .int .i64 0] 25 28
  generalize (w1.alloc (.cells #[.int .i64 c.h, .int .i64 c.m, .int .i64 c.ph, .int .i64 c.pm, .slice A1 c.parts.length n1, .slice A3 c.code.len n3, .slice A5 c.post.len n5, .bool c.has] 25)).alloc (.cells #[.int .i64 0, .int .i64 0] 28) = V1 at ka kb kc kd ⊢
  have a0 := ka 0
  have a1 := ka 1
  have a2 := ka 2
  have a3 := ka 3
  have a4 := ka 4
  have a5 := ka 5
  have a6 := ka 6
  have a7 := ka 7
  have b0 := kb 0
  simp only [List.getElem?_toArray, List.getElem?_cons_zero, List.getElem?_cons_succ] at a0 a1 a2 a3 a4 a5 a6 a7 b0
  have HBV := Lib.hid (HB1.out.trans (kc.mono HB1.out.size))
  have HCK := Lib.hid (check_any c _ _ _ (fun k => w.heap.size ≤ k) V1 ⟨HG.out.1.1.2.2, HG.out.1.2.2.1.2.2⟩ ⟨by have := HG.out.1.2.1; omega, by have := HG.out.1.2.2.2.1; omega⟩ (H1.out.1.below kc) (H1.out.2.1.below kc) (H1.out.2.2.below kc))
  rw [HG.out.2] at HCK
  unfold cfgA at HCK
  clear ka kb kc kd
  go_wp2_with fail
  refine HCK.out.mono ?_
  rintro e w3 ⟨rfl, hb3⟩
  have HB3 := Lib.hid (HBV.out.trans (hb3.mono HBV.out.size))
  clear hb3
  go_wp2_with fail
  go_ret
  exact ⟨rfl, HB3.out⟩
theorem ck_0 : parseT ⟨#[109, 111, 100, 101, 108, 32, 48, 32, 48, 32, 123, 32, 99, 111, 110, 115, 116, 32, 53, 32, 125, 32, 99, 111, 100, 101, 32, 123, 32, 125]⟩ = .ok ⟨0, 0, 0, 0, [⟨1, 0, 0, 0, 5, 0, 0⟩], .nil, .nil, false⟩ := by kernel_rfl
theorem cv_0 : checkT ⟨0, 0, 0, 0, [⟨1, 0, 0, 0, 5, 0, 0⟩], .nil, .nil, false⟩ = 0 := by kernel_rfl
theorem ck_1 : parseT ⟨#[109, 111, 100, 101, 108, 32, 57, 32, 48, 32, 123, 32, 99, 111, 110, 115, 116, 32, 53, 32, 125, 32, 99, 111, 100, 101, 32, 123, 32, 125]⟩ = .ok ⟨9, 0, 0, 0, [⟨1, 0, 0, 0, 5, 0, 0⟩], .nil, .nil, false⟩ := by kernel_rfl
theorem cv_1 : checkT ⟨9, 0, 0, 0, [⟨1, 0, 0, 0, 5, 0, 0⟩], .nil, .nil, false⟩ = 123 := by kernel_rfl
theorem ck_2 : parseT ⟨#[109, 111, 100, 101, 108, 32, 48, 32, 48, 32, 123, 32, 99, 111, 110, 115, 116, 32, 53, 32, 99, 111, 110, 115, 116, 32, 54, 32, 125, 32, 99, 111, 100, 101, 32, 123, 32, 125]⟩ = .ok ⟨0, 0, 0, 0, [⟨1, 0, 0, 0, 5, 0, 0⟩, ⟨1, 0, 0, 0, 6, 0, 0⟩], .nil, .nil, false⟩ := by kernel_rfl
theorem cv_2 : checkT ⟨0, 0, 0, 0, [⟨1, 0, 0, 0, 5, 0, 0⟩, ⟨1, 0, 0, 0, 6, 0, 0⟩], .nil, .nil, false⟩ = 123 := by kernel_rfl
theorem ck_3 : parseT ⟨#[109, 111, 100, 101, 108, 32, 48, 32, 48, 32, 123, 32, 125, 32, 99, 111, 100, 101, 32, 123, 32, 125]⟩ = .ok ⟨0, 0, 0, 0, [], .nil, .nil, false⟩ := by kernel_rfl
theorem cv_3 : checkT ⟨0, 0, 0, 0, [], .nil, .nil, false⟩ = 100 := by kernel_rfl
theorem ck_4 : parseT ⟨#[109, 111, 100, 101, 108, 32, 48, 32, 48, 32, 123, 32, 99, 111, 110, 115, 116, 32, 53, 32, 125, 32, 99, 111, 100, 101, 32, 123, 32, 111, 117, 116, 32, 125]⟩ = .ok ⟨0, 0, 0, 0, [⟨1, 0, 0, 0, 5, 0, 0⟩], .cons 1 ⟨26, 0, 0, 0⟩ c0 .nil .nil 1 .nil, .nil, false⟩ := by kernel_rfl
theorem cv_4 : checkT ⟨0, 0, 0, 0, [⟨1, 0, 0, 0, 5, 0, 0⟩], .cons 1 ⟨26, 0, 0, 0⟩ c0 .nil .nil 1 .nil, .nil, false⟩ = 124 := by kernel_rfl
set_option maxHeartbeats 4000000 in
theorem chk_awake (w : World) : Calls Try.prog 16 #[] w fun e w' => e = .returned (.bool true) ∧ Below w.heap.size w w' := by
  have HB0 := Lib.hid (Below.refl w.heap.size w)
  go_enter Try.func16, Try.ntmps16
  go_wp2_with fail
  refine (said_ok ck_0 cv_0).mono ?_
  rintro e w1 ⟨rfl, hb⟩
  have HB1 := Lib.hid (HB0.out.trans (hb.mono HB0.out.size))
  clear hb
  go_wp2_with fail
  refine (said_ok ck_1 cv_1).mono ?_
  rintro e w2 ⟨rfl, hb⟩
  have HB2 := Lib.hid (HB1.out.trans (hb.mono HB1.out.size))
  clear hb
  go_wp2_with fail
  refine (said_ok ck_2 cv_2).mono ?_
  rintro e w3 ⟨rfl, hb⟩
  have HB3 := Lib.hid (HB2.out.trans (hb.mono HB2.out.size))
  clear hb
  go_wp2_with fail
  refine (said_ok ck_3 cv_3).mono ?_
  rintro e w4 ⟨rfl, hb⟩
  have HB4 := Lib.hid (HB3.out.trans (hb.mono HB3.out.size))
  clear hb
  go_wp2_with fail
  refine (said_ok ck_4 cv_4).mono ?_
  rintro e w5 ⟨rfl, hb⟩
  have HB5 := Lib.hid (HB4.out.trans (hb.mono HB4.out.size))
  clear hb
  go_wp2_with fail
  go_ret
  exact ⟨rfl, HB5.out⟩
end Go.Proofs.Ytiadfmhodlbkiaa
