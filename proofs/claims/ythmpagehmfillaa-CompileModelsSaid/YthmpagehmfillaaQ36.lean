/-
  THE WALKS OF package compile: one: how long statements' code is. Conditions: an Op is a byte; at most 2^40 statements.
  THE WALKS OF package compile: length: how long statements' code is. Conditions: an Op is a byte; at most 2^40 statements.
-/
import Derived.Test.YthmpagehmfillaaQ35
import Derived.Test.YthmpagehmfillaaQ23
import Derived.Test.YthmpagehmfillaaQ25
import Derived.StillTailTactics
import Derived.Deep.QuietTactic
import Derived.BigQuiet
import Derived.Deep.RegionHeld3
import Derived.Test.YthmpagehmfillaaQ29
namespace Go.Proofs.Ythmpagehmfillaa
open Go.RowKit
set_option linter.unusedSimpArgs false
set_option linter.unusedVariables false
set_option maxRecDepth 100000
set_option maxHeartbeats 8000000 in
theorem one_of {g o : Nat} {x : StS} {vb ve : Value} {w : World} (hx : StAt w g o x vb ve) (hb : UB vb x.b.len) (he : UB ve x.e.len) (h1 : LenC w vb x.b) (h2 : LenC w ve x.e) (h8 : x.i.o < 256 ∧ x.c.i.o < 256) :
    Calls Try.prog 52 #[.pointer (some ⟨g, o, none⟩)] w fun e w' => e = .returned (.int .i64 (oneS x)) ∧ Below w.heap.size w w' := by
  have HBR := Lib.hid (branch_of hx hb he h1 h2)
  obtain ⟨Ab, cb, rfl⟩ := hb
  have f0 := hx.2 0 (by omega)
  simp only [smF] at f0
  rw [Nat.add_zero] at f0
  have HX := Lib.hid hx
  have H1 := Lib.hid h1
  have hb1 := sizeT_le x.b
  have he1 := sizeT_le x.e
  have hen := endK_le (sizeT x.e) x.e.len
  have hov : overK (sizeT x.b) (endK (sizeT x.e) x.e.len) ≤ 5 := by have := overK_le (sizeT x.b) (endK (sizeT x.e) x.e.len); omega
  have HLC := Lib.hid (fun W => len_any x.c.i.o h8.2 x.c.i.d x.c.i.s x.c.i.n W)
  have HLI := Lib.hid (fun W => len_any x.i.o h8.1 x.i.d x.i.s x.i.n W)
  obtain ⟨z, hz⟩ : ∃ z, z = oneS x := ⟨_, rfl⟩
  rw [← hz]
  have hc1 := lenI_le x.c.i
  have hi1 := lenI_le x.i
  unfold oneS oneK at hz
  unfold LenC at H1
  rw [show (⟨x.c.i.o, x.c.i.d, x.c.i.s, x.c.i.n⟩ : InsS) = x.c.i from rfl] at HLC
  rw [show (⟨x.i.o, x.i.d, x.i.s, x.i.n⟩ : InsS) = x.i from rfl] at HLI
  generalize overK (sizeT x.b) (endK (sizeT x.e) x.e.len) = ov at *
  generalize endK (sizeT x.e) x.e.len = en at *
  generalize sizeT x.b = sb at *
  generalize sizeT x.e = se at *
  generalize lenI x.c.i = lc at *
  generalize lenI x.i = li at *
  unfold insV at HLC HLI
  clear h1 h2 h8 he hx
  by_cases k2 : x.k = 2
  · rw [if_pos k2] at hz
    have i2 : ((x.k : Int) == 2) = true := by rw [k2]; rfl
    have HZ := Lib.hid hz
    clear hz k2
    go_enter Try.func52, Try.ntmps52
    go_wp2_with fail
    refine HBR.out.mono ?_
    rintro e w3 ⟨rfl, hb3⟩
    have hx := HX.out.below hb3 HX.out.1
    have f1 := hx.2 1 (by omega)
    have f2 := hx.2 2 (by omega)
    have f3 := hx.2 3 (by omega)
    have f4 := hx.2 4 (by omega)
    have f6 := hx.2 6 (by omega)
    have f7 := hx.2 7 (by omega)
    have f8 := hx.2 8 (by omega)
    have f9 := hx.2 9 (by omega)
    have fa := hx.2 10 (by omega)
    simp only [smF] at f1 f2 f3 f4 f6 f7 f8 f9 fa
    have HB3 := Lib.hid hb3
    clear hb3 hx f0 HBR
    go_wp2_with fail
    refine (HLC.out _).mono ?_
    rintro e w4 ⟨rfl, hb4⟩
    have HB4 := Lib.hid (HB3.out.trans (hb4.mono HB3.out.size))
    clear hb4 f1 f2 f3 f4 f6 f7 f8 f9 fa
    go_wp2_with fail
    go_ret
    refine ⟨?_, HB4.out⟩
    rw [HZ.out]
    push_cast
    rfl
  · have i2 : ((x.k : Int) == 2) = false := by rw [beq_eq_false_iff_ne]; omega
    rw [if_neg k2] at hz
    by_cases k3 : x.k = 3
    · rw [if_pos k3] at hz
      have i3 : ((x.k : Int) == 3) = true := by rw [k3]; rfl
      have hs : IntKind.i64.wrap ((sb : Int) + (lc : Int)) = ((sb + lc : Nat) : Int) := wnN (by omega) (by omega)
      have HZ := Lib.hid hz
      have hx := HX.out
      have f1 := hx.2 1 (by omega)
      have f2 := hx.2 2 (by omega)
      have f3 := hx.2 3 (by omega)
      have f4 := hx.2 4 (by omega)
      have f6 := hx.2 6 (by omega)
      have f7 := hx.2 7 (by omega)
      have f8 := hx.2 8 (by omega)
      have f9 := hx.2 9 (by omega)
      have fa := hx.2 10 (by omega)
      simp only [smF] at f1 f2 f3 f4 f6 f7 f8 f9 fa
      have HF := Lib.hid (And.intro fa (And.intro f6 (And.intro f7 (And.intro f8 f9))))
      have hsl : sb + lc ≤ 7000 := by omega
      clear hz k2 k3 hx f1 f2 f3 f4 f6 f7 f8 f9 fa HBR HLI
      go_enter Try.func52, Try.ntmps52
      go_upto_region 6 with fail
      go_region_held3 (fun W => W.cell? ⟨g, o + 10, none⟩ = some (.slice Ab x.b.len cb) ∧ W.cell? ⟨g, o + 6, none⟩ = some (.int .u8 x.c.i.o) ∧ W.cell? ⟨g, o + 7, none⟩ = some (.int .i64 x.c.i.d) ∧ W.cell? ⟨g, o + 8, none⟩ = some (.int .i64 x.c.i.s) ∧ W.cell? ⟨g, o + 9, none⟩ = some (.int .i64 x.c.i.n))
        (first
          | exact HF.out
          | exact HF3.out
          | exact HF4.out)
        (first
          | (go_at_call_of 25 Ab; (refine (H1.out _ (below_drewN' (Below.refl _ _) 1)).mono ?_); rintro e w3 ⟨rfl, hb3⟩
             have HB3 : Hid (Below w.heap.size w w3) := (below_drewN' (Below.refl _ _) 1).trans hb3
             have HF3 := Lib.hid (show w3.cell? ⟨g, o + 10, none⟩ = some (.slice Ab x.b.len cb) ∧ w3.cell? ⟨g, o + 6, none⟩ = some (.int .u8 x.c.i.o) ∧ w3.cell? ⟨g, o + 7, none⟩ = some (.int .i64 x.c.i.d) ∧ w3.cell? ⟨g, o + 8, none⟩ = some (.int .i64 x.c.i.s) ∧ w3.cell? ⟨g, o + 9, none⟩ = some (.int .i64 x.c.i.n) from ⟨(HB3.out.cell HX.out.1).trans HF.out.1, (HB3.out.cell HX.out.1).trans HF.out.2.1, (HB3.out.cell HX.out.1).trans HF.out.2.2.1, (HB3.out.cell HX.out.1).trans HF.out.2.2.2.1, (HB3.out.cell HX.out.1).trans HF.out.2.2.2.2⟩)
             clear hb3)
          | (go_at_call 79; (refine (HLC.out w3).mono ?_); rintro e w4 ⟨rfl, hb4⟩
             have HB4 := Lib.hid (HB3.out.trans (hb4.mono HB3.out.size))
             have HF4 := Lib.hid (show w4.cell? ⟨g, o + 10, none⟩ = some (.slice Ab x.b.len cb) ∧ w4.cell? ⟨g, o + 6, none⟩ = some (.int .u8 x.c.i.o) ∧ w4.cell? ⟨g, o + 7, none⟩ = some (.int .i64 x.c.i.d) ∧ w4.cell? ⟨g, o + 8, none⟩ = some (.int .i64 x.c.i.s) ∧ w4.cell? ⟨g, o + 9, none⟩ = some (.int .i64 x.c.i.n) from ⟨(HB4.out.cell HX.out.1).trans HF.out.1, (HB4.out.cell HX.out.1).trans HF.out.2.1, (HB4.out.cell HX.out.1).trans HF.out.2.2.1, (HB4.out.cell HX.out.1).trans HF.out.2.2.2.1, (HB4.out.cell HX.out.1).trans HF.out.2.2.2.2⟩)
             clear hb4))
      all_goals
        by_cases h128 : sb + lc + 2 ≤ 128
        · have j : (sb : Int) + (lc : Int) + 2 ≤ 128 := by omega
          have HZ2 := Lib.hid (show (z : Int) = (sb : Int) + (lc : Int) + 2 by rw [HZ.out, if_pos h128]; push_cast; rfl)
          clear HF3 HF4 h128 HZ
          go_wp2_with fail
          go_ret
          exact ⟨by rw [HZ2.out]; rfl, HB4.out⟩
        · have j : ¬ (sb : Int) + (lc : Int) + 2 ≤ 128 := by omega
          have HZ2 := Lib.hid (show (z : Int) = (sb : Int) + (lc : Int) + 5 by rw [HZ.out, if_neg h128]; push_cast; rfl)
          clear HF3 HF4 h128 HZ
          go_wp2_with fail
          go_ret
          exact ⟨by rw [HZ2.out]; rfl, HB4.out⟩
    · rw [if_neg k3] at hz
      have i3 : ((x.k : Int) == 3) = false := by rw [beq_eq_false_iff_ne]; omega
      have HZ := Lib.hid hz
      have hx := HX.out
      have f1 := hx.2 1 (by omega)
      have f2 := hx.2 2 (by omega)
      have f3 := hx.2 3 (by omega)
      have f4 := hx.2 4 (by omega)
      have f6 := hx.2 6 (by omega)
      have f7 := hx.2 7 (by omega)
      have f8 := hx.2 8 (by omega)
      have f9 := hx.2 9 (by omega)
      have fa := hx.2 10 (by omega)
      simp only [smF] at f1 f2 f3 f4 f6 f7 f8 f9 fa
      clear hz k2 k3 hx HBR f6 f7 f8 f9 fa
      go_enter Try.func52, Try.ntmps52
      go_wp2_with fail
      refine (HLI.out _).mono ?_
      rintro e w4 ⟨rfl, hb4⟩
      have HB4 := Lib.hid hb4
      clear hb4 f0 f1 f2 f3 f4
      go_wp2_with fail
      go_ret
      exact ⟨by rw [HZ.out]; rfl, HB4.out⟩
end Go.Proofs.Ythmpagehmfillaa
namespace Go.Proofs.Ythmpagehmfillaa
open Go.RowKit
set_option linter.unusedSimpArgs false
set_option linter.unusedVariables false
set_option maxRecDepth 100000
def LnR (T : Sts) (w : World) (s3 s7 : Value) (wr : World) : Prop :=
  ∃ (k n : Nat), k ≤ T.len ∧ s3 = .int .i64 n ∧ s7 = .int .i64 k ∧ n ≤ 6000 ∧ min 6000 (n + sizeT (Sts.drp k T)) = sizeT T ∧ Below w.heap.size w wr
set_option maxHeartbeats 8000000 in
theorem length_any : ∀ (N : Nat) (T : Sts) (v : Value) (S : Nat → Prop) (w : World), T.all < N → T.all ≤ 100000 → T.b8 → Tr w S v T →
    Calls Try.prog 25 #[v] w fun e w' => e = .returned (.int .i64 (sizeT T)) ∧ Below w.heap.size w w' := by
  intro N
  induction N with
  | zero => intro T v S w h; exact absurd h (Nat.not_lt_zero _)
  | succ N ih =>
    intro T v S w hN h3 h8 hT
    obtain ⟨A1, c1, rfl, -, -⟩ := hT.frm
    have R0 : LnR T w (.int .i64 0) (.int .i64 0) w := ⟨0, 0, Nat.zero_le _, rfl, rfl, Nat.zero_le _, by have := sizeT_le T; show min 6000 (0 + sizeT T) = _; omega, Below.refl _ _⟩
    have HR0 := Lib.hid R0
    have HT := Lib.hid hT
    have HX := Lib.hid (And.intro hN (And.intro h3 (And.intro T.len_all h8)))
    have IH := Lib.hid ih
    clear R0 hT hN h3 ih h8
    go_enter Try.func25, Try.ntmps25
    go_wp2_with fail
    go_loopw [3, 7] (fun s3 s7 wr => LnR T w s3 s7 wr) (fun _ s _ => T.len - (intOf s).toNat)
    case atStart => exact HR0.out
    case round =>
      clear HR0
      obtain ⟨k, n, hk, rfl, rfl, hn, hs, hbw⟩ := hrel
      have hTr : Tr wr S (.slice A1 T.len c1) T := HT.out.below hbw
      by_cases h0 : k < T.len
      · have b1 : (k : Int) < (T.len : Int) := by omega
        have b0 : (0 : Int) ≤ (k : Int) := by omega
        obtain ⟨g, o, vb, ve, rfl, hsg, hg, hbT, heT, hcl⟩ := hTr.nth h0
        have hna := Sts.nth_all h0
        have h8 := Sts.b8_nth HX.out.2.2.2 h0
        have hsd := sizeT_drp h0
        have hx : StAt wr g (o + k * 13) (T.nth k) vb ve := ⟨hg, hcl⟩
        generalize T.nth k = x at *
        obtain ⟨B1, d1, rfl, -, -⟩ := hbT.frm
        obtain ⟨E1, n1, rfl, -, -⟩ := heT.frm
        rw [hsd] at hs
        have ho1 := oneS_le x
        have hkl : k ≤ 100000 := by have := HX.out; omega
        have hON := Lib.hid (one_of hx ⟨B1, d1, rfl⟩ ⟨E1, n1, rfl⟩ (fun W hW => IH.out x.b _ S W (by have := HX.out; omega) (by have := HX.out; omega) h8.2.2.2.1 (hbT.below hW)) (fun W hW => IH.out x.e _ S W (by have := HX.out; omega) (by have := HX.out; omega) h8.2.2.2.2 (heT.below hW)) ⟨h8.2.1, h8.2.2.1⟩)
        have HS := Lib.hid hs
        have HBW := Lib.hid hbw
        clear hcl hTr hbT heT hbw hna hsg hg h8 hsd hx
        generalize oneS x = z at *
        go_wp2_with fail
        refine hON.out.mono ?_
        rintro e w3 ⟨rfl, hb3⟩
        have HB3 := Lib.hid (HBW.out.trans (hb3.mono HBW.out.size))
        clear hb3 hON HBW
        by_cases hz : 6000 < n + z
        · have i3 : (6000 : Int) < (n : Int) + (z : Int) := by omega
          have HZ := Lib.hid hz
          clear hz
          go_wp2_with fail
          go_ret
          refine ⟨?_, HB3.out⟩
          rw [← HS.out, show min 6000 (n + min 6000 (z + sizeT (Sts.drp (k + 1) T))) = 6000 by have := HZ.out; omega]
          rfl
        · have i3 : ¬ (6000 : Int) < (n : Int) + (z : Int) := by omega
          have HZ := Lib.hid hz
          clear hz
          go_wp2_with fail
          go_roundw
          case rel => exact ⟨k + 1, n + z, by omega, by push_cast; rfl, by go_num, by have := HZ.out; omega, by rw [← HS.out]; have := HZ.out; omega, HB3.out⟩
          case measure => simp [intOf]; omega
      · obtain rfl : k = T.len := by omega
        have b1 : ¬ ((T.len : Int) < (T.len : Int)) := by omega
        rw [Sts.drp_len] at hs
        have hs2 : n = sizeT T := by rw [← hs]; show n = min 6000 (n + 0); omega
        subst hs2
        have HB := Lib.hid hbw
        clear hs hbw hTr
        go_wp2_with fail
        go_ret
        exact ⟨rfl, HB.out⟩
end Go.Proofs.Ythmpagehmfillaa
