/-
  THE WALK OF quillpresslaw29.JournalKept: it returns true. Conditions: none.
-/
import Derived.Test.YtlhbijpmhokmnaaGreatQ42
namespace Go.Proofs.YtlhbijpmhokmnaaGreat
open Go.RowKit
set_option linter.unusedSimpArgs false
set_option linter.unusedVariables false

theorem Lo.notT {w : World} {base g t n : Nat} {v : Value} {L : List (List Nat)} {f : Nat → Value} (h : Lo w base v L) (hr : w.rowIs g t n f) (ht : t ≠ 22) : v.ownBlock ≠ some g := by
  obtain ⟨V, ⟨_, h1⟩, -⟩ := h
  rcases h1 with ⟨rfl, -⟩ | ⟨g', cap, cur, rfl, hg, hh, -⟩
  · intro h; cases h
  · intro e
    injection e with e
    subst e
    obtain ⟨cs, q1, -⟩ := hr
    rw [hh] at q1
    injection q1 with q1
    injection q1 with q1 q2
    exact ht q2.symm
/-- A life in memory. -/
def lfC (v0 v3 v6 : Value) (x : LifeS) : Nat → Value
  | 0 => v0
  | 1 => .int .i64 x.arm
  | 2 => .int .i64 x.keep
  | 3 => v3
  | 4 => .int .i64 x.again
  | 5 => .int .i64 x.lkeep
  | _ => v6
theorem life_new (w : World) (v0 v3 v6 : Value) (x : LifeS) : (w.alloc (.cells #[v0, .int .i64 x.arm, .int .i64 x.keep, v3, .int .i64 x.again, .int .i64 x.lkeep, v6] 58)).rowIs w.heap.size 58 7 (lfC v0 v3 v6 x) := ⟨_, heap_alloc_new w _, rfl, fun i hi => by
  match i, hi with
  | 0, _ => rfl
  | 1, _ => rfl
  | 2, _ => rfl
  | 3, _ => rfl
  | 4, _ => rfl
  | 5, _ => rfl
  | 6, _ => rfl⟩
/-- What the inner loop keeps. -/
def KI (base : Nat) (w0 Y w : World) (gf gd gj0 gj gx : Nat) (F : Nat → Value) (K : TurnK) (pre : List Nat) (mm n : Nat) (L : List (List Nat)) (v11 v14 : Value) (br : Bool) : Prop :=
  ∃ p, L.length ≤ n ∧ Smalls L ∧ Jo w gj gf L.length (bas L).length br ∧ Kv base w0 Y w gf gd gj0 K pre p L v11 ∧ w.rowIs gx 58 7 F ∧
    ((br = false ∧ Rest p mm L ∧ v14 = .slice none 0 0) ∨ (br = true ∧ ∃ b, Small b ∧ Torn p mm L b ∧ Bod w v11.ownBlock v14 b))
set_option maxRecDepth 100000 in
set_option maxHeartbeats 16000000 in
theorem journalKept_any (A0 : Option Addr) (c0 : Nat) (l0 : List Nat) (A1 : Option Addr) (c1 : Nat) (LV : List LifeS) (w : World) (hr0 : Rd w A0 l0) (hl0 : l0.length ≤ c0) (hL : Lives w A1 LV) (hl1 : LV.length ≤ c1) (hm1 : c1 ≤ maxLen) :
    Calls Tryz.prog 5 #[.slice A0 l0.length c0, .slice A1 LV.length c1] w fun e w' => e = .returned (.bool true) ∧ Below w.heap.size w w' := by
  obtain ⟨u, hu⟩ : ∃ u, u = min l0.length 40 := ⟨_, rfl⟩
  have k0 : (if (40 : Int) < l0.length then (40 : Int) else l0.length) = u := by split <;> omega
  have m1 : (u : Int) ≤ c0 := by omega
  have m2 : u ≤ c0 := by omega
  have u3 : u ≤ 40 := by omega
  obtain ⟨pw, hul, hAK⟩ : ∃ K : List Nat, u = K.length ∧ Rd w A0 K := ⟨l0.take u, by rw [List.length_take]; omega, rd_take hr0 u⟩
  have HUL := Lib.hid hul
  have HR0 := Lib.hid hAK
  have HLV := Lib.hid hL
  clear hu hul hr0 hAK hL
  go_enter Tryz.func5, Tryz.ntmps5
  go_wp2_with fail
  refine (new_any' 65536 w (by decide)).mono ?_
  rintro e w1 ⟨g, nb, ob, rfl, hd, hg, hnb, hob, hb⟩
  have D1 := Lib.hid hd
  have B1 := Lib.hid hb
  have G1 := Lib.hid (And.intro hg (And.intro hnb hob))
  clear hd hg hnb hob hb
  go_upto_if 34 with fail
  go_cut [7] (fun s7 wx => ∃ B m e salt, s7 = .slice B m e ∧ ((pw = [] ∧ m = 0) ∨ (pw ≠ [] ∧ m = 32 ∧ salt.length = 32 ∧ 32 ≤ e ∧ Rd wx B salt)) ∧ Below w1.heap.size w1 wx)
  case first =>
    by_cases hp : pw = []
    · have hu0 : ¬ (0 : Int) < (u : Int) := by rw [HUL.out, hp]; decide
      go_wp2_with fail
      go_meet
      exact ⟨none, 0, 0, [], rfl, .inl ⟨hp, rfl⟩, Below.refl _ _⟩
    · have hu0 : (0 : Int) < (u : Int) := by have := HUL.out; have := List.length_pos_iff.2 hp; omega
      have HP := Lib.hid hp
      clear hp
      go_wp2_with fail
      refine (madeS_any 7 32 (by decide) w1).mono ?_
      rintro e w2 ⟨vs, sl, rfl, hsl, -, hos, hbs⟩
      obtain ⟨As, cs, rfl, hcs, -, hrs⟩ := hos.form
      rw [hsl] at hcs ⊢
      have HS := Lib.hid (And.intro hsl (And.intro hcs (And.intro hrs hbs)))
      clear hsl hos hcs hrs hbs
      go_wp2_with fail
      go_meet
      exact ⟨As, 32, cs, sl, rfl, .inr ⟨HP.out, rfl, HS.out.1, HS.out.2.1, HS.out.2.2.1⟩, HS.out.2.2.2⟩
  case rest =>
    obtain ⟨B, m, e0, salt, rfl, hcase, hbc⟩ := hcut
    have HCASE := Lib.hid hcase
    have HBC := Lib.hid (B1.out.trans (hbc.mono B1.out.size))
    have hcr := create_both (D1.out.below hbc) G1.out.1 G1.out.2.1 G1.out.2.2 HBC.out HBC.out.size A0 u c0 pw HUL.out (by have := HUL.out; omega) (HR0.out.below HBC.out) B m e0 salt hcase
    have HCR := Lib.hid hcr
    clear hcase hbc hcr D1
    go_wp2_with fail
    refine HCR.out.mono ?_
    rintro e w3 ⟨gf, K, pre, mm, rfl, hff, hm1, hm2⟩
    have HFF := Lib.hid hff
    have HM1 := Lib.hid hm1
    have HM2 := Lib.hid hm2
    clear hff hm1 hm2 HCR HCASE HBC
    go_wp2_with fail
    obtain ⟨nb3, ob3, hv3, hcall3, -, -⟩ := HFF.out.call
    have HV3 := Lib.hid hv3
    have HC3 := Lib.hid hcall3
    have HAT := Lib.hid HFF.out.at
    clear hv3 hcall3
    have ha := mk_app mm (by have := HM1.out; omega)
    have has : ((mkD mm []).append txt).2.sync = (0, mkD mm txt) := by rw [ha]; exact mk_app_sync mm
    refine (jcreate_ok HV3.out rfl (by rw [ha]) (by rw [has])).mono ?_
    rintro e Z ⟨gj0, rfl, hj, hgj, hva⟩
    rw [has] at hva
    have hfz := HC3.out _ _ hva
    have HFZ := Lib.hid hfz
    have HJZ := Lib.hid hj
    have HGJ := Lib.hid (Nat.le_trans HAT.out hgj)
    clear ha has hj hgj hva hfz HV3 HC3 HAT HFF
    have HGZ : Hid (g < Z.heap.size) := by obtain ⟨_, _, z, _⟩ := HFZ.out; exact z.lt
    have HBZ : Hid (w.heap.size ≤ Z.heap.size) := HFZ.out.at
    have HKZ : Hid (Kv w.heap.size w Z Z gf g gj0 K pre (mkD mm txt) [] (.slice none 0 0)) := ⟨HFZ.out, OldK.refl Z g gj0, Lo.nil Z Z.heap.size, fun k e => by cases e⟩
    go_wp2_with fail
    go_loopw [10, 11, 12] (fun v10 v11 v12 wr => ∃ (i gj : Nat) (p : DkS) (L : List (List Nat)), v10 = .pointer (some ⟨gj, 0, none⟩) ∧ v12 = .int .i64 i ∧ i ≤ 3 ∧ i ≤ LV.length ∧ L.length ≤ 13 * i ∧ Smalls L ∧ Rest p mm L ∧ Jo wr gj gf L.length (bas L).length false ∧ w.heap.size ≤ gj ∧ (gj = gj0 ∨ Z.heap.size ≤ gj) ∧ Kv w.heap.size w Z wr gf g gj0 K pre p L v11) (fun _ _ v12 _ => 3 - (intOf v12).toNat)
    case atStart => exact ⟨0, gj0, mkD mm txt, [], rfl, rfl, by omega, by omega, Nat.zero_le _, smalls_nil, mk_rest mm, HJZ.out, HGJ.out, .inl rfl, HKZ.out⟩
    case round =>
      obtain ⟨i, gj, p, L, rfl, rfl, hi3, hiL, hLl, hsm, hrest, hjo, hjg, hjy, hkv⟩ := hrel
      have HSM := Lib.hid hsm
      have HRE := Lib.hid hrest
      have HJO := Lib.hid hjo
      have HJG := Lib.hid hjg
      have HJY := Lib.hid hjy
      have HKV := Lib.hid hkv
      have hbw : Below w.heap.size w wr := by obtain ⟨_, _, _, _, _, _, hb⟩ := hkv.f; exact hb
      have HBW := Lib.hid hbw
      clear hsm hrest hjo hjg hjy hkv HKZ
      by_cases hin : i < LV.length ∧ i < 3
      · obtain ⟨hi1, hi2⟩ := hin
        have k1 : (i : Int) < LV.length := by omega
        have k2 : (i : Int) < 3 := by omega
        obtain ⟨gs, os, rfl, hgs, hop⟩ := HLV.out (by intro e; rw [e] at hi1; simp at hi1)
        have hop1 := hop i hi1
        have hgw : gs < wr.heap.size := Nat.lt_of_lt_of_le hgs hbw.size
        obtain ⟨x, hx⟩ : ∃ x, x = LV[i] := ⟨_, rfl⟩
        rw [← hx] at hop1
        obtain ⟨⟨Ab, cb, a0, y0, z0, rb⟩, a1, a2, ⟨Aj, cj, a3, y3, z3, rj⟩, a4, a5, ⟨Al, cl, a6, y6, z6, rl⟩⟩ := hop1
        have x0 := (hbw.cell (p := ⟨gs, os + i * 7, none⟩) hgs).trans a0
        have x1 := (hbw.cell (p := ⟨gs, os + i * 7 + 1, none⟩) hgs).trans a1
        have x2 := (hbw.cell (p := ⟨gs, os + i * 7 + 2, none⟩) hgs).trans a2
        have x3 := (hbw.cell (p := ⟨gs, os + i * 7 + 3, none⟩) hgs).trans a3
        have x4 := (hbw.cell (p := ⟨gs, os + i * 7 + 4, none⟩) hgs).trans a4
        have x5 := (hbw.cell (p := ⟨gs, os + i * 7 + 5, none⟩) hgs).trans a5
        have x6 := (hbw.cell (p := ⟨gs, os + i * 7 + 6, none⟩) hgs).trans a6
        have HRB := Lib.hid rb
        have HRJ := Lib.hid rj
        have HRL := Lib.hid rl
        have HYZ := Lib.hid (And.intro (And.intro y0 z0) (And.intro (And.intro y3 z3) (And.intro y6 z6)))
        clear rb rj rl hop hx hbw a0 a1 a2 a3 a4 a5 a6 y0 z0 y3 z3 y6 z6
        go_upto_region 17 with fail
        obtain ⟨F, hF⟩ : ∃ F, F = lfC (.slice Ab x.bodies.length cb) (.slice Aj x.junk.length cj) (.slice Al x.ljunk.length cl) x := ⟨_, rfl⟩
        have hrow := life_new wr (.slice Ab x.bodies.length cb) (.slice Aj x.junk.length cj) (.slice Al x.ljunk.length cl) x
        rw [← hF] at hrow
        have hax := (Below.refl wr.heap.size wr).alloc (Nat.le_refl _) (.cells #[.slice Ab x.bodies.length cb, .int .i64 x.arm, .int .i64 x.keep, .slice Aj x.junk.length cj, .int .i64 x.again, .int .i64 x.lkeep, .slice Al x.ljunk.length cl] 58)
        have hkv1 := HKV.out.below hax
        have hjo1 := HJO.out.below hax
        generalize (wr.alloc (.cells #[.slice Ab x.bodies.length cb, .int .i64 x.arm, .int .i64 x.keep, .slice Aj x.junk.length cj, .int .i64 x.again, .int .i64 x.lkeep, .slice Al x.ljunk.length cl] 58)) = X1 at *
        generalize wr.heap.size = gx at *
        have HROW := Lib.hid hrow
        have HKV1 := Lib.hid hkv1
        have HJO1 := Lib.hid hjo1
        have HFX := Lib.hid hF
        have f1 : X1.cell? ⟨gx, 1, none⟩ = some (.int .i64 x.arm) := (hrow.cell (by omega)).trans (by rw [hF]; rfl)
        clear hrow hax hkv1 hjo1 hF HKV HJO HBW x0 x1 x2 x3 x4 x5 x6 hgw
        go_wp2_with fail
        refine (pickz_any x.arm 90 (by decide) (by decide) X1).mono ?_
        rintro e w' ⟨pa, rfl, hpa, rfl⟩
        go_wp2_with fail
        obtain ⟨nb1, ob1, hv1, hva1, -⟩ := HKV1.out.call HGZ.out
        refine (varm_any hv1 pa (by omega) (by omega)).mono ?_
        rintro e X2 ⟨rfl, hva⟩
        obtain ⟨hkv2, hg2⟩ := hva1 _ _ hva
        obtain ⟨t', n', f', hrowd, rfl⟩ := hv1.row
        have HKI : Hid (KI w.heap.size w Z X2 gf g gj0 gj gx F K pre mm (L.length + 0) L u11 (.slice none 0 0) false) := ⟨_, by omega, HSM.out, HJO1.out.grown hv1 hg2, hkv2, grown_row hg2 HROW.out (rows_apart HROW.out hrowd (by decide)), .inl ⟨rfl, HRE.out.armed _, rfl⟩⟩
        clear hv1 hva1 hva hkv2 hg2 hrowd HKV1 HJO1 HROW f1 HRE HSM
        go_wp2_with fail
        go_loopw [11, 14, 15] (fun v11 v14 v15 wq => ∃ (k : Nat) (br : Bool) (L' : List (List Nat)), v15 = .int .i64 k ∧ k ≤ 12 ∧ KI w.heap.size w Z wq gf g gj0 gj gx F K pre mm (L.length + k) L' v11 v14 br) (fun _ _ v _ => 12 - (intOf v).toNat)
        case atStart => exact ⟨0, false, L, rfl, by omega, HKI.out⟩
        case round =>
          obtain ⟨k, br, L', rfl, hk12, hki⟩ := hrel
          obtain ⟨p', hLn, hsm, hjo, hkv, hrow, hst⟩ := hki
          have HLN := Lib.hid hLn
          have HSM := Lib.hid hsm
          have HJO := Lib.hid hjo
          have HKV := Lib.hid hkv
          have HROW := Lib.hid hrow
          have HST := Lib.hid hst
          have f0 : wr.cell? ⟨gx, 0, none⟩ = some (.slice Ab x.bodies.length cb) := (hrow.cell (by omega)).trans (by rw [HFX.out]; rfl)
          have hbw : Below w.heap.size w wr := by obtain ⟨_, _, _, _, _, _, hb⟩ := hkv.f; exact hb
          have HBW := Lib.hid hbw
          clear hLn hsm hjo hkv hrow hst hbw HKI
          go_upto_region 20 with fail
          go_cut [88] (fun s88 wx => s88 = .bool (decide (k < x.bodies.length ∧ k < 12 ∧ br = false)) ∧ wx = wr)
          case first =>
            by_cases h1 : k < x.bodies.length
            · have h1' : (k : Int) < x.bodies.length := by omega
              by_cases h2 : k < 12
              · have h2' : (k : Int) < 12 := by omega
                go_wp2_with fail
                refine (jbroken_any HJO.out).mono ?_
                rintro e w' ⟨rfl, rfl⟩
                go_wp2_with fail
                go_meet
                exact ⟨by cases br <;> simp [h1, h2], rfl⟩
              · have h2' : ¬ (k : Int) < 12 := by omega
                go_wp2_with fail
                go_meet
                exact ⟨by simp [h2], rfl⟩
            · have h1' : ¬ (k : Int) < x.bodies.length := by omega
              go_wp2_with fail
              go_meet
              exact ⟨by simp [h1], rfl⟩
          case rest =>
            obtain ⟨rfl, rfl⟩ := hcut
            by_cases hgo : k < x.bodies.length ∧ k < 12 ∧ br = false
            · obtain ⟨h1, h2, rfl⟩ := hgo
              rw [decide_eq_true (show k < x.bodies.length ∧ k < 12 ∧ false = false from ⟨h1, h2, rfl⟩)]
              have hst := HST.out
              obtain ⟨-, hre, rfl⟩ | ⟨h, -⟩ := hst
              · have HRE := Lib.hid hre
                obtain ⟨bb, bo, rfl, hbb, hbc⟩ := HRB.out (by intro e; rw [e] at h1; simp at h1)
                obtain ⟨Bk, ck, hbk, hck, hcm, hrk⟩ := hbc k h1
                obtain ⟨lk, hlk⟩ : ∃ lk, lk = x.bodies.getD k [] := ⟨_, rfl⟩
                rw [← hlk] at hbk hck hrk
                have b0 := (HBW.out.cell (p := ⟨bb, bo + k, none⟩) hbb).trans hbk
                have k1' : (k : Int) < x.bodies.length := by omega
                obtain ⟨n, hn⟩ : ∃ n, n = min lk.length 300 := ⟨_, rfl⟩
                have n0 : (if (300 : Int) < lk.length then (300 : Int) else lk.length) = n := by split <;> omega
                have n1 : (n : Int) ≤ ck := by omega
                have n2 : n ≤ ck := by omega
                have n3 : n ≤ 300 := by omega
                obtain ⟨b, hbn, hbr⟩ : ∃ K : List Nat, n = K.length ∧ Rd w Bk K := ⟨lk.take n, by rw [List.length_take]; omega, rd_take hrk n⟩
                have HBN := Lib.hid hbn
                have HBR := Lib.hid hbr
                have HBR0 := Lib.hid hbr
                have HCM := Lib.hid hcm
                clear hre hbb hbc hbk hck hcm hrk hlk hn hbn hbr
                go_upto_region 22 with fail
                go_quiet (fail)
                have hbd := below_drewN' (Below.refl wc.heap.size wc) nq
                have hkv := HKV.out.below hbd
                have hjo := HJO.out.below hbd
                have hrow := below_row hbd HROW.out HROW.out.lt
                have hbr := HBR.out.below (HBW.out.trans (hbd.mono HBW.out.size))
                clear b0 f0 HKV HJO HROW HBW hbd HBR
                generalize wc.drewN nq = V at *
                have HKV := Lib.hid hkv
                have HJO := Lib.hid hjo
                have HROW := Lib.hid hrow
                have HBR := Lib.hid hbr
                clear hkv hjo hrow hbr n0
                by_cases hn0 : n = 0
                · subst hn0
                  go_wp2_with fail
                  go_roundw
                  case rel => exact ⟨k + 1, false, L', by go_num, by omega, _, by have := HLN.out; omega, HSM.out, HJO.out, HKV.out, HROW.out, .inl ⟨rfl, HRE.out, rfl⟩⟩
                  case measure => simp [intOf]; omega
                · have hn1 : (0 : Int) < (n : Int) := by omega
                  have hn2 : ((n : Int) == 0) = false := by rw [beq_eq_false_iff_ne]; omega
                  have hbl := HBN.out
                  obtain ⟨gb, ob, rfl, hgb, hcb⟩ := HBR.out.2 (by intro e; rw [e] at hbl; simp at hbl; omega)
                  have hc0 := hcb 0 (by omega)
                  rw [Nat.add_zero] at hc0
                  obtain ⟨q, hq⟩ : ∃ q, q = nth b 0 := ⟨_, rfl⟩
                  rw [← hq] at hc0
                  have hq256 : q < 256 := by rw [hq]; exact nth_lt HBR.out.1 0
                  have hsb : Small b := ⟨⟨by omega, by omega⟩, by omega⟩
                  have HSB := Lib.hid hsb
                  have hqw : IntKind.i64.wrap (1 + (q : Int) % 6) = ((1 + q % 6 : Nat) : Int) := by rw [IntKind.wrap_i64]; omega
                  clear hq hcb hsb hbl
                  go_upto_if 110 with fail
                  go_cut [118] (fun s118 wx => ∃ p'', Kv w.heap.size w Z wx gf g gj0 K pre p'' L' u11 ∧ Rest p'' mm L' ∧ Jo wx gj gf L'.length (bas L').length false ∧ wx.rowIs gx 58 7 F)
                  case first =>
                    by_cases q30 : q < 30
                    · have q30' : (q : Int) < 30 := by omega
                      obtain ⟨nb4, ob4, hv4, hva4, -⟩ := HKV.out.call HGZ.out
                      have HV4 := Lib.hid hv4
                      have HVA4 := Lib.hid hva4
                      clear hv4 hva4
                      go_wp2_with fail
                      refine (vfail_any HV4.out (1 + q % 6) 10 (by unfold failB; simp; omega) (by omega)).mono ?_
                      rintro e V2 ⟨rfl, hva⟩
                      obtain ⟨hkv2, hg2⟩ := HVA4.out _ _ hva
                      obtain ⟨t', n', f', hrowd, rfl⟩ := HV4.out.row
                      have HX2 := Lib.hid (And.intro hkv2 (And.intro (HJO.out.grown HV4.out hg2) (grown_row hg2 HROW.out (rows_apart HROW.out hrowd (by decide)))))
                      clear hva hkv2 hg2 hrowd
                      go_wp2_with fail
                      go_meet
                      exact ⟨_, HX2.out.1, HRE.out.failing _, HX2.out.2.1, HX2.out.2.2⟩
                    · have q30' : ¬ (q : Int) < 30 := by omega
                      go_wp2_with fail
                      go_meet
                      exact ⟨_, HKV.out, HRE.out, HJO.out, HROW.out⟩
                  case rest =>
                    obtain ⟨p4, hkv4, hre4, hjo4, hrow4⟩ := hcut
                    have hb4 : Below w.heap.size w wc := by obtain ⟨_, _, _, _, _, _, hb⟩ := hkv4.f; exact hb
                    have HBR4 := Lib.hid (HBR0.out.below hb4)
                    have HKV4 := Lib.hid hkv4
                    have HRE4 := Lib.hid hre4
                    have HJO4 := Lib.hid hjo4
                    have HROW4 := Lib.hid hrow4
                    clear hkv4 hre4 hjo4 hrow4 hb4 HKV HRE HJO HROW HBR hc0
                    obtain ⟨nb4, ob4, hv4, -, hja4⟩ := HKV4.out.call HGZ.out
                    have HV4 := Lib.hid hv4
                    have HJA4 := Lib.hid hja4
                    have hfit : (bas L').length + 54 + b.length ≤ mm := by
                      have := HSM.out.len
                      have := HLN.out
                      have := HM1.out
                      have := HSB.out.2
                      omega
                    have HFIT := Lib.hid hfit
                    clear hv4 hja4 hfit
                    go_wp2_with fail
                    refine (jadd_any HJO4.out HV4.out _ n ck b HBN.out HSB.out.1 HBR4.out (by have := HLN.out; omega) (by rw [HRE4.out.now, List.append_nil]; exact Nat.le_refl _)).mono ?_
                    rintro e V5 ⟨r, rfl, p5, n5, e5, br5, hao, hja⟩
                    obtain ⟨hkv5, hjo5, htw5⟩ := HJA4.out _ _ _ _ _ _ _ _ _ HJO4.out HJG.out HJY.out hja
                    obtain ⟨t', n', f', hrowd, rfl⟩ := HV4.out.row
                    have hrow5 : V5.rowIs gx 58 7 F := HROW4.out.of_block (htw5.block gx HROW4.out.lt (rows_apart HROW4.out hrowd (by decide)) (rows_apart HROW4.out HJO4.out (by decide)))
                    have hout := add_out HRE4.out HFIT.out hao
                    have HBR5 := Lib.hid (rd_two HV4.out HJO4.out htw5 HBR4.out)
                    have HKV5 := Lib.hid hkv5
                    have HROW5 := Lib.hid hrow5
                    clear hao hja hkv5 htw5 hrow5 hrowd HKV4 HRE4 HJO4 HROW4 HBR4 HV4 HJA4
                    obtain ⟨A5', c5', hu11, -⟩ := HKV5.out.lo.rds
                    rcases hout with ⟨rfl, hr5, rfl, rfl, rfl⟩ | ⟨hr0, rfl, rfl, hbr5⟩
                    · subst hu11
                      have HR5 := Lib.hid hr5
                      have HJO5 := Lib.hid hjo5
                      clear hr5 hjo5
                      go_wp2_with fail
                      refine (copyb_any _ n ck b V5 HBN.out HBR5.out (by have := HSB.out.2; omega)).mono ?_
                      rintro e V6 ⟨v6, rfl, ho6, hb6⟩
                      have hkv6 := HKV5.out.below hb6
                      have hjo6 := HJO5.out.below hb6
                      have hrow6 := below_row hb6 HROW5.out HROW5.out.lt
                      have hbod6 : Bod V6 (Value.slice A5' L'.length c5').ownBlock v6 b := bod_ow ho6 (fun k e => (HKV5.out.lo.lt k e).2)
                      have HKV6 := Lib.hid hkv6
                      have HJO6 := Lib.hid hjo6
                      have HROW6 := Lib.hid hrow6
                      have HBOD6 := Lib.hid hbod6
                      have hL6 : L'.length < 1000000 := by have := HLN.out; omega
                      have hZ6 : Z.heap.size ≤ V6.heap.size := hkv6.old.size
                      obtain ⟨A6, c6, rfl, -⟩ := ho6.form
                      clear ho6 hb6 hkv6 hjo6 hrow6 hbod6 HKV5 HJO5 HROW5 HBR5
                      obtain ⟨nbz, obz, hvz, -⟩ := HFZ.out.call
                      have HVZ := Lib.hid hvz
                      clear hvz
                      go_wp2_with (at_builtin; refine append_body (v := .slice A5' L'.length c5') (.tmp 123) (.tmp 126) rfl rfl _ _ b rfl rfl HKV6.out.lo HBOD6.out hL6 hZ6 ?_; intro v7 V7 ho7 hg7 ha7; have hkv7 := HKV6.out.app HVZ.out HJZ.out HBZ.out ho7 hg7 ha7; have HJO7 := Lib.hid (kv_jo HJO6.out hg7 HKV6.out.lo); have HROW7 := Lib.hid (HROW6.out.of_block (hg7.block gx HROW6.out.lt (fun e => HKV6.out.lo.notT HROW6.out (by decide) e.symm))); obtain ⟨A7, c7, rfl, -⟩ := ho7.rds; obtain ⟨N7, hN7⟩ : ∃ N7, N7 = (L' ++ [b]).length := ⟨_, rfl⟩; rw [← hN7] at hkv7 ⊢; have HKV7 := Lib.hid hkv7; have HN7 := Lib.hid hN7; clear ho7 hg7 ha7 hkv7 hN7)
                      refine (jlen_any HJO7.out).mono ?_
                      rintro e w' ⟨rfl, rfl⟩
                      rw [← HN7.out]
                      go_wp2_with fail
                      go_roundw
                      case rel => exact ⟨k + 1, false, L' ++ [b], by go_num, by omega, _, by rw [List.length_append]; have := HLN.out; show _ + 1 ≤ _; omega, HSM.out.snoc HSB.out, HJO7.out, HKV7.out, HROW7.out, .inl ⟨rfl, HR5.out, rfl⟩⟩
                      case measure => simp [intOf]; omega
                    · have hr1 : (r == 0) = false := by rw [beq_eq_false_iff_ne]; exact hr0
                      rcases hbr5 with ⟨rfl, hr5⟩ | ⟨rfl, ht5⟩
                      · have HR5 := Lib.hid hr5
                        have HJO5 := Lib.hid hjo5
                        clear hr5 hjo5
                        subst hu11
                        go_wp2_with fail
                        refine (jbroken_any HJO5.out).mono ?_
                        rintro e w' ⟨rfl, rfl⟩
                        go_wp2_with fail
                        refine (jlen_any HJO5.out).mono ?_
                        rintro e w' ⟨rfl, rfl⟩
                        go_wp2_with fail
                        go_roundw
                        case rel => exact ⟨k + 1, false, L', by go_num, by omega, _, by have := HLN.out; omega, HSM.out, HJO5.out, HKV5.out, HROW5.out, .inl ⟨rfl, HR5.out, rfl⟩⟩
                        case measure => simp [intOf]; omega
                      · have HT5 := Lib.hid ht5
                        have HJO5 := Lib.hid hjo5
                        clear ht5 hjo5
                        subst hu11
                        go_wp2_with fail
                        refine (jbroken_any HJO5.out).mono ?_
                        rintro e w' ⟨rfl, rfl⟩
                        go_wp2_with fail
                        refine (copyb_any _ n ck b V5 HBN.out HBR5.out (by have := HSB.out.2; omega)).mono ?_
                        rintro e V6 ⟨v6, rfl, ho6, hb6⟩
                        have HKV6 := Lib.hid (HKV5.out.below hb6)
                        have HJO6 := Lib.hid (HJO5.out.below hb6)
                        have HROW6 := Lib.hid (below_row hb6 HROW5.out HROW5.out.lt)
                        have HBOD6 := Lib.hid (bod_ow (own := (Value.slice A5' L'.length c5').ownBlock) ho6 (fun k e => (HKV5.out.lo.lt k e).2))
                        clear ho6 hb6 HKV5 HJO5 HROW5 HBR5
                        go_wp2_with fail
                        refine (jlen_any HJO6.out).mono ?_
                        rintro e w' ⟨rfl, rfl⟩
                        go_wp2_with fail
                        go_roundw
                        case rel => exact ⟨k + 1, true, L', by go_num, by omega, _, by have := HLN.out; omega, HSM.out, HJO6.out, HKV6.out, HROW6.out, .inr ⟨rfl, b, HSB.out, HT5.out, HBOD6.out⟩⟩
                        case measure => simp [intOf]; omega
              · cases h
            · rw [decide_eq_false hgo]
              clear f0
              obtain ⟨nb4, ob4, hv4, hva4, -⟩ := HKV.out.call HGZ.out
              have HV4 := Lib.hid hv4
              have HVA4 := Lib.hid hva4
              have HLN2 : Hid (L'.length ≤ 13 * i + k ∧ k ≤ 12 ∧ i < 3) := ⟨by have := HLN.out; omega, hk12, hi2⟩
              have HCF : Hid (∀ W : World, W.rowIs gx 58 7 F → W.cell? ⟨gx, 2, none⟩ = some (.int .i64 x.keep) ∧ W.cell? ⟨gx, 3, none⟩ = some (.slice Aj x.junk.length cj) ∧ W.cell? ⟨gx, 4, none⟩ = some (.int .i64 x.again) ∧ W.cell? ⟨gx, 5, none⟩ = some (.int .i64 x.lkeep) ∧ W.cell? ⟨gx, 6, none⟩ = some (.slice Al x.ljunk.length cl)) :=
                fun W h => ⟨(h.cell (by omega)).trans (by rw [HFX.out]; rfl), (h.cell (by omega)).trans (by rw [HFX.out]; rfl), (h.cell (by omega)).trans (by rw [HFX.out]; rfl), (h.cell (by omega)).trans (by rw [HFX.out]; rfl), (h.cell (by omega)).trans (by rw [HFX.out]; rfl)⟩
              obtain ⟨f2, f3, -⟩ := HCF.out wc HROW.out
              clear hv4 hva4
              go_wp2_with fail
              refine (vcrash_any HV4.out x.keep Aj x.junk.length cj x.junk rfl (HRJ.out.below HBW.out) (by have := HYZ.out.2.1; unfold maxLen at this; omega)).mono ?_
              rintro e V1 ⟨rfl, p1, hc1, hva⟩
              obtain ⟨hkv1, hg1⟩ := HVA4.out _ _ hva
              obtain ⟨t', n', f', hrowd, rfl⟩ := HV4.out.row
              obtain ⟨L2, hb2, hsm2, hlen2, hmore⟩ := crash_state HST.out HSM.out hc1
              have HKM1 := Lib.hid (show KM w.heap.size w Z V1 gf g gj0 gx F K pre p1 L' u11 u14 L2 from ⟨hkv1, grown_row hg1 HROW.out (rows_apart HROW.out hrowd (by decide)), hmore.va HV4.out hg1⟩)
              have HB2 := Lib.hid hb2
              have HSM2 := Lib.hid hsm2
              have HLEN2 := Lib.hid hlen2
              clear hc1 hva hkv1 hg1 hrowd hb2 hsm2 hlen2 hmore f2 f3 HV4 HVA4 HST HSM HLN HKV HJO HROW HBW
              obtain ⟨A5', c5', hu11, -⟩ := HKM1.out.kv.lo.rds
              subst hu11
              obtain ⟨-, -, f4, -⟩ := HCF.out V1 HKM1.out.row
              go_wp2_with fail
              refine (pickz_any x.again 5 (by decide) (by decide) V1).mono ?_
              rintro e w' ⟨pb, rfl, hpb, rfl⟩
              go_wp2_with fail
              obtain ⟨nb5, ob5, hv5, hva5⟩ := HKM1.out.call HGZ.out
              have HVA5 := Lib.hid hva5
              refine (varm_any hv5 pb (by omega) (by omega)).mono ?_
              rintro e V2 ⟨rfl, hva⟩
              have HKM2 := Lib.hid (HVA5.out _ _ hva)
              have HB3 := Lib.hid (HB2.out.armed pb)
              clear hv5 hva5 HVA5 hva f4 HKM1 HB2 hpb
              go_wp2_with fail
              obtain ⟨nb6, ob6, hv6, hva6⟩ := HKM2.out.call HGZ.out
              have HVA6 := Lib.hid hva6
              refine (jopen_drop hv6 HB3.out).mono ?_
              rintro e V3 ⟨uo, p3, rfl, hva, hb3⟩
              have HKM3 := Lib.hid (HVA6.out _ _ hva)
              have HB4 := Lib.hid hb3
              clear hv6 hva6 HVA6 hva HKM2 HB3 hb3
              obtain ⟨-, -, -, f5, f6⟩ := HCF.out V3 HKM3.out.row
              go_wp2_with fail
              obtain ⟨nb7, ob7, hv7, hva7⟩ := HKM3.out.call HGZ.out
              have HVA7 := Lib.hid hva7
              refine (vcrash_any hv7 x.lkeep Al x.ljunk.length cl x.ljunk rfl (HRL.out.below HKM3.out.bel) (by have := HYZ.out.2.2; unfold maxLen at this; omega)).mono ?_
              rintro e V4 ⟨rfl, p4, hc4, hva⟩
              obtain ⟨hb4, hs4⟩ := HB4.out.crash hc4
              have HKM4 := Lib.hid (HVA7.out _ _ hva)
              have HB5 := Lib.hid (And.intro hb4 (And.intro hs4 hc4.calm))
              clear hv7 hva7 HVA7 hva HKM3 HB4 hb4 hs4 hc4 f5 f6
              go_wp2_with fail
              refine (jopen_km HKM4.out HGZ.out HB5.out.1 HB5.out.2.1 HB5.out.2.2).mono ?_
              rintro e V5 ⟨gj2, u2, p5, rfl, hkm5, hjo5, hlo5, hgj5, hr5, hc5, -⟩
              obtain ⟨A2, c2, rfl, hz1, hz2, hrds⟩ := hlo5.rds
              obtain ⟨N2, hn2⟩ : ∃ N2, N2 = L2.length := ⟨_, rfl⟩
              rw [← hn2] at hjo5 hlo5 ⊢
              have HVO : Hid (∀ k, (Value.slice A5' L'.length c5').ownBlock = some k → k < V4.heap.size) := fun k e => (HKM4.out.kv.lo.lt k e).2
              have HKM5 := Lib.hid hkm5
              have HJO5 := Lib.hid hjo5
              have HLO5 := Lib.hid hlo5
              have HGJ5 := Lib.hid (Nat.le_trans HKM4.out.kv.old.size hgj5)
              have HG5 : Hid (g < V4.heap.size) := Nat.lt_of_lt_of_le HGZ.out HKM4.out.kv.old.size
              have HR5 := Lib.hid (And.intro hr5 hc5)
              have HN2 := Lib.hid hn2
              have HLM : Hid (L2.length ≤ maxLen) := Nat.le_trans hz1 hz2
              clear hkm5 hjo5 hlo5 hgj5 hr5 hc5 hz1 hz2 hrds hn2 HKM4 HB5
              go_wp2_with fail
              have hb6 := HR5.out.1.both HSM2.out.good
              obtain ⟨nb8, ob8, hv8, -⟩ := HKM5.out.kv.f.call
              have HV8 := Lib.hid hv8
              refine (jopen_km HKM5.out HGZ.out hb6 (rest_now HR5.out.1) HR5.out.2).mono ?_
              rintro e V6 ⟨gj3, u3, p6, rfl, hkm6, -, hlo6, -, hr6, -, hg6⟩
              obtain ⟨A3, c3, rfl, hz1, hz2, hrds⟩ := hlo6.rds
              rw [← HN2.out]
              have HKM6 := Lib.hid hkm6
              have HJO6 := Lib.hid (HJO5.out.grown HV8.out hg6)
              have HLO6 := Lib.hid (HLO5.out.grown HV8.out hg6 HG5.out)
              obtain ⟨hy1, hy2, hy3⟩ := lo_rds HLO6.out.lo
              have HS6 := Lib.hid (samel_any A2 A3 N2 N2 c2 c3 L2 L2 V6 HN2.out HN2.out hy2 hrds HLM.out HLM.out)
              have HR6 := Lib.hid hr6
              clear hb6 hv8 HV8 hkm6 hlo6 hr6 hg6 hz1 hz2 hrds hy1 hy2 hy3 HKM5 HJO5 HLO5 HR5
              go_wp2_with fail
              refine HS6.out.mono ?_
              rw [(sameLL_iff L2 L2).2 rfl]
              rintro e w' ⟨rfl, n7, rfl⟩
              have hbd := below_drewN' (Below.refl V6.heap.size V6) n7
              have hkm7 := HKM6.out.below hbd
              have hjo7 := HJO6.out.below hbd
              have hlo7 := HLO6.out.below hbd
              generalize V6.drewN n7 = V7 at *
              have HKM7 := Lib.hid hkm7
              have HJO7 := Lib.hid hjo7
              have HLO7 := Lib.hid hlo7
              clear hbd hkm7 hjo7 hlo7 HKM6 HJO6 HLO6 HS6
              have hL6 : L'.length < 1000000 := by have := HLN2.out; omega
              have hwr : IntKind.i64.wrap ((L'.length : Int) + 1) = ((L'.length + 1 : Nat) : Int) := by rw [IntKind.wrap_i64]; omega
              have hmore := HKM7.out.more
              rcases hmore with rfl | ⟨b, rfl, hbl, hbod⟩
              · have hn := HN2.out
                clear HN2
                subst hn
                have hne : ((L2.length : Int) == ((L2.length + 1 : Nat) : Int)) = false := by rw [beq_eq_false_iff_ne]; omega
                have HKVX := Lib.hid HKM7.out.kv
                have HJOX := HJO7
                have HLOX := HLO7
                clear HKM7 HJO7 HLO7
                go_wp2_with fail
                obtain ⟨hy1, hy2, hy3⟩ := lo_rds HLOX.out.lo
                obtain ⟨hz1, hz2, hz3⟩ := lo_rds HKVX.out.lo
                have HS8 := Lib.hid (samel_any A2 A5' _ _ c2 c5' (L2) (L2) V7 rfl rfl hy2 hz2 hy3 hy3)
                clear hy1 hy2 hy3 hz1 hz2 hz3
                refine HS8.out.mono ?_
                rw [(sameLL_iff (L2) (L2)).2 rfl]
                rintro e w' ⟨rfl, n8, rfl⟩
                have hbd := below_drewN' (Below.refl (V7).heap.size (V7)) n8
                have hkv9 := HKVX.out.below hbd
                have hjo9 := HJOX.out.below hbd
                clear hbd HS8 HKVX HJOX HLOX
                generalize (V7).drewN n8 = W9 at *
                have HKV9 := Lib.hid hkv9
                have HJO9 := Lib.hid hjo9
                clear hkv9 hjo9
                go_wp2_with fail
                refine (jlen_any HJO9.out).mono ?_
                rintro e w' ⟨rfl, rfl⟩
                go_wp2_with fail
                go_roundw
                case rel => exact ⟨i + 1, gj2, p6, L2, rfl, by go_num, by omega, by omega, by have := HLN2.out; have := HLEN2.out; omega, HSM2.out, HR6.out, by have hq := HJO9.out; first | exact hq | (rw [HN2.out] at hq; exact hq), Nat.le_trans HBZ.out HGJ5.out, .inr HGJ5.out, HKV9.out⟩
                case measure => simp [intOf]; omega
              · have hbod' := hbod
                have HBOD := Lib.hid hbod
                obtain ⟨A9, c9, rfl, -, -, -, -⟩ := hbod'
                have hne : ((N2 : Int) == ((L'.length + 1 : Nat) : Int)) = true := by rw [beq_iff_eq]; have := HN2.out; rw [List.length_append] at this; simp at this; omega
                have heq : (N2 : Int) = (L'.length : Int) + 1 := by rw [beq_iff_eq] at hne; omega
                have hbl' : (0 : Int) < (b.length : Int) := by omega
                have hZ7 : Z.heap.size ≤ V7.heap.size := HKM7.out.kv.old.size
                obtain ⟨nbz, obz, hvz, -⟩ := HFZ.out.call
                have HVZ := Lib.hid hvz
                clear hvz hbod hbl
                go_wp2_with (at_builtin; refine append_body (v := .slice A5' L'.length c5') (.tmp 187) (.tmp 189) rfl rfl _ _ b rfl rfl HKM7.out.kv.lo HBOD.out hL6 hZ7 ?_; intro v8 V8 ho8 hg8 ha8; have hkv8 := HKM7.out.kv.app HVZ.out HJZ.out HBZ.out ho8 hg8 ha8; have HJOX := Lib.hid (kv_jo HJO7.out hg8 HKM7.out.kv.lo); have HLOX := Lib.hid (HLO7.out.old hg8 HVO.out); obtain ⟨A8, c8, rfl, -⟩ := ho8.rds; rw [← HN2.out] at hkv8 ⊢; have HKVX := Lib.hid hkv8; clear ho8 hg8 ha8 hkv8)
                obtain ⟨hy1, hy2, hy3⟩ := lo_rds HLOX.out.lo
                obtain ⟨hz1, hz2, hz3⟩ := lo_rds HKVX.out.lo
                have HS8 := Lib.hid (samel_any A2 A8 _ _ c2 c8 ((L' ++ [b])) ((L' ++ [b])) V8 HN2.out HN2.out hy2 hz2 hy3 hy3)
                clear hy1 hy2 hy3 hz1 hz2 hz3
                refine HS8.out.mono ?_
                rw [(sameLL_iff ((L' ++ [b])) ((L' ++ [b]))).2 rfl]
                rintro e w' ⟨rfl, n8, rfl⟩
                have hbd := below_drewN' (Below.refl (V8).heap.size (V8)) n8
                have hkv9 := HKVX.out.below hbd
                have hjo9 := HJOX.out.below hbd
                clear hbd HS8 HKVX HJOX HLOX
                generalize (V8).drewN n8 = W9 at *
                have HKV9 := Lib.hid hkv9
                have HJO9 := Lib.hid hjo9
                clear hkv9 hjo9
                go_wp2_with fail
                refine (jlen_any HJO9.out).mono ?_
                rintro e w' ⟨rfl, rfl⟩
                go_wp2_with fail
                go_roundw
                case rel => exact ⟨i + 1, gj2, p6, (L' ++ [b]), rfl, by go_num, by omega, by omega, by have := HLN2.out; have := HLEN2.out; omega, HSM2.out, HR6.out, by have hq := HJO9.out; first | exact hq | (rw [HN2.out] at hq; exact hq), Nat.le_trans HBZ.out HGJ5.out, .inr HGJ5.out, HKV9.out⟩
                case measure => simp [intOf]; omega
      · have hin' : ¬ i < LV.length ∨ ¬ i < 3 := by omega
        clear hin
        rcases hin' with hi1 | hi2
        · have k1 : ¬ (i : Int) < LV.length := by omega
          go_wp2_with fail
          refine (jawake_any _).mono ?_
          rintro e wz ⟨rfl, hbz⟩
          have HBZZ := Lib.hid hbz
          clear hbz
          go_wp2_with fail
          go_ret
          exact ⟨rfl, HBW.out.trans (HBZZ.out.mono HBW.out.size)⟩
        · by_cases hi1 : i < LV.length
          · have k1 : (i : Int) < LV.length := by omega
            have k2 : ¬ (i : Int) < 3 := by omega
            go_wp2_with fail
            refine (jawake_any _).mono ?_
            rintro e wz ⟨rfl, hbz⟩
            have HBZZ := Lib.hid hbz
            clear hbz
            go_wp2_with fail
            go_ret
            exact ⟨rfl, HBW.out.trans (HBZZ.out.mono HBW.out.size)⟩
          · have k1 : ¬ (i : Int) < LV.length := by omega
            go_wp2_with fail
            refine (jawake_any _).mono ?_
            rintro e wz ⟨rfl, hbz⟩
            have HBZZ := Lib.hid hbz
            clear hbz
            go_wp2_with fail
            go_ret
            exact ⟨rfl, HBW.out.trans (HBZZ.out.mono HBW.out.size)⟩
set_option maxRecDepth 100000 in
theorem journalKept_walk (A0 : Option Addr) (c0 : Nat) (l0 : List Nat) (v1 : Value) (w : World) (hr0 : Rd w A0 l0) (hl0 : l0.length ≤ c0) (hm0 : c0 ≤ maxLen) {H : Type} (enc : TypeId × Value → H) (d1 : DataW H) (p1 : List MemPlace) {r : Reach} {b0 : Nat}
    (h1 : DataW.Trod enc Tryz.prog w 0 (fun _ => true) true 54 v1 d1 p1) (hv1 : Value.okWide Tryz.prog w r b0 54 v1) :
    Calls Tryz.prog 5 #[.slice A0 l0.length c0, v1] w fun e w' => e = .returned (.bool true) ∧ Below w.heap.size w w' := by
  obtain ⟨A, c, L, rfl, hlc, hcm, hL⟩ := open_lives hv1 h1
  exact journalKept_any A0 c0 l0 A c L w hr0 hl0 hL hlc hcm
end Go.Proofs.YtlhbijpmhokmnaaGreat
