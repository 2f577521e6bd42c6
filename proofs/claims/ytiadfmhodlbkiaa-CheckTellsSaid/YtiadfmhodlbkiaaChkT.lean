/-
  THE WALK OF quillpresslaw21.CheckTells. Conditions: the config reads so.
-/
import Derived.Test.YtiadfmhodlbkiaaLaw21
import Derived.Test.YtiadfmhodlbkiaaArgsSt
import Derived.Test.YtiadfmhodlbkiaaRPt
import Derived.Test.YtiadfmhodlbkiaaCop
import Derived.Deep.RegionHeld3
namespace Go.Proofs.Ytiadfmhodlbkiaa
open Go.RowKit
set_option linter.unusedSimpArgs false
set_option linter.unusedVariables false
set_option maxRecDepth 100000
theorem cells16 {W : World} {q p : Nat} {t : TypeId} {c : CfgS} {vp vc vq up uc uq : Value} (hq : W.rowIs q t 8 (cfgF c.h c.m c.ph c.pm vp vc vq c.has)) (hp : W.rowIs p t 8 (cfgF c.h c.m c.ph c.pm up uc uq c.has)) :
    W.cell? ⟨q, 0, none⟩ = some (.int .i64 c.h) ∧ W.cell? ⟨q, 1, none⟩ = some (.int .i64 c.m) ∧ W.cell? ⟨q, 2, none⟩ = some (.int .i64 c.ph) ∧ W.cell? ⟨q, 3, none⟩ = some (.int .i64 c.pm) ∧ W.cell? ⟨q, 4, none⟩ = some vp ∧ W.cell? ⟨q, 5, none⟩ = some vc ∧ W.cell? ⟨q, 6, none⟩ = some vq ∧ W.cell? ⟨q, 7, none⟩ = some (.bool c.has) ∧ W.cell? ⟨p, 0, none⟩ = some (.int .i64 c.h) ∧ W.cell? ⟨p, 1, none⟩ = some (.int .i64 c.m) ∧ W.cell? ⟨p, 2, none⟩ = some (.int .i64 c.ph) ∧ W.cell? ⟨p, 3, none⟩ = some (.int .i64 c.pm) ∧ W.cell? ⟨p, 4, none⟩ = some up ∧ W.cell? ⟨p, 5, none⟩ = some uc ∧ W.cell? ⟨p, 6, none⟩ = some uq ∧ W.cell? ⟨p, 7, none⟩ = some (.bool c.has) :=
  ⟨hq.cell (show 0 < 8 by omega), hq.cell (show 1 < 8 by omega), hq.cell (show 2 < 8 by omega), hq.cell (show 3 < 8 by omega), hq.cell (show 4 < 8 by omega), hq.cell (show 5 < 8 by omega), hq.cell (show 6 < 8 by omega), hq.cell (show 7 < 8 by omega), hp.cell (show 0 < 8 by omega), hp.cell (show 1 < 8 by omega), hp.cell (show 2 < 8 by omega), hp.cell (show 3 < 8 by omega), hp.cell (show 4 < 8 by omega), hp.cell (show 5 < 8 by omega), hp.cell (show 6 < 8 by omega), hp.cell (show 7 < 8 by omega)⟩
set_option maxHeartbeats 8000000 in
theorem checkTells_main (c : CfgS) (vp vc vq : Value) (w : World) (hp : PrT w (fun _ => True) vp c.parts) (hc : Tr w (fun _ => True) vc c.code) (hq : Tr w (fun _ => True) vq c.post) (h8 : c.code.b8 ∧ c.post.b8) (hl : c.code.len ≤ 1099511627776 ∧ c.post.len ≤ 1099511627776) (hi : c.code.inn ∧ c.post.inn) :
    Calls Try.prog 5 #[.agg (cfgA c.h c.m c.ph c.pm vp vc vq c.has)] w fun e w' => e = .returned (.bool true) ∧ Below w.heap.size w w' := by
  obtain ⟨A1, d1, rfl⟩ := hp.form
  obtain ⟨A3, n3, rfl, -, -⟩ := hc.frm
  obtain ⟨A5, n5, rfl, -, -⟩ := hq.frm
  have hba : Below w.heap.size w (w.alloc (.cells (cfgA c.h c.m c.ph c.pm (.slice A1 c.parts.length d1) (.slice A3 c.code.len n3) (.slice A5 c.post.len n5) c.has) 25)) := (Below.refl _ _).alloc (Nat.le_refl _) _
  have hrow := cfg_row (heap_alloc_new w (.cells (cfgA c.h c.m c.ph c.pm (.slice A1 c.parts.length d1) (.slice A3 c.code.len n3) (.slice A5 c.post.len n5) c.has) 25))
  have HGR := Lib.hid (fun W (hb : Below w.heap.size w W) => great_any c _ _ _ _ W hl hi (hp.below hb) (hc.below hb) (hq.below hb))
  have HPP := Lib.hid (And.intro hp (And.intro hc (And.intro hq h8)))
  have HBA := Lib.hid hba
  have HROW := Lib.hid hrow
  clear hba hrow hp hc hq h8 hl hi
  unfold cfgA at *
  go_enter Try.func5, Try.ntmps5
  go_wp2_with fail
  generalize w.alloc (.cells #[.int .i64 c.h, .int .i64 c.m, .int .i64 c.ph, .int .i64 c.pm, .slice A1 c.parts.length d1, .slice A3 c.code.len n3, .slice A5 c.post.len n5, .bool c.has] 25) = W1 at *
  refine (HGR.out _ HBA.out).mono ?_
  rintro e w2 ⟨b, rfl, hb2, himp⟩
  have hr2 := below_row hb2 HROW.out HROW.out.lt
  have HR2 := Lib.hid hr2
  have HB2 := Lib.hid (HBA.out.trans (hb2.mono HBA.out.size))
  have HI := Lib.hid himp
  clear hb2 hr2 himp HGR
  cases b with
  | true =>
    go_wp2_with fail
    refine (chk_awake _).mono ?_
    rintro e w3 ⟨rfl, hb3⟩
    have HB3 := Lib.hid (HB2.out.trans (hb3.mono HB2.out.size))
    clear hb3
    go_wp2_with fail
    go_ret
    exact ⟨rfl, HB3.out⟩
  | false =>
    obtain ⟨i1, i2, i3⟩ := HI.out rfl
    have HCY := Lib.hid (copyC_any c (.slice A1 c.parts.length d1) (.slice A3 c.code.len n3) (.slice A5 c.post.len n5) (fun _ => True) w2 (by omega) ⟨i2.2, i3.2⟩ (HPP.out.1.below HB2.out) (HPP.out.2.1.below HB2.out) (HPP.out.2.2.1.below HB2.out))
    have HN := Lib.hid (And.intro i2.2 i3.2)
    have c0 : w2.cell? ⟨w.heap.size, 0, none⟩ = some (.int .i64 c.h) := HR2.out.cell (by omega)
    have c1 : w2.cell? ⟨w.heap.size, 1, none⟩ = some (.int .i64 c.m) := HR2.out.cell (by omega)
    have c2 : w2.cell? ⟨w.heap.size, 2, none⟩ = some (.int .i64 c.ph) := HR2.out.cell (by omega)
    have c3 : w2.cell? ⟨w.heap.size, 3, none⟩ = some (.int .i64 c.pm) := HR2.out.cell (by omega)
    have c4 : w2.cell? ⟨w.heap.size, 4, none⟩ = some (.slice A1 c.parts.length d1) := HR2.out.cell (by omega)
    have c5 : w2.cell? ⟨w.heap.size, 5, none⟩ = some (.slice A3 c.code.len n3) := HR2.out.cell (by omega)
    have c6 : w2.cell? ⟨w.heap.size, 6, none⟩ = some (.slice A5 c.post.len n5) := HR2.out.cell (by omega)
    have c7 : w2.cell? ⟨w.heap.size, 7, none⟩ = some (.bool c.has) := HR2.out.cell (by omega)
    unfold cfgA at HCY
    clear i1 i2 i3 HI
    go_wp2_with fail
    refine HCY.out.mono ?_
    rintro e w3 ⟨up, uc, uq, rfl, hp3, hc3, hq3, hb3⟩
    obtain ⟨Bp, dp, rfl⟩ := hp3.form
    obtain ⟨Bc, dc, rfl, -, -⟩ := hc3.frm
    obtain ⟨Bq, dq, rfl, -, -⟩ := hq3.frm
    have hbv : Below w3.heap.size w3 (w3.alloc (.cells (cfgA c.h c.m c.ph c.pm (.slice Bp c.parts.length dp) (.slice Bc c.code.len dc) (.slice Bq c.post.len dq) c.has) 25)) := (Below.refl _ _).alloc (Nat.le_refl _) _
    have rq := cfg_row (heap_alloc_new w3 (.cells (cfgA c.h c.m c.ph c.pm (.slice Bp c.parts.length dp) (.slice Bc c.code.len dc) (.slice Bq c.post.len dq) c.has) 25))
    have rp3 := below_row hb3 HR2.out HR2.out.lt
    have rp := below_row hbv rp3 rp3.lt
    have hbw3 := HB2.out.trans (hb3.mono HB2.out.size)
    have hbw := hbw3.trans (hbv.mono hbw3.size)
    have HT3 := Lib.hid (And.intro ((hp3.below hbv).mono (S' := fun _ => True) (fun _ _ _ => trivial)) (And.intro ((hc3.below hbv).mono (S' := fun _ => True) (fun _ _ _ => trivial)) ((hq3.below hbv).mono (S' := fun _ => True) (fun _ _ _ => trivial))))
    unfold cfgA at *
    go_upto_region 4 with fail
    generalize w3.alloc (.cells #[.int .i64 c.h, .int .i64 c.m, .int .i64 c.ph, .int .i64 c.pm, .slice Bp c.parts.length dp, .slice Bc c.code.len dc, .slice Bq c.post.len dq, .bool c.has] 25) = V at *
    have HCK := Lib.hid (fun W (hb : Below V.heap.size V W) => check_any c (.slice Bp c.parts.length dp) (.slice Bc c.code.len dc) (.slice Bq c.post.len dq) (fun _ => True) W HPP.out.2.2.2 ⟨by have := HN.out; omega, by have := HN.out; omega⟩ (HT3.out.1.below hb) (HT3.out.2.1.below hb) (HT3.out.2.2.below hb))
    have HRC := Lib.hid (fun W (hb : Below V.heap.size V W) => rcheck_any c (.slice A1 c.parts.length d1) (.slice A3 c.code.len n3) (.slice A5 c.post.len n5) (fun _ => True) W HPP.out.2.2.2 HN.out ((HPP.out.1.below hbw).below hb) ((HPP.out.2.1.below hbw).below hb) ((HPP.out.2.2.1.below hbw).below hb))
    have HSM := Lib.hid (fun W (hb : Below V.heap.size V W) => samC_any true c c (.slice Bp c.parts.length dp) (.slice Bc c.code.len dc) (.slice Bq c.post.len dq) (.slice A1 c.parts.length d1) (.slice A3 c.code.len n3) (.slice A5 c.post.len n5) (fun _ => True) W (HT3.out.1.below hb) ((HPP.out.1.below hbw).below hb) (HT3.out.2.1.below hb) ((HPP.out.2.1.below hbw).below hb) (HT3.out.2.2.below hb) ((HPP.out.2.2.1.below hbw).below hb) rfl ⟨rfl, rfl, rfl, rfl, rfl⟩ (SamT.refl _ _) (SamT.refl _ _))
    unfold cfgA at HCK HRC HSM
    have RQ := Lib.hid rq
    have RP := Lib.hid rp
    have HBV := Lib.hid hbw
    clear c0 c1 c2 c3 c4 c5 c6 c7 rq rp rp3 hbw hbw3 hbv hb3 hp3 hc3 hq3 HCY
    obtain ⟨z, hz⟩ : ∃ z, z = checkT c := ⟨_, rfl⟩
    rw [← hz] at HCK HRC
    clear hz
    go_region_held3 (fun W => W.cell? ⟨w3.heap.size, 0, none⟩ = some (.int .i64 c.h) ∧ W.cell? ⟨w3.heap.size, 1, none⟩ = some (.int .i64 c.m) ∧ W.cell? ⟨w3.heap.size, 2, none⟩ = some (.int .i64 c.ph) ∧ W.cell? ⟨w3.heap.size, 3, none⟩ = some (.int .i64 c.pm) ∧ W.cell? ⟨w3.heap.size, 4, none⟩ = some (.slice Bp c.parts.length dp) ∧ W.cell? ⟨w3.heap.size, 5, none⟩ = some (.slice Bc c.code.len dc) ∧ W.cell? ⟨w3.heap.size, 6, none⟩ = some (.slice Bq c.post.len dq) ∧ W.cell? ⟨w3.heap.size, 7, none⟩ = some (.bool c.has) ∧ W.cell? ⟨w.heap.size, 0, none⟩ = some (.int .i64 c.h) ∧ W.cell? ⟨w.heap.size, 1, none⟩ = some (.int .i64 c.m) ∧ W.cell? ⟨w.heap.size, 2, none⟩ = some (.int .i64 c.ph) ∧ W.cell? ⟨w.heap.size, 3, none⟩ = some (.int .i64 c.pm) ∧ W.cell? ⟨w.heap.size, 4, none⟩ = some (.slice A1 c.parts.length d1) ∧ W.cell? ⟨w.heap.size, 5, none⟩ = some (.slice A3 c.code.len n3) ∧ W.cell? ⟨w.heap.size, 6, none⟩ = some (.slice A5 c.post.len n5) ∧ W.cell? ⟨w.heap.size, 7, none⟩ = some (.bool c.has))
      (first
        | exact cells16 RQ.out RP.out
        | exact cells16 RQ6.out RP6.out
        | exact cells16 RQ7.out RP7.out
        | exact cells16 RQ8.out RP8.out
        | exact cells16 RQ9.out RP9.out)
      (first
        | (go_at_call 18; (refine (HCK.out _ (below_drewN' (Below.refl _ _) 1)).mono ?_); rintro e w6 ⟨rfl, hb6⟩
           have HB6 : Hid (Below V.heap.size V w6) := (below_drewN' (Below.refl _ _) 1).trans hb6
           have RQ6 := Lib.hid (below_row HB6.out RQ.out RQ.out.lt)
           have RP6 := Lib.hid (below_row HB6.out RP.out RP.out.lt)
           clear hb6)
        | (go_at_call 19; (refine (HRC.out w6 HB6.out).mono ?_); rintro e w7 ⟨rfl, hb7⟩
           have HB7 : Hid (Below V.heap.size V w7) := HB6.out.trans (hb7.mono HB6.out.size)
           have RQ7 := Lib.hid (below_row HB7.out RQ.out RQ.out.lt)
           have RP7 := Lib.hid (below_row HB7.out RP.out RP.out.lt)
           clear hb7)
        | (go_at_call 9; (refine (HSM.out w7 HB7.out).mono ?_); rintro e w8 ⟨rfl, hb8⟩
           have HB8 : Hid (Below V.heap.size V w8) := HB7.out.trans (hb8.mono HB7.out.size)
           have RQ8 := Lib.hid (below_row HB8.out RQ.out RQ.out.lt)
           have RP8 := Lib.hid (below_row HB8.out RP.out RP.out.lt)
           clear hb8)
        | (go_at_call 16; (refine (chk_awake _).mono ?_); rintro e w9 ⟨rfl, hb9⟩
           have HB9 : Hid (Below V.heap.size V w9) := HB8.out.trans (hb9.mono HB8.out.size)
           have RQ9 := Lib.hid (below_row HB9.out RQ.out RQ.out.lt)
           have RP9 := Lib.hid (below_row HB9.out RP.out RP.out.lt)
           clear hb9))
    all_goals
      go_wp2_with fail
      go_ret
      exact ⟨rfl, HBV.out.trans (HB9.out.mono HBV.out.size)⟩
theorem checkTells_walk {H : Type} {enc : TypeId × Value → H} {W : World} {r : Reach} {b0 : Nat} {d : DataW H} {p : List MemPlace} (v : Value) (h0 : DataW.Trod enc Try.prog W 0 (fun _ => true) true 25 v d p) (hval : Value.okWide Try.prog W r b0 25 v) (hs : SzB d 25) :
    Calls Try.prog 5 #[v] W fun e W' => e = .returned (.bool true) ∧ Below W.heap.size W W' := by
  obtain ⟨c, vp, vc, vq, rfl, h1, h2, h3, h4, h5, h6, -⟩ := open_cfg hval h0 hs
  exact checkTells_main c vp vc vq W h1 h2 h3 h4 h5 h6
end Go.Proofs.Ytiadfmhodlbkiaa
