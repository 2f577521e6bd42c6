/-
  THE WALK OF quillpresslaw21.CheckModel. Conditions: the config reads so.
-/
import Derived.Test.YtiadfmhodlbkiaaLaw21
import Derived.Test.YtiadfmhodlbkiaaModW
import Derived.Test.YtiadfmhodlbkiaaArgsSt
import Derived.Laws.MakeOwn
import Derived.Deep.RegionHeld3
import Derived.Deep.RegionWith
import Derived.Deep.DeepCutAuto
namespace Go.Proofs.Ytiadfmhodlbkiaa
open Go.RowKit
set_option linter.unusedSimpArgs false
set_option linter.unusedVariables false
set_option maxRecDepth 100000
def pickZ (x n : Int) : Int := if Int.tmod x n < 0 then Int.tmod x n + n else Int.tmod x n
theorem tmod_low (x : Int) {n : Int} (hn : 0 < n) : -n < Int.tmod x n := by
  have := Int.tmod_lt_of_pos (-x) hn
  rw [Int.neg_tmod] at this
  omega
theorem pickZ_in (x n : Int) (hn : 0 < n) : 0 ≤ pickZ x n ∧ pickZ x n < n := by
  unfold pickZ
  have h1 := Int.tmod_lt_of_pos x hn
  have h2 := tmod_low x hn
  split <;> omega
theorem pick_any (x n : Int) (hn : 0 < n) (hn2 : n ≤ 10000) (w : World) : Calls Try.prog 20 #[.int .i64 x, .int .i64 n] w fun e w' => e = .returned (.int .i64 (pickZ x n)) ∧ w' = w := by
  have i1 : ¬ n < 1 := by omega
  have h1 := Int.tmod_lt_of_pos x hn
  have h2 := tmod_low x hn
  have i0 : (n == 0) = false := by rw [beq_eq_false_iff_ne]; omega
  unfold pickZ
  by_cases hz : Int.tmod x n < 0
  · rw [if_pos hz]
    have hw := wrapE (x := Int.tmod x n + n) (by omega)
    have hw0 := wrapE (x := Int.tmod x n) (by omega)
    go_enter Try.func20, Try.ntmps20
    go_wp2_with fail
    go_ret
    exact ⟨rfl, rfl⟩
  · rw [if_neg hz]
    have hw0 := wrapE (x := Int.tmod x n) (by omega)
    go_enter Try.func20, Try.ntmps20
    go_wp2_with fail
    go_ret
    exact ⟨rfl, rfl⟩
theorem info_u8M : (Try.prog.info? 5).map (fun i => (i.zero, i.size, i.bytes)) = some (some (.int .u8 0), 1, 1) := by kernel_rfl
theorem run_mkM (n : Nat) (hn : n ≤ 4194304) : ∃ M : Array Value, ∀ w : World, (Instr.makeSlice 42 (.int .i64 n) (.int .i64 n)).run Try.prog w = .ok (.slice (some ⟨w.heap.size, 0, none⟩) n n) (w.alloc (.cells M 5)) := by
  refine ⟨madeCells #[.int .u8 0] n, fun w => ?_⟩
  obtain ⟨i, hi, hz, hs, hb⟩ := info_parts info_u8M
  have h := run_make (P := Try.prog) w 42 5 i (.int .u8 0) Try.underlying42 hi hz .i64 .i64 n n (by omega) (Int.le_refl _) (by rw [hb]; omega) (by omega)
  rw [hs, Nat.mul_one] at h
  exact h
/-- What Check tells, and what the model is. -/
theorem check_model (c : CfgS) (nc np : Nat) (hnc : nc ≤ 4096) (hnp : np ≤ 4096) (hps : if c.has then 1 ≤ np else np = 0) (h : checkT c ≠ 124) : (checkT c = 0) ↔ (modelT c.h c.m c.ph c.pm c.parts nc np = 0) := by
  unfold checkT at h ⊢
  by_cases h1 : configT c = false
  · rw [if_pos h1] at h; exact absurd rfl h
  · rw [if_neg h1]
    have h2 : configT c = true := by cases hq : configT c with
      | true => rfl
      | false => exact absurd hq h1
    have h3 : ¬ (np = 0 ∧ 0 < c.ph + c.pm) := by
      unfold configT at h2
      simp only [Bool.and_eq_true, Bool.or_eq_true, decide_eq_true_eq] at h2
      obtain ⟨-, h4⟩ := h2
      rintro ⟨h5, h6⟩
      cases hh : c.has with
      | true => rw [hh] at hps; simp at hps; omega
      | false =>
        rcases h4 with h4 | h4
        · rw [hh] at h4; cases h4
        · omega
    have hin : inC (nc : Int) 4096 = true ∧ inC (np : Int) 4096 = true := by
      unfold inC
      constructor <;> (simp only [Bool.and_eq_true, decide_eq_true_eq]; omega)
    have hr : rngM c.h c.m c.ph c.pm nc np 0 = (inC c.h 8 && inC c.ph 8 && inC c.m 12 && inC c.pm 12) := by
      show (inC c.h 8 && (inC c.ph 8 && (inC c.m 12 && (inC c.pm 12 && (inC nc 4096 && inC np 4096))))) = _
      rw [hin.1, hin.2]
      simp only [Bool.and_true, Bool.and_assoc]
    unfold modelT
    rw [hr]
    by_cases h4 : (inC c.h 8 && inC c.ph 8 && inC c.m 12 && inC c.pm 12) = false
    · rw [if_pos h4, if_pos h4]
      exact ⟨fun h => absurd h (by decide), fun h => absurd h (by decide)⟩
    · rw [if_neg h4, if_neg h4]
      generalize (2 : Int) ^ c.h.toNat = n
      by_cases h6 : rightPs c.parts = 0
      · by_cases h5 : n < (c.parts.length : Int)
        · rw [if_pos (show (np = 0 ∧ 0 < c.ph + c.pm) ∨ n < (c.parts.length : Int) from .inr h5)]
          simp [h6, h5]
        · rw [if_neg (show ¬ ((np = 0 ∧ 0 < c.ph + c.pm) ∨ n < (c.parts.length : Int)) from fun h => h.elim h3 h5)]
          simp [h6, h5]
      · by_cases h5 : n < (c.parts.length : Int)
        · rw [if_pos (show (np = 0 ∧ 0 < c.ph + c.pm) ∨ n < (c.parts.length : Int) from .inr h5)]
          simp [h6]
        · rw [if_neg (show ¬ ((np = 0 ∧ 0 < c.ph + c.pm) ∨ n < (c.parts.length : Int)) from fun h => h.elim h3 h5)]
          simp [h6]
theorem two_hp (w : World) (a b : Array Value) (t u : TypeId) : ((w.alloc (.cells a t)).alloc (.cells b u)).drew.heap[w.heap.size]? = some (.cells a t (0, 0)) ∧ ((w.alloc (.cells a t)).alloc (.cells b u)).drew.heap[w.heap.size + 1]? = some (.cells b u (0, 0)) ∧ Below w.heap.size w ((w.alloc (.cells a t)).alloc (.cells b u)).drew := by
  have e := World.size_alloc w (.cells a t)
  have h1 := heap_alloc_new w (.cells a t)
  have h2 := heap_alloc_new (w.alloc (.cells a t)) (.cells b u)
  have hb : Below w.heap.size w (w.alloc (.cells a t)) := (Below.refl _ _).alloc (Nat.le_refl _) _
  have hb2 : Below (w.alloc (.cells a t)).heap.size (w.alloc (.cells a t)) ((w.alloc (.cells a t)).alloc (.cells b u)) := (Below.refl _ _).alloc (Nat.le_refl _) _
  refine ⟨(hb2.block _ (by omega)).trans h1, ?_, below_drewN' (hb.trans (hb2.mono (by omega))) 1⟩
  rw [← e]
  exact h2
theorem md_set {w : World} {g : Nat} {t : TypeId} {h m ph pm : Int} {vp vc vq : Value} (u : Value) (hr : w.rowIs g t 7 (mdF h m ph pm vp vc vq)) : (w.setCell ⟨g, 6, none⟩ u).rowIs g t 7 (mdF h m ph pm vp vc u) :=
  (hr.set 6 _).congr fun i hi => by
    match i, hi with
    | 0, _ => rfl
    | 1, _ => rfl
    | 2, _ => rfl
    | 3, _ => rfl
    | 4, _ => rfl
    | 5, _ => rfl
    | 6, _ => rfl
set_option maxHeartbeats 16000000 in
theorem checkModel_main (c : CfgS) (vp vc vq : Value) (a1 a2 : Int) (w : World) (hp : PrT w (fun _ => True) vp c.parts) (hc : Tr w (fun _ => True) vc c.code) (hq : Tr w (fun _ => True) vq c.post) (h8 : c.code.b8 ∧ c.post.b8) (hl : c.code.len ≤ 1099511627776 ∧ c.post.len ≤ 1099511627776) (hi : c.code.inn ∧ c.post.inn) :
    Calls Try.prog 6 #[.agg (cfgA c.h c.m c.ph c.pm vp vc vq c.has), .int .i64 a1, .int .i64 a2] w fun e w' => e = .returned (.bool true) ∧ Below w.heap.size w w' := by
  obtain ⟨A1, d1, rfl⟩ := hp.form
  obtain ⟨A3, n3, rfl, -, -⟩ := hc.frm
  obtain ⟨A5, n5, rfl, -, -⟩ := hq.frm
  have hba : Below w.heap.size w (w.alloc (.cells (cfgA c.h c.m c.ph c.pm (.slice A1 c.parts.length d1) (.slice A3 c.code.len n3) (.slice A5 c.post.len n5) c.has) 25)) := (Below.refl _ _).alloc (Nat.le_refl _) _
  have hrow := cfg_row (heap_alloc_new w (.cells (cfgA c.h c.m c.ph c.pm (.slice A1 c.parts.length d1) (.slice A3 c.code.len n3) (.slice A5 c.post.len n5) c.has) 25))
  have HGR := Lib.hid (fun W (hb : Below w.heap.size w W) => great_any c _ _ _ _ W hl hi (hp.below hb) (hc.below hb) (hq.below hb))
  have HPP := Lib.hid (And.intro hp (And.intro hc (And.intro hq h8)))
  have HBA := Lib.hid hba
  have HROW := Lib.hid hrow
  clear hba hrow hp hc hq h8 hl hi
  unfold cfgA at *
  go_enter Try.func6, Try.ntmps6
  go_wp2_with fail
  generalize w.alloc (.cells #[.int .i64 c.h, .int .i64 c.m, .int .i64 c.ph, .int .i64 c.pm, .slice A1 c.parts.length d1, .slice A3 c.code.len n3, .slice A5 c.post.len n5, .bool c.has] 25) = W1 at *
  refine (HGR.out _ HBA.out).mono ?_
  rintro e w2 ⟨b, rfl, hb2, himp⟩
  have hr2 := below_row hb2 HROW.out HROW.out.lt
  have HR2 := Lib.hid hr2
  have HB2 := Lib.hid (HBA.out.trans (hb2.mono HBA.out.size))
  have HI := Lib.hid himp
  have hlt : w.heap.size < w2.heap.size := hr2.lt
  clear hb2 hr2 himp HGR
  cases b with
  | true =>
    go_wp2_with fail
    refine (chk_awake _).mono ?_
    rintro e w3 ⟨rfl, hb3⟩
    have HB3 := Lib.hid (HB2.out.trans (hb3.mono HB2.out.size))
    clear hb3
    go_wp2_with fail
    go_ret
    exact ⟨rfl, HB3.out⟩
  | false =>
    obtain ⟨i1, i2, i3⟩ := HI.out rfl
    have HN := Lib.hid (And.intro i2.2 i3.2)
    clear i1 i2 i3 HI
    obtain ⟨rn, hrn⟩ : ∃ rn : Nat, (rn : Int) = pickZ a1 4097 := ⟨(pickZ a1 4097).toNat, by have := pickZ_in a1 4097 (by decide); omega⟩
    have hrn2 : rn ≤ 4096 := by have := pickZ_in a1 4097 (by decide); omega
    obtain ⟨M, hM⟩ := run_mkM rn (by omega)
    have HPK := Lib.hid (fun W => hrn ▸ pick_any a1 4097 (by decide) (by decide) W)
    have HRN := Lib.hid hrn2
    clear hrn hrn2
    have c0 : w2.cell? ⟨w.heap.size, 0, none⟩ = some (.int .i64 c.h) := HR2.out.cell (by omega)
    have c1 : w2.cell? ⟨w.heap.size, 1, none⟩ = some (.int .i64 c.m) := HR2.out.cell (by omega)
    have c2 : w2.cell? ⟨w.heap.size, 2, none⟩ = some (.int .i64 c.ph) := HR2.out.cell (by omega)
    have c3 : w2.cell? ⟨w.heap.size, 3, none⟩ = some (.int .i64 c.pm) := HR2.out.cell (by omega)
    have c4 : w2.cell? ⟨w.heap.size, 4, none⟩ = some (.slice A1 c.parts.length d1) := HR2.out.cell (by omega)
    go_upto_region 4 with fail
    go_cut [7] (fun s7 wx => ∃ q A cc, s7 = .pointer (some ⟨q, 0, none⟩) ∧ w2.heap.size ≤ q ∧ wx.rowIs q 45 7 (mdF c.h c.m c.ph c.pm (.slice A1 c.parts.length d1) (.slice A rn cc) (.slice none 0 0)) ∧ Below w2.heap.size w2 wx)
    case first =>
      go_region_held3 (fun W => W.cell? ⟨w.heap.size, 0, none⟩ = some (.int .i64 c.h) ∧ W.cell? ⟨w.heap.size, 1, none⟩ = some (.int .i64 c.m) ∧ W.cell? ⟨w.heap.size, 2, none⟩ = some (.int .i64 c.ph) ∧ W.cell? ⟨w.heap.size, 3, none⟩ = some (.int .i64 c.pm) ∧ W.cell? ⟨w.heap.size, 4, none⟩ = some (.slice A1 c.parts.length d1))
        (first | exact ⟨c0, c1, c2, c3, c4⟩ | go_keep)
        (first
          | (go_at_call 20; (refine (HPK.out _).mono ?_); rintro e w3 ⟨rfl, rfl⟩))
      all_goals first
        | (have h2 := two_hp w2 #[.int .i64 c.h, .int .i64 c.m, .int .i64 c.ph, .int .i64 c.pm, .slice A1 c.parts.length d1, .slice (some ⟨w2.heap.size + 1, 0, none⟩) rn rn, .slice none 0 0] M 45 5
           go_wp2_with fail
           go_meet
           exact ⟨_, _, _, rfl, Nat.le_refl _, md_row h2.1, h2.2.2⟩)
        | (have h2 := two_hp w2 M #[.int .i64 c.h, .int .i64 c.m, .int .i64 c.ph, .int .i64 c.pm, .slice A1 c.parts.length d1, .slice (some ⟨w2.heap.size, 0, none⟩) rn rn, .slice none 0 0] 5 45
           go_wp2_with fail
           go_meet
           exact ⟨_, _, _, rfl, by omega, md_row h2.2.1, h2.2.2⟩)
    case rest =>
      obtain ⟨q, A, cc, rfl, hqw, hrq, hbx⟩ := hcut
      have hr3 := below_row hbx HR2.out HR2.out.lt
      have c7 : wc.cell? ⟨w.heap.size, 7, none⟩ = some (.bool c.has) := hr3.cell (by omega)
      have HR3 := Lib.hid hr3
      have HRQ := Lib.hid hrq
      have HBX := Lib.hid (HB2.out.trans (hbx.mono HB2.out.size))
      have hqn : q ≠ w.heap.size := by omega
      have hqn' : w.heap.size ≠ q := by omega
      have hqw' : w.heap.size ≤ q := by omega
      obtain ⟨rp, hrp⟩ : ∃ rp : Nat, (rp : Int) = pickZ a2 4096 := ⟨(pickZ a2 4096).toNat, by have := pickZ_in a2 4096 (by decide); omega⟩
      have hrp2 : rp ≤ 4095 := by have := pickZ_in a2 4096 (by decide); omega
      obtain ⟨M2, hM2⟩ := run_mkM (rp + 1) (by omega)
      have HPK2 := Lib.hid (fun W => hrp ▸ pick_any a2 4096 (by decide) (by decide) W)
      have hw1 := wrapE (x := 1 + (rp : Int)) (by omega)
      have HRP := Lib.hid hrp2
      clear hrp hrp2 hbx hr3 hrq c0 c1 c2 c3 c4 hM HPK hqw
      obtain ⟨hs, hhs⟩ : ∃ hs, hs = c.has := ⟨_, rfl⟩
      rw [← hhs] at c7
      have HHS := Lib.hid hhs
      clear hhs
      have q6 : wc.cell? ⟨q, 6, none⟩ = some (.slice none 0 0) := HRQ.out.cell (by omega)
      have z6 := HRQ.out.frozen 6
      have hM3 : ∀ W : World, (Instr.makeSlice 42 (.int .i64 (1 + (rp : Int))) (.int .i64 (1 + (rp : Int)))).run Try.prog W = .ok (.slice (some ⟨W.heap.size, 0, none⟩) (rp + 1) (rp + 1)) (W.alloc (.cells M2 5)) := fun W => by
        have := hM2 W
        rwa [show ((rp + 1 : Nat) : Int) = 1 + (rp : Int) by omega] at this
      clear hM2
      cases hs with
      | true =>
        have hb5 : Below wc.heap.size wc (wc.alloc (.cells M2 5)) := (Below.refl _ _).alloc (Nat.le_refl _) _
        have rq5 := md_set (.slice (some ⟨wc.heap.size, 0, none⟩) (rp + 1) (rp + 1)) (below_row hb5 HRQ.out HRQ.out.lt)
        have rc5 := row_other (g' := q) (below_row hb5 HR3.out HR3.out.lt) hqn' 6 (.slice (some ⟨wc.heap.size, 0, none⟩) (rp + 1) (rp + 1))
        have hbf := ((HBX.out.trans (hb5.mono HBX.out.size)).setCell (p := ⟨q, 6, none⟩) hqw' (.slice (some ⟨wc.heap.size, 0, none⟩) (rp + 1) (rp + 1)))
        have z6' := (below_row hb5 HRQ.out HRQ.out.lt).frozen 6
        have q6' : (wc.alloc (.cells M2 5)).cell? ⟨q, 6, none⟩ = some (.slice none 0 0) := (below_row hb5 HRQ.out HRQ.out.lt).cell (by omega)
        have RQ := Lib.hid rq5
        have RC := Lib.hid rc5
        have HBF := Lib.hid hbf
        clear hb5 rq5 rc5 hbf
        go_wp2_with fail
        refine (HPK2.out _).mono ?_
        rintro e w4 ⟨rfl, hw4⟩
        rw [hw4]
        clear hw4 w4
        go_upto_region 6 with fail
        generalize (wc.alloc (.cells M2 5)).setCell ⟨q, 6, none⟩ (.slice (some ⟨wc.heap.size, 0, none⟩) (rp + 1) (rp + 1)) = V at *
        clear c7 q6 z6 q6' z6' hM3
        generalize wc.heap.size = gz at *
        have HCK := Lib.hid (check_any c (.slice A1 c.parts.length d1) (.slice A3 c.code.len n3) (.slice A5 c.post.len n5) (fun _ => True) V HPP.out.2.2.2 ⟨by have := HN.out; omega, by have := HN.out; omega⟩ (HPP.out.1.below HBF.out) (HPP.out.2.1.below HBF.out) (HPP.out.2.2.1.below HBF.out))
        have HMD := Lib.hid (fun W (hb : Below w.heap.size w W) => model_any c.h c.m c.ph c.pm c.parts (.slice A1 c.parts.length d1) A (some ⟨gz, 0, none⟩) rn (rp + 1) cc (rp + 1) _ W (HPP.out.1.below hb))
        have HCM := Lib.hid (check_model c rn (rp + 1) HRN.out (by have := HRP.out; omega) (by rw [← HHS.out]; simp))
        have a0 := RC.out.cell (show 0 < 8 by omega)
        have a1' := RC.out.cell (show 1 < 8 by omega)
        have a2' := RC.out.cell (show 2 < 8 by omega)
        have a3 := RC.out.cell (show 3 < 8 by omega)
        have a4 := RC.out.cell (show 4 < 8 by omega)
        have a5 := RC.out.cell (show 5 < 8 by omega)
        have a6 := RC.out.cell (show 6 < 8 by omega)
        have a7 := RC.out.cell (show 7 < 8 by omega)
        dsimp only [cfgF] at a0 a1' a2' a3 a4 a5 a6 a7
        rw [← HHS.out] at a7 HCK
        unfold cfgA at HCK
        obtain ⟨z, hz⟩ : ∃ z, z = checkT c := ⟨_, rfl⟩
        rw [← hz] at HCK HCM
        clear hz
        go_wp2_with fail
        refine HCK.out.mono ?_
        rintro e w6 ⟨rfl, hb6⟩
        have hq6 := below_row hb6 RQ.out RQ.out.lt
        have HB6 := Lib.hid (HBF.out.trans (hb6.mono HBF.out.size))
        have b0 := hq6.cell (show 0 < 7 by omega)
        have b1 := hq6.cell (show 1 < 7 by omega)
        have b2 := hq6.cell (show 2 < 7 by omega)
        have b3 := hq6.cell (show 3 < 7 by omega)
        have b4 := hq6.cell (show 4 < 7 by omega)
        have b5 := hq6.cell (show 5 < 7 by omega)
        have b6 := hq6.cell (show 6 < 7 by omega)
        dsimp only [mdF] at b0 b1 b2 b3 b4 b5 b6
        clear hq6 hb6 a0 a1' a2' a3 a4 a5 a6 a7
        by_cases h124 : z = 124
        · subst h124
          clear HCM
          go_wp2_with fail
          refine (chk_awake _).mono ?_
          rintro e w7 ⟨rfl, hb7⟩
          have HB7 := Lib.hid (HB6.out.trans (hb7.mono HB6.out.size))
          clear hb7
          go_wp2_with fail
          go_ret
          exact ⟨rfl, HB7.out⟩
        · have i4 : (z == 124) = false := by rw [beq_eq_false_iff_ne]; exact h124
          have hiff := HCM.out h124
          obtain ⟨y, hy⟩ : ∃ y, y = modelT c.h c.m c.ph c.pm c.parts rn (rp + 1) := ⟨_, rfl⟩
          have HMD2 := Lib.hid (hy ▸ HMD.out w6 HB6.out)
          rw [← hy] at hiff
          clear h124 hy HCM HMD
          go_wp2_with fail
          refine HMD2.out.mono ?_
          rintro e w7 ⟨rfl, hb7⟩
          have HB7 := Lib.hid (HB6.out.trans (hb7.mono HB6.out.size))
          clear hb7 HMD2
          by_cases hz0 : z = 0
          · have hy0 : y = 0 := hiff.1 hz0
            subst hz0
            subst hy0
            clear hiff
            go_wp2_with fail
            refine (chk_awake _).mono ?_
            rintro e w8 ⟨rfl, hb8⟩
            have HB8 := Lib.hid (HB7.out.trans (hb8.mono HB7.out.size))
            clear hb8
            go_wp2_with fail
            go_ret
            exact ⟨rfl, HB8.out⟩
          · have hy0 : ¬ y = 0 := fun h => hz0 (hiff.2 h)
            have j1 : (z == 0) = false := by rw [beq_eq_false_iff_ne]; exact hz0
            have j2 : (y == 0) = false := by rw [beq_eq_false_iff_ne]; exact hy0
            clear hiff hz0 hy0
            go_wp2_with fail
            refine (chk_awake _).mono ?_
            rintro e w8 ⟨rfl, hb8⟩
            have HB8 := Lib.hid (HB7.out.trans (hb8.mono HB7.out.size))
            clear hb8
            go_wp2_with fail
            go_ret
            exact ⟨rfl, HB8.out⟩
      | false =>
        have RQ := HRQ
        have RC := HR3
        have HBF := HBX
        clear hM3 q6 z6
        go_upto_region 6 with fail
        clear c7
        have HCK := Lib.hid (check_any c (.slice A1 c.parts.length d1) (.slice A3 c.code.len n3) (.slice A5 c.post.len n5) (fun _ => True) wc HPP.out.2.2.2 ⟨by have := HN.out; omega, by have := HN.out; omega⟩ (HPP.out.1.below HBF.out) (HPP.out.2.1.below HBF.out) (HPP.out.2.2.1.below HBF.out))
        have HMD := Lib.hid (fun W (hb : Below w.heap.size w W) => model_any c.h c.m c.ph c.pm c.parts (.slice A1 c.parts.length d1) A none rn 0 cc 0 _ W (HPP.out.1.below hb))
        have HCM := Lib.hid (check_model c rn 0 HRN.out (by have := HRP.out; omega) (by rw [← HHS.out]; simp))
        have a0 := RC.out.cell (show 0 < 8 by omega)
        have a1' := RC.out.cell (show 1 < 8 by omega)
        have a2' := RC.out.cell (show 2 < 8 by omega)
        have a3 := RC.out.cell (show 3 < 8 by omega)
        have a4 := RC.out.cell (show 4 < 8 by omega)
        have a5 := RC.out.cell (show 5 < 8 by omega)
        have a6 := RC.out.cell (show 6 < 8 by omega)
        have a7 := RC.out.cell (show 7 < 8 by omega)
        dsimp only [cfgF] at a0 a1' a2' a3 a4 a5 a6 a7
        rw [← HHS.out] at a7 HCK
        unfold cfgA at HCK
        obtain ⟨z, hz⟩ : ∃ z, z = checkT c := ⟨_, rfl⟩
        rw [← hz] at HCK HCM
        clear hz
        go_wp2_with fail
        refine HCK.out.mono ?_
        rintro e w6 ⟨rfl, hb6⟩
        have hq6 := below_row hb6 RQ.out RQ.out.lt
        have HB6 := Lib.hid (HBF.out.trans (hb6.mono HBF.out.size))
        have b0 := hq6.cell (show 0 < 7 by omega)
        have b1 := hq6.cell (show 1 < 7 by omega)
        have b2 := hq6.cell (show 2 < 7 by omega)
        have b3 := hq6.cell (show 3 < 7 by omega)
        have b4 := hq6.cell (show 4 < 7 by omega)
        have b5 := hq6.cell (show 5 < 7 by omega)
        have b6 := hq6.cell (show 6 < 7 by omega)
        dsimp only [mdF] at b0 b1 b2 b3 b4 b5 b6
        clear hq6 hb6 a0 a1' a2' a3 a4 a5 a6 a7
        by_cases h124 : z = 124
        · subst h124
          clear HCM
          go_wp2_with fail
          refine (chk_awake _).mono ?_
          rintro e w7 ⟨rfl, hb7⟩
          have HB7 := Lib.hid (HB6.out.trans (hb7.mono HB6.out.size))
          clear hb7
          go_wp2_with fail
          go_ret
          exact ⟨rfl, HB7.out⟩
        · have i4 : (z == 124) = false := by rw [beq_eq_false_iff_ne]; exact h124
          have hiff := HCM.out h124
          obtain ⟨y, hy⟩ : ∃ y, y = modelT c.h c.m c.ph c.pm c.parts rn 0 := ⟨_, rfl⟩
          have HMD2 := Lib.hid (hy ▸ HMD.out w6 HB6.out)
          rw [← hy] at hiff
          clear h124 hy HCM HMD
          go_wp2_with fail
          refine HMD2.out.mono ?_
          rintro e w7 ⟨rfl, hb7⟩
          have HB7 := Lib.hid (HB6.out.trans (hb7.mono HB6.out.size))
          clear hb7 HMD2
          by_cases hz0 : z = 0
          · have hy0 : y = 0 := hiff.1 hz0
            subst hz0
            subst hy0
            clear hiff
            go_wp2_with fail
            refine (chk_awake _).mono ?_
            rintro e w8 ⟨rfl, hb8⟩
            have HB8 := Lib.hid (HB7.out.trans (hb8.mono HB7.out.size))
            clear hb8
            go_wp2_with fail
            go_ret
            exact ⟨rfl, HB8.out⟩
          · have hy0 : ¬ y = 0 := fun h => hz0 (hiff.2 h)
            have j1 : (z == 0) = false := by rw [beq_eq_false_iff_ne]; exact hz0
            have j2 : (y == 0) = false := by rw [beq_eq_false_iff_ne]; exact hy0
            clear hiff hz0 hy0
            go_wp2_with fail
            refine (chk_awake _).mono ?_
            rintro e w8 ⟨rfl, hb8⟩
            have HB8 := Lib.hid (HB7.out.trans (hb8.mono HB7.out.size))
            clear hb8
            go_wp2_with fail
            go_ret
            exact ⟨rfl, HB8.out⟩
theorem checkModel_walk {H : Type} {enc : TypeId × Value → H} {W : World} {r : Reach} {b0 : Nat} {d : DataW H} {p : List MemPlace} (v : Value) (a1 a2 : Int) (h0 : DataW.Trod enc Try.prog W 0 (fun _ => true) true 25 v d p) (hval : Value.okWide Try.prog W r b0 25 v) (hs : SzB d 25) :
    Calls Try.prog 6 #[v, .int .i64 a1, .int .i64 a2] W fun e w' => e = .returned (.bool true) ∧ Below W.heap.size W w' := by
  obtain ⟨c, vp, vc, vq, rfl, h1, h2, h3, h4, h5, h6, -⟩ := open_cfg hval h0 hs
  exact checkModel_main c vp vc vq a1 a2 W h1 h2 h3 h4 h5 h6
end Go.Proofs.Ytiadfmhodlbkiaa
