/-
  THE WALK OF package compile's list: the code of statements. Conditions: an Op is a byte; code of at most 45000 bytes.
-/
import Derived.Test.YthmpagehmfillaaQ35
import Derived.Test.YthmpagehmfillaaQ36
import Derived.StillTailTactics
import Derived.Deep.DeepCutAuto
namespace Go.Proofs.Ythmpagehmfillaa
open Go.RowKit
set_option linter.unusedSimpArgs false
set_option linter.unusedVariables false
set_option maxRecDepth 100000
theorem jmp_ok (n p : Nat) (hn : n ≤ 65535) : putE ⟨29, 0, 0, (n : Int)⟩ p = 0 ↔ ¬ ((n : Int) - p - 2 < -128 ∨ 127 < (n : Int) - p - 2) := by
  have hr : rightI 29 0 0 (n : Int) = true := by
    simp [rightI, rightX, shp, inI]
    omega
  unfold putE
  show (if rightI 29 0 0 (n : Int) = false then 110 else if (shp 29).jump = true ∧ ((n : Int) - p - 2 < -128 ∨ 127 < (n : Int) - p - 2) then 125 else 0) = 0 ↔ _
  rw [hr, if_neg (by decide)]
  by_cases h : (n : Int) - p - 2 < -128 ∨ 127 < (n : Int) - p - 2
  · rw [if_pos ⟨rfl, h⟩]
    exact ⟨fun e => (by cases e), fun e => absurd h e⟩
  · rw [if_neg (fun e => h e.2)]
    exact ⟨fun _ => h, fun _ => rfl⟩
theorem if_short {p sb en : Nat} (hp : p ≤ 50000) (hs : sb ≤ 6000) (he : en ≤ 3) : decide (putE ⟨29, 0, 0, ((p + overK sb en + sb + en : Nat) : Int)⟩ p = 0) = decide (overK sb en = 2) := by
  have ho := overK_le sb en
  rw [decide_eq_decide, jmp_ok _ _ (by omega)]
  unfold overK
  split <;> omega
theorem do_short {p fr : Nat} (hp : p ≤ 50000) (hf : fr ≤ p) : decide (putE ⟨29, 0, 0, (fr : Int)⟩ p = 0) = decide (p + 2 ≤ 128 + fr) := by
  rw [decide_eq_decide, jmp_ok _ _ (by omega)]
  omega
theorem lay_m {P : Nat → Prop} {pm pb p8 p9 : Nat} (o : Nat) (ho : o < 256) (en se : Nat) (out : List Nat) (w : World) (h : MkR P w pm out) (hl : out.length ≤ 50000) (hen : en ≤ 3) (hse : se ≤ 6000)
    (cb : w.cell? ⟨pb, 0, none⟩ = some (.pointer (some ⟨pm, 0, none⟩))) (c8 : w.cell? ⟨p8, 0, none⟩ = some (.int .i64 en)) (c9 : w.cell? ⟨p9, 0, none⟩ = some (.int .i64 se)) :
    Calls Try.prog 55 #[.int .u8 o, .pointer (some ⟨pb, 0, none⟩), .pointer (some ⟨p8, 0, none⟩), .pointer (some ⟨p9, 0, none⟩)] w fun e w' => e = .returned (.tuple #[]) ∧ MkR P w' pm (putO out ⟨o, 0, 0, ((out.length + en + se : Nat) : Int)⟩) ∧ Kep P w w' := by
  obtain ⟨A, c, c4⟩ := h.val
  have hl2 : (out.length : Int) ≤ 50000 := by omega
  have hs : ((out.length + en + se : Nat) : Int) = (out.length : Int) + en + se := by push_cast; rfl
  have HPS := Lib.hid (show ∀ W, MkR P W pm out → Calls Try.prog 27 #[.pointer (some ⟨pm, 0, none⟩), .agg #[.int .u8 o, .int .i64 0, .int .i64 0, .int .i64 ((out.length : Int) + en + se)]] W fun e w' => e = .returned (.tuple #[]) ∧ MkR P w' pm (putO out ⟨o, 0, 0, ((out.length + en + se : Nat) : Int)⟩) ∧ Kep P W w' from fun W hW => by rw [← hs]; exact put_m ⟨o, 0, 0, ((out.length + en + se : Nat) : Int)⟩ ho out W hW (by omega))
  have HM := Lib.hid h
  clear h hs ho
  go_enter Try.func55, Try.ntmps55
  go_upto_region 0 with fail
  go_still_tail 12, (by kernel_rfl)
  change wpList _ _ _ _ _ w.drew
  go_wp2_with fail
  refine (HPS.out _ (HM.out.drewN 1)).mono ?_
  rintro e w4 ⟨rfl, hm4, hk4⟩
  have H4 := Lib.hid (And.intro hm4 hk4)
  clear hm4 hk4 HPS c4
  go_wp2_with fail
  go_end0
  exact ⟨rfl, H4.out.1, ((Kep.refl P w).drewN 1).trans H4.out.2⟩
theorem keep2' {w1 : World} (a b : Array Value) (t u : TypeId) : (∀ j, ((w1.alloc (.cells a t)).alloc (.cells b u)).cell? ⟨w1.heap.size, j, none⟩ = a[j]?) ∧ (∀ j, ((w1.alloc (.cells a t)).alloc (.cells b u)).cell? ⟨w1.heap.size + 1, j, none⟩ = b[j]?) ∧ Below w1.heap.size w1 ((w1.alloc (.cells a t)).alloc (.cells b u)) ∧ w1.heap.size + 1 < ((w1.alloc (.cells a t)).alloc (.cells b u)).heap.size := by
  have e := World.size_alloc w1 (.cells a t)
  have e2 := World.size_alloc (w1.alloc (.cells a t)) (.cells b u)
  have h1 := heap_alloc_new w1 (.cells a t)
  have h2 := heap_alloc_new (w1.alloc (.cells a t)) (.cells b u)
  have hb : Below w1.heap.size w1 (w1.alloc (.cells a t)) := (Below.refl _ _).alloc (Nat.le_refl _) _
  have hb2 : Below (w1.alloc (.cells a t)).heap.size (w1.alloc (.cells a t)) ((w1.alloc (.cells a t)).alloc (.cells b u)) := (Below.refl _ _).alloc (Nat.le_refl _) _
  rw [e] at h2
  exact ⟨fun j => cell_of_row _ _ _ _ _ _ ((hb2.block _ (by omega)).trans h1), fun j => cell_of_row _ _ _ _ _ _ h2, hb.trans (hb2.mono (by omega)), by omega⟩
theorem StAt.kep {P : Nat → Prop} {w w1 : World} {g o : Nat} {x : StS} {vb ve : Value} (h : StAt w g o x vb ve) (hk : Kep P w w1) (hg : P g) : StAt w1 g o x vb ve :=
  ⟨Nat.lt_of_lt_of_le h.1 hk.size, fun m hm => hk.cell (p := ⟨g, o + m, none⟩) hg (h.2 m hm)⟩
def LsR (P : Nat → Prop) (T : Sts) (pm : Nat) (out : List Nat) (w : World) (s14 : Value) (wr : World) : Prop :=
  ∃ (k : Nat) (o : List Nat), k ≤ T.len ∧ s14 = .int .i64 k ∧ MkR P wr pm o ∧ Kep P w wr ∧ genO (Sts.drp k T) o = genO T out ∧ o.length + 12 * (Sts.drp k T).all ≤ 45000
/-- What list comes to. -/
def LsC (N : Nat) : Prop := ∀ (T : Sts) (v : Value) (S P : Nat → Prop) (pm : Nat) (out : List Nat) (w : World), T.all < N → T.all ≤ 3000 → T.b8 → Tr w S v T → (∀ k, S k → P k) → MkR P w pm out → out.length + 12 * T.all ≤ 45000 →
    Calls Try.prog 26 #[.pointer (some ⟨pm, 0, none⟩), v] w fun e w' => e = .returned (.tuple #[]) ∧ MkR P w' pm (genO T out) ∧ Kep P w w'
set_option maxHeartbeats 16000000 in
theorem list_any : ∀ (N : Nat), LsC N := by
  intro N
  induction N with
  | zero => intro T v S P pm out w h; exact absurd h (Nat.not_lt_zero _)
  | succ N ih =>
    intro T v S P pm out w hN h3 h8 hT hSP hM hO
    obtain ⟨A1, c1, rfl, -, -⟩ := hT.frm
    have hba : Below w.heap.size w (w.alloc (.cells #[.pointer (some ⟨pm, 0, none⟩)] 81)) := (Below.refl _ _).alloc (Nat.le_refl _) _
    have hM1 := hM.more (.cells #[.pointer (some ⟨pm, 0, none⟩)] 81)
    have hcb : (w.alloc (.cells #[.pointer (some ⟨pm, 0, none⟩)] 81)).cell? ⟨w.heap.size, 0, none⟩ = some (.pointer (some ⟨pm, 0, none⟩)) := new_cell _ _ _
    have hT1 := hT.below hba
    obtain ⟨P1, hP1⟩ : ∃ P1 : Nat → Prop, P1 = fun k => P k ∨ k = w.heap.size := ⟨_, rfl⟩
    rw [← hP1] at hM1
    have hpb : P1 w.heap.size := by rw [hP1]; exact .inr rfl
    have hpp : ∀ k, P k → P1 k := by rw [hP1]; exact fun k h => .inl h
    have HX := Lib.hid (And.intro hN (And.intro h3 (And.intro T.len_all h8)))
    have HSP := Lib.hid (fun k hk => hpp k (hSP k hk))
    have HPP := Lib.hid hpp
    have HPB := Lib.hid hpb
    have HBA := Lib.hid hba
    have IH := Lib.hid ih
    clear hN h3 h8 hT hSP hM hpb hpp hP1 ih hba
    go_enter Try.func26, Try.ntmps26
    go_upto_region 1 with fail
    generalize w.alloc (.cells #[.pointer (some ⟨pm, 0, none⟩)] 81) = W1 at *
    have R0 : LsR P1 T pm out W1 (.int .i64 0) W1 := ⟨0, out, Nat.zero_le _, rfl, hM1, Kep.refl _ _, rfl, hO⟩
    have HR0 := Lib.hid R0
    have HT := Lib.hid hT1
    have HCB := Lib.hid hcb
    clear R0 hM1 hT1 hcb hO
    go_wp2_with fail
    go_loopw [14] (fun s14 wr => LsR P1 T pm out W1 s14 wr) (fun s _ => T.len - (intOf s).toNat)
    case atStart => exact HR0.out
    case round =>
      clear HR0
      obtain ⟨k, o1, hk, rfl, hm, hkp, hge, hol⟩ := hrel
      have hTr : Tr wr S (.slice A1 T.len c1) T := HT.out.kep hkp HSP.out
      have hcb : wr.cell? ⟨w.heap.size, 0, none⟩ = some (.pointer (some ⟨pm, 0, none⟩)) := hkp.cell (p := ⟨w.heap.size, 0, none⟩) HPB.out HCB.out
      by_cases h0 : k < T.len
      · have b1 : (k : Int) < (T.len : Int) := by omega
        have b0 : (0 : Int) ≤ (k : Int) := by omega
        obtain ⟨g, o, vb, ve, rfl, hsg, hg, hbT, heT, hcl⟩ := hTr.nth h0
        have hna := Sts.nth_all h0
        have h8 := Sts.b8_nth HX.out.2.2.2 h0
        have hgd := genO_drp h0 o1
        have hda := Sts.drp_all h0
        have hx : StAt wr g (o + k * 13) (T.nth k) vb ve := ⟨hg, hcl⟩
        have hgl := gen1_len (T.nth k) o1
        generalize T.nth k = x at *
        obtain ⟨B1, d1, rfl, -, -⟩ := hbT.frm
        obtain ⟨E1, n1, rfl, -, -⟩ := heT.frm
        rw [hgd] at hge
        rw [hda] at hol
        have hkl : k ≤ 100000 := by have := HX.out; omega
        have HG := Lib.hid hge
        have HOL := Lib.hid (And.intro hol (And.intro hna (And.intro h8 (And.intro hsg hgl))))
        have HM := Lib.hid (And.intro hm hkp)
        have HTT := Lib.hid (And.intro hbT heT)
        have HXX := Lib.hid hx
        have hl0 : (o1.length : Int) ≤ 45000 := by omega
        have f0 := hcl 0 (by omega)
        simp only [smF] at f0
        rw [Nat.add_zero] at f0
        clear hTr hbT heT hna hsg hg h8 hx hge hol hm hkp hgd hda hgl
        by_cases k2 : x.k = 2
        · have i2 : ((x.k : Int) == 2) = true := by rw [k2]; rfl
          have f6 := hcl 6 (by omega)
          have f7 := hcl 7 (by omega)
          have f8 := hcl 8 (by omega)
          have f9 := hcl 9 (by omega)
          simp only [smF] at f6 f7 f8 f9
          have hgen : gen1 x o1 = genO x.e (endO (genO x.b (ifO o1 x.c (sizeT x.b) (endK (sizeT x.e) x.e.len))) (endK (sizeT x.e) x.e.len) (sizeT x.e)) := by unfold gen1; rw [if_pos k2]
          have HGS := Lib.hid (HSP.out g HOL.out.2.2.2.1)
          have HGN := Lib.hid hgen
          have hsb := sizeT_le x.b
          have hse := sizeT_le x.e
          have hen := endK_le (sizeT x.e) x.e.len
          have hen3 : endK (sizeT x.e) x.e.len = 0 ∨ endK (sizeT x.e) x.e.len = 2 ∨ endK (sizeT x.e) x.e.len = 3 := by
            unfold endK
            split
            · exact .inl rfl
            split
            · exact .inr (.inl rfl)
            · exact .inr (.inr rfl)
          have hov : overK (sizeT x.b) (endK (sizeT x.e) x.e.len) ≤ 5 := by have := overK_le (sizeT x.b) (endK (sizeT x.e) x.e.len); omega
          clear k2 hcl hgen
          go_upto_region 8 with fail
          go_still_tail 6, (by kernel_rfl)
          change wpList _ _ _ _ _ wr.drew
          go_wp2_with fail
          refine (put_m x.c.i HOL.out.2.2.1.2.2.1 o1 _ (HM.out.1.drewN 1) (by have := HOL.out; omega)).mono ?_
          rintro e w3 ⟨rfl, hm3, hk3⟩
          have hk3' : Kep P1 wr w3 := ((Kep.refl P1 wr).drewN 1).trans hk3
          have hx3 := HXX.out.kep hk3' HGS.out
          have hbr := branch_of hx3 ⟨B1, d1, rfl⟩ ⟨E1, n1, rfl⟩ (fun W hW => length_any _ x.b _ S W (Nat.lt_succ_self _) (by have := HX.out; have := HOL.out; omega) HOL.out.2.2.1.2.2.2.1 ((HTT.out.1.kep hk3' HSP.out).below hW)) (fun W hW => length_any _ x.e _ S W (Nat.lt_succ_self _) (by have := HX.out; have := HOL.out; omega) HOL.out.2.2.1.2.2.2.2 ((HTT.out.2.kep hk3' HSP.out).below hW))
          obtain ⟨ov, hov'⟩ : ∃ n, n = overK (sizeT x.b) (endK (sizeT x.e) x.e.len) := ⟨_, rfl⟩
          obtain ⟨en, hen'⟩ : ∃ n, n = endK (sizeT x.e) x.e.len := ⟨_, rfl⟩
          obtain ⟨sb, hsb'⟩ : ∃ n, n = sizeT x.b := ⟨_, rfl⟩
          obtain ⟨se, hse'⟩ : ∃ n, n = sizeT x.e := ⟨_, rfl⟩
          rw [← hov', ← hen', ← hsb', ← hse'] at hbr
          rw [← hsb', ← hen', ← hse'] at HGN
          rw [← hov'] at hov
          rw [← hen'] at hen hen3
          rw [← hsb'] at hsb
          rw [← hse'] at hse
          rw [← hsb', ← hen'] at hov'
          have HLT := Lib.hid hov'
          clear hsb' hse' hen' hov' hx3
          have HBR := Lib.hid hbr
          have HK3 := Lib.hid hk3'
          have HM3 := Lib.hid hm3
          obtain ⟨o2, ho2⟩ : ∃ o2, o2 = putO o1 x.c.i := ⟨_, rfl⟩
          have ho2l := putO_len o1 x.c.i
          rw [← ho2] at HM3 ho2l
          have HO2 := Lib.hid (And.intro ho2 ho2l)
          have hl2 : (o2.length : Int) ≤ 46000 := by have := HOL.out; omega
          clear hm3 hk3 f0 f6 f7 f8 f9 hcb ho2 ho2l hbr hk3' hl0
          go_wp2_with fail
          refine HBR.out.mono ?_
          rintro e w4 ⟨rfl, hb4⟩
          have hm4 := HM3.out.keep hb4
          have hk4 : Kep P1 wr w4 := HK3.out.trans (Kep.below hb4)
          have hm5 := (hm4.more (.cells #[.int .i64 en] 3)).more (.cells #[.int .i64 se] 3)
          have hk5 : Kep P1 wr ((w4.alloc (.cells #[.int .i64 en] 3)).alloc (.cells #[.int .i64 se] 3)) := (hk4.alloc _).alloc _
          obtain ⟨q8, q9, -, q5⟩ := keep2' (w1 := w4) #[.int .i64 en] #[.int .i64 se] 3 3
          have c8 := q8 0
          have c9 := q9 0
          simp only [List.getElem?_toArray, List.getElem?_cons_zero] at c8 c9
          obtain ⟨P2, hP2⟩ : ∃ P2 : Nat → Prop, P2 = fun k => (P1 k ∨ k = w4.heap.size) ∨ k = (w4.alloc (.cells #[.int .i64 en] 3)).heap.size := ⟨_, rfl⟩
          rw [← hP2] at hm5
          have HPQ := Lib.hid (show ∀ k, P1 k → P2 k by rw [hP2]; exact fun k h => .inl (.inl h))
          have HP8 := Lib.hid (show P2 w4.heap.size by rw [hP2]; exact .inl (.inr rfl))
          have HP9 := Lib.hid (show P2 (w4.heap.size + 1) by rw [hP2]; exact .inr (by rw [World.size_alloc]))
          clear hm4 hk4 hb4 hP2 q8 q9 q5 HBR
          go_upto_region 10 with fail
          generalize (w4.alloc (.cells #[.int .i64 en] 3)).alloc (.cells #[.int .i64 se] 3) = w5 at *
          have hcb5 : w5.cell? ⟨w.heap.size, 0, none⟩ = some (.pointer (some ⟨pm, 0, none⟩)) := (HM.out.2.trans hk5).cell (p := ⟨w.heap.size, 0, none⟩) HPB.out HCB.out
          have hx5 := HXX.out.kep hk5 HGS.out
          have f5 := hx5.2 5 (by omega)
          simp only [smF] at f5
          obtain ⟨Ao, co, c4⟩ := hm5.val
          have htg : ((o2.length + ov + sb + en : Nat) : Int) = (o2.length : Int) + ov + sb + en := by push_cast; rfl
          have HJ := Lib.hid (show ∀ W, MkR P2 W pm o2 → Calls Try.prog 54 #[.pointer (some ⟨pm, 0, none⟩), .bool x.c.nt, .int .i64 ((o2.length : Int) + ov + sb + en)] W fun e w' => e = .returned (.tuple #[]) ∧ MkR P2 w' pm (ifO o1 x.c sb en) ∧ Kep P2 W w' from fun W hW => by
            have hj := jump_m x.c.nt ((o2.length + ov + sb + en : Nat) : Int) o2 W hW (by have := HOL.out; omega)
            rw [HLT.out, if_short (by omega) hsb hen, ← HLT.out, htg] at hj
            have hif : ifO o1 x.c sb en = jumpO o2 x.c.nt ((o2.length : Int) + ov + sb + en) (decide (ov = 2)) := by
              rw [← htg, HLT.out, HO2.out.1]
              rfl
            rw [hif]
            exact hj)
          have HM5 := Lib.hid hm5
          have HK5 := Lib.hid hk5
          have HC89 := Lib.hid (And.intro c8 c9)
          have ho3l := ifO_len o1 x.c sb en
          obtain ⟨o3, ho3⟩ : ∃ o3, o3 = ifO o1 x.c sb en := ⟨_, rfl⟩
          rw [← ho3] at HJ HGN ho3l
          have HO3 := Lib.hid ho3l
          clear hm5 hk5 hx5 htg c9 ho3 ho3l HM3 HK3 HO2 HLT
          go_still_tail 17, (by kernel_rfl)
          change wpList _ _ _ _ _ w5.drew
          go_wp2_with fail
          refine (HJ.out _ (HM5.out.drewN 1)).mono ?_
          rintro e w6 ⟨rfl, hm6, hk6⟩
          have hk6' : Kep P2 w5 w6 := ((Kep.refl P2 w5).drewN 1).trans hk6
          have hx6 := HXX.out.kep (HK5.out.trans (hk6'.less HPQ.out)) HGS.out
          have hcb6 : w6.cell? ⟨w.heap.size, 0, none⟩ = some (.pointer (some ⟨pm, 0, none⟩)) := hk6'.cell (p := ⟨w.heap.size, 0, none⟩) (HPQ.out _ HPB.out) hcb5
          have fa := hx6.2 10 (by omega)
          simp only [smF] at fa
          have HM6 := Lib.hid (And.intro hm6 hk6')
          clear hm6 hk6 hk6' hx6 hcb5 f5 c4 c8 HJ HM5
          go_upto_region 11 with fail
          go_still_tail 5, (by kernel_rfl)
          change wpList _ _ _ _ _ w6.drew
          go_wp2_with fail
          refine (IH.out x.b (.slice B1 x.b.len d1) S P2 pm o3 _ (by have := HX.out; have := HOL.out; omega) (by have := HX.out; have := HOL.out; omega) HOL.out.2.2.1.2.2.2.1 (HTT.out.1.kep ((HK5.out.trans (HM6.out.2.less HPQ.out)).drewN 1) HSP.out) (fun k hk => HPQ.out k (HSP.out k hk)) (HM6.out.1.drewN 1) (by have := HOL.out; have := HO3.out; omega)).mono ?_
          rintro e w7 ⟨rfl, hm7, hk7⟩
          have hk7' : Kep P2 w5 w7 := (HM6.out.2.drewN 1).trans hk7
          have hcb7 : w7.cell? ⟨w.heap.size, 0, none⟩ = some (.pointer (some ⟨pm, 0, none⟩)) := (HM.out.2.trans (HK5.out.trans (hk7'.less HPQ.out))).cell (p := ⟨w.heap.size, 0, none⟩) HPB.out HCB.out
          have hx7 := HXX.out.kep (HK5.out.trans (hk7'.less HPQ.out)) HGS.out
          have fb := hx7.2 11 (by omega)
          simp only [smF] at fb
          have c8 : w7.cell? ⟨w4.heap.size, 0, none⟩ = some (.int .i64 en) := hk7'.cell (p := ⟨w4.heap.size, 0, none⟩) HP8.out HC89.out.1
          have c9 : w7.cell? ⟨w4.heap.size + 1, 0, none⟩ = some (.int .i64 se) := hk7'.cell (p := ⟨w4.heap.size + 1, 0, none⟩) HP9.out HC89.out.2
          have ho4l := genO_len x.b o3
          obtain ⟨o4, ho4⟩ : ∃ o4, o4 = genO x.b o3 := ⟨_, rfl⟩
          rw [← ho4] at hm7 HGN ho4l
          have HO4 := Lib.hid ho4l
          have HM7 := Lib.hid (And.intro hm7 hk7')
          have HX7 := Lib.hid hx7
          clear hm7 hk7 hk7' hx7 ho4 ho4l hcb6 fa HM6 HC89
          rcases hen3 with rfl | rfl | rfl
          · go_upto_region 18 with fail
            go_still_tail 5, (by kernel_rfl)
            change wpList _ _ _ _ _ w7.drew
            go_wp2_with fail
            refine (IH.out x.e (.slice E1 x.e.len n1) S P2 pm o4 _ (by have := HX.out; have := HOL.out; omega) (by have := HX.out; have := HOL.out; omega) HOL.out.2.2.1.2.2.2.2 (HTT.out.2.kep ((HK5.out.trans (HM7.out.2.less HPQ.out)).drewN 1) HSP.out) (fun k hk => HPQ.out k (HSP.out k hk)) (HM7.out.1.drewN 1) (by have := HOL.out; have := HO3.out; have := HO4.out; omega)).mono ?_
            rintro e wy ⟨rfl, hmy, hky⟩
            have hgy : genO x.e o4 = gen1 x o1 := by rw [HGN.out]; exact congrArg (genO x.e) rfl
            rw [hgy] at hmy
            have HY := Lib.hid (And.intro (hmy.less HPQ.out) ((HM.out.2.trans (HK5.out.trans (HM7.out.2.less HPQ.out))).trans ((((Kep.refl P2 w7).drewN 1).trans hky).less HPQ.out)))
            clear hmy hky hgy
            go_wp2_with fail
            go_roundw
            case rel => exact ⟨k + 1, gen1 x o1, by omega, by go_num, HY.out.1, HY.out.2, HG.out, by have := HOL.out; omega⟩
            case measure => simp [intOf]; omega
          · have HLY := Lib.hid (lay_m 29 (by omega) 2 se o4 w7 HM7.out.1 (by have := HOL.out; have := HO3.out; have := HO4.out; omega) (by omega) hse hcb7 c8 c9)
            go_wp2_with fail
            refine HLY.out.mono ?_
            rintro e w9 ⟨rfl, hm9, hk9⟩
            have hk9' : Kep P2 w5 w9 := HM7.out.2.trans hk9
            have hcb9 : w9.cell? ⟨w.heap.size, 0, none⟩ = some (.pointer (some ⟨pm, 0, none⟩)) := hk9.cell (p := ⟨w.heap.size, 0, none⟩) (HPQ.out _ HPB.out) hcb7
            have fb9 := (HX7.out.kep (hk9.less HPQ.out) HGS.out).2 11 (by omega)
            simp only [smF] at fb9
            have ho5l := putO_len o4 ⟨29, 0, 0, ((o4.length + (29 - 27) + se : Nat) : Int)⟩
            obtain ⟨o5, ho5⟩ : ∃ o5, o5 = putO o4 ⟨29, 0, 0, ((o4.length + (29 - 27) + se : Nat) : Int)⟩ := ⟨_, rfl⟩
            rw [← ho5] at ho5l
            have hm9' : MkR P2 w9 pm o5 := by rw [ho5]; exact hm9
            have HE5 := Lib.hid ho5
            have HO5 := Lib.hid (show o3.length ≤ o5.length ∧ o5.length ≤ o3.length + 12 * x.b.all + 3 by have := HO4.out; omega)
            have HM9 := Lib.hid (And.intro hm9' hk9')
            clear hm9 hk9 hk9' hm9' ho5 ho5l hcb7 fb c8 c9 HLY
            go_upto_region 18 with fail
            go_still_tail 5, (by kernel_rfl)
            change wpList _ _ _ _ _ w9.drew
            go_wp2_with fail
            refine (IH.out x.e (.slice E1 x.e.len n1) S P2 pm o5 _ (by have := HX.out; have := HOL.out; omega) (by have := HX.out; have := HOL.out; omega) HOL.out.2.2.1.2.2.2.2 (HTT.out.2.kep ((HK5.out.trans (HM9.out.2.less HPQ.out)).drewN 1) HSP.out) (fun k hk => HPQ.out k (HSP.out k hk)) (HM9.out.1.drewN 1) (by have := HOL.out; have := HO3.out; have := HO5.out; omega)).mono ?_
            rintro e wy ⟨rfl, hmy, hky⟩
            have hgy : genO x.e o5 = gen1 x o1 := by rw [HGN.out]; exact congrArg (genO x.e) HE5.out
            rw [hgy] at hmy
            have HY := Lib.hid (And.intro (hmy.less HPQ.out) ((HM.out.2.trans (HK5.out.trans (HM9.out.2.less HPQ.out))).trans ((((Kep.refl P2 w9).drewN 1).trans hky).less HPQ.out)))
            clear hmy hky hgy
            go_wp2_with fail
            go_roundw
            case rel => exact ⟨k + 1, gen1 x o1, by omega, by go_num, HY.out.1, HY.out.2, HG.out, by have := HOL.out; omega⟩
            case measure => simp [intOf]; omega
          · have HLY := Lib.hid (lay_m 30 (by omega) 3 se o4 w7 HM7.out.1 (by have := HOL.out; have := HO3.out; have := HO4.out; omega) (by omega) hse hcb7 c8 c9)
            go_wp2_with fail
            refine HLY.out.mono ?_
            rintro e w9 ⟨rfl, hm9, hk9⟩
            have hk9' : Kep P2 w5 w9 := HM7.out.2.trans hk9
            have hcb9 : w9.cell? ⟨w.heap.size, 0, none⟩ = some (.pointer (some ⟨pm, 0, none⟩)) := hk9.cell (p := ⟨w.heap.size, 0, none⟩) (HPQ.out _ HPB.out) hcb7
            have fb9 := (HX7.out.kep (hk9.less HPQ.out) HGS.out).2 11 (by omega)
            simp only [smF] at fb9
            have ho5l := putO_len o4 ⟨30, 0, 0, ((o4.length + (30 - 27) + se : Nat) : Int)⟩
            obtain ⟨o5, ho5⟩ : ∃ o5, o5 = putO o4 ⟨30, 0, 0, ((o4.length + (30 - 27) + se : Nat) : Int)⟩ := ⟨_, rfl⟩
            rw [← ho5] at ho5l
            have hm9' : MkR P2 w9 pm o5 := by rw [ho5]; exact hm9
            have HE5 := Lib.hid ho5
            have HO5 := Lib.hid (show o3.length ≤ o5.length ∧ o5.length ≤ o3.length + 12 * x.b.all + 3 by have := HO4.out; omega)
            have HM9 := Lib.hid (And.intro hm9' hk9')
            clear hm9 hk9 hk9' hm9' ho5 ho5l hcb7 fb c8 c9 HLY
            go_upto_region 18 with fail
            go_still_tail 5, (by kernel_rfl)
            change wpList _ _ _ _ _ w9.drew
            go_wp2_with fail
            refine (IH.out x.e (.slice E1 x.e.len n1) S P2 pm o5 _ (by have := HX.out; have := HOL.out; omega) (by have := HX.out; have := HOL.out; omega) HOL.out.2.2.1.2.2.2.2 (HTT.out.2.kep ((HK5.out.trans (HM9.out.2.less HPQ.out)).drewN 1) HSP.out) (fun k hk => HPQ.out k (HSP.out k hk)) (HM9.out.1.drewN 1) (by have := HOL.out; have := HO3.out; have := HO5.out; omega)).mono ?_
            rintro e wy ⟨rfl, hmy, hky⟩
            have hgy : genO x.e o5 = gen1 x o1 := by rw [HGN.out]; exact congrArg (genO x.e) HE5.out
            rw [hgy] at hmy
            have HY := Lib.hid (And.intro (hmy.less HPQ.out) ((HM.out.2.trans (HK5.out.trans (HM9.out.2.less HPQ.out))).trans ((((Kep.refl P2 w9).drewN 1).trans hky).less HPQ.out)))
            clear hmy hky hgy
            go_wp2_with fail
            go_roundw
            case rel => exact ⟨k + 1, gen1 x o1, by omega, by go_num, HY.out.1, HY.out.2, HG.out, by have := HOL.out; omega⟩
            case measure => simp [intOf]; omega
        · have i2 : ((x.k : Int) == 2) = false := by rw [beq_eq_false_iff_ne]; omega
          by_cases k3 : x.k = 3
          · have i3 : ((x.k : Int) == 3) = true := by rw [k3]; rfl
            obtain ⟨Ao, co, c4⟩ := HM.out.1.val
            have fa := hcl 10 (by omega)
            simp only [smF] at fa
            have hgen : gen1 x o1 = doO (genO x.b o1) x.c o1.length := by unfold gen1; rw [if_neg k2, if_pos k3]
            have hgb := genO_len x.b o1
            have HGN := Lib.hid (And.intro hgen hgb)
            have HGS := Lib.hid (HSP.out g HOL.out.2.2.2.1)
            clear hgen k2 k3 hcl hgb
            go_upto_region 21 with fail
            go_still_tail 5, (by kernel_rfl)
            change wpList _ _ _ _ _ wr.drew
            go_wp2_with fail
            refine (IH.out x.b (.slice B1 x.b.len d1) S P1 pm o1 _ (by have := HX.out; have := HOL.out; omega) (by have := HX.out; have := HOL.out; omega) HOL.out.2.2.1.2.2.2.1 (HTT.out.1.kep ((Kep.refl P1 wr).drewN 1) HSP.out) HSP.out (HM.out.1.drewN 1) (by have := HOL.out; omega)).mono ?_
            rintro e w3 ⟨rfl, hm3, hk3⟩
            have hx3 := HXX.out.kep (((Kep.refl P1 wr).drewN 1).trans hk3) HGS.out
            have hcb3 : w3.cell? ⟨w.heap.size, 0, none⟩ = some (.pointer (some ⟨pm, 0, none⟩)) := (((Kep.refl P1 wr).drewN 1).trans hk3).cell (p := ⟨w.heap.size, 0, none⟩) HPB.out hcb
            have H3 := Lib.hid (And.intro hm3 ((HM.out.2.drewN 1).trans hk3))
            have HX3 := Lib.hid hx3
            obtain ⟨o2, ho2⟩ : ∃ o2, o2 = genO x.b o1 := ⟨_, rfl⟩
            rw [← ho2] at H3 HGN
            clear hm3 hk3 f0 fa c4 hcb ho2
            have f6 := hx3.2 6 (by omega)
            have f7 := hx3.2 7 (by omega)
            have f8 := hx3.2 8 (by omega)
            have f9 := hx3.2 9 (by omega)
            simp only [smF] at f6 f7 f8 f9
            clear hx3
            go_upto_region 22 with fail
            go_still_tail 6, (by kernel_rfl)
            change wpList _ _ _ _ _ w3.drew
            go_wp2_with fail
            refine (put_m x.c.i HOL.out.2.2.1.2.2.1 o2 _ (H3.out.1.drewN 1) (by have := HOL.out; have := HGN.out; omega)).mono ?_
            rintro e w4 ⟨rfl, hm4, hk4⟩
            have hx4 := HX3.out.kep (((Kep.refl P1 w3).drewN 1).trans hk4) HGS.out
            have hcb4 : w4.cell? ⟨w.heap.size, 0, none⟩ = some (.pointer (some ⟨pm, 0, none⟩)) := (((Kep.refl P1 w3).drewN 1).trans hk4).cell (p := ⟨w.heap.size, 0, none⟩) HPB.out hcb3
            have H4 := Lib.hid (And.intro hm4 ((H3.out.2.drewN 1).trans hk4))
            obtain ⟨o3, ho3⟩ : ∃ o3, o3 = putO o2 x.c.i := ⟨_, rfl⟩
            have ho3l := putO_len o2 x.c.i
            rw [← ho3] at H4 ho3l
            have HO3 := Lib.hid (And.intro ho3 ho3l)
            clear hm4 hk4 f6 f7 f8 f9 hcb3 ho3 ho3l H3 HX3
            have f5 := hx4.2 5 (by omega)
            simp only [smF] at f5
            clear hx4
            go_upto_region 23 with fail
            go_still_tail 8, (by kernel_rfl)
            change wpList _ _ _ _ _ w4.drew
            go_wp2_with fail
            refine (jump_m (!x.c.nt) (o1.length : Int) o3 _ (H4.out.1.drewN 1) (by have := HOL.out; have := HGN.out; have := HO3.out; omega)).mono ?_
            rintro e w5 ⟨rfl, hm5, hk5⟩
            rw [do_short (by have := HOL.out; have := HGN.out; have := HO3.out; omega) (by have := HGN.out; have := HO3.out; omega)] at hm5
            have hgen : gen1 x o1 = jumpO o3 (!x.c.nt) (o1.length : Int) (decide (o3.length + 2 ≤ 128 + o1.length)) := by
              rw [HGN.out.1, HO3.out.1]
              rfl
            rw [← hgen] at hm5
            have H5 := Lib.hid (And.intro hm5 ((H4.out.2.drewN 1).trans hk5))
            clear hm5 hk5 f5 hgen hcb4
            go_wp2_with fail
            go_roundw
            case rel => exact ⟨k + 1, gen1 x o1, by omega, by go_num, H5.out.1, H5.out.2, HG.out, by have := HOL.out; omega⟩
            case measure => simp [intOf]; omega
          · have i3 : ((x.k : Int) == 3) = false := by rw [beq_eq_false_iff_ne]; omega
            have f1 := hcl 1 (by omega)
            have f2 := hcl 2 (by omega)
            have f3 := hcl 3 (by omega)
            have f4 := hcl 4 (by omega)
            simp only [smF] at f1 f2 f3 f4
            have hgen : gen1 x o1 = putO o1 x.i := by unfold gen1; rw [if_neg k2, if_neg k3]
            have HGN := Lib.hid hgen
            clear hgen k2 k3 hcl
            go_upto_region 6 with fail
            go_still_tail 5, (by kernel_rfl)
            change wpList _ _ _ _ _ wr.drew
            go_wp2_with fail
            refine (put_m x.i HOL.out.2.2.1.2.1 o1 _ (HM.out.1.drewN 1) (by have := HOL.out; omega)).mono ?_
            rintro e w3 ⟨rfl, hm, hk3⟩
            have H3 := Lib.hid (And.intro hm ((HM.out.2.drewN 1).trans hk3))
            clear hm hk3 f0 f1 f2 f3 f4
            go_wp2_with fail
            go_roundw
            case rel => exact ⟨k + 1, putO o1 x.i, by omega, by go_num, H3.out.1, H3.out.2, by rw [← HG.out, HGN.out], by have := HOL.out; rw [HGN.out] at this; omega⟩
            case measure => simp [intOf]; omega
      · obtain rfl : k = T.len := by omega
        have b1 : ¬ ((T.len : Int) < (T.len : Int)) := by omega
        rw [Sts.drp_len] at hge
        have HE := Lib.hid (And.intro hm (And.intro hkp hge))
        clear hm hkp hge hTr hcb
        go_wp2_with fail
        go_end0
        have hg : o1 = genO T out := HE.out.2.2
        refine ⟨rfl, ?_, (Kep.below HBA.out).trans (HE.out.2.1.less HPP.out)⟩
        rw [← hg]
        exact HE.out.1.less HPP.out
end Go.Proofs.Ythmpagehmfillaa
