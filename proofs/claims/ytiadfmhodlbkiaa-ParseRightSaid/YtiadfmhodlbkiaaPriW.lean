/-
  THE WALK OF quillpresslaw20.ParseRight. Conditions: none.
-/
import Derived.Test.YtiadfmhodlbkiaaSynW4
import Derived.Test.YtiadfmhodlbkiaaPriL
import Derived.Test.YtiadfmhodlbkiaaPriR
import Derived.Test.YtiadfmhodlbkiaaParA
import Derived.Deep.DeepCutAuto
namespace Go.Proofs.Ytiadfmhodlbkiaa
open Go.RowKit
set_option linter.unusedSimpArgs false
set_option linter.unusedVariables false
def cfgOf : Res CfgS → CfgS
  | .error _ => ⟨0, 0, 0, 0, [], .nil, .nil, false⟩
  | .ok c => c
def fltOf : Res CfgS → Flt
  | .error x => x
  | .ok _ => (0, 0)
/-- What parsing comes to, in one form. -/
theorem ParPost.form {r : Res CfgS} {w w' : World} {e : Ending} (h : ParPost r w e w') : ∃ (c : CfgS) (vp vc vq : Value) (x y : Nat), e = .returned (.tuple #[.agg (cfgA c.h c.m c.ph c.pm vp vc vq c.has), .agg #[.int .i64 x, .int .i64 y]]) ∧ PrT w' (fun k => w.heap.size ≤ k) vp c.parts ∧ Tr w' (fun k => w.heap.size ≤ k) vc c.code ∧ Tr w' (fun k => w.heap.size ≤ k) vq c.post ∧ Below w.heap.size w w' ∧ c = cfgOf r ∧ (x, y) = fltOf r := by
  unfold ParPost at h
  cases r with
  | error x =>
    obtain ⟨rfl, hb⟩ := h
    exact ⟨⟨0, 0, 0, 0, [], .nil, .nil, false⟩, .slice none 0 0, .slice none 0 0, .slice none 0 0, x.1, x.2, rfl, PrT.nil _ _, Tr.nil _ _, Tr.nil _ _, hb, rfl, rfl⟩
  | ok c =>
    obtain ⟨⟨vp, vc, vq, rfl, h1, h2, h3⟩, hb⟩ := h
    exact ⟨c, vp, vc, vq, 0, 0, rfl, h1, h2, h3, hb, rfl, rfl⟩
theorem same_of {r : Res CfgS} {c d : CfgS} {x y x' y' : Nat} (h1 : c = cfgOf r) (h2 : d = cfgOf r) (h3 : (x, y) = fltOf r) (h4 : (x', y') = fltOf r) : d = c ∧ x' = x ∧ y' = y := by
  rw [← h3] at h4
  injection h4 with a b
  exact ⟨h2.trans h1.symm, a, b⟩
theorem strB_app (a b : ByteArray) : strB (a ++ b) = strB a ++ strB b := by
  unfold strB
  rw [ByteArray.data_append, Array.toList_append, List.map_append]
theorem cfgOf_good {s : ByteArray} : CfgG (cfgOf (parseT s)) := by
  cases h : parseT s with
  | error e => exact ⟨Good.nil _, Nat.zero_le _, Good.nil _, Nat.zero_le _, .inr ⟨rfl, rfl, rfl⟩⟩
  | ok c => exact parseT_good h
/-- What is told of a config. -/
theorem cfgG_told {c : CfgS} (h : CfgG c) : rightT true c.code = true ∧ rightT true c.post = true ∧ (rightT false c.code = true → configT c = true) ∧ (c.has = false → c.post.len = 0) := by
  obtain ⟨h1, h2, h3, h4, h5⟩ := h
  have r1 := h1.right h2
  have r2 := h3.right h4
  refine ⟨r1, r2, fun h => ?_, fun h => ?_⟩
  · unfold configT
    rw [h, r2]
    rcases h5 with h5 | ⟨h5, h6, h7⟩
    · rw [h5]; rfl
    · rw [h5, h6, h7]
      cases c.has <;> rfl
  · rcases h5 with h5 | ⟨h5, -⟩
    · rw [h5] at h; cases h
    · rw [h5]; rfl
/-- The same text, said anew. -/
theorem parse_anew {s t : ByteArray} {l : List Tok} (h : lexN (strB s) = .inl l) (hs : s.size ≤ 16384) (ht : t.size ≤ 16384) (e : strB t = tr false (strB s)) : wcR (parseT t) = wcR (parseT s) := by
  obtain ⟨l', h1, h2⟩ := lexN_tr h
  rw [← e] at h1
  have e1 : parseT s = parseL l := by unfold parseT; rw [if_neg (by omega), h]
  have e2 : parseT t = parseL l' := by unfold parseT; rw [if_neg (by omega), h1]
  rw [e1, e2]
  exact parse_lines h2
theorem wc_same {r q : Res CfgS} (h : wcR q = wcR r) : (fltOf q).1 = (fltOf r).1 ∧ (cfgOf q).parts = (cfgOf r).parts ∧ ((cfgOf q).h = (cfgOf r).h ∧ (cfgOf q).m = (cfgOf r).m ∧ (cfgOf q).ph = (cfgOf r).ph ∧ (cfgOf q).pm = (cfgOf r).pm ∧ (cfgOf q).has = (cfgOf r).has) ∧ SamT false (cfgOf r).code (cfgOf q).code ∧ SamT false (cfgOf r).post (cfgOf q).post := by
  cases r with
  | error e =>
    cases q with
    | error f =>
      injection h with h
      injection h with h1 h2
      exact ⟨h1, rfl, ⟨rfl, rfl, rfl, rfl, rfl⟩, trivial, trivial⟩
    | ok d => cases h
  | ok c =>
    cases q with
    | error f => cases h
    | ok d =>
      injection h with h
      unfold ec at h
      injection h with h1 h2 h3 h4 h5 h6 h7 h8
      exact ⟨rfl, h5, ⟨h1, h2, h3, h4, h8⟩, samT_ez h6.symm, samT_ez h7.symm⟩
theorem drop_consP {l : List Nat} {p : Nat} (h : p < l.length) : l.drop p = nth l p :: l.drop (p + 1) := by
  rw [nth_get h]
  exact List.drop_eq_getElem_cons h
/-- What the text's loop keeps. -/
def RgR (s : ByteArray) (s7 s8 s9 : Value) : Prop := ∃ (str : ByteArray) (r : Bool) (k : Nat), s7 = .string str ∧ s8 = .bool r ∧ s9 = .int .i64 k ∧ k ≤ s.size ∧ strB str ++ tr r ((strB s).drop k) = tr false (strB s) ∧ str.size ≤ 7 * k
set_option maxRecDepth 100000 in
set_option maxHeartbeats 8000000 in
theorem parseRight_walk (s : ByteArray) (w : World) (z : s.size ≤ maxLen) : Calls Try.prog 4 #[.string s] w fun e w' => e = .returned (.bool true) ∧ Below w.heap.size w w' := by
  clear z
  by_cases h1 : 4000 < s.size
  · have k1 : (4000 : Int) < s.size := by omega
    clear h1
    go_enter Try.func4, Try.ntmps4
    go_wp2_with fail
    refine (par_awake _).mono ?_
    rintro e w2 ⟨rfl, hb⟩
    have HB := Lib.hid hb
    clear hb
    go_wp2_with fail
    go_ret
    exact ⟨rfl, HB.out⟩
  · have k1 : ¬ (4000 : Int) < s.size := by omega
    have hs16 : s.size ≤ 16384 := by omega
    cases hl : lexN (strB s) with
    | inr n =>
      have e : parseT s = .error (120, n) := by unfold parseT; rw [if_neg (by omega), hl]
      have HT := Lib.hid (fun W => (tokens_any s W hs16))
      rw [hl] at HT
      have HE := Lib.hid (fun W => parse_err (w := W) e)
      clear hl e h1 hs16
      go_enter Try.func4, Try.ntmps4
      go_wp2_with fail
      refine (HE.out _).mono ?_
      rintro e w1 ⟨rfl, hb1⟩
      dsimp only [cfgA]
      go_upto_region 4 with fail
      obtain ⟨ka, kb, kc, kd⟩ := keep2 (w1 := w1) #[.int .i64 0, .int .i64 0, .int .i64 0, .int .i64 0, .slice none 0 0, .slice none 0 0, .slice none 0 0, .bool false] #[.int .i64 120, .int .i64 n] 25 28
      generalize (w1.alloc (.cells #[.int .i64 0, .int .i64 0, .int .i64 0, .int .i64 0, .slice none 0 0, .slice none 0 0, .slice none 0 0, .bool false] 25)).alloc (.cells #[.int .i64 120, .int .i64 n] 28) = V1 at ka kb kc kd ⊢
      have b0 : V1.cell? ⟨w1.heap.size + 1, 0, none⟩ = some (.int .i64 120) := kb 0
      have b1 : V1.cell? ⟨w1.heap.size + 1, 1, none⟩ = some (.int .i64 n) := kb 1
      have HBV := Lib.hid (hb1.trans (kc.mono hb1.size))
      have HK := Lib.hid (And.intro b0 (And.intro b1 kd))
      clear ka kb kc kd hb1 b1
      go_wp2_with fail
      refine (HT.out V1).mono ?_
      rintro e w2 ⟨rfl, hb2⟩
      have e2 := World.size_alloc w2 (.cells #[.int .i64 120, .int .i64 n] 28)
      have hb3 : Below V1.heap.size V1 (w2.alloc (.cells #[.int .i64 120, .int .i64 n] 28)) := hb2.trans (((Below.refl w2.heap.size w2).alloc (Nat.le_refl _) _).mono hb2.size)
      have r3 := flt_row (heap_alloc_new w2 (.cells #[.int .i64 120, .int .i64 n] 28))
      go_upto_region 7 with fail
      generalize w2.alloc (.cells #[.int .i64 120, .int .i64 n] 28) = V2 at *
      have c0 : V2.cell? ⟨w2.heap.size, 0, none⟩ = some (.int .i64 120) := r3.cell (show 0 < 2 by omega)
      have c1 : V2.cell? ⟨w2.heap.size, 1, none⟩ = some (.int .i64 n) := r3.cell (show 1 < 2 by omega)
      have d0 : V2.cell? ⟨w1.heap.size + 1, 0, none⟩ = some (.int .i64 120) := (hb3.cell (p := ⟨w1.heap.size + 1, 0, none⟩) HK.out.2.2).trans HK.out.1
      have d1 : V2.cell? ⟨w1.heap.size + 1, 1, none⟩ = some (.int .i64 n) := (hb3.cell (p := ⟨w1.heap.size + 1, 1, none⟩) HK.out.2.2).trans HK.out.2.1
      have HB3 := Lib.hid (HBV.out.trans (hb3.mono HBV.out.size))
      clear hb2 hb3 r3 e2 b0
      go_wp2_with fail
      refine (par_awake _).mono ?_
      rintro e w4 ⟨rfl, hb4⟩
      have HB4 := Lib.hid (HB3.out.trans (hb4.mono HB3.out.size))
      clear hb4
      go_wp2_with fail
      go_ret
      exact ⟨rfl, HB4.out⟩
    | inl l =>
      have HL := Lib.hid (And.intro hl hs16)
      clear hl h1 hs16
      go_enter Try.func4, Try.ntmps4
      go_wp2_with fail
      refine (parse_any s _).mono ?_
      rintro e w1 hp
      obtain ⟨c, vp, vc, vq, x, y, rfl, hp1, hc1, hq1, hb1, hc, hx⟩ := hp.form
      clear hp
      obtain ⟨A1, n1, rfl⟩ := hp1.form
      obtain ⟨A3, n3, rfl, -, -⟩ := hc1.frm
      obtain ⟨A5, n5, rfl, -, -⟩ := hq1.frm
      have HC := Lib.hid (And.intro hc hx)
      have H1 := Lib.hid (And.intro hp1 (And.intro hc1 hq1))
      have HB1 := Lib.hid hb1
      clear hc hx hp1 hc1 hq1 hb1
      dsimp only [cfgA]
      go_upto_region 4 with fail
      obtain ⟨ka, kb, kc, kd⟩ := keep2 (w1 := w1) #[.int .i64 c.h, .int .i64 c.m, .int .i64 c.ph, .int .i64 c.pm, .slice A1 c.parts.length n1, .slice A3 c.code.len n3, .slice A5 c.post.len n5, .bool c.has] #[.int .i64 x, .int .i64 y] 25 28
      generalize (w1.alloc (.cells #[.int .i64 c.h, .int .i64 c.m, .int .i64 c.ph, .int .i64 c.pm, .slice A1 c.parts.length n1, .slice A3 c.code.len n3, .slice A5 c.post.len n5, .bool c.has] 25)).alloc (.cells #[.int .i64 x, .int .i64 y] 28) = V1 at ka kb kc kd ⊢
      have P1 : ∀ (W : World), Below V1.heap.size V1 W → ∀ j, W.cell? ⟨w1.heap.size, j, none⟩ = #[Value.int .i64 c.h, .int .i64 c.m, .int .i64 c.ph, .int .i64 c.pm, .slice A1 c.parts.length n1, .slice A3 c.code.len n3, .slice A5 c.post.len n5, .bool c.has][j]? := fun W hW j => (hW.cell (p := ⟨w1.heap.size, j, none⟩) (Nat.lt_of_succ_lt kd)).trans (ka j)
      have P2 : ∀ (W : World), Below V1.heap.size V1 W → ∀ j, W.cell? ⟨w1.heap.size + 1, j, none⟩ = #[Value.int .i64 x, .int .i64 y][j]? := fun W hW j => (hW.cell (p := ⟨w1.heap.size + 1, j, none⟩) kd).trans (kb j)
      have K1 := Lib.hid P1
      have K2 := Lib.hid P2
      have HV := Lib.hid (And.intro kc (HB1.out.trans (kc.mono HB1.out.size)))
      clear ka kb kc kd P1 P2
      have hgd := cfgOf_good (s := s)
      rw [← HC.out.1] at hgd
      have htd := cfgG_told hgd
      go_cut [56] (fun s56 wx => s56 = .bool false ∧ Below V1.heap.size V1 wx)
      case first =>
        have b0 := K2.out V1 (Below.refl _ _) 0
        have a5 := K1.out V1 (Below.refl _ _) 5
        simp only [List.getElem?_toArray, List.getElem?_cons_zero, List.getElem?_cons_succ] at b0 a5
        by_cases hx0 : x = 0
        · have i0 : ((x : Int) == 0) = true := by rw [hx0]; rfl
          have HG := Lib.hid (And.intro hgd htd)
          have HTC := Lib.hid (And.intro (H1.out.2.1.below HV.out.1) (H1.out.2.2.below HV.out.1))
          clear hx0 hgd htd
          go_wp2_with fail
          refine (rightT_any true c.code _ _ V1 HG.out.1.1.2.2 (by have := HG.out.1.2.1; omega) HTC.out.1).mono ?_
          rintro e w2 ⟨rfl, hb2⟩
          rw [HG.out.2.1]
          have a6 := K1.out w2 hb2 6
          simp only [List.getElem?_toArray, List.getElem?_cons_zero, List.getElem?_cons_succ] at a6
          have HB2 := Lib.hid hb2
          clear hb2
          go_wp2_with fail
          refine (rightT_any true c.post _ _ w2 HG.out.1.2.2.1.2.2 (by have := HG.out.1.2.2.2.1; omega) (HTC.out.2.below HB2.out)).mono ?_
          rintro e w3 ⟨rfl, hb3⟩
          rw [HG.out.2.2.1]
          have HB3 := Lib.hid (HB2.out.trans (hb3.mono HB2.out.size))
          clear hb3 a5 a6
          have a7 := K1.out w3 HB3.out 7
          have a6 := K1.out w3 HB3.out 6
          have a5 := K1.out w3 HB3.out 5
          simp only [List.getElem?_toArray, List.getElem?_cons_zero, List.getElem?_cons_succ] at a5 a6 a7
          have main : (c.has = true) ∨ (c.has = false ∧ c.post.len = 0) := by
            have := HG.out.2.2.2.2
            cases h : c.has with
            | true => exact .inl rfl
            | false => exact .inr ⟨rfl, this h⟩
          obtain ⟨hsv, hhs⟩ : ∃ hs, hs = c.has := ⟨_, rfl⟩
          obtain ⟨pl, hpl⟩ : ∃ pl, pl = c.post.len := ⟨_, rfl⟩
          rw [← hhs, ← hpl] at main
          rw [← hhs] at a7
          rw [← hpl] at a6
          have HHS := Lib.hid hhs
          have HPL := Lib.hid hpl
          clear hhs hpl
          rcases main with rfl | ⟨rfl, rfl⟩
          all_goals
            go_wp2_with fail
            refine (bare_any c.code _ _ w3 HG.out.1.1.2.2 (by have := HG.out.1.2.1; omega) (HTC.out.1.below HB3.out)).mono ?_
            rintro e w4 ⟨rfl, hb4⟩
            have HB4 := Lib.hid (HB3.out.trans (hb4.mono HB3.out.size))
            clear hb4
            cases hbb : rightT false c.code with
            | false =>
              go_wp2_with fail
              go_meet
              exact ⟨rfl, HB4.out⟩
            | true =>
              have HCT := Lib.hid (HG.out.2.2.2.1 hbb)
              clear hbb
              have d0 := K1.out w4 HB4.out 0
              have d1 := K1.out w4 HB4.out 1
              have d2 := K1.out w4 HB4.out 2
              have d3 := K1.out w4 HB4.out 3
              have d4 := K1.out w4 HB4.out 4
              have d5 := K1.out w4 HB4.out 5
              have d6 := K1.out w4 HB4.out 6
              have d7 := K1.out w4 HB4.out 7
              simp only [List.getElem?_toArray, List.getElem?_cons_zero, List.getElem?_cons_succ] at d0 d1 d2 d3 d4 d5 d6 d7
              have HCF := Lib.hid (configT_any c (.slice A1 c.parts.length n1) _ _ (fun k => w.heap.size ≤ k) w4 ⟨_, _, _, rfl⟩ ⟨HG.out.1.1.2.2, HG.out.1.2.2.1.2.2⟩ ⟨by have := HG.out.1.2.1; omega, by have := HG.out.1.2.2.2.1; omega⟩ (HTC.out.1.below HB4.out) (HTC.out.2.below HB4.out))
              rw [HCT.out] at HCF
              unfold cfgA at HCF
              rw [← HHS.out, ← HPL.out] at HCF
              rw [← HHS.out] at d7
              rw [← HPL.out] at d6
              go_wp2_with fail
              with_reducible refine HCF.out.mono ?_
              rintro e w5 ⟨rfl, hb5⟩
              have HB5 := Lib.hid (HB4.out.trans (hb5.mono HB4.out.size))
              clear hb5
              go_wp2_with fail
              go_meet
              exact ⟨rfl, HB5.out⟩
        · have i0 : ((x : Int) == 0) = false := by rw [beq_eq_false_iff_ne]; omega
          clear hx0 hgd htd
          go_wp2_with fail
          go_meet
          exact ⟨rfl, Below.refl _ _⟩
      case rest =>
        obtain ⟨rfl, hbx⟩ := hcut
        have HBX := Lib.hid hbx
        have HTK := Lib.hid (tokens_any s)
        clear hbx hgd htd
        go_wp2_with fail
        refine (HTK.out _ HL.out.2).mono ?_
        rintro e w3 hp
        rw [HL.out.1] at hp
        obtain ⟨⟨vt, rfl, hto⟩, hb3⟩ := hp
        obtain ⟨gt, ct, rfl, -⟩ := hto.tks (lexN_TL HL.out.1 HL.out.2).1.ne
        have hb4 : Below V1.heap.size V1 (w3.alloc (.cells #[.int .i64 0, .int .i64 0] 28)) := HBX.out.trans ((hb3.trans (((Below.refl w3.heap.size w3).alloc (Nat.le_refl _) _).mono hb3.size)).mono HBX.out.size)
        have r3 := flt_row (heap_alloc_new w3 (.cells #[.int .i64 0, .int .i64 0] 28))
        have HB4 := Lib.hid hb4
        have HR3 := Lib.hid r3
        clear hto hb3 hb4 r3
        go_upto_region 7 with fail
        generalize w3.alloc (.cells #[.int .i64 0, .int .i64 0] 28) = V3 at *
        have c0 : V3.cell? ⟨w3.heap.size, 0, none⟩ = some (.int .i64 0) := HR3.out.cell (show 0 < 2 by omega)
        go_wp2_with fail
        have R0 : RgR s (.string ⟨#[]⟩) (.bool false) (.int .i64 0) := ⟨⟨#[]⟩, false, 0, rfl, rfl, rfl, Nat.zero_le _, by simp [strB], Nat.le_refl _⟩
        go_loopw [7, 8, 9] (fun s7 s8 s9 wr => RgR s s7 s8 s9 ∧ wr = V3) (fun _ _ s9 _ => s.size - (intOf s9).toNat)
        case atStart => exact ⟨R0, rfl⟩
        case round =>
          clear R0
          obtain ⟨⟨str, r, k, rfl, rfl, rfl, hk, hinv, hz7⟩, hwv⟩ := hrel
          subst hwv
          have HI := Lib.hid hinv
          clear hinv
          by_cases h0 : k < s.size
          · have k2 : (k : Int) < s.size := by omega
            have hcons := drop_consP (l := strB s) (p := k) (by rw [strB_length]; exact h0)
            have hnth := strB_nth h0
            rw [hcons] at HI
            have hpc : strB (s.extract k (k + 1)) = [nth (strB s) k] := by
              rw [strB_extract, hcons, show k + 1 - k = 1 by omega]
              rfl
            obtain ⟨c', hc'⟩ : ∃ c, c = nth (strB s) k := ⟨_, rfl⟩
            rw [← hc'] at HI hnth hpc
            have q : ∀ (m : Nat) (z : Int), z = m → (((s[k]'h0).toNat : Int) == z) = decide (c' = m) := fun m z hz => by
              subst hz
              rw [Bool.eq_iff_iff]
              simp only [beq_iff_eq, decide_eq_true_eq, hnth]
              omega
            have q35 := q 35 35 rfl
            have q32 := q 32 32 rfl
            have q10 : (((s[k]'h0).toNat : Int) != 10) = !decide (c' = 10) := by rw [← q 10 10 rfl]; rfl
            have e1 : IntKind.i64.wrap ((k : Int) + 1) = ((k + 1 : Nat) : Int) := by rw [IntKind.wrap_i64]; omega; all_goals omega
            have hps : (s.extract k (k + 1)).size = 1 := by rw [← strB_length, hpc]; rfl
            have HPC := Lib.hid (And.intro hpc hps)
            clear hnth hcons q hc' hpc hps
            obtain ⟨rest, hrest⟩ : ∃ x, x = (strB s).drop (k + 1) := ⟨_, rfl⟩
            rw [← hrest] at HI
            by_cases h35 : c' = 35
            · have HN : Hid (strB str ++ ([c'] ++ tr true rest) = tr false (strB s)) := by
                have h := HI.out
                rw [tr, show rk r c' = true by unfold rk; simp [h35], if_neg (by rw [h35]; intro h; exact absurd h.1 (by decide))] at h
                exact h
              rw [hrest] at HN
              rw [decide_eq_true h35] at q35
              rw [decide_eq_false (show ¬ c' = 32 by omega)] at q32
              clear q10 h35 HI hrest
              go_wp2_with fail
              all_goals first
                | (exfalso; omega; done)
                | (refine ⟨⟨⟨_, true, k + 1, rfl, rfl, rfl, by omega, ?_, ?_⟩, trivial⟩, ?_⟩
                   · rw [strB_app, HPC.out.1, List.append_assoc]
                     exact HN.out
                   · rw [ByteArray.size_append, HPC.out.2]
                     omega
                   · simp [intOf]; omega)
            · rw [decide_eq_false h35] at q35
              cases r with
              | false =>
                have hrk : rk false c' = false := by unfold rk; simp [h35]
                by_cases h32 : c' = 32
                · have HN : Hid (strB str ++ ([32, 35, 32, 123, 32, 120, 10] ++ tr false rest) = tr false (strB s)) := by
                    have h := HI.out
                    rw [tr, hrk, if_pos ⟨h32, rfl⟩] at h
                    exact h
                  rw [hrest] at HN
                  rw [decide_eq_true h32] at q32
                  clear q10 h35 HI hrest hrk h32
                  go_wp2_with fail
                  all_goals first
                    | (exfalso; omega; done)
                    | (refine ⟨⟨⟨_, false, k + 1, rfl, rfl, rfl, by omega, ?_, ?_⟩, trivial⟩, ?_⟩
                       · rw [strB_app, show strB ⟨#[32, 35, 32, 123, 32, 120, 10]⟩ = [32, 35, 32, 123, 32, 120, 10] from rfl, List.append_assoc]
                         exact HN.out
                       · rw [ByteArray.size_append, show (⟨#[32, 35, 32, 123, 32, 120, 10]⟩ : ByteArray).size = 7 from rfl]
                         omega
                       · simp [intOf]; omega)
                · have HN : Hid (strB str ++ ([c'] ++ tr false rest) = tr false (strB s)) := by
                    have h := HI.out
                    rw [tr, hrk, if_neg (fun h => h32 h.1)] at h
                    exact h
                  rw [hrest] at HN
                  rw [decide_eq_false h32] at q32
                  clear q10 h35 HI hrest hrk h32
                  go_wp2_with fail
                  all_goals first
                    | (exfalso; omega; done)
                    | (refine ⟨⟨⟨_, false, k + 1, rfl, rfl, rfl, by omega, ?_, ?_⟩, trivial⟩, ?_⟩
                       · rw [strB_app, HPC.out.1, List.append_assoc]
                         exact HN.out
                       · rw [ByteArray.size_append, HPC.out.2]
                         omega
                       · simp [intOf]; omega)
              | true =>
                by_cases h10 : c' = 10
                · have HN : Hid (strB str ++ ([c'] ++ tr false rest) = tr false (strB s)) := by
                    have h := HI.out
                    rw [tr, show rk true c' = false by unfold rk; simp [h10], if_neg (by rw [h10]; intro h; exact absurd h.1 (by decide))] at h
                    exact h
                  rw [hrest] at HN
                  rw [decide_eq_true h10] at q10
                  rw [decide_eq_false (show ¬ c' = 32 by omega)] at q32
                  clear h35 HI hrest h10
                  go_wp2_with fail
                  all_goals first
                    | (exfalso; omega; done)
                    | (refine ⟨⟨⟨_, false, k + 1, rfl, rfl, rfl, by omega, ?_, ?_⟩, trivial⟩, ?_⟩
                       · rw [strB_app, HPC.out.1, List.append_assoc]
                         exact HN.out
                       · rw [ByteArray.size_append, HPC.out.2]
                         omega
                       · simp [intOf]; omega)
                · have HN : Hid (strB str ++ ([c'] ++ tr true rest) = tr false (strB s)) := by
                    have h := HI.out
                    rw [tr, show rk true c' = true by unfold rk; simp [h10], if_neg (by intro h; cases h.2)] at h
                    exact h
                  rw [hrest] at HN
                  rw [decide_eq_false h10] at q10
                  by_cases h32 : c' = 32
                  · rw [decide_eq_true h32] at q32
                    clear h35 HI hrest h10 h32
                    go_wp2_with fail
                    all_goals first
                      | (exfalso; omega; done)
                      | (refine ⟨⟨⟨_, true, k + 1, rfl, rfl, rfl, by omega, ?_, ?_⟩, trivial⟩, ?_⟩
                         · rw [strB_app, HPC.out.1, List.append_assoc]
                           exact HN.out
                         · rw [ByteArray.size_append, HPC.out.2]
                           omega
                         · simp [intOf]; omega)
                  · rw [decide_eq_false h32] at q32
                    clear h35 HI hrest h10 h32
                    go_wp2_with fail
                    all_goals first
                      | (exfalso; omega; done)
                      | (refine ⟨⟨⟨_, true, k + 1, rfl, rfl, rfl, by omega, ?_, ?_⟩, trivial⟩, ?_⟩
                         · rw [strB_app, HPC.out.1, List.append_assoc]
                           exact HN.out
                         · rw [ByteArray.size_append, HPC.out.2]
                           omega
                         · simp [intOf]; omega)
          · obtain rfl : k = s.size := by omega
            have k2 : ¬ ((s.size : Int) < (s.size : Int)) := by omega
            have hfin : strB str = tr false (strB s) := by
              have h := HI.out
              rw [List.drop_eq_nil_of_le (by rw [strB_length]; exact Nat.le_refl _), tr, List.append_nil] at h
              exact h
            have HF := Lib.hid hfin
            clear HI hfin
            by_cases hm : 16384 < str.size
            · have k3 : (16384 : Int) < str.size := by omega
              clear hm
              go_wp2_with fail
              refine (par_awake _).mono ?_
              rintro e w4 ⟨rfl, hb4⟩
              have HB5 := Lib.hid ((HV.out.2.trans (HB4.out.mono HV.out.2.size)).trans (hb4.mono (HV.out.2.trans (HB4.out.mono HV.out.2.size)).size))
              clear hb4
              go_wp2_with fail
              go_ret
              exact ⟨rfl, HB5.out⟩
            · have k3 : ¬ (16384 : Int) < str.size := by omega
              have hsame := wc_same (parse_anew HL.out.1 HL.out.2 (by omega) HF.out)
              have HSM := Lib.hid hsame
              clear hm hsame
              go_wp2_with fail
              refine (parse_any str _).mono ?_
              rintro e w5 hp
              obtain ⟨d, up, uc, uq, x', y', rfl, hp2, hc2, hq2, hb2, hd, hx'⟩ := hp.form
              clear hp
              obtain ⟨A2, n2, rfl⟩ := hp2.form
              obtain ⟨A4, n4, rfl, -, -⟩ := hc2.frm
              obtain ⟨A6, n6, rfl, -, -⟩ := hq2.frm
              have hsm := HSM.out
              rw [← hd, ← HC.out.1, ← hx', ← HC.out.2] at hsm
              obtain ⟨m1, m2, m3, m4, m5⟩ := hsm
              have m1' : x' = x := m1
              subst m1'
              have HM := Lib.hid (And.intro m2 (And.intro m3 (And.intro m4 m5)))
              have H2 := Lib.hid (And.intro hp2 (And.intro hc2 hq2))
              have HB2 : Hid (Below V1.heap.size V1 w5) := HB4.out.trans (hb2.mono HB4.out.size)
              clear hp2 hc2 hq2 hb2 hd hx' m1 m2 m3 m4 m5 HSM
              dsimp only [cfgA]
              go_upto_region 21 with fail
              obtain ⟨ka, kb, kc, kd⟩ := keep2 (w1 := w5) #[.int .i64 d.h, .int .i64 d.m, .int .i64 d.ph, .int .i64 d.pm, .slice A2 d.parts.length n2, .slice A4 d.code.len n4, .slice A6 d.post.len n6, .bool d.has] #[.int .i64 x', .int .i64 y'] 25 28
              generalize (w5.alloc (.cells #[.int .i64 d.h, .int .i64 d.m, .int .i64 d.ph, .int .i64 d.pm, .slice A2 d.parts.length n2, .slice A4 d.code.len n4, .slice A6 d.post.len n6, .bool d.has] 25)).alloc (.cells #[.int .i64 x', .int .i64 y'] 28) = V5 at ka kb kc kd ⊢
              have q : Below V1.heap.size V1 V5 := HB2.out.trans (kc.mono HB2.out.size)
              have a0 := K1.out V5 q 0
              have a1 := K1.out V5 q 1
              have a2 := K1.out V5 q 2
              have a3 := K1.out V5 q 3
              have a4 := K1.out V5 q 4
              have a5 := K1.out V5 q 5
              have a6 := K1.out V5 q 6
              have a7 := K1.out V5 q 7
              have b0 := K2.out V5 q 0
              have c0 := ka 0
              have c1 := ka 1
              have c2 := ka 2
              have c3 := ka 3
              have c4 := ka 4
              have c5 := ka 5
              have c6 := ka 6
              have c7 := ka 7
              have d0 := kb 0
              simp only [List.getElem?_toArray, List.getElem?_cons_zero, List.getElem?_cons_succ] at a0 a1 a2 a3 a4 a5 a6 a7 b0 c0 c1 c2 c3 c4 c5 c6 c7 d0
              have Q := Lib.hid (And.intro (HV.out.1.trans (q.mono HV.out.1.size)) (And.intro kc (HV.out.2.trans (q.mono HV.out.2.size))))
              have hpp := H2.out.1.below kc
              rw [HM.out.1] at hpp
              have HPP := Lib.hid hpp
              clear q ka kb kc kd hpp
              go_wp2_with fail
              refine (samC_any false c d _ _ _ _ _ _ (fun _ => True) V5 ((H1.out.1.below Q.out.1).mono (fun _ _ _ => trivial)) (by rw [HM.out.1]; exact HPP.out.mono (fun _ _ _ => trivial)) ((H1.out.2.1.below Q.out.1).mono (fun _ _ _ => trivial)) ((H2.out.2.1.below Q.out.2.1).mono (fun _ _ _ => trivial)) ((H1.out.2.2.below Q.out.1).mono (fun _ _ _ => trivial)) ((H2.out.2.2.below Q.out.2.1).mono (fun _ _ _ => trivial)) HM.out.1 HM.out.2.1 HM.out.2.2.1 HM.out.2.2.2).mono ?_
              rintro e w6 ⟨rfl, hb6⟩
              have P3 := Lib.hid (Q.out.2.2.trans (hb6.mono Q.out.2.2.size))
              clear hb6
              go_wp2_with fail
              refine (par_awake _).mono ?_
              rintro e w7 ⟨rfl, hb7⟩
              have P4 := Lib.hid (P3.out.trans (hb7.mono P3.out.size))
              clear hb7
              go_wp2_with fail
              go_ret
              exact ⟨rfl, P4.out⟩
end Go.Proofs.Ytiadfmhodlbkiaa
