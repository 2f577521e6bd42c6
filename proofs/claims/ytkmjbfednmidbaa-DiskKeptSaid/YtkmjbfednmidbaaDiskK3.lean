/-
  THE WALK OF quillpresslaw07.DiskKept: it returns true. Conditions: the arguments read.
-/
import Derived.Test.YtkmjbfednmidbaaDiskK2
import Derived.BigQuiet
import Derived.Deep.Cut
import Derived.Deep.QuietTactic
namespace Go.Proofs.Ytkmjbfednmidbaa
open Go.RowKit
set_option linter.unusedSimpArgs false
set_option linter.unusedVariables false

theorem wpStill_skip {P : Program} {ops : Array Oper} {w : World} {Q : Act → Prop} {a : Act} {o : Oper} {rest : List Oper} (h : Region.wanted o (yielded ops a.tmps) = false) (hh : wpStill P ops w Q rest (a.put o.dst undef)) : wpStill P ops w Q (o :: rest) a := by
  unfold wpStill
  rw [h]
  exact hh
theorem crash_nown {g : Nat} {nb ob : Option Nat} {d : DkS} {w : World} (h : Dk w g nb ob d) (hfl : d.floor ≤ d.now.length) (keep : Int) (hk : 0 ≤ keep) (AJ : Option Addr) (junk : List Nat) (jn jc : Nat) (hjn : jn = junk.length) (hJ : Rd w AJ junk) (hjl : junk.length ≤ 9223372036854775807) :
    Calls Try.prog 23 #[.pointer (some ⟨g, 0, none⟩), .agg #[.int .i64 keep, .slice AJ jn jc]] w fun e w' => e = .returned (.int .i64 0) ∧ After w g nb ob (crashD d (crLeft d keep junk)) w' := by
  subst hjn
  exact crash_now h hfl keep hk AJ junk jc hJ hjl
theorem same_tt (A1 A2 : Option Addr) (n1 n2 c1 c2 : Nat) (a : List Nat) (w : World) (h1 : n1 = a.length) (h2 : n2 = a.length) (ha : Rd w A1 a) (hb : Rd w A2 a) (hla : a.length ≤ 9223372036854775807) :
    Calls Try.prog 20 #[.slice A1 n1 c1, .slice A2 n2 c2] w fun e w' => e = .returned (.bool true) ∧ Below w.heap.size w w' := by
  subst h1; subst h2
  refine (same_any A1 A2 c1 c2 a a w ha hb hla hla).mono fun e w' h => ?_
  obtain ⟨rfl, n, rfl⟩ := h
  exact ⟨by rw [show sameB a a = true by simp [sameB]], below_drewN' (Below.refl _ _) n⟩
theorem rd_take {w : World} {A : Option Addr} {l : List Nat} (h : Rd w A l) (n : Nat) : Rd w A (l.take n) := by
  refine ⟨fun x hx => h.1 x (List.mem_of_mem_take hx), fun hne => ?_⟩
  obtain ⟨b, o, rfl, hb, hc⟩ := h.2 (by intro e; rw [e] at hne; simp at hne)
  refine ⟨b, o, rfl, hb, fun i hi => ?_⟩
  simp only [List.length_take] at hi
  rw [hc i (by omega)]
  simp [nth, List.getElem?_take, show i < n by omega]
theorem append_n {g : Nat} {nb ob : Option Nat} {d : DkS} {w : World} (h : Dk w g nb ob d) (A : Option Addr) (n c : Nat) (m : List Nat) (hn : n = m.length) (hm : m.length ≤ 5000000) (hr : Rd w A m) :
    Calls Try.prog 19 #[.pointer (some ⟨g, 0, none⟩), .slice A n c] w (Ret fun r w' => After w g nb ob (d.append m).2 w' ∧ r = (d.append m).1) := by
  subst hn
  exact append_any h A c m hm hr
theorem ks_rd {w0 w : World} {g n c : Nat} {nb ob : Option Nat} {d : DkS} {B A : Option Addr} {ln lo : List Nat} (h : KS w0 w g nb ob d (.slice B n c) ln A lo) : Rd w B ln := by
  obtain ⟨B', c', e, _, _, _, _, hr⟩ := h.now.form
  injection e with e1 e2 e3
  rw [e1]
  exact hr
set_option maxRecDepth 100000 in
set_option maxHeartbeats 40000000 in
theorem diskKept_any (A : Option Addr) (c : Nat) (L : List (List Nat)) (arm keep : Int) (AJ : Option Addr) (jc : Nat) (junk : List Nat) (w : World) (hL : Rds w A L) (hLl : L.length ≤ 9223372036854775807)
    (hk1 : -9223372036854775808 ≤ keep) (hk2 : keep ≤ 9223372036854775807) (jn : Nat) (hjn : jn = junk.length) (hJ : Rd w AJ junk) (hjl : junk.length ≤ 9223372036854775807) :
    Calls Try.prog 4 #[.slice A L.length c, .int .i64 arm, .agg #[.int .i64 keep, .slice AJ jn jc]] w fun e w' => e = .returned (.bool true) ∧ Below w.heap.size w w' := by
  have HL := Lib.hid hL
  have HJ := Lib.hid hJ
  have HLL := Lib.hid hLl
  have HJL := Lib.hid hjl
  have HJN := Lib.hid hjn
  have HK1 := Lib.hid hk1
  have HK2 := Lib.hid hk2
  clear hL hJ hLl hjl hk1 hk2 hjn
  go_enter Try.func4, Try.ntmps4
  go_wp2_with fail
  have hb0 : Below w.heap.size w (w.alloc (.cells #[.int .i64 keep, .slice AJ jn jc] 34)) := (Below.refl _ _).alloc (Nat.le_refl _) _
  have hc0 : (w.alloc (.cells #[.int .i64 keep, .slice AJ jn jc] 34)).cell? ⟨w.heap.size, 0, none⟩ = some (.int .i64 keep) := by rw [cell_of_row _ _ _ _ _ _ (heap_alloc_new w _)]; rfl
  have hc1 : (w.alloc (.cells #[.int .i64 keep, .slice AJ jn jc] 34)).cell? ⟨w.heap.size, 1, none⟩ = some (.slice AJ jn jc) := by rw [cell_of_row _ _ _ _ _ _ (heap_alloc_new w _)]; rfl
  have hlt : w.heap.size < (w.alloc (.cells #[.int .i64 keep, .slice AJ jn jc] 34)).heap.size := by rw [World.size_alloc]; omega
  have HLW := Lib.hid (HL.out.below hb0)
  have HJW := Lib.hid (HJ.out.below hb0)
  generalize w.alloc (.cells #[.int .i64 keep, .slice AJ jn jc] 34) = W at *
  have HB0 := Lib.hid hb0
  have HC0 := Lib.hid hc0
  have HC1 := Lib.hid hc1
  have HLT := Lib.hid hlt
  clear hb0 hc0 hc1 HL HJ hlt
  generalize hgc : w.heap.size = gc at *
  have HGC := Lib.hid hgc
  clear hgc
  refine (new_any' 1048576 W (by omega)).mono ?_
  rintro e w1 ⟨g, nb, ob, rfl, hd, hg, hnb, hob, hb⟩
  have hk : KS W w1 g nb ob (mkD 1048576 []) (.slice none 0 0) [] none [] := ⟨hd, hg, hnb, hob, .inl (Ow.nil _ _), Rd.nil, (fun k e => by cases e), (fun a e => by cases e), hb⟩
  have HK := Lib.hid hk
  clear hd hg hnb hob hb hk
  go_wp2_with fail
  refine (pick_any arm w1).mono ?_
  rintro e w' ⟨k, rfl, hk80, rfl⟩
  go_wp2_with fail
  refine (arm_any HK.out.dk k (by omega) (by omega)).mono ?_
  rintro e w2 ⟨rfl, hd2, hg2⟩
  obtain ⟨nb2, ob2, hk2⟩ := HK.out.after (hd2.after hg2)
  obtain ⟨D, hD⟩ : ∃ D : DkS, D = { mkD 1048576 [] with armed := k } := ⟨_, rfl⟩
  rw [← hD] at hk2
  have hDk : D.Kept := by rw [hD]; exact ⟨Nat.le_refl _, rfl, by simp [mkD]⟩
  have hD1 : D.now = [] ∧ D.old = [] ∧ D.floor = 0 := by rw [hD]; exact ⟨rfl, rfl, rfl⟩
  have HK2 := Lib.hid hk2
  have HDK := Lib.hid hDk
  have HD1 := Lib.hid hD1
  clear HK hd2 hg2 hD hk2 hDk hD1
  go_wp2_with fail
  go_loopw [9, 10, 11, 12] (fun v9 v10 v11 v12 wr => ∃ (i : Nat) (d : DkS) (nb ob : Option Nat) (A9 : Option Addr) (c10 : Nat), i ≤ L.length ∧ i ≤ 40 ∧ d.Kept ∧ v12 = .int .i64 i ∧ v10 = .slice A9 d.old.length c10 ∧ v11 = .int .i64 d.floor ∧ KS W wr g nb ob d v9 d.now A9 d.old) (fun _ _ _ v _ => 40 - (intOf v).toNat)
  case atStart =>
    have h1 := HD1.out
    refine ⟨0, D, nb2, ob2, none, 0, by omega, by omega, HDK.out, rfl, by rw [h1.2.1]; rfl, by rw [h1.2.2]; rfl, ?_⟩
    rw [h1.1, h1.2.1]
    exact HK2.out
  case round =>
    obtain ⟨i, d, nb3, ob3, A9, c10, hi, hi40, hdk, rfl, rfl, rfl, hks⟩ := hrel
    obtain ⟨A10, c9, rfl, h9c, h9m, h9b, h9o, h9r⟩ := hks.now.form
    have H9B := Lib.hid h9b
    have H9R := Lib.hid h9r
    clear h9b h9o h9r
    have HDK3 := Lib.hid hdk
    have HKS := Lib.hid hks
    clear hdk hks HK2 HDK HD1
    by_cases e0 : i < L.length ∧ i < 40
    · obtain ⟨e1, e2⟩ := e0
      have e1' : (i : Int) < L.length := by omega
      have e2' : (i : Int) < 40 := by omega
      obtain ⟨gL, oL, rfl, hgL, hcL⟩ := HLW.out (by intro e; rw [e] at e1; simp at e1)
      obtain ⟨B, cB, hcell, hlc, hcm, hrB⟩ := hcL i e1
      obtain ⟨m, hm⟩ : ∃ m, m = L.getD i [] := ⟨_, rfl⟩
      rw [← hm] at hcell hlc hrB
      have hcw : wr.cell? ⟨gL, oL + i, none⟩ = some (.slice B m.length cB) := (HKS.out.below.cell (p := ⟨gL, oL + i, none⟩) hgL).trans hcell
      have HRB := Lib.hid hrB
      clear hcL hcell hrB hm
      have hmin : ∃ n : Nat, n = min m.length 2000 := ⟨_, rfl⟩
      obtain ⟨n, hn⟩ := hmin
      have hnm : (if (2000 : Int) < m.length then 2000 else (m.length : Int)) = n := by split <;> omega
      have hn1 : (n : Int) ≤ cB := by omega
      have hn2 : n ≤ cB := by omega
      have hn3 : n ≤ m.length := by omega
      have hn4 : n ≤ 2000 := by omega
      clear hn
      go_upto_region 9 with fail
      refine wp_region_still_lit (by kernel_rfl) (by kernel_rfl) ?_
      repeat still_step
      try refine wpStill_nil ?_
      have hbl : (m.take n).length = n := by rw [List.length_take]; omega
      go_upto_region 10 with fail
      have hky := HKS.out.bel (below_drewN' (Below.refl _ _) 1)
      have hyb : Below W.heap.size W wr.drew := HKS.out.below.trans ((below_drewN' (Below.refl _ _) 1).mono HKS.out.base)
      have hrb := HRB.out.below hyb
      have HRW := Lib.hid HRB.out
      have hr9 := H9R.out.below (below_drewN' (Below.refl _ _) 1)
      change KS W wr.drew _ _ _ _ _ _ _ _ at hky
      change Rd wr.drew _ _ at hr9
      change Code.wp _ _ _ _ wr.drew
      generalize wr.drew = Y at *
      have HKY := Lib.hid hky
      have HRY := Lib.hid (rd_take hrb n)
      have HR9 := Lib.hid hr9
      have hd1 := HDK3.out.now
      clear hky hyb hr9 HKS H9R HRB hcw
      by_cases n0 : n = 0
      · subst n0
        clear hrb
        go_wp2_with fail
        refine (sync_any HKY.out.dk).mono ?_
        rintro e w1 ⟨r, rfl, ha, hr⟩
        obtain ⟨nb', ob', hk1⟩ := HKY.out.after ha
        have hb9 := HKY.out.after ha
        have hdk := sync_two d HDK3.out
        rw [← hr] at hdk
        generalize d.sync.2 = d' at *
        clear ha hb9
        rcases hdk with ⟨rfl, hd2, e1, e2, e3⟩ | ⟨rfl, hd2, e1, e2, e3⟩
        · have HK1 := Lib.hid hk1
          clear hk1 hr
          go_wp2_with fail
          go_roundw
          case rel =>
            refine ⟨i + 1, d', nb', ob', A9, c10, by omega, by omega, hd2, by go_num, by rw [e2], by rw [e3], ?_⟩
            rw [e1, e2]
            exact HK1.out
          case measure => simp [intOf]; omega
        · have HR1 := Lib.hid (ks_rd hk1)
          have HK1 := Lib.hid hk1
          clear hk1 hr
          go_wp2_with fail
          refine (copyb_any A10 d.now.length c9 d.now w1 rfl HR1.out (by omega)).mono ?_
          rintro e w2 ⟨v, rfl, ho, hb⟩
          obtain ⟨A', c', rfl, hk2⟩ := HK1.out.copy ho hb
          have HK2 := Lib.hid hk2
          clear ho hb hk2 HK1 HR1
          go_wp2_with fail
          go_roundw
          case rel =>
            refine ⟨i + 1, d', nb', ob', A', c', by omega, by omega, hd2, by go_num, by rw [e2], by rw [e3], ?_⟩
            rw [e1, e2]
            exact HK2.out
          case measure => simp [intOf]; omega
      · have n0' : ¬ (n : Int) = 0 := by omega
        have hm0 : m ≠ [] := by intro e; rw [e] at hn3; simp at hn3; omega
        obtain ⟨gB, oB, rfl, hgB, hcB⟩ := hrb.2 hm0
        obtain ⟨gB', oB', eB, hgB0, -⟩ := HRW.out.2 hm0
        obtain rfl : gB = gB' := by injection eB with eB; injection eB
        clear eB
        have hb0 := hcB 0 (by omega)
        have hb256 := nth_lt hrb.1 0
        rw [Nat.add_zero] at hb0
        obtain ⟨b0, hb0e⟩ : ∃ b0, b0 = nth m 0 := ⟨_, rfl⟩
        rw [← hb0e] at hb0 hb256
        have hn1z : 0 < (n : Int) := by omega
        clear hcB hrb hb0e
        by_cases b40 : b0 < 40
        · have b40' : (b0 : Int) < 40 := by omega
          go_wp2_with fail
          refine (sync_any HKY.out.dk).mono ?_
          rintro e w1 ⟨r, rfl, ha, hr⟩
          obtain ⟨nb', ob', hk1⟩ := HKY.out.after ha
          have hb9 := HKY.out.after ha
          have hdk := sync_two d HDK3.out
          rw [← hr] at hdk
          generalize d.sync.2 = d' at *
          clear ha hb9
          rcases hdk with ⟨rfl, hd2, e1, e2, e3⟩ | ⟨rfl, hd2, e1, e2, e3⟩
          · have HK1 := Lib.hid hk1
            clear hk1 hr
            go_wp2_with fail
            go_roundw
            case rel =>
              refine ⟨i + 1, d', nb', ob', A9, c10, by omega, by omega, hd2, by go_num, by rw [e2], by rw [e3], ?_⟩
              rw [e1, e2]
              exact HK1.out
            case measure => simp [intOf]; omega
          · have HR1 := Lib.hid (ks_rd hk1)
            have HK1 := Lib.hid hk1
            clear hk1 hr
            go_wp2_with fail
            refine (copyb_any A10 d.now.length c9 d.now w1 rfl HR1.out (by omega)).mono ?_
            rintro e w2 ⟨v, rfl, ho, hb⟩
            obtain ⟨A', c', rfl, hk2⟩ := HK1.out.copy ho hb
            have HK2 := Lib.hid hk2
            clear ho hb hk2 HK1 HR1
            go_wp2_with fail
            go_roundw
            case rel =>
              refine ⟨i + 1, d', nb', ob', A', c', by omega, by omega, hd2, by go_num, by rw [e2], by rw [e3], ?_⟩
              rw [e1, e2]
              exact HK2.out
            case measure => simp [intOf]; omega
        · have b40' : ¬ (b0 : Int) < 40 := by omega
          by_cases b80 : b0 < 80
          · have b80' : (b0 : Int) < 80 := by omega
            have q1 : IntKind.u8.wrap ((b0 : Int) - 40) = ((b0 - 40 : Nat) : Int) := by simp [IntKind.wrap, IntKind.signed, IntKind.bits]; omega
            have q2 : IntKind.i64.wrap ((b0 - 40 : Nat) : Int) = ((b0 - 40 : Nat) : Int) := by simp [IntKind.wrap, IntKind.signed, IntKind.bits]; omega
            have hmul : d.now.length * (b0 - 40) ≤ d.now.length * 40 := Nat.mul_le_mul_left _ (by omega)
            obtain ⟨p, hp⟩ : ∃ p, p = d.now.length * (b0 - 40) := ⟨_, rfl⟩
            rw [← hp] at hmul
            have q3 : IntKind.i64.wrap ((d.now.length : Int) * ((b0 - 40 : Nat) : Int)) = (p : Int) := by rw [← Int.natCast_mul, ← hp]; simp [IntKind.wrap, IntKind.signed, IntKind.bits]; omega
            obtain ⟨t, ht⟩ : ∃ t, t = p / 40 := ⟨_, rfl⟩
            have q4 : (p : Int) / 40 = (t : Int) := by rw [ht]; omega
            have q5 : t ≤ d.now.length := by omega
            have q6 : t ≤ c9 := by omega
            have q7 : (t : Int) ≤ c9 := by omega
            have q8 : (if (t : Int) < d.floor then (t : Int) else (d.floor : Int)) = ((min d.floor t : Nat) : Int) := by split <;> omega
            clear ht hmul hp
            go_wp2_with fail
            refine (trunc_any HKY.out.dk t q5).mono ?_
            rintro e w1 ⟨r, rfl, ha, hr⟩
            obtain ⟨nb', ob', hk1⟩ := HKY.out.after ha
            have hdk := trunc_two d HDK3.out t q5 _ rfl
            rw [← hr] at hdk
            generalize (d.op fun d => (0, { d with now := d.now.take t, floor := min d.floor t })).2 = d' at *
            clear ha hr
            rcases hdk with ⟨rfl, hd2, e1, e2, e3⟩ | ⟨rfl, hd2, e1, e2, e3⟩
            · have HK1 := Lib.hid hk1
              clear hk1
              go_wp2_with fail
              go_roundw
              case rel =>
                refine ⟨i + 1, d', nb', ob', A9, c10, by omega, by omega, hd2, by go_num, by rw [e2], by rw [e3], ?_⟩
                rw [e1, e2]
                exact HK1.out
              case measure => simp [intOf]; omega
            · have HK1 := Lib.hid (hk1.cut (rd_take (ks_rd hk1) t) q5 (by omega) (by cases A10 <;> rfl))
              clear hk1
              go_wp2_with fail
              go_roundw
              case rel =>
                refine ⟨i + 1, d', nb', ob', A9, c10, by omega, by omega, hd2, by go_num, by rw [e2], by rw [e3]; congr 1; split <;> omega, ?_⟩
                rw [e1, e2]
                exact HK1.out
              case measure => simp [intOf]; omega
          · have b80' : ¬ (b0 : Int) < 80 := by omega
            go_wp2_with fail
            refine (append_n HKY.out.dk _ n cB (m.take n) hbl.symm (by omega) HRY.out).mono ?_
            rintro e w1 ⟨r, rfl, ha, hr⟩
            obtain ⟨nb', ob', hk1⟩ := HKY.out.after ha
            have hdk := append_two d HDK3.out HKY.out.dk.wf.most (m.take n)
            rw [← hr] at hdk
            have hry1 : Rd w1 (some ⟨gB, oB, none⟩) (m.take n) := by
              obtain ⟨_, _, _, _, _, hgr⟩ := ha
              refine HRY.out.keep hgr.size fun p hp ⟨a, ha, e⟩ => World.cell?_of_block (hgr.block p.block hp fun e2 => ?_)
              injection e2 with e2
              injection ha with ha
              subst ha
              have e : gB = p.block := e
              have := HKY.out.bg
              have h3 : gB < W.heap.size := hgB0
              omega
            generalize (d.append (m.take n)).2 = d' at *
            clear ha hr
            rcases hdk with ⟨hr0, hd2, e1, e2, e3⟩ | ⟨rfl, hd2, e1, e2, e3⟩
            · have HK1 := Lib.hid hk1
              clear hk1
              go_wp2_with fail
              go_roundw
              case rel =>
                refine ⟨i + 1, d', nb', ob', A9, c10, by omega, by omega, hd2, by go_num, by rw [e2], by rw [e3], ?_⟩
                rw [e1, e2]
                exact HK1.out
              case measure => simp [intOf]; omega
            · have HK1 := Lib.hid hk1
              have HRY1 := Lib.hid hry1
              clear hk1 hry1
              go_wp2_with (at_builtin; refine append_now (.tmp 96) (.tmp 97) rfl rfl rfl HK1.out.now _ n cB (m.take n) rfl hbl.symm HRY1.out (by omega) HK1.out.base ?_; intro v' w2 hn' hg' ho'; have HK3 := Lib.hid (HK1.out.grow hn' hg' ho'); clear hn' hg' ho')
              go_roundw
              case rel =>
                refine ⟨i + 1, d', nb', ob', A9, c10, by omega, by omega, hd2, by go_num, by rw [e2], by rw [e3], ?_⟩
                rw [e1, e2]
                exact HK3.out
              case measure => simp [intOf]; omega
    · by_cases e1 : i < L.length
      · have e1' : (i : Int) < L.length := by omega
        have e2' : ¬ (i : Int) < 40 := by omega
        clear e0
        go_wp2_with fail
        refine (image_any HKS.out.dk).mono ?_
        rintro e w1 ⟨v1, b1, rfl, hs1, hn1, hb1⟩
        obtain ⟨A1, c1, rfl, h1c, h1m, h1r, h1b⟩ := hs1
        have HR1 := Lib.hid h1r
        have HK1 := Lib.hid (HKS.out.bel hb1)
        clear hn1 h1r h1b hb1 HKS H9R H9B
        go_wp2_with fail
        refine (same_tt A1 A10 _ _ c1 c9 d.now w1 rfl rfl HR1.out (ks_rd HK1.out) (by omega)).mono ?_
        rintro e w2 ⟨rfl, hb2⟩
        have HK2 := Lib.hid (HK1.out.bel hb2)
        clear hb2 HK1 HR1
        go_wp2_with fail
        refine (synced_any HK2.out.dk).mono ?_
        rintro e w' ⟨rfl, rfl⟩
        have k0 : w2.cell? ⟨gc, 0, none⟩ = some (.int .i64 keep) := (HK2.out.below.cell (p := ⟨gc, 0, none⟩) HLT.out).trans HC0.out
        have k1 : w2.cell? ⟨gc, 1, none⟩ = some (.slice AJ jn jc) := (HK2.out.below.cell (p := ⟨gc, 1, none⟩) HLT.out).trans HC1.out
        go_wp2_with fail
        by_cases hneg : keep < 0
        · refine (crash_old HK2.out.dk keep hneg AJ _ jc).mono ?_
          rintro e w3 ⟨rfl, ha⟩
          obtain ⟨nb', ob', hk3⟩ := HK2.out.after ha
          have HK3 := Lib.hid hk3
          have k3 : w3.cell? ⟨gc, 0, none⟩ = some (.int .i64 keep) := (hk3.below.cell (p := ⟨gc, 0, none⟩) HLT.out).trans HC0.out
          clear ha hk3 HK2 k0 k1
          go_wp2_with fail
          refine (image_any HK3.out.dk).mono ?_
          rintro e w4 ⟨v4, b4, rfl, hs4, hn4, hb4⟩
          obtain ⟨A4, c4, rfl, h4c, h4m, h4r, h4b⟩ := hs4
          try clear hs4
          have HR4 := Lib.hid h4r
          have HK4 := Lib.hid (HK3.out.bel hb4)
          have k4 : w4.cell? ⟨gc, 0, none⟩ = some (.int .i64 keep) := (HK4.out.below.cell (p := ⟨gc, 0, none⟩) HLT.out).trans HC0.out
          have hol := HK4.out.dk.wf.old
          have hmo := HK4.out.dk.wf.most
          clear hn4 h4r h4b hb4 HK3 k3
          go_wp2_with fail
          refine (same_tt A4 A9 _ _ c4 c10 d.old w4 rfl rfl HR4.out HK4.out.old (by simp only [crashD] at hol hmo; omega)).mono ?_
          rintro e w5 ⟨rfl, hb5⟩
          have HB5 := Lib.hid (HK4.out.below.trans (hb5.mono HK4.out.base))
          clear hb5
          go_wp2_with fail
          refine (awake_any w5).mono ?_
          rintro e w6 ⟨rfl, hb6⟩
          have HB6 := Lib.hid (HB0.out.trans ((HB5.out.trans (hb6.mono HB5.out.size)).mono (HGC.out ▸ HB0.out.size)))
          clear hb6
          go_wp2_with fail
          go_ret
          exact ⟨rfl, by rw [HGC.out]; exact HB6.out⟩
        · have hpos : 0 ≤ keep := by omega
          have hfl := HDK3.out.fl
          refine (crash_nown HK2.out.dk hfl keep hpos AJ junk jn jc HJN.out (HJW.out.below HK2.out.below) HJL.out).mono ?_
          rintro e w3 ⟨rfl, ha⟩
          obtain ⟨nb', ob', hk3⟩ := HK2.out.after ha
          have hln := crLeft_length d hfl keep hpos junk
          have hnth := crLeft_nth d hfl keep hpos junk
          generalize crLeft d keep junk = LF at *
          have HK3 := Lib.hid hk3
          have HNTH := Lib.hid hnth
          have k3 : w3.cell? ⟨gc, 0, none⟩ = some (.int .i64 keep) := (hk3.below.cell (p := ⟨gc, 0, none⟩) HLT.out).trans HC0.out
          clear ha hk3 HK2 k0 k1 hnth
          go_wp2_with fail
          refine (image_any HK3.out.dk).mono ?_
          rintro e w4 ⟨v4, b4, rfl, hs4, hn4, hb4⟩
          have hs4 : Sl w4 v4 LF b4 := hs4
          obtain ⟨A4, c4, rfl, h4c, h4m, h4r, h4b⟩ := hs4
          try clear hs4
          have HR4 := Lib.hid h4r
          have HK4 := Lib.hid (HK3.out.bel hb4)
          have k4 : w4.cell? ⟨gc, 0, none⟩ = some (.int .i64 keep) := (HK4.out.below.cell (p := ⟨gc, 0, none⟩) HLT.out).trans HC0.out
          clear hn4 h4r h4b hb4 HK3 k3
          have hnl := HDK3.out.now
          have r1 : ¬ LF.length < d.floor := by omega
          have r2 : ¬ d.now.length < LF.length := by omega
          have r3 : IntKind.i64.wrap ((LF.length : Int) - d.floor) = ((LF.length - d.floor : Nat) : Int) := by simp [IntKind.wrap, IntKind.signed, IntKind.bits]; omega
          have r4 : ¬ keep < ((LF.length - d.floor : Nat) : Int) := by omega
          have hnn : ¬ keep < 0 := by omega
          by_cases hlt : LF.length < d.now.length
          · have r5 : (LF.length : Int) < d.now.length := by omega
            have r6 : (((LF.length - d.floor : Nat) : Int) != keep) = false := by rw [bne_eq_false_iff_eq]; omega
            have HLN := Lib.hid hln
            clear hln hlt
            go_wp2_with fail
            clear r1 r2 r3 r4 r5 hnn k4
            have hq : LF.length ≤ d.now.length := by have := HLN.out; have := hfl; omega
            go_loopw [16] (fun v wq => ∃ j : Nat, j ≤ LF.length ∧ v = .int .i64 j ∧ Below w4.heap.size w4 wq) (fun v _ => LF.length - (intOf v).toNat)
            case atStart => exact ⟨0, by omega, rfl, Below.refl _ _⟩
            case round =>
              obtain ⟨j, hj, rfl, hbx⟩ := hrel
              have HBX := Lib.hid hbx
              clear hbx
              by_cases jl : j < LF.length
              · have jl' : (j : Int) < LF.length := by omega
                obtain ⟨g4, o4, rfl, hg4, hc4⟩ := HR4.out.2 (by intro e; rw [e] at jl; simp at jl)
                obtain ⟨g9, o9, rfl, hg9, hc9⟩ := (ks_rd HK4.out).2 (by intro e; rw [e] at hq; simp at hq; rw [hq] at jl; simp at jl)
                have k1 : wr.cell? ⟨gc, 1, none⟩ = some (.slice AJ jn jc) := (HBX.out.cell (p := ⟨gc, 1, none⟩) (Nat.lt_of_lt_of_le HLT.out HK4.out.base)).trans ((HK4.out.below.cell (p := ⟨gc, 1, none⟩) HLT.out).trans HC1.out)
                have x1 := (HBX.out.cell (p := ⟨g4, o4 + j, none⟩) hg4).trans (hc4 j jl)
                have x2 := (HBX.out.cell (p := ⟨g9, o9 + j, none⟩) hg9).trans (hc9 j (by omega))
                have y0 : (j : Int) < d.now.length := by omega
                have y1 : IntKind.i64.wrap ((LF.length : Int) - 1) = ((LF.length - 1 : Nat) : Int) := by simp [IntKind.wrap, IntKind.signed, IntKind.bits]; omega
                clear hc4 hc9
                have NX := HNTH.out j jl
                by_cases z1 : d.floor ≤ j
                · by_cases z2 : j / 512 = (LF.length - 1) / 512
                  · by_cases z3 : 0 < jn
                    · obtain ⟨J, rfl⟩ : ∃ J, jn = J + 1 := ⟨jn - 1, by omega⟩
                      have y2 : ((j : Int) / 512 == ((LF.length - 1 : Nat) : Int) / 512) = true := by rw [beq_iff_eq]; omega
                      have y3 : (d.floor : Int) ≤ j := by omega
                      clear NX z2 z1 z3
                      go_upto_region 32 with fail
                      go_quiet (fail)
                      go_wp2_with fail
                      go_roundw
                      case rel =>
                        first
                        | exact ⟨j + 1, by omega, by go_num, HBX.out.trans ((below_drewN' (Below.refl _ _) _).mono HBX.out.size)⟩
                        | (repeat apply Exists.intro); refine ⟨⟨j + 1, by omega, by go_num, HBX.out.trans ((below_drewN' (Below.refl _ _) _).mono HBX.out.size)⟩, rfl⟩
                      case measure => simp [intOf]; omega
                    · have y2 : ((j : Int) / 512 == ((LF.length - 1 : Nat) : Int) / 512) = true := by rw [beq_iff_eq]; omega
                      have y3 : (d.floor : Int) ≤ j := by omega
                      obtain rfl : jn = 0 := by omega
                      rw [NX (fun h => by have := HJN.out; omega)] at x1
                      clear NX z2 z1 z3
                      go_upto_region 32 with fail
                      go_quiet (fail)
                      go_wp2_with fail
                      go_roundw
                      case rel =>
                        first
                        | exact ⟨j + 1, by omega, by go_num, HBX.out.trans ((below_drewN' (Below.refl _ _) _).mono HBX.out.size)⟩
                        | (repeat apply Exists.intro); refine ⟨⟨j + 1, by omega, by go_num, HBX.out.trans ((below_drewN' (Below.refl _ _) _).mono HBX.out.size)⟩, rfl⟩
                      case measure => simp [intOf]; omega
                  · have y2 : ((j : Int) / 512 == ((LF.length - 1 : Nat) : Int) / 512) = false := by rw [beq_eq_false_iff_ne]; omega
                    have y3 : (d.floor : Int) ≤ j := by omega
                    rw [NX (fun h => z2 h.1.2)] at x1
                    clear NX z2 z1
                    go_upto_region 32 with fail
                    go_quiet (fail)
                    go_wp2_with fail
                    go_roundw
                    case rel =>
                      first
                      | exact ⟨j + 1, by omega, by go_num, HBX.out.trans ((below_drewN' (Below.refl _ _) _).mono HBX.out.size)⟩
                      | (repeat apply Exists.intro); refine ⟨⟨j + 1, by omega, by go_num, HBX.out.trans ((below_drewN' (Below.refl _ _) _).mono HBX.out.size)⟩, rfl⟩
                    case measure => simp [intOf]; omega
                · have y3 : ¬ (d.floor : Int) ≤ j := by omega
                  rw [NX (fun h => z1 h.1.1)] at x1
                  clear NX z1
                  go_upto_region 32 with fail
                  go_quiet (fail)
                  go_wp2_with fail
                  go_roundw
                  case rel =>
                    first
                    | exact ⟨j + 1, by omega, by go_num, HBX.out.trans ((below_drewN' (Below.refl _ _) _).mono HBX.out.size)⟩
                    | (repeat apply Exists.intro); refine ⟨⟨j + 1, by omega, by go_num, HBX.out.trans ((below_drewN' (Below.refl _ _) _).mono HBX.out.size)⟩, rfl⟩
                  case measure => simp [intOf]; omega
              · have jl' : ¬ (j : Int) < LF.length := by omega
                have HKX := Lib.hid (HK4.out.bel HBX.out)
                go_wp2_with fail
                refine (synced_any HKX.out.dk).mono ?_
                rintro e w' ⟨rfl, rfl⟩
                have hfe : (crashD d LF).floor = LF.length := rfl
                rw [hfe]
                clear hfe
                go_wp2_with fail
                refine (awake_any _).mono ?_
                rintro e w6 ⟨rfl, hb6⟩
                have HB6 := Lib.hid (HB0.out.trans ((HKX.out.below.trans (hb6.mono HKX.out.base)).mono (HGC.out ▸ HB0.out.size)))
                clear hb6
                go_wp2_with fail
                go_ret
                exact ⟨rfl, by rw [HGC.out]; exact HB6.out⟩
          · have r5 : ¬ (LF.length : Int) < d.now.length := by omega
            have HLN := Lib.hid hln
            clear hln hlt
            go_wp2_with fail
            clear r1 r2 r3 r4 r5 hnn k4
            have hq : LF.length ≤ d.now.length := by have := HLN.out; have := hfl; omega
            go_loopw [16] (fun v wq => ∃ j : Nat, j ≤ LF.length ∧ v = .int .i64 j ∧ Below w4.heap.size w4 wq) (fun v _ => LF.length - (intOf v).toNat)
            case atStart => exact ⟨0, by omega, rfl, Below.refl _ _⟩
            case round =>
              obtain ⟨j, hj, rfl, hbx⟩ := hrel
              have HBX := Lib.hid hbx
              clear hbx
              by_cases jl : j < LF.length
              · have jl' : (j : Int) < LF.length := by omega
                obtain ⟨g4, o4, rfl, hg4, hc4⟩ := HR4.out.2 (by intro e; rw [e] at jl; simp at jl)
                obtain ⟨g9, o9, rfl, hg9, hc9⟩ := (ks_rd HK4.out).2 (by intro e; rw [e] at hq; simp at hq; rw [hq] at jl; simp at jl)
                have k1 : wr.cell? ⟨gc, 1, none⟩ = some (.slice AJ jn jc) := (HBX.out.cell (p := ⟨gc, 1, none⟩) (Nat.lt_of_lt_of_le HLT.out HK4.out.base)).trans ((HK4.out.below.cell (p := ⟨gc, 1, none⟩) HLT.out).trans HC1.out)
                have x1 := (HBX.out.cell (p := ⟨g4, o4 + j, none⟩) hg4).trans (hc4 j jl)
                have x2 := (HBX.out.cell (p := ⟨g9, o9 + j, none⟩) hg9).trans (hc9 j (by omega))
                have y0 : (j : Int) < d.now.length := by omega
                have y1 : IntKind.i64.wrap ((LF.length : Int) - 1) = ((LF.length - 1 : Nat) : Int) := by simp [IntKind.wrap, IntKind.signed, IntKind.bits]; omega
                clear hc4 hc9
                have NX := HNTH.out j jl
                by_cases z1 : d.floor ≤ j
                · by_cases z2 : j / 512 = (LF.length - 1) / 512
                  · by_cases z3 : 0 < jn
                    · obtain ⟨J, rfl⟩ : ∃ J, jn = J + 1 := ⟨jn - 1, by omega⟩
                      have y2 : ((j : Int) / 512 == ((LF.length - 1 : Nat) : Int) / 512) = true := by rw [beq_iff_eq]; omega
                      have y3 : (d.floor : Int) ≤ j := by omega
                      clear NX z2 z1 z3
                      go_upto_region 32 with fail
                      go_quiet (fail)
                      go_wp2_with fail
                      go_roundw
                      case rel =>
                        first
                        | exact ⟨j + 1, by omega, by go_num, HBX.out.trans ((below_drewN' (Below.refl _ _) _).mono HBX.out.size)⟩
                        | (repeat apply Exists.intro); refine ⟨⟨j + 1, by omega, by go_num, HBX.out.trans ((below_drewN' (Below.refl _ _) _).mono HBX.out.size)⟩, rfl⟩
                      case measure => simp [intOf]; omega
                    · have y2 : ((j : Int) / 512 == ((LF.length - 1 : Nat) : Int) / 512) = true := by rw [beq_iff_eq]; omega
                      have y3 : (d.floor : Int) ≤ j := by omega
                      obtain rfl : jn = 0 := by omega
                      rw [NX (fun h => by have := HJN.out; omega)] at x1
                      clear NX z2 z1 z3
                      go_upto_region 32 with fail
                      go_quiet (fail)
                      go_wp2_with fail
                      go_roundw
                      case rel =>
                        first
                        | exact ⟨j + 1, by omega, by go_num, HBX.out.trans ((below_drewN' (Below.refl _ _) _).mono HBX.out.size)⟩
                        | (repeat apply Exists.intro); refine ⟨⟨j + 1, by omega, by go_num, HBX.out.trans ((below_drewN' (Below.refl _ _) _).mono HBX.out.size)⟩, rfl⟩
                      case measure => simp [intOf]; omega
                  · have y2 : ((j : Int) / 512 == ((LF.length - 1 : Nat) : Int) / 512) = false := by rw [beq_eq_false_iff_ne]; omega
                    have y3 : (d.floor : Int) ≤ j := by omega
                    rw [NX (fun h => z2 h.1.2)] at x1
                    clear NX z2 z1
                    go_upto_region 32 with fail
                    go_quiet (fail)
                    go_wp2_with fail
                    go_roundw
                    case rel =>
                      first
                      | exact ⟨j + 1, by omega, by go_num, HBX.out.trans ((below_drewN' (Below.refl _ _) _).mono HBX.out.size)⟩
                      | (repeat apply Exists.intro); refine ⟨⟨j + 1, by omega, by go_num, HBX.out.trans ((below_drewN' (Below.refl _ _) _).mono HBX.out.size)⟩, rfl⟩
                    case measure => simp [intOf]; omega
                · have y3 : ¬ (d.floor : Int) ≤ j := by omega
                  rw [NX (fun h => z1 h.1.1)] at x1
                  clear NX z1
                  go_upto_region 32 with fail
                  go_quiet (fail)
                  go_wp2_with fail
                  go_roundw
                  case rel =>
                    first
                    | exact ⟨j + 1, by omega, by go_num, HBX.out.trans ((below_drewN' (Below.refl _ _) _).mono HBX.out.size)⟩
                    | (repeat apply Exists.intro); refine ⟨⟨j + 1, by omega, by go_num, HBX.out.trans ((below_drewN' (Below.refl _ _) _).mono HBX.out.size)⟩, rfl⟩
                  case measure => simp [intOf]; omega
              · have jl' : ¬ (j : Int) < LF.length := by omega
                have HKX := Lib.hid (HK4.out.bel HBX.out)
                go_wp2_with fail
                refine (synced_any HKX.out.dk).mono ?_
                rintro e w' ⟨rfl, rfl⟩
                have hfe : (crashD d LF).floor = LF.length := rfl
                rw [hfe]
                clear hfe
                go_wp2_with fail
                refine (awake_any _).mono ?_
                rintro e w6 ⟨rfl, hb6⟩
                have HB6 := Lib.hid (HB0.out.trans ((HKX.out.below.trans (hb6.mono HKX.out.base)).mono (HGC.out ▸ HB0.out.size)))
                clear hb6
                go_wp2_with fail
                go_ret
                exact ⟨rfl, by rw [HGC.out]; exact HB6.out⟩
      · have e1' : ¬ (i : Int) < L.length := by omega
        clear e0
        go_wp2_with fail
        refine (image_any HKS.out.dk).mono ?_
        rintro e w1 ⟨v1, b1, rfl, hs1, hn1, hb1⟩
        obtain ⟨A1, c1, rfl, h1c, h1m, h1r, h1b⟩ := hs1
        have HR1 := Lib.hid h1r
        have HK1 := Lib.hid (HKS.out.bel hb1)
        clear hn1 h1r h1b hb1 HKS H9R H9B
        go_wp2_with fail
        refine (same_tt A1 A10 _ _ c1 c9 d.now w1 rfl rfl HR1.out (ks_rd HK1.out) (by omega)).mono ?_
        rintro e w2 ⟨rfl, hb2⟩
        have HK2 := Lib.hid (HK1.out.bel hb2)
        clear hb2 HK1 HR1
        go_wp2_with fail
        refine (synced_any HK2.out.dk).mono ?_
        rintro e w' ⟨rfl, rfl⟩
        have k0 : w2.cell? ⟨gc, 0, none⟩ = some (.int .i64 keep) := (HK2.out.below.cell (p := ⟨gc, 0, none⟩) HLT.out).trans HC0.out
        have k1 : w2.cell? ⟨gc, 1, none⟩ = some (.slice AJ jn jc) := (HK2.out.below.cell (p := ⟨gc, 1, none⟩) HLT.out).trans HC1.out
        go_wp2_with fail
        by_cases hneg : keep < 0
        · refine (crash_old HK2.out.dk keep hneg AJ _ jc).mono ?_
          rintro e w3 ⟨rfl, ha⟩
          obtain ⟨nb', ob', hk3⟩ := HK2.out.after ha
          have HK3 := Lib.hid hk3
          have k3 : w3.cell? ⟨gc, 0, none⟩ = some (.int .i64 keep) := (hk3.below.cell (p := ⟨gc, 0, none⟩) HLT.out).trans HC0.out
          clear ha hk3 HK2 k0 k1
          go_wp2_with fail
          refine (image_any HK3.out.dk).mono ?_
          rintro e w4 ⟨v4, b4, rfl, hs4, hn4, hb4⟩
          obtain ⟨A4, c4, rfl, h4c, h4m, h4r, h4b⟩ := hs4
          try clear hs4
          have HR4 := Lib.hid h4r
          have HK4 := Lib.hid (HK3.out.bel hb4)
          have k4 : w4.cell? ⟨gc, 0, none⟩ = some (.int .i64 keep) := (HK4.out.below.cell (p := ⟨gc, 0, none⟩) HLT.out).trans HC0.out
          have hol := HK4.out.dk.wf.old
          have hmo := HK4.out.dk.wf.most
          clear hn4 h4r h4b hb4 HK3 k3
          go_wp2_with fail
          refine (same_tt A4 A9 _ _ c4 c10 d.old w4 rfl rfl HR4.out HK4.out.old (by simp only [crashD] at hol hmo; omega)).mono ?_
          rintro e w5 ⟨rfl, hb5⟩
          have HB5 := Lib.hid (HK4.out.below.trans (hb5.mono HK4.out.base))
          clear hb5
          go_wp2_with fail
          refine (awake_any w5).mono ?_
          rintro e w6 ⟨rfl, hb6⟩
          have HB6 := Lib.hid (HB0.out.trans ((HB5.out.trans (hb6.mono HB5.out.size)).mono (HGC.out ▸ HB0.out.size)))
          clear hb6
          go_wp2_with fail
          go_ret
          exact ⟨rfl, by rw [HGC.out]; exact HB6.out⟩
        · have hpos : 0 ≤ keep := by omega
          have hfl := HDK3.out.fl
          refine (crash_nown HK2.out.dk hfl keep hpos AJ junk jn jc HJN.out (HJW.out.below HK2.out.below) HJL.out).mono ?_
          rintro e w3 ⟨rfl, ha⟩
          obtain ⟨nb', ob', hk3⟩ := HK2.out.after ha
          have hln := crLeft_length d hfl keep hpos junk
          have hnth := crLeft_nth d hfl keep hpos junk
          generalize crLeft d keep junk = LF at *
          have HK3 := Lib.hid hk3
          have HNTH := Lib.hid hnth
          have k3 : w3.cell? ⟨gc, 0, none⟩ = some (.int .i64 keep) := (hk3.below.cell (p := ⟨gc, 0, none⟩) HLT.out).trans HC0.out
          clear ha hk3 HK2 k0 k1 hnth
          go_wp2_with fail
          refine (image_any HK3.out.dk).mono ?_
          rintro e w4 ⟨v4, b4, rfl, hs4, hn4, hb4⟩
          have hs4 : Sl w4 v4 LF b4 := hs4
          obtain ⟨A4, c4, rfl, h4c, h4m, h4r, h4b⟩ := hs4
          try clear hs4
          have HR4 := Lib.hid h4r
          have HK4 := Lib.hid (HK3.out.bel hb4)
          have k4 : w4.cell? ⟨gc, 0, none⟩ = some (.int .i64 keep) := (HK4.out.below.cell (p := ⟨gc, 0, none⟩) HLT.out).trans HC0.out
          clear hn4 h4r h4b hb4 HK3 k3
          have hnl := HDK3.out.now
          have r1 : ¬ LF.length < d.floor := by omega
          have r2 : ¬ d.now.length < LF.length := by omega
          have r3 : IntKind.i64.wrap ((LF.length : Int) - d.floor) = ((LF.length - d.floor : Nat) : Int) := by simp [IntKind.wrap, IntKind.signed, IntKind.bits]; omega
          have r4 : ¬ keep < ((LF.length - d.floor : Nat) : Int) := by omega
          have hnn : ¬ keep < 0 := by omega
          by_cases hlt : LF.length < d.now.length
          · have r5 : (LF.length : Int) < d.now.length := by omega
            have r6 : (((LF.length - d.floor : Nat) : Int) != keep) = false := by rw [bne_eq_false_iff_eq]; omega
            have HLN := Lib.hid hln
            clear hln hlt
            go_wp2_with fail
            clear r1 r2 r3 r4 r5 hnn k4
            have hq : LF.length ≤ d.now.length := by have := HLN.out; have := hfl; omega
            go_loopw [16] (fun v wq => ∃ j : Nat, j ≤ LF.length ∧ v = .int .i64 j ∧ Below w4.heap.size w4 wq) (fun v _ => LF.length - (intOf v).toNat)
            case atStart => exact ⟨0, by omega, rfl, Below.refl _ _⟩
            case round =>
              obtain ⟨j, hj, rfl, hbx⟩ := hrel
              have HBX := Lib.hid hbx
              clear hbx
              by_cases jl : j < LF.length
              · have jl' : (j : Int) < LF.length := by omega
                obtain ⟨g4, o4, rfl, hg4, hc4⟩ := HR4.out.2 (by intro e; rw [e] at jl; simp at jl)
                obtain ⟨g9, o9, rfl, hg9, hc9⟩ := (ks_rd HK4.out).2 (by intro e; rw [e] at hq; simp at hq; rw [hq] at jl; simp at jl)
                have k1 : wr.cell? ⟨gc, 1, none⟩ = some (.slice AJ jn jc) := (HBX.out.cell (p := ⟨gc, 1, none⟩) (Nat.lt_of_lt_of_le HLT.out HK4.out.base)).trans ((HK4.out.below.cell (p := ⟨gc, 1, none⟩) HLT.out).trans HC1.out)
                have x1 := (HBX.out.cell (p := ⟨g4, o4 + j, none⟩) hg4).trans (hc4 j jl)
                have x2 := (HBX.out.cell (p := ⟨g9, o9 + j, none⟩) hg9).trans (hc9 j (by omega))
                have y0 : (j : Int) < d.now.length := by omega
                have y1 : IntKind.i64.wrap ((LF.length : Int) - 1) = ((LF.length - 1 : Nat) : Int) := by simp [IntKind.wrap, IntKind.signed, IntKind.bits]; omega
                clear hc4 hc9
                have NX := HNTH.out j jl
                by_cases z1 : d.floor ≤ j
                · by_cases z2 : j / 512 = (LF.length - 1) / 512
                  · by_cases z3 : 0 < jn
                    · obtain ⟨J, rfl⟩ : ∃ J, jn = J + 1 := ⟨jn - 1, by omega⟩
                      have y2 : ((j : Int) / 512 == ((LF.length - 1 : Nat) : Int) / 512) = true := by rw [beq_iff_eq]; omega
                      have y3 : (d.floor : Int) ≤ j := by omega
                      clear NX z2 z1 z3
                      go_upto_region 32 with fail
                      go_quiet (fail)
                      go_wp2_with fail
                      go_roundw
                      case rel =>
                        first
                        | exact ⟨j + 1, by omega, by go_num, HBX.out.trans ((below_drewN' (Below.refl _ _) _).mono HBX.out.size)⟩
                        | (repeat apply Exists.intro); refine ⟨⟨j + 1, by omega, by go_num, HBX.out.trans ((below_drewN' (Below.refl _ _) _).mono HBX.out.size)⟩, rfl⟩
                      case measure => simp [intOf]; omega
                    · have y2 : ((j : Int) / 512 == ((LF.length - 1 : Nat) : Int) / 512) = true := by rw [beq_iff_eq]; omega
                      have y3 : (d.floor : Int) ≤ j := by omega
                      obtain rfl : jn = 0 := by omega
                      rw [NX (fun h => by have := HJN.out; omega)] at x1
                      clear NX z2 z1 z3
                      go_upto_region 32 with fail
                      go_quiet (fail)
                      go_wp2_with fail
                      go_roundw
                      case rel =>
                        first
                        | exact ⟨j + 1, by omega, by go_num, HBX.out.trans ((below_drewN' (Below.refl _ _) _).mono HBX.out.size)⟩
                        | (repeat apply Exists.intro); refine ⟨⟨j + 1, by omega, by go_num, HBX.out.trans ((below_drewN' (Below.refl _ _) _).mono HBX.out.size)⟩, rfl⟩
                      case measure => simp [intOf]; omega
                  · have y2 : ((j : Int) / 512 == ((LF.length - 1 : Nat) : Int) / 512) = false := by rw [beq_eq_false_iff_ne]; omega
                    have y3 : (d.floor : Int) ≤ j := by omega
                    rw [NX (fun h => z2 h.1.2)] at x1
                    clear NX z2 z1
                    go_upto_region 32 with fail
                    go_quiet (fail)
                    go_wp2_with fail
                    go_roundw
                    case rel =>
                      first
                      | exact ⟨j + 1, by omega, by go_num, HBX.out.trans ((below_drewN' (Below.refl _ _) _).mono HBX.out.size)⟩
                      | (repeat apply Exists.intro); refine ⟨⟨j + 1, by omega, by go_num, HBX.out.trans ((below_drewN' (Below.refl _ _) _).mono HBX.out.size)⟩, rfl⟩
                    case measure => simp [intOf]; omega
                · have y3 : ¬ (d.floor : Int) ≤ j := by omega
                  rw [NX (fun h => z1 h.1.1)] at x1
                  clear NX z1
                  go_upto_region 32 with fail
                  go_quiet (fail)
                  go_wp2_with fail
                  go_roundw
                  case rel =>
                    first
                    | exact ⟨j + 1, by omega, by go_num, HBX.out.trans ((below_drewN' (Below.refl _ _) _).mono HBX.out.size)⟩
                    | (repeat apply Exists.intro); refine ⟨⟨j + 1, by omega, by go_num, HBX.out.trans ((below_drewN' (Below.refl _ _) _).mono HBX.out.size)⟩, rfl⟩
                  case measure => simp [intOf]; omega
              · have jl' : ¬ (j : Int) < LF.length := by omega
                have HKX := Lib.hid (HK4.out.bel HBX.out)
                go_wp2_with fail
                refine (synced_any HKX.out.dk).mono ?_
                rintro e w' ⟨rfl, rfl⟩
                have hfe : (crashD d LF).floor = LF.length := rfl
                rw [hfe]
                clear hfe
                go_wp2_with fail
                refine (awake_any _).mono ?_
                rintro e w6 ⟨rfl, hb6⟩
                have HB6 := Lib.hid (HB0.out.trans ((HKX.out.below.trans (hb6.mono HKX.out.base)).mono (HGC.out ▸ HB0.out.size)))
                clear hb6
                go_wp2_with fail
                go_ret
                exact ⟨rfl, by rw [HGC.out]; exact HB6.out⟩
          · have r5 : ¬ (LF.length : Int) < d.now.length := by omega
            have HLN := Lib.hid hln
            clear hln hlt
            go_wp2_with fail
            clear r1 r2 r3 r4 r5 hnn k4
            have hq : LF.length ≤ d.now.length := by have := HLN.out; have := hfl; omega
            go_loopw [16] (fun v wq => ∃ j : Nat, j ≤ LF.length ∧ v = .int .i64 j ∧ Below w4.heap.size w4 wq) (fun v _ => LF.length - (intOf v).toNat)
            case atStart => exact ⟨0, by omega, rfl, Below.refl _ _⟩
            case round =>
              obtain ⟨j, hj, rfl, hbx⟩ := hrel
              have HBX := Lib.hid hbx
              clear hbx
              by_cases jl : j < LF.length
              · have jl' : (j : Int) < LF.length := by omega
                obtain ⟨g4, o4, rfl, hg4, hc4⟩ := HR4.out.2 (by intro e; rw [e] at jl; simp at jl)
                obtain ⟨g9, o9, rfl, hg9, hc9⟩ := (ks_rd HK4.out).2 (by intro e; rw [e] at hq; simp at hq; rw [hq] at jl; simp at jl)
                have k1 : wr.cell? ⟨gc, 1, none⟩ = some (.slice AJ jn jc) := (HBX.out.cell (p := ⟨gc, 1, none⟩) (Nat.lt_of_lt_of_le HLT.out HK4.out.base)).trans ((HK4.out.below.cell (p := ⟨gc, 1, none⟩) HLT.out).trans HC1.out)
                have x1 := (HBX.out.cell (p := ⟨g4, o4 + j, none⟩) hg4).trans (hc4 j jl)
                have x2 := (HBX.out.cell (p := ⟨g9, o9 + j, none⟩) hg9).trans (hc9 j (by omega))
                have y0 : (j : Int) < d.now.length := by omega
                have y1 : IntKind.i64.wrap ((LF.length : Int) - 1) = ((LF.length - 1 : Nat) : Int) := by simp [IntKind.wrap, IntKind.signed, IntKind.bits]; omega
                clear hc4 hc9
                have NX := HNTH.out j jl
                by_cases z1 : d.floor ≤ j
                · by_cases z2 : j / 512 = (LF.length - 1) / 512
                  · by_cases z3 : 0 < jn
                    · obtain ⟨J, rfl⟩ : ∃ J, jn = J + 1 := ⟨jn - 1, by omega⟩
                      have y2 : ((j : Int) / 512 == ((LF.length - 1 : Nat) : Int) / 512) = true := by rw [beq_iff_eq]; omega
                      have y3 : (d.floor : Int) ≤ j := by omega
                      clear NX z2 z1 z3
                      go_upto_region 32 with fail
                      go_quiet (fail)
                      go_wp2_with fail
                      go_roundw
                      case rel =>
                        first
                        | exact ⟨j + 1, by omega, by go_num, HBX.out.trans ((below_drewN' (Below.refl _ _) _).mono HBX.out.size)⟩
                        | (repeat apply Exists.intro); refine ⟨⟨j + 1, by omega, by go_num, HBX.out.trans ((below_drewN' (Below.refl _ _) _).mono HBX.out.size)⟩, rfl⟩
                      case measure => simp [intOf]; omega
                    · have y2 : ((j : Int) / 512 == ((LF.length - 1 : Nat) : Int) / 512) = true := by rw [beq_iff_eq]; omega
                      have y3 : (d.floor : Int) ≤ j := by omega
                      obtain rfl : jn = 0 := by omega
                      rw [NX (fun h => by have := HJN.out; omega)] at x1
                      clear NX z2 z1 z3
                      go_upto_region 32 with fail
                      go_quiet (fail)
                      go_wp2_with fail
                      go_roundw
                      case rel =>
                        first
                        | exact ⟨j + 1, by omega, by go_num, HBX.out.trans ((below_drewN' (Below.refl _ _) _).mono HBX.out.size)⟩
                        | (repeat apply Exists.intro); refine ⟨⟨j + 1, by omega, by go_num, HBX.out.trans ((below_drewN' (Below.refl _ _) _).mono HBX.out.size)⟩, rfl⟩
                      case measure => simp [intOf]; omega
                  · have y2 : ((j : Int) / 512 == ((LF.length - 1 : Nat) : Int) / 512) = false := by rw [beq_eq_false_iff_ne]; omega
                    have y3 : (d.floor : Int) ≤ j := by omega
                    rw [NX (fun h => z2 h.1.2)] at x1
                    clear NX z2 z1
                    go_upto_region 32 with fail
                    go_quiet (fail)
                    go_wp2_with fail
                    go_roundw
                    case rel =>
                      first
                      | exact ⟨j + 1, by omega, by go_num, HBX.out.trans ((below_drewN' (Below.refl _ _) _).mono HBX.out.size)⟩
                      | (repeat apply Exists.intro); refine ⟨⟨j + 1, by omega, by go_num, HBX.out.trans ((below_drewN' (Below.refl _ _) _).mono HBX.out.size)⟩, rfl⟩
                    case measure => simp [intOf]; omega
                · have y3 : ¬ (d.floor : Int) ≤ j := by omega
                  rw [NX (fun h => z1 h.1.1)] at x1
                  clear NX z1
                  go_upto_region 32 with fail
                  go_quiet (fail)
                  go_wp2_with fail
                  go_roundw
                  case rel =>
                    first
                    | exact ⟨j + 1, by omega, by go_num, HBX.out.trans ((below_drewN' (Below.refl _ _) _).mono HBX.out.size)⟩
                    | (repeat apply Exists.intro); refine ⟨⟨j + 1, by omega, by go_num, HBX.out.trans ((below_drewN' (Below.refl _ _) _).mono HBX.out.size)⟩, rfl⟩
                  case measure => simp [intOf]; omega
              · have jl' : ¬ (j : Int) < LF.length := by omega
                have HKX := Lib.hid (HK4.out.bel HBX.out)
                go_wp2_with fail
                refine (synced_any HKX.out.dk).mono ?_
                rintro e w' ⟨rfl, rfl⟩
                have hfe : (crashD d LF).floor = LF.length := rfl
                rw [hfe]
                clear hfe
                go_wp2_with fail
                refine (awake_any _).mono ?_
                rintro e w6 ⟨rfl, hb6⟩
                have HB6 := Lib.hid (HB0.out.trans ((HKX.out.below.trans (hb6.mono HKX.out.base)).mono (HGC.out ▸ HB0.out.size)))
                clear hb6
                go_wp2_with fail
                go_ret
                exact ⟨rfl, by rw [HGC.out]; exact HB6.out⟩
end Go.Proofs.Ytkmjbfednmidbaa
