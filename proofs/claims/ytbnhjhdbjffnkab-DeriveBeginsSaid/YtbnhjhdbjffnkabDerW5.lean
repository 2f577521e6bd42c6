/-
  THE WALK OF quillpressref04.Hmac. Conditions: the key and the bytes read as lists.
-/
import Derived.Test.YtbnhjhdbjffnkabDerW4
import Derived.Test.YtbnhjhdbjffnkabShaR2
namespace Go.Proofs.Ytbnhjhdbjffnkab
open Go.RowKit
set_option linter.unusedSimpArgs false
set_option linter.unusedVariables false

theorem ref_c (A : Option Addr) (n c : Nat) (m : List Nat) (w : World) (hn : n = m.length) (hm : m.length ≤ 17592186044416) (hr : Rd w A m) : Calls Try.prog 16 #[.slice A n c] w fun e w' => e = .returned (.agg (shaC m)) ∧ Below w.heap.size w w' := by
  subst hn
  exact (refOf_any A c m w hm hr).mono fun e w' ⟨he, hb⟩ => ⟨he, hb⟩
def padP (k : List Nat) (t i : Nat) : List Nat := (List.range i).map fun j => nth k j ^^^ t
theorem padP_succ (k : List Nat) (t i : Nat) : padP k t (i + 1) = padP k t i ++ [nth k i ^^^ t] := by simp [padP, List.range_succ]
theorem padP_length (k : List Nat) (t i : Nat) : (padP k t i).length = i := by simp [padP]
theorem pad0 (k : List Nat) (j i : Nat) : nth (k ++ List.replicate j 0) i = nth k i := by
  by_cases h : i < k.length
  · simp [nth, List.getElem?_append_left h]
  · rw [nth_none (l := k) (by omega)]
    unfold nth
    rw [List.getD_eq_getElem?_getD, List.getElem?_append_right (by omega), List.getElem?_replicate]
    split <;> rfl
/-- Two lists of the call's own that have nothing in common. -/
structure Duo (w : World) (base : Nat) (v u : Value) (l m : List Nat) : Prop where
  a : Ow w base v l
  b : Ow w base u m
  ne : ∀ k, v.ownBlock = some k → u.ownBlock ≠ some k
theorem Duo.left {w w' : World} {base : Nat} {v u v' : Value} {l m l' : List Nat} (h : Duo w base v u l m) (ho : Ow w' base v' l') (hg : w.grownBy w' v.ownBlock) (hn : v'.ownBlock = v.ownBlock ∨ ∀ k, v'.ownBlock = some k → w.heap.size ≤ k) : Duo w' base v' u l' m := by
  refine ⟨ho, h.b.keepb' fun k e => hg.block k (h.b.lt k e).2 (fun e2 => h.ne k e2.symm e), fun k e e2 => ?_⟩
  rcases hn with hn | hn
  · exact h.ne k (by rw [← hn]; exact e) e2
  · have := hn k e; have := (h.b.lt k e2).2; omega
theorem Duo.right {w w' : World} {base : Nat} {v u u' : Value} {l m m' : List Nat} (h : Duo w base v u l m) (ho : Ow w' base u' m') (hg : w.grownBy w' u.ownBlock) (hn : u'.ownBlock = u.ownBlock ∨ ∀ k, u'.ownBlock = some k → w.heap.size ≤ k) : Duo w' base v u' l m' := by
  refine ⟨h.a.keepb' fun k e => hg.block k (h.a.lt k e).2 (fun e2 => h.ne k e e2.symm), ho, fun k e e2 => ?_⟩
  rcases hn with hn | hn
  · exact h.ne k e (by rw [← hn]; exact e2)
  · have := hn k e2; have := (h.a.lt k e).2; omega
theorem new_or {P : Prop} {x y : Option Nat} {n : Nat} (h : x = y ∨ P ∧ x = some (n + 1)) : x = y ∨ ∀ k, x = some k → n ≤ k := h.imp id fun ⟨_, e⟩ k e2 => by rw [e] at e2; injection e2 with e2; omega
set_option maxRecDepth 100000 in
set_option maxHeartbeats 4000000 in
theorem rhmac_any (A : Option Addr) (n c : Nat) (key : List Nat) (B : Option Addr) (m d : Nat) (b : List Nat) (w : World) (hn : n = key.length) (hl : key.length ≤ 17592186044416) (hr : Rd w A key) (hm : m = b.length) (hbl : b.length ≤ 8796093022208) (hb : Rd w B b) :
    Calls Try.prog 24 #[.slice A n c, .slice B m d] w fun e w' => e = .returned (bytesV (hmac key b)) ∧ Below w.heap.size w w' := by
  have HR := Lib.hid hr
  have HB := Lib.hid hb
  have HM := Lib.hid hm
  have HN := Lib.hid hn
  obtain ⟨hb0, hr0⟩ := one_out w
  have hrw := hr.below hb0
  have hbw := hb.below hb0
  by_cases h64 : 64 < key.length
  · have h64' : (64 : Int) < n := by omega
    clear hn hr hb hm
    go_enter Try.func24, Try.ntmps24
    go_wp2_with fail
    generalize w.alloc (.cells #[.int .u8 0, .int .u8 0, .int .u8 0, .int .u8 0, .int .u8 0, .int .u8 0, .int .u8 0, .int .u8 0, .int .u8 0, .int .u8 0, .int .u8 0, .int .u8 0, .int .u8 0, .int .u8 0, .int .u8 0, .int .u8 0, .int .u8 0, .int .u8 0, .int .u8 0, .int .u8 0, .int .u8 0, .int .u8 0, .int .u8 0, .int .u8 0, .int .u8 0, .int .u8 0, .int .u8 0, .int .u8 0, .int .u8 0, .int .u8 0, .int .u8 0, .int .u8 0] 30) = W at *
    have HB0 := Lib.hid hb0
    have HR0 := Lib.hid hr0
    have HRW := Lib.hid hrw
    have HBW0 := Lib.hid hbw
    clear hb0 hr0 hrw hbw
    refine (ref_c A n c key W HN.out hl HRW.out).mono ?_
    rintro e w1 ⟨rfl, hb1⟩
    have HB1 := Lib.hid hb1
    have HR1 := Lib.hid (HR0.out.of_block (hb1.block _ HR0.out.lt))
    have hrk : ∀ V : World, Rd (V.alloc (.cells (shaC key) 30)) (some ⟨V.heap.size, 0, none⟩) (sha key) := fun V => constW_rd V _ (sha key) (sha_lt key) _
    have hci := shaC_at key
    have hcn := shaC_size key
    generalize shaC key = CK at *
    have HRK := Lib.hid (hrk w1)
    have HCI := Lib.hid hci
    have HCN := Lib.hid hcn
    clear hb1 hrk hci hcn HRW
    go_wp2_with (first
      | (refine wpList_store_new 30 (.tmp 6) (.tmp 15) rfl rfl _ CK rfl rfl (by rw [HCN.out]; exact size32) (by rw [HCN.out]; rfl) (bytes_oneCell HCN.out HCI.out) ?_)
      | (at_builtin; refine append_bytes (v := .slice none 0 0) (.tmp 16) (.tmp 17) rfl rfl rfl (Ow.nil _ W.heap.size) (some ⟨w1.heap.size, 0, none⟩) 32 32 (sha key) rfl (sha_length key).symm HRK.out (by simp [sha_length]) (by have := HB1.out.size; rw [World.size_alloc]; omega) ?_; intro v2 w2 ho2 hg2 ha2
         have HO2 := Lib.hid ho2; have HB2 := Lib.hid ((HB1.out.alloc HB1.out.size (.cells CK 30)).grown hg2 (by have := HB1.out.size; rw [World.size_alloc]; omega) (fun k e => by cases e)); clear ho2 hg2 ha2))
    have hke : keyS key = sha key := if_pos h64
    have HOK : Hid (Ow w2 W.heap.size v2 (keyS key)) := by rw [hke]; exact HO2.out
    have HBK := HB2
    clear hke HO2 HRK HCI HCN HB1 HR1
    have hkl := keyS_length key
    have HKL := Lib.hid hkl
    clear hkl
    go_loopw [5] (fun v wr => ∃ j : Nat, (keyS key).length + j ≤ 64 ∧ Ow wr W.heap.size v (keyS key ++ List.replicate j 0) ∧ Below W.heap.size W wr) (fun v _ => 64 - (match v with | .slice _ n _ => n | _ => 0))
    case atStart => exact ⟨0, by have := HKL.out; omega, by simpa using HOK.out, HBK.out⟩
    case round =>
      obtain ⟨j, hj, ho, hb⟩ := hrel
      obtain ⟨A5, c5, rfl, h5c, h5b, h5r⟩ := ho.form
      have hlen : (keyS key ++ List.replicate j 0).length = (keyS key).length + j := by simp
      rw [hlen] at h5c ⊢
      rw [hlen] at ho
      obtain ⟨q, hq⟩ : ∃ q, q = (keyS key).length + j := ⟨_, rfl⟩
      rw [← hq] at hj h5c ho hlen ⊢
      have HO := Lib.hid ho
      have HBW := Lib.hid hb
      have H5 := Lib.hid h5r
      have HLN := Lib.hid hlen
      have HQ := Lib.hid hq
      clear ho hb h5r h5b HOK HBK hlen hq
      by_cases e0 : q < 64
      · have e0' : (q : Int) < 64 := by omega
        have hbs := HBW.out.size
        go_wp2_with (at_builtin; go_loud (refine append_new (.tmp 25) (.tmp 26) rfl rfl _ _ _ 0 rfl rfl HO.out rfl (by omega) (by rw [HLN.out]; omega) hbs ?_; intro v1 w1 ho1 hg1 ha1; have HO1 := Lib.hid ho1; have HB1 := Lib.hid (HBW.out.grown hg1 hbs (fun x e => (HO.out.lt x e).1)); clear ho1 hg1 ha1))
        obtain ⟨A1, c1, rfl, -, -, -⟩ := HO1.out.form
        have hl1 : (keyS key ++ List.replicate j 0 ++ [0]).length = q + 1 := by rw [List.length_append, HLN.out]; rfl
        have ho1 : Ow w1 W.heap.size (.slice A1 (keyS key ++ List.replicate j 0 ++ [0]).length c1) (keyS key ++ List.replicate (j + 1) 0) := by
          rw [show keyS key ++ List.replicate (j + 1) 0 = keyS key ++ List.replicate j 0 ++ [0] by rw [List.append_assoc, ← List.replicate_succ']]
          exact HO1.out
        have hq1 := HQ.out
        go_roundw
        case rel => exact ⟨j + 1, by omega, ho1, HB1.out⟩
        case measure => simp only [hl1]; omega
      · obtain rfl : q = 64 := by omega
        obtain ⟨g5, o5, rfl, hg5, hc5⟩ := H5.out.2 (by intro e; have := HLN.out; rw [e] at this; simp at this)
        have hc5 : ∀ i, i < 64 → wr.cell? ⟨g5, o5 + i, none⟩ = some (.int .u8 (nth (keyS key) i : Nat)) := fun i hi => by rw [hc5 i (by rw [HLN.out]; omega), pad0]
        have hkb : ∀ i, nth (keyS key) i < 256 := fun i => by rw [← pad0 (keyS key) j i]; exact nth_lt H5.out.1 i
        have HC5 := Lib.hid hc5
        have HKB := Lib.hid hkb
        have hU : ∃ U : World, U = wr := ⟨_, rfl⟩
        obtain ⟨U, hU⟩ := hU
        clear hc5 hkb HO H5 HLN HQ h5c
        go_wp2_with fail
        subst hU
        have HTT : Hid (U.rowIs w.heap.size 30 32 (fun _ => .int .u8 0)) := HR0.out.of_block (HBW.out.block _ HR0.out.lt)
        have HGU : Hid (g5 < U.heap.size) := hg5
        have HWU : Hid (W.heap.size ≤ U.heap.size) := HBW.out.size
        clear hg5
        go_loopw [7, 8, 9] (fun v7 v8 v9 wr => ∃ i : Nat, i ≤ 64 ∧ v9 = .int .i64 i ∧ Duo wr U.heap.size v7 v8 (padP (keyS key) 54 i) (padP (keyS key) 92 i) ∧ Below U.heap.size U wr) (fun _ _ v _ => 64 - (intOf v).toNat)
        case atStart => exact ⟨0, by omega, rfl, ⟨Ow.nil _ _, Ow.nil _ _, fun k e => by cases e⟩, Below.refl _ _⟩
        case round =>
          obtain ⟨i, hi, rfl, hd, hb⟩ := hrel
          have HD := Lib.hid hd
          have HBB := Lib.hid hb
          clear hd hb
          by_cases i64 : i < 64
          · have i64' : (i : Int) < 64 := by omega
            obtain ⟨p, hp⟩ : ∃ p, p = nth (keyS key) i := ⟨_, rfl⟩
            have hpb : p < 256 := by rw [hp]; exact HKB.out i
            have c1 : wr.cell? ⟨g5, o5 + i, none⟩ = some (.int .u8 (p : Nat)) := by rw [hp]; exact (HBB.out.cell (p := ⟨g5, o5 + i, none⟩) HGU.out).trans (HC5.out i i64)
            have x1 : bits .xor .u8 (p : Int) 54 = ((p ^^^ 54 : Nat) : Int) := u8_xor_nat p 54 hpb (by omega)
            have x2 : bits .xor .u8 (p : Int) 92 = ((p ^^^ 92 : Nat) : Int) := u8_xor_nat p 92 hpb (by omega)
            have hbs := HBB.out.size
            have y1 := xor8_lt hpb (show 54 < 256 by omega)
            have y2 := xor8_lt hpb (show 92 < 256 by omega)
            have HPP := Lib.hid hp
            clear hp
            go_wp2_with (first
              | (at_builtin; refine append_new (.tmp 32) (.tmp 38) rfl rfl _ _ _ (p ^^^ 54) rfl rfl HD.out.a rfl y1 (by rw [padP_length]; omega) hbs ?_; intro v1 w1 ho1 hg1 ha1
                 have HD1 := Lib.hid (HD.out.left ho1 hg1 (new_or ha1)); have HB1 := Lib.hid (HBB.out.grown hg1 hbs (fun x e => (HD.out.a.lt x e).1)); have hbs1 := HB1.out.size
                 have c2 : w1.cell? ⟨g5, o5 + i, none⟩ = some (.int .u8 (p : Nat)) := by rw [HPP.out]; exact (HB1.out.cell (p := ⟨g5, o5 + i, none⟩) HGU.out).trans (HC5.out i i64)
                 clear ho1 hg1 ha1 c1)
              | (at_builtin; refine append_new (.tmp 40) (.tmp 46) rfl rfl _ _ _ (p ^^^ 92) rfl rfl HD1.out.b rfl y2 (by rw [padP_length]; omega) hbs1 ?_; intro v2 w2 ho2 hg2 ha2
                 have HD2 := Lib.hid (HD1.out.right ho2 hg2 (new_or ha2)); have HB2 := Lib.hid (HB1.out.grown hg2 hbs1 (fun x e => (HD1.out.b.lt x e).1)); clear ho2 hg2 ha2 c2))
            have hd2 : Duo w2 U.heap.size v1 v2 (padP (keyS key) 54 (i + 1)) (padP (keyS key) 92 (i + 1)) := by
              rw [padP_succ, padP_succ, ← HPP.out]
              exact HD2.out
            go_roundw
            case rel => exact ⟨i + 1, by omega, by go_num, hd2, HB2.out⟩
            case measure => simp [intOf]; omega
          · obtain rfl : i = 64 := by omega
            have hd := HD.out
            obtain ⟨A7, c7, rfl, -, -, -⟩ := hd.a.form
            obtain ⟨A8, c8, rfl, -, -, -⟩ := hd.b.form
            rw [padP_length, padP_length] at hd
            have HD := Lib.hid hd
            have hbs := HBB.out.size
            have hbw3 := HBW.out.trans (HBB.out.mono HWU.out)
            have HBW3 := Lib.hid hbw3
            have hrb3 := HBW0.out.below hbw3
            have HRB3 := Lib.hid hrb3
            clear hd hbw3 hrb3
            rw [padP_length, padP_length]
            go_wp2_with (at_builtin; refine append_bytes (.tmp 48) (.tmp 49) rfl rfl rfl HD.out.a B m d b rfl HM.out HRB3.out (by rw [padP_length]; omega) hbs ?_; intro v3 w3 ho3 hg3 ha3; have HD3 := Lib.hid (HD.out.left ho3 hg3 (ha3.imp id fun e k e2 => by rw [e] at e2; injection e2 with e2; omega)); have HB3 := Lib.hid (HBB.out.grown hg3 hbs (fun x e => (HD.out.a.lt x e).1)); clear ho3 hg3 ha3)
            obtain ⟨A3, c3, rfl, -, -, h3r⟩ := HD3.out.a.form
            have H3R := Lib.hid h3r
            clear h3r
            obtain ⟨Li, hLi⟩ : ∃ L, L = padP (keyS key) 54 64 ++ b := ⟨_, rfl⟩
            rw [← hLi]
            have H3R2 : Hid (Rd w3 A3 Li) := by rw [hLi]; exact H3R.out
            have hLl : Li.length = 64 + b.length := by rw [hLi, List.length_append, padP_length]
            refine (ref_c A3 _ c3 Li w3 rfl (by omega) H3R2.out).mono ?_
            rintro e w4 ⟨rfl, hb4⟩
            have h8 := HD3.out.b.keepb' fun x e => hb4.block x (HD3.out.b.lt x e).2
            have H8 := Lib.hid h8
            have hb4' := HB3.out.trans (hb4.mono HB3.out.size)
            have HB4 := Lib.hid hb4'
            have HLI := Lib.hid hLi
            have hrk : ∀ V : World, Rd (V.alloc (.cells (shaC Li) 30)) (some ⟨V.heap.size, 0, none⟩) (sha Li) := fun V => constW_rd V _ (sha Li) (sha_lt Li) _
            have hci := shaC_at Li
            have hcn := shaC_size Li
            generalize shaC Li = DK at *
            have HRK := Lib.hid (hrk w4)
            have HCI := Lib.hid hci
            have HCN := Lib.hid hcn
            have hbs4 := HB4.out.size
            clear hrk hci hcn hb4 h8 hb4' hLi H3R H3R2 HD HD3 HB3 HBB
            go_wp2_with (first
              | (refine wpList_store_new 30 (.tmp 10) (.tmp 52) rfl rfl _ DK rfl rfl (by rw [HCN.out]; exact size32) (by rw [HCN.out]; rfl) (bytes_oneCell HCN.out HCI.out) ?_)
              | (at_builtin; refine append_bytes (.tmp 53) (.tmp 54) rfl rfl rfl (H8.out.alloc _) (some ⟨w4.heap.size, 0, none⟩) 32 32 (sha Li) rfl (sha_length Li).symm HRK.out (by rw [padP_length, sha_length]; omega) (by rw [World.size_alloc]; omega) ?_; intro v5 w5 ho5 hg5 ha5
                 have HO5 := Lib.hid ho5; have HB5 := Lib.hid ((HB4.out.alloc hbs4 (.cells DK 30)).grown hg5 (by rw [World.size_alloc]; omega) (fun x e => (H8.out.lt x e).1)); clear ho5 hg5 ha5))
            obtain ⟨A5', c5', rfl, -, -, h5r⟩ := HO5.out.form
            obtain ⟨Lo, hLo⟩ : ∃ L, L = padP (keyS key) 92 64 ++ sha Li := ⟨_, rfl⟩
            have H5R : Hid (Rd w5 A5' Lo) := by rw [hLo]; exact h5r
            have hLol : Lo.length = 96 := by rw [hLo, List.length_append, padP_length, sha_length]
            rw [← hLo]
            have HLO := Lib.hid hLo
            clear hLo h5r HO5 H8 HRK
            refine (ref_c A5' _ c5' Lo w5 rfl (by omega) H5R.out).mono ?_
            rintro e w6 ⟨rfl, hb6⟩
            have hb6' := HB5.out.trans (hb6.mono HB5.out.size)
            have hr6 := HTT.out.of_block (hb6'.block _ HTT.out.lt)
            obtain ⟨ds, hds, hdn, hdi⟩ := hr6
            have hci := shaC_at Lo
            have hcn := shaC_size Lo
            have hres : Value.agg (shaC Lo) = bytesV (hmac key b) := by rw [HLO.out, HLI.out]; rfl
            generalize shaC Lo = cs at *
            have HCIs := Lib.hid hci
            have HCNs := Lib.hid hcn
            have HRES := Lib.hid hres
            have DS := Lib.hid hds
            have DN := Lib.hid hdn
            have HB6 := Lib.hid (HB0.out.trans ((HBW.out.trans (hb6'.mono HWU.out)).mono HB0.out.size))
            clear hb6 hb6' hci hcn hres hds hdn hdi H5R
            go_wp2_with (refine wpList_store_row rfl 30 (.tmp 4) (.tmp 57) rfl w.heap.size cs rfl rfl 30 ds DS.out (by rw [HCNs.out]; exact size32) (by rw [HCNs.out, DN.out]) (bytes_oneCell HCNs.out HCIs.out) ?_)
            (try simp only [Exit.inBlock, Exit.then])
            refine bodyPost_ret (results_cell_row rfl _ _ w.heap.size 30 cs (0, 0) _ rfl (setRow_heap _ _ _ _ _ _ DS.out) Try.underlying30 rfl (by rw [HCNs.out]; exact size32)) rfl ?_
            exact ⟨by rw [HRES.out], below_setRow HB6.out (Nat.le_refl _) _⟩
  · have h64' : ¬ (64 : Int) < n := by omega
    clear hn hr hb hm
    go_enter Try.func24, Try.ntmps24
    go_upto_region 5 with fail
    generalize w.alloc (.cells #[.int .u8 0, .int .u8 0, .int .u8 0, .int .u8 0, .int .u8 0, .int .u8 0, .int .u8 0, .int .u8 0, .int .u8 0, .int .u8 0, .int .u8 0, .int .u8 0, .int .u8 0, .int .u8 0, .int .u8 0, .int .u8 0, .int .u8 0, .int .u8 0, .int .u8 0, .int .u8 0, .int .u8 0, .int .u8 0, .int .u8 0, .int .u8 0, .int .u8 0, .int .u8 0, .int .u8 0, .int .u8 0, .int .u8 0, .int .u8 0, .int .u8 0, .int .u8 0] 30) = W at *
    have HB0 := Lib.hid hb0
    have HR0 := Lib.hid hr0
    have HRW := Lib.hid hrw
    have HBW0 := Lib.hid hbw
    clear hb0 hr0 hrw hbw
    go_wp2_with (at_builtin; refine append_bytes (v := .slice none 0 0) (.tmp 19) (.tmp 20) rfl rfl rfl (Ow.nil W W.heap.size) A n c key rfl HN.out HRW.out (by simp; omega) (Nat.le_refl _) ?_; intro v2 w2 ho2 hg2 ha2; have HO2 := Lib.hid ho2; have HB2 := Lib.hid ((Below.refl W.heap.size W).grown hg2 (Nat.le_refl _) (fun k e => by cases e)); clear ho2 hg2 ha2)
    have hke : keyS key = key := if_neg h64
    have HOK : Hid (Ow w2 W.heap.size v2 (keyS key)) := by rw [hke]; exact HO2.out
    have HBK := HB2
    clear hke HO2 HRW
    have hkl := keyS_length key
    have HKL := Lib.hid hkl
    clear hkl
    go_loopw [5] (fun v wr => ∃ j : Nat, (keyS key).length + j ≤ 64 ∧ Ow wr W.heap.size v (keyS key ++ List.replicate j 0) ∧ Below W.heap.size W wr) (fun v _ => 64 - (match v with | .slice _ n _ => n | _ => 0))
    case atStart => exact ⟨0, by have := HKL.out; omega, by simpa using HOK.out, HBK.out⟩
    case round =>
      obtain ⟨j, hj, ho, hb⟩ := hrel
      obtain ⟨A5, c5, rfl, h5c, h5b, h5r⟩ := ho.form
      have hlen : (keyS key ++ List.replicate j 0).length = (keyS key).length + j := by simp
      rw [hlen] at h5c ⊢
      rw [hlen] at ho
      obtain ⟨q, hq⟩ : ∃ q, q = (keyS key).length + j := ⟨_, rfl⟩
      rw [← hq] at hj h5c ho hlen ⊢
      have HO := Lib.hid ho
      have HBW := Lib.hid hb
      have H5 := Lib.hid h5r
      have HLN := Lib.hid hlen
      have HQ := Lib.hid hq
      clear ho hb h5r h5b HOK HBK hlen hq
      by_cases e0 : q < 64
      · have e0' : (q : Int) < 64 := by omega
        have hbs := HBW.out.size
        go_wp2_with (at_builtin; go_loud (refine append_new (.tmp 25) (.tmp 26) rfl rfl _ _ _ 0 rfl rfl HO.out rfl (by omega) (by rw [HLN.out]; omega) hbs ?_; intro v1 w1 ho1 hg1 ha1; have HO1 := Lib.hid ho1; have HB1 := Lib.hid (HBW.out.grown hg1 hbs (fun x e => (HO.out.lt x e).1)); clear ho1 hg1 ha1))
        obtain ⟨A1, c1, rfl, -, -, -⟩ := HO1.out.form
        have hl1 : (keyS key ++ List.replicate j 0 ++ [0]).length = q + 1 := by rw [List.length_append, HLN.out]; rfl
        have ho1 : Ow w1 W.heap.size (.slice A1 (keyS key ++ List.replicate j 0 ++ [0]).length c1) (keyS key ++ List.replicate (j + 1) 0) := by
          rw [show keyS key ++ List.replicate (j + 1) 0 = keyS key ++ List.replicate j 0 ++ [0] by rw [List.append_assoc, ← List.replicate_succ']]
          exact HO1.out
        have hq1 := HQ.out
        go_roundw
        case rel => exact ⟨j + 1, by omega, ho1, HB1.out⟩
        case measure => simp only [hl1]; omega
      · obtain rfl : q = 64 := by omega
        obtain ⟨g5, o5, rfl, hg5, hc5⟩ := H5.out.2 (by intro e; have := HLN.out; rw [e] at this; simp at this)
        have hc5 : ∀ i, i < 64 → wr.cell? ⟨g5, o5 + i, none⟩ = some (.int .u8 (nth (keyS key) i : Nat)) := fun i hi => by rw [hc5 i (by rw [HLN.out]; omega), pad0]
        have hkb : ∀ i, nth (keyS key) i < 256 := fun i => by rw [← pad0 (keyS key) j i]; exact nth_lt H5.out.1 i
        have HC5 := Lib.hid hc5
        have HKB := Lib.hid hkb
        have hU : ∃ U : World, U = wr := ⟨_, rfl⟩
        obtain ⟨U, hU⟩ := hU
        clear hc5 hkb HO H5 HLN HQ h5c
        go_wp2_with fail
        subst hU
        have HTT : Hid (U.rowIs w.heap.size 30 32 (fun _ => .int .u8 0)) := HR0.out.of_block (HBW.out.block _ HR0.out.lt)
        have HGU : Hid (g5 < U.heap.size) := hg5
        have HWU : Hid (W.heap.size ≤ U.heap.size) := HBW.out.size
        clear hg5
        go_loopw [7, 8, 9] (fun v7 v8 v9 wr => ∃ i : Nat, i ≤ 64 ∧ v9 = .int .i64 i ∧ Duo wr U.heap.size v7 v8 (padP (keyS key) 54 i) (padP (keyS key) 92 i) ∧ Below U.heap.size U wr) (fun _ _ v _ => 64 - (intOf v).toNat)
        case atStart => exact ⟨0, by omega, rfl, ⟨Ow.nil _ _, Ow.nil _ _, fun k e => by cases e⟩, Below.refl _ _⟩
        case round =>
          obtain ⟨i, hi, rfl, hd, hb⟩ := hrel
          have HD := Lib.hid hd
          have HBB := Lib.hid hb
          clear hd hb
          by_cases i64 : i < 64
          · have i64' : (i : Int) < 64 := by omega
            obtain ⟨p, hp⟩ : ∃ p, p = nth (keyS key) i := ⟨_, rfl⟩
            have hpb : p < 256 := by rw [hp]; exact HKB.out i
            have c1 : wr.cell? ⟨g5, o5 + i, none⟩ = some (.int .u8 (p : Nat)) := by rw [hp]; exact (HBB.out.cell (p := ⟨g5, o5 + i, none⟩) HGU.out).trans (HC5.out i i64)
            have x1 : bits .xor .u8 (p : Int) 54 = ((p ^^^ 54 : Nat) : Int) := u8_xor_nat p 54 hpb (by omega)
            have x2 : bits .xor .u8 (p : Int) 92 = ((p ^^^ 92 : Nat) : Int) := u8_xor_nat p 92 hpb (by omega)
            have hbs := HBB.out.size
            have y1 := xor8_lt hpb (show 54 < 256 by omega)
            have y2 := xor8_lt hpb (show 92 < 256 by omega)
            have HPP := Lib.hid hp
            clear hp
            go_wp2_with (first
              | (at_builtin; refine append_new (.tmp 32) (.tmp 38) rfl rfl _ _ _ (p ^^^ 54) rfl rfl HD.out.a rfl y1 (by rw [padP_length]; omega) hbs ?_; intro v1 w1 ho1 hg1 ha1
                 have HD1 := Lib.hid (HD.out.left ho1 hg1 (new_or ha1)); have HB1 := Lib.hid (HBB.out.grown hg1 hbs (fun x e => (HD.out.a.lt x e).1)); have hbs1 := HB1.out.size
                 have c2 : w1.cell? ⟨g5, o5 + i, none⟩ = some (.int .u8 (p : Nat)) := by rw [HPP.out]; exact (HB1.out.cell (p := ⟨g5, o5 + i, none⟩) HGU.out).trans (HC5.out i i64)
                 clear ho1 hg1 ha1 c1)
              | (at_builtin; refine append_new (.tmp 40) (.tmp 46) rfl rfl _ _ _ (p ^^^ 92) rfl rfl HD1.out.b rfl y2 (by rw [padP_length]; omega) hbs1 ?_; intro v2 w2 ho2 hg2 ha2
                 have HD2 := Lib.hid (HD1.out.right ho2 hg2 (new_or ha2)); have HB2 := Lib.hid (HB1.out.grown hg2 hbs1 (fun x e => (HD1.out.b.lt x e).1)); clear ho2 hg2 ha2 c2))
            have hd2 : Duo w2 U.heap.size v1 v2 (padP (keyS key) 54 (i + 1)) (padP (keyS key) 92 (i + 1)) := by
              rw [padP_succ, padP_succ, ← HPP.out]
              exact HD2.out
            go_roundw
            case rel => exact ⟨i + 1, by omega, by go_num, hd2, HB2.out⟩
            case measure => simp [intOf]; omega
          · obtain rfl : i = 64 := by omega
            have hd := HD.out
            obtain ⟨A7, c7, rfl, -, -, -⟩ := hd.a.form
            obtain ⟨A8, c8, rfl, -, -, -⟩ := hd.b.form
            rw [padP_length, padP_length] at hd
            have HD := Lib.hid hd
            have hbs := HBB.out.size
            have hbw3 := HBW.out.trans (HBB.out.mono HWU.out)
            have HBW3 := Lib.hid hbw3
            have hrb3 := HBW0.out.below hbw3
            have HRB3 := Lib.hid hrb3
            clear hd hbw3 hrb3
            rw [padP_length, padP_length]
            go_wp2_with (at_builtin; refine append_bytes (.tmp 48) (.tmp 49) rfl rfl rfl HD.out.a B m d b rfl HM.out HRB3.out (by rw [padP_length]; omega) hbs ?_; intro v3 w3 ho3 hg3 ha3; have HD3 := Lib.hid (HD.out.left ho3 hg3 (ha3.imp id fun e k e2 => by rw [e] at e2; injection e2 with e2; omega)); have HB3 := Lib.hid (HBB.out.grown hg3 hbs (fun x e => (HD.out.a.lt x e).1)); clear ho3 hg3 ha3)
            obtain ⟨A3, c3, rfl, -, -, h3r⟩ := HD3.out.a.form
            have H3R := Lib.hid h3r
            clear h3r
            obtain ⟨Li, hLi⟩ : ∃ L, L = padP (keyS key) 54 64 ++ b := ⟨_, rfl⟩
            rw [← hLi]
            have H3R2 : Hid (Rd w3 A3 Li) := by rw [hLi]; exact H3R.out
            have hLl : Li.length = 64 + b.length := by rw [hLi, List.length_append, padP_length]
            refine (ref_c A3 _ c3 Li w3 rfl (by omega) H3R2.out).mono ?_
            rintro e w4 ⟨rfl, hb4⟩
            have h8 := HD3.out.b.keepb' fun x e => hb4.block x (HD3.out.b.lt x e).2
            have H8 := Lib.hid h8
            have hb4' := HB3.out.trans (hb4.mono HB3.out.size)
            have HB4 := Lib.hid hb4'
            have HLI := Lib.hid hLi
            have hrk : ∀ V : World, Rd (V.alloc (.cells (shaC Li) 30)) (some ⟨V.heap.size, 0, none⟩) (sha Li) := fun V => constW_rd V _ (sha Li) (sha_lt Li) _
            have hci := shaC_at Li
            have hcn := shaC_size Li
            generalize shaC Li = DK at *
            have HRK := Lib.hid (hrk w4)
            have HCI := Lib.hid hci
            have HCN := Lib.hid hcn
            have hbs4 := HB4.out.size
            clear hrk hci hcn hb4 h8 hb4' hLi H3R H3R2 HD HD3 HB3 HBB
            go_wp2_with (first
              | (refine wpList_store_new 30 (.tmp 10) (.tmp 52) rfl rfl _ DK rfl rfl (by rw [HCN.out]; exact size32) (by rw [HCN.out]; rfl) (bytes_oneCell HCN.out HCI.out) ?_)
              | (at_builtin; refine append_bytes (.tmp 53) (.tmp 54) rfl rfl rfl (H8.out.alloc _) (some ⟨w4.heap.size, 0, none⟩) 32 32 (sha Li) rfl (sha_length Li).symm HRK.out (by rw [padP_length, sha_length]; omega) (by rw [World.size_alloc]; omega) ?_; intro v5 w5 ho5 hg5 ha5
                 have HO5 := Lib.hid ho5; have HB5 := Lib.hid ((HB4.out.alloc hbs4 (.cells DK 30)).grown hg5 (by rw [World.size_alloc]; omega) (fun x e => (H8.out.lt x e).1)); clear ho5 hg5 ha5))
            obtain ⟨A5', c5', rfl, -, -, h5r⟩ := HO5.out.form
            obtain ⟨Lo, hLo⟩ : ∃ L, L = padP (keyS key) 92 64 ++ sha Li := ⟨_, rfl⟩
            have H5R : Hid (Rd w5 A5' Lo) := by rw [hLo]; exact h5r
            have hLol : Lo.length = 96 := by rw [hLo, List.length_append, padP_length, sha_length]
            rw [← hLo]
            have HLO := Lib.hid hLo
            clear hLo h5r HO5 H8 HRK
            refine (ref_c A5' _ c5' Lo w5 rfl (by omega) H5R.out).mono ?_
            rintro e w6 ⟨rfl, hb6⟩
            have hb6' := HB5.out.trans (hb6.mono HB5.out.size)
            have hr6 := HTT.out.of_block (hb6'.block _ HTT.out.lt)
            obtain ⟨ds, hds, hdn, hdi⟩ := hr6
            have hci := shaC_at Lo
            have hcn := shaC_size Lo
            have hres : Value.agg (shaC Lo) = bytesV (hmac key b) := by rw [HLO.out, HLI.out]; rfl
            generalize shaC Lo = cs at *
            have HCIs := Lib.hid hci
            have HCNs := Lib.hid hcn
            have HRES := Lib.hid hres
            have DS := Lib.hid hds
            have DN := Lib.hid hdn
            have HB6 := Lib.hid (HB0.out.trans ((HBW.out.trans (hb6'.mono HWU.out)).mono HB0.out.size))
            clear hb6 hb6' hci hcn hres hds hdn hdi H5R
            go_wp2_with (refine wpList_store_row rfl 30 (.tmp 4) (.tmp 57) rfl w.heap.size cs rfl rfl 30 ds DS.out (by rw [HCNs.out]; exact size32) (by rw [HCNs.out, DN.out]) (bytes_oneCell HCNs.out HCIs.out) ?_)
            (try simp only [Exit.inBlock, Exit.then])
            refine bodyPost_ret (results_cell_row rfl _ _ w.heap.size 30 cs (0, 0) _ rfl (setRow_heap _ _ _ _ _ _ DS.out) Try.underlying30 rfl (by rw [HCNs.out]; exact size32)) rfl ?_
            exact ⟨by rw [HRES.out], below_setRow HB6.out (Nat.le_refl _) _⟩
end Go.Proofs.Ytbnhjhdbjffnkab
