/-
  THE WALK OF quillpressref29.Transaction: how long its parts are. Conditions: the body read.
  A FILE's DISK ARMED, SET TO FAIL, CRASHED; what Add then comes to. Conditions: a journal's file.
-/
import Derived.Test.YtlhbijpmhokmnaaGreatQ39
import Derived.Test.YtlhbijpmhokmnaaGreatQ36
namespace Go.Proofs.YtlhbijpmhokmnaaGreat
open Go.RowKit
set_option linter.unusedSimpArgs false
set_option linter.unusedVariables false

set_option maxRecDepth 100000 in
theorem four_any (n : Nat) (w : World) : Calls Tryz.prog 77 #[.int .i64 n] w fun e w' => ∃ l : List Nat, e = .returned (.slice (some ⟨w.heap.size, 0, none⟩) 4 4) ∧ l.length = 4 ∧ Rd w' (some ⟨w.heap.size, 0, none⟩) l ∧ Below w.heap.size w w' := by
  go_enter Tryz.func77, Tryz.ntmps77
  go_wp2
  go_ret
  have hw : ∀ x : Int, (x % 256 : Int) = ((x % 256).toNat : Nat) := fun x => by omega
  refine ⟨[((n : Int) / 16777216 % 256).toNat, ((n : Int) / 65536 % 256).toNat, ((n : Int) / 256 % 256).toNat, ((n : Int) % 256).toNat], rfl, rfl, ?_, (Below.refl _ _).alloc (Nat.le_refl _) _⟩
  have hr := rd_bs w [((n : Int) / 16777216 % 256).toNat, ((n : Int) / 65536 % 256).toNat, ((n : Int) / 256 % 256).toNat, ((n : Int) % 256).toNat] (by intro x hx; simp only [List.mem_cons, List.not_mem_nil, or_false] at hx; rcases hx with rfl | rfl | rfl | rfl <;> omega) 5
  have e : (bs [((n : Int) / 16777216 % 256).toNat, ((n : Int) / 65536 % 256).toNat, ((n : Int) / 256 % 256).toNat, ((n : Int) % 256).toNat]).toArray = #[.int .u8 ((n : Int) / 16777216 % 256), .int .u8 ((n : Int) / 65536 % 256), .int .u8 ((n : Int) / 256 % 256), .int .u8 ((n : Int) % 256)] := by
    simp only [bs, bv, List.map_cons, List.map_nil]
    rw [← hw, ← hw, ← hw, ← hw]
  rw [e] at hr
  exact hr
theorem ow_new (w : World) (l : List Nat) (hl : ∀ x ∈ l, x < 256) (hn : l.length ≤ 1000000) : Ow (w.alloc (.cells (bs l).toArray 5)) w.heap.size (.slice (some ⟨w.heap.size, 0, none⟩) l.length l.length) l :=
  ⟨hl, by rw [bs_length, Nat.mul_one], .inr ⟨w.heap.size, l.length, (bs l).toArray, rfl, Nat.le_refl _, heap_alloc_new w _, Nat.le_refl _, by unfold maxLen; omega, by simp [bs_length], by simp only [Nat.mul_one]; exact List.take_of_length_le (by rw [bs_length]; exact Nat.le_refl _)⟩⟩
theorem nth_app_zero (a b : List Nat) (h : 0 < a.length) : nth (a ++ b) 0 = nth a 0 := nth_app_left a b 0 h
theorem Ow.neRow {w : World} {base g t : Nat} {v : Value} {l : List Nat} {C : Array Value} (h : Ow w base v l) (hg : w.heap[g]? = some (.cells C t)) (ht : t ≠ 5) : v.ownBlock ≠ some g := by
  intro e
  rcases h.2.2 with ⟨rfl, -⟩ | ⟨g', cap, cur, rfl, -, hh, -⟩
  · cases e
  · injection e with e
    subst e
    rw [hg] at hh
    injection hh with hh
    injection hh with h1 h2
    exact ht h2
theorem rd_row {w : World} {g t : Nat} {l : List Nat} (hl : ∀ x ∈ l, x < 256) (hg : w.heap[g]? = some (.cells (bs l).toArray t)) : Rd w (some ⟨g, 0, none⟩) l := by
  refine ⟨hl, fun _ => ⟨g, 0, rfl, ?_, fun i hi => ?_⟩⟩
  · rcases Nat.lt_or_ge g w.heap.size with h | h
    · exact h
    · rw [Array.getElem?_eq_none h] at hg; cases hg
  · rw [Nat.zero_add, cell_of_row _ _ _ _ _ _ hg]
    simp [bs, bv, hi, nth_get hi]
theorem rd_setRow {w : World} {A : Option Addr} {l : List Nat} {g : Nat} (h : Rd w A l) (C : Array Value) (hA : ∀ a, A = some a → a.block ≠ g) : Rd (w.setRow g C) A l :=
  h.keep (by simp) fun p hp ⟨a, ha, e⟩ => World.cell?_of_block (setRow_other w g p.block C (by rw [← e]; exact hA a ha))
set_option maxRecDepth 100000 in
set_option maxHeartbeats 8000000 in
theorem tx_any (k : Nat) (B : Option Addr) (m d : Nat) (b : List Nat) (w : World) (hm : m = b.length) (hb : b.length ≤ 100000) (hB : Rd w B b) :
    Calls Tryz.prog 54 #[.int .i64 k, .slice B m d] w fun e w' => ∃ A1 c1 h A3 c3 cc, e = .returned (.tuple #[.slice A1 29 c1, .slice B m d, .slice A3 25 c3]) ∧ Rd w' A1 h ∧ h.length = 29 ∧ nth h 0 = 99 ∧ Rd w' A3 cc ∧ cc.length = 25 ∧ Below w.heap.size w w' := by
  have HB := Lib.hid hB
  have HM := Lib.hid hm
  have HBL := Lib.hid hb
  clear hB hm hb
  go_enter Tryz.func54, Tryz.ntmps54
  go_wp2_with fail
  have ho0 : Ow (w.alloc (.cells #[.int .u8 99] 5)) w.heap.size (.slice (some ⟨w.heap.size, 0, none⟩) 1 1) [99] := ow_new w [99] (by decide) (by decide)
  have hb0 : Below w.heap.size w (w.alloc (.cells #[.int .u8 99] 5)) := (Below.refl _ _).alloc (Nat.le_refl _) _
  have HO := Lib.hid ho0
  have HBW := Lib.hid hb0
  clear ho0 hb0
  refine (four_any k _).mono ?_
  rintro e w1 ⟨l1, rfl, hl1, hr1, hb1⟩
  have HO1 := Lib.hid (HO.out.below hb1)
  have HB1 := Lib.hid (HBW.out.trans (hb1.mono HBW.out.size))
  rw [World.size_alloc] at hr1
  have HL1 := Lib.hid hl1
  have HR1 := Lib.hid hr1
  clear hl1 hr1 hb1 HO HBW
  go_wp2_with (at_builtin; refine append_bytes (.tmp 12) (.tmp 14) rfl rfl rfl HO1.out _ 4 4 l1 rfl HL1.out.symm HR1.out (by rw [HL1.out]; decide) HB1.out.size ?_; intro v2 w2 ho2 hg2 ha2; have HO2 := Lib.hid ho2; have HB2 := Lib.hid (HB1.out.grown hg2 HB1.out.size (fun x e => (HO1.out.lt x e).1)); clear ho2 hg2 ha2)
  refine (four_any m _).mono ?_
  rintro e w3 ⟨l3, rfl, hl3, hr3, hb3⟩
  have HO3 := Lib.hid (HO2.out.below hb3)
  have HB3 := Lib.hid (HB2.out.trans (hb3.mono HB2.out.size))
  have HL3 := Lib.hid hl3
  have HR3 := Lib.hid hr3
  have HLH : Hid (([99] ++ l1).length = 5) := by unfold Hid; rw [List.length_append, HL1.out]; rfl
  clear hl3 hr3 hb3 HO2 HO1 HR1 HB1
  go_wp2_with (at_builtin; go_loud (refine append_bytes (.tmp 16) (.tmp 19) rfl rfl rfl HO3.out _ 4 4 l3 rfl HL3.out.symm HR3.out (by rw [HLH.out, HL3.out]; decide) HB3.out.size ?_; intro v4 w4 ho4 hg4 ha4; have HB4 := Lib.hid (HB3.out.grown hg4 HB3.out.size (fun x e => (HO3.out.lt x e).1)); obtain ⟨hd, hhd⟩ : ∃ hd, hd = [99] ++ l1 ++ l3 := ⟨_, rfl⟩; have hl9 : hd.length = 9 := (by rw [hhd, List.length_append, HLH.out, HL3.out]); have H99 : Hid (nth hd 0 = 99) := (by rw [hhd]; rfl); rw [← hhd] at ho4; obtain ⟨A4, c4, rfl, -, -, hr4⟩ := ho4.form; rw [hl9] at ho4 ⊢; have HOH := Lib.hid ho4; have HRH := Lib.hid hr4; have H9 := Lib.hid hl9; clear ho4 hg4 ha4 hr4 hhd hl9))
  have hof := rof_any A4 c4 hd w4 (by rw [H9.out]; decide) HRH.out
  rw [H9.out] at hof
  clear HRH HO3 HR3 HL3 HL1 HLH HB3
  refine hof.mono ?_
  clear hof
  rintro e w5 ⟨S, rfl, hs20, hslt, hb5⟩
  rw [bytesV_bs]
  have HB5 := Lib.hid (HB4.out.trans (hb5.mono HB4.out.size))
  have HO5 := Lib.hid (HOH.out.below hb5)
  have HSL := Lib.hid hs20
  have HLT := Lib.hid hslt
  clear hb5 hs20 hslt HOH
  obtain ⟨C, hC⟩ : ∃ C, C = (bs S).toArray := ⟨_, rfl⟩
  rw [← hC]
  have hCs : C.size = 20 := by rw [hC]; simp [bs_length, HSL.out]
  have hC1 : C.all (·.oneCell') = true := by rw [hC]; exact bs_all S
  have hrS : Rd (w5.alloc (.cells C 96)) (some ⟨w5.heap.size, 0, none⟩) S := by rw [hC]; exact rd_bs w5 S HLT.out _
  have hax : Below w5.heap.size w5 (w5.alloc (.cells C 96)) := (Below.refl _ _).alloc (Nat.le_refl _) _
  have hgC : (w5.alloc (.cells C 96)).heap[w5.heap.size]? = some (.cells C 96) := heap_alloc_new w5 _
  have HO6 := Lib.hid (HO5.out.below hax)
  have HB6 := Lib.hid (HB5.out.trans (hax.mono HB5.out.size))
  have HRS := Lib.hid hrS
  have HCS := Lib.hid hCs
  have HC1 := Lib.hid hC1
  have HGC := Lib.hid hgC
  have HG5 := Lib.hid HB5.out.size
  have hbs : w.heap.size ≤ (w5.alloc (.cells C 96)).heap.size := HB6.out.size
  have hlg : w5.heap.size < (w5.alloc (.cells C 96)).heap.size := by simp
  have HLG := Lib.hid hlg
  clear hC hCs hC1 hrS hax hgC hlg HO5 HB5 HB4
  go_wp2_with (first
    | (refine wpList_store_new 96 (.tmp 8) (.tmp 22) rfl rfl _ C rfl rfl (by rw [HCS.out]; exact size20) (by rw [HCS.out]; rfl) HC1.out ?_)
    | (at_builtin; refine append_bytes (.tmp 23) (.tmp 24) rfl rfl rfl HO6.out _ 20 20 S rfl HSL.out.symm HRS.out (by rw [H9.out, HSL.out]; decide) hbs ?_; intro v7 w7 ho7 hg7 ha7; have hne := HO6.out.neRow HGC.out (by decide); have HB7 := Lib.hid (HB6.out.grown hg7 hbs (fun x e => (HO6.out.lt x e).1)); have HGC7 : Hid (w7.heap[w5.heap.size]? = some (.cells C 96)) := (hg7.block _ HLG.out (fun e => hne e.symm)).trans HGC.out; obtain ⟨h, hh⟩ : ∃ h, h = hd ++ S := ⟨_, rfl⟩; have hl29 : h.length = 29 := (by rw [hh, List.length_append, H9.out, HSL.out]); have H099 : Hid (nth h 0 = 99) := (by rw [← H99.out, hh]; exact nth_app_zero _ _ (by rw [H9.out]; decide)); rw [← hh] at ho7; have hnr := ho7.neRow HGC7.out (by decide); obtain ⟨A7, c7, rfl, -, hf7, hr7⟩ := ho7.form; have HA7 : Hid (∀ a, A7 = some a → a.block ≠ w5.heap.size) := (fun a ha e => hnr (by rw [(hf7 a ha).2.2, e])); rw [hl29] at ho7 ⊢; have HR7 := Lib.hid hr7; have H29 := Lib.hid hl29; clear ho7 hg7 ha7 hr7 hh hl29 hne hnr hf7)
    | (at_builtin; refine append_bytes (v := .slice none 0 0) (l := []) (.tmp 26) (.tmp 27) rfl rfl rfl (Ow.nil w7 w7.heap.size) A7 29 c7 h rfl H29.out.symm HR7.out (by rw [H29.out]; decide) (Nat.le_refl _) ?_; intro v8 w8 ho8 hg8 ha8; rw [List.nil_append] at ho8; have HO8 := Lib.hid ho8; have HB8 : Hid (Below w7.heap.size w7 w8) := ((Below.refl _ _).grown hg8 (Nat.le_refl _) (by simp [Value.ownBlock])); have HBB8 := Lib.hid (HB.out.below (HB7.out.trans (HB8.out.mono HB7.out.size))); clear ho8 hg8 ha8)
    | (at_builtin; refine append_bytes (.tmp 29) (.tmp 30) rfl rfl rfl HO8.out B m d b rfl HM.out HBB8.out (by rw [H29.out]; have := HBL.out; omega) HB8.out.size ?_; intro v9 w9 ho9 hg9 ha9; have HB9 := Lib.hid (HB8.out.grown hg9 HB8.out.size (fun x e => (HO8.out.lt x e).1)); obtain ⟨bb, hbb⟩ : ∃ bb, bb = h ++ b := ⟨_, rfl⟩; rw [← hbb] at ho9; have HBBL : Hid (bb.length ≤ 100029) := (by unfold Hid; rw [hbb, List.length_append, H29.out]; have := HBL.out; omega); obtain ⟨A9, c9, rfl, -, -, hr9⟩ := ho9.form; have HR9 := Lib.hid hr9; clear ho9 hg9 ha9 hr9 hbb))
  refine (rof_any A9 c9 bb w9 (by have := HBBL.out; omega) HR9.out).mono ?_
  rintro e w10 ⟨S2, rfl, hs20, hslt, hb10⟩
  rw [bytesV_bs]
  have HB10 := Lib.hid (HB9.out.trans (hb10.mono HB9.out.size))
  have hg10 : w10.heap[w5.heap.size]? = some (.cells C 96) := (HB10.out.block _ (by
    rcases Nat.lt_or_ge w5.heap.size w7.heap.size with q | q
    · exact q
    · have := HGC7.out; rw [Array.getElem?_eq_none q] at this; cases this)).trans HGC7.out
  obtain ⟨C2, hC2⟩ : ∃ C2, C2 = (bs S2).toArray := ⟨_, rfl⟩
  rw [← hC2]
  have hCs2 : C2.size = 20 := by rw [hC2]; simp [bs_length, hs20]
  have hC12 : C2.all (·.oneCell') = true := by rw [hC2]; exact bs_all S2
  have hx11 : Below w.heap.size w (w10.setRow w5.heap.size C2) := below_setRow (HB7.out.trans (HB10.out.mono HB7.out.size)) HG5.out _
  have hh11 : Rd (w10.setRow w5.heap.size C2) A7 h := rd_setRow (HR7.out.below HB10.out) _ HA7.out
  have hs11 : Rd (w10.setRow w5.heap.size C2) (some ⟨w5.heap.size, 0, none⟩) S2 := rd_row hslt (t := 96) (by rw [← hC2]; exact setRow_heap _ _ _ _ _ _ hg10)
  have HX11 := Lib.hid hx11
  have HH11 := Lib.hid hh11
  have HS11 := Lib.hid hs11
  have HG10 := Lib.hid hg10
  have HCS2 := Lib.hid hCs2
  have HC12 := Lib.hid hC12
  have HSL2 := Lib.hid hs20
  clear hb10 hslt hs20 hg10 hC2 hCs2 hC12 hx11 hh11 hs11 HB10 HR9 HR7 HA7 HGC7 HB9 HBB8 HO8 HB8
  go_upto_region 10 with (refine wpList_store_row rfl 96 (.tmp 8) (.tmp 33) rfl w5.heap.size C2 rfl rfl 96 C HG10.out (by rw [HCS2.out]; exact size20) (by rw [HCS2.out, HCS.out]) HC12.out ?_)
  generalize w5.heap.size = g8 at *
  generalize w10.setRow g8 C2 = w11 at *
  have ho11 : Ow (w11.alloc (.cells #[.int .u8 122] 5)) w11.heap.size (.slice (some ⟨w11.heap.size, 0, none⟩) 1 1) [122] := ow_new w11 [122] (by decide) (by decide)
  have hb11 : Below w11.heap.size w11 (w11.alloc (.cells #[.int .u8 122] 5)) := (Below.refl _ _).alloc (Nat.le_refl _) _
  have HO11 := Lib.hid ho11
  have HB11 := Lib.hid hb11
  clear ho11 hb11
  go_wp2_with fail
  refine (four_any k _).mono ?_
  rintro e w12 ⟨l12, rfl, hl12, hr12, hb12⟩
  rw [World.size_alloc] at hr12
  have HO12 := Lib.hid (HO11.out.below hb12)
  have HB12 := Lib.hid (HB11.out.trans (hb12.mono HB11.out.size))
  have HL12 := Lib.hid hl12
  have HR12 := Lib.hid hr12
  clear hl12 hr12 hb12 HO11 HB11
  go_wp2_with (first
    | (at_builtin; refine append_bytes (.tmp 35) (.tmp 37) rfl rfl rfl HO12.out _ 4 4 l12 rfl HL12.out.symm HR12.out (by rw [HL12.out]; decide) HB12.out.size ?_; intro v13 w13 ho13 hg13 ha13; have HB13 := Lib.hid (HB12.out.grown hg13 HB12.out.size (fun x e => (HO12.out.lt x e).1)); have HS13 := Lib.hid (HS11.out.below HB13.out); have HO13 := Lib.hid ho13; clear ho13 hg13 ha13)
    | (at_builtin; refine append_bytes (.tmp 39) (.tmp 40) rfl rfl rfl HO13.out _ 20 20 S2 rfl HSL2.out.symm HS13.out (by rw [List.length_append, HL12.out, HSL2.out]; decide) HB13.out.size ?_; intro v14 w14 ho14 hg14 ha14; have HB14 := Lib.hid (HB13.out.grown hg14 HB13.out.size (fun x e => (HO13.out.lt x e).1)); obtain ⟨cc, hcc⟩ : ∃ cc, cc = [122] ++ l12 ++ S2 := ⟨_, rfl⟩; have hl25 : cc.length = 25 := (by rw [hcc, List.length_append, List.length_append, HL12.out, HSL2.out]; rfl); rw [← hcc] at ho14; obtain ⟨A14, c14, rfl, -, -, hr14⟩ := ho14.form; rw [hl25] at ho14 ⊢; have HR14 := Lib.hid hr14; have H25 := Lib.hid hl25; clear ho14 hg14 ha14 hr14 hcc hl25))
  go_ret3
  exact ⟨A7, c7, h, A14, c14, cc, rfl, HH11.out.below HB14.out, H29.out, H099.out, HR14.out, H25.out, HX11.out.trans (HB14.out.mono HX11.out.size)⟩
end Go.Proofs.YtlhbijpmhokmnaaGreat
namespace Go.Proofs.YtlhbijpmhokmnaaGreat
open Go.RowKit
set_option linter.unusedSimpArgs false
set_option linter.unusedVariables false

theorem crLeft_two (d : DkS) (hfl : d.floor ≤ d.now.length) (keep : Int) (hk : 0 ≤ keep) (junk : List Nat) : d.floor ≤ (crLeft d keep junk).length ∧ (crLeft d keep junk).length ≤ d.now.length ∧ (crLeft d keep junk).take d.floor = d.now.take d.floor := by
  obtain ⟨x, hx⟩ : ∃ x, x = (min keep (d.now.length - d.floor : Nat)).toNat := ⟨_, rfl⟩
  have hxl : x ≤ d.now.length - d.floor := by rw [hx]; omega
  unfold crLeft
  rw [if_neg (by omega), ← hx]
  have hbl : (d.now.take (d.floor + x)).length = d.floor + x := by rw [List.length_take]; omega
  have htt : (d.now.take (d.floor + x)).take d.floor = d.now.take d.floor := by rw [List.take_take, Nat.min_eq_left (Nat.le_add_right _ _)]
  by_cases hj : junk = []
  · rw [if_pos hj]
    exact ⟨by rw [hbl]; omega, by rw [hbl]; omega, htt⟩
  · rw [if_neg hj]
    refine ⟨by rw [jk_length, hbl]; omega, by rw [jk_length, hbl]; omega, ?_⟩
    rw [← htt]
    generalize d.now.take (d.floor + x) = base at hbl htt
    have hf : d.floor ≤ crFrom d.floor base.length := Nat.le_max_left _ _
    generalize crFrom d.floor base.length = f at hf
    refine eq_of_nth (by rw [List.length_take, List.length_take, jk_length]) fun i hi => ?_
    rw [List.length_take, jk_length] at hi
    rw [f_nth_take _ _ _ (by omega), f_nth_take _ _ _ (by omega)]
    have hib : i < base.length := by omega
    unfold jk nth
    rw [List.getD_eq_getElem?_getD, List.getElem?_map, List.getElem?_range hib]
    simp only [Option.map_some, Option.getD_some]
    rw [if_neg (by omega)]
theorem As.crash {K : TurnK} {pre : List Nat} {d p : DkS} (h : As K pre d p) {left : List Nat} (hl : left = d.old ∨ (d.floor ≤ left.length ∧ left.length ≤ d.now.length ∧ left.take d.floor = d.now.take d.floor)) : ∃ p', As K pre (crashD d left) p' ∧ CrashTo p p' := by
  rcases hl with rfl | ⟨h1, h2, h3⟩
  · refine ⟨{ p with now := p.old, old := p.old, floor := p.old.length, down := false, armed := -1, fails := 0 }, ⟨h.ok, h.len, h.most, h.old, h.old, ?_, Nat.le_refl _, rfl, rfl, rfl, h.err⟩, ⟨rfl, rfl, rfl, rfl, rfl, rfl, .inl rfl⟩⟩
    show d.old.length = fromK K + p.old.length
    rw [h.old, List.length_append, encA_length, h.len]
  · have hf := h.floor
    have hs := h.size
    have hfl := h.fl
    have hpre : left.take (fromK K) = pre := by
      have e1 : left.take (fromK K) = (left.take d.floor).take (fromK K) := by rw [List.take_take, Nat.min_eq_left (by omega)]
      rw [e1, h3, List.take_take, Nat.min_eq_left (by omega), h.now]
      exact List.take_left' h.len
    have hcut : (left.drop (fromK K)).take p.floor = (encA K (fromK K) p.now).take p.floor := by
      have e1 : ∀ l : List Nat, (l.drop (fromK K)).take p.floor = (l.take d.floor).drop (fromK K) := fun l => by rw [hf, List.drop_take, Nat.add_sub_cancel_left]
      rw [e1, h3, ← e1, h.now, List.drop_left' h.len]
    have hnow : left = pre ++ encA K (fromK K) (encA K (fromK K) (left.drop (fromK K))) := by
      rw [encA_back, ← hpre, List.take_append_drop]
    have hlen : (encA K (fromK K) (left.drop (fromK K))).length = left.length - fromK K := by rw [encA_length, List.length_drop]
    refine ⟨{ p with now := encA K (fromK K) (left.drop (fromK K)), old := encA K (fromK K) (left.drop (fromK K)), floor := (encA K (fromK K) (left.drop (fromK K))).length, down := false, armed := -1, fails := 0 },
      ⟨h.ok, h.len, h.most, hnow, hnow, ?_, Nat.le_refl _, rfl, rfl, rfl, h.err⟩, ⟨rfl, rfl, rfl, rfl, rfl, rfl, .inr ⟨?_, ?_, ?_⟩⟩⟩
    · show left.length = fromK K + (encA K (fromK K) (left.drop (fromK K))).length
      rw [hlen]; omega
    · show p.floor ≤ (encA K (fromK K) (left.drop (fromK K))).length
      rw [hlen]; omega
    · show (encA K (fromK K) (left.drop (fromK K))).length ≤ p.now.length
      rw [hlen]; omega
    · show (encA K (fromK K) (left.drop (fromK K))).take p.floor = p.now.take p.floor
      rw [encA_take, hcut, encA_take, encA_back]
theorem As.fld {K : TurnK} {pre : List Nat} {d p : DkS} (h : As K pre d p) : d.floor ≤ d.now.length := by
  rw [h.size, h.floor]
  have := h.fl
  omega
theorem As.arm {K : TurnK} {pre : List Nat} {d p : DkS} (h : As K pre d p) (n : Int) : As K pre { d with armed := n } { p with armed := n } := ⟨h.ok, h.len, h.most, h.now, h.old, h.floor, h.fl, h.down, rfl, h.fails, h.err⟩
theorem As.fail {K : TurnK} {pre : List Nat} {d p : DkS} (h : As K pre d p) (n : Nat) (e : Int) : As K pre { d with fails := n, err := e } { p with fails := n, err := e } := ⟨h.ok, h.len, h.most, h.now, h.old, h.floor, h.fl, h.down, h.armed, rfl, rfl⟩
section
variable {w w' : World} {gf gd : Nat} {nb ob : Option Nat} {K : TurnK} {pre : List Nat} {p : DkS}
theorem varm_any (h : Fv w gf gd nb ob K pre p) (n : Int) (hn : 0 ≤ n) (hn2 : n ≤ 9223372036854775807) : Calls Tryz.prog 22 #[.pointer (some ⟨gd, 0, none⟩), .int .i64 n] w fun e w' => e = .returned (.int .i64 0) ∧ VAfter w gf gd nb ob K pre { p with armed := n } w' := by
  obtain ⟨d, h1, h2⟩ := h.ex
  refine (arm_any h1.dk n hn hn2).mono ?_
  rintro e w' ⟨rfl, q1, q2⟩
  exact ⟨rfl, nb, ob, ⟨_, h1.after q1 q2, h2.arm n⟩, .inl (.inl rfl), .inr (.inl rfl), q2⟩
theorem vfail_any (h : Fv w gf gd nb ob K pre p) (n : Nat) (er : Int) (hn : failB n er = false) (hn2 : n ≤ 9223372036854775807) : Calls Tryz.prog 21 #[.pointer (some ⟨gd, 0, none⟩), .int .i64 n, .int .i64 er] w fun e w' => e = .returned (.int .i64 0) ∧ VAfter w gf gd nb ob K pre { p with fails := n, err := er } w' := by
  obtain ⟨d, h1, h2⟩ := h.ex
  refine (fail_any h1.dk n er hn hn2).mono ?_
  rintro e w' ⟨rfl, q1, q2⟩
  exact ⟨rfl, nb, ob, ⟨_, h1.after q1 q2, h2.fail n er⟩, .inl (.inl rfl), .inr (.inl rfl), q2⟩
theorem vcrash_any (h : Fv w gf gd nb ob K pre p) (keep : Int) (AJ : Option Addr) (jn jc : Nat) (junk : List Nat) (hjn : jn = junk.length) (hJ : Rd w AJ junk) (hjl : junk.length ≤ 9223372036854775807) :
    Calls Tryz.prog 23 #[.pointer (some ⟨gd, 0, none⟩), .agg #[.int .i64 keep, .slice AJ jn jc]] w fun e w' => e = .returned (.int .i64 0) ∧ ∃ p', CrashTo p p' ∧ VAfter w gf gd nb ob K pre p' w' := by
  obtain ⟨d, h1, h2⟩ := h.ex
  by_cases hk : keep < 0
  · refine (crash_old h1.dk keep hk AJ jn jc).mono ?_
    rintro e w' ⟨rfl, nb', ob', q1, q2, q3, q4⟩
    obtain ⟨p', k1, k2⟩ := h2.crash (left := d.old) (.inl rfl)
    exact ⟨rfl, p', k2, nb', ob', ⟨_, h1.after q1 q4, k1⟩, q2, q3, q4⟩
  · subst hjn
    refine (crash_now h1.dk h2.fld keep (by omega) AJ junk jc hJ hjl).mono ?_
    rintro e w' ⟨rfl, nb', ob', q1, q2, q3, q4⟩
    obtain ⟨p', k1, k2⟩ := h2.crash (.inr (crLeft_two d h2.fld keep (by omega) junk))
    exact ⟨rfl, p', k2, nb', ob', ⟨_, h1.after q1 q4, k1⟩, q2, q3, q4⟩
theorem crash_to_plain {d : DkS} (hfl : d.floor ≤ d.now.length) (keep : Int) (hk : 0 ≤ keep) (junk : List Nat) : CrashTo d (crashD d (crLeft d keep junk)) := ⟨rfl, rfl, rfl, rfl, rfl, rfl, .inr (crLeft_two d hfl keep hk junk)⟩
/-- A plain file's disk, crashed. -/
theorem vcrash_plain (h : Fv w gf gd nb ob none [] p) (keep : Int) (hk : 0 ≤ keep) (AJ : Option Addr) (jn jc : Nat) (junk : List Nat) (hjn : jn = junk.length) (hJ : Rd w AJ junk) (hjl : junk.length ≤ 9223372036854775807) :
    Calls Tryz.prog 23 #[.pointer (some ⟨gd, 0, none⟩), .agg #[.int .i64 keep, .slice AJ jn jc]] w fun e w' => e = .returned (.int .i64 0) ∧ VAfter w gf gd nb ob none [] (crashD p (crLeft p keep junk)) w' := by
  obtain ⟨d, h1, h2⟩ := h.ex
  have hdp : d.now = p.now ∧ d.floor = p.floor ∧ d.old = p.old ∧ d.most = p.most := ⟨h2.now, by rw [h2.floor]; exact Nat.zero_add _, h2.old, by rw [h2.most]; exact Nat.zero_add _⟩
  subst hjn
  refine (crash_now h1.dk h2.fld keep hk AJ junk jc hJ hjl).mono ?_
  rintro e w' ⟨rfl, nb', ob', q1, q2, q3, q4⟩
  have hcl : crLeft d keep junk = crLeft p keep junk := by unfold crLeft; rw [hdp.1, hdp.2.1, hdp.2.2.1]
  refine ⟨rfl, nb', ob', ⟨_, h1.after q1 q4, ?_⟩, q2, q3, q4⟩
  rw [hcl]
  exact ⟨trivial, rfl, h2.most, rfl, rfl, by show (crLeft p keep junk).length = 0 + (crLeft p keep junk).length; omega, Nat.le_refl _, rfl, rfl, rfl, h2.err⟩
end
/-- A disk that goes down behind so many operations. -/
structure Armed (p : DkS) (a : Nat) : Prop where
  down : p.down = false
  armed : p.armed = a
  fails : p.fails = 0
theorem Armed.pre {p : DkS} {a : Nat} (h : Armed p (a + 1)) : p.pre = (none, { p with armed := a }) := by
  unfold DkS.pre
  rw [if_neg (by rw [h.down]; decide), if_neg (by rw [h.armed]; omega), if_pos h.fails, h.armed, if_pos (by omega)]
  have : ((a + 1 : Nat) : Int) - 1 = a := by omega
  rw [this]
theorem Armed.pre0 {p : DkS} (h : Armed p 0) : p.pre = (some 11, { p with down := true }) := by
  unfold DkS.pre
  rw [if_neg (by rw [h.down]; decide), if_pos (by rw [h.armed]; rfl)]
section
variable {p p' : DkS} {m : Nat} {B hd b cm : List Nat} {L : List (List Nat)}
theorem Armed.step {a k : Nat} (ha : Armed p (a + 1)) (hk : k < 6) (h : Mid p m B (tA hd b cm k) (oA hd b cm k)) (hm : B.length + (hd ++ b ++ cm).length ≤ m) : (stepA hd b cm k p).1 = 0 ∧ Armed (stepA hd b cm k p).2 a := by
  rw [List.length_append, List.length_append] at hm
  have hap : ∀ x : List Nat, p.now.length + x.length ≤ p.most → (p.append x).1 = 0 ∧ Armed (p.append x).2 a := by
    intro x hx
    unfold DkS.append DkS.op
    rw [ha.pre]
    show (if p.most < p.now.length + x.length then ((5 : Int), _) else (0, _)).1 = 0 ∧ Armed (if p.most < p.now.length + x.length then ((5 : Int), _) else (0, _)).2 a
    rw [if_neg (by omega)]
    exact ⟨rfl, ha.down, rfl, ha.fails⟩
  have hs : p.sync.1 = 0 ∧ Armed p.sync.2 a := by
    unfold DkS.sync DkS.op
    rw [ha.pre]
    exact ⟨rfl, ha.down, rfl, ha.fails⟩
  have hl : p.now.length = B.length + (tA hd b cm k).length := by rw [h.now, List.length_append]
  have hmo := h.most
  match k, hk, h, hl with
  | 0, _, h, hl => exact hap hd (by rw [hl, hmo]; show B.length + 0 + _ ≤ _; omega)
  | 1, _, h, hl => exact hs
  | 2, _, h, hl => exact hap b (by rw [hl, hmo]; show B.length + hd.length + _ ≤ _; omega)
  | 3, _, h, hl => exact hs
  | 4, _, h, hl => exact hap cm (by rw [hl, hmo]; show B.length + (hd ++ b).length + _ ≤ _; rw [List.length_append]; omega)
  | 5, _, h, hl => exact hs
theorem Armed.run {a : Nat} (h : Mid p m B [] []) (hm : B.length + (hd ++ b ++ cm).length ≤ m) (ha : Armed p a) (h6 : a < 6) : ∀ k, k ≤ a → (∀ i, i < k → (stepA hd b cm i (runA hd b cm i p)).1 = 0) ∧ Armed (runA hd b cm k p) (a - k)
  | 0, _ => ⟨fun i hi => absurd hi (Nat.not_lt_zero _), ha⟩
  | k + 1, hk => by
    obtain ⟨h1, h2⟩ := Armed.run h hm ha h6 k (by omega)
    have e : a - k = (a - (k + 1)) + 1 := by omega
    rw [e] at h2
    obtain ⟨h3, h4⟩ := h2.step (by omega) (Mid.run h hm k (by omega) h1) hm
    refine ⟨fun i hi => ?_, h4⟩
    rcases Nat.lt_or_ge i k with q | q
    · exact h1 i q
    · obtain rfl : i = k := by omega
      exact h3
theorem step_down {k : Nat} (h : Armed p 0) : stepA hd b cm k p = (11, { p with down := true }) := by
  have ha : ∀ F, p.op F = (11, { p with down := true }) := fun F => by unfold DkS.op; rw [h.pre0]
  unfold stepA
  split <;> exact ha _
theorem back_down {n : Nat} (h : p.down = true) : backD p n = (11, p) := by
  have ha : ∀ F, p.op F = (11, p) := fun F => by unfold DkS.op DkS.pre; rw [if_pos h]
  unfold backD DkS.cut
  rw [ha, if_pos (show (11 : Int) ≠ 0 by decide)]
theorem arm_out {a : Nat} {r : Int} {n' e' : Nat} {br : Bool} (ha : Armed p a) (h6 : a < 6) (h : Rest p m L) (hm : (bas L).length + 54 + b.length ≤ m)
    (ho : AddOut (headL (L.length + 1) b.length) b (commitL (L.length + 1) (headL (L.length + 1) b.length) b) L.length (bas L).length p r p' n' e' br) :
    r = 11 ∧ br = true ∧ n' = L.length ∧ e' = (bas L).length ∧ Mid p' m (bas L) (tA (headL (L.length + 1) b.length) b (commitL (L.length + 1) (headL (L.length + 1) b.length) b) a) (oA (headL (L.length + 1) b.length) b (commitL (L.length + 1) (headL (L.length + 1) b.length) b) a) := by
  have hm' : (bas L).length + (headL (L.length + 1) b.length ++ b ++ commitL (L.length + 1) (headL (L.length + 1) b.length) b).length ≤ m := by rw [tx_parts, txL_length]; omega
  obtain ⟨h1, h2⟩ := Armed.run h hm' ha h6 a (Nat.le_refl _)
  rw [Nat.sub_self] at h2
  have hmid := Mid.run h hm' a (by omega) h1
  have hsd : ∀ k, stepA (headL (L.length + 1) b.length) b (commitL (L.length + 1) (headL (L.length + 1) b.length) b) k (runA (headL (L.length + 1) b.length) b (commitL (L.length + 1) (headL (L.length + 1) b.length) b) a p) = _ := fun k => step_down h2
  rcases ho with ⟨k, hk, hall, q1, q2, rfl, rfl, rfl, rfl⟩ | ⟨hall, -⟩
  · have hka : k = a := by
      rcases Nat.lt_trichotomy k a with q | q | q
      · exact absurd (q1.symm.trans (h1 k q)) q2
      · exact q
      · have := hall a q
        rw [hsd] at this
        exact absurd (show (11 : Int) = 0 from this) (by decide)
    subst hka
    have hr : runA (headL (L.length + 1) b.length) b (commitL (L.length + 1) (headL (L.length + 1) b.length) b) (k + 1) p = { runA (headL (L.length + 1) b.length) b (commitL (L.length + 1) (headL (L.length + 1) b.length) b) k p with down := true } := by
      show (stepA _ _ _ k _).2 = _
      rw [hsd]
    rw [hsd] at q1
    rw [hr, back_down rfl]
    exact ⟨q1.symm, (show decide ((11 : Int) ≠ 0) = true by decide), rfl, rfl, hmid.most, hmid.now, hmid.old, hmid.floor, hmid.ok⟩
  · have := hall a h6
    rw [hsd] at this
    exact absurd (show (11 : Int) = 0 from this) (by decide)
end
end Go.Proofs.YtlhbijpmhokmnaaGreat
