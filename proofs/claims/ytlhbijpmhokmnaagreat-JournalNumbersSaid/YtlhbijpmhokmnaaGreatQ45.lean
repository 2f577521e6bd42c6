/-
  THE WALK OF quillpresslaw29.JournalNumbers: it returns true. Conditions: none.
-/
import Derived.Test.YtlhbijpmhokmnaaGreatQ44
import Derived.Deep.DeepCutAuto
import Derived.Deep.CutBlock
namespace Go.Proofs.YtlhbijpmhokmnaaGreat
open Go.RowKit
set_option linter.unusedSimpArgs false
set_option linter.unusedVariables false

theorem b1 (w : World) (o : Obj) : Below w.heap.size w (w.alloc o) := (Below.refl _ _).alloc (Nat.le_refl _) o
theorem b2 (w : World) (o o2 : Obj) : Below w.heap.size w ((w.alloc o).alloc o2) := (b1 w o).alloc (by rw [World.size_alloc]; omega) o2
theorem bd (w : World) : Below w.heap.size w w.drew := below_drewN' (Below.refl w.heap.size w) 1
/-- Added on a full disk. -/
theorem jadd_full {base gf gd gj n c : Nat} {w0 w : World} {A : Option Addr} (h : Added base w0 w gf gd gj none [] 70 []) (hgj : base ≤ gj) (hn : n = 3) (hrd : Rd w A abc) :
    Calls Tryz.prog 15 #[.pointer (some ⟨gj, 0, none⟩), .slice A n c] w fun e w' => e = .returned (.int .i64 5) ∧ Added base w0 w' gf gd gj none [] 70 [] := by
  obtain ⟨p, h1, h2, h3, h4⟩ := h
  refine (jadd_ff h1 h2 hgj h3 (by decide) A n c abc hn abc_good hrd).mono ?_
  rintro e w' ⟨r, rfl, p', n', e', br, q1, q2, q3, -, -⟩
  obtain ⟨rfl, k2, rfl, rfl, rfl, k6⟩ := full_out h4 h3 (by rw [bas_nil]; decide) (by rw [bas_nil]; decide) q1
  exact ⟨rfl, p', q2, q3, k2, k6⟩
theorem much_ok : 1048576 < 1048577 := by decide
theorem Added.jo {base gf gd gj m : Nat} {w0 w : World} {K : TurnK} {pre : List Nat} {L : List (List Nat)} (h : Added base w0 w gf gd gj K pre m L) : Jo w gj gf L.length (bas L).length false := by
  obtain ⟨p, h1, h2, h3, h4⟩ := h
  exact h2
set_option maxRecDepth 100000 in
set_option maxHeartbeats 16000000 in
theorem journalNumbers_walk (w : World) : Calls Tryz.prog 4 #[] w fun e w' => e = .returned (.bool true) ∧ Below w.heap.size w w' := by
  have kc := fun (w : World) (C : Array Value) (n c : Nat) => Lib.run_convert_bytes_const (P := Tryz.prog) w 22 5 C n c Tryz.underlying22 Tryz.underlying5
  obtain ⟨M, hM⟩ : ∃ M : Array Value, ∀ W : World, (Instr.makeSlice 22 (.int .i64 1048577) (.int .i64 1048577)).run Tryz.prog W = .ok (.slice (some ⟨W.heap.size, 0, none⟩) 1048577 1048577) (W.alloc (.cells M 5)) := ⟨madeCells #[.int .u8 0] 1048577, fun W => run_mkn W 1048577 (by omega)⟩
  go_enter Tryz.func4, Tryz.ntmps4
  go_wp2_with fail
  refine (jbegun_any 70 (by omega) (by omega) w).mono ?_
  rintro e w1 ⟨gf, gd, gj, rfl, hf, hj, hgj⟩
  have had : Added w.heap.size w w1 gf gd gj none [] 70 [] := ⟨_, hf, hj, mk_rest 70, mk_calm 70 txt⟩
  have HAD := Lib.hid had
  have HADd := Lib.hid (had.below (bd w1))
  have HG := Lib.hid hgj
  clear hf hj hgj had
  have kd1 : ∀ (C : Array Value) (n c : Nat), (convert 22 22 (.slice (some ⟨w1.heap.size, 0, none⟩) n c)).run Tryz.prog (w1.alloc (.cells C 5)).drew = .ok (.slice (some ⟨w1.heap.size, 0, none⟩) n c) (w1.alloc (.cells C 5 (C.size, C.size + 1))).drew := kc w1.drew
  have kd2 : ∀ (C : Array Value) (n c : Nat), (convert 22 22 (.slice (some ⟨w1.heap.size + 1, 0, none⟩) n c)).run Tryz.prog ((w1.alloc (.cells M 5)).alloc (.cells C 5)).drew = .ok (.slice (some ⟨w1.heap.size + 1, 0, none⟩) n c) ((w1.alloc (.cells M 5)).alloc (.cells C 5 (C.size, C.size + 1))).drew := fun C n c => by
    have := kc (w1.drew.alloc (.cells M 5)) C n c
    rw [World.size_alloc] at this
    exact this
  have kd3 : ∀ (C : Array Value) (n c : Nat) (o : Obj), (convert 22 22 (.slice (some ⟨w1.heap.size, 0, none⟩) n c)).run Tryz.prog ((w1.alloc (.cells C 5)).alloc o).drew = .ok (.slice (some ⟨w1.heap.size, 0, none⟩) n c) ((w1.alloc (.cells C 5 (C.size, C.size + 1))).alloc o).drew := convert_two w1.drew
  have hA1 : ∀ C, C = abc → Calls Tryz.prog 15 #[.pointer (some ⟨gj, 0, none⟩), .slice (some ⟨w1.heap.size, 0, none⟩) 3 3] (w1.alloc (.cells #[.int .u8 97, .int .u8 98, .int .u8 99] 5 (3, 4))).drew fun e w' => e = .returned (.int .i64 5) ∧ Added w.heap.size w w' gf gd gj none [] 70 [] := fun C hC => by
    subst hC
    exact jadd_full (n := 3) (c := 3) (HADd.out.below (b1 w1.drew _)) HG.out rfl (constW_rd w1.drew 5 abc (by decide) (3, 4))
  have hA2 : ∀ C, C = abc → Calls Tryz.prog 15 #[.pointer (some ⟨gj, 0, none⟩), .slice (some ⟨w1.heap.size, 0, none⟩) 3 3] ((w1.alloc (.cells #[.int .u8 97, .int .u8 98, .int .u8 99] 5 (3, 4))).alloc (.cells M 5)).drew fun e w' => e = .returned (.int .i64 5) ∧ Added w.heap.size w w' gf gd gj none [] 70 [] := fun C hC => by
    subst hC
    exact jadd_full (n := 3) (c := 3) (HADd.out.below (b2 w1.drew _ _)) HG.out rfl ((constW_rd w1.drew 5 abc (by decide) (3, 4)).below (b1 _ _))
  have hA3 : ∀ C, C = abc → Calls Tryz.prog 15 #[.pointer (some ⟨gj, 0, none⟩), .slice (some ⟨w1.heap.size + 1, 0, none⟩) 3 3] ((w1.alloc (.cells M 5)).alloc (.cells #[.int .u8 97, .int .u8 98, .int .u8 99] 5 (3, 4))).drew fun e w' => e = .returned (.int .i64 5) ∧ Added w.heap.size w w' gf gd gj none [] 70 [] := fun C hC => by
    subst hC
    have hr := constW_rd (w1.drew.alloc (.cells M 5)) 5 abc (by decide) (3, 4)
    rw [World.size_alloc] at hr
    exact jadd_full (n := 3) (c := 3) (HADd.out.below (b2 w1.drew _ _)) HG.out rfl hr
  have HA1 := Lib.hid (hA1 abc rfl)
  have HA2 := Lib.hid (hA2 abc rfl)
  have HA3 := Lib.hid (hA3 abc rfl)
  clear hA1 hA2 hA3
  go_upto_region 2 with fail
  go_cut [4, 5, 6] (fun s4 s5 s6 wx => s4 = .int .i64 5 ∧ s5 = .int .i64 2 ∧ s6 = .int .i64 3 ∧ Added w.heap.size w wx gf gd gj none [] 70 [])
  case first =>
    go_region_law (go_simp; first
            | (go_at_call 15; (with_reducible refine HA1.out.mono ?_); rintro e y1 ⟨rfl, had1⟩
               have HAD1 := Lib.hid had1
               clear had1)
            | (go_at_call 15; (with_reducible refine HA2.out.mono ?_); rintro e y1 ⟨rfl, had1⟩
               have HAD1 := Lib.hid had1
               clear had1)
            | (go_at_call 15; (with_reducible refine HA3.out.mono ?_); rintro e y1 ⟨rfl, had1⟩
               have HAD1 := Lib.hid had1
               clear had1)
            | (go_at_call 15; (with_reducible refine (jadd_empty HAD1.out.jo none 0 0 rfl).mono ?_); rintro e y2 ⟨rfl, hb2⟩
               have HAD2 := Lib.hid (HAD1.out.below hb2)
               clear hb2)
            | (go_at_call 15; (with_reducible refine (jadd_empty (HAD1.out.below (b1 _ _)).jo none 0 0 rfl).mono ?_); rintro e y2 ⟨rfl, hb2⟩
               have HAD2 := Lib.hid ((HAD1.out.below (b1 _ _)).below hb2)
               clear hb2)
            | (go_at_call 15; (with_reducible refine (jadd_much HAD2.out.jo _ 1048577 1048577 much_ok).mono ?_); rintro e y3 ⟨rfl, hb3⟩
               have HAD3 := Lib.hid (HAD2.out.below hb3)
               clear hb3)
            | (go_at_call 15; (with_reducible refine (jadd_much (HAD2.out.below (b1 _ _)).jo _ 1048577 1048577 much_ok).mono ?_); rintro e y3 ⟨rfl, hb3⟩
               have HAD3 := Lib.hid ((HAD2.out.below (b1 _ _)).below hb3)
               clear hb3))
    all_goals
      go_wp2_with fail
      go_meet
      exact ⟨rfl, rfl, rfl, HAD3.out⟩
  case rest =>
    obtain ⟨rfl, rfl, rfl, had⟩ := hcut
    clear kd1 kd2 kd3 hM HA1 HA2 HA3 HAD HADd
    obtain ⟨p, hf, hj, hr, hc⟩ := had
    have hn : p.now = txt := by rw [hr.now, List.append_nil, bas_nil]
    have HF := Lib.hid hf
    have HJ := Lib.hid hj
    have HN := Lib.hid hn
    have HBW := Lib.hid (show Below w.heap.size w wc by obtain ⟨_, _, _, _, _, _, hb⟩ := hf; exact hb)
    clear hf hj hr hc hn
    go_wp2_with fail
    refine (vdsize_any HF.out).mono ?_
    rintro e w' ⟨rfl, rfl⟩
    rw [HN.out, show fromK none + txt.length = 21 from rfl]
    go_wp2_with fail
    refine (jbroken_any HJ.out).mono ?_
    rintro e w' ⟨rfl, rfl⟩
    go_wp2_with fail
    refine (jlen_any HJ.out).mono ?_
    rintro e w' ⟨rfl, rfl⟩
    rw [show (([] : List (List Nat)).length : Int) = 0 from rfl]
    go_wp2_with fail
    obtain ⟨nb, ob, hv, -⟩ := HF.out.call
    refine (jcreate_full hv (by rw [HN.out]; decide)).mono ?_
    rintro e w2 ⟨rfl, hb2⟩
    have HB2 := Lib.hid (HBW.out.trans (hb2.mono HBW.out.size))
    clear hv hb2 HF HJ HN HBW
    go_wp2_with fail
    refine (jcreate_no (.inl rfl)).mono ?_
    rintro e w' ⟨rfl, rfl⟩
    have hnf : NoF (w2.alloc (.cells #[.pointer none, .int .i64 0, .nilFunc] 47)) (.pointer (some ⟨w2.heap.size, 0, none⟩)) := .inr ⟨_, rfl, by rw [cell_of_row _ _ _ _ _ _ (heap_alloc_new w2 _)]; rfl⟩
    have HNF := Lib.hid hnf
    have HB3 := Lib.hid (HB2.out.trans ((b1 w2 (.cells #[.pointer none, .int .i64 0, .nilFunc] 47)).mono HB2.out.size))
    clear hnf
    go_wp2_with fail
    refine (jopen_no HNF.out).mono ?_
    rintro e w' ⟨rfl, rfl⟩
    clear HNF HB2
    generalize w2.alloc (.cells #[.pointer none, .int .i64 0, .nilFunc] 47) = w3 at *
    go_wp2_with fail
    refine (new_any' 100 w3 (by decide)).mono ?_
    rintro e w4 ⟨g, nb4, ob4, rfl, hd, hg, hnb, hob, hb⟩
    have D1 := Lib.hid hd
    have B4 := Lib.hid (HB3.out.trans (hb.mono HB3.out.size))
    have G1 := Lib.hid (And.intro (Nat.le_trans HB3.out.size hg) (And.intro (fun k e => Nat.le_trans HB3.out.size (hnb k e)) (fun k e => Nat.le_trans HB3.out.size (hob k e))))
    clear hd hg hnb hob hb
    go_wp2_with fail
    refine (open_plain D1.out none 0).mono ?_
    rintro e w5 ⟨gf5, rfl, hf5, -, hb5⟩
    have hff : Ff w.heap.size w w5 gf5 g none [] (mkD 100 []) := ⟨nb4, ob4, fv_plain hf5 (Nat.le_refl _), G1.out.1, G1.out.2.1, G1.out.2.2, B4.out.trans (hb5.mono B4.out.size)⟩
    have HF5 := Lib.hid hff
    clear hf5 hb5 hff D1 B4 G1
    go_wp2_with fail
    obtain ⟨nb5, ob5, hv5, -, hc5, -⟩ := HF5.out.call
    have HV5 := Lib.hid hv5
    have HC5 := Lib.hid hc5
    clear hv5 hc5
    refine (jopen_arch HV5.out (mk_calm 100 []).openG (by decide)).mono ?_
    rintro e w6 ⟨rfl, hf6, hg6⟩
    rw [(mk_calm 100 []).pre] at hf6
    have HF6 := Lib.hid (HC5.out _ _ hf6 hg6)
    clear hf6 hg6 HF5 HV5 HC5
    go_wp2_with fail
    obtain ⟨nb6, ob6, hv6, hc6, -, -⟩ := HF6.out.call
    have HV6 := Lib.hid hv6
    have HC6 := Lib.hid hc6
    clear hv6 hc6
    refine (vfail_any HV6.out 2 10 (by decide) (by decide)).mono ?_
    rintro e w7 ⟨rfl, hva⟩
    have HF7 := Lib.hid (HC6.out _ _ hva)
    clear hva HV6 HC6 HF6
    go_wp2_with fail
    obtain ⟨nb7, ob7, hv7, hc7, -, -⟩ := HF7.out.call
    have HV7 := Lib.hid hv7
    have HC7 := Lib.hid hc7
    clear hv7 hc7
    refine (jcreate_fail HV7.out rfl rfl rfl rfl).mono ?_
    rintro e w8 ⟨rfl, hva⟩
    have HF8 := Lib.hid (HC7.out _ _ hva)
    clear hva HV7 HC7 HF7
    go_wp2_with fail
    refine (vdsize_any HF8.out).mono ?_
    rintro e w' ⟨rfl, rfl⟩
    rw [show (((fromK none + (DkS.sync (DkS.cut (DkS.append { mkD 100 [] with fails := 2, err := 10 } txt).2.sync.2 0).2).2.now.length : Nat)) : Int) = 0 from rfl]
    go_wp2_with fail
    have HB8 : Hid (Below w.heap.size w w8) := by obtain ⟨_, _, _, _, _, _, hb⟩ := HF8.out; exact hb
    clear HF8 HB3
    refine (jbegun_any 1000 (by omega) (by omega) w8).mono ?_
    rintro e x3 ⟨hf9, hd9, hj9, rfl, hf, hj, hgj⟩
    have HF3 := Lib.hid hf
    have HJ3 := Lib.hid hj
    have HG3 := Lib.hid hgj
    clear hf hj hgj
    go_wp2_with fail
    obtain ⟨nb5, ob5, hv5, hcall5, -, -⟩ := HF3.out.call
    have HC5 := Lib.hid hcall5
    have HV5 := Lib.hid hv5
    clear hv5 hcall5
    refine (varm_any HV5.out (3 : Nat) (by decide) (by decide)).mono ?_
    rintro e x6 ⟨rfl, hva⟩
    have hg6 : x3.grownBy x6 (some hd9) := by obtain ⟨_, _, _, _, _, hg⟩ := hva; exact hg
    have hax := b1 x6 (.cells #[.int .u8 97, .int .u8 98, .int .u8 99] 5 (3, 3 + 1))
    have HF6 := Lib.hid ((HC5.out _ _ hva).below hax)
    have HJ6 := Lib.hid ((HJ3.out.grown HV5.out hg6).below hax)
    have HR6 := Lib.hid (constW_rd x6 5 abc (by decide) (3, 3 + 1))
    clear hva hg6 hax HC5 HV5 HF3 HJ3
    go_wp2_with (first
      | (refine wpList_buildFlat rfl 22 5 3 _ rfl .u8 abc Tryz.underlying22 (by kernel_rfl) (by kernel_rfl) rfl (by decide) (by decide) rfl ?_)
      | (refine wpList_conv_const rfl (.tmp 139) rfl (bs abc).toArray 3 3 rfl ?_))
    obtain ⟨nb6, ob6, hv6, -, -, hcj6⟩ := HF6.out.call
    have HCJ6 := Lib.hid hcj6
    have HV6 := Lib.hid hv6
    clear hv6 hcj6
    have hrest : Rest { mkD 1000 txt with armed := ((3 : Nat) : Int) } 1000 [] := by
      have := mk_rest 1000
      exact ⟨rfl, this.now, this.old, this.floor, fun h => absurd rfl h⟩
    refine (jadd_any HJ6.out HV6.out (some ⟨x6.heap.size, 0, none⟩) 3 3 abc rfl abc_good HR6.out (by decide) (show 21 ≤ txt.length by decide)).mono ?_
    rintro e x7 ⟨r, rfl, p', n', e', br, hao, hja⟩
    obtain ⟨rfl, rfl, rfl, rfl, hmid⟩ := arm_out (L := []) (a := 3) ⟨rfl, rfl, rfl⟩ (by decide) hrest (by rw [bas_nil]; decide) hao
    obtain ⟨hf7, hj7⟩ := HCJ6.out _ _ _ _ _ _ HG3.out hja
    have hax := b1 x7 (.cells #[.int .u8 97, .int .u8 98, .int .u8 99] 5 (3, 3 + 1))
    have HF7 := Lib.hid (hf7.below hax)
    have HJ7 := Lib.hid (hj7.below hax)
    have HMID := Lib.hid hmid
    clear hao hja hf7 hj7 hmid hrest hax HCJ6 HV6 HF6 HJ6 HR6
    go_wp2_with (first
      | (refine wpList_buildFlat rfl 22 5 3 _ rfl .u8 abc Tryz.underlying22 (by kernel_rfl) (by kernel_rfl) rfl (by decide) (by decide) rfl ?_)
      | (refine wpList_conv_const rfl (.tmp 143) rfl (bs abc).toArray 3 3 rfl ?_))
    refine (jadd_broken HJ7.out _ 3 3).mono ?_
    rintro e x8 ⟨rfl, hb8⟩
    have HF8 := Lib.hid (HF7.out.below hb8)
    have HJ8 := Lib.hid (HJ7.out.below hb8)
    clear hb8 HF7 HJ7
    go_wp2_with fail
    obtain ⟨nb8, ob8, hv8, hcall8, -, -⟩ := HF8.out.call
    have HC8 := Lib.hid hcall8
    have HV8 := Lib.hid hv8
    clear hv8 hcall8
    refine (vcrash_plain HV8.out 9 (by decide) none 0 0 [] rfl Rd.nil (by decide)).mono ?_
    rintro e x9 ⟨rfl, hva⟩
    have hg9 : x8.grownBy x9 (some hd9) := by obtain ⟨_, _, _, _, _, hg⟩ := hva; exact hg
    have HF9 := Lib.hid (HC8.out _ _ hva)
    have HJ9 := Lib.hid (HJ8.out.grown HV8.out hg9)
    clear hva hg9 HC8 HV8 HF8 HJ8
    go_wp2_with fail
    obtain ⟨rr, htd⟩ := short_told (a := 3) 9 (by decide) [] (by decide) abc_good HMID.out
    obtain ⟨nb9, ob9, hv9, -⟩ := HF9.out.call
    refine (jopen_calm (L := []) (r := rr) (m := 1000) HF9.out ⟨rfl, rfl, rfl⟩ htd HMID.out.most (fun _ => ⟨rfl, rfl⟩)).mono ?_
    rintro e x10 ⟨gj10, v10, rfl, had10, hlo10, hgj10, -, hg10, -⟩
    obtain ⟨A10', c10', rfl, -⟩ := hlo10.rds
    have HJ10 := Lib.hid (HJ9.out.grown hv9 hg10)
    have HG10 := Lib.hid (Nat.le_trans HF9.out.at hgj10)
    have HAD10 := Lib.hid had10
    rw [show ([] : List (List Nat)).length = 0 from rfl]
    clear htd had10 hlo10 hgj10 hg10 hv9 HF9 HJ9 HMID
    go_wp2_with fail
    refine (jbroken_any HJ10.out).mono ?_
    rintro e w' ⟨rfl, rfl⟩
    have hax := b1 x10 (.cells #[.int .u8 120] 5 (1, 1 + 1))
    have HADx := Lib.hid (HAD10.out.below hax)
    have HRX := Lib.hid (constW_rd x10 5 [120] (by decide) (1, 1 + 1))
    have hgx : GoodB [120] := by unfold GoodB; decide
    have HGX := Lib.hid hgx
    clear hax hgx HAD10 HJ10
    go_wp2_with (first
      | (refine wpList_buildFlat rfl 22 5 1 _ rfl .u8 [120] Tryz.underlying22 (by kernel_rfl) (by kernel_rfl) rfl (by decide) (by decide) rfl ?_)
      | (refine wpList_conv_const rfl (.tmp 176) rfl (bs [120]).toArray 1 1 rfl ?_))
    refine (jadd_calm HADx.out HG10.out (by decide) (some ⟨x10.heap.size, 0, none⟩) 1 1 [120] rfl HGX.out HRX.out (by rw [bas_nil]; decide)).mono ?_
    rintro e x11 ⟨rfl, had11, -, -⟩
    rw [List.nil_append] at had11
    have HAD11 := Lib.hid had11
    clear had11 HADx HRX
    go_wp2_with fail
    refine (jlen_any HAD11.out.jo).mono ?_
    rintro e w' ⟨rfl, rfl⟩
    rw [show (([[120]] : List (List Nat)).length : Int) = 1 from rfl]
    go_wp2_with fail
    refine (forged_any _).mono ?_
    rintro e x12 ⟨rfl, hb12⟩
    have HB12 := Lib.hid hb12
    clear hb12
    go_wp2_with fail
    refine (jawake_any _).mono ?_
    rintro e x13 ⟨rfl, hb13⟩
    have HB13 := Lib.hid (HB12.out.trans (hb13.mono HB12.out.size))
    clear hb13 HB12
    go_wp2_with fail
    go_ret
    obtain ⟨p11, q11, -⟩ := HAD11.out
    obtain ⟨_, _, _, _, _, _, hb0⟩ := q11
    exact ⟨rfl, HB8.out.trans ((hb0.trans (HB13.out.mono hb0.size)).mono HB8.out.size)⟩
end Go.Proofs.YtlhbijpmhokmnaaGreat
