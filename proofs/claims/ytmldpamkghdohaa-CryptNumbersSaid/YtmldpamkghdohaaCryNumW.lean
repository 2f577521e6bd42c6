/-
  THE WALK OF quillpresslaw08.CryptNumbers. Conditions: none.
-/
import Derived.Test.YtmldpamkghdohaaCryNumA
namespace Go.Proofs.Ytmldpamkghdohaa
open Go.RowKit
set_option linter.unusedSimpArgs false
set_option linter.unusedVariables false

theorem ctrT_one {kb : Nat → Nat} {nc : List Nat} (hn : nc.length = 8) : ctrT kb nc ((32 : Nat) : Int) ((ctrT kb nc ((32 : Nat) : Int) [97, 98, 99]).take 1) = [97] := by
  have hok : CtrOk nc.length ((32 : Nat) : Int) ([97, 98, 99] : List Nat).length := by
    rw [hn]
    refine ⟨rfl, ?_, ?_, ?_, ?_⟩ <;> simp
  have h1 : CtrOk nc.length ((32 : Nat) : Int) ([97] : List Nat).length := by
    rw [hn]
    refine ⟨rfl, ?_, ?_, ?_, ?_⟩ <;> simp
  have e : (ctrT kb nc ((32 : Nat) : Int) [97, 98, 99]).take 1 = ctrT kb nc ((32 : Nat) : Int) [97] := by
    unfold ctrT
    rw [if_pos hok, if_pos h1]
    refine eq_of_nth (by rw [List.length_take, turned_length, turned_length]; rfl) fun i hi => ?_
    rw [List.length_take, turned_length] at hi
    have hi0 : i = 0 := by simp at hi; omega
    subst hi0
    rw [nth_turned (by simp)]
    have : nth ((turned kb nc (((32 : Nat) : Int)).toNat [97, 98, 99]).take 1) 0 = nth (turned kb nc (((32 : Nat) : Int)).toNat [97, 98, 99]) 0 := by
      simp [nth, List.getElem?_take]
    rw [this, nth_turned (by simp)]
    simp [nth, strm]
  rw [e]
  exact ctrT_twice h1
theorem cre_small {w w' : World} {e : Ending} {g : Nat} {nb ob : Option Nat} (h : CreP w w' e g nb ob (mkD 31 []) [112] z32) : e = .returned (.tuple #[.pointer none, .int .i64 5]) ∧ w.grownBy w' (some g) := by
  have e1 : ((mkD 31 []).append z32).1 = 5 := by kernel_rfl
  rcases h with ⟨_, h1, h2⟩ | ⟨h, _⟩ | ⟨h, _⟩
  · rw [e1] at h1
    obtain ⟨_, _, _, _, _, h3⟩ := h2
    exact ⟨h1, h3⟩
  · rw [e1] at h; exact absurd h (by decide)
  · rw [e1] at h; exact absurd h (by decide)
theorem cre_fail {w w' : World} {e : Ending} {g : Nat} {nb ob : Option Nat} (h : CreP w w' e g nb ob { mkD 1000 [] with fails := 2, err := 10 } [112] z32) : e = .returned (.tuple #[.pointer none, .int .i64 10]) ∧ ∃ nb' ob', Dk w' g nb' ob' ⟨1000, z32, [], 0, false, -1, 0, 10⟩ ∧ w.grownBy w' (some g) := by
  have e1 : (DkS.append { mkD 1000 [] with fails := 2, err := 10 } z32).1 = 0 := by kernel_rfl
  have e2 : (DkS.append { mkD 1000 [] with fails := 2, err := 10 } z32).2.sync.1 = 10 := by kernel_rfl
  rcases h with ⟨h, _⟩ | ⟨_, _, h1, h2⟩ | ⟨_, h, _⟩
  · exact absurd e1 h
  · rw [e2] at h1
    obtain ⟨nb', ob', h3, _, _, h4⟩ := h2
    exact ⟨h1, nb', ob', h3, h4⟩
  · rw [e2] at h; exact absurd h (by decide)
theorem app_y (T : List Nat) (hT : T.length = 3) : DkS.append ⟨1000, z32, [], 0, false, -1, 0, 10⟩ T = (0, ⟨1000, z32 ++ T, [], 0, false, -1, 0, 10⟩) := by
  have h1 : ¬ (1000 < z32.length + T.length) := by rw [hT]; decide
  have h2 : DkS.append ⟨1000, z32, [], 0, false, -1, 0, 10⟩ T = (if 1000 < z32.length + T.length then (5, ⟨1000, z32, [], 0, false, -1, 0, 10⟩) else (0, ⟨1000, z32 ++ T, [], 0, false, -1, 0, 10⟩)) := rfl
  rw [h2, if_neg h1]
theorem cut_y (T : List Nat) : (DkS.op ⟨1000, z32 ++ T, [], 0, false, -1, 0, 10⟩ fun d => ((0 : Int), { d with now := d.now.take 33, floor := min d.floor 33 })) = (0, ⟨1000, z32 ++ T.take 1, [], 0, false, -1, 0, 10⟩) := by
  have h2 : (DkS.op ⟨1000, z32 ++ T, [], 0, false, -1, 0, 10⟩ fun d => ((0 : Int), { d with now := d.now.take 33, floor := min d.floor 33 })) = (0, ⟨1000, (z32 ++ T).take 33, [], 0, false, -1, 0, 10⟩) := rfl
  rw [h2, List.take_append, List.take_of_length_le (show z32.length ≤ 33 by decide)]
  rfl
theorem read_y (T : List Nat) (hT : T.length = 1) : readL ⟨1000, z32 ++ T, [], 0, false, -1, 0, 10⟩ 32 1 = T := by
  have h : readL ⟨1000, z32 ++ T, [], 0, false, -1, 0, 10⟩ 32 1 = ((z32 ++ T).drop 32).take 1 := rfl
  rw [h, List.drop_append_of_le_length (by decide), show z32.drop 32 = [] from by decide, List.nil_append, List.take_of_length_le (by omega)]
set_option maxRecDepth 100000 in
set_option maxHeartbeats 8000000 in
theorem cryNumbers_any (w : World) : Calls Try.prog 7 #[] w fun e w' => e = .returned (.bool true) ∧ Below w.heap.size w w' := by
  have kc := fun (w : World) (C : Array Value) (n c : Nat) => Lib.run_convert_bytes_const (P := Try.prog) w 26 5 C n c Try.underlying26 Try.underlying5
  have hm32 : ∀ W : World, (Instr.makeSlice 26 (.int .i64 32) (.int .i64 32)).run Try.prog W = .ok (.slice (some ⟨W.heap.size, 0, none⟩) 32 32) (W.alloc (.cells (madeCells #[.int .u8 0] 32) 5)) := fun W => run_mkn W 32 (by omega)
  have hm31 : ∀ W : World, (Instr.makeSlice 26 (.int .i64 31) (.int .i64 31)).run Try.prog W = .ok (.slice (some ⟨W.heap.size, 0, none⟩) 31 31) (W.alloc (.cells (madeCells #[.int .u8 0] 31) 5)) := fun W => run_mkn W 31 (by omega)
  go_enter Try.func7, Try.ntmps7
  go_wp2_with fail
  refine (new_any' 1000 w (by omega)).mono ?_
  rintro e w1 ⟨g, nb, ob, rfl, hd, hg, hnb, hob, hb⟩
  have D1 := Lib.hid hd
  have B1 := Lib.hid hb
  have G1 := Lib.hid (And.intro hg (And.intro hnb hob))
  clear hd hg hnb hob hb
  go_wp2_with fail
  have hax := (Below.refl w1.heap.size w1).alloc (Nat.le_refl _) (.cells (madeCells #[.int .u8 0] 32) 5)
  refine (create_arg (D1.out.below hax) rfl none (some ⟨w1.heap.size, 0, none⟩) 0 0 32 32 (.inl ⟨rfl, by decide⟩)).mono ?_
  rintro e w2 ⟨rfl, hb⟩
  have hb := hax.trans (hb.mono hax.size)
  have D2 := Lib.hid (D1.out.below hb)
  have B2 := Lib.hid (B1.out.trans (hb.mono B1.out.size))
  clear hb hax D1 B1
  go_wp2_with fail
  have ha1 := (Below.refl w2.heap.size w2).alloc (Nat.le_refl _) (.cells #[.int .u8 112] 5 (1, 1 + 1))
  have ha2 := (Below.refl (w2.alloc (.cells #[.int .u8 112] 5 (1, 1 + 1))).heap.size (w2.alloc (.cells #[.int .u8 112] 5 (1, 1 + 1)))).alloc (Nat.le_refl _) (.cells (madeCells #[.int .u8 0] 31) 5)
  have ha3 : Below w2.heap.size w2 _ := ha1.trans (ha2.mono (by simp))
  refine (create_arg (D2.out.below ha3) rfl (some ⟨w2.heap.size, 0, none⟩) (some ⟨w2.heap.size + 1, 0, none⟩) 1 1 31 31 (.inr ⟨by decide, by decide⟩)).mono ?_
  rintro e w3 ⟨rfl, hb⟩
  have hb := ha3.trans (hb.mono ha3.size)
  have D3 := Lib.hid (D2.out.below hb)
  have B3 := Lib.hid (B2.out.trans (hb.mono B2.out.size))
  clear hb ha1 ha2 ha3 D2 B2
  go_wp2_with fail
  have hax := (Below.refl w3.heap.size w3).alloc (Nat.le_refl _) (.cells #[.int .u8 112] 5 (1, 1 + 1))
  refine (open_short (D3.out.below hax) (by decide) (some ⟨w3.heap.size, 0, none⟩) 1 1 (by decide)).mono ?_
  rintro e w4 ⟨rfl, hb⟩
  have hb := hax.trans (hb.mono hax.size)
  have D4 := Lib.hid (D3.out.below hb)
  have B4 := Lib.hid (B3.out.trans (hb.mono B3.out.size))
  clear hb hax D3 B3
  go_wp2_with fail
  refine (create_nil _ _ w4).mono ?_
  rintro e w' ⟨rfl, rfl⟩
  go_wp2_with fail
  have cz : (w4.alloc (.cells #[.bool false, .int .i64 0, .slice none 0 0, .slice none 0 0, .int .i64 0, .bool false, .int .i64 0, .int .i64 0, .int .i64 0] 64)).cell? ⟨w4.heap.size, 0, none⟩ = some (.bool false) := by
    rw [cell_of_row _ _ _ _ _ _ (heap_alloc_new w4 _)]; rfl
  have hax := (Below.refl w4.heap.size w4).alloc (Nat.le_refl _) (.cells #[.bool false, .int .i64 0, .slice none 0 0, .slice none 0 0, .int .i64 0, .bool false, .int .i64 0, .int .i64 0, .int .i64 0] 64)
  refine (open_zero w4.heap.size _ _ cz).mono ?_
  rintro e w5 ⟨rfl, hb⟩
  have hb := hax.trans (hb.mono hax.size)
  have D5 := Lib.hid (D4.out.below hb)
  have B5 := Lib.hid (B4.out.trans (hb.mono B4.out.size))
  clear hb hax cz D4 B4
  go_wp2_with fail
  refine (new_any' 31 w5 (by omega)).mono ?_
  rintro e w6 ⟨g6, nb6, ob6, rfl, hd, hg, -, -, hb⟩
  have E6 := Lib.hid hd
  have B6 := Lib.hid hb
  have G6 := Lib.hid hg
  clear hd hg hb
  go_wp2_with fail
  have ha1 := (Below.refl w6.heap.size w6).alloc (Nat.le_refl _) (.cells #[.int .u8 112] 5 (1, 1 + 1))
  have hr1 := constW_rd w6 5 [112] (by decide) (1, 1 + 1)
  have ha2 := (Below.refl (w6.alloc (.cells #[.int .u8 112] 5 (1, 1 + 1))).heap.size (w6.alloc (.cells #[.int .u8 112] 5 (1, 1 + 1)))).alloc (Nat.le_refl _) (.cells (madeCells #[.int .u8 0] 32) 5)
  have hr2 := mk_rd (w6.alloc (.cells #[.int .u8 112] 5 (1, 1 + 1))) 32
  have hr1' := hr1.below ha2
  have ha3 : Below w6.heap.size w6 _ := ha1.trans (ha2.mono (by simp))
  rw [World.size_alloc] at hr2
  refine (create_any (E6.out.below ha3) rfl (some ⟨w6.heap.size, 0, none⟩) 1 1 [112] (some ⟨w6.heap.size + 1, 0, none⟩) 32 z32 rfl (by decide) (by decide) hr1' (by decide) (by decide) hr2).mono ?_
  intro e w7 hcr
  obtain ⟨rfl, hg7⟩ := cre_small hcr
  have hb7 : Below w5.heap.size w5 w7 := below_of_grown (B6.out.trans (ha3.mono B6.out.size)) hg7 (Nat.le_trans B6.out.size ha3.size) G6.out
  have D7 := Lib.hid (D5.out.below hb7)
  have B7 := Lib.hid (B5.out.trans (hb7.mono B5.out.size))
  clear hr1 hr2 hr1' ha1 ha2 ha3 hcr hg7 hb7 E6 B6 G6 D5 B5
  go_wp2_with fail
  refine (fail_any D7.out 2 10 rfl (by omega)).mono ?_
  rintro e w8 ⟨rfl, hd8, hg8⟩
  have D8 := Lib.hid hd8
  have B8 := Lib.hid (below_of_grown B7.out hg8 B7.out.size G1.out.1)
  clear hd8 hg8 D7 B7
  go_wp2_with fail
  have ha1 := (Below.refl w8.heap.size w8).alloc (Nat.le_refl _) (.cells #[.int .u8 112] 5 (1, 1 + 1))
  have hr1 := constW_rd w8 5 [112] (by decide) (1, 1 + 1)
  have ha2 := (Below.refl (w8.alloc (.cells #[.int .u8 112] 5 (1, 1 + 1))).heap.size (w8.alloc (.cells #[.int .u8 112] 5 (1, 1 + 1)))).alloc (Nat.le_refl _) (.cells (madeCells #[.int .u8 0] 32) 5)
  have hr2 := mk_rd (w8.alloc (.cells #[.int .u8 112] 5 (1, 1 + 1))) 32
  have hr1' := hr1.below ha2
  have ha3 : Below w8.heap.size w8 _ := ha1.trans (ha2.mono (by simp))
  rw [World.size_alloc] at hr2
  refine (create_any (D8.out.below ha3) rfl (some ⟨w8.heap.size, 0, none⟩) 1 1 [112] (some ⟨w8.heap.size + 1, 0, none⟩) 32 z32 rfl (by decide) (by decide) hr1' (by decide) (by decide) hr2).mono ?_
  intro e w9 hcr
  obtain ⟨rfl, nb9, ob9, hd9, hg9⟩ := cre_fail hcr
  have D9 := Lib.hid hd9
  have B9 := Lib.hid (below_of_grown (B8.out.trans (ha3.mono B8.out.size)) hg9 (Nat.le_trans B8.out.size ha3.size) G1.out.1)
  clear hr1 hr2 hr1' ha1 ha2 ha3 hcr hd9 hg9 D8 B8
  go_wp2_with fail
  refine (size_any D9.out).mono ?_
  rw [show ((⟨1000, z32, [], 0, false, -1, 0, 10⟩ : DkS).now.length) = 32 from rfl]
  rintro e w' ⟨rfl, rfl⟩
  go_wp2_with fail
  have hax := (Below.refl w9.heap.size w9).alloc (Nat.le_refl _) (.cells #[.int .u8 112] 5 (1, 1 + 1))
  refine (open_any (D9.out.below hax) (by decide) rfl (some ⟨w9.heap.size, 0, none⟩) 1 1 [112] rfl (by decide) (by decide) (constW_rd w9 5 [112] (by decide) _)).mono ?_
  rintro e w10 ⟨x, rfl, hf, -, hg⟩
  obtain ⟨kb, hkb⟩ : ∃ kb, kb = (encK [112] z32).1 := ⟨_, rfl⟩
  obtain ⟨nc, hnc⟩ : ∃ nc, nc = (encK [112] z32).2 := ⟨_, rfl⟩
  have hK : encK [112] z32 = (kb, nc) := by rw [hkb, hnc]
  have hnl : nc.length = 8 := by rw [hnc]; exact enc_nonce
  have htk : (⟨1000, z32, [], 0, false, -1, 0, 10⟩ : DkS).now.take 32 = z32 := by decide
  rw [htk, hK] at hf
  have F10 : Hid (Fl w10 x g nb9 ob9 ⟨1000, z32, [], 0, false, -1, 0, 10⟩ (some (kb, nc))) := hf
  have B10 := Lib.hid (below_of_grown (B9.out.trans (hax.mono B9.out.size)) hg (Nat.le_trans B9.out.size hax.size) G1.out.1)
  have hok : CtrOk nc.length ((32 : Nat) : Int) ([97, 98, 99] : List Nat).length := by
    rw [hnl]
    refine ⟨rfl, ?_, ?_, ?_, ?_⟩ <;> simp
  obtain ⟨T, hT⟩ : ∃ T, T = ctrT kb nc ((32 : Nat) : Int) [97, 98, 99] := ⟨_, rfl⟩
  have hTl : T.length = 3 := by rw [hT]; exact ctrT_ok_length hok
  have hTT : ctrT kb nc ((32 : Nat) : Int) (T.take 1) = [97] := by rw [hT]; exact ctrT_one hnl
  have hT1 : (T.take 1).length = 1 := by rw [List.length_take, hTl]; rfl
  have HT := Lib.hid hT
  have HTL := Lib.hid hTl
  have HTT := Lib.hid hTT
  have HT1 := Lib.hid hT1
  clear hf hg hkb hnc hK hnl htk hok hT hTl hTT hT1 hax D9 B9
  go_wp2_with fail
  refine (fread_no F10.out 0 1 (by omega) (.inr (.inr (.inl (by show ((32 - 32 : Nat) : Int) < 1; decide))))).mono ?_
  rintro e w11 ⟨rfl, hb⟩
  have F11 := Lib.hid (F10.out.below hb)
  have B11 := Lib.hid (B10.out.trans (hb.mono B10.out.size))
  clear hb F10 B10
  go_wp2_with fail
  have hax := (Below.refl w11.heap.size w11).alloc (Nat.le_refl _) (.cells #[.int .u8 97, .int .u8 98, .int .u8 99] 5 (3, 3 + 1))
  refine (fappend_any (F11.out.below hax) (some ⟨w11.heap.size, 0, none⟩) 3 3 [97, 98, 99] rfl (by decide) (constW_rd w11 5 [97, 98, 99] (by decide) _)).mono ?_
  rintro e w12 ⟨r, rfl, ⟨nb12, ob12, hd, -, -, hg⟩, hr⟩
  have hTe : turnK (some (kb, nc)) ((⟨1000, z32, [], 0, false, -1, 0, 10⟩ : DkS).now.length : Nat) [97, 98, 99] = T := HT.out.symm
  rw [hTe, app_y T HTL.out] at hr hd
  obtain rfl : r = 0 := hr
  have F12 : Hid (Fl w12 x g nb12 ob12 ⟨1000, z32 ++ T, [], 0, false, -1, 0, 10⟩ (some (kb, nc))) := (F11.out.below hax).after hd hg
  have B12 : Hid (Below w.heap.size w w12) := below_of_grown (B11.out.trans (hax.mono B11.out.size)) hg (Nat.le_trans B11.out.size hax.size) G1.out.1
  have hsz : ((⟨1000, z32 ++ T, [], 0, false, -1, 0, 10⟩ : DkS).now.length) = 35 := by show (z32 ++ T).length = 35; rw [List.length_append, HTL.out]; rfl
  have HSZ := Lib.hid hsz
  clear hax hd hg hTe F11 B11 hsz
  go_wp2_with fail
  refine (ftrunc_no F12.out 4 (.inr (by rw [HSZ.out]; show ((35 - 32 : Nat) : Int) < 4; decide))).mono ?_
  rintro e w13 ⟨rfl, hb⟩
  have F13 := Lib.hid (F12.out.below hb)
  have B13 := Lib.hid (B12.out.trans (hb.mono B12.out.size))
  clear hb F12 B12
  go_wp2_with fail
  refine (ftrunc_any F13.out 1 (by rw [HSZ.out]; show 32 + 1 ≤ 35; decide)).mono ?_
  rintro e w14 ⟨r, rfl, ⟨nb14, ob14, hd, -, -, hg⟩, hr⟩
  rw [show fromK (some (kb, nc)) + 1 = 33 from rfl, cut_y T] at hd hr
  obtain rfl : r = 0 := hr
  obtain ⟨S, hS⟩ : ∃ S, S = T.take 1 := ⟨_, rfl⟩
  have HS1 : Hid (S.length = 1) := by rw [hS]; exact HT1.out
  have HSS : Hid (ctrT kb nc ((32 : Nat) : Int) S = [97]) := by rw [hS]; exact HTT.out
  rw [← hS] at hd
  have F14 : Hid (Fl w14 x g nb14 ob14 ⟨1000, z32 ++ S, [], 0, false, -1, 0, 10⟩ (some (kb, nc))) := F13.out.after hd hg
  have B14 : Hid (Below w.heap.size w w14) := below_of_grown B13.out hg B13.out.size G1.out.1
  have hsz : ((⟨1000, z32 ++ S, [], 0, false, -1, 0, 10⟩ : DkS).now.length) = 33 := by show (z32 ++ S).length = 33; rw [List.length_append, HS1.out]; rfl
  have HSY := Lib.hid hsz
  clear hd hg hsz hS F13 B13 HSZ HT HTL HTT HT1
  go_wp2_with fail
  refine (fsize_any F14.out).mono ?_
  rw [HSY.out, show 33 - fromK (some (kb, nc)) = 1 from rfl]
  rintro e w15 ⟨rfl, hb⟩
  have F15 := Lib.hid (F14.out.below hb)
  have B15 := Lib.hid (B14.out.trans (hb.mono B14.out.size))
  clear hb F14 B14
  go_wp2_with fail
  refine (size_any F15.out.dk).mono ?_
  rw [HSY.out]
  rintro e w' ⟨rfl, rfl⟩
  go_wp2_with fail
  have hax := (Below.refl w15.heap.size w15).alloc (Nat.le_refl _) (.cells #[.int .u8 113] 5 (1, 1 + 1))
  refine (open_any (F15.out.below hax).dk (by rw [HSY.out]; decide) rfl (some ⟨w15.heap.size, 0, none⟩) 1 1 [113] rfl (by decide) (by decide) (constW_rd w15 5 [113] (by decide) _)).mono ?_
  rintro e w16 ⟨y, rfl, hf, -, hg⟩
  have htk : (⟨1000, z32 ++ S, [], 0, false, -1, 0, 10⟩ : DkS).now.take 32 = z32 := by show (z32 ++ S).take 32 = z32; rw [List.take_append_of_le_length (by decide)]; decide
  obtain ⟨kb2, hkb⟩ : ∃ kb2, kb2 = (encK [113] z32).1 := ⟨_, rfl⟩
  obtain ⟨nc2, hnc⟩ : ∃ nc2, nc2 = (encK [113] z32).2 := ⟨_, rfl⟩
  have hK : encK [113] z32 = (kb2, nc2) := by rw [hkb, hnc]
  have HNL : Hid (nc2.length = 8) := by rw [hnc]; exact (rfl : (encK [113] z32).2.length = 8)
  rw [htk, hK] at hf
  have Y16 : Hid (Fl w16 y g nb14 ob14 ⟨1000, z32 ++ S, [], 0, false, -1, 0, 10⟩ (some (kb2, nc2))) := hf
  have F16 : Hid (Fl w16 x g nb14 ob14 ⟨1000, z32 ++ S, [], 0, false, -1, 0, 10⟩ (some (kb, nc))) := (F15.out.below hax).after hf.dk hg
  have B16 := Lib.hid (below_of_grown (B15.out.trans (hax.mono B15.out.size)) hg (Nat.le_trans B15.out.size hax.size) G1.out.1)
  clear hf hg hkb hnc hK htk hax F15 B15
  go_wp2_with fail
  refine (fread_any F16.out 0 1 (by rw [HSY.out]; show 32 + 0 + 1 ≤ 33; decide)).mono ?_
  rintro e w17 ⟨A17, c17, L, rfl, hr, hL, -, hd, hg⟩
  have hd : Dk w17 g nb14 ob14 ⟨1000, z32 ++ S, [], 0, false, -1, 0, 10⟩ := hd
  have hL := hL rfl
  rw [show turnK (some (kb, nc)) ((fromK (some (kb, nc)) + 0 : Nat) : Int) (readL ⟨1000, z32 ++ S, [], 0, false, -1, 0, 10⟩ (fromK (some (kb, nc)) + 0) 1) = ctrT kb nc ((32 : Nat) : Int) (readL ⟨1000, z32 ++ S, [], 0, false, -1, 0, 10⟩ 32 1) from rfl, read_y S HS1.out, HSS.out] at hL
  subst hL
  have R17 := Lib.hid hr
  have F17 := Lib.hid (F16.out.after hd hg)
  have Y17 := Lib.hid (Y16.out.after hd hg)
  have B17 := Lib.hid (below_of_grown B16.out hg B16.out.size G1.out.1)
  clear hr hd hg F16 Y16 B16
  go_wp2_with fail
  refine (fread_any Y17.out 0 1 (by show 32 + 0 + 1 ≤ (z32 ++ S).length; rw [List.length_append, HS1.out]; decide)).mono ?_
  rintro e w18 ⟨A18, c18, L, rfl, -, hL, -, hd, hg⟩
  have hd : Dk w18 g nb14 ob14 ⟨1000, z32 ++ S, [], 0, false, -1, 0, 10⟩ := hd
  have hL := hL rfl
  have hlen : L.length = 1 := by
    rw [hL, show turnK (some (kb2, nc2)) ((fromK (some (kb2, nc2)) + 0 : Nat) : Int) (readL ⟨1000, z32 ++ S, [], 0, false, -1, 0, 10⟩ (fromK (some (kb2, nc2)) + 0) 1) = ctrT kb2 nc2 ((32 : Nat) : Int) (readL ⟨1000, z32 ++ S, [], 0, false, -1, 0, 10⟩ 32 1) from rfl, read_y S HS1.out, ctrT_ok_length (by rw [HNL.out, HS1.out]; refine ⟨rfl, ?_, ?_, ?_, ?_⟩ <;> simp), HS1.out]
  rw [hlen]
  have R18 := Lib.hid (Y17.out.dk.rd R17.out hg)
  have F18 := Lib.hid (F17.out.after hd hg)
  have B18 := Lib.hid (below_of_grown B17.out hg B17.out.size G1.out.1)
  clear hd hg hL hlen F17 Y17 B17 R17 HNL HSS
  go_wp2_with fail
  refine (trunc_any F18.out.dk 5 (by rw [HSY.out]; decide)).mono ?_
  rintro e w19 ⟨r, rfl, ⟨nb19, ob19, hd, -, -, hg⟩, hr⟩
  obtain rfl : r = 0 := hr
  obtain ⟨d19, hd19⟩ : ∃ d19, d19 = (DkS.op ⟨1000, z32 ++ S, [], 0, false, -1, 0, 10⟩ fun d => ((0 : Int), { d with now := d.now.take 5, floor := min d.floor 5 })).2 := ⟨_, rfl⟩
  have hl : d19.now.length = 5 := by
    rw [hd19]
    show ((z32 ++ S).take 5).length = 5
    rw [List.length_take, List.length_append, HS1.out]; rfl
  have HL19 := Lib.hid hl
  rw [← hd19] at hd
  have F19 := Lib.hid (F18.out.after hd hg)
  have B19 := Lib.hid (below_of_grown B18.out hg B18.out.size G1.out.1)
  have hr19 := F18.out.dk.rd R18.out hg
  obtain ⟨gs, os, rfl, -, hc⟩ := hr19.2 (by simp)
  have x0 : w19.cell? ⟨gs, os + 0, none⟩ = some (.int .u8 97) := hc 0 (by decide)
  have x1 : w19.cell? ⟨gs, os, none⟩ = some (.int .u8 97) := x0
  clear hd hg hd19 hl hr19 hc F18 B18 R18 HSY HS1
  go_wp2_with fail
  refine (fsize_any F19.out).mono ?_
  rw [HL19.out, show 5 - fromK (some (kb, nc)) = 0 from rfl]
  rintro e w20 ⟨rfl, hb⟩
  have F20 := Lib.hid (F19.out.below hb)
  have B20 := Lib.hid (B19.out.trans (hb.mono B19.out.size))
  clear hb F19 B19 x0 x1
  go_wp2_with fail
  refine (ftrunc_far F20.out (by rw [HL19.out]; show 5 < 32; decide)).mono ?_
  rintro e w21 ⟨r, rfl, rfl, hb⟩
  have B21 := Lib.hid (B20.out.trans (hb.mono B20.out.size))
  clear hb F20 B20
  go_wp2_with fail
  refine (cryAwake_any w21).mono ?_
  rintro e w22 ⟨rfl, hb⟩
  have B22 := Lib.hid (B21.out.trans (hb.mono B21.out.size))
  clear hb B21
  go_wp2_with fail
  first
    | go_ret
    | go_ret2
  exact ⟨rfl, B22.out⟩
end Go.Proofs.Ytmldpamkghdohaa
