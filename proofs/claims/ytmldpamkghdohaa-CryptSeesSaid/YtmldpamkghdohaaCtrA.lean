/-
  THE WALKS OF quillpresslaw06.key AND awake. Conditions: none.
-/
import Derived.Test.YtmldpamkghdohaaCtrM
namespace Go.Proofs.Ytmldpamkghdohaa
open Go.RowKit
set_option linter.unusedSimpArgs false
set_option linter.unusedVariables false

theorem range_more (k : Nat) : List.range (k + 1) = List.range k ++ [k] := List.range_succ
set_option maxRecDepth 100000 in
set_option maxHeartbeats 1000000 in
theorem key_any (w : World) : Calls Try.prog 10 #[] w fun e w' => ∃ v, e = .returned v ∧ Ow w' w.heap.size v (List.range 32) ∧ Below w.heap.size w w' := by
  go_enter Try.func10, Try.ntmps10
  go_wp2
  go_loopw [1, 2] (fun v i wr => ∃ k : Nat, k ≤ 32 ∧ i = .int .i64 k ∧ Ow wr w.heap.size v (List.range k) ∧ Below w.heap.size w wr) (fun _ i _ => 32 - (intOf i).toNat)
  case atStart => exact ⟨0, by omega, rfl, Ow.nil _ _, Below.refl _ _⟩
  case round =>
    obtain ⟨k, hk, rfl, ho, hb⟩ := hrel
    have HO := Lib.hid ho
    have HB := Lib.hid hb
    clear ho hb
    by_cases e0 : k < 32
    · go_wp2_with (at_builtin; refine append_new (.tmp 7) (.tmp 10) rfl rfl _ _ _ k rfl rfl HO.out (by omega) (by omega) (by simp; omega) HB.out.size ?_; intro v1 w1 ho1 hg1 ha1)
      have hb1 : Below w.heap.size w w1 := below_of_append HB.out HO.out hg1 HB.out.size (Nat.le_refl _)
      rw [← range_more] at ho1
      refine ⟨⟨k + 1, by omega, by go_num, ho1, hb1⟩, ?_⟩
      simp [intOf]
      omega
    · obtain rfl : k = 32 := by omega
      go_wp2
      go_ret
      exact ⟨_, rfl, HO.out, HB.out⟩

theorem mk_rd (w : World) (n : Nat) : Rd (w.alloc (.cells (madeCells #[.int .u8 0] n) 5)) (some ⟨w.heap.size, 0, none⟩) (List.replicate n 0) := by
  refine ⟨fun x hx => by rw [(List.mem_replicate.1 hx).2]; omega, fun _ => ⟨_, 0, rfl, by simp, fun i hi => ?_⟩⟩
  rw [List.length_replicate] at hi
  rw [Nat.zero_add, cell_of_row _ _ _ _ _ _ (heap_alloc_new w _)]
  simp [madeCells, hi, nth, Nat.mod_one]
theorem run_mkn (w : World) (n : Nat) (hn : n ≤ 4194304) : (Instr.makeSlice 26 (.int .i64 n) (.int .i64 n)).run Try.prog w = .ok (.slice (some ⟨w.heap.size, 0, none⟩) n n) (w.alloc (.cells (madeCells #[.int .u8 0] n) 5)) := by
  obtain ⟨i, hi, hz, hs, hb⟩ := info_parts info_u8
  have h := run_make (P := Try.prog) w 26 5 i (.int .u8 0) Try.underlying26 hi hz .i64 .i64 n n (by omega) (Int.le_refl _) (by rw [hb]; omega) (by omega)
  rw [hs, Nat.mul_one] at h
  exact h
theorem bs_rep (n : Nat) : bs (List.replicate n 0) = List.replicate n (Value.int .u8 0) := by
  simp [bs]
  exact .inr rfl
theorem mk_ow (w : World) (base n : Nat) (hb : base ≤ w.heap.size) (hn : n ≤ 4194304) : Ow (w.alloc (.cells (madeCells #[.int .u8 0] n) 5)) base (.slice (some ⟨w.heap.size, 0, none⟩) n n) (List.replicate n 0) := by
  refine ⟨fun x hx => by rw [(List.mem_replicate.1 hx).2]; omega, ?_⟩
  rw [List.length_replicate, bs_rep]
  have h := World.ownsRow_lit (base := base) (e := 5) (size := 1) w (madeCells #[.int .u8 0] n) n hb (by unfold maxLen; omega) (by rw [size_madeCells, Nat.mul_one])
  have e : (madeCells #[.int .u8 0] n).toList = List.replicate n (Value.int .u8 0) := by
    apply List.ext_getElem
    · simp [madeCells]
    · intro i h1 h2
      simp [madeCells, Nat.mod_one]
  rwa [e] at h

theorem encrypt_rd (g : Nat) (A : Option Addr) (n cap : Nat) (kb : Nat → Nat) (l : List Nat) (w : World) (hn : n = 16) (hl : l.length = 16) (hc : Cph w g kb) (hkb : ∀ i, i < 240 → kb i < 256) (hr : Rd w A l) :
    Calls Try.prog 12 #[.pointer (some ⟨g, 0, none⟩), .slice A n cap] w fun e w' => ∃ g', e = .returned (.tuple #[.slice (some ⟨g', 0, none⟩) 16 16, .int .i64 0]) ∧ w.heap.size ≤ g' ∧
      Rd w' (some ⟨g', 0, none⟩) ((List.range 16).map (encN kb (nth l) 14)) ∧ Below w.heap.size w w' := by
  subst hn
  obtain ⟨gi, oi, rfl, -, hcell⟩ := hr.2 (by rintro rfl; simp at hl)
  rw [hl] at hcell
  refine (encrypt_any g gi oi cap kb (nth l) w hc hkb (fun i _ => nth_lt hr.1 i) hcell).mono ?_
  rintro e w2 ⟨rfl, hr2, hb2⟩
  exact ⟨_, rfl, Nat.le_refl _, row_rd hr2 (fun i hi => encN_lt hkb (fun i _ => nth_lt hr.1 i) 14 (by omega) i hi), hb2⟩
def z15 : List Nat := List.replicate 15 0
set_option maxRecDepth 100000 in
set_option maxHeartbeats 4000000 in
theorem awake_any (w : World) : Calls Try.prog 16 #[] w fun e w' => e = .returned (.bool true) ∧ Below w.heap.size w w' := by
  have hm16 : ∀ W : World, (Instr.makeSlice 26 (.int .i64 16) (.int .i64 16)).run Try.prog W = .ok (.slice (some ⟨W.heap.size, 0, none⟩) 16 16) (W.alloc (.cells (madeCells #[.int .u8 0] 16) 5)) := fun W => run_mkn W 16 (by omega)
  have hm15 : ∀ W : World, (Instr.makeSlice 26 (.int .i64 15) (.int .i64 15)).run Try.prog W = .ok (.slice (some ⟨W.heap.size, 0, none⟩) 15 15) (W.alloc (.cells (madeCells #[.int .u8 0] 15) 5)) := fun W => run_mkn W 15 (by omega)
  have hm8 : ∀ W : World, (Instr.makeSlice 26 (.int .i64 8) (.int .i64 8)).run Try.prog W = .ok (.slice (some ⟨W.heap.size, 0, none⟩) 8 8) (W.alloc (.cells (madeCells #[.int .u8 0] 8) 5)) := fun W => run_mkn W 8 (by omega)
  go_enter Try.func16, Try.ntmps16
  go_wp2_with fail
  refine (key_any _).mono ?_
  rintro e w1 ⟨v1, rfl, ho1, hb1⟩
  obtain ⟨A1, c1, rfl, hc1, -, hr1⟩ := ho1.form
  have HB1 := Lib.hid hb1
  have HR1 := Lib.hid hr1
  clear ho1 hb1 hr1
  go_wp2_with fail
  refine (new_any A1 c1 (List.range 32) w1 (List.length_range) HR1.out).mono ?_
  rintro e w2 ⟨rfl, hc2, hb2⟩
  have hkb : ∀ i, i < 240 → nth (ks (List.range 32)) i < 256 := fun i _ => nth_lt (ks_lt HR1.out.1) i
  have HC2 := Lib.hid hc2
  have HB2 : Hid (Below w.heap.size w w2) := HB1.out.trans (hb2.mono HB1.out.size)
  have HK := Lib.hid hkb
  clear hc2 hb2 HB1 HR1 hkb
  generalize nth (ks (List.range 32)) = kb at *
  go_wp2_with fail
  have hb3 : Below w.heap.size w (w2.alloc (.cells (madeCells #[.int .u8 0] 16) 5)) := HB2.out.alloc HB2.out.size _
  have hc3 : Cph (w2.alloc (.cells (madeCells #[.int .u8 0] 16) 5)) w1.heap.size kb := HC2.out.below ((Below.refl _ _).alloc (Nat.le_refl _) _) HC2.out.lt
  have hr3 := mk_rd w2 16
  generalize w2.alloc (.cells (madeCells #[.int .u8 0] 16) 5) = w3 at *
  have HB3 := Lib.hid hb3
  have HC3 := Lib.hid hc3
  have HR3 := Lib.hid hr3
  clear hb3 hc3 hr3 HB2 HC2
  refine (encrypt_rd w1.heap.size _ 16 16 kb (List.replicate 16 0) w3 rfl (by simp) HC3.out HK.out HR3.out).mono ?_
  rintro e w4 ⟨g4, rfl, hg4, hr4, hb4⟩
  have HR4 := Lib.hid hr4
  have HC4 := Lib.hid (HC3.out.below hb4 HC3.out.lt)
  have HB4 := Lib.hid (HB3.out.trans (hb4.mono HB3.out.size))
  clear hg4 hr4 hb4 HR3 HC3 HB3
  go_wp2_with (at_builtin; refine append_new (.tmp 24) (.tmp 25) rfl rfl _ 1 _ 1 rfl (by rw [World.size_alloc]; rfl) (mk_ow w4 w4.heap.size 15 (Nat.le_refl _) (by omega)) rfl (by omega) (by simp) (by rw [World.size_alloc]; omega) ?_; intro v5 w5 ho5 hg5 ha5)
  have hb45 : Below w4.heap.size w4 w5 := below_of_append ((Below.refl _ _).alloc (Nat.le_refl _) _) (mk_ow w4 w4.heap.size 15 (Nat.le_refl _) (by omega)) hg5 (by rw [World.size_alloc]; omega) (Nat.le_refl _)
  obtain ⟨A5, c5, rfl, -, -, hr5⟩ := ho5.form
  have HB5 := Lib.hid (HB4.out.trans (hb45.mono HB4.out.size))
  have HC5 := Lib.hid (HC4.out.below hb45 HC4.out.lt)
  have HR45 := Lib.hid (HR4.out.below hb45)
  have HR5 := Lib.hid hr5
  clear hb45 ho5 hg5 ha5 hr5 HR4 HC4 HB4
  go_wp2_with fail
  refine (encrypt_rd w1.heap.size A5 _ c5 kb (List.replicate 15 0 ++ [1]) w5 (by simp) (by simp) HC5.out HK.out HR5.out).mono ?_
  rintro e w6 ⟨g6, rfl, hg6, hr6, hb6⟩
  have HR6 := Lib.hid hr6
  have HC6 := Lib.hid (HC5.out.below hb6 HC5.out.lt)
  have HB6 := Lib.hid (HB5.out.trans (hb6.mono HB5.out.size))
  have HR46 := Lib.hid (HR45.out.below hb6)
  clear hg6 hr6 hb6 HR5 HR45 HC5 HB5
  go_wp2_with fail
  have hb7 : Below w6.heap.size w6 (w6.alloc (.cells (madeCells #[.int .u8 0] 8) 5)) := (Below.refl _ _).alloc (Nat.le_refl _) _
  have hr7 := mk_rd w6 8
  generalize w6.alloc (.cells (madeCells #[.int .u8 0] 8) 5) = w7 at *
  refine (stream_any w1.heap.size _ 8 kb (List.replicate 8 0) 15 2 w7 (by omega) (by omega) (HC6.out.below hb7 HC6.out.lt) HK.out (by simp) hr7).mono ?_
  rintro e w8 ⟨v8, rfl, ho8, hb8⟩
  have hb68 : Below w6.heap.size w6 w8 := hb7.trans (hb8.mono hb7.size)
  obtain ⟨gs, cs, rfl, -, -, -, hcs, -⟩ := ho8.form0 (by intro e; have := congrArg List.length e; rw [strm_length] at this; simp at this)
  rw [strm_length] at hcs ⊢
  obtain ⟨_, _, e4, -, hcell4⟩ := (HR46.out.below hb68).2 (by simp)
  injection e4 with e4
  injection e4 with e4 e4'
  subst e4; subst e4'
  obtain ⟨_, _, e6, -, hcell6⟩ := (HR6.out.below hb68).2 (by simp)
  injection e6 with e6
  injection e6 with e6 e6'
  subst e6; subst e6'
  have hx0 : List.replicate 8 0 ++ beN 0 8 = List.replicate 16 0 := by decide
  have hx1 : List.replicate 8 0 ++ beN 1 8 = List.replicate 15 0 ++ [1] := by decide
  have k1 := hcs 0 (by omega)
  have k2 := hcell4 15 (by simp)
  have k3 := hcs 1 (by omega)
  have k4 := hcell6 0 (by simp)
  rw [nth_strm (by omega)] at k1 k3
  have n1 : nth (ctrB kb (List.replicate 8 0) ((15 + 0) / 16)) ((15 + 0) % 16) = encN kb (nth (List.replicate 16 0)) 14 15 := by
    rw [show (15 + 0) / 16 = 0 by omega, show (15 + 0) % 16 = 15 by omega]
    unfold ctrB
    rw [hx0]
    exact nth_map16 _ (by omega)
  have n2 : nth (ctrB kb (List.replicate 8 0) ((15 + 1) / 16)) ((15 + 1) % 16) = encN kb (nth (List.replicate 15 0 ++ [1])) 14 0 := by
    rw [show (15 + 1) / 16 = 1 by omega, show (15 + 1) % 16 = 0 by omega]
    unfold ctrB
    rw [hx1]
    exact nth_map16 _ (by omega)
  have n3 : nth ((List.range 16).map (encN kb (nth (List.replicate 16 0)) 14)) 15 = encN kb (nth (List.replicate 16 0)) 14 15 := nth_map16 _ (by omega)
  have n4 : nth ((List.range 16).map (encN kb (nth (List.replicate 15 0 ++ [1])) 14)) 0 = encN kb (nth (List.replicate 15 0 ++ [1])) 14 0 := nth_map16 _ (by omega)
  rw [n1] at k1
  rw [n2] at k3
  rw [n3] at k2
  rw [n4] at k4
  rw [Nat.zero_add] at k2 k4
  generalize encN kb (nth (List.replicate 16 0)) 14 15 = x at *
  generalize encN kb (nth (List.replicate 15 0 ++ [1])) 14 0 = y at *
  have HB8 := Lib.hid (HB6.out.trans (hb68.mono HB6.out.size))
  clear n1 n2 n3 n4 hx0 hx1 hcs hcell4 hcell6 hb7 hr7 ho8 hb8 hb68 HR6 HR46 HC6 HB6 HK
  go_wp2_with fail
  go_quiet (fail)
  go_wp2_with fail
  go_ret
  exact ⟨rfl, below_drewN' HB8.out nq⟩
end Go.Proofs.Ytmldpamkghdohaa
