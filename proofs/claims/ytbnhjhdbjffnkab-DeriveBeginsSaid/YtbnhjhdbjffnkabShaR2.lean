/-
  THE WALK OF quillpressref03.Of: the plain hash. Conditions: the bytes read.
-/
import Derived.Test.YtbnhjhdbjffnkabShaR1
import Derived.Test.YtbnhjhdbjffnkabWords2
import Derived.BigQuiet
namespace Go.Proofs.Ytbnhjhdbjffnkab
open Go.RowKit
set_option linter.unusedSimpArgs false
set_option linter.unusedVariables false

/-- A state as a slice of eight words. -/
def Hs (w : World) (g : Nat) (s : St) : Prop := s.Wf ∧ g < w.heap.size ∧ w.cell? ⟨g, 0, none⟩ = some (.int .u32 s.a) ∧ w.cell? ⟨g, 1, none⟩ = some (.int .u32 s.b) ∧ w.cell? ⟨g, 2, none⟩ = some (.int .u32 s.c) ∧ w.cell? ⟨g, 3, none⟩ = some (.int .u32 s.d) ∧
  w.cell? ⟨g, 4, none⟩ = some (.int .u32 s.e) ∧ w.cell? ⟨g, 5, none⟩ = some (.int .u32 s.f) ∧ w.cell? ⟨g, 6, none⟩ = some (.int .u32 s.g) ∧ w.cell? ⟨g, 7, none⟩ = some (.int .u32 s.h)
theorem Hs.below {w w' : World} {g : Nat} {s : St} (h : Hs w g s) (hb : Below w.heap.size w w') : Hs w' g s := by
  obtain ⟨hw, hl, h0, h1, h2, h3, h4, h5, h6, h7⟩ := h
  exact ⟨hw, Nat.lt_of_lt_of_le hl hb.size, (hb.cell (p := ⟨g, 0, none⟩) hl).trans h0, (hb.cell (p := ⟨g, 1, none⟩) hl).trans h1, (hb.cell (p := ⟨g, 2, none⟩) hl).trans h2, (hb.cell (p := ⟨g, 3, none⟩) hl).trans h3, (hb.cell (p := ⟨g, 4, none⟩) hl).trans h4, (hb.cell (p := ⟨g, 5, none⟩) hl).trans h5, (hb.cell (p := ⟨g, 6, none⟩) hl).trans h6, (hb.cell (p := ⟨g, 7, none⟩) hl).trans h7⟩
theorem Hs.cell {w : World} {g : Nat} {s : St} (h : Hs w g s) {i : Nat} (hi : i < 8) : w.cell? ⟨g, i, none⟩ = some (.int .u32 (s.word i : Nat)) := by
  obtain ⟨hw, hl, h0, h1, h2, h3, h4, h5, h6, h7⟩ := h
  match i, hi with
  | 0, _ => exact h0
  | 1, _ => exact h1
  | 2, _ => exact h2
  | 3, _ => exact h3
  | 4, _ => exact h4
  | 5, _ => exact h5
  | 6, _ => exact h6
  | 7, _ => exact h7
theorem Hs.of_block {w w' : World} {g : Nat} {s : St} (h : Hs w g s) (hk : w'.heap[g]? = w.heap[g]?) (hz : w.heap.size ≤ w'.heap.size) : Hs w' g s := by
  obtain ⟨hw, hl, h0, h1, h2, h3, h4, h5, h6, h7⟩ := h
  have hc : ∀ i, w'.cell? ⟨g, i, none⟩ = w.cell? ⟨g, i, none⟩ := fun i => World.cell?_of_block hk
  exact ⟨hw, Nat.lt_of_lt_of_le hl hz, (hc 0).trans h0, (hc 1).trans h1, (hc 2).trans h2, (hc 3).trans h3, (hc 4).trans h4, (hc 5).trans h5, (hc 6).trans h6, (hc 7).trans h7⟩
theorem hs_new (w : World) (s : St) (hs : s.Wf) : Hs (w.alloc (.cells #[.int .u32 s.a, .int .u32 s.b, .int .u32 s.c, .int .u32 s.d, .int .u32 s.e, .int .u32 s.f, .int .u32 s.g, .int .u32 s.h] 44)) w.heap.size s := by
  refine ⟨hs, by simp, ?_, ?_, ?_, ?_, ?_, ?_, ?_, ?_⟩ <;> (rw [cell_of_row _ _ _ _ _ _ (heap_alloc_new w _)]; rfl)
theorem be4_part (p : List Nat) (i t : Nat) (h : 4 * t + 4 ≤ 64) : be4 p (64 * i + 4 * t) = be4 ((p.drop (64 * i)).take 64) (4 * t) := by
  have key : ∀ j, j < 64 → nth ((p.drop (64 * i)).take 64) j = nth p (64 * i + j) := by
    intro j hj
    simp [nth, List.getElem?_take, hj, List.getElem?_drop]
  unfold be4
  rw [key _ (by omega), key _ (by omega), key _ (by omega), key _ (by omega)]
  rfl
theorem right_still (x c : Nat) (hx : x < 4294967296) (hc : 1 ≤ c ∧ c ≤ 31) (w : World) : Calls Try.prog 35 #[.int .u32 x, .int .u64 c] w fun e w' => e = .returned (.int .u32 (rr x c)) ∧ w' = w :=
  (right_any x c hx hc w).mono fun _ _ ⟨h, k⟩ => ⟨h, k.symm⟩
set_option maxRecDepth 100000 in
set_option maxHeartbeats 4000000 in
theorem refOf_any (A : Option Addr) (c : Nat) (m : List Nat) (w : World) (hm : m.length ≤ 17592186044416) (hr : Rd w A m) :
    Calls Try.prog 16 #[.slice A m.length c] w fun e w' => e = .returned (bytesV (sha m)) ∧ Below w.heap.size w w' := by
  have HR := Lib.hid hr
  clear hr
  go_enter Try.func16, Try.ntmps16
  go_wp2_with fail
  obtain ⟨hb0, hr0⟩ := one_out w
  generalize w.alloc (.cells #[.int .u8 0, .int .u8 0, .int .u8 0, .int .u8 0, .int .u8 0, .int .u8 0, .int .u8 0, .int .u8 0, .int .u8 0, .int .u8 0, .int .u8 0, .int .u8 0, .int .u8 0, .int .u8 0, .int .u8 0, .int .u8 0, .int .u8 0, .int .u8 0, .int .u8 0, .int .u8 0, .int .u8 0, .int .u8 0, .int .u8 0, .int .u8 0, .int .u8 0, .int .u8 0, .int .u8 0, .int .u8 0, .int .u8 0, .int .u8 0, .int .u8 0, .int .u8 0] 30) = W at *
  have HB0 := Lib.hid hb0
  have HR0 := Lib.hid hr0
  have HRW := Lib.hid (HR.out.below hb0)
  clear hb0 hr0 HR
  refine (padded_any A c m W HRW.out (by omega)).mono ?_
  rintro e w1 ⟨vp, rfl, hop, hb1⟩
  obtain ⟨AP, cp, rfl, -, -, hrp⟩ := hop.form
  obtain ⟨P, hP⟩ : ∃ P, P = padded m := ⟨_, rfl⟩
  have hPl : P.length ≤ m.length + 200 := by
    rw [hP]
    unfold padded padZ
    simp [be8_length]
    omega
  have hP64 : P.length % 64 = 0 := by rw [hP]; exact padded_length m
  rw [← hP] at hrp ⊢
  have HP64 := Lib.hid hP64
  clear hP64
  have HRP := Lib.hid hrp
  have HB1 := Lib.hid hb1
  have HP := Lib.hid hP
  clear hop hrp hb1 hP
  go_upto_region 3 with fail
  have hh := hs_new w1 h0 h0_wf
  have hbh : Below W.heap.size W (w1.alloc (.cells #[.int .u32 h0.a, .int .u32 h0.b, .int .u32 h0.c, .int .u32 h0.d, .int .u32 h0.e, .int .u32 h0.f, .int .u32 h0.g, .int .u32 h0.h] 44)) := HB1.out.alloc HB1.out.size _
  have hrh := HRP.out.alloc (.cells #[.int .u32 h0.a, .int .u32 h0.b, .int .u32 h0.c, .int .u32 h0.d, .int .u32 h0.e, .int .u32 h0.f, .int .u32 h0.g, .int .u32 h0.h] 44)
  change Code.wp _ _ _ _ (w1.alloc (.cells #[.int .u32 h0.a, .int .u32 h0.b, .int .u32 h0.c, .int .u32 h0.d, .int .u32 h0.e, .int .u32 h0.f, .int .u32 h0.g, .int .u32 h0.h] 44))
  generalize w1.alloc (.cells #[.int .u32 h0.a, .int .u32 h0.b, .int .u32 h0.c, .int .u32 h0.d, .int .u32 h0.e, .int .u32 h0.f, .int .u32 h0.g, .int .u32 h0.h] 44) = w2 at *
  have HH := Lib.hid hh
  have HBH := Lib.hid hbh
  have HRH := Lib.hid hrh
  clear hh hbh hrh HRP HB1
  generalize w1.heap.size = gh0 at *
  go_wp2_with fail
  refine (k_any w2).mono ?_
  rintro e X ⟨rfl, hrk, hbk⟩
  have HRK := Lib.hid hrk
  have HHX := Lib.hid (HH.out.below hbk)
  have HPX := Lib.hid (HRH.out.below hbk)
  have HBX : Hid (Below W.heap.size W X) := HBH.out.trans (hbk.mono HBH.out.size)
  clear hrk hbk HH HRH HBH
  generalize w2.heap.size = gk at *
  go_wp2_with fail
  go_loopw [4, 6] (fun vh v wr => ∃ (i gh : Nat), 64 * i ≤ P.length ∧ v = .int .i64 ((64 * i : Nat) : Int) ∧ vh = .slice (some ⟨gh, 0, none⟩) 8 8 ∧ Hs wr gh (chain h0 P i) ∧ Below X.heap.size X wr) (fun _ v _ => P.length - (intOf v).toNat)
  case atStart => exact ⟨0, gh0, by omega, rfl, rfl, HHX.out, Below.refl _ _⟩
  case round =>
    obtain ⟨i, gh, hi, rfl, rfl, hh, hb⟩ := hrel
    have HH := Lib.hid hh
    have HB := Lib.hid hb
    clear hh hb HHX
    by_cases e0 : 64 * i < P.length
    · have e0' : 64 * (i : Int) < P.length := by omega
      have hroom : 64 * i + 64 ≤ P.length := by have := HP64.out; omega
      obtain ⟨bk, hblk⟩ : ∃ b, b = (P.drop (64 * i)).take 64 := ⟨_, rfl⟩
      obtain ⟨L, hL⟩ : ∃ L : Nat → List Nat, ∀ t, L t = sched bk t := ⟨_, fun _ => rfl⟩
      have hPb : ∀ x ∈ P, x < 256 := HPX.out.1
      have hbb : ∀ x ∈ bk, x < 256 := fun x hx => hPb x (by rw [hblk] at hx; exact List.mem_of_mem_drop (List.mem_of_mem_take hx))
      have hL0 : L 0 = [] := by rw [hL]; rfl
      have hLs : ∀ t, L (t + 1) = L t ++ [nextW bk (L t) t] := fun t => by rw [hL, hL]; rfl
      have hLl : ∀ t, (L t).length = t := fun t => by rw [hL, sched_length]
      have hLb : ∀ s t, s < t → nth (L t) s < 4294967296 := fun s t h => by rw [hL]; exact sched_lt hbb h
      have hb4 : ∀ t, t < 16 → be4 P (64 * i + 4 * t) = be4 bk (4 * t) := fun t ht => by rw [hblk]; exact be4_part P i t (by omega)
      have hL64 : L 64 = sched bk 64 := hL 64
      have HL64 := Lib.hid hL64
      have HL0 := Lib.hid hL0
      have HLS := Lib.hid hLs
      have HLL := Lib.hid hLl
      have HLB := Lib.hid hLb
      have HB4 := Lib.hid hb4
      have HBLK := Lib.hid hblk
      have HBB := Lib.hid hbb
      clear hL hL64 hPb hbb hL0 hLs hLl hLb hb4 hblk
      go_wp2_with fail
      generalize hwz : wr = Z at *
      clear hwz
      go_loopw [7, 8] (fun v7 v wq => ∃ t : Nat, t ≤ 64 ∧ v = .int .i64 t ∧ W32.Ow wq Z.heap.size v7 (L t) ∧ Below Z.heap.size Z wq) (fun _ v _ => 64 - (intOf v).toNat)
      case atStart => exact ⟨0, by omega, rfl, by rw [HL0.out]; exact W32.Ow.nil _ _, Below.refl _ _⟩
      case round =>
        obtain ⟨t, ht, rfl, ho, hb2⟩ := hrel
        obtain ⟨A7, c7, rfl, hc7, -, hr7⟩ := ho.form
        rw [HLL.out t] at ho hc7 ⊢
        have hbs := hb2.size
        have HO := Lib.hid ho
        have HB2 := Lib.hid hb2
        have HR7 := Lib.hid hr7
        clear ho hb2 hr7
        by_cases t16 : t < 16
        · have k1 : IntKind.i64.wrap (64 * (i : Int) + 4 * t) = 64 * i + 4 * t := by simp [IntKind.wrap, IntKind.signed, IntKind.bits]; omega
          have hpq := HPX.out.below (HB.out.trans (HB2.out.mono HB.out.size))
          have hw4 := word_any AP cp (64 * i + 4 * t) P wr hpq (by omega) (by omega)
          rw [show (((64 * i + 4 * t : Nat) : Int)) = 64 * (i : Int) + 4 * t by omega] at hw4
          have hx : be4 P (64 * i + 4 * t) = nextW bk (L t) t := by rw [HB4.out t t16, nextW, if_pos t16]
          have hxl : be4 P (64 * i + 4 * t) < 4294967296 := by rw [hx]; exact nextW_lt HBB.out _ _
          have HX := Lib.hid hx
          have HW4 := Lib.hid hw4
          clear hpq hw4 hx
          have t16' : (t : Int) < 16 := by omega
          go_wp2_with fail
          refine HW4.out.mono ?_
          rintro e w' ⟨rfl, rfl⟩
          go_wp2_with (at_builtin; refine W32.append_new (.tmp 42) (.tmp 49) rfl rfl _ _ _ (be4 P (64 * i + 4 * t)) rfl rfl HO.out rfl hxl (by rw [HLL.out]; omega) hbs ?_; intro v1 w1 ho1 hg1 ha1; have HO1 := Lib.hid ho1; have HG1 := Lib.hid hg1; clear ho1 hg1 ha1)
          go_roundw
          case rel =>
            repeat apply Exists.intro
            refine ⟨⟨t + 1, by omega, by go_num, ?_, HB2.out.grown HG1.out hbs (fun x e => (HO.out.lt x e).1)⟩, rfl⟩
            have := HO1.out
            rw [HX.out, ← HLS.out] at this
            exact this
          case measure => simp [intOf]; omega
        · by_cases t64 : t < 64
          · have e2 : IntKind.i64.wrap ((t : Int) - 2) = ((t - 2 : Nat) : Int) := by simp [IntKind.wrap, IntKind.signed, IntKind.bits]; omega
            have e7 : IntKind.i64.wrap ((t : Int) - 7) = ((t - 7 : Nat) : Int) := by simp [IntKind.wrap, IntKind.signed, IntKind.bits]; omega
            have e15 : IntKind.i64.wrap ((t : Int) - 15) = ((t - 15 : Nat) : Int) := by simp [IntKind.wrap, IntKind.signed, IntKind.bits]; omega
            have e16 : IntKind.i64.wrap ((t : Int) - 16) = ((t - 16 : Nat) : Int) := by simp [IntKind.wrap, IntKind.signed, IntKind.bits]; omega
            have m2 : ((t - 2 : Nat) : Int) < t := by omega
            have m7 : ((t - 7 : Nat) : Int) < t := by omega
            have m15 : ((t - 15 : Nat) : Int) < t := by omega
            have m16 : ((t - 16 : Nat) : Int) < t := by omega
            have m4 : (t : Int) < 64 := by omega
            have m5 : ¬ (t : Int) < 16 := by omega
            obtain ⟨g7, o7, rfl, hg7, hc7⟩ := HR7.out.2 (by intro e; have := HLL.out t; rw [e] at this; simp at this; omega)
            obtain ⟨a2, h2⟩ : ∃ a, a = nth (L t) (t - 2) := ⟨_, rfl⟩
            obtain ⟨a7, h7⟩ : ∃ a, a = nth (L t) (t - 7) := ⟨_, rfl⟩
            obtain ⟨a15, h15⟩ : ∃ a, a = nth (L t) (t - 15) := ⟨_, rfl⟩
            obtain ⟨a16, h16⟩ : ∃ a, a = nth (L t) (t - 16) := ⟨_, rfl⟩
            have d2 := hc7 (t - 2) (by rw [HLL.out]; omega)
            have d7 := hc7 (t - 7) (by rw [HLL.out]; omega)
            have d15 := hc7 (t - 15) (by rw [HLL.out]; omega)
            have d16 := hc7 (t - 16) (by rw [HLL.out]; omega)
            have b2 := HLB.out (t - 2) t (by omega)
            have b7 := HLB.out (t - 7) t (by omega)
            have b15 := HLB.out (t - 15) t (by omega)
            have b16 := HLB.out (t - 16) t (by omega)
            rw [← h2] at d2 b2
            rw [← h7] at d7 b7
            rw [← h15] at d15 b15
            rw [← h16] at d16 b16
            have hv : nextW bk (L t) t = (sg1 a2 + a7 + sg0 a15 + a16) % 4294967296 := by rw [nextW, if_neg t16, h2, h7, h15, h16]
            have HV := Lib.hid hv
            clear hv h2 h7 h15 h16 hc7
            go_upto_region 13 with fail
            refine wp_region_still_lit (by kernel_rfl) (by kernel_rfl) ?_
            repeat still_step
            refine wpStill_nil ?_
            have hpd := HPX.out.below (HB.out.trans (HB2.out.mono HB.out.size))
            clear d2 d15 m2 m15
            go_upto_region 14 with fail
            go_wp2_with fail
            refine (right_any a15 7 b15 (by omega) _).mono ?_
            rintro e w' ⟨rfl, rfl⟩
            go_wp2_with fail
            refine (right_any a15 18 b15 (by omega) _).mono ?_
            rintro e w' ⟨rfl, rfl⟩
            have q1 : bits .xor .u32 ((rr a15 7 : Nat) : Int) ((rr a15 18 : Nat) : Int) = ((rr a15 7 ^^^ rr a15 18 : Nat) : Int) := u32_xor_nat _ _ (rr_lt b15 (by omega)) (rr_lt b15 (by omega))
            have q2 : bits .xor .u32 ((rr a15 7 ^^^ rr a15 18 : Nat) : Int) ((a15 : Int) / 8) = ((sg0 a15 : Nat) : Int) := u32_xor_nat _ (a15 / 8) (xor_lt32 (rr_lt b15 (by omega)) (rr_lt b15 (by omega))) (by omega)
            go_upto_region 15 with fail
            clear q1 q2
            go_wp2_with fail
            refine (right_any a2 17 b2 (by omega) _).mono ?_
            rintro e w' ⟨rfl, rfl⟩
            go_wp2_with fail
            refine (right_any a2 19 b2 (by omega) _).mono ?_
            rintro e w' ⟨rfl, rfl⟩
            have q1 : bits .xor .u32 ((rr a2 17 : Nat) : Int) ((rr a2 19 : Nat) : Int) = ((rr a2 17 ^^^ rr a2 19 : Nat) : Int) := u32_xor_nat _ _ (rr_lt b2 (by omega)) (rr_lt b2 (by omega))
            have q2 : bits .xor .u32 ((rr a2 17 ^^^ rr a2 19 : Nat) : Int) ((a2 : Int) / 1024) = ((sg1 a2 : Nat) : Int) := u32_xor_nat _ (a2 / 1024) (xor_lt32 (rr_lt b2 (by omega)) (rr_lt b2 (by omega))) (by omega)
            go_upto_region 16 with fail
            clear q1 q2
            have d7' : wr.drew.cell? ⟨g7, o7 + (t - 7), none⟩ = some (.int .u32 a7) := d7
            have d16' : wr.drew.cell? ⟨g7, o7 + (t - 16), none⟩ = some (.int .u32 a16) := d16
            have hoY := HO.out.drew
            have hbY : Below Z.heap.size Z wr.drew := by
              have hb := HB2.out
              exact ⟨hb.os, hb.tape, hb.output, hb.size, hb.block⟩
            clear d7 d16 HO
            have hzY : wr.drew.heap.size = wr.heap.size := rfl
            generalize wr.drew = Y at *
            have hnl : nextW bk (L t) t < 4294967296 := nextW_lt HBB.out _ _
            have hbYs : Z.heap.size ≤ Y.heap.size := hbY.size
            have HOY := Lib.hid hoY
            have HBY := Lib.hid hbY
            clear hoY hbY
            go_region_law (apply W32.step_append_new (.tmp 77) (.tmp 93) (b := nextW bk (L t) t) (c := 1) (v := .slice (some ⟨g7, o7, none⟩) t c7); rfl; rfl; rfl; (simp [Act.eval]); exact HOY.out; (simp only [IntKind.wrap_u32]; rw [HV.out]; omega); exact hnl; (rw [HLL.out]; omega); exact hbYs; (intro v1 w1 ho1 hg1 ha1; have HO1 := Lib.hid ho1; have HG1 := Lib.hid hg1; clear ho1 hg1 ha1))
            all_goals
              go_wp2_with fail
              go_roundw
              case rel =>
                repeat apply Exists.intro
                refine ⟨⟨t + 1, by omega, by go_num, ?_, HBY.out.grown HG1.out hbYs (fun x e => (HOY.out.lt x e).1)⟩, rfl⟩
                have := HO1.out
                rw [← HLS.out] at this
                exact this
              case measure => simp [intOf]; omega
          · obtain rfl : t = 64 := by omega
            have m5 : ¬ ((64 : Nat) : Int) < 64 := by omega
            have hs8 := HH.out.below HB2.out
            have hb3 := HB.out.trans (HB2.out.mono HB.out.size)
            obtain ⟨s, hs⟩ : ∃ s, s = chain h0 P i := ⟨_, rfl⟩
            obtain ⟨S, hS⟩ : ∃ S, S = L 64 := ⟨_, rfl⟩
            have hr7 := HR7.out
            rw [← hs] at hs8
            rw [← hS] at hr7
            have hSl : S.length = 64 := by rw [hS, HLL.out]
            have hSb : ∀ j, j < 64 → nth S j < 4294967296 := fun j hj => by rw [hS]; exact HLB.out j 64 hj
            have hnew : ∀ v, v = rounds S s 64 → chain h0 P (i + 1) = s.add v := by
              rintro v rfl
              rw [hS, HL64.out, chain, ← HBLK.out, ← hs]
              rfl
            obtain ⟨g7, o7, rfl, hg7, hc7⟩ := hr7.2 (by intro e; rw [e] at hSl; simp at hSl)
            rw [hSl] at hc7
            obtain ⟨gk', ok', ek, hgk, hck⟩ := HRK.out.2 (by decide)
            obtain ⟨rfl, rfl⟩ : gk = gk' ∧ 0 = ok' := by injection ek with ek; injection ek with e1 e2; exact ⟨e1, e2⟩
            have hckw : ∀ j, j < 64 → wr.cell? ⟨gk, j, none⟩ = some (.int .u32 (nth kL j : Nat)) := fun j hj => (hb3.cell (p := ⟨gk, j, none⟩) hgk).trans (by have := hck j hj; rwa [Nat.zero_add] at this)
            obtain ⟨hw, hgl, y0, y1, y2, y3, y4, y5, y6, y7⟩ := hs8
            have HNEW := Lib.hid hnew
            have HSB := Lib.hid hSb
            have HC7 := Lib.hid hc7
            have HCK := Lib.hid hckw
            have HB3 := Lib.hid hb3
            have HSW := Lib.hid hw
            have hY : Hid (s = chain h0 P i ∧ wr.cell? ⟨gh, 0, none⟩ = some (.int .u32 s.a) ∧ wr.cell? ⟨gh, 1, none⟩ = some (.int .u32 s.b) ∧ wr.cell? ⟨gh, 2, none⟩ = some (.int .u32 s.c) ∧ wr.cell? ⟨gh, 3, none⟩ = some (.int .u32 s.d) ∧
              wr.cell? ⟨gh, 4, none⟩ = some (.int .u32 s.e) ∧ wr.cell? ⟨gh, 5, none⟩ = some (.int .u32 s.f) ∧ wr.cell? ⟨gh, 6, none⟩ = some (.int .u32 s.g) ∧ wr.cell? ⟨gh, 7, none⟩ = some (.int .u32 s.h)) := ⟨hs, y0, y1, y2, y3, y4, y5, y6, y7⟩
            clear hnew hSb hc7 hckw hb3 hw hs hck ek hr7 hS hSl HB2 HR7 HO HH HB HL64 HL0 HLL HLS HLB HB4 HBB HBLK HRK
            go_upto_region 17 with fail
            refine wp_region_still_lit (by kernel_rfl) (by kernel_rfl) ?_
            repeat still_step
            refine wpStill_nil ?_
            go_upto_region 18 with fail
            have hzd : wr.drew.heap.size = wr.heap.size := rfl
            have hbd : Below X.heap.size X wr.drew := ⟨HB3.out.os, HB3.out.tape, HB3.out.output, HB3.out.size, HB3.out.block⟩
            have HCKd : Hid (∀ j, j < 64 → wr.drew.cell? ⟨gk, j, none⟩ = some (.int .u32 (nth kL j : Nat))) := HCK.out
            have HC7d : Hid (∀ j, j < 64 → wr.drew.cell? ⟨g7, o7 + j, none⟩ = some (.int .u32 (nth S j : Nat))) := HC7.out
            have hYd : Hid (s = chain h0 P i ∧ wr.drew.cell? ⟨gh, 0, none⟩ = some (.int .u32 s.a) ∧ wr.drew.cell? ⟨gh, 1, none⟩ = some (.int .u32 s.b) ∧ wr.drew.cell? ⟨gh, 2, none⟩ = some (.int .u32 s.c) ∧ wr.drew.cell? ⟨gh, 3, none⟩ = some (.int .u32 s.d) ∧
              wr.drew.cell? ⟨gh, 4, none⟩ = some (.int .u32 s.e) ∧ wr.drew.cell? ⟨gh, 5, none⟩ = some (.int .u32 s.f) ∧ wr.drew.cell? ⟨gh, 6, none⟩ = some (.int .u32 s.g) ∧ wr.drew.cell? ⟨gh, 7, none⟩ = some (.int .u32 s.h)) := hY.out
            have HBD := Lib.hid hbd
            have HGK : Hid (gk < wr.drew.heap.size ∧ g7 < wr.drew.heap.size ∧ gh < wr.drew.heap.size) := ⟨Nat.lt_of_lt_of_le hgk HBD.out.size, hg7, hgl⟩
            clear hzd hbd y0 y1 y2 y3 y4 y5 y6 y7 HB3 HCK HC7 hY hgk hg7 hgl
            change Code.wp _ _ _ _ wr.drew
            generalize wr.drew = U at *
            go_wp2_with fail
            go_loopw [13, 14, 15, 16, 17, 18, 19, 20, 21] (fun va vb vc vd ve vf vg vh vt wq => ∃ (t : Nat) (v : St), t ≤ 64 ∧ v = rounds S s t ∧ va = .int .u32 v.a ∧ vb = .int .u32 v.b ∧ vc = .int .u32 v.c ∧ vd = .int .u32 v.d ∧ ve = .int .u32 v.e ∧ vf = .int .u32 v.f ∧ vg = .int .u32 v.g ∧ vh = .int .u32 v.h ∧ vt = .int .i64 t ∧ Below U.heap.size U wq)
              (fun _ _ _ _ _ _ _ _ vt _ => 64 - (intOf vt).toNat)
            case atStart => exact ⟨0, s, by omega, rfl, rfl, rfl, rfl, rfl, rfl, rfl, rfl, rfl, rfl, Below.refl _ _⟩
            case round =>
              obtain ⟨t, v, ht, hv, rfl, rfl, rfl, rfl, rfl, rfl, rfl, rfl, rfl, hb⟩ := hrel
              have HVV := Lib.hid hv
              have hwv : v.Wf := by rw [hv]; exact rounds_wf S HSW.out t
              have HBU := Lib.hid hb
              clear hv hb
              by_cases t64 : t < 64
              · obtain ⟨l0, l1, l2, l3, l4, l5, l6, l7⟩ := hwv
                have t64' : (t : Int) < 64 := by omega
                have lk := kL_lt t64
                have lS := HSB.out t t64
                have ck : wr.cell? ⟨gk, t, none⟩ = some (.int .u32 (nth kL t : Nat)) := (HBU.out.cell (p := ⟨gk, t, none⟩) HGK.out.1).trans (HCKd.out t t64)
                have c7 : wr.cell? ⟨g7, o7 + t, none⟩ = some (.int .u32 (nth S t : Nat)) := (HBU.out.cell (p := ⟨g7, o7 + t, none⟩) HGK.out.2.1).trans (HC7d.out t t64)
                obtain ⟨xk, hxk⟩ : ∃ x, x = nth kL t := ⟨_, rfl⟩
                obtain ⟨xS, hxS⟩ : ∃ x, x = nth S t := ⟨_, rfl⟩
                rw [← hxk] at ck lk
                rw [← hxS] at c7 lS
                have HXK := Lib.hid hxk
                have HXS := Lib.hid hxS
                clear hxk hxS
                have q1 : bits .and .u32 (v.e : Int) (v.f : Int) = ((v.e &&& v.f : Nat) : Int) := u32_and_nat _ _ l4 l5
                have q2 := u32_flip v.e l4
                have q3 : bits .and .u32 ((4294967295 - v.e : Nat) : Int) (v.g : Int) = (((4294967295 - v.e) &&& v.g : Nat) : Int) := u32_and_nat _ _ (by omega) l6
                have q4 : bits .xor .u32 ((v.e &&& v.f : Nat) : Int) (((4294967295 - v.e) &&& v.g : Nat) : Int) = ((sCh v.e v.f v.g : Nat) : Int) := u32_xor_nat _ _ (and_lt32 l4) (Nat.lt_of_le_of_lt Nat.and_le_right l6)
                have q5 : bits .xor .u32 ((rr v.e 6 : Nat) : Int) ((rr v.e 11 : Nat) : Int) = ((rr v.e 6 ^^^ rr v.e 11 : Nat) : Int) := u32_xor_nat _ _ (rr_lt l4 (by omega)) (rr_lt l4 (by omega))
                have q6 : bits .xor .u32 ((rr v.e 6 ^^^ rr v.e 11 : Nat) : Int) ((rr v.e 25 : Nat) : Int) = ((sS1 v.e : Nat) : Int) := u32_xor_nat _ _ (xor_lt32 (rr_lt l4 (by omega)) (rr_lt l4 (by omega))) (rr_lt l4 (by omega))
                go_upto_region 21 with fail
                refine wp_region_still_lit (by kernel_rfl) (by kernel_rfl) ?_
                repeat still_step
                still_call (right_still v.e 6 l4 (by omega) _)
                repeat still_step
                still_call (right_still v.e 11 l4 (by omega) _)
                repeat still_step
                still_call (right_still v.e 25 l4 (by omega) _)
                repeat still_step
                refine wpStill_nil ?_
                go_upto_region 22 with fail
                go_name_slot 22 one hone
                obtain ⟨o, ho⟩ : ∃ o, o = sOne xk xS v := ⟨_, rfl⟩
                have e1 : one = (o : Int) := by
                  rw [← hone, ho]
                  simp only [IntKind.wrap_u32, sOne]
                  omega
                have lo : o < 4294967296 := by rw [ho]; unfold sOne; omega
                subst e1
                have HO := Lib.hid ho
                have hbY : Below U.heap.size U wr.drew := ⟨HBU.out.os, HBU.out.tape, HBU.out.output, HBU.out.size, HBU.out.block⟩
                have HBY := Lib.hid hbY
                clear hone ho q1 q2 q3 q4 q5 q6 ck c7 lk lS HBU hbY
                change Code.wp _ _ _ _ wr.drew
                generalize wr.drew = Y at *
                have q1 : bits .and .u32 (v.a : Int) (v.b : Int) = ((v.a &&& v.b : Nat) : Int) := u32_and_nat _ _ l0 l1
                have q2 : bits .and .u32 (v.a : Int) (v.c : Int) = ((v.a &&& v.c : Nat) : Int) := u32_and_nat _ _ l0 l2
                have q3 : bits .and .u32 (v.b : Int) (v.c : Int) = ((v.b &&& v.c : Nat) : Int) := u32_and_nat _ _ l1 l2
                have q4 : bits .xor .u32 ((v.a &&& v.b : Nat) : Int) ((v.a &&& v.c : Nat) : Int) = (((v.a &&& v.b) ^^^ (v.a &&& v.c) : Nat) : Int) := u32_xor_nat _ _ (and_lt32 l0) (and_lt32 l0)
                have q5 : bits .xor .u32 (((v.a &&& v.b) ^^^ (v.a &&& v.c) : Nat) : Int) ((v.b &&& v.c : Nat) : Int) = ((sMa v.a v.b v.c : Nat) : Int) := u32_xor_nat _ _ (xor_lt32 (and_lt32 l0) (and_lt32 l0)) (and_lt32 l1)
                have q6 : bits .xor .u32 ((rr v.a 2 : Nat) : Int) ((rr v.a 13 : Nat) : Int) = ((rr v.a 2 ^^^ rr v.a 13 : Nat) : Int) := u32_xor_nat _ _ (rr_lt l0 (by omega)) (rr_lt l0 (by omega))
                have q7 : bits .xor .u32 ((rr v.a 2 ^^^ rr v.a 13 : Nat) : Int) ((rr v.a 22 : Nat) : Int) = ((sS0 v.a : Nat) : Int) := u32_xor_nat _ _ (xor_lt32 (rr_lt l0 (by omega)) (rr_lt l0 (by omega))) (rr_lt l0 (by omega))
                go_wp2_with fail
                refine (right_any v.a 2 l0 (by omega) _).mono ?_
                rintro e w' ⟨rfl, rfl⟩
                go_wp2_with fail
                refine (right_any v.a 13 l0 (by omega) _).mono ?_
                rintro e w' ⟨rfl, rfl⟩
                go_wp2_with fail
                refine (right_any v.a 22 l0 (by omega) _).mono ?_
                rintro e w' ⟨rfl, rfl⟩
                go_upto_region 23 with fail
                go_name_slot 23 two htwo
                obtain ⟨o2, ho2⟩ : ∃ o2, o2 = sTwo v := ⟨_, rfl⟩
                have e2 : two = (o2 : Int) := by
                  rw [← htwo, ho2]
                  simp only [IntKind.wrap_u32, sTwo]
                  omega
                subst e2
                have HO2 := Lib.hid ho2
                clear htwo ho2 q1 q2 q3 q4 q5 q6 q7
                go_wp2_with fail
                go_roundw
                case rel =>
                  refine ⟨t + 1, rnd (nth kL t) (nth S t) v, by omega, by rw [HVV.out]; rfl, ?_, rfl, rfl, rfl, ?_, rfl, rfl, rfl, by go_num, HBY.out⟩
                  · rw [← HXK.out, ← HXS.out, rnd_eq, ← HO.out, ← HO2.out]
                    go_num
                  · rw [← HXK.out, ← HXS.out, rnd_eq, ← HO.out]
                    go_num
                case measure => simp [intOf]; omega
              · obtain rfl : t = 64 := by omega
                have hsv := HNEW.out v HVV.out
                have hy := hYd.out
                obtain ⟨-, y0, y1, y2, y3, y4, y5, y6, y7⟩ := hy
                have z0 := (HBU.out.cell (p := ⟨gh, 0, none⟩) HGK.out.2.2).trans y0
                have z1 := (HBU.out.cell (p := ⟨gh, 1, none⟩) HGK.out.2.2).trans y1
                have z2 := (HBU.out.cell (p := ⟨gh, 2, none⟩) HGK.out.2.2).trans y2
                have z3 := (HBU.out.cell (p := ⟨gh, 3, none⟩) HGK.out.2.2).trans y3
                have z4 := (HBU.out.cell (p := ⟨gh, 4, none⟩) HGK.out.2.2).trans y4
                have z5 := (HBU.out.cell (p := ⟨gh, 5, none⟩) HGK.out.2.2).trans y5
                have z6 := (HBU.out.cell (p := ⟨gh, 6, none⟩) HGK.out.2.2).trans y6
                have z7 := (HBU.out.cell (p := ⟨gh, 7, none⟩) HGK.out.2.2).trans y7
                have hbf := HBD.out.trans (HBU.out.mono HBD.out.size)
                have HSV := Lib.hid hsv
                have HBF := Lib.hid hbf
                clear hsv hbf y0 y1 y2 y3 y4 y5 y6 y7 HBU HNEW
                go_upto_region 31 with fail
                refine wp_region_still_tail 40 (by kernel_rfl) (by kernel_rfl) ?_
                simp only [List.take_succ_cons, List.take_zero, List.drop_succ_cons, List.drop_zero]
                repeat still_step
                try refine wpStill_nil ?_
                have hbd : Below X.heap.size X wr.drew := ⟨HBF.out.os, HBF.out.tape, HBF.out.output, HBF.out.size, HBF.out.block⟩
                have HBD2 := Lib.hid hbd
                clear z0 z1 z2 z3 z4 z5 z6 z7 hbd HBF
                change wpList _ _ _ _ _ wr.drew
                generalize wr.drew = Y at *
                go_wp2_with fail
                go_roundw
                case rel =>
                  refine ⟨i + 1, Y.heap.size, by omega, by go_num, rfl, ?_, HBD2.out.alloc HBD2.out.size _⟩
                  have h1 := hs_new Y (s.add v) (add_wf s v)
                  rw [HSV.out]
                  simp only [St.add, Int.natCast_emod, Int.natCast_add] at h1 ⊢
                  exact h1
                case measure => simp only [intOf]; omega
    · have hie : i = P.length / 64 := by have := HP64.out; omega
      have m1 : ¬ 64 * (i : Int) < P.length := by omega
      obtain ⟨z, hz⟩ : ∃ z, z = chain h0 P i := ⟨_, rfl⟩
      have hh := HH.out
      rw [← hz] at hh
      have hst : z = shaSt m := by rw [hz, hie, HP.out]; rfl
      have HST := Lib.hid hst
      have hbw := HBX.out.trans (HB.out.mono HBX.out.size)
      have hrr := HR0.out.of_block (hbw.block w.heap.size HR0.out.lt)
      have HRR := Lib.hid hrr
      have HHZ := Lib.hid hh
      have HBW := Lib.hid hbw
      clear hst hh hz HH hrr hbw hie HRK HPX HRW HR0
      go_upto_region 33 with fail
      have hho := HHZ.out.below ((Below.refl wr.heap.size wr).alloc (Nat.le_refl _) (.cells #[.int .u8 0, .int .u8 0, .int .u8 0, .int .u8 0, .int .u8 0, .int .u8 0, .int .u8 0, .int .u8 0, .int .u8 0, .int .u8 0, .int .u8 0, .int .u8 0, .int .u8 0, .int .u8 0, .int .u8 0, .int .u8 0, .int .u8 0, .int .u8 0, .int .u8 0, .int .u8 0, .int .u8 0, .int .u8 0, .int .u8 0, .int .u8 0, .int .u8 0, .int .u8 0, .int .u8 0, .int .u8 0, .int .u8 0, .int .u8 0, .int .u8 0, .int .u8 0] 30))
      obtain ⟨hbo, hro⟩ := one_out wr
      have hbo2 := HBW.out.trans (hbo.mono HBW.out.size)
      have hrr := HRR.out.of_block (hbo.block w.heap.size HRR.out.lt)
      have hlw : w.heap.size < wr.heap.size := HRR.out.lt
      have hlg : gh < wr.heap.size := HHZ.out.2.1
      have hlh : W.heap.size ≤ wr.heap.size := HBW.out.size
      change Code.wp _ _ _ _ (wr.alloc (.cells #[.int .u8 0, .int .u8 0, .int .u8 0, .int .u8 0, .int .u8 0, .int .u8 0, .int .u8 0, .int .u8 0, .int .u8 0, .int .u8 0, .int .u8 0, .int .u8 0, .int .u8 0, .int .u8 0, .int .u8 0, .int .u8 0, .int .u8 0, .int .u8 0, .int .u8 0, .int .u8 0, .int .u8 0, .int .u8 0, .int .u8 0, .int .u8 0, .int .u8 0, .int .u8 0, .int .u8 0, .int .u8 0, .int .u8 0, .int .u8 0, .int .u8 0, .int .u8 0] 30))
      generalize hY : wr.alloc (.cells #[.int .u8 0, .int .u8 0, .int .u8 0, .int .u8 0, .int .u8 0, .int .u8 0, .int .u8 0, .int .u8 0, .int .u8 0, .int .u8 0, .int .u8 0, .int .u8 0, .int .u8 0, .int .u8 0, .int .u8 0, .int .u8 0, .int .u8 0, .int .u8 0, .int .u8 0, .int .u8 0, .int .u8 0, .int .u8 0, .int .u8 0, .int .u8 0, .int .u8 0, .int .u8 0, .int .u8 0, .int .u8 0, .int .u8 0, .int .u8 0, .int .u8 0, .int .u8 0] 30) = Y at *
      have hYs : Y.heap.size = wr.heap.size + 1 := by rw [← hY, World.size_alloc]
      have HHY := Lib.hid hho
      have HRO := Lib.hid hro
      have HBY := Lib.hid hbo2
      have HRY := Lib.hid hrr
      clear hho hbo hro hbo2 hrr hY HHZ HRR HBW
      generalize wr.heap.size = H at *
      go_wp2_with fail
      go_loopw [25] (fun v wq => ∃ i' : Nat, i' ≤ 32 ∧ v = .int .i64 i' ∧ wq.rowIs H 30 32 (fun j => .int .u8 (upd i' (outB z) (fun _ => 0) j : Nat)) ∧ Y.grownBy wq (some H)) (fun v _ => 32 - (intOf v).toNat)
      case atStart => exact ⟨0, by omega, rfl, HRO.out.congr (fun j hj => by rw [upd_zero]; rfl), grown_refl _ _⟩
      case round =>
        obtain ⟨j, hj, rfl, hro, hg⟩ := hrel
        have HRo := Lib.hid hro
        have HG := Lib.hid hg
        clear hro hg
        by_cases j32 : j < 32
        · have hrh := HHY.out.of_block (HG.out.block gh (by omega) (by intro e; injection e with e; omega)) HG.out.size
          have c1 := hrh.cell (i := j / 4) (by omega)
          have c2 := HRo.out.cell j32
          have x2 := HRo.out.frozen j
          have d1 : ((j : Int) / 4).toNat = j / 4 := by omega
          have d2 : (j : Int) / 4 < 8 := by omega
          have d3 : 0 ≤ (j : Int) / 4 := by omega
          have d4 : (j : Int) < 32 := by omega
          have hzl := word_lt HHY.out.1 (j / 4)
          have HZL := Lib.hid hzl
          clear hrh hzl
          have e1 : IntKind.i64.wrap (24 - 8 * ((j : Int) % 4)) = ((24 - 8 * (j % 4) : Nat) : Int) := by simp [IntKind.wrap, IntKind.signed, IntKind.bits]; omega
          have e2 : IntKind.u64.wrap ((24 - 8 * (j % 4) : Nat) : Int) = ((24 - 8 * (j % 4) : Nat) : Int) := by rw [IntKind.wrap_u64]; omega
          go_upto_region 36 with fail
          go_wp2
          refine ⟨⟨j + 1, by omega, by go_num, ?_, grown_set (p := ⟨H, j, none⟩) HG.out (.inl rfl) _⟩, by simp [intOf]; omega⟩
          exact row_upd8v HRo.out (outB_int z j)
        · obtain rfl : j = 32 := by omega
          have hro := HRo.out.congr (g := fun j => .int .u8 (outB z j : Nat)) (fun j hj => by rw [upd_lt _ _ hj])
          obtain ⟨cs, hcs, hcn, hci⟩ := hro
          obtain ⟨ds, hds, hdn, hdi⟩ := HRY.out.of_block (HG.out.block w.heap.size (by omega) (by intro e; injection e with e; omega))
          have hbr : Below W.heap.size W wr := below_of_grown HBY.out HG.out (by omega) (by omega)
          have CS := Lib.hid hcs
          have CN := Lib.hid hcn
          have CI := Lib.hid hci
          have DS := Lib.hid hds
          have DN := Lib.hid hdn
          have HBR := Lib.hid hbr
          clear hcs hcn hci hds hdn hdi hbr HRo HG
          go_wp2_with (first
            | (refine wpList_load_row rfl 30 (.tmp 24) rfl H rfl 30 cs (0, 0) _ CS.out Try.underlying30 rfl (by rw [CN.out]; exact size32) ?_)
            | (refine wpList_store_row rfl 30 (.tmp 2) (.tmp 243) rfl w.heap.size cs rfl rfl 30 ds DS.out (by rw [CN.out]; exact size32) (by rw [CN.out, DN.out]) (u8_oneCell CN.out CI.out) ?_))
          (try simp only [Exit.inBlock, Exit.then])
          refine bodyPost_ret (results_cell_row rfl _ _ w.heap.size 30 cs (0, 0) _ rfl (setRow_heap _ _ _ _ _ _ DS.out) Try.underlying30 rfl (by rw [CN.out]; exact size32)) rfl ?_
          refine ⟨?_, below_setRow (HB0.out.trans (HBR.out.mono HB0.out.size)) (Nat.le_refl _) _⟩
          rw [aggB CN.out CI.out, HST.out]
          rfl
end Go.Proofs.Ytbnhjhdbjffnkab
