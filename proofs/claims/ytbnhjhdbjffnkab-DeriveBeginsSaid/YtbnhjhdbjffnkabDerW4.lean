/-
  PBKDF2, IN PLAIN LEAN; THE WALK OF derive.Pbkdf2. Conditions: password and salt read as lists.
-/
import Derived.Test.YtbnhjhdbjffnkabDerW3
import Derived.StillTailTactics
namespace Go.Proofs.Ytbnhjhdbjffnkab
open Go.RowKit
set_option linter.unusedSimpArgs false
set_option linter.unusedVariables false

def uN (pw s : List Nat) : Nat → List Nat
  | 0 => hmac pw s
  | j + 1 => hmac pw (uN pw s j)
def xorL (a b : List Nat) : List Nat := (List.range 32).map fun i => nth a i ^^^ nth b i
def blN (pw s : List Nat) : Nat → List Nat
  | 0 => hmac pw s
  | j + 1 => xorL (blN pw s j) (uN pw s (j + 1))
def pbAll (pw salt : List Nat) (r : Nat) : Nat → List Nat
  | 0 => []
  | k + 1 => pbAll pw salt r k ++ blN pw (salt ++ [0, 0, 0, k + 1]) r
theorem xorL_nth (a b : List Nat) {q : Nat} (hq : q < 32) : nth (xorL a b) q = nth a q ^^^ nth b q := by
  rw [nth_get (by simpa [xorL] using hq)]
  simp [xorL]
theorem hmac_length (k b : List Nat) : (hmac k b).length = 32 := sha_length _
theorem hmac_lt (k b : List Nat) : ∀ x ∈ hmac k b, x < 256 := sha_lt _
theorem uN_length (pw s : List Nat) (j : Nat) : (uN pw s j).length = 32 := by cases j <;> exact hmac_length _ _
theorem uN_lt (pw s : List Nat) (j : Nat) : ∀ x ∈ uN pw s j, x < 256 := by cases j <;> exact hmac_lt _ _
theorem blN_length (pw s : List Nat) (j : Nat) : (blN pw s j).length = 32 := by
  cases j with
  | zero => exact hmac_length _ _
  | succ j => simp [blN, xorL]
theorem blN_lt (pw s : List Nat) (j : Nat) : ∀ x ∈ blN pw s j, x < 256 := by
  induction j with
  | zero => exact hmac_lt _ _
  | succ j ih =>
    intro x hx
    obtain ⟨i, _, rfl⟩ := List.mem_map.1 hx
    exact xor8_lt (nth_lt ih i) (nth_lt (uN_lt pw s (j + 1)) i)
theorem pbAll_length (pw salt : List Nat) (r k : Nat) : (pbAll pw salt r k).length = 32 * k := by
  induction k with
  | zero => rfl
  | succ k ih => rw [pbAll, List.length_append, ih, blN_length]; omega
/-- A row of 32 bytes. -/
def Row32 (w : World) (g : Nat) (l : List Nat) : Prop := w.rowIs g 30 32 (fun j => .int .u8 (nth l j : Nat))
theorem Row32.rd {w : World} {g : Nat} {l : List Nat} (h : Row32 w g l) (hl : l.length = 32) (hb : ∀ x ∈ l, x < 256) : Rd w (some ⟨g, 0, none⟩) l :=
  ⟨hb, fun _ => ⟨g, 0, rfl, h.lt, fun i hi => by rw [Nat.zero_add]; exact h.cell (by omega)⟩⟩
theorem bytesV_at (l : List Nat) (hl : l.length = 32) : ∃ C : Array Value, bytesV l = .agg C ∧ C.size = 32 ∧ ∀ i, i < 32 → C[i]? = some (.int .u8 (nth l i : Nat)) := by
  refine ⟨(l.map fun x => Value.int .u8 (x : Nat)).toArray, rfl, by simp [hl], fun i hi => ?_⟩
  rw [nth_get (by omega)]
  simp [hl, hi]
theorem pbkdf2_no (v0 v1 : Value) (r n : Int) (h : r < 1 ∨ 1000 < r ∨ n < 0 ∨ 1024 < n) (w : World) : Calls Try.prog 18 #[v0, v1, .int .i64 r, .int .i64 n] w fun e w' => e = .returned (.tuple #[.slice none 0 0, .int .i64 2]) ∧ w = w' := by
  by_cases h1 : r < 1
  · clear h
    go_enter Try.func18, Try.ntmps18
    go_wp2
    go_ret2
    exact ⟨rfl, rfl⟩
  · by_cases h2 : 1000 < r
    · clear h
      go_enter Try.func18, Try.ntmps18
      go_wp2
      go_ret2
      exact ⟨rfl, rfl⟩
    · by_cases h3 : n < 0
      · clear h
        go_enter Try.func18, Try.ntmps18
        go_wp2
        go_ret2
        exact ⟨rfl, rfl⟩
      · have h4 : 1024 < n := by omega
        clear h
        go_enter Try.func18, Try.ntmps18
        go_wp2
        go_ret2
        exact ⟨rfl, rfl⟩
set_option maxRecDepth 100000 in
set_option maxHeartbeats 4000000 in
theorem pbkdf2_any (A : Option Addr) (kn c : Nat) (key : List Nat) (B : Option Addr) (m d : Nat) (salt : List Nat) (r n : Nat) (w : World) (hn : kn = key.length) (hl : key.length ≤ 35184372088832) (hr : Rd w A key) (hm : m = salt.length) (hbl : salt.length ≤ 17592186044416) (hb : Rd w B salt)
    (hr1 : 1 ≤ r) (hr2 : r ≤ 1000) (hn2 : n ≤ 1024) :
    Calls Try.prog 18 #[.slice A kn c, .slice B m d, .int .i64 r, .int .i64 n] w fun e w' => ∃ A' c', e = .returned (.tuple #[.slice A' n c', .int .i64 0]) ∧ n ≤ c' ∧ Rd w' A' ((pbAll key salt (r - 1) ((n + 31) / 32)).take n) ∧ Below w.heap.size w w' := by
  have HR := Lib.hid hr
  have HB := Lib.hid hb
  have HM := Lib.hid hm
  have HN := Lib.hid hn
  have k1 : ¬ (r : Int) < 1 := by omega
  have k2 : ¬ (1000 : Int) < r := by omega
  have k3 : ¬ (n : Int) < 0 := by omega
  have k4 : ¬ (1024 : Int) < n := by omega
  clear hr hb hm hn
  go_enter Try.func18, Try.ntmps18
  go_wp2_with fail
  go_loopw [10, 11] (fun v10 v11 wr => ∃ k : Nat, 1 ≤ k ∧ 32 * (k - 1) < n + 32 ∧ v11 = .int .i64 k ∧ Ow wr w.heap.size v10 (pbAll key salt (r - 1) (k - 1)) ∧ Below w.heap.size w wr) (fun _ v _ => 40 - (intOf v).toNat)
  case atStart => exact ⟨1, by omega, by omega, rfl, Ow.nil _ _, Below.refl _ _⟩
  case round =>
    obtain ⟨k, hk1, hk2, rfl, ho, hb⟩ := hrel
    obtain ⟨A10, c10, rfl, h10c, h10b, h10r⟩ := ho.form
    rw [pbAll_length] at ho h10c ⊢
    have HO := Lib.hid ho
    have HBW := Lib.hid hb
    have H10 := Lib.hid h10r
    have H10B := Lib.hid h10b
    clear ho hb h10r h10b
    by_cases e0 : 32 * (k - 1) < n
    · have e0' : ((32 * (k - 1) : Nat) : Int) < n := by omega
      have q1 : IntKind.u8.wrap ((k : Int) / 16777216) = 0 := by rw [IntKind.wrap_u8]; omega
      have q2 : IntKind.u8.wrap ((k : Int) / 65536) = 0 := by rw [IntKind.wrap_u8]; omega
      have q3 : IntKind.u8.wrap ((k : Int) / 256) = 0 := by rw [IntKind.wrap_u8]; omega
      have q4 : IntKind.u8.wrap (k : Int) = k := by rw [IntKind.wrap_u8]; omega
      have k256 : ∀ x ∈ [0, 0, 0, k], x < 256 := by intro x hx; simp at hx; omega
      have hbs := HBW.out.size
      go_wp2_with (at_builtin; first
        | (refine append_bytes (v := .slice none 0 0) (.const (.slice none 0 0)) (.tmp 36) rfl rfl rfl (Ow.nil wr wr.heap.size) B m d salt rfl HM.out (HB.out.below HBW.out) (by simp; omega) (Nat.le_refl _) ?_; intro v1 w1 ho1 hg1 ha1
           have HO1 := Lib.hid ho1; have HB1 := Lib.hid ((Below.refl wr.heap.size wr).grown hg1 (Nat.le_refl _) (by simp [Value.ownBlock])); clear ho1 hg1 ha1)
        | (refine append_bytes (.tmp 37) (.tmp 49) rfl rfl rfl (HO1.out.alloc _) (some ⟨w1.heap.size, 0, none⟩) 4 4 [0, 0, 0, k] rfl rfl (constW_rd w1 _ [0, 0, 0, k] k256 _) (by simp; omega) (by have := HB1.out.size; rw [World.size_alloc]; omega) ?_; intro v2 w2 ho2 hg2 ha2
           have HO2 := Lib.hid ho2; have HB2 := Lib.hid (((HB1.out.alloc HB1.out.size _).grown hg2 (by have := HB1.out.size; rw [World.size_alloc]; omega) (fun x e => (HO1.out.lt x e).1))); clear ho2 hg2 ha2))
      obtain ⟨A2, c2, rfl, -, -, h2r⟩ := HO2.out.form
      have H2R := Lib.hid h2r
      have hHB3 : Below w.heap.size w w2 := HBW.out.trans (HB2.out.mono hbs)
      have HB3 := Lib.hid hHB3
      clear h2r hHB3 q1 q2 q3 q4
      rw [List.nil_append] at H2R ⊢
      obtain ⟨s, hs⟩ : ∃ s, s = salt ++ [0, 0, 0, k] := ⟨_, rfl⟩
      have hsl : s.length = salt.length + 4 := by rw [hs]; simp
      rw [← hs] at H2R ⊢
      have HSS := Lib.hid hs
      refine (hmac_c A kn c key A2 _ c2 s w2 HN.out hl (HR.out.below HB3.out) rfl (by omega) H2R.out).mono ?_
      rintro e w3 ⟨rfl, hb3⟩
      have HB4 := Lib.hid (HB3.out.trans (hb3.mono HB3.out.size))
      have HO4 := Lib.hid (HO.out.keepb' fun x e => (HB2.out.trans (hb3.mono HB2.out.size)).block x (HO.out.lt x e).2)
      have hsz : ∀ x, (Value.slice A10 (32 * (k - 1)) c10).ownBlock = some x → x < w3.heap.size := fun x e => Nat.lt_of_lt_of_le (HO.out.lt x e).2 (HB2.out.trans (hb3.mono HB2.out.size)).size
      have HSZ := Lib.hid hsz
      obtain ⟨C, hC, hCn, hCi⟩ := bytesV_at (hmac key s) (hmac_length key s)
      rw [hC]
      have HCN := Lib.hid hCn
      have HCI := Lib.hid hCi
      clear hs hC hCn hCi hb3 HO HB2 HB1 HO1 HO2 HB3 hsz H2R H10
      go_wp2_with (first
        | (refine wpList_store_new 30 (.tmp 12) (.tmp 51) rfl rfl _ C rfl rfl (by rw [HCN.out]; exact size32) (by rw [HCN.out]; rfl) (bytes_oneCell HCN.out HCI.out) ?_)
        | (refine wpList_load_row rfl 30 (.tmp 12) rfl w3.heap.size rfl 30 C (0, 0) _ (heap_alloc_new w3 _) Try.underlying30 rfl (by rw [HCN.out]; exact size32) ?_)
        | (refine wpList_store_new 30 (.tmp 13) (.tmp 52) rfl rfl _ C (by rw [World.size_alloc]; rfl) rfl (by rw [HCN.out]; exact size32) (by rw [HCN.out]; rfl) (bytes_oneCell HCN.out HCI.out) ?_))
      have hrw : ∀ V : World, Row32 (V.alloc (.cells C 30)) V.heap.size (hmac key s) := fun V => rowNew rfl HCN.out HCI.out
      have hx1 := hrw w3
      have hx2 := hrw (w3.alloc (.cells C 30))
      have hbx1 := (Below.refl w3.heap.size w3).alloc (Nat.le_refl _) (.cells C 30)
      have hbx2 := (Below.refl (w3.alloc (.cells C 30)).heap.size (w3.alloc (.cells C 30))).alloc (Nat.le_refl _) (.cells C 30)
      have hx1 : Row32 ((w3.alloc (.cells C 30)).alloc (.cells C 30)) w3.heap.size (hmac key s) := hx1.of_block (hbx2.block _ hx1.lt)
      rw [World.size_alloc] at hx2
      have hbx : Below w3.heap.size w3 ((w3.alloc (.cells C 30)).alloc (.cells C 30)) := hbx1.alloc (by rw [World.size_alloc]; omega) _
      have hbW : Below w.heap.size w ((w3.alloc (.cells C 30)).alloc (.cells C 30)) := HB4.out.trans (hbx.mono HB4.out.size)
      have hoX : Ow ((w3.alloc (.cells C 30)).alloc (.cells C 30)) w.heap.size (.slice A10 (32 * (k - 1)) c10) (pbAll key salt (r - 1) (k - 1)) := HO4.out.keepb' fun x e => hbx.block x (HSZ.out x e)
      have hws : w.heap.size ≤ w3.heap.size := HB4.out.size
      generalize (w3.alloc (.cells C 30)).alloc (.cells C 30) = X at *
      generalize w3.heap.size = g at *
      have HX1 := Lib.hid hx1
      have HX2 := Lib.hid hx2
      have HBX := Lib.hid hbW
      have HOX := Lib.hid hoX
      have HWS := Lib.hid hws
      clear hrw hx1 hx2 hbx1 hbx2 hbx hbW hoX hws HB4 HO4 HCN HCI
      have r1 : IntKind.i64.wrap ((r : Int) - 1) = ((r - 1 : Nat) : Int) := by simp [IntKind.wrap, IntKind.signed, IntKind.bits]; omega
      go_wp2_with fail
      go_loopw [55] (fun v wq => ∃ j : Nat, j ≤ r - 1 ∧ v = .int .i64 j ∧ Row32 wq g (uN key s j) ∧ Row32 wq (g + 1) (blN key s j) ∧ Chg X wq (fun x => x = g ∨ x = g + 1)) (fun v _ => r - (intOf v).toNat)
      case atStart => exact ⟨0, by omega, rfl, HX1.out, HX2.out, Chg.refl _ _⟩
      case round =>
        obtain ⟨j, hj, rfl, hu, hbk, hch⟩ := hrel
        have HU := Lib.hid hu
        have HK := Lib.hid hbk
        have HCH := Lib.hid hch
        clear hu hbk hch HX1 HX2
        have hbq : Below w.heap.size w wr := HBX.out.trans (HCH.out.below (fun x e => by rcases e with rfl | rfl <;> (have := HWS.out; omega)) HBX.out.size)
        have HBQ := Lib.hid hbq
        clear hbq
        by_cases e1 : j < r - 1
        · have e1' : (j : Int) < ((r - 1 : Nat) : Int) := by omega
          go_wp2_with fail
          refine (hmac_c A kn c key (some ⟨g, 0, none⟩) 32 32 (uN key s j) wr HN.out hl (HR.out.below HBQ.out) (uN_length _ _ _).symm (by rw [uN_length]; omega) (HU.out.rd (uN_length _ _ _) (uN_lt _ _ _))).mono ?_
          rintro e w4 ⟨rfl, hb4⟩
          obtain ⟨C, hC, hCn, hCi⟩ := bytesV_at (hmac key (uN key s j)) (hmac_length _ _)
          rw [hC]
          have HCN := Lib.hid hCn
          have HCI := Lib.hid hCi
          have hu4 := HU.out.of_block (hb4.block _ HU.out.lt)
          have hk4 : Row32 w4 (g + 1) (blN key s j) := HK.out.of_block (hb4.block _ HK.out.lt)
          have hc4 : Chg X w4 (fun x => x = g ∨ x = g + 1) := HCH.out.trans (Chg.of_below (S := fun _ => False) hb4 (fun k h1 h2 => by omega)) (fun x _ h => h.elim)
          obtain ⟨ds, hds, hdn, hdi⟩ := hu4
          have DS := Lib.hid hds
          have DN := Lib.hid hdn
          have HK4 := Lib.hid hk4
          have HC4 := Lib.hid hc4
          clear hC hCn hCi hb4 hds hdn hdi hk4 hc4 HU HK HCH HBQ
          go_wp2_with (refine wpList_store_row rfl 30 (.tmp 12) (.tmp 59) rfl g C rfl rfl 30 ds DS.out (by rw [HCN.out]; exact size32) (by rw [HCN.out, DN.out]) (bytes_oneCell HCN.out HCI.out) ?_)
          have hu5 : Row32 (w4.setRow g C) g (uN key s (j + 1)) := ⟨C, setRow_heap _ _ _ _ _ _ DS.out, HCN.out, HCI.out⟩
          have hg5 : w4.grownBy (w4.setRow g C) (some g) := ⟨rfl, rfl, rfl, by simp, fun k _ hne => setRow_other w4 g k _ (fun e => hne (by rw [e]))⟩
          have hk5 : Row32 (w4.setRow g C) (g + 1) (blN key s j) := HK4.out.of_block (hg5.block _ HK4.out.lt (by intro e; injection e with e; omega))
          have hc5 : Chg X (w4.setRow g C) (fun x => x = g ∨ x = g + 1) := HC4.out.trans (Chg.grown (S := fun x => x = g) hg5 (fun k e => by injection e with e; exact e.symm)) (fun x _ h => .inl h)
          generalize w4.setRow g C = Y at *
          have HU5 := Lib.hid hu5
          have HK5 := Lib.hid hk5
          have HC5 := Lib.hid hc5
          clear hu5 hg5 hk5 hc5 HK4 HC4 DS DN HCN HCI
          go_loopw [60] (fun v wz => ∃ i : Nat, i ≤ 32 ∧ v = .int .i64 i ∧ wz.rowIs (g + 1) 30 32 (fun q => .int .u8 (upd i (fun q => nth (blN key s j) q ^^^ nth (uN key s (j + 1)) q) (nth (blN key s j)) q : Nat)) ∧ Y.grownBy wz (some (g + 1))) (fun v _ => 32 - (intOf v).toNat)
          case atStart => exact ⟨0, by omega, rfl, HK5.out.congr (fun q _ => by rw [upd_zero]), grown_refl _ _⟩
          case round =>
            obtain ⟨i, hi, rfl, hro, hg⟩ := hrel
            have HRo := Lib.hid hro
            have HG := Lib.hid hg
            clear hro hg
            by_cases i32 : i < 32
            · have i32' : (i : Int) < 32 := by omega
              have hub := HU5.out.of_block (HG.out.block g HU5.out.lt (by intro e; injection e with e; omega))
              have c1 := HRo.out.cell i32
              have c2 : wr.cell? ⟨g, i, none⟩ = some (.int .u8 (nth (uN key s (j + 1)) i : Nat)) := hub.cell i32
              have x1 := HRo.out.frozen i
              rw [upd_ge _ _ (Nat.le_refl _)] at c1
              have hx := u8_xor_nat (nth (blN key s j) i) (nth (uN key s (j + 1)) i) (nth_lt (blN_lt _ _ _) i) (nth_lt (uN_lt _ _ _) i)
              obtain ⟨p1, hp1⟩ : ∃ p, p = nth (blN key s j) i := ⟨_, rfl⟩
              obtain ⟨p2, hp2⟩ : ∃ p, p = nth (uN key s (j + 1)) i := ⟨_, rfl⟩
              rw [← hp1] at c1 hx
              rw [← hp2] at c2 hx
              have HP := Lib.hid (show p1 ^^^ p2 = nth (blN key s j) i ^^^ nth (uN key s (j + 1)) i by rw [hp1, hp2])
              clear hub hp1 hp2
              go_upto_region 15 with fail
              refine wp_region_still_tail 8 (by kernel_rfl) (by kernel_rfl) ?_
              simp only [List.take_succ_cons, List.take_zero, List.drop_succ_cons, List.drop_zero]
              repeat still_step
              try refine wpStill_nil ?_
              have hzr : wr.drew.rowIs (g + 1) 30 32 (fun q => .int .u8 (upd i (fun q => nth (blN key s j) q ^^^ nth (uN key s (j + 1)) q) (nth (blN key s j)) q : Nat)) := HRo.out
              have hgz : Y.grownBy wr.drew (some (g + 1)) := ⟨HG.out.os, HG.out.tape, HG.out.output, HG.out.size, HG.out.block⟩
              have z1 := hzr.cell i32
              have z2 := hzr.frozen i
              clear c1 c2 x1
              change wpList _ _ _ _ _ wr.drew
              generalize wr.drew = Z at *
              have HZR := Lib.hid hzr
              have HGZ := Lib.hid hgz
              clear hzr hgz HRo HG
              go_wp2_with fail
              go_roundw
              case rel =>
                have hrow := row_upd8v HZR.out (congrArg (fun x : Nat => (x : Int)) HP.out)
                have hgr := grown_set (p := ⟨g + 1, i, none⟩) HGZ.out (.inl rfl) (.int .u8 ((p1 ^^^ p2 : Nat) : Int))
                first
                | exact ⟨i + 1, by omega, by go_num, hrow, hgr⟩
                | (repeat apply Exists.intro); refine ⟨⟨i + 1, by omega, by go_num, hrow, hgr⟩, rfl⟩
              case measure => simp [intOf]; omega
            · obtain rfl : i = 32 := by omega
              go_wp2_with fail
              have hub : Row32 wr g (uN key s (j + 1)) := HU5.out.of_block (HG.out.block g HU5.out.lt (by intro e; injection e with e; omega))
              have hkb : Row32 wr (g + 1) (blN key s (j + 1)) := HRo.out.congr fun q hq => by rw [upd_lt _ _ hq, blN, xorL_nth _ _ hq]
              have hch : Chg X wr (fun x => x = g ∨ x = g + 1) := HC5.out.trans (Chg.grown (S := fun x => x = g + 1) HG.out (fun k e => by injection e with e; exact e.symm)) (fun x _ h => .inr h)
              exact ⟨⟨j + 1, by omega, by go_num, hub, hkb, hch⟩, by simp [intOf]; omega⟩
        · obtain rfl : j = r - 1 := by omega
          have e1' : ¬ ((r - 1 : Nat) : Int) < ((r - 1 : Nat) : Int) := by omega
          have hot : Ow wr w.heap.size (.slice A10 (32 * (k - 1)) c10) (pbAll key salt (r - 1) (k - 1)) := HOX.out.keepb' fun x e => HCH.out.block x (HOX.out.lt x e).2 (by have := HSZ.out x e; rintro (rfl | rfl) <;> omega)
          have HOT := Lib.hid hot
          have hrd := HK.out.rd (blN_length _ _ _) (blN_lt _ _ _)
          have HRD := Lib.hid hrd
          have hpk : pbAll key salt (r - 1) (k + 1 - 1) = pbAll key salt (r - 1) (k - 1) ++ blN key s (r - 1) := by
            obtain ⟨k', rfl⟩ : ∃ k', k = k' + 1 := ⟨k - 1, by omega⟩
            rw [HSS.out]
            rfl
          have HPK := Lib.hid hpk
          clear hot hrd hpk HOX HU HK HCH
          go_wp2_with (at_builtin; refine append_bytes (.tmp 73) (.tmp 74) rfl rfl rfl HOT.out (some ⟨g + 1, 0, none⟩) 32 32 (blN key s (r - 1)) rfl (blN_length _ _ _).symm HRD.out (by rw [pbAll_length, blN_length]; omega) HBQ.out.size ?_; intro v5 w5 ho5 hg5 ha5; have HO5 := Lib.hid ho5; have HB5 := Lib.hid (HBQ.out.grown hg5 HBQ.out.size (fun x e => (HOT.out.lt x e).1)); clear ho5 hg5 ha5)
          exact ⟨⟨k + 1, by omega, by omega, by go_num, by rw [HPK.out]; exact HO5.out, HB5.out⟩, by simp [intOf]; omega⟩
    · have e0' : ¬ ((32 * (k - 1) : Nat) : Int) < n := by omega
      have hc1 : (n : Int) ≤ c10 := by omega
      have hc2 : n ≤ c10 := by omega
      go_wp2_with fail
      have hkk : k - 1 = (n + 31) / 32 := by omega
      go_ret2
      exact ⟨A10, c10, rfl, hc2, by rw [← hkk]; exact rd_take H10.out n, HBW.out⟩
end Go.Proofs.Ytbnhjhdbjffnkab
