/-
  THE WALK OF quillpressref02.Of: it answers twenty bytes. Conditions: the bytes read.
-/
import Derived.Test.YtlhbijpmhokmnaaGreatQ37
import Derived.Test.YtlhbijpmhokmnaaGreatQ38
import Derived.BigQuiet
namespace Go.Proofs.YtlhbijpmhokmnaaGreat
open Go.RowKit
set_option linter.unusedSimpArgs false
set_option linter.unusedVariables false

def tnX (k m : Int) (x : Int) : Int := (x * k % 4294967296 + x / m) % 4294967296
theorem turn_1 (x : Int) (w : World) : Calls Tryz.prog 92 #[.int .u32 x, .int .u64 1] w fun e w' => e = .returned (.int .u32 (tnX 2 2147483648 x)) ∧ w' = w := by
  go_enter Tryz.func92, Tryz.ntmps92
  go_wp2
  go_ret
  exact ⟨rfl, rfl⟩
theorem turn_5 (x : Int) (w : World) : Calls Tryz.prog 92 #[.int .u32 x, .int .u64 5] w fun e w' => e = .returned (.int .u32 (tnX 32 134217728 x)) ∧ w' = w := by
  go_enter Tryz.func92, Tryz.ntmps92
  go_wp2
  go_ret
  exact ⟨rfl, rfl⟩
theorem turn_30 (x : Int) (w : World) : Calls Tryz.prog 92 #[.int .u32 x, .int .u64 30] w fun e w' => e = .returned (.int .u32 (tnX 1073741824 4 x)) ∧ w' = w := by
  go_enter Tryz.func92, Tryz.ntmps92
  go_wp2
  go_ret
  exact ⟨rfl, rfl⟩
theorem tnX_nat (k m x : Int) : ∃ n : Nat, tnX k m x = n ∧ n < 4294967296 := ⟨(tnX k m x).toNat, by unfold tnX; omega, by unfold tnX; omega⟩
theorem tnX_toNat (k m x : Int) : tnX k m x = ((tnX k m x).toNat : Nat) := by unfold tnX; omega
theorem tnX_lt (k m x : Int) : (tnX k m x).toNat < 4294967296 := by unfold tnX; omega
def H5 (w : World) (g : Nat) : Prop := g < w.heap.size ∧ ∃ a b c d e : Int, w.cell? ⟨g, 0, none⟩ = some (.int .u32 a) ∧ w.cell? ⟨g, 1, none⟩ = some (.int .u32 b) ∧ w.cell? ⟨g, 2, none⟩ = some (.int .u32 c) ∧ w.cell? ⟨g, 3, none⟩ = some (.int .u32 d) ∧ w.cell? ⟨g, 4, none⟩ = some (.int .u32 e)
theorem h5_new (w : World) (a b c d e : Int) : H5 (w.alloc (.cells #[.int .u32 a, .int .u32 b, .int .u32 c, .int .u32 d, .int .u32 e] 92)) w.heap.size := by
  refine ⟨by simp, a, b, c, d, e, ?_, ?_, ?_, ?_, ?_⟩ <;> (rw [cell_of_row _ _ _ _ _ _ (heap_alloc_new w _)]; rfl)
theorem H5.below {w w' : World} {g : Nat} (h : H5 w g) (hb : Below w.heap.size w w') : H5 w' g := by
  obtain ⟨h1, a, b, c, d, e, q0, q1, q2, q3, q4⟩ := h
  exact ⟨Nat.lt_of_lt_of_le h1 hb.size, a, b, c, d, e, (hb.cell (p := ⟨g, 0, none⟩) h1).trans q0, (hb.cell (p := ⟨g, 1, none⟩) h1).trans q1, (hb.cell (p := ⟨g, 2, none⟩) h1).trans q2, (hb.cell (p := ⟨g, 3, none⟩) h1).trans q3, (hb.cell (p := ⟨g, 4, none⟩) h1).trans q4⟩
theorem H5.any {w : World} {g : Nat} (h : H5 w g) {i : Nat} (hi : i < 5) : ∃ z : Int, w.cell? ⟨g, i, none⟩ = some (.int .u32 z) := by
  obtain ⟨h1, a, b, c, d, e, q0, q1, q2, q3, q4⟩ := h
  match i, hi with
  | 0, _ => exact ⟨_, q0⟩
  | 1, _ => exact ⟨_, q1⟩
  | 2, _ => exact ⟨_, q2⟩
  | 3, _ => exact ⟨_, q3⟩
  | 4, _ => exact ⟨_, q4⟩
/-- A row of bytes, whichever. -/
def Rb (w : World) (g t n : Nat) : Prop := ∃ f : Nat → Nat, (∀ j, f j < 256) ∧ w.rowIs g t n (fun j => .int .u8 (f j : Nat))
theorem Rb.set {w : World} {g t n : Nat} (h : Rb w g t n) (j : Nat) (x : Int) (h0 : 0 ≤ x) (h1 : x < 256) : Rb (w.setCell ⟨g, j, none⟩ (.int .u8 x)) g t n := by
  obtain ⟨f, hf, hr⟩ := h
  refine ⟨fun i => if i = j then x.toNat else f i, fun i => ?_, (hr.set j _).congr fun i hi => ?_⟩
  · show (if i = j then x.toNat else f i) < 256
    split
    · omega
    · exact hf i
  · by_cases e : i = j
    · subst e
      simp only [if_true]
      rw [Int.toNat_of_nonneg h0]
    · simp only [if_neg e]
set_option maxRecDepth 100000 in
/-- An append to words of the call's own: what was there still reads so. -/
theorem w32_app {w : World} {base g c : Nat} {l : List Nat} {v : Value} (hv : v = .slice (some ⟨g, 0, none⟩) l.length c) (hown : W32.Ow w base v l) (ty : TypeId) (b : Addr) (cp x : Nat) (hx : w.cell? b = some (.int .u32 (x : Nat))) (hxl : x < 4294967296) (hn : l.length + 1 ≤ 35184372088832) (hbase : base ≤ w.heap.size) :
    ∃ v' w', (Builtin.append_ #[120, 120] ty #[v, .slice (some b) 1 cp]).run Tryz.prog w = .ok v' w' ∧ W32.Ow w' base v' (l ++ [x]) ∧ w.grownBy w' (some g) ∧ W32.Rd w' (some ⟨g, 0, none⟩) l := by
  have hbo := World.cell?_spot hx
  have hnews : ∀ j u, (W32.bs [x])[j]? = some u → w.cell? (b.add j) = some u := by
    intro j u hu
    match j, hu with
    | 0, hu =>
      injection hu with hu
      subst hu
      rw [show b.add 0 = b from by cases b; rfl]
      exact hx
  have hlen : (W32.bs [x]).length = 1 := rfl
  have hr : W32.Rd w (some b) [x] := ⟨by simpa using hxl, fun _ => ⟨b.block, b.off, by cases b; simp at hbo; subst hbo; rfl, block_lt_of_cell hx, fun i hi => by
    have : i = 0 := by simpa using hi
    subst this
    rw [show (⟨b.block, b.off + 0, none⟩ : Addr) = b from by cases b; simp at hbo; subst hbo; rfl]
    exact hx⟩⟩
  obtain ⟨v', w', hrun, h2, h3, h4⟩ := W32.run_append_bytes ty hown (some b) cp [x] hr hn hbase
  have hob : v.ownBlock = some g := by rw [hv]; rfl
  rw [hob] at h3
  refine ⟨v', w', hrun, h2, h3, ?_⟩
  obtain ⟨i, hi, hz, hs, hb⟩ := info_parts W32.info_u8
  rcases hown.2.2 with ⟨e, h0⟩ | ⟨g', cap, cur, e, hg', hh, hnc, hcm, hcs, hct⟩
  · rw [hv] at e; cases e
  · rw [hv] at e
    injection e with e1 e2 e3
    injection e1 with e1
    injection e1 with e1
    subst e1; subst e3
    by_cases hroom : l.length + 1 ≤ c
    · have hr2 := run_append_room (P := Tryz.prog) w 120 ty 92 i Tryz.underlying120 hi g l.length c cur hh b 1 cp (W32.bs [x]) (by rw [hs, hlen]) hnews (W32.bs_oneCell [x]) hroom (by rw [hs, hlen, hcs]; omega)
      rw [hv] at hrun
      have hrr := hrun.symm.trans hr2
      injection hrr with hrr1 hrr2
      have hf := h2.form
      obtain ⟨A', c', e', -, -, hrd⟩ := hf
      rw [hrr1] at e'
      injection e' with e1' e2' e3'
      subst e1'
      exact ⟨hown.1, fun hl => by
        obtain ⟨g2, o2, eg, hlt, hc2⟩ := hrd.2 (by simp)
        refine ⟨g2, o2, eg, hlt, fun i hi => ?_⟩
        rw [hc2 i (by rw [List.length_append]; omega)]
        congr 3
        exact nth_app_left _ _ _ hi⟩
    · have hl0 : l ≠ [] ∨ l = [] := by cases l <;> simp
      obtain ⟨v2, w2, hr2, -, hg2⟩ := run_append_arg_grows (P := Tryz.prog) w 120 ty 92 i (.int .u32 0) 1 4 Tryz.underlying120 hi hz hs hb rfl (by omega) ⟨g, 0, none⟩ l.length c (W32.bs l) (by rw [W32.bs_length, Nat.mul_one])
        (fun j u hu => by
          have hj : j < l.length := by have := (List.getElem?_eq_some_iff.1 hu).1; simpa [W32.bs_length] using this
          have hof := hown.2.cells (g := g) hob j u hu
          exact hof) b 1 cp (W32.bs [x]) (by rw [hlen]) hnews (by omega) (by unfold maxLen; omega) (by omega)
      rw [hv] at hrun
      have hrr := hrun.symm.trans hr2
      injection hrr with hrr1 hrr2
      subst hrr2
      have hbe : Below w.heap.size w w' := ⟨hg2.os, hg2.tape, hg2.output, hg2.size, fun k hk => hg2.block k hk (fun e => by cases e)⟩
      obtain ⟨A', c', e', -, -, hrd⟩ := hown.form
      rw [hv] at e'
      injection e' with e1' e2' e3'
      subst e1'
      exact hrd.below hbe
section
variable {W : World} {ops : Array Oper} {o : Oper} {a : Act} {K : Act → World → Prop} {Q : Exit → Act → World → Prop} {E : Prop}
theorem w32_step (s x : Operand) (hgd : o.guard = none) (ho : o.op = .call { callee := .builtin .append, args := #[s, x], argTypes := #[120, 120] })
    {base g c : Nat} {l : List Nat} {v : Value} (hs : a.eval s = v) (hv : v = .slice (some ⟨g, 0, none⟩) l.length c) (hown : W32.Ow W base v l) (b : Addr) (cp y : Nat) (hx : a.eval x = .slice (some b) 1 cp) (hc : W.cell? b = some (.int .u32 (y : Nat))) (hyl : y < 4294967296) (hn : l.length + 1 ≤ 35184372088832) (hbase : base ≤ W.heap.size)
    (h : ∀ v' w', W32.Ow w' base v' (l ++ [y]) → W.grownBy w' (some g) → W32.Rd w' (some ⟨g, 0, none⟩) l → K (a.put o.dst v') w') :
    if Region.wanted o (yielded ops a.tmps) = true then Oper.wp Tryz.prog o a W K Q else E := by
  have hw : Region.wanted o (yielded ops a.tmps) = true := by simp [Region.wanted, hgd]
  rw [if_pos hw]
  obtain ⟨v', w', hrun, h2, h3, h4⟩ := w32_app hv hown o.type b cp y hc hyl hn hbase
  unfold Oper.wp execOp
  simp only [ho, resolve, invoke, builtin, Sem.run_bind, Sem.run_pure, Result.andThen_ok, List.map_toArray, List.map_cons, List.map_nil, hs, hx, hrun]
  exact h v' w' h2 h3 h4
end
set_option maxRecDepth 100000 in
set_option maxHeartbeats 8000000 in
theorem rof_any (A : Option Addr) (c : Nat) (m : List Nat) (w : World) (hm : m.length ≤ 17592186044416) (hr : Rd w A m) :
    Calls Tryz.prog 78 #[.slice A m.length c] w fun e w' => ∃ l : List Nat, e = .returned (bytesV l) ∧ l.length = 20 ∧ (∀ x ∈ l, x < 256) ∧ Below w.heap.size w w' := by
  have HR := Lib.hid hr
  clear hr
  go_enter Tryz.func78, Tryz.ntmps78
  go_wp2_with fail
  obtain ⟨hb0, hr0⟩ := one_out5 w
  generalize w.alloc (.cells #[.int .u8 0, .int .u8 0, .int .u8 0, .int .u8 0, .int .u8 0, .int .u8 0, .int .u8 0, .int .u8 0, .int .u8 0, .int .u8 0, .int .u8 0, .int .u8 0, .int .u8 0, .int .u8 0, .int .u8 0, .int .u8 0, .int .u8 0, .int .u8 0, .int .u8 0, .int .u8 0] 96) = W at *
  have HB0 := Lib.hid hb0
  have HR0 := Lib.hid hr0
  have HRW := Lib.hid (HR.out.below hb0)
  clear hb0 hr0 HR
  refine (padded_any A c m W HRW.out (by omega)).mono ?_
  rintro e w1 ⟨vp, rfl, hop, hb1⟩
  obtain ⟨AP, cp, rfl, -, -, hrp⟩ := hop.form
  obtain ⟨P, hP⟩ : ∃ P, P = padded m := ⟨_, rfl⟩
  have hPl : P.length ≤ m.length + 200 := by
    rw [hP]
    unfold padded padZ
    simp [be8_length]
    omega
  have hP64 : P.length % 64 = 0 := by rw [hP]; exact padded_length m
  rw [← hP] at hrp ⊢
  have HP64 := Lib.hid hP64
  clear hP64 hP
  have HRP := Lib.hid hrp
  have HB1 := Lib.hid hb1
  clear hop hrp hb1
  go_upto_region 3 with fail
  have hh := h5_new w1 1732584193 4023233417 2562383102 271733878 3285377520
  have hbh : Below W.heap.size W (w1.alloc (.cells #[.int .u32 1732584193, .int .u32 4023233417, .int .u32 2562383102, .int .u32 271733878, .int .u32 3285377520] 92)) := HB1.out.alloc HB1.out.size _
  have hrh := HRP.out.alloc (.cells #[.int .u32 1732584193, .int .u32 4023233417, .int .u32 2562383102, .int .u32 271733878, .int .u32 3285377520] 92)
  change Code.wp _ _ _ _ (w1.alloc (.cells #[.int .u32 1732584193, .int .u32 4023233417, .int .u32 2562383102, .int .u32 271733878, .int .u32 3285377520] 92))
  generalize w1.alloc (.cells #[.int .u32 1732584193, .int .u32 4023233417, .int .u32 2562383102, .int .u32 271733878, .int .u32 3285377520] 92) = X at *
  have HHX := Lib.hid hh
  have HBX := Lib.hid hbh
  have HPX := Lib.hid hrh
  clear hh hbh hrh HRP HB1
  generalize w1.heap.size = gh0 at *
  go_wp2_with fail
  go_loopw [4, 5] (fun vh v wr => ∃ (i gh : Nat), 64 * i ≤ P.length ∧ v = .int .i64 ((64 * i : Nat) : Int) ∧ vh = .slice (some ⟨gh, 0, none⟩) 5 5 ∧ H5 wr gh ∧ Below X.heap.size X wr) (fun _ v _ => P.length - (intOf v).toNat)
  case atStart => exact ⟨0, gh0, by omega, rfl, rfl, HHX.out, Below.refl _ _⟩
  case round =>
    obtain ⟨i, gh, hi, rfl, rfl, hh, hb⟩ := hrel
    have HH := Lib.hid hh
    have HB := Lib.hid hb
    clear hh hb HHX
    by_cases e0 : 64 * i < P.length
    · have e0' : 64 * (i : Int) < P.length := by omega
      have hroom : 64 * i + 64 ≤ P.length := by have := HP64.out; omega
      go_wp2_with fail
      generalize hwz : wr = Z at *
      clear hwz
      go_loopw [6, 7] (fun v7 v wq => ∃ (t : Nat) (L : List Nat), t ≤ 80 ∧ v = .int .i64 t ∧ L.length = t ∧ W32.Ow wq Z.heap.size v7 L ∧ Below Z.heap.size Z wq) (fun _ v _ => 80 - (intOf v).toNat)
      case atStart => exact ⟨0, [], by omega, rfl, rfl, W32.Ow.nil _ _, Below.refl _ _⟩
      case round =>
        obtain ⟨t, L, ht, rfl, hLL, ho, hb2⟩ := hrel
        obtain ⟨A7, c7, rfl, hc7, -, hr7⟩ := ho.form
        rw [hLL] at hc7 ⊢
        have HLL := Lib.hid hLL
        have hbs := hb2.size
        have HO := Lib.hid ho
        have HB2 := Lib.hid hb2
        have HR7 := Lib.hid hr7
        clear ho hb2 hr7 hLL
        by_cases t16 : t < 16
        · have k1 : IntKind.i64.wrap (64 * (i : Int) + 4 * t) = 64 * i + 4 * t := by simp [IntKind.wrap, IntKind.signed, IntKind.bits]; omega
          have hpq := HPX.out.below (HB.out.trans (HB2.out.mono HB.out.size))
          have hw4 := word_any AP cp (64 * i + 4 * t) P wr hpq (by omega) (by omega)
          rw [show (((64 * i + 4 * t : Nat) : Int)) = 64 * (i : Int) + 4 * t by omega] at hw4
          have hxl : be4 P (64 * i + 4 * t) < 4294967296 := be4_lt hpq.1 _
          have HW4 := Lib.hid hw4
          clear hpq hw4
          have t16' : (t : Int) < 16 := by omega
          have t80' : (t : Int) < 80 := by omega
          go_wp2_with fail
          refine HW4.out.mono ?_
          rintro e w' ⟨rfl, rfl⟩
          have hO' : W32.Ow wr Z.heap.size (.slice A7 t c7) L := by have := HO.out; rw [HLL.out] at this; exact this
          have HO' := Lib.hid hO'
          clear hO'
          go_wp2_with (at_builtin; refine W32.append_new (.tmp 34) (.tmp 41) rfl rfl _ _ _ (be4 P (64 * i + 4 * t)) rfl rfl HO'.out rfl hxl (by rw [HLL.out]; omega) hbs ?_; intro v1 w1 ho1 hg1 ha1; have HO1 := Lib.hid ho1; have HG1 := Lib.hid hg1; clear ho1 hg1 ha1)
          go_roundw
          case rel =>
            repeat apply Exists.intro
            refine ⟨⟨t + 1, _, by omega, by go_num, ?_, HO1.out, HB2.out.grown HG1.out hbs (fun x e => (HO'.out.lt x e).1)⟩, rfl⟩
            rw [List.length_append, HLL.out]; rfl
          case measure => simp [intOf]; omega
        · by_cases t80 : t < 80
          · have e3 : IntKind.i64.wrap ((t : Int) - 3) = ((t - 3 : Nat) : Int) := by simp [IntKind.wrap, IntKind.signed, IntKind.bits]; omega
            have e8 : IntKind.i64.wrap ((t : Int) - 8) = ((t - 8 : Nat) : Int) := by simp [IntKind.wrap, IntKind.signed, IntKind.bits]; omega
            have e14 : IntKind.i64.wrap ((t : Int) - 14) = ((t - 14 : Nat) : Int) := by simp [IntKind.wrap, IntKind.signed, IntKind.bits]; omega
            have e16 : IntKind.i64.wrap ((t : Int) - 16) = ((t - 16 : Nat) : Int) := by simp [IntKind.wrap, IntKind.signed, IntKind.bits]; omega
            have m3 : ((t - 3 : Nat) : Int) < t := by omega
            have m8 : ((t - 8 : Nat) : Int) < t := by omega
            have m14 : ((t - 14 : Nat) : Int) < t := by omega
            have m16 : ((t - 16 : Nat) : Int) < t := by omega
            have m4 : (t : Int) < 80 := by omega
            have m5 : ¬ (t : Int) < 16 := by omega
            obtain ⟨g7, cc7, ev7, -, -, hg7, -⟩ := HO.out.form0 (by intro e; have := HLL.out; rw [e] at this; simp at this; omega)
            injection ev7 with ev1 ev2 ev3
            subst ev1; subst ev3
            obtain ⟨g7', o7', eg7, -, hc7'⟩ := HR7.out.2 (by intro e; have := HLL.out; rw [e] at this; simp at this; omega)
            injection eg7 with eg7
            injection eg7 with eg1 eg2
            subst eg1; subst eg2
            simp only [Nat.zero_add] at hc7'
            obtain ⟨a3, h3⟩ : ∃ a, a = nth L (t - 3) := ⟨_, rfl⟩
            obtain ⟨a8, h8⟩ : ∃ a, a = nth L (t - 8) := ⟨_, rfl⟩
            obtain ⟨a14, h14⟩ : ∃ a, a = nth L (t - 14) := ⟨_, rfl⟩
            obtain ⟨a16, h16⟩ : ∃ a, a = nth L (t - 16) := ⟨_, rfl⟩
            have hof : ∀ W, W32.Rd W (some ⟨g7, 0, none⟩) L → W.cell? ⟨g7, t - 3, none⟩ = some (.int .u32 a3) ∧ W.cell? ⟨g7, t - 8, none⟩ = some (.int .u32 a8) ∧ W.cell? ⟨g7, t - 14, none⟩ = some (.int .u32 a14) ∧ W.cell? ⟨g7, t - 16, none⟩ = some (.int .u32 a16) := by
              intro W hW
              obtain ⟨g8, o8, eg8, -, hc8⟩ := hW.2 (by intro e; have := HLL.out; rw [e] at this; simp at this; omega)
              injection eg8 with eg8
              injection eg8 with eg1 eg2
              subst eg1; subst eg2
              simp only [Nat.zero_add] at hc8
              exact ⟨by rw [h3]; exact hc8 _ (by rw [HLL.out]; omega), by rw [h8]; exact hc8 _ (by rw [HLL.out]; omega), by rw [h14]; exact hc8 _ (by rw [HLL.out]; omega), by rw [h16]; exact hc8 _ (by rw [HLL.out]; omega)⟩
            have HOF := Lib.hid hof
            have hO' : W32.Ow wr.drew Z.heap.size (.slice (some ⟨g7, 0, none⟩) t c7) L := by have := HO.out.drew; rw [HLL.out] at this; exact this
            have HO' := Lib.hid hO'
            have hbd : Below Z.heap.size Z wr.drew := ⟨HB2.out.os, HB2.out.tape, HB2.out.output, HB2.out.size, HB2.out.block⟩
            have HBD := Lib.hid hbd
            have HR7d : Hid (W32.Rd wr.drew (some ⟨g7, 0, none⟩) L) := HR7.out.drew
            have hbs' : Z.heap.size ≤ wr.drew.heap.size := hbs
            clear h3 h8 h14 h16 hc7' HR7 hof hO' hbd HO HB2 hbs
            go_upto_region 12 with fail
            refine wp_region_held_drew (S := fun W => W.cell? ⟨g7, t - 3, none⟩ = some (.int .u32 a3) ∧ W.cell? ⟨g7, t - 8, none⟩ = some (.int .u32 a8) ∧ W.cell? ⟨g7, t - 14, none⟩ = some (.int .u32 a14) ∧ W.cell? ⟨g7, t - 16, none⟩ = some (.int .u32 a16)) (by kernel_rfl) (HOF.out _ HR7d.out) (fun hHeld => ?_)
            generalize wr.drew = Y at *
            refine takeL (i := 0) (v := ?_) rfl (by kernel_rfl) (by kernel_rfl) (by kernel_rfl) (fun _ _ _ h => h) (Or.inl ⟨by rfl, ?_⟩) (by assumption) ?_
            rotate_left 1
            · (intro w hSw; (try dsimp only at hSw); go_simp; try with_reducible rfl)
            try simp only [Act.put, List.setIfInBounds_toArray, List.set_cons_zero, List.set_cons_succ]
            refine takeL (i := 1) (v := ?_) rfl (by kernel_rfl) (by kernel_rfl) (by kernel_rfl) (fun _ _ _ h => h) (Or.inl ⟨by rfl, ?_⟩) (by assumption) ?_
            rotate_left 1
            · (intro w hSw; (try dsimp only at hSw); go_simp; try with_reducible rfl)
            try simp only [Act.put, List.setIfInBounds_toArray, List.set_cons_zero, List.set_cons_succ]
            refine takeL (i := 2) (v := ?_) rfl (by kernel_rfl) (by kernel_rfl) (by kernel_rfl) (fun _ _ _ h => h) (Or.inl ⟨by rfl, ?_⟩) (by assumption) ?_
            rotate_left 1
            · (intro w hSw; (try dsimp only at hSw); go_simp; try with_reducible rfl)
            try simp only [Act.put, List.setIfInBounds_toArray, List.set_cons_zero, List.set_cons_succ]
            refine takeL (i := 3) (v := ?_) rfl (by kernel_rfl) (by kernel_rfl) (by kernel_rfl) (fun _ _ _ h => h) (Or.inl ⟨by rfl, ?_⟩) (by assumption) ?_
            rotate_left 1
            · (intro w hSw; (try dsimp only at hSw); go_simp; try with_reducible rfl)
            try simp only [Act.put, List.setIfInBounds_toArray, List.set_cons_zero, List.set_cons_succ]
            refine takeL (i := 4) (v := ?_) rfl (by kernel_rfl) (by kernel_rfl) (by kernel_rfl) (fun _ _ _ h => h) (Or.inl ⟨by rfl, ?_⟩) (by assumption) ?_
            rotate_left 1
            · (intro w hSw; (try dsimp only at hSw); go_simp; try with_reducible rfl)
            try simp only [Act.put, List.setIfInBounds_toArray, List.set_cons_zero, List.set_cons_succ]
            refine takeL (i := 5) (v := ?_) rfl (by kernel_rfl) (by kernel_rfl) (by kernel_rfl) (fun _ _ _ h => h) (Or.inl ⟨by rfl, ?_⟩) (by assumption) ?_
            rotate_left 1
            · (intro w hSw; (try dsimp only at hSw); go_simp; try with_reducible rfl)
            try simp only [Act.put, List.setIfInBounds_toArray, List.set_cons_zero, List.set_cons_succ]
            refine takeL (i := 6) (v := ?_) rfl (by kernel_rfl) (by kernel_rfl) (by kernel_rfl) (fun _ _ _ h => h) (Or.inl ⟨by rfl, ?_⟩) (by assumption) ?_
            rotate_left 1
            · (intro w hSw; (try dsimp only at hSw); go_simp; try with_reducible rfl)
            try simp only [Act.put, List.setIfInBounds_toArray, List.set_cons_zero, List.set_cons_succ]
            refine takeL (i := 7) (v := ?_) rfl (by kernel_rfl) (by kernel_rfl) (by kernel_rfl) (fun _ _ _ h => h) (Or.inl ⟨by rfl, ?_⟩) (by assumption) ?_
            rotate_left 1
            · (intro w hSw; (try dsimp only at hSw); go_simp; try with_reducible rfl)
            try simp only [Act.put, List.setIfInBounds_toArray, List.set_cons_zero, List.set_cons_succ]
            refine takeL (i := 8) (v := ?_) rfl (by kernel_rfl) (by kernel_rfl) (by kernel_rfl) (fun _ _ _ h => h) (Or.inl ⟨by rfl, ?_⟩) (by assumption) ?_
            rotate_left 1
            · (intro w hSw; (try dsimp only at hSw); go_simp; try with_reducible rfl)
            try simp only [Act.put, List.setIfInBounds_toArray, List.set_cons_zero, List.set_cons_succ]
            refine takeL (i := 9) (v := ?_) rfl (by kernel_rfl) (by kernel_rfl) (by kernel_rfl) (fun _ _ _ h => h) (Or.inl ⟨by rfl, ?_⟩) (by assumption) ?_
            rotate_left 1
            · (intro w hSw; (try dsimp only at hSw); go_simp; try with_reducible rfl)
            try simp only [Act.put, List.setIfInBounds_toArray, List.set_cons_zero, List.set_cons_succ]
            refine takeL (i := 10) (v := ?_) rfl (by kernel_rfl) (by kernel_rfl) (by kernel_rfl) (fun _ _ _ h => h) (Or.inl ⟨by rfl, ?_⟩) (by assumption) ?_
            rotate_left 1
            · (intro w hSw; (try dsimp only at hSw); go_simp; try with_reducible rfl)
            try simp only [Act.put, List.setIfInBounds_toArray, List.set_cons_zero, List.set_cons_succ]
            refine takeL (i := 11) (v := ?_) rfl (by kernel_rfl) (by kernel_rfl) (by kernel_rfl) (fun _ _ _ h => h) (Or.inl ⟨by rfl, ?_⟩) (by assumption) ?_
            rotate_left 1
            · (intro w hSw; (try dsimp only at hSw); go_simp; try with_reducible rfl)
            try simp only [Act.put, List.setIfInBounds_toArray, List.set_cons_zero, List.set_cons_succ]
            refine takeL (i := 12) (v := ?_) rfl (by kernel_rfl) (by kernel_rfl) (by kernel_rfl) (fun _ _ _ h => h) (Or.inl ⟨by rfl, ?_⟩) (by assumption) ?_
            rotate_left 1
            · (intro w hSw; (try dsimp only at hSw); go_simp; try with_reducible rfl)
            try simp only [Act.put, List.setIfInBounds_toArray, List.set_cons_zero, List.set_cons_succ]
            refine takeL (i := 13) (v := ?_) rfl (by kernel_rfl) (by kernel_rfl) (by kernel_rfl) (fun _ _ _ h => h) (Or.inl ⟨by rfl, ?_⟩) (by assumption) ?_
            rotate_left 1
            · (intro w hSw; (try dsimp only at hSw); go_simp; try with_reducible rfl)
            try simp only [Act.put, List.setIfInBounds_toArray, List.set_cons_zero, List.set_cons_succ]
            refine takeL (i := 14) (v := ?_) rfl (by kernel_rfl) (by kernel_rfl) (by kernel_rfl) (fun _ _ _ h => h) (Or.inl ⟨by rfl, ?_⟩) (by assumption) ?_
            rotate_left 1
            · (intro w hSw; (try dsimp only at hSw); go_simp; try with_reducible rfl)
            try simp only [Act.put, List.setIfInBounds_toArray, List.set_cons_zero, List.set_cons_succ]
            refine takeL (i := 15) (v := ?_) rfl (by kernel_rfl) (by kernel_rfl) (by kernel_rfl) (fun _ _ _ h => h) (Or.inl ⟨by rfl, ?_⟩) (by assumption) ?_
            rotate_left 1
            · (intro w hSw; (try dsimp only at hSw); go_simp; try with_reducible rfl)
            try simp only [Act.put, List.setIfInBounds_toArray, List.set_cons_zero, List.set_cons_succ]
            refine takeL (i := 16) (v := ?_) rfl (by kernel_rfl) (by kernel_rfl) (by kernel_rfl) (fun _ _ _ h => h) (Or.inl ⟨by rfl, ?_⟩) (by assumption) ?_
            rotate_left 1
            · (intro w hSw; (try dsimp only at hSw); go_simp; try with_reducible rfl)
            try simp only [Act.put, List.setIfInBounds_toArray, List.set_cons_zero, List.set_cons_succ]
            refine takeL (i := 17) (v := ?_) rfl (by kernel_rfl) (by kernel_rfl) (by kernel_rfl) (fun _ _ _ h => h) (Or.inl ⟨by rfl, ?_⟩) (by assumption) ?_
            rotate_left 1
            · (intro w hSw; (try dsimp only at hSw); go_simp; try with_reducible rfl)
            try simp only [Act.put, List.setIfInBounds_toArray, List.set_cons_zero, List.set_cons_succ]
            refine takeL (i := 18) (v := ?_) rfl (by kernel_rfl) (by kernel_rfl) (by kernel_rfl) (fun _ _ _ h => h) (Or.inl ⟨by rfl, ?_⟩) (by assumption) ?_
            rotate_left 1
            · (intro w hSw; (try dsimp only at hSw); go_simp; try with_reducible rfl)
            try simp only [Act.put, List.setIfInBounds_toArray, List.set_cons_zero, List.set_cons_succ]
            refine takeL (i := 19) (v := ?_) rfl (by kernel_rfl) (by kernel_rfl) (by kernel_rfl) (fun _ _ _ h => h) (Or.inl ⟨by rfl, ?_⟩) (by assumption) ?_
            rotate_left 1
            · (intro w hSw; (try dsimp only at hSw); go_simp; try with_reducible rfl)
            try simp only [Act.put, List.setIfInBounds_toArray, List.set_cons_zero, List.set_cons_succ]
            refine takeL (i := 20) (v := ?_) rfl (by kernel_rfl) (by kernel_rfl) (by kernel_rfl) (fun _ _ _ h => h) (Or.inl ⟨by rfl, ?_⟩) (by assumption) ?_
            rotate_left 1
            · (intro w hSw; (try dsimp only at hSw); go_simp; try with_reducible rfl)
            try simp only [Act.put, List.setIfInBounds_toArray, List.set_cons_zero, List.set_cons_succ]
            refine takeL (i := 21) (v := ?_) rfl (by kernel_rfl) (by kernel_rfl) (by kernel_rfl) (fun _ _ _ h => h) (Or.inl ⟨by rfl, ?_⟩) (by assumption) ?_
            rotate_left 1
            · (intro w hSw; (try dsimp only at hSw); go_simp; try with_reducible rfl)
            try simp only [Act.put, List.setIfInBounds_toArray, List.set_cons_zero, List.set_cons_succ]
            refine takeL (i := 22) (v := ?_) rfl (by kernel_rfl) (by kernel_rfl) (by kernel_rfl) (fun _ _ _ h => h) (Or.inl ⟨by rfl, ?_⟩) (by assumption) ?_
            rotate_left 1
            · (intro w hSw; (try dsimp only at hSw); go_simp; try with_reducible rfl)
            try simp only [Act.put, List.setIfInBounds_toArray, List.set_cons_zero, List.set_cons_succ]
            refine takeL (i := 23) (v := ?_) rfl (by kernel_rfl) (by kernel_rfl) (by kernel_rfl) (fun _ _ _ h => h) (Or.inl ⟨by rfl, ?_⟩) (by assumption) ?_
            rotate_left 1
            · (intro w hSw; (try dsimp only at hSw); go_simp; try with_reducible rfl)
            try simp only [Act.put, List.setIfInBounds_toArray, List.set_cons_zero, List.set_cons_succ]
            refine oneL (i := 24) rfl (by kernel_rfl) (fun K hK => ?_)
            go_simp
            refine (turn_1 _ _).mono ?_
            rintro e w' ⟨rfl, rfl⟩
            (try go_wp2_with fail)
            refine hK.out _ _ ?_ (fun hHeld => ?_)
            · exact HOF.out _ HR7d.out
            clear hK K
            try simp only [Act.put, List.setIfInBounds_toArray, List.set_cons_zero, List.set_cons_succ]
            refine oneL (i := 25) rfl (by kernel_rfl) (fun K hK => ?_)
            go_simp
            (try go_wp2_with fail)
            refine hK.out _ _ ?_ (fun hHeld => ?_)
            · exact HOF.out _ (HR7d.out.alloc _)
            clear hK K
            try simp only [Act.put, List.setIfInBounds_toArray, List.set_cons_zero, List.set_cons_succ]
            refine oneL (i := 26) rfl (by kernel_rfl) (fun K hK => ?_)
            refine w32_step (base := Z.heap.size) (g := g7) (l := L) (.tmp 43) (.tmp 68) rfl rfl rfl (by rw [HLL.out]; rfl) (HO'.out.alloc _) _ _ _ rfl ((new_cell _ _ _).trans (congrArg (fun q => some (Value.int .u32 q)) (tnX_toNat _ _ _))) (tnX_lt _ _ _) (by rw [HLL.out]; omega) (Nat.le_trans hbs' (by rw [World.size_alloc]; exact Nat.le_succ _)) ?_
            intro v1 w1 ho1 hg1 hr1
            have HO1 := Lib.hid ho1
            have HG1 := Lib.hid hg1
            have HR1 := Lib.hid hr1
            clear ho1 hg1 hr1
            (try go_wp2_with fail)
            refine hK.out _ _ ?_ (fun hHeld => ?_)
            · exact HOF.out _ HR1.out
            clear hK K
            try simp only [Act.put, List.setIfInBounds_toArray, List.set_cons_zero, List.set_cons_succ]
            refine takeL (i := 27) (v := ?_) rfl (by kernel_rfl) (by kernel_rfl) (by kernel_rfl) (fun _ _ _ h => h) (Or.inl ⟨by rfl, ?_⟩) (by assumption) ?_
            rotate_left 1
            · (intro w hSw; (try dsimp only at hSw); go_simp; try with_reducible rfl)
            try simp only [Act.put, List.setIfInBounds_toArray, List.set_cons_zero, List.set_cons_succ]
            refine wpAnyH_done (by kernel_rfl) ?_ _
            go_wp2_with fail
            go_roundw
            case rel =>
              have hbw : Below Z.heap.size Z w1 := (HBD.out.alloc HBD.out.size _).grown HG1.out (by rw [World.size_alloc]; omega) (fun x e => by injection e with e; subst e; exact (HO'.out.lt g7 rfl).1)
              repeat apply Exists.intro
              refine ⟨⟨t + 1, _, by omega, by go_num, ?_, HO1.out, hbw⟩, rfl⟩
              rw [List.length_append, HLL.out]; rfl
            case measure => simp [intOf]; omega
          · obtain rfl : t = 80 := by omega
            have m5 : ¬ ((80 : Nat) : Int) < 80 := by omega
            have hs5 := HH.out.below HB2.out
            have hb3 := HB.out.trans (HB2.out.mono HB.out.size)
            obtain ⟨g7, o7, rfl, hg7, hc7'⟩ := HR7.out.2 (by intro e; have := HLL.out; rw [e] at this; simp at this)
            rw [HLL.out] at hc7'
            obtain ⟨hgl, za, zb, zc, zd, ze, y0, y1, y2, y3, y4⟩ := hs5
            have HC7 := Lib.hid hc7'
            have HB3 := Lib.hid hb3
            have HH5 : Hid (H5 wr gh) := ⟨hgl, za, zb, zc, zd, ze, y0, y1, y2, y3, y4⟩
            clear hc7' hb3 HB2 HR7 HO HH HB
            go_upto_region 13 with fail
            refine wp_region_still_lit (by kernel_rfl) (by kernel_rfl) ?_
            repeat still_step
            refine wpStill_nil ?_
            go_upto_region 14 with fail
            have hbd : Below X.heap.size X wr.drew := ⟨HB3.out.os, HB3.out.tape, HB3.out.output, HB3.out.size, HB3.out.block⟩
            have HC7d : Hid (∀ j, j < 80 → wr.drew.cell? ⟨g7, o7 + j, none⟩ = some (.int .u32 (nth L j : Nat))) := HC7.out
            have HH5d : Hid (H5 wr.drew gh) := HH5.out
            have HGK : Hid (g7 < wr.drew.heap.size) := hg7
            have HBD := Lib.hid hbd
            clear hbd y0 y1 y2 y3 y4 HB3 HC7 HH5 hg7 hgl
            change Code.wp _ _ _ _ wr.drew
            have hbs' : Z.heap.size ≤ wr.drew.heap.size := hbs
            clear hbs
            generalize wr.drew = U at *
            go_wp2_with fail
            go_loopw [8, 9, 10, 11, 12, 13] (fun va vb vc vd ve vt wq => ∃ (t : Nat) (a b c d e : Int), t ≤ 80 ∧ va = .int .u32 a ∧ vb = .int .u32 b ∧ vc = .int .u32 c ∧ vd = .int .u32 d ∧ ve = .int .u32 e ∧ vt = .int .i64 t ∧ Below U.heap.size U wq)
              (fun _ _ _ _ _ vt _ => 80 - (intOf vt).toNat)
            case atStart => exact ⟨0, za, zb, zc, zd, ze, by omega, rfl, rfl, rfl, rfl, rfl, rfl, Below.refl _ _⟩
            case round =>
              obtain ⟨t, a, b, c, d, e, ht, rfl, rfl, rfl, rfl, rfl, rfl, hb⟩ := hrel
              have HBU := Lib.hid hb
              clear hb
              by_cases t64 : t < 80
              · have t64' : (t : Int) < 80 := by omega
                have c7' : wr.cell? ⟨g7, o7 + t, none⟩ = some (.int .u32 (nth L t : Nat)) := (HBU.out.cell (p := ⟨g7, o7 + t, none⟩) HGK.out).trans (HC7d.out t t64)
                by_cases t20 : t < 20
                · have k1 : (t : Int) < 20 := by omega
                  have k2 : ¬ (40 : Int) ≤ t := by omega
                  have k3 : ¬ (60 : Int) ≤ t := by omega
                  go_upto_region 27 with fail
                  refine wp_region_still_lit (by kernel_rfl) (by kernel_rfl) ?_
                  repeat still_step
                  still_call (turn_5 _ _)
                  repeat still_step
                  refine wpStill_nil ?_
                  have hbY : Below U.heap.size U wr.drew := ⟨HBU.out.os, HBU.out.tape, HBU.out.output, HBU.out.size, HBU.out.block⟩
                  have HBY := Lib.hid hbY
                  clear c7' hbY HBU
                  go_upto_region 28 with fail
                  change Code.wp _ _ _ _ wr.drew
                  generalize wr.drew = Y at *
                  go_wp2_with fail
                  refine (turn_30 _ _).mono ?_
                  rintro e w' ⟨rfl, rfl⟩
                  go_wp2_with fail
                  go_roundw
                  case rel =>
                    exact ⟨t + 1, _, _, _, _, _, by omega, rfl, rfl, rfl, rfl, rfl, by go_num, HBY.out⟩
                  case measure => simp [intOf]; omega
                · by_cases t40 : t < 40
                  · have k1 : ¬ (t : Int) < 20 := by omega
                    have k2 : ¬ (40 : Int) ≤ t := by omega
                    have k3 : ¬ (60 : Int) ≤ t := by omega
                    go_upto_region 27 with fail
                    refine wp_region_still_lit (by kernel_rfl) (by kernel_rfl) ?_
                    repeat still_step
                    still_call (turn_5 _ _)
                    repeat still_step
                    refine wpStill_nil ?_
                    have hbY : Below U.heap.size U wr.drew := ⟨HBU.out.os, HBU.out.tape, HBU.out.output, HBU.out.size, HBU.out.block⟩
                    have HBY := Lib.hid hbY
                    clear c7' hbY HBU
                    go_upto_region 28 with fail
                    change Code.wp _ _ _ _ wr.drew
                    generalize wr.drew = Y at *
                    go_wp2_with fail
                    refine (turn_30 _ _).mono ?_
                    rintro e w' ⟨rfl, rfl⟩
                    go_wp2_with fail
                    go_roundw
                    case rel =>
                      exact ⟨t + 1, _, _, _, _, _, by omega, rfl, rfl, rfl, rfl, rfl, by go_num, HBY.out⟩
                    case measure => simp [intOf]; omega
                  · by_cases t60 : t < 60
                    · have k1 : ¬ (t : Int) < 20 := by omega
                      have k2 : (40 : Int) ≤ t := by omega
                      have k3 : ¬ (60 : Int) ≤ t := by omega
                      have k4 : (t : Int) < 60 := by omega
                      go_upto_region 27 with fail
                      refine wp_region_still_lit (by kernel_rfl) (by kernel_rfl) ?_
                      repeat still_step
                      still_call (turn_5 _ _)
                      repeat still_step
                      refine wpStill_nil ?_
                      have hbY : Below U.heap.size U wr.drew := ⟨HBU.out.os, HBU.out.tape, HBU.out.output, HBU.out.size, HBU.out.block⟩
                      have HBY := Lib.hid hbY
                      clear c7' hbY HBU
                      go_upto_region 28 with fail
                      change Code.wp _ _ _ _ wr.drew
                      generalize wr.drew = Y at *
                      go_wp2_with fail
                      refine (turn_30 _ _).mono ?_
                      rintro e w' ⟨rfl, rfl⟩
                      go_wp2_with fail
                      go_roundw
                      case rel =>
                        exact ⟨t + 1, _, _, _, _, _, by omega, rfl, rfl, rfl, rfl, rfl, by go_num, HBY.out⟩
                      case measure => simp [intOf]; omega
                    · have k1 : ¬ (t : Int) < 20 := by omega
                      have k2 : (40 : Int) ≤ t := by omega
                      have k3 : (60 : Int) ≤ t := by omega
                      have k4 : ¬ (t : Int) < 60 := by omega
                      go_upto_region 27 with fail
                      refine wp_region_still_lit (by kernel_rfl) (by kernel_rfl) ?_
                      repeat still_step
                      still_call (turn_5 _ _)
                      repeat still_step
                      refine wpStill_nil ?_
                      have hbY : Below U.heap.size U wr.drew := ⟨HBU.out.os, HBU.out.tape, HBU.out.output, HBU.out.size, HBU.out.block⟩
                      have HBY := Lib.hid hbY
                      clear c7' hbY HBU
                      go_upto_region 28 with fail
                      change Code.wp _ _ _ _ wr.drew
                      generalize wr.drew = Y at *
                      go_wp2_with fail
                      refine (turn_30 _ _).mono ?_
                      rintro e w' ⟨rfl, rfl⟩
                      go_wp2_with fail
                      go_roundw
                      case rel =>
                        exact ⟨t + 1, _, _, _, _, _, by omega, rfl, rfl, rfl, rfl, rfl, by go_num, HBY.out⟩
                      case measure => simp [intOf]; omega
              · obtain rfl : t = 80 := by omega
                have hh5 := HH5d.out.below HBU.out
                obtain ⟨hgl, xa, xb, xc, xd, xe, y0, y1, y2, y3, y4⟩ := hh5
                have HBF := Lib.hid (HBD.out.trans (HBU.out.mono HBD.out.size))
                clear HBU hgl
                go_upto_region 33 with fail
                refine wp_region_still_tail 25 (by kernel_rfl) (by kernel_rfl) ?_
                simp only [List.take_succ_cons, List.take_zero, List.drop_succ_cons, List.drop_zero]
                repeat still_step
                try refine wpStill_nil ?_
                have hbd : Below X.heap.size X wr.drew := ⟨HBF.out.os, HBF.out.tape, HBF.out.output, HBF.out.size, HBF.out.block⟩
                have HBD2 := Lib.hid hbd
                clear y0 y1 y2 y3 y4 hbd HBF
                change wpList _ _ _ _ _ wr.drew
                generalize wr.drew = Y at *
                go_wp2_with fail
                go_roundw
                case rel =>
                  exact ⟨i + 1, Y.heap.size, by omega, by go_num, rfl, h5_new Y _ _ _ _ _, HBD2.out.alloc HBD2.out.size _⟩
                case measure => simp only [intOf]; omega
    · have m1 : ¬ 64 * (i : Int) < P.length := by omega
      have hbw := HBX.out.trans (HB.out.mono HBX.out.size)
      have hrr := HR0.out.of_block (hbw.block w.heap.size HR0.out.lt)
      have HRR := Lib.hid hrr
      have HHZ := Lib.hid HH.out
      have HBW := Lib.hid hbw
      clear hrr hbw HPX HRW HR0 HH HB
      go_upto_region 35 with fail
      obtain ⟨hbo, hro⟩ := one_out5 wr
      have hho := HHZ.out.below hbo
      have hbo2 := HBW.out.trans (hbo.mono HBW.out.size)
      have hrr := HRR.out.of_block (hbo.block w.heap.size HRR.out.lt)
      have hlw : w.heap.size < wr.heap.size := HRR.out.lt
      have hlg : gh < wr.heap.size := HHZ.out.1
      have hlh : W.heap.size ≤ wr.heap.size := HBW.out.size
      change Code.wp _ _ _ _ (wr.alloc (.cells #[.int .u8 0, .int .u8 0, .int .u8 0, .int .u8 0, .int .u8 0, .int .u8 0, .int .u8 0, .int .u8 0, .int .u8 0, .int .u8 0, .int .u8 0, .int .u8 0, .int .u8 0, .int .u8 0, .int .u8 0, .int .u8 0, .int .u8 0, .int .u8 0, .int .u8 0, .int .u8 0] 96))
      generalize hY : wr.alloc (.cells #[.int .u8 0, .int .u8 0, .int .u8 0, .int .u8 0, .int .u8 0, .int .u8 0, .int .u8 0, .int .u8 0, .int .u8 0, .int .u8 0, .int .u8 0, .int .u8 0, .int .u8 0, .int .u8 0, .int .u8 0, .int .u8 0, .int .u8 0, .int .u8 0, .int .u8 0, .int .u8 0] 96) = Y at *
      have hYs : Y.heap.size = wr.heap.size + 1 := by rw [← hY, World.size_alloc]
      have HHY := Lib.hid hho
      have HRO := Lib.hid hro
      have HBY := Lib.hid hbo2
      have HRY := Lib.hid hrr
      clear hho hbo hro hbo2 hrr hY HHZ HRR HBW
      generalize wr.heap.size = H at *
      go_wp2_with fail
      go_loopw [18] (fun v wq => ∃ i' : Nat, i' ≤ 20 ∧ v = .int .i64 i' ∧ Rb wq H 96 20 ∧ Y.grownBy wq (some H)) (fun v _ => 20 - (intOf v).toNat)
      case atStart => exact ⟨0, by omega, rfl, ⟨fun _ => 0, fun _ => Nat.zero_lt_succ 255, HRO.out⟩, grown_refl _ _⟩
      case round =>
        obtain ⟨j, hj, rfl, hro, hg⟩ := hrel
        have HRo := Lib.hid hro
        have HG := Lib.hid hg
        clear hro hg
        by_cases j20 : j < 20
        · have hbl : wr.heap[gh]? = Y.heap[gh]? := HG.out.block gh (by omega) (by intro e; injection e with e; omega)
          obtain ⟨z, hz⟩ := HHY.out.any (i := j / 4) (by omega)
          have c1 : wr.cell? ⟨gh, j / 4, none⟩ = some (.int .u32 z) := (World.cell?_of_block (a := ⟨gh, j / 4, none⟩) hbl).trans hz
          obtain ⟨f, hf, hrow⟩ := HRo.out
          have c2 := hrow.cell j20
          have x2 := hrow.frozen j
          have d1 : ((j : Int) / 4).toNat = j / 4 := by omega
          have d2 : (j : Int) / 4 < 5 := by omega
          have d3 : 0 ≤ (j : Int) / 4 := by omega
          have d4 : (j : Int) < 20 := by omega
          have e1 : IntKind.i64.wrap (24 - 8 * ((j : Int) % 4)) = ((24 - 8 * (j % 4) : Nat) : Int) := by simp [IntKind.wrap, IntKind.signed, IntKind.bits]; omega
          have e2 : IntKind.u64.wrap ((24 - 8 * (j % 4) : Nat) : Int) = ((24 - 8 * (j % 4) : Nat) : Int) := by rw [IntKind.wrap_u64]; omega
          clear hrow hf hz hbl
          go_upto_region 37 with fail
          go_wp2_with fail
          go_roundw
          case rel =>
            refine ⟨j + 1, by omega, by go_num, Rb.set HRo.out j _ ?_ ?_, grown_set (p := ⟨H, j, none⟩) HG.out (.inl rfl) _⟩
            · first | exact Int.emod_nonneg _ (by decide) | (rw [IntKind.wrap_u8]; exact Int.emod_nonneg _ (by decide))
            · first | exact Int.emod_lt_of_pos _ (by decide) | (rw [IntKind.wrap_u8]; exact Int.emod_lt_of_pos _ (by decide))
          case measure => simp [intOf]; omega
        · obtain rfl : j = 20 := by omega
          obtain ⟨f, hf, hro⟩ := HRo.out
          obtain ⟨cs, hcs, hcn, hci⟩ := hro
          obtain ⟨ds, hds, hdn, hdi⟩ := HRY.out.of_block (HG.out.block w.heap.size (by omega) (by intro e; injection e with e; omega))
          have hbr : Below W.heap.size W wr := below_of_grown HBY.out HG.out (by omega) (by omega)
          have CS := Lib.hid hcs
          have CN := Lib.hid hcn
          have CI := Lib.hid hci
          have DS := Lib.hid hds
          have DN := Lib.hid hdn
          have HBR := Lib.hid hbr
          have HF := Lib.hid hf
          clear hcs hcn hci hds hdn hdi hbr HRo HG hf
          go_wp2_with (first
            | (refine wpList_load_row rfl 96 (.tmp 17) rfl H rfl 96 cs (0, 0) _ CS.out Tryz.underlying96 rfl (by rw [CN.out]; exact size20) ?_)
            | (refine wpList_store_row rfl 96 (.tmp 2) (.tmp 186) rfl w.heap.size cs rfl rfl 96 ds DS.out (by rw [CN.out]; exact size20) (by rw [CN.out, DN.out]) (u8_oneCell CN.out CI.out) ?_))
          (try simp only [Exit.inBlock, Exit.then])
          refine bodyPost_ret (results_cell_row rfl _ _ w.heap.size 96 cs (0, 0) _ rfl (setRow_heap _ _ _ _ _ _ DS.out) Tryz.underlying96 rfl (by rw [CN.out]; exact size20)) rfl ?_
          refine ⟨(List.range 20).map f, ?_, by simp, fun x hx => ?_, below_setRow (HB0.out.trans (HBR.out.mono HB0.out.size)) (Nat.le_refl _) _⟩
          · rw [aggB CN.out CI.out]
          · obtain ⟨k, -, rfl⟩ := List.mem_map.1 hx
            exact HF.out k
end Go.Proofs.YtlhbijpmhokmnaaGreat
