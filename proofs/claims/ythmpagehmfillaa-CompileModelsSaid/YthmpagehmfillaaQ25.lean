/-
  THE WALKS OF parts.Memory, parts.Right. Conditions: the slice reads as parts.
  THE WALKS OF package syntax, second part: right, Right's closure. Conditions: an Op is a byte.
-/
import Derived.Test.YthmpagehmfillaaQ24
import Derived.Deep.DeepCutAuto
import Derived.Deep.QuietTactic
import Derived.BigQuiet
namespace Go.Proofs.Ythmpagehmfillaa
open Go.RowKit
set_option linter.unusedSimpArgs false
set_option linter.unusedVariables false
theorem memP_drop {l : List PartS} {k : Nat} (h : k < l.length) : memP (l.drop k) = placesP l[k] + memP (l.drop (k + 1)) := by
  rw [List.drop_eq_getElem_cons h]; rfl
theorem allP_drop {l : List PartS} {k : Nat} (h : k < l.length) : allP k (l.drop k) = (partOk l[k] k && allP (k + 1) (l.drop (k + 1))) := by
  rw [List.drop_eq_getElem_cons h]; rfl
def MmR (l : List PartS) (w : World) (s3 s8 : Value) (wr : World) : Prop := ∃ (k : Nat) (a : Int), k ≤ l.length ∧ s3 = .int .i64 a ∧ s8 = .int .i64 k ∧ 0 ≤ a ∧ a ≤ k * 4194304 ∧ a + memP (l.drop k) = memP l ∧ Below w.heap.size w wr
set_option maxRecDepth 100000 in
set_option maxHeartbeats 8000000 in
theorem memory_any (l : List PartS) (v : Value) (S : Nat → Prop) (w : World) (hl : l.length ≤ 1000) (hp : PrT w S v l) : Calls Try.prog 48 #[v] w fun e w' => e = .returned (.int .i64 (memP l)) ∧ Below w.heap.size w w' := by
  obtain ⟨A, c, rfl⟩ := hp.form
  have HP := Lib.hid hp
  have HL := Lib.hid hl
  clear hp hl
  go_enter Try.func48, Try.ntmps48
  go_wp2_with fail
  go_loopw [3, 8] (fun s3 s8 wr => MmR l w s3 s8 wr) (fun _ s8 _ => l.length - (intOf s8).toNat)
  case atStart => exact ⟨0, 0, Nat.zero_le _, rfl, rfl, Int.le_refl _, by simp, by simp, Below.refl _ _⟩
  case round =>
    obtain ⟨k, a, hk, rfl, rfl, ha0, ha1, hm, hb⟩ := hrel
    have HB := Lib.hid hb
    by_cases e0 : k < l.length
    · have b1 : (k : Int) < (l.length : Int) := by omega
      rw [memP_drop e0] at hm
      obtain ⟨g, o, rfl, hg, hc⟩ := (HP.out.below HB.out).nth e0
      have x0 := hc 0 (by omega)
      have x1 := hc 1 (by omega)
      have x2 := hc 2 (by omega)
      have x3 := hc 3 (by omega)
      have x4 := hc 4 (by omega)
      have x5 := hc 5 (by omega)
      have x6 := hc 6 (by omega)
      simp only [ptF] at x0 x1 x2 x3 x4 x5 x6
      rw [Nat.add_zero] at x0
      generalize l[k] = p at *
      have hpl := places_le p
      have hw1 := wrapE (x := (k : Int) + 1) (by have := HL.out; omega)
      have hw2 := wrapE (x := a + placesP p) (by have := HL.out; omega)
      have HM := Lib.hid (And.intro ha0 (And.intro ha1 (And.intro hm hpl)))
      have HPA := Lib.hid (places_any p)
      clear hb hc hm ha0 ha1 hpl
      unfold ptA at HPA
      go_wp2_with fail
      refine (HPA.out _).mono ?_
      rintro e w2 ⟨rfl, hb2⟩
      have HB2 := Lib.hid (HB.out.trans (((Below.refl wr.heap.size wr).alloc (Nat.le_refl _) _).trans (hb2.mono (by rw [World.size_alloc]; omega)) |>.mono HB.out.size))
      clear hb2
      go_wp2_with fail
      go_roundw
      case rel => exact ⟨k + 1, a + placesP p, by omega, rfl, by go_num, by have := HM.out; omega, by have := HM.out; push_cast; omega, by have := HM.out; omega, HB2.out⟩
      case measure => simp [intOf]; omega
    · obtain rfl : k = l.length := by omega
      have b1 : ¬ ((l.length : Int) < (l.length : Int)) := by omega
      rw [List.drop_eq_nil_of_le (Nat.le_refl _)] at hm
      have hma : a = memP l := by rw [← hm]; simp [memP]
      clear hm hb ha0 ha1
      go_wp2_with fail
      go_ret
      exact ⟨by rw [← hma]; rfl, HB.out⟩
def PrR (l : List PartS) (w : World) (s15 : Value) (wr : World) : Prop := ∃ (k : Nat), k ≤ l.length ∧ s15 = .int .i64 k ∧ allP k (l.drop k) = allP 0 l ∧ Below w.heap.size w wr
set_option maxRecDepth 100000 in
set_option maxHeartbeats 8000000 in
theorem rightPs_any (l : List PartS) (v : Value) (S : Nat → Prop) (w : World) (hp : PrT w S v l) : Calls Try.prog 20 #[v] w fun e w' => e = .returned (.int .i64 (rightPs l)) ∧ Below w.heap.size w w' := by
  have hm : l.length ≤ maxLen := by obtain ⟨_, c, _, h3, h4, _⟩ := hp; omega
  obtain ⟨A, c, rfl⟩ := hp.form
  have HP := Lib.hid hp
  clear hp hm
  obtain ⟨z, hz⟩ : ∃ z, z = rightPs l := ⟨_, rfl⟩
  rw [← hz]
  unfold rightPs at hz
  by_cases h0 : l.length = 0
  · rw [if_pos (.inl h0)] at hz
    subst hz
    have i0 : ((l.length : Int) == 0) = true := by rw [h0]; rfl
    clear h0
    go_enter Try.func20, Try.ntmps20
    go_wp2_with fail
    go_ret
    exact ⟨rfl, Below.refl _ _⟩
  · have i0 : ((l.length : Int) == 0) = false := by rw [beq_eq_false_iff_ne]; omega
    by_cases h16 : 16 < l.length
    · rw [if_pos (.inr h16)] at hz
      subst hz
      have i1 : (16 : Int) < (l.length : Int) := by omega
      clear h0 h16
      go_enter Try.func20, Try.ntmps20
      go_wp2_with fail
      go_ret
      exact ⟨rfl, Below.refl _ _⟩
    · rw [if_neg (by omega)] at hz
      have i1 : ¬ (16 : Int) < (l.length : Int) := by omega
      have HZ := Lib.hid hz
      have HL := Lib.hid (show l.length ≤ 16 by omega)
      clear h0 h16 hz
      go_enter Try.func20, Try.ntmps20
      go_wp2_with fail
      go_loopw [15] (fun s15 wr => PrR l w s15 wr) (fun s15 _ => l.length - (intOf s15).toNat)
      case atStart => exact ⟨0, Nat.zero_le _, rfl, rfl, Below.refl _ _⟩
      case round =>
        obtain ⟨k, hk, rfl, hal, hb⟩ := hrel
        have HB := Lib.hid hb
        by_cases e0 : k < l.length
        · have b1 : (k : Int) < (l.length : Int) := by omega
          rw [allP_drop e0] at hal
          obtain ⟨g, o, rfl, hg, hc⟩ := (HP.out.below HB.out).nth e0
          have x0 := hc 0 (by omega)
          have x1 := hc 1 (by omega)
          have x2 := hc 2 (by omega)
          have x3 := hc 3 (by omega)
          have x4 := hc 4 (by omega)
          have x5 := hc 5 (by omega)
          have x6 := hc 6 (by omega)
          simp only [ptF] at x0 x1 x2 x3 x4 x5 x6
          rw [Nat.add_zero] at x0
          generalize l[k] = p at *
          have hw1 := wrapE (x := (k : Int) + 1) (by have := HL.out; omega)
          have HPA := Lib.hid (part_any p k (by have := HL.out; omega))
          obtain ⟨b, hbb⟩ : ∃ b, b = partOk p k := ⟨_, rfl⟩
          rw [← hbb] at hal HPA
          have HAL := Lib.hid hal
          clear hb hc hal hbb
          unfold ptA at HPA
          go_wp2_with fail
          refine (HPA.out _).mono ?_
          rintro e w2 ⟨rfl, hb2⟩
          have HB2 := Lib.hid (HB.out.trans (((Below.refl wr.heap.size wr).alloc (Nat.le_refl _) _).trans (hb2.mono (by rw [World.size_alloc]; omega)) |>.mono HB.out.size))
          clear hb2
          cases b with
          | false =>
            go_wp2_with fail
            go_ret
            refine ⟨?_, HB2.out⟩
            rw [HZ.out, ← HAL.out]
            rfl
          | true =>
            go_wp2_with fail
            go_roundw
            case rel => exact ⟨k + 1, by omega, by go_num, by have := HAL.out; rw [← this]; rfl, HB2.out⟩
            case measure => simp [intOf]; omega
        · obtain rfl : k = l.length := by omega
          have b1 : ¬ ((l.length : Int) < (l.length : Int)) := by omega
          rw [List.drop_eq_nil_of_le (Nat.le_refl _)] at hal
          have hal' : allP 0 l = true := by rw [← hal]; rfl
          have hz := HZ.out
          rw [if_pos hal'] at hz
          have HZ2 := Lib.hid hz
          have HM := Lib.hid (fun W (hb : Below w.heap.size w W) => memory_any l _ S W (by have := HL.out; omega) (HP.out.below hb))
          clear hal hal' hb hz
          go_wp2_with fail
          refine (HM.out _ HB.out).mono ?_
          rintro e w2 ⟨rfl, hb2⟩
          have HB2 := Lib.hid (HB.out.trans (hb2.mono HB.out.size))
          have hz := HZ2.out
          clear hb2
          by_cases hm : 1048576 < memP l
          · rw [if_pos hm] at hz
            subst hz
            go_wp2_with fail
            go_ret
            exact ⟨rfl, HB2.out⟩
          · rw [if_neg hm] at hz
            subst hz
            go_wp2_with fail
            go_ret
            exact ⟨rfl, HB2.out⟩
end Go.Proofs.Ythmpagehmfillaa
namespace Go.Proofs.Ythmpagehmfillaa
open Go.RowKit
set_option linter.unusedSimpArgs false
set_option linter.unusedVariables false
theorem eqI (o : Nat) (d s n : Int) (W : World) : (binOp .eql 56 (.agg #[.int .u8 o, .int .i64 d, .int .i64 s, .int .i64 n]) (.agg #[.int .u8 0, .int .i64 0, .int .i64 0, .int .i64 0])).run Try.prog W = .ok (.bool (decide ((⟨o, d, s, n⟩ : InsS) = i0))) W := by
  go_simp
  by_cases h1 : o = 0 <;> by_cases h2 : d = 0 <;> by_cases h3 : s = 0 <;> by_cases h4 : n = 0 <;> simp [i0, h1, h2, h3, h4]
theorem eqC (nt : Bool) (o : Nat) (d s n : Int) (W : World) : (binOp .eql 58 (.agg #[.bool nt, .int .u8 o, .int .i64 d, .int .i64 s, .int .i64 n]) (.agg #[.bool false, .int .u8 0, .int .i64 0, .int .i64 0, .int .i64 0])).run Try.prog W = .ok (.bool (decide ((⟨nt, ⟨o, d, s, n⟩⟩ : ConS) = c0))) W := by
  go_simp
  by_cases h0 : nt = true <;> by_cases h1 : o = 0 <;> by_cases h2 : d = 0 <;> by_cases h3 : s = 0 <;> by_cases h4 : n = 0 <;> simp [c0, i0, h0, h1, h2, h3, h4]
/-- A statement stands there. -/
def StAt (w : World) (g o : Nat) (x : StS) (vb ve : Value) : Prop := g < w.heap.size ∧ ∀ m, m < 13 → w.cell? ⟨g, o + m, none⟩ = some (smF x.k x.i x.c vb ve x.ln m)
theorem StAt.below {w w' : World} {B g o : Nat} {x : StS} {vb ve : Value} (h : StAt w g o x vb ve) (hb : Below B w w') (hB : g < B) : StAt w' g o x vb ve :=
  ⟨Nat.lt_of_lt_of_le h.1 hb.size, fun m hm => (World.cell?_of_block (hb.block g hB)).trans (h.2 m hm)⟩
def UB (u : Value) (n : Nat) : Prop := ∃ A c, u = .slice A n c
set_option maxRecDepth 100000 in
set_option maxHeartbeats 8000000 in
theorem rightS_any (g o : Nat) (x : StS) (vb ve : Value) (post : Bool) (w : World) (hx : StAt w g o x vb ve) (hb : UB vb x.b.len) (he : UB ve x.e.len) (hsz : x.b.len < 2 ^ 62 ∧ x.e.len < 2 ^ 62) (h8 : x.i.o < 256 ∧ x.c.i.o < 256) :
    Calls Try.prog 51 #[.pointer (some ⟨g, o, none⟩), .bool post] w fun e w' => e = .returned (.bool (rightS post x)) ∧ Below w.heap.size w w' := by
  obtain ⟨Ab, cb, rfl⟩ := hb
  obtain ⟨Ae, ce, rfl⟩ := he
  have f0 := hx.2 0 (by omega)
  have f1 := hx.2 1 (by omega)
  have f2 := hx.2 2 (by omega)
  have f3 := hx.2 3 (by omega)
  have f4 := hx.2 4 (by omega)
  have f5 := hx.2 5 (by omega)
  have f6 := hx.2 6 (by omega)
  have f7 := hx.2 7 (by omega)
  have f8 := hx.2 8 (by omega)
  have f9 := hx.2 9 (by omega)
  have fa := hx.2 10 (by omega)
  have fb := hx.2 11 (by omega)
  simp only [smF] at f0 f1 f2 f3 f4 f5 f6 f7 f8 f9 fa fb
  rw [Nat.add_zero] at f0
  have hC := fun W => eqC x.c.nt x.c.i.o x.c.i.d x.c.i.s x.c.i.n W
  have hI := fun W => eqI x.i.o x.i.d x.i.s x.i.n W
  have hw : IntKind.i64.wrap ((x.b.len : Int) + (x.e.len : Int)) = ((x.b.len + x.e.len : Nat) : Int) := by rw [IntKind.wrap_i64]; omega; all_goals omega
  obtain ⟨qc, hqc⟩ : ∃ q, q = decide (x.c = c0) := ⟨_, rfl⟩
  obtain ⟨qi, hqi⟩ : ∃ q, q = decide (x.i = i0) := ⟨_, rfl⟩
  rw [show (⟨x.c.nt, ⟨x.c.i.o, x.c.i.d, x.c.i.s, x.c.i.n⟩⟩ : ConS) = x.c from rfl, ← hqc] at hC
  rw [show (⟨x.i.o, x.i.d, x.i.s, x.i.n⟩ : InsS) = x.i from rfl, ← hqi] at hI
  have HP := Lib.hid (fun W => plain_any x.i.o h8.1 x.i.d x.i.s x.i.n post W)
  have HC := Lib.hid (fun W => condition_any x.c.nt x.c.i.o h8.2 x.c.i.d x.c.i.s x.c.i.n W)
  obtain ⟨r, hr⟩ : ∃ r, r = rightS post x := ⟨_, rfl⟩
  rw [← hr]
  unfold rightS bareS at hr
  rw [← hqc, ← hqi] at hr
  have HR := Lib.hid hr
  have HX := Lib.hid hx
  clear hr hqc hqi h8 hsz hx
  go_enter Try.func51, Try.ntmps51
  go_wp2_with fail
  go_upto_region 2 with fail
  go_cut [5] (fun s5 wx => s5 = .bool (qc && decide (x.b.len + x.e.len = 0)) ∧ ∃ n, wx = w.drewN n)
  case first =>
    clear hI
    cases qc with
    | false =>
      go_quiet (fail)
      go_wp2_with fail
      go_meet
      exact ⟨rfl, _, rfl⟩
    | true =>
      by_cases hz : x.b.len + x.e.len = 0
      · rw [hz] at hw
        go_quiet (fail)
        go_wp2_with fail
        go_meet
        exact ⟨by simp [hz], _, rfl⟩
      · have hzI : (((x.b.len + x.e.len : Nat) : Int) == 0) = false := by rw [beq_eq_false_iff_ne]; omega
        go_quiet (fail)
        go_wp2_with fail
        go_meet
        refine ⟨?_, _, rfl⟩
        simp [hz]
        rw [Bool.eq_iff_iff]
        simp
        omega
  case rest =>
    obtain ⟨rfl, n, rfl⟩ := hcut
    have hbw : Below w.heap.size w (w.drewN n) := below_drewN' (Below.refl _ _) n
    have HB := Lib.hid hbw
    clear hbw hw
    unfold insV at HP
    have hr := HR.out
    generalize hbb : (qc && decide (x.b.len + x.e.len = 0)) = b at hr ⊢
    clear HR hC hbb
    by_cases k1 : x.k = 1
    · rw [if_pos k1] at hr
      have i1 : ((x.k : Int) == 1) = true := by rw [k1]; rfl
      have HR := Lib.hid hr
      clear hr k1
      cases b with
      | false =>
        go_wp2_with fail
        go_ret
        exact ⟨by rw [HR.out]; rfl, HB.out⟩
      | true =>
        go_wp2_with fail
        refine (HP.out _).mono ?_
        rintro e w2 ⟨rfl, hb2⟩
        have HB2 := Lib.hid (HB.out.trans (hb2.mono HB.out.size))
        clear hb2
        go_wp2_with fail
        go_ret
        exact ⟨by rw [HR.out]; rfl, HB2.out⟩
    have i1 : ((x.k : Int) == 1) = false := by rw [beq_eq_false_iff_ne]; omega
    rw [if_neg k1] at hr
    by_cases k4 : x.k = 4
    · rw [if_pos k4] at hr
      have i4 : ((x.k : Int) == 4) = true := by rw [k4]; rfl
      have HR := Lib.hid hr
      clear hr k1 k4
      cases b with
      | false =>
        go_wp2_with fail
        go_ret
        exact ⟨by rw [HR.out]; rfl, HB.out⟩
      | true =>
        go_wp2_with fail
        go_ret
        exact ⟨by rw [HR.out]; rfl, HB.out⟩
    have i4 : ((x.k : Int) == 4) = false := by rw [beq_eq_false_iff_ne]; omega
    rw [if_neg k4] at hr
    by_cases k23 : x.k = 2 ∨ x.k = 3
    · rw [if_pos k23] at hr
      obtain ⟨i2, i3⟩ : ((x.k : Int) == 2) = decide (x.k = 2) ∧ (decide (x.k = 2) = false → ((x.k : Int) == 3) = true) := by
        rcases k23 with h | h <;> rw [h]
        · exact ⟨rfl, fun hh => absurd hh (by decide)⟩
        · exact ⟨rfl, fun _ => rfl⟩
      obtain ⟨b2, hb2⟩ : ∃ b2, b2 = decide (x.k = 2) := ⟨_, rfl⟩
      rw [← hb2] at hr i2 i3
      have HR := Lib.hid hr
      clear hr k1 k4 k23 hb2
      cases qi with
      | false =>
        cases b2 with
        | true =>
          clear i3
          go_wp2_with fail
          go_ret
          exact ⟨by rw [HR.out]; rfl, HB.out⟩
        | false =>
          have i3' := i3 rfl
          clear i3
          go_wp2_with fail
          go_ret
          exact ⟨by rw [HR.out]; rfl, HB.out⟩
      | true =>
        cases hcs : condS x.c with
        | false =>
          rw [show condS ⟨x.c.nt, ⟨x.c.i.o, x.c.i.d, x.c.i.s, x.c.i.n⟩⟩ = condS x.c from rfl, hcs] at HC
          rw [hcs] at HR
          clear hcs
          cases b2 with
          | true =>
            clear i3
            go_wp2_with fail
            refine (HC.out _).mono ?_
            rintro e w2 ⟨rfl, hb2⟩
            have HB2 := Lib.hid (HB.out.trans (hb2.mono HB.out.size))
            have hx2 := HX.out.below HB2.out HX.out.1
            have f0' := hx2.2 0 (by omega)
            have fb' := hx2.2 11 (by omega)
            simp only [smF] at f0' fb'
            rw [Nat.add_zero] at f0'
            clear hb2 hx2
            go_wp2_with fail
            go_ret
            exact ⟨by rw [HR.out]; rfl, HB2.out⟩
          | false =>
            have i3' := i3 rfl
            clear i3
            go_wp2_with fail
            refine (HC.out _).mono ?_
            rintro e w2 ⟨rfl, hb2⟩
            have HB2 := Lib.hid (HB.out.trans (hb2.mono HB.out.size))
            have hx2 := HX.out.below HB2.out HX.out.1
            have f0' := hx2.2 0 (by omega)
            have fb' := hx2.2 11 (by omega)
            simp only [smF] at f0' fb'
            rw [Nat.add_zero] at f0'
            clear hb2 hx2
            go_wp2_with fail
            go_ret
            exact ⟨by rw [HR.out]; rfl, HB2.out⟩
        | true =>
          rw [show condS ⟨x.c.nt, ⟨x.c.i.o, x.c.i.d, x.c.i.s, x.c.i.n⟩⟩ = condS x.c from rfl, hcs] at HC
          rw [hcs] at HR
          clear hcs
          cases b2 with
          | true =>
            clear i3
            go_wp2_with fail
            refine (HC.out _).mono ?_
            rintro e w2 ⟨rfl, hb2⟩
            have HB2 := Lib.hid (HB.out.trans (hb2.mono HB.out.size))
            have hx2 := HX.out.below HB2.out HX.out.1
            have f0' := hx2.2 0 (by omega)
            have fb' := hx2.2 11 (by omega)
            simp only [smF] at f0' fb'
            rw [Nat.add_zero] at f0'
            clear hb2 hx2
            go_wp2_with fail
            go_ret
            exact ⟨by rw [HR.out]; rfl, HB2.out⟩
          | false =>
            have i3' := i3 rfl
            clear i3
            by_cases hz : x.e.len = 0
            · have hzI : ((x.e.len : Int) == 0) = true := by rw [hz]; rfl
              have HZ := Lib.hid hz
              clear hz
              go_wp2_with fail
              refine (HC.out _).mono ?_
              rintro e w2 ⟨rfl, hb2⟩
              have HB2 := Lib.hid (HB.out.trans (hb2.mono HB.out.size))
              have hx2 := HX.out.below HB2.out HX.out.1
              have f0' := hx2.2 0 (by omega)
              have fb' := hx2.2 11 (by omega)
              simp only [smF] at f0' fb'
              rw [Nat.add_zero] at f0'
              clear hb2 hx2
              go_wp2_with fail
              go_ret
              exact ⟨by rw [HR.out, HZ.out]; rfl, HB2.out⟩
            · have hzI : ((x.e.len : Int) == 0) = false := by rw [beq_eq_false_iff_ne]; omega
              have HZ := Lib.hid hz
              clear hz
              go_wp2_with fail
              refine (HC.out _).mono ?_
              rintro e w2 ⟨rfl, hb2⟩
              have HB2 := Lib.hid (HB.out.trans (hb2.mono HB.out.size))
              have hx2 := HX.out.below HB2.out HX.out.1
              have f0' := hx2.2 0 (by omega)
              have fb' := hx2.2 11 (by omega)
              simp only [smF] at f0' fb'
              rw [Nat.add_zero] at f0'
              clear hb2 hx2
              go_wp2_with fail
              go_ret
              exact ⟨by rw [HR.out, decide_eq_false HZ.out]; rfl, HB2.out⟩
    · rw [if_neg k23] at hr
      have i2 : ((x.k : Int) == 2) = false := by rw [beq_eq_false_iff_ne]; omega
      have i3 : ((x.k : Int) == 3) = false := by rw [beq_eq_false_iff_ne]; omega
      have HR := Lib.hid hr
      clear hr k1 k4 k23
      go_wp2_with fail
      go_ret
      exact ⟨by rw [HR.out]; rfl, HB.out⟩
end Go.Proofs.Ythmpagehmfillaa
