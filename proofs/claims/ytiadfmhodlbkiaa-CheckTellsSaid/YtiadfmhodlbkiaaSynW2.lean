/-
  THE WALKS OF package syntax, second part: right, Right's closure. Conditions: an Op is a byte.
-/
import Derived.Test.YtiadfmhodlbkiaaSynW1
import Derived.Deep.QuietTactic
import Derived.BigQuiet
import Derived.Deep.DeepCutAuto
namespace Go.Proofs.Ytiadfmhodlbkiaa
open Go.RowKit
set_option linter.unusedSimpArgs false
set_option linter.unusedVariables false
theorem eqI (o : Nat) (d s n : Int) (W : World) : (binOp .eql 70 (.agg #[.int .u8 o, .int .i64 d, .int .i64 s, .int .i64 n]) (.agg #[.int .u8 0, .int .i64 0, .int .i64 0, .int .i64 0])).run Try.prog W = .ok (.bool (decide ((⟨o, d, s, n⟩ : InsS) = i0))) W := by
  go_simp
  by_cases h1 : o = 0 <;> by_cases h2 : d = 0 <;> by_cases h3 : s = 0 <;> by_cases h4 : n = 0 <;> simp [i0, h1, h2, h3, h4]
theorem eqC (nt : Bool) (o : Nat) (d s n : Int) (W : World) : (binOp .eql 73 (.agg #[.bool nt, .int .u8 o, .int .i64 d, .int .i64 s, .int .i64 n]) (.agg #[.bool false, .int .u8 0, .int .i64 0, .int .i64 0, .int .i64 0])).run Try.prog W = .ok (.bool (decide ((⟨nt, ⟨o, d, s, n⟩⟩ : ConS) = c0))) W := by
  go_simp
  by_cases h0 : nt = true <;> by_cases h1 : o = 0 <;> by_cases h2 : d = 0 <;> by_cases h3 : s = 0 <;> by_cases h4 : n = 0 <;> simp [c0, i0, h0, h1, h2, h3, h4]
/-- A statement stands there. -/
def StAt (w : World) (g o : Nat) (x : StS) (vb ve : Value) : Prop := g < w.heap.size ∧ ∀ m, m < 13 → w.cell? ⟨g, o + m, none⟩ = some (smF x.k x.i x.c vb ve x.ln m)
theorem StAt.below {w w' : World} {B g o : Nat} {x : StS} {vb ve : Value} (h : StAt w g o x vb ve) (hb : Below B w w') (hB : g < B) : StAt w' g o x vb ve :=
  ⟨Nat.lt_of_lt_of_le h.1 hb.size, fun m hm => (World.cell?_of_block (hb.block g hB)).trans (h.2 m hm)⟩
def UB (u : Value) (n : Nat) : Prop := ∃ A c, u = .slice A n c
set_option maxRecDepth 100000 in
set_option maxHeartbeats 8000000 in
theorem rightS_any (g o : Nat) (x : StS) (vb ve : Value) (post : Bool) (w : World) (hx : StAt w g o x vb ve) (hb : UB vb x.b.len) (he : UB ve x.e.len) (hsz : x.b.len < 2 ^ 62 ∧ x.e.len < 2 ^ 62) (h8 : x.i.o < 256 ∧ x.c.i.o < 256) :
    Calls Try.prog 43 #[.pointer (some ⟨g, o, none⟩), .bool post] w fun e w' => e = .returned (.bool (rightS post x)) ∧ Below w.heap.size w w' := by
  obtain ⟨Ab, cb, rfl⟩ := hb
  obtain ⟨Ae, ce, rfl⟩ := he
  have f0 := hx.2 0 (by omega)
  have f1 := hx.2 1 (by omega)
  have f2 := hx.2 2 (by omega)
  have f3 := hx.2 3 (by omega)
  have f4 := hx.2 4 (by omega)
  have f5 := hx.2 5 (by omega)
  have f6 := hx.2 6 (by omega)
  have f7 := hx.2 7 (by omega)
  have f8 := hx.2 8 (by omega)
  have f9 := hx.2 9 (by omega)
  have fa := hx.2 10 (by omega)
  have fb := hx.2 11 (by omega)
  simp only [smF] at f0 f1 f2 f3 f4 f5 f6 f7 f8 f9 fa fb
  rw [Nat.add_zero] at f0
  have hC := fun W => eqC x.c.nt x.c.i.o x.c.i.d x.c.i.s x.c.i.n W
  have hI := fun W => eqI x.i.o x.i.d x.i.s x.i.n W
  have hw : IntKind.i64.wrap ((x.b.len : Int) + (x.e.len : Int)) = ((x.b.len + x.e.len : Nat) : Int) := by rw [IntKind.wrap_i64]; omega; all_goals omega
  obtain ⟨qc, hqc⟩ : ∃ q, q = decide (x.c = c0) := ⟨_, rfl⟩
  obtain ⟨qi, hqi⟩ : ∃ q, q = decide (x.i = i0) := ⟨_, rfl⟩
  rw [show (⟨x.c.nt, ⟨x.c.i.o, x.c.i.d, x.c.i.s, x.c.i.n⟩⟩ : ConS) = x.c from rfl, ← hqc] at hC
  rw [show (⟨x.i.o, x.i.d, x.i.s, x.i.n⟩ : InsS) = x.i from rfl, ← hqi] at hI
  have HP := Lib.hid (fun W => plain_any x.i.o h8.1 x.i.d x.i.s x.i.n post W)
  have HC := Lib.hid (fun W => condition_any x.c.nt x.c.i.o h8.2 x.c.i.d x.c.i.s x.c.i.n W)
  obtain ⟨r, hr⟩ : ∃ r, r = rightS post x := ⟨_, rfl⟩
  rw [← hr]
  unfold rightS bareS at hr
  rw [← hqc, ← hqi] at hr
  have HR := Lib.hid hr
  have HX := Lib.hid hx
  clear hr hqc hqi h8 hsz hx
  go_enter Try.func43, Try.ntmps43
  go_wp2_with fail
  go_upto_region 2 with fail
  go_cut [5] (fun s5 wx => s5 = .bool (qc && decide (x.b.len + x.e.len = 0)) ∧ ∃ n, wx = w.drewN n)
  case first =>
    clear hI
    cases qc with
    | false =>
      go_quiet (fail)
      go_wp2_with fail
      go_meet
      exact ⟨rfl, _, rfl⟩
    | true =>
      by_cases hz : x.b.len + x.e.len = 0
      · rw [hz] at hw
        go_quiet (fail)
        go_wp2_with fail
        go_meet
        exact ⟨by simp [hz], _, rfl⟩
      · have hzI : (((x.b.len + x.e.len : Nat) : Int) == 0) = false := by rw [beq_eq_false_iff_ne]; omega
        go_quiet (fail)
        go_wp2_with fail
        go_meet
        refine ⟨?_, _, rfl⟩
        simp [hz]
        rw [Bool.eq_iff_iff]
        simp
        omega
  case rest =>
    obtain ⟨rfl, n, rfl⟩ := hcut
    have hbw : Below w.heap.size w (w.drewN n) := below_drewN' (Below.refl _ _) n
    have HB := Lib.hid hbw
    clear hbw hw
    unfold insV at HP
    have hr := HR.out
    generalize hbb : (qc && decide (x.b.len + x.e.len = 0)) = b at hr ⊢
    clear HR hC hbb
    by_cases k1 : x.k = 1
    · rw [if_pos k1] at hr
      have i1 : ((x.k : Int) == 1) = true := by rw [k1]; rfl
      have HR := Lib.hid hr
      clear hr k1
      cases b with
      | false =>
        go_wp2_with fail
        go_ret
        exact ⟨by rw [HR.out]; rfl, HB.out⟩
      | true =>
        go_wp2_with fail
        refine (HP.out _).mono ?_
        rintro e w2 ⟨rfl, hb2⟩
        have HB2 := Lib.hid (HB.out.trans (hb2.mono HB.out.size))
        clear hb2
        go_wp2_with fail
        go_ret
        exact ⟨by rw [HR.out]; rfl, HB2.out⟩
    have i1 : ((x.k : Int) == 1) = false := by rw [beq_eq_false_iff_ne]; omega
    rw [if_neg k1] at hr
    by_cases k4 : x.k = 4
    · rw [if_pos k4] at hr
      have i4 : ((x.k : Int) == 4) = true := by rw [k4]; rfl
      have HR := Lib.hid hr
      clear hr k1 k4
      cases b with
      | false =>
        go_wp2_with fail
        go_ret
        exact ⟨by rw [HR.out]; rfl, HB.out⟩
      | true =>
        go_wp2_with fail
        go_ret
        exact ⟨by rw [HR.out]; rfl, HB.out⟩
    have i4 : ((x.k : Int) == 4) = false := by rw [beq_eq_false_iff_ne]; omega
    rw [if_neg k4] at hr
    by_cases k23 : x.k = 2 ∨ x.k = 3
    · rw [if_pos k23] at hr
      obtain ⟨i2, i3⟩ : ((x.k : Int) == 2) = decide (x.k = 2) ∧ (decide (x.k = 2) = false → ((x.k : Int) == 3) = true) := by
        rcases k23 with h | h <;> rw [h]
        · exact ⟨rfl, fun hh => absurd hh (by decide)⟩
        · exact ⟨rfl, fun _ => rfl⟩
      obtain ⟨b2, hb2⟩ : ∃ b2, b2 = decide (x.k = 2) := ⟨_, rfl⟩
      rw [← hb2] at hr i2 i3
      have HR := Lib.hid hr
      clear hr k1 k4 k23 hb2
      cases qi with
      | false =>
        cases b2 with
        | true =>
          clear i3
          go_wp2_with fail
          go_ret
          exact ⟨by rw [HR.out]; rfl, HB.out⟩
        | false =>
          have i3' := i3 rfl
          clear i3
          go_wp2_with fail
          go_ret
          exact ⟨by rw [HR.out]; rfl, HB.out⟩
      | true =>
        cases hcs : condS x.c with
        | false =>
          rw [show condS ⟨x.c.nt, ⟨x.c.i.o, x.c.i.d, x.c.i.s, x.c.i.n⟩⟩ = condS x.c from rfl, hcs] at HC
          rw [hcs] at HR
          clear hcs
          cases b2 with
          | true =>
            clear i3
            go_wp2_with fail
            refine (HC.out _).mono ?_
            rintro e w2 ⟨rfl, hb2⟩
            have HB2 := Lib.hid (HB.out.trans (hb2.mono HB.out.size))
            have hx2 := HX.out.below HB2.out HX.out.1
            have f0' := hx2.2 0 (by omega)
            have fb' := hx2.2 11 (by omega)
            simp only [smF] at f0' fb'
            rw [Nat.add_zero] at f0'
            clear hb2 hx2
            go_wp2_with fail
            go_ret
            exact ⟨by rw [HR.out]; rfl, HB2.out⟩
          | false =>
            have i3' := i3 rfl
            clear i3
            go_wp2_with fail
            refine (HC.out _).mono ?_
            rintro e w2 ⟨rfl, hb2⟩
            have HB2 := Lib.hid (HB.out.trans (hb2.mono HB.out.size))
            have hx2 := HX.out.below HB2.out HX.out.1
            have f0' := hx2.2 0 (by omega)
            have fb' := hx2.2 11 (by omega)
            simp only [smF] at f0' fb'
            rw [Nat.add_zero] at f0'
            clear hb2 hx2
            go_wp2_with fail
            go_ret
            exact ⟨by rw [HR.out]; rfl, HB2.out⟩
        | true =>
          rw [show condS ⟨x.c.nt, ⟨x.c.i.o, x.c.i.d, x.c.i.s, x.c.i.n⟩⟩ = condS x.c from rfl, hcs] at HC
          rw [hcs] at HR
          clear hcs
          cases b2 with
          | true =>
            clear i3
            go_wp2_with fail
            refine (HC.out _).mono ?_
            rintro e w2 ⟨rfl, hb2⟩
            have HB2 := Lib.hid (HB.out.trans (hb2.mono HB.out.size))
            have hx2 := HX.out.below HB2.out HX.out.1
            have f0' := hx2.2 0 (by omega)
            have fb' := hx2.2 11 (by omega)
            simp only [smF] at f0' fb'
            rw [Nat.add_zero] at f0'
            clear hb2 hx2
            go_wp2_with fail
            go_ret
            exact ⟨by rw [HR.out]; rfl, HB2.out⟩
          | false =>
            have i3' := i3 rfl
            clear i3
            by_cases hz : x.e.len = 0
            · have hzI : ((x.e.len : Int) == 0) = true := by rw [hz]; rfl
              have HZ := Lib.hid hz
              clear hz
              go_wp2_with fail
              refine (HC.out _).mono ?_
              rintro e w2 ⟨rfl, hb2⟩
              have HB2 := Lib.hid (HB.out.trans (hb2.mono HB.out.size))
              have hx2 := HX.out.below HB2.out HX.out.1
              have f0' := hx2.2 0 (by omega)
              have fb' := hx2.2 11 (by omega)
              simp only [smF] at f0' fb'
              rw [Nat.add_zero] at f0'
              clear hb2 hx2
              go_wp2_with fail
              go_ret
              exact ⟨by rw [HR.out, HZ.out]; rfl, HB2.out⟩
            · have hzI : ((x.e.len : Int) == 0) = false := by rw [beq_eq_false_iff_ne]; omega
              have HZ := Lib.hid hz
              clear hz
              go_wp2_with fail
              refine (HC.out _).mono ?_
              rintro e w2 ⟨rfl, hb2⟩
              have HB2 := Lib.hid (HB.out.trans (hb2.mono HB.out.size))
              have hx2 := HX.out.below HB2.out HX.out.1
              have f0' := hx2.2 0 (by omega)
              have fb' := hx2.2 11 (by omega)
              simp only [smF] at f0' fb'
              rw [Nat.add_zero] at f0'
              clear hb2 hx2
              go_wp2_with fail
              go_ret
              exact ⟨by rw [HR.out, decide_eq_false HZ.out]; rfl, HB2.out⟩
    · rw [if_neg k23] at hr
      have i2 : ((x.k : Int) == 2) = false := by rw [beq_eq_false_iff_ne]; omega
      have i3 : ((x.k : Int) == 3) = false := by rw [beq_eq_false_iff_ne]; omega
      have HR := Lib.hid hr
      clear hr k1 k4 k23
      go_wp2_with fail
      go_ret
      exact ⟨by rw [HR.out]; rfl, HB.out⟩
end Go.Proofs.Ytiadfmhodlbkiaa
