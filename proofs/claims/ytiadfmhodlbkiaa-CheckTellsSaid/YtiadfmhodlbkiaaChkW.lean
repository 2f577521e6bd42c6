/-
  THE WALK OF check.Check. Conditions: the config reads so; an Op is a byte; fewer than 2^60 statements.
-/
import Derived.Test.YtiadfmhodlbkiaaPtW3
import Derived.Test.YtiadfmhodlbkiaaSynW4
import Derived.Deep.QuietTactic
namespace Go.Proofs.Ytiadfmhodlbkiaa
open Go.RowKit
set_option linter.unusedSimpArgs false
set_option linter.unusedVariables false
def inC (n most : Int) : Bool := decide (0 ≤ n) && decide (n ≤ most)
def checkT (c : CfgS) : Int :=
  if configT c = false then 124
  else if (inC c.h 8 && inC c.ph 8 && inC c.m 12 && inC c.pm 12) = false then 123
  else if rightPs c.parts ≠ 0 then rightPs c.parts
  else if (2 : Int) ^ c.h.toNat < (c.parts.length : Int) then 123 else 0
theorem inC_any (n most : Int) (w : World) : Calls Try.prog 51 #[.int .i64 n, .int .i64 most] w fun e w' => e = .returned (.bool (inC n most)) ∧ w' = w := by
  unfold inC
  by_cases h0 : 0 ≤ n
  · rw [decide_eq_true h0]
    by_cases h1 : n ≤ most
    · rw [decide_eq_true h1]
      go_enter Try.func51, Try.ntmps51
      go_wp2_with fail
      go_ret
      exact ⟨rfl, rfl⟩
    · rw [decide_eq_false h1]
      go_enter Try.func51, Try.ntmps51
      go_wp2_with fail
      go_ret
      refine ⟨?_, rfl⟩
      first
        | rfl
        | (show Ending.returned (.bool (decide (n ≤ most))) = _; rw [decide_eq_false (by omega)]; rfl)
  · rw [decide_eq_false h0]
    go_enter Try.func51, Try.ntmps51
    go_wp2_with fail
    go_ret
    exact ⟨rfl, rfl⟩
/-- The ranges, one after another. -/
def rngs (c : CfgS) : List (Int × Int) := [(c.h, 8), (c.ph, 8), (c.m, 12), (c.pm, 12)]
def rngA (c : CfgS) : Nat → Bool
  | 0 => inC c.h 8 && (inC c.ph 8 && (inC c.m 12 && inC c.pm 12))
  | 1 => inC c.ph 8 && (inC c.m 12 && inC c.pm 12)
  | 2 => inC c.m 12 && inC c.pm 12
  | 3 => inC c.pm 12
  | _ => true
def ChR (c : CfgS) (w : World) (s23 : Value) (wr : World) : Prop := ∃ k : Nat, k ≤ 4 ∧ s23 = .int .i64 k ∧ rngA c k = rngA c 0 ∧ Below w.heap.size w wr
theorem idx4 (a b c d e f g h : Int) (W : World) : (Instr.index 90 (.agg #[.int .i64 a, .int .i64 b, .int .i64 c, .int .i64 d, .int .i64 e, .int .i64 f, .int .i64 g, .int .i64 h]) (.int .i64 0)).run Try.prog W = .ok (.agg #[.int .i64 a, .int .i64 b]) W ∧
    (Instr.index 90 (.agg #[.int .i64 a, .int .i64 b, .int .i64 c, .int .i64 d, .int .i64 e, .int .i64 f, .int .i64 g, .int .i64 h]) (.int .i64 1)).run Try.prog W = .ok (.agg #[.int .i64 c, .int .i64 d]) W ∧
    (Instr.index 90 (.agg #[.int .i64 a, .int .i64 b, .int .i64 c, .int .i64 d, .int .i64 e, .int .i64 f, .int .i64 g, .int .i64 h]) (.int .i64 2)).run Try.prog W = .ok (.agg #[.int .i64 e, .int .i64 f]) W ∧
    (Instr.index 90 (.agg #[.int .i64 a, .int .i64 b, .int .i64 c, .int .i64 d, .int .i64 e, .int .i64 f, .int .i64 g, .int .i64 h]) (.int .i64 3)).run Try.prog W = .ok (.agg #[.int .i64 g, .int .i64 h]) W := ⟨by kernel_rfl, by kernel_rfl, by kernel_rfl, by kernel_rfl⟩
set_option maxRecDepth 100000 in
set_option maxHeartbeats 8000000 in
theorem check_any (c : CfgS) (vp vc vq : Value) (S : Nat → Prop) (w : World) (h8 : c.code.b8 ∧ c.post.b8) (hn : c.code.all < 2 ^ 60 ∧ c.post.all < 2 ^ 60) (hp : PrT w S vp c.parts) (hc : Tr w S vc c.code) (hq : Tr w S vq c.post) :
    Calls Try.prog 18 #[.agg (cfgA c.h c.m c.ph c.pm vp vc vq c.has)] w fun e w' => e = .returned (.int .i64 (checkT c)) ∧ Below w.heap.size w w' := by
  obtain ⟨A1, d1, rfl⟩ := hp.form
  obtain ⟨A3, n3, rfl, -, -⟩ := hc.frm
  obtain ⟨A5, n5, rfl, -, -⟩ := hq.frm
  have HCF := Lib.hid (fun W (hb : Below w.heap.size w W) => configT_any c (.slice A1 c.parts.length d1) _ _ S W ⟨_, _, _, rfl⟩ h8 hn (hc.below hb) (hq.below hb))
  have HP := Lib.hid hp
  obtain ⟨z, hz⟩ : ∃ z, z = checkT c := ⟨_, rfl⟩
  rw [← hz]
  have hr0 : (inC c.h 8 && inC c.ph 8 && inC c.m 12 && inC c.pm 12) = rngA c 0 := by
    show _ = (inC c.h 8 && (inC c.ph 8 && (inC c.m 12 && inC c.pm 12)))
    simp only [Bool.and_assoc]
  unfold checkT at hz
  rw [hr0] at hz
  have HZ := Lib.hid hz
  clear hz hr0 h8 hn hp hc hq
  have hba : Below w.heap.size w (w.alloc (.cells (cfgA c.h c.m c.ph c.pm (.slice A1 c.parts.length d1) (.slice A3 c.code.len n3) (.slice A5 c.post.len n5) c.has) 25)) := (Below.refl _ _).alloc (Nat.le_refl _) _
  have hrow := cfg_row (heap_alloc_new w (.cells (cfgA c.h c.m c.ph c.pm (.slice A1 c.parts.length d1) (.slice A3 c.code.len n3) (.slice A5 c.post.len n5) c.has) 25))
  have HBA := Lib.hid hba
  have HROW := Lib.hid hrow
  clear hba hrow
  unfold cfgA at *
  go_enter Try.func18, Try.ntmps18
  go_wp2_with fail
  generalize w.alloc (.cells #[.int .i64 c.h, .int .i64 c.m, .int .i64 c.ph, .int .i64 c.pm, .slice A1 c.parts.length d1, .slice A3 c.code.len n3, .slice A5 c.post.len n5, .bool c.has] 25) = W1 at *
  refine (HCF.out _ HBA.out).mono ?_
  rintro e w2 ⟨rfl, hb2⟩
  have hr2 := below_row hb2 HROW.out HROW.out.lt
  have HR2 := Lib.hid hr2
  have HB2 := Lib.hid (HBA.out.trans (hb2.mono HBA.out.size))
  have c0 : w2.cell? ⟨w.heap.size, 0, none⟩ = some (.int .i64 c.h) := hr2.cell (by omega)
  have c1 : w2.cell? ⟨w.heap.size, 1, none⟩ = some (.int .i64 c.m) := hr2.cell (by omega)
  have c2 : w2.cell? ⟨w.heap.size, 2, none⟩ = some (.int .i64 c.ph) := hr2.cell (by omega)
  have c3 : w2.cell? ⟨w.heap.size, 3, none⟩ = some (.int .i64 c.pm) := hr2.cell (by omega)
  clear hb2 hr2 HROW HBA
  cases hcf : configT c with
  | false =>
    have hz := HZ.out
    rw [if_pos hcf] at hz
    subst hz
    clear hcf
    go_wp2_with fail
    go_ret
    exact ⟨rfl, HB2.out⟩
  | true =>
    have hz := HZ.out
    rw [if_neg (by rw [hcf]; decide)] at hz
    have HZ2 := Lib.hid hz
    clear hcf hz
    go_wp2_with fail
    go_loopw [23] (fun s23 wr => ChR c w2 s23 wr) (fun s23 _ => 4 - (intOf s23).toNat)
    case atStart => exact ⟨0, by omega, rfl, rfl, Below.refl _ _⟩
    case round =>
      obtain ⟨k, hk, rfl, hr, hb⟩ := hrel
      have HB := Lib.hid hb
      have HRG := Lib.hid hr
      clear hb hr
      have hk5 : k = 0 ∨ k = 1 ∨ k = 2 ∨ k = 3 ∨ k = 4 := by omega
      rcases hk5 with rfl | rfl | rfl | rfl | rfl
      · obtain ⟨b, hbb⟩ : ∃ b, b = inC c.h 8 := ⟨_, rfl⟩
        have HIN := Lib.hid (fun W => hbb ▸ inC_any c.h 8 W)
        have HBB := Lib.hid hbb
        have hix := fun W => (idx4 c.h 8 c.ph 8 c.m 12 c.pm 12 W).1
        clear hbb
        go_wp2_with fail
        refine (HIN.out _).mono ?_
        rintro e W4 ⟨rfl, rfl⟩
        cases b with
        | false =>
          have hz := HZ2.out
          have hf : rngA c 0 = false := by first | (rw [← HRG.out]; unfold rngA; simp [← HBB.out]; done) | (unfold rngA; simp [← HBB.out])
          rw [if_pos hf] at hz
          subst hz
          clear hf
          go_wp2_with fail
          go_ret
          exact ⟨rfl, HB2.out.trans ((HB.out.trans (((Below.refl wr.heap.size wr).alloc (Nat.le_refl _) _).mono HB.out.size)).mono HB2.out.size)⟩
        | true =>
          go_wp2_with fail
          go_roundw
          case rel => exact ⟨1, by omega, rfl, by first | (rw [← HRG.out]; unfold rngA; simp [← HBB.out]; done) | (unfold rngA; simp [← HBB.out]), HB.out.trans (((Below.refl wr.heap.size wr).alloc (Nat.le_refl _) _).mono HB.out.size)⟩
          case measure => simp [intOf]
      · obtain ⟨b, hbb⟩ : ∃ b, b = inC c.ph 8 := ⟨_, rfl⟩
        have HIN := Lib.hid (fun W => hbb ▸ inC_any c.ph 8 W)
        have HBB := Lib.hid hbb
        have hix := fun W => (idx4 c.h 8 c.ph 8 c.m 12 c.pm 12 W).2.1
        clear hbb
        go_wp2_with fail
        refine (HIN.out _).mono ?_
        rintro e W4 ⟨rfl, rfl⟩
        cases b with
        | false =>
          have hz := HZ2.out
          have hf : rngA c 0 = false := by first | (rw [← HRG.out]; unfold rngA; simp [← HBB.out]; done) | (unfold rngA; simp [← HBB.out])
          rw [if_pos hf] at hz
          subst hz
          clear hf
          go_wp2_with fail
          go_ret
          exact ⟨rfl, HB2.out.trans ((HB.out.trans (((Below.refl wr.heap.size wr).alloc (Nat.le_refl _) _).mono HB.out.size)).mono HB2.out.size)⟩
        | true =>
          go_wp2_with fail
          go_roundw
          case rel => exact ⟨2, by omega, rfl, by first | (rw [← HRG.out]; unfold rngA; simp [← HBB.out]; done) | (unfold rngA; simp [← HBB.out]), HB.out.trans (((Below.refl wr.heap.size wr).alloc (Nat.le_refl _) _).mono HB.out.size)⟩
          case measure => simp [intOf]
      · obtain ⟨b, hbb⟩ : ∃ b, b = inC c.m 12 := ⟨_, rfl⟩
        have HIN := Lib.hid (fun W => hbb ▸ inC_any c.m 12 W)
        have HBB := Lib.hid hbb
        have hix := fun W => (idx4 c.h 8 c.ph 8 c.m 12 c.pm 12 W).2.2.1
        clear hbb
        go_wp2_with fail
        refine (HIN.out _).mono ?_
        rintro e W4 ⟨rfl, rfl⟩
        cases b with
        | false =>
          have hz := HZ2.out
          have hf : rngA c 0 = false := by first | (rw [← HRG.out]; unfold rngA; simp [← HBB.out]; done) | (unfold rngA; simp [← HBB.out])
          rw [if_pos hf] at hz
          subst hz
          clear hf
          go_wp2_with fail
          go_ret
          exact ⟨rfl, HB2.out.trans ((HB.out.trans (((Below.refl wr.heap.size wr).alloc (Nat.le_refl _) _).mono HB.out.size)).mono HB2.out.size)⟩
        | true =>
          go_wp2_with fail
          go_roundw
          case rel => exact ⟨3, by omega, rfl, by first | (rw [← HRG.out]; unfold rngA; simp [← HBB.out]; done) | (unfold rngA; simp [← HBB.out]), HB.out.trans (((Below.refl wr.heap.size wr).alloc (Nat.le_refl _) _).mono HB.out.size)⟩
          case measure => simp [intOf]
      · obtain ⟨b, hbb⟩ : ∃ b, b = inC c.pm 12 := ⟨_, rfl⟩
        have HIN := Lib.hid (fun W => hbb ▸ inC_any c.pm 12 W)
        have HBB := Lib.hid hbb
        have hix := fun W => (idx4 c.h 8 c.ph 8 c.m 12 c.pm 12 W).2.2.2
        clear hbb
        go_wp2_with fail
        refine (HIN.out _).mono ?_
        rintro e W4 ⟨rfl, rfl⟩
        cases b with
        | false =>
          have hz := HZ2.out
          have hf : rngA c 0 = false := by first | (rw [← HRG.out]; unfold rngA; simp [← HBB.out]; done) | (unfold rngA; simp [← HBB.out])
          rw [if_pos hf] at hz
          subst hz
          clear hf
          go_wp2_with fail
          go_ret
          exact ⟨rfl, HB2.out.trans ((HB.out.trans (((Below.refl wr.heap.size wr).alloc (Nat.le_refl _) _).mono HB.out.size)).mono HB2.out.size)⟩
        | true =>
          go_wp2_with fail
          go_roundw
          case rel => exact ⟨4, by omega, rfl, by first | (rw [← HRG.out]; unfold rngA; simp [← HBB.out]; done) | (unfold rngA; simp [← HBB.out]), HB.out.trans (((Below.refl wr.heap.size wr).alloc (Nat.le_refl _) _).mono HB.out.size)⟩
          case measure => simp [intOf]
      · have hr4 : rngA c 0 = true := by rw [← HRG.out]; rfl
        have hz := HZ2.out
        rw [if_neg (by rw [hr4]; decide)] at hz
        have hh : 0 ≤ c.h ∧ c.h ≤ 8 := by
          have h := hr4
          unfold rngA inC at h
          simp only [Bool.and_eq_true, decide_eq_true_eq] at h
          omega
        have HZ3 := Lib.hid hz
        have HH := Lib.hid hh
        have hbw := HB2.out.trans (HB.out.mono HB2.out.size)
        have hr3 := below_row HB.out HR2.out HR2.out.lt
        have c4 : wr.cell? ⟨w.heap.size, 4, none⟩ = some (.slice A1 c.parts.length d1) := hr3.cell (by omega)
        have HR3 := Lib.hid hr3
        have HBW := Lib.hid hbw
        have HRP := Lib.hid (rightPs_any c.parts _ S wr (HP.out.below hbw))
        clear hr4 hz hh hr3 hbw HRG c0 c1 c2 c3
        go_wp2_with fail
        refine HRP.out.mono ?_
        rintro e w5 ⟨rfl, hb5⟩
        have hr5 := below_row hb5 HR3.out HR3.out.lt
        have c4' : w5.cell? ⟨w.heap.size, 4, none⟩ = some (.slice A1 c.parts.length d1) := hr5.cell (by omega)
        have c0' : w5.cell? ⟨w.heap.size, 0, none⟩ = some (.int .i64 c.h) := hr5.cell (by omega)
        have HB5 := Lib.hid (HBW.out.trans (hb5.mono HBW.out.size))
        clear hr5 hb5 c4
        generalize rightPs c.parts = e at *
        by_cases he : e = 0
        · have i0 : (e != 0) = false := by rw [he]; rfl
          have hz := HZ3.out
          rw [if_neg (by rw [he]; decide)] at hz
          have hsh := fun W => shl1 HH.out.1 (by have := HH.out; omega) W
          have HZ4 := Lib.hid hz
          clear hz he HRP
          generalize (2 : Int) ^ c.h.toNat = n at *
          go_wp2_with fail
          go_quiet (fail)
          by_cases hlt : n < (c.parts.length : Int)
          · have hz := HZ4.out
            rw [if_pos hlt] at hz
            subst hz
            go_wp2_with fail
            go_ret
            exact ⟨rfl, below_drewN' HB5.out _⟩
          · have hz := HZ4.out
            rw [if_neg hlt] at hz
            subst hz
            go_wp2_with fail
            go_ret
            exact ⟨rfl, below_drewN' HB5.out _⟩
        · have i0 : (e != 0) = true := by rw [bne_iff_ne]; exact he
          have hz := HZ3.out
          rw [if_pos he] at hz
          have HZ4 := Lib.hid hz
          clear hz he HRP
          go_wp2_with fail
          go_ret
          exact ⟨by rw [HZ4.out]; rfl, HB5.out⟩
end Go.Proofs.Ytiadfmhodlbkiaa
