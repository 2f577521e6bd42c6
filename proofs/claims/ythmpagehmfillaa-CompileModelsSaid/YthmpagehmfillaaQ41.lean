/-
  THE WALK OF model.Right. Conditions: the parts read so.
  AN INSTRUCTION READ BACK, plain: what Get tells of bytes; an instruction's bytes are read as it. Conditions: none.
-/
import Derived.Test.YthmpagehmfillaaQ27
import Derived.Test.YthmpagehmfillaaQ23
namespace Go.Proofs.Ythmpagehmfillaa
open Go.RowKit
set_option linter.unusedSimpArgs false
set_option linter.unusedVariables false
def rngM (h m ph pm : Int) (nc np : Nat) : Nat → Bool
  | 0 => inC h 8 && (inC ph 8 && (inC m 12 && (inC pm 12 && (inC nc 4096 && inC np 4096))))
  | 1 => inC ph 8 && (inC m 12 && (inC pm 12 && (inC nc 4096 && inC np 4096)))
  | 2 => inC m 12 && (inC pm 12 && (inC nc 4096 && inC np 4096))
  | 3 => inC pm 12 && (inC nc 4096 && inC np 4096)
  | 4 => inC nc 4096 && inC np 4096
  | 5 => inC np 4096
  | _ => true
def modelT (h m ph pm : Int) (l : List PartS) (nc np : Nat) : Int :=
  if rngM h m ph pm nc np 0 = false then 131
  else if (np = 0 ∧ 0 < ph + pm) ∨ (2 : Int) ^ h.toNat < (l.length : Int) then 131
  else rightPs l
def mdF (h m ph pm : Int) (vp vc vq : Value) : Nat → Value
  | 0 => .int .i64 h
  | 1 => .int .i64 m
  | 2 => .int .i64 ph
  | 3 => .int .i64 pm
  | 4 => vp
  | 5 => vc
  | _ => vq
theorem md_row {w : World} {g : Nat} {t : TypeId} {h m ph pm : Int} {vp vc vq : Value} (hh : w.heap[g]? = some (.cells #[.int .i64 h, .int .i64 m, .int .i64 ph, .int .i64 pm, vp, vc, vq] t (0, 0))) : w.rowIs g t 7 (mdF h m ph pm vp vc vq) := ⟨_, hh, rfl, fun i hi => by
  match i, hi with
  | 0, _ => rfl
  | 1, _ => rfl
  | 2, _ => rfl
  | 3, _ => rfl
  | 4, _ => rfl
  | 5, _ => rfl
  | 6, _ => rfl⟩
def MdR (h m ph pm : Int) (nc np : Nat) (w : World) (s26 : Value) (wr : World) : Prop := ∃ k : Nat, k ≤ 6 ∧ s26 = .int .i64 k ∧ rngM h m ph pm nc np k = rngM h m ph pm nc np 0 ∧ Below w.heap.size w wr
theorem idx6 (a0 b0 a1 b1 a2 b2 a3 b3 a4 b4 a5 b5 : Int) (W : World) : (Instr.index 72 (.agg #[.int .i64 a0, .int .i64 b0, .int .i64 a1, .int .i64 b1, .int .i64 a2, .int .i64 b2, .int .i64 a3, .int .i64 b3, .int .i64 a4, .int .i64 b4, .int .i64 a5, .int .i64 b5]) (.int .i64 0)).run Try.prog W = .ok (.agg #[.int .i64 a0, .int .i64 b0]) W ∧
    (Instr.index 72 (.agg #[.int .i64 a0, .int .i64 b0, .int .i64 a1, .int .i64 b1, .int .i64 a2, .int .i64 b2, .int .i64 a3, .int .i64 b3, .int .i64 a4, .int .i64 b4, .int .i64 a5, .int .i64 b5]) (.int .i64 1)).run Try.prog W = .ok (.agg #[.int .i64 a1, .int .i64 b1]) W ∧
    (Instr.index 72 (.agg #[.int .i64 a0, .int .i64 b0, .int .i64 a1, .int .i64 b1, .int .i64 a2, .int .i64 b2, .int .i64 a3, .int .i64 b3, .int .i64 a4, .int .i64 b4, .int .i64 a5, .int .i64 b5]) (.int .i64 2)).run Try.prog W = .ok (.agg #[.int .i64 a2, .int .i64 b2]) W ∧
    (Instr.index 72 (.agg #[.int .i64 a0, .int .i64 b0, .int .i64 a1, .int .i64 b1, .int .i64 a2, .int .i64 b2, .int .i64 a3, .int .i64 b3, .int .i64 a4, .int .i64 b4, .int .i64 a5, .int .i64 b5]) (.int .i64 3)).run Try.prog W = .ok (.agg #[.int .i64 a3, .int .i64 b3]) W ∧
    (Instr.index 72 (.agg #[.int .i64 a0, .int .i64 b0, .int .i64 a1, .int .i64 b1, .int .i64 a2, .int .i64 b2, .int .i64 a3, .int .i64 b3, .int .i64 a4, .int .i64 b4, .int .i64 a5, .int .i64 b5]) (.int .i64 4)).run Try.prog W = .ok (.agg #[.int .i64 a4, .int .i64 b4]) W ∧
    (Instr.index 72 (.agg #[.int .i64 a0, .int .i64 b0, .int .i64 a1, .int .i64 b1, .int .i64 a2, .int .i64 b2, .int .i64 a3, .int .i64 b3, .int .i64 a4, .int .i64 b4, .int .i64 a5, .int .i64 b5]) (.int .i64 5)).run Try.prog W = .ok (.agg #[.int .i64 a5, .int .i64 b5]) W := ⟨by kernel_rfl, by kernel_rfl, by kernel_rfl, by kernel_rfl, by kernel_rfl, by kernel_rfl⟩
set_option maxRecDepth 100000 in
set_option maxHeartbeats 16000000 in
theorem model_any (h m ph pm : Int) (l : List PartS) (vp : Value) (Ac Ap : Option Addr) (nc np cc cp : Nat) (S : Nat → Prop) (w : World) (hp : PrT w S vp l) :
    Calls Try.prog 8 #[.agg #[.int .i64 h, .int .i64 m, .int .i64 ph, .int .i64 pm, vp, .slice Ac nc cc, .slice Ap np cp]] w fun e w' => e = .returned (.int .i64 (modelT h m ph pm l nc np)) ∧ Below w.heap.size w w' := by
  obtain ⟨A1, d1, rfl⟩ := hp.form
  have HP := Lib.hid hp
  obtain ⟨z, hz⟩ : ∃ z, z = modelT h m ph pm l nc np := ⟨_, rfl⟩
  rw [← hz]
  unfold modelT at hz
  have HZ := Lib.hid hz
  clear hz hp
  have hba : Below w.heap.size w (w.alloc (.cells #[.int .i64 h, .int .i64 m, .int .i64 ph, .int .i64 pm, .slice A1 l.length d1, .slice Ac nc cc, .slice Ap np cp] 26)) := (Below.refl _ _).alloc (Nat.le_refl _) _
  have hrow := md_row (heap_alloc_new w (.cells #[.int .i64 h, .int .i64 m, .int .i64 ph, .int .i64 pm, .slice A1 l.length d1, .slice Ac nc cc, .slice Ap np cp] 26))
  have HB2 := Lib.hid hba
  have HR2 := Lib.hid hrow
  clear hba hrow
  go_enter Try.func8, Try.ntmps8
  go_upto_region 1 with fail
  generalize w.alloc (.cells #[.int .i64 h, .int .i64 m, .int .i64 ph, .int .i64 pm, .slice A1 l.length d1, .slice Ac nc cc, .slice Ap np cp] 26) = w2 at *
  have c0 : w2.cell? ⟨w.heap.size, 0, none⟩ = some (.int .i64 h) := HR2.out.cell (by omega)
  have c1 : w2.cell? ⟨w.heap.size, 1, none⟩ = some (.int .i64 m) := HR2.out.cell (by omega)
  have c2 : w2.cell? ⟨w.heap.size, 2, none⟩ = some (.int .i64 ph) := HR2.out.cell (by omega)
  have c3 : w2.cell? ⟨w.heap.size, 3, none⟩ = some (.int .i64 pm) := HR2.out.cell (by omega)
  have c5 : w2.cell? ⟨w.heap.size, 5, none⟩ = some (.slice Ac nc cc) := HR2.out.cell (by omega)
  have c6 : w2.cell? ⟨w.heap.size, 6, none⟩ = some (.slice Ap np cp) := HR2.out.cell (by omega)
  go_wp2_with fail
  go_loopw [26] (fun s26 wr => MdR h m ph pm nc np w2 s26 wr) (fun s26 _ => 6 - (intOf s26).toNat)
  case atStart => exact ⟨0, by omega, rfl, rfl, Below.refl _ _⟩
  case round =>
    obtain ⟨k, hk, rfl, hr, hb⟩ := hrel
    have HB := Lib.hid hb
    have HRG := Lib.hid hr
    clear hb hr
    have hk5 : k = 0 ∨ k = 1 ∨ k = 2 ∨ k = 3 ∨ k = 4 ∨ k = 5 ∨ k = 6 := by omega
    rcases hk5 with rfl | rfl | rfl | rfl | rfl | rfl | rfl
    · have hix := fun W => (idx6 h 8 ph 8 m 12 pm 12 (nc : Nat) 4096 (np : Nat) 4096 W).1
      by_cases g0 : h < 0
      · have hz := HZ.out
        have hf : rngM h m ph pm nc np 0 = false := by
          have h1 : inC h 8 = false := by unfold inC; rw [decide_eq_false (by omega)]; rfl
          first | (rw [← HRG.out]; unfold rngM; simp [h1]; done) | (unfold rngM; simp [h1])
        rw [if_pos hf] at hz
        subst hz
        clear hf
        go_wp2_with fail
        go_ret
        exact ⟨rfl, HB2.out.trans ((HB.out.trans (((Below.refl wr.heap.size wr).alloc (Nat.le_refl _) _).mono HB.out.size)).mono HB2.out.size)⟩
      · by_cases g1 : 8 < h
        · have hz := HZ.out
          have hf : rngM h m ph pm nc np 0 = false := by
            have h1 : inC h 8 = false := by unfold inC; rw [decide_eq_false (show ¬ h ≤ 8 by omega)]; simp
            first | (rw [← HRG.out]; unfold rngM; simp [h1]; done) | (unfold rngM; simp [h1])
          rw [if_pos hf] at hz
          subst hz
          clear hf
          go_wp2_with fail
          go_ret
          exact ⟨rfl, HB2.out.trans ((HB.out.trans (((Below.refl wr.heap.size wr).alloc (Nat.le_refl _) _).mono HB.out.size)).mono HB2.out.size)⟩
        · have HGG := Lib.hid (And.intro g0 g1)
          go_wp2_with fail
          go_roundw
          case rel =>
            have h1 : inC h 8 = true := by
              have := HGG.out
              unfold inC; rw [decide_eq_true (show 0 ≤ h by omega), decide_eq_true (show h ≤ 8 by omega)]; rfl
            exact ⟨1, by omega, rfl, by first | (rw [← HRG.out]; unfold rngM; simp [h1]; done) | (unfold rngM; simp [h1]), HB.out.trans (((Below.refl wr.heap.size wr).alloc (Nat.le_refl _) _).mono HB.out.size)⟩
          case measure => simp [intOf]
    · have hix := fun W => (idx6 h 8 ph 8 m 12 pm 12 (nc : Nat) 4096 (np : Nat) 4096 W).2.1
      by_cases g0 : ph < 0
      · have hz := HZ.out
        have hf : rngM h m ph pm nc np 0 = false := by
          have h1 : inC ph 8 = false := by unfold inC; rw [decide_eq_false (by omega)]; rfl
          first | (rw [← HRG.out]; unfold rngM; simp [h1]; done) | (unfold rngM; simp [h1])
        rw [if_pos hf] at hz
        subst hz
        clear hf
        go_wp2_with fail
        go_ret
        exact ⟨rfl, HB2.out.trans ((HB.out.trans (((Below.refl wr.heap.size wr).alloc (Nat.le_refl _) _).mono HB.out.size)).mono HB2.out.size)⟩
      · by_cases g1 : 8 < ph
        · have hz := HZ.out
          have hf : rngM h m ph pm nc np 0 = false := by
            have h1 : inC ph 8 = false := by unfold inC; rw [decide_eq_false (show ¬ ph ≤ 8 by omega)]; simp
            first | (rw [← HRG.out]; unfold rngM; simp [h1]; done) | (unfold rngM; simp [h1])
          rw [if_pos hf] at hz
          subst hz
          clear hf
          go_wp2_with fail
          go_ret
          exact ⟨rfl, HB2.out.trans ((HB.out.trans (((Below.refl wr.heap.size wr).alloc (Nat.le_refl _) _).mono HB.out.size)).mono HB2.out.size)⟩
        · have HGG := Lib.hid (And.intro g0 g1)
          go_wp2_with fail
          go_roundw
          case rel =>
            have h1 : inC ph 8 = true := by
              have := HGG.out
              unfold inC; rw [decide_eq_true (show 0 ≤ ph by omega), decide_eq_true (show ph ≤ 8 by omega)]; rfl
            exact ⟨2, by omega, rfl, by first | (rw [← HRG.out]; unfold rngM; simp [h1]; done) | (unfold rngM; simp [h1]), HB.out.trans (((Below.refl wr.heap.size wr).alloc (Nat.le_refl _) _).mono HB.out.size)⟩
          case measure => simp [intOf]
    · have hix := fun W => (idx6 h 8 ph 8 m 12 pm 12 (nc : Nat) 4096 (np : Nat) 4096 W).2.2.1
      by_cases g0 : m < 0
      · have hz := HZ.out
        have hf : rngM h m ph pm nc np 0 = false := by
          have h1 : inC m 12 = false := by unfold inC; rw [decide_eq_false (by omega)]; rfl
          first | (rw [← HRG.out]; unfold rngM; simp [h1]; done) | (unfold rngM; simp [h1])
        rw [if_pos hf] at hz
        subst hz
        clear hf
        go_wp2_with fail
        go_ret
        exact ⟨rfl, HB2.out.trans ((HB.out.trans (((Below.refl wr.heap.size wr).alloc (Nat.le_refl _) _).mono HB.out.size)).mono HB2.out.size)⟩
      · by_cases g1 : 12 < m
        · have hz := HZ.out
          have hf : rngM h m ph pm nc np 0 = false := by
            have h1 : inC m 12 = false := by unfold inC; rw [decide_eq_false (show ¬ m ≤ 12 by omega)]; simp
            first | (rw [← HRG.out]; unfold rngM; simp [h1]; done) | (unfold rngM; simp [h1])
          rw [if_pos hf] at hz
          subst hz
          clear hf
          go_wp2_with fail
          go_ret
          exact ⟨rfl, HB2.out.trans ((HB.out.trans (((Below.refl wr.heap.size wr).alloc (Nat.le_refl _) _).mono HB.out.size)).mono HB2.out.size)⟩
        · have HGG := Lib.hid (And.intro g0 g1)
          go_wp2_with fail
          go_roundw
          case rel =>
            have h1 : inC m 12 = true := by
              have := HGG.out
              unfold inC; rw [decide_eq_true (show 0 ≤ m by omega), decide_eq_true (show m ≤ 12 by omega)]; rfl
            exact ⟨3, by omega, rfl, by first | (rw [← HRG.out]; unfold rngM; simp [h1]; done) | (unfold rngM; simp [h1]), HB.out.trans (((Below.refl wr.heap.size wr).alloc (Nat.le_refl _) _).mono HB.out.size)⟩
          case measure => simp [intOf]
    · have hix := fun W => (idx6 h 8 ph 8 m 12 pm 12 (nc : Nat) 4096 (np : Nat) 4096 W).2.2.2.1
      by_cases g0 : pm < 0
      · have hz := HZ.out
        have hf : rngM h m ph pm nc np 0 = false := by
          have h1 : inC pm 12 = false := by unfold inC; rw [decide_eq_false (by omega)]; rfl
          first | (rw [← HRG.out]; unfold rngM; simp [h1]; done) | (unfold rngM; simp [h1])
        rw [if_pos hf] at hz
        subst hz
        clear hf
        go_wp2_with fail
        go_ret
        exact ⟨rfl, HB2.out.trans ((HB.out.trans (((Below.refl wr.heap.size wr).alloc (Nat.le_refl _) _).mono HB.out.size)).mono HB2.out.size)⟩
      · by_cases g1 : 12 < pm
        · have hz := HZ.out
          have hf : rngM h m ph pm nc np 0 = false := by
            have h1 : inC pm 12 = false := by unfold inC; rw [decide_eq_false (show ¬ pm ≤ 12 by omega)]; simp
            first | (rw [← HRG.out]; unfold rngM; simp [h1]; done) | (unfold rngM; simp [h1])
          rw [if_pos hf] at hz
          subst hz
          clear hf
          go_wp2_with fail
          go_ret
          exact ⟨rfl, HB2.out.trans ((HB.out.trans (((Below.refl wr.heap.size wr).alloc (Nat.le_refl _) _).mono HB.out.size)).mono HB2.out.size)⟩
        · have HGG := Lib.hid (And.intro g0 g1)
          go_wp2_with fail
          go_roundw
          case rel =>
            have h1 : inC pm 12 = true := by
              have := HGG.out
              unfold inC; rw [decide_eq_true (show 0 ≤ pm by omega), decide_eq_true (show pm ≤ 12 by omega)]; rfl
            exact ⟨4, by omega, rfl, by first | (rw [← HRG.out]; unfold rngM; simp [h1]; done) | (unfold rngM; simp [h1]), HB.out.trans (((Below.refl wr.heap.size wr).alloc (Nat.le_refl _) _).mono HB.out.size)⟩
          case measure => simp [intOf]
    · have hix := fun W => (idx6 h 8 ph 8 m 12 pm 12 (nc : Nat) 4096 (np : Nat) 4096 W).2.2.2.2.1
      have g0 : ¬ ((nc : Nat) : Int) < 0 := by omega
      by_cases g1 : 4096 < ((nc : Nat) : Int)
      · have hz := HZ.out
        have hf : rngM h m ph pm nc np 0 = false := by
          have h1 : inC ((nc : Nat) : Int) 4096 = false := by unfold inC; rw [decide_eq_false (show ¬ ((nc : Nat) : Int) ≤ 4096 by omega)]; simp
          first | (rw [← HRG.out]; unfold rngM; simp [h1]; done) | (unfold rngM; simp [h1])
        rw [if_pos hf] at hz
        subst hz
        clear hf
        go_wp2_with fail
        go_ret
        exact ⟨rfl, HB2.out.trans ((HB.out.trans (((Below.refl wr.heap.size wr).alloc (Nat.le_refl _) _).mono HB.out.size)).mono HB2.out.size)⟩
      · have HGG := Lib.hid (And.intro g0 g1)
        go_wp2_with fail
        go_roundw
        case rel =>
          have h1 : inC ((nc : Nat) : Int) 4096 = true := by
            have := HGG.out
            unfold inC; rw [decide_eq_true (show 0 ≤ ((nc : Nat) : Int) by omega), decide_eq_true (show ((nc : Nat) : Int) ≤ 4096 by omega)]; rfl
          exact ⟨5, by omega, rfl, by first | (rw [← HRG.out]; unfold rngM; simp [h1]; done) | (unfold rngM; simp [h1]), HB.out.trans (((Below.refl wr.heap.size wr).alloc (Nat.le_refl _) _).mono HB.out.size)⟩
        case measure => simp [intOf]
    · have hix := fun W => (idx6 h 8 ph 8 m 12 pm 12 (nc : Nat) 4096 (np : Nat) 4096 W).2.2.2.2.2
      have g0 : ¬ ((np : Nat) : Int) < 0 := by omega
      by_cases g1 : 4096 < ((np : Nat) : Int)
      · have hz := HZ.out
        have hf : rngM h m ph pm nc np 0 = false := by
          have h1 : inC ((np : Nat) : Int) 4096 = false := by unfold inC; rw [decide_eq_false (show ¬ ((np : Nat) : Int) ≤ 4096 by omega)]; simp
          first | (rw [← HRG.out]; unfold rngM; simp [h1]; done) | (unfold rngM; simp [h1])
        rw [if_pos hf] at hz
        subst hz
        clear hf
        go_wp2_with fail
        go_ret
        exact ⟨rfl, HB2.out.trans ((HB.out.trans (((Below.refl wr.heap.size wr).alloc (Nat.le_refl _) _).mono HB.out.size)).mono HB2.out.size)⟩
      · have HGG := Lib.hid (And.intro g0 g1)
        go_wp2_with fail
        go_roundw
        case rel =>
          have h1 : inC ((np : Nat) : Int) 4096 = true := by
            have := HGG.out
            unfold inC; rw [decide_eq_true (show 0 ≤ ((np : Nat) : Int) by omega), decide_eq_true (show ((np : Nat) : Int) ≤ 4096 by omega)]; rfl
          exact ⟨6, by omega, rfl, by first | (rw [← HRG.out]; unfold rngM; simp [h1]; done) | (unfold rngM; simp [h1]), HB.out.trans (((Below.refl wr.heap.size wr).alloc (Nat.le_refl _) _).mono HB.out.size)⟩
        case measure => simp [intOf]
    · have hr4 : rngM h m ph pm nc np 0 = true := by rw [← HRG.out]; rfl
      have hz := HZ.out
      rw [if_neg (by rw [hr4]; decide)] at hz
      have hh : (0 ≤ h ∧ h ≤ 8) ∧ (0 ≤ ph ∧ ph ≤ 8) ∧ (0 ≤ pm ∧ pm ≤ 12) := by
        have h' := hr4
        unfold rngM inC at h'
        simp only [Bool.and_eq_true, decide_eq_true_eq] at h'
        omega
      have HZ3 := Lib.hid hz
      have HH := Lib.hid hh
      have hbw := HB2.out.trans (HB.out.mono HB2.out.size)
      have hr3 := below_row HB.out HR2.out HR2.out.lt
      have c0' : wr.cell? ⟨w.heap.size, 0, none⟩ = some (.int .i64 h) := hr3.cell (by omega)
      have c2' : wr.cell? ⟨w.heap.size, 2, none⟩ = some (.int .i64 ph) := hr3.cell (by omega)
      have c3' : wr.cell? ⟨w.heap.size, 3, none⟩ = some (.int .i64 pm) := hr3.cell (by omega)
      have c4' : wr.cell? ⟨w.heap.size, 4, none⟩ = some (.slice A1 l.length d1) := hr3.cell (by omega)
      have c6' : wr.cell? ⟨w.heap.size, 6, none⟩ = some (.slice Ap np cp) := hr3.cell (by omega)
      have HBW := Lib.hid hbw
      have HRP := Lib.hid (fun W (hb : Below w.heap.size w W) => rightPs_any l _ S W (HP.out.below hb))
      have hsh := fun W => shl1 HH.out.1.1 (by have := HH.out; omega) W
      have hw := wrapE (x := ph + pm) (by omega)
      clear hr4 hz hh hr3 hbw HRG c0 c1 c2 c3 c5 c6 HZ
      generalize (2 : Int) ^ h.toNat = n at *
      by_cases hnp : np = 0
      · have i0 : ((np : Int) == 0) = true := by rw [hnp]; rfl
        by_cases hpp : 0 < ph + pm
        · have hz := HZ3.out
          rw [if_pos (.inl ⟨hnp, hpp⟩)] at hz
          subst hz
          clear hnp
          go_wp2_with fail
          go_quiet (fail)
          go_wp2_with fail
          go_ret
          exact ⟨rfl, below_drewN' HBW.out _⟩
        · by_cases hlt : n < (l.length : Int)
          · have hz := HZ3.out
            rw [if_pos (.inr hlt)] at hz
            subst hz
            clear hnp
            go_wp2_with fail
            go_quiet (fail)
            go_wp2_with fail
            go_ret
            exact ⟨rfl, below_drewN' HBW.out _⟩
          · have hz := HZ3.out
            rw [if_neg (by intro h; rcases h with h | h; exact hpp h.2; exact hlt h)] at hz
            have HZ4 := Lib.hid hz
            clear hnp hz
            go_wp2_with fail
            go_quiet (fail)
            go_wp2_with fail
            refine (HRP.out _ (below_drewN' HBW.out _)).mono ?_
            rintro e w5 ⟨rfl, hb5⟩
            have HB5 := Lib.hid ((below_drewN' HBW.out _).trans (hb5.mono (below_drewN' HBW.out _).size))
            clear hb5
            go_wp2_with fail
            go_ret
            exact ⟨by rw [HZ4.out]; rfl, HB5.out⟩
      · have i0 : ((np : Int) == 0) = false := by rw [beq_eq_false_iff_ne]; omega
        by_cases hlt : n < (l.length : Int)
        · have hz := HZ3.out
          rw [if_pos (.inr hlt)] at hz
          subst hz
          clear hnp
          go_wp2_with fail
          go_quiet (fail)
          go_wp2_with fail
          go_ret
          exact ⟨rfl, below_drewN' HBW.out _⟩
        · have hz := HZ3.out
          rw [if_neg (by intro h; rcases h with h | h; exact hnp h.1; exact hlt h)] at hz
          have HZ4 := Lib.hid hz
          clear hnp hz
          go_wp2_with fail
          go_quiet (fail)
          go_wp2_with fail
          refine (HRP.out _ (below_drewN' HBW.out _)).mono ?_
          rintro e w5 ⟨rfl, hb5⟩
          have HB5 := Lib.hid ((below_drewN' HBW.out _).trans (hb5.mono (below_drewN' HBW.out _).size))
          clear hb5
          go_wp2_with fail
          go_ret
          exact ⟨by rw [HZ4.out]; rfl, HB5.out⟩
end Go.Proofs.Ythmpagehmfillaa
namespace Go.Proofs.Ythmpagehmfillaa
set_option linter.unusedSimpArgs false
set_option linter.unusedVariables false
/-- A byte with its sign. -/
def sg8 (x : Nat) : Int := if x < 128 then (x : Int) else (x : Int) - 256
/-- What an instruction's N is. -/
def getN (x : Shp) (b : List Nat) (p m : Nat) : Int :=
  if x.long then ((b.getD (p + 1) 0 * 256 + b.getD (p + 2) 0 : Nat) : Int)
  else if x.jump then ((p + 1 + m : Nat) : Int) + sg8 (b.getD (p + 1) 0)
  else if x.from' then 0
  else if 0 < m then (b.getD (p + 1) 0 : Int) else 0
def getS (x : Shp) (b : List Nat) (p low : Nat) : Int :=
  if x.operand then (low : Int) else if x.long || x.jump then 0 else if x.from' then (b.getD (p + 1) 0 : Int) else 0
/-- What Get tells of bytes at a place among them: the instruction, what is next, a fault's number. -/
def getR (b : List Nat) (p : Nat) : InsS × Nat × Nat :=
  let f := b.getD p 0
  let x := shp (f / 8)
  if x.operand = false ∧ (x.known = false ∨ max x.place 0 < ((f % 8 : Nat) : Int)) then (i0, 0, 110)
  else
    let m := moreX x (if x.operand then ((f % 8 : Nat) : Int) else 0)
    if b.length < p + 1 + m then (i0, 0, 12)
    else
      let i : InsS := ⟨f / 8, if x.operand then 0 else ((f % 8 : Nat) : Int), getS x b p (f % 8), getN x b p m⟩
      if rightI i.o i.d i.s i.n then (i, p + 1 + m, 0) else (i0, 0, 110)
theorem getD_drop (b : List Nat) (p j : Nat) : b.getD (p + j) 0 = (b.drop p).getD j 0 := by
  rw [List.getD_eq_getElem?_getD, List.getD_eq_getElem?_getD, List.getElem?_drop]
theorem putE_zero {i : InsS} {p : Nat} (h : putE i p = 0) : rightI i.o i.d i.s i.n = true ∧ ((shp i.o).jump = true → -128 ≤ i.n - p - 2 ∧ i.n - p - 2 ≤ 127) := by
  unfold putE at h
  cases hr : rightI i.o i.d i.s i.n with
  | false => rw [hr, if_pos rfl] at h; cases h
  | true =>
    rw [hr, if_neg (by decide)] at h
    refine ⟨rfl, fun hj => ?_⟩
    by_cases hc : (shp i.o).jump = true ∧ (i.n - p - 2 < -128 ∨ 127 < i.n - p - 2)
    · rw [if_pos hc] at h; cases h
    · have : ¬ (i.n - p - 2 < -128 ∨ 127 < i.n - p - 2) := fun h => hc ⟨hj, h⟩
      omega
theorem tailX_more (x : Shp) (s n : Int) (p : Nat) : (tailX x s n p).length = moreX x s := by
  unfold tailX moreX
  obtain ⟨kn, pl, fr, op, nu, ju, lo⟩ := x
  cases fr <;> cases op <;> cases nu <;> cases ju <;> cases lo <;> by_cases h : s = 7 <;> simp [h]
theorem putI_more {i : InsS} {p : Nat} (h : putE i p = 0) : (putI i p).length = lenI i := by
  unfold putI lenI
  rw [if_pos h, if_pos (putE_zero h).1, List.length_cons, tailX_more]
  unfold moreI
  omega
theorem lenI_pos {i : InsS} {p : Nat} (h : putE i p = 0) : 0 < lenI i := by
  unfold lenI
  rw [if_pos (putE_zero h).1]
  omega
theorem o_le {i : InsS} (h : rightI i.o i.d i.s i.n = true) : i.o ≤ 30 := by
  by_cases h0 : i.o ≤ 30
  · exact h0
  · have hq : shp i.o = ⟨false, 0, false, false, false, false, false⟩ := by
      unfold shp
      rw [if_neg (by omega), if_neg (by omega), if_neg (by omega), if_neg (by omega), if_neg (by omega), if_neg (by omega), if_neg (by omega), if_neg (by omega), if_neg (by omega)]
    unfold rightI at h
    rw [hq] at h
    simp [rightX] at h
set_option maxHeartbeats 2000000 in
theorem get_put {b : List Nat} {p : Nat} {i : InsS} {r : List Nat} (hE : putE i p = 0) (hb : b.drop p = putI i p ++ r) : getR b p = (i, p + lenI i, 0) := by
  obtain ⟨o, d, s, n⟩ := i
  obtain ⟨hr, hj⟩ := putE_zero hE
  have ho := o_le hr
  have hl : b.length - p = (putI ⟨o, d, s, n⟩ p).length + r.length := by rw [← List.length_append, ← hb, List.length_drop]
  rw [putI_more hE] at hl
  have hlen : lenI ⟨o, d, s, n⟩ = 1 + moreX (shp o) s := by
    unfold lenI moreI
    rw [if_pos hr]
  rw [hlen] at hl ⊢
  unfold putI at hb
  rw [if_pos hE] at hb
  dsimp only at *
  have h0 : b.getD p 0 = o * 8 + lowX (shp o) d s := by
    have := getD_drop b p 0
    rw [Nat.add_zero] at this
    rw [this, hb]
    rfl
  have h1 : b.getD (p + 1) 0 = (tailX (shp o) s n p ++ r).getD 0 0 := by rw [getD_drop, hb]; rfl
  have h2 : b.getD (p + 2) 0 = (tailX (shp o) s n p ++ r).getD 1 0 := by rw [getD_drop, hb]; rfl
  have hlow : lowX (shp o) d s < 8 ∧ ((shp o).operand = true → (lowX (shp o) d s : Int) = s ∧ d = 0) ∧ ((shp o).operand = false → (lowX (shp o) d s : Int) = d ∧ (shp o).known = true ∧ d ≤ max (shp o).place 0) := by
    unfold rightI at hr
    have hm := shp_mem o
    generalize shp o = x at hm hr ⊢
    unfold lowX
    simp only [shapes, List.mem_cons, List.mem_singleton, List.not_mem_nil, or_false] at hm
    rcases hm with rfl | rfl | rfl | rfl | rfl | rfl | rfl | rfl | rfl | rfl <;> simp [rightX, inI] at hr ⊢ <;> omega
  have hf : (o * 8 + lowX (shp o) d s) / 8 = o ∧ (o * 8 + lowX (shp o) d s) % 8 = lowX (shp o) d s := by omega
  unfold getR
  dsimp only
  rw [h0, hf.1, hf.2]
  obtain ⟨hl8, hop, hnop⟩ := hlow
  have hN : getN (shp o) b p (moreX (shp o) s) = n ∧ getS (shp o) b p (lowX (shp o) d s) = s := by
    unfold getN getS
    rw [h1, h2]
    clear hb h0 h1 h2 hf
    have hm := shp_mem o
    unfold rightI at hr
    generalize shp o = x at hm hr hj hop hnop ⊢
    unfold tailX moreX
    simp only [shapes, List.mem_cons, List.mem_singleton, List.not_mem_nil, or_false] at hm
    rcases hm with rfl | rfl | rfl | rfl | rfl | rfl | rfl | rfl | rfl | rfl <;> simp [rightX, inI, lowX] at hr hj hop hnop ⊢
    all_goals first
      | omega
      | (by_cases h7 : s = 7 <;> simp [h7] at hr ⊢ <;> omega)
      | (unfold sg8; split <;> omega)
      | skip
  cases hopv : (shp o).operand with
  | true =>
    obtain ⟨e1, e2⟩ := hop hopv
    rw [if_neg (by simp), if_pos rfl, if_pos rfl, e1, hN.1, hN.2, if_neg (by omega), e2.symm, if_pos hr]
    simp [Nat.add_assoc]
  | false =>
    obtain ⟨e1, e2, e3⟩ := hnop hopv
    have hs0 : moreX (shp o) 0 = moreX (shp o) s := by unfold moreX; rw [hopv]; simp
    have hq : ¬ (false = false ∧ ((shp o).known = false ∨ max (shp o).place 0 < ((lowX (shp o) d s : Nat) : Int))) := by
      rw [e2, e1]
      rintro ⟨-, h | h⟩
      · cases h
      · omega
    rw [if_neg hq]
    simp only [Bool.false_eq_true, if_false]
    rw [hs0, e1, hN.1, hN.2, if_neg (by omega), if_pos hr]
    simp [Nat.add_assoc]
end Go.Proofs.Ythmpagehmfillaa
