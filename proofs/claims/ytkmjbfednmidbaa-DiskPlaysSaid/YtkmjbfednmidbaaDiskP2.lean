/-
  THE WALKS OF quillpressref07's copied, Load, Operation. Conditions: the document's disk is a value whose lists read.
-/
import Derived.Test.YtkmjbfednmidbaaDiskP1
import Derived.Test.YtkmjbfednmidbaaDiskK1
namespace Go.Proofs.Ytkmjbfednmidbaa
open Go.RowKit
set_option linter.unusedSimpArgs false
set_option linter.unusedVariables false

/-- The document's disk as a value. -/
def RfV (w : World) (v : Value) (r : RfS) : Prop := ∃ A c B e, v = .agg #[.int .i64 r.most, .slice A r.now.length c, .slice B r.old.length e, .int .i64 r.floor, .bool r.down, .int .i64 r.armed, .int .i64 r.fails, .int .i64 r.err] ∧
  r.now.length ≤ c ∧ c ≤ 9223372036854775807 ∧ Rd w A r.now ∧ Rd w B r.old ∧ r.most ≤ 4194304 ∧ r.now.length ≤ r.most ∧ r.old.length ≤ r.most ∧ r.floor ≤ r.most ∧ r.armed ≤ 2305843009213693952 ∧ r.fails ≤ 2305843009213693952
theorem RfV.below {w w' : World} {v : Value} {r : RfS} (h : RfV w v r) (hb : Below w.heap.size w w') : RfV w' v r := by
  obtain ⟨A, c, B, e, h1, h2, h3, h4, h5, h6⟩ := h
  exact ⟨A, c, B, e, h1, h2, h3, h4.below hb, h5.below hb, h6⟩
theorem RfV.dk {w w' : World} {v : Value} {r : RfS} {g : Nat} {nb ob : Option Nat} {d : DkS} (h : RfV w v r) (hd : Dk w g nb ob d) (hg : w.grownBy w' (some g)) : RfV w' v r := by
  obtain ⟨A, c, B, e, h1, h2, h3, h4, h5, h6⟩ := h
  exact ⟨A, c, B, e, h1, h2, h3, hd.rd h4 hg, hd.rd h5 hg, h6⟩
theorem copied_any (A : Option Addr) (n c : Nat) (l : List Nat) (w : World) (hn : n = l.length) (h : Rd w A l) (hl : l.length ≤ 140737488355328) :
    Calls Try.prog 65 #[.slice A n c] w fun e w' => ∃ B e', e = .returned (.slice B l.length e') ∧ Ow w' w.heap.size (.slice B l.length e') l ∧ Below w.heap.size w w' := by
  have HN := Lib.hid hn
  have HA := Lib.hid h
  clear hn h
  go_enter Try.func65, Try.ntmps65
  go_wp2_with (refine append_bytes (v := .slice none 0 0) (l := []) (.tmp 4) (.tmp 5) rfl rfl rfl (Ow.nil _ w.heap.size) A n c l rfl HN.out HA.out (by simpa using hl) (Nat.le_refl _) ?_; intro v1 w1 ho1 hg1 ha1)
  go_ret
  have ho2 : Ow w1 w.heap.size v1 l := by simpa using ho1
  obtain ⟨B, e', rfl, -, -, -⟩ := ho2.form
  exact ⟨B, e', rfl, ho2, (Below.refl _ _).grown hg1 (Nat.le_refl _) (by simp [Value.ownBlock])⟩
def rfT (r : RfS) (A B : Option Addr) (c e : Nat) : Value := .agg #[.int .i64 r.most, .slice A r.now.length c, .slice B r.old.length e, .int .i64 r.floor, .bool r.down, .int .i64 r.armed, .int .i64 r.fails, .int .i64 r.err]
theorem RfV.mk {w W : World} {A B : Option Addr} {c e : Nat} (hb : Below w.heap.size w W) {r : RfS} (h2 : r.now.length ≤ c) (h3 : c ≤ 9223372036854775807) (h4 : Rd w A r.now) (h5 : Rd w B r.old) (h6 : r.most ≤ 4194304) (h7 : r.now.length ≤ r.most) (h8 : r.old.length ≤ r.most) (h9 : r.floor ≤ r.most)
    (h10 : r.armed ≤ 2305843009213693952) (h11 : r.fails ≤ 2305843009213693952) : RfV W (rfT r A B c e) r ∧ Below w.heap.size w W :=
  ⟨⟨A, c, B, e, rfl, h2, h3, h4.below hb, h5.below hb, h6, h7, h8, h9, h10, h11⟩, hb⟩
set_option maxRecDepth 100000 in
set_option maxHeartbeats 4000000 in
theorem rop_any (v : Value) (r : RfS) (w : World) (h : RfV w v r) : Calls Try.prog 67 #[v] w fun e w' => ∃ v', e = .returned (.tuple #[v', .int .i64 r.pre.1]) ∧ RfV w' v' r.pre.2 ∧ Below w.heap.size w w' := by
  obtain ⟨A, c, B, e, rfl, h2, h3, h4, h5, h6, h7, h8, h9, h10, h11⟩ := h
  have R1 := Lib.hid h4
  have R2 := Lib.hid h5
  have W1 := Lib.hid (show r.now.length ≤ c ∧ c ≤ 9223372036854775807 from ⟨h2, h3⟩)
  have W2 := Lib.hid (show r.most ≤ 4194304 ∧ r.now.length ≤ r.most ∧ r.old.length ≤ r.most ∧ r.floor ≤ r.most ∧ r.armed ≤ 2305843009213693952 ∧ r.fails ≤ 2305843009213693952 from ⟨h6, h7, h8, h9, h10, h11⟩)
  clear h2 h3 h4 h5 h6 h7 h8 h9 h10 h11
  obtain ⟨most, now, old, floor, down, armed, fails, err⟩ := r
  have W3 := W2.out
  have hb2 : ∀ cs ds : Array Value, Below w.heap.size w ((w.alloc (.cells cs 63)).alloc (.cells ds 63)) := fun cs ds => ((Below.refl _ _).alloc (Nat.le_refl _) _).alloc (by rw [World.size_alloc]; omega) _
  have HB2 := Lib.hid hb2
  clear hb2
  simp only at W3
  by_cases e1 : down = true
  · subst e1
    go_enter Try.func67, Try.ntmps67
    go_wp2_with fail
    refine bodyPost_ret (v := .tuple #[rfT ⟨most, now, old, floor, true, armed, fails, err⟩ A B c e, .int .i64 (11)]) (by simp [rfT, results, Try.results67, go_sem]) rfl ?_
    refine ⟨_, rfl, RfV.mk ?_ (r := ⟨most, now, old, floor, true, armed, fails, err⟩) W1.out.1 W1.out.2 R1.out R2.out W3.1 W3.2.1 W3.2.2.1 W3.2.2.2.1 W3.2.2.2.2.1 W3.2.2.2.2.2⟩
    first | exact HB2.out _ _ | exact below_drewN' (HB2.out _ _) 1
  · obtain rfl : down = false := by simpa using e1
    clear e1
    by_cases e2 : armed = 1
    · subst e2
      go_enter Try.func67, Try.ntmps67
      go_wp2_with fail
      refine bodyPost_ret (v := .tuple #[rfT ⟨most, now, old, floor, true, 1, fails, err⟩ A B c e, .int .i64 (11)]) (by simp [rfT, results, Try.results67, go_sem]) rfl ?_
      refine ⟨_, rfl, RfV.mk ?_ (r := ⟨most, now, old, floor, true, 1, fails, err⟩) W1.out.1 W1.out.2 R1.out R2.out W3.1 W3.2.1 W3.2.2.1 W3.2.2.2.1 (by show 1 ≤ 2305843009213693952; decide) W3.2.2.2.2.2⟩
      first | exact HB2.out _ _ | exact below_drewN' (HB2.out _ _) 1
    · have k1 : ((armed : Int) == 1) = false := by rw [beq_eq_false_iff_ne]; omega
      have p0 : RfS.pre ⟨most, now, old, floor, false, armed, fails, err⟩ = (if fails = 2 then (err, ⟨most, now, old, floor, false, if 1 < armed then armed - 1 else armed, 0, err⟩) else (0, ⟨most, now, old, floor, false, if 1 < armed then armed - 1 else armed, if 2 < fails then fails - 1 else fails, err⟩)) := by
        unfold RfS.pre
        simp only [Bool.false_eq_true, if_false]
        rw [if_neg e2]
      rw [p0]
      clear p0
      have k3 : IntKind.i64.wrap ((armed : Int) - 1) = ((armed - 1 : Nat) : Int) ∨ armed = 0 := by
        rcases Nat.eq_zero_or_pos armed with h | h
        · exact .inr h
        · left; simp [IntKind.wrap, IntKind.signed, IntKind.bits]; omega
      by_cases e3 : 1 < armed
      all_goals
        first
          | (have k4 : (1 : Int) < armed := by omega
             rw [if_pos e3]
             replace k3 : IntKind.i64.wrap ((armed : Int) - 1) = ((armed - 1 : Nat) : Int) := by rcases k3 with h | h; exact h; omega
             have hA : armed - 1 ≤ 2305843009213693952 := by omega
             obtain ⟨am, hm⟩ : ∃ am, am = armed - 1 := ⟨_, rfl⟩
             rw [← hm] at hA k3 ⊢
             clear hm)
          | (have k4 : ¬ (1 : Int) < armed := by omega
             rw [if_neg e3]
             have hA : armed ≤ 2305843009213693952 := by omega
             clear k3
             obtain ⟨am, hm⟩ : ∃ am, am = armed := ⟨_, rfl⟩
             rw [← hm] at hA ⊢
             subst hm)
        clear e2 e3
        by_cases e4 : fails = 2
        · rw [if_pos e4]
          subst e4
          go_enter Try.func67, Try.ntmps67
          go_wp2_with fail
          go_region
          go_wp2_with fail
          refine bodyPost_ret (v := .tuple #[rfT ⟨most, now, old, floor, false, am, 0, err⟩ A B c e, .int .i64 (err)]) (by simp [rfT, results, Try.results67, go_sem]) rfl ?_
          refine ⟨_, rfl, RfV.mk ?_ (r := ⟨most, now, old, floor, false, am, 0, err⟩) W1.out.1 W1.out.2 R1.out R2.out W3.1 W3.2.1 W3.2.2.1 W3.2.2.2.1 hA (by show 0 ≤ 2305843009213693952; decide)⟩
          first | exact HB2.out _ _ | exact below_drewN' (HB2.out _ _) 1
        · rw [if_neg e4]
          have k5 : ((fails : Int) == 2) = false := by rw [beq_eq_false_iff_ne]; omega
          by_cases e5 : 2 < fails
          · have k6 : (2 : Int) < fails := by omega
            have k7 : IntKind.i64.wrap ((fails : Int) - 1) = ((fails - 1 : Nat) : Int) := by simp [IntKind.wrap, IntKind.signed, IntKind.bits]; omega
            have hF : fails - 1 ≤ 2305843009213693952 := by omega
            rw [if_pos e5]
            obtain ⟨fm, hm⟩ : ∃ fm, fm = fails - 1 := ⟨_, rfl⟩
            rw [← hm] at hF k7 ⊢
            clear hm e4 e5
            go_enter Try.func67, Try.ntmps67
            go_wp2_with fail
            refine bodyPost_ret (v := .tuple #[rfT ⟨most, now, old, floor, false, am, fm, err⟩ A B c e, .int .i64 (0)]) (by simp [rfT, results, Try.results67, go_sem]) rfl ?_
            refine ⟨_, rfl, RfV.mk ?_ (r := ⟨most, now, old, floor, false, am, fm, err⟩) W1.out.1 W1.out.2 R1.out R2.out W3.1 W3.2.1 W3.2.2.1 W3.2.2.2.1 hA hF⟩
            first | exact HB2.out _ _ | exact below_drewN' (HB2.out _ _) 1
          · have k6 : ¬ (2 : Int) < fails := by omega
            rw [if_neg e5]
            clear e4 e5
            go_enter Try.func67, Try.ntmps67
            go_wp2_with fail
            refine bodyPost_ret (v := .tuple #[rfT ⟨most, now, old, floor, false, am, fails, err⟩ A B c e, .int .i64 (0)]) (by simp [rfT, results, Try.results67, go_sem]) rfl ?_
            refine ⟨_, rfl, RfV.mk ?_ (r := ⟨most, now, old, floor, false, am, fails, err⟩) W1.out.1 W1.out.2 R1.out R2.out W3.1 W3.2.1 W3.2.2.1 W3.2.2.2.1 hA W3.2.2.2.2.2⟩
            first | exact HB2.out _ _ | exact below_drewN' (HB2.out _ _) 1
end Go.Proofs.Ytkmjbfednmidbaa
