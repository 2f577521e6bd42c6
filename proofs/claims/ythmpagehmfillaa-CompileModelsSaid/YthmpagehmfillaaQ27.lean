/-
  THE WALK OF check.Check. Conditions: the config reads so; an Op is a byte; fewer than 2^60 statements.
  PARSING, on lists of tokens, as a chain of calls. Conditions: none.
-/
import Derived.Test.YthmpagehmfillaaQ25
import Derived.Test.YthmpagehmfillaaQ26
import Derived.Deep.QuietTactic
import Derived.Test.YthmpagehmfillaaQ18
import Derived.Test.YthmpagehmfillaaQ20
namespace Go.Proofs.Ythmpagehmfillaa
open Go.RowKit
set_option linter.unusedSimpArgs false
set_option linter.unusedVariables false
def inC (n most : Int) : Bool := decide (0 ≤ n) && decide (n ≤ most)
def checkT (c : CfgS) : Int :=
  if configT c = false then 124
  else if (inC c.h 8 && inC c.ph 8 && inC c.m 12 && inC c.pm 12) = false then 123
  else if rightPs c.parts ≠ 0 then rightPs c.parts
  else if (2 : Int) ^ c.h.toNat < (c.parts.length : Int) then 123 else 0
theorem inC_any (n most : Int) (w : World) : Calls Try.prog 46 #[.int .i64 n, .int .i64 most] w fun e w' => e = .returned (.bool (inC n most)) ∧ w' = w := by
  unfold inC
  by_cases h0 : 0 ≤ n
  · rw [decide_eq_true h0]
    by_cases h1 : n ≤ most
    · rw [decide_eq_true h1]
      go_enter Try.func46, Try.ntmps46
      go_wp2_with fail
      go_ret
      exact ⟨rfl, rfl⟩
    · rw [decide_eq_false h1]
      go_enter Try.func46, Try.ntmps46
      go_wp2_with fail
      go_ret
      refine ⟨?_, rfl⟩
      first
        | rfl
        | (show Ending.returned (.bool (decide (n ≤ most))) = _; rw [decide_eq_false (by omega)]; rfl)
  · rw [decide_eq_false h0]
    go_enter Try.func46, Try.ntmps46
    go_wp2_with fail
    go_ret
    exact ⟨rfl, rfl⟩
/-- The ranges, one after another. -/
def rngs (c : CfgS) : List (Int × Int) := [(c.h, 8), (c.ph, 8), (c.m, 12), (c.pm, 12)]
def rngA (c : CfgS) : Nat → Bool
  | 0 => inC c.h 8 && (inC c.ph 8 && (inC c.m 12 && inC c.pm 12))
  | 1 => inC c.ph 8 && (inC c.m 12 && inC c.pm 12)
  | 2 => inC c.m 12 && inC c.pm 12
  | 3 => inC c.pm 12
  | _ => true
def ChR (c : CfgS) (w : World) (s23 : Value) (wr : World) : Prop := ∃ k : Nat, k ≤ 4 ∧ s23 = .int .i64 k ∧ rngA c k = rngA c 0 ∧ Below w.heap.size w wr
theorem idx4 (a b c d e f g h : Int) (W : World) : (Instr.index 115 (.agg #[.int .i64 a, .int .i64 b, .int .i64 c, .int .i64 d, .int .i64 e, .int .i64 f, .int .i64 g, .int .i64 h]) (.int .i64 0)).run Try.prog W = .ok (.agg #[.int .i64 a, .int .i64 b]) W ∧
    (Instr.index 115 (.agg #[.int .i64 a, .int .i64 b, .int .i64 c, .int .i64 d, .int .i64 e, .int .i64 f, .int .i64 g, .int .i64 h]) (.int .i64 1)).run Try.prog W = .ok (.agg #[.int .i64 c, .int .i64 d]) W ∧
    (Instr.index 115 (.agg #[.int .i64 a, .int .i64 b, .int .i64 c, .int .i64 d, .int .i64 e, .int .i64 f, .int .i64 g, .int .i64 h]) (.int .i64 2)).run Try.prog W = .ok (.agg #[.int .i64 e, .int .i64 f]) W ∧
    (Instr.index 115 (.agg #[.int .i64 a, .int .i64 b, .int .i64 c, .int .i64 d, .int .i64 e, .int .i64 f, .int .i64 g, .int .i64 h]) (.int .i64 3)).run Try.prog W = .ok (.agg #[.int .i64 g, .int .i64 h]) W := ⟨by kernel_rfl, by kernel_rfl, by kernel_rfl, by kernel_rfl⟩
set_option maxRecDepth 100000 in
set_option maxHeartbeats 8000000 in
theorem check_any (c : CfgS) (vp vc vq : Value) (S : Nat → Prop) (w : World) (h8 : c.code.b8 ∧ c.post.b8) (hn : c.code.all < 2 ^ 60 ∧ c.post.all < 2 ^ 60) (hp : PrT w S vp c.parts) (hc : Tr w S vc c.code) (hq : Tr w S vq c.post) :
    Calls Try.prog 17 #[.agg (cfgA c.h c.m c.ph c.pm vp vc vq c.has)] w fun e w' => e = .returned (.int .i64 (checkT c)) ∧ Below w.heap.size w w' := by
  obtain ⟨A1, d1, rfl⟩ := hp.form
  obtain ⟨A3, n3, rfl, -, -⟩ := hc.frm
  obtain ⟨A5, n5, rfl, -, -⟩ := hq.frm
  have HCF := Lib.hid (fun W (hb : Below w.heap.size w W) => configT_any c (.slice A1 c.parts.length d1) _ _ S W ⟨_, _, _, rfl⟩ h8 hn (hc.below hb) (hq.below hb))
  have HP := Lib.hid hp
  obtain ⟨z, hz⟩ : ∃ z, z = checkT c := ⟨_, rfl⟩
  rw [← hz]
  have hr0 : (inC c.h 8 && inC c.ph 8 && inC c.m 12 && inC c.pm 12) = rngA c 0 := by
    show _ = (inC c.h 8 && (inC c.ph 8 && (inC c.m 12 && inC c.pm 12)))
    simp only [Bool.and_assoc]
  unfold checkT at hz
  rw [hr0] at hz
  have HZ := Lib.hid hz
  clear hz hr0 h8 hn hp hc hq
  have hba : Below w.heap.size w (w.alloc (.cells (cfgA c.h c.m c.ph c.pm (.slice A1 c.parts.length d1) (.slice A3 c.code.len n3) (.slice A5 c.post.len n5) c.has) 62)) := (Below.refl _ _).alloc (Nat.le_refl _) _
  have hrow := cfg_row (heap_alloc_new w (.cells (cfgA c.h c.m c.ph c.pm (.slice A1 c.parts.length d1) (.slice A3 c.code.len n3) (.slice A5 c.post.len n5) c.has) 62))
  have HBA := Lib.hid hba
  have HROW := Lib.hid hrow
  clear hba hrow
  unfold cfgA at *
  go_enter Try.func17, Try.ntmps17
  go_wp2_with fail
  generalize w.alloc (.cells #[.int .i64 c.h, .int .i64 c.m, .int .i64 c.ph, .int .i64 c.pm, .slice A1 c.parts.length d1, .slice A3 c.code.len n3, .slice A5 c.post.len n5, .bool c.has] 62) = W1 at *
  refine (HCF.out _ HBA.out).mono ?_
  rintro e w2 ⟨rfl, hb2⟩
  have hr2 := below_row hb2 HROW.out HROW.out.lt
  have HR2 := Lib.hid hr2
  have HB2 := Lib.hid (HBA.out.trans (hb2.mono HBA.out.size))
  have c0 : w2.cell? ⟨w.heap.size, 0, none⟩ = some (.int .i64 c.h) := hr2.cell (by omega)
  have c1 : w2.cell? ⟨w.heap.size, 1, none⟩ = some (.int .i64 c.m) := hr2.cell (by omega)
  have c2 : w2.cell? ⟨w.heap.size, 2, none⟩ = some (.int .i64 c.ph) := hr2.cell (by omega)
  have c3 : w2.cell? ⟨w.heap.size, 3, none⟩ = some (.int .i64 c.pm) := hr2.cell (by omega)
  clear hb2 hr2 HROW HBA
  cases hcf : configT c with
  | false =>
    have hz := HZ.out
    rw [if_pos hcf] at hz
    subst hz
    clear hcf
    go_wp2_with fail
    go_ret
    exact ⟨rfl, HB2.out⟩
  | true =>
    have hz := HZ.out
    rw [if_neg (by rw [hcf]; decide)] at hz
    have HZ2 := Lib.hid hz
    clear hcf hz
    go_wp2_with fail
    go_loopw [23] (fun s23 wr => ChR c w2 s23 wr) (fun s23 _ => 4 - (intOf s23).toNat)
    case atStart => exact ⟨0, by omega, rfl, rfl, Below.refl _ _⟩
    case round =>
      obtain ⟨k, hk, rfl, hr, hb⟩ := hrel
      have HB := Lib.hid hb
      have HRG := Lib.hid hr
      clear hb hr
      have hk5 : k = 0 ∨ k = 1 ∨ k = 2 ∨ k = 3 ∨ k = 4 := by omega
      rcases hk5 with rfl | rfl | rfl | rfl | rfl
      · obtain ⟨b, hbb⟩ : ∃ b, b = inC c.h 8 := ⟨_, rfl⟩
        have HIN := Lib.hid (fun W => hbb ▸ inC_any c.h 8 W)
        have HBB := Lib.hid hbb
        have hix := fun W => (idx4 c.h 8 c.ph 8 c.m 12 c.pm 12 W).1
        clear hbb
        go_wp2_with fail
        refine (HIN.out _).mono ?_
        rintro e W4 ⟨rfl, rfl⟩
        cases b with
        | false =>
          have hz := HZ2.out
          have hf : rngA c 0 = false := by first | (rw [← HRG.out]; unfold rngA; simp [← HBB.out]; done) | (unfold rngA; simp [← HBB.out])
          rw [if_pos hf] at hz
          subst hz
          clear hf
          go_wp2_with fail
          go_ret
          exact ⟨rfl, HB2.out.trans ((HB.out.trans (((Below.refl wr.heap.size wr).alloc (Nat.le_refl _) _).mono HB.out.size)).mono HB2.out.size)⟩
        | true =>
          go_wp2_with fail
          go_roundw
          case rel => exact ⟨1, by omega, rfl, by first | (rw [← HRG.out]; unfold rngA; simp [← HBB.out]; done) | (unfold rngA; simp [← HBB.out]), HB.out.trans (((Below.refl wr.heap.size wr).alloc (Nat.le_refl _) _).mono HB.out.size)⟩
          case measure => simp [intOf]
      · obtain ⟨b, hbb⟩ : ∃ b, b = inC c.ph 8 := ⟨_, rfl⟩
        have HIN := Lib.hid (fun W => hbb ▸ inC_any c.ph 8 W)
        have HBB := Lib.hid hbb
        have hix := fun W => (idx4 c.h 8 c.ph 8 c.m 12 c.pm 12 W).2.1
        clear hbb
        go_wp2_with fail
        refine (HIN.out _).mono ?_
        rintro e W4 ⟨rfl, rfl⟩
        cases b with
        | false =>
          have hz := HZ2.out
          have hf : rngA c 0 = false := by first | (rw [← HRG.out]; unfold rngA; simp [← HBB.out]; done) | (unfold rngA; simp [← HBB.out])
          rw [if_pos hf] at hz
          subst hz
          clear hf
          go_wp2_with fail
          go_ret
          exact ⟨rfl, HB2.out.trans ((HB.out.trans (((Below.refl wr.heap.size wr).alloc (Nat.le_refl _) _).mono HB.out.size)).mono HB2.out.size)⟩
        | true =>
          go_wp2_with fail
          go_roundw
          case rel => exact ⟨2, by omega, rfl, by first | (rw [← HRG.out]; unfold rngA; simp [← HBB.out]; done) | (unfold rngA; simp [← HBB.out]), HB.out.trans (((Below.refl wr.heap.size wr).alloc (Nat.le_refl _) _).mono HB.out.size)⟩
          case measure => simp [intOf]
      · obtain ⟨b, hbb⟩ : ∃ b, b = inC c.m 12 := ⟨_, rfl⟩
        have HIN := Lib.hid (fun W => hbb ▸ inC_any c.m 12 W)
        have HBB := Lib.hid hbb
        have hix := fun W => (idx4 c.h 8 c.ph 8 c.m 12 c.pm 12 W).2.2.1
        clear hbb
        go_wp2_with fail
        refine (HIN.out _).mono ?_
        rintro e W4 ⟨rfl, rfl⟩
        cases b with
        | false =>
          have hz := HZ2.out
          have hf : rngA c 0 = false := by first | (rw [← HRG.out]; unfold rngA; simp [← HBB.out]; done) | (unfold rngA; simp [← HBB.out])
          rw [if_pos hf] at hz
          subst hz
          clear hf
          go_wp2_with fail
          go_ret
          exact ⟨rfl, HB2.out.trans ((HB.out.trans (((Below.refl wr.heap.size wr).alloc (Nat.le_refl _) _).mono HB.out.size)).mono HB2.out.size)⟩
        | true =>
          go_wp2_with fail
          go_roundw
          case rel => exact ⟨3, by omega, rfl, by first | (rw [← HRG.out]; unfold rngA; simp [← HBB.out]; done) | (unfold rngA; simp [← HBB.out]), HB.out.trans (((Below.refl wr.heap.size wr).alloc (Nat.le_refl _) _).mono HB.out.size)⟩
          case measure => simp [intOf]
      · obtain ⟨b, hbb⟩ : ∃ b, b = inC c.pm 12 := ⟨_, rfl⟩
        have HIN := Lib.hid (fun W => hbb ▸ inC_any c.pm 12 W)
        have HBB := Lib.hid hbb
        have hix := fun W => (idx4 c.h 8 c.ph 8 c.m 12 c.pm 12 W).2.2.2
        clear hbb
        go_wp2_with fail
        refine (HIN.out _).mono ?_
        rintro e W4 ⟨rfl, rfl⟩
        cases b with
        | false =>
          have hz := HZ2.out
          have hf : rngA c 0 = false := by first | (rw [← HRG.out]; unfold rngA; simp [← HBB.out]; done) | (unfold rngA; simp [← HBB.out])
          rw [if_pos hf] at hz
          subst hz
          clear hf
          go_wp2_with fail
          go_ret
          exact ⟨rfl, HB2.out.trans ((HB.out.trans (((Below.refl wr.heap.size wr).alloc (Nat.le_refl _) _).mono HB.out.size)).mono HB2.out.size)⟩
        | true =>
          go_wp2_with fail
          go_roundw
          case rel => exact ⟨4, by omega, rfl, by first | (rw [← HRG.out]; unfold rngA; simp [← HBB.out]; done) | (unfold rngA; simp [← HBB.out]), HB.out.trans (((Below.refl wr.heap.size wr).alloc (Nat.le_refl _) _).mono HB.out.size)⟩
          case measure => simp [intOf]
      · have hr4 : rngA c 0 = true := by rw [← HRG.out]; rfl
        have hz := HZ2.out
        rw [if_neg (by rw [hr4]; decide)] at hz
        have hh : 0 ≤ c.h ∧ c.h ≤ 8 := by
          have h := hr4
          unfold rngA inC at h
          simp only [Bool.and_eq_true, decide_eq_true_eq] at h
          omega
        have HZ3 := Lib.hid hz
        have HH := Lib.hid hh
        have hbw := HB2.out.trans (HB.out.mono HB2.out.size)
        have hr3 := below_row HB.out HR2.out HR2.out.lt
        have c4 : wr.cell? ⟨w.heap.size, 4, none⟩ = some (.slice A1 c.parts.length d1) := hr3.cell (by omega)
        have HR3 := Lib.hid hr3
        have HBW := Lib.hid hbw
        have HRP := Lib.hid (rightPs_any c.parts _ S wr (HP.out.below hbw))
        clear hr4 hz hh hr3 hbw HRG c0 c1 c2 c3
        go_wp2_with fail
        refine HRP.out.mono ?_
        rintro e w5 ⟨rfl, hb5⟩
        have hr5 := below_row hb5 HR3.out HR3.out.lt
        have c4' : w5.cell? ⟨w.heap.size, 4, none⟩ = some (.slice A1 c.parts.length d1) := hr5.cell (by omega)
        have c0' : w5.cell? ⟨w.heap.size, 0, none⟩ = some (.int .i64 c.h) := hr5.cell (by omega)
        have HB5 := Lib.hid (HBW.out.trans (hb5.mono HBW.out.size))
        clear hr5 hb5 c4
        generalize rightPs c.parts = e at *
        by_cases he : e = 0
        · have i0 : (e != 0) = false := by rw [he]; rfl
          have hz := HZ3.out
          rw [if_neg (by rw [he]; decide)] at hz
          have hsh := fun W => shl1 HH.out.1 (by have := HH.out; omega) W
          have HZ4 := Lib.hid hz
          clear hz he HRP
          generalize (2 : Int) ^ c.h.toNat = n at *
          go_wp2_with fail
          go_quiet (fail)
          by_cases hlt : n < (c.parts.length : Int)
          · have hz := HZ4.out
            rw [if_pos hlt] at hz
            subst hz
            go_wp2_with fail
            go_ret
            exact ⟨rfl, below_drewN' HB5.out _⟩
          · have hz := HZ4.out
            rw [if_neg hlt] at hz
            subst hz
            go_wp2_with fail
            go_ret
            exact ⟨rfl, below_drewN' HB5.out _⟩
        · have i0 : (e != 0) = true := by rw [bne_iff_ne]; exact he
          have hz := HZ3.out
          rw [if_pos he] at hz
          have HZ4 := Lib.hid hz
          clear hz he HRP
          go_wp2_with fail
          go_ret
          exact ⟨by rw [HZ4.out]; rfl, HB5.out⟩
end Go.Proofs.Ythmpagehmfillaa
namespace Go.Proofs.Ythmpagehmfillaa
set_option linter.unusedSimpArgs false
set_option linter.unusedVariables false
def partsR (l : List Tok) : Res (List PartS × List Tok) := loopP (l.length + 1) l []
def endR (c : CfgS) (l : List Tok) : Res (CfgS × List Tok) := if (hd l).k = 4 then .ok (c, l) else .error (121, (hd l).ln)
def postY (c : CfgS) : List Tok → Res (CfgS × List Tok) := bindR (num 65535) fun ph => bindR (num 65535) fun pm => bindR prog fun T => endR { c with ph := (ph : Nat), pm := (pm : Nat), post := T, has := true }
def postR (c : CfgS) (l : List Tok) : Res (CfgS × List Tok) := if (hd l).s = [112, 111, 115, 116] then postY c l.tail else endR c l
def parseR : List Tok → Res (CfgS × List Tok) := bindR (must [109, 111, 100, 101, 108]) fun _ => bindR (num 65535) fun h => bindR (num 65535) fun m => bindR (must [123]) fun _ => bindR partsR fun ps => bindR (must [125]) fun _ => bindR (must [99, 111, 100, 101]) fun _ =>
  bindR prog fun T => postR ⟨(h : Nat), (m : Nat), 0, 0, ps, T, .nil, false⟩
theorem endR_P (c : CfgS) (l : List Tok) : endP c l = match endR c l with
    | .error e => .error e
    | .ok (c, _) => .ok c := by
  unfold endP endR
  split <;> rfl
theorem postR_P (c : CfgS) (l : List Tok) : postP c l = match postR c l with
    | .error e => .error e
    | .ok (c, _) => .ok c := by
  unfold postP postR
  split
  · unfold postY bindR
    rcases num 65535 l.tail with e | ⟨ph, l1⟩
    · rfl
    simp only []
    rcases num 65535 l1 with e | ⟨pm, l2⟩
    · rfl
    simp only []
    rcases prog l2 with e | ⟨T, l3⟩
    · rfl
    · exact endR_P _ _
  · exact endR_P _ _
theorem parseL_R (l : List Tok) : parseL l = match parseR l with
    | .error e => .error e
    | .ok (c, _) => .ok c := by
  unfold parseL parseR bindR
  rcases must [109, 111, 100, 101, 108] l with e | ⟨_, l⟩
  · rfl
  simp only []
  rcases num 65535 l with e | ⟨h, l⟩
  · rfl
  simp only []
  rcases num 65535 l with e | ⟨m, l⟩
  · rfl
  simp only []
  rcases must [123] l with e | ⟨_, l⟩
  · rfl
  simp only []
  unfold partsR
  rcases loopP (l.length + 1) l [] with e | ⟨ps, l⟩
  · rfl
  simp only []
  rcases must [125] l with e | ⟨_, l⟩
  · rfl
  simp only []
  rcases must [99, 111, 100, 101] l with e | ⟨_, l⟩
  · rfl
  simp only []
  rcases prog l with e | ⟨T, l⟩
  · rfl
  simp only []
  exact postR_P _ _
theorem nums_le : ∀ (n : Nat) (l l' : List Tok) (v : List Nat), nums n l = .ok (v, l') → l'.length ≤ l.length
  | 0, l, l', v, h => by injection h with h; injection h with h1 h2; rw [← h2]; exact Nat.le_refl _
  | n + 1, l, l', v, h => by
    unfold nums at h
    rcases hq : num 65535 l with e | ⟨y, z⟩ <;> rw [hq] at h
    · cases h
    · simp only at h
      rcases hp : nums n z with e | ⟨y2, z2⟩ <;> rw [hp] at h
      · cases h
      · injection h with h; injection h with h1 h2
        have := num_le hq
        have := nums_le n _ _ _ hp
        rw [← h2]; omega
theorem part_lt {l l' : List Tok} {x : PartS} (h : part l = .ok (x, l')) : l'.length < l.length := by
  unfold part at h
  cases hq : look partL (hd l).s with
  | none => rw [hq] at h; cases h
  | some k =>
    rw [hq] at h
    simp only at h
    have ht := tail_lt (partL_lt hq).1
    have ht2 := @tail_le l.tail
    generalize hm : (if (k == 1 && decide ((hd l.tail).s = [109, 105, 110, 117, 115])) = true then l.tail.tail else l.tail) = m at h
    have hml : m.length ≤ l.tail.length := by rw [← hm]; split; exact ht2; exact Nat.le_refl _
    rcases hp : nums (partN.getD k 0) m with e | ⟨y, z⟩ <;> rw [hp] at h
    · cases h
    · injection h with h; injection h with h1 h2
      have := nums_le _ _ _ _ hp
      rw [← h2]; omega
theorem loopP_end {f : Nat} {l : List Tok} {out : List PartS} (h : (hd l).s = [125]) : loopP (f + 1) l out = .ok (out, l) := by unfold loopP; rw [if_pos h]
theorem loopP_go {f : Nat} {l : List Tok} {out : List PartS} (h : (hd l).s ≠ [125]) : loopP (f + 1) l out = match part l with
    | .error e => .error e
    | .ok (x, l) => loopP f l (out ++ [x]) := by
  rw [loopP, if_neg h]
  rcases part l with e | ⟨y, z⟩ <;> rfl
theorem loopP_fuel : ∀ (f g : Nat) (l : List Tok) (out : List PartS), l.length < f → l.length < g → loopP f l out = loopP g l out
  | 0, _, _, _, h, _ => absurd h (Nat.not_lt_zero _)
  | _ + 1, 0, _, _, _, h => absurd h (Nat.not_lt_zero _)
  | f + 1, g + 1, l, out, hf, hg => by
    by_cases h : (hd l).s = [125]
    · rw [loopP_end h, loopP_end h]
    · rw [loopP_go h, loopP_go h]
      rcases hq : part l with e | ⟨y, z⟩
      · rfl
      · have := part_lt hq
        exact loopP_fuel f g z _ (by omega) (by omega)
def LoopQ (R : Res (List PartS × List Tok)) (l : List Tok) (b : Option Flt) (ps : List PartS) : Prop := match b with
  | none => R = loopP (l.length + 1) l ps
  | some e => R = .error e
theorem loopQ_go {R : Res (List PartS × List Tok)} {l l' : List Tok} {b' : Option Flt} {ps : List PartS} {x : PartS} (h : LoopQ R l none ps) (hs : (hd l).s ≠ [125]) (hr : Rel part l none x l' b') : LoopQ R l' b' (ps ++ [x]) := by
  unfold LoopQ at h
  simp only at h
  rw [loopP_go hs] at h
  unfold Rel at hr
  simp only at hr
  rcases hq : part l with e | ⟨y, z⟩
  · rw [hq] at hr h
    simp only at hr h
    subst hr
    exact h
  · rw [hq] at hr h
    obtain ⟨rfl, rfl, rfl⟩ := hr
    have := part_lt hq
    show R = _
    rw [h]
    exact loopP_fuel _ _ _ _ this (by omega)
theorem parts_end {l1 l' : List Tok} {b1 b' : Option Flt} {ps : List PartS} (hJ : Sel b1 b' (LoopQ (loopP (l1.length + 1) l1 []) l' b' ps)) (hs : b' = none → (hd l').s = [125]) : Rel partsR l1 b1 ps l' b' := by
  unfold Sel at hJ
  unfold Rel
  cases b1 with
  | some e => exact hJ
  | none =>
    simp only at hJ ⊢
    unfold partsR
    unfold LoopQ at hJ
    cases b' with
    | some e => simp only at hJ; rw [hJ]
    | none =>
      simp only at hJ
      rw [hJ, loopP_end (hs rfl)]
      exact ⟨by trivial, by trivial, by trivial⟩
theorem part_len {l l' : List Tok} {b' : Option Flt} {x : PartS} (hr : Rel part l none x l' b') (e : b' = none) : l'.length < l.length := by
  subst e
  unfold Rel at hr
  simp only at hr
  rcases hq : part l with e' | ⟨y, z⟩
  · rw [hq] at hr; cases hr
  · rw [hq] at hr; obtain ⟨-, -, rfl⟩ := hr; exact part_lt hq
/-- The end of a text, or more. -/
theorem end_rel {c : CfgS} {l : List Tok} {b : Option Flt} : Rel (endR c) l b c l (if b.isNone && decide ((hd l).k ≠ 4) then some (121, (hd l).ln) else b) := by
  unfold Rel
  cases b with
  | some e => rfl
  | none =>
    unfold endR
    by_cases h : (hd l).k = 4
    · simp only [if_pos h]; simp [h]
    · simp only [if_neg h]; simp [h]
theorem post_no {c : CfgS} {l : List Tok} {b b' : Option Flt} {l' : List Tok} {x : CfgS} (hr : false = (b.isNone && decide ((hd l).s = [112, 111, 115, 116]))) (h : Rel (endR c) l b x l' b') : Rel (postR c) l b x l' b' := by
  cases b with
  | some e => exact h
  | none =>
    have : (hd l).s ≠ [112, 111, 115, 116] := by simpa using hr
    exact Rel.of (by unfold postR; rw [if_neg this]) h
theorem post_yes {c : CfgS} {l : List Tok} {b b' : Option Flt} {l' : List Tok} {x : CfgS} (hr : true = (b.isNone && decide ((hd l).s = [112, 111, 115, 116]))) (h : Rel (postY c) l.tail b x l' b') : Rel (postR c) l b x l' b' := by
  cases b with
  | some e => cases hr
  | none =>
    have : (hd l).s = [112, 111, 115, 116] := by simpa using hr
    exact Rel.of (by unfold postR; rw [if_pos this]) h
end Go.Proofs.Ythmpagehmfillaa
