/-
  THE WALKS OF parse's place, operand, cond. Conditions: a parser.
-/
import Derived.Test.YtiadfmhodlbkiaaParW1
import Derived.Test.YtiadfmhodlbkiaaMapL
namespace Go.Proofs.Ytiadfmhodlbkiaa
open Go.RowKit
set_option linter.unusedSimpArgs false
set_option linter.unusedVariables false
section
variable {w : World} {B gp gi : Nat} {l : List Tok} {b : Option Flt} {many : Nat}
theorem zero_int (w : World) : (zeroValue 3).run Try.prog w = .ok (.int .i64 0) w := by kernel_rfl
theorem PS.be {W : World} {gm : Nat} {L : List (List Nat × Value)} (h : PS B W gp l b many) (hm : MB W w gm L) : PS B w gp l b many := h.below hm.be
theorem regs_le {s : List Nat} {n : Nat} (h : look regs s = some n) : n ≤ 3 ∧ s ≠ [] := by
  have h1 := look_mem h
  have h2 : ∀ x ∈ regs, x.2 ≤ 3 ∧ x.1 ≠ [] := by decide
  exact h2 _ h1
section
variable {r : Bool} {l1 : List Tok} {x : Nat}
theorem place_no (hr : r = (b.isNone && decide ((hd l).s = [42]))) (h1 : l1 = if r = true then l.tail else l) (h : look regs (hd l1).s = none ∨ (r = true ∧ look regs (hd l1).s = some 0)) : Rel place l b x l1 (b.or (some (121, (hd l1).ln))) := by
  cases b with
  | some e => rfl
  | none =>
    unfold Rel place
    by_cases hs : (hd l).s = [42]
    · have : r = true := by rw [hr]; simp [hs]
      rw [if_pos this] at h1
      subst h1
      rw [if_pos hs]
      rcases h with h | ⟨-, h⟩ <;> rw [h] <;> rfl
    · have : r = false := by rw [hr]; simp [hs]
      subst this
      rw [if_neg (by decide)] at h1
      subst h1
      rw [if_neg hs]
      rcases h with h | ⟨h, -⟩
      · rw [h]; rfl
      · cases h
theorem place_reg {n : Nat} (hr : false = (b.isNone && decide ((hd l).s = [42]))) (h : look regs (hd l).s = some n) : Rel place l b n l.tail b := by
  cases b with
  | some e => rfl
  | none =>
    have hs : (hd l).s ≠ [42] := by simpa using hr
    unfold Rel place
    rw [if_neg hs, h]
    exact ⟨rfl, rfl, rfl⟩
theorem place_mem {n : Nat} (hr : true = (b.isNone && decide ((hd l).s = [42]))) (h : look regs (hd l.tail).s = some (n + 1)) : Rel place l b (n + 4) l.tail.tail b := by
  cases b with
  | some e => cases hr
  | none =>
    have hs : (hd l).s = [42] := by simpa using hr
    unfold Rel place
    rw [if_pos hs, h]
    exact ⟨rfl, rfl, rfl⟩
end
set_option maxRecDepth 100000 in
theorem pplace_any (h : PS B w gp l b many) : Calls Try.prog 89 #[.pointer (some ⟨gp, 0, none⟩)] w fun e w' => ∃ n l' b', n ≤ 6 ∧ e = .returned (.int .i64 (n : Nat)) ∧ PS B w' gp l' b' many ∧ Rel place l b n l' b' ∧ w.grownBy w' (some gp) := by
  have HI := Lib.hid (pmay_any h ⟨#[42]⟩ [42] rfl (by decide) (by decide))
  clear h
  go_enter Try.func89, Try.ntmps89
  go_wp2_with fail
  refine HI.out.mono ?_
  rintro e W ⟨r, hr, rfl, h1, h2⟩
  have HR := Lib.hid hr
  have H2 := Lib.hid h2
  clear hr h2
  obtain ⟨l1, hl1⟩ : ∃ l1, l1 = if r = true then l.tail else l := ⟨_, rfl⟩
  rw [← hl1] at h1
  have HL1 := Lib.hid hl1
  obtain ⟨g, o, c, q1, q2, q3, q4, q5, q6⟩ := h1.ex
  obtain ⟨t0, t1, t2, t3⟩ := q6.head h1.tl
  have f0 : W.cell? ⟨gp, 0, none⟩ = some (.slice (some ⟨g, o, none⟩) l1.length c) := q1.cell (by omega)
  have hl : 0 < l1.length := List.length_pos_iff.2 h1.tl.ne
  have hlI : (0 : Int) < l1.length := by omega
  obtain ⟨s, hs⟩ : ∃ s, s = (hd l1).s := ⟨_, rfl⟩
  have hs8 : B8 s := by rw [hs]; exact h1.tl.hd_ok.1
  rw [← hs] at t1
  have HS := Lib.hid hs
  have H1 := Lib.hid h1
  have F0 := Lib.hid f0
  have T1 := Lib.hid t1
  clear h1 hl1 q1 q6 t0 t2 t3 hs
  have hmm := @run_makeMap Try.prog
  have hMB := MB.made W
  have hw0 : Hid (w.heap.size ≤ W.heap.size) := H2.out.size
  clear HI
  cases hlk : look regs s with
  | none =>
    have HLK := Lib.hid hlk
    cases r with
    | true =>
      go_wp2_with (first
        | (refine wpList_ins rfl _ _ _ _ rfl 9 3 Try.underlying126 Try.underlying9 _ _ rfl hMB _ rfl _ rfl (by rfl) ?_; clear hMB f0 t1; intro W1 hMB; have f0 := hMB.cell F0.out; have t1 := hMB.cell T1.out)
        | (refine wpList_lookN rfl _ _ _ rfl 9 3 .i64 Try.underlying126 Try.underlying9 zero_int _ regs rfl (hMB.to (by kernel_rfl)) (by decide) s hs8 rfl ?_; rw [show lookN regs s = _ from hlk]; dsimp only [Option.getD_some, Option.isSome_some, Option.getD_none, Option.isSome_none]))
      have hb1 := hMB.be
      have hp1 := H1.out.be hMB
      clear f0 t1 hMB
      have HP1 := Lib.hid hp1
      have HB1 := Lib.hid (nil_grown H2.out (grown_of_below hb1 (some gp)))
      have HF := Lib.hid (pfail_any hp1 121 (by decide))
      clear hp1 hb1
      refine HF.out.mono ?_
      rintro e w2 ⟨rfl, h1, h2⟩
      have H3 := Lib.hid h1
      have H4 := Lib.hid h2
      clear h1 h2
      go_wp2_with fail
      go_ret
      exact ⟨0, l1, _, by omega, rfl, H3.out, place_no HR.out HL1.out (.inl (HS.out ▸ HLK.out)), nil_grown HB1.out H4.out⟩
    | false =>
      go_wp2_with (first
        | (refine wpList_ins rfl _ _ _ _ rfl 9 3 Try.underlying126 Try.underlying9 _ _ rfl hMB _ rfl _ rfl (by rfl) ?_; clear hMB f0 t1; intro W1 hMB; have f0 := hMB.cell F0.out; have t1 := hMB.cell T1.out)
        | (refine wpList_lookN rfl _ _ _ rfl 9 3 .i64 Try.underlying126 Try.underlying9 zero_int _ regs rfl (hMB.to (by kernel_rfl)) (by decide) s hs8 rfl ?_; rw [show lookN regs s = _ from hlk]; dsimp only [Option.getD_some, Option.isSome_some, Option.getD_none, Option.isSome_none]))
      have hb1 := hMB.be
      have hp1 := H1.out.be hMB
      clear f0 t1 hMB
      have HP1 := Lib.hid hp1
      have HB1 := Lib.hid (nil_grown H2.out (grown_of_below hb1 (some gp)))
      have HF := Lib.hid (pfail_any hp1 121 (by decide))
      clear hp1 hb1
      refine HF.out.mono ?_
      rintro e w2 ⟨rfl, h1, h2⟩
      have H3 := Lib.hid h1
      have H4 := Lib.hid h2
      clear h1 h2
      go_wp2_with fail
      go_ret
      exact ⟨0, l1, _, by omega, rfl, H3.out, place_no HR.out HL1.out (.inl (HS.out ▸ HLK.out)), nil_grown HB1.out H4.out⟩
  | some n =>
    have hn := regs_le hlk
    have HK4 : Hid ((hd l1).k ≠ 4) := (H1.out.tl.hd_s (by rw [← HS.out]; exact hn.2)).1
    have HLK := Lib.hid hlk
    cases r with
    | false =>
      go_wp2_with (first
        | (refine wpList_ins rfl _ _ _ _ rfl 9 3 Try.underlying126 Try.underlying9 _ _ rfl hMB _ rfl _ rfl (by rfl) ?_; clear hMB f0 t1; intro W1 hMB; have f0 := hMB.cell F0.out; have t1 := hMB.cell T1.out)
        | (refine wpList_lookN rfl _ _ _ rfl 9 3 .i64 Try.underlying126 Try.underlying9 zero_int _ regs rfl (hMB.to (by kernel_rfl)) (by decide) s hs8 rfl ?_; rw [show lookN regs s = _ from hlk]; dsimp only [Option.getD_some, Option.isSome_some, Option.getD_none, Option.isSome_none]))
      have hb1 := hMB.be
      have hp1 := H1.out.be hMB
      clear f0 t1 hMB
      have HB1 := Lib.hid (nil_grown H2.out (grown_of_below hb1 (some gp)))
      have hst := pstep_any hp1
      rw [if_neg HK4.out] at hst
      have HF := Lib.hid hst
      clear hp1 hb1 hst
      refine HF.out.mono ?_
      rintro e w2 ⟨rfl, h1, h2⟩
      have H3 := Lib.hid h1
      have H4 := Lib.hid h2
      clear h1 h2
      go_wp2_with fail
      go_ret
      exact ⟨n, l1.tail, b, by omega, rfl, H3.out, by have hl1 : l1 = l := HL1.out; subst hl1; exact place_reg HR.out (HS.out ▸ HLK.out), nil_grown HB1.out H4.out⟩
    | true =>
      cases n with
      | zero =>
        go_wp2_with (first
          | (refine wpList_ins rfl _ _ _ _ rfl 9 3 Try.underlying126 Try.underlying9 _ _ rfl hMB _ rfl _ rfl (by rfl) ?_; clear hMB f0 t1; intro W1 hMB; have f0 := hMB.cell F0.out; have t1 := hMB.cell T1.out)
          | (refine wpList_lookN rfl _ _ _ rfl 9 3 .i64 Try.underlying126 Try.underlying9 zero_int _ regs rfl (hMB.to (by kernel_rfl)) (by decide) s hs8 rfl ?_; rw [show lookN regs s = _ from hlk]; dsimp only [Option.getD_some, Option.isSome_some, Option.getD_none, Option.isSome_none]))
        have hb1 := hMB.be
        have hp1 := H1.out.be hMB
        clear f0 t1 hMB
        have HP1 := Lib.hid hp1
        have HB1 := Lib.hid (nil_grown H2.out (grown_of_below hb1 (some gp)))
        have HF := Lib.hid (pfail_any hp1 121 (by decide))
        clear hp1 hb1
        refine HF.out.mono ?_
        rintro e w2 ⟨rfl, h1, h2⟩
        have H3 := Lib.hid h1
        have H4 := Lib.hid h2
        clear h1 h2
        go_wp2_with fail
        go_ret
        exact ⟨0, l1, _, by omega, rfl, H3.out, place_no HR.out HL1.out (.inr ⟨rfl, HS.out ▸ HLK.out⟩), nil_grown HB1.out H4.out⟩
      | succ n =>
        have hnz : (((n + 1 : Nat) : Int) == 0) = false := by rw [beq_eq_false_iff_ne]; omega
        have hnw : IntKind.i64.wrap (((n + 1 : Nat) : Int) + 3) = ((n + 4 : Nat) : Int) := by rw [IntKind.wrap_i64]; omega
        go_wp2_with (first
          | (refine wpList_ins rfl _ _ _ _ rfl 9 3 Try.underlying126 Try.underlying9 _ _ rfl hMB _ rfl _ rfl (by rfl) ?_; clear hMB f0 t1; intro W1 hMB; have f0 := hMB.cell F0.out; have t1 := hMB.cell T1.out)
          | (refine wpList_lookN rfl _ _ _ rfl 9 3 .i64 Try.underlying126 Try.underlying9 zero_int _ regs rfl (hMB.to (by kernel_rfl)) (by decide) s hs8 rfl ?_; rw [show lookN regs s = _ from hlk]; dsimp only [Option.getD_some, Option.isSome_some, Option.getD_none, Option.isSome_none]))
        have hb1 := hMB.be
        have hp1 := H1.out.be hMB
        clear f0 t1 hMB
        have HB1 := Lib.hid (nil_grown H2.out (grown_of_below hb1 (some gp)))
        have hst := pstep_any hp1
        rw [if_neg HK4.out] at hst
        have HF := Lib.hid hst
        clear hp1 hb1 hst
        refine HF.out.mono ?_
        rintro e w2 ⟨rfl, h1, h2⟩
        have H3 := Lib.hid h1
        have H4 := Lib.hid h2
        clear h1 h2
        go_wp2_with fail
        go_ret
        exact ⟨n + 4, l1.tail, b, by omega, rfl, H3.out, by have hl1 : l1 = l.tail := HL1.out; subst hl1; exact place_mem HR.out (HS.out ▸ HLK.out), nil_grown HB1.out H4.out⟩
/-- Two cells of a row. -/
def up2 (f : Nat → Value) (k : Nat) (u v : Value) : Nat → Value := fun i => if i = k then u else if i = k + 1 then v else f i
theorem up2_set {w : World} {g t n k : Nat} {f : Nat → Value} (h : w.rowIs g t n f) (u v : Value) : ((w.setCell ⟨g, k, none⟩ u).setCell ⟨g, k + 1, none⟩ v).rowIs g t n (up2 f k u v) :=
  ((h.set k u).set (k + 1) v).congr fun i hi => by
    unfold up2
    by_cases h1 : i = k
    · subst h1; simp
    · by_cases h2 : i = k + 1 <;> simp [h1, h2]
theorem up2_one {w : World} {g t n k : Nat} {f : Nat → Value} (h : w.rowIs g t n f) (u v : Value) (hv : f (k + 1) = v) : (w.setCell ⟨g, k, none⟩ u).rowIs g t n (up2 f k u v) :=
  (h.set k u).congr fun i hi => by
    unfold up2
    by_cases h1 : i = k
    · subst h1; simp
    · by_cases h2 : i = k + 1
      · subst h2; simp [hv]
      · simp [h1, h2]
theorem poperand_any {W0 : World} (h : PS B w gp l b many) (hW : W0.grownBy w (some gp)) (hW0 : W0.heap.size ≤ gi) (hB : B ≤ gi) {t n o : Nat} {f : Nat → Value} (hi : w.rowIs gi t n f) (ho : o + 3 < n) (f3 : f (o + 2 + 1) = .int .i64 0) :
    Calls Try.prog 102 #[.pointer (some ⟨gp, 0, none⟩), .pointer (some ⟨gi, o, none⟩)] w fun e w' => e = .returned (.tuple #[]) ∧ ∃ s m l' b', s ≤ 7 ∧ m ≤ 65535 ∧ PS B w' gp l' b' many ∧ w'.rowIs gi t n (up2 f (o + 2) (.int .i64 (s : Nat)) (.int .i64 (m : Nat))) ∧ Rel operand l b (s, m) l' b' ∧ W0.grownBy w' (some gp) := by
  obtain ⟨g, og, c, q1, q2, q3, q4, q5, q6⟩ := h.ex
  obtain ⟨t0, t1, t2, t3⟩ := q6.head h.tl
  have f0 : w.cell? ⟨gp, 0, none⟩ = some (.slice (some ⟨g, og, none⟩) l.length c) := q1.cell (by omega)
  have hl : 0 < l.length := List.length_pos_iff.2 h.tl.ne
  have hlI : (0 : Int) < l.length := by omega
  have hgg : gi ≠ gp := by have := h.bp; omega
  have HGG := Lib.hid hgg
  have HI := Lib.hid hi
  have HW := Lib.hid (And.intro hW hW0)
  have HBB := Lib.hid hB
  have HF3 := Lib.hid f3
  have HN := Lib.hid (pnum_any h 255 (by decide))
  have HP := Lib.hid (pplace_any h)
  clear h hW hW0 hi q1 q6 t1 t2 t3 hgg f3 hB
  by_cases hk : (hd l).k = 2
  · rw [hk] at t0
    have HK := Lib.hid hk
    clear hk
    go_enter Try.func102, Try.ntmps102
    go_wp2_with fail
    refine HN.out.mono ?_
    rintro e w2 ⟨m, l', b', hm, rfl, h1, hr, hg⟩
    have hi2 := grown_row hg HI.out HGG.out
    have z2 := hi2.frozen (o + 2)
    have z3 := hi2.frozen (o + 2 + 1)
    have c2 := hi2.cell (show o + 2 < n by omega)
    have c3 := hi2.cell (show o + 2 + 1 < n by omega)
    have H1 := Lib.hid h1
    have HR := Lib.hid hr
    have HG := Lib.hid hg
    have HI2 := Lib.hid hi2
    clear h1 hr hg hi2 t0 f0
    go_wp2_with fail
    (try simp only [Exit.inBlock, Exit.then])
    refine bodyPost_ret (results_none rfl _ _ _) rfl ?_
    refine ⟨rfl, 7, m, l', b', by omega, hm, (H1.out.off (p := ⟨gi, o + 2, none⟩) HBB.out _).off (p := ⟨gi, o + 2 + 1, none⟩) HBB.out _, up2_set HI2.out _ _, ?_, grown_set (grown_set (nil_grown HW.out.1 HG.out) (.inr HW.out.2) _) (.inr HW.out.2) _⟩
    have hr := HR.out
    unfold Rel at hr ⊢
    unfold operand
    rw [if_pos HK.out]
    cases b with
    | some e => exact hr
    | none =>
      cases hq : num 255 l with
      | error e => rw [hq] at hr; exact hr
      | ok y => rw [hq] at hr; obtain ⟨h1, h2, h3⟩ := hr; exact ⟨h1, by rw [h2], h3⟩
  · have hk1 : (((hd l).k : Int) == 2) = false := by rw [beq_eq_false_iff_ne]; omega
    have HK := Lib.hid hk
    clear hk
    go_enter Try.func102, Try.ntmps102
    go_wp2_with fail
    refine HP.out.mono ?_
    rintro e w2 ⟨m, l', b', hm, rfl, h1, hr, hg⟩
    have hi2 := grown_row hg HI.out HGG.out
    have z2 := hi2.frozen (o + 2)
    have c2 := hi2.cell (show o + 2 < n by omega)
    have H1 := Lib.hid h1
    have HR := Lib.hid hr
    have HG := Lib.hid hg
    have HI2 := Lib.hid hi2
    clear h1 hr hg hi2 t0 f0
    go_wp2_with fail
    go_end0
    refine ⟨rfl, m, 0, l', b', by omega, by omega, H1.out.off (p := ⟨gi, o + 2, none⟩) HBB.out _, up2_one HI2.out _ _ HF3.out, ?_, grown_set (nil_grown HW.out.1 HG.out) (.inr HW.out.2) _⟩
    have hr := HR.out
    unfold Rel at hr ⊢
    unfold operand
    rw [if_neg HK.out]
    cases b with
    | some e => exact hr
    | none =>
      cases hq : place l with
      | error e => rw [hq] at hr; exact hr
      | ok y => rw [hq] at hr; obtain ⟨h1, h2, h3⟩ := hr; exact ⟨h1, by rw [h2], h3⟩
end
end Go.Proofs.Ytiadfmhodlbkiaa
