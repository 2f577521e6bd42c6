/-
  THE WALK OF lex.Tokens. Conditions: the text's size.
-/
import Derived.Test.YtiadfmhodlbkiaaLexTok
namespace Go.Proofs.Ytiadfmhodlbkiaa
open Go.RowKit
set_option linter.unusedSimpArgs false
set_option linter.unusedVariables false

def TkPost (r : List Tok ⊕ Nat) (w : World) (e : Ending) (w' : World) : Prop :=
  (match r with
    | .inl l => ∃ v, e = .returned (.tuple #[v, .agg #[.int .i64 0, .int .i64 0]]) ∧ To w' w.heap.size v l
    | .inr n => e = .returned (.tuple #[.slice none 0 0, .agg #[.int .i64 120, .int .i64 n]])) ∧ Below w.heap.size w w'
theorem strB_cons {t : ByteArray} (h : 0 < t.size) : strB t = nth (strB t) 0 :: strB (t.extract 1 t.size) := by
  rw [strB_extract]
  have hl : (strB t).length = t.size := strB_length t
  rw [List.take_of_length_le (by simp; omega)]
  cases hs : strB t with
  | nil => rw [hs] at hl; simp at hl; omega
  | cons a l => rfl
theorem strB_drop {t : ByteArray} {n : Nat} : strB (t.extract n t.size) = (strB t).drop n := by
  rw [strB_extract, List.take_of_length_le (by rw [List.length_drop, strB_length]; omega)]
theorem size_extract {t : ByteArray} {n : Nat} (h : n ≤ t.size) : (t.extract n t.size).size = t.size - n := by
  rw [← strB_length, strB_drop, List.length_drop, strB_length]

/-- What the loop keeps. -/
def LexRel (s : ByteArray) (w wr : World) (tv ov lv : Value) : Prop := ∃ (t : ByteArray) (f ln : Nat) (out : List Tok), tv = .string t ∧ lv = .int .i64 ln ∧ lexF f (strB t) ln out = lexN (strB s) ∧ t.size < f ∧ t.size ≤ s.size ∧ ln + t.size ≤ s.size + 1 ∧
  out.length + t.size ≤ s.size ∧ To wr (w.heap.size + 1) ov out ∧ wr.heap[w.heap.size]? = some (.cells #[.int .i64 0, .int .i64 0] 28 (0, 0)) ∧ Below w.heap.size w wr
def strSz : Value → Nat
  | .string t => t.size
  | _ => 0
set_option maxRecDepth 100000 in
set_option maxHeartbeats 4000000 in
theorem tokens_any (s : ByteArray) (w : World) (hs : s.size ≤ 16384) : Calls Try.prog 14 #[.string s] w (TkPost (lexN (strB s)) w) := by
  have k0 : ¬ (16384 : Int) < s.size := by omega
  go_enter Try.func14, Try.ntmps14
  go_wp2_with fail
  have h0 : (w.alloc (.cells #[.int .i64 0, .int .i64 0] 28)).heap[w.heap.size]? = some (.cells #[.int .i64 0, .int .i64 0] 28 (0, 0)) := heap_alloc_new w _
  have hb0 := (Below.refl w.heap.size w).alloc (Nat.le_refl _) (.cells #[.int .i64 0, .int .i64 0] 28)
  have R0 : LexRel s w (w.alloc (.cells #[.int .i64 0, .int .i64 0] 28)) (.string s) (.slice none 0 0) (.int .i64 1) := ⟨s, (strB s).length + 1, 1, [], rfl, rfl, rfl, by rw [strB_length]; omega, Nat.le_refl _, by omega, by simp, To.nil _ _, h0, hb0⟩
  clear h0 hb0
  go_loopw [0, 4, 5] (fun tv ov lv wr => LexRel s w wr tv ov lv) (fun tv _ _ _ => strSz tv)
  case atStart => exact R0
  case round =>
    clear R0
    obtain ⟨t, f, ln, out, rfl, rfl, hlex, hf, hts, hln, hout, hto, hcell, hb⟩ := hrel
    have HX := Lib.hid hlex
    have HT := Lib.hid hto
    have HC := Lib.hid hcell
    have HB := Lib.hid hb
    clear hlex hto hcell hb
    by_cases h0 : 0 < t.size
    · have k1 : (0 : Int) < t.size := by omega
      have hcons := strB_cons h0
      have hnth := strB_nth h0
      obtain ⟨f, rfl⟩ : ∃ f', f = f' + 1 := ⟨f - 1, by omega⟩
      rw [hcons] at HX
      obtain ⟨c, hc⟩ : ∃ c, c = nth (strB t) 0 := ⟨_, rfl⟩
      rw [← hc] at HX hnth hcons
      have hcl : c < 256 := by rw [hc]; exact nth_lt (strB_lt t) 0
      have q : ∀ (k : Nat) (z : Int), z = k → (((t[0]'h0).toNat : Int) == z) = decide (c = k) := fun k z hz => by
        subst hz
        rw [Bool.eq_iff_iff]
        simp only [beq_iff_eq, decide_eq_true_eq, hnth]
        omega
      have q10 := q 10 10 rfl
      have q32 := q 32 32 rfl
      have q9 := q 9 9 rfl
      have q13 := q 13 13 rfl
      have q35 := q 35 35 rfl
      have hsz := size_extract (t := t) (n := 1) h0
      have HN := Lib.hid hnth
      have HK := Lib.hid hcons
      have HZ := Lib.hid hsz
      clear hnth hcons hsz q
      by_cases h10 : c = 10
      · rw [decide_eq_true h10] at q10
        have HX2 : Hid (lexF f (strB (t.extract 1 t.size)) (ln + 1) out = lexN (strB s)) := by rw [← HX.out]; show _ = lexF _ _ _ _; rw [lexF]; rw [if_pos h10]
        clear q32 q9 q13 q35 h10 hc
        go_wp2_with fail
        go_roundw
        case rel => exact ⟨t.extract 1 t.size, f, ln + 1, out, rfl, by go_num, HX2.out, by rw [HZ.out]; omega, by rw [HZ.out]; omega, by rw [HZ.out]; omega, by rw [HZ.out]; omega, HT.out, HC.out, HB.out⟩
        case measure => show (t.extract 1 t.size).size < t.size; rw [HZ.out]; omega
      · rw [decide_eq_false h10] at q10
        by_cases hbl : c = 32 ∨ c = 9 ∨ c = 13
        · have HX2 : Hid (lexF f (strB (t.extract 1 t.size)) ln out = lexN (strB s)) := by rw [← HX.out]; show _ = lexF _ _ _ _; rw [lexF]; rw [if_neg h10, if_pos hbl]
          have hor : (decide (c = 32) || decide (c = 9) || decide (c = 13)) = true := by simpa [or_assoc] using hbl
          by_cases h32 : c = 32
          all_goals by_cases h9 : c = 9
          all_goals by_cases h13 : c = 13
          all_goals try (exfalso; omega)
          all_goals
            first | rw [decide_eq_true h32] at q32 | rw [decide_eq_false h32] at q32
            first | rw [decide_eq_true h9] at q9 | rw [decide_eq_false h9] at q9
            first | rw [decide_eq_true h13] at q13 | rw [decide_eq_false h13] at q13
            clear q35 h10 hc h32 h9 h13 hbl hor
            go_wp2_with fail
            go_roundw
            case rel => exact ⟨t.extract 1 t.size, f, ln, out, rfl, rfl, HX2.out, by rw [HZ.out]; omega, by rw [HZ.out]; omega, by rw [HZ.out]; omega, by rw [HZ.out]; omega, HT.out, HC.out, HB.out⟩
            case measure => show (t.extract 1 t.size).size < t.size; rw [HZ.out]; omega
        · have h32 : ¬ c = 32 := fun h => hbl (.inl h)
          have h9 : ¬ c = 9 := fun h => hbl (.inr (.inl h))
          have h13 : ¬ c = 13 := fun h => hbl (.inr (.inr h))
          rw [decide_eq_false h32] at q32
          rw [decide_eq_false h9] at q9
          rw [decide_eq_false h13] at q13
          by_cases h35 : c = 35
          · rw [decide_eq_true h35] at q35
            have HX2 : Hid (lexF f ((strB t).drop (wl nlN (strB t))) ln out = lexN (strB s)) := by rw [← HX.out]; show _ = lexF _ _ _ _; rw [lexF]; rw [if_neg h10, if_neg hbl, if_pos h35, ← HK.out]
            have hpos : 1 ≤ wl nlN (strB t) := by
              rw [HK.out]
              simp [wl, List.takeWhile_cons, nlN, h10]
            have hle := wl_le nlN (strB t)
            rw [strB_length] at hle
            have hsz2 := size_extract (t := t) hle
            have hdr := strB_drop (t := t) (n := wl nlN (strB t))
            generalize hm : wl nlN (strB t) = m at *
            have HM := Lib.hid hm
            have HZ2 := Lib.hid hsz2
            have HD := Lib.hid hdr
            have k2 : (m : Int) ≤ t.size := by omega
            clear h10 hbl h32 h9 h13 h35 hc hm hsz2 hdr
            go_wp2_with fail
            refine (run_notnl t _).mono ?_
            rintro e w1 ⟨rfl, hb1⟩
            rw [HM.out]
            have HT1 := Lib.hid (HT.out.below hb1)
            have HC1 : Hid (w1.heap[w.heap.size]? = some (.cells #[.int .i64 0, .int .i64 0] 28 (0, 0))) := (hb1.block _ (lt_of_block HC.out)).trans HC.out
            have HB1 := Lib.hid (HB.out.trans (hb1.mono HB.out.size))
            clear hb1 HT HC HB
            go_wp2_with fail
            go_roundw
            case rel => exact ⟨t.extract m t.size, f, ln, out, rfl, rfl, by rw [HD.out]; exact HX2.out, by rw [HZ2.out]; omega, by rw [HZ2.out]; omega, by rw [HZ2.out]; omega, by rw [HZ2.out]; omega, HT1.out, HC1.out, HB1.out⟩
            case measure => show (t.extract m t.size).size < t.size; rw [HZ2.out]; omega
          · rw [decide_eq_false h35] at q35
            have HX2 : Hid ((match oneN (strB t) with | none => Sum.inr ln | some (tk, n) => lexF f ((strB t).drop n) ln (out ++ [{ tk with ln := ln }])) = lexN (strB s)) := by rw [← HX.out]; show _ = lexF _ _ _ _; rw [lexF]; rw [if_neg h10, if_neg hbl, if_neg h35, ← HK.out]; cases oneN (strB t) <;> rfl
            clear h10 hbl h32 h9 h13 h35 hc
            go_wp2_with fail
            refine (one_any t _ (by omega)).mono ?_
            rintro e w1 ⟨he, hb1⟩
            have HT1 := Lib.hid (HT.out.below hb1)
            have HC1 : Hid (w1.heap[w.heap.size]? = some (.cells #[.int .i64 0, .int .i64 0] 28 (0, 0))) := (hb1.block _ (lt_of_block HC.out)).trans HC.out
            have HB1 := Lib.hid (HB.out.trans (hb1.mono HB.out.size))
            have hz1 : w.heap.size < w1.heap.size := lt_of_block HC1.out
            clear hb1 HT HC HB
            cases ho : oneN (strB t) with
            | none =>
              rw [ho] at HX2 he
              simp only [oneV] at he
              subst he
              have HX3 : Hid (lexN (strB s) = .inr ln) := HX2.out.symm
              clear ho HX2
              have d0 : w1.cell? ⟨w.heap.size, 0, none⟩ = some (.int .i64 0) := by rw [cell_of_row w1 w.heap.size 0 _ _ _ HC1.out]; rfl
              have d1 : w1.cell? ⟨w.heap.size, 1, none⟩ = some (.int .i64 0) := by rw [cell_of_row w1 w.heap.size 1 _ _ _ HC1.out]; rfl
              have f0 := frozen_of_row w1 w.heap.size 0 _ _ HC1.out
              have f1 := frozen_of_row w1 w.heap.size 1 _ _ HC1.out
              go_wp2_with fail
              refine bodyPost_ret (v := .tuple #[.slice none 0 0, .agg #[.int .i64 120, .int .i64 ln]]) (by simp [results, Try.results14, go_sem, d0, d1, hz1]) rfl ⟨by rw [HX3.out], ?_⟩
              exact ((HB1.out.setCell (p := ⟨w.heap.size, 0, none⟩) (Nat.le_refl _) _).setCell (p := ⟨w.heap.size, 1, none⟩) (Nat.le_refl _) _).alloc (by simpa using HB1.out.size) _
            | some x =>
              obtain ⟨tk, n⟩ := x
              rw [ho] at HX2 he
              simp only [oneV, tokV] at he
              subst he
              have hol := oneN_len ho
              rw [strB_length] at hol
              clear ho
              have k2 : (0 : Int) < n := by omega
              have k3 : ((n : Int) == 0) = false := by rw [beq_eq_false_iff_ne]; omega
              have k4 : (n : Int) ≤ t.size := by omega
              have hsz2 := size_extract (t := t) hol.2
              have hdr := strB_drop (t := t) (n := n)
              have HZ2 := Lib.hid hsz2
              have HD := Lib.hid hdr
              clear hsz2 hdr
              go_wp2_with (at_builtin; refine append_tok (.tmp 56) (.tmp 58) rfl rfl _ { tk with ln := ln } _ rfl rfl _ rfl (by simp) (HT1.out.alloc _) (by omega) (by simp; omega) ?_; intro v2 w2 ho2 hg2)
              have HT2 := Lib.hid ho2
              have hA : Below w.heap.size w (w1.alloc (.cells #[.int .u8 tk.k, .string (mkS tk.s), .int .i64 tk.n, .int .i64 ln] 60)) := HB1.out.alloc HB1.out.size _
              have HB2 : Hid (Below w.heap.size w w2) := hA.grown hg2 hA.size (fun j hj => by have := (HT1.out.lt j hj).1; omega)
              have HC2 : Hid (w2.heap[w.heap.size]? = some (.cells #[.int .i64 0, .int .i64 0] 28 (0, 0))) := (hg2.block _ (by simp; omega) (fun e => by have := (HT1.out.lt _ e.symm).1; omega)).trans ((Below.heap_alloc w1 _ _ hz1).trans HC1.out)
              clear ho2 hg2 hA
              go_wp2_with fail
              have R : LexRel s w w2 (.string (t.extract n t.size)) v2 (.int .i64 ln) := ⟨t.extract n t.size, f, ln, out ++ [{ tk with ln := ln }], rfl, rfl, by rw [HD.out]; exact HX2.out, by rw [HZ2.out]; omega, by rw [HZ2.out]; omega, by rw [HZ2.out]; omega, by rw [HZ2.out]; simp; omega, HT2.out, HC2.out, HB2.out⟩
              go_roundw
              case rel => first | exact R | ((repeat apply Exists.intro); exact ⟨R, rfl⟩)
              case measure => show (t.extract n t.size).size < t.size; rw [HZ2.out]; omega
    · obtain h0' : t.size = 0 := by omega
      have hnil : strB t = [] := List.eq_nil_of_length_eq_zero (by rw [strB_length]; exact h0')
      have HX3 : Hid (lexN (strB s) = .inl (out ++ [⟨4, [], 0, ln⟩])) := by
        show lexN (strB s) = _
        rw [← HX.out, hnil]
        cases f with
        | zero => omega
        | succ f => rfl
      have k1 : ¬ (0 : Int) < t.size := by omega
      clear hnil
      go_wp2_with (at_builtin; refine append_tok (.tmp 63) (.tmp 66) rfl rfl _ ⟨4, [], 0, ln⟩ _ rfl rfl _ rfl rfl HT.out (by omega) (by have := lt_of_block HC.out; omega) ?_; intro v2 w2 ho2 hg2
                   have HT2 := Lib.hid ho2
                   have HB2 : Hid (Below w.heap.size w w2) := HB.out.grown hg2 HB.out.size (fun j hj => by have := (HT.out.lt j hj).1; omega)
                   have hC2 : w2.heap[w.heap.size]? = some (.cells #[.int .i64 0, .int .i64 0] 28 (0, 0)) := (hg2.block _ (lt_of_block HC.out) (fun e => by have := (HT.out.lt _ e.symm).1; omega)).trans HC.out
                   have hz2 : w.heap.size < w2.heap.size := lt_of_block hC2
                   have d0 : w2.cell? ⟨w.heap.size, 0, none⟩ = some (.int .i64 0) := by rw [cell_of_row w2 w.heap.size 0 _ _ _ hC2]; rfl
                   have d1 : w2.cell? ⟨w.heap.size, 1, none⟩ = some (.int .i64 0) := by rw [cell_of_row w2 w.heap.size 1 _ _ _ hC2]; rfl
                   have f0 := frozen_of_row w2 w.heap.size 0 _ _ hC2
                   have f1 := frozen_of_row w2 w.heap.size 1 _ _ hC2
                   clear ho2 hg2 hC2)
      refine bodyPost_ret (v := .tuple #[v2, .agg #[.int .i64 0, .int .i64 0]]) (by simp [results, Try.results14, go_sem, d0, d1, hz2]) rfl ?_
      have hb := ((HB2.out.setCell (p := ⟨w.heap.size, 0, none⟩) (Nat.le_refl _) (.int .i64 0)).setCell (p := ⟨w.heap.size, 1, none⟩) (Nat.le_refl _) (.int .i64 0))
      refine ⟨?_, hb⟩
      rw [HX3.out]
      refine ⟨v2, rfl, ((HT2.out.set (a := ⟨w.heap.size, 0, none⟩) (fun k hk => ?_) _).set (a := ⟨w.heap.size, 1, none⟩) (fun k hk => ?_) _).mono (by omega)⟩
      all_goals
        have := (HT2.out.lt k hk).1
        show w.heap.size ≠ k
        omega
theorem tokens_long (s : ByteArray) (w : World) (hs : 16384 < s.size) : Calls Try.prog 14 #[.string s] w fun e w' => e = .returned (.tuple #[.slice none 0 0, .agg #[.int .i64 3, .int .i64 0]]) ∧ Below w.heap.size w w' := by
  have k0 : (16384 : Int) < s.size := by omega
  go_enter Try.func14, Try.ntmps14
  go_wp2
  refine bodyPost_ret (v := .tuple #[.slice none 0 0, .agg #[.int .i64 3, .int .i64 0]]) (by simp [results, Try.results14, go_sem]) rfl ⟨rfl, ?_⟩
  exact (Below.refl _ _).alloc (Nat.le_refl _) _
end Go.Proofs.Ytiadfmhodlbkiaa
