/-
  PARTS IN MEMORY: a slice that reads as parts; a list of the call's own that grows. Conditions: the blocks are told by a predicate.
  THE WALK OF lex.Tokens. Conditions: the text's size.
-/
import Derived.Test.YthmpagehmfillaaQ19
import Derived.Maps.AppendAt
import Derived.Test.YthmpagehmfillaaQ08
namespace Go.Proofs.Ythmpagehmfillaa
open Go.RowKit
set_option linter.unusedSimpArgs false
set_option linter.unusedVariables false
def prF (l : List PartS) : List Value := l.flatMap ptC
theorem prF_length (l : List PartS) : (prF l).length = l.length * 7 := by
  induction l with
  | nil => rfl
  | cons a l ih =>
    have : prF (a :: l) = ptC a ++ prF l := rfl
    rw [this, List.length_append, ih]
    simp [ptC]
    omega
theorem prF_app (l : List PartS) (t : PartS) : prF (l ++ [t]) = prF l ++ ptC t := by simp [prF]
theorem prF_get {l : List PartS} {i j : Nat} (hi : i < l.length) (hj : j < 7) : (prF l)[i * 7 + j]? = (ptC l[i])[j]? := by
  induction l generalizing i with
  | nil => simp at hi
  | cons a l ih =>
    have e : prF (a :: l) = ptC a ++ prF l := rfl
    have h4 : (ptC a).length = 7 := rfl
    cases i with
    | zero => rw [e, Nat.zero_mul, Nat.zero_add, List.getElem?_append_left (by omega)]; rfl
    | succ i =>
      rw [e, List.getElem?_append_right (by omega), h4, show (i + 1) * 7 + j - 7 = i * 7 + j by omega, ih (by simpa using hi)]
      rfl
/-- A slice reads as parts. -/
def PrT (w : World) (S : Nat → Prop) (v : Value) (l : List PartS) : Prop :=
  ∃ A c, v = .slice A l.length c ∧ l.length ≤ c ∧ c ≤ maxLen ∧ (l ≠ [] → ∃ g o, A = some ⟨g, o, none⟩ ∧ S g ∧ g < w.heap.size ∧ ∀ i (hi : i < l.length) j, j < 7 → w.cell? ⟨g, o + (i * 7 + j), none⟩ = some (ptF l[i] j))
theorem PrT.keep {w w' : World} {S S' : Nat → Prop} {v : Value} {l : List PartS} (h : PrT w S v l) (hk : ∀ k, S k → k < w.heap.size → w'.heap[k]? = w.heap[k]?) (hz : w.heap.size ≤ w'.heap.size) (hS : ∀ k, S k → k < w.heap.size → S' k) : PrT w' S' v l := by
  obtain ⟨A, c, h2, h3, h4, h5⟩ := h
  refine ⟨A, c, h2, h3, h4, fun hn => ?_⟩
  obtain ⟨g, o, e, hs, hg, hc⟩ := h5 hn
  exact ⟨g, o, e, hS g hs hg, Nat.lt_of_lt_of_le hg hz, fun i hi j hj => (World.cell?_of_block (hk g hs hg)).trans (hc i hi j hj)⟩
theorem PrT.mono {w : World} {S S' : Nat → Prop} {v : Value} {l : List PartS} (h : PrT w S v l) (hS : ∀ k, S k → k < w.heap.size → S' k) : PrT w S' v l := h.keep (fun _ _ _ => rfl) (Nat.le_refl _) hS
theorem PrT.below {w w' : World} {S : Nat → Prop} {v : Value} {l : List PartS} (h : PrT w S v l) (hb : Below w.heap.size w w') : PrT w' S v l := h.keep (fun k _ hk => hb.block k hk) hb.size (fun _ h _ => h)
theorem PrT.grown {w w' : World} {S : Nat → Prop} {v : Value} {l : List PartS} {row : Option Nat} (h : PrT w S v l) (hg : w.grownBy w' row) (hr : ∀ k, S k → row ≠ some k) : PrT w' S v l := h.keep (fun k hs hk => hg.block k hk (fun e => hr k hs e.symm)) hg.size (fun _ h _ => h)
theorem PrT.nil (w : World) (S : Nat → Prop) : PrT w S (.slice none 0 0) [] := ⟨none, 0, rfl, Nat.le_refl _, Nat.zero_le _, fun h => absurd rfl h⟩
theorem PrT.form {w : World} {S : Nat → Prop} {v : Value} {l : List PartS} (h : PrT w S v l) : ∃ A c, v = .slice A l.length c := by
  obtain ⟨A, c, h1, -⟩ := h
  exact ⟨A, c, h1⟩
/-- The call's own list of parts. -/
def PrL (w : World) (base : Nat) (v : Value) (l : List PartS) : Prop := w.ownsRow base 69 7 v l.length (prF l)
theorem PrL.nil (w : World) (base : Nat) : PrL w base (.slice none 0 0) [] := World.ownsRow_nil _ _ _ _
theorem PrL.lt {w : World} {base : Nat} {v : Value} {l : List PartS} (h : PrL w base v l) : ∀ k, v.ownBlock = some k → base ≤ k ∧ k < w.heap.size := World.ownsRow.lt h
theorem PrL.tr {w : World} {base : Nat} {v : Value} {l : List PartS} (h : PrL w base v l) : PrT w (fun k => base ≤ k) v l := by
  obtain ⟨hlen, h⟩ := h
  rcases h with ⟨rfl, hn⟩ | ⟨g, cap, cur, rfl, hg, hh, hn, hm, hs, ht⟩
  · exact ⟨none, 0, by rw [hn], by omega, Nat.zero_le _, fun h => absurd (List.eq_nil_of_length_eq_zero hn) h⟩
  · refine ⟨_, cap, rfl, hn, hm, fun _ => ⟨g, 0, rfl, hg, lt_of_block hh, fun i hi j hj => ?_⟩⟩
    have hij : i * 7 + j < l.length * 7 := by omega
    rw [Nat.zero_add, cell_of_row w g (i * 7 + j) cur _ _ hh, ← Array.getElem?_toList]
    have e := prF_get hi hj
    rw [← ht, List.getElem?_take, if_pos hij] at e
    rw [e]
    match j, hj with
    | 0, _ => rfl
    | 1, _ => rfl
    | 2, _ => rfl
    | 3, _ => rfl
    | 4, _ => rfl
    | 5, _ => rfl
    | 6, _ => rfl
theorem PrL.kept {w w' : World} {base : Nat} {v : Value} {l : List PartS} {row : Option Nat} (h : PrL w base v l) (hg : w.grownBy w' row) (hr : ∀ k, row = some k → k < base) : PrL w' base v l :=
  World.ownsRow.kept h hg (by
    cases hv : v.ownBlock with
    | none => exact .inl rfl
    | some k => exact .inr (fun e => by have := hr k (by rw [e]); have := (World.ownsRow.lt h k hv).1; omega))
theorem PrL.below {w w' : World} {base : Nat} {v : Value} {l : List PartS} (h : PrL w base v l) (hb : Below w.heap.size w w') : PrL w' base v l := h.kept (row := none) (grown_of_below hb none) (fun k e => by cases e)
theorem info_pt : (Try.prog.info? 69).map (fun i => (i.zero, i.size, i.bytes)) = some (some (.agg #[.int .u8 0, .int .i64 0, .int .i64 0, .int .i64 0, .int .i64 0, .int .i64 0, .int .i64 0]), 7, 56) := by kernel_rfl
section
variable {W : World} {ops : Array Oper} {o : Oper} {a : Act} {Q : Exit → Act → World → Prop} {K : Act → World → Prop} {E : Prop} {base : Nat} {v : Value} {l : List PartS}
/-- 'out = append(out, x)' behind the block that was made for x. -/
theorem step_append_part (s x : Operand) (hgd : o.guard = none) (ho : o.op = .call { callee := .builtin .append, args := #[s, x], argTypes := #[23, 23] }) (c : Nat) (y : PartS) (cs : Array Value) (hcs : cs.toList = ptC y)
    (hs : a.eval s = v) (H : Nat) (hx : a.eval x = .slice (some ⟨H, 0, none⟩) 1 c) (hH : W.heap.size = H) (hown : PrL W base v l) (hn : l.length + 1 ≤ 1000000) (hbase : base ≤ W.heap.size)
    (h : ∀ v' w', PrL w' base v' (l ++ [y]) → W.grownBy w' v.ownBlock → K (a.put o.dst v') w') :
    if Region.wanted o (yielded ops a.tmps) = true then Oper.wp Try.prog o a (W.alloc (.cells cs 69)) K Q else E := by
  subst hH
  have hw : Region.wanted o (yielded ops a.tmps) = true := by simp [Region.wanted, hgd]
  rw [if_pos hw]
  obtain ⟨i, hi, hz, hs1, hb⟩ := info_parts info_pt
  obtain ⟨v', w', hrun, h2, h3, _, h5⟩ := run_append_own_at (P := Try.prog) (W.alloc (.cells cs 69)) base 23 o.type 69 i _ 7 56 Try.underlying23 hi hz hs1 hb rfl (by omega) v l.length (prF l) (World.ownsRow.alloc hown _) ⟨W.heap.size, 0, none⟩ 1 c (ptC y)
    rfl (fun j u hj => by
      rw [add_none, Nat.zero_add, cell_of_row _ _ _ _ _ _ (heap_alloc_new W _), ← Array.getElem?_toList, hcs]
      exact hj) (fun u hu => by simp [ptC] at hu; rcases hu with rfl | rfl | rfl | rfl | rfl | rfl | rfl <;> rfl) (by unfold maxLen; omega) (by omega) (by rw [World.size_alloc]; omega)
  unfold Oper.wp execOp
  simp only [ho, resolve, invoke, builtin, Sem.run_bind, Sem.run_pure, Result.andThen_ok, List.map_toArray, List.map_cons, List.map_nil, hs, hx, hrun]
  refine h v' w' ?_ (nil_grown (World.grownBy_alloc _ _ _) h3)
  show World.ownsRow _ _ _ _ _ _ _
  rw [prF_app, List.length_append]
  exact h2
end
end Go.Proofs.Ythmpagehmfillaa
namespace Go.Proofs.Ythmpagehmfillaa
open Go.RowKit
set_option linter.unusedSimpArgs false
set_option linter.unusedVariables false

def TkPost (r : List Tok ⊕ Nat) (w : World) (e : Ending) (w' : World) : Prop :=
  (match r with
    | .inl l => ∃ v, e = .returned (.tuple #[v, .agg #[.int .i64 0, .int .i64 0]]) ∧ To w' w.heap.size v l
    | .inr n => e = .returned (.tuple #[.slice none 0 0, .agg #[.int .i64 120, .int .i64 n]])) ∧ Below w.heap.size w w'
theorem strB_cons {t : ByteArray} (h : 0 < t.size) : strB t = nth (strB t) 0 :: strB (t.extract 1 t.size) := by
  rw [strB_extract]
  have hl : (strB t).length = t.size := strB_length t
  rw [List.take_of_length_le (by simp; omega)]
  cases hs : strB t with
  | nil => rw [hs] at hl; simp at hl; omega
  | cons a l => rfl
theorem strB_drop {t : ByteArray} {n : Nat} : strB (t.extract n t.size) = (strB t).drop n := by
  rw [strB_extract, List.take_of_length_le (by rw [List.length_drop, strB_length]; omega)]
theorem size_extract {t : ByteArray} {n : Nat} (h : n ≤ t.size) : (t.extract n t.size).size = t.size - n := by
  rw [← strB_length, strB_drop, List.length_drop, strB_length]

/-- What the loop keeps. -/
def LexRel (s : ByteArray) (w wr : World) (tv ov lv : Value) : Prop := ∃ (t : ByteArray) (f ln : Nat) (out : List Tok), tv = .string t ∧ lv = .int .i64 ln ∧ lexF f (strB t) ln out = lexN (strB s) ∧ t.size < f ∧ t.size ≤ s.size ∧ ln + t.size ≤ s.size + 1 ∧
  out.length + t.size ≤ s.size ∧ To wr (w.heap.size + 1) ov out ∧ wr.heap[w.heap.size]? = some (.cells #[.int .i64 0, .int .i64 0] 29 (0, 0)) ∧ Below w.heap.size w wr
def strSz : Value → Nat
  | .string t => t.size
  | _ => 0
set_option maxRecDepth 100000 in
set_option maxHeartbeats 4000000 in
theorem tokens_any (s : ByteArray) (w : World) (hs : s.size ≤ 16384) : Calls Try.prog 36 #[.string s] w (TkPost (lexN (strB s)) w) := by
  have k0 : ¬ (16384 : Int) < s.size := by omega
  go_enter Try.func36, Try.ntmps36
  go_wp2_with fail
  have h0 : (w.alloc (.cells #[.int .i64 0, .int .i64 0] 29)).heap[w.heap.size]? = some (.cells #[.int .i64 0, .int .i64 0] 29 (0, 0)) := heap_alloc_new w _
  have hb0 := (Below.refl w.heap.size w).alloc (Nat.le_refl _) (.cells #[.int .i64 0, .int .i64 0] 29)
  have R0 : LexRel s w (w.alloc (.cells #[.int .i64 0, .int .i64 0] 29)) (.string s) (.slice none 0 0) (.int .i64 1) := ⟨s, (strB s).length + 1, 1, [], rfl, rfl, rfl, by rw [strB_length]; omega, Nat.le_refl _, by omega, by simp, To.nil _ _, h0, hb0⟩
  clear h0 hb0
  go_loopw [0, 4, 5] (fun tv ov lv wr => LexRel s w wr tv ov lv) (fun tv _ _ _ => strSz tv)
  case atStart => exact R0
  case round =>
    clear R0
    obtain ⟨t, f, ln, out, rfl, rfl, hlex, hf, hts, hln, hout, hto, hcell, hb⟩ := hrel
    have HX := Lib.hid hlex
    have HT := Lib.hid hto
    have HC := Lib.hid hcell
    have HB := Lib.hid hb
    clear hlex hto hcell hb
    by_cases h0 : 0 < t.size
    · have k1 : (0 : Int) < t.size := by omega
      have hcons := strB_cons h0
      have hnth := strB_nth h0
      obtain ⟨f, rfl⟩ : ∃ f', f = f' + 1 := ⟨f - 1, by omega⟩
      rw [hcons] at HX
      obtain ⟨c, hc⟩ : ∃ c, c = nth (strB t) 0 := ⟨_, rfl⟩
      rw [← hc] at HX hnth hcons
      have hcl : c < 256 := by rw [hc]; exact nth_lt (strB_lt t) 0
      have q : ∀ (k : Nat) (z : Int), z = k → (((t[0]'h0).toNat : Int) == z) = decide (c = k) := fun k z hz => by
        subst hz
        rw [Bool.eq_iff_iff]
        simp only [beq_iff_eq, decide_eq_true_eq, hnth]
        omega
      have q10 := q 10 10 rfl
      have q32 := q 32 32 rfl
      have q9 := q 9 9 rfl
      have q13 := q 13 13 rfl
      have q35 := q 35 35 rfl
      have hsz := size_extract (t := t) (n := 1) h0
      have HN := Lib.hid hnth
      have HK := Lib.hid hcons
      have HZ := Lib.hid hsz
      clear hnth hcons hsz q
      by_cases h10 : c = 10
      · rw [decide_eq_true h10] at q10
        have HX2 : Hid (lexF f (strB (t.extract 1 t.size)) (ln + 1) out = lexN (strB s)) := by rw [← HX.out]; show _ = lexF _ _ _ _; rw [lexF]; rw [if_pos h10]
        clear q32 q9 q13 q35 h10 hc
        go_wp2_with fail
        go_roundw
        case rel => exact ⟨t.extract 1 t.size, f, ln + 1, out, rfl, by go_num, HX2.out, by rw [HZ.out]; omega, by rw [HZ.out]; omega, by rw [HZ.out]; omega, by rw [HZ.out]; omega, HT.out, HC.out, HB.out⟩
        case measure => show (t.extract 1 t.size).size < t.size; rw [HZ.out]; omega
      · rw [decide_eq_false h10] at q10
        by_cases hbl : c = 32 ∨ c = 9 ∨ c = 13
        · have HX2 : Hid (lexF f (strB (t.extract 1 t.size)) ln out = lexN (strB s)) := by rw [← HX.out]; show _ = lexF _ _ _ _; rw [lexF]; rw [if_neg h10, if_pos hbl]
          have hor : (decide (c = 32) || decide (c = 9) || decide (c = 13)) = true := by simpa [or_assoc] using hbl
          by_cases h32 : c = 32
          all_goals by_cases h9 : c = 9
          all_goals by_cases h13 : c = 13
          all_goals try (exfalso; omega)
          all_goals
            first | rw [decide_eq_true h32] at q32 | rw [decide_eq_false h32] at q32
            first | rw [decide_eq_true h9] at q9 | rw [decide_eq_false h9] at q9
            first | rw [decide_eq_true h13] at q13 | rw [decide_eq_false h13] at q13
            clear q35 h10 hc h32 h9 h13 hbl hor
            go_wp2_with fail
            go_roundw
            case rel => exact ⟨t.extract 1 t.size, f, ln, out, rfl, rfl, HX2.out, by rw [HZ.out]; omega, by rw [HZ.out]; omega, by rw [HZ.out]; omega, by rw [HZ.out]; omega, HT.out, HC.out, HB.out⟩
            case measure => show (t.extract 1 t.size).size < t.size; rw [HZ.out]; omega
        · have h32 : ¬ c = 32 := fun h => hbl (.inl h)
          have h9 : ¬ c = 9 := fun h => hbl (.inr (.inl h))
          have h13 : ¬ c = 13 := fun h => hbl (.inr (.inr h))
          rw [decide_eq_false h32] at q32
          rw [decide_eq_false h9] at q9
          rw [decide_eq_false h13] at q13
          by_cases h35 : c = 35
          · rw [decide_eq_true h35] at q35
            have HX2 : Hid (lexF f ((strB t).drop (wl nlN (strB t))) ln out = lexN (strB s)) := by rw [← HX.out]; show _ = lexF _ _ _ _; rw [lexF]; rw [if_neg h10, if_neg hbl, if_pos h35, ← HK.out]
            have hpos : 1 ≤ wl nlN (strB t) := by
              rw [HK.out]
              simp [wl, List.takeWhile_cons, nlN, h10]
            have hle := wl_le nlN (strB t)
            rw [strB_length] at hle
            have hsz2 := size_extract (t := t) hle
            have hdr := strB_drop (t := t) (n := wl nlN (strB t))
            generalize hm : wl nlN (strB t) = m at *
            have HM := Lib.hid hm
            have HZ2 := Lib.hid hsz2
            have HD := Lib.hid hdr
            have k2 : (m : Int) ≤ t.size := by omega
            clear h10 hbl h32 h9 h13 h35 hc hm hsz2 hdr
            go_wp2_with fail
            refine (run_notnl t _).mono ?_
            rintro e w1 ⟨rfl, hb1⟩
            rw [HM.out]
            have HT1 := Lib.hid (HT.out.below hb1)
            have HC1 : Hid (w1.heap[w.heap.size]? = some (.cells #[.int .i64 0, .int .i64 0] 29 (0, 0))) := (hb1.block _ (lt_of_block HC.out)).trans HC.out
            have HB1 := Lib.hid (HB.out.trans (hb1.mono HB.out.size))
            clear hb1 HT HC HB
            go_wp2_with fail
            go_roundw
            case rel => exact ⟨t.extract m t.size, f, ln, out, rfl, rfl, by rw [HD.out]; exact HX2.out, by rw [HZ2.out]; omega, by rw [HZ2.out]; omega, by rw [HZ2.out]; omega, by rw [HZ2.out]; omega, HT1.out, HC1.out, HB1.out⟩
            case measure => show (t.extract m t.size).size < t.size; rw [HZ2.out]; omega
          · rw [decide_eq_false h35] at q35
            have HX2 : Hid ((match oneN (strB t) with | none => Sum.inr ln | some (tk, n) => lexF f ((strB t).drop n) ln (out ++ [{ tk with ln := ln }])) = lexN (strB s)) := by rw [← HX.out]; show _ = lexF _ _ _ _; rw [lexF]; rw [if_neg h10, if_neg hbl, if_neg h35, ← HK.out]; cases oneN (strB t) <;> rfl
            clear h10 hbl h32 h9 h13 h35 hc
            go_wp2_with fail
            refine (one_any t _ (by omega)).mono ?_
            rintro e w1 ⟨he, hb1⟩
            have HT1 := Lib.hid (HT.out.below hb1)
            have HC1 : Hid (w1.heap[w.heap.size]? = some (.cells #[.int .i64 0, .int .i64 0] 29 (0, 0))) := (hb1.block _ (lt_of_block HC.out)).trans HC.out
            have HB1 := Lib.hid (HB.out.trans (hb1.mono HB.out.size))
            have hz1 : w.heap.size < w1.heap.size := lt_of_block HC1.out
            clear hb1 HT HC HB
            cases ho : oneN (strB t) with
            | none =>
              rw [ho] at HX2 he
              simp only [oneV] at he
              subst he
              have HX3 : Hid (lexN (strB s) = .inr ln) := HX2.out.symm
              clear ho HX2
              have d0 : w1.cell? ⟨w.heap.size, 0, none⟩ = some (.int .i64 0) := by rw [cell_of_row w1 w.heap.size 0 _ _ _ HC1.out]; rfl
              have d1 : w1.cell? ⟨w.heap.size, 1, none⟩ = some (.int .i64 0) := by rw [cell_of_row w1 w.heap.size 1 _ _ _ HC1.out]; rfl
              have f0 := frozen_of_row w1 w.heap.size 0 _ _ HC1.out
              have f1 := frozen_of_row w1 w.heap.size 1 _ _ HC1.out
              go_wp2_with fail
              refine bodyPost_ret (v := .tuple #[.slice none 0 0, .agg #[.int .i64 120, .int .i64 ln]]) (by simp [results, Try.results36, go_sem, d0, d1, hz1]) rfl ⟨by rw [HX3.out], ?_⟩
              exact ((HB1.out.setCell (p := ⟨w.heap.size, 0, none⟩) (Nat.le_refl _) _).setCell (p := ⟨w.heap.size, 1, none⟩) (Nat.le_refl _) _).alloc (by simpa using HB1.out.size) _
            | some x =>
              obtain ⟨tk, n⟩ := x
              rw [ho] at HX2 he
              simp only [oneV, tokV] at he
              subst he
              have hol := oneN_len ho
              rw [strB_length] at hol
              clear ho
              have k2 : (0 : Int) < n := by omega
              have k3 : ((n : Int) == 0) = false := by rw [beq_eq_false_iff_ne]; omega
              have k4 : (n : Int) ≤ t.size := by omega
              have hsz2 := size_extract (t := t) hol.2
              have hdr := strB_drop (t := t) (n := n)
              have HZ2 := Lib.hid hsz2
              have HD := Lib.hid hdr
              clear hsz2 hdr
              go_wp2_with (at_builtin; refine append_tok (.tmp 56) (.tmp 58) rfl rfl _ { tk with ln := ln } _ rfl rfl _ rfl (by simp) (HT1.out.alloc _) (by omega) (by simp; omega) ?_; intro v2 w2 ho2 hg2)
              have HT2 := Lib.hid ho2
              have hA : Below w.heap.size w (w1.alloc (.cells #[.int .u8 tk.k, .string (mkS tk.s), .int .i64 tk.n, .int .i64 ln] 111)) := HB1.out.alloc HB1.out.size _
              have HB2 : Hid (Below w.heap.size w w2) := hA.grown hg2 hA.size (fun j hj => by have := (HT1.out.lt j hj).1; omega)
              have HC2 : Hid (w2.heap[w.heap.size]? = some (.cells #[.int .i64 0, .int .i64 0] 29 (0, 0))) := (hg2.block _ (by simp; omega) (fun e => by have := (HT1.out.lt _ e.symm).1; omega)).trans ((Below.heap_alloc w1 _ _ hz1).trans HC1.out)
              clear ho2 hg2 hA
              go_wp2_with fail
              have R : LexRel s w w2 (.string (t.extract n t.size)) v2 (.int .i64 ln) := ⟨t.extract n t.size, f, ln, out ++ [{ tk with ln := ln }], rfl, rfl, by rw [HD.out]; exact HX2.out, by rw [HZ2.out]; omega, by rw [HZ2.out]; omega, by rw [HZ2.out]; omega, by rw [HZ2.out]; simp; omega, HT2.out, HC2.out, HB2.out⟩
              go_roundw
              case rel => first | exact R | ((repeat apply Exists.intro); exact ⟨R, rfl⟩)
              case measure => show (t.extract n t.size).size < t.size; rw [HZ2.out]; omega
    · obtain h0' : t.size = 0 := by omega
      have hnil : strB t = [] := List.eq_nil_of_length_eq_zero (by rw [strB_length]; exact h0')
      have HX3 : Hid (lexN (strB s) = .inl (out ++ [⟨4, [], 0, ln⟩])) := by
        show lexN (strB s) = _
        rw [← HX.out, hnil]
        cases f with
        | zero => omega
        | succ f => rfl
      have k1 : ¬ (0 : Int) < t.size := by omega
      clear hnil
      go_wp2_with (at_builtin; refine append_tok (.tmp 63) (.tmp 66) rfl rfl _ ⟨4, [], 0, ln⟩ _ rfl rfl _ rfl rfl HT.out (by omega) (by have := lt_of_block HC.out; omega) ?_; intro v2 w2 ho2 hg2
                   have HT2 := Lib.hid ho2
                   have HB2 : Hid (Below w.heap.size w w2) := HB.out.grown hg2 HB.out.size (fun j hj => by have := (HT.out.lt j hj).1; omega)
                   have hC2 : w2.heap[w.heap.size]? = some (.cells #[.int .i64 0, .int .i64 0] 29 (0, 0)) := (hg2.block _ (lt_of_block HC.out) (fun e => by have := (HT.out.lt _ e.symm).1; omega)).trans HC.out
                   have hz2 : w.heap.size < w2.heap.size := lt_of_block hC2
                   have d0 : w2.cell? ⟨w.heap.size, 0, none⟩ = some (.int .i64 0) := by rw [cell_of_row w2 w.heap.size 0 _ _ _ hC2]; rfl
                   have d1 : w2.cell? ⟨w.heap.size, 1, none⟩ = some (.int .i64 0) := by rw [cell_of_row w2 w.heap.size 1 _ _ _ hC2]; rfl
                   have f0 := frozen_of_row w2 w.heap.size 0 _ _ hC2
                   have f1 := frozen_of_row w2 w.heap.size 1 _ _ hC2
                   clear ho2 hg2 hC2)
      refine bodyPost_ret (v := .tuple #[v2, .agg #[.int .i64 0, .int .i64 0]]) (by simp [results, Try.results36, go_sem, d0, d1, hz2]) rfl ?_
      have hb := ((HB2.out.setCell (p := ⟨w.heap.size, 0, none⟩) (Nat.le_refl _) (.int .i64 0)).setCell (p := ⟨w.heap.size, 1, none⟩) (Nat.le_refl _) (.int .i64 0))
      refine ⟨?_, hb⟩
      rw [HX3.out]
      refine ⟨v2, rfl, ((HT2.out.set (a := ⟨w.heap.size, 0, none⟩) (fun k hk => ?_) _).set (a := ⟨w.heap.size, 1, none⟩) (fun k hk => ?_) _).mono (by omega)⟩
      all_goals
        have := (HT2.out.lt k hk).1
        show w.heap.size ≠ k
        omega
theorem tokens_long (s : ByteArray) (w : World) (hs : 16384 < s.size) : Calls Try.prog 36 #[.string s] w fun e w' => e = .returned (.tuple #[.slice none 0 0, .agg #[.int .i64 3, .int .i64 0]]) ∧ Below w.heap.size w w' := by
  have k0 : (16384 : Int) < s.size := by omega
  go_enter Try.func36, Try.ntmps36
  go_wp2
  refine bodyPost_ret (v := .tuple #[.slice none 0 0, .agg #[.int .i64 3, .int .i64 0]]) (by simp [results, Try.results36, go_sem]) rfl ⟨rfl, ?_⟩
  exact (Below.refl _ _).alloc (Nat.le_refl _) _
end Go.Proofs.Ythmpagehmfillaa
