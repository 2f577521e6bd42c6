/-
 THE WALK OF quillpressref18.Tokens. Conditions: the text's size.
-/
import Derived.Test.YtiadfmhodlbkiaaQ16
namespace Go.Proofs.Ytiadfmhodlbkiaa
open Go.RowKit
set_option linter.unusedSimpArgs false
set_option linter.unusedVariables false
def RexRel (s : ByteArray) (w wr : World) (ov lv av : Value) : Prop := ∃ (p f ln : Nat) (out : List Tok), av = .int .i64 p ∧ lv = .int .i64 ln ∧ lexF f ((strB s).drop p) ln out = lexN (strB s) ∧ p ≤ s.size ∧ s.size < f + p ∧ ln ≤ p + 1 ∧
 out.length ≤ p ∧ To wr (w.heap.size + 1) ov out ∧ wr.heap[w.heap.size]? = some (.cells #[.int .i64 0, .int .i64 0] 28 (0, 0)) ∧ Below w.heap.size w wr
theorem drop_cons {l : List Nat} {p : Nat} (h : p < l.length) : l.drop p = nth l p :: l.drop (p + 1) := by
 rw [nth_get h]
 exact List.drop_eq_getElem_cons h
theorem nth_drop (l : List Nat) (a j : Nat) : nth (l.drop a) j = nth l (a + j) := by simp [nth, List.getElem?_drop]
theorem extract_mkS2 (s : ByteArray) (a b : Nat) : s.extract a b = mkS (((strB s).drop a).take (b - a)) := by
 rw [← mkS_strB (s.extract a b), strB_extract]
/-- The sign among the last ones. -/
def bst (l : List Nat) (r : Nat) : List Nat := ((signsN.drop r).find? (fun x => x.isPrefixOf l)).getD []
theorem bst_last (l : List Nat) : bst l 21 = [] := rfl
theorem bst_zero (l : List Nat) : bst l 0 = (sgnN l).getD [] := rfl
theorem bst_step {l : List Nat} {r : Nat} (h : r < 21) : bst l r = if List.isPrefixOf (signsN.getD r []) l then signsN.getD r [] else bst l (r + 1) := by
 unfold bst
 rw [List.drop_eq_getElem_cons (by rw [signs_eq]; exact h), List.find?_cons, List.getD_eq_getElem?_getD, List.getElem?_eq_getElem (by rw [signs_eq]; exact h)]
 by_cases hp : List.isPrefixOf (signsN[r]'(by rw [signs_eq]; exact h)) l = true
 · simp [hp]
 · rw [Bool.not_eq_true] at hp
   simp [hp]
theorem bst_mem (l : List Nat) (r : Nat) : bst l r = [] ∨ bst l r ∈ signsN := by
 unfold bst
 cases h : (signsN.drop r).find? (fun x => x.isPrefixOf l) with
 | none => exact .inl rfl
 | some x => exact .inr (List.mem_of_mem_drop (List.mem_of_find?_eq_some h))
theorem sgn_none {l : List Nat} (h : bst l 0 = []) : sgnN l = none := by
 rw [bst_zero] at h
 cases hs : sgnN l with
 | none => rfl
 | some x =>
   rw [hs] at h
   have := (signs_len x (sgn_mem hs).1).1
   have h' : x = [] := h
   rw [h'] at this
   simp at this
theorem sgn_some {l : List Nat} (h : bst l 0 ≠ []) : sgnN l = some (bst l 0) := by
 rw [bst_zero] at h ⊢
 cases hs : sgnN l with
 | none => rw [hs] at h; exact absurd rfl h
 | some x => rfl
/-- What the digits so far are worth. -/
def dd (l : List Nat) (j : Nat) : Nat := decN 0 (l.take (min j 6))
theorem dd_zero (l : List Nat) : dd l 0 = 0 := rfl
theorem dd_step {l : List Nat} {j : Nat} (h : j < 6) (hj : j < l.length) : dd l (j + 1) = dd l j * 10 + (nth l j - 48) := by
 unfold dd
 rw [show min (j + 1) 6 = j + 1 by omega, show min j 6 = j by omega, List.take_succ_eq_append_getElem hj, decN_snoc, nth_get hj]
theorem dd_stay {l : List Nat} {j : Nat} (h : 6 ≤ j) : dd l (j + 1) = dd l j := by
 unfold dd
 rw [show min (j + 1) 6 = 6 by omega, show min j 6 = 6 by omega]
theorem dd_num {l : List Nat} {m : Nat} (hm : m ≤ l.length) : (65536 ≤ numN (l.take m)) ↔ (5 < m ∨ 65535 < dd l m) := by
 unfold numN
 rw [List.length_take, show min m l.length = m by omega]
 by_cases h : 5 < m
 · rw [if_pos h]; omega
 · rw [if_neg h]
   unfold dd
   rw [show min m 6 = m by omega]
   omega
theorem dd_val {l : List Nat} {m : Nat} (hm : m ≤ l.length) (h : ¬ 5 < m) : numN (l.take m) = dd l m := by
 unfold numN dd
 rw [List.length_take, show min m l.length = m by omega, if_neg h, show min m 6 = m by omega]
set_option maxRecDepth 100000 in
set_option maxHeartbeats 8000000 in
theorem rtokens_any (s : ByteArray) (w : World) (hs : s.size ≤ 16384) : Calls Try.prog 30 #[.string s] w (TkPost (lexN (strB s)) w) := by
 have k0 : ¬ (16384 : Int) < s.size := by omega
 go_enter Try.func30, Try.ntmps30
 go_wp2_with fail
 have h0 : (w.alloc (.cells #[.int .i64 0, .int .i64 0] 28)).heap[w.heap.size]? = some (.cells #[.int .i64 0, .int .i64 0] 28 (0, 0)) := heap_alloc_new w _
 have hb0 := (Below.refl w.heap.size w).alloc (Nat.le_refl _) (.cells #[.int .i64 0, .int .i64 0] 28)
 have R0 : RexRel s w (w.alloc (.cells #[.int .i64 0, .int .i64 0] 28)) (.slice none 0 0) (.int .i64 1) (.int .i64 0) := ⟨0, (strB s).length + 1, 1, [], rfl, rfl, rfl, by omega, by rw [strB_length]; omega, by omega, by simp, To.nil _ _, h0, hb0⟩
 clear h0 hb0
 go_loopw [4, 5, 6] (fun ov lv av wr => RexRel s w wr ov lv av) (fun _ _ av _ => s.size - (intOf av).toNat)
 case atStart => exact R0
 case round =>
  clear R0
  obtain ⟨p, f, ln, out, rfl, rfl, hlex, hps, hf, hln, hout, hto, hcell, hb⟩ := hrel
  have HX := Lib.hid hlex
  have HT := Lib.hid hto
  have HC := Lib.hid hcell
  have HB := Lib.hid hb
  clear hlex hto hcell hb
  by_cases h0 : p < s.size
  · have k1 : (p : Int) < s.size := by omega
    have hcons := drop_cons (l := strB s) (p := p) (by rw [strB_length]; exact h0)
    have hnth := strB_nth h0
    obtain ⟨f, rfl⟩ : ∃ f', f = f' + 1 := ⟨f - 1, by omega⟩
    rw [hcons] at HX
    obtain ⟨c, hc⟩ : ∃ c, c = nth (strB s) p := ⟨_, rfl⟩
    rw [← hc] at HX hnth hcons
    have hcl : c < 256 := by rw [hc]; exact nth_lt (strB_lt s) p
    have q : ∀ (k : Nat) (z : Int), z = k → (((s[p]'h0).toNat : Int) == z) = decide (c = k) := fun k z hz => by
     subst hz
     rw [Bool.eq_iff_iff]
     simp only [beq_iff_eq, decide_eq_true_eq, hnth]
     omega
    have q10 := q 10 10 rfl
    have q32 := q 32 32 rfl
    have q9 := q 9 9 rfl
    have q13 := q 13 13 rfl
    have q35 := q 35 35 rfl
    have e1 : IntKind.i64.wrap ((p : Int) + 1) = p + 1 := by simp [IntKind.wrap, IntKind.signed, IntKind.bits]; omega
    have HN := Lib.hid hnth
    have HK := Lib.hid hcons
    clear hnth hcons q
    by_cases h10 : c = 10
    · rw [decide_eq_true h10] at q10
      have HX2 : Hid (lexF f ((strB s).drop (p + 1)) (ln + 1) out = lexN (strB s)) := by rw [← HX.out]; show _ = lexF _ _ _ _; rw [lexF]; rw [if_pos h10]
      clear q32 q9 q13 q35 h10 hc
      go_wp2_with fail
      go_roundw
      case rel => exact ⟨p + 1, f, ln + 1, out, by go_num, by go_num, HX2.out, by omega, by omega, by omega, by omega, HT.out, HC.out, HB.out⟩
      case measure => simp [intOf]; omega
    · rw [decide_eq_false h10] at q10
      by_cases hbl : c = 32 ∨ c = 9 ∨ c = 13
      · have HX2 : Hid (lexF f ((strB s).drop (p + 1)) ln out = lexN (strB s)) := by rw [← HX.out]; show _ = lexF _ _ _ _; rw [lexF]; rw [if_neg h10, if_pos hbl]
        by_cases h32 : c = 32
        all_goals by_cases h9 : c = 9
        all_goals by_cases h13 : c = 13
        all_goals try (exfalso; omega)
        all_goals
         first | rw [decide_eq_true h32] at q32 | rw [decide_eq_false h32] at q32
         first | rw [decide_eq_true h9] at q9 | rw [decide_eq_false h9] at q9
         first | rw [decide_eq_true h13] at q13 | rw [decide_eq_false h13] at q13
         clear q35 h10 hc h32 h9 h13 hbl
         go_wp2_with fail
         go_roundw
         case rel => exact ⟨p + 1, f, ln, out, by go_num, rfl, HX2.out, by omega, by omega, by omega, by omega, HT.out, HC.out, HB.out⟩
         case measure => simp [intOf]; omega
      · have h32 : ¬ c = 32 := fun h => hbl (.inl h)
        have h9 : ¬ c = 9 := fun h => hbl (.inr (.inl h))
        have h13 : ¬ c = 13 := fun h => hbl (.inr (.inr h))
        rw [decide_eq_false h32] at q32
        rw [decide_eq_false h9] at q9
        rw [decide_eq_false h13] at q13
        by_cases h35 : c = 35
        · rw [decide_eq_true h35] at q35
          have HX2 : Hid (lexF f (((strB s).drop p).drop (wl nlN ((strB s).drop p))) ln out = lexN (strB s)) := by rw [← HX.out]; show _ = lexF _ _ _ _; rw [lexF]; rw [if_neg h10, if_neg hbl, if_pos h35, ← HK.out]
          rw [List.drop_drop] at HX2
          have hpos : 1 ≤ wl nlN ((strB s).drop p) := by
           rw [HK.out]
           simp [wl, List.takeWhile_cons, nlN, h10]
          have hle := wl_le nlN ((strB s).drop p)
          rw [List.length_drop, strB_length] at hle
          have HA : Hid (∀ j, j < wl nlN ((strB s).drop p) → nlN (nth (strB s) (p + j)) = true) := fun j hj => by rw [← nth_drop]; exact wl_lt hj
          have HE : Hid (p + wl nlN ((strB s).drop p) < s.size → nlN (nth (strB s) (p + wl nlN ((strB s).drop p))) = false) := fun h => by rw [← nth_drop]; exact wl_stop (by rw [List.length_drop, strB_length]; omega)
          generalize wl nlN ((strB s).drop p) = m at *
          obtain ⟨z, hz⟩ : ∃ z, p + m = z := ⟨_, rfl⟩
          have HM2 := Lib.hid hz
          rw [hz] at HE HX2
          clear h10 hbl h32 h9 h13 h35 hc
          clear hz
          go_wp2_with fail
          go_loop [6] (fun i => ∃ j : Nat, i = .int .i64 (p + j : Nat) ∧ j ≤ m) (fun i => p + m - (intOf i).toNat)
          case atStart => exact ⟨0, rfl, by omega⟩
          case round =>
           obtain ⟨j, rfl, hj⟩ := hrel
           by_cases hjm : j < m
           · have hq : p + j < s.size := by omega
             have hk : nlN (nth (strB s) (p + j)) = true := HA.out j hjm
             have hn := strB_nth hq
             rw [hn] at hk
             generalize hpj : p + j = q at *
             have HP := Lib.hid hpj
             have HN := Lib.hid hn
             clear hpj hn
             have k1 : (q : Int) < s.size := by omega
             have e1 : IntKind.i64.wrap ((q : Int) + 1) = q + 1 := by simp [IntKind.wrap, IntKind.signed, IntKind.bits]; omega
             (have k2 : (((s[q]'hq).toNat : Int) != 10) = true := by (simp only [nlN, Bool.not_eq_true', beq_eq_false_iff_ne] at hk; rw [bne_iff_ne]; omega)); (go_wp2_with fail)
             go_round
             case rel => exact ⟨j + 1, by have := HP.out; rw [show p + (j + 1) = q + 1 by omega]; go_num, by omega⟩
             case measure => have := HP.out; simp [intOf]; omega
           · obtain rfl : j = m := by omega
             rw [HM2.out]
             by_cases hzz : z < s.size
             all_goals
              first
               | (have k2 : (((s[z]'hzz).toNat : Int) != 10) = false := by
                    have := HE.out hzz
                    rw [strB_nth hzz] at this
                    simp only [nlN, Bool.not_eq_false', beq_iff_eq] at this
                    rw [this]
                    rfl
                  have k3 : (z : Int) < s.size := by omega
                  clear hj)
               | (have k3 : ¬ (z : Int) < s.size := by omega)
              go_wp2_with fail
              go_roundw
              case rel => have := HM2.out; exact ⟨z, f, ln, out, rfl, rfl, HX2.out, by omega, by omega, by omega, by omega, HT.out, HC.out, HB.out⟩
              case measure => have := HM2.out; simp [intOf]; omega
        · rw [decide_eq_false h35] at q35
          have HX2 : Hid ((match oneN ((strB s).drop p) with | none => Sum.inr ln | some (tk, n) => lexF f (((strB s).drop p).drop n) ln (out ++ [{ tk with ln := ln }])) = lexN (strB s)) := by rw [← HX.out]; show _ = lexF _ _ _ _; rw [lexF]; rw [if_neg h10, if_neg hbl, if_neg h35, ← HK.out]; cases oneN ((strB s).drop p) <;> rfl
          clear h10 hbl h32 h9 h13 h35 hc
          by_cases hL : 0 < wl letN ((strB s).drop p)
          · have hr : oneN ((strB s).drop p) = some (⟨1, ((strB s).drop p).take (wl letN ((strB s).drop p)), 0, 0⟩, wl letN ((strB s).drop p)) := by unfold oneN; rw [if_pos hL]
            rw [hr] at HX2
            simp only at HX2
            rw [List.drop_drop] at HX2
            have hle := wl_le letN ((strB s).drop p)
            rw [List.length_drop, strB_length] at hle
            have HA : Hid (∀ j, j < wl letN ((strB s).drop p) → letN (nth (strB s) (p + j)) = true) := fun j hj => by rw [← nth_drop]; exact wl_lt hj
            have HE : Hid (p + wl letN ((strB s).drop p) < s.size → letN (nth (strB s) (p + wl letN ((strB s).drop p))) = false) := fun h => by rw [← nth_drop]; exact wl_stop (by rw [List.length_drop, strB_length]; omega)
            have hs1 := extract_mkS2 s p (p + wl letN ((strB s).drop p))
            rw [show p + wl letN ((strB s).drop p) - p = wl letN ((strB s).drop p) by omega] at hs1
            clear hr
            generalize wl letN ((strB s).drop p) = m at *
            have hl0 : letN (s[p]'h0).toNat = true := by
             have := HA.out 0 hL
             rwa [Nat.add_zero, strB_nth h0] at this
            obtain ⟨z, hz⟩ : ∃ z, p + m = z := ⟨_, rfl⟩
            have HM2 := Lib.hid hz
            rw [hz] at HE HX2 hs1
            have HS1 := Lib.hid hs1
            clear hz hs1
            go_wp2_with fail
            refine (rletter_any _ _).mono ?_
            rintro e w' ⟨rfl, rfl⟩
            rw [hl0]
            go_wp2_with fail
            go_loop [6] (fun i => ∃ j : Nat, i = .int .i64 (p + j : Nat) ∧ j ≤ m) (fun i => p + m - (intOf i).toNat)
            case atStart => exact ⟨0, rfl, by omega⟩
            case round =>
             obtain ⟨j, rfl, hj⟩ := hrel
             by_cases hjm : j < m
             · have hq : p + j < s.size := by omega
               have hk : letN (nth (strB s) (p + j)) = true := HA.out j hjm
               have hn := strB_nth hq
               rw [hn] at hk
               generalize hpj : p + j = q at *
               have HP := Lib.hid hpj
               have HN := Lib.hid hn
               clear hpj hn
               have k1 : (q : Int) < s.size := by omega
               have e1 : IntKind.i64.wrap ((q : Int) + 1) = q + 1 := by simp [IntKind.wrap, IntKind.signed, IntKind.bits]; omega
               (go_wp2_with fail; refine (rletter_any _ _).mono ?_; rintro e w' ⟨rfl, rfl⟩; rw [hk]; go_wp2_with fail)
               go_round
               case rel => exact ⟨j + 1, by have := HP.out; rw [show p + (j + 1) = q + 1 by omega]; go_num, by omega⟩
               case measure => have := HP.out; simp [intOf]; omega
             · obtain rfl : j = m := by omega
               rw [HM2.out]
               by_cases hzz : z < s.size
               all_goals
                first
                 | (have k2 : letN (s[z]'hzz).toNat = false := by
                      have := HE.out hzz
                      rwa [strB_nth hzz] at this
                    have k3 : (z : Int) < s.size := by omega
                    clear hj
                    go_wp2_with fail
                    refine (rletter_any _ _).mono ?_
                    rintro e w' ⟨rfl, rfl⟩
                    rw [k2])
                 | (have k3 : ¬ (z : Int) < s.size := by omega)
                have k4 : (z : Int) ≤ s.size := by have := HM2.out; omega
                have k5 : (p : Int) ≤ z := by have := HM2.out; omega
                have k6 : p ≤ z := by omega
                go_wp2_with (at_builtin; refine append_tok (.tmp 109) (.tmp 116) rfl rfl _ ⟨1, ((strB s).drop p).take j, 0, ln⟩ _ (by show _ = [Value.int .u8 1, .string (mkS _), .int .i64 0, .int .i64 ln]; rw [← HS1.out]) rfl _ rfl rfl HT.out (by omega) (by have := lt_of_block HC.out; omega) ?_; intro v2 w2 ho2 hg2)
                have HT2 := Lib.hid ho2
                have HB2 : Hid (Below w.heap.size w w2) := HB.out.grown hg2 HB.out.size (fun j hj => by have := (HT.out.lt j hj).1; omega)
                have HC2 : Hid (w2.heap[w.heap.size]? = some (.cells #[.int .i64 0, .int .i64 0] 28 (0, 0))) := (hg2.block _ (lt_of_block HC.out) (fun e => by have := (HT.out.lt _ e.symm).1; omega)).trans HC.out
                clear ho2 hg2
                go_wp2_with fail
                have R : RexRel s w w2 v2 (.int .i64 ln) (.int .i64 (z : Nat)) := by
                 have := HM2.out
                 exact ⟨z, f, ln, out ++ [⟨1, ((strB s).drop p).take j, 0, ln⟩], rfl, rfl, HX2.out, by omega, by omega, by omega, by simp; omega, HT2.out, HC2.out, HB2.out⟩
                go_roundw
                case rel => first | exact R | (rw [Int.natCast_add] at R; exact R) | ((repeat apply Exists.intro); exact ⟨R, rfl⟩)
                case measure => have := HM2.out; simp [intOf]; omega
          · have hl0 : letN (s[p]'h0).toNat = false := by
             have hz : wl letN ((strB s).drop p) = 0 := by omega
             have := wl_stop (p := letN) (l := (strB s).drop p) (by rw [hz, List.length_drop, strB_length]; omega)
             rwa [hz, nth_drop, Nat.add_zero, strB_nth h0] at this
            by_cases hD : 0 < wl digN ((strB s).drop p)
            · have hr : oneN ((strB s).drop p) = if 65536 ≤ numN (((strB s).drop p).take (wl digN ((strB s).drop p))) then none else some (⟨2, [], numN (((strB s).drop p).take (wl digN ((strB s).drop p))), 0⟩, wl digN ((strB s).drop p)) := by unfold oneN; rw [if_neg hL, if_pos hD]
              rw [hr] at HX2
              clear hr
              have hle := wl_le digN ((strB s).drop p)
              rw [List.length_drop, strB_length] at hle
              have HA : Hid (∀ j, j < wl digN ((strB s).drop p) → digN (nth (strB s) (p + j)) = true) := fun j hj => by rw [← nth_drop]; exact wl_lt hj
              have HE : Hid (p + wl digN ((strB s).drop p) < s.size → digN (nth (strB s) (p + wl digN ((strB s).drop p))) = false) := fun h => by rw [← nth_drop]; exact wl_stop (by rw [List.length_drop, strB_length]; omega)
              generalize wl digN ((strB s).drop p) = m at *
              have hl1 : digN (s[p]'h0).toNat = true := by
               have := HA.out 0 hD
               rwa [Nat.add_zero, strB_nth h0] at this
              obtain ⟨z, hz⟩ : ∃ z, p + m = z := ⟨_, rfl⟩
              have HM2 := Lib.hid hz
              rw [hz] at HE
              clear hz
              go_wp2_with fail
              refine (rletter_any _ _).mono ?_
              rintro e w' ⟨rfl, rfl⟩
              rw [hl0]
              go_wp2_with fail
              refine (rdigit_any _ _).mono ?_
              rintro e w' ⟨rfl, rfl⟩
              rw [hl1]
              go_wp2_with fail
              obtain ⟨dl, hdl⟩ : ∃ dl, dl = (strB s).drop p := ⟨_, rfl⟩
              have hdll : dl.length = s.size - p := by rw [hdl, List.length_drop, strB_length]
              rw [← hdl] at HX2 HK
              have HDL := Lib.hid hdl
              have HDLL := Lib.hid hdll
              clear hdl hdll
              go_loop [6, 9] (fun i n => ∃ j : Nat, i = .int .i64 (p + j : Nat) ∧ j ≤ m ∧ n = .int .i64 (dd dl j : Nat) ∧ dd dl j < 10 ^ (min j 6)) (fun i _ => p + m - (intOf i).toNat)
              case atStart => exact ⟨0, rfl, by omega, rfl, by simp [dd_zero]⟩
              case round =>
               obtain ⟨j, rfl, hj, rfl, hdlt⟩ := hrel
               by_cases hjm : j < m
               · have hq : p + j < s.size := by omega
                 have hk : digN (nth (strB s) (p + j)) = true := HA.out j hjm
                 have hn := strB_nth hq
                 have hdn : nth dl j = nth (strB s) (p + j) := by rw [HDL.out, nth_drop]
                 rw [hn] at hk hdn
                 have hst := dd_step (l := dl) (j := j)
                 rw [hdn] at hst
                 generalize hpj : p + j = q at *
                 have HP := Lib.hid hpj
                 have HN := Lib.hid hn
                 have k1 : (q : Int) < s.size := by omega
                 have e1 : IntKind.i64.wrap ((q : Int) + 1) = q + 1 := by simp [IntKind.wrap, IntKind.signed, IntKind.bits]; omega
                 have e2 : IntKind.i64.wrap ((q : Int) - p) = j := by simp [IntKind.wrap, IntKind.signed, IntKind.bits]; omega
                 have hc1 : 48 ≤ (s[q]'hq).toNat ∧ (s[q]'hq).toNat ≤ 57 := by simpa [digN] using hk
                 have e3 : IntKind.u8.wrap (((s[q]'hq).toNat : Int) - 48) = (s[q]'hq).toNat - 48 := by simp [IntKind.wrap, IntKind.signed, IntKind.bits]; omega
                 have e4 : IntKind.i64.wrap (((s[q]'hq).toNat : Int) - 48) = (s[q]'hq).toNat - 48 := by simp [IntKind.wrap, IntKind.signed, IntKind.bits]; omega
                 have hp6 : 10 ^ (min j 6) ≤ 10 ^ 6 := Nat.pow_le_pow_right (by omega) (by omega)
                 have hd6 : dd dl j < 1000000 := by omega
                 have e5 : IntKind.i64.wrap ((dd dl j : Int) * 10) = dd dl j * 10 := by simp [IntKind.wrap, IntKind.signed, IntKind.bits]; omega
                 have e6 : IntKind.i64.wrap ((dd dl j : Int) * 10 + ((s[q]'hq).toNat - 48)) = dd dl j * 10 + ((s[q]'hq).toNat - 48) := by simp [IntKind.wrap, IntKind.signed, IntKind.bits]; omega
                 have HST : Hid (j < 6 → dd dl (j + 1) = dd dl j * 10 + ((s[q]'hq).toNat - 48)) := fun h => hst h (by have := HDLL.out; omega)
                 have HLT := Lib.hid hdlt
                 clear hpj hn hst hdn hdlt hp6
                 by_cases h6 : j < 6
                 · have k6 : (j : Int) < 6 := by omega
                   have HS := Lib.hid (HST.out h6)
                   have hl2 : dd dl (j + 1) < 10 ^ (min (j + 1) 6) := by
                    have := HLT.out
                    rw [HS.out, show min (j + 1) 6 = j + 1 by omega, Nat.pow_succ]
                    rw [show min j 6 = j by omega] at this
                    omega
                   have HL2 := Lib.hid hl2
                   clear hl2
                   go_wp2_with fail
                   refine (rdigit_any _ _).mono ?_
                   rintro e w' ⟨rfl, rfl⟩
                   rw [hk]
                   go_wp2_with fail
                   go_round
                   case rel => exact ⟨j + 1, by have := HP.out; rw [show p + (j + 1) = q + 1 by omega]; go_num, by omega, by rw [HS.out]; congr 1; omega, HL2.out⟩
                   case measure => have := HP.out; simp [intOf]; omega
                 · have k6 : ¬ (j : Int) < 6 := by omega
                   have HS := Lib.hid (dd_stay (l := dl) (j := j) (by omega))
                   go_wp2_with fail
                   refine (rdigit_any _ _).mono ?_
                   rintro e w' ⟨rfl, rfl⟩
                   rw [hk]
                   go_wp2_with fail
                   go_round
                   case rel => exact ⟨j + 1, by have := HP.out; rw [show p + (j + 1) = q + 1 by omega]; go_num, by omega, by rw [HS.out], by rw [HS.out, show min (j + 1) 6 = 6 by omega]; have := HLT.out; rwa [show min j 6 = 6 by omega] at this⟩
                   case measure => have := HP.out; simp [intOf]; omega
               · obtain rfl : j = m := by omega
                 rw [HM2.out]
                 have hnum := dd_num (l := dl) (m := j) (by have := HDLL.out; omega)
                 have hval := dd_val (l := dl) (m := j) (by have := HDLL.out; omega)
                 have e7 : IntKind.i64.wrap ((z : Int) - p) = j := by have := HM2.out; simp [IntKind.wrap, IntKind.signed, IntKind.bits]; omega
                 have hbad : (5 < j ∨ 65535 < dd dl j) → lexN (strB s) = Sum.inr ln := fun h => by
                  have := HX2.out
                  rw [if_pos (hnum.2 h)] at this
                  exact this.symm
                 have hgood : ¬ (5 < j ∨ 65535 < dd dl j) → lexF f ((strB s).drop z) ln (out ++ [⟨2, [], dd dl j, ln⟩]) = lexN (strB s) := fun h => by
                  have := HX2.out
                  rw [if_neg (fun h' => h (hnum.1 h')), hval (fun h' => h (.inl h'))] at this
                  simp only at this
                  rw [HDL.out, List.drop_drop, HM2.out, ← HDL.out] at this
                  exact this
                 have HBad := Lib.hid hbad
                 have HGood := Lib.hid hgood
                 clear hbad hgood hnum hval hdlt HX2
                 by_cases hzz : z < s.size
                 all_goals
                  by_cases hA : 5 < j
                  all_goals by_cases hB : 65535 < dd dl j
                  all_goals
                   first
                    | (have k2 : digN (s[z]'hzz).toNat = false := by
                         have := HE.out hzz
                         rwa [strB_nth hzz] at this
                       have k3 : (z : Int) < s.size := by omega
                       have k7 : decide ((5 : Int) < (j : Int)) = decide (5 < j) := by congr 1; simp; omega
                       have k8 : decide ((65535 : Int) < (dd dl j : Int)) = decide (65535 < dd dl j) := by congr 1; simp; omega
                       first | rw [decide_eq_true hA] at k7 | rw [decide_eq_false hA] at k7
                       first | rw [decide_eq_true hB] at k8 | rw [decide_eq_false hB] at k8
                       clear hj
                       go_wp2_with fail
                       refine (rdigit_any _ _).mono ?_
                       rintro e w' ⟨rfl, rfl⟩
                       rw [k2])
                    | (have k3 : ¬ (z : Int) < s.size := by omega
                       have k7 : decide ((5 : Int) < (j : Int)) = decide (5 < j) := by congr 1; simp; omega
                       have k8 : decide ((65535 : Int) < (dd dl j : Int)) = decide (65535 < dd dl j) := by congr 1; simp; omega
                       first | rw [decide_eq_true hA] at k7 | rw [decide_eq_false hA] at k7
                       first | rw [decide_eq_true hB] at k8 | rw [decide_eq_false hB] at k8)
                   first
                    | (have HX3 : Hid (lexN (strB s) = Sum.inr ln) := HBad.out (by omega)
                       clear hA hB
                       have d0 : wr.cell? ⟨w.heap.size, 0, none⟩ = some (.int .i64 0) := by rw [cell_of_row wr w.heap.size 0 _ _ _ HC.out]; rfl
                       have d1 : wr.cell? ⟨w.heap.size, 1, none⟩ = some (.int .i64 0) := by rw [cell_of_row wr w.heap.size 1 _ _ _ HC.out]; rfl
                       have f0 := frozen_of_row wr w.heap.size 0 _ _ HC.out
                       have f1 := frozen_of_row wr w.heap.size 1 _ _ HC.out
                       have hz1 := lt_of_block HC.out
                       go_wp2_with fail
                       refine bodyPost_ret (v := .tuple #[.slice none 0 0, .agg #[.int .i64 120, .int .i64 ln]]) (by simp [results, Try.results30, go_sem, d0, d1, hz1]) rfl ⟨by rw [HX3.out], ?_⟩
                       exact ((HB.out.setCell (p := ⟨w.heap.size, 0, none⟩) (Nat.le_refl _) _).setCell (p := ⟨w.heap.size, 1, none⟩) (Nat.le_refl _) _))
                    | (have HX2 : Hid (lexF f ((strB s).drop z) ln (out ++ [⟨2, [], dd dl j, ln⟩]) = lexN (strB s)) := HGood.out (by omega)
                       clear hA hB
                       go_wp2_with (at_builtin; refine append_tok (.tmp 156) (.tmp 160) rfl rfl _ ⟨2, [], dd dl j, ln⟩ _ rfl rfl _ rfl rfl HT.out (by omega) (by have := lt_of_block HC.out; omega) ?_; intro v2 w2 ho2 hg2)
                       have HT2 := Lib.hid ho2
                       have HB2 : Hid (Below w.heap.size w w2) := HB.out.grown hg2 HB.out.size (fun j hj => by have := (HT.out.lt j hj).1; omega)
                       have HC2 : Hid (w2.heap[w.heap.size]? = some (.cells #[.int .i64 0, .int .i64 0] 28 (0, 0))) := (hg2.block _ (lt_of_block HC.out) (fun e => by have := (HT.out.lt _ e.symm).1; omega)).trans HC.out
                       clear ho2 hg2
                       go_wp2_with fail
                       have R : RexRel s w w2 v2 (.int .i64 ln) (.int .i64 (z : Nat)) := by
                        have := HM2.out
                        exact ⟨z, f, ln, out ++ [⟨2, [], dd dl j, ln⟩], rfl, rfl, HX2.out, by omega, by omega, by omega, by simp; omega, HT2.out, HC2.out, HB2.out⟩
                       go_roundw
                       case rel => first | exact R | (rw [Int.natCast_add] at R; exact R) | ((repeat apply Exists.intro); exact ⟨R, rfl⟩)
                       case measure => have := HM2.out; simp [intOf]; omega)
            · have hl1 : digN (s[p]'h0).toNat = false := by
               have hz : wl digN ((strB s).drop p) = 0 := by omega
               have := wl_stop (p := digN) (l := (strB s).drop p) (by rw [hz, List.length_drop, strB_length]; omega)
               rwa [hz, nth_drop, Nat.add_zero, strB_nth h0] at this
              have hr : oneN ((strB s).drop p) = match sgnN ((strB s).drop p) with | some x => some (⟨3, x, 0, 0⟩, x.length) | none => none := by unfold oneN; rw [if_neg hL, if_neg hD]; cases sgnN ((strB s).drop p) <;> rfl
              rw [hr] at HX2
              obtain ⟨dl, hdl⟩ : ∃ dl, dl = (strB s).drop p := ⟨_, rfl⟩
              have hdll : dl.length = s.size - p := by rw [hdl, List.length_drop, strB_length]
              rw [← hdl] at HX2 HK
              have HDL := Lib.hid hdl
              have HDLL := Lib.hid hdll
              clear hdl hdll hr hL hD
              go_wp2_with fail
              refine (rletter_any _ _).mono ?_
              rintro e w' ⟨rfl, rfl⟩
              rw [hl0]
              go_wp2_with fail
              refine (rdigit_any _ _).mono ?_
              rintro e w' ⟨rfl, rfl⟩
              rw [hl1]
              go_wp2_with fail
              refine (rsigns_any _).mono ?_
              rintro e w1 ⟨rfl, hsc, hsz, hb1⟩
              replace HT := Lib.hid (HT.out.below hb1)
              replace HC : Hid (w1.heap[w.heap.size]? = some (.cells #[.int .i64 0, .int .i64 0] 28 (0, 0))) := (hb1.block _ (lt_of_block HC.out)).trans HC.out
              replace HB := Lib.hid (HB.out.trans (hb1.mono HB.out.size))
              have HSC := Lib.hid hsc
              clear hb1 hsc
              generalize wr.heap.size = gs at *
              go_wp2_with fail
              go_loop [11, 13] (fun sv i => ∃ r : Nat, r ≤ 21 ∧ i = .int .i64 ((r : Int) - 1) ∧ sv = .string (mkS (bst dl r))) (fun _ i => (intOf i + 1).toNat)
              case atStart => exact ⟨21, by omega, rfl, rfl⟩
              case round =>
               obtain ⟨r, hr21, rfl, rfl⟩ := hrel
               by_cases hr0 : 1 ≤ r
               · obtain ⟨q, rfl⟩ : ∃ q, r = q + 1 := ⟨r - 1, by omega⟩
                 have hqi : ((q + 1 : Nat) : Int) - 1 = q := by omega
                 rw [hqi]
                 have hcell := HSC.out q (by omega)
                 have hmem : signsN.getD q [] ∈ signsN := by rw [List.getD_eq_getElem?_getD, List.getElem?_eq_getElem (by rw [signs_eq]; omega)]; exact List.getElem_mem _
                 have hlen := (signs_len _ hmem).2
                 have hs2 : strB (mkS (signsN.getD q [])) = signsN.getD q [] := strB_mkS (signs_lt _ hmem)
                 have hstep := bst_step (l := dl) (r := q) (by omega)
                 have hszz := size_mkS (signsN.getD q [])
                 generalize signsN.getD q [] = x at *
                 have HS2 := Lib.hid hs2
                 have HST := Lib.hid hstep
                 have HZZ := Lib.hid hszz
                 have k1 : (q : Int) < 21 := by omega
                 have e2 : IntKind.i64.wrap ((q : Int) - 1) = q - 1 := by simp [IntKind.wrap, IntKind.signed, IntKind.bits]; omega
                 clear hs2 hstep hszz hmem hqi
                 go_wp2_with fail
                 refine (stands_any s (mkS x) p _ hps (by omega) (by rw [HZZ.out]; exact hlen)).mono ?_
                 rintro e w' ⟨rfl, rfl⟩
                 rw [HS2.out, ← HDL.out]
                 by_cases hpre : List.isPrefixOf x dl = true
                 · have HST2 : Hid (bst dl q = x) := by show _ = _; rw [HST.out, if_pos hpre]
                   rw [hpre]
                   clear hpre
                   go_wp2_with fail
                   go_round
                   case rel => exact ⟨q, by omega, by go_num, by rw [HST2.out]⟩
                   case measure => simp [intOf]
                 · rw [Bool.not_eq_true] at hpre
                   have HST2 : Hid (bst dl (q + 1) = bst dl q) := by show _ = _; rw [HST.out, if_neg (by rw [hpre]; simp)]
                   rw [hpre]
                   clear hpre
                   go_wp2_with fail
                   go_round
                   case rel => exact ⟨q, by omega, by go_num, by rw [HST2.out]⟩
                   case measure => simp [intOf]
               · obtain rfl : r = 0 := by omega
                 by_cases hx : bst dl 0 = []
                 · have hxe : (mkS (bst dl 0)).toList.isEmpty = true := by rw [hx, Lib.toList_data]; rfl
                   have HX3 : Hid (lexN (strB s) = Sum.inr ln) := by
                    have := HX2.out
                    rw [sgn_none hx] at this
                    exact this.symm
                   clear hx
                   rw [show ((0 : Nat) : Int) - 1 = -1 from rfl]
                   have d0 : w1.cell? ⟨w.heap.size, 0, none⟩ = some (.int .i64 0) := by rw [cell_of_row w1 w.heap.size 0 _ _ _ HC.out]; rfl
                   have d1 : w1.cell? ⟨w.heap.size, 1, none⟩ = some (.int .i64 0) := by rw [cell_of_row w1 w.heap.size 1 _ _ _ HC.out]; rfl
                   have f0 := frozen_of_row w1 w.heap.size 0 _ _ HC.out
                   have f1 := frozen_of_row w1 w.heap.size 1 _ _ HC.out
                   have hz1 := lt_of_block HC.out
                   go_wp2_with fail
                   refine bodyPost_ret (v := .tuple #[.slice none 0 0, .agg #[.int .i64 120, .int .i64 ln]]) (by simp [results, Try.results30, go_sem, d0, d1, hz1]) rfl ⟨by rw [HX3.out], ?_⟩
                   exact ((HB.out.setCell (p := ⟨w.heap.size, 0, none⟩) (Nat.le_refl _) _).setCell (p := ⟨w.heap.size, 1, none⟩) (Nat.le_refl _) _)
                 · have hmem := (bst_mem dl 0).resolve_left hx
                   have hlen := signs_len _ hmem
                   have hxe : (mkS (bst dl 0)).toList.isEmpty = false := by
                    rw [Lib.toList_data]
                    cases hb0 : bst dl 0 with
                    | nil => exact absurd hb0 hx
                    | cons a l => rfl
                   have hpl : (bst dl 0).length ≤ dl.length := (List.isPrefixOf_iff_prefix.1 (sgn_mem (sgn_some hx)).2).length_le
                   rw [HDLL.out] at hpl
                   have hszz := size_mkS (bst dl 0)
                   have hgood : lexF f ((strB s).drop (p + (mkS (bst dl 0)).size)) ln (out ++ [⟨3, bst dl 0, 0, ln⟩]) = lexN (strB s) := by
                    have := HX2.out
                    rw [sgn_some hx] at this
                    simp only at this
                    rw [HDL.out, List.drop_drop, ← HDL.out, ← hszz] at this
                    exact this
                   replace HX2 := Lib.hid hgood
                   rw [← hszz] at hlen hpl
                   clear hgood hszz hx hmem
                   have e3 : IntKind.i64.wrap ((p : Int) + (mkS (bst dl 0)).size) = p + (mkS (bst dl 0)).size := by simp [IntKind.wrap, IntKind.signed, IntKind.bits]; omega
                   generalize hxx : bst dl 0 = x at *
                   have HXX := Lib.hid hxx
                   clear hxx
                   rw [show ((0 : Nat) : Int) - 1 = -1 from rfl]
                   go_wp2_with (at_builtin; refine append_tok (.tmp 48) (.tmp 52) rfl rfl _ ⟨3, x, 0, ln⟩ _ rfl rfl _ rfl rfl HT.out (by omega) (by have := lt_of_block HC.out; omega) ?_; intro v2 w2 ho2 hg2)
                   have HT2 := Lib.hid ho2
                   have HB2 : Hid (Below w.heap.size w w2) := HB.out.grown hg2 HB.out.size (fun j hj => by have := (HT.out.lt j hj).1; omega)
                   have HC2 : Hid (w2.heap[w.heap.size]? = some (.cells #[.int .i64 0, .int .i64 0] 28 (0, 0))) := (hg2.block _ (lt_of_block HC.out) (fun e => by have := (HT.out.lt _ e.symm).1; omega)).trans HC.out
                   clear ho2 hg2
                   go_wp2_with fail
                   have R : RexRel s w w2 v2 (.int .i64 ln) (.int .i64 (p + (mkS x).size : Nat)) := by
                    skip
                    exact ⟨p + (mkS x).size, f, ln, out ++ [⟨3, x, 0, ln⟩], rfl, rfl, HX2.out, by omega, by omega, by omega, by simp; omega, HT2.out, HC2.out, HB2.out⟩
                   go_roundw
                   case rel => first | exact R | (rw [Int.natCast_add] at R; exact R) | ((repeat apply Exists.intro); exact ⟨R, rfl⟩)
                   case measure => skip; simp [intOf]; omega
  · obtain rfl : p = s.size := by omega
    have HX3 : Hid (lexN (strB s) = .inl (out ++ [⟨4, [], 0, ln⟩])) := by
     show lexN (strB s) = _
     rw [← HX.out, List.drop_of_length_le (by rw [strB_length]; omega)]
     cases f with
     | zero => rfl
     | succ f => rfl
    have k1 : ¬ (s.size : Int) < s.size := by omega
    go_wp2_with (at_builtin; refine append_tok (.tmp 162) (.tmp 165) rfl rfl _ ⟨4, [], 0, ln⟩ _ rfl rfl _ rfl rfl HT.out (by omega) (by have := lt_of_block HC.out; omega) ?_; intro v2 w2 ho2 hg2
                 have HT2 := Lib.hid ho2
                 have HB2 : Hid (Below w.heap.size w w2) := HB.out.grown hg2 HB.out.size (fun j hj => by have := (HT.out.lt j hj).1; omega)
                 have hC2 : w2.heap[w.heap.size]? = some (.cells #[.int .i64 0, .int .i64 0] 28 (0, 0)) := (hg2.block _ (lt_of_block HC.out) (fun e => by have := (HT.out.lt _ e.symm).1; omega)).trans HC.out
                 have hz2 : w.heap.size < w2.heap.size := lt_of_block hC2
                 have d0 : w2.cell? ⟨w.heap.size, 0, none⟩ = some (.int .i64 0) := by rw [cell_of_row w2 w.heap.size 0 _ _ _ hC2]; rfl
                 have d1 : w2.cell? ⟨w.heap.size, 1, none⟩ = some (.int .i64 0) := by rw [cell_of_row w2 w.heap.size 1 _ _ _ hC2]; rfl
                 have f0 := frozen_of_row w2 w.heap.size 0 _ _ hC2
                 have f1 := frozen_of_row w2 w.heap.size 1 _ _ hC2
                 clear ho2 hg2 hC2)
    refine bodyPost_ret (v := .tuple #[v2, .agg #[.int .i64 0, .int .i64 0]]) (by simp [results, Try.results30, go_sem, d0, d1, hz2]) rfl ?_
    have hb := ((HB2.out.setCell (p := ⟨w.heap.size, 0, none⟩) (Nat.le_refl _) (.int .i64 0)).setCell (p := ⟨w.heap.size, 1, none⟩) (Nat.le_refl _) (.int .i64 0))
    refine ⟨?_, hb⟩
    rw [HX3.out]
    refine ⟨v2, rfl, ((HT2.out.set (a := ⟨w.heap.size, 0, none⟩) (fun k hk => ?_) _).set (a := ⟨w.heap.size, 1, none⟩) (fun k hk => ?_) _).mono (by omega)⟩
    all_goals
     have := (HT2.out.lt k hk).1
     show w.heap.size ≠ k
     omega
end Go.Proofs.Ytiadfmhodlbkiaa
