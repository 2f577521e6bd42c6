/-
  THE WALKS OF quillpresslaw18's said, same, LexSpaces. Conditions: the table of strconv's powers of ten lies as its initialiser lays it.
-/
import Derived.Test.YtkmjbfednmidbaaDoorLexL
import Derived.Test.YtkmjbfednmidbaaDoorLexSpL
import Derived.Test.YtkmjbfednmidbaaDoorShelf
import Derived.Lib.AppendIntMem
import Derived.WalkSmall
namespace Go.Proofs.YtkmjbfednmidbaaDoor
open Go.RowKit
set_option linter.unusedSimpArgs false
set_option linter.unusedVariables false

def gPow : Nat := 0
theorem pow10_g : Tryd.prog.globalNamed "internal/strconv.uint64pow10" = some gPow := by kernel_rfl
theorem tab_below {w w' : World} {B : Nat} (h : Lib.TabIs Tryd.prog w "internal/strconv.uint64pow10" .u64 Lib.pow10Tab) (hb : Below B w w') (hB : gPow < B) : Lib.TabIs Tryd.prog w' "internal/strconv.uint64pow10" .u64 Lib.pow10Tab := var?_below hb pow10_g hB h
theorem mkS_size (l : List Nat) : (mkS l).size = l.length := by simp [mkS, ByteArray.size]
theorem mkS_app (l m : List Nat) : mkS l ++ mkS m = mkS (l ++ m) := by
  unfold mkS
  rw [ByteArray.mk_append_mk, List.map_append]
theorem itoa_mkS (n : Nat) : (⟨(Lib.itoa (n : Int)).toArray⟩ : ByteArray) = mkS (digS n) := by
  unfold mkS digS
  rw [Lib.itoa_nonneg, List.map_map]
  congr 2
  symm
  rw [List.map_congr_left (g := id) (fun x _ => by simp), List.map_id]
theorem itoa_nat (n : Nat) (h : n ≤ 9223372036854775807) (w : World) (htab : Lib.TabIs Tryd.prog w "internal/strconv.uint64pow10" .u64 Lib.pow10Tab) :
    Calls Tryd.prog 11 #[.int .i64 n] w fun e w' => e = .returned (.string (mkS (digS n))) ∧ Below w.heap.size w w' :=
  (Tryd.strconv_Itoa n (by omega) (by omega) w htab).mono fun e w' ⟨h1, k, os, h2⟩ => by
    rw [itoa_mkS] at h1
    subst h2
    exact ⟨h1, Lib.below_grow _ w (Nat.le_refl _) k os⟩
theorem said_snoc {l : List Tok} {k : Nat} (h : k < l.length) (b : List Nat) : saidN (l.take (k + 1)) b = saidN (l.take k) b ++ (if l[k].k = 4 then [] else tokS l[k] ++ b) := by
  rw [List.take_add_one, List.getElem?_eq_getElem h]
  unfold saidN
  rw [List.flatMap_append]
  simp
theorem tokS_len {t : Tok} (h : Good t) (hs : t.s.length ≤ 4000) : (tokS t).length ≤ 4000 := by
  unfold tokS
  split
  · rename_i h2
    rcases h.of with h | h | h
    · omega
    · have := digS_len 4 t.n (by omega); omega
    · omega
  · exact hs
theorem said_len {b : List Nat} : ∀ {l : List Tok}, (∀ t ∈ l, t.k = 4 ∨ (Good t ∧ t.s.length ≤ 4000)) → (saidN l b).length ≤ l.length * (4000 + b.length) := by
  intro l
  induction l with
  | nil => intro _; simp [saidN]
  | cons t l ih =>
    intro h
    have h1 := ih (fun x hx => h x (by simp [hx]))
    have e : saidN (t :: l) b = (if t.k = 4 then [] else tokS t ++ b) ++ saidN l b := rfl
    rw [e, List.length_append, List.length_cons, Nat.add_mul, Nat.one_mul]
    have h2 : (if t.k = 4 then [] else tokS t ++ b).length ≤ 4000 + b.length := by
      split
      · simp
      · rw [List.length_append]
        rcases h t (by simp) with h3 | h3
        · contradiction
        · have := tokS_len h3.1 h3.2; omega
    omega
/-- What of tokens is needed: a mark at the end, or right, and short. -/
def Fine (l : List Tok) : Prop := ∀ t ∈ l, t.k = 4 ∨ (Good t ∧ t.s.length ≤ 4000)
set_option maxRecDepth 100000 in
set_option maxHeartbeats 4000000 in
theorem said_any (v : Value) (l : List Tok) (b : List Nat) (w : World) (h : Tr w v l) (hf : Fine l) (hl : l.length ≤ 5000) (hb : b.length ≤ 10) (hw : gPow < w.heap.size) (htab : Lib.TabIs Tryd.prog w "internal/strconv.uint64pow10" .u64 Lib.pow10Tab) :
    Calls Tryd.prog 6 #[v, .string (mkS b)] w fun e w' => e = .returned (.string (mkS (saidN l b))) ∧ Below w.heap.size w w' := by
  obtain ⟨A, c, rfl, h1⟩ := h
  have H1 := Lib.hid h1
  have HF := Lib.hid hf
  have HT := Lib.hid htab
  have HBL : Hid (b.length ≤ 10) := hb
  clear h1 hf htab hb
  go_enter Tryd.func6, Tryd.ntmps6
  go_wp2
  go_loopw [5, 10] (fun s i wr => ∃ k : Nat, k ≤ l.length ∧ i = .int .i64 k ∧ s = .string (mkS (saidN (l.take k) b)) ∧ Below w.heap.size w wr) (fun _ i _ => l.length - (intOf i).toNat)
  case atStart => exact ⟨0, by omega, rfl, rfl, Below.refl _ _⟩
  case round =>
    obtain ⟨k, hk, rfl, rfl, hbw⟩ := hrel
    have HB := Lib.hid hbw
    by_cases e0 : k < l.length
    · obtain ⟨g1, rfl, hg1, hc1⟩ := H1.out (by rintro rfl; simp at e0)
      obtain ⟨x0, x1, x2, x3⟩ := hc1 k e0
      have y0 := (hbw.cell (p := ⟨g1, k * 4, none⟩) hg1).trans x0
      have y1 := (hbw.cell (p := ⟨g1, k * 4 + 1, none⟩) hg1).trans x1
      have y2 := (hbw.cell (p := ⟨g1, k * 4 + 2, none⟩) hg1).trans x2
      have y3 := (hbw.cell (p := ⟨g1, k * 4 + 3, none⟩) hg1).trans x3
      have b1 : (k : Int) < (l.length : Int) := by omega
      have hsn := said_snoc e0 b
      have hgood := HF.out l[k] (List.getElem_mem e0)
      have hS : (saidN (l.take k) b).length ≤ 100000000 := by
        have h1 := said_len (b := b) (l := l.take k) (fun t ht => HF.out t (List.mem_of_mem_take ht))
        have h2 : (l.take k).length ≤ 5000 := by rw [List.length_take]; omega
        have h3 : (l.take k).length * (4000 + b.length) ≤ 5000 * 4010 := Nat.mul_le_mul h2 (by have := HBL.out; omega)
        omega
      generalize l[k] = t at *
      generalize hSS : saidN (l.take k) b = S at *
      have HSS := Lib.hid hSS
      have HSN := Lib.hid hsn
      have HB' := HB
      obtain ⟨tk, ts, tn, tl⟩ := t
      have y0 : wr.cell? ⟨g1, k * 4, none⟩ = some (.int .u8 tk) := y0
      have y1 : wr.cell? ⟨g1, k * 4 + 1, none⟩ = some (.string (mkS ts)) := y1
      have y2 : wr.cell? ⟨g1, k * 4 + 2, none⟩ = some (.int .i64 tn) := y2
      have y3 : wr.cell? ⟨g1, k * 4 + 3, none⟩ = some (.int .i64 tl) := y3
      clear hc1 x0 x1 x2 x3 hbw hSS hsn
      by_cases k4 : tk = 4
      · subst k4
        go_wp2_with fail
        refine ⟨⟨k + 1, by omega, by go_num, ?_, HB.out.alloc HB.out.size _⟩, ?_⟩
        · rw [HSN.out]; simp
        · simp [intOf]; omega
      · rcases hgood with h4 | ⟨hg, hts⟩
        · exact absurd h4 k4
        · have hal := HB.out.alloc HB.out.size (.cells #[.int .u8 tk, .string (mkS ts), .int .i64 tn, .int .i64 tl] 31)
          rcases hg.of with ⟨q1, q2, q3, q4⟩ | ⟨q1, q2, q3⟩ | ⟨q1, q2, q3⟩
          all_goals
            have q1 : tk = _ := q1
            subst q1
          · have hts : ts.length ≤ 4000 := hts
            have HX : Hid (saidN (l.take (k + 1)) b = S ++ (ts ++ b)) := by rw [HSN.out, if_neg (fun e => by cases e)]; rfl
            obtain ⟨R, hR⟩ : ∃ R, R = mkS (S ++ (ts ++ b)) := ⟨_, rfl⟩
            have a1 : ∀ W : World, (Op.stringOp .add (mkS ts) (mkS b)).run Tryd.prog W = .ok (.string (mkS (ts ++ b))) W := fun W => by
              rw [run_string_add_sum W _ _ (by rw [mkS_size, mkS_size]; have := HBL.out; simp; omega), mkS_app]
            have a2 : ∀ W : World, (Op.stringOp .add (mkS S) (mkS (ts ++ b))).run Tryd.prog W = .ok (.string R) W := fun W => by
              rw [run_string_add_sum W _ _ (by rw [mkS_size, mkS_size, List.length_append]; have := HBL.out; simp; omega), mkS_app, hR]
            have HRR := Lib.hid hR
            clear hR q2 q3 q4 hg
            go_wp2_with fail
            refine ⟨⟨k + 1, by omega, by go_num, by rw [HX.out, HRR.out], hal⟩, ?_⟩
            simp [intOf]; omega
          · have q3 : tn < 65536 := q3
            have hdl := digS_len 4 tn (by omega)
            have HX : Hid (saidN (l.take (k + 1)) b = S ++ (digS tn ++ b)) := by rw [HSN.out, if_neg (fun e => by cases e)]; rfl
            obtain ⟨R, hR⟩ : ∃ R, R = mkS (S ++ (digS tn ++ b)) := ⟨_, rfl⟩
            generalize hD : digS tn = D at *
            have a1 : ∀ W : World, (Op.stringOp .add (mkS D) (mkS b)).run Tryd.prog W = .ok (.string (mkS (D ++ b))) W := fun W => by
              rw [run_string_add_sum W _ _ (by rw [mkS_size, mkS_size]; have := HBL.out; simp; omega), mkS_app]
            have a2 : ∀ W : World, (Op.stringOp .add (mkS S) (mkS (D ++ b))).run Tryd.prog W = .ok (.string R) W := fun W => by
              rw [run_string_add_sum W _ _ (by rw [mkS_size, mkS_size, List.length_append]; have := HBL.out; simp; omega), mkS_app, hR]
            have HRR := Lib.hid hR
            have HD := Lib.hid hD
            clear hR q2 hg hD
            go_wp2_with fail
            refine (itoa_nat tn (by omega) _ (tab_below HT.out hal hw)).mono ?_
            rw [HD.out]
            rintro e w3 ⟨rfl, hb3⟩
            have HB3 := Lib.hid (hal.trans (hb3.mono hal.size))
            clear hb3
            go_wp2_with fail
            refine ⟨⟨k + 1, by omega, by go_num, by rw [HX.out, HRR.out], HB3.out⟩, ?_⟩
            simp [intOf]; omega
          · have hts : ts.length ≤ 4000 := hts
            have HX : Hid (saidN (l.take (k + 1)) b = S ++ (ts ++ b)) := by rw [HSN.out, if_neg (fun e => by cases e)]; rfl
            obtain ⟨R, hR⟩ : ∃ R, R = mkS (S ++ (ts ++ b)) := ⟨_, rfl⟩
            have a1 : ∀ W : World, (Op.stringOp .add (mkS ts) (mkS b)).run Tryd.prog W = .ok (.string (mkS (ts ++ b))) W := fun W => by
              rw [run_string_add_sum W _ _ (by rw [mkS_size, mkS_size]; have := HBL.out; simp; omega), mkS_app]
            have a2 : ∀ W : World, (Op.stringOp .add (mkS S) (mkS (ts ++ b))).run Tryd.prog W = .ok (.string R) W := fun W => by
              rw [run_string_add_sum W _ _ (by rw [mkS_size, mkS_size, List.length_append]; have := HBL.out; simp; omega), mkS_app, hR]
            have HRR := Lib.hid hR
            clear hR q2 q3 hg
            go_wp2_with fail
            refine ⟨⟨k + 1, by omega, by go_num, by rw [HX.out, HRR.out], hal⟩, ?_⟩
            simp [intOf]; omega
    · obtain rfl : k = l.length := by omega
      go_wp2_with fail
      go_ret
      rw [List.take_length]
      exact ⟨rfl, HB.out⟩
set_option maxRecDepth 100000 in
set_option maxHeartbeats 2000000 in
/-- Of tokens that are the same but for their lines it tells true. -/
theorem sameS_any (v1 v2 : Value) (l m : List Tok) (w : World) (h1 : Tr w v1 l) (h2 : Tr w v2 m) (hs : sameTs l m) (hl : l.length ≤ 1000000) :
    Calls Tryd.prog 7 #[v1, v2] w fun e w' => e = .returned (.bool true) ∧ Below w.heap.size w w' := by
  obtain ⟨A1, c1, rfl, h1⟩ := h1
  obtain ⟨A2, c2, rfl, h2⟩ := h2
  have hlm := sameTs_length hs
  have H1 := Lib.hid h1
  have H2 := Lib.hid h2
  have HS := Lib.hid hs
  rw [← hlm]
  have HLM := Lib.hid hlm
  clear h1 h2 hs hlm
  go_enter Tryd.func7, Tryd.ntmps7
  go_wp2
  go_loopw [13] (fun i wr => ∃ k n : Nat, k ≤ l.length ∧ i = .int .i64 k ∧ wr = w.drewN n) (fun i _ => l.length - (intOf i).toNat)
  case atStart => exact ⟨0, 0, by omega, rfl, rfl⟩
  case round =>
    obtain ⟨k, n, hk, rfl, rfl⟩ := hrel
    by_cases e0 : k < l.length
    · have e1 : k < m.length := by rw [← HLM.out]; exact e0
      obtain ⟨g1, rfl, hg1, hc1⟩ := H1.out (by rintro rfl; simp at e0)
      obtain ⟨g2, rfl, hg2, hc2⟩ := H2.out (by rintro rfl; simp at e1)
      obtain ⟨x0, x1, x2, x3⟩ := hc1 k e0
      obtain ⟨y0, y1, y2, y3⟩ := hc2 k e1
      obtain ⟨s0, s1, s2⟩ := sameTs_get HS.out k e0 e1
      rw [← s0] at y0
      rw [← s1] at y1
      rw [← s2] at y2
      have b1 : (k : Int) < (l.length : Int) := by omega
      generalize l[k] = t at *
      have HC1 := Lib.hid hc1
      have HC2 := Lib.hid hc2
      clear hc1 hc2 s0 s1 s2 y3
      go_wp2_with fail
      go_quiet (fail)
      go_wp2
      go_roundw
      case rel => exact ⟨k + 1, n + nq, by omega, by go_num, rfl⟩
      case measure => simp [intOf]; omega
    · obtain rfl : k = l.length := by omega
      clear H1 H2
      go_wp2
      go_ret
      exact ⟨rfl, below_drewN' (Below.refl _ _) n⟩
theorem lex_fine {s : ByteArray} {l : List Tok} (hs : s.size ≤ 4000) (h : lexN (strB s) = .inl l) : Fine l := by
  intro t ht
  rcases lex_good h t ht with h1 | h1
  · exact .inl h1
  · exact .inr ⟨h1, lexF_slen 4000 _ _ _ _ _ (by rw [strB_length]; exact hs) (by simp) h t ht⟩
theorem ix4 (i : Nat) (z : Int) (hz : z = i) (x : Value) (hi : i < 4) (hx : (#[Value.string ⟨#[32]⟩, .string ⟨#[10]⟩, .string ⟨#[32, 35, 32, 97, 32, 125, 10]⟩, .string ⟨#[9, 13]⟩] : Array Value)[i]? = some x) (w : World) :
    (Instr.index 32 (.agg #[Value.string ⟨#[32]⟩, .string ⟨#[10]⟩, .string ⟨#[32, 35, 32, 97, 32, 125, 10]⟩, .string ⟨#[9, 13]⟩]) (.int .i64 z)).run Tryd.prog w = .ok x w := by
  subst hz
  have h1 : 0 ≤ (i : Int) ∧ (i : Int) < 4 := by omega
  simp only [Instr.index, run_underlying Tryd.underlying32, asIntOf, go_sem]
  match i, hi, hx with
  | 0, _, hx => simpa [go_sem] using hx
  | 1, _, hx => simpa [go_sem] using hx
  | 2, _, hx => simpa [go_sem] using hx
  | 3, _, hx => simpa [go_sem] using hx
set_option maxRecDepth 100000 in
set_option maxHeartbeats 20000000 in
theorem lexSpaces_any (s : ByteArray) (w : World) (hw : gPow < w.heap.size) (htab : Lib.TabIs Tryd.prog w "internal/strconv.uint64pow10" .u64 Lib.pow10Tab) :
    Calls Tryd.prog 3 #[.string s] w fun e w' => e = .returned (.bool true) ∧ Below w.heap.size w w' := by
  have HTB := Lib.hid htab
  clear htab
  by_cases h1 : 4000 < s.size
  · have k1 : (4000 : Int) < s.size := by omega
    go_enter Tryd.func3, Tryd.ntmps3
    go_wp2_with fail
    refine (lexAwake_any w).mono ?_
    rintro e w1 ⟨rfl, hb⟩
    have HB := Lib.hid hb
    clear hb
    go_wp2_with fail
    go_ret
    exact ⟨rfl, HB.out⟩
  · have k1 : ¬ (4000 : Int) < s.size := by omega
    cases hl : lexN (strB s) with
    | inr n =>
      have hn := lexF_err _ _ _ _ _ (show lexF ((strB s).length + 1) (strB s) 1 [] = .inr n from hl)
      have hn1 : (1 : Int) ≤ n := by omega
      have HL := Lib.hid hl
      clear hl hn
      go_enter Tryd.func3, Tryd.ntmps3
      go_wp2_with fail
      refine (tok_inr (by omega) HL.out).mono ?_
      rintro e w1 ⟨rfl, hb1⟩
      have HB := Lib.hid hb1
      clear hb1
      go_wp2_with fail
      refine (lexAwake_any _).mono ?_
      rintro e w2 ⟨rfl, hb2⟩
      have HB2 := Lib.hid (al_below hb2 HB.out)
      clear hb2
      go_wp2_with fail
      go_ret
      exact ⟨rfl, HB2.out⟩
    | inl l =>
      have hlen := lexF_len _ _ _ _ _ (show lexF ((strB s).length + 1) (strB s) 1 [] = .inl l from hl)
      rw [strB_length, List.length_nil] at hlen
      have hl5 : l.length ≤ 5000 := by omega
      have hlines := lex_lines hl
      have hfine := lex_fine (by omega) hl
      have HL := Lib.hid hl
      have HLN := Lib.hid hlines
      have HF := Lib.hid hfine
      clear hl hlen hlines hfine
      go_enter Tryd.func3, Tryd.ntmps3
      go_wp2_with fail
      refine (tok_inl (by omega) HL.out).mono ?_
      rintro e w1 ⟨v1, rfl, ho1, hb1⟩
      have hax : Below w1.heap.size w1 (w1.alloc (.cells #[.int .i64 0, .int .i64 0] 26)) := (Below.refl _ _).alloc (Nat.le_refl _) _
      have ht1 := ho1.tr.below hax
      obtain ⟨A1, c1, rfl, hc1⟩ := ht1
      have HB := Lib.hid (hb1.trans (hax.mono hb1.size))
      have HC := Lib.hid hc1
      clear hb1 ho1 hax hc1
      go_wp2_with fail
      generalize w1.alloc (.cells #[.int .i64 0, .int .i64 0] 26) = X at *
      go_loopw [5, 43] (fun v i wr => ∃ k a : Nat, k ≤ l.length ∧ i = .int .i64 k ∧ v = .int .i64 a ∧ linesOk a (l.drop k) ∧ Below X.heap.size X wr) (fun _ i _ => l.length - (intOf i).toNat)
      case atStart => exact ⟨0, 1, by omega, rfl, rfl, HLN.out, Below.refl _ _⟩
      case round =>
        obtain ⟨k, a, hk, rfl, rfl, hlo, hbw⟩ := hrel
        have HBW := Lib.hid hbw
        by_cases e0 : k < l.length
        · obtain ⟨g1, rfl, hg1, hcc⟩ := HC.out (by rintro rfl; simp at e0)
          obtain ⟨x0, x1, x2, x3⟩ := hcc k e0
          have y0 := (hbw.cell (p := ⟨g1, k * 4, none⟩) hg1).trans x0
          have y1 := (hbw.cell (p := ⟨g1, k * 4 + 1, none⟩) hg1).trans x1
          have y2 := (hbw.cell (p := ⟨g1, k * 4 + 2, none⟩) hg1).trans x2
          have y3 := (hbw.cell (p := ⟨g1, k * 4 + 3, none⟩) hg1).trans x3
          rw [List.drop_eq_getElem_cons e0] at hlo
          obtain ⟨hlo1, hlo2⟩ := hlo
          have b1 : (k : Int) < (l.length : Int) := by omega
          generalize l[k] = t at *
          have b2 : ¬ (t.ln : Int) < a := by omega
          have HLO := Lib.hid hlo2
          clear hcc x0 x1 x2 x3 hbw hlo2
          go_wp2_with fail
          refine ⟨⟨k + 1, t.ln, by omega, by go_num, rfl, HLO.out, HBW.out.alloc HBW.out.size _⟩, ?_⟩
          simp [intOf]; omega
        · obtain rfl : k = l.length := by omega
          clear hlo hbw
          obtain ⟨v1, hv1⟩ : ∃ v1, v1 = Value.slice A1 l.length c1 := ⟨_, rfl⟩
          have HT1 : Hid (Tr wr v1 l) := by
            have h0 : Tr X v1 l := ⟨A1, c1, hv1, HC.out⟩
            exact h0.below HBW.out
          have HTAB : Hid (Lib.TabIs Tryd.prog wr "internal/strconv.uint64pow10" .u64 Lib.pow10Tab) := tab_below (tab_below HTB.out HB.out hw) HBW.out (by have := HB.out.size; omega)
          have hXg : gPow < wr.heap.size := by have := HB.out.size; have := HBW.out.size; omega
          have HBX := Lib.hid (HB.out.trans (HBW.out.mono HB.out.size))
          rw [← hv1]
          clear hv1 HB HBW HTB HC HLN
          generalize hX0 : wr = Y at *
          clear hX0
          go_wp2_with fail
          go_loopw [55] (fun i wr => ∃ k : Nat, k ≤ 4 ∧ i = .int .i64 k ∧ Below Y.heap.size Y wr) (fun i _ => 4 - (intOf i).toNat)
          case atStart => exact ⟨0, by omega, rfl, Below.refl _ _⟩
          case round =>
            obtain ⟨k, hk, rfl, hbw⟩ := hrel
            have hcase : k = 0 ∨ k = 1 ∨ k = 2 ∨ k = 3 ∨ k = 4 := by omega
            rcases hcase with rfl | rfl | rfl | rfl | rfl
            · as_aux_lemma =>
                have hix := ix4 0 0 rfl (.string (mkS [32])) (by omega) rfl
                obtain ⟨N, hN, hST⟩ := lex_again HL.out btw_1
                have hlt : ∀ x ∈ saidN l [32], x < 256 := said_lt (by decide) (lex_good HL.out)
                have hstr := strB_mkS hlt
                have hsz := mkS_size (saidN l [32])
                have hsaid := said_any v1 l [32] wr (HT1.out.below hbw) HF.out (by omega) (by decide) (by have := hbw.size; omega) (tab_below HTAB.out hbw hXg)
                rw [← hstr] at hN
                generalize mkS (saidN l [32]) = SX at *
                have HN := Lib.hid hN
                have HST := Lib.hid hST
                have HSD := Lib.hid hsaid
                have HBW := Lib.hid hbw
                clear hlt hstr hN hST hsaid hbw
                by_cases hlong : 16384 < SX.size
                · have z1 : (16384 : Int) < SX.size := by omega
                  clear hsz
                  go_wp2_with fail
                  refine HSD.out.mono ?_
                  rintro e w3 ⟨rfl, hb3⟩
                  have HB3 := Lib.hid (HBW.out.trans (hb3.mono HBW.out.size))
                  clear hb3
                  go_wp2_with fail
                  refine ⟨⟨0 + 1, by omega, by go_num, HB3.out⟩, ?_⟩
                  simp [intOf]
                · have z1 : ¬ (16384 : Int) < SX.size := by omega
                  clear hsz
                  go_wp2_with fail
                  refine HSD.out.mono ?_
                  rintro e w3 ⟨rfl, hb3⟩
                  have HB3 := Lib.hid (HBW.out.trans (hb3.mono HBW.out.size))
                  clear hb3
                  go_wp2_with fail
                  refine (tok_inl (by omega) HN.out).mono ?_
                  rintro e w4 ⟨v2, rfl, ho2, hb2⟩
                  have HB4 := Lib.hid (HB3.out.trans (hb2.mono HB3.out.size))
                  have HT2 := Lib.hid ho2.tr
                  clear hb2 ho2
                  go_wp2_with fail
                  have hax : Below w4.heap.size w4 (w4.alloc (.cells #[.int .i64 0, .int .i64 0] 26)) := (Below.refl _ _).alloc (Nat.le_refl _) _
                  refine (sameS_any v1 v2 l N _ ((HT1.out.below HB4.out).below hax) (HT2.out.below hax) HST.out (by omega)).mono ?_
                  rintro e w5 ⟨rfl, hb5⟩
                  have HB5 := Lib.hid (HB4.out.trans ((hax.trans (hb5.mono hax.size)).mono HB4.out.size))
                  clear hb5 hax
                  go_wp2_with fail
                  refine ⟨⟨0 + 1, by omega, by go_num, HB5.out⟩, ?_⟩
                  simp [intOf]
            · as_aux_lemma =>
                have hix := ix4 1 1 rfl (.string (mkS [10])) (by omega) rfl
                obtain ⟨N, hN, hST⟩ := lex_again HL.out btw_2
                have hlt : ∀ x ∈ saidN l [10], x < 256 := said_lt (by decide) (lex_good HL.out)
                have hstr := strB_mkS hlt
                have hsz := mkS_size (saidN l [10])
                have hsaid := said_any v1 l [10] wr (HT1.out.below hbw) HF.out (by omega) (by decide) (by have := hbw.size; omega) (tab_below HTAB.out hbw hXg)
                rw [← hstr] at hN
                generalize mkS (saidN l [10]) = SX at *
                have HN := Lib.hid hN
                have HST := Lib.hid hST
                have HSD := Lib.hid hsaid
                have HBW := Lib.hid hbw
                clear hlt hstr hN hST hsaid hbw
                by_cases hlong : 16384 < SX.size
                · have z1 : (16384 : Int) < SX.size := by omega
                  clear hsz
                  go_wp2_with fail
                  refine HSD.out.mono ?_
                  rintro e w3 ⟨rfl, hb3⟩
                  have HB3 := Lib.hid (HBW.out.trans (hb3.mono HBW.out.size))
                  clear hb3
                  go_wp2_with fail
                  refine ⟨⟨1 + 1, by omega, by go_num, HB3.out⟩, ?_⟩
                  simp [intOf]
                · have z1 : ¬ (16384 : Int) < SX.size := by omega
                  clear hsz
                  go_wp2_with fail
                  refine HSD.out.mono ?_
                  rintro e w3 ⟨rfl, hb3⟩
                  have HB3 := Lib.hid (HBW.out.trans (hb3.mono HBW.out.size))
                  clear hb3
                  go_wp2_with fail
                  refine (tok_inl (by omega) HN.out).mono ?_
                  rintro e w4 ⟨v2, rfl, ho2, hb2⟩
                  have HB4 := Lib.hid (HB3.out.trans (hb2.mono HB3.out.size))
                  have HT2 := Lib.hid ho2.tr
                  clear hb2 ho2
                  go_wp2_with fail
                  have hax : Below w4.heap.size w4 (w4.alloc (.cells #[.int .i64 0, .int .i64 0] 26)) := (Below.refl _ _).alloc (Nat.le_refl _) _
                  refine (sameS_any v1 v2 l N _ ((HT1.out.below HB4.out).below hax) (HT2.out.below hax) HST.out (by omega)).mono ?_
                  rintro e w5 ⟨rfl, hb5⟩
                  have HB5 := Lib.hid (HB4.out.trans ((hax.trans (hb5.mono hax.size)).mono HB4.out.size))
                  clear hb5 hax
                  go_wp2_with fail
                  refine ⟨⟨1 + 1, by omega, by go_num, HB5.out⟩, ?_⟩
                  simp [intOf]
            · as_aux_lemma =>
                have hix := ix4 2 2 rfl (.string (mkS [32, 35, 32, 97, 32, 125, 10])) (by omega) rfl
                obtain ⟨N, hN, hST⟩ := lex_again HL.out btw_3
                have hlt : ∀ x ∈ saidN l [32, 35, 32, 97, 32, 125, 10], x < 256 := said_lt (by decide) (lex_good HL.out)
                have hstr := strB_mkS hlt
                have hsz := mkS_size (saidN l [32, 35, 32, 97, 32, 125, 10])
                have hsaid := said_any v1 l [32, 35, 32, 97, 32, 125, 10] wr (HT1.out.below hbw) HF.out (by omega) (by decide) (by have := hbw.size; omega) (tab_below HTAB.out hbw hXg)
                rw [← hstr] at hN
                generalize mkS (saidN l [32, 35, 32, 97, 32, 125, 10]) = SX at *
                have HN := Lib.hid hN
                have HST := Lib.hid hST
                have HSD := Lib.hid hsaid
                have HBW := Lib.hid hbw
                clear hlt hstr hN hST hsaid hbw
                by_cases hlong : 16384 < SX.size
                · have z1 : (16384 : Int) < SX.size := by omega
                  clear hsz
                  go_wp2_with fail
                  refine HSD.out.mono ?_
                  rintro e w3 ⟨rfl, hb3⟩
                  have HB3 := Lib.hid (HBW.out.trans (hb3.mono HBW.out.size))
                  clear hb3
                  go_wp2_with fail
                  refine ⟨⟨2 + 1, by omega, by go_num, HB3.out⟩, ?_⟩
                  simp [intOf]
                · have z1 : ¬ (16384 : Int) < SX.size := by omega
                  clear hsz
                  go_wp2_with fail
                  refine HSD.out.mono ?_
                  rintro e w3 ⟨rfl, hb3⟩
                  have HB3 := Lib.hid (HBW.out.trans (hb3.mono HBW.out.size))
                  clear hb3
                  go_wp2_with fail
                  refine (tok_inl (by omega) HN.out).mono ?_
                  rintro e w4 ⟨v2, rfl, ho2, hb2⟩
                  have HB4 := Lib.hid (HB3.out.trans (hb2.mono HB3.out.size))
                  have HT2 := Lib.hid ho2.tr
                  clear hb2 ho2
                  go_wp2_with fail
                  have hax : Below w4.heap.size w4 (w4.alloc (.cells #[.int .i64 0, .int .i64 0] 26)) := (Below.refl _ _).alloc (Nat.le_refl _) _
                  refine (sameS_any v1 v2 l N _ ((HT1.out.below HB4.out).below hax) (HT2.out.below hax) HST.out (by omega)).mono ?_
                  rintro e w5 ⟨rfl, hb5⟩
                  have HB5 := Lib.hid (HB4.out.trans ((hax.trans (hb5.mono hax.size)).mono HB4.out.size))
                  clear hb5 hax
                  go_wp2_with fail
                  refine ⟨⟨2 + 1, by omega, by go_num, HB5.out⟩, ?_⟩
                  simp [intOf]
            · as_aux_lemma =>
                have hix := ix4 3 3 rfl (.string (mkS [9, 13])) (by omega) rfl
                obtain ⟨N, hN, hST⟩ := lex_again HL.out btw_4
                have hlt : ∀ x ∈ saidN l [9, 13], x < 256 := said_lt (by decide) (lex_good HL.out)
                have hstr := strB_mkS hlt
                have hsz := mkS_size (saidN l [9, 13])
                have hsaid := said_any v1 l [9, 13] wr (HT1.out.below hbw) HF.out (by omega) (by decide) (by have := hbw.size; omega) (tab_below HTAB.out hbw hXg)
                rw [← hstr] at hN
                generalize mkS (saidN l [9, 13]) = SX at *
                have HN := Lib.hid hN
                have HST := Lib.hid hST
                have HSD := Lib.hid hsaid
                have HBW := Lib.hid hbw
                clear hlt hstr hN hST hsaid hbw
                by_cases hlong : 16384 < SX.size
                · have z1 : (16384 : Int) < SX.size := by omega
                  clear hsz
                  go_wp2_with fail
                  refine HSD.out.mono ?_
                  rintro e w3 ⟨rfl, hb3⟩
                  have HB3 := Lib.hid (HBW.out.trans (hb3.mono HBW.out.size))
                  clear hb3
                  go_wp2_with fail
                  refine ⟨⟨3 + 1, by omega, by go_num, HB3.out⟩, ?_⟩
                  simp [intOf]
                · have z1 : ¬ (16384 : Int) < SX.size := by omega
                  clear hsz
                  go_wp2_with fail
                  refine HSD.out.mono ?_
                  rintro e w3 ⟨rfl, hb3⟩
                  have HB3 := Lib.hid (HBW.out.trans (hb3.mono HBW.out.size))
                  clear hb3
                  go_wp2_with fail
                  refine (tok_inl (by omega) HN.out).mono ?_
                  rintro e w4 ⟨v2, rfl, ho2, hb2⟩
                  have HB4 := Lib.hid (HB3.out.trans (hb2.mono HB3.out.size))
                  have HT2 := Lib.hid ho2.tr
                  clear hb2 ho2
                  go_wp2_with fail
                  have hax : Below w4.heap.size w4 (w4.alloc (.cells #[.int .i64 0, .int .i64 0] 26)) := (Below.refl _ _).alloc (Nat.le_refl _) _
                  refine (sameS_any v1 v2 l N _ ((HT1.out.below HB4.out).below hax) (HT2.out.below hax) HST.out (by omega)).mono ?_
                  rintro e w5 ⟨rfl, hb5⟩
                  have HB5 := Lib.hid (HB4.out.trans ((hax.trans (hb5.mono hax.size)).mono HB4.out.size))
                  clear hb5 hax
                  go_wp2_with fail
                  refine ⟨⟨3 + 1, by omega, by go_num, HB5.out⟩, ?_⟩
                  simp [intOf]
            · have HBW := Lib.hid (HBX.out.trans (hbw.mono HBX.out.size))
              clear hbw
              go_wp2_with fail
              refine (lexAwake_any wr).mono ?_
              rintro e w5 ⟨rfl, hb5⟩
              have HB5 := Lib.hid (HBW.out.trans (hb5.mono HBW.out.size))
              clear hb5
              go_wp2_with fail
              go_ret
              exact ⟨rfl, HB5.out⟩
end Go.Proofs.YtkmjbfednmidbaaDoor
