/-
  THE WALK OF lex.one. Conditions: the string's size.
  A LIST OF TOKENS IN MEMORY, append to it. Conditions: the slice is the call's own, or nil.
-/
import Derived.Test.YthmpagehmfillaaQ07
import Derived.Maps.AppendAt
namespace Go.Proofs.Ythmpagehmfillaa
open Go.RowKit
set_option linter.unusedSimpArgs false
set_option linter.unusedVariables false

/-- A token as a value. -/
def tokV (t : Tok) : Value := .agg #[.int .u8 t.k, .string (mkS t.s), .int .i64 t.n, .int .i64 t.ln]
def oneV : Option (Tok × Nat) → Value
  | none => .tuple #[.agg #[.int .u8 0, .string ⟨#[]⟩, .int .i64 0, .int .i64 0], .int .i64 0]
  | some (t, n) => .tuple #[tokV t, .int .i64 n]
theorem bcell {W w1 : World} (hb : Below W.heap.size W w1) : (∀ b o, b < W.heap.size → w1.cell? ⟨b, o, none⟩ = W.cell? ⟨b, o, none⟩) ∧ (∀ b o, b < W.heap.size → w1.frozen? ⟨b, o, none⟩ = W.frozen? ⟨b, o, none⟩) :=
  ⟨fun b o h => hb.cell (p := ⟨b, o, none⟩) h, fun b o h => hb.frozen (p := ⟨b, o, none⟩) h⟩
theorem extract_mkS (s : ByteArray) (n : Nat) : s.extract 0 n = mkS ((strB s).take n) := by
  rw [← mkS_strB (s.extract 0 n), strB_extract]
  simp

/-- The signs as the program hands them back. -/
def sigA : Array Value := #[.string ⟨#[38, 126, 61]⟩, .string ⟨#[60, 60, 61]⟩, .string ⟨#[62, 62, 61]⟩, .string ⟨#[61, 61]⟩, .string ⟨#[43, 61]⟩, .string ⟨#[45, 61]⟩, .string ⟨#[42, 61]⟩, .string ⟨#[47, 61]⟩, .string ⟨#[37, 61]⟩, .string ⟨#[38, 61]⟩, .string ⟨#[124, 61]⟩, .string ⟨#[94, 61]⟩, .string ⟨#[43, 43]⟩, .string ⟨#[45, 45]⟩, .string ⟨#[123]⟩, .string ⟨#[125]⟩, .string ⟨#[61]⟩, .string ⟨#[60]⟩, .string ⟨#[62]⟩, .string ⟨#[126]⟩, .string ⟨#[42]⟩]
theorem signs_eq : signsN.length = 21 := rfl
theorem sig_index (j : Nat) (hj : j < 21) (W : World) : (Instr.index 170 (.agg sigA) (.int .i64 (j : Int))).run Try.prog W = .ok (.string (mkS (signsN.getD j []))) W := by
  have h0 : (Instr.index 170 (.agg sigA) (.int .i64 0)).run Try.prog W = .ok (.string (mkS [38, 126, 61])) W := by kernel_rfl
  have h1 : (Instr.index 170 (.agg sigA) (.int .i64 1)).run Try.prog W = .ok (.string (mkS [60, 60, 61])) W := by kernel_rfl
  have h2 : (Instr.index 170 (.agg sigA) (.int .i64 2)).run Try.prog W = .ok (.string (mkS [62, 62, 61])) W := by kernel_rfl
  have h3 : (Instr.index 170 (.agg sigA) (.int .i64 3)).run Try.prog W = .ok (.string (mkS [61, 61])) W := by kernel_rfl
  have h4 : (Instr.index 170 (.agg sigA) (.int .i64 4)).run Try.prog W = .ok (.string (mkS [43, 61])) W := by kernel_rfl
  have h5 : (Instr.index 170 (.agg sigA) (.int .i64 5)).run Try.prog W = .ok (.string (mkS [45, 61])) W := by kernel_rfl
  have h6 : (Instr.index 170 (.agg sigA) (.int .i64 6)).run Try.prog W = .ok (.string (mkS [42, 61])) W := by kernel_rfl
  have h7 : (Instr.index 170 (.agg sigA) (.int .i64 7)).run Try.prog W = .ok (.string (mkS [47, 61])) W := by kernel_rfl
  have h8 : (Instr.index 170 (.agg sigA) (.int .i64 8)).run Try.prog W = .ok (.string (mkS [37, 61])) W := by kernel_rfl
  have h9 : (Instr.index 170 (.agg sigA) (.int .i64 9)).run Try.prog W = .ok (.string (mkS [38, 61])) W := by kernel_rfl
  have h10 : (Instr.index 170 (.agg sigA) (.int .i64 10)).run Try.prog W = .ok (.string (mkS [124, 61])) W := by kernel_rfl
  have h11 : (Instr.index 170 (.agg sigA) (.int .i64 11)).run Try.prog W = .ok (.string (mkS [94, 61])) W := by kernel_rfl
  have h12 : (Instr.index 170 (.agg sigA) (.int .i64 12)).run Try.prog W = .ok (.string (mkS [43, 43])) W := by kernel_rfl
  have h13 : (Instr.index 170 (.agg sigA) (.int .i64 13)).run Try.prog W = .ok (.string (mkS [45, 45])) W := by kernel_rfl
  have h14 : (Instr.index 170 (.agg sigA) (.int .i64 14)).run Try.prog W = .ok (.string (mkS [123])) W := by kernel_rfl
  have h15 : (Instr.index 170 (.agg sigA) (.int .i64 15)).run Try.prog W = .ok (.string (mkS [125])) W := by kernel_rfl
  have h16 : (Instr.index 170 (.agg sigA) (.int .i64 16)).run Try.prog W = .ok (.string (mkS [61])) W := by kernel_rfl
  have h17 : (Instr.index 170 (.agg sigA) (.int .i64 17)).run Try.prog W = .ok (.string (mkS [60])) W := by kernel_rfl
  have h18 : (Instr.index 170 (.agg sigA) (.int .i64 18)).run Try.prog W = .ok (.string (mkS [62])) W := by kernel_rfl
  have h19 : (Instr.index 170 (.agg sigA) (.int .i64 19)).run Try.prog W = .ok (.string (mkS [126])) W := by kernel_rfl
  have h20 : (Instr.index 170 (.agg sigA) (.int .i64 20)).run Try.prog W = .ok (.string (mkS [42])) W := by kernel_rfl
  match j, hj with
  | j + 21, h => exact absurd h (by omega)
  | 0, _ => exact h0
  | 1, _ => exact h1
  | 2, _ => exact h2
  | 3, _ => exact h3
  | 4, _ => exact h4
  | 5, _ => exact h5
  | 6, _ => exact h6
  | 7, _ => exact h7
  | 8, _ => exact h8
  | 9, _ => exact h9
  | 10, _ => exact h10
  | 11, _ => exact h11
  | 12, _ => exact h12
  | 13, _ => exact h13
  | 14, _ => exact h14
  | 15, _ => exact h15
  | 16, _ => exact h16
  | 17, _ => exact h17
  | 18, _ => exact h18
  | 19, _ => exact h19
  | 20, _ => exact h20
theorem sig_size : (Try.prog.info? 170).map (·.size) = some sigA.size := by kernel_rfl
theorem sig_one : sigA.all (·.oneCell') = true := by kernel_rfl
def sig0 : Array Value := #[.string ⟨#[]⟩, .string ⟨#[]⟩, .string ⟨#[]⟩, .string ⟨#[]⟩, .string ⟨#[]⟩, .string ⟨#[]⟩, .string ⟨#[]⟩, .string ⟨#[]⟩, .string ⟨#[]⟩, .string ⟨#[]⟩, .string ⟨#[]⟩, .string ⟨#[]⟩, .string ⟨#[]⟩, .string ⟨#[]⟩, .string ⟨#[]⟩, .string ⟨#[]⟩, .string ⟨#[]⟩, .string ⟨#[]⟩, .string ⟨#[]⟩, .string ⟨#[]⟩, .string ⟨#[]⟩]
set_option maxRecDepth 100000 in
set_option maxHeartbeats 1000000 in
theorem signs_any (w : World) : Calls Try.prog 93 #[] w fun e w' => e = .returned (.agg sigA) ∧ Below w.heap.size w w' := by
  go_enter Try.func93, Try.ntmps93
  go_wp2_with (first
    | (refine wpList_build rfl 170 _ rfl (by kernel_rfl) ?_
       generalize hC : Option.getD (Program.built _ _ _) #[] = C
       have HC : Hid (C = sigA) := by
         show C = sigA
         rw [← hC]
         kernel_rfl
       clear hC)
    | (refine wpList_store_new 170 (.tmp 0) (.tmp 1) rfl rfl sig0 C rfl rfl (by rw [HC.out]; exact sig_size) (by rw [HC.out]; rfl) (by rw [HC.out]; exact sig_one) ?_))
  refine bodyPost_ret (results_cell_row rfl _ _ w.heap.size 170 C (0, 0) _ rfl (heap_alloc_new w _) Try.underlying170 rfl (by rw [HC.out]; exact sig_size)) rfl ?_
  exact ⟨by rw [HC.out], (Below.refl _ _).alloc (Nat.le_refl _) _⟩

theorem takeWhile_mem {p : Nat → Bool} {l : List Nat} : ∀ x ∈ l.take (wl p l), p x = true := by
  intro x hx
  obtain ⟨i, hi, rfl⟩ := List.mem_iff_getElem.1 hx
  simp only [List.length_take] at hi
  have h := wl_lt (p := p) (l := l) (j := i) (by omega)
  rw [nth_get (by omega)] at h
  simpa using h
theorem size_mkS (l : List Nat) : (mkS l).size = l.length := by simp [mkS, ByteArray.size]
theorem toInt_mkS (l : List Nat) : ((mkS l).size : Int) = l.length := by rw [size_mkS]

set_option maxRecDepth 100000 in
set_option maxHeartbeats 1000000 in
theorem one_letter (s : ByteArray) (w : World) (hs : s.size ≤ 20000) (hL : 0 < wl letN (strB s)) : Calls Try.prog 71 #[.string s] w fun e w' => e = .returned (oneV (oneN (strB s))) ∧ Below w.heap.size w w' := by
  have hr : oneN (strB s) = some (⟨1, (strB s).take (wl letN (strB s)), 0, 0⟩, wl letN (strB s)) := by unfold oneN; rw [if_pos hL]
  have hle := wl_le letN (strB s)
  rw [strB_length] at hle
  have hx := extract_mkS s (wl letN (strB s))
  rw [hr]
  clear hr
  generalize hm : wl letN (strB s) = m at *
  have HM := Lib.hid hm
  have HX := Lib.hid hx
  clear hm hx
  have k1 : (0 : Int) < m := by omega
  have k2 : (m : Int) ≤ s.size := by omega
  go_enter Try.func71, Try.ntmps71
  go_wp2_with fail
  refine (run_letter s _).mono ?_
  rintro e w1 ⟨rfl, hb⟩
  rw [HM.out]
  obtain ⟨hc, hf⟩ := bcell hb
  have hz : w.heap.size < w1.heap.size := by have := hb.size; simp at this; omega
  have HB1 : Hid (Below w.heap.size w w1) := ((Below.refl _ _).alloc (Nat.le_refl _) _).trans (hb.mono (by simp))
  clear hb
  go_wp2_with fail
  refine bodyPost_ret (v := .tuple #[.agg #[.int .u8 1, .string (s.extract 0 m), .int .i64 0, .int .i64 0], .int .i64 m]) (by simp [results, Try.results71, go_sem, hc, hz]) rfl ⟨?_, ((((HB1.out.setCell (Nat.le_refl _) _).setCell (Nat.le_refl _) _).setCell (Nat.le_refl _) _).setCell (Nat.le_refl _) _)⟩
  rw [HX.out]
  rfl
set_option maxRecDepth 100000 in
set_option maxHeartbeats 1000000 in
theorem one_digit (s : ByteArray) (w : World) (hs : s.size ≤ 20000) (hL : wl letN (strB s) = 0) (hD : 0 < wl digN (strB s)) : Calls Try.prog 71 #[.string s] w fun e w' => e = .returned (oneV (oneN (strB s))) ∧ Below w.heap.size w w' := by
  have hr : oneN (strB s) = if 65536 ≤ numN ((strB s).take (wl digN (strB s))) then none else some (⟨2, [], numN ((strB s).take (wl digN (strB s))), 0⟩, wl digN (strB s)) := by unfold oneN; rw [if_neg (by omega), if_pos hD]
  have hle := wl_le digN (strB s)
  rw [strB_length] at hle
  have hmem := takeWhile_mem (p := digN) (l := strB s)
  have hxe : strB (s.extract 0 (wl digN (strB s))) = (strB s).take (wl digN (strB s)) := by rw [strB_extract]; simp
  rw [hr]
  clear hr
  generalize hm : wl digN (strB s) = m at *
  have HM := Lib.hid hm
  have HL := Lib.hid hL
  have HX := Lib.hid hxe
  have HE := Lib.hid hmem
  clear hm hL hxe hmem
  have k1 : (0 : Int) < m := by omega
  have k2 : (m : Int) ≤ s.size := by omega
  by_cases hbig : 65536 ≤ numN ((strB s).take m)
  all_goals
    have k3 : decide ((65536 : Int) ≤ (numN ((strB s).take m) : Int)) = decide (65536 ≤ numN ((strB s).take m)) := by congr 1; simp; omega
    first | rw [decide_eq_true hbig] at k3 | rw [decide_eq_false hbig] at k3
    first | rw [if_pos hbig] | rw [if_neg hbig]
    have HK := Lib.hid hbig
    clear hbig
    go_enter Try.func71, Try.ntmps71
    go_wp2_with fail
    refine (run_letter s _).mono ?_
    rintro e w1 ⟨rfl, hb⟩
    rw [HL.out]
    have hb1 := hb
    clear hb
    go_wp2_with fail
    refine (run_digit s _).mono ?_
    rintro e w2 ⟨rfl, hb⟩
    replace hb := hb1.trans (hb.mono hb1.size)
    clear hb1
    rw [HM.out]
    have hb1 := hb
    clear hb
    go_wp2_with fail
    refine (number_any (s.extract 0 m) _ (by rw [← strB_length, HX.out]; simp; omega) (by rw [HX.out]; intro x hx; have := HE.out x hx; simp [digN] at this; omega)).mono ?_
    rintro e w3 ⟨rfl, hb⟩
    replace hb := hb1.trans (hb.mono hb1.size)
    clear hb1
    rw [HX.out]
    obtain ⟨hc, hf⟩ := bcell hb
    have hz : w.heap.size < w3.heap.size := by have := hb.size; simp at this; omega
    have HB1 : Hid (Below w.heap.size w w3) := ((Below.refl _ _).alloc (Nat.le_refl _) _).trans (hb.mono (by simp))
    clear hb
    go_wp2_with fail
    first
      | (refine bodyPost_ret (v := .tuple #[.agg #[.int .u8 0, .string ⟨#[]⟩, .int .i64 0, .int .i64 0], .int .i64 0]) (by simp [results, Try.results71, go_sem, hc, hz]) rfl ⟨?_, ((((HB1.out.setCell (Nat.le_refl _) _).setCell (Nat.le_refl _) _).setCell (Nat.le_refl _) _).setCell (Nat.le_refl _) _)⟩; rfl)
      | (refine bodyPost_ret (v := .tuple #[.agg #[.int .u8 2, .string ⟨#[]⟩, .int .i64 (numN ((strB s).take m)), .int .i64 0], .int .i64 m]) (by simp [results, Try.results71, go_sem, hc, hz]) rfl ⟨?_, ((((HB1.out.setCell (Nat.le_refl _) _).setCell (Nat.le_refl _) _).setCell (Nat.le_refl _) _).setCell (Nat.le_refl _) _)⟩; rfl)
set_option maxRecDepth 100000 in
set_option maxHeartbeats 1000000 in
theorem one_sign (s : ByteArray) (w : World) (hs : s.size ≤ 20000) (hL : wl letN (strB s) = 0) (hD : wl digN (strB s) = 0) : Calls Try.prog 71 #[.string s] w fun e w' => e = .returned (oneV (oneN (strB s))) ∧ Below w.heap.size w w' := by
  have hr : oneN (strB s) = match sgnN (strB s) with | some x => some (⟨3, x, 0, 0⟩, x.length) | none => none := by unfold oneN; rw [if_neg (by omega), if_neg (by omega)]; cases sgnN (strB s) <;> rfl
  have HR := Lib.hid hr
  have HL := Lib.hid hL
  have HD := Lib.hid hD
  clear hr hL hD
  go_enter Try.func71, Try.ntmps71
  go_wp2_with fail
  refine (run_letter s _).mono ?_
  rintro e w1 ⟨rfl, hb⟩
  rw [HL.out]
  have hb1 := hb
  clear hb
  go_wp2_with fail
  refine (run_digit s _).mono ?_
  rintro e w2 ⟨rfl, hb⟩
  replace hb := hb1.trans (hb.mono hb1.size)
  clear hb1
  rw [HD.out]
  have hb1 := hb
  clear hb
  go_wp2_with fail
  refine (signs_any _).mono ?_
  rintro e w3 ⟨rfl, hb⟩
  replace hb := hb1.trans (hb.mono hb1.size)
  clear hb1
  obtain ⟨hc, hf⟩ := bcell hb
  have hz : w.heap.size < w3.heap.size := by have := hb.size; simp at this; omega
  have HB1 : Hid (Below w.heap.size w w3) := ((Below.refl _ _).alloc (Nat.le_refl _) _).trans (hb.mono (by simp))
  clear hb
  have HC := Lib.hid hc
  have HF := Lib.hid hf
  clear hc hf
  go_wp2_with fail
  go_loop [33] (fun i => ∃ j : Nat, j ≤ 21 ∧ i = .int .i64 j ∧ Hid (∀ m, m < j → List.isPrefixOf (signsN.getD m []) (strB s) = false)) (fun i => 21 - (intOf i).toNat)
  case atStart => exact ⟨0, by omega, rfl, fun m hm => by omega⟩
  case round =>
    obtain ⟨j, hj, rfl, HN⟩ := hrel
    by_cases h21 : j < 21
    · have k1 : (j : Int) < 21 := by omega
      have hix := sig_index j h21
      have hmem : signsN.getD j [] ∈ signsN := by rw [List.getD_eq_getElem?_getD, List.getElem?_eq_getElem (by rw [signs_eq]; exact h21)]; exact List.getElem_mem _
      have hlen := signs_len _ hmem
      have hlt := signs_lt _ hmem
      have hsz := size_mkS (signsN.getD j [])
      have hl3 := hlen.2
      by_cases hp : List.isPrefixOf (signsN.getD j []) (strB s) = true
      · have hfd : sgnN (strB s) = some (signsN.getD j []) := by
          unfold sgnN
          rw [List.find?_eq_some_iff_getElem]
          refine ⟨hp, j, by rw [signs_eq]; exact h21, ?_, fun m hm => ?_⟩
          · rw [List.getD_eq_getElem?_getD, List.getElem?_eq_getElem (by rw [signs_eq]; exact h21)]; rfl
          · have := HN.out m hm
            rw [List.getD_eq_getElem?_getD, List.getElem?_eq_getElem (by rw [signs_eq]; omega)] at this
            simpa using this
        have hs2 : strB (mkS (signsN.getD j [])) = signsN.getD j [] := strB_mkS hlt
        generalize signsN.getD j [] = x at *
        have HQ := Lib.hid hfd
        have HP := Lib.hid hp
        have HS2 := Lib.hid hs2
        have HZ := Lib.hid hsz
        have HLT := Lib.hid hlt
        clear hmem hlen hlt hp hfd hs2 hsz
        go_wp2_with fail
        refine (hp_any s (mkS x) _ (by omega) (by rw [HZ.out]; omega)).mono ?_
        rintro e w' ⟨rfl, rfl⟩
        rw [HS2.out, HP.out]
        have hc := HC.out
        have hf := HF.out
        go_wp2_with fail
        rw [HR.out, HQ.out]
        refine bodyPost_ret (v := .tuple #[.agg #[.int .u8 3, .string (mkS x), .int .i64 0, .int .i64 0], .int .i64 (mkS x).size]) (by simp [results, Try.results71, go_sem, hc, hz]) rfl ⟨?_, ((((HB1.out.setCell (Nat.le_refl _) _).setCell (Nat.le_refl _) _).setCell (Nat.le_refl _) _).setCell (Nat.le_refl _) _)⟩
        rw [HZ.out]
        rfl
      · have hs2 : strB (mkS (signsN.getD j [])) = signsN.getD j [] := strB_mkS hlt
        have HP : Hid (List.isPrefixOf (signsN.getD j []) (strB s) = false) := (Bool.not_eq_true _).mp hp
        generalize hx : signsN.getD j [] = x at *
        have HS2 := Lib.hid hs2
        have HZ := Lib.hid hsz
        have HX := Lib.hid hx
        clear hmem hlen hlt hp hs2 hsz hx
        go_wp2_with fail
        refine (hp_any s (mkS x) _ (by omega) (by rw [HZ.out]; omega)).mono ?_
        rintro e w' ⟨rfl, rfl⟩
        rw [HS2.out, HP.out]
        go_wp2_with fail
        go_round
        case rel =>
          refine ⟨j + 1, by omega, by go_num, fun m hm => ?_⟩
          rcases Nat.lt_or_ge m j with h | h
          · exact HN.out m h
          · obtain rfl : m = j := by omega
            rw [HX.out]
            exact HP.out
        case measure => simp [intOf]; omega
    · obtain rfl : j = 21 := by omega
      have HQ : Hid (sgnN (strB s) = none) := by
        show sgnN (strB s) = none
        unfold sgnN
        rw [List.find?_eq_none]
        intro x hx
        obtain ⟨i, hi, rfl⟩ := List.mem_iff_getElem.1 hx
        rw [signs_eq] at hi
        have := HN.out i hi
        rw [List.getD_eq_getElem?_getD, List.getElem?_eq_getElem (by rw [signs_eq]; exact hi)] at this
        have h1 : List.isPrefixOf signsN[i] (strB s) = false := this
        intro h
        exact Bool.noConfusion (h1.symm.trans h)
      have hc := HC.out
      have hf := HF.out
      go_wp2_with fail
      rw [HR.out, HQ.out]
      refine bodyPost_ret (v := .tuple #[.agg #[.int .u8 0, .string ⟨#[]⟩, .int .i64 0, .int .i64 0], .int .i64 0]) (by simp [results, Try.results71, go_sem, hc, hz]) rfl ⟨?_, ((((HB1.out.setCell (Nat.le_refl _) _).setCell (Nat.le_refl _) _).setCell (Nat.le_refl _) _).setCell (Nat.le_refl _) _)⟩
      rfl
theorem one_any (s : ByteArray) (w : World) (hs : s.size ≤ 20000) : Calls Try.prog 71 #[.string s] w fun e w' => e = .returned (oneV (oneN (strB s))) ∧ Below w.heap.size w w' := by
  by_cases hL : 0 < wl letN (strB s)
  · exact one_letter s w hs hL
  · by_cases hD : 0 < wl digN (strB s)
    · exact one_digit s w hs (by omega) hD
    · exact one_sign s w hs (by omega) (by omega)
end Go.Proofs.Ythmpagehmfillaa
namespace Go.Proofs.Ythmpagehmfillaa
open Go.RowKit
set_option linter.unusedSimpArgs false
set_option linter.unusedVariables false

def tokC (t : Tok) : List Value := [.int .u8 t.k, .string (mkS t.s), .int .i64 t.n, .int .i64 t.ln]
def tokF (l : List Tok) : List Value := l.flatMap tokC
theorem tokF_length (l : List Tok) : (tokF l).length = l.length * 4 := by
  induction l with
  | nil => rfl
  | cons a l ih =>
    have : tokF (a :: l) = tokC a ++ tokF l := rfl
    rw [this, List.length_append, ih]
    simp [tokC]
    omega
theorem tokF_app (l : List Tok) (t : Tok) : tokF (l ++ [t]) = tokF l ++ tokC t := by simp [tokF]
theorem tokF_get {l : List Tok} {i j : Nat} (hi : i < l.length) (hj : j < 4) : (tokF l)[i * 4 + j]? = (tokC l[i])[j]? := by
  induction l generalizing i with
  | nil => simp at hi
  | cons a l ih =>
    have e : tokF (a :: l) = tokC a ++ tokF l := rfl
    have h4 : (tokC a).length = 4 := rfl
    cases i with
    | zero => rw [e, Nat.zero_mul, Nat.zero_add, List.getElem?_append_left (by omega)]; rfl
    | succ i =>
      rw [e, List.getElem?_append_right (by omega), h4, show (i + 1) * 4 + j - 4 = i * 4 + j by omega, ih (by simpa using hi)]
      rfl
/-- The call's own slice of tokens. -/
def To (w : World) (base : Nat) (v : Value) (l : List Tok) : Prop := w.ownsRow base 111 4 v l.length (tokF l)
theorem info_tok : (Try.prog.info? 111).map (fun i => (i.zero, i.size, i.bytes)) = some (some (.agg #[.int .u8 0, .string ⟨#[]⟩, .int .i64 0, .int .i64 0]), 4, 40) := by kernel_rfl
section
variable {w w' W : World} {base : Nat} {v : Value} {l : List Tok}
theorem To.nil (w : World) (base : Nat) : To w base (.slice none 0 0) [] := World.ownsRow_nil _ _ _ _
theorem To.below (h : To w base v l) (hb : Below w.heap.size w w') : To w' base v l :=
  h.kept (row := none) ⟨hb.os, hb.tape, hb.output, hb.size, fun k hk _ => hb.block k hk⟩ (by
    cases hv : v.ownBlock with
    | none => exact .inl rfl
    | some k => exact .inr (by simp))
theorem To.alloc (h : To w base v l) (o : Obj) : To (w.alloc o) base v l := World.ownsRow.alloc h o
theorem To.mono {base' : Nat} (h : To w base v l) (hb : base' ≤ base) : To w base' v l := ⟨h.1, h.2.imp id (fun ⟨g, cap, cur, e, hg, r⟩ => ⟨g, cap, cur, e, by omega, r⟩)⟩
theorem To.lt (h : To w base v l) : ∀ k, v.ownBlock = some k → base ≤ k ∧ k < w.heap.size := World.ownsRow.lt h
theorem To.set (h : To w base v l) {a : Addr} (ha : ∀ k, v.ownBlock = some k → a.block ≠ k) (u : Value) : To (w.setCell a u) base v l :=
  h.kept (row := some a.block) (grown_set (grown_refl w _) (.inl rfl) u) (by
    cases hv : v.ownBlock with
    | none => exact .inl rfl
    | some k => exact .inr (fun e => ha k hv (by injection e with e; exact e.symm)))
/-- What it looks like in memory. -/
theorem To.form (h : To w base v l) (hl : l ≠ []) : ∃ g c, v = .slice (some ⟨g, 0, none⟩) l.length c ∧ l.length ≤ c ∧ base ≤ g ∧ g < w.heap.size ∧
    ∀ i (hi : i < l.length), w.cell? ⟨g, i * 4, none⟩ = some (.int .u8 l[i].k) ∧ w.cell? ⟨g, i * 4 + 1, none⟩ = some (.string (mkS l[i].s)) ∧ w.cell? ⟨g, i * 4 + 2, none⟩ = some (.int .i64 l[i].n) ∧ w.cell? ⟨g, i * 4 + 3, none⟩ = some (.int .i64 l[i].ln) := by
  have hl0 : 0 < l.length := List.length_pos_iff.2 hl
  obtain ⟨hlen, h | ⟨g, cap, cur, rfl, hg, hh, hcap, hm, hs, ht⟩⟩ := h
  · omega
  · refine ⟨g, cap, rfl, hcap, hg, lt_of_block hh, fun i hi => ?_⟩
    have key : ∀ j, j < 4 → w.cell? ⟨g, i * 4 + j, none⟩ = (tokC l[i])[j]? := fun j hj => by
      rw [cell_of_row w g (i * 4 + j) cur _ _ hh, ← tokF_get hi hj, ← ht, List.getElem?_take, if_pos (by omega), Array.getElem?_toList]
    exact ⟨key 0 (by omega), key 1 (by omega), key 2 (by omega), key 3 (by omega)⟩

variable {ops : Array Oper} {rest : List Oper} {o : Oper} {a : Act} {Q : Exit → Act → World → Prop}
/-- 'out = append(out, t)' behind the block that was made for t. -/
theorem append_tok (s x : Operand) (hgd : o.guard = none) (ho : o.op = .call { callee := .builtin .append, args := #[s, x], argTypes := #[99, 99] }) (c : Nat) (t : Tok) (cs : Array Value) (hcs : cs.toList = tokC t)
    (hs : a.eval s = v) (H : Nat) (hx : a.eval x = .slice (some ⟨H, 0, none⟩) 1 c) (hH : W.heap.size = H) (hown : To W base v l)
    (hn : l.length + 1 ≤ 1000000) (hbase : base ≤ W.heap.size)
    (h : ∀ v' w', To w' base v' (l ++ [t]) → W.grownBy w' v.ownBlock → wpList Try.prog ops Q rest (a.put o.dst v') w') :
    wpList Try.prog ops Q (o :: rest) a (W.alloc (.cells cs 111)) := by
  subst hH
  refine wpList_plain hgd fun _ hK => ?_
  obtain ⟨i, hi, hz, hs1, hb⟩ := info_parts info_tok
  obtain ⟨v', w', hrun, h2, h3, _, h5⟩ := run_append_own_at (P := Try.prog) (W.alloc (.cells cs 111)) base 99 o.type 111 i _ 4 40 Try.underlying99 hi hz hs1 hb rfl (by omega) v l.length (tokF l) (hown.alloc _) ⟨W.heap.size, 0, none⟩ 1 c (tokC t)
    rfl (fun j u hj => by
      rw [add_none, Nat.zero_add, cell_of_row _ _ _ _ _ _ (heap_alloc_new W _), ← Array.getElem?_toList, hcs]
      exact hj) (fun u hu => by simp [tokC] at hu; rcases hu with rfl | rfl | rfl | rfl <;> rfl) (by unfold maxLen; omega) (by omega) (by rw [World.size_alloc]; omega)
  unfold Oper.wp execOp
  simp only [ho, resolve, invoke, builtin, Sem.run_bind, Sem.run_pure, Result.andThen_ok, List.map_toArray, List.map_cons, List.map_nil, hs, hx, hrun]
  refine hK _ _ (h v' w' ?_ (nil_grown (World.grownBy_alloc _ _ _) h3))
  show World.ownsRow _ _ _ _ _ _ _
  rw [tokF_app, List.length_append]
  exact h2
end
end Go.Proofs.Ythmpagehmfillaa
