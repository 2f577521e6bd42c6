/-
 THE WALKS OF the document's place, takePlace, operand. Conditions: a parser.
 THE WALKS OF the document's takePlace, operand. Conditions: a parser.
-/
import Derived.Test.YtiadfmhodlbkiaaQ20
namespace Go.Proofs.Ytiadfmhodlbkiaa
open Go.RowKit
set_option linter.unusedSimpArgs false
set_option linter.unusedVariables false
/-- Which place stands next; below 0: none. -/
def placeZ (l : List Tok) : Int :=
 if (hd l).s = [42] then match look regs (hd l.tail).s with
  | some (n + 1) => ((n + 4 : Nat) : Int)
  | _ => -1
 else match look regs (hd l).s with
  | some n => (n : Nat)
  | none => -1
def nameB : Nat → ByteArray
 | 0 => ⟨#[97]⟩
 | 1 => ⟨#[98]⟩
 | 2 => ⟨#[99]⟩
 | _ => ⟨#[100]⟩
theorem nameB_eq {i : Nat} (h : i < 4) : nameB i = mkS [97 + i] := by
 match i, h with
 | 0, _ => rfl
 | 1, _ => rfl
 | 2, _ => rfl
 | 3, _ => rfl
theorem regs_look {i : Nat} (h : i < 4) : look regs [97 + i] = some i := by
 match i, h with
 | 0, _ => rfl
 | 1, _ => rfl
 | 2, _ => rfl
 | 3, _ => rfl
theorem regs_inv {s : List Nat} {n : Nat} (h : look regs s = some n) : n < 4 ∧ s = [97 + n] := by
 have h1 := look_mem h
 have h2 : ∀ x ∈ regs, x.2 < 4 ∧ x.1 = [97 + x.2] := by decide
 exact h2 _ h1
theorem word_k {t : Tok} (ht : TokOk t) {i : Nat} (hi : i < 4) (hs : t.s = [97 + i]) : t.k = 1 := by
 obtain ⟨_, _, _, h | h | h | h⟩ := ht
 · exact h.1
 · rw [hs] at h; exact absurd h.2 (by simp)
 · rw [hs] at h
   have : [97 + i] ∉ signsN := by
    match i, hi with
    | 0, _ => decide
    | 1, _ => decide
    | 2, _ => decide
    | 3, _ => decide
   exact absurd h.2.2 this
 · rw [hs] at h; exact absurd h.2.1 (by simp)
theorem tok_row {w : World} {g : Nat} {ty : TypeId} {t : Tok} (h : w.heap[g]? = some (.cells #[.int .u8 t.k, .string (mkS t.s), .int .i64 t.n, .int .i64 t.ln] ty (0, 0))) : w.rowIs g ty 4 (tokG t) := ⟨_, h, rfl, fun i hi => by
 match i, hi with
 | 0, _ => rfl
 | 1, _ => rfl
 | 2, _ => rfl
 | 3, _ => rfl⟩
section
variable {w w' : World} {B gp : Nat} {l : List Tok} {b : Option Flt} {many : Nat}
/-- The search, from a token. -/
def NoM (star : Bool) (s : List Nat) (i : Nat) : Prop := ∀ m, m < i → ¬ (s = [97 + m] ∧ (star = false ∨ 0 < m))
theorem noM_none {star : Bool} {s : List Nat} (h : NoM star s 4) (hs : star = false) : look regs s = none := by
 cases hl : look regs s with
 | none => rfl
 | some n =>
   obtain ⟨h1, h2⟩ := regs_inv hl
   exact absurd ⟨h2, .inl hs⟩ (h n h1)
theorem noM_star {star : Bool} {s : List Nat} (h : NoM star s 4) : look regs s = none ∨ look regs s = some 0 := by
 cases hl : look regs s with
 | none => exact .inl rfl
 | some n =>
   obtain ⟨h1, h2⟩ := regs_inv hl
   cases n with
   | zero => exact .inr rfl
   | succ n => exact absurd ⟨h2, .inr (Nat.succ_pos n)⟩ (h (n + 1) h1)
theorem NoM.next {star : Bool} {s : List Nat} {i : Nat} (h : NoM star s i) (hn : ¬ (s = [97 + i] ∧ (star = false ∨ 0 < i))) : NoM star s (i + 1) := by
 intro m hm
 rcases Nat.lt_or_ge m i with h1 | h1
 · exact h m h1
 · have : m = i := by omega
   rw [this]; exact hn
set_option maxRecDepth 100000 in
set_option maxHeartbeats 4000000 in
theorem rplace_any (h : RS B w gp l b many) : Calls Try.prog 103 #[.pointer (some ⟨gp, 0, none⟩)] w fun e w' => e = .returned (.int .i64 (placeZ l)) ∧ Below w.heap.size w w' := by
 obtain ⟨z, hz⟩ : ∃ z, z = placeZ l := ⟨_, rfl⟩
 rw [← hz]
 have HZ := Lib.hid hz
 have HI := Lib.hid (ris_any h ⟨#[42]⟩ [42] rfl (by decide) (by decide))
 have HW := Lib.hid (And.intro h.bw h.bp)
 have H := Lib.hid h
 clear hz h
 obtain ⟨star, hst⟩ : ∃ star, star = decide ((hd l).s = [42]) := ⟨_, rfl⟩
 rw [← hst] at HI
 have HST := Lib.hid hst
 clear hst
 go_enter Try.func103, Try.ntmps103
 go_wp2_with fail
 refine HI.out.mono ?_
 rintro e w1 ⟨rfl, hb1⟩
 have HN := Lib.hid (rnow_any (H.out.below hb1))
 have HB1 := Lib.hid hb1
 clear hb1 HI
 go_wp2_with fail
 refine HN.out.mono ?_
 rintro e w2 ⟨rfl, hb2⟩
 have hb3 := (HB1.out.trans (hb2.mono HB1.out.size)).alloc (Nat.le_trans HB1.out.size hb2.size) (.cells #[.int .u8 (hd l).k, .string (mkS (hd l).s), .int .i64 (hd l).n, .int .i64 (hd l).ln] 60)
 obtain ⟨d0, d1, d2, d3⟩ := al_four w2 (hd l)
 have HD := Lib.hid (al_four w2 (hd l))
 have HB3 := Lib.hid hb3
 have HH := Lib.hid (heap_alloc_new w2 (.cells #[.int .u8 (hd l).k, .string (mkS (hd l).s), .int .i64 (hd l).n, .int .i64 (hd l).ln] 60))
 have HN4 : Hid (gp < w2.heap.size ∧ w.heap.size ≤ w2.heap.size) := by have := HW.out; have := HB1.out.size; have := hb2.size; unfold Hid; omega
 clear hb2 hb3 HN HB1
 cases star with
 | false =>
   have hst : (hd l).s ≠ [42] := of_decide_eq_false HST.out.symm
   have HOK := Lib.hid H.out.tl.hd_ok
   have hzz : z = match look regs (hd l).s with
    | some n => ((n : Nat) : Int)
    | none => -1 := by rw [HZ.out, placeZ, if_neg hst]
   have HZZ := Lib.hid hzz
   clear hst hzz HZ HST
   obtain ⟨s, hss⟩ : ∃ s, s = (hd l).s := ⟨_, rfl⟩
   obtain ⟨kk, hkk⟩ : ∃ kk, kk = (hd l).k := ⟨_, rfl⟩
   have HSS := Lib.hid hss
   have HS8 : Hid (∀ x ∈ s, x < 256) := by rw [hss]; exact HOK.out.1
   have HKK : Hid (∀ i, i < 4 → s = [97 + i] → kk = 1) := fun i hi e => by rw [hkk]; exact word_k HOK.out hi (by rw [← hss]; exact e)
   go_wp2_with fail
   rw [show w2.heap.size + 1 = (w2.alloc (.cells #[.int .u8 (hd l).k, .string (mkS (hd l).s), .int .i64 (hd l).n, .int .i64 (hd l).ln] 60)).heap.size from (World.size_alloc _ _).symm]
   have hg4 : w2.heap.size < (w2.alloc (.cells #[.int .u8 (hd l).k, .string (mkS (hd l).s), .int .i64 (hd l).n, .int .i64 (hd l).ln] 60)).heap.size := by rw [World.size_alloc]; omega
   clear d0 d1 d2 d3 HH
   generalize w2.alloc (.cells #[.int .u8 (hd l).k, .string (mkS (hd l).s), .int .i64 (hd l).n, .int .i64 (hd l).ln] 60) = Y at *
   generalize w2.heap.size = g4 at *
   have hc0 : (Y.alloc zZ9).cell? ⟨g4, 0, none⟩ = some (.int .u8 kk) := by
    rw [hkk]; exact (World.cell?_of_block (Below.heap_alloc _ _ g4 hg4)).trans HD.out.1
   have hc1 : (Y.alloc zZ9).cell? ⟨g4, 1, none⟩ = some (.string (mkS s)) := by
    rw [hss]; exact (World.cell?_of_block (Below.heap_alloc _ _ g4 hg4)).trans (by first | exact HD.out.2.1 | exact HD.out.2)
   have hcn : ∀ i, i < 4 → (Y.alloc zZ9).cell? ⟨World.heap Y |>.size, i, none⟩ = some (.string (nameB i)) := fun i hi => by
    rw [cell_of_row _ _ _ _ _ _ (heap_alloc_new _ _)]
    match i, hi with
    | 0, _ => rfl
    | 1, _ => rfl
    | 2, _ => rfl
    | 3, _ => rfl
   have hbx := HB3.out.alloc HB3.out.size zZ9
   generalize World.alloc Y zZ9 = X at *
   generalize (World.heap Y).size = g5 at *
   have HC0 := Lib.hid hc0
   have HC1 := Lib.hid hc1
   have HCN := Lib.hid hcn
   have HBX := Lib.hid hbx
   clear hc0 hc1 hcn hbx hkk hss
   have R0 : ∃ i n : Nat, (Value.int .i64 0) = .int .i64 i ∧ i ≤ 4 ∧ X = World.drewN X n ∧ NoM false s i := ⟨0, 0, rfl, by omega, rfl, fun m hm => by omega⟩
   go_loopw [6] (fun v wr => ∃ i n : Nat, v = .int .i64 i ∧ i ≤ 4 ∧ wr = World.drewN X n ∧ NoM false s i) (fun v _ => 4 - (intOf v).toNat)
   case atStart => exact R0
   case round =>
    clear R0
    obtain ⟨i, n, rfl, hi, rfl, hno⟩ := hrel
    by_cases h4 : i < 4
    · have iI : (i : Int) < 4 := by omega
      have i0 : (0 : Int) ≤ i := by omega
      have iT : ((i : Int)).toNat = i := by omega
      have hwi : IntKind.i64.wrap ((i : Int) + 1) = ((i + 1 : Nat) : Int) := by rw [IntKind.wrap_i64]; omega; all_goals omega
      have c0 : World.cell? X ⟨g4, 0, none⟩ = some (.int .u8 kk) := HC0.out
      have c1 : World.cell? X ⟨g4, 1, none⟩ = some (.string (mkS s)) := HC1.out
      have cn : World.cell? X ⟨g5, i, none⟩ = some (.string (nameB i)) := HCN.out i h4
      have he := mkS_eq (a := s) (b := [97 + i]) HS8.out (by intro x hx; rw [List.mem_singleton.1 hx]; omega)
      rw [← nameB_eq h4] at he
      have HH4 := Lib.hid h4
      by_cases hm : s = [97 + i]
      · have hk1 := HKK.out i h4 hm
        have hkI : ((kk : Int) == 1) = true := by rw [hk1]; rfl
        have HM := Lib.hid hm
        rw [decide_eq_true hm] at he
        clear hm hk1
        generalize nameB i = nb at *
        have hz : z = (i : Nat) := by rw [HZZ.out, ← HSS.out, HM.out, regs_look HH4.out]
        go_wp2_with fail
        go_quiet (fail)
        go_wp2_with fail
        go_ret
        first | exact ⟨by rw [hz]; rfl, below_drewN' (below_drewN' HBX.out _) _⟩ | exact ⟨by rw [hz]; rfl, below_drewN' HBX.out _⟩ | exact ⟨by rw [hz], below_drewN' HBX.out _⟩
      · rw [decide_eq_false hm] at he
        have HNO := Lib.hid (hno.next (fun e => hm e.1))
        clear hm hno
        generalize nameB i = nb at *
        by_cases hk : kk = 1
        · have hkI : ((kk : Int) == 1) = true := by rw [hk]; rfl
          clear hk
          go_wp2_with fail
          go_quiet (fail)
          go_wp2_with fail
          go_roundw
          case rel => exact ⟨i + 1, n + nq, by go_num, by omega, rfl, HNO.out⟩
          case measure => show 4 - (i + 1 : Nat) < 4 - i; omega
        · have hkI : ((kk : Int) == 1) = false := by rw [beq_eq_false_iff_ne]; omega
          clear hk
          go_wp2_with fail
          go_quiet (fail)
          go_wp2_with fail
          go_roundw
          case rel => exact ⟨i + 1, n + nq, by go_num, by omega, rfl, HNO.out⟩
          case measure => show 4 - (i + 1 : Nat) < 4 - i; omega
    · have h44 : i = 4 := by omega
      subst h44
      have HNO := Lib.hid hno
      clear hno
      go_wp2_with fail
      go_ret
      have hl := noM_none HNO.out rfl
      refine ⟨?_, below_drewN' HBX.out _⟩
      rw [HZZ.out, ← HSS.out, hl]
      rfl
 | true =>
   have hst : (hd l).s = [42] := of_decide_eq_true HST.out.symm
   have hk4 : (hd l).k ≠ 4 := (H.out.tl.hd_s (by rw [hst]; decide)).1
   have htl := H.out.tl.tail hk4
   have HOK := Lib.hid htl.1.hd_ok
   have hzz : z = match look regs (hd l.tail).s with
    | some (n + 1) => ((n + 4 : Nat) : Int)
    | _ => -1 := by rw [HZ.out, placeZ, if_pos hst]
   have HZZ := Lib.hid hzz
   have HK4 := Lib.hid hk4
   clear hzz HZ HST hst hk4
   go_wp2_with fail
   have hg4 : w2.heap.size < (w2.alloc (.cells #[.int .u8 (hd l).k, .string (mkS (hd l).s), .int .i64 (hd l).n, .int .i64 (hd l).ln] 60)).heap.size := by rw [World.size_alloc]; omega
   have h3 := H.out.below HB3.out
   have hr4 := tok_row (heap_alloc_new w2 (.cells #[.int .u8 (hd l).k, .string (mkS (hd l).s), .int .i64 (hd l).n, .int .i64 (hd l).ln] 60))
   clear d0 d1 d2 d3 HH HD
   generalize w2.alloc (.cells #[.int .u8 (hd l).k, .string (mkS (hd l).s), .int .i64 (hd l).n, .int .i64 (hd l).ln] 60) = Y at *
   generalize hg4e : w2.heap.size = g4 at *
   obtain ⟨g, c, L, k, q1, q2, q3, q4, q5, q6, q7, q8⟩ := h3.ex
   have q7' : L.drop (k + 1) = l.tail := by rw [← q7, List.tail_drop]
   obtain ⟨hkl, t0, t1, t2, t3⟩ := q6.at q7' htl.1
   have f0 : Y.cell? ⟨gp, 0, none⟩ = some (.slice (some ⟨g, 0, none⟩) L.length c) := q1.cell (show 0 < 5 by omega)
   have f1 : Y.cell? ⟨gp, 1, none⟩ = some (.int .i64 k) := q1.cell (show 1 < 5 by omega)
   obtain ⟨n, hn⟩ : ∃ n, n = L.length := ⟨_, rfl⟩
   rw [← hn] at f0 hkl q8
   have hw2 : IntKind.i64.wrap ((k : Int) + 1) = ((k + 1 : Nat) : Int) := by rw [IntKind.wrap_i64]; omega; all_goals omega
   obtain ⟨k1, hk1⟩ : ∃ k1, k1 = k + 1 := ⟨_, rfl⟩
   rw [← hk1] at hw2 hkl t0 t1 t2 t3
   have hlt : (k1 : Int) < n := by omega
   have hlt0 : (0 : Int) ≤ k1 := by omega
   have hltn : ((k1 : Int)).toNat = k1 := by omega
   have n1 : gp ≠ g4 := by have := HW.out; have := HN4.out; omega
   have n2 : g ≠ g4 := by have := HW.out; have := HN4.out; omega
   obtain ⟨tt, htt⟩ : ∃ tt, tt = hd l.tail := ⟨_, rfl⟩
   rw [← htt] at t0 t1 t2 t3 HOK HZZ
   have HR4 := Lib.hid hr4
   have HTT := Lib.hid htt
   have HG4 := Lib.hid hg4
   clear h3 hr4 q1 q6 q7 q7' hn hk1 htt htl
   go_quiet (fail)
   have HY : Hid (∀ p, (Y.drewN nq).cell? p = Y.cell? p) := fun p => rfl
   have f0' := (HY.out ⟨gp, 0, none⟩).trans f0
   have f1' := (HY.out ⟨gp, 1, none⟩).trans f1
   have t0' := (HY.out ⟨g, k1 * 4, none⟩).trans t0
   have t1' := (HY.out ⟨g, k1 * 4 + 1, none⟩).trans t1
   have t2' := (HY.out ⟨g, k1 * 4 + 2, none⟩).trans t2
   have t3' := (HY.out ⟨g, k1 * 4 + 3, none⟩).trans t3
   have HBV := Lib.hid (below_drewN' HB3.out nq)
   have HRV := Lib.hid (rowIs_drewN' HR4.out nq)
   have HGV : Hid (g4 < (Y.drewN nq).heap.size) := HG4.out
   clear HY f0 f1 t0 t1 t2 t3 HB3 HR4
   generalize Y.drewN nq = V at *
   have b0 := HRV.out.cell (show 0 < 4 by omega)
   have b1 := HRV.out.cell (show 1 < 4 by omega)
   have b2 := HRV.out.cell (show 2 < 4 by omega)
   have b3 := HRV.out.cell (show 3 < 4 by omega)
   dsimp only [tokG] at b0 b1 b2 b3
   have z0 := HRV.out.frozen 0
   have z1 := HRV.out.frozen 1
   have z2 := HRV.out.frozen 2
   have z3 := HRV.out.frozen 3
   go_wp2_with fail
   refine wp_region_still_tail 11 (by kernel_rfl) (by kernel_rfl) ?_
   simp only [List.take_succ_cons, List.take_zero, List.drop_succ_cons, List.drop_zero]
   repeat still_step
   try refine wpStill_nil ?_
   change wpList _ _ _ _ _ V.drew
   go_wp2_with fail
   have hd4 := tok_all tt HRV.out
   have hbz := below_drewN' ((((HBV.out.setCell (p := ⟨g4, 0, none⟩) (by have := HN4.out; show w.heap.size ≤ g4; omega) (.int .u8 tt.k)).setCell (p := ⟨g4, 1, none⟩) (by have := HN4.out; show w.heap.size ≤ g4; omega) (.string (mkS tt.s))).setCell (p := ⟨g4, 2, none⟩) (by have := HN4.out; show w.heap.size ≤ g4; omega) (.int .i64 tt.n)).setCell (p := ⟨g4, 3, none⟩) (by have := HN4.out; show w.heap.size ≤ g4; omega) (.int .i64 tt.ln)) 1
   have hd5 := rowIs_drewN' hd4 1
   rw [show ∀ W : World, W.drewN 1 = W.drew from fun _ => rfl] at hbz hd5
   rw [show World.drew (((((V.setCell ⟨g4, 0, none⟩ (.int .u8 tt.k)).setCell ⟨g4, 1, none⟩ (.string (mkS tt.s))).setCell ⟨g4, 2, none⟩ (.int .i64 tt.n)).setCell ⟨g4, 3, none⟩ (.int .i64 tt.ln)).alloc zZ9) = World.alloc (World.drew ((((V.setCell ⟨g4, 0, none⟩ (.int .u8 tt.k)).setCell ⟨g4, 1, none⟩ (.string (mkS tt.s))).setCell ⟨g4, 2, none⟩ (.int .i64 tt.n)).setCell ⟨g4, 3, none⟩ (.int .i64 tt.ln))) zZ9 from rfl]
   rw [show V.heap.size = (World.drew ((((V.setCell ⟨g4, 0, none⟩ (.int .u8 tt.k)).setCell ⟨g4, 1, none⟩ (.string (mkS tt.s))).setCell ⟨g4, 2, none⟩ (.int .i64 tt.n)).setCell ⟨g4, 3, none⟩ (.int .i64 tt.ln))).heap.size by simp [World.setCell, World.drew]]
   have hg4 : g4 < (World.drew ((((V.setCell ⟨g4, 0, none⟩ (.int .u8 tt.k)).setCell ⟨g4, 1, none⟩ (.string (mkS tt.s))).setCell ⟨g4, 2, none⟩ (.int .i64 tt.n)).setCell ⟨g4, 3, none⟩ (.int .i64 tt.ln))).heap.size := hd5.lt
   clear f0' f1' t0' t1' t2' t3' b0 b1 b2 b3 z0 z1 z2 z3 HRV HBV HGV hd4 HG4
   generalize World.drew ((((V.setCell ⟨g4, 0, none⟩ (.int .u8 tt.k)).setCell ⟨g4, 1, none⟩ (.string (mkS tt.s))).setCell ⟨g4, 2, none⟩ (.int .i64 tt.n)).setCell ⟨g4, 3, none⟩ (.int .i64 tt.ln)) = Z at *
   have HD : Hid (Z.cell? ⟨g4, 0, none⟩ = some (.int .u8 tt.k) ∧ Z.cell? ⟨g4, 1, none⟩ = some (.string (mkS tt.s))) := ⟨hd5.cell (show 0 < 4 by omega), hd5.cell (show 1 < 4 by omega)⟩
   have HB3 := Lib.hid hbz
   clear hbz hd5
   obtain ⟨s, hss⟩ : ∃ s, s = (tt).s := ⟨_, rfl⟩
   obtain ⟨kk, hkk⟩ : ∃ kk, kk = (tt).k := ⟨_, rfl⟩
   have HSS := Lib.hid hss
   have HS8 : Hid (∀ x ∈ s, x < 256) := by rw [hss]; exact HOK.out.1
   have HKK : Hid (∀ i, i < 4 → s = [97 + i] → kk = 1) := fun i hi e => by rw [hkk]; exact word_k HOK.out hi (by rw [← hss]; exact e)
   have hc0 : (Z.alloc zZ9).cell? ⟨g4, 0, none⟩ = some (.int .u8 kk) := by
    rw [hkk]; exact (World.cell?_of_block (Below.heap_alloc _ _ g4 hg4)).trans HD.out.1
   have hc1 : (Z.alloc zZ9).cell? ⟨g4, 1, none⟩ = some (.string (mkS s)) := by
    rw [hss]; exact (World.cell?_of_block (Below.heap_alloc _ _ g4 hg4)).trans (by first | exact HD.out.2.1 | exact HD.out.2)
   have hcn : ∀ i, i < 4 → (Z.alloc zZ9).cell? ⟨World.heap Z |>.size, i, none⟩ = some (.string (nameB i)) := fun i hi => by
    rw [cell_of_row _ _ _ _ _ _ (heap_alloc_new _ _)]
    match i, hi with
    | 0, _ => rfl
    | 1, _ => rfl
    | 2, _ => rfl
    | 3, _ => rfl
   have hbx := HB3.out.alloc HB3.out.size zZ9
   generalize World.alloc Z zZ9 = X at *
   generalize (World.heap Z).size = g5 at *
   have HC0 := Lib.hid hc0
   have HC1 := Lib.hid hc1
   have HCN := Lib.hid hcn
   have HBX := Lib.hid hbx
   clear hc0 hc1 hcn hbx hkk hss
   have R0 : ∃ i n : Nat, (Value.int .i64 0) = .int .i64 i ∧ i ≤ 4 ∧ X = World.drewN X n ∧ NoM true s i := ⟨0, 0, rfl, by omega, rfl, fun m hm => by omega⟩
   go_loopw [6] (fun v wr => ∃ i n : Nat, v = .int .i64 i ∧ i ≤ 4 ∧ wr = World.drewN X n ∧ NoM true s i) (fun v _ => 4 - (intOf v).toNat)
   case atStart => exact R0
   case round =>
    clear R0
    obtain ⟨i, n, rfl, hi, rfl, hno⟩ := hrel
    by_cases h4 : i < 4
    · have iI : (i : Int) < 4 := by omega
      have i0 : (0 : Int) ≤ i := by omega
      have iT : ((i : Int)).toNat = i := by omega
      have hwi : IntKind.i64.wrap ((i : Int) + 1) = ((i + 1 : Nat) : Int) := by rw [IntKind.wrap_i64]; omega; all_goals omega
      have c0 : World.cell? X ⟨g4, 0, none⟩ = some (.int .u8 kk) := HC0.out
      have c1 : World.cell? X ⟨g4, 1, none⟩ = some (.string (mkS s)) := HC1.out
      have cn : World.cell? X ⟨g5, i, none⟩ = some (.string (nameB i)) := HCN.out i h4
      have he := mkS_eq (a := s) (b := [97 + i]) HS8.out (by intro x hx; rw [List.mem_singleton.1 hx]; omega)
      rw [← nameB_eq h4] at he
      have HH4 := Lib.hid h4
      by_cases hm : s = [97 + i]
      · have hk1 := HKK.out i h4 hm
        have hkI : ((kk : Int) == 1) = true := by rw [hk1]; rfl
        have HM := Lib.hid hm
        rw [decide_eq_true hm] at he
        clear hm hk1
        generalize nameB i = nb at *
        by_cases hi0 : i = 0
        · have hiI : ¬ (0 : Int) < i := by omega
          have HNO := Lib.hid (hno.next (fun e => by
           rcases e.2 with e | e
           · cases e
           · omega))
          clear hno
          clear hi0
          go_wp2_with fail
          go_quiet (fail)
          go_wp2_with fail
          go_roundw
          case rel => exact ⟨i + 1, n + nq, by go_num, by omega, rfl, HNO.out⟩
          case measure => show 4 - (i + 1 : Nat) < 4 - i; omega
        · have hiI : (0 : Int) < i := by omega
          obtain ⟨i', hi'⟩ : ∃ i', i = i' + 1 := ⟨i - 1, by omega⟩
          have hz : z = ((i + 3 : Nat) : Int) := by
           rw [HZZ.out, ← HSS.out, HM.out, regs_look HH4.out, hi']
          have hw3 : IntKind.i64.wrap ((i : Int) + 3) = ((i + 3 : Nat) : Int) := by rw [IntKind.wrap_i64]; omega; all_goals omega
          clear hi' hi0 hno
          go_wp2_with fail
          go_quiet (fail)
          go_wp2_with fail
          go_ret
          first | exact ⟨by rw [hz]; rfl, below_drewN' (below_drewN' HBX.out _) _⟩ | exact ⟨by rw [hz]; rfl, below_drewN' HBX.out _⟩ | exact ⟨by rw [hz], below_drewN' HBX.out _⟩
      · rw [decide_eq_false hm] at he
        have HNO := Lib.hid (hno.next (fun e => hm e.1))
        clear hm hno
        generalize nameB i = nb at *
        by_cases hk : kk = 1
        · have hkI : ((kk : Int) == 1) = true := by rw [hk]; rfl
          clear hk
          go_wp2_with fail
          go_quiet (fail)
          go_wp2_with fail
          go_roundw
          case rel => exact ⟨i + 1, n + nq, by go_num, by omega, rfl, HNO.out⟩
          case measure => show 4 - (i + 1 : Nat) < 4 - i; omega
        · have hkI : ((kk : Int) == 1) = false := by rw [beq_eq_false_iff_ne]; omega
          clear hk
          go_wp2_with fail
          go_quiet (fail)
          go_wp2_with fail
          go_roundw
          case rel => exact ⟨i + 1, n + nq, by go_num, by omega, rfl, HNO.out⟩
          case measure => show 4 - (i + 1 : Nat) < 4 - i; omega
    · have h44 : i = 4 := by omega
      subst h44
      have HNO := Lib.hid hno
      clear hno
      go_wp2_with fail
      go_ret
      refine ⟨?_, below_drewN' HBX.out _⟩
      rcases noM_star HNO.out with hl | hl
      · rw [HZZ.out, ← HSS.out, hl]; rfl
      · rw [HZZ.out, ← HSS.out, hl]; rfl
end
end Go.Proofs.Ytiadfmhodlbkiaa
namespace Go.Proofs.Ytiadfmhodlbkiaa
open Go.RowKit
set_option linter.unusedSimpArgs false
set_option linter.unusedVariables false
section
variable {w w' W0 : World} {B gp gi : Nat} {l : List Tok} {b : Option Flt} {many : Nat}
set_option maxRecDepth 100000 in
set_option maxHeartbeats 4000000 in
theorem rtakeplace_any (h : RS B w gp l b many) : Calls Try.prog 92 #[.pointer (some ⟨gp, 0, none⟩)] w fun e w' => ∃ n l' b', n ≤ 6 ∧ e = .returned (.int .i64 (n : Nat)) ∧ RS B w' gp l' b' many ∧ Rel place l b n l' b' ∧ w.grownBy w' (some gp) := by
 obtain ⟨g, c, L, k, q1, q2, q3, q4, q5, q6, q7, q8⟩ := h.ex
 have f2 : w.cell? ⟨gp, 2, none⟩ = some (.int .i64 (erO b : Nat)) := q1.cell (show 2 < 5 by omega)
 have H := Lib.hid h
 cases b with
 | some x =>
   have hx : (((erO (some x) : Nat) : Int) != 0) = true := by have := h.er x rfl; rw [bne_iff_ne]; show ((x.1 : Nat) : Int) ≠ 0; omega
   clear h q1 q6
   go_enter Try.func92, Try.ntmps92
   go_wp2_with fail
   go_ret
   exact ⟨0, l, _, by omega, rfl, H.out, rfl, zf _ _⟩
 | none =>
   have f2' : w.cell? ⟨gp, 2, none⟩ = some (.int .i64 0) := f2
   have HP := Lib.hid (rplace_any h)
   obtain ⟨z, hz⟩ : ∃ z, z = placeZ l := ⟨_, rfl⟩
   rw [← hz] at HP
   have HZ := Lib.hid hz
   clear f2 h q1 q6 hz
   go_enter Try.func92, Try.ntmps92
   go_wp2_with fail
   refine HP.out.mono ?_
   rintro e w1 ⟨rfl, hb⟩
   have h1 := H.out.below hb
   have g1 := zb hb (some gp)
   clear f2' HP hb
   by_cases hst : (hd l).s = [42]
   · have hk4 : (hd l).k ≠ 4 := (h1.tl.hd_s (by rw [hst]; decide)).1
     have HST := Lib.hid hst
     have HK4 := Lib.hid hk4
     cases hlk : look regs (hd l.tail).s with
     | none =>
       have hz : z = -1 := by rw [HZ.out, placeZ, if_pos hst, hlk]
       have hneg : z < 0 := by omega
       have HLK := Lib.hid hlk
       clear hz hst hk4 hlk
       have hi := ris_any h1 ⟨#[42]⟩ [42] rfl (by decide) (by decide)
       rw [decide_eq_true HST.out] at hi
       have HI := Lib.hid hi
       have H1 := Lib.hid h1
       have G1 := Lib.hid g1
       clear hi h1 g1
       go_wp2_with fail
       refine HI.out.mono ?_
       rintro e w2 ⟨rfl, hb⟩
       have h2 := H1.out.below hb
       have g2 := zd G1.out (zb hb (some gp))
       have hs1 := rstep_any h2
       rw [if_neg HK4.out] at hs1
       clear hb HI
       have HM := Lib.hid (hs1)
       have HHG := Lib.hid g2
       clear g2
       go_wp2_with fail
       refine HM.out.mono ?_
       rintro e w3 ⟨rfl, h3, hgn⟩
       have g3 := zd HHG.out hgn
       clear hgn HM HHG
       clear hs1 h2
       have HM := Lib.hid (rfail_any h3 121 (by decide))
       have HHG := Lib.hid g3
       clear g3
       go_wp2_with fail
       refine HM.out.mono ?_
       rintro e w4 ⟨rfl, h4, hgn⟩
       have g4 := zd HHG.out hgn
       clear hgn HM HHG
       have H5 := Lib.hid h4
       have G5 := Lib.hid g4
       clear h4 g4 h3
       go_wp2_with fail
       go_ret
       refine ⟨0, l.tail, _, by omega, rfl, H5.out, ?_, G5.out⟩
       unfold Rel place
       rw [if_pos HST.out, HLK.out]
       rfl
     | some n =>
       have hn := regs_inv hlk
       cases n with
       | zero =>
         have hz : z = -1 := by rw [HZ.out, placeZ, if_pos hst, hlk]
         have hneg : z < 0 := by omega
         have HLK := Lib.hid hlk
         clear hz hst hk4 hlk hn
         have hi := ris_any h1 ⟨#[42]⟩ [42] rfl (by decide) (by decide)
         rw [decide_eq_true HST.out] at hi
         have HI := Lib.hid hi
         have H1 := Lib.hid h1
         have G1 := Lib.hid g1
         clear hi h1 g1
         go_wp2_with fail
         refine HI.out.mono ?_
         rintro e w2 ⟨rfl, hb⟩
         have h2 := H1.out.below hb
         have g2 := zd G1.out (zb hb (some gp))
         have hs1 := rstep_any h2
         rw [if_neg HK4.out] at hs1
         clear hb HI
         have HM := Lib.hid (hs1)
         have HHG := Lib.hid g2
         clear g2
         go_wp2_with fail
         refine HM.out.mono ?_
         rintro e w3 ⟨rfl, h3, hgn⟩
         have g3 := zd HHG.out hgn
         clear hgn HM HHG
         clear hs1 h2
         have HM := Lib.hid (rfail_any h3 121 (by decide))
         have HHG := Lib.hid g3
         clear g3
         go_wp2_with fail
         refine HM.out.mono ?_
         rintro e w4 ⟨rfl, h4, hgn⟩
         have g4 := zd HHG.out hgn
         clear hgn HM HHG
         have H5 := Lib.hid h4
         have G5 := Lib.hid g4
         clear h4 g4 h3
         go_wp2_with fail
         go_ret
         refine ⟨0, l.tail, _, by omega, rfl, H5.out, ?_, G5.out⟩
         unfold Rel place
         rw [if_pos HST.out, HLK.out]
         rfl
       | succ n =>
         have hz : z = ((n + 4 : Nat) : Int) := by rw [HZ.out, placeZ, if_pos hst, hlk]
         have hneg : ¬ z < 0 := by omega
         have hz3 : (3 : Int) < z := by omega
         have HZV := Lib.hid hz
         have HLK := Lib.hid hlk
         have HN := Lib.hid hn.1
         have hk42 : (hd l.tail).k ≠ 4 := ((h1.tl.tail hk4).1.hd_s (by rw [hn.2]; simp)).1
         have HK42 := Lib.hid hk42
         clear hz hst hk4 hlk hn hk42
         have hs1 := rstep_any h1
         rw [if_neg HK4.out] at hs1
         have HM := Lib.hid (hs1)
         have HHG := Lib.hid g1
         clear g1
         go_wp2_with fail
         refine HM.out.mono ?_
         rintro e w2 ⟨rfl, h2, hgn⟩
         have g2 := zd HHG.out hgn
         clear hgn HM HHG
         clear hs1 h1
         have hs2 := rstep_any h2
         rw [if_neg HK42.out] at hs2
         have HM := Lib.hid (hs2)
         have HHG := Lib.hid g2
         clear g2
         go_wp2_with fail
         refine HM.out.mono ?_
         rintro e w3 ⟨rfl, h3, hgn⟩
         have g3 := zd HHG.out hgn
         clear hgn HM HHG
         clear hs2 h2
         have H3 := Lib.hid h3
         have G3 := Lib.hid g3
         clear h3 g3
         go_wp2_with fail
         go_ret
         refine ⟨n + 4, l.tail.tail, none, by have := HN.out; omega, by rw [HZV.out]; rfl, H3.out, ?_, G3.out⟩
         unfold Rel place
         rw [if_pos HST.out, HLK.out]
         exact ⟨by trivial, by trivial, by trivial⟩
   · have HST := Lib.hid hst
     cases hlk : look regs (hd l).s with
     | none =>
       have hz : z = -1 := by rw [HZ.out, placeZ, if_neg hst, hlk]
       have hneg : z < 0 := by omega
       have HLK := Lib.hid hlk
       clear hz hst hlk
       have hi := ris_any h1 ⟨#[42]⟩ [42] rfl (by decide) (by decide)
       rw [decide_eq_false HST.out] at hi
       have HI := Lib.hid hi
       have H1 := Lib.hid h1
       have G1 := Lib.hid g1
       clear hi h1 g1
       go_wp2_with fail
       refine HI.out.mono ?_
       rintro e w2 ⟨rfl, hb⟩
       have h2 := H1.out.below hb
       have g2 := zd G1.out (zb hb (some gp))
       clear hb HI
       have HM := Lib.hid (rfail_any h2 121 (by decide))
       have HHG := Lib.hid g2
       clear g2
       go_wp2_with fail
       refine HM.out.mono ?_
       rintro e w3 ⟨rfl, h3, hgn⟩
       have g3 := zd HHG.out hgn
       clear hgn HM HHG
       have H3 := Lib.hid h3
       have G3 := Lib.hid g3
       clear h3 g3 h2
       go_wp2_with fail
       go_ret
       refine ⟨0, l, _, by omega, rfl, H3.out, ?_, G3.out⟩
       unfold Rel place
       rw [if_neg HST.out, HLK.out]
       rfl
     | some n =>
       have hn := regs_inv hlk
       have hz : z = (n : Nat) := by rw [HZ.out, placeZ, if_neg hst, hlk]
       have hneg : ¬ z < 0 := by omega
       have hz3 : ¬ (3 : Int) < z := by omega
       have HZV := Lib.hid hz
       have HLK := Lib.hid hlk
       have HN := Lib.hid hn.1
       have hk4 : (hd l).k ≠ 4 := (h1.tl.hd_s (by rw [hn.2]; simp)).1
       have HK4 := Lib.hid hk4
       clear hz hst hlk hn hk4
       have hs1 := rstep_any h1
       rw [if_neg HK4.out] at hs1
       have HM := Lib.hid (hs1)
       have HHG := Lib.hid g1
       clear g1
       go_wp2_with fail
       refine HM.out.mono ?_
       rintro e w2 ⟨rfl, h2, hgn⟩
       have g2 := zd HHG.out hgn
       clear hgn HM HHG
       have H2 := Lib.hid h2
       have G2 := Lib.hid g2
       clear h2 g2 hs1 h1
       go_wp2_with fail
       go_ret
       refine ⟨n, l.tail, none, by have := HN.out; omega, by rw [HZV.out]; rfl, H2.out, ?_, G2.out⟩
       unfold Rel place
       rw [if_neg HST.out, HLK.out]
       exact ⟨by trivial, by trivial, by trivial⟩
theorem rel_opN {n m : Nat} {b' : Option Flt} {l' : List Tok} (hk : (hd l).k = 2) (hr : Rel (num 255) l b m l' b') : Rel operand l b (7, m) l' b' := by
 unfold Rel at hr ⊢
 unfold operand
 rw [if_pos hk]
 cases b with
 | some e => exact hr
 | none =>
   cases hq : num 255 l with
   | error e => rw [hq] at hr; exact hr
   | ok y => rw [hq] at hr; obtain ⟨h1, h2, h3⟩ := hr; exact ⟨h1, by rw [h2], h3⟩
theorem rel_opP {m : Nat} {b' : Option Flt} {l' : List Tok} (hk : b = none → (hd l).k ≠ 2) (hr : Rel place l b m l' b') : Rel operand l b (m, 0) l' b' := by
 unfold Rel at hr ⊢
 cases b with
 | some e => exact hr
 | none =>
   unfold operand
   rw [if_neg (hk rfl)]
   cases hq : place l with
   | error e => rw [hq] at hr; exact hr
   | ok y => rw [hq] at hr; obtain ⟨h1, h2, h3⟩ := hr; exact ⟨h1, by rw [h2], h3⟩
set_option maxRecDepth 100000 in
set_option maxHeartbeats 4000000 in
theorem roperand_any (h : RS B w gp l b many) (hW : W0.grownBy w (some gp)) (hW0 : W0.heap.size ≤ gi) (hB : B ≤ gi) {t n o : Nat} {f : Nat → Value} (hi : w.rowIs gi t n f) (ho : o + 3 < n) (f3 : f (o + 2 + 1) = .int .i64 0) :
  Calls Try.prog 105 #[.pointer (some ⟨gp, 0, none⟩), .pointer (some ⟨gi, o, none⟩)] w fun e w' => e = .returned (.tuple #[]) ∧ ∃ s m l' b', s ≤ 7 ∧ m ≤ 65535 ∧ RS B w' gp l' b' many ∧ w'.rowIs gi t n (up2 f (o + 2) (.int .i64 (s : Nat)) (.int .i64 (m : Nat))) ∧ Rel operand l b (s, m) l' b' ∧ W0.grownBy w' (some gp) := by
 obtain ⟨g, c, L, k, q1, q2, q3, q4, q5, q6, q7, q8⟩ := h.ex
 have f2 : w.cell? ⟨gp, 2, none⟩ = some (.int .i64 (erO b : Nat)) := q1.cell (show 2 < 5 by omega)
 have hgg : gi ≠ gp := by have := h.bp; omega
 have HGG := Lib.hid hgg
 have HI := Lib.hid hi
 have HW := Lib.hid hW
 have HW0 := Lib.hid hW0
 have HBB := Lib.hid hB
 have HF3 := Lib.hid f3
 have H := Lib.hid h
 cases b with
 | some x =>
   have hxb : (((erO (some x) : Nat) : Int) == 0) = false := by have := h.er x rfl; rw [beq_eq_false_iff_ne]; show ((x.1 : Nat) : Int) ≠ 0; omega
   have HP := Lib.hid (rtakeplace_any h)
   have HI2 := HI
   have HW2 := HW
   clear h hW hW0 hi q1 q6 hgg f3 hB
   go_enter Try.func105, Try.ntmps105
   go_wp2_with fail
   refine HP.out.mono ?_
   rintro e w2 ⟨m, l', b', hm, rfl, h1, hr, hg⟩
   have hi2 := zc hg HI2.out HGG.out
   have z2 := hi2.frozen (o + 2)
   have c2 := hi2.cell (show o + 2 < n by omega)
   have H1 := Lib.hid h1
   have HR := Lib.hid hr
   have HG := Lib.hid (zd HW2.out hg)
   have HI3 := Lib.hid hi2
   clear h1 hr hg hi2
   go_wp2_with fail
   first | go_end0 | ((try simp only [Exit.inBlock, Exit.then]); refine bodyPost_ret (results_none rfl _ _ _) rfl ?_)
   exact ⟨rfl, m, 0, l', b', by omega, by omega, H1.out.off (p := ⟨gi, o + 2, none⟩) HBB.out _, up2_one HI3.out _ _ HF3.out, rel_opP (fun e => by cases e) HR.out, za HG.out (.inr HW0.out) _⟩
 | none =>
   have f2' : w.cell? ⟨gp, 2, none⟩ = some (.int .i64 0) := f2
   have HN := Lib.hid (rnow_any h)
   clear h hW hW0 hi q1 q6 hgg f3 hB f2
   have hf0 := tok_f0
   by_cases hk : (hd l).k = 2
   · have HK := Lib.hid hk
     have hkI : (((hd l).k : Int) == 2) = true := by rw [hk]; rfl
     clear hk
     go_enter Try.func105, Try.ntmps105
     go_wp2_with fail
     refine HN.out.mono ?_
     rintro e w1 ⟨rfl, hb⟩
     have h1 := H.out.below hb
     have hi1 := ze hb HI.out HI.out.lt
     have z2 := hi1.frozen (o + 2)
     have c2 := hi1.cell (show o + 2 < n by omega)
     have hs2 : w1.grownBy (w1.setCell ⟨gi, o + 2, none⟩ (.int .i64 7)) (some gi) := za (zf _ _) (.inl rfl) _
     have HI2 := Lib.hid (hi1.set (o + 2) (.int .i64 7))
     have HM := Lib.hid (rnum_any (h1.off (p := ⟨gi, o + 2, none⟩) HBB.out (.int .i64 7)) 255 (by decide))
     have HW2 := Lib.hid (za (zd HW.out (zb hb (some gp))) (.inr HW0.out) (p := ⟨gi, o + 2, none⟩) (.int .i64 7))
     clear hb h1 hi1 HN f2' hs2
     go_wp2_with fail
     refine HM.out.mono ?_
     rintro e w2 ⟨m, l', b', hm, rfl, h1, hr, hg⟩
     have hi2 := zc hg HI2.out HGG.out
     have z3 := hi2.frozen (o + 2 + 1)
     have c3 := hi2.cell (show o + 2 + 1 < n by omega)
     rw [if_neg (by omega), HF3.out] at c3
     have H1 := Lib.hid h1
     have HR := Lib.hid hr
     have HG := Lib.hid (zd HW2.out hg)
     have HI3 := Lib.hid hi2
     have HMM := Lib.hid hm
     clear h1 hr hg hi2 z2 c2 hm
     go_wp2_with fail
     first | go_end0 | ((try simp only [Exit.inBlock, Exit.then]); refine bodyPost_ret (results_none rfl _ _ _) rfl ?_)
     refine ⟨rfl, 7, m, l', b', by omega, HMM.out, H1.out.off (p := ⟨gi, o + 2 + 1, none⟩) HBB.out _, ?_, rel_opN (n := 0) HK.out HR.out, za HG.out (.inr HW0.out) _⟩
     refine (HI3.out.set (o + 2 + 1) _).congr fun i hi => ?_
     unfold up2
     by_cases h1 : i = o + 2
     · subst h1; simp
     · by_cases h2 : i = o + 2 + 1 <;> simp [h1, h2]
   · have HK := Lib.hid hk
     have hkI : (((hd l).k : Int) == 2) = false := by rw [beq_eq_false_iff_ne]; omega
     clear hk
     go_enter Try.func105, Try.ntmps105
     go_wp2_with fail
     refine HN.out.mono ?_
     rintro e w1 ⟨rfl, hb⟩
     have HP := Lib.hid (rtakeplace_any (H.out.below hb))
     have HI2 := Lib.hid (ze hb HI.out HI.out.lt)
     have HW2 := Lib.hid (zd HW.out (zb hb (some gp)))
     clear hb HN f2'
     go_wp2_with fail
     refine HP.out.mono ?_
     rintro e w2 ⟨m, l', b', hm, rfl, h1, hr, hg⟩
     have hi2 := zc hg HI2.out HGG.out
     have z2 := hi2.frozen (o + 2)
     have c2 := hi2.cell (show o + 2 < n by omega)
     have H1 := Lib.hid h1
     have HR := Lib.hid hr
     have HG := Lib.hid (zd HW2.out hg)
     have HI3 := Lib.hid hi2
     clear h1 hr hg hi2
     go_wp2_with fail
     first | go_end0 | ((try simp only [Exit.inBlock, Exit.then]); refine bodyPost_ret (results_none rfl _ _ _) rfl ?_)
     exact ⟨rfl, m, 0, l', b', by omega, by omega, H1.out.off (p := ⟨gi, o + 2, none⟩) HBB.out _, up2_one HI3.out _ _ HF3.out, rel_opP (fun _ => HK.out) HR.out, za HG.out (.inr HW0.out) _⟩
end
end Go.Proofs.Ytiadfmhodlbkiaa
