/-
 THE DOCUMENT'S stmt: plain part, and where no statement stands. Conditions: a parser.
-/
import Derived.Test.YtiadfmhodlbkiaaQ24
import Derived.Test.YtiadfmhodlbkiaaQ13
namespace Go.Proofs.Ytiadfmhodlbkiaa
open Go.RowKit
set_option linter.unusedSimpArgs false
set_option linter.unusedVariables false
/-- What a block's parser of the document does, so deep. -/
def RBlkC (dp : Nat) (blk : Blk) : Prop := ∀ (B gp : Nat) (w : World) (l : List Tok) (b : Option Flt) (many : Nat), RS B w gp l b many → (b = none → many ≤ 500) →
 Calls Try.prog 62 #[.pointer (some ⟨gp, 0, none⟩), .int .i64 dp] w fun e w' => ∃ v T l' b' many', e = .returned v ∧ Tr w' (fun k => w.heap.size ≤ k) v T ∧ RS B w' gp l' b' many' ∧ (b' = none → many' ≤ 500) ∧ RelM blk l many b T l' b' many' ∧ w.grownBy w' (some gp)
/-- What a statement's parser comes to. -/
def RStPost (f : List Tok → Nat → Res (StS × List Tok × Nat)) (B gp : Nat) (w : World) (l : List Tok) (many : Nat) (e : Ending) (w' : World) : Prop :=
 ∃ x vb ve l' b' many', e = .returned (.agg (stA x.k x.i x.c vb ve x.ln)) ∧ Tr w' (fun k => w.heap.size ≤ k) vb x.b ∧ Tr w' (fun k => w.heap.size ≤ k) ve x.e ∧ RS B w' gp l' b' many' ∧
     (b' = none → many' ≤ 500) ∧ RelM f l many none x l' b' many' ∧ w.grownBy w' (some gp)
def knownS : List (List Nat) := [[104, 97, 108, 116], [104, 97, 115, 104], [104, 97, 115, 104, 100], [111, 117, 116], [122, 101, 114, 111], [115, 119, 97, 112], [126], [114], [105, 102], [100, 111], [42], [97], [98], [99], [100]]
theorem known_mem (s : List Nat) : Known s ↔ s ∈ knownS := by
 constructor
 · intro h
   rcases h with h | h | h
   all_goals
    obtain ⟨n, hn⟩ := Option.isSome_iff_exists.1 h
    have h1 := look_mem hn
    revert h1
    first
     | exact (show ∀ x ∈ bareL, x.1 ∈ knownS by decide) _
     | exact (show ∀ x ∈ unaL, x.1 ∈ knownS by decide) _
     | exact (show ∀ x ∈ firL, x.1 ∈ knownS by decide) _
 · intro h
   simp only [knownS, List.mem_cons, List.not_mem_nil, or_false] at h
   unfold Known
   rcases h with rfl | rfl | rfl | rfl | rfl | rfl | rfl | rfl | rfl | rfl | rfl | rfl | rfl | rfl | rfl <;> decide
theorem knownS_b8 : ∀ x ∈ knownS, x ≠ [] ∧ ∀ c ∈ x, c < 256 := by decide
theorem wordk {t : Tok} (ht : TokOk t) (h1 : t.s ≠ []) (h2 : t.s ∉ signsN) : t.k = 1 := by
 obtain ⟨_, _, _, h | h | h | h⟩ := ht
 · exact h.1
 · exact absurd h.2 h1
 · exact absurd h.2.2 h2
 · exact absurd h.2.1 h1
theorem signk {t : Tok} (ht : TokOk t) (h1 : t.s ≠ []) (h2 : ∃ c ∈ t.s, letN c = false) : t.k = 3 := by
 obtain ⟨_, _, _, h | h | h | h⟩ := ht
 · obtain ⟨c, hc, hl⟩ := h2
   have := h.2.2.2 c hc
   rw [hl] at this; cases this
 · exact absurd h.2 h1
 · exact h.1
 · exact absurd h.2.1 h1
section
variable {w : World} {B gp gi : Nat} {l : List Tok} {b : Option Flt} {many : Nat}
set_option maxRecDepth 100000 in
set_option maxHeartbeats 40000000 in
theorem rstmt_syn (dp : Nat) (deep : Bool) (blk : Blk) (h : RS B w gp l none many) (hm : many ≤ 500) (hk : ¬ Known (hd l).s) :
  Calls Try.prog 77 #[.pointer (some ⟨gp, 0, none⟩), .int .i64 dp] w (RStPost (stmt deep blk) B gp w l many) := by
 have HM5 := Lib.hid hm
 have HK := Lib.hid hk
 clear hm hk
 have hb1 : Below w.heap.size w (w.alloc zZ1) := (Below.refl _ _).alloc (Nat.le_refl _) _
 have h1 := h.below hb1
 have hr4 := st_row (k := 0) (i := i0) (c := c0) (vb := .slice none 0 0) (ve := .slice none 0 0) (ln := 0) (heap_alloc_new w zZ1)
 obtain ⟨tk, htk⟩ : ∃ tk, tk = hd l := ⟨_, rfl⟩
 have hN1 := rnow_any h1
 rw [← htk] at hN1
 have HN1 := Lib.hid hN1
 have HW := Lib.hid (And.intro h.bw h.bp)
 have HOK : Hid (TokOk tk) := by rw [htk]; exact h.tl.hd_ok
 have H1 := Lib.hid h1
 have HB1 := Lib.hid hb1
 have HR4 := Lib.hid hr4
 have HT := Lib.hid htk
 have hf3 := tok_f3
 have e1 : (w.alloc zZ1).heap.size = w.heap.size + 1 := World.size_alloc _ _
 have HE1 := Lib.hid e1
 clear h htk h1 hb1 hr4 hN1 e1
 go_enter Try.func77, Try.ntmps77
 go_wp2_with fail
 have hgg := HE1.out
 have hp := H1.out
 have r4 := HR4.out
 have hbw := HB1.out
 have HN1' := HN1.out
 clear H1 HR4 HB1 HN1 HE1
 generalize w.alloc zZ1 = W1 at *
 obtain ⟨g4, hg4⟩ : ∃ g4, g4 = w.heap.size := ⟨_, rfl⟩
 rw [← hg4] at r4 hgg ⊢
 have HG4 := Lib.hid hg4
 have HH := Lib.hid (And.intro hp (And.intro r4 (And.intro hbw hgg)))
 clear hp r4 hbw hgg hg4
 refine HN1'.mono ?_
 rintro e Wa ⟨rfl, hba⟩
 clear HN1'
 have hba2 : Below Wa.heap.size Wa (Wa.alloc (zZ3 tk)) := (Below.refl _ _).alloc (Nat.le_refl _) _
 have h2 := (HH.out.1.below hba).below hba2
 have hN2 := rnow_any h2
 rw [← HT.out] at hN2
 have HN2x := Lib.hid hN2
 have HP2 := Lib.hid h2
 have R42 := Lib.hid (ze hba2 (ze hba HH.out.2.1 HH.out.2.1.lt) (ze hba HH.out.2.1 HH.out.2.1.lt).lt)
 have R62 := Lib.hid (st_row (k := 1) (i := i0) (c := c0) (vb := .slice none 0 0) (ve := .slice none 0 0) (ln := tk.ln) (heap_alloc_new Wa (zZ3 tk)))
 have HGA := Lib.hid (zd (zb HH.out.2.2.1 (some gp)) (zd (zb hba (some gp)) (zb hba2 (some gp))))
 have HE3 : Hid (g4 < Wa.heap.size ∧ True ∧ True) := ⟨by have := HH.out.2.2.2; have := hba.size; omega, trivial, trivial⟩
 clear h2 hN2 hba hba2 HH
 go_wp2_with fail
 generalize Wa.alloc (zZ3 tk) = Wc at *
 obtain ⟨g6, hg6⟩ : ∃ g6, g6 = Wa.heap.size := ⟨_, rfl⟩
 rw [← hg6] at R62 HE3 ⊢
 clear hg6 hf3 Wa
 refine HN2x.out.mono ?_
 rintro e Wb ⟨rfl, hb⟩
 have hbt : Below Wb.heap.size Wb (Wb.alloc (.cells #[.int .u8 tk.k, .string (mkS tk.s), .int .i64 tk.n, .int .i64 tk.ln] 60)) := (Below.refl _ _).alloc (Nat.le_refl _) _
 have HP := Lib.hid ((HP2.out.below hb).below hbt)
 have R4 := Lib.hid (ze hbt (ze hb R42.out R42.out.lt) (ze hb R42.out R42.out.lt).lt)
 have R6 := Lib.hid (ze hbt (ze hb R62.out R62.out.lt) (ze hb R62.out R62.out.lt).lt)
 have G1 := Lib.hid (zd HGA.out (zd (zb hb (some gp)) (zb hbt (some gp))))
 obtain ⟨d0, d1, d2, d3⟩ := al_four Wb tk
 have HD1 := Lib.hid d1
 have HL5x : Hid (Wb.heap.size < (Wb.alloc (.cells #[.int .u8 tk.k, .string (mkS tk.s), .int .i64 tk.n, .int .i64 tk.ln] 60)).heap.size) := by unfold Hid; rw [World.size_alloc]; omega
 have HN46 : Hid (g4 ≠ g6) := by have := HE3.out; unfold Hid; omega
 have HN64 : Hid (g6 ≠ g4) := by have := HE3.out; unfold Hid; omega
 have HN4 : Hid (g4 ≠ gp) := by have := HW.out; have := HG4.out; unfold Hid; omega
 have HN6 : Hid (g6 ≠ gp) := by have := HW.out; have := HG4.out; have := HE3.out; unfold Hid; omega
 have HG4B : Hid (B ≤ g4 ∧ B ≤ g6) := by have := HW.out; have := HG4.out; have := HE3.out; unfold Hid; omega
 have HG4W : Hid (w.heap.size ≤ g4 ∧ w.heap.size ≤ g6) := by have := HG4.out; have := HE3.out; unfold Hid; omega
 have HN5 : Hid (Wb.heap.size ≠ gp ∧ Wb.heap.size ≠ g4 ∧ Wb.heap.size ≠ g6) := by
  have h1 := hb.size; have h2 := R62.out.lt; have := HW.out; have := HG4.out; have := HE3.out; unfold Hid; omega
 obtain ⟨s, hs⟩ : ∃ s, s = tk.s := ⟨_, rfl⟩
 have HS8 : Hid (∀ x ∈ s, x < 256) := by rw [hs]; exact HOK.out.1
 have HS : Hid (s = (hd l).s) := by rw [← HT.out]; exact hs
 clear HN2x HP2 R42 R62 HGA hb hbt d2 d3
 by_cases hk1 : tk.k = 1
 · have k1I : ((tk.k : Int) != 1) = false := by rw [hk1]; rfl
   clear hk1
   go_wp2_with fail
   try rw [show Wb.heap.size + 1 = (Wb.alloc (.cells #[.int .u8 tk.k, .string (mkS tk.s), .int .i64 tk.n, .int .i64 tk.ln] 60)).heap.size from (World.size_alloc _ _).symm]
   obtain ⟨g5, hg5⟩ : ∃ g5, g5 = Wb.heap.size := ⟨_, rfl⟩
   rw [← hs] at HD1 ⊢
   have T1 : Hid ((Wb.alloc (.cells #[.int .u8 tk.k, .string (mkS s), .int .i64 tk.n, .int .i64 tk.ln] 60)).cell? ⟨g5, 1, none⟩ = some (.string (mkS s))) := by rw [hg5]; exact HD1.out
   have HL5 := HL5x
   rw [← hs] at HP R4 R6 G1 HL5
   rw [← hg5] at HL5 HN5 ⊢
   generalize Wb.alloc (.cells #[.int .u8 tk.k, .string (mkS s), .int .i64 tk.n, .int .i64 tk.ln] 60) = Wd at *
   clear hg5 HD1 HL5x d0 d1 Wb hs
   clear k1I
   have hcn : ∀ i (hi : i < knownS.length), (Wd.alloc zZ5).cell? ⟨(World.heap Wd).size, i, none⟩ = some (.string (mkS knownS[i])) := fun i hi => by
    rw [cell_of_row _ _ _ _ _ _ (heap_alloc_new _ _)]
    match i, hi with
    | 0, _ => rfl
    | 1, _ => rfl
    | 2, _ => rfl
    | 3, _ => rfl
    | 4, _ => rfl
    | 5, _ => rfl
    | 6, _ => rfl
    | 7, _ => rfl
    | 8, _ => rfl
    | 9, _ => rfl
    | 10, _ => rfl
    | 11, _ => rfl
    | 12, _ => rfl
    | 13, _ => rfl
    | 14, _ => rfl
   have HCN := Lib.hid hcn
   have hb : Below (World.heap Wd).size Wd (Wd.alloc zZ5) := (Below.refl _ _).alloc (Nat.le_refl _) _
   replace HP := Lib.hid (HP.out.below hb)
   replace G1 := Lib.hid (zd G1.out (zb hb (some gp)))
   replace R4 := Lib.hid (ze hb R4.out R4.out.lt)
   replace R6 := Lib.hid (ze hb R6.out R6.out.lt)
   replace T1 := Lib.hid ((hb.cell (World.block_lt_of_cell? _ _ T1.out)).trans T1.out)
   replace HL5 : Hid (g5 < _) := Nat.lt_of_lt_of_le HL5.out hb.size
   clear hb
   clear hcn
   generalize World.alloc Wd zZ5 = X at *
   generalize (World.heap Wd).size = g7 at *
   have R0 : ∃ i : Nat, (Value.int .i64 0) = .int .i64 i ∧ i ≤ 15 ∧ (Value.bool false) = .bool (decide (s ∈ knownS.take i)) ∧ Below X.heap.size X X := ⟨0, rfl, by omega, by simp, Below.refl _ _⟩
   go_loopw [8, 9] (fun v8 v9 wr => ∃ i : Nat, v9 = .int .i64 i ∧ i ≤ 15 ∧ v8 = .bool (decide (s ∈ knownS.take i)) ∧ Below X.heap.size X wr) (fun _ v _ => 15 - (intOf v).toNat)
   case atStart => exact R0
   case round =>
    clear R0
    obtain ⟨i, rfl, hi, rfl, hb⟩ := hrel
    by_cases hl : i < 15
    · have hlI : (i : Int) < 15 := by omega
      have i0' : (0 : Int) ≤ i := by omega
      have iT : ((i : Int)).toNat = i := by omega
      have hwi : IntKind.i64.wrap ((i : Int) + 1) = ((i + 1 : Nat) : Int) := by rw [IntKind.wrap_i64]; omega; all_goals omega
      have hlk : i < knownS.length := hl
      have hci := (hb.cell (World.block_lt_of_cell? _ _ (HCN.out i hlk))).trans (HCN.out i hlk)
      obtain ⟨x, hx⟩ : ∃ x, x = knownS[i] := ⟨_, rfl⟩
      rw [← hx] at hci
      have htk : knownS.take (i + 1) = knownS.take i ++ [x] := by rw [hx, List.take_succ_eq_append_getElem hlk]
      have hx8 := knownS_b8 x (by rw [hx]; exact List.getElem_mem hlk)
      have HTK := Lib.hid htk
      have HB := Lib.hid hb
      by_cases hin : s ∈ knownS.take i
      · have hin2 : s ∈ knownS.take (i + 1) := by rw [htk]; exact List.mem_append_left _ hin
        rw [decide_eq_true hin]
        have HIN := Lib.hid hin2
        have HLL := Lib.hid hl
        clear hin hin2 htk hx hx8 hb hl
        go_wp2_with fail
        go_roundw
        case rel => exact ⟨i + 1, rfl, HLL.out, by rw [decide_eq_true HIN.out], HB.out⟩
        case measure => show 15 - (i + 1 : Nat) < 15 - i; have := HLL.out; omega
      · rw [decide_eq_false hin]
        have HI := Lib.hid (ris_any (HP.out.below hb) (mkS x) x rfl hx8.1 hx8.2)
        rw [← HS.out] at HI
        have HIN := Lib.hid hin
        have HLL := Lib.hid hl
        clear hin htk hx hx8 hb hl
        obtain ⟨r, hr⟩ : ∃ r, r = decide (s = x) := ⟨_, rfl⟩
        rw [← hr] at HI
        have HRR := Lib.hid hr
        clear hr
        go_wp2_with fail
        refine HI.out.mono ?_
        rintro e w3 ⟨rfl, hb3⟩
        have HB3 := Lib.hid (HB.out.trans (hb3.mono HB.out.size))
        clear hb3 HI
        go_wp2_with fail
        go_roundw
        case rel =>
         refine ⟨i + 1, rfl, HLL.out, ?_, HB3.out⟩
         rw [HRR.out, HTK.out]
         have hin := HIN.out
         congr 1
         rw [Bool.eq_iff_iff, decide_eq_true_eq, decide_eq_true_eq, List.mem_append, List.mem_singleton]
         exact ⟨fun e => .inr e, fun e => by rcases e with e | e; exact absurd e hin; exact e⟩
        case measure => show 15 - (i + 1 : Nat) < 15 - i; have := HLL.out; omega
    · have hlI : ¬ (i : Int) < 15 := by omega
      have hii : i = 15 := by omega
      subst hii
      rw [show knownS.take 15 = knownS from rfl]
      have HB := Lib.hid hb
      clear hb hl hi
      have hb := HB.out
      replace HP := Lib.hid (HP.out.below hb)
      replace G1 := Lib.hid (zd G1.out (zb hb (some gp)))
      replace R4 := Lib.hid (ze hb R4.out R4.out.lt)
      replace R6 := Lib.hid (ze hb R6.out R6.out.lt)
      replace T1 := Lib.hid ((hb.cell (World.block_lt_of_cell? _ _ T1.out)).trans T1.out)
      replace HL5 : Hid (g5 < _) := Nat.lt_of_lt_of_le HL5.out hb.size
      clear hb
      clear HB HCN
      rw [decide_eq_false (fun h => HK.out ((known_mem _).2 (HS.out ▸ h)))]
      have h7 := HP.out
      have gC := G1.out
      have r4 := R4.out
      have r6 := R6.out
      clear HP G1 R4 R6
      have HM := Lib.hid (rfail_any h7 121 (by decide))
      have HHG := Lib.hid gC
      have HHR4 := Lib.hid r4
      have HHR6 := Lib.hid r6
      clear gC r4 r6
      go_wp2_with fail
      refine HM.out.mono ?_
      rintro e WZ ⟨rfl, h8, hgn⟩
      have g8 := zd HHG.out hgn
      have r48 := zc hgn HHR4.out HN4.out
      have r68 := zc hgn HHR6.out HN6.out
      clear HM HHG HHR4 HHR6
      clear h7 hgn
      have H6 := Lib.hid h8
      have HG := Lib.hid g8
      have HR6 := Lib.hid r68
      have HR4' := Lib.hid r48
      have HTB := Lib.hid (Tr.nil WZ (fun k => g6 < k))
      have HTE := Lib.hid (Tr.nil WZ (fun k => g6 < k))
      have a0 := r68.cell (show 0 < 13 by omega)
      have b0 := r48.cell (show 0 < 13 by omega)
      have z0 := r48.frozen 0
      have a1 := r68.cell (show 1 < 13 by omega)
      have b1 := r48.cell (show 1 < 13 by omega)
      have z1 := r48.frozen 1
      have a2 := r68.cell (show 2 < 13 by omega)
      have b2 := r48.cell (show 2 < 13 by omega)
      have z2 := r48.frozen 2
      have a3 := r68.cell (show 3 < 13 by omega)
      have b3 := r48.cell (show 3 < 13 by omega)
      have z3 := r48.frozen 3
      have a4 := r68.cell (show 4 < 13 by omega)
      have b4 := r48.cell (show 4 < 13 by omega)
      have z4 := r48.frozen 4
      have a5 := r68.cell (show 5 < 13 by omega)
      have b5 := r48.cell (show 5 < 13 by omega)
      have z5 := r48.frozen 5
      have a6 := r68.cell (show 6 < 13 by omega)
      have b6 := r48.cell (show 6 < 13 by omega)
      have z6 := r48.frozen 6
      have a7 := r68.cell (show 7 < 13 by omega)
      have b7 := r48.cell (show 7 < 13 by omega)
      have z7 := r48.frozen 7
      have a8 := r68.cell (show 8 < 13 by omega)
      have b8 := r48.cell (show 8 < 13 by omega)
      have z8 := r48.frozen 8
      have a9 := r68.cell (show 9 < 13 by omega)
      have b9 := r48.cell (show 9 < 13 by omega)
      have z9 := r48.frozen 9
      have a10 := r68.cell (show 10 < 13 by omega)
      have b10 := r48.cell (show 10 < 13 by omega)
      have z10 := r48.frozen 10
      have a11 := r68.cell (show 11 < 13 by omega)
      have b11 := r48.cell (show 11 < 13 by omega)
      have z11 := r48.frozen 11
      have a12 := r68.cell (show 12 < 13 by omega)
      have b12 := r48.cell (show 12 < 13 by omega)
      have z12 := r48.frozen 12
      dsimp only [stF, i0, c0] at a0 b0 a1 b1 a2 b2 a3 b3 a4 b4 a5 b5 a6 b6 a7 b7 a8 b8 a9 b9 a10 b10 a11 b11 a12 b12
      clear h8 g8 r68 r48
      go_wp2_with fail
      (try simp only [Exit.inBlock, Exit.then])
      have hx0 := (za (za (za (za (za (za (za (za (za (za (za (za (za (zf WZ (some g4)) (.inl rfl) (p := ⟨g4, 0, none⟩) (.int .u8 (1 : Nat))) (.inl rfl) (p := ⟨g4, 1, none⟩) (.int .u8 (0 : Nat))) (.inl rfl) (p := ⟨g4, 2, none⟩) (.int .i64 0)) (.inl rfl) (p := ⟨g4, 3, none⟩) (.int .i64 0)) (.inl rfl) (p := ⟨g4, 4, none⟩) (.int .i64 0)) (.inl rfl) (p := ⟨g4, 5, none⟩) (.bool false)) (.inl rfl) (p := ⟨g4, 6, none⟩) (.int .u8 (0 : Nat))) (.inl rfl) (p := ⟨g4, 7, none⟩) (.int .i64 0)) (.inl rfl) (p := ⟨g4, 8, none⟩) (.int .i64 0)) (.inl rfl) (p := ⟨g4, 9, none⟩) (.int .i64 0)) (.inl rfl) (p := ⟨g4, 10, none⟩) (.slice none 0 0)) (.inl rfl) (p := ⟨g4, 11, none⟩) (.slice none 0 0)) (.inl rfl) (p := ⟨g4, 12, none⟩) (.int .i64 (tk.ln : Nat)))
      have hx1 := st_all 1 ⟨0, 0, 0, 0⟩ ⟨false, ⟨0, 0, 0, 0⟩⟩ (.slice none 0 0) (.slice none 0 0) ((tk.ln : Nat)) HR4'.out
      have hx2 := H6.out.kept (row := some g4) hx0 (fun k e => by injection e with e; subst e; exact HG4B.out.1)
      have hx3 := (za (za (za (za (za (za (za (za (za (za (za (za (za HG.out (.inr HG4W.out.1) (p := ⟨g4, 0, none⟩) (.int .u8 (1 : Nat))) (.inr HG4W.out.1) (p := ⟨g4, 1, none⟩) (.int .u8 (0 : Nat))) (.inr HG4W.out.1) (p := ⟨g4, 2, none⟩) (.int .i64 0)) (.inr HG4W.out.1) (p := ⟨g4, 3, none⟩) (.int .i64 0)) (.inr HG4W.out.1) (p := ⟨g4, 4, none⟩) (.int .i64 0)) (.inr HG4W.out.1) (p := ⟨g4, 5, none⟩) (.bool false)) (.inr HG4W.out.1) (p := ⟨g4, 6, none⟩) (.int .u8 (0 : Nat))) (.inr HG4W.out.1) (p := ⟨g4, 7, none⟩) (.int .i64 0)) (.inr HG4W.out.1) (p := ⟨g4, 8, none⟩) (.int .i64 0)) (.inr HG4W.out.1) (p := ⟨g4, 9, none⟩) (.int .i64 0)) (.inr HG4W.out.1) (p := ⟨g4, 10, none⟩) (.slice none 0 0)) (.inr HG4W.out.1) (p := ⟨g4, 11, none⟩) (.slice none 0 0)) (.inr HG4W.out.1) (p := ⟨g4, 12, none⟩) (.int .i64 (tk.ln : Nat)))
      have hx4 := HTB.out.grown hx0 (fun k hk e => by injection e with e; have := HE3.out; have hk' : g6 < k := hk; omega)
      have hx5 := HTE.out.grown hx0 (fun k hk e => by injection e with e; have := HE3.out; have hk' : g6 < k := hk; omega)
      have hx4 := hx4.mono (S' := fun k => w.heap.size ≤ k) (fun k hk _ => by have := HG4.out; have := HE3.out; have hk' : g6 < k := hk; omega)
      have hx5 := hx5.mono (S' := fun k => w.heap.size ≤ k) (fun k hk _ => by have := HG4.out; have := HE3.out; have hk' : g6 < k := hk; omega)
      clear hx0
      dsimp only at hx1 hx2 hx3 hx4 hx5 ⊢
      generalize (((((((((((((WZ.setCell ⟨g4, 0, none⟩ (.int .u8 (1 : Nat))).setCell ⟨g4, 1, none⟩ (.int .u8 (0 : Nat))).setCell ⟨g4, 2, none⟩ (.int .i64 0)).setCell ⟨g4, 3, none⟩ (.int .i64 0)).setCell ⟨g4, 4, none⟩ (.int .i64 0)).setCell ⟨g4, 5, none⟩ (.bool false)).setCell ⟨g4, 6, none⟩ (.int .u8 (0 : Nat))).setCell ⟨g4, 7, none⟩ (.int .i64 0)).setCell ⟨g4, 8, none⟩ (.int .i64 0)).setCell ⟨g4, 9, none⟩ (.int .i64 0)).setCell ⟨g4, 10, none⟩ (.slice none 0 0)).setCell ⟨g4, 11, none⟩ (.slice none 0 0)).setCell ⟨g4, 12, none⟩ (.int .i64 (tk.ln : Nat))) = W99 at hx1 hx2 hx3 hx4 hx5 ⊢
      refine bodyPost_ret (st_results rfl _ _ g4 rfl hx1) rfl ?_
      exact ⟨⟨1, ⟨0, 0, 0, 0⟩, ⟨false, ⟨0, 0, 0, 0⟩⟩, .nil, .nil, (tk.ln : Nat)⟩, .slice none 0 0, .slice none 0 0, l, _, many, rfl, hx4, hx5, hx2, (fun _ => HM5.out), .err (st_syn HK.out), hx3⟩
 · have k1I : ((tk.k : Int) != 1) = true := by rw [bne_iff_ne]; omega
   clear hk1
   go_wp2_with fail
   try rw [show Wb.heap.size + 1 = (Wb.alloc (.cells #[.int .u8 tk.k, .string (mkS tk.s), .int .i64 tk.n, .int .i64 tk.ln] 60)).heap.size from (World.size_alloc _ _).symm]
   obtain ⟨g5, hg5⟩ : ∃ g5, g5 = Wb.heap.size := ⟨_, rfl⟩
   rw [← hs] at HD1 ⊢
   have T1 : Hid ((Wb.alloc (.cells #[.int .u8 tk.k, .string (mkS s), .int .i64 tk.n, .int .i64 tk.ln] 60)).cell? ⟨g5, 1, none⟩ = some (.string (mkS s))) := by rw [hg5]; exact HD1.out
   have HL5 := HL5x
   rw [← hs] at HP R4 R6 G1 HL5
   rw [← hg5] at HL5 HN5 ⊢
   generalize Wb.alloc (.cells #[.int .u8 tk.k, .string (mkS s), .int .i64 tk.n, .int .i64 tk.ln] 60) = Wd at *
   clear hg5 HD1 HL5x d0 d1 Wb hs
   clear k1I
   have HI0 := ris_any HP.out ⟨#[126]⟩ [126] rfl (by decide) (by decide)
   rw [decide_eq_false (fun e => HK.out (by rw [e]; exact (known_mem _).2 (by decide)))] at HI0
   have HI := Lib.hid HI0
   clear HI0
   go_wp2_with fail
   refine HI.out.mono ?_
   rintro e We ⟨rfl, hb⟩
   clear HI
   replace HP := Lib.hid (HP.out.below hb)
   replace G1 := Lib.hid (zd G1.out (zb hb (some gp)))
   replace R4 := Lib.hid (ze hb R4.out R4.out.lt)
   replace R6 := Lib.hid (ze hb R6.out R6.out.lt)
   replace T1 := Lib.hid ((hb.cell (World.block_lt_of_cell? _ _ T1.out)).trans T1.out)
   replace HL5 : Hid (g5 < _) := Nat.lt_of_lt_of_le HL5.out hb.size
   clear hb
   have HI0 := ris_any HP.out ⟨#[42]⟩ [42] rfl (by decide) (by decide)
   rw [decide_eq_false (fun e => HK.out (by rw [e]; exact (known_mem _).2 (by decide)))] at HI0
   have HI := Lib.hid HI0
   clear HI0
   go_wp2_with fail
   refine HI.out.mono ?_
   rintro e Wf ⟨rfl, hb⟩
   clear HI
   replace HP := Lib.hid (HP.out.below hb)
   replace G1 := Lib.hid (zd G1.out (zb hb (some gp)))
   replace R4 := Lib.hid (ze hb R4.out R4.out.lt)
   replace R6 := Lib.hid (ze hb R6.out R6.out.lt)
   replace T1 := Lib.hid ((hb.cell (World.block_lt_of_cell? _ _ T1.out)).trans T1.out)
   replace HL5 : Hid (g5 < _) := Nat.lt_of_lt_of_le HL5.out hb.size
   clear hb
   have h7 := HP.out
   have gC := G1.out
   have r4 := R4.out
   have r6 := R6.out
   clear HP G1 R4 R6
   have HM := Lib.hid (rfail_any h7 121 (by decide))
   have HHG := Lib.hid gC
   have HHR4 := Lib.hid r4
   have HHR6 := Lib.hid r6
   clear gC r4 r6
   go_wp2_with fail
   refine HM.out.mono ?_
   rintro e WZ ⟨rfl, h8, hgn⟩
   have g8 := zd HHG.out hgn
   have r48 := zc hgn HHR4.out HN4.out
   have r68 := zc hgn HHR6.out HN6.out
   clear HM HHG HHR4 HHR6
   clear h7 hgn
   have H6 := Lib.hid h8
   have HG := Lib.hid g8
   have HR6 := Lib.hid r68
   have HR4' := Lib.hid r48
   have HTB := Lib.hid (Tr.nil WZ (fun k => g6 < k))
   have HTE := Lib.hid (Tr.nil WZ (fun k => g6 < k))
   have a0 := r68.cell (show 0 < 13 by omega)
   have b0 := r48.cell (show 0 < 13 by omega)
   have z0 := r48.frozen 0
   have a1 := r68.cell (show 1 < 13 by omega)
   have b1 := r48.cell (show 1 < 13 by omega)
   have z1 := r48.frozen 1
   have a2 := r68.cell (show 2 < 13 by omega)
   have b2 := r48.cell (show 2 < 13 by omega)
   have z2 := r48.frozen 2
   have a3 := r68.cell (show 3 < 13 by omega)
   have b3 := r48.cell (show 3 < 13 by omega)
   have z3 := r48.frozen 3
   have a4 := r68.cell (show 4 < 13 by omega)
   have b4 := r48.cell (show 4 < 13 by omega)
   have z4 := r48.frozen 4
   have a5 := r68.cell (show 5 < 13 by omega)
   have b5 := r48.cell (show 5 < 13 by omega)
   have z5 := r48.frozen 5
   have a6 := r68.cell (show 6 < 13 by omega)
   have b6 := r48.cell (show 6 < 13 by omega)
   have z6 := r48.frozen 6
   have a7 := r68.cell (show 7 < 13 by omega)
   have b7 := r48.cell (show 7 < 13 by omega)
   have z7 := r48.frozen 7
   have a8 := r68.cell (show 8 < 13 by omega)
   have b8 := r48.cell (show 8 < 13 by omega)
   have z8 := r48.frozen 8
   have a9 := r68.cell (show 9 < 13 by omega)
   have b9 := r48.cell (show 9 < 13 by omega)
   have z9 := r48.frozen 9
   have a10 := r68.cell (show 10 < 13 by omega)
   have b10 := r48.cell (show 10 < 13 by omega)
   have z10 := r48.frozen 10
   have a11 := r68.cell (show 11 < 13 by omega)
   have b11 := r48.cell (show 11 < 13 by omega)
   have z11 := r48.frozen 11
   have a12 := r68.cell (show 12 < 13 by omega)
   have b12 := r48.cell (show 12 < 13 by omega)
   have z12 := r48.frozen 12
   dsimp only [stF, i0, c0] at a0 b0 a1 b1 a2 b2 a3 b3 a4 b4 a5 b5 a6 b6 a7 b7 a8 b8 a9 b9 a10 b10 a11 b11 a12 b12
   clear h8 g8 r68 r48
   go_wp2_with fail
   (try simp only [Exit.inBlock, Exit.then])
   have hx0 := (za (za (za (za (za (za (za (za (za (za (za (za (za (zf WZ (some g4)) (.inl rfl) (p := ⟨g4, 0, none⟩) (.int .u8 (1 : Nat))) (.inl rfl) (p := ⟨g4, 1, none⟩) (.int .u8 (0 : Nat))) (.inl rfl) (p := ⟨g4, 2, none⟩) (.int .i64 0)) (.inl rfl) (p := ⟨g4, 3, none⟩) (.int .i64 0)) (.inl rfl) (p := ⟨g4, 4, none⟩) (.int .i64 0)) (.inl rfl) (p := ⟨g4, 5, none⟩) (.bool false)) (.inl rfl) (p := ⟨g4, 6, none⟩) (.int .u8 (0 : Nat))) (.inl rfl) (p := ⟨g4, 7, none⟩) (.int .i64 0)) (.inl rfl) (p := ⟨g4, 8, none⟩) (.int .i64 0)) (.inl rfl) (p := ⟨g4, 9, none⟩) (.int .i64 0)) (.inl rfl) (p := ⟨g4, 10, none⟩) (.slice none 0 0)) (.inl rfl) (p := ⟨g4, 11, none⟩) (.slice none 0 0)) (.inl rfl) (p := ⟨g4, 12, none⟩) (.int .i64 (tk.ln : Nat)))
   have hx1 := st_all 1 ⟨0, 0, 0, 0⟩ ⟨false, ⟨0, 0, 0, 0⟩⟩ (.slice none 0 0) (.slice none 0 0) ((tk.ln : Nat)) HR4'.out
   have hx2 := H6.out.kept (row := some g4) hx0 (fun k e => by injection e with e; subst e; exact HG4B.out.1)
   have hx3 := (za (za (za (za (za (za (za (za (za (za (za (za (za HG.out (.inr HG4W.out.1) (p := ⟨g4, 0, none⟩) (.int .u8 (1 : Nat))) (.inr HG4W.out.1) (p := ⟨g4, 1, none⟩) (.int .u8 (0 : Nat))) (.inr HG4W.out.1) (p := ⟨g4, 2, none⟩) (.int .i64 0)) (.inr HG4W.out.1) (p := ⟨g4, 3, none⟩) (.int .i64 0)) (.inr HG4W.out.1) (p := ⟨g4, 4, none⟩) (.int .i64 0)) (.inr HG4W.out.1) (p := ⟨g4, 5, none⟩) (.bool false)) (.inr HG4W.out.1) (p := ⟨g4, 6, none⟩) (.int .u8 (0 : Nat))) (.inr HG4W.out.1) (p := ⟨g4, 7, none⟩) (.int .i64 0)) (.inr HG4W.out.1) (p := ⟨g4, 8, none⟩) (.int .i64 0)) (.inr HG4W.out.1) (p := ⟨g4, 9, none⟩) (.int .i64 0)) (.inr HG4W.out.1) (p := ⟨g4, 10, none⟩) (.slice none 0 0)) (.inr HG4W.out.1) (p := ⟨g4, 11, none⟩) (.slice none 0 0)) (.inr HG4W.out.1) (p := ⟨g4, 12, none⟩) (.int .i64 (tk.ln : Nat)))
   have hx4 := HTB.out.grown hx0 (fun k hk e => by injection e with e; have := HE3.out; have hk' : g6 < k := hk; omega)
   have hx5 := HTE.out.grown hx0 (fun k hk e => by injection e with e; have := HE3.out; have hk' : g6 < k := hk; omega)
   have hx4 := hx4.mono (S' := fun k => w.heap.size ≤ k) (fun k hk _ => by have := HG4.out; have := HE3.out; have hk' : g6 < k := hk; omega)
   have hx5 := hx5.mono (S' := fun k => w.heap.size ≤ k) (fun k hk _ => by have := HG4.out; have := HE3.out; have hk' : g6 < k := hk; omega)
   clear hx0
   dsimp only at hx1 hx2 hx3 hx4 hx5 ⊢
   generalize (((((((((((((WZ.setCell ⟨g4, 0, none⟩ (.int .u8 (1 : Nat))).setCell ⟨g4, 1, none⟩ (.int .u8 (0 : Nat))).setCell ⟨g4, 2, none⟩ (.int .i64 0)).setCell ⟨g4, 3, none⟩ (.int .i64 0)).setCell ⟨g4, 4, none⟩ (.int .i64 0)).setCell ⟨g4, 5, none⟩ (.bool false)).setCell ⟨g4, 6, none⟩ (.int .u8 (0 : Nat))).setCell ⟨g4, 7, none⟩ (.int .i64 0)).setCell ⟨g4, 8, none⟩ (.int .i64 0)).setCell ⟨g4, 9, none⟩ (.int .i64 0)).setCell ⟨g4, 10, none⟩ (.slice none 0 0)).setCell ⟨g4, 11, none⟩ (.slice none 0 0)).setCell ⟨g4, 12, none⟩ (.int .i64 (tk.ln : Nat))) = W99 at hx1 hx2 hx3 hx4 hx5 ⊢
   refine bodyPost_ret (st_results rfl _ _ g4 rfl hx1) rfl ?_
   exact ⟨⟨1, ⟨0, 0, 0, 0⟩, ⟨false, ⟨0, 0, 0, 0⟩⟩, .nil, .nil, (tk.ln : Nat)⟩, .slice none 0 0, .slice none 0 0, l, _, many, rfl, hx4, hx5, hx2, (fun _ => HM5.out), .err (st_syn HK.out), hx3⟩
end
end Go.Proofs.Ytiadfmhodlbkiaa
