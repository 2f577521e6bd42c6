/-
 THE WALKS OF the document's sign, cond. Conditions: a parser; the signs lie in memory.
-/
import Derived.Test.YtiadfmhodlbkiaaQ21
namespace Go.Proofs.Ytiadfmhodlbkiaa
open Go.RowKit
set_option linter.unusedSimpArgs false
set_option linter.unusedVariables false
/-- Which of some signs, counted on. -/
def sigO : List (List Nat) → Nat → List Nat → Nat
 | [], _, _ => 0
 | x :: r, f, s => if s = x then f else sigO r (f + 1) s
def isSig (x : List Nat) : Prop := x ≠ [] ∧ (∀ c ∈ x, c < 256) ∧ ∃ c ∈ x, letN c = false
theorem sig_k {t : Tok} (ht : TokOk t) {x : List Nat} (hx : isSig x) (hs : t.s = x) : t.k = 3 := by
 obtain ⟨_, _, _, h | h | h | h⟩ := ht
 · obtain ⟨c, hc, hl⟩ := hx.2.2
   have := h.2.2.2 c (by rw [hs]; exact hc)
   rw [hl] at this; cases this
 · exact absurd (hs.symm.trans h.2) hx.1
 · exact h.1
 · exact absurd (hs.symm.trans h.2.1) hx.1
section
variable {w w' W0 : World} {B gp gi : Nat} {l : List Tok} {b : Option Flt} {many : Nat}
set_option maxRecDepth 100000 in
set_option maxHeartbeats 4000000 in
theorem rsign_any (h : RS B w gp l b many) (gs c : Nat) (LS : List (List Nat)) (hcell : ∀ i (hi : i < LS.length), w.cell? ⟨gs, i, none⟩ = some (.string (mkS LS[i]))) (hsig : ∀ x ∈ LS, isSig x) (f : Nat) (hf : f + LS.length < 256) :
  Calls Try.prog 104 #[.pointer (some ⟨gp, 0, none⟩), .slice (some ⟨gs, 0, none⟩) LS.length c, .int .u8 f] w fun e w' => e = .returned (.int .u8 (sigO LS f (hd l).s : Nat)) ∧ Below w.heap.size w w' := by
 obtain ⟨z, hz⟩ : ∃ z, z = sigO LS f (hd l).s := ⟨_, rfl⟩
 rw [← hz]
 have H := Lib.hid h
 have HC := Lib.hid hcell
 have HSI := Lib.hid hsig
 have R0 : ∃ i : Nat, (Value.int .i64 0) = .int .i64 i ∧ i ≤ LS.length ∧ z = sigO (LS.drop i) (f + i) (hd l).s ∧ Below w.heap.size w w := ⟨0, rfl, by omega, hz, Below.refl _ _⟩
 clear h hcell hsig hz
 have hf0 := tok_f0
 go_enter Try.func104, Try.ntmps104
 go_wp2_with fail
 go_loopw [7] (fun v wr => ∃ i : Nat, v = .int .i64 i ∧ i ≤ LS.length ∧ z = sigO (LS.drop i) (f + i) (hd l).s ∧ Below w.heap.size w wr) (fun v _ => LS.length - (intOf v).toNat)
 case atStart => exact R0
 case round =>
  clear R0
  obtain ⟨i, rfl, hi, hz, hb⟩ := hrel
  by_cases hl : i < LS.length
  · have hlI : (i : Int) < LS.length := by omega
    have i0 : (0 : Int) ≤ i := by omega
    have iT : ((i : Int)).toNat = i := by omega
    have hwi : IntKind.i64.wrap ((i : Int) + 1) = ((i + 1 : Nat) : Int) := by rw [IntKind.wrap_i64]; omega; all_goals omega
    have hwf : IntKind.u8.wrap ((f : Int) + (i : Int)) = ((f + i : Nat) : Int) := by rw [IntKind.wrap_u8]; omega; all_goals omega
    have hwc : IntKind.u8.wrap (i : Int) = (i : Int) := by rw [IntKind.wrap_u8]; omega; all_goals omega
    have hci := (hb.cell (World.block_lt_of_cell? _ _ (HC.out i hl))).trans (HC.out i hl)
    obtain ⟨x, hx⟩ : ∃ x, x = LS[i] := ⟨_, rfl⟩
    rw [← hx] at hci
    have hsx := HSI.out x (by rw [hx]; exact List.getElem_mem hl)
    have hzd : z = if (hd l).s = x then f + i else sigO (LS.drop (i + 1)) (f + (i + 1)) (hd l).s := by
     rw [hz, List.drop_eq_getElem_cons hl, ← hx]; rfl
    have hr := H.out.below hb
    have HI := Lib.hid (ris_any hr (mkS x) x rfl hsx.1 hsx.2.1)
    have HB := Lib.hid hb
    have HR := Lib.hid hr
    have HZD := Lib.hid hzd
    have HLT := Lib.hid hl
    clear hb hr hz hzd hx
    by_cases hs : (hd l).s = x
    · have hk3 := sig_k H.out.tl.hd_ok hsx hs
      have hkI : (((hd l).k : Int) == 3) = true := by rw [hk3]; rfl
      rw [decide_eq_true hs] at HI
      have HS := Lib.hid hs
      clear hs hk3
      go_wp2_with fail
      refine HI.out.mono ?_
      rintro e w1 ⟨rfl, hb⟩
      have HN := Lib.hid (rnow_any (HR.out.below hb))
      have HB1 := Lib.hid (HB.out.trans (hb.mono HB.out.size))
      clear hb
      go_wp2_with fail
      refine HN.out.mono ?_
      rintro e w2 ⟨rfl, hb⟩
      have HB2 := Lib.hid (HB1.out.trans (hb.mono HB1.out.size))
      clear hb HN
      go_wp2_with fail
      go_ret
      exact ⟨by rw [HZD.out, if_pos HS.out]; rfl, HB2.out⟩
    · rw [decide_eq_false hs] at HI
      have HS := Lib.hid hs
      clear hs
      go_wp2_with fail
      refine HI.out.mono ?_
      rintro e w1 ⟨rfl, hb⟩
      have HB1 := Lib.hid (HB.out.trans (hb.mono HB.out.size))
      clear hb
      go_wp2_with fail
      go_roundw
      case rel => exact ⟨i + 1, rfl, HLT.out, by rw [HZD.out, if_neg HS.out], HB1.out⟩
      case measure => show LS.length - (i + 1 : Nat) < LS.length - i; omega
  · have hlI : ¬ (i : Int) < LS.length := by omega
    have hzz : z = 0 := by rw [hz, List.drop_of_length_le (by omega)]; rfl
    have HZ := Lib.hid hzz
    have HB := Lib.hid hb
    clear hz hzz hb
    go_wp2_with fail
    go_ret
    exact ⟨by rw [HZ.out]; rfl, HB.out⟩
end
def cmpsS : List (List Nat) := [[61, 61], [60], [62]]
def opsS : List (List Nat) := [[43, 61], [45, 61], [42, 61], [47, 61], [37, 61], [38, 61], [38, 126, 61], [124, 61], [94, 61], [60, 60, 61], [62, 62, 61]]
theorem isSig_dec {x : List Nat} (h1 : x ≠ []) (h2 : (x.all fun c => decide (c < 256)) = true) (h3 : (x.any fun c => !letN c) = true) : isSig x :=
 ⟨h1, fun c hc => by simpa using List.all_eq_true.1 h2 c hc, by
  obtain ⟨c, hc, hl⟩ := List.any_eq_true.1 h3
  exact ⟨c, hc, by simpa using hl⟩⟩
theorem cmpsS_sig : ∀ x ∈ cmpsS, isSig x := by
 intro x hx
 simp only [cmpsS, List.mem_cons, List.not_mem_nil, or_false] at hx
 rcases hx with rfl | rfl | rfl <;> exact isSig_dec (by decide) (by decide) (by decide)
theorem opsS_sig : ∀ x ∈ opsS, isSig x := by
 intro x hx
 simp only [opsS, List.mem_cons, List.not_mem_nil, or_false] at hx
 rcases hx with rfl | rfl | rfl | rfl | rfl | rfl | rfl | rfl | rfl | rfl | rfl <;> exact isSig_dec (by decide) (by decide) (by decide)
/-- A list of pairs, counted on. -/
def tabO (L : List (List Nat)) (f : Nat) : List (List Nat × Nat) := match L with
 | [] => []
 | x :: r => (x, f) :: tabO r (f + 1)
theorem look_tab (s : List Nat) : ∀ (L : List (List Nat)) (f : Nat), 0 < f → sigO L f s = (look (tabO L f) s).getD 0 ∧ (look (tabO L f) s ≠ some 0)
 | [], f, _ => ⟨rfl, by intro e; cases e⟩
 | x :: r, f, hf => by
   have ih := look_tab s r (f + 1) (by omega)
   unfold sigO
   by_cases h : s = x
   · have e : look (tabO (x :: r) f) s = some f := by
      show look ((x, f) :: tabO r (f + 1)) s = _
      unfold look; rw [List.find?_cons_of_pos (by simp [h])]; rfl
     rw [if_pos h, e]
     exact ⟨rfl, by intro e; injection e with e; omega⟩
   · have e : look (tabO (x :: r) f) s = look (tabO r (f + 1)) s := by
      show look ((x, f) :: tabO r (f + 1)) s = _
      unfold look; rw [List.find?_cons_of_neg (by simpa using fun e => h e.symm)]
     rw [if_neg h, e]
     exact ih
theorem cmps_tab : tabO cmpsS 19 = cmps := rfl
theorem ops_tab : tabO opsS 8 = opsL := rfl
end Go.Proofs.Ytiadfmhodlbkiaa
