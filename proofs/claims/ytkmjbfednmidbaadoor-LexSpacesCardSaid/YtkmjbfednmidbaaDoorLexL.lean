/-
  THE WALK OF quillpresskit.SameTokens; the law's end. Conditions: the slices are lists of tokens.
-/
import Derived.Test.YtkmjbfednmidbaaDoorLexR2
import Derived.Deep.QuietTactic
import Derived.BigQuiet
namespace Go.Proofs.YtkmjbfednmidbaaDoor
open Go.RowKit
set_option linter.unusedSimpArgs false
set_option linter.unusedVariables false

/-- A slice that reads as tokens. -/
def Tr (w : World) (v : Value) (l : List Tok) : Prop := ∃ A c, v = .slice A l.length c ∧ (l ≠ [] → ∃ g, A = some ⟨g, 0, none⟩ ∧ g < w.heap.size ∧
    ∀ i (hi : i < l.length), w.cell? ⟨g, i * 4, none⟩ = some (.int .u8 l[i].k) ∧ w.cell? ⟨g, i * 4 + 1, none⟩ = some (.string (mkS l[i].s)) ∧ w.cell? ⟨g, i * 4 + 2, none⟩ = some (.int .i64 l[i].n) ∧ w.cell? ⟨g, i * 4 + 3, none⟩ = some (.int .i64 l[i].ln))
theorem To.tr {w : World} {base : Nat} {v : Value} {l : List Tok} (h : To w base v l) : Tr w v l := by
  by_cases hl : l = []
  · subst hl
    rcases h.2 with ⟨rfl, _⟩ | ⟨g, cap, cur, rfl, _⟩
    · exact ⟨none, 0, rfl, fun h => absurd rfl h⟩
    · exact ⟨_, _, rfl, fun h => absurd rfl h⟩
  · obtain ⟨g, c, rfl, _, _, hg, hc⟩ := h.form hl
    exact ⟨_, c, rfl, fun _ => ⟨g, rfl, hg, hc⟩⟩
theorem Tr.below {w w' : World} {v : Value} {l : List Tok} (h : Tr w v l) (hb : Below w.heap.size w w') : Tr w' v l := by
  obtain ⟨A, c, rfl, h⟩ := h
  refine ⟨A, c, rfl, fun hn => ?_⟩
  obtain ⟨g, rfl, hg, hc⟩ := h hn
  refine ⟨g, rfl, Nat.lt_of_lt_of_le hg hb.size, fun i hi => ?_⟩
  obtain ⟨h0, h1, h2, h3⟩ := hc i hi
  exact ⟨(hb.cell hg).trans h0, (hb.cell hg).trans h1, (hb.cell hg).trans h2, (hb.cell hg).trans h3⟩

theorem al_keep {w1 w2 : World} {o : Obj} {p : Addr} {v : Value} (hb : Below (w1.alloc o).heap.size (w1.alloc o) w2) (hp : p.block < w1.heap.size) (hc : w1.cell? p = some v) : w2.cell? p = some v :=
  (hb.cell (by simp; omega)).trans ((((Below.refl w1.heap.size w1).alloc (Nat.le_refl _) o).cell hp).trans hc)
theorem al_grow {w1 w2 : World} {o : Obj} (hb : Below (w1.alloc o).heap.size (w1.alloc o) w2) : w1.heap.size < w2.heap.size := by have := hb.size; simp at this; omega
theorem al_two {w1 w2 : World} {x y : Value} {t : TypeId} (hb : Below (w1.alloc (.cells #[x, y] t)).heap.size (w1.alloc (.cells #[x, y] t)) w2) : w2.cell? ⟨w1.heap.size, 0, none⟩ = some x ∧ w2.cell? ⟨w1.heap.size, 1, none⟩ = some y :=
  ⟨(hb.cell (by simp)).trans (by rw [cell_of_row _ _ _ _ _ _ (heap_alloc_new w1 _)]; rfl), (hb.cell (by simp)).trans (by rw [cell_of_row _ _ _ _ _ _ (heap_alloc_new w1 _)]; rfl)⟩
theorem al_below {w w1 w2 : World} {o : Obj} (hb : Below (w1.alloc o).heap.size (w1.alloc o) w2) (h : Below w.heap.size w w1) : Below w.heap.size w w2 := (h.alloc h.size o).trans (hb.mono (by have := h.size; simp; omega))
theorem lex_a : lexN (strB ⟨#[97, 43, 61, 53]⟩) = .inl [⟨1, [97], 0, 1⟩, ⟨3, [43, 61], 0, 1⟩, ⟨2, [], 5, 1⟩, ⟨4, [], 0, 1⟩] := by kernel_rfl
theorem lex_b : lexN (strB ⟨#[97, 38, 126, 61, 98, 32, 35, 32, 120, 10, 99]⟩) = .inl [⟨1, [97], 0, 1⟩, ⟨3, [38, 126, 61], 0, 1⟩, ⟨1, [98], 0, 1⟩, ⟨1, [99], 0, 2⟩, ⟨4, [], 0, 2⟩] := by kernel_rfl
theorem lex_c : lexN (strB ⟨#[97, 32, 38, 32, 98]⟩) = .inr 1 := by kernel_rfl
theorem lex_d : lexN (strB ⟨#[10, 32, 55, 48, 48, 48, 48]⟩) = .inr 2 := by kernel_rfl
theorem tok_inl {s : ByteArray} {l : List Tok} {w : World} (hs : s.size ≤ 16384) (h : lexN (strB s) = .inl l) : Calls Tryd.prog 5 #[.string s] w fun e w' => ∃ v, e = .returned (.tuple #[v, .agg #[.int .i64 0, .int .i64 0]]) ∧ To w' w.heap.size v l ∧ Below w.heap.size w w' :=
  (tokens_any s w hs).mono fun e w' ⟨h1, h2⟩ => by
    rw [h] at h1
    obtain ⟨v, h3, h4⟩ := h1
    exact ⟨v, h3, h4, h2⟩
theorem tok_inr {s : ByteArray} {n : Nat} {w : World} (hs : s.size ≤ 16384) (h : lexN (strB s) = .inr n) : Calls Tryd.prog 5 #[.string s] w fun e w' => e = .returned (.tuple #[.slice none 0 0, .agg #[.int .i64 120, .int .i64 n]]) ∧ Below w.heap.size w w' :=
  (tokens_any s w hs).mono fun e w' ⟨h1, h2⟩ => by
    rw [h] at h1
    exact ⟨h1, h2⟩
set_option maxRecDepth 100000 in
set_option maxHeartbeats 2000000 in
theorem lexAwake_any (w : World) : Calls Tryd.prog 4 #[] w fun e w' => e = .returned (.bool true) ∧ Below w.heap.size w w' := by
  go_enter Tryd.func4, Tryd.ntmps4
  go_wp2_with fail
  refine (tok_inl (by decide) lex_a).mono ?_
  rintro e w1 ⟨v1, rfl, ho1, hb1⟩
  obtain ⟨g1, c1, rfl, hc1, -, hg1, hcell⟩ := ho1.form (by simp)
  have a1 := (hcell 1 (by decide)).2.1
  have a2 := (hcell 2 (by decide)).2.2.1
  have a3 := (hcell 3 (by decide)).1
  have A1 : Hid (w1.cell? ⟨g1, 5, none⟩ = some (.string ⟨#[43, 61]⟩)) := a1
  have A2 : Hid (w1.cell? ⟨g1, 10, none⟩ = some (.int .i64 5)) := a2
  have A3 : Hid (w1.cell? ⟨g1, 12, none⟩ = some (.int .u8 4)) := a3
  have HB1 := Lib.hid hb1
  clear ho1 hb1 hcell a1 a2 a3
  go_wp2_with fail
  refine (tok_inl (by decide) lex_b).mono ?_
  rintro e w2 ⟨v2, rfl, ho2, hb2⟩
  obtain ⟨g2, c2, rfl, hc2, -, hg2, hcell⟩ := ho2.form (by simp)
  have B1 : Hid (w2.cell? ⟨g2, 5, none⟩ = some (.string ⟨#[38, 126, 61]⟩)) := (hcell 1 (by decide)).2.1
  have B2 : Hid (w2.cell? ⟨g2, 15, none⟩ = some (.int .i64 2)) := (hcell 3 (by decide)).2.2.2
  replace A1 := Lib.hid (al_keep hb2 hg1 A1.out)
  replace A2 := Lib.hid (al_keep hb2 hg1 A2.out)
  replace A3 := Lib.hid (al_keep hb2 hg1 A3.out)
  have F1 := Lib.hid (al_two hb2).1
  have z1 := al_grow hb2
  replace HB1 := Lib.hid (al_below hb2 HB1.out)
  replace hg1 := Nat.lt_trans hg1 z1
  clear ho2 hb2 hcell
  go_wp2_with fail
  refine (tok_inr (by decide) lex_c).mono ?_
  rintro e w3 ⟨rfl, hb3⟩
  replace A1 := Lib.hid (al_keep hb3 hg1 A1.out)
  replace A2 := Lib.hid (al_keep hb3 hg1 A2.out)
  replace A3 := Lib.hid (al_keep hb3 hg1 A3.out)
  replace B1 := Lib.hid (al_keep hb3 hg2 B1.out)
  replace B2 := Lib.hid (al_keep hb3 hg2 B2.out)
  replace F1 := Lib.hid (al_keep hb3 z1 F1.out)
  have F2 := Lib.hid (al_two hb3).1
  have z2 := al_grow hb3
  replace HB1 := Lib.hid (al_below hb3 HB1.out)
  replace hg1 := Nat.lt_trans hg1 z2
  replace hg2 := Nat.lt_trans hg2 z2
  replace z1 := Nat.lt_trans z1 z2
  clear hb3
  go_wp2_with fail
  refine (tok_inr (by decide) lex_d).mono ?_
  rintro e w4 ⟨rfl, hb4⟩
  replace A1 := Lib.hid (al_keep hb4 hg1 A1.out)
  replace A2 := Lib.hid (al_keep hb4 hg1 A2.out)
  replace A3 := Lib.hid (al_keep hb4 hg1 A3.out)
  replace B1 := Lib.hid (al_keep hb4 hg2 B1.out)
  replace B2 := Lib.hid (al_keep hb4 hg2 B2.out)
  replace F1 := Lib.hid (al_keep hb4 z1 F1.out)
  replace F2 := Lib.hid (al_keep hb4 z2 F2.out)
  have F3 := Lib.hid (al_two hb4).1
  have F4 := Lib.hid (al_two hb4).2
  have z3 := al_grow hb4
  replace HB1 := Lib.hid (al_below hb4 HB1.out)
  replace hg1 := Nat.lt_trans hg1 z3
  replace hg2 := Nat.lt_trans hg2 z3
  replace z1 := Nat.lt_trans z1 z3
  replace z2 := Nat.lt_trans z2 z3
  clear hb4
  have a1 := A1.out
  have a2 := A2.out
  have a3 := A3.out
  have b1 := B1.out
  have b2 := B2.out
  have f1 := F1.out
  have f2 := F2.out
  have f3 := F3.out
  have f4 := F4.out
  go_wp2_with fail
  go_ret
  exact ⟨rfl, HB1.out.alloc HB1.out.size _⟩
theorem lexF_len : ∀ (f : Nat) (l : List Nat) (ln : Nat) (out r : List Tok), lexF f l ln out = .inl r → r.length ≤ out.length + l.length + 1 := by
  intro f
  induction f with
  | zero =>
    intro l ln out r h
    simp only [lexF, Sum.inl.injEq] at h
    rw [← h]; simp
  | succ f ih =>
    intro l ln out r h
    cases l with
    | nil =>
      simp only [lexF, Sum.inl.injEq] at h
      rw [← h]; simp
    | cons c t =>
      rw [lexF] at h
      split at h
      · have := ih _ _ _ _ h
        simp; omega
      · split at h
        · have := ih _ _ _ _ h
          simp; omega
        · split at h
          · have := ih _ _ _ _ h
            simp at this ⊢
            omega
          · split at h
            · cases h
            · rename_i t' n he
              have h1 := oneN_len he
              have := ih _ _ _ _ h
              simp at this h1 ⊢
              omega
theorem Tr.nil (w : World) : Tr w (.slice none 0 0) [] := ⟨none, 0, rfl, fun h => absurd rfl h⟩

end Go.Proofs.YtkmjbfednmidbaaDoor
