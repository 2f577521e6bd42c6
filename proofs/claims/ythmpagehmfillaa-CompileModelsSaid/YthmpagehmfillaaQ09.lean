/-
  A PARSER IN MEMORY: its row, the tokens that stand ahead. Conditions: none.
  THE WALKS OF parse's SMALL FUNCTIONS: ok, fail, is, step, may, must, num. Conditions: a parser.
-/
import Derived.Test.YthmpagehmfillaaQ08
import Derived.Test.YthmpagehmfillaaQ04
namespace Go.Proofs.Ythmpagehmfillaa
open Go.RowKit
set_option linter.unusedSimpArgs false
set_option linter.unusedVariables false

def erO (b : Option Flt) : Nat := match b with
  | none => 0
  | some e => e.1
def lnO (b : Option Flt) : Nat := match b with
  | none => 0
  | some e => e.2
/-- A token lies at a place. -/
def TokAt (w : World) (g o : Nat) (t : Tok) : Prop :=
  w.cell? ⟨g, o, none⟩ = some (.int .u8 t.k) ∧ w.cell? ⟨g, o + 1, none⟩ = some (.string (mkS t.s)) ∧ w.cell? ⟨g, o + 2, none⟩ = some (.int .i64 t.n) ∧ w.cell? ⟨g, o + 3, none⟩ = some (.int .i64 t.ln)
def TksAt (w : World) (g o : Nat) (l : List Tok) : Prop := ∀ i (hi : i < l.length), TokAt w g (o + i * 4) l[i]
theorem TksAt.tail {w : World} {g o : Nat} {l : List Tok} (h : TksAt w g o l) : TksAt w g (o + 4) l.tail := by
  intro i hi
  have hi' : i + 1 < l.length := by rw [List.length_tail] at hi; omega
  have := h (i + 1) hi'
  rw [show o + (i + 1) * 4 = o + 4 + i * 4 by omega] at this
  rw [List.getElem_tail]
  exact this
theorem TksAt.head {w : World} {g o : Nat} {l : List Tok} (h : TksAt w g o l) (hl : TL l) : TokAt w g o (hd l) := by
  cases l with
  | nil => exact absurd rfl hl.ne
  | cons a r => exact h 0 (by simp)
theorem TokAt.keep {w w' : World} {g o : Nat} {t : Tok} (h : TokAt w g o t) (hb : w'.heap[g]? = w.heap[g]?) : TokAt w' g o t :=
  have e : ∀ k, w'.cell? ⟨g, k, none⟩ = w.cell? ⟨g, k, none⟩ := fun k => World.cell?_of_block hb
  ⟨(e _).trans h.1, (e _).trans h.2.1, (e _).trans h.2.2.1, (e _).trans h.2.2.2⟩
theorem TksAt.keep {w w' : World} {g o : Nat} {l : List Tok} (h : TksAt w g o l) (hb : w'.heap[g]? = w.heap[g]?) : TksAt w' g o l := fun i hi => (h i hi).keep hb
theorem mkS_inj {a b : List Nat} (ha : ∀ x ∈ a, x < 256) (hb : ∀ x ∈ b, x < 256) (h : mkS a = mkS b) : a = b := by rw [← strB_mkS ha, ← strB_mkS hb, h]
theorem mkS_eq {a b : List Nat} (ha : ∀ x ∈ a, x < 256) (hb : ∀ x ∈ b, x < 256) : ((mkS a).toList == (mkS b).toList) = decide (a = b) := by
  rw [str_eq, strB_mkS ha, strB_mkS hb]
def psF (v : Value) (b : Option Flt) (many : Nat) : Nat → Value
  | 0 => v
  | 1 => .int .i64 (erO b : Nat)
  | 2 => .int .i64 (lnO b : Nat)
  | _ => .int .i64 many
/-- The program's parser. -/
structure PS (B : Nat) (w : World) (gp : Nat) (l : List Tok) (b : Option Flt) (many : Nat) : Prop where
  ex : ∃ g o c, w.rowIs gp 104 4 (psF (.slice (some ⟨g, o, none⟩) l.length c) b many) ∧ g ≠ gp ∧ g < B ∧ l.length ≤ c ∧ c ≤ maxLen ∧ TksAt w g o l
  tl : TL l
  er : ∀ e, b = some e → e.1 ≠ 0
  le : many ≤ 501
  ll : l.length ≤ 20000
  bp : gp < B
  bw : B ≤ w.heap.size
section
variable {w w' : World} {B gp : Nat} {l : List Tok} {b : Option Flt} {many : Nat}
theorem PS.lt (h : PS B w gp l b many) : gp < w.heap.size := by
  obtain ⟨g, o, c, h1, -⟩ := h.ex
  exact h1.lt
theorem PS.kept {row : Option Nat} (h : PS B w gp l b many) (hg : w.grownBy w' row) (hr : ∀ k, row = some k → B ≤ k) : PS B w' gp l b many := by
  obtain ⟨g, o, c, q1, q2, q3, q4, q5, q6⟩ := h.ex
  have hb := h.bp
  have hw := h.bw
  exact ⟨⟨g, o, c, q1.of_block (hg.block gp q1.lt (fun e => by have := hr gp e.symm; omega)), q2, q3, q4, q5, q6.keep (hg.block g (by omega) (fun e => by have := hr g e.symm; omega))⟩, h.tl, h.er, h.le, h.ll, hb, Nat.le_trans hw hg.size⟩
/-- Only new blocks. -/
theorem PS.below (h : PS B w gp l b many) (hb : Below w.heap.size w w') : PS B w' gp l b many :=
  h.kept (row := none) (grown_of_below hb none) (fun k e => by cases e)
/-- A young block written. -/
theorem PS.off (h : PS B w gp l b many) {p : Addr} (hp : B ≤ p.block) (u : Value) : PS B (w.setCell p u) gp l b many :=
  h.kept (row := some p.block) (grown_set (grown_refl _ _) (.inl rfl) u) (fun k e => by injection e with e; omega)
theorem PS.setF (h : PS B w gp l none many) {e ln : Nat} (h0 : e ≠ 0) : PS B ((w.setCell ⟨gp, 1, none⟩ (.int .i64 e)).setCell ⟨gp, 2, none⟩ (.int .i64 ln)) gp l (some (e, ln)) many := by
  obtain ⟨g, o, c, q1, q2, q3, q4, q5, q6⟩ := h.ex
  refine ⟨⟨g, o, c, ((q1.set 1 _).set 2 _).congr fun i hi => ?_, q2, q3, q4, q5, q6.keep ?_⟩, h.tl, fun e' he => by injection he with he; subst he; exact h0, h.le, h.ll, h.bp, by simpa [World.setCell] using h.bw⟩
  · match i, hi with
    | 0, _ => rfl
    | 1, _ => rfl
    | 2, _ => rfl
    | 3, _ => rfl
  · exact (grown_set (grown_set (grown_refl w (some gp)) (.inl rfl) _) (.inl rfl) _).block g (by have := h.bw; omega) (fun e => q2 (by injection e))
theorem PS.setM (h : PS B w gp l b many) {m : Nat} (hm : m ≤ 501) : PS B (w.setCell ⟨gp, 3, none⟩ (.int .i64 m)) gp l b m := by
  obtain ⟨g, o, c, q1, q2, q3, q4, q5, q6⟩ := h.ex
  refine ⟨⟨g, o, c, (q1.set 3 _).congr fun i hi => ?_, q2, q3, q4, q5, q6.keep ?_⟩, h.tl, h.er, hm, h.ll, h.bp, by simpa [World.setCell] using h.bw⟩
  · match i, hi with
    | 0, _ => rfl
    | 1, _ => rfl
    | 2, _ => rfl
    | 3, _ => rfl
  · exact (grown_set (grown_refl w (some gp)) (.inl rfl) _).block g (by have := h.bw; omega) (fun e => q2 (by injection e))
theorem PS.setL (h : PS B w gp l b many) {g o c n : Nat} (hc : w.cell? ⟨gp, 0, none⟩ = some (.slice (some ⟨g, o, none⟩) l.length c)) (hl : 1 < l.length) (ht : TL l.tail) (hn : n = l.tail.length) : PS B (w.setCell ⟨gp, 0, none⟩ (.slice (some ⟨g, o + 4, none⟩) n (c - 1))) gp l.tail b many := by
  obtain ⟨g', o', c', q1, q2, q3, q4, q5, q6⟩ := h.ex
  have e := (q1.cell (show 0 < 4 by omega)).symm.trans hc
  injection e with e
  injection e with e e2 e3
  injection e with e
  injection e with e e1
  subst e; subst e1; subst e3; subst hn
  refine ⟨⟨g', o' + 4, c' - 1, (q1.set 0 _).congr fun i hi => ?_, q2, by simpa [World.setCell] using q3, by rw [List.length_tail]; omega, by omega, q6.tail.keep ?_⟩, ht, h.er, h.le, by have := h.ll; rw [List.length_tail]; omega, h.bp, by simpa [World.setCell] using h.bw⟩
  · match i, hi with
    | 0, _ => rfl
    | 1, _ => rfl
    | 2, _ => rfl
    | 3, _ => rfl
  · exact (grown_set (grown_refl w (some gp)) (.inl rfl) _).block g' (by have := h.bw; omega) (fun e => q2 (by injection e))
theorem er_eq (h : PS B w gp l b many) : decide ((erO b : Int) = 0) = b.isNone := by
  cases b with
  | none => rfl
  | some e => have := h.er e rfl; exact decide_eq_false (by show ¬ ((e.1 : Nat) : Int) = 0; omega)
end
end Go.Proofs.Ythmpagehmfillaa
namespace Go.Proofs.Ythmpagehmfillaa
open Go.RowKit
set_option linter.unusedSimpArgs false
set_option linter.unusedVariables false
section
variable {w : World} {B gp : Nat} {l : List Tok} {b : Option Flt} {many : Nat}
theorem pok_any (h : PS B w gp l b many) : Calls Try.prog 39 #[.pointer (some ⟨gp, 0, none⟩)] w fun e w' => e = .returned (.bool b.isNone) ∧ w = w' := by
  obtain ⟨g, o, c, q1, -⟩ := h.ex
  have f1 : w.cell? ⟨gp, 1, none⟩ = some (.int .i64 (erO b : Nat)) := q1.cell (by omega)
  have he := er_eq h
  have H := Lib.hid h
  clear h q1
  go_enter Try.func39, Try.ntmps39
  go_wp2_with fail
  go_ret
  refine ⟨?_, rfl⟩
  rw [← he]
  rfl
theorem pfail_any (h : PS B w gp l b many) (e : Nat) (h0 : e ≠ 0) : Calls Try.prog 44 #[.pointer (some ⟨gp, 0, none⟩), .int .i64 e] w fun ee w' => ee = .returned (.tuple #[]) ∧ PS B w' gp l (b.or (some (e, (hd l).ln))) many ∧ w.grownBy w' (some gp) := by
  obtain ⟨g, o, c, q1, q2, q3, q4, q5, q6⟩ := h.ex
  obtain ⟨-, -, -, t3⟩ := q6.head h.tl
  have f0 : w.cell? ⟨gp, 0, none⟩ = some (.slice (some ⟨g, o, none⟩) l.length c) := q1.cell (by omega)
  have f1 : w.cell? ⟨gp, 1, none⟩ = some (.int .i64 (erO b : Nat)) := q1.cell (by omega)
  have f2 : w.cell? ⟨gp, 2, none⟩ = some (.int .i64 (lnO b : Nat)) := q1.cell (by omega)
  have z1 := q1.frozen 1
  have z2 := q1.frozen 2
  have hl : 0 < l.length := List.length_pos_iff.2 h.tl.ne
  have hl1 : (0 : Int) < l.length := by omega
  have H := Lib.hid h
  have Q := Lib.hid q1
  have Q6 := Lib.hid q6
  cases b with
  | none =>
    clear h q1 q6
    have f1' : w.cell? ⟨gp, 1, none⟩ = some (.int .i64 0) := f1
    have f2' : w.cell? ⟨gp, 2, none⟩ = some (.int .i64 0) := f2
    clear f1 f2
    go_enter Try.func44, Try.ntmps44
    go_wp2_with fail
    go_end0
    exact ⟨rfl, H.out.setF h0, grown_set (grown_set (grown_refl w (some gp)) (.inl rfl) _) (.inl rfl) _⟩
  | some x =>
    have hx : ((erO (some x) : Nat) : Int) ≠ 0 := by have := h.er x rfl; show ((x.1 : Nat) : Int) ≠ 0; omega
    clear h q1 q6
    go_enter Try.func44, Try.ntmps44
    go_wp2_with fail
    go_end0
    exact ⟨rfl, H.out, grown_refl _ _⟩
/-- Does this stand next? -/
theorem pis_any (h : PS B w gp l b many) (S : ByteArray) (s : List Nat) (hS : S = mkS s) (hs : s ≠ []) (h8 : ∀ x ∈ s, x < 256) : Calls Try.prog 40 #[.pointer (some ⟨gp, 0, none⟩), .string S] w fun e w' => e = .returned (.bool (b.isNone && decide ((hd l).s = s))) ∧ w = w' := by
  obtain ⟨g, o, c, q1, q2, q3, q4, q5, q6⟩ := h.ex
  obtain ⟨-, t1, t2, -⟩ := q6.head h.tl
  have f0 : w.cell? ⟨gp, 0, none⟩ = some (.slice (some ⟨g, o, none⟩) l.length c) := q1.cell (by omega)
  have hl : 0 < l.length := List.length_pos_iff.2 h.tl.ne
  have hl1 : (0 : Int) < l.length := by omega
  have he := mkS_eq h.tl.hd_ok.1 h8
  rw [← hS] at he
  have hz : S.toList.isEmpty = false := by
    rw [Lib.toList_data, hS]
    cases s with
    | nil => exact absurd rfl hs
    | cons a r => rfl
  have hn : (hd l).s = s → (hd l).n = 0 := fun e => (h.tl.hd_s (by rw [e]; exact hs)).2.2
  have H := Lib.hid h
  have HN := Lib.hid hn
  clear h q1 q6 hS hn
  obtain ⟨r, hr⟩ : ∃ r, r = decide ((hd l).s = s) := ⟨_, rfl⟩
  rw [← hr] at he ⊢
  cases b with
  | some x =>
    clear hr he
    go_enter Try.func40, Try.ntmps40
    go_wp2_with fail
    refine (pok_any H.out).mono ?_
    rintro e w' ⟨rfl, rfl⟩
    go_wp2_with fail
    go_ret
    exact ⟨rfl, rfl⟩
  | none =>
    by_cases hn0 : (hd l).n = 0
    · have t2' : w.cell? ⟨g, o + 2, none⟩ = some (.int .i64 0) := by rw [t2, hn0]; rfl
      clear t2 hn0 hr
      cases r with
      | true =>
        go_enter Try.func40, Try.ntmps40
        go_wp2_with fail
        refine (pok_any H.out).mono ?_
        rintro e w' ⟨rfl, rfl⟩
        go_wp2_with fail
        go_ret
        exact ⟨rfl, rfl⟩
      | false =>
        go_enter Try.func40, Try.ntmps40
        go_wp2_with fail
        refine (pok_any H.out).mono ?_
        rintro e w' ⟨rfl, rfl⟩
        go_wp2_with fail
        go_ret
        exact ⟨rfl, rfl⟩
    · have hq : r = false := by rw [hr]; exact decide_eq_false (fun e => hn0 (HN.out e))
      subst hq
      have hb : (((hd l).n : Int) == 0) = false := by rw [beq_eq_false_iff_ne]; omega
      clear hr hn0 he
      go_enter Try.func40, Try.ntmps40
      go_wp2_with fail
      refine (pok_any H.out).mono ?_
      rintro e w' ⟨rfl, rfl⟩
      go_wp2_with fail
      go_ret
      exact ⟨rfl, rfl⟩
theorem pstep_any (h : PS B w gp l b many) : Calls Try.prog 72 #[.pointer (some ⟨gp, 0, none⟩)] w fun e w' => e = .returned (.tuple #[]) ∧ PS B w' gp (if (hd l).k = 4 then l else l.tail) b many ∧ w.grownBy w' (some gp) := by
  obtain ⟨g, o, c, q1, q2, q3, q4, q5, q6⟩ := h.ex
  have f0 : w.cell? ⟨gp, 0, none⟩ = some (.slice (some ⟨g, o, none⟩) l.length c) := q1.cell (by omega)
  have z0 := q1.frozen 0
  have hl : 0 < l.length := List.length_pos_iff.2 h.tl.ne
  have H := Lib.hid h
  have F0 := Lib.hid f0
  clear h q1 q6
  obtain ⟨n, hn⟩ : ∃ n, n = l.length := ⟨_, rfl⟩
  rw [← hn] at f0 q4 hl
  by_cases hk : (hd l).k = 4
  · have h1 := H.out.tl.last hk
    rw [if_pos hk]
    rw [h1] at hn
    subst hn
    clear hk h1
    go_enter Try.func72, Try.ntmps72
    go_wp2_with fail
    go_end0
    exact ⟨rfl, H.out, grown_refl _ _⟩
  · have ht := H.out.tl.tail hk
    have HT := Lib.hid ht
    rw [if_neg hk]
    have hn1 : (1 : Int) < n := by omega
    have hn2 : 1 < n := by omega
    have hc1 : 1 < c := by omega
    have hnc : (n : Int) ≤ c := by omega
    have HN := Lib.hid hn
    clear hn ht hk
    go_enter Try.func72, Try.ntmps72
    go_wp2_with fail
    go_end0
    exact ⟨rfl, H.out.setL F0.out (by rw [← HN.out]; exact hn2) HT.out.1 (by rw [List.length_tail, ← HN.out]), grown_set (grown_refl w (some gp)) (.inl rfl) _⟩
/-- One that stands next is taken. -/
theorem pmay_any (h : PS B w gp l b many) (S : ByteArray) (s : List Nat) (hS : S = mkS s) (hs : s ≠ []) (h8 : ∀ x ∈ s, x < 256) : Calls Try.prog 43 #[.pointer (some ⟨gp, 0, none⟩), .string S] w fun e w' => ∃ r, r = (b.isNone && decide ((hd l).s = s)) ∧ e = .returned (.bool r) ∧ PS B w' gp (if r then l.tail else l) b many ∧ w.grownBy w' (some gp) := by
  have HI := Lib.hid (pis_any h S s hS hs h8)
  have H := Lib.hid h
  have hk : (hd l).s = s → (hd l).k ≠ 4 := fun e => (h.tl.hd_s (by rw [e]; exact hs)).1
  have HK := Lib.hid hk
  clear h hS hk
  obtain ⟨r, hr⟩ : ∃ r, r = (b.isNone && decide ((hd l).s = s)) := ⟨_, rfl⟩
  rw [← hr] at HI ⊢
  have HR := Lib.hid hr
  clear hr
  go_enter Try.func43, Try.ntmps43
  go_wp2_with fail
  refine HI.out.mono ?_
  rintro e w' ⟨rfl, rfl⟩
  cases r with
  | true =>
    have hq : (hd l).s = s := by have := HR.out; simp at this; exact this.2
    have HS := Lib.hid (pstep_any H.out)
    rw [if_neg (HK.out hq)] at HS
    clear hq
    go_wp2_with fail
    refine HS.out.mono ?_
    rintro e w' ⟨rfl, h1, h2⟩
    have H1 := Lib.hid h1
    have H2 := Lib.hid h2
    clear h1 h2
    go_wp2_with fail
    go_ret
    exact ⟨_, rfl, rfl, H1.out, H2.out⟩
  | false =>
    go_wp2_with fail
    go_ret
    exact ⟨_, rfl, rfl, H.out, grown_refl _ _⟩
theorem pmust_any (h : PS B w gp l b many) (S : ByteArray) (s : List Nat) (hS : S = mkS s) (hs : s ≠ []) (h8 : ∀ x ∈ s, x < 256) : Calls Try.prog 37 #[.pointer (some ⟨gp, 0, none⟩), .string S] w fun e w' => e = .returned (.tuple #[]) ∧ ∃ l' b', PS B w' gp l' b' many ∧ Rel (must s) l b () l' b' ∧ w.grownBy w' (some gp) := by
  have HI := Lib.hid (pmay_any h S s hS hs h8)
  clear h hS
  go_enter Try.func37, Try.ntmps37
  go_wp2_with fail
  refine HI.out.mono ?_
  rintro e w1 ⟨r, hr, rfl, h1, h2⟩
  have HR := Lib.hid hr
  have H2 := Lib.hid h2
  have H1 := Lib.hid h1
  clear hr h1 h2
  cases r with
  | true =>
    go_wp2_with fail
    go_end0
    refine ⟨rfl, l.tail, b, H1.out, ?_, H2.out⟩
    have hr := HR.out
    cases b with
    | some x => simp at hr
    | none =>
      simp at hr
      unfold Rel must
      rw [if_pos hr]
      exact ⟨rfl, rfl, rfl⟩
  | false =>
    have HF := Lib.hid (pfail_any H1.out 121 (by decide))
    go_wp2_with fail
    refine HF.out.mono ?_
    rintro e w2 ⟨rfl, h1, h2⟩
    have H3 := Lib.hid h1
    have H4 := Lib.hid h2
    clear h1 h2
    go_wp2_with fail
    go_end0
    refine ⟨rfl, l, _, H3.out, ?_, nil_grown H2.out H4.out⟩
    have hr := HR.out
    cases b with
    | some x => rfl
    | none =>
      simp at hr
      unfold Rel must
      rw [if_neg hr]
      rfl
theorem al_four (w : World) (t : Tok) : TokAt (w.alloc (.cells #[.int .u8 t.k, .string (mkS t.s), .int .i64 t.n, .int .i64 t.ln] 111)) w.heap.size 0 t := by
  have hn := heap_alloc_new w (.cells #[.int .u8 t.k, .string (mkS t.s), .int .i64 t.n, .int .i64 t.ln] 111)
  exact ⟨(cell_of_row _ _ _ _ _ _ hn).trans rfl, (cell_of_row _ _ _ _ _ _ hn).trans rfl, (cell_of_row _ _ _ _ _ _ hn).trans rfl, (cell_of_row _ _ _ _ _ _ hn).trans rfl⟩
theorem pnum_any (h : PS B w gp l b many) (m : Nat) (hm : m ≤ 65535) : Calls Try.prog 38 #[.pointer (some ⟨gp, 0, none⟩), .int .i64 m] w fun e w' => ∃ n l' b', n ≤ 65535 ∧ e = .returned (.int .i64 (n : Nat)) ∧ PS B w' gp l' b' many ∧ Rel (num m) l b n l' b' ∧ w.grownBy w' (some gp) := by
  obtain ⟨g, o, c, q1, q2, q3, q4, q5, q6⟩ := h.ex
  obtain ⟨t0, t1, t2, t3⟩ := q6.head h.tl
  have f0 : w.cell? ⟨gp, 0, none⟩ = some (.slice (some ⟨g, o, none⟩) l.length c) := q1.cell (by omega)
  have hl : 0 < l.length := List.length_pos_iff.2 h.tl.ne
  have hl1 : (0 : Int) < l.length := by omega
  obtain ⟨t, ht⟩ : ∃ t, t = hd l := ⟨_, rfl⟩
  have hok := h.tl.hd_ok
  rw [← ht] at t0 t1 t2 t3 hok
  have HT := Lib.hid ht
  have HOK := Lib.hid hok
  have hba : Below w.heap.size w (w.alloc (.cells #[.int .u8 t.k, .string (mkS t.s), .int .i64 t.n, .int .i64 t.ln] 111)) := (Below.refl _ _).alloc (Nat.le_refl _) _
  have H := Lib.hid (h.below hba)
  have HB := Lib.hid hba
  have HW := Lib.hid h.lt
  have HD := Lib.hid (al_four w t)
  clear h q1 q6 hba hok ht
  go_enter Try.func38, Try.ntmps38
  go_wp2_with fail
  refine (pok_any H.out).mono ?_
  rintro e w' ⟨rfl, rfl⟩
  obtain ⟨d0, d1, d2, d3⟩ := HD.out
  have hgx : Hid (w.heap.size ≠ gp) := fun e => by have := HW.out; omega
  have hlx := block_lt_of_cell d0
  clear t0 t1 t2 t3 f0
  generalize (w.alloc (.cells #[.int .u8 t.k, .string (mkS t.s), .int .i64 t.n, .int .i64 t.ln] 111)) = X1 at *
  have HD2 := Lib.hid d2
  have HLX := Lib.hid hlx
  have HGB := Lib.hid (grown_of_below HB.out (some gp))
  clear HD hlx HB
  generalize hgz : w.heap.size = gx at *
  cases b with
  | some x =>
    go_wp2_with fail
    go_ret
    exact ⟨0, l, some x, by omega, rfl, H.out, rfl, HGB.out⟩
  | none =>
    by_cases hk : t.k = 2
    · rw [hk] at d0
      by_cases hm1 : m < t.n
      · have hm2 : (m : Int) < t.n := by omega
        have HF := Lib.hid (pfail_any H.out 123 (by decide))
        go_wp2_with fail
        refine HF.out.mono ?_
        rintro e w2 ⟨rfl, h1, h2⟩
        have H1 := Lib.hid h1
        have H2 := Lib.hid h2
        clear h1 h2
        go_wp2_with fail
        go_ret
        refine ⟨0, l, _, by omega, rfl, H1.out, ?_, nil_grown HGB.out H2.out⟩
        unfold Rel num
        rw [← HT.out, if_pos hk, if_pos hm1]
        rfl
      · have hm2 : ¬ (m : Int) < t.n := by omega
        have hnum := H.out.tl.hd_num (by rw [← HT.out]; exact hk)
        have HS := Lib.hid (pstep_any H.out)
        rw [if_neg hnum.1] at HS
        clear hnum
        go_wp2_with fail
        refine HS.out.mono ?_
        rintro e w2 ⟨rfl, h1, h2⟩
        have H1 := Lib.hid h1
        have H2 := Lib.hid h2
        have d2' : w2.cell? ⟨gx, 2, none⟩ = some (.int .i64 t.n) := h2.cell HD2.out (by intro e; injection e with e; exact hgx.out e)
        clear h1 h2
        go_wp2_with fail
        go_ret
        refine ⟨t.n, l.tail, none, HOK.out.2.1, rfl, H1.out, ?_, nil_grown HGB.out H2.out⟩
        unfold Rel num
        rw [← HT.out, if_pos hk, if_neg hm1]
        exact ⟨rfl, rfl, rfl⟩
    · have hk1 : ((t.k : Int) == 2) = false := by rw [beq_eq_false_iff_ne]; omega
      have hk2 : ((t.k : Int) != 2) = true := by rw [bne_iff_ne]; omega
      have HF := Lib.hid (pfail_any H.out 121 (by decide))
      go_wp2_with fail
      refine HF.out.mono ?_
      rintro e w2 ⟨rfl, h1, h2⟩
      have H1 := Lib.hid h1
      have H2 := Lib.hid h2
      clear h1 h2
      go_wp2_with fail
      go_ret
      refine ⟨0, l, _, by omega, rfl, H1.out, ?_, nil_grown HGB.out H2.out⟩
      unfold Rel num
      rw [← HT.out, if_neg hk]
      rfl
end
end Go.Proofs.Ythmpagehmfillaa
