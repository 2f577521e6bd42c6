/-
 WHAT LEXING GIVES is a list of tokens that ends, as the parser wants it. Plain. Conditions: the text's size.
 WHAT parse.Parse COMES TO for any text. Conditions: none.
 THE DOCUMENT'S PARSER IN MEMORY; the walks of its now, fail, is, step, take, num, n. Conditions: a parser.
-/
import Derived.Test.YtiadfmhodlbkiaaQ01
import Derived.Test.YtiadfmhodlbkiaaQ02
import Derived.Test.YtiadfmhodlbkiaaQ19
import Derived.Test.YtiadfmhodlbkiaaQ15
import Derived.StillTailTactics
import Derived.BigQuiet
import Derived.Deep.QuietTactic
import Derived.Deep.RegionHeld3
namespace Go.Proofs.Ytiadfmhodlbkiaa
open Go.RowKit
set_option linter.unusedSimpArgs false
set_option linter.unusedVariables false
theorem take_wl_all {p : Nat → Bool} {l : List Nat} : ∀ c ∈ l.take (wl p l), p c = true := by
 have e : l.take (wl p l) = l.takeWhile p := by
  unfold wl
  exact (List.prefix_iff_eq_take.1 (List.takeWhile_prefix p)).symm
 rw [e]
 intro c hc
 exact List.all_eq_true.1 (List.all_takeWhile) c hc
theorem letN_lt {c : Nat} (h : letN c = true) : c < 256 := by
 unfold letN at h
 simp only [Bool.and_eq_true, decide_eq_true_eq] at h
 omega
theorem oneN_ok {l : List Nat} {t : Tok} {n ln : Nat} (h : oneN l = some (t, n)) (hln : ln ≤ 20000) : TokOk { t with ln := ln } ∧ t.k ≠ 4 := by
 unfold oneN at h
 split at h
 · rename_i h0
   simp only [Option.some.injEq, Prod.mk.injEq] at h
   obtain ⟨rfl, rfl⟩ := h
   have ha := take_wl_all (p := letN) (l := l)
   refine ⟨⟨fun c hc => letN_lt (ha c hc), Nat.zero_le _, hln, .inl ⟨rfl, rfl, ?_, ha⟩⟩, by simp⟩
   intro e
   have := congrArg List.length e
   simp only [List.length_take, List.length_nil] at this
   have := wl_le letN l
   omega
 · split at h
   · split at h
     · cases h
     · simp only [Option.some.injEq, Prod.mk.injEq] at h
       obtain ⟨rfl, rfl⟩ := h
       exact ⟨⟨fun c hc => absurd hc (by simp), by show numN _ ≤ 65535; omega, hln, .inr (.inl ⟨rfl, rfl⟩)⟩, by simp⟩
   · split at h
     · rename_i x hx
       simp only [Option.some.injEq, Prod.mk.injEq] at h
       obtain ⟨rfl, rfl⟩ := h
       obtain ⟨h1, h2⟩ := sgn_mem hx
       exact ⟨⟨fun c hc => signs_lt x h1 c hc, Nat.zero_le _, hln, .inr (.inr (.inl ⟨rfl, rfl, h1⟩))⟩, by simp⟩
     · cases h
theorem lexF_TL : ∀ (f : Nat) (l : List Nat) (ln : Nat) (out r : List Tok), lexF f l ln out = .inl r → ln + l.length ≤ 20000 → (∀ t ∈ out, TokOk t ∧ t.k ≠ 4) → TL r ∧ r.length ≤ out.length + l.length + 1 := by
 have fin : ∀ (ln n : Nat) (out : List Tok), ln ≤ 20000 → (∀ t ∈ out, TokOk t ∧ t.k ≠ 4) → TL (out ++ [⟨4, [], 0, ln⟩]) ∧ (out ++ [(⟨4, [], 0, ln⟩ : Tok)]).length ≤ out.length + n + 1 := by
  intro ln n out hln ho
  refine ⟨⟨fun t ht => ?_, out, ln, rfl, fun t ht => (ho t ht).2⟩, by rw [List.length_append]; show out.length + 1 ≤ _; omega⟩
  rcases List.mem_append.1 ht with h | h
  · exact (ho t h).1
  · simp only [List.mem_singleton] at h
    subst h
    exact ⟨fun c hc => absurd hc (by simp), Nat.zero_le _, hln, .inr (.inr (.inr ⟨rfl, rfl, rfl⟩))⟩
 intro f
 induction f with
 | zero =>
   intro l ln out r h hn ho
   simp only [lexF, Sum.inl.injEq] at h
   subst h
   exact fin ln _ out (by omega) ho
 | succ f ih =>
   intro l ln out r h hn ho
   cases l with
   | nil =>
     simp only [lexF, Sum.inl.injEq] at h
     subst h
     exact fin ln _ out (by simp at hn; omega) ho
   | cons c m =>
     simp only [List.length_cons] at hn ⊢
     simp only [lexF] at h
     split at h
     · have := ih m (ln + 1) out r h (by omega) ho
       exact ⟨this.1, by have := this.2; omega⟩
     · split at h
       · have := ih m ln out r h (by omega) ho
         exact ⟨this.1, by have := this.2; omega⟩
       · split at h
         · have hd : (List.drop (wl nlN (c :: m)) (c :: m)).length ≤ m.length + 1 := by rw [List.length_drop]; simp; 
           have := ih _ ln out r h (by omega) ho
           exact ⟨this.1, by have := this.2; omega⟩
         · split at h
           · cases h
           · rename_i t n ho1
             have hl := oneN_len ho1
             have hd : (List.drop n (c :: m)).length + 1 ≤ m.length + 1 := by rw [List.length_drop]; simp at hl ⊢; omega
             have hk := oneN_ok (ln := ln) ho1 (by omega)
             have := ih _ ln _ r h (by omega) (fun t' ht => by
              rcases List.mem_append.1 ht with h' | h'
              · exact ho t' h'
              · simp only [List.mem_singleton] at h'
                subst h'
                exact hk)
             refine ⟨this.1, ?_⟩
             have h2 := this.2
             simp only [List.length_append, List.length_singleton] at h2
             omega
theorem lexN_TL {s : ByteArray} {l : List Tok} (h : lexN (strB s) = .inl l) (hs : s.size ≤ 16384) : TL l ∧ l.length ≤ 20000 := by
 have := lexF_TL _ _ _ _ _ (show lexF ((strB s).length + 1) (strB s) 1 [] = .inl l from h) (by rw [strB_length]; omega) (fun t ht => absurd ht (by simp))
 rw [strB_length] at this
 refine ⟨this.1, ?_⟩
 have h2 := this.2
 simp at h2
 omega
end Go.Proofs.Ytiadfmhodlbkiaa
namespace Go.Proofs.Ytiadfmhodlbkiaa
open Go.RowKit
set_option linter.unusedSimpArgs false
set_option linter.unusedVariables false
/-- What a text says, or its fault. -/
def parseT (s : ByteArray) : Res CfgS := if 16384 < s.size then .error (3, 0) else match lexN (strB s) with
 | .inr n => .error (120, n)
 | .inl l => parseL l
theorem parse_any (s : ByteArray) (w : World) : Calls Try.prog 7 #[.string s] w (ParPost (parseT s) w) := by
 by_cases hs : 16384 < s.size
 · have e : parseT s = .error (3, 0) := by unfold parseT; rw [if_pos hs]
   rw [e]
   exact parse_bad s w 3 0 (by decide) (fun W => tokens_long s W hs)
 · cases hl : lexN (strB s) with
   | inr n =>
     have e : parseT s = .error (120, n) := by unfold parseT; rw [if_neg hs, hl]
     rw [e]
     refine parse_bad s w 120 n (by decide) (fun W => (tokens_any s W (by omega)).mono fun e w' h => ?_)
     rw [hl] at h
     exact h
   | inl l =>
     have e : parseT s = parseL l := by unfold parseT; rw [if_neg hs, hl]
     rw [e]
     obtain ⟨h1, h2⟩ := lexN_TL hl (by omega)
     exact parse_good (by omega) hl h1 h2
theorem parse_ok {s : ByteArray} {c : CfgS} {w : World} (h : parseT s = .ok c) : Calls Try.prog 7 #[.string s] w fun e w' => ∃ vp vc vq, e = .returned (.tuple #[.agg (cfgA c.h c.m c.ph c.pm vp vc vq c.has), .agg #[.int .i64 0, .int .i64 0]]) ∧ PrT w' (fun k => w.heap.size ≤ k) vp c.parts ∧ Tr w' (fun k => w.heap.size ≤ k) vc c.code ∧ Tr w' (fun k => w.heap.size ≤ k) vq c.post ∧ Below w.heap.size w w' :=
 (parse_any s w).mono fun e w' hp => by
   unfold ParPost at hp
   rw [h] at hp
   obtain ⟨⟨vp, vc, vq, h1, h2, h3, h4⟩, hb⟩ := hp
   exact ⟨vp, vc, vq, h1, h2, h3, h4, hb⟩
theorem parse_err {s : ByteArray} {x : Flt} {w : World} (h : parseT s = .error x) : Calls Try.prog 7 #[.string s] w fun e w' => e = .returned (.tuple #[.agg (cfgA 0 0 0 0 (.slice none 0 0) (.slice none 0 0) (.slice none 0 0) false), .agg #[.int .i64 x.1, .int .i64 x.2]]) ∧ Below w.heap.size w w' :=
 (parse_any s w).mono fun e w' hp => by
   unfold ParPost at hp
   rw [h] at hp
   exact hp
end Go.Proofs.Ytiadfmhodlbkiaa
namespace Go.Proofs.Ytiadfmhodlbkiaa
open Go.RowKit
set_option linter.unusedSimpArgs false
set_option linter.unusedVariables false
def rsF (v : Value) (at' : Nat) (b : Option Flt) (many : Nat) : Nat → Value
 | 0 => v
 | 1 => .int .i64 at'
 | 2 => .int .i64 (erO b : Nat)
 | 3 => .int .i64 (lnO b : Nat)
 | _ => .int .i64 many
/-- The document's parser. -/
structure RS (B : Nat) (w : World) (gp : Nat) (l : List Tok) (b : Option Flt) (many : Nat) : Prop where
 ex : ∃ g c L k, w.rowIs gp 64 5 (rsF (.slice (some ⟨g, 0, none⟩) L.length c) k b many) ∧ g ≠ gp ∧ g < B ∧ L.length ≤ c ∧ c ≤ maxLen ∧ TksAt w g 0 L ∧ L.drop k = l ∧ L.length ≤ 20000
 tl : TL l
 er : ∀ e, b = some e → e.1 ≠ 0
 le : many ≤ 501
 bp : gp < B
 bw : B ≤ w.heap.size
theorem TksAt.at {w : World} {g : Nat} {L l : List Tok} {k : Nat} (h : TksAt w g 0 L) (hd' : L.drop k = l) (hl : TL l) : k < L.length ∧ TokAt w g (k * 4) (hd l) := by
 have hk : k < L.length := by
  rcases Nat.lt_or_ge k L.length with h | h
  · exact h
  · rw [List.drop_of_length_le h] at hd'; exact absurd hd'.symm hl.ne
 refine ⟨hk, ?_⟩
 have h1 := h k hk
 rw [Nat.zero_add] at h1
 have : hd l = L[k] := by rw [← hd', List.drop_eq_getElem_cons hk]; rfl
 rw [this]; exact h1
section
variable {w w' : World} {B gp : Nat} {l : List Tok} {b : Option Flt} {many : Nat}
theorem RS.kept {row : Option Nat} (h : RS B w gp l b many) (hg : w.grownBy w' row) (hr : ∀ k, row = some k → B ≤ k) : RS B w' gp l b many := by
 obtain ⟨g, c, L, k, q1, q2, q3, q4, q5, q6, q7, q8⟩ := h.ex
 have hb := h.bp
 have hw := h.bw
 exact ⟨⟨g, c, L, k, q1.of_block (hg.block gp q1.lt (fun e => by have := hr gp e.symm; omega)), q2, q3, q4, q5, q6.keep (hg.block g (by omega) (fun e => by have := hr g e.symm; omega)), q7, q8⟩, h.tl, h.er, h.le, hb, Nat.le_trans hw hg.size⟩
theorem RS.below (h : RS B w gp l b many) (hb : Below w.heap.size w w') : RS B w' gp l b many :=
 h.kept (row := none) (zb hb none) (fun k e => by cases e)
theorem RS.off (h : RS B w gp l b many) {p : Addr} (hp : B ≤ p.block) (u : Value) : RS B (w.setCell p u) gp l b many :=
 h.kept (row := some p.block) (za (zf _ _) (.inl rfl) u) (fun k e => by injection e with e; omega)
theorem RS.ll (h : RS B w gp l b many) : l.length ≤ 20000 := by
 obtain ⟨g, c, L, k, q1, q2, q3, q4, q5, q6, q7, q8⟩ := h.ex
 rw [← q7, List.length_drop]; omega
theorem RS.setF (h : RS B w gp l none many) {e ln : Nat} (h0 : e ≠ 0) : RS B ((w.setCell ⟨gp, 2, none⟩ (.int .i64 e)).setCell ⟨gp, 3, none⟩ (.int .i64 ln)) gp l (some (e, ln)) many := by
 obtain ⟨g, c, L, k, q1, q2, q3, q4, q5, q6, q7, q8⟩ := h.ex
 refine ⟨⟨g, c, L, k, ((q1.set 2 _).set 3 _).congr fun i hi => ?_, q2, q3, q4, q5, q6.keep ?_, q7, q8⟩, h.tl, fun e' he => by injection he with he; subst he; exact h0, h.le, h.bp, by simpa [World.setCell] using h.bw⟩
 · match i, hi with
   | 0, _ => rfl
   | 1, _ => rfl
   | 2, _ => rfl
   | 3, _ => rfl
   | 4, _ => rfl
 · exact (za (za (zf w (some gp)) (.inl rfl) _) (.inl rfl) _).block g (by have := h.bw; omega) (fun e => q2 (by injection e))
theorem RS.setM (h : RS B w gp l b many) {m : Nat} (hm : m ≤ 501) : RS B (w.setCell ⟨gp, 4, none⟩ (.int .i64 m)) gp l b m := by
 obtain ⟨g, c, L, k, q1, q2, q3, q4, q5, q6, q7, q8⟩ := h.ex
 refine ⟨⟨g, c, L, k, (q1.set 4 _).congr fun i hi => ?_, q2, q3, q4, q5, q6.keep ?_, q7, q8⟩, h.tl, h.er, hm, h.bp, by simpa [World.setCell] using h.bw⟩
 · match i, hi with
   | 0, _ => rfl
   | 1, _ => rfl
   | 2, _ => rfl
   | 3, _ => rfl
   | 4, _ => rfl
 · exact (za (zf w (some gp)) (.inl rfl) _).block g (by have := h.bw; omega) (fun e => q2 (by injection e))
theorem RS.setA (h : RS B w gp l b many) {k : Nat} (hc : w.cell? ⟨gp, 1, none⟩ = some (.int .i64 k)) (hk : (hd l).k ≠ 4) : RS B (w.setCell ⟨gp, 1, none⟩ (.int .i64 (k + 1 : Nat))) gp l.tail b many := by
 obtain ⟨g, c, L, k', q1, q2, q3, q4, q5, q6, q7, q8⟩ := h.ex
 have e := (q1.cell (show 1 < 5 by omega)).symm.trans hc
 injection e with e
 injection e with e1 e2
 have e2' : k' = k := by omega
 subst e2'
 refine ⟨⟨g, c, L, k' + 1, (q1.set 1 _).congr fun i hi => ?_, q2, q3, q4, q5, q6.keep ?_, by rw [← q7, List.tail_drop], q8⟩, (h.tl.tail hk).1, h.er, h.le, h.bp, by simpa [World.setCell] using h.bw⟩
 · match i, hi with
   | 0, _ => rfl
   | 1, _ => rfl
   | 2, _ => rfl
   | 3, _ => rfl
   | 4, _ => rfl
 · exact (za (zf w (some gp)) (.inl rfl) _).block g (by have := h.bw; omega) (fun e => q2 (by injection e))
theorem er_eqR (h : RS B w gp l b many) : decide ((erO b : Int) = 0) = b.isNone := by
 cases b with
 | none => rfl
 | some e => have := h.er e rfl; exact decide_eq_false (by show ¬ ((e.1 : Nat) : Int) = 0; omega)
def tokA (t : Tok) : Array Value := #[.int .u8 t.k, .string (mkS t.s), .int .i64 t.n, .int .i64 t.ln]
def tokG (t : Tok) : Nat → Value
 | 0 => .int .u8 t.k
 | 1 => .string (mkS t.s)
 | 2 => .int .i64 t.n
 | _ => .int .i64 t.ln
theorem tok_heap {w : World} {g : Nat} {ty : TypeId} {t : Tok} (h : w.rowIs g ty 4 (tokG t)) : w.heap[g]? = some (.cells (tokA t) ty (0, 0)) := by
 obtain ⟨cs, h1, h2, h3⟩ := h
 rw [h1]
 have : cs = tokA t := by
  apply Array.ext (by rw [h2]; rfl)
  intro i hi1 hi2
  have h4 := h3 i (by omega)
  have e : (tokA t)[i]? = some (tokG t i) := by
   rw [h2] at hi1
   match i, hi1 with
   | 0, _ => rfl
   | 1, _ => rfl
   | 2, _ => rfl
   | 3, _ => rfl
  rw [← e, Array.getElem?_eq_getElem hi1, Array.getElem?_eq_getElem hi2] at h4
  exact Option.some.inj h4
 rw [this]
theorem tok_all {w : World} {g : Nat} {ty : TypeId} {f : Nat → Value} (t : Tok) (h : w.rowIs g ty 4 f) :
  ((((w.setCell ⟨g, 0, none⟩ (.int .u8 t.k)).setCell ⟨g, 1, none⟩ (.string (mkS t.s))).setCell ⟨g, 2, none⟩ (.int .i64 t.n)).setCell ⟨g, 3, none⟩ (.int .i64 t.ln)).rowIs g ty 4 (tokG t) :=
 ((((h.set 0 _).set 1 _).set 2 _).set 3 _).congr fun i hi => by
   match i, hi with
   | 0, _ => rfl
   | 1, _ => rfl
   | 2, _ => rfl
   | 3, _ => rfl
theorem tok_size : (Try.prog.info? 60).map (·.size) = some 4 := by kernel_rfl
theorem tok_f3 (k n ln : Int) (s : ByteArray) (W : World) : (Instr.field 60 (.agg #[.int .u8 k, .string s, .int .i64 n, .int .i64 ln]) 3).run Try.prog W = .ok (.int .i64 ln) W := by kernel_rfl
theorem tok_f0 (k n ln : Int) (s : ByteArray) (W : World) : (Instr.field 60 (.agg #[.int .u8 k, .string s, .int .i64 n, .int .i64 ln]) 0).run Try.prog W = .ok (.int .u8 k) W := by kernel_rfl
set_option maxRecDepth 100000 in
theorem rnow_any (h : RS B w gp l b many) : Calls Try.prog 37 #[.pointer (some ⟨gp, 0, none⟩)] w fun e w' => e = .returned (.agg #[.int .u8 (hd l).k, .string (mkS (hd l).s), .int .i64 (hd l).n, .int .i64 (hd l).ln]) ∧ Below w.heap.size w w' := by
 have hba : Below w.heap.size w (w.alloc (.cells #[.int .u8 0, .string ⟨#[]⟩, .int .i64 0, .int .i64 0] 60)) := (Below.refl _ _).alloc (Nat.le_refl _) _
 have h1 := h.below hba
 obtain ⟨g, c, L, k, q1, q2, q3, q4, q5, q6, q7, q8⟩ := h1.ex
 obtain ⟨hkl, t0, t1, t2, t3⟩ := q6.at q7 h1.tl
 have f0 := q1.cell (show 0 < 5 by omega)
 have f1 := q1.cell (show 1 < 5 by omega)
 dsimp only [rsF] at f0 f1
 have hkI : (k : Int) < L.length := by omega
 have hk0 : (0 : Int) ≤ k := by omega
 have hkn : ((k : Int)).toNat = k := by omega
 generalize hd l = t at *
 generalize L.length = n at *
 have HB := Lib.hid hba
 have hgl := h.bp
 have hbw := h.bw
 clear h h1 q1 q6 q7 q8 hba
 go_enter Try.func37, Try.ntmps37
 go_wp2_with fail
 have n1 : gp ≠ w.heap.size := by omega
 have n2 : g ≠ w.heap.size := by omega
 have r0 : (w.alloc (.cells #[.int .u8 0, .string ⟨#[]⟩, .int .i64 0, .int .i64 0] 60)).heap[w.heap.size]? = some (.cells #[.int .u8 0, .string ⟨#[]⟩, .int .i64 0, .int .i64 0] 60 (0, 0)) := heap_alloc_new w _
 generalize w.alloc (.cells #[.int .u8 0, .string ⟨#[]⟩, .int .i64 0, .int .i64 0] 60) = W at *
 have HWS : Hid (w.heap.size ≤ w.heap.size) := Nat.le_refl _
 obtain ⟨g2, hg2⟩ : ∃ g2, g2 = w.heap.size := ⟨_, rfl⟩
 rw [← hg2] at n1 n2 r0 ⊢
 have HG2 := Lib.hid hg2
 have b0 : W.cell? ⟨g2, 0, none⟩ = some (.int .u8 0) := by rw [cell_of_row _ _ _ _ _ _ r0]; rfl
 have b1 : W.cell? ⟨g2, 1, none⟩ = some (.string ⟨#[]⟩) := by rw [cell_of_row _ _ _ _ _ _ r0]; rfl
 have b2 : W.cell? ⟨g2, 2, none⟩ = some (.int .i64 0) := by rw [cell_of_row _ _ _ _ _ _ r0]; rfl
 have b3 : W.cell? ⟨g2, 3, none⟩ = some (.int .i64 0) := by rw [cell_of_row _ _ _ _ _ _ r0]; rfl
 have z0 : W.frozen? ⟨g2, 0, none⟩ = false := frozen_of_row W g2 0 _ _ r0
 have z1 : W.frozen? ⟨g2, 1, none⟩ = false := frozen_of_row W g2 1 _ _ r0
 have z2 : W.frozen? ⟨g2, 2, none⟩ = false := frozen_of_row W g2 2 _ _ r0
 have z3 : W.frozen? ⟨g2, 3, none⟩ = false := frozen_of_row W g2 3 _ _ r0
 have HR0 := Lib.hid r0
 clear r0 hg2
 have hkn' : k < n := hkl
 refine wp_region_still_tail 10 (by kernel_rfl) (by kernel_rfl) ?_
 simp only [List.take_succ_cons, List.take_zero, List.drop_succ_cons, List.drop_zero]
 repeat still_step
 try refine wpStill_nil ?_
 change wpList _ _ _ _ _ W.drew
 go_wp2
 have hr0 : W.rowIs g2 60 4 (fun i => #[Value.int .u8 0, .string ⟨#[]⟩, .int .i64 0, .int .i64 0].getD i undef) := ⟨_, HR0.out, rfl, fun i hi => by
  match i, hi with
  | 0, _ => rfl
  | 1, _ => rfl
  | 2, _ => rfl
  | 3, _ => rfl⟩
 have q1 := rowIs_drewN' (tok_all t hr0) 1
 have q2 := below_drewN' ((((HB.out.setCell (p := ⟨g2, 0, none⟩) (Nat.le_of_eq HG2.out.symm) (.int .u8 t.k)).setCell (p := ⟨g2, 1, none⟩) (Nat.le_of_eq HG2.out.symm) (.string (mkS t.s))).setCell (p := ⟨g2, 2, none⟩) (Nat.le_of_eq HG2.out.symm) (.int .i64 t.n)).setCell (p := ⟨g2, 3, none⟩) (Nat.le_of_eq HG2.out.symm) (.int .i64 t.ln)) 1
 rw [show ∀ W : World, W.drewN 1 = W.drew from fun _ => rfl] at q1 q2
 generalize (World.drew ((((W.setCell ⟨g2, 0, none⟩ (.int .u8 t.k)).setCell ⟨g2, 1, none⟩ (.string (mkS t.s))).setCell ⟨g2, 2, none⟩ (.int .i64 t.n)).setCell ⟨g2, 3, none⟩ (.int .i64 t.ln))) = W9 at q1 q2 ⊢
 exact bodyPost_ret (results_cell_row rfl _ _ g2 _ (tokA t) (0, 0) _ rfl (tok_heap q1) Try.underlying60 rfl tok_size) rfl ⟨rfl, q2⟩
set_option maxRecDepth 100000 in
theorem rfail_any (h : RS B w gp l b many) (e : Nat) (h0 : e ≠ 0) : Calls Try.prog 38 #[.pointer (some ⟨gp, 0, none⟩), .int .i64 e] w fun ee w' => ee = .returned (.tuple #[]) ∧ RS B w' gp l (b.or (some (e, (hd l).ln))) many ∧ w.grownBy w' (some gp) := by
 obtain ⟨g, c, L, k, q1, q2, q3, q4, q5, q6, q7, q8⟩ := h.ex
 have f2 : w.cell? ⟨gp, 2, none⟩ = some (.int .i64 (erO b : Nat)) := q1.cell (show 2 < 5 by omega)
 have H := Lib.hid h
 cases b with
 | some x =>
   have hx : ((erO (some x) : Nat) : Int) ≠ 0 := by have := h.er x rfl; show ((x.1 : Nat) : Int) ≠ 0; omega
   have hxb : (((erO (some x) : Nat) : Int) == 0) = false := by rw [beq_eq_false_iff_ne]; exact hx
   clear h q1 q6 hx
   go_enter Try.func38, Try.ntmps38
   go_wp2_with fail
   first | go_end0 | ((try simp only [Exit.inBlock, Exit.then]); refine bodyPost_ret (results_none rfl _ _ _) rfl ?_)
   exact ⟨rfl, H.out, zf _ _⟩
 | none =>
   have f2' : w.cell? ⟨gp, 2, none⟩ = some (.int .i64 0) := f2
   have HN := Lib.hid (rnow_any h)
   clear f2 h q1 q6
   go_enter Try.func38, Try.ntmps38
   go_wp2_with fail
   refine HN.out.mono ?_
   rintro ee w1 ⟨rfl, hb⟩
   have h1 := H.out.below hb
   obtain ⟨g', c', L', k', q1, -⟩ := h1.ex
   have f2x : w1.cell? ⟨gp, 2, none⟩ = some (.int .i64 (erO none : Nat)) := q1.cell (show 2 < 5 by omega)
   have f3x : w1.cell? ⟨gp, 3, none⟩ = some (.int .i64 (lnO none : Nat)) := q1.cell (show 3 < 5 by omega)
   have z2 := q1.frozen 2
   have z3 := q1.frozen 3
   have H1 := Lib.hid h1
   have HB := Lib.hid (zb hb (some gp))
   clear f2' h1 hb q1
   have hf3 := tok_f3
   go_wp2_with fail
   first | go_end0 | ((try simp only [Exit.inBlock, Exit.then]); refine bodyPost_ret (results_none rfl _ _ _) rfl ?_)
   exact ⟨rfl, H1.out.setF h0, za (za HB.out (.inl rfl) _) (.inl rfl) _⟩
/-- Does this stand next? -/
theorem ris_any (h : RS B w gp l b many) (S : ByteArray) (s : List Nat) (hS : S = mkS s) (hs : s ≠ []) (h8 : ∀ x ∈ s, x < 256) : Calls Try.prog 33 #[.pointer (some ⟨gp, 0, none⟩), .string S] w fun e w' => e = .returned (.bool (decide ((hd l).s = s))) ∧ Below w.heap.size w w' := by
 have he := mkS_eq h.tl.hd_ok.1 h8
 rw [← hS] at he
 have hk : (hd l).s = s → (hd l).k = 1 ∨ (hd l).k = 3 := fun e => by
  obtain ⟨_, _, _, h | h | h | h⟩ := h.tl.hd_ok
  · exact .inl h.1
  · exact absurd h.2 (by rw [e]; exact hs)
  · exact .inr h.1
  · exact absurd h.2.1 (by rw [e]; exact hs)
 have HN := Lib.hid (rnow_any h)
 have HK := Lib.hid hk
 clear h hS hk
 generalize hd l = t at *
 obtain ⟨r, hr⟩ : ∃ r, r = decide (t.s = s) := ⟨_, rfl⟩
 rw [← hr] at he ⊢
 have HR := Lib.hid hr
 clear hr
 go_enter Try.func33, Try.ntmps33
 go_wp2_with fail
 refine HN.out.mono ?_
 rintro e w1 ⟨rfl, hb⟩
 have hd4 := al_four w1 t
 obtain ⟨d0, d1, d2, d3⟩ := hd4
 have HB := Lib.hid (hb.alloc hb.size (.cells #[.int .u8 t.k, .string (mkS t.s), .int .i64 t.n, .int .i64 t.ln] 60))
 clear hb
 by_cases k1 : t.k = 1
 · have k1I : ((t.k : Int) == 1) = true := by rw [beq_iff_eq]; omega
   clear k1
   cases r with
   | true =>
     go_wp2_with fail
     go_ret
     exact ⟨rfl, HB.out⟩
   | false =>
     go_wp2_with fail
     go_ret
     exact ⟨rfl, HB.out⟩
 · have k1I : ((t.k : Int) == 1) = false := by rw [beq_eq_false_iff_ne]; omega
   by_cases k3 : t.k = 3
   · have k3I : ((t.k : Int) == 3) = true := by rw [beq_iff_eq]; omega
     clear k1 k3
     cases r with
     | true =>
       go_wp2_with fail
       go_ret
       exact ⟨rfl, HB.out⟩
     | false =>
       go_wp2_with fail
       go_ret
       exact ⟨rfl, HB.out⟩
   · have k3I : ((t.k : Int) == 3) = false := by rw [beq_eq_false_iff_ne]; omega
     have hrf : r = false := by
      rw [HR.out]
      exact decide_eq_false (fun e => by rcases HK.out e with h | h; exact k1 h; exact k3 h)
     subst hrf
     clear k1 k3 he
     go_wp2_with fail
     go_ret
     exact ⟨rfl, HB.out⟩
set_option maxRecDepth 100000 in
theorem rstep_any (h : RS B w gp l b many) : Calls Try.prog 36 #[.pointer (some ⟨gp, 0, none⟩)] w fun e w' => e = .returned (.tuple #[]) ∧ RS B w' gp (if (hd l).k = 4 then l else l.tail) b many ∧ w.grownBy w' (some gp) := by
 obtain ⟨g, c, L, k, q1, q2, q3, q4, q5, q6, q7, q8⟩ := h.ex
 have f0 : w.cell? ⟨gp, 0, none⟩ = some (.slice (some ⟨g, 0, none⟩) L.length c) := q1.cell (show 0 < 5 by omega)
 have f1 : w.cell? ⟨gp, 1, none⟩ = some (.int .i64 k) := q1.cell (show 1 < 5 by omega)
 have hkl := (q6.at q7 h.tl).1
 have hlen : l.length + k = L.length := by rw [← q7, List.length_drop]; omega
 have hL := q8
 obtain ⟨n, hn⟩ : ∃ n, n = L.length := ⟨_, rfl⟩
 rw [← hn] at f0 hkl hlen hL
 have z1 := q1.frozen 1
 have hw1 : IntKind.i64.wrap ((n : Int) - 1) = ((n : Int) - 1) := by rw [IntKind.wrap_i64]; omega; all_goals omega
 have hw2 : IntKind.i64.wrap ((k : Int) + 1) = ((k + 1 : Nat) : Int) := by rw [IntKind.wrap_i64]; omega; all_goals omega
 have H := Lib.hid h
 have Z1 := Lib.hid z1
 have F1 := Lib.hid f1
 have hgl := q1.lt
 clear q1 q6 q7 q8 hn z1
 by_cases hk : (hd l).k = 4
 · have h1 := h.tl.last hk
   rw [if_pos hk]
   have ht : ¬ ((k : Int) < (n : Int) - 1) := by omega
   clear h hk h1 hlen
   go_enter Try.func36, Try.ntmps36
   go_wp2_with fail
   go_quiet (fail)
   go_wp2_with fail
   first | go_end0 | ((try simp only [Exit.inBlock, Exit.then]); refine bodyPost_ret (results_none rfl _ _ _) rfl ?_)
   exact ⟨rfl, H.out.below (below_drewN' (Below.refl _ _) _), grown_drewN (zf _ _) _⟩
 · have ht := h.tl.tail hk
   rw [if_neg hk]
   have ht2 : ((k : Int) < (n : Int) - 1) := by have := ht.2.1; omega
   have HK := Lib.hid hk
   clear h hk hlen ht
   go_enter Try.func36, Try.ntmps36
   go_wp2_with fail
   go_quiet (fail)
   have hbd : Below w.heap.size w (w.drewN nq) := below_drewN' (Below.refl _ _) _
   have f1' : (w.drewN nq).cell? ⟨gp, 1, none⟩ = some (.int .i64 k) := (hbd.cell (p := ⟨gp, 1, none⟩) hgl).trans F1.out
   have z1' : (w.drewN nq).frozen? ⟨gp, 1, none⟩ = false := (hbd.frozen (p := ⟨gp, 1, none⟩) hgl).trans Z1.out
   have HD := Lib.hid (H.out.below hbd)
   have HG := Lib.hid (zb hbd (some gp))
   clear f0 f1 hbd
   generalize w.drewN nq = W at *
   go_wp2_with fail
   first | go_end0 | ((try simp only [Exit.inBlock, Exit.then]); refine bodyPost_ret (results_none rfl _ _ _) rfl ?_)
   exact ⟨rfl, HD.out.setA f1' HK.out, za HG.out (.inl rfl) _⟩
set_option maxRecDepth 100000 in
theorem rtake_any (h : RS B w gp l b many) (S : ByteArray) (s : List Nat) (hS : S = mkS s) (hs : s ≠ []) (h8 : ∀ x ∈ s, x < 256) : Calls Try.prog 31 #[.pointer (some ⟨gp, 0, none⟩), .string S] w fun e w' => e = .returned (.tuple #[]) ∧ ∃ l' b', RS B w' gp l' b' many ∧ Rel (must s) l b () l' b' ∧ w.grownBy w' (some gp) := by
 obtain ⟨g, c, L, k, q1, q2, q3, q4, q5, q6, q7, q8⟩ := h.ex
 have f2 : w.cell? ⟨gp, 2, none⟩ = some (.int .i64 (erO b : Nat)) := q1.cell (show 2 < 5 by omega)
 have H := Lib.hid h
 cases b with
 | some x =>
   have hx : (((erO (some x) : Nat) : Int) != 0) = true := by have := h.er x rfl; rw [bne_iff_ne]; show ((x.1 : Nat) : Int) ≠ 0; omega
   clear h q1 q6
   go_enter Try.func31, Try.ntmps31
   go_wp2_with fail
   first | go_end0 | ((try simp only [Exit.inBlock, Exit.then]); refine bodyPost_ret (results_none rfl _ _ _) rfl ?_)
   exact ⟨rfl, l, _, H.out, rfl, zf _ _⟩
 | none =>
   have f2' : w.cell? ⟨gp, 2, none⟩ = some (.int .i64 0) := f2
   have HI := Lib.hid (ris_any h S s hS hs h8)
   have hk : (hd l).s = s → (hd l).k ≠ 4 := fun e => (h.tl.hd_s (by rw [e]; exact hs)).1
   have HK := Lib.hid hk
   clear f2 h q1 q6 hk hS
   by_cases hq : (hd l).s = s
   · rw [decide_eq_true hq] at HI
     have HQ := Lib.hid hq
     clear hq
     go_enter Try.func31, Try.ntmps31
     go_wp2_with fail
     refine HI.out.mono ?_
     rintro e w1 ⟨rfl, hb⟩
     have hst := rstep_any (H.out.below hb)
     rw [if_neg (HK.out HQ.out)] at hst
     have HS := Lib.hid hst
     have HB := Lib.hid (zb hb (some gp))
     clear hb hst f2'
     go_wp2_with fail
     refine HS.out.mono ?_
     rintro e w2 ⟨rfl, h1, h2⟩
     have H1 := Lib.hid h1
     have H2 := Lib.hid h2
     clear h1 h2
     go_wp2_with fail
     first | go_end0 | ((try simp only [Exit.inBlock, Exit.then]); refine bodyPost_ret (results_none rfl _ _ _) rfl ?_)
     refine ⟨rfl, l.tail, none, H1.out, ?_, zd HB.out H2.out⟩
     unfold Rel must
     rw [if_pos HQ.out]
     exact ⟨by trivial, by trivial, by trivial⟩
   · rw [decide_eq_false hq] at HI
     have HQ := Lib.hid hq
     clear hq
     go_enter Try.func31, Try.ntmps31
     go_wp2_with fail
     refine HI.out.mono ?_
     rintro e w1 ⟨rfl, hb⟩
     have HF := Lib.hid (rfail_any (H.out.below hb) 121 (by decide))
     have HB := Lib.hid (zb hb (some gp))
     clear hb f2'
     go_wp2_with fail
     refine HF.out.mono ?_
     rintro e w2 ⟨rfl, h1, h2⟩
     have H1 := Lib.hid h1
     have H2 := Lib.hid h2
     clear h1 h2
     go_wp2_with fail
     first | go_end0 | ((try simp only [Exit.inBlock, Exit.then]); refine bodyPost_ret (results_none rfl _ _ _) rfl ?_)
     refine ⟨rfl, l, _, H1.out, ?_, zd HB.out H2.out⟩
     unfold Rel must
     rw [if_neg HQ.out]
     rfl
set_option maxRecDepth 100000 in
theorem rnum_any (h : RS B w gp l b many) (m : Nat) (hm : m ≤ 65535) : Calls Try.prog 32 #[.pointer (some ⟨gp, 0, none⟩), .int .i64 m] w fun e w' => ∃ n l' b', n ≤ 65535 ∧ e = .returned (.int .i64 (n : Nat)) ∧ RS B w' gp l' b' many ∧ Rel (num m) l b n l' b' ∧ w.grownBy w' (some gp) := by
 obtain ⟨g, c, L, k, q1, q2, q3, q4, q5, q6, q7, q8⟩ := h.ex
 have f2 : w.cell? ⟨gp, 2, none⟩ = some (.int .i64 (erO b : Nat)) := q1.cell (show 2 < 5 by omega)
 have H := Lib.hid h
 cases b with
 | some x =>
   have hx : (((erO (some x) : Nat) : Int) != 0) = true := by have := h.er x rfl; rw [bne_iff_ne]; show ((x.1 : Nat) : Int) ≠ 0; omega
   clear h q1 q6
   go_enter Try.func32, Try.ntmps32
   go_wp2_with fail
   go_ret
   exact ⟨0, l, _, by omega, rfl, H.out, rfl, zf _ _⟩
 | none =>
   have f2' : w.cell? ⟨gp, 2, none⟩ = some (.int .i64 0) := f2
   have HN := Lib.hid (rnow_any h)
   have hok := h.tl.hd_ok
   have hnum := fun e => (h.tl.hd_num e).1
   have HOK := Lib.hid hok
   have HNU := Lib.hid hnum
   have hwl := h.bw
   have hbl := h.bp
   have HWL := Lib.hid (And.intro hwl hbl)
   clear f2 h q1 q6 hok hnum hwl hbl
   obtain ⟨t, ht⟩ : ∃ t, t = hd l := ⟨_, rfl⟩
   rw [← ht] at HN HOK HNU
   have HT := Lib.hid ht
   clear ht
   go_enter Try.func32, Try.ntmps32
   go_wp2_with fail
   refine HN.out.mono ?_
   rintro e w1 ⟨rfl, hb⟩
   have hd4 := al_four w1 t
   have hbb := hb.alloc hb.size (.cells #[.int .u8 t.k, .string (mkS t.s), .int .i64 t.n, .int .i64 t.ln] 60)
   have hne : Hid (w1.heap.size ≠ gp) := by have := HWL.out; have := hb.size; unfold Hid; omega
   have H1 := Lib.hid (H.out.below hbb)
   have HB := Lib.hid (zb hbb (some gp))
   obtain ⟨d0, d1, d2, d3⟩ := hd4
   have HD2 := Lib.hid d2
   clear hb hbb f2'
   by_cases hk : t.k = 2
   · have hkI : ((t.k : Int) != 2) = false := by rw [hk]; rfl
     have hkI2 : ((t.k : Int) == 2) = true := by rw [hk]; rfl
     by_cases hm1 : m < t.n
     · have hm2 : (m : Int) < t.n := by omega
       have HF := Lib.hid (rfail_any H1.out 123 (by decide))
       have HKM := Lib.hid (And.intro hk hm1)
       clear hk hm1
       go_wp2_with fail
       refine HF.out.mono ?_
       rintro e w2 ⟨rfl, h1, h2⟩
       have H3 := Lib.hid h1
       have H4 := Lib.hid h2
       clear h1 h2
       go_wp2_with fail
       go_ret
       refine ⟨0, l, _, by omega, rfl, H3.out, ?_, zd HB.out H4.out⟩
       unfold Rel num
       rw [← HT.out, if_pos HKM.out.1, if_pos HKM.out.2]
       rfl
     · have hm2 : ¬ (m : Int) < t.n := by omega
       have hst := rstep_any H1.out
       rw [← HT.out, if_neg (HNU.out hk)] at hst
       have HS := Lib.hid hst
       have HKM := Lib.hid (And.intro hk hm1)
       clear hk hm1 hst
       go_wp2_with fail
       refine HS.out.mono ?_
       rintro e w2 ⟨rfl, h1, h2⟩
       have H3 := Lib.hid h1
       have H4 := Lib.hid h2
       have d2' : w2.cell? ⟨w1.heap.size, 2, none⟩ = some (.int .i64 t.n) := h2.cell HD2.out (by intro e; injection e with e; exact hne.out e)
       clear h1 h2
       go_wp2_with fail
       go_ret
       refine ⟨t.n, l.tail, none, HOK.out.2.1, rfl, H3.out, ?_, zd HB.out H4.out⟩
       unfold Rel num
       rw [← HT.out, if_pos HKM.out.1, if_neg HKM.out.2]
       exact ⟨by trivial, by trivial, by trivial⟩
   · have hkI : ((t.k : Int) != 2) = true := by rw [bne_iff_ne]; omega
     have hkI2 : ((t.k : Int) == 2) = false := by rw [beq_eq_false_iff_ne]; omega
     have HF := Lib.hid (rfail_any H1.out 121 (by decide))
     have HK := Lib.hid hk
     clear hk
     go_wp2_with fail
     refine HF.out.mono ?_
     rintro e w2 ⟨rfl, h1, h2⟩
     have H3 := Lib.hid h1
     have H4 := Lib.hid h2
     clear h1 h2
     go_wp2_with fail
     go_ret
     refine ⟨0, l, _, by omega, rfl, H3.out, ?_, zd HB.out H4.out⟩
     unfold Rel num
     rw [← HT.out, if_neg HK.out]
     rfl
theorem rn_any (h : RS B w gp l b many) : Calls Try.prog 61 #[.pointer (some ⟨gp, 0, none⟩)] w fun e w' => ∃ n l' b', n ≤ 65535 ∧ e = .returned (.int .i64 (n : Nat)) ∧ RS B w' gp l' b' many ∧ Rel (num 65535) l b n l' b' ∧ w.grownBy w' (some gp) := by
 have HN := Lib.hid (rnum_any h 65535 (by omega))
 clear h
 go_enter Try.func61, Try.ntmps61
 go_wp2_with fail
 refine HN.out.mono ?_
 rintro e w2 ⟨n, l', b', hn, rfl, h1, hr, h2⟩
 have HX := Lib.hid (And.intro hn (And.intro h1 (And.intro hr h2)))
 clear hn h1 hr h2
 go_wp2_with fail
 go_ret
 exact ⟨n, l', b', HX.out.1, rfl, HX.out.2.1, HX.out.2.2.1, HX.out.2.2.2⟩
end
end Go.Proofs.Ytiadfmhodlbkiaa
