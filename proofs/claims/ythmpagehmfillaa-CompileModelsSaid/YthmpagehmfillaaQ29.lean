/-
  WHAT LEXING GIVES is a list of tokens that ends, as the parser wants it. Plain. Conditions: the text's size.
  WHAT parse.Parse COMES TO for any text. Conditions: none.
  A MODEL IN MEMORY; what compiling a text comes to, plain. Conditions: none.
  THE WALKS OF quillpresskit.deep, Deep: where they tell false, the tree is no deeper and no greater than asked. Conditions: each list has at most 2^40 statements.
-/
import Derived.Test.YthmpagehmfillaaQ04
import Derived.Test.YthmpagehmfillaaQ28
import Derived.Test.YthmpagehmfillaaQ23
import Derived.Test.YthmpagehmfillaaQ27
import Derived.Test.YthmpagehmfillaaQ03
import Derived.Test.YthmpagehmfillaaQ26
namespace Go.Proofs.Ythmpagehmfillaa
open Go.RowKit
set_option linter.unusedSimpArgs false
set_option linter.unusedVariables false
theorem take_wl_all {p : Nat → Bool} {l : List Nat} : ∀ c ∈ l.take (wl p l), p c = true := by
  have e : l.take (wl p l) = l.takeWhile p := by
    unfold wl
    exact (List.prefix_iff_eq_take.1 (List.takeWhile_prefix p)).symm
  rw [e]
  intro c hc
  exact List.all_eq_true.1 (List.all_takeWhile) c hc
theorem letN_lt {c : Nat} (h : letN c = true) : c < 256 := by
  unfold letN at h
  simp only [Bool.and_eq_true, decide_eq_true_eq] at h
  omega
theorem oneN_ok {l : List Nat} {t : Tok} {n ln : Nat} (h : oneN l = some (t, n)) (hln : ln ≤ 20000) : TokOk { t with ln := ln } ∧ t.k ≠ 4 := by
  unfold oneN at h
  split at h
  · rename_i h0
    simp only [Option.some.injEq, Prod.mk.injEq] at h
    obtain ⟨rfl, rfl⟩ := h
    have ha := take_wl_all (p := letN) (l := l)
    refine ⟨⟨fun c hc => letN_lt (ha c hc), Nat.zero_le _, hln, .inl ⟨rfl, rfl, ?_, ha⟩⟩, by simp⟩
    intro e
    have := congrArg List.length e
    simp only [List.length_take, List.length_nil] at this
    have := wl_le letN l
    omega
  · split at h
    · split at h
      · cases h
      · simp only [Option.some.injEq, Prod.mk.injEq] at h
        obtain ⟨rfl, rfl⟩ := h
        exact ⟨⟨fun c hc => absurd hc (by simp), by show numN _ ≤ 65535; omega, hln, .inr (.inl ⟨rfl, rfl⟩)⟩, by simp⟩
    · split at h
      · rename_i x hx
        simp only [Option.some.injEq, Prod.mk.injEq] at h
        obtain ⟨rfl, rfl⟩ := h
        obtain ⟨h1, h2⟩ := sgn_mem hx
        exact ⟨⟨fun c hc => signs_lt x h1 c hc, Nat.zero_le _, hln, .inr (.inr (.inl ⟨rfl, rfl, h1⟩))⟩, by simp⟩
      · cases h
theorem lexF_TL : ∀ (f : Nat) (l : List Nat) (ln : Nat) (out r : List Tok), lexF f l ln out = .inl r → ln + l.length ≤ 20000 → (∀ t ∈ out, TokOk t ∧ t.k ≠ 4) → TL r ∧ r.length ≤ out.length + l.length + 1 := by
  have fin : ∀ (ln n : Nat) (out : List Tok), ln ≤ 20000 → (∀ t ∈ out, TokOk t ∧ t.k ≠ 4) → TL (out ++ [⟨4, [], 0, ln⟩]) ∧ (out ++ [(⟨4, [], 0, ln⟩ : Tok)]).length ≤ out.length + n + 1 := by
    intro ln n out hln ho
    refine ⟨⟨fun t ht => ?_, out, ln, rfl, fun t ht => (ho t ht).2⟩, by rw [List.length_append]; show out.length + 1 ≤ _; omega⟩
    rcases List.mem_append.1 ht with h | h
    · exact (ho t h).1
    · simp only [List.mem_singleton] at h
      subst h
      exact ⟨fun c hc => absurd hc (by simp), Nat.zero_le _, hln, .inr (.inr (.inr ⟨rfl, rfl, rfl⟩))⟩
  intro f
  induction f with
  | zero =>
    intro l ln out r h hn ho
    simp only [lexF, Sum.inl.injEq] at h
    subst h
    exact fin ln _ out (by omega) ho
  | succ f ih =>
    intro l ln out r h hn ho
    cases l with
    | nil =>
      simp only [lexF, Sum.inl.injEq] at h
      subst h
      exact fin ln _ out (by simp at hn; omega) ho
    | cons c m =>
      simp only [List.length_cons] at hn ⊢
      simp only [lexF] at h
      split at h
      · have := ih m (ln + 1) out r h (by omega) ho
        exact ⟨this.1, by have := this.2; omega⟩
      · split at h
        · have := ih m ln out r h (by omega) ho
          exact ⟨this.1, by have := this.2; omega⟩
        · split at h
          · have hd : (List.drop (wl nlN (c :: m)) (c :: m)).length ≤ m.length + 1 := by rw [List.length_drop]; simp; 
            have := ih _ ln out r h (by omega) ho
            exact ⟨this.1, by have := this.2; omega⟩
          · split at h
            · cases h
            · rename_i t n ho1
              have hl := oneN_len ho1
              have hd : (List.drop n (c :: m)).length + 1 ≤ m.length + 1 := by rw [List.length_drop]; simp at hl ⊢; omega
              have hk := oneN_ok (ln := ln) ho1 (by omega)
              have := ih _ ln _ r h (by omega) (fun t' ht => by
                rcases List.mem_append.1 ht with h' | h'
                · exact ho t' h'
                · simp only [List.mem_singleton] at h'
                  subst h'
                  exact hk)
              refine ⟨this.1, ?_⟩
              have h2 := this.2
              simp only [List.length_append, List.length_singleton] at h2
              omega
theorem lexN_TL {s : ByteArray} {l : List Tok} (h : lexN (strB s) = .inl l) (hs : s.size ≤ 16384) : TL l ∧ l.length ≤ 20000 := by
  have := lexF_TL _ _ _ _ _ (show lexF ((strB s).length + 1) (strB s) 1 [] = .inl l from h) (by rw [strB_length]; omega) (fun t ht => absurd ht (by simp))
  rw [strB_length] at this
  refine ⟨this.1, ?_⟩
  have h2 := this.2
  simp at h2
  omega
end Go.Proofs.Ythmpagehmfillaa
namespace Go.Proofs.Ythmpagehmfillaa
open Go.RowKit
set_option linter.unusedSimpArgs false
set_option linter.unusedVariables false
/-- What a text says, or its fault. -/
def parseT (s : ByteArray) : Res CfgS := if 16384 < s.size then .error (3, 0) else match lexN (strB s) with
  | .inr n => .error (120, n)
  | .inl l => parseL l
theorem parse_any (s : ByteArray) (w : World) : Calls Try.prog 16 #[.string s] w (ParPost (parseT s) w) := by
  by_cases hs : 16384 < s.size
  · have e : parseT s = .error (3, 0) := by unfold parseT; rw [if_pos hs]
    rw [e]
    exact parse_bad s w 3 0 (by decide) (fun W => tokens_long s W hs)
  · cases hl : lexN (strB s) with
    | inr n =>
      have e : parseT s = .error (120, n) := by unfold parseT; rw [if_neg hs, hl]
      rw [e]
      refine parse_bad s w 120 n (by decide) (fun W => (tokens_any s W (by omega)).mono fun e w' h => ?_)
      rw [hl] at h
      exact h
    | inl l =>
      have e : parseT s = parseL l := by unfold parseT; rw [if_neg hs, hl]
      rw [e]
      obtain ⟨h1, h2⟩ := lexN_TL hl (by omega)
      exact parse_good (by omega) hl h1 h2
theorem parse_ok {s : ByteArray} {c : CfgS} {w : World} (h : parseT s = .ok c) : Calls Try.prog 16 #[.string s] w fun e w' => ∃ vp vc vq, e = .returned (.tuple #[.agg (cfgA c.h c.m c.ph c.pm vp vc vq c.has), .agg #[.int .i64 0, .int .i64 0]]) ∧ PrT w' (fun k => w.heap.size ≤ k) vp c.parts ∧ Tr w' (fun k => w.heap.size ≤ k) vc c.code ∧ Tr w' (fun k => w.heap.size ≤ k) vq c.post ∧ Below w.heap.size w w' :=
  (parse_any s w).mono fun e w' hp => by
    unfold ParPost at hp
    rw [h] at hp
    obtain ⟨⟨vp, vc, vq, h1, h2, h3, h4⟩, hb⟩ := hp
    exact ⟨vp, vc, vq, h1, h2, h3, h4, hb⟩
theorem parse_err {s : ByteArray} {x : Flt} {w : World} (h : parseT s = .error x) : Calls Try.prog 16 #[.string s] w fun e w' => e = .returned (.tuple #[.agg (cfgA 0 0 0 0 (.slice none 0 0) (.slice none 0 0) (.slice none 0 0) false), .agg #[.int .i64 x.1, .int .i64 x.2]]) ∧ Below w.heap.size w w' :=
  (parse_any s w).mono fun e w' hp => by
    unfold ParPost at hp
    rw [h] at hp
    exact hp
end Go.Proofs.Ythmpagehmfillaa
namespace Go.Proofs.Ythmpagehmfillaa
open Go.RowKit
set_option linter.unusedSimpArgs false
set_option linter.unusedVariables false
structure ModS where
  h : Int
  m : Int
  ph : Int
  pm : Int
  parts : List PartS
  code : List Nat
  post : List Nat
def mod0 : ModS := ⟨0, 0, 0, 0, [], [], []⟩
def cfgO : Res CfgS → CfgS
  | .error _ => ⟨0, 0, 0, 0, [], .nil, .nil, false⟩
  | .ok c => c
def fltO : Res CfgS → Flt
  | .error x => x
  | .ok _ => (0, 0)
/-- What compiling comes to: a model, a fault's number, its line. -/
def compK (c : CfgS) (x : Nat × Nat) : ModS × Int × Int :=
  if x.1 ≠ 0 then (mod0, (x.1 : Int), (x.2 : Int))
  else if checkT c ≠ 0 then (mod0, checkT c, 0)
  else if stmtsE false c.code ≠ 0 then (mod0, (stmtsE false c.code : Int), 0)
  else if c.has = true then (if stmtsE true c.post ≠ 0 then (mod0, (stmtsE true c.post : Int), 0) else (⟨c.h, c.m, c.ph, c.pm, c.parts, stmtsC false c.code, stmtsC true c.post⟩, 0, 0))
  else (⟨c.h, c.m, c.ph, c.pm, c.parts, stmtsC false c.code, []⟩, 0, 0)
def compR (r : Res CfgS) : ModS × Int × Int := compK (cfgO r) (fltO r)
theorem ParPost.frm {r : Res CfgS} {w w' : World} {e : Ending} (h : ParPost r w e w') : ∃ (c : CfgS) (vp vc vq : Value) (x y : Nat), e = .returned (.tuple #[.agg (cfgA c.h c.m c.ph c.pm vp vc vq c.has), .agg #[.int .i64 x, .int .i64 y]]) ∧ PrT w' (fun k => w.heap.size ≤ k) vp c.parts ∧ Tr w' (fun k => w.heap.size ≤ k) vc c.code ∧ Tr w' (fun k => w.heap.size ≤ k) vq c.post ∧ Below w.heap.size w w' ∧ c = cfgO r ∧ (x, y) = fltO r := by
  unfold ParPost at h
  cases r with
  | error x =>
    obtain ⟨rfl, hb⟩ := h
    exact ⟨⟨0, 0, 0, 0, [], .nil, .nil, false⟩, .slice none 0 0, .slice none 0 0, .slice none 0 0, x.1, x.2, rfl, PrT.nil _ _, Tr.nil _ _, Tr.nil _ _, hb, rfl, rfl⟩
  | ok c =>
    obtain ⟨⟨vp, vc, vq, rfl, h1, h2, h3⟩, hb⟩ := h
    exact ⟨c, vp, vc, vq, 0, 0, rfl, h1, h2, h3, hb, rfl, rfl⟩
def modA (h m ph pm : Int) (vp vc vq : Value) : Array Value := #[.int .i64 h, .int .i64 m, .int .i64 ph, .int .i64 pm, vp, vc, vq]
def modF (h m ph pm : Int) (vp vc vq : Value) : Nat → Value
  | 0 => .int .i64 h
  | 1 => .int .i64 m
  | 2 => .int .i64 ph
  | 3 => .int .i64 pm
  | 4 => vp
  | 5 => vc
  | _ => vq
theorem mod_row {w : World} {g : Nat} {t : TypeId} {h m ph pm : Int} {vp vc vq : Value} (hh : w.heap[g]? = some (.cells (modA h m ph pm vp vc vq) t (0, 0))) : w.rowIs g t 7 (modF h m ph pm vp vc vq) := ⟨_, hh, rfl, fun i hi => by
  match i, hi with
  | 0, _ => rfl
  | 1, _ => rfl
  | 2, _ => rfl
  | 3, _ => rfl
  | 4, _ => rfl
  | 5, _ => rfl
  | 6, _ => rfl⟩
theorem mod_heap {w : World} {g : Nat} {t : TypeId} {h m ph pm : Int} {vp vc vq : Value} (hr : w.rowIs g t 7 (modF h m ph pm vp vc vq)) : w.heap[g]? = some (.cells (modA h m ph pm vp vc vq) t (0, 0)) := by
  obtain ⟨cs, h1, h2, h3⟩ := hr
  rw [h1]
  have : cs = modA h m ph pm vp vc vq := by
    apply Array.ext (by rw [h2]; rfl)
    intro i hi1 hi2
    have h4 := h3 i (by omega)
    have e : (modA h m ph pm vp vc vq)[i]? = some (modF h m ph pm vp vc vq i) := by
      rw [h2] at hi1
      match i, hi1 with
      | 0, _ => rfl
      | 1, _ => rfl
      | 2, _ => rfl
      | 3, _ => rfl
      | 4, _ => rfl
      | 5, _ => rfl
      | 6, _ => rfl
    rw [← e, Array.getElem?_eq_getElem hi1, Array.getElem?_eq_getElem hi2] at h4
    exact Option.some.inj h4
  rw [this]
theorem mod_size : (Try.prog.info? 26).map (·.size) = some 7 := by kernel_rfl
/-- Two results in cells: a model, a fault. -/
theorem mf_results {fn : Func} {p q : Tmp} (h : fn.results = #[.cell p 26, .cell q 29]) (tmps : Array Value) (w : World) (g1 g2 : Nat) {a b c d : Int} {vp vc vq : Value} {e ln : Int}
    (hp : tmps.getD p undef = .pointer (some ⟨g1, 0, none⟩)) (hq : tmps.getD q undef = .pointer (some ⟨g2, 0, none⟩)) (hr : w.rowIs g1 26 7 (modF a b c d vp vc vq)) (hs : w.rowIs g2 29 2 (fltF e ln)) :
    (results fn tmps).run Try.prog w = .ok (.tuple #[.agg (modA a b c d vp vc vq), .agg #[.int .i64 e, .int .i64 ln]]) w := by
  have hp' : tmps[p]?.getD undef = .pointer (some ⟨g1, 0, none⟩) := by simpa using hp
  have hq' : tmps[q]?.getD undef = .pointer (some ⟨g2, 0, none⟩) := by simpa using hq
  simp [results, h, hp', hq', asAddr, run_loadVar_row w g1 26 26 _ _ _ (mod_heap hr) Try.underlying26 rfl mod_size, run_loadVar_row w g2 29 29 _ _ _ (flt_heap hs) Try.underlying29 rfl flt_size]
theorem mod_all {w : World} {g : Nat} {t : TypeId} {f : Nat → Value} (h m ph pm : Int) (vp vc vq : Value) (hr : w.rowIs g t 7 f) :
    (((((((w.setCell ⟨g, 0, none⟩ (.int .i64 h)).setCell ⟨g, 1, none⟩ (.int .i64 m)).setCell ⟨g, 2, none⟩ (.int .i64 ph)).setCell ⟨g, 3, none⟩ (.int .i64 pm)).setCell ⟨g, 4, none⟩ vp).setCell ⟨g, 5, none⟩ vc).setCell ⟨g, 6, none⟩ vq).rowIs g t 7 (modF h m ph pm vp vc vq) :=
  (((((((hr.set 0 _).set 1 _).set 2 _).set 3 _).set 4 _).set 5 _).set 6 _).congr fun i hi => by
    match i, hi with
    | 0, _ => rfl
    | 1, _ => rfl
    | 2, _ => rfl
    | 3, _ => rfl
    | 4, _ => rfl
    | 5, _ => rfl
    | 6, _ => rfl
theorem mod_setC {w : World} {g : Nat} {t : TypeId} {h m ph pm : Int} {vp vc vq : Value} (u : Value) (hr : w.rowIs g t 7 (modF h m ph pm vp vc vq)) : (w.setCell ⟨g, 5, none⟩ u).rowIs g t 7 (modF h m ph pm vp u vq) :=
  (hr.set 5 _).congr fun i hi => by
    match i, hi with
    | 0, _ => rfl
    | 1, _ => rfl
    | 2, _ => rfl
    | 3, _ => rfl
    | 4, _ => rfl
    | 5, _ => rfl
    | 6, _ => rfl
theorem mod_setQ {w : World} {g : Nat} {t : TypeId} {h m ph pm : Int} {vp vc vq : Value} (u : Value) (hr : w.rowIs g t 7 (modF h m ph pm vp vc vq)) : (w.setCell ⟨g, 6, none⟩ u).rowIs g t 7 (modF h m ph pm vp vc u) :=
  (hr.set 6 _).congr fun i hi => by
    match i, hi with
    | 0, _ => rfl
    | 1, _ => rfl
    | 2, _ => rfl
    | 3, _ => rfl
    | 4, _ => rfl
    | 5, _ => rfl
    | 6, _ => rfl
/-- What Compile comes to. -/
def CompP (r : Res CfgS) (w : World) (e : Ending) (w' : World) : Prop :=
  ∃ vp vc vq, e = .returned (.tuple #[.agg (modA (compR r).1.h (compR r).1.m (compR r).1.ph (compR r).1.pm vp vc vq), .agg #[.int .i64 (compR r).2.1, .int .i64 (compR r).2.2]]) ∧ PrT w' (fun k => w.heap.size ≤ k) vp (compR r).1.parts ∧ Ow w' w.heap.size vc (compR r).1.code ∧ Ow w' w.heap.size vq (compR r).1.post ∧ Below w.heap.size w w'
end Go.Proofs.Ythmpagehmfillaa
namespace Go.Proofs.Ythmpagehmfillaa
open Go.RowKit
set_option linter.unusedSimpArgs false
set_option linter.unusedVariables false
/-- No list within is longer than 2^40. -/
def Sts.inn : Sts → Prop
  | .nil => True
  | .cons _ _ _ b e _ r => (b.len ≤ 1099511627776 ∧ b.inn) ∧ (e.len ≤ 1099511627776 ∧ e.inn) ∧ r.inn
theorem Sts.inn_nth : ∀ {T : Sts} {j : Nat}, T.inn → j < T.len → ((T.nth j).b.len ≤ 1099511627776 ∧ (T.nth j).b.inn) ∧ ((T.nth j).e.len ≤ 1099511627776 ∧ (T.nth j).e.inn)
  | .nil, _, _, h => absurd h (Nat.not_lt_zero _)
  | .cons k i c b e ln r, 0, h, _ => ⟨h.1, h.2.1⟩
  | .cons k i c b e ln r, j + 1, h, hj => Sts.inn_nth (T := r) (j := j) h.2.2 (by have : j + 1 < r.len + 1 := hj; omega)
theorem Sts.drp_len' : ∀ {T : Sts} {j : Nat}, j ≤ T.len → (Sts.drp j T).len = T.len - j
  | .nil, 0, _ => rfl
  | .nil, j + 1, h => absurd h (Nat.not_succ_le_zero _)
  | .cons k i c b e ln r, 0, _ => rfl
  | .cons k i c b e ln r, j + 1, h => by
    have h1 : j + 1 ≤ r.len + 1 := h
    have := Sts.drp_len' (T := r) (j := j) (by omega)
    show (Sts.drp j r).len = r.len + 1 - (j + 1)
    omega
/-- What deep comes to. -/
def DpP (T : Sts) (lv pn n : Nat) (w : World) (e : Ending) (w' : World) : Prop := ∃ (b : Bool) (n' : Int), e = .returned (.bool b) ∧ w'.rowIs pn 3 1 (fun _ => .int .i64 n') ∧ w.grownBy w' (some pn) ∧ (b = false → dpt lv T = true ∧ n' = (n + T.all : Nat) ∧ n + T.all ≤ 3000)
def DpR (T : Sts) (lv pn n : Nat) (w : World) (s9 : Value) (wr : World) : Prop :=
  ∃ (k nk : Nat), k ≤ T.len ∧ s9 = .int .i64 k ∧ wr.rowIs pn 3 1 (fun _ => .int .i64 nk) ∧ w.grownBy wr (some pn) ∧ nk ≤ 3000 ∧ nk + (Sts.drp k T).all = n + T.all + (Sts.drp k T).len ∧ dpt lv (Sts.drp k T) = dpt lv T
set_option maxRecDepth 100000 in
set_option maxHeartbeats 8000000 in
theorem deep_any {pn : Nat} : ∀ (N : Nat) (T : Sts) (lv : Nat) (v : Value) (S : Nat → Prop) (n : Nat) (w : World), T.all < N → T.len ≤ 1099511627776 → T.inn → lv ≤ 60 → Tr w S v T → (∀ k, S k → k ≠ pn) → w.rowIs pn 3 1 (fun _ => .int .i64 n) → n ≤ 3000 →
    Calls Try.prog 23 #[v, .int .i64 lv, .int .i64 3000, .pointer (some ⟨pn, 0, none⟩)] w (DpP T lv pn n w) := by
  intro N
  induction N with
  | zero => intro T lv v S n w h; exact absurd h (Nat.not_lt_zero _)
  | succ N ih =>
    intro T lv v S n w hN hl hin hlv hT hS hr hn
    obtain ⟨A1, c1, rfl, -, -⟩ := hT.frm
    have hnl : n + T.len ≤ 2000000000000 := by omega
    have cn : w.cell? ⟨pn, 0, none⟩ = some (.int .i64 n) := hr.cell (by omega)
    have zn := hr.frozen 0
    have hw : IntKind.i64.wrap ((n : Int) + (T.len : Int)) = ((n + T.len : Nat) : Int) := by rw [IntKind.wrap_i64]; omega; all_goals omega
    have r1 : (w.setCell ⟨pn, 0, none⟩ (.int .i64 ((n : Int) + (T.len : Int)))).rowIs pn 3 1 (fun _ => .int .i64 ((n + T.len : Nat))) := (hr.set 0 _).congr fun i hi => by
      match i, hi with
      | 0, _ => exact congrArg (Value.int .i64) (by push_cast; rfl)
    have hg1 : w.grownBy (w.setCell ⟨pn, 0, none⟩ (.int .i64 ((n : Int) + (T.len : Int)))) (some pn) := grown_set (grown_refl _ _) (.inl rfl) _
    have HT2 := Lib.hid hT
    have HT := Lib.hid (hT.grown hg1 (fun k hk e => by injection e with e; exact hS k hk e.symm))
    have HX := Lib.hid (And.intro hN (And.intro hl (And.intro hin (And.intro hlv (And.intro hS hn)))))
    have R1 := Lib.hid r1
    have G1 := Lib.hid hg1
    have IH := Lib.hid ih
    clear hN hl hin hT hS hr hn r1 hg1 ih hnl hlv
    go_enter Try.func23, Try.ntmps23
    go_upto_region 2 with fail
    generalize w.setCell ⟨pn, 0, none⟩ (.int .i64 ((n : Int) + (T.len : Int))) = W1 at *
    have c1' : W1.cell? ⟨pn, 0, none⟩ = some (.int .i64 (n + T.len : Nat)) := R1.out.cell (by omega)
    clear cn zn hw
    by_cases h3 : 3000 < n + T.len
    · have i3 : (3000 : Int) < (n : Int) + (T.len : Int) := by omega
      clear h3
      go_wp2_with fail
      go_ret
      exact ⟨true, _, rfl, R1.out, G1.out, fun h => by cases h⟩
    have i3 : ¬ (3000 : Int) < (n : Int) + (T.len : Int) := by omega
    have H3 := Lib.hid (show n + T.len ≤ 3000 by omega)
    clear h3
    by_cases hz : 0 < T.len ∧ lv = 0
    · have ht0 : (0 : Int) < (T.len : Int) := by omega
      obtain ⟨-, rfl⟩ := hz
      go_wp2_with fail
      go_ret
      exact ⟨true, _, rfl, R1.out, G1.out, fun h => by cases h⟩
    have R0 : DpR T lv pn n w (.int .i64 0) W1 := ⟨0, n + T.len, Nat.zero_le _, rfl, R1.out, G1.out, H3.out, by show n + T.len + T.all = n + T.all + T.len; omega, rfl⟩
    have HR0 := Lib.hid R0
    clear R0
    have main : (0 : Int) < (T.len : Int) ∧ ¬ (lv : Int) < 1 ∨ ¬ (0 : Int) < (T.len : Int) := by
      by_cases h : (0 : Int) < (T.len : Int)
      · exact .inl ⟨h, by omega⟩
      · exact .inr h
    clear hz
    rcases main with ⟨h0, h1⟩ | h0
    all_goals
      go_wp2_with fail
      go_loopw [9] (fun s9 wr => DpR T lv pn n w s9 wr) (fun s9 _ => T.len - (intOf s9).toNat)
      case atStart => exact HR0.out
      case round =>
        clear HR0
        obtain ⟨k, nk, hk, rfl, hrw, hgw, hnk, hpo, hdp⟩ := hrel
        have HRW := Lib.hid hrw
        have HGW := Lib.hid hgw
        have HE := Lib.hid (And.intro hnk (And.intro hpo hdp))
        clear hrw hgw hnk hpo hdp
        by_cases e0 : k < T.len
        · first
            | (exfalso; omega; done)
            | (obtain ⟨lv', hlv1⟩ : ∃ l', lv = l' + 1 := ⟨lv - 1, by omega⟩
               have b1 : (k : Int) < (T.len : Int) := by omega
               have hTw : Tr wr S (.slice A1 T.len c1) T := HT2.out.grown HGW.out (fun k hk e => by injection e with e; exact HX.out.2.2.2.2.1 k hk e.symm)
               obtain ⟨g, o, vb, ve, rfl, hsg, hg, hbT, heT, hcl⟩ := hTw.nth e0
               obtain ⟨⟨y1, y2⟩, ⟨y3, y4⟩⟩ := Sts.inn_nth HX.out.2.2.1 e0
               have hna := Sts.nth_all e0
               have hdr := Sts.drp_nth e0
               have hdl := Sts.drp_len' (T := T) (j := k + 1) (by omega)
               have hx : StAt wr g (o + k * 13) (T.nth k) vb ve := ⟨hg, hcl⟩
               obtain ⟨q1, q2, q3⟩ := HE.out
               rw [hdr] at q2 q3
               rw [hlv1] at q3
               generalize T.nth k = x at *
               obtain ⟨B1, d1, rfl, -, -⟩ := hbT.frm
               obtain ⟨E1, n1, rfl, -, -⟩ := heT.frm
               have q5 : nk + (x.b.all + x.e.all + (Sts.drp (k + 1) T).all + 1) = n + T.all + ((Sts.drp (k + 1) T).len + 1) := q2
               have q8 : (dpt lv' x.b && dpt lv' x.e && dpt (lv' + 1) (Sts.drp (k + 1) T)) = dpt (lv' + 1) T := q3
               have hkk : IntKind.i64.wrap ((k : Int) + 1) = ((k + 1 : Nat) : Int) := by
                 have := HX.out.2.1
                 rw [IntKind.wrap_i64]; omega; all_goals omega
               have hlw : IntKind.i64.wrap ((lv : Int) - 1) = (lv' : Int) := by
                 have := HX.out.2.2.2.1
                 rw [IntKind.wrap_i64]; omega; all_goals omega
               have HLV := Lib.hid hlv1
               have hgp : g ≠ pn := HX.out.2.2.2.2.1 g hsg
               have HBT := Lib.hid (And.intro hbT heT)
               have HXX := Lib.hid hx
               have Hq := Lib.hid (And.intro q1 (And.intro q5 (And.intro q8 hdl)))
               have HY := Lib.hid (And.intro y1 (And.intro y2 (And.intro y3 y4)))
               have HNA := Lib.hid hna
               have HGP := Lib.hid hgp
               have fa := hcl 10 (by omega)
               simp only [smF] at fa
               clear hlv1 hsg hcl hna hdr hdl hx q1 q2 q3 q5 q8 hbT heT y1 y2 y3 y4 hgp hTw
               go_wp2_with fail
               refine (IH.out x.b lv' _ S nk wr (by have := HX.out; have := HNA.out; omega) HY.out.1 HY.out.2.1 (by have := HX.out.2.2.2.1; have := HLV.out; omega) HBT.out.1 HX.out.2.2.2.2.1 HRW.out Hq.out.1).mono ?_
               rintro e w3 ⟨db, n2, rfl, hr3, hg3, himp⟩
               have hgx3 := nil_grown HGW.out hg3
               have fb : w3.cell? ⟨g, o + k * 13 + 11, none⟩ = some (.slice E1 x.e.len n1) := (grown_cell hg3 (p := ⟨g, o + k * 13 + 11, none⟩) HXX.out.1 HGP.out).trans (HXX.out.2 11 (by omega))
               cases db with
               | true =>
                 have HF := Lib.hid (And.intro hr3 hgx3)
                 clear hr3 hg3 himp hgx3
                 go_wp2_with fail
                 go_ret
                 exact ⟨true, _, rfl, HF.out.1, HF.out.2, fun h => by cases h⟩
               | false =>
                 obtain ⟨i1, rfl, i2⟩ := himp rfl
                 have HF := Lib.hid (And.intro hr3 (And.intro hg3 (And.intro hgx3 (And.intro i1 i2))))
                 clear hr3 hg3 himp hgx3 i1 i2
                 go_wp2_with fail
                 refine (IH.out x.e lv' _ S (nk + x.b.all) w3 (by have := HX.out; have := HNA.out; omega) HY.out.2.2.1 HY.out.2.2.2 (by have := HX.out.2.2.2.1; have := HLV.out; omega) (HBT.out.2.grown HF.out.2.1 (fun k hk e => by injection e with e; exact HX.out.2.2.2.2.1 k hk e.symm)) HX.out.2.2.2.2.1 HF.out.1 HF.out.2.2.2.2).mono ?_
                 rintro e w4 ⟨de, n3, rfl, hr4, hg4, himp4⟩
                 have hgx4 := nil_grown HF.out.2.2.1 hg4
                 cases de with
                 | true =>
                   have HF4 := Lib.hid (And.intro hr4 hgx4)
                   clear hr4 hg4 himp4 hgx4
                   go_wp2_with fail
                   go_ret
                   exact ⟨true, _, rfl, HF4.out.1, HF4.out.2, fun h => by cases h⟩
                 | false =>
                   obtain ⟨i3', rfl, i4⟩ := himp4 rfl
                   have HF4 := Lib.hid (And.intro hr4 (And.intro hgx4 (And.intro i3' i4)))
                   clear hr4 hg4 himp4 hgx4 i3' i4
                   go_wp2_with fail
                   go_roundw
                   case rel =>
                     refine ⟨k + 1, nk + x.b.all + x.e.all, by omega, rfl, HF4.out.1, HF4.out.2.1, HF4.out.2.2.2, ?_, ?_⟩
                     · have := Hq.out.2.1; omega
                     · have h := Hq.out.2.2.1
                       rw [HF.out.2.2.2.1, HF4.out.2.2.1] at h
                       rw [HLV.out]
                       simpa using h
                   case measure => simp [intOf]; omega)
        · obtain rfl : k = T.len := by omega
          have b1 : ¬ ((T.len : Int) < (T.len : Int)) := by omega
          obtain ⟨q1, q2, q3⟩ := HE.out
          rw [Sts.drp_len] at q2 q3
          rw [dpt_nil] at q3
          have q4 : nk = n + T.all := by have : Sts.nil.all = 0 := rfl; have : Sts.nil.len = 0 := rfl; omega
          subst q4
          have HQ := Lib.hid (And.intro q3.symm q1)
          clear q1 q2 q3
          go_wp2_with fail
          go_ret
          exact ⟨false, _, rfl, HRW.out, HGW.out, fun _ => ⟨HQ.out.1, rfl, HQ.out.2⟩⟩
def DeP (T : Sts) (w : World) (e : Ending) (w' : World) : Prop := ∃ b : Bool, e = .returned (.bool b) ∧ Below w.heap.size w w' ∧ (b = false → dpt 60 T = true ∧ T.all ≤ 3000)
theorem deepT_any (T : Sts) (v : Value) (S : Nat → Prop) (w : World) (hl : T.len ≤ 1099511627776) (hi : T.inn) (hT : Tr w S v T) :
    Calls Try.prog 10 #[v, .int .i64 60, .int .i64 3000] w (DeP T w) := by
  have hba : Below w.heap.size w (w.alloc (.cells #[.int .i64 0] 3)) := (Below.refl _ _).alloc (Nat.le_refl _) _
  have hT2 := hT.keep (w' := w.alloc (.cells #[.int .i64 0] 3)) (S' := fun k => k < w.heap.size) (fun k _ hk => hba.block k hk) hba.size (fun k _ hk => hk)
  obtain ⟨A1, c1, rfl, -, -⟩ := hT.frm
  have HD := Lib.hid (deep_any (pn := w.heap.size) (T.all + 1) T 60 _ (fun k => k < w.heap.size) 0 _ (Nat.lt_succ_self _) hl hi (Nat.le_refl _) hT2 (fun k hk => by omega) one_row (by omega))
  have HBA := Lib.hid hba
  clear hba hT hT2 hl hi
  go_enter Try.func10, Try.ntmps10
  go_wp2_with fail
  refine HD.out.mono ?_
  rintro e w2 ⟨b, n', rfl, hr, hg, himp⟩
  have HB := Lib.hid (below_of_grown HBA.out hg HBA.out.size (Nat.le_refl _))
  have HI := Lib.hid himp
  clear hr hg himp
  go_wp2_with fail
  go_ret
  exact ⟨b, rfl, HB.out, fun h => by have := HI.out h; exact ⟨this.1, by omega⟩⟩
end Go.Proofs.Ythmpagehmfillaa
