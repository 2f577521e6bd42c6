/-
  THE WALK OF journal's Add. Conditions: a journal over a file that is a plain disk.
-/
import Derived.Test.YtlhbijpmhokmnaaGreatQ34
import Derived.Deep.DeepCutAuto
import Derived.Deep.CutBlock
namespace Go.Proofs.YtlhbijpmhokmnaaGreat
open Go.RowKit
set_option linter.unusedSimpArgs false
set_option linter.unusedVariables false

/-- Taking one operation of a region that draws, the region a written list. -/
theorem takeL {P : Program} {md : Region.Mode} {l : List Oper} {Q : Exit → Act → World → Prop} {S : World → Prop} {i : Nat} {oi : Oper} {v : Value} {fuel : Nat} {listed : Array Bool} {a : Act} {w : World} (hi : l[i]? = some oi)
    (hs : Region.noSelect l.toArray = true) (hf : Region.free md l.toArray listed i = true) (hr : (Region.ready md l.toArray listed).contains i = true)
    (hQ : ∀ c a w, Q (.panic c) (a.put oi.dst v) w → Q (.panic c) a w) (hy : YieldsIf P l.toArray S oi v a) (hS : S w)
    (h : wpAnyH P md l.toArray Q S fuel (listed.setIfInBounds i true) (a.put oi.dst v) w) : wpAnyH P md l.toArray Q S (fuel + 1) listed a w :=
  wpAnyH_take (by rw [List.getElem?_toArray]; exact hi) hs hf hr hQ hy hS h
theorem oneL {P : Program} {md : Region.Mode} {l : List Oper} {Q : Exit → Act → World → Prop} {S : World → Prop} {i : Nat} {oi : Oper} {fuel : Nat} {listed : Array Bool} {a : Act} {w : World} (hi : l[i]? = some oi)
    (hr : Region.ready md l.toArray listed = [i])
    (h : ∀ K' : Act → World → Prop, Shut (∀ a w, S w → (S w → wpAnyH P md l.toArray Q S fuel (listed.setIfInBounds i true) a w) → K' a w) → if Region.wanted oi (yielded l.toArray a.tmps) = true then Oper.wp P oi a w K' Q else K' (a.put oi.dst undef) w) :
    wpAnyH P md l.toArray Q S (fuel + 1) listed a w :=
  wpAnyH_ready hr (by simp) (AllReadyH.cons (by rw [List.getElem?_toArray]; exact hi) h AllReadyH.nil)
/-- A step that the loop goes over: it appends l, or makes sure. -/
def StepV (w : World) (pj gf : Nat) (v : Value) (f : DkS → Int × DkS) : Prop :=
  (∃ g A c l, v = .func (.func 48) #[] #[.pointer (some ⟨pj, 0, none⟩), .pointer (some ⟨g, 0, none⟩)] ∧ w.rowIs g 22 1 (fun _ => .slice A l.length c) ∧ l.length ≤ 4194304 ∧ Rd w A l ∧ f = fun p => p.append l) ∨
  (v = .func (.func 50) #[.pointer (some ⟨gf, 0, none⟩)] #[] ∧ f = fun p => p.sync)
structure AddS (w : World) (pj gf gj s : Nat) (F : Nat → DkS → Int × DkS) : Prop where
  jp : w.rowIs pj 30 1 (fun _ => .pointer (some ⟨gj, 0, none⟩))
  st : ∃ V, w.rowIs s 74 6 V ∧ ∀ i, i < 6 → StepV w pj gf (V i) (F i)
section
variable {w w' : World} {pj gf gj gd s n e : Nat} {br : Bool} {F : Nat → DkS → Int × DkS} {nb ob : Option Nat} {K : TurnK} {pre : List Nat} {p : DkS}
theorem AddS.below (h : AddS w pj gf gj s F) (hb : Below w.heap.size w w') : AddS w' pj gf gj s F := by
  obtain ⟨h1, V, h2, h3⟩ := h
  refine ⟨below_row hb h1 h1.lt, V, below_row hb h2 h2.lt, fun i hi => ?_⟩
  rcases h3 i hi with ⟨g, A, c, l, q1, q2, q3, q4, q5⟩ | h
  · exact .inl ⟨g, A, c, l, q1, below_row hb q2 q2.lt, q3, q4.below hb, q5⟩
  · exact .inr h
theorem AddS.grown (h : AddS w pj gf gj s F) (hf : Fv w gf gd nb ob K pre p) (hg : w.grownBy w' (some gd)) : AddS w' pj gf gj s F := by
  obtain ⟨t, n', f, hrow, rfl⟩ := hf.row
  obtain ⟨h1, V, h2, h3⟩ := h
  refine ⟨grown_row hg h1 (rows_apart h1 hrow (by decide)), V, grown_row hg h2 (rows_apart h2 hrow (by decide)), fun i hi => ?_⟩
  rcases h3 i hi with ⟨g, A, c, l, q1, q2, q3, q4, q5⟩ | h
  · exact .inl ⟨g, A, c, l, q1, grown_row hg q2 (rows_apart q2 hrow (by decide)), q3, hf.rd q4 hg, q5⟩
  · exact .inr h
theorem bne_dec (x : Int) : (x != 0) = decide (x ≠ 0) := by
  by_cases h : x = 0
  · subst h; rfl
  · rw [decide_eq_true h, bne_iff_ne]; exact h
theorem adds_new {b1 b2 b3 n1 n2 n3 c1 c2 c3 : Nat} {A1 A2 A3 : Option Addr} {hd b cm : List Nat} (hpj : w.rowIs pj 30 1 (fun _ => .pointer (some ⟨gj, 0, none⟩)))
    (h1 : w.rowIs b1 22 1 (fun _ => .slice A1 n1 c1)) (h2 : w.rowIs b2 22 1 (fun _ => .slice A2 n2 c2)) (h3 : w.rowIs b3 22 1 (fun _ => .slice A3 n3 c3))
    (e1 : n1 = hd.length) (e2 : n2 = b.length) (e3 : n3 = cm.length) (l1 : n1 ≤ 4194304) (l2 : n2 ≤ 4194304) (l3 : n3 ≤ 4194304) (r1 : Rd w A1 hd) (r2 : Rd w A2 b) (r3 : Rd w A3 cm) :
    AddS (w.alloc (.cells #[.func (.func 48) #[] #[.pointer (some ⟨pj, 0, none⟩), .pointer (some ⟨b1, 0, none⟩)], .func (.func 50) #[.pointer (some ⟨gf, 0, none⟩)] #[],
      .func (.func 48) #[] #[.pointer (some ⟨pj, 0, none⟩), .pointer (some ⟨b2, 0, none⟩)], .func (.func 50) #[.pointer (some ⟨gf, 0, none⟩)] #[],
      .func (.func 48) #[] #[.pointer (some ⟨pj, 0, none⟩), .pointer (some ⟨b3, 0, none⟩)], .func (.func 50) #[.pointer (some ⟨gf, 0, none⟩)] #[]] 74)) pj gf gj w.heap.size (stepA hd b cm) := by
  subst e1; subst e2; subst e3
  have hb : Below w.heap.size w (w.alloc (.cells #[.func (.func 48) #[] #[.pointer (some ⟨pj, 0, none⟩), .pointer (some ⟨b1, 0, none⟩)], .func (.func 50) #[.pointer (some ⟨gf, 0, none⟩)] #[],
      .func (.func 48) #[] #[.pointer (some ⟨pj, 0, none⟩), .pointer (some ⟨b2, 0, none⟩)], .func (.func 50) #[.pointer (some ⟨gf, 0, none⟩)] #[],
      .func (.func 48) #[] #[.pointer (some ⟨pj, 0, none⟩), .pointer (some ⟨b3, 0, none⟩)], .func (.func 50) #[.pointer (some ⟨gf, 0, none⟩)] #[]] 74)) := (Below.refl _ _).alloc (Nat.le_refl _) _
  refine ⟨below_row hb hpj hpj.lt, fun i => match i with
    | 0 => .func (.func 48) #[] #[.pointer (some ⟨pj, 0, none⟩), .pointer (some ⟨b1, 0, none⟩)]
    | 2 => .func (.func 48) #[] #[.pointer (some ⟨pj, 0, none⟩), .pointer (some ⟨b2, 0, none⟩)]
    | 4 => .func (.func 48) #[] #[.pointer (some ⟨pj, 0, none⟩), .pointer (some ⟨b3, 0, none⟩)]
    | _ => .func (.func 50) #[.pointer (some ⟨gf, 0, none⟩)] #[], ⟨_, heap_alloc_new w _, rfl, fun i hi => ?_⟩, fun i hi => ?_⟩
  · match i, hi with
    | 0, _ => rfl
    | 1, _ => rfl
    | 2, _ => rfl
    | 3, _ => rfl
    | 4, _ => rfl
    | 5, _ => rfl
  · match i, hi with
    | 0, _ => exact .inl ⟨b1, A1, c1, hd, rfl, below_row hb h1 h1.lt, l1, r1.below hb, rfl⟩
    | 1, _ => exact .inr ⟨rfl, rfl⟩
    | 2, _ => exact .inl ⟨b2, A2, c2, b, rfl, below_row hb h2 h2.lt, l2, r2.below hb, rfl⟩
    | 3, _ => exact .inr ⟨rfl, rfl⟩
    | 4, _ => exact .inl ⟨b3, A3, c3, cm, rfl, below_row hb h3 h3.lt, l3, r3.below hb, rfl⟩
    | 5, _ => exact .inr ⟨rfl, rfl⟩
/-- A step's call. -/
theorem step_any (hst : AddS w pj gf gj s F) (hj : Jo w gj gf n e br) (h : Fv w gf gd nb ob K pre p) {k : Nat} (hk : k < 6) :
    (∃ g, w.cell? ⟨s, k, none⟩ = some (.func (.func 48) #[] #[.pointer (some ⟨pj, 0, none⟩), .pointer (some ⟨g, 0, none⟩)]) ∧
      Calls Tryz.prog 48 #[.pointer (some ⟨pj, 0, none⟩), .pointer (some ⟨g, 0, none⟩)] w (Ret fun r w' => VAfter w gf gd nb ob K pre (F k p).2 w' ∧ r = (F k p).1)) ∨
    (w.cell? ⟨s, k, none⟩ = some (.func (.func 50) #[.pointer (some ⟨gf, 0, none⟩)] #[]) ∧
      Calls Tryz.prog 50 #[.pointer (some ⟨gf, 0, none⟩)] w (Ret fun r w' => VAfter w gf gd nb ob K pre (F k p).2 w' ∧ r = (F k p).1)) := by
  obtain ⟨h1, V, h2, h3⟩ := hst
  have hc := h2.cell hk
  rcases h3 k hk with ⟨g, A, c, l, q1, q2, q3, q4, q5⟩ | ⟨q1, q5⟩
  · rw [q1] at hc
    refine .inl ⟨g, hc, ?_⟩
    rw [q5]
    exact add11_any hj h pj g A l.length c l h1 q2 rfl q3 q4
  · rw [q1] at hc
    refine .inr ⟨hc, ?_⟩
    rw [q5]
    exact vsync_any h
theorem Sl.setOff {v : Value} {l : List Nat} {b : Option Nat} (h : Sl w v l b) {p : Addr} {u0 : Value} (hp : w.cell? p = some u0) (h0 : ∀ x, u0 ≠ .int .u8 x) (u : Value) : Sl (w.setCell p u) v l b := by
  obtain ⟨A, c, e, h1, h2, h3, h4⟩ := h
  exact ⟨A, c, e, h1, h2, h3.setOff hp h0 u, h4⟩
theorem joC_not (gf n e : Nat) (br : Bool) : ∀ i, i < 4 → ∀ x, joC gf n e br i ≠ .int .u8 x
  | 0, _ => fun x h => by cases h
  | 1, _ => fun x h => by cases h
  | 2, _ => fun x h => by cases h
  | 3, _ => fun x h => by cases h
theorem Fv.setJ (h : Fv w gf gd nb ob K pre p) (hj : Jo w gj gf n e br) {i : Nat} (hi : i < 4) (u : Value) : Fv (w.setCell ⟨gj, i, none⟩ u) gf gd nb ob K pre p := by
  have hg : w.grownBy (w.setCell ⟨gj, i, none⟩ u) (some gj) := grown_set (grown_refl _ _) (.inl rfl) u
  have hp := hj.cell hi
  have h0 := joC_not gf n e br i hi
  obtain ⟨d, ⟨⟨tv, q1, q2⟩, q3⟩, q4⟩ := h.ex
  obtain ⟨wf, nn, on, nl, ol, nv, ov, r1, r2, r3⟩ := q3
  refine ⟨d, ⟨⟨tv, grown_row hg q1 (rows_apart q1 hj (by decide)), ?_⟩, ⟨wf, nn, on, fun k e => Nat.lt_of_lt_of_le (nl k e) hg.size, fun k e => Nat.lt_of_lt_of_le (ol k e) hg.size, nv, ov, grown_row hg r1 (rows_apart r1 hj (by decide)), r2.setOff hp h0 u, r3.setOff hp h0 u⟩⟩, q4⟩
  cases K with
  | none => exact q2
  | some x =>
    obtain ⟨kb, nonce⟩ := x
    obtain ⟨gc, pc, pn, A, c, h1, h2, h3, h4, h5, h6, h7⟩ := q2
    exact ⟨gc, pc, pn, A, c, h1, grown_row hg h2 (rows_apart h2 hj (by decide)), grown_row hg h3 (rows_apart h3 hj (by decide)), grown_row hg h4 (rows_apart h4 hj (by decide)), h5, h6.setOff hp h0 u, h7⟩
/-- Nothing but two blocks may have changed. -/
structure Twb (w w' : World) (g1 g2 : Nat) : Prop where
  os : w'.os = w.os
  tape : w'.tape = w.tape
  output : w'.output = w.output
  size : w.heap.size ≤ w'.heap.size
  block : ∀ k, k < w.heap.size → k ≠ g1 → k ≠ g2 → w'.heap[k]? = w.heap[k]?
theorem Twb.of (h : w.grownBy w' (some gd)) (gj : Nat) : Twb w w' gd gj := ⟨h.os, h.tape, h.output, h.size, fun k hk h1 h2 => h.block k hk (fun e => h1 (by injection e))⟩
theorem Twb.set {W : World} (h : Twb w W gd gj) (i : Nat) (u : Value) : Twb w (W.setCell ⟨gj, i, none⟩ u) gd gj := by
  have hg : W.grownBy (W.setCell ⟨gj, i, none⟩ u) (some gj) := grown_set (grown_refl _ _) (.inl rfl) u
  exact ⟨hg.os.trans h.os, hg.tape.trans h.tape, hg.output.trans h.output, Nat.le_trans h.size hg.size, fun k hk h1 h2 => (hg.block k (Nat.lt_of_lt_of_le hk h.size) (fun e => h2 (by injection e))).trans (h.block k hk h1 h2)⟩
theorem Twb.drew {W : World} (h : Twb w W gd gj) : Twb w W.drew gd gj := ⟨h.os, h.tape, h.output, h.size, h.block⟩
theorem Twb.below {B : Nat} {w0 : World} (h : Twb w w' gd gj) (hb : Below B w0 w) (h1 : B ≤ gd) (h2 : B ≤ gj) (hs : B ≤ w.heap.size) : Below B w0 w' :=
  ⟨h.os.trans hb.os, h.tape.trans hb.tape, h.output.trans hb.output, Nat.le_trans hb.size h.size, fun k hk => (h.block k (by omega) (by omega) (by omega)).trans (hb.block k hk)⟩
/-- What a call on a journal leaves. -/
def JAfter (w : World) (gj gf gd : Nat) (nb ob : Option Nat) (K : TurnK) (pre : List Nat) (p : DkS) (n e : Nat) (br : Bool) (w' : World) : Prop :=
  ∃ nb' ob', Fv w' gf gd nb' ob' K pre p ∧ Jo w' gj gf n e br ∧ (New w nb nb' ∨ New w ob nb') ∧ (New w nb ob' ∨ New w ob ob') ∧ Twb w w' gd gj
theorem step_le (hd b cm : List Nat) (k : Nat) (p : DkS) : p.now.length ≤ (stepA hd b cm k p).2.now.length := by
  have ha : ∀ x, p.now.length ≤ (p.append x).2.now.length := by
    intro x
    have hk := p.pre_keeps.2.1
    unfold DkS.append DkS.op
    cases hp : p.pre with
    | mk y d' =>
      rw [hp] at hk
      cases y with
      | some e => show _ ≤ d'.now.length; rw [hk]; exact Nat.le_refl _
      | none =>
        show _ ≤ (if d'.most < d'.now.length + x.length then ((5 : Int), d') else (0, { d' with now := d'.now ++ x })).2.now.length
        split
        · show _ ≤ d'.now.length; rw [hk]; exact Nat.le_refl _
        · show _ ≤ (d'.now ++ x).length; rw [hk, List.length_append]; exact Nat.le_add_right _ _
  have hs : p.now.length ≤ p.sync.2.now.length := by
    have hk := p.pre_keeps.2.1
    unfold DkS.sync DkS.op
    cases hp : p.pre with
    | mk y d' =>
      rw [hp] at hk
      cases y with
      | some e => show _ ≤ d'.now.length; rw [hk]; exact Nat.le_refl _
      | none => show _ ≤ d'.now.length; rw [hk]; exact Nat.le_refl _
  match k with
  | 0 => exact ha hd
  | 1 => exact hs
  | 2 => exact ha b
  | 3 => exact hs
  | 4 => exact ha cm
  | _ + 5 => exact hs
theorem run_le (hd b cm : List Nat) (p : DkS) : ∀ k, p.now.length ≤ (runA hd b cm k p).now.length
  | 0 => Nat.le_refl _
  | k + 1 => Nat.le_trans (run_le hd b cm p k) (step_le hd b cm k _)
end
section
variable {w : World} {gj gf gd n e0 : Nat} {nb ob : Option Nat} {K : TurnK} {pre : List Nat} {p : DkS}
set_option maxRecDepth 100000 in
set_option maxHeartbeats 16000000 in
theorem jadd_any (hj : Jo w gj gf n e0 false) (h : Fv w gf gd nb ob K pre p) (A : Option Addr) (m c : Nat) (b : List Nat) (hm : m = b.length) (hg : GoodB b) (hr : Rd w A b) (hn : n + 1 < 100000) (he : e0 ≤ p.now.length) :
    Calls Tryz.prog 15 #[.pointer (some ⟨gj, 0, none⟩), .slice A m c] w (Ret fun r w' => ∃ p' n' e' br, AddOut (headL (n + 1) b.length) b (commitL (n + 1) (headL (n + 1) b.length) b) n e0 p r p' n' e' br ∧ JAfter w gj gf gd nb ob K pre p' n' e' br w') := by
  have hb : Below w.heap.size w (w.alloc (.cells #[.pointer (some ⟨gj, 0, none⟩)] 30)) := (Below.refl _ _).alloc (Nat.le_refl _) _
  have hj1 := hj.below hb
  have hcell : (w.alloc (.cells #[.pointer (some ⟨gj, 0, none⟩)] 30)).cell? ⟨w.heap.size, 0, none⟩ = some (.pointer (some ⟨gj, 0, none⟩)) := new_cell _ _ _
  have hpj : (w.alloc (.cells #[.pointer (some ⟨gj, 0, none⟩)] 30)).rowIs w.heap.size 30 1 (fun _ => .pointer (some ⟨gj, 0, none⟩)) := ⟨_, heap_alloc_new w _, rfl, fun i hi => by
    match i, hi with
    | 0, _ => rfl⟩
  obtain ⟨c0, c1, c2, c3⟩ := hj1.c
  have hr1 := hr.below hb
  have hm1 : 1 ≤ m := by rw [hm]; exact hg.1
  have hm2 : m ≤ 1048576 := by rw [hm]; exact hg.2
  have k0 : ((m : Int) == 0) = false := by rw [beq_eq_false_iff_ne]; omega
  have k1 : ¬ (1048576 : Int) < m := by omega
  obtain ⟨n1, hn1⟩ : ∃ n1, n1 = n + 1 := ⟨_, rfl⟩
  have k2 : IntKind.i64.wrap ((n : Int) + 1) = (n1 : Int) := by rw [IntKind.wrap_i64]; omega
  have hk : n1 < 4294967296 := by omega
  have HN1 := Lib.hid hn1
  have HM := Lib.hid hm
  have HJ := Lib.hid hj1
  have HPJ := Lib.hid hpj
  have HB := Lib.hid hb
  have HR := Lib.hid hr1
  have H := Lib.hid h
  have HG := Lib.hid hg
  clear hj hj1 hpj hb hr hr1 h hn1 hm hg c2
  go_enter Tryz.func15, Tryz.ntmps15
  go_wp2_with fail
  refine (jmade_any HJ.out).mono ?_
  rintro e w' ⟨rfl, rfl⟩
  go_wp2_with fail
  refine (head_any n1 m _ hk (by omega)).mono ?_
  rintro e w2 ⟨B1, cb1, rfl, hcb1, ho1, hb2⟩
  have hgl : gj < (w.alloc (.cells #[.pointer (some ⟨gj, 0, none⟩)] 30)).heap.size := block_lt_of_cell c0
  have hwl : w.heap.size < (w.alloc (.cells #[.pointer (some ⟨gj, 0, none⟩)] 30)).heap.size := by rw [World.size_alloc]; omega
  have d0 := (hb2.cell (p := ⟨gj, 0, none⟩) hgl).trans c0
  have d1 := (hb2.cell (p := ⟨gj, 1, none⟩) hgl).trans c1
  have dp := (hb2.cell (p := ⟨w.heap.size, 0, none⟩) hwl).trans hcell
  have gl2 := Nat.lt_of_lt_of_le hgl hb2.size
  have wl2 := Nat.lt_of_lt_of_le hwl hb2.size
  have HB2 := Lib.hid (HB.out.trans (hb2.mono HB.out.size))
  have HJ2 := Lib.hid (HJ.out.below hb2)
  have HV2 : Hid (VAfter w gf gd nb ob K pre p w2) := ⟨nb, ob, H.out.below (HB.out.trans (hb2.mono HB.out.size)), .inl (.inl rfl), .inr (.inl rfl), grown_of_below (HB.out.trans (hb2.mono HB.out.size)) _⟩
  have HPJ2 := Lib.hid (below_row hb2 HPJ.out hwl)
  have HR2 := Lib.hid (HR.out.below hb2)
  have HO1 := Lib.hid (Ow.rdW ho1)
  clear hb2 ho1 c0 c1 c3 hcell hgl hwl HB HJ HPJ HR
  generalize w.heap.size = pj at *
  have hbl : b.length ≤ 1048576 := by rw [← HM.out]; exact hm2
  have HBL := Lib.hid hbl
  have keep : ∀ W, Below w2.heap.size w2 W → W.cell? ⟨pj, 0, none⟩ = some (.pointer (some ⟨gj, 0, none⟩)) ∧ W.cell? ⟨gj, 0, none⟩ = some (.pointer (some ⟨gf, 0, none⟩)) ∧ W.cell? ⟨gj, 1, none⟩ = some (.int .i64 n) := fun W hW => ⟨(hW.cell (p := ⟨pj, 0, none⟩) wl2).trans dp, (hW.cell (p := ⟨gj, 0, none⟩) gl2).trans d0, (hW.cell (p := ⟨gj, 1, none⟩) gl2).trans d1⟩
  have KEEP := Lib.hid keep
  clear keep hbl
  go_upto_region 11 with fail
  go_cut [67, 68, 69] (fun s67 s68 s69 wx => ∃ s, s67 = .slice (some ⟨s, 0, none⟩) 6 6 ∧ s68 = .int .i64 6 ∧ s69 = .int .i64 0 ∧ AddS wx pj gf gj s (stepA (headL n1 m) b (commitL n1 (headL n1 m) b)) ∧ Below w2.heap.size w2 wx)
  case first =>
    refine wp_region_held_drew (S := fun W => W.cell? ⟨pj, 0, none⟩ = some (.pointer (some ⟨gj, 0, none⟩)) ∧ W.cell? ⟨gj, 0, none⟩ = some (.pointer (some ⟨gf, 0, none⟩)) ∧ W.cell? ⟨gj, 1, none⟩ = some (.int .i64 n)) (by kernel_rfl) ⟨dp, d0, d1⟩ (fun hHeld => ?_)
    refine takeL (i := 0) (v := ?_) rfl (by kernel_rfl) (by kernel_rfl) (by kernel_rfl) (fun _ _ _ h => h) (Or.inl ⟨by rfl, ?_⟩) (by assumption) ?_
    rotate_left 1
    · (intro w hSw; (try dsimp only at hSw); go_simp; try with_reducible rfl)
    try simp only [Act.put, List.setIfInBounds_toArray, List.set_cons_zero, List.set_cons_succ]
    refine takeL (i := 1) (v := ?_) rfl (by kernel_rfl) (by kernel_rfl) (by kernel_rfl) (fun _ _ _ h => h) (Or.inl ⟨by rfl, ?_⟩) (by assumption) ?_
    rotate_left 1
    · (intro w hSw; (try dsimp only at hSw); go_simp; try with_reducible rfl)
    try simp only [Act.put, List.setIfInBounds_toArray, List.set_cons_zero, List.set_cons_succ]
    refine takeL (i := 3) (v := ?_) rfl (by kernel_rfl) (by kernel_rfl) (by kernel_rfl) (fun _ _ _ h => h) (Or.inl ⟨by rfl, ?_⟩) (by assumption) ?_
    rotate_left 1
    · (intro w hSw; (try dsimp only at hSw); go_simp; try with_reducible rfl)
    try simp only [Act.put, List.setIfInBounds_toArray, List.set_cons_zero, List.set_cons_succ]
    refine takeL (i := 4) (v := ?_) rfl (by kernel_rfl) (by kernel_rfl) (by kernel_rfl) (fun _ _ _ h => h) (Or.inl ⟨by rfl, ?_⟩) (by assumption) ?_
    rotate_left 1
    · (intro w hSw; (try dsimp only at hSw); go_simp; try with_reducible rfl)
    try simp only [Act.put, List.setIfInBounds_toArray, List.set_cons_zero, List.set_cons_succ]
    refine takeL (i := 5) (v := ?_) rfl (by kernel_rfl) (by kernel_rfl) (by kernel_rfl) (fun _ _ _ h => h) (Or.inl ⟨by rfl, ?_⟩) (by assumption) ?_
    rotate_left 1
    · (intro w hSw; (try dsimp only at hSw); go_simp; try with_reducible rfl)
    try simp only [Act.put, List.setIfInBounds_toArray, List.set_cons_zero, List.set_cons_succ]
    refine takeL (i := 6) (v := ?_) rfl (by kernel_rfl) (by kernel_rfl) (by kernel_rfl) (fun _ _ _ h => h) (Or.inl ⟨by rfl, ?_⟩) (by assumption) ?_
    rotate_left 1
    · (intro w hSw; (try dsimp only at hSw); go_simp; try with_reducible rfl)
    try simp only [Act.put, List.setIfInBounds_toArray, List.set_cons_zero, List.set_cons_succ]
    refine takeL (i := 7) (v := ?_) rfl (by kernel_rfl) (by kernel_rfl) (by kernel_rfl) (fun _ _ _ h => h) (Or.inl ⟨by rfl, ?_⟩) (by assumption) ?_
    rotate_left 1
    · (intro w hSw; (try dsimp only at hSw); go_simp; try with_reducible rfl)
    try simp only [Act.put, List.setIfInBounds_toArray, List.set_cons_zero, List.set_cons_succ]
    refine takeL (i := 8) (v := ?_) rfl (by kernel_rfl) (by kernel_rfl) (by kernel_rfl) (fun _ _ _ h => h) (Or.inl ⟨by rfl, ?_⟩) (by assumption) ?_
    rotate_left 1
    · (intro w hSw; (try dsimp only at hSw); go_simp; try with_reducible rfl)
    try simp only [Act.put, List.setIfInBounds_toArray, List.set_cons_zero, List.set_cons_succ]
    refine takeL (i := 9) (v := ?_) rfl (by kernel_rfl) (by kernel_rfl) (by kernel_rfl) (fun _ _ _ h => h) (Or.inl ⟨by rfl, ?_⟩) (by assumption) ?_
    rotate_left 1
    · (intro w hSw; (try dsimp only at hSw); go_simp; try with_reducible rfl)
    try simp only [Act.put, List.setIfInBounds_toArray, List.set_cons_zero, List.set_cons_succ]
    refine takeL (i := 11) (v := ?_) rfl (by kernel_rfl) (by kernel_rfl) (by kernel_rfl) (fun _ _ _ h => h) (Or.inl ⟨by rfl, ?_⟩) (by assumption) ?_
    rotate_left 1
    · (intro w hSw; (try dsimp only at hSw); go_simp; try with_reducible rfl)
    try simp only [Act.put, List.setIfInBounds_toArray, List.set_cons_zero, List.set_cons_succ]
    refine takeL (i := 12) (v := ?_) rfl (by kernel_rfl) (by kernel_rfl) (by kernel_rfl) (fun _ _ _ h => h) (Or.inl ⟨by rfl, ?_⟩) (by assumption) ?_
    rotate_left 1
    · (intro w hSw; (try dsimp only at hSw); go_simp; try with_reducible rfl)
    try simp only [Act.put, List.setIfInBounds_toArray, List.set_cons_zero, List.set_cons_succ]
    refine takeL (i := 13) (v := ?_) rfl (by kernel_rfl) (by kernel_rfl) (by kernel_rfl) (fun _ _ _ h => h) (Or.inl ⟨by rfl, ?_⟩) (by assumption) ?_
    rotate_left 1
    · (intro w hSw; (try dsimp only at hSw); go_simp; try with_reducible rfl)
    try simp only [Act.put, List.setIfInBounds_toArray, List.set_cons_zero, List.set_cons_succ]
    refine takeL (i := 14) (v := ?_) rfl (by kernel_rfl) (by kernel_rfl) (by kernel_rfl) (fun _ _ _ h => h) (Or.inl ⟨by rfl, ?_⟩) (by assumption) ?_
    rotate_left 1
    · (intro w hSw; (try dsimp only at hSw); go_simp; try with_reducible rfl)
    try simp only [Act.put, List.setIfInBounds_toArray, List.set_cons_zero, List.set_cons_succ]
    refine takeL (i := 15) (v := ?_) rfl (by kernel_rfl) (by kernel_rfl) (by kernel_rfl) (fun _ _ _ h => h) (Or.inl ⟨by rfl, ?_⟩) (by assumption) ?_
    rotate_left 1
    · (intro w hSw; (try dsimp only at hSw); go_simp; try with_reducible rfl)
    try simp only [Act.put, List.setIfInBounds_toArray, List.set_cons_zero, List.set_cons_succ]
    refine takeL (i := 16) (v := ?_) rfl (by kernel_rfl) (by kernel_rfl) (by kernel_rfl) (fun _ _ _ h => h) (Or.inl ⟨by rfl, ?_⟩) (by assumption) ?_
    rotate_left 1
    · (intro w hSw; (try dsimp only at hSw); go_simp; try with_reducible rfl)
    try simp only [Act.put, List.setIfInBounds_toArray, List.set_cons_zero, List.set_cons_succ]
    refine takeL (i := 17) (v := ?_) rfl (by kernel_rfl) (by kernel_rfl) (by kernel_rfl) (fun _ _ _ h => h) (Or.inl ⟨by rfl, ?_⟩) (by assumption) ?_
    rotate_left 1
    · (intro w hSw; (try dsimp only at hSw); go_simp; try with_reducible rfl)
    try simp only [Act.put, List.setIfInBounds_toArray, List.set_cons_zero, List.set_cons_succ]
    refine takeL (i := 18) (v := ?_) rfl (by kernel_rfl) (by kernel_rfl) (by kernel_rfl) (fun _ _ _ h => h) (Or.inl ⟨by rfl, ?_⟩) (by assumption) ?_
    rotate_left 1
    · (intro w hSw; (try dsimp only at hSw); go_simp; try with_reducible rfl)
    try simp only [Act.put, List.setIfInBounds_toArray, List.set_cons_zero, List.set_cons_succ]
    refine takeL (i := 19) (v := ?_) rfl (by kernel_rfl) (by kernel_rfl) (by kernel_rfl) (fun _ _ _ h => h) (Or.inl ⟨by rfl, ?_⟩) (by assumption) ?_
    rotate_left 1
    · (intro w hSw; (try dsimp only at hSw); go_simp; try with_reducible rfl)
    try simp only [Act.put, List.setIfInBounds_toArray, List.set_cons_zero, List.set_cons_succ]
    refine takeL (i := 20) (v := ?_) rfl (by kernel_rfl) (by kernel_rfl) (by kernel_rfl) (fun _ _ _ h => h) (Or.inl ⟨by rfl, ?_⟩) (by assumption) ?_
    rotate_left 1
    · (intro w hSw; (try dsimp only at hSw); go_simp; try with_reducible rfl)
    try simp only [Act.put, List.setIfInBounds_toArray, List.set_cons_zero, List.set_cons_succ]
    refine takeL (i := 21) (v := ?_) rfl (by kernel_rfl) (by kernel_rfl) (by kernel_rfl) (fun _ _ _ h => h) (Or.inl ⟨by rfl, ?_⟩) (by assumption) ?_
    rotate_left 1
    · (intro w hSw; (try dsimp only at hSw); go_simp; try with_reducible rfl)
    try simp only [Act.put, List.setIfInBounds_toArray, List.set_cons_zero, List.set_cons_succ]
    refine takeL (i := 22) (v := ?_) rfl (by kernel_rfl) (by kernel_rfl) (by kernel_rfl) (fun _ _ _ h => h) (Or.inl ⟨by rfl, ?_⟩) (by assumption) ?_
    rotate_left 1
    · (intro w hSw; (try dsimp only at hSw); go_simp; try with_reducible rfl)
    try simp only [Act.put, List.setIfInBounds_toArray, List.set_cons_zero, List.set_cons_succ]
    refine takeL (i := 23) (v := ?_) rfl (by kernel_rfl) (by kernel_rfl) (by kernel_rfl) (fun _ _ _ h => h) (Or.inl ⟨by rfl, ?_⟩) (by assumption) ?_
    rotate_left 1
    · (intro w hSw; (try dsimp only at hSw); go_simp; try with_reducible rfl)
    try simp only [Act.put, List.setIfInBounds_toArray, List.set_cons_zero, List.set_cons_succ]
    refine takeL (i := 26) (v := ?_) rfl (by kernel_rfl) (by kernel_rfl) (by kernel_rfl) (fun _ _ _ h => h) (Or.inl ⟨by rfl, ?_⟩) (by assumption) ?_
    rotate_left 1
    · (intro w hSw; (try dsimp only at hSw); go_simp; try with_reducible rfl)
    try simp only [Act.put, List.setIfInBounds_toArray, List.set_cons_zero, List.set_cons_succ]
    refine takeL (i := 27) (v := ?_) rfl (by kernel_rfl) (by kernel_rfl) (by kernel_rfl) (fun _ _ _ h => h) (Or.inl ⟨by rfl, ?_⟩) (by assumption) ?_
    rotate_left 1
    · (intro w hSw; (try dsimp only at hSw); go_simp; try with_reducible rfl)
    try simp only [Act.put, List.setIfInBounds_toArray, List.set_cons_zero, List.set_cons_succ]
    refine takeL (i := 28) (v := ?_) rfl (by kernel_rfl) (by kernel_rfl) (by kernel_rfl) (fun _ _ _ h => h) (Or.inl ⟨by rfl, ?_⟩) (by assumption) ?_
    rotate_left 1
    · (intro w hSw; (try dsimp only at hSw); go_simp; try with_reducible rfl)
    try simp only [Act.put, List.setIfInBounds_toArray, List.set_cons_zero, List.set_cons_succ]
    refine takeL (i := 29) (v := ?_) rfl (by kernel_rfl) (by kernel_rfl) (by kernel_rfl) (fun _ _ _ h => h) (Or.inl ⟨by rfl, ?_⟩) (by assumption) ?_
    rotate_left 1
    · (intro w hSw; (try dsimp only at hSw); go_simp; try with_reducible rfl)
    try simp only [Act.put, List.setIfInBounds_toArray, List.set_cons_zero, List.set_cons_succ]
    refine takeL (i := 30) (v := ?_) rfl (by kernel_rfl) (by kernel_rfl) (by kernel_rfl) (fun _ _ _ h => h) (Or.inl ⟨by rfl, ?_⟩) (by assumption) ?_
    rotate_left 1
    · (intro w hSw; (try dsimp only at hSw); go_simp; try with_reducible rfl)
    try simp only [Act.put, List.setIfInBounds_toArray, List.set_cons_zero, List.set_cons_succ]
    refine takeL (i := 33) (v := ?_) rfl (by kernel_rfl) (by kernel_rfl) (by kernel_rfl) (fun _ _ _ h => h) (Or.inl ⟨by rfl, ?_⟩) (by assumption) ?_
    rotate_left 1
    · (intro w hSw; (try dsimp only at hSw); go_simp; try with_reducible rfl)
    try simp only [Act.put, List.setIfInBounds_toArray, List.set_cons_zero, List.set_cons_succ]
    refine oneL (i := 2) rfl (by kernel_rfl) (fun K hK => ?_)
    go_simp
    go_at_call 47
    refine (add1_any B1 29 cb1 pj).mono ?_
    rintro e w3 ⟨b1, rfl, -, hrow, hb⟩
    have HB3 : Hid (Below w2.heap.size w2 w3) := (below_drewN' (Below.refl w2.heap.size w2) 1).trans hb
    have HRW1 := Lib.hid hrow
    clear hrow hb
    (try go_wp2_with fail)
    refine hK.out _ _ ?_ (fun hHeld => ?_)
    · exact KEEP.out _ HB3.out
    clear hK K
    try simp only [Act.put, List.setIfInBounds_toArray, List.set_cons_zero, List.set_cons_succ]
    refine oneL (i := 10) rfl (by kernel_rfl) (fun K hK => ?_)
    go_simp
    go_at_call 47
    refine (add1_any A m c pj).mono ?_
    rintro e w4 ⟨b2, rfl, -, hrow, hb⟩
    have HB4 : Hid (Below w2.heap.size w2 w4) := HB3.out.trans (hb.mono HB3.out.size)
    have HRW2 := Lib.hid (And.intro hrow (below_row hb HRW1.out HRW1.out.lt))
    clear hrow hb
    (try go_wp2_with fail)
    refine hK.out _ _ ?_ (fun hHeld => ?_)
    · exact KEEP.out _ HB4.out
    clear hK K
    try simp only [Act.put, List.setIfInBounds_toArray, List.set_cons_zero, List.set_cons_succ]
    refine oneL (i := 24) rfl (by kernel_rfl) (fun K hK => ?_)
    go_simp
    go_at_call 51
    refine (commit_any n1 B1 29 cb1 (headL n1 m) A m c b _ hk (headL_length _ _).symm (headL_length _ _) HM.out (by have := HBL.out; omega) (by exact HO1.out.below HB4.out) (by exact HR2.out.below HB4.out)).mono ?_
    rintro e w5 ⟨B2, cb2, rfl, hc2, ho2, hb⟩
    have HB5 : Hid (Below w2.heap.size w2 w5) := HB4.out.trans (hb.mono HB4.out.size)
    have HRW3 := Lib.hid (And.intro (below_row hb HRW2.out.1 HRW2.out.1.lt) (below_row hb HRW2.out.2 HRW2.out.2.lt))
    have HO2 := Lib.hid (Ow.rdW ho2)
    clear ho2 hb
    (try go_wp2_with fail)
    refine hK.out _ _ ?_ (fun hHeld => ?_)
    · exact KEEP.out _ HB5.out
    clear hK K
    try simp only [Act.put, List.setIfInBounds_toArray, List.set_cons_zero, List.set_cons_succ]
    refine oneL (i := 25) rfl (by kernel_rfl) (fun K hK => ?_)
    go_simp
    go_at_call 47
    refine (add1_any B2 25 cb2 pj).mono ?_
    rintro e w6 ⟨b3, rfl, -, hrow, hb⟩
    have HB6 : Hid (Below w2.heap.size w2 w6) := HB5.out.trans (hb.mono HB5.out.size)
    have HRW4 := Lib.hid (And.intro hrow (And.intro (below_row hb HRW3.out.1 HRW3.out.1.lt) (below_row hb HRW3.out.2 HRW3.out.2.lt)))
    have HO3 := Lib.hid (HO2.out.below hb)
    clear hrow hb
    (try go_wp2_with fail)
    refine hK.out _ _ ?_ (fun hHeld => ?_)
    · exact KEEP.out _ HB6.out
    clear hK K
    try simp only [Act.put, List.setIfInBounds_toArray, List.set_cons_zero, List.set_cons_succ]
    refine oneL (i := 31) rfl (by kernel_rfl) (fun K hK => ?_)
    go_simp
    (try go_wp2_with fail)
    refine hK.out _ _ ?_ (fun hHeld => ?_)
    · exact KEEP.out _ (HB6.out.alloc HB6.out.size _)
    clear hK K
    try simp only [Act.put, List.setIfInBounds_toArray, List.set_cons_zero, List.set_cons_succ]
    refine takeL (i := 32) (v := ?_) rfl (by kernel_rfl) (by kernel_rfl) (by kernel_rfl) (fun _ _ _ h => h) (Or.inl ⟨by rfl, ?_⟩) (by assumption) ?_
    rotate_left 1
    · (intro w hSw; (try dsimp only at hSw); go_simp; try with_reducible rfl)
    try simp only [Act.put, List.setIfInBounds_toArray, List.set_cons_zero, List.set_cons_succ]
    refine wpAnyH_done (by kernel_rfl) ?_ _
    go_wp2_with fail
    go_meet
    exact ⟨w6.heap.size, rfl, rfl, rfl, adds_new (below_row HB6.out HPJ2.out HPJ2.out.lt) HRW4.out.2.2 HRW4.out.2.1 HRW4.out.1 (headL_length _ _).symm HM.out (commitL_length _ _ _).symm (by omega) (by omega) (by omega) (HO1.out.below HB6.out) (HR2.out.below HB6.out) HO3.out, HB6.out.alloc HB6.out.size _⟩
  case rest =>
    obtain ⟨s, rfl, rfl, rfl, hst, hbx⟩ := hcut
    have hva := HV2.out.toB hbx
    have hjx := HJ2.out.below hbx
    have HST := Lib.hid hst
    have HJX := Lib.hid hjx
    obtain ⟨P, hP⟩ : ∃ P : Nat → DkS, P = fun k => runA (headL n1 m) b (commitL n1 (headL n1 m) b) k p := ⟨_, rfl⟩
    obtain ⟨R, hR⟩ : ∃ R : Nat → Int, R = fun k => (stepA (headL n1 m) b (commitL n1 (headL n1 m) b) k (P k)).1 := ⟨_, rfl⟩
    have hst0 : ∀ k, stepA (headL n1 m) b (commitL n1 (headL n1 m) b) k (P k) = (R k, P (k + 1)) := by intro k; rw [hR, hP]; rfl
    have hle : ∀ k, e0 ≤ (P k).now.length := by intro k; rw [hP]; exact Nat.le_trans he (run_le _ _ _ _ _)
    have hp0 : p = P 0 := by rw [hP]; rfl
    have hend : ∀ r p' n' e' br, ((∃ k, k < 6 ∧ (∀ i, i < k → R i = 0) ∧ R k = r ∧ r ≠ 0 ∧ p' = (backD (P (k + 1)) e0).2 ∧ n' = n ∧ e' = e0 ∧ br = decide ((backD (P (k + 1)) e0).1 ≠ 0)) ∨ ((∀ i, i < 6 → R i = 0) ∧ r = 0 ∧ p' = P 6 ∧ n' = n + 1 ∧ e' = e0 + (54 + b.length) ∧ br = false)) → AddOut (headL (n + 1) b.length) b (commitL (n + 1) (headL (n + 1) b.length) b) n e0 p r p' n' e' br := by
      intro r p' n' e' br h
      rw [hR, hP, HN1.out, HM.out] at h
      exact h
    have HEND := Lib.hid hend
    have HS0 := Lib.hid hst0
    have HLE := Lib.hid hle
    rw [hp0] at hva
    have HVA := Lib.hid hva
    clear hva hjx hst hbx hend hst0 hle hp0 hP hR
    go_wp2_with fail
    go_loopw [69] (fun v wr => ∃ k : Nat, k ≤ 6 ∧ v = .int .i64 k ∧ (∀ i, i < k → R i = 0) ∧ VAfter w gf gd nb ob K pre (P k) wr ∧ AddS wr pj gf gj s (stepA (headL n1 m) b (commitL n1 (headL n1 m) b)) ∧ Jo wr gj gf n e0 false) (fun v _ => 6 - (intOf v).toNat)
    case atStart => exact ⟨0, by omega, rfl, fun i hi => absurd hi (Nat.not_lt_zero _), HVA.out, HST.out, HJX.out⟩
    case round =>
      obtain ⟨k, hk6, rfl, hall, hva, hst, hjo⟩ := hrel
      have hva0 := hva
      obtain ⟨nb1, ob1, hf1, hn1, ho1, hg1⟩ := hva
      have HALL := Lib.hid hall
      have HF1 := Lib.hid hf1
      have HN1' := Lib.hid hn1
      have HO1' := Lib.hid ho1
      have HG1 := Lib.hid hg1
      have HVK := Lib.hid hva0
      have HST1 := Lib.hid hst
      have HJ1 := Lib.hid hjo
      clear HST HVA HJX
      by_cases hk : k < 6
      · have hsc := step_any hst hjo hf1 hk
        rw [HS0.out] at hsc
        have b1 : (k : Int) < 6 := by omega
        clear hall hf1 hn1 ho1 hg1 hst hjo hva0
        rcases hsc with ⟨g, hc, hcall⟩ | ⟨hc, hcall⟩
        · skip
          have HC := Lib.hid hcall
          clear hcall
          go_wp2_with fail
          refine HC.out.mono ?_
          clear HC
          rintro e w3 ⟨x, rfl, hx, hr⟩
          have hgr : wr.grownBy w3 (some gd) := by obtain ⟨_, _, _, _, _, hg⟩ := hx; exact hg
          have hx1 : x = R k := hr
          have HX1 := Lib.hid hx1
          have HVX : Hid (VAfter w gf gd nb ob K pre (P (k + 1)) w3) := VAfter.two HN1'.out HO1'.out HG1.out hx
          have HST3 := Lib.hid (HST1.out.grown HF1.out hgr)
          have HJ3 := Lib.hid (HJ1.out.grown HF1.out hgr)
          clear hx hr hgr hx1
          by_cases hx0 : x = 0
          · subst hx0
            go_wp2_with fail
            go_roundw
            case rel =>
              refine ⟨k + 1, by omega, by go_num, fun i hi => ?_, HVX.out, HST3.out, HJ3.out⟩
              rcases Nat.lt_or_ge i k with h | h
              · exact HALL.out i h
              · have : i = k := by omega
                subst this
                exact HX1.out.symm
            case measure => simp [intOf]; omega
          · have hxb : (x != 0) = true := by rw [bne_iff_ne]; exact hx0
            have HX0 := Lib.hid hx0
            obtain ⟨nb3, ob3, hf3, hn3, ho3, hg3⟩ := HVX.out
            have HF3 := Lib.hid hf3
            have HN3 := Lib.hid hn3
            have HO3 := Lib.hid ho3
            have HG3 := Lib.hid hg3
            have dpj := HST3.out.jp.cell (show 0 < 1 by omega)
            have HPL := Lib.hid (World.rowIs.lt HST3.out.jp)
            have hpg : pj ≠ gj := rows_apart HST3.out.jp HJ3.out (by decide)
            have hpd : pj ≠ gd := by obtain ⟨t, n', f, hrow, rfl⟩ := hf3.row; exact rows_apart HST3.out.jp hrow (by decide)
            have HPG := Lib.hid hpg
            have HPD := Lib.hid hpd
            have HD : Hid (Below w3.heap.size w3 w3.drew) := below_drewN' (Below.refl w3.heap.size w3) 1
            clear hx0 hf3 hn3 ho3 hg3 hpg hpd HVX
            go_wp2_with fail
            go_region_held3 (fun W => W.cell? ⟨pj, 0, none⟩ = some (.pointer (some ⟨gj, 0, none⟩)))
              (first
                | with_reducible exact dpj
                | with_reducible exact HS4.out
                | exact dpj
                | exact cell_ne_set HS4.out HPG.out)
              (first
                | (go_at_call 41; (refine (jback_any (HJ3.out.below HD.out) (HF3.out.below HD.out) (HLE.out (k + 1))).mono ?_); rintro e w4 ⟨y, rfl, hy, hry⟩
                   have hg4 : w3.drew.grownBy w4 (some gd) := by obtain ⟨_, _, _, _, _, hg⟩ := hy; exact hg
                   have hj4 : Jo w4 gj gf n e0 false := (HJ3.out.below HD.out).grown (HF3.out.below HD.out) hg4
                   have HS4 : Hid (w4.cell? ⟨pj, 0, none⟩ = some (.pointer (some ⟨gj, 0, none⟩))) := (grown_cell (p := ⟨pj, 0, none⟩) hg4 (by exact HPL.out) HPD.out).trans dpj
                   have f4 := hj4.frozen 3
                   have c4 := (hj4.c).2.2.2
                   have HJ4 := Lib.hid hj4
                   have HRY := Lib.hid hry
                   have HV4 : Hid (VAfter w gf gd nb ob K pre (backD (P (k + 1)) e0).2 w4) := VAfter.two HN3.out HO3.out HG3.out (VAfter.fromB HD.out hy)
                   clear hy hry hg4 hj4))
            all_goals
              go_wp2_with fail
              go_ret
              obtain ⟨nb4, ob4, hf4, hn4, ho4, hg4⟩ := HV4.out
              refine ⟨x, rfl, (backD (P (k + 1)) e0).2, n, e0, (y != 0), HEND.out _ _ _ _ _ (.inl ⟨k, hk, HALL.out, HX1.out.symm, HX0.out, rfl, rfl, rfl, ?_⟩), nb4, ob4, hf4.setJ HJ4.out (by omega) _, HJ4.out.setB _, hn4, ho4, (Twb.of hg4 gj).set 3 _⟩
              rw [HRY.out]
              exact bne_dec _
        · skip
          have HC := Lib.hid hcall
          clear hcall
          go_wp2_with fail
          refine HC.out.mono ?_
          clear HC
          rintro e w3 ⟨x, rfl, hx, hr⟩
          have hgr : wr.grownBy w3 (some gd) := by obtain ⟨_, _, _, _, _, hg⟩ := hx; exact hg
          have hx1 : x = R k := hr
          have HX1 := Lib.hid hx1
          have HVX : Hid (VAfter w gf gd nb ob K pre (P (k + 1)) w3) := VAfter.two HN1'.out HO1'.out HG1.out hx
          have HST3 := Lib.hid (HST1.out.grown HF1.out hgr)
          have HJ3 := Lib.hid (HJ1.out.grown HF1.out hgr)
          clear hx hr hgr hx1
          by_cases hx0 : x = 0
          · subst hx0
            go_wp2_with fail
            go_roundw
            case rel =>
              refine ⟨k + 1, by omega, by go_num, fun i hi => ?_, HVX.out, HST3.out, HJ3.out⟩
              rcases Nat.lt_or_ge i k with h | h
              · exact HALL.out i h
              · have : i = k := by omega
                subst this
                exact HX1.out.symm
            case measure => simp [intOf]; omega
          · have hxb : (x != 0) = true := by rw [bne_iff_ne]; exact hx0
            have HX0 := Lib.hid hx0
            obtain ⟨nb3, ob3, hf3, hn3, ho3, hg3⟩ := HVX.out
            have HF3 := Lib.hid hf3
            have HN3 := Lib.hid hn3
            have HO3 := Lib.hid ho3
            have HG3 := Lib.hid hg3
            have dpj := HST3.out.jp.cell (show 0 < 1 by omega)
            have HPL := Lib.hid (World.rowIs.lt HST3.out.jp)
            have hpg : pj ≠ gj := rows_apart HST3.out.jp HJ3.out (by decide)
            have hpd : pj ≠ gd := by obtain ⟨t, n', f, hrow, rfl⟩ := hf3.row; exact rows_apart HST3.out.jp hrow (by decide)
            have HPG := Lib.hid hpg
            have HPD := Lib.hid hpd
            have HD : Hid (Below w3.heap.size w3 w3.drew) := below_drewN' (Below.refl w3.heap.size w3) 1
            clear hx0 hf3 hn3 ho3 hg3 hpg hpd HVX
            go_wp2_with fail
            go_region_held3 (fun W => W.cell? ⟨pj, 0, none⟩ = some (.pointer (some ⟨gj, 0, none⟩)))
              (first
                | with_reducible exact dpj
                | with_reducible exact HS4.out
                | exact dpj
                | exact cell_ne_set HS4.out HPG.out)
              (first
                | (go_at_call 41; (refine (jback_any (HJ3.out.below HD.out) (HF3.out.below HD.out) (HLE.out (k + 1))).mono ?_); rintro e w4 ⟨y, rfl, hy, hry⟩
                   have hg4 : w3.drew.grownBy w4 (some gd) := by obtain ⟨_, _, _, _, _, hg⟩ := hy; exact hg
                   have hj4 : Jo w4 gj gf n e0 false := (HJ3.out.below HD.out).grown (HF3.out.below HD.out) hg4
                   have HS4 : Hid (w4.cell? ⟨pj, 0, none⟩ = some (.pointer (some ⟨gj, 0, none⟩))) := (grown_cell (p := ⟨pj, 0, none⟩) hg4 (by exact HPL.out) HPD.out).trans dpj
                   have f4 := hj4.frozen 3
                   have c4 := (hj4.c).2.2.2
                   have HJ4 := Lib.hid hj4
                   have HRY := Lib.hid hry
                   have HV4 : Hid (VAfter w gf gd nb ob K pre (backD (P (k + 1)) e0).2 w4) := VAfter.two HN3.out HO3.out HG3.out (VAfter.fromB HD.out hy)
                   clear hy hry hg4 hj4))
            all_goals
              go_wp2_with fail
              go_ret
              obtain ⟨nb4, ob4, hf4, hn4, ho4, hg4⟩ := HV4.out
              refine ⟨x, rfl, (backD (P (k + 1)) e0).2, n, e0, (y != 0), HEND.out _ _ _ _ _ (.inl ⟨k, hk, HALL.out, HX1.out.symm, HX0.out, rfl, rfl, rfl, ?_⟩), nb4, ob4, hf4.setJ HJ4.out (by omega) _, HJ4.out.setB _, hn4, ho4, (Twb.of hg4 gj).set 3 _⟩
              rw [HRY.out]
              exact bne_dec _
      · obtain rfl : k = 6 := by omega
        obtain ⟨c0, c1, c2, c3⟩ := hjo.c
        have f1 := hjo.frozen 1
        have dpj := hst.jp.cell (show 0 < 1 by omega)
        have hpg : pj ≠ gj := rows_apart hst.jp hjo (by decide)
        obtain ⟨e1, he1⟩ : ∃ e1, e1 = e0 + (54 + m) := ⟨_, rfl⟩
        have hel := H.out.len
        have k3 : IntKind.i64.wrap ((e0 : Int) + (54 + m : Nat)) = (e1 : Int) := by rw [IntKind.wrap_i64]; omega
        have HE1 := Lib.hid he1
        obtain ⟨m54, hm54⟩ : ∃ x, x = 54 + m := ⟨_, rfl⟩
        rw [← hm54] at k3
        have hsz : ∀ W, Calls Tryz.prog 40 #[.slice A m c] W fun e w' => e = .returned (.int .i64 (m54 : Nat)) ∧ W = w' := by
          intro W
          rw [hm54]
          exact size1_any A m c W (by omega)
        have HSZ := Lib.hid hsz
        clear hall hf1 hn1 ho1 hg1 hst hjo hva0 he1 hel hm54 hsz
        go_upto_region 20 with fail
        have hj7 := HJ1.out.setN n1
        have hf7 := HF1.out.setJ HJ1.out (show 1 < 4 by omega) (.int .i64 (n1 : Nat))
        have ht7 : Twb w (wr.setCell ⟨gj, 1, none⟩ (.int .i64 (n1 : Nat))) gd gj := (Twb.of HG1.out gj).set 1 _
        have dp7 : (wr.setCell ⟨gj, 1, none⟩ (.int .i64 (n1 : Nat))).cell? ⟨pj, 0, none⟩ = some (.pointer (some ⟨gj, 0, none⟩)) := cell_ne_set dpj hpg
        generalize wr.setCell ⟨gj, 1, none⟩ (.int .i64 (n1 : Nat)) = w7 at *
        obtain ⟨-, -, d2, -⟩ := hj7.c
        have f2 := hj7.frozen 2
        have HJ7 := Lib.hid hj7
        have HF7 := Lib.hid hf7
        have HT7 := Lib.hid ht7
        clear c0 c1 c2 c3 f1 dpj hj7 hf7 ht7
        go_region_with (first
          | (go_at_call 40; (refine (HSZ.out _).mono ?_); rintro e w' ⟨rfl, rfl⟩))
        all_goals
          go_wp2_with fail
          go_ret
          refine ⟨0, rfl, P 6, n1, e1, false, HEND.out _ _ _ _ _ (.inr ⟨HALL.out, rfl, rfl, HN1.out, ?_, rfl⟩), nb1, ob1, ?_, ?_, HN1'.out, HO1'.out, ?_⟩
          · rw [HE1.out, HM.out]
          · exact (HF7.out.setJ HJ7.out (show 2 < 4 by omega) (.int .i64 (e1 : Nat))).below (below_drewN' (Below.refl _ _) 1)
          · exact (HJ7.out.setE e1).below (below_drewN' (Below.refl _ _) 1)
          · exact (HT7.out.set 2 (.int .i64 (e1 : Nat))).drew
end
end Go.Proofs.YtlhbijpmhokmnaaGreat
