/-
  A FILE SEEN AS A PLAIN DISK, encrypted or not: what its calls do. Conditions: it lies in memory.
  THE WALKS OF journal's none, made, Len, Size, Broken, size, back, Create. Conditions: a file that is a plain disk, or none.
-/
import Derived.Test.YtlhbijpmhokmnaaGreatQ29
import Derived.Test.YtlhbijpmhokmnaaGreatQ19
namespace Go.Proofs.YtlhbijpmhokmnaaGreat
open Go.RowKit
set_option linter.unusedSimpArgs false
set_option linter.unusedVariables false

theorem f_nth_drop (l : List Nat) (a j : Nat) : nth (l.drop a) j = nth l (a + j) := by simp [nth, List.getElem?_drop]
theorem f_nth_take (l : List Nat) (a j : Nat) (h : j < a) : nth (l.take a) j = nth l j := by simp [nth, List.getElem?_take, h]
theorem f_nth_left (a b : List Nat) (j : Nat) (h : j < a.length) : nth (a ++ b) j = nth a j := by
  unfold nth
  rw [List.getD_eq_getElem?_getD, List.getD_eq_getElem?_getD, List.getElem?_append_left h]
theorem f_nth_right (a b : List Nat) (j : Nat) : nth (a ++ b) (a.length + j) = nth b j := by
  unfold nth
  rw [List.getD_eq_getElem?_getD, List.getD_eq_getElem?_getD, List.getElem?_append_right (by omega), show a.length + j - a.length = j by omega]
theorem f_nth_turned {kb : Nat → Nat} {nc : List Nat} {a : Nat} {b : List Nat} {i : Nat} (hi : i < b.length) : nth (turned kb nc a b) i = nth (ctrB kb nc ((a + i) / 16)) ((a + i) % 16) ^^^ nth b i := by
  rw [nth_turned hi, nth_strm hi]
theorem f_turned_append (kb : Nat → Nat) (nc : List Nat) (a : Nat) (x y : List Nat) : turned kb nc a (x ++ y) = turned kb nc a x ++ turned kb nc (a + x.length) y := by
  refine eq_of_nth (by simp [turned_length]) fun i hi => ?_
  rw [turned_length, List.length_append] at hi
  rw [f_nth_turned (by rw [List.length_append]; exact hi)]
  by_cases h : i < x.length
  · rw [f_nth_left (turned kb nc a x) _ _ (by rw [turned_length]; exact h), f_nth_turned h, f_nth_left x _ _ h]
  · obtain ⟨j, rfl⟩ : ∃ j, i = x.length + j := ⟨i - x.length, by omega⟩
    have e := f_nth_right (turned kb nc a x) (turned kb nc (a + x.length) y) j
    rw [turned_length] at e
    rw [e, f_nth_turned (by omega), f_nth_right, Nat.add_assoc]
theorem f_turned_take (kb : Nat → Nat) (nc : List Nat) (a n : Nat) (b : List Nat) : (turned kb nc a b).take n = turned kb nc a (b.take n) := by
  refine eq_of_nth (by simp [turned_length]) fun i hi => ?_
  rw [List.length_take, turned_length] at hi
  rw [f_nth_take _ _ _ (by omega), f_nth_turned (by omega), f_nth_turned (by rw [List.length_take]; omega), f_nth_take _ _ _ (by omega)]
theorem f_turned_drop (kb : Nat → Nat) (nc : List Nat) (a n : Nat) (b : List Nat) : (turned kb nc a b).drop n = turned kb nc (a + n) (b.drop n) := by
  refine eq_of_nth (by simp [turned_length]) fun i hi => ?_
  rw [List.length_drop, turned_length] at hi
  rw [f_nth_drop, f_nth_turned (by omega), f_nth_turned (by rw [List.length_drop]; omega), f_nth_drop, Nat.add_assoc]
theorem f_turned_nil (kb : Nat → Nat) (nc : List Nat) (a : Nat) : turned kb nc a [] = [] := List.eq_nil_of_length_eq_zero (turned_length _ _ _ _)
theorem f_turned_back (kb : Nat → Nat) (nc : List Nat) (a : Nat) (b : List Nat) : turned kb nc a (turned kb nc a b) = b := by
  refine eq_of_nth (by simp [turned_length]) fun i hi => ?_
  rw [turned_length, turned_length] at hi
  rw [f_nth_turned (by rw [turned_length]; exact hi), f_nth_turned hi, ← Nat.xor_assoc, Nat.xor_self, Nat.zero_xor]
theorem f_ctrT {kb : Nat → Nat} {nc : List Nat} (h8 : nc.length = 8) (a : Nat) (b : List Nat) (ha : a ≤ 1099511627776) (hb : b.length ≤ 4194304) : ctrT kb nc (a : Int) b = turned kb nc a b := by
  unfold ctrT
  rw [if_pos ⟨h8, by omega, by omega, by omega, by omega⟩]
  rfl

/-- What a file's bytes lie as. -/
def encA (K : TurnK) (a : Nat) (l : List Nat) : List Nat := match K with
  | none => l
  | some (kb, nc) => turned kb nc a l
def KOk (K : TurnK) : Prop := match K with
  | none => True
  | some (_, nc) => nc.length = 8
theorem encA_length (K : TurnK) (a : Nat) (l : List Nat) : (encA K a l).length = l.length := by
  cases K with
  | none => rfl
  | some x => exact turned_length _ _ _ _
theorem encA_append (K : TurnK) (a : Nat) (x y : List Nat) : encA K a (x ++ y) = encA K a x ++ encA K (a + x.length) y := by
  cases K with
  | none => rfl
  | some z => exact f_turned_append _ _ _ _ _
theorem encA_take (K : TurnK) (a n : Nat) (l : List Nat) : (encA K a l).take n = encA K a (l.take n) := by
  cases K with
  | none => rfl
  | some z => exact f_turned_take _ _ _ _ _
theorem encA_drop (K : TurnK) (a n : Nat) (l : List Nat) : (encA K a l).drop n = encA K (a + n) (l.drop n) := by
  cases K with
  | none => rfl
  | some z => exact f_turned_drop _ _ _ _ _
theorem encA_back (K : TurnK) (a : Nat) (l : List Nat) : encA K a (encA K a l) = l := by
  cases K with
  | none => rfl
  | some z => exact f_turned_back _ _ _ _
theorem encA_nil (K : TurnK) (a : Nat) : encA K a [] = [] := List.eq_nil_of_length_eq_zero (encA_length _ _ _)
theorem turnK_enc {K : TurnK} (hK : KOk K) (a : Nat) (b : List Nat) (ha : a ≤ 1099511627776) (hb : b.length ≤ 4194304) : turnK K (a : Int) b = encA K a b := by
  cases K with
  | none => rfl
  | some x => exact f_ctrT hK a b ha hb
/-- A disk under a file, and the plain one that the file is. -/
structure As (K : TurnK) (pre : List Nat) (d p : DkS) : Prop where
  ok : KOk K
  len : pre.length = fromK K
  most : d.most = fromK K + p.most
  now : d.now = pre ++ encA K (fromK K) p.now
  old : d.old = pre ++ encA K (fromK K) p.old
  floor : d.floor = fromK K + p.floor
  fl : p.floor ≤ p.now.length
  down : d.down = p.down
  armed : d.armed = p.armed
  fails : d.fails = p.fails
  err : d.err = p.err
section
variable {K : TurnK} {pre : List Nat} {d p : DkS}
theorem As.size (h : As K pre d p) : d.now.length = fromK K + p.now.length := by rw [h.now, List.length_append, encA_length, h.len]
theorem As.pre' (h : As K pre d p) : d.pre.1 = p.pre.1 ∧ As K pre d.pre.2 p.pre.2 := by
  obtain ⟨h0, h00, h1, h3, h4, h5, h6, h7, h8, h9, h10⟩ := h
  unfold DkS.pre
  rw [h7, h8, h9, h10]
  repeat' split
  all_goals (refine ⟨rfl, ⟨?_, ?_, ?_, ?_, ?_, ?_, ?_, ?_, ?_, ?_, ?_⟩⟩ <;> first | rfl | assumption)
theorem As.op (h : As K pre d p) (F G : DkS → Int × DkS) (hFG : ∀ d' p', As K pre d' p' → d'.now = d.now → p'.now = p.now → (F d').1 = (G p').1 ∧ As K pre (F d').2 (G p').2) : (d.op F).1 = (p.op G).1 ∧ As K pre (d.op F).2 (p.op G).2 := by
  obtain ⟨h1, h2⟩ := h.pre'
  have k1 := d.pre_keeps.2.1
  have k2 := p.pre_keeps.2.1
  unfold DkS.op
  cases hd : d.pre with
  | mk x d' =>
    cases hp : p.pre with
    | mk y p' =>
      rw [hd, hp] at h1 h2
      rw [hd] at k1
      rw [hp] at k2
      have h1 : x = y := h1
      subst h1
      cases x with
      | none => exact hFG d' p' h2 k1 k2
      | some e => exact ⟨rfl, h2⟩
theorem As.append (h : As K pre d p) (m : List Nat) : (d.append (encA K d.now.length m)).1 = (p.append m).1 ∧ As K pre (d.append (encA K d.now.length m)).2 (p.append m).2 := by
  unfold DkS.append
  refine h.op _ _ fun d' p' h' k1 k2 => ?_
  have l1 := h'.size
  have e1 := h'.most
  rw [← k1, encA_length]
  by_cases hc : p'.most < p'.now.length + m.length
  · rw [if_pos hc, if_pos (show d'.most < d'.now.length + m.length by omega)]
    exact ⟨rfl, h'⟩
  · rw [if_neg hc, if_neg (show ¬ d'.most < d'.now.length + m.length by omega), l1]
    refine ⟨rfl, h'.ok, h'.len, h'.most, ?_, h'.old, h'.floor, ?_, h'.down, h'.armed, h'.fails, h'.err⟩
    · show d'.now ++ encA K (fromK K + p'.now.length) m = pre ++ encA K (fromK K) (p'.now ++ m)
      rw [encA_append, h'.now, List.append_assoc]
    · show p'.floor ≤ (p'.now ++ m).length
      rw [List.length_append]
      have := h'.fl
      omega
theorem As.sync (h : As K pre d p) : d.sync.1 = p.sync.1 ∧ As K pre d.sync.2 p.sync.2 := by
  unfold DkS.sync
  refine h.op _ _ fun d' p' h' k1 k2 => ?_
  exact ⟨rfl, h'.ok, h'.len, h'.most, h'.now, h'.now, h'.size, Nat.le_refl _, h'.down, h'.armed, h'.fails, h'.err⟩
/-- A cut, to where it may be. -/
def DkS.cut (d : DkS) (n : Nat) : Int × DkS := d.op fun d => ((0 : Int), { d with now := d.now.take n, floor := min d.floor n })
theorem As.cut (h : As K pre d p) (n : Nat) (hn : n ≤ p.now.length) : (d.cut (fromK K + n)).1 = (p.cut n).1 ∧ As K pre (d.cut (fromK K + n)).2 (p.cut n).2 := by
  unfold DkS.cut
  refine h.op _ _ fun d' p' h' k1 k2 => ?_
  refine ⟨rfl, h'.ok, h'.len, h'.most, ?_, h'.old, ?_, ?_, h'.down, h'.armed, h'.fails, h'.err⟩
  · show d'.now.take (fromK K + n) = pre ++ encA K (fromK K) (p'.now.take n)
    rw [h'.now, List.take_append, h'.len, List.take_of_length_le (by rw [h'.len]; omega), show fromK K + n - fromK K = n by omega, encA_take]
  · show min d'.floor (fromK K + n) = fromK K + min p'.floor n
    rw [h'.floor]; omega
  · show min p'.floor n ≤ (p'.now.take n).length
    rw [List.length_take, k2]; omega
theorem As.opn (h : As K pre d p) : (d.op fun d => ((0 : Int), d)).1 = (p.op fun d => ((0 : Int), d)).1 := (h.op (fun d => ((0 : Int), d)) (fun d => ((0 : Int), d)) fun d' p' h' _ _ => ⟨rfl, h'⟩).1
theorem As.read (h : As K pre d p) (a n : Nat) : encA K (fromK K + a) (readL d (fromK K + a) n) = readL p a n := by
  unfold Go.Proofs.YtlhbijpmhokmnaaGreat.readL
  rw [h.pre'.1]
  split
  · rw [h.now, List.drop_append, h.len, List.drop_of_length_le (by rw [h.len]; omega), List.nil_append, show fromK K + a - fromK K = a by omega, encA_drop, encA_take, encA_back]
  · exact encA_nil _ _
end
/-- A file over a disk: the plain disk that it is. -/
structure Fv (w : World) (gf gd : Nat) (nb ob : Option Nat) (K : TurnK) (pre : List Nat) (p : DkS) : Prop where
  ex : ∃ d, Fl w gf gd nb ob d K ∧ As K pre d p
def VAfter (w : World) (gf gd : Nat) (nb ob : Option Nat) (K : TurnK) (pre : List Nat) (p : DkS) (w' : World) : Prop :=
  ∃ nb' ob', Fv w' gf gd nb' ob' K pre p ∧ (New w nb nb' ∨ New w ob nb') ∧ (New w nb ob' ∨ New w ob ob') ∧ w.grownBy w' (some gd)
section
variable {w w' : World} {gf gd : Nat} {nb ob : Option Nat} {K : TurnK} {pre : List Nat} {p : DkS}
theorem Fv.below (h : Fv w gf gd nb ob K pre p) (hb : Below w.heap.size w w') : Fv w' gf gd nb ob K pre p := by
  obtain ⟨d, h1, h2⟩ := h.ex
  exact ⟨d, h1.below hb, h2⟩
theorem Fv.len (h : Fv w gf gd nb ob K pre p) : p.now.length ≤ p.most ∧ p.old.length ≤ p.most ∧ p.most ≤ 4194304 := by
  obtain ⟨d, h1, h2⟩ := h.ex
  have a := h1.dk.wf.now
  have b := h1.dk.wf.old
  have c := h1.dk.wf.most
  have e := h2.size
  have f := h2.most
  have g : d.old.length = fromK K + p.old.length := by rw [h2.old, List.length_append, encA_length, h2.len]
  exact ⟨by omega, by omega, by omega⟩
theorem Fv.rd (h : Fv w gf gd nb ob K pre p) {A : Option Addr} {m : List Nat} (hr : Rd w A m) (hg : w.grownBy w' (some gd)) : Rd w' A m := by
  obtain ⟨d, h1, h2⟩ := h.ex
  exact h1.dk.rd hr hg
theorem Fv.lt (h : Fv w gf gd nb ob K pre p) : gd < w.heap.size := by
  obtain ⟨d, h1, h2⟩ := h.ex
  exact h1.dk.lt
theorem vsize_any (h : Fv w gf gd nb ob K pre p) : Calls Tryz.prog 36 #[.pointer (some ⟨gf, 0, none⟩)] w fun e w' => e = .returned (.int .i64 p.now.length) ∧ Below w.heap.size w w' := by
  obtain ⟨d, h1, h2⟩ := h.ex
  have := fsize_any h1
  rw [h2.size, show fromK K + p.now.length - fromK K = p.now.length by omega] at this
  exact this
theorem vappend_any (h : Fv w gf gd nb ob K pre p) (A : Option Addr) (n c : Nat) (b : List Nat) (hn : n = b.length) (hb : b.length ≤ 4194304) (hr : Rd w A b) :
    Calls Tryz.prog 49 #[.pointer (some ⟨gf, 0, none⟩), .slice A n c] w (Ret fun r w' => VAfter w gf gd nb ob K pre (p.append b).2 w' ∧ r = (p.append b).1) := by
  obtain ⟨d, h1, h2⟩ := h.ex
  refine (fappend_any h1 A n c b hn (by omega) hr).mono ?_
  have e : turnK K (d.now.length : Nat) b = encA K d.now.length b := turnK_enc h2.ok _ _ (by have := h1.dk.wf.now; have := h1.dk.wf.most; omega) hb
  rw [e]
  rintro e w' ⟨r, rfl, ⟨nb', ob', q1, q2, q3, q4⟩, hr⟩
  have hq := h2.append b
  exact ⟨r, rfl, ⟨nb', ob', ⟨_, h1.after q1 q4, hq.2⟩, q2, q3, q4⟩, hr.trans hq.1⟩
theorem vsync_any (h : Fv w gf gd nb ob K pre p) :
    Calls Tryz.prog 50 #[.pointer (some ⟨gf, 0, none⟩)] w (Ret fun r w' => VAfter w gf gd nb ob K pre p.sync.2 w' ∧ r = p.sync.1) := by
  obtain ⟨d, h1, h2⟩ := h.ex
  refine (fsync_any h1).mono ?_
  rintro e w' ⟨r, rfl, ⟨nb', ob', q1, q2, q3, q4⟩, hr⟩
  exact ⟨r, rfl, ⟨nb', ob', ⟨_, h1.after q1 q4, h2.sync.2⟩, q2, q3, q4⟩, hr.trans h2.sync.1⟩
theorem vcut_any (h : Fv w gf gd nb ob K pre p) (n : Nat) (hn : n ≤ p.now.length) :
    Calls Tryz.prog 53 #[.pointer (some ⟨gf, 0, none⟩), .int .i64 n] w (Ret fun r w' => VAfter w gf gd nb ob K pre (p.cut n).2 w' ∧ r = (p.cut n).1) := by
  obtain ⟨d, h1, h2⟩ := h.ex
  refine (ftrunc_any h1 n (by rw [h2.size]; omega)).mono ?_
  rintro e w' ⟨r, rfl, ⟨nb', ob', q1, q2, q3, q4⟩, hr⟩
  exact ⟨r, rfl, ⟨nb', ob', ⟨_, h1.after q1 q4, (h2.cut n hn).2⟩, q2, q3, q4⟩, hr.trans (h2.cut n hn).1⟩
theorem vcut_neg (h : Fv w gf gd nb ob K pre p) :
    Calls Tryz.prog 53 #[.pointer (some ⟨gf, 0, none⟩), .int .i64 (-1)] w fun e w' => e = .returned (.int .i64 2) ∧ Below w.heap.size w w' := by
  obtain ⟨d, h1, h2⟩ := h.ex
  exact ftrunc_no h1 (-1) (.inl (by omega))
/-- All of it read. -/
theorem vread_any (h : Fv w gf gd nb ob K pre p) (n : Nat) (hn : n = p.now.length) :
    Calls Tryz.prog 35 #[.pointer (some ⟨gf, 0, none⟩), .int .i64 0, .int .i64 n] w fun e w' => ∃ A c L, e = .returned (.tuple #[.slice A L.length c, .int .i64 (p.op fun d => ((0 : Int), d)).1]) ∧ Rd w' A L ∧ ((p.op fun d => ((0 : Int), d)).1 = 0 → L = readL p 0 n) ∧ ((p.op fun d => ((0 : Int), d)).1 ≠ 0 → L = []) ∧
      Fv w' gf gd nb ob K pre p.pre.2 ∧ w.grownBy w' (some gd) ∧ L.length ≤ c := by
  obtain ⟨d, h1, h2⟩ := h.ex
  have hlm := h.len
  refine (fread2_any h1 0 n (by rw [h2.size]; omega)).mono ?_
  rw [h2.opn]
  rintro e w' ⟨A, c, L, rfl, q1, q2, q3, q4, q5, q6⟩
  refine ⟨A, c, L, rfl, q1, fun e => ?_, q3, ⟨_, h1.after q4 q5, h2.pre'.2⟩, q5, q6⟩
  have hl : (readL d (fromK K + 0) n).length ≤ 4194304 := by
    unfold readL
    split
    · rw [List.length_take]; omega
    · simp
  rw [q2 e, turnK_enc h2.ok _ _ (by have := fromK_le K; omega) hl, h2.read]
end
end Go.Proofs.YtlhbijpmhokmnaaGreat
namespace Go.Proofs.YtlhbijpmhokmnaaGreat
open Go.RowKit
set_option linter.unusedSimpArgs false
set_option linter.unusedVariables false

/-- A journal in memory. -/
def joC (gf n e : Nat) (br : Bool) : Nat → Value
  | 0 => .pointer (some ⟨gf, 0, none⟩)
  | 1 => .int .i64 n
  | 2 => .int .i64 e
  | _ => .bool br
def Jo (w : World) (gj gf n e : Nat) (br : Bool) : Prop := w.rowIs gj 70 4 (joC gf n e br)
/-- No journal: nil, or one whose file is nil. -/
def NoJ (w : World) (v : Value) : Prop := v = .pointer none ∨ ∃ gj, v = .pointer (some ⟨gj, 0, none⟩) ∧ w.cell? ⟨gj, 0, none⟩ = some (.pointer none)
section
variable {w w' : World} {gj gf gd n e : Nat} {br : Bool} {nb ob : Option Nat} {K : TurnK} {pre : List Nat} {p : DkS}
theorem Jo.below (h : Jo w gj gf n e br) (hb : Below w.heap.size w w') : Jo w' gj gf n e br := below_row hb h h.lt
theorem Fv.row (h : Fv w gf gd nb ob K pre p) : ∃ t n f, w.rowIs gd t n f ∧ t = 63 := by
  obtain ⟨d, h1, h2⟩ := h.ex
  obtain ⟨nv, ov, hr, _⟩ := h1.dk.lies
  exact ⟨_, _, _, hr, rfl⟩
theorem Jo.ne (h : Jo w gj gf n e br) (hf : Fv w gf gd nb ob K pre p) : gj ≠ gd := by
  obtain ⟨t, n', f, hr, rfl⟩ := hf.row
  exact rows_apart h hr (by decide)
theorem Jo.grown (h : Jo w gj gf n e br) (hf : Fv w gf gd nb ob K pre p) (hg : w.grownBy w' (some gd)) : Jo w' gj gf n e br := grown_row hg h (h.ne hf)
theorem Jo.c (h : Jo w gj gf n e br) : w.cell? ⟨gj, 0, none⟩ = some (.pointer (some ⟨gf, 0, none⟩)) ∧ w.cell? ⟨gj, 1, none⟩ = some (.int .i64 n) ∧ w.cell? ⟨gj, 2, none⟩ = some (.int .i64 e) ∧ w.cell? ⟨gj, 3, none⟩ = some (.bool br) :=
  ⟨h.cell (by omega), h.cell (by omega), h.cell (by omega), h.cell (by omega)⟩
theorem VAfter.two {w w1 w2 : World} {nb1 ob1 : Option Nat} {p2 : DkS} (hn : New w nb nb1 ∨ New w ob nb1) (ho : New w nb ob1 ∨ New w ob ob1) (hg : w.grownBy w1 (some gd)) (h : VAfter w1 gf gd nb1 ob1 K pre p2 w2) : VAfter w gf gd nb ob K pre p2 w2 := by
  obtain ⟨nb2, ob2, k1, k2, k3, k4⟩ := h
  have key : ∀ x, (New w1 nb1 x ∨ New w1 ob1 x) → (New w nb x ∨ New w ob x) := by
    intro x hx
    rcases hx with hx | hx
    · exact hn.imp (fun h => h.trans hg.size hx) (fun h => h.trans hg.size hx)
    · exact ho.imp (fun h => h.trans hg.size hx) (fun h => h.trans hg.size hx)
  exact ⟨nb2, ob2, k1, key nb2 k2, key ob2 k3, nil_grown hg k4⟩
theorem VAfter.fromB {W : World} (hb : Below w.heap.size w W) (h : VAfter W gf gd nb ob K pre p w') : VAfter w gf gd nb ob K pre p w' := h.two (.inl (.inl rfl)) (.inr (.inl rfl)) (grown_of_below hb _)
theorem VAfter.toB {W : World} (h : VAfter w gf gd nb ob K pre p w') (hb : Below w'.heap.size w' W) : VAfter w gf gd nb ob K pre p W := by
  obtain ⟨nb2, ob2, k1, k2, k3, k4⟩ := h
  exact ⟨nb2, ob2, k1.below hb, k2, k3, nil_grown k4 (grown_of_below hb _)⟩
end
theorem jmade_nil (w : World) : Calls Tryz.prog 45 #[.pointer none] w fun e w' => e = .returned (.bool false) ∧ w = w' := by
  go_enter Tryz.func45, Tryz.ntmps45
  go_wp2_with fail
  go_ret
  exact ⟨rfl, rfl⟩
theorem jmade_zero (gj : Nat) (w : World) (h : w.cell? ⟨gj, 0, none⟩ = some (.pointer none)) : Calls Tryz.prog 45 #[.pointer (some ⟨gj, 0, none⟩)] w fun e w' => e = .returned (.bool false) ∧ w = w' := by
  go_enter Tryz.func45, Tryz.ntmps45
  go_wp2_with fail
  go_ret
  exact ⟨rfl, rfl⟩
theorem jmade_any {w : World} {gj gf n e0 : Nat} {br : Bool} (h : Jo w gj gf n e0 br) : Calls Tryz.prog 45 #[.pointer (some ⟨gj, 0, none⟩)] w fun e w' => e = .returned (.bool true) ∧ w = w' := by
  obtain ⟨c0, -, -, -⟩ := h.c
  go_enter Tryz.func45, Tryz.ntmps45
  go_wp2_with fail
  go_ret
  exact ⟨rfl, rfl⟩
theorem jmade_no {w : World} {v : Value} (h : NoJ w v) : Calls Tryz.prog 45 #[v] w fun e w' => e = .returned (.bool false) ∧ w = w' := by
  rcases h with rfl | ⟨gj, rfl, h2⟩
  · exact jmade_nil w
  · exact jmade_zero gj w h2
theorem nlen_any {w : World} {v : Value} (h : NoJ w v) : Calls Tryz.prog 14 #[v] w fun e w' => e = .returned (.int .i64 0) ∧ w = w' := by
  have H := Lib.hid h
  clear h
  go_enter Tryz.func14, Tryz.ntmps14
  go_wp2_with fail
  refine (jmade_no H.out).mono ?_
  rintro e w' ⟨rfl, rfl⟩
  go_wp2_with fail
  go_ret
  exact ⟨rfl, rfl⟩
theorem njsize_any {w : World} {v : Value} (h : NoJ w v) : Calls Tryz.prog 13 #[v] w fun e w' => e = .returned (.int .i64 0) ∧ w = w' := by
  have H := Lib.hid h
  clear h
  go_enter Tryz.func13, Tryz.ntmps13
  go_wp2_with fail
  refine (jmade_no H.out).mono ?_
  rintro e w' ⟨rfl, rfl⟩
  go_wp2_with fail
  go_ret
  exact ⟨rfl, rfl⟩
theorem nbroken_any {w : World} {v : Value} (h : NoJ w v) : Calls Tryz.prog 18 #[v] w fun e w' => e = .returned (.bool false) ∧ w = w' := by
  have H := Lib.hid h
  clear h
  go_enter Tryz.func18, Tryz.ntmps18
  go_wp2_with fail
  refine (jmade_no H.out).mono ?_
  rintro e w' ⟨rfl, rfl⟩
  go_wp2_with fail
  go_ret
  exact ⟨rfl, rfl⟩
set_option maxRecDepth 100000 in
set_option maxHeartbeats 2000000 in
theorem nadd_any {w : World} {v : Value} (h : NoJ w v) (u : Value) : Calls Tryz.prog 15 #[v, u] w fun e w' => e = .returned (.int .i64 1) ∧ Below w.heap.size w w' := by
  have hb : Below w.heap.size w (w.alloc (.cells #[v] 30)) := (Below.refl _ _).alloc (Nat.le_refl _) _
  have hj : NoJ (w.alloc (.cells #[v] 30)) v := by
    rcases h with h | ⟨gj, h1, h2⟩
    · exact .inl h
    · exact .inr ⟨gj, h1, (hb.cell (p := ⟨gj, 0, none⟩) (block_lt_of_cell h2)).trans h2⟩
  obtain ⟨q, rfl⟩ : ∃ q, v = .pointer q := by
    rcases h with h | ⟨gj, h1, _⟩
    · exact ⟨_, h⟩
    · exact ⟨_, h1⟩
  have H := Lib.hid hj
  have HB := Lib.hid hb
  clear h hj hb
  go_enter Tryz.func15, Tryz.ntmps15
  go_wp2_with fail
  refine (jmade_no H.out).mono ?_
  rintro e w' ⟨rfl, rfl⟩
  go_wp2_with fail
  go_ret
  exact ⟨rfl, HB.out⟩
theorem jlen_any {w : World} {gj gf n e0 : Nat} {br : Bool} (h : Jo w gj gf n e0 br) : Calls Tryz.prog 14 #[.pointer (some ⟨gj, 0, none⟩)] w fun e w' => e = .returned (.int .i64 n) ∧ w = w' := by
  obtain ⟨c0, c1, c2, c3⟩ := h.c
  have H := Lib.hid h
  clear h
  go_enter Tryz.func14, Tryz.ntmps14
  go_wp2_with fail
  refine (jmade_any H.out).mono ?_
  rintro e w' ⟨rfl, rfl⟩
  go_wp2_with fail
  go_ret
  exact ⟨rfl, rfl⟩
theorem jsize_any {w : World} {gj gf n e0 : Nat} {br : Bool} (h : Jo w gj gf n e0 br) : Calls Tryz.prog 13 #[.pointer (some ⟨gj, 0, none⟩)] w fun e w' => e = .returned (.int .i64 e0) ∧ w = w' := by
  obtain ⟨c0, c1, c2, c3⟩ := h.c
  have H := Lib.hid h
  clear h
  go_enter Tryz.func13, Tryz.ntmps13
  go_wp2_with fail
  refine (jmade_any H.out).mono ?_
  rintro e w' ⟨rfl, rfl⟩
  go_wp2_with fail
  go_ret
  exact ⟨rfl, rfl⟩
theorem jbroken_any {w : World} {gj gf n e0 : Nat} {br : Bool} (h : Jo w gj gf n e0 br) : Calls Tryz.prog 18 #[.pointer (some ⟨gj, 0, none⟩)] w fun e w' => e = .returned (.bool br) ∧ w = w' := by
  obtain ⟨c0, c1, c2, c3⟩ := h.c
  have H := Lib.hid h
  clear h
  go_enter Tryz.func18, Tryz.ntmps18
  go_wp2_with fail
  refine (jmade_any H.out).mono ?_
  rintro e w' ⟨rfl, rfl⟩
  go_wp2_with fail
  go_ret
  exact ⟨rfl, rfl⟩
theorem size1_any (A : Option Addr) (n c : Nat) (w : World) (hn : n ≤ 5000000) : Calls Tryz.prog 40 #[.slice A n c] w fun e w' => e = .returned (.int .i64 (54 + n : Nat)) ∧ w = w' := by
  go_enter Tryz.func40, Tryz.ntmps40
  go_wp2_with fail
  go_ret
  refine ⟨?_, rfl⟩
  show Ending.returned (.int .i64 (29 + (n : Int) + 25)) = _
  rw [show (29 : Int) + n + 25 = ((54 + n : Nat) : Int) by omega]
theorem jnone_no {w : World} {v : Value} (h : NoF w v) : Calls Tryz.prog 34 #[v] w fun e w' => e = .returned (.bool true) ∧ w = w' := by
  have H := Lib.hid h
  clear h
  go_enter Tryz.func34, Tryz.ntmps34
  go_wp2_with fail
  refine (ntrunc_any H.out (.int .i64 (-1))).mono ?_
  rintro e w' ⟨rfl, rfl⟩
  go_wp2_with fail
  go_ret
  exact ⟨rfl, rfl⟩
theorem jnone_any {w : World} {gf gd : Nat} {nb ob : Option Nat} {K : TurnK} {pre : List Nat} {p : DkS} (h : Fv w gf gd nb ob K pre p) :
    Calls Tryz.prog 34 #[.pointer (some ⟨gf, 0, none⟩)] w fun e w' => e = .returned (.bool false) ∧ Below w.heap.size w w' := by
  have H := Lib.hid h
  clear h
  go_enter Tryz.func34, Tryz.ntmps34
  go_wp2_with fail
  refine (vcut_neg H.out).mono ?_
  rintro e w' ⟨rfl, hb⟩
  have HB := Lib.hid hb
  clear hb
  go_wp2_with fail
  go_ret
  exact ⟨rfl, HB.out⟩
/-- A cut, and that made sure. -/
def backD (p : DkS) (n : Nat) : Int × DkS := if (p.cut n).1 ≠ 0 then p.cut n else (p.cut n).2.sync
set_option maxRecDepth 100000 in
set_option maxHeartbeats 4000000 in
theorem jback_any {w : World} {gj gf gd n e0 : Nat} {br : Bool} {nb ob : Option Nat} {K : TurnK} {pre : List Nat} {p : DkS} (hj : Jo w gj gf n e0 br) (h : Fv w gf gd nb ob K pre p) (he : e0 ≤ p.now.length) :
    Calls Tryz.prog 41 #[.pointer (some ⟨gj, 0, none⟩)] w (Ret fun r w' => VAfter w gf gd nb ob K pre (backD p e0).2 w' ∧ r = (backD p e0).1) := by
  obtain ⟨c0, c1, c2, c3⟩ := hj.c
  have hgl : gj < w.heap.size := block_lt_of_cell c0
  have HJ := Lib.hid hj
  have HNE := Lib.hid (hj.ne h)
  have H := Lib.hid h
  have HE := Lib.hid he
  clear hj h he c1 c3
  have HD0 : Hid (Below w.heap.size w w.drew) := below_drewN' (Below.refl w.heap.size w) 1
  by_cases hr0 : (p.cut e0).1 = 0
  · skip
    go_enter Tryz.func41, Tryz.ntmps41
    go_wp2_with fail
    go_region_held3 (fun W => W.cell? ⟨gj, 0, none⟩ = some (.pointer (some ⟨gf, 0, none⟩)) ∧ W.cell? ⟨gj, 2, none⟩ = some (.int .i64 e0))
      (first | with_reducible exact ⟨c0, c2⟩ | with_reducible exact HS3.out | exact ⟨c0, c2⟩)
      (first
        | (go_at_call 53; (refine (vcut_any (H.out.below HD0.out) e0 HE.out).mono ?_); rintro e w3 ⟨r, rfl, hx, hr⟩
           have HX := Lib.hid hx
           have HR := Lib.hid hr
           have HS3 : Hid (w3.cell? ⟨gj, 0, none⟩ = some (.pointer (some ⟨gf, 0, none⟩)) ∧ w3.cell? ⟨gj, 2, none⟩ = some (.int .i64 e0)) := by
             obtain ⟨_, _, _, _, _, hg3⟩ := hx
             exact ⟨(grown_cell (p := ⟨gj, 0, none⟩) hg3 hgl HNE.out).trans c0, (grown_cell (p := ⟨gj, 2, none⟩) hg3 hgl HNE.out).trans c2⟩
           rw [hr0] at hr; subst hr
           clear hx))
    all_goals
      have e0' := HS3.out.1
      obtain ⟨nb1, ob1, hf1, hn1, ho1, hg1⟩ := HX.out
      have HF1 := Lib.hid hf1
      have HN1 := Lib.hid hn1
      have HO1 := Lib.hid ho1
      have HG1 := Lib.hid hg1
      clear hf1 hn1 ho1 hg1 HX
      go_wp2_with fail
      refine (vsync_any HF1.out).mono ?_
      rintro e w4 ⟨r, rfl, hx, hr⟩
      have HX := Lib.hid hx
      have HR := Lib.hid hr
      clear hx hr
      go_wp2_with fail
      go_ret
      refine ⟨_, rfl, ?_⟩
      unfold backD
      rw [if_neg (by simpa using hr0)]
      exact ⟨VAfter.two HN1.out HO1.out (nil_grown (grown_of_below HD0.out _) HG1.out) HX.out, HR.out⟩
  · skip
    go_enter Tryz.func41, Tryz.ntmps41
    go_wp2_with fail
    go_region_held3 (fun W => W.cell? ⟨gj, 0, none⟩ = some (.pointer (some ⟨gf, 0, none⟩)) ∧ W.cell? ⟨gj, 2, none⟩ = some (.int .i64 e0))
      (first | with_reducible exact ⟨c0, c2⟩ | with_reducible exact HS3.out | exact ⟨c0, c2⟩)
      (first
        | (go_at_call 53; (refine (vcut_any (H.out.below HD0.out) e0 HE.out).mono ?_); rintro e w3 ⟨r, rfl, hx, hr⟩
           have HX := Lib.hid hx
           have HR := Lib.hid hr
           have HS3 : Hid (w3.cell? ⟨gj, 0, none⟩ = some (.pointer (some ⟨gf, 0, none⟩)) ∧ w3.cell? ⟨gj, 2, none⟩ = some (.int .i64 e0)) := by
             obtain ⟨_, _, _, _, _, hg3⟩ := hx
             exact ⟨(grown_cell (p := ⟨gj, 0, none⟩) hg3 hgl HNE.out).trans c0, (grown_cell (p := ⟨gj, 2, none⟩) hg3 hgl HNE.out).trans c2⟩
           have hne : (r != 0) = true := by rw [hr, bne_iff_ne]; exact hr0
           clear hx))
    all_goals
      go_wp2_with fail
      go_ret
      refine ⟨_, rfl, ?_⟩
      unfold backD
      rw [if_pos hr0]
      exact ⟨VAfter.fromB HD0.out HX.out, by first | exact HR.out | rfl⟩
end Go.Proofs.YtlhbijpmhokmnaaGreat
