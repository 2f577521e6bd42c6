/-
  PLAIN LAWS: an enciphered disk beside a plain one; what calls do to both. Conditions: none; no program in sight.
  TWO FILES OVER TWO DISKS, BESIDE ONE ANOTHER IN MEMORY; a call on one of them leaves the other. Conditions: they lie in memory.
  THE WALK OF quillpresslaw08.alike: both files answer the same. Conditions: they lie beside one another; the one is the other, enciphered.
  THE WALK OF quillpresslaw08.hidden. Conditions: the files lie beside one another; the one is the other, enciphered.
  THE WALK OF quillpresslaw08.CryptSees. Conditions: the arguments read.
-/
import Derived.Test.YtmldpamkghdohaaCryM
import Derived.Test.YtmldpamkghdohaaArgsOp
import Derived.Test.YtmldpamkghdohaaPick
namespace Go.Proofs.Ytmldpamkghdohaa
open Go.RowKit
set_option linter.unusedSimpArgs false
set_option linter.unusedVariables false

theorem s_nth_drop (l : List Nat) (a j : Nat) : nth (l.drop a) j = nth l (a + j) := by simp [nth, List.getElem?_drop]
theorem s_nth_take (l : List Nat) (a j : Nat) (h : j < a) : nth (l.take a) j = nth l j := by simp [nth, List.getElem?_take, h]
theorem s_nth_left (a b : List Nat) (j : Nat) (h : j < a.length) : nth (a ++ b) j = nth a j := by
  unfold nth
  rw [List.getD_eq_getElem?_getD, List.getD_eq_getElem?_getD, List.getElem?_append_left h]
theorem s_nth_right (a b : List Nat) (j : Nat) : nth (a ++ b) (a.length + j) = nth b j := by
  unfold nth
  rw [List.getD_eq_getElem?_getD, List.getD_eq_getElem?_getD, List.getElem?_append_right (by omega), show a.length + j - a.length = j by omega]
theorem nth_turned_at {kb : Nat → Nat} {nc : List Nat} {a : Nat} {b : List Nat} {i : Nat} (hi : i < b.length) : nth (turned kb nc a b) i = nth (ctrB kb nc ((a + i) / 16)) ((a + i) % 16) ^^^ nth b i := by
  rw [nth_turned hi, nth_strm hi]
theorem turned_append (kb : Nat → Nat) (nc : List Nat) (a : Nat) (x y : List Nat) : turned kb nc a (x ++ y) = turned kb nc a x ++ turned kb nc (a + x.length) y := by
  refine eq_of_nth (by simp [turned_length]) fun i hi => ?_
  rw [turned_length, List.length_append] at hi
  rw [nth_turned_at (by rw [List.length_append]; exact hi)]
  by_cases h : i < x.length
  · rw [s_nth_left (turned kb nc a x) _ _ (by rw [turned_length]; exact h), nth_turned_at h, s_nth_left x _ _ h]
  · obtain ⟨j, rfl⟩ : ∃ j, i = x.length + j := ⟨i - x.length, by omega⟩
    have e := s_nth_right (turned kb nc a x) (turned kb nc (a + x.length) y) j
    rw [turned_length] at e
    rw [e, nth_turned_at (by omega), s_nth_right, Nat.add_assoc]
theorem turned_take (kb : Nat → Nat) (nc : List Nat) (a n : Nat) (b : List Nat) : (turned kb nc a b).take n = turned kb nc a (b.take n) := by
  refine eq_of_nth (by simp [turned_length]) fun i hi => ?_
  rw [List.length_take, turned_length] at hi
  rw [s_nth_take _ _ _ (by omega), nth_turned_at (by omega), nth_turned_at (by rw [List.length_take]; omega), s_nth_take _ _ _ (by omega)]
theorem turned_drop (kb : Nat → Nat) (nc : List Nat) (a n : Nat) (b : List Nat) : (turned kb nc a b).drop n = turned kb nc (a + n) (b.drop n) := by
  refine eq_of_nth (by simp [turned_length]) fun i hi => ?_
  rw [List.length_drop, turned_length] at hi
  rw [s_nth_drop, nth_turned_at (by omega), nth_turned_at (by rw [List.length_drop]; omega), s_nth_drop, Nat.add_assoc]
theorem turned_nil (kb : Nat → Nat) (nc : List Nat) (a : Nat) : turned kb nc a [] = [] := List.eq_nil_of_length_eq_zero (turned_length _ _ _ _)
theorem turned_back (kb : Nat → Nat) (nc : List Nat) (a : Nat) (b : List Nat) : turned kb nc a (turned kb nc a b) = b := by
  refine eq_of_nth (by simp [turned_length]) fun i hi => ?_
  rw [turned_length, turned_length] at hi
  rw [nth_turned_at (by rw [turned_length]; exact hi), nth_turned_at hi, ← Nat.xor_assoc, Nat.xor_self, Nat.zero_xor]
theorem ctrT_turned {kb : Nat → Nat} {nc : List Nat} (h8 : nc.length = 8) (a : Nat) (b : List Nat) (ha : a ≤ 1099511627776) (hb : b.length ≤ 4194304) : ctrT kb nc (a : Int) b = turned kb nc a b := by
  unfold ctrT
  rw [if_pos ⟨h8, by omega, by omega, by omega, by omega⟩]
  rfl

structure See (kb : Nat → Nat) (nc salt : List Nat) (d p : DkS) : Prop where
  most : d.most = 3032
  pmost : p.most = 3000
  now : d.now = salt ++ turned kb nc 32 p.now
  old : d.old = salt ++ turned kb nc 32 p.old
  floor : d.floor = 32 + p.floor
  fl : p.floor ≤ p.now.length
  down : d.down = p.down
  armed : d.armed = p.armed
  fails : d.fails = p.fails
  err : d.err = p.err
section
variable {kb : Nat → Nat} {nc salt : List Nat} {d p : DkS}
theorem See.len (h : See kb nc salt d p) (hs : salt.length = 32) : d.now.length = 32 + p.now.length := by
  rw [h.now, List.length_append, turned_length, hs]
theorem See.pre (h : See kb nc salt d p) : d.pre.1 = p.pre.1 ∧ See kb nc salt d.pre.2 p.pre.2 := by
  obtain ⟨h1, h2, h3, h4, h5, h6, h7, h8, h9, h10⟩ := h
  unfold DkS.pre
  rw [h7, h8, h9, h10]
  repeat' split
  all_goals (refine ⟨rfl, ⟨?_, ?_, ?_, ?_, ?_, ?_, ?_, ?_, ?_, ?_⟩⟩ <;> first | rfl | assumption)
theorem See.op (h : See kb nc salt d p) (F G : DkS → Int × DkS) (hFG : ∀ d' p', See kb nc salt d' p' → d'.now = d.now → p'.now = p.now → (F d').1 = (G p').1 ∧ See kb nc salt (F d').2 (G p').2) : (d.op F).1 = (p.op G).1 ∧ See kb nc salt (d.op F).2 (p.op G).2 := by
  obtain ⟨h1, h2⟩ := h.pre
  have k1 := d.pre_keeps.2.1
  have k2 := p.pre_keeps.2.1
  unfold DkS.op
  cases hd : d.pre with
  | mk x d' =>
    cases hp : p.pre with
    | mk y p' =>
      rw [hd, hp] at h1 h2
      rw [hd] at k1
      rw [hp] at k2
      have h1 : x = y := h1
      subst h1
      cases x with
      | none => exact hFG d' p' h2 k1 k2
      | some e => exact ⟨rfl, h2⟩
theorem See.append (h : See kb nc salt d p) (hs : salt.length = 32) (m : List Nat) : (d.append (turned kb nc d.now.length m)).1 = (p.append m).1 ∧ See kb nc salt (d.append (turned kb nc d.now.length m)).2 (p.append m).2 := by
  unfold DkS.append
  refine h.op _ _ fun d' p' h' k1 k2 => ?_
  have l1 := h'.len hs
  have e1 := h'.most
  have e2 := h'.pmost
  rw [← k1, turned_length]
  by_cases hc : 3000 < p'.now.length + m.length
  · rw [if_pos (show p'.most < p'.now.length + m.length by omega), if_pos (show d'.most < d'.now.length + m.length by omega)]
    exact ⟨rfl, h'⟩
  · rw [if_neg (show ¬ p'.most < p'.now.length + m.length by omega), if_neg (show ¬ d'.most < d'.now.length + m.length by omega), l1]
    refine ⟨rfl, h'.most, h'.pmost, ?_, h'.old, h'.floor, ?_, h'.down, h'.armed, h'.fails, h'.err⟩
    · show d'.now ++ turned kb nc (32 + p'.now.length) m = salt ++ turned kb nc 32 (p'.now ++ m)
      rw [turned_append, h'.now, List.append_assoc]
    · show p'.floor ≤ (p'.now ++ m).length
      rw [List.length_append]
      have := h'.fl
      omega
theorem See.sync (h : See kb nc salt d p) (hs : salt.length = 32) : d.sync.1 = p.sync.1 ∧ See kb nc salt d.sync.2 p.sync.2 := by
  unfold DkS.sync
  refine h.op _ _ fun d' p' h' k1 k2 => ?_
  exact ⟨rfl, h'.most, h'.pmost, h'.now, h'.now, h'.len hs, Nat.le_refl _, h'.down, h'.armed, h'.fails, h'.err⟩
theorem See.trunc (h : See kb nc salt d p) (hs : salt.length = 32) (n : Nat) (hn : n ≤ p.now.length) :
    (d.op fun d => ((0 : Int), { d with now := d.now.take (32 + n), floor := min d.floor (32 + n) })).1 = (p.op fun d => ((0 : Int), { d with now := d.now.take n, floor := min d.floor n })).1 ∧
    See kb nc salt (d.op fun d => ((0 : Int), { d with now := d.now.take (32 + n), floor := min d.floor (32 + n) })).2 (p.op fun d => ((0 : Int), { d with now := d.now.take n, floor := min d.floor n })).2 := by
  refine h.op _ _ fun d' p' h' k1 k2 => ?_
  refine ⟨rfl, h'.most, h'.pmost, ?_, h'.old, ?_, ?_, h'.down, h'.armed, h'.fails, h'.err⟩
  · show d'.now.take (32 + n) = salt ++ turned kb nc 32 (p'.now.take n)
    rw [h'.now, List.take_append, hs, List.take_of_length_le (by omega), show 32 + n - 32 = n by omega, turned_take]
  · show min d'.floor (32 + n) = 32 + min p'.floor n
    rw [h'.floor]; omega
  · show min p'.floor n ≤ (p'.now.take n).length
    rw [List.length_take, k2]; omega
theorem See.read (h : See kb nc salt d p) : (d.op fun d => ((0 : Int), d)).1 = (p.op fun d => ((0 : Int), d)).1 := (h.op (fun d => ((0 : Int), d)) (fun d => ((0 : Int), d)) fun d' p' h' _ _ => ⟨rfl, h'⟩).1
theorem See.readL (h : See kb nc salt d p) (hs : salt.length = 32) (a n : Nat) : turned kb nc (32 + a) (readL d (32 + a) n) = readL p a n := by
  unfold Go.Proofs.Ytmldpamkghdohaa.readL
  rw [h.pre.1]
  split
  · rw [h.now, List.drop_append, hs, List.drop_of_length_le (by omega), List.nil_append, show 32 + a - 32 = a by omega, turned_drop, turned_take, turned_back]
  · exact turned_nil _ _ _
theorem See.arm (h : See kb nc salt d p) (n : Int) : See kb nc salt { d with armed := n } { p with armed := n } := ⟨h.most, h.pmost, h.now, h.old, h.floor, h.fl, h.down, rfl, h.fails, h.err⟩
theorem See.fail (h : See kb nc salt d p) (n : Nat) (e : Int) : See kb nc salt { d with fails := n, err := e } { p with fails := n, err := e } := ⟨h.most, h.pmost, h.now, h.old, h.floor, h.fl, h.down, h.armed, rfl, rfl⟩
theorem See.crash (h : See kb nc salt d p) (hs : salt.length = 32) (k : Nat) : See kb nc salt (crashD d (crLeft d k [])) (crashD p (crLeft p k [])) := by
  have e1 : crLeft d k [] = salt ++ turned kb nc 32 (crLeft p k []) := by
    unfold crLeft
    rw [if_neg (show ¬ (k : Int) < 0 by omega), if_neg (show ¬ (k : Int) < 0 by omega), if_pos rfl, if_pos rfl, h.len hs, h.floor, show 32 + p.now.length - (32 + p.floor) = p.now.length - p.floor by omega]
    generalize (min (k : Int) (p.now.length - p.floor : Nat)).toNat = x
    rw [h.now, List.take_append, hs, List.take_of_length_le (by omega), show 32 + p.floor + x - 32 = p.floor + x by omega, turned_take]
  refine ⟨h.most, h.pmost, e1, e1, ?_, Nat.le_refl _, rfl, rfl, rfl, h.err⟩
  show (crLeft d k []).length = 32 + (crLeft p k []).length
  rw [e1, List.length_append, turned_length, hs]
theorem See.fld (h : See kb nc salt d p) (hs : salt.length = 32) : d.floor ≤ d.now.length := by
  rw [h.len hs, h.floor]; have := h.fl; omega
theorem crash_pre (d : DkS) (l : List Nat) : (crashD d l).pre = (none, crashD d l) := by
  simp [DkS.pre, crashD]
end
end Go.Proofs.Ytmldpamkghdohaa
namespace Go.Proofs.Ytmldpamkghdohaa
open Go.RowKit
set_option linter.unusedSimpArgs false
set_option linter.unusedVariables false

theorem Fl.other {w w' : World} {gf g g2 : Nat} {nb ob nb2 ob2 : Option Nat} {d p : DkS} {K : TurnK} (h : Fl w gf g nb ob d K) (h2 : Dk w g2 nb2 ob2 p) (hg : w.grownBy w' (some g2)) (hn : g ≠ g2) (h3 : nb ≠ some g2) (h4 : ob ≠ some g2) : Fl w' gf g nb ob d K := by
  obtain ⟨⟨tv, k1, k2⟩, k3⟩ := h
  obtain ⟨nv, ov, hr, _⟩ := h2.lies
  exact ⟨⟨tv, grown_row hg k1 (rows_apart k1 hr (by decide)), k2.grown h2 hg⟩, k3.grown hg (fun e => by injection e with e; exact hn e.symm) (fun k e e2 => h3 (by rw [e, ← e2])) (fun k e e2 => h4 (by rw [e, ← e2]))⟩
/-- Both files. -/
structure Both (w0 wk w : World) (gf gd : Nat) (nb ob : Option Nat) (d : DkS) (K : TurnK) (hf hd : Nat) (nb2 ob2 : Option Nat) (p : DkS) (K2 : TurnK) : Prop where
  f : Fl w gf gd nb ob d K
  g : Fl w hf hd nb2 ob2 p K2
  ne : gd ≠ hd
  a1 : nb ≠ some hd
  a2 : ob ≠ some hd
  a3 : nb2 ≠ some gd
  a4 : ob2 ≠ some gd
  b1 : w0.heap.size ≤ gd
  b2 : w0.heap.size ≤ hd
  below : Below w0.heap.size w0 w
  ks : wk.heap.size ≤ w.heap.size
  keep : ∀ b, b < wk.heap.size → b ≠ gd → b ≠ hd → w.heap[b]? = wk.heap[b]?
section
variable {w0 wk w w' : World} {gf gd hf hd : Nat} {nb ob nb2 ob2 : Option Nat} {d d' p : DkS} {K K2 K' : TurnK}
theorem Both.swap (h : Both w0 wk w gf gd nb ob d K hf hd nb2 ob2 p K2) : Both w0 wk w hf hd nb2 ob2 p K2 gf gd nb ob d K :=
  ⟨h.g, h.f, h.ne.symm, h.a3, h.a4, h.a1, h.a2, h.b2, h.b1, h.below, h.ks, fun b h1 h2 h3 => h.keep b h1 h3 h2⟩
theorem Both.bel (h : Both w0 wk w gf gd nb ob d K hf hd nb2 ob2 p K2) (hb : Below w.heap.size w w') : Both w0 wk w' gf gd nb ob d K hf hd nb2 ob2 p K2 :=
  ⟨h.f.below hb, h.g.below hb, h.ne, h.a1, h.a2, h.a3, h.a4, h.b1, h.b2, h.below.trans (hb.mono h.below.size), Nat.le_trans h.ks hb.size, fun b h1 h2 h3 => (hb.block b (Nat.lt_of_lt_of_le h1 h.ks)).trans (h.keep b h1 h2 h3)⟩
theorem Both.after (h : Both w0 wk w gf gd nb ob d K hf hd nb2 ob2 p K2) (ha : After w gd nb ob d' w') : ∃ nb' ob', Both w0 wk w' gf gd nb' ob' d' K hf hd nb2 ob2 p K2 := by
  obtain ⟨nb', ob', h1, h2, h3, h4⟩ := ha
  have hl := h.g.dk.lt
  have key : ∀ x : Option Nat, (New w nb x ∨ New w ob x) → x ≠ some hd := by
    intro x hn e
    rcases hn with (rfl | hn) | (rfl | hn)
    · exact h.a1 e
    · have := hn _ e; omega
    · exact h.a2 e
    · have := hn _ e; omega
  exact ⟨nb', ob', h.f.after h1 h4, h.g.other h.f.dk h4 h.ne.symm h.a3 h.a4, h.ne, key nb' h2, key ob' h3, h.a3, h.a4, h.b1, h.b2, below_of_grown h.below h4 h.below.size h.b1, Nat.le_trans h.ks h4.size, fun b k1 k2 k3 => (h4.block b (Nat.lt_of_lt_of_le k1 h.ks) (fun e => by injection e with e; exact k2 e)).trans (h.keep b k1 k2 k3)⟩
/-- A call that leaves the lists' blocks. -/
theorem Both.same (h : Both w0 wk w gf gd nb ob d K hf hd nb2 ob2 p K2) (h1 : Dk w' gd nb ob d') (h4 : w.grownBy w' (some gd)) : Both w0 wk w' gf gd nb ob d' K hf hd nb2 ob2 p K2 :=
  ⟨h.f.after h1 h4, h.g.other h.f.dk h4 h.ne.symm h.a3 h.a4, h.ne, h.a1, h.a2, h.a3, h.a4, h.b1, h.b2, below_of_grown h.below h4 h.below.size h.b1, Nat.le_trans h.ks h4.size, fun b k1 k2 k3 => (h4.block b (Nat.lt_of_lt_of_le k1 h.ks) (fun e => by injection e with e; exact k2 e)).trans (h.keep b k1 k2 k3)⟩
/-- A new file over the first disk. -/
theorem Both.anew {gf' : Nat} (h : Both w0 wk w gf gd nb ob d K hf hd nb2 ob2 p K2) (h1 : Fl w' gf' gd nb ob d' K') (h4 : w.grownBy w' (some gd)) : Both w0 wk w' gf' gd nb ob d' K' hf hd nb2 ob2 p K2 :=
  ⟨h1, h.g.other h.f.dk h4 h.ne.symm h.a3 h.a4, h.ne, h.a1, h.a2, h.a3, h.a4, h.b1, h.b2, below_of_grown h.below h4 h.below.size h.b1, Nat.le_trans h.ks h4.size, fun b k1 k2 k3 => (h4.block b (Nat.lt_of_lt_of_le k1 h.ks) (fun e => by injection e with e; exact k2 e)).trans (h.keep b k1 k2 k3)⟩
/-- What is kept, from here on. -/
theorem Both.re (h : Both w0 wk w gf gd nb ob d K hf hd nb2 ob2 p K2) : Both w0 w w gf gd nb ob d K hf hd nb2 ob2 p K2 :=
  ⟨h.f, h.g, h.ne, h.a1, h.a2, h.a3, h.a4, h.b1, h.b2, h.below, Nat.le_refl _, fun _ _ _ _ => rfl⟩
theorem Both.rd (h : Both w0 wk w gf gd nb ob d K hf hd nb2 ob2 p K2) {A : Option Addr} {m : List Nat} (hr : Rd w A m) (hg : w.grownBy w' (some gd)) : Rd w' A m := h.f.dk.rd hr hg
theorem after_grown {w w' : World} {g : Nat} {nb ob : Option Nat} {d : DkS} (h : After w g nb ob d w') : w.grownBy w' (some g) := by
  obtain ⟨_, _, _, _, _, h⟩ := h
  exact h
end
end Go.Proofs.Ytmldpamkghdohaa
namespace Go.Proofs.Ytmldpamkghdohaa
open Go.RowKit
set_option linter.unusedSimpArgs false
set_option linter.unusedVariables false

def AlikeP (w0 wk : World) (gf gd hf hd : Nat) (kb : Nat → Nat) (nc salt : List Nat) (e : Ending) (w' : World) : Prop :=
  e = .returned (.bool true) ∧ ∃ nb ob d nb2 ob2 p, Both w0 wk w' gf gd nb ob d (some (kb, nc)) hf hd nb2 ob2 p none ∧ See kb nc salt d p
abbrev opV (o : OpS) (Bo : Option Addr) (co : Nat) : Value := .agg #[.int .i64 o.k, .int .i64 o.n, .int .i64 o.m, .int .i64 o.e, .slice Bo o.b.length co]
theorem op_cells (w : World) (o : OpS) (Bo : Option Addr) (co : Nat) :
    (w.alloc (.cells #[.int .i64 o.k, .int .i64 o.n, .int .i64 o.m, .int .i64 o.e, .slice Bo o.b.length co] 68)).cell? ⟨w.heap.size, 1, none⟩ = some (.int .i64 o.n) ∧
    (w.alloc (.cells #[.int .i64 o.k, .int .i64 o.n, .int .i64 o.m, .int .i64 o.e, .slice Bo o.b.length co] 68)).cell? ⟨w.heap.size, 2, none⟩ = some (.int .i64 o.m) ∧
    (w.alloc (.cells #[.int .i64 o.k, .int .i64 o.n, .int .i64 o.m, .int .i64 o.e, .slice Bo o.b.length co] 68)).cell? ⟨w.heap.size, 3, none⟩ = some (.int .i64 o.e) := by
  refine ⟨?_, ?_, ?_⟩ <;> (rw [cell_of_row _ _ _ _ _ _ (heap_alloc_new w _)]; rfl)
section
variable {w0 wk w : World} {gf gd hf hd : Nat} {nb ob nb2 ob2 : Option Nat} {d p : DkS} {kb : Nat → Nat} {nc salt : List Nat}
set_option maxRecDepth 100000 in
set_option maxHeartbeats 4000000 in
theorem alike1 (h : Both w0 wk w gf gd nb ob d (some (kb, nc)) hf hd nb2 ob2 p none) (hs : See kb nc salt d p) (hsl : salt.length = 32) (h8 : nc.length = 8) (o : OpS) (Bo : Option Addr) (co : Nat) (hr : Rd w Bo o.b) (hc : o.b.length ≤ co) (hk : o.k = 1) :
    Calls Try.prog 34 #[.pointer (some ⟨gd, 0, none⟩), .pointer (some ⟨hd, 0, none⟩), .pointer (some ⟨gf, 0, none⟩), .pointer (some ⟨hf, 0, none⟩), opV o Bo co] w (AlikeP w0 wk gf gd hf hd kb nc salt) := by
  unfold opV
  rw [hk]
  have H := Lib.hid h
  have HS := Lib.hid hs
  have HSL := Lib.hid hsl
  have H8 := Lib.hid h8
  obtain ⟨n, hn⟩ : ∃ n : Nat, n = min o.b.length 300 := ⟨_, rfl⟩
  have hnm : (if (300 : Int) < o.b.length then 300 else (o.b.length : Int)) = n := by split <;> omega
  have hn1 : (n : Int) ≤ co := by omega
  have hn2 : n ≤ co := by omega
  have hn3 : n ≤ o.b.length := by omega
  have hn4 : n ≤ 300 := by omega
  clear hn
  obtain ⟨bb, hbb⟩ : ∃ bb, bb = o.b.take n := ⟨_, rfl⟩
  have hbl : n = bb.length := by rw [hbb, List.length_take]; omega
  have HBL := Lib.hid hbl
  have hrb : Rd w Bo bb := by rw [hbb]; exact rd_takeL hr n
  have HR := Lib.hid hrb
  clear hbb hbl hrb hr h hs hsl h8
  clear hk
  go_enter Try.func34, Try.ntmps34
  go_wp2_with fail
  have hax : Below w.heap.size w (w.alloc (.cells #[.int .i64 1, .int .i64 o.n, .int .i64 o.m, .int .i64 o.e, .slice Bo o.b.length co] 68)) := (Below.refl _ _).alloc (Nat.le_refl _) _
  obtain ⟨y1, y2, y3⟩ : (w.alloc (.cells #[.int .i64 1, .int .i64 o.n, .int .i64 o.m, .int .i64 o.e, .slice Bo o.b.length co] 68)).cell? ⟨w.heap.size, 1, none⟩ = some (.int .i64 o.n) ∧ (w.alloc (.cells #[.int .i64 1, .int .i64 o.n, .int .i64 o.m, .int .i64 o.e, .slice Bo o.b.length co] 68)).cell? ⟨w.heap.size, 2, none⟩ = some (.int .i64 o.m) ∧ (w.alloc (.cells #[.int .i64 1, .int .i64 o.n, .int .i64 o.m, .int .i64 o.e, .slice Bo o.b.length co] 68)).cell? ⟨w.heap.size, 3, none⟩ = some (.int .i64 o.e) := by
    refine ⟨?_, ?_, ?_⟩ <;> (rw [cell_of_row _ _ _ _ _ _ (heap_alloc_new w _)]; rfl)
  have HZ := Lib.hid (H.out.bel hax)
  have HRZ := Lib.hid (HR.out.below hax)
  have hpo : w.heap.size ≠ gd ∧ w.heap.size ≠ hd := ⟨fun e => by have := H.out.f.dk.lt; omega, fun e => by have := H.out.g.dk.lt; omega⟩
  have HPO := Lib.hid hpo
  have hpl : w.heap.size < (w.alloc (.cells #[.int .i64 1, .int .i64 o.n, .int .i64 o.m, .int .i64 o.e, .slice Bo o.b.length co] 68)).heap.size := by simp
  generalize w.alloc (.cells #[.int .i64 1, .int .i64 o.n, .int .i64 o.m, .int .i64 o.e, .slice Bo o.b.length co] 68) = Z at *
  generalize w.heap.size = po at *
  have HPL := Lib.hid hpl
  clear hax hpo hpl H HR
  clear y1 y2 y3
  refine (fappend_any HZ.out.f Bo n co bb HBL.out (by have := HBL.out; omega) HRZ.out).mono ?_
  rintro e w1 ⟨r, rfl, ha, hx⟩
  have HR1 := Lib.hid (HZ.out.rd HRZ.out (after_grown ha))
  obtain ⟨nb', ob', hb1⟩ := HZ.out.after ha
  have HB1 := Lib.hid hb1
  have HX := Lib.hid hx
  clear ha hb1 hx
  go_wp2_with fail
  refine (fappend_any HB1.out.g Bo n co bb HBL.out (by have := HBL.out; omega) HR1.out).mono ?_
  rintro e w2 ⟨r2, rfl, ha, hx⟩
  obtain ⟨nb3, ob3, hb2⟩ := HB1.out.swap.after ha
  have HB2 := Lib.hid hb2.swap
  have hT : turnK (some (kb, nc)) d.now.length bb = turned kb nc d.now.length bb := ctrT_turned H8.out _ _ (by rw [HS.out.len HSL.out]; have := HZ.out.g.dk.wf.now; have := HZ.out.g.dk.wf.most; omega) (by have := HBL.out; omega)
  have hA := HS.out.append HSL.out bb
  rw [hT] at HB2 HX
  obtain rfl : r2 = r := by rw [HX.out]; exact hx.trans hA.1.symm
  have HA := Lib.hid hA.2
  clear ha hb2 hx hT hA
  go_wp2
  go_ret
  exact ⟨rfl, _, _, _, _, _, _, HB2.out, HA.out⟩
set_option maxRecDepth 100000 in
set_option maxHeartbeats 4000000 in
theorem alike2 (h : Both w0 wk w gf gd nb ob d (some (kb, nc)) hf hd nb2 ob2 p none) (hs : See kb nc salt d p) (hsl : salt.length = 32) (h8 : nc.length = 8) (o : OpS) (Bo : Option Addr) (co : Nat) (hr : Rd w Bo o.b) (hc : o.b.length ≤ co) (hk : o.k = 2) :
    Calls Try.prog 34 #[.pointer (some ⟨gd, 0, none⟩), .pointer (some ⟨hd, 0, none⟩), .pointer (some ⟨gf, 0, none⟩), .pointer (some ⟨hf, 0, none⟩), opV o Bo co] w (AlikeP w0 wk gf gd hf hd kb nc salt) := by
  unfold opV
  rw [hk]
  have H := Lib.hid h
  have HS := Lib.hid hs
  have HSL := Lib.hid hsl
  have H8 := Lib.hid h8
  obtain ⟨n, hn⟩ : ∃ n : Nat, n = min o.b.length 300 := ⟨_, rfl⟩
  have hnm : (if (300 : Int) < o.b.length then 300 else (o.b.length : Int)) = n := by split <;> omega
  have hn1 : (n : Int) ≤ co := by omega
  have hn2 : n ≤ co := by omega
  have hn3 : n ≤ o.b.length := by omega
  have hn4 : n ≤ 300 := by omega
  clear hn
  obtain ⟨bb, hbb⟩ : ∃ bb, bb = o.b.take n := ⟨_, rfl⟩
  have hbl : n = bb.length := by rw [hbb, List.length_take]; omega
  have HBL := Lib.hid hbl
  have hrb : Rd w Bo bb := by rw [hbb]; exact rd_takeL hr n
  have HR := Lib.hid hrb
  clear hbb hbl hrb hr h hs hsl h8
  clear hk
  go_enter Try.func34, Try.ntmps34
  go_wp2_with fail
  have hax : Below w.heap.size w (w.alloc (.cells #[.int .i64 2, .int .i64 o.n, .int .i64 o.m, .int .i64 o.e, .slice Bo o.b.length co] 68)) := (Below.refl _ _).alloc (Nat.le_refl _) _
  obtain ⟨y1, y2, y3⟩ : (w.alloc (.cells #[.int .i64 2, .int .i64 o.n, .int .i64 o.m, .int .i64 o.e, .slice Bo o.b.length co] 68)).cell? ⟨w.heap.size, 1, none⟩ = some (.int .i64 o.n) ∧ (w.alloc (.cells #[.int .i64 2, .int .i64 o.n, .int .i64 o.m, .int .i64 o.e, .slice Bo o.b.length co] 68)).cell? ⟨w.heap.size, 2, none⟩ = some (.int .i64 o.m) ∧ (w.alloc (.cells #[.int .i64 2, .int .i64 o.n, .int .i64 o.m, .int .i64 o.e, .slice Bo o.b.length co] 68)).cell? ⟨w.heap.size, 3, none⟩ = some (.int .i64 o.e) := by
    refine ⟨?_, ?_, ?_⟩ <;> (rw [cell_of_row _ _ _ _ _ _ (heap_alloc_new w _)]; rfl)
  have HZ := Lib.hid (H.out.bel hax)
  have HRZ := Lib.hid (HR.out.below hax)
  have hpo : w.heap.size ≠ gd ∧ w.heap.size ≠ hd := ⟨fun e => by have := H.out.f.dk.lt; omega, fun e => by have := H.out.g.dk.lt; omega⟩
  have HPO := Lib.hid hpo
  have hpl : w.heap.size < (w.alloc (.cells #[.int .i64 2, .int .i64 o.n, .int .i64 o.m, .int .i64 o.e, .slice Bo o.b.length co] 68)).heap.size := by simp
  generalize w.alloc (.cells #[.int .i64 2, .int .i64 o.n, .int .i64 o.m, .int .i64 o.e, .slice Bo o.b.length co] 68) = Z at *
  generalize w.heap.size = po at *
  have HPL := Lib.hid hpl
  clear hax hpo hpl H HR
  clear y1 y2 y3
  refine (fsync_any HZ.out.f).mono ?_
  rintro e w1 ⟨r, rfl, ha, hx⟩
  obtain ⟨nb', ob', hb1⟩ := HZ.out.after ha
  have HB1 := Lib.hid hb1
  have HX := Lib.hid hx
  clear ha hb1 hx
  go_wp2_with fail
  refine (fsync_any HB1.out.g).mono ?_
  rintro e w2 ⟨r2, rfl, ha, hx⟩
  obtain ⟨nb3, ob3, hb2⟩ := HB1.out.swap.after ha
  have HB2 := Lib.hid hb2.swap
  have hA := HS.out.sync HSL.out
  obtain rfl : r2 = r := by rw [HX.out]; exact hx.trans hA.1.symm
  have HA := Lib.hid hA.2
  clear ha hb2 hx hA
  go_wp2
  go_ret
  exact ⟨rfl, _, _, _, _, _, _, HB2.out, HA.out⟩
set_option maxRecDepth 100000 in
set_option maxHeartbeats 4000000 in
theorem alike3 (h : Both w0 wk w gf gd nb ob d (some (kb, nc)) hf hd nb2 ob2 p none) (hs : See kb nc salt d p) (hsl : salt.length = 32) (h8 : nc.length = 8) (o : OpS) (Bo : Option Addr) (co : Nat) (hr : Rd w Bo o.b) (hc : o.b.length ≤ co) (hq1 : (Lit.int .i64 o.n).wf = true) (hq2 : (Lit.int .i64 o.m).wf = true) (hk : o.k = 3) :
    Calls Try.prog 34 #[.pointer (some ⟨gd, 0, none⟩), .pointer (some ⟨hd, 0, none⟩), .pointer (some ⟨gf, 0, none⟩), .pointer (some ⟨hf, 0, none⟩), opV o Bo co] w (AlikeP w0 wk gf gd hf hd kb nc salt) := by
  have b1 := i64_of_wf hq1
  have b2 := i64_of_wf hq2
  have hlen := hs.len hsl
  have hpn : p.now.length ≤ 3000 := by have := h.g.dk.wf.now; have := hs.pmost; omega
  clear hq1 hq2
  by_cases hno : o.n < 0 ∨ o.m < 0 ∨ (p.now.length : Int) < o.m ∨ (p.now.length : Int) - o.m < o.n
  · have HNO := Lib.hid hno
    have HLE := Lib.hid hlen
    clear hno hlen
    unfold opV
    rw [hk]
    have H := Lib.hid h
    have HS := Lib.hid hs
    have HSL := Lib.hid hsl
    have H8 := Lib.hid h8
    obtain ⟨n, hn⟩ : ∃ n : Nat, n = min o.b.length 300 := ⟨_, rfl⟩
    have hnm : (if (300 : Int) < o.b.length then 300 else (o.b.length : Int)) = n := by split <;> omega
    have hn1 : (n : Int) ≤ co := by omega
    have hn2 : n ≤ co := by omega
    have hn3 : n ≤ o.b.length := by omega
    have hn4 : n ≤ 300 := by omega
    clear hn
    obtain ⟨bb, hbb⟩ : ∃ bb, bb = o.b.take n := ⟨_, rfl⟩
    have hbl : n = bb.length := by rw [hbb, List.length_take]; omega
    have HBL := Lib.hid hbl
    have hrb : Rd w Bo bb := by rw [hbb]; exact rd_takeL hr n
    have HR := Lib.hid hrb
    clear hbb hbl hrb hr h hs hsl h8
    clear hk
    go_enter Try.func34, Try.ntmps34
    go_wp2_with fail
    have hax : Below w.heap.size w (w.alloc (.cells #[.int .i64 3, .int .i64 o.n, .int .i64 o.m, .int .i64 o.e, .slice Bo o.b.length co] 68)) := (Below.refl _ _).alloc (Nat.le_refl _) _
    obtain ⟨y1, y2, y3⟩ : (w.alloc (.cells #[.int .i64 3, .int .i64 o.n, .int .i64 o.m, .int .i64 o.e, .slice Bo o.b.length co] 68)).cell? ⟨w.heap.size, 1, none⟩ = some (.int .i64 o.n) ∧ (w.alloc (.cells #[.int .i64 3, .int .i64 o.n, .int .i64 o.m, .int .i64 o.e, .slice Bo o.b.length co] 68)).cell? ⟨w.heap.size, 2, none⟩ = some (.int .i64 o.m) ∧ (w.alloc (.cells #[.int .i64 3, .int .i64 o.n, .int .i64 o.m, .int .i64 o.e, .slice Bo o.b.length co] 68)).cell? ⟨w.heap.size, 3, none⟩ = some (.int .i64 o.e) := by
      refine ⟨?_, ?_, ?_⟩ <;> (rw [cell_of_row _ _ _ _ _ _ (heap_alloc_new w _)]; rfl)
    have HZ := Lib.hid (H.out.bel hax)
    have HRZ := Lib.hid (HR.out.below hax)
    have hpo : w.heap.size ≠ gd ∧ w.heap.size ≠ hd := ⟨fun e => by have := H.out.f.dk.lt; omega, fun e => by have := H.out.g.dk.lt; omega⟩
    have HPO := Lib.hid hpo
    have hpl : w.heap.size < (w.alloc (.cells #[.int .i64 3, .int .i64 o.n, .int .i64 o.m, .int .i64 o.e, .slice Bo o.b.length co] 68)).heap.size := by simp
    generalize w.alloc (.cells #[.int .i64 3, .int .i64 o.n, .int .i64 o.m, .int .i64 o.e, .slice Bo o.b.length co] 68) = Z at *
    generalize w.heap.size = po at *
    have HPL := Lib.hid hpl
    clear hax hpo hpl H HR
    refine (fread_no HZ.out.f o.n o.m b2.2 (by rw [HLE.out, show (32 + p.now.length - fromK (some (kb, nc)) : Nat) = p.now.length by show 32 + p.now.length - 32 = _; omega]; exact HNO.out)).mono ?_
    rintro e w1 ⟨rfl, hb⟩
    have z1 := (hb.cell (p := ⟨po, 1, none⟩) HPL.out).trans y1
    have z2 := (hb.cell (p := ⟨po, 2, none⟩) HPL.out).trans y2
    have HB1 := Lib.hid (HZ.out.bel hb)
    clear hb y1 y2 y3
    go_wp2_with fail
    refine (fread_no HB1.out.g o.n o.m b2.2 (by rw [show (p.now.length - fromK none : Nat) = p.now.length from Nat.sub_zero _]; exact HNO.out)).mono ?_
    rintro e w2 ⟨rfl, hb⟩
    have HB2 := Lib.hid (HB1.out.bel hb)
    clear hb z1 z2
    go_wp2_with fail
    refine (same_yes none none 0 0 0 0 [] w2 rfl rfl Rd.nil Rd.nil (by simp)).mono ?_
    rintro e w3 ⟨rfl, hb⟩
    have HB3 := Lib.hid (HB2.out.bel hb)
    clear hb
    go_wp2
    go_ret
    exact ⟨rfl, _, _, _, _, _, _, HB3.out, HS.out⟩
  · obtain ⟨a, ha⟩ : ∃ a : Nat, o.n = a := ⟨o.n.toNat, by omega⟩
    obtain ⟨m, hm⟩ : ∃ m : Nat, o.m = m := ⟨o.m.toNat, by omega⟩
    have ham : a + m ≤ p.now.length := by omega
    have HAM := Lib.hid ham
    have HLE := Lib.hid hlen
    have HAA := Lib.hid ha
    have HMM := Lib.hid hm
    have HPN := Lib.hid hpn
    clear hno hlen ham ha hm b1 b2 hpn
    unfold opV
    rw [hk]
    have H := Lib.hid h
    have HS := Lib.hid hs
    have HSL := Lib.hid hsl
    have H8 := Lib.hid h8
    obtain ⟨n, hn⟩ : ∃ n : Nat, n = min o.b.length 300 := ⟨_, rfl⟩
    have hnm : (if (300 : Int) < o.b.length then 300 else (o.b.length : Int)) = n := by split <;> omega
    have hn1 : (n : Int) ≤ co := by omega
    have hn2 : n ≤ co := by omega
    have hn3 : n ≤ o.b.length := by omega
    have hn4 : n ≤ 300 := by omega
    clear hn
    obtain ⟨bb, hbb⟩ : ∃ bb, bb = o.b.take n := ⟨_, rfl⟩
    have hbl : n = bb.length := by rw [hbb, List.length_take]; omega
    have HBL := Lib.hid hbl
    have hrb : Rd w Bo bb := by rw [hbb]; exact rd_takeL hr n
    have HR := Lib.hid hrb
    clear hbb hbl hrb hr h hs hsl h8
    clear hk
    go_enter Try.func34, Try.ntmps34
    go_wp2_with fail
    have hax : Below w.heap.size w (w.alloc (.cells #[.int .i64 3, .int .i64 o.n, .int .i64 o.m, .int .i64 o.e, .slice Bo o.b.length co] 68)) := (Below.refl _ _).alloc (Nat.le_refl _) _
    obtain ⟨y1, y2, y3⟩ : (w.alloc (.cells #[.int .i64 3, .int .i64 o.n, .int .i64 o.m, .int .i64 o.e, .slice Bo o.b.length co] 68)).cell? ⟨w.heap.size, 1, none⟩ = some (.int .i64 o.n) ∧ (w.alloc (.cells #[.int .i64 3, .int .i64 o.n, .int .i64 o.m, .int .i64 o.e, .slice Bo o.b.length co] 68)).cell? ⟨w.heap.size, 2, none⟩ = some (.int .i64 o.m) ∧ (w.alloc (.cells #[.int .i64 3, .int .i64 o.n, .int .i64 o.m, .int .i64 o.e, .slice Bo o.b.length co] 68)).cell? ⟨w.heap.size, 3, none⟩ = some (.int .i64 o.e) := by
      refine ⟨?_, ?_, ?_⟩ <;> (rw [cell_of_row _ _ _ _ _ _ (heap_alloc_new w _)]; rfl)
    have HZ := Lib.hid (H.out.bel hax)
    have HRZ := Lib.hid (HR.out.below hax)
    have hpo : w.heap.size ≠ gd ∧ w.heap.size ≠ hd := ⟨fun e => by have := H.out.f.dk.lt; omega, fun e => by have := H.out.g.dk.lt; omega⟩
    have HPO := Lib.hid hpo
    have hpl : w.heap.size < (w.alloc (.cells #[.int .i64 3, .int .i64 o.n, .int .i64 o.m, .int .i64 o.e, .slice Bo o.b.length co] 68)).heap.size := by simp
    generalize w.alloc (.cells #[.int .i64 3, .int .i64 o.n, .int .i64 o.m, .int .i64 o.e, .slice Bo o.b.length co] 68) = Z at *
    generalize w.heap.size = po at *
    have HPL := Lib.hid hpl
    clear hax hpo hpl H HR
    rw [HAA.out] at y1 ⊢
    rw [HMM.out] at y2 ⊢
    refine (fread_any HZ.out.f a m (by rw [HLE.out]; show 32 + a + m ≤ _; have := HAM.out; omega)).mono ?_
    rintro e w1 ⟨A1, c1, L1, rfl, hr1, hl0, hln, hd1, hg1⟩
    have z1 := (grown_cell (p := ⟨po, 1, none⟩) hg1 HPL.out HPO.out.1).trans y1
    have z2 := (grown_cell (p := ⟨po, 2, none⟩) hg1 HPL.out HPO.out.1).trans y2
    have HB1 := Lib.hid (HZ.out.same hd1 hg1)
    have HR1 := Lib.hid hr1
    have HL0 := Lib.hid hl0
    have HLN := Lib.hid hln
    clear hr1 hl0 hln hd1 hg1 y1 y2 y3
    generalize hx : (d.op fun d => ((0 : Int), d)).1 = x at *
    have HX := Lib.hid hx
    clear hx
    go_wp2_with fail
    refine (fread_any HB1.out.g a m (by show 0 + a + m ≤ _; have := HAM.out; omega)).mono ?_
    rintro e w2 ⟨A2, c2, L2, rfl, hr2, hl0, hln, hd2, hg2⟩
    rw [← HS.out.read, HX.out] at hl0 hln ⊢
    have hLL : L2 = L1 := by
      by_cases e : x = 0
      · rw [hl0 e, (HL0.out) e]
        show readL p (0 + a) m = ctrT kb nc ((32 + a : Nat) : Int) (readL d (32 + a) m)
        have hq := HS.out.readL HSL.out a m
        have hlm : (readL d (32 + a) m).length ≤ 4194304 := by
          have := HPN.out
          have hq2 : (turned kb nc (32 + a) (readL d (32 + a) m)).length = (readL p a m).length := by rw [hq]
          rw [turned_length] at hq2
          rw [hq2]
          unfold readL
          split
          · rw [List.length_take, List.length_drop]; omega
          · simp
        rw [ctrT_turned H8.out (32 + a) _ (by have := HPN.out; have := HAM.out; omega) hlm, hq, Nat.zero_add]
      · rw [hln e, HLN.out e]
    subst hLL
    have hr1 := HB1.out.swap.rd HR1.out hg2
    have HB2 := Lib.hid (HB1.out.swap.same hd2 hg2).swap
    have hlm : L2.length ≤ 9223372036854775807 := by
      by_cases e : x = 0
      · rw [hl0 e]
        show (readL p (0 + a) m).length ≤ _
        unfold readL
        split
        · rw [List.length_take, List.length_drop]; have := HPN.out; omega
        · simp
      · rw [hln e]; simp
    have HRA := Lib.hid hr1
    have HRB := Lib.hid hr2
    have HPRE := Lib.hid HS.out.pre.2
    clear hr1 hr2 hl0 hln hd2 hg2 z1 z2 HR1 HL0 HLN HX
    go_wp2_with fail
    refine (same_yes A1 A2 L2.length L2.length c1 c2 L2 w2 rfl rfl HRA.out HRB.out hlm).mono ?_
    rintro e w3 ⟨rfl, hb⟩
    have HB3 := Lib.hid (HB2.out.bel hb)
    clear hb
    go_wp2
    go_ret
    exact ⟨rfl, _, _, _, _, _, _, HB3.out, HPRE.out⟩
set_option maxRecDepth 100000 in
set_option maxHeartbeats 4000000 in
theorem alike4 (h : Both w0 wk w gf gd nb ob d (some (kb, nc)) hf hd nb2 ob2 p none) (hs : See kb nc salt d p) (hsl : salt.length = 32) (h8 : nc.length = 8) (o : OpS) (Bo : Option Addr) (co : Nat) (hr : Rd w Bo o.b) (hc : o.b.length ≤ co) (hk : o.k = 4) :
    Calls Try.prog 34 #[.pointer (some ⟨gd, 0, none⟩), .pointer (some ⟨hd, 0, none⟩), .pointer (some ⟨gf, 0, none⟩), .pointer (some ⟨hf, 0, none⟩), opV o Bo co] w (AlikeP w0 wk gf gd hf hd kb nc salt) := by
  have hlen := hs.len hsl
  by_cases hno : o.n < 0 ∨ (p.now.length : Int) < o.n
  · have HN1 : Hid (o.n < 0 ∨ ((d.now.length - fromK (some (kb, nc)) : Nat) : Int) < o.n) := by rw [hlen, show (32 + p.now.length - fromK (some (kb, nc)) : Nat) = p.now.length by show 32 + p.now.length - 32 = _; omega]; exact hno
    have HN2 : Hid (o.n < 0 ∨ ((p.now.length - fromK none : Nat) : Int) < o.n) := hno
    clear hno hlen
    unfold opV
    rw [hk]
    have H := Lib.hid h
    have HS := Lib.hid hs
    have HSL := Lib.hid hsl
    have H8 := Lib.hid h8
    obtain ⟨n, hn⟩ : ∃ n : Nat, n = min o.b.length 300 := ⟨_, rfl⟩
    have hnm : (if (300 : Int) < o.b.length then 300 else (o.b.length : Int)) = n := by split <;> omega
    have hn1 : (n : Int) ≤ co := by omega
    have hn2 : n ≤ co := by omega
    have hn3 : n ≤ o.b.length := by omega
    have hn4 : n ≤ 300 := by omega
    clear hn
    obtain ⟨bb, hbb⟩ : ∃ bb, bb = o.b.take n := ⟨_, rfl⟩
    have hbl : n = bb.length := by rw [hbb, List.length_take]; omega
    have HBL := Lib.hid hbl
    have hrb : Rd w Bo bb := by rw [hbb]; exact rd_takeL hr n
    have HR := Lib.hid hrb
    clear hbb hbl hrb hr h hs hsl h8
    clear hk
    go_enter Try.func34, Try.ntmps34
    go_wp2_with fail
    have hax : Below w.heap.size w (w.alloc (.cells #[.int .i64 4, .int .i64 o.n, .int .i64 o.m, .int .i64 o.e, .slice Bo o.b.length co] 68)) := (Below.refl _ _).alloc (Nat.le_refl _) _
    obtain ⟨y1, y2, y3⟩ : (w.alloc (.cells #[.int .i64 4, .int .i64 o.n, .int .i64 o.m, .int .i64 o.e, .slice Bo o.b.length co] 68)).cell? ⟨w.heap.size, 1, none⟩ = some (.int .i64 o.n) ∧ (w.alloc (.cells #[.int .i64 4, .int .i64 o.n, .int .i64 o.m, .int .i64 o.e, .slice Bo o.b.length co] 68)).cell? ⟨w.heap.size, 2, none⟩ = some (.int .i64 o.m) ∧ (w.alloc (.cells #[.int .i64 4, .int .i64 o.n, .int .i64 o.m, .int .i64 o.e, .slice Bo o.b.length co] 68)).cell? ⟨w.heap.size, 3, none⟩ = some (.int .i64 o.e) := by
      refine ⟨?_, ?_, ?_⟩ <;> (rw [cell_of_row _ _ _ _ _ _ (heap_alloc_new w _)]; rfl)
    have HZ := Lib.hid (H.out.bel hax)
    have HRZ := Lib.hid (HR.out.below hax)
    have hpo : w.heap.size ≠ gd ∧ w.heap.size ≠ hd := ⟨fun e => by have := H.out.f.dk.lt; omega, fun e => by have := H.out.g.dk.lt; omega⟩
    have HPO := Lib.hid hpo
    have hpl : w.heap.size < (w.alloc (.cells #[.int .i64 4, .int .i64 o.n, .int .i64 o.m, .int .i64 o.e, .slice Bo o.b.length co] 68)).heap.size := by simp
    generalize w.alloc (.cells #[.int .i64 4, .int .i64 o.n, .int .i64 o.m, .int .i64 o.e, .slice Bo o.b.length co] 68) = Z at *
    generalize w.heap.size = po at *
    have HPL := Lib.hid hpl
    clear hax hpo hpl H HR
    have HBD : Hid (Below Z.heap.size Z Z.drew) := below_drewN' (Below.refl _ _) 1
    have HZ1 := Lib.hid (HZ.out.bel HBD.out)
    go_region_held3 (fun W => W.cell? ⟨po, 1, none⟩ = some (.int .i64 o.n))
      (first | with_reducible exact y1 | with_reducible exact Y2.out | with_reducible exact Y3.out | exact y1)
      (first
        | (go_at_call 23; ((with_reducible refine (ftrunc_no HZ1.out.f o.n HN1.out).mono ?_); rintro e w1 ⟨rfl, hb⟩)
           have hb' : Below Z.heap.size Z w1 := HBD.out.trans hb
           have Y2 : Hid (w1.cell? ⟨po, 1, none⟩ = some (.int .i64 o.n)) := (hb'.cell (p := ⟨po, 1, none⟩) HPL.out).trans y1
           have HB1 := Lib.hid (HZ1.out.bel hb)
           clear hb hb')
        | (go_at_call 23; ((with_reducible refine (ftrunc_no HB1.out.g o.n HN2.out).mono ?_); rintro e w2 ⟨rfl, hb⟩)
           have Y3 : Hid (w2.cell? ⟨po, 1, none⟩ = some (.int .i64 o.n)) := (hb.cell (p := ⟨po, 1, none⟩) (block_lt_of_cell Y2.out)).trans Y2.out
           have HB2 := Lib.hid (HB1.out.bel hb)
           clear hb))
    all_goals
      go_wp2
      go_ret
      exact ⟨rfl, _, _, _, _, _, _, HB2.out, HS.out⟩
  · obtain ⟨a, ha⟩ : ∃ a : Nat, o.n = a := ⟨o.n.toNat, by omega⟩
    have ham : a ≤ p.now.length := by omega
    have HAM := Lib.hid ham
    have hta : fromK (some (kb, nc)) + a ≤ d.now.length := by rw [hlen]; show 32 + a ≤ _; omega
    have htb : fromK none + a ≤ p.now.length := by show 0 + a ≤ _; omega
    have HTA := Lib.hid hta
    have HTB := Lib.hid htb
    have HAA := Lib.hid ha
    clear hno hlen ham ha hta htb
    unfold opV
    rw [hk]
    have H := Lib.hid h
    have HS := Lib.hid hs
    have HSL := Lib.hid hsl
    have H8 := Lib.hid h8
    obtain ⟨n, hn⟩ : ∃ n : Nat, n = min o.b.length 300 := ⟨_, rfl⟩
    have hnm : (if (300 : Int) < o.b.length then 300 else (o.b.length : Int)) = n := by split <;> omega
    have hn1 : (n : Int) ≤ co := by omega
    have hn2 : n ≤ co := by omega
    have hn3 : n ≤ o.b.length := by omega
    have hn4 : n ≤ 300 := by omega
    clear hn
    obtain ⟨bb, hbb⟩ : ∃ bb, bb = o.b.take n := ⟨_, rfl⟩
    have hbl : n = bb.length := by rw [hbb, List.length_take]; omega
    have HBL := Lib.hid hbl
    have hrb : Rd w Bo bb := by rw [hbb]; exact rd_takeL hr n
    have HR := Lib.hid hrb
    clear hbb hbl hrb hr h hs hsl h8
    clear hk
    go_enter Try.func34, Try.ntmps34
    go_wp2_with fail
    have hax : Below w.heap.size w (w.alloc (.cells #[.int .i64 4, .int .i64 o.n, .int .i64 o.m, .int .i64 o.e, .slice Bo o.b.length co] 68)) := (Below.refl _ _).alloc (Nat.le_refl _) _
    obtain ⟨y1, y2, y3⟩ : (w.alloc (.cells #[.int .i64 4, .int .i64 o.n, .int .i64 o.m, .int .i64 o.e, .slice Bo o.b.length co] 68)).cell? ⟨w.heap.size, 1, none⟩ = some (.int .i64 o.n) ∧ (w.alloc (.cells #[.int .i64 4, .int .i64 o.n, .int .i64 o.m, .int .i64 o.e, .slice Bo o.b.length co] 68)).cell? ⟨w.heap.size, 2, none⟩ = some (.int .i64 o.m) ∧ (w.alloc (.cells #[.int .i64 4, .int .i64 o.n, .int .i64 o.m, .int .i64 o.e, .slice Bo o.b.length co] 68)).cell? ⟨w.heap.size, 3, none⟩ = some (.int .i64 o.e) := by
      refine ⟨?_, ?_, ?_⟩ <;> (rw [cell_of_row _ _ _ _ _ _ (heap_alloc_new w _)]; rfl)
    have HZ := Lib.hid (H.out.bel hax)
    have HRZ := Lib.hid (HR.out.below hax)
    have hpo : w.heap.size ≠ gd ∧ w.heap.size ≠ hd := ⟨fun e => by have := H.out.f.dk.lt; omega, fun e => by have := H.out.g.dk.lt; omega⟩
    have HPO := Lib.hid hpo
    have hpl : w.heap.size < (w.alloc (.cells #[.int .i64 4, .int .i64 o.n, .int .i64 o.m, .int .i64 o.e, .slice Bo o.b.length co] 68)).heap.size := by simp
    generalize w.alloc (.cells #[.int .i64 4, .int .i64 o.n, .int .i64 o.m, .int .i64 o.e, .slice Bo o.b.length co] 68) = Z at *
    generalize w.heap.size = po at *
    have HPL := Lib.hid hpl
    clear hax hpo hpl H HR
    have HBD : Hid (Below Z.heap.size Z Z.drew) := below_drewN' (Below.refl _ _) 1
    have HZ1 := Lib.hid (HZ.out.bel HBD.out)
    rw [HAA.out] at y1
    go_region_held3 (fun W => W.cell? ⟨po, 1, none⟩ = some (.int .i64 a))
      (first | with_reducible exact y1 | with_reducible exact Y2.out | with_reducible exact Y3.out | exact y1)
      (first
        | (go_at_call 23; ((with_reducible refine (ftrunc_any HZ1.out.f a HTA.out).mono ?_); rintro e w1 ⟨r, rfl, ha, hx⟩)
           have hg1 := nil_grown (grown_of_below HBD.out _) (after_grown ha)
           have Y2 : Hid (w1.cell? ⟨po, 1, none⟩ = some (.int .i64 a)) := (grown_cell (p := ⟨po, 1, none⟩) hg1 HPL.out HPO.out.1).trans y1
           obtain ⟨nb', ob', hb1⟩ := HZ1.out.after ha
           have HB1 := Lib.hid hb1
           have HX := Lib.hid hx
           clear ha hb1 hx hg1)
        | (go_at_call 23; ((with_reducible refine (ftrunc_any HB1.out.g a HTB.out).mono ?_); rintro e w2 ⟨r2, rfl, ha, hx⟩)
           have Y3 : Hid (w2.cell? ⟨po, 1, none⟩ = some (.int .i64 a)) := (grown_cell (p := ⟨po, 1, none⟩) (after_grown ha) (block_lt_of_cell Y2.out) HPO.out.2).trans Y2.out
           obtain ⟨nb3, ob3, hb2⟩ := HB1.out.swap.after ha
           have HB2 := Lib.hid hb2.swap
           have hA := HS.out.trunc HSL.out a HAM.out
           rw [show fromK none + a = a from Nat.zero_add a] at HB2 hx
           obtain rfl : r2 = r := by rw [HX.out]; exact hx.trans hA.1.symm
           have HA := Lib.hid hA.2
           clear ha hb2 hx hA))
    all_goals
      go_wp2
      go_ret
      exact ⟨rfl, _, _, _, _, _, _, HB2.out, HA.out⟩
set_option maxRecDepth 100000 in
set_option maxHeartbeats 4000000 in
theorem alike5 (h : Both w0 wk w gf gd nb ob d (some (kb, nc)) hf hd nb2 ob2 p none) (hs : See kb nc salt d p) (hsl : salt.length = 32) (h8 : nc.length = 8) (o : OpS) (Bo : Option Addr) (co : Nat) (hr : Rd w Bo o.b) (hc : o.b.length ≤ co) (hq1 : (Lit.int .i64 o.n).wf = true) (hk : o.k = 5) :
    Calls Try.prog 34 #[.pointer (some ⟨gd, 0, none⟩), .pointer (some ⟨hd, 0, none⟩), .pointer (some ⟨gf, 0, none⟩), .pointer (some ⟨hf, 0, none⟩), opV o Bo co] w (AlikeP w0 wk gf gd hf hd kb nc salt) := by
  have b1 := i64_of_wf hq1
  clear hq1
  by_cases hno : o.n < 0
  · have HN := Lib.hid hno
    clear hno
    unfold opV
    rw [hk]
    have H := Lib.hid h
    have HS := Lib.hid hs
    have HSL := Lib.hid hsl
    have H8 := Lib.hid h8
    obtain ⟨n, hn⟩ : ∃ n : Nat, n = min o.b.length 300 := ⟨_, rfl⟩
    have hnm : (if (300 : Int) < o.b.length then 300 else (o.b.length : Int)) = n := by split <;> omega
    have hn1 : (n : Int) ≤ co := by omega
    have hn2 : n ≤ co := by omega
    have hn3 : n ≤ o.b.length := by omega
    have hn4 : n ≤ 300 := by omega
    clear hn
    obtain ⟨bb, hbb⟩ : ∃ bb, bb = o.b.take n := ⟨_, rfl⟩
    have hbl : n = bb.length := by rw [hbb, List.length_take]; omega
    have HBL := Lib.hid hbl
    have hrb : Rd w Bo bb := by rw [hbb]; exact rd_takeL hr n
    have HR := Lib.hid hrb
    clear hbb hbl hrb hr h hs hsl h8
    clear hk
    go_enter Try.func34, Try.ntmps34
    go_wp2_with fail
    have hax : Below w.heap.size w (w.alloc (.cells #[.int .i64 5, .int .i64 o.n, .int .i64 o.m, .int .i64 o.e, .slice Bo o.b.length co] 68)) := (Below.refl _ _).alloc (Nat.le_refl _) _
    obtain ⟨y1, y2, y3⟩ : (w.alloc (.cells #[.int .i64 5, .int .i64 o.n, .int .i64 o.m, .int .i64 o.e, .slice Bo o.b.length co] 68)).cell? ⟨w.heap.size, 1, none⟩ = some (.int .i64 o.n) ∧ (w.alloc (.cells #[.int .i64 5, .int .i64 o.n, .int .i64 o.m, .int .i64 o.e, .slice Bo o.b.length co] 68)).cell? ⟨w.heap.size, 2, none⟩ = some (.int .i64 o.m) ∧ (w.alloc (.cells #[.int .i64 5, .int .i64 o.n, .int .i64 o.m, .int .i64 o.e, .slice Bo o.b.length co] 68)).cell? ⟨w.heap.size, 3, none⟩ = some (.int .i64 o.e) := by
      refine ⟨?_, ?_, ?_⟩ <;> (rw [cell_of_row _ _ _ _ _ _ (heap_alloc_new w _)]; rfl)
    have HZ := Lib.hid (H.out.bel hax)
    have HRZ := Lib.hid (HR.out.below hax)
    have hpo : w.heap.size ≠ gd ∧ w.heap.size ≠ hd := ⟨fun e => by have := H.out.f.dk.lt; omega, fun e => by have := H.out.g.dk.lt; omega⟩
    have HPO := Lib.hid hpo
    have hpl : w.heap.size < (w.alloc (.cells #[.int .i64 5, .int .i64 o.n, .int .i64 o.m, .int .i64 o.e, .slice Bo o.b.length co] 68)).heap.size := by simp
    generalize w.alloc (.cells #[.int .i64 5, .int .i64 o.n, .int .i64 o.m, .int .i64 o.e, .slice Bo o.b.length co] 68) = Z at *
    generalize w.heap.size = po at *
    have HPL := Lib.hid hpl
    clear hax hpo hpl H HR
    have HBD : Hid (Below Z.heap.size Z Z.drew) := below_drewN' (Below.refl _ _) 1
    have HZ1 := Lib.hid (HZ.out.bel HBD.out)
    go_region_held3 (fun W => W.cell? ⟨po, 1, none⟩ = some (.int .i64 o.n))
      (first | with_reducible exact y1 | with_reducible exact Y2.out | with_reducible exact Y3.out | exact y1)
      (first
        | (go_at_call 65; ((with_reducible refine (arm_no HZ1.out.f.dk o.n HN.out).mono ?_); rintro e w1 ⟨rfl, rfl⟩)
           have Y2 : Hid (Z.drew.cell? ⟨po, 1, none⟩ = some (.int .i64 o.n)) := y1
           have HB1 := Lib.hid HZ1.out)
        | (go_at_call 65; ((with_reducible refine (arm_no HB1.out.g.dk o.n HN.out).mono ?_); rintro e w2 ⟨rfl, rfl⟩)
           have Y3 : Hid (Z.drew.cell? ⟨po, 1, none⟩ = some (.int .i64 o.n)) := y1
           have HB2 := Lib.hid HB1.out))
    all_goals
      go_wp2
      go_ret
      exact ⟨rfl, _, _, _, _, _, _, HB2.out, HS.out⟩
  · have HN := Lib.hid (And.intro (show 0 ≤ o.n by omega) b1.2)
    clear hno
    unfold opV
    rw [hk]
    have H := Lib.hid h
    have HS := Lib.hid hs
    have HSL := Lib.hid hsl
    have H8 := Lib.hid h8
    obtain ⟨n, hn⟩ : ∃ n : Nat, n = min o.b.length 300 := ⟨_, rfl⟩
    have hnm : (if (300 : Int) < o.b.length then 300 else (o.b.length : Int)) = n := by split <;> omega
    have hn1 : (n : Int) ≤ co := by omega
    have hn2 : n ≤ co := by omega
    have hn3 : n ≤ o.b.length := by omega
    have hn4 : n ≤ 300 := by omega
    clear hn
    obtain ⟨bb, hbb⟩ : ∃ bb, bb = o.b.take n := ⟨_, rfl⟩
    have hbl : n = bb.length := by rw [hbb, List.length_take]; omega
    have HBL := Lib.hid hbl
    have hrb : Rd w Bo bb := by rw [hbb]; exact rd_takeL hr n
    have HR := Lib.hid hrb
    clear hbb hbl hrb hr h hs hsl h8
    clear hk
    go_enter Try.func34, Try.ntmps34
    go_wp2_with fail
    have hax : Below w.heap.size w (w.alloc (.cells #[.int .i64 5, .int .i64 o.n, .int .i64 o.m, .int .i64 o.e, .slice Bo o.b.length co] 68)) := (Below.refl _ _).alloc (Nat.le_refl _) _
    obtain ⟨y1, y2, y3⟩ : (w.alloc (.cells #[.int .i64 5, .int .i64 o.n, .int .i64 o.m, .int .i64 o.e, .slice Bo o.b.length co] 68)).cell? ⟨w.heap.size, 1, none⟩ = some (.int .i64 o.n) ∧ (w.alloc (.cells #[.int .i64 5, .int .i64 o.n, .int .i64 o.m, .int .i64 o.e, .slice Bo o.b.length co] 68)).cell? ⟨w.heap.size, 2, none⟩ = some (.int .i64 o.m) ∧ (w.alloc (.cells #[.int .i64 5, .int .i64 o.n, .int .i64 o.m, .int .i64 o.e, .slice Bo o.b.length co] 68)).cell? ⟨w.heap.size, 3, none⟩ = some (.int .i64 o.e) := by
      refine ⟨?_, ?_, ?_⟩ <;> (rw [cell_of_row _ _ _ _ _ _ (heap_alloc_new w _)]; rfl)
    have HZ := Lib.hid (H.out.bel hax)
    have HRZ := Lib.hid (HR.out.below hax)
    have hpo : w.heap.size ≠ gd ∧ w.heap.size ≠ hd := ⟨fun e => by have := H.out.f.dk.lt; omega, fun e => by have := H.out.g.dk.lt; omega⟩
    have HPO := Lib.hid hpo
    have hpl : w.heap.size < (w.alloc (.cells #[.int .i64 5, .int .i64 o.n, .int .i64 o.m, .int .i64 o.e, .slice Bo o.b.length co] 68)).heap.size := by simp
    generalize w.alloc (.cells #[.int .i64 5, .int .i64 o.n, .int .i64 o.m, .int .i64 o.e, .slice Bo o.b.length co] 68) = Z at *
    generalize w.heap.size = po at *
    have HPL := Lib.hid hpl
    clear hax hpo hpl H HR
    have HBD : Hid (Below Z.heap.size Z Z.drew) := below_drewN' (Below.refl _ _) 1
    have HZ1 := Lib.hid (HZ.out.bel HBD.out)
    go_region_held3 (fun W => W.cell? ⟨po, 1, none⟩ = some (.int .i64 o.n))
      (first | with_reducible exact y1 | with_reducible exact Y2.out | with_reducible exact Y3.out | exact y1)
      (first
        | (go_at_call 65; ((with_reducible refine (arm_any HZ1.out.f.dk o.n HN.out.1 HN.out.2).mono ?_); rintro e w1 ⟨rfl, hd1, hg0⟩)
           have hg1 := nil_grown (grown_of_below HBD.out _) hg0
           have Y2 : Hid (w1.cell? ⟨po, 1, none⟩ = some (.int .i64 o.n)) := (grown_cell (p := ⟨po, 1, none⟩) hg1 HPL.out HPO.out.1).trans y1
           have HB1 := Lib.hid (HZ1.out.same hd1 hg0)
           clear hd1 hg0 hg1)
        | (go_at_call 65; ((with_reducible refine (arm_any HB1.out.g.dk o.n HN.out.1 HN.out.2).mono ?_); rintro e w2 ⟨rfl, hd2, hg2⟩)
           have Y3 : Hid (w2.cell? ⟨po, 1, none⟩ = some (.int .i64 o.n)) := (grown_cell (p := ⟨po, 1, none⟩) hg2 (block_lt_of_cell Y2.out) HPO.out.2).trans Y2.out
           have HB2 := Lib.hid (HB1.out.swap.same hd2 hg2).swap
           have HA := Lib.hid (HS.out.arm o.n)
           clear hd2 hg2))
    all_goals
      go_wp2
      go_ret
      exact ⟨rfl, _, _, _, _, _, _, HB2.out, HA.out⟩
set_option maxRecDepth 100000 in
set_option maxHeartbeats 4000000 in
theorem alike6 (h : Both w0 wk w gf gd nb ob d (some (kb, nc)) hf hd nb2 ob2 p none) (hs : See kb nc salt d p) (hsl : salt.length = 32) (h8 : nc.length = 8) (o : OpS) (Bo : Option Addr) (co : Nat) (hr : Rd w Bo o.b) (hc : o.b.length ≤ co) (hq1 : (Lit.int .i64 o.n).wf = true) (hk : o.k = 6) :
    Calls Try.prog 34 #[.pointer (some ⟨gd, 0, none⟩), .pointer (some ⟨hd, 0, none⟩), .pointer (some ⟨gf, 0, none⟩), .pointer (some ⟨hf, 0, none⟩), opV o Bo co] w (AlikeP w0 wk gf gd hf hd kb nc salt) := by
  have b1 := i64_of_wf hq1
  clear hq1
  by_cases hno : failB o.n o.e = true
  · have HN := Lib.hid hno
    clear hno
    unfold opV
    rw [hk]
    have H := Lib.hid h
    have HS := Lib.hid hs
    have HSL := Lib.hid hsl
    have H8 := Lib.hid h8
    obtain ⟨n, hn⟩ : ∃ n : Nat, n = min o.b.length 300 := ⟨_, rfl⟩
    have hnm : (if (300 : Int) < o.b.length then 300 else (o.b.length : Int)) = n := by split <;> omega
    have hn1 : (n : Int) ≤ co := by omega
    have hn2 : n ≤ co := by omega
    have hn3 : n ≤ o.b.length := by omega
    have hn4 : n ≤ 300 := by omega
    clear hn
    obtain ⟨bb, hbb⟩ : ∃ bb, bb = o.b.take n := ⟨_, rfl⟩
    have hbl : n = bb.length := by rw [hbb, List.length_take]; omega
    have HBL := Lib.hid hbl
    have hrb : Rd w Bo bb := by rw [hbb]; exact rd_takeL hr n
    have HR := Lib.hid hrb
    clear hbb hbl hrb hr h hs hsl h8
    clear hk
    go_enter Try.func34, Try.ntmps34
    go_wp2_with fail
    have hax : Below w.heap.size w (w.alloc (.cells #[.int .i64 6, .int .i64 o.n, .int .i64 o.m, .int .i64 o.e, .slice Bo o.b.length co] 68)) := (Below.refl _ _).alloc (Nat.le_refl _) _
    obtain ⟨y1, y2, y3⟩ : (w.alloc (.cells #[.int .i64 6, .int .i64 o.n, .int .i64 o.m, .int .i64 o.e, .slice Bo o.b.length co] 68)).cell? ⟨w.heap.size, 1, none⟩ = some (.int .i64 o.n) ∧ (w.alloc (.cells #[.int .i64 6, .int .i64 o.n, .int .i64 o.m, .int .i64 o.e, .slice Bo o.b.length co] 68)).cell? ⟨w.heap.size, 2, none⟩ = some (.int .i64 o.m) ∧ (w.alloc (.cells #[.int .i64 6, .int .i64 o.n, .int .i64 o.m, .int .i64 o.e, .slice Bo o.b.length co] 68)).cell? ⟨w.heap.size, 3, none⟩ = some (.int .i64 o.e) := by
      refine ⟨?_, ?_, ?_⟩ <;> (rw [cell_of_row _ _ _ _ _ _ (heap_alloc_new w _)]; rfl)
    have HZ := Lib.hid (H.out.bel hax)
    have HRZ := Lib.hid (HR.out.below hax)
    have hpo : w.heap.size ≠ gd ∧ w.heap.size ≠ hd := ⟨fun e => by have := H.out.f.dk.lt; omega, fun e => by have := H.out.g.dk.lt; omega⟩
    have HPO := Lib.hid hpo
    have hpl : w.heap.size < (w.alloc (.cells #[.int .i64 6, .int .i64 o.n, .int .i64 o.m, .int .i64 o.e, .slice Bo o.b.length co] 68)).heap.size := by simp
    generalize w.alloc (.cells #[.int .i64 6, .int .i64 o.n, .int .i64 o.m, .int .i64 o.e, .slice Bo o.b.length co] 68) = Z at *
    generalize w.heap.size = po at *
    have HPL := Lib.hid hpl
    clear hax hpo hpl H HR
    have HBD : Hid (Below Z.heap.size Z Z.drew) := below_drewN' (Below.refl _ _) 1
    have HZ1 := Lib.hid (HZ.out.bel HBD.out)
    go_region_held3 (fun W => W.cell? ⟨po, 1, none⟩ = some (.int .i64 o.n) ∧ W.cell? ⟨po, 3, none⟩ = some (.int .i64 o.e))
      (first | with_reducible exact ⟨y1, y3⟩ | with_reducible exact Y2.out | with_reducible exact Y3.out | exact ⟨y1, y3⟩)
      (first
        | (go_at_call 30; ((with_reducible refine (fail_no HZ1.out.f.dk o.n o.e HN.out).mono ?_); rintro e w1 ⟨rfl, rfl⟩)
           have Y2 : Hid (Z.drew.cell? ⟨po, 1, none⟩ = some (.int .i64 o.n) ∧ Z.drew.cell? ⟨po, 3, none⟩ = some (.int .i64 o.e)) := ⟨y1, y3⟩
           have HB1 := Lib.hid HZ1.out)
        | (go_at_call 30; ((with_reducible refine (fail_no HB1.out.g.dk o.n o.e HN.out).mono ?_); rintro e w2 ⟨rfl, rfl⟩)
           have Y3 : Hid (Z.drew.cell? ⟨po, 1, none⟩ = some (.int .i64 o.n) ∧ Z.drew.cell? ⟨po, 3, none⟩ = some (.int .i64 o.e)) := ⟨y1, y3⟩
           have HB2 := Lib.hid HB1.out))
    all_goals
      go_wp2
      go_ret
      exact ⟨rfl, _, _, _, _, _, _, HB2.out, HS.out⟩
  · have hno1 : failB o.n o.e = false := by simpa using hno
    have hno2 := hno1
    unfold failB at hno2
    rw [Bool.or_eq_false_iff, decide_eq_false_iff_not] at hno2
    obtain ⟨a, ha⟩ : ∃ a : Nat, o.n = a := ⟨o.n.toNat, by omega⟩
    rw [ha] at hno1
    have HN := Lib.hid (And.intro hno1 (show a ≤ 9223372036854775807 by omega))
    have HAA := Lib.hid ha
    clear hno hno1 hno2 ha b1
    unfold opV
    rw [hk]
    have H := Lib.hid h
    have HS := Lib.hid hs
    have HSL := Lib.hid hsl
    have H8 := Lib.hid h8
    obtain ⟨n, hn⟩ : ∃ n : Nat, n = min o.b.length 300 := ⟨_, rfl⟩
    have hnm : (if (300 : Int) < o.b.length then 300 else (o.b.length : Int)) = n := by split <;> omega
    have hn1 : (n : Int) ≤ co := by omega
    have hn2 : n ≤ co := by omega
    have hn3 : n ≤ o.b.length := by omega
    have hn4 : n ≤ 300 := by omega
    clear hn
    obtain ⟨bb, hbb⟩ : ∃ bb, bb = o.b.take n := ⟨_, rfl⟩
    have hbl : n = bb.length := by rw [hbb, List.length_take]; omega
    have HBL := Lib.hid hbl
    have hrb : Rd w Bo bb := by rw [hbb]; exact rd_takeL hr n
    have HR := Lib.hid hrb
    clear hbb hbl hrb hr h hs hsl h8
    clear hk
    go_enter Try.func34, Try.ntmps34
    go_wp2_with fail
    have hax : Below w.heap.size w (w.alloc (.cells #[.int .i64 6, .int .i64 o.n, .int .i64 o.m, .int .i64 o.e, .slice Bo o.b.length co] 68)) := (Below.refl _ _).alloc (Nat.le_refl _) _
    obtain ⟨y1, y2, y3⟩ : (w.alloc (.cells #[.int .i64 6, .int .i64 o.n, .int .i64 o.m, .int .i64 o.e, .slice Bo o.b.length co] 68)).cell? ⟨w.heap.size, 1, none⟩ = some (.int .i64 o.n) ∧ (w.alloc (.cells #[.int .i64 6, .int .i64 o.n, .int .i64 o.m, .int .i64 o.e, .slice Bo o.b.length co] 68)).cell? ⟨w.heap.size, 2, none⟩ = some (.int .i64 o.m) ∧ (w.alloc (.cells #[.int .i64 6, .int .i64 o.n, .int .i64 o.m, .int .i64 o.e, .slice Bo o.b.length co] 68)).cell? ⟨w.heap.size, 3, none⟩ = some (.int .i64 o.e) := by
      refine ⟨?_, ?_, ?_⟩ <;> (rw [cell_of_row _ _ _ _ _ _ (heap_alloc_new w _)]; rfl)
    have HZ := Lib.hid (H.out.bel hax)
    have HRZ := Lib.hid (HR.out.below hax)
    have hpo : w.heap.size ≠ gd ∧ w.heap.size ≠ hd := ⟨fun e => by have := H.out.f.dk.lt; omega, fun e => by have := H.out.g.dk.lt; omega⟩
    have HPO := Lib.hid hpo
    have hpl : w.heap.size < (w.alloc (.cells #[.int .i64 6, .int .i64 o.n, .int .i64 o.m, .int .i64 o.e, .slice Bo o.b.length co] 68)).heap.size := by simp
    generalize w.alloc (.cells #[.int .i64 6, .int .i64 o.n, .int .i64 o.m, .int .i64 o.e, .slice Bo o.b.length co] 68) = Z at *
    generalize w.heap.size = po at *
    have HPL := Lib.hid hpl
    clear hax hpo hpl H HR
    have HBD : Hid (Below Z.heap.size Z Z.drew) := below_drewN' (Below.refl _ _) 1
    have HZ1 := Lib.hid (HZ.out.bel HBD.out)
    rw [HAA.out] at y1
    go_region_held3 (fun W => W.cell? ⟨po, 1, none⟩ = some (.int .i64 a) ∧ W.cell? ⟨po, 3, none⟩ = some (.int .i64 o.e))
      (first | with_reducible exact ⟨y1, y3⟩ | with_reducible exact Y2.out | with_reducible exact Y3.out | exact ⟨y1, y3⟩)
      (first
        | (go_at_call 30; ((with_reducible refine (fail_any HZ1.out.f.dk a o.e HN.out.1 HN.out.2).mono ?_); rintro e w1 ⟨rfl, hd1, hg0⟩)
           have hg1 := nil_grown (grown_of_below HBD.out _) hg0
           have Y2 : Hid (w1.cell? ⟨po, 1, none⟩ = some (.int .i64 a) ∧ w1.cell? ⟨po, 3, none⟩ = some (.int .i64 o.e)) := ⟨(grown_cell (p := ⟨po, 1, none⟩) hg1 HPL.out HPO.out.1).trans y1, (grown_cell (p := ⟨po, 3, none⟩) hg1 HPL.out HPO.out.1).trans y3⟩
           have HB1 := Lib.hid (HZ1.out.same hd1 hg0)
           clear hd1 hg0 hg1)
        | (go_at_call 30; ((with_reducible refine (fail_any HB1.out.g.dk a o.e HN.out.1 HN.out.2).mono ?_); rintro e w2 ⟨rfl, hd2, hg2⟩)
           have Y3 : Hid (w2.cell? ⟨po, 1, none⟩ = some (.int .i64 a) ∧ w2.cell? ⟨po, 3, none⟩ = some (.int .i64 o.e)) := ⟨(grown_cell (p := ⟨po, 1, none⟩) hg2 (block_lt_of_cell Y2.out.1) HPO.out.2).trans Y2.out.1, (grown_cell (p := ⟨po, 3, none⟩) hg2 (block_lt_of_cell Y2.out.2) HPO.out.2).trans Y2.out.2⟩
           have HB2 := Lib.hid (HB1.out.swap.same hd2 hg2).swap
           have HA := Lib.hid (HS.out.fail a o.e)
           clear hd2 hg2))
    all_goals
      go_wp2
      go_ret
      exact ⟨rfl, _, _, _, _, _, _, HB2.out, HA.out⟩
set_option maxRecDepth 100000 in
set_option maxHeartbeats 4000000 in
theorem alike0 (h : Both w0 wk w gf gd nb ob d (some (kb, nc)) hf hd nb2 ob2 p none) (hs : See kb nc salt d p) (hsl : salt.length = 32) (h8 : nc.length = 8) (o : OpS) (Bo : Option Addr) (co : Nat) (hr : Rd w Bo o.b) (hc : o.b.length ≤ co) (k1 : (o.k == 1) = false) (k2 : (o.k == 2) = false) (k3 : (o.k == 3) = false) (k4 : (o.k == 4) = false) (k5 : (o.k == 5) = false) (k6 : (o.k == 6) = false) :
    Calls Try.prog 34 #[.pointer (some ⟨gd, 0, none⟩), .pointer (some ⟨hd, 0, none⟩), .pointer (some ⟨gf, 0, none⟩), .pointer (some ⟨hf, 0, none⟩), opV o Bo co] w (AlikeP w0 wk gf gd hf hd kb nc salt) := by
  unfold opV
  have H := Lib.hid h
  have HS := Lib.hid hs
  have HSL := Lib.hid hsl
  have H8 := Lib.hid h8
  obtain ⟨n, hn⟩ : ∃ n : Nat, n = min o.b.length 300 := ⟨_, rfl⟩
  have hnm : (if (300 : Int) < o.b.length then 300 else (o.b.length : Int)) = n := by split <;> omega
  have hn1 : (n : Int) ≤ co := by omega
  have hn2 : n ≤ co := by omega
  have hn3 : n ≤ o.b.length := by omega
  have hn4 : n ≤ 300 := by omega
  clear hn
  obtain ⟨bb, hbb⟩ : ∃ bb, bb = o.b.take n := ⟨_, rfl⟩
  have hbl : n = bb.length := by rw [hbb, List.length_take]; omega
  have HBL := Lib.hid hbl
  have hrb : Rd w Bo bb := by rw [hbb]; exact rd_takeL hr n
  have HR := Lib.hid hrb
  clear hbb hbl hrb hr h hs hsl h8
  go_enter Try.func34, Try.ntmps34
  go_wp2
  have hax : Below w.heap.size w (w.alloc (.cells #[.int .i64 o.k, .int .i64 o.n, .int .i64 o.m, .int .i64 o.e, .slice Bo o.b.length co] 68)) := (Below.refl _ _).alloc (Nat.le_refl _) _
  obtain ⟨y1, y2, y3⟩ : (w.alloc (.cells #[.int .i64 o.k, .int .i64 o.n, .int .i64 o.m, .int .i64 o.e, .slice Bo o.b.length co] 68)).cell? ⟨w.heap.size, 1, none⟩ = some (.int .i64 o.n) ∧ (w.alloc (.cells #[.int .i64 o.k, .int .i64 o.n, .int .i64 o.m, .int .i64 o.e, .slice Bo o.b.length co] 68)).cell? ⟨w.heap.size, 2, none⟩ = some (.int .i64 o.m) ∧ (w.alloc (.cells #[.int .i64 o.k, .int .i64 o.n, .int .i64 o.m, .int .i64 o.e, .slice Bo o.b.length co] 68)).cell? ⟨w.heap.size, 3, none⟩ = some (.int .i64 o.e) := by
    refine ⟨?_, ?_, ?_⟩ <;> (rw [cell_of_row _ _ _ _ _ _ (heap_alloc_new w _)]; rfl)
  have HZ := Lib.hid (H.out.bel hax)
  have HRZ := Lib.hid (HR.out.below hax)
  have hpo : w.heap.size ≠ gd ∧ w.heap.size ≠ hd := ⟨fun e => by have := H.out.f.dk.lt; omega, fun e => by have := H.out.g.dk.lt; omega⟩
  have HPO := Lib.hid hpo
  have hpl : w.heap.size < (w.alloc (.cells #[.int .i64 o.k, .int .i64 o.n, .int .i64 o.m, .int .i64 o.e, .slice Bo o.b.length co] 68)).heap.size := by simp
  generalize w.alloc (.cells #[.int .i64 o.k, .int .i64 o.n, .int .i64 o.m, .int .i64 o.e, .slice Bo o.b.length co] 68) = Z at *
  generalize w.heap.size = po at *
  have HPL := Lib.hid hpl
  clear hax hpo hpl H HR
  clear y1 y2 y3
  go_ret
  exact ⟨rfl, _, _, _, _, _, _, HZ.out, HS.out⟩
theorem alike_any (h : Both w0 wk w gf gd nb ob d (some (kb, nc)) hf hd nb2 ob2 p none) (hs : See kb nc salt d p) (hsl : salt.length = 32) (h8 : nc.length = 8) (o : OpS) (Bo : Option Addr) (co : Nat) (hr : Rd w Bo o.b) (hc : o.b.length ≤ co) (q1 : (Lit.int .i64 o.n).wf = true) (q2 : (Lit.int .i64 o.m).wf = true) :
    Calls Try.prog 34 #[.pointer (some ⟨gd, 0, none⟩), .pointer (some ⟨hd, 0, none⟩), .pointer (some ⟨gf, 0, none⟩), .pointer (some ⟨hf, 0, none⟩), opV o Bo co] w (AlikeP w0 wk gf gd hf hd kb nc salt) := by
  by_cases e1 : o.k = 1
  · exact alike1 h hs hsl h8 o Bo co hr hc e1
  by_cases e2 : o.k = 2
  · exact alike2 h hs hsl h8 o Bo co hr hc e2
  by_cases e3 : o.k = 3
  · exact alike3 h hs hsl h8 o Bo co hr hc q1 q2 e3
  by_cases e4 : o.k = 4
  · exact alike4 h hs hsl h8 o Bo co hr hc e4
  by_cases e5 : o.k = 5
  · exact alike5 h hs hsl h8 o Bo co hr hc q1 e5
  by_cases e6 : o.k = 6
  · exact alike6 h hs hsl h8 o Bo co hr hc q1 e6
  exact alike0 h hs hsl h8 o Bo co hr hc (by rw [beq_eq_false_iff_ne]; exact e1) (by rw [beq_eq_false_iff_ne]; exact e2) (by rw [beq_eq_false_iff_ne]; exact e3) (by rw [beq_eq_false_iff_ne]; exact e4) (by rw [beq_eq_false_iff_ne]; exact e5) (by rw [beq_eq_false_iff_ne]; exact e6)
end
end Go.Proofs.Ytmldpamkghdohaa
namespace Go.Proofs.Ytmldpamkghdohaa
open Go.RowKit
set_option linter.unusedSimpArgs false
set_option linter.unusedVariables false

theorem see_nth {kb : Nat → Nat} {nc salt : List Nat} {y : List Nat} {i : Nat} (hsl : salt.length = 32) (hi : i < y.length) : nth (salt ++ turned kb nc 32 y) (32 + i) = nth (strm kb nc 32 y.length) i ^^^ nth y i := by
  have e := s_nth_right salt (turned kb nc 32 y) i
  rw [hsl] at e
  rw [e, nth_turned hi]
set_option maxRecDepth 100000 in
set_option maxHeartbeats 8000000 in
theorem hidden_any {w0 wk w : World} {gf gd hf hd : Nat} {nb ob nb2 ob2 : Option Nat} {d p : DkS} {kb : Nat → Nat} {nc salt : List Nat} (h : Both w0 wk w gf gd nb ob d (some (kb, nc)) hf hd nb2 ob2 p none) (hs : See kb nc salt d p) (hsl : salt.length = 32)
    (pw : List Nat) (hK : encK pw salt = (kb, nc)) (A : Option Addr) (n c : Nat) (hn : n = pw.length) (hpl : pw.length ≤ 100) (hr : Rd w A pw) (cs : Array Value) (hcs : cs.size = 32) (hci : ∀ i, i < 32 → cs[i]? = some (.int .u8 (nth salt i : Nat))) (hs8 : ∀ x ∈ salt, x < 256) :
    Calls Try.prog 37 #[.pointer (some ⟨gd, 0, none⟩), .pointer (some ⟨hd, 0, none⟩), .slice A n c, .agg cs] w fun e w' => e = .returned (.bool true) ∧ Below w0.heap.size w0 w' := by
  have H := Lib.hid h
  have HS := Lib.hid hs
  have HSL := Lib.hid hsl
  have HK := Lib.hid hK
  have HN := Lib.hid hn
  have HRP := Lib.hid hr
  have HCI := Lib.hid hci
  have HS8 := Lib.hid hs8
  clear h hs hsl hK hn hr hcs hci hs8
  go_enter Try.func37, Try.ntmps37
  go_wp2_with fail
  have hb0 := (Below.refl w.heap.size w).alloc (Nat.le_refl _) (.cells cs 40)
  have hkr : Rd (w.alloc (.cells cs 40)) (some ⟨w.heap.size, 0, none⟩) salt := by
    refine ⟨HS8.out, fun _ => ⟨_, 0, rfl, by simp, fun i hi => ?_⟩⟩
    rw [HSL.out] at hi
    rw [Nat.zero_add, cell_of_row _ _ _ _ _ _ (heap_alloc_new w _)]
    exact HCI.out i hi
  have HZ := Lib.hid (H.out.bel hb0)
  have HSR := Lib.hid hkr
  replace HRP := Lib.hid (HRP.out.below hb0)
  generalize w.alloc (.cells cs 40) = W at *
  generalize w.heap.size = po at *
  clear hb0 hkr H HCI
  refine (pbkdf2_any A n c pw (some ⟨po, 0, none⟩) 32 32 salt 4 32 W HN.out (by omega) HRP.out HSL.out.symm (by rw [HSL.out]; omega) HSR.out (by omega) (by omega) (by omega)).mono ?_
  rintro e w1 ⟨A1, c1, rfl, hc, hr1, hb1⟩
  have hkl : ((pbAll pw salt 3 1).take 32).length = 32 := by rw [List.length_take, pbAll_length]; rfl
  obtain ⟨KL, hKL⟩ : ∃ KL, KL = (pbAll pw salt 3 1).take 32 := ⟨_, rfl⟩
  have hr1 : Rd w1 A1 KL := by rw [hKL]; exact hr1
  rw [← hKL] at hkl
  have hke : nth (ks KL) = kb ∧ salt.take 8 = nc := by
    have h0 : (nth (ks ((pbAll pw salt 3 1).take 32)), salt.take 8) = (kb, nc) := HK.out
    rw [← hKL] at h0
    injection h0 with h1 h2
    exact ⟨h1, h2⟩
  have HKE := Lib.hid hke
  have HKL := Lib.hid hkl
  have R1 := Lib.hid hr1
  have HZ1 := Lib.hid (HZ.out.bel hb1)
  replace HSR := Lib.hid (HSR.out.below hb1)
  clear hKL hkl hr1 hb1 hke HRP HZ
  go_wp2_with fail
  refine (new_any A1 c1 KL w1 HKL.out R1.out).mono ?_
  rintro e w2 ⟨rfl, hcp, hb2⟩
  rw [HKE.out.1] at hcp
  have HC := Lib.hid hcp
  have HZ2 := Lib.hid (HZ1.out.bel hb2)
  replace HSR := Lib.hid (HSR.out.below hb2)
  have hkb : ∀ i, i < 240 → kb i < 256 := by rw [← HKE.out.1]; exact fun i _ => nth_lt (ks_lt R1.out.1) i
  have HKB := Lib.hid hkb
  clear hcp hb2 hkb HZ1
  generalize w1.heap.size = gc at *
  go_wp2_with fail
  refine (image_any HZ2.out.f.dk).mono ?_
  rintro e w3 ⟨v3, b3, rfl, ⟨A3, c3, rfl, h3c, h3m, h3r, -⟩, -, hb3⟩
  replace HC := Lib.hid (HC.out.below hb3 HC.out.lt)
  have HZ3 := Lib.hid (HZ2.out.bel hb3)
  replace HSR := Lib.hid (HSR.out.below hb3)
  have HX := Lib.hid h3r
  clear hb3 h3r HZ2 R1
  go_wp2_with fail
  refine (image_any HZ3.out.g.dk).mono ?_
  rintro e w4 ⟨v4, b4, rfl, ⟨A4, c4, rfl, h4c, h4m, h4r, -⟩, -, hb4⟩
  replace HC := Lib.hid (HC.out.below hb4 HC.out.lt)
  have HZ4 := Lib.hid (HZ3.out.bel hb4)
  replace HSR := Lib.hid (HSR.out.below hb4)
  replace HX := Lib.hid (HX.out.below hb4)
  have HY := Lib.hid h4r
  have hpn : p.now.length ≤ 3000 := by have := HZ3.out.g.dk.wf.now; have := HS.out.pmost; omega
  have hlen := HS.out.len HSL.out
  have hno := HS.out.now
  rw [hno] at HX
  rw [hlen] at h3c ⊢
  generalize hy : p.now = y at *
  have HXX := Lib.hid HX.out
  clear hb4 h4r HZ3 hlen hno hy HX
  go_wp2_with fail
  have hnc : (salt.take 8).length = 8 := by rw [List.length_take, HSL.out]; rfl
  refine (stream_all gc (some ⟨po, 0, none⟩) 8 32 kb nc 32 y.length w4 (by rw [← HKE.out.2]; exact hnc.symm) HC.out HKB.out (by rw [← HKE.out.2]; exact rd_takeL HSR.out 8)).mono ?_
  rintro e w5 ⟨A5, c5, rfl, ho5, hb5⟩
  have hok : CtrOk nc.length (32 : Int) (y.length : Int) := by
    rw [← HKE.out.2, hnc]
    refine ⟨rfl, ?_, ?_, ?_, ?_⟩ <;> omega
  have e1 : ctrL kb nc (32 : Int) y.length = strm kb nc 32 y.length := by unfold ctrL; rw [if_pos hok]; rfl
  have e2 : ctrE nc.length (32 : Int) y.length = 0 := if_pos hok
  rw [e1, strm_length] at ho5
  rw [e1, e2, strm_length]
  obtain ⟨_, _, e5, -, -, hr5⟩ := ho5.form
  injection e5 with e5 _ _
  subst e5
  have hsl5 := strm_length kb nc 32 y.length
  have hxe := fun i => @see_nth kb nc salt y i HSL.out
  have hxl : (salt ++ turned kb nc 32 y).length = 32 + y.length := by rw [List.length_append, turned_length, HSL.out]
  generalize salt ++ turned kb nc 32 y = X at *
  generalize strm kb nc 32 y.length = S at *
  have HY5 := Lib.hid (HY.out.below hb5)
  have HX5 := Lib.hid (HXX.out.below hb5)
  have HS5 := Lib.hid hr5
  have HZ5 := Lib.hid (HZ4.out.bel hb5)
  have HXE := Lib.hid hxe
  have HXL := Lib.hid hxl
  have HSL5 := Lib.hid hsl5
  have k1 : ((32 + y.length : Nat) : Int) = (y.length : Int) + 32 := by omega
  clear hb5 hr5 ho5 hok e1 e2 hnc hxe hxl hsl5 HY HXX HZ4 HC HSR HKB HKE HKL
  go_wp2_with fail
  go_loopw [17] (fun i wr => ∃ j : Nat, j ≤ y.length ∧ i = .int .i64 j ∧ Below w5.heap.size w5 wr) (fun i _ => y.length - (intOf i).toNat)
  case atStart => exact ⟨0, by omega, rfl, Below.refl _ _⟩
  case round =>
    obtain ⟨j, hj, rfl, hbr⟩ := hrel
    have HBR := Lib.hid hbr
    by_cases e0 : j < y.length
    · have hx5 := HXE.out j e0
      obtain ⟨g3, o3, rfl, -, h3⟩ := (HX5.out.below hbr).2 (by intro e; have := HXL.out; rw [e] at this; simp at this; omega)
      obtain ⟨g4, o4, rfl, -, h4⟩ := (HY5.out.below hbr).2 (by intro e; rw [e] at e0; simp at e0)
      obtain ⟨g5, o5, rfl, -, h5⟩ := (HS5.out.below hbr).2 (by intro e; have := HSL5.out; rw [e] at this; simp at this; omega)
      have y3 := h3 (32 + j) (by rw [HXL.out]; omega)
      have y4 := h4 j e0
      have y5 := h5 j (by rw [HSL5.out]; exact e0)
      rw [hx5] at y3
      have y6 : bits BinOp.xor IntKind.u8 (nth y j : Int) (nth S j : Int) = ((nth S j ^^^ nth y j : Nat) : Int) := by rw [Nat.xor_comm]; exact u8_xor_nat _ _ (nth_lt HY5.out.1 j) (nth_lt HS5.out.1 j)
      have y7 : ((nth S j ^^^ nth y j : Nat) : Int) < 256 := by
        have := Nat.xor_lt_two_pow (n := 8) (nth_lt HS5.out.1 j) (nth_lt HY5.out.1 j)
        omega
      generalize nth S j ^^^ nth y j = X at *
      generalize nth S j = Y at *
      generalize nth y j = Z at *
      have z1 : IntKind.i64.wrap (32 + (j : Int)) = 32 + j := by simp [IntKind.wrap, IntKind.signed, IntKind.bits]; omega
      have z2 : (32 + (j : Int)) < (y.length : Int) + 32 := by omega
      have z3 : (32 + (j : Int)).toNat = 32 + j := by omega
      have z4 : 0 ≤ (32 + (j : Int)) := by omega
      have z5 : (j : Int) < y.length := by omega
      have z6 : 32 + j < 32 + y.length := by omega
      have z7 : (32 + (j : Int)) < 32 + (y.length : Int) := by omega
      clear hx5 h3 h4 h5 hbr
      go_wp2_with fail
      go_quiet (fail)
      go_wp2_with fail
      refine ⟨⟨j + 1, by omega, by go_num, below_drewN' HBR.out nq⟩, ?_⟩
      simp [intOf]
      omega
    · obtain rfl : j = y.length := by omega
      go_wp2_with fail
      go_ret
      exact ⟨rfl, (HZ5.out.bel HBR.out).below⟩
end Go.Proofs.Ytmldpamkghdohaa
namespace Go.Proofs.Ytmldpamkghdohaa
open Go.RowKit Go.ChangeShapes Go.WideShapes Go.ChangeAt
set_option linter.unusedSimpArgs false
set_option linter.unusedVariables false

theorem cre_see {w w' : World} {e : Ending} {g : Nat} {nb ob : Option Nat} {pw salt : List Nat} (hs : salt.length = 32) (h : CreP w w' e g nb ob (mkD 3032 []) pw salt) :
    ∃ gf nb' ob', e = .returned (.tuple #[.pointer (some ⟨gf, 0, none⟩), .int .i64 0]) ∧ Fl w' gf g nb' ob' ⟨3032, salt, salt, 32, false, -1, 0, 0⟩ (some (encK pw salt)) ∧ w.heap.size ≤ gf ∧ (New w nb nb' ∨ New w ob nb') ∧ (New w nb ob' ∨ New w ob ob') ∧ w.grownBy w' (some g) := by
  have e0 : (mkD 3032 []).append salt = (if 3032 < ([] : List Nat).length + salt.length then (5, mkD 3032 []) else (0, { mkD 3032 [] with now := [] ++ salt })) := rfl
  have e1 : (mkD 3032 []).append salt = (0, { mkD 3032 [] with now := salt }) := by
    rw [e0, if_neg (by simp [hs])]
    rfl
  have e2 : ((mkD 3032 []).append salt).2.sync = (0, ⟨3032, salt, salt, salt.length, false, -1, 0, 0⟩) := by rw [e1]; rfl
  rcases h with ⟨h, _⟩ | ⟨_, h, _⟩ | ⟨_, _, gf, nb', ob', h1, h2, h3, h4, h5, h6⟩
  · rw [e1] at h; exact absurd rfl h
  · rw [e2] at h; exact absurd rfl h
  · rw [e2, hs] at h2
    exact ⟨gf, nb', ob', h1, h2, h3, h4, h5, h6⟩
theorem see_start (kb : Nat → Nat) (nc salt : List Nat) : See kb nc salt ⟨3032, salt, salt, 32, false, -1, 0, 0⟩ (mkD 3000 []).sync.2 :=
  ⟨rfl, rfl, by rw [show (mkD 3000 []).sync.2.now = [] from rfl, turned_nil, List.append_nil], by rw [show (mkD 3000 []).sync.2.old = [] from rfl, turned_nil, List.append_nil], rfl, Nat.le_refl _, rfl, rfl, rfl, rfl⟩
theorem crash_none {g : Nat} {nb ob : Option Nat} {d : DkS} {w : World} (h : Dk w g nb ob d) (hfl : d.floor ≤ d.now.length) (k : Nat) :
    Calls Try.prog 35 #[.pointer (some ⟨g, 0, none⟩), .agg #[.int .i64 k, .slice none 0 0]] w fun e w' => e = .returned (.int .i64 0) ∧ After w g nb ob (crashD d (crLeft d k [])) w' := by
  have := crash_now h hfl (k : Int) (by omega) none [] 0 Rd.nil (by simp)
  rw [List.length_nil] at this
  exact this
set_option maxRecDepth 100000 in
set_option maxHeartbeats 40000000 in
theorem cryptSees_any {w : World} (A : Option Addr) (n c : Nat) (pw : List Nat) (hn : n = pw.length) (hr : Rd w A pw) (cs : Array Value) (salt : List Nat) (hcs : cs.size = 32) (hsl : salt.length = 32) (hci : ∀ i, i < 32 → cs[i]? = some (.int .u8 (nth salt i : Nat))) (hs8 : ∀ x ∈ salt, x < 256)
    (AL : Option Addr) (L : List OpS) (cL : Nat) (hL : Ops w AL L) :
    Calls Try.prog 8 #[.slice A n c, .agg cs, .slice AL L.length cL] w fun e w' => e = .returned (.bool true) ∧ Below w.heap.size w w' := by
  by_cases h100 : n = 0 ∨ 100 < n
  · have hcase : n = 0 ∨ (((n : Int) == 0) = false ∧ (100 : Int) < n) := by
      rcases h100 with h | h
      · exact .inl h
      · exact .inr ⟨by rw [beq_eq_false_iff_ne]; omega, by omega⟩
    clear h100 hn hr hcs hsl hci hs8 hL
    rcases hcase with rfl | ⟨h0, h1⟩
    all_goals
      go_enter Try.func8, Try.ntmps8
      go_wp2_with fail
      have hb0 := (Below.refl w.heap.size w).alloc (Nat.le_refl _) (.cells cs 40)
      refine (cryAwake_any _).mono ?_
      rintro e w1 ⟨rfl, hb⟩
      have HB := Lib.hid (hb0.trans (hb.mono hb0.size))
      clear hb hb0
      go_wp2_with fail
      go_ret
      exact ⟨rfl, HB.out⟩
  · obtain ⟨KN, hKN⟩ : ∃ KN, KN = encK pw salt := ⟨_, rfl⟩
    obtain ⟨kb, nc⟩ := KN
    have h8 : nc.length = 8 := by
      have : nc = salt.take 8 := congrArg (·.2) hKN
      rw [this, List.length_take, hsl]; rfl
    have HKN := Lib.hid hKN.symm
    have hn1 : 1 ≤ n := by omega
    have hn2 : n ≤ 100 := by omega
    have hp0 : pw ≠ [] := by intro e; rw [e] at hn; simp at hn; omega
    have HP0 := Lib.hid hp0
    have HN := Lib.hid hn
    have HR := Lib.hid hr
    have HCI := Lib.hid hci
    have HS8 := Lib.hid hs8
    have HSL := Lib.hid hsl
    have HL := Lib.hid hL
    have H8 := Lib.hid h8
    have t0 : ((n : Int) == 0) = false := by rw [beq_eq_false_iff_ne]; omega
    have t1 : ¬ (100 : Int) < n := by omega
    clear h100 hKN h8 hp0 hn hr hci hs8 hsl hL
    go_enter Try.func8, Try.ntmps8
    go_wp2_with fail
    have hb0 := (Below.refl w.heap.size w).alloc (Nat.le_refl _) (.cells cs 40)
    have hkr : Rd (w.alloc (.cells cs 40)) (some ⟨w.heap.size, 0, none⟩) salt := by
      refine ⟨HS8.out, fun _ => ⟨_, 0, rfl, by simp, fun i hi => ?_⟩⟩
      rw [HSL.out] at hi
      rw [Nat.zero_add, cell_of_row _ _ _ _ _ _ (heap_alloc_new w _)]
      exact HCI.out i hi
    have hrow := heap_alloc_new w (.cells cs 40)
    have HRW := Lib.hid (HR.out.below hb0)
    have HLW := Lib.hid (HL.out.below hb0)
    generalize w.alloc (.cells cs 40) = W at *
    generalize hpo : w.heap.size = po at *
    have HPO := Lib.hid hpo
    have HB0 := Lib.hid hb0
    have HB0L : Hid (po ≤ W.heap.size) := by rw [← hpo]; exact hb0.size
    clear hpo
    have HSR := Lib.hid hkr
    have HROW := Lib.hid hrow
    clear hb0 hkr hrow HR HL
    refine (new_any' 3032 W (by omega)).mono ?_
    rintro e w1 ⟨gd, nb, ob, rfl, hd1, hg1, hnb1, hob1, hb1⟩
    have D1 := Lib.hid hd1
    have G1 := Lib.hid hg1
    have B1 := Lib.hid hb1
    clear hd1 hg1 hnb1 hob1 hb1
    go_wp2_with fail
    refine (new_any' 3000 w1 (by omega)).mono ?_
    rintro e w2 ⟨hd, nb2, ob2, rfl, hd2, hg2, hnb2, hob2, hb2⟩
    have hne : gd ≠ hd := by have := D1.out.lt; omega
    have E2 := Lib.hid hd2
    have G2 := Lib.hid (And.intro hne (And.intro (Nat.le_trans B1.out.size hg2) (And.intro (show nb ≠ some hd from fun e => by have := D1.out.nl _ e; omega) (show ob ≠ some hd from fun e => by have := D1.out.ol _ e; omega))))
    have G3 := Lib.hid (And.intro (show nb2 ≠ some gd from fun e => by have := hnb2 _ e; have := D1.out.lt; omega) (show ob2 ≠ some gd from fun e => by have := hob2 _ e; have := D1.out.lt; omega))
    have D2 := Lib.hid (D1.out.below hb2)
    have B2 := Lib.hid (B1.out.trans (hb2.mono B1.out.size))
    clear hd2 hg2 hnb2 hob2 hb2 hne D1 B1
    go_wp2_with fail
    refine (create_any D2.out rfl A n c pw (some ⟨po, 0, none⟩) 32 salt HN.out (by have := HN.out; omega) HP0.out (HRW.out.below B2.out) HSL.out (by omega) (HSR.out.below B2.out)).mono ?_
    intro e w3 hcr
    obtain ⟨gf, nb3, ob3, rfl, hf3, hgf3, hnb3, hob3, hg3⟩ := cre_see HSL.out hcr
    rw [HKN.out] at hf3
    have hE3 := E2.out.grown hg3 (fun e => by injection e with e; exact G2.out.1 e) (fun k e e2 => G3.out.1 (by rw [e, ← e2])) (fun k e e2 => G3.out.2 (by rw [e, ← e2]))
    have hB3 : Below W.heap.size W w3 := below_of_grown B2.out hg3 B2.out.size G1.out
    have hG3 : nb3 ≠ some hd ∧ ob3 ≠ some hd := by
      have hl := E2.out.lt
      have key : ∀ x : Option Nat, (New w2 nb x ∨ New w2 ob x) → x ≠ some hd := by
        intro x hn e
        rcases hn with (rfl | hn) | (rfl | hn)
        · exact G2.out.2.2.1 e
        · have := hn _ e; omega
        · exact G2.out.2.2.2 e
        · have := hn _ e; omega
      exact ⟨key _ hnb3, key _ hob3⟩
    have F3 := Lib.hid hf3
    have E3 := Lib.hid hE3
    have B3 := Lib.hid hB3
    have G4 := Lib.hid hG3
    clear hcr hf3 hgf3 hnb3 hob3 hg3 hE3 hB3 hG3 D2 E2 B2
    go_wp2_with fail
    refine (create_plain E3.out rfl none none 0 0).mono ?_
    rintro e w4 ⟨hf, rfl, hf4, -, hb4⟩
    have P4 : Hid (Both W w4 w4 gf gd nb3 ob3 ⟨3032, salt, salt, 32, false, -1, 0, 0⟩ (some (kb, nc)) hf hd nb2 ob2 (mkD 3000 []) none) :=
      ⟨F3.out.below hb4, hf4, G2.out.1, G4.out.1, G4.out.2, G3.out.1, G3.out.2, G1.out, G2.out.2.1, B3.out.trans (hb4.mono B3.out.size), Nat.le_refl _, fun _ _ _ _ => rfl⟩
    clear hf4 hb4 F3 E3 B3 G4 G3 G2 G1
    go_wp2_with fail
    refine (sync_any P4.out.g.dk).mono ?_
    rintro e w5 ⟨r, rfl, ha5, -⟩
    obtain ⟨nb5, ob5, hp5⟩ := P4.out.swap.after ha5
    have HPS := Lib.hid hp5.swap.re
    clear ha5 hp5 P4
    go_wp2_with fail
    go_loopw [11, 15] (fun v11 v15 wr => ∃ (i gf : Nat) (nb ob : Option Nat) (d : DkS) (nb2 ob2 : Option Nat) (p : DkS), v11 = .pointer (some ⟨gf, 0, none⟩) ∧ v15 = .int .i64 i ∧ i ≤ L.length ∧ i ≤ 20 ∧ Both W wr wr gf gd nb ob d (some (kb, nc)) hf hd nb2 ob2 p none ∧ See kb nc salt d p) (fun _ v _ => 20 - (intOf v).toNat)
    case atStart => exact ⟨0, gf, _, _, _, _, _, _, rfl, rfl, by omega, by omega, HPS.out, see_start kb nc salt⟩
    case round =>
      obtain ⟨i, gf', nb', ob', d, nb6, ob6, p, rfl, rfl, hi1, hi2, hps, hsee⟩ := hrel
      obtain ⟨X, rfl⟩ : ∃ X, X = wr := ⟨wr, rfl⟩
      have HP := Lib.hid hps
      have HSE := Lib.hid hsee
      clear hps hsee HPS
      by_cases hin : i < L.length ∧ i < 20
      · obtain ⟨hiL, hi20⟩ := hin
        have k1 : (i : Int) < L.length := by omega
        have k2 : (i : Int) < 20 := by omega
        obtain ⟨gs, os, rfl, hgs, hop⟩ := HLW.out (by intro e; rw [e] at hiL; simp at hiL)
        have hop1 := (hop i hiL).below hgs HP.out.below
        obtain ⟨o, ho⟩ : ∃ o, o = L[i] := ⟨_, rfl⟩
        rw [← ho] at hop1
        obtain ⟨x0, x1, x2, x3, ⟨Bo, co, x4, x5, x6, x7⟩, q0, q1, q2, q3⟩ := hop1
        have HRB := Lib.hid x7
        have HQ1 := Lib.hid q1
        have HQ2 := Lib.hid q2
        clear hop ho x7 q0 q1 q2 q3
        go_wp2_with fail
        have hax : Below X.heap.size X (X.alloc (.cells #[.int .i64 o.k, .int .i64 o.n, .int .i64 o.m, .int .i64 o.e, .slice Bo o.b.length co] 68)) := (Below.refl _ _).alloc (Nat.le_refl _) _
        have hro := heap_alloc_new X (.cells #[.int .i64 o.k, .int .i64 o.n, .int .i64 o.m, .int .i64 o.e, .slice Bo o.b.length co] 68)
        have hpz := (HP.out.bel hax).re
        have hrz := HRB.out.below hax
        have hpn : X.heap.size ≠ gd ∧ X.heap.size ≠ hd := ⟨fun e => by have := HP.out.f.dk.lt; omega, fun e => by have := HP.out.g.dk.lt; omega⟩
        generalize X.alloc (.cells #[.int .i64 o.k, .int .i64 o.n, .int .i64 o.m, .int .i64 o.e, .slice Bo o.b.length co] 68) = Z at *
        generalize X.heap.size = pq at *
        have HRZ := Lib.hid hrz
        have HPZ := Lib.hid hpz
        have HRO := Lib.hid hro
        have HPN := Lib.hid hpn
        clear hax hpz hrz hro hpn x0 x1 x2 x3 x4 HP HRB
        refine (alike_any HPZ.out HSE.out HSL.out H8.out o Bo co HRZ.out x5 HQ1.out HQ2.out).mono ?_
        rintro e w3 ⟨rfl, nb3, ob3, d3, nb4, ob4, p3, hb3, hs3⟩
        have hro3 := (hb3.keep pq (lt_of_block HRO.out) HPN.out.1 HPN.out.2).trans HRO.out
        have y0 : w3.cell? ⟨pq, 0, none⟩ = some (.int .i64 o.k) := by rw [cell_of_row _ _ _ _ _ _ hro3]; rfl
        have y1 : w3.cell? ⟨pq, 1, none⟩ = some (.int .i64 o.n) := by rw [cell_of_row _ _ _ _ _ _ hro3]; rfl
        by_cases e7 : o.k = 7
        · have t7 : (o.k == 7) = true := by rw [e7]; rfl
          have HP3 := Lib.hid hb3.re
          have HS3 := Lib.hid hs3
          clear e7 hb3 hs3 hro3 HRO HPZ HRZ
          go_wp2_with fail
          refine (pickz_any o.n 400 (by omega) (by omega) w3).mono ?_
          rintro e w' ⟨k, rfl, hk, rfl⟩
          go_wp2_with fail
          refine (crash_none HP3.out.f.dk (HS3.out.fld HSL.out) k).mono ?_
          rintro e w4 ⟨rfl, ha⟩
          obtain ⟨nb7, ob7, hb⟩ := HP3.out.after ha
          have HP4 := Lib.hid hb
          clear ha hb y0 y1 HP3
          go_wp2_with fail
          refine (crash_none HP4.out.g.dk HS3.out.fl k).mono ?_
          rintro e w4b ⟨rfl, ha⟩
          obtain ⟨nb8, ob8, hb⟩ := HP4.out.swap.after ha
          have HP4b := Lib.hid hb.swap
          have HS4 := Lib.hid (HS3.out.crash HSL.out k)
          have hpre := crash_pre d3 (crLeft d3 k [])
          clear ha hb HP4 HS3
          generalize crashD d3 (crLeft d3 k []) = d4 at *
          generalize crashD p3 (crLeft p3 k []) = p5 at *
          have HPR := Lib.hid hpre
          clear hpre
          go_wp2_with fail
          refine (open_any HP4b.out.f.dk (by rw [HS4.out.len HSL.out]; omega) (by rw [HPR.out]) A n c pw HN.out (by have := HN.out; omega) HP0.out (HRW.out.below HP4b.out.below)).mono ?_
          rintro e w5 ⟨gf5, rfl, hf5, -, hg5⟩
          have htk : d4.now.take 32 = salt := by rw [HS4.out.now, List.take_append_of_le_length (by rw [HSL.out]; omega), List.take_of_length_le (by rw [HSL.out]; omega)]
          rw [htk, HKN.out, HPR.out] at hf5
          obtain ⟨d5, hd5⟩ : ∃ d5, d5 = d4 := ⟨_, rfl⟩
          have HP5 : Hid (Both W w3 w5 gf5 gd nb7 ob7 d5 (some (kb, nc)) hf hd nb8 ob8 p5 none) := by rw [hd5]; exact HP4b.out.anew hf5 hg5
          have HS5 : Hid (See kb nc salt d5 p5) := by rw [hd5]; exact HS4.out
          clear hf5 hg5 htk hd5 HP4b HS4 HPR
          go_wp2_with fail
          refine (image_any HP5.out.f.dk).mono ?_
          rintro e w6 ⟨v6, b6, rfl, ⟨A6, c6, rfl, h6c, h6m, h6r, -⟩, -, hb6⟩
          have HP6 := Lib.hid (HP5.out.bel hb6)
          have hlen := HS5.out.len HSL.out
          have hrs : Rd w6 A6 salt := by
            have := rd_takeL h6r 32
            rw [HS5.out.now, List.take_append_of_le_length (by rw [HSL.out]; omega), List.take_of_length_le (by rw [HSL.out]; omega)] at this
            exact this
          have hsr : Rd w6 (some ⟨po, 0, none⟩) salt := HSR.out.below HP6.out.below
          have HRS := Lib.hid hrs
          have HSR6 := Lib.hid hsr
          obtain ⟨ln, hln⟩ : ∃ ln, ln = 32 + p5.now.length := ⟨_, rfl⟩
          rw [hlen, ← hln] at h6c ⊢
          have m1 : (32 : Int) ≤ c6 := by omega
          have m2 : 32 ≤ c6 := by omega
          have m3 : ¬ (ln : Int) < 32 := by omega
          have m4 : decide ((ln : Int) < 32) = false := decide_eq_false m3
          have m5 : 32 ≤ ln := by omega
          clear hln
          have HLN := Lib.hid hlen
          have HBD : Hid (Below w6.heap.size w6 w6.drew) := below_drewN' (Below.refl _ _) 1
          have HPD := Lib.hid (HP6.out.bel HBD.out)
          clear hb6 h6r hlen hrs hsr
          go_wp2_with fail
          go_region_held3 (fun _ => True) (exact trivial)
            (first
              | (go_at_call 24; ((with_reducible refine (fsize_any HPD.out.f).mono ?_); rintro e w7 ⟨rfl, hb7⟩)
                 have hq : d5.now.length - fromK (some (kb, nc)) = p5.now.length := by rw [HLN.out]; show 32 + p5.now.length - 32 = _; omega
                 rw [hq]
                 have HB7 := Lib.hid (HBD.out.trans hb7)
                 have HP7 := Lib.hid (HP6.out.bel HB7.out)
                 clear hb7 hq)
              | (go_at_call 24; ((with_reducible refine (fsize_any HP7.out.g).mono ?_); rintro e w8 ⟨rfl, hb8⟩)
                 have hq : p5.now.length - fromK none = p5.now.length := Nat.sub_zero _
                 rw [hq]
                 have HB8 := Lib.hid (HB7.out.trans (hb8.mono HB7.out.size))
                 have HP8 := Lib.hid (HP7.out.bel hb8)
                 clear hb8 hq)
              | (go_at_call 15; ((with_reducible refine (same_yes A6 (some ⟨po, 0, none⟩) 32 32 c6 32 salt _ HSL.out.symm HSL.out.symm (HRS.out.below HB8.out) (HSR6.out.below HB8.out) (by rw [HSL.out]; omega)).mono ?_); rintro e w9 ⟨rfl, hb9⟩)
                 have HP9 := Lib.hid (HP8.out.bel hb9)
                 clear hb9))
          all_goals
            go_wp2_with fail
            refine ⟨⟨i + 1, _, _, _, _, _, _, _, rfl, by go_num, by omega, by omega, HP9.out.re, HS5.out⟩, ?_⟩
            simp [intOf]
            omega
        · have t7 : (o.k == 7) = false := by rw [beq_eq_false_iff_ne]; exact e7
          obtain ⟨d5, hd5⟩ : ∃ d5, d5 = d3 := ⟨_, rfl⟩
          obtain ⟨p5, hp5⟩ : ∃ p5, p5 = p3 := ⟨_, rfl⟩
          rw [← hd5, ← hp5] at hb3 hs3
          have HP5 := Lib.hid hb3
          have HS5 := Lib.hid hs3
          clear e7 hb3 hs3 hro3 hd5 hp5 HRO HPZ HRZ
          go_wp2_with fail
          refine (image_any HP5.out.f.dk).mono ?_
          rintro e w6 ⟨v6, b6, rfl, ⟨A6, c6, rfl, h6c, h6m, h6r, -⟩, -, hb6⟩
          have HP6 := Lib.hid (HP5.out.bel hb6)
          have hlen := HS5.out.len HSL.out
          have hrs : Rd w6 A6 salt := by
            have := rd_takeL h6r 32
            rw [HS5.out.now, List.take_append_of_le_length (by rw [HSL.out]; omega), List.take_of_length_le (by rw [HSL.out]; omega)] at this
            exact this
          have hsr : Rd w6 (some ⟨po, 0, none⟩) salt := HSR.out.below HP6.out.below
          have HRS := Lib.hid hrs
          have HSR6 := Lib.hid hsr
          obtain ⟨ln, hln⟩ : ∃ ln, ln = 32 + p5.now.length := ⟨_, rfl⟩
          rw [hlen, ← hln] at h6c ⊢
          have m1 : (32 : Int) ≤ c6 := by omega
          have m2 : 32 ≤ c6 := by omega
          have m3 : ¬ (ln : Int) < 32 := by omega
          have m4 : decide ((ln : Int) < 32) = false := decide_eq_false m3
          have m5 : 32 ≤ ln := by omega
          clear hln
          have HLN := Lib.hid hlen
          have HBD : Hid (Below w6.heap.size w6 w6.drew) := below_drewN' (Below.refl _ _) 1
          have HPD := Lib.hid (HP6.out.bel HBD.out)
          clear hb6 h6r hlen hrs hsr
          go_wp2_with fail
          go_region_held3 (fun _ => True) (exact trivial)
            (first
              | (go_at_call 24; ((with_reducible refine (fsize_any HPD.out.f).mono ?_); rintro e w7 ⟨rfl, hb7⟩)
                 have hq : d5.now.length - fromK (some (kb, nc)) = p5.now.length := by rw [HLN.out]; show 32 + p5.now.length - 32 = _; omega
                 rw [hq]
                 have HB7 := Lib.hid (HBD.out.trans hb7)
                 have HP7 := Lib.hid (HP6.out.bel HB7.out)
                 clear hb7 hq)
              | (go_at_call 24; ((with_reducible refine (fsize_any HP7.out.g).mono ?_); rintro e w8 ⟨rfl, hb8⟩)
                 have hq : p5.now.length - fromK none = p5.now.length := Nat.sub_zero _
                 rw [hq]
                 have HB8 := Lib.hid (HB7.out.trans (hb8.mono HB7.out.size))
                 have HP8 := Lib.hid (HP7.out.bel hb8)
                 clear hb8 hq)
              | (go_at_call 15; ((with_reducible refine (same_yes A6 (some ⟨po, 0, none⟩) 32 32 c6 32 salt _ HSL.out.symm HSL.out.symm (HRS.out.below HB8.out) (HSR6.out.below HB8.out) (by rw [HSL.out]; omega)).mono ?_); rintro e w9 ⟨rfl, hb9⟩)
                 have HP9 := Lib.hid (HP8.out.bel hb9)
                 clear hb9))
          all_goals
            go_wp2_with fail
            refine ⟨⟨i + 1, _, _, _, _, _, _, _, rfl, by go_num, by omega, by omega, HP9.out.re, HS5.out⟩, ?_⟩
            simp [intOf]
            omega
      · have hcase : ((i : Int) < L.length ∧ ¬ (i : Int) < 20) ∨ ¬ (i : Int) < L.length := by omega
        have hrow : X.heap[po]? = some (.cells cs 40 (0, 0)) := (HP.out.below.block po (lt_of_block HROW.out)).trans HROW.out
        have HROX := Lib.hid hrow
        have hcz : (Try.prog.info? 40).map (·.size) = some cs.size := by rw [hcs]; kernel_rfl
        have HCZ := Lib.hid hcz
        clear hrow hcz
        rcases hcase with ⟨k1, k2⟩ | k1
        all_goals
          go_wp2_with (refine wpList_load_row rfl 40 (.tmp 4) rfl po rfl 40 cs (0, 0) _ HROX.out Try.underlying40 rfl HCZ.out ?_)
          refine (hidden_any HP.out HSE.out HSL.out pw HKN.out A n c HN.out (by have := HN.out; omega) (HRW.out.below HP.out.below) cs hcs HCI.out HS8.out).mono ?_
          rintro e w8 ⟨rfl, hb8⟩
          have HB8 := Lib.hid (HB0.out.trans (hb8.mono HB0L.out))
          clear hb8
          go_wp2_with fail
          refine (cryAwake_any w8).mono ?_
          rintro e w9 ⟨rfl, hb9⟩
          have HB9 := Lib.hid (HB8.out.trans (hb9.mono (by rw [← HPO.out]; exact HB8.out.size)))
          clear hb9
          go_wp2_with fail
          go_ret
          rw [HPO.out]
          exact ⟨rfl, HB9.out⟩
set_option maxRecDepth 100000 in
theorem cryptSees_walk (A0 : Option Addr) (c0 : Nat) (l0 : List Nat) (cs1 : Array Value) (f1 : Nat → Nat) (v2 : Value) (w : World) (hr0 : Rd w A0 l0) (hl0 : l0.length ≤ c0) (hm0 : c0 ≤ maxLen) (n1 : cs1.size = 32) (h1 : ∀ i, i < 32 → cs1[i]? = some (.int .u8 (f1 i : Nat))) (b1 : ∀ i, i < 32 → f1 i < 256)
    {H : Type} (enc : TypeId × Value → H) (d2 : DataW H) (p2 : List MemPlace) {r : Reach} {b0 : Nat} (h2 : DataW.Trod enc Try.prog w 0 (fun _ => true) true 66 v2 d2 p2) (hv2 : Value.okWide Try.prog w r b0 66 v2) :
    Calls Try.prog 8 #[.slice A0 l0.length c0, .agg cs1, v2] w fun e w' => e = .returned (.bool true) ∧ Below w.heap.size w w' := by
  obtain ⟨A, c, L, rfl, hlc, hcm, hL⟩ := open_ops hv2 h2
  refine cryptSees_any A0 l0.length c0 l0 rfl hr0 cs1 ((List.range 32).map f1) n1 (by simp) (fun i hi => ?_) (fun x hx => ?_) A L c hL
  · rw [h1 i hi]
    simp [nth, hi]
  · obtain ⟨i, hi, rfl⟩ := List.mem_map.1 hx
    exact b1 i (by simpa using hi)
end Go.Proofs.Ytmldpamkghdohaa
