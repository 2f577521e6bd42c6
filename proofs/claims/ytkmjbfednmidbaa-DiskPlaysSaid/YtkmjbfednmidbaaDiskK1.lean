/-
  WHAT DiskKept KEEPS BESIDE A DISK: a list that grows and is cut, a copy of it; low's CopyBytes, Pick. Conditions: each law's own premises.
-/
import Derived.Test.YtkmjbfednmidbaaDiskA
import Derived.Test.YtkmjbfednmidbaaArgsC
namespace Go.Proofs.Ytkmjbfednmidbaa
open Go.RowKit
set_option linter.unusedSimpArgs false
set_option linter.unusedVariables false

theorem copyb_any (A : Option Addr) (n c : Nat) (l : List Nat) (w : World) (hn : n = l.length) (h : Rd w A l) (hl : l.length ≤ 140737488355328) :
    Calls Try.prog 17 #[.slice A n c] w fun e w' => ∃ v, e = .returned v ∧ Ow w' w.heap.size v l ∧ Below w.heap.size w w' := by
  subst hn
  go_enter Try.func17, Try.ntmps17
  go_wp2_with fail
  refine (own_any A l.length c l w rfl h (by omega)).mono ?_
  rintro e w1 ⟨v, rfl, ho, hb⟩
  have HO := Lib.hid ho
  have HB := Lib.hid hb
  clear ho hb
  go_wp2_with fail
  go_ret
  exact ⟨v, rfl, HO.out, HB.out⟩
theorem pick_any (x : Int) (w : World) : Calls Try.prog 15 #[.int .i64 x, .int .i64 80] w fun e w' => ∃ k : Nat, e = .returned (.int .i64 k) ∧ k < 80 ∧ w = w' := by
  have h1 := Int.tmod_lt_of_pos x (show (0 : Int) < 80 by omega)
  have h2 : -80 < x.tmod 80 := by
    have := Int.tmod_lt_of_pos (-x) (show (0 : Int) < 80 by omega)
    rw [Int.neg_tmod] at this
    omega
  go_enter Try.func15, Try.ntmps15
  go_wp2_with fail
  go_ret
  refine ⟨((x.tmod 80 + 80) % 80).toNat, ?_, by omega, rfl⟩
  rw [Int.toNat_of_nonneg (by omega)]
  rfl

/-- A list of the call's own: it has room, or it has none. -/
def NowV (w : World) (base : Nat) (v : Value) (l : List Nat) : Prop := Ow w base v l ∨ ∃ B, v = .slice B l.length l.length ∧ Rd w B l ∧ (∀ a, B = some a → base ≤ a.block ∧ a.block < w.heap.size) ∧ l.length ≤ 140737488355328
theorem NowV.form {w : World} {base : Nat} {v : Value} {l : List Nat} (h : NowV w base v l) : ∃ A c, v = .slice A l.length c ∧ l.length ≤ c ∧ c ≤ 9223372036854775807 ∧ (∀ a, A = some a → base ≤ a.block ∧ a.block < w.heap.size) ∧ v.ownBlock = A.map (·.block) ∧ Rd w A l := by
  rcases h with h | ⟨B, rfl, h1, h2, h3⟩
  · obtain ⟨b, ⟨A, c, e, q1, q2, q3, q4⟩, -⟩ := h.sl
    obtain ⟨A', c', e', -, h3, h4⟩ := h.form
    rw [e] at e'
    injection e' with e1 e2 e3
    subst e1; subst e3
    exact ⟨A, c, e, q1, q2, fun a ha => ⟨(h3 a ha).1, (h3 a ha).2.1⟩, by rw [e]; cases A <;> rfl, h4⟩
  · exact ⟨B, l.length, rfl, Nat.le_refl _, by omega, h2, by cases B <;> rfl, h1⟩
theorem NowV.lt {w : World} {base : Nat} {v : Value} {l : List Nat} (h : NowV w base v l) {k : Nat} (hk : v.ownBlock = some k) : base ≤ k ∧ k < w.heap.size := by
  obtain ⟨A, c, rfl, _, _, h1, h2, _⟩ := h.form
  rw [h2] at hk
  cases A with
  | none => cases hk
  | some a =>
    obtain rfl : a.block = k := by simpa using hk
    exact h1 a rfl
theorem Ow.keepb {w w' : World} {base : Nat} {v : Value} {l : List Nat} (h : Ow w base v l) (hk : ∀ k, v.ownBlock = some k → w'.heap[k]? = w.heap[k]?) : Ow w' base v l := by
  obtain ⟨h1, h2, h | ⟨g, cap, cur, rfl, hg, hh, hr⟩⟩ := h
  · exact ⟨h1, h2, .inl h⟩
  · exact ⟨h1, h2, .inr ⟨g, cap, cur, rfl, hg, (hk g rfl).trans hh, hr⟩⟩
theorem NowV.keepb {w w' : World} {base : Nat} {v : Value} {l : List Nat} (h : NowV w base v l) (hs : w.heap.size ≤ w'.heap.size) (hk : ∀ k, v.ownBlock = some k → w'.heap[k]? = w.heap[k]?) : NowV w' base v l := by
  rcases h with h | ⟨B, rfl, h1, h2, h3⟩
  · exact .inl (h.keepb hk)
  · refine .inr ⟨B, rfl, h1.keep hs fun p hp ⟨a, ha, e⟩ => World.cell?_of_block (hk p.block (by rw [ha, ← e]; rfl)), fun a ha => ⟨(h2 a ha).1, Nat.lt_of_lt_of_le (h2 a ha).2 hs⟩, h3⟩
section
variable {w : World} {ops : Array Oper} {rest : List Oper} {o : Oper} {a : Act} {base : Nat} {v : Value} {l : List Nat} {Q : Exit → Act → World → Prop}
theorem run_append_clip2 (ty : TypeId) (B : Option Addr) (l : List Nat) (hB : Rd w B l) (A : Option Addr) (c : Nat) (m : List Nat) (hA : Rd w A m) (hn : l.length + m.length ≤ 140737488355328) :
    ∃ v' w', (Builtin.append_ #[32, 32] ty #[.slice B l.length l.length, .slice A m.length c]).run Try.prog w = .ok v' w' ∧ ((m = [] ∧ v' = .slice B l.length l.length ∧ w' = w) ∨ Ow w' w.heap.size v' (l ++ m)) ∧ Below w.heap.size w w' := by
  obtain ⟨i, hi, hz, hs, hb⟩ := info_parts info_u8
  by_cases hm : m = []
  · subst hm
    refine ⟨.slice B l.length l.length, w, ?_, .inl ⟨rfl, rfl, rfl⟩, Below.refl _ _⟩
    rcases A with _ | ad
    all_goals
      rcases B with _ | bd
      all_goals simp [Builtin.append_, run_underlying Try.underlying32, sizeOf, typeInfo, hi, Builtin.lenOf, Builtin.firstCells, storeCells, loadCells, loadCellsFrom]
  · obtain ⟨g, off, rfl, hg, hc⟩ := hA.2 hm
    have hm0 : 0 < m.length := List.length_pos_iff.2 hm
    have hcells : ∀ j u, (bs m)[j]? = some u → w.cell? ((⟨g, off, none⟩ : Addr).add j) = some u := by
      intro j u hu
      have hj : j < m.length := by have := (List.getElem?_eq_some_iff.1 hu).1; simpa [bs_length] using this
      rw [add_none, hc j hj, nth_get hj]
      rw [bs_get hj] at hu
      exact hu
    have fin : ∀ v' w', w'.ownsRow w.heap.size 5 1 v' (l.length + m.length) (bs l ++ bs m) → Ow w' w.heap.size v' (l ++ m) := fun v' w' h =>
      ⟨fun x hx => by
        rcases List.mem_append.1 hx with h | h
        · exact hB.1 x h
        · exact hA.1 x h, by rw [List.length_append, bs_append]; exact h⟩
    rcases B with _ | bd
    · have hl : l = [] := by
        cases l with
        | nil => rfl
        | cons x t => obtain ⟨g, o, e, _⟩ := hB.2 (by simp); cases e
      subst hl
      obtain ⟨v', w', hrun, h2, h3, _⟩ := run_append_own (P := Try.prog) w w.heap.size 32 ty 5 i (.int .u8 0) 1 1 Try.underlying32 hi hz hs hb rfl (by omega) (.slice none 0 0) 0 [] (World.ownsRow_nil w _ _ _) ⟨g, off, none⟩ m.length c (bs m)
        (by rw [bs_length, Nat.mul_one]) hcells (bs_oneCell m) (by unfold maxLen; simp at hn; omega) (by simp at hn; omega) (Nat.le_refl _)
      exact ⟨v', w', hrun, .inr (fin v' w' (by simpa [bs] using h2)), (Below.refl _ _).grown h3 (Nat.le_refl _) (by simp [Value.ownBlock])⟩
    · obtain ⟨v', w', hrun, h2, h3⟩ := run_append_arg_grows (P := Try.prog) w 32 ty 5 i (.int .u8 0) 1 1 Try.underlying32 hi hz hs hb rfl (by omega) bd l.length l.length (bs l) (by rw [bs_length, Nat.mul_one])
        (fun j u hu => by
          have hj : j < l.length := by have := (List.getElem?_eq_some_iff.1 hu).1; simpa [bs_length] using this
          obtain ⟨g', o', e, _, hc'⟩ := hB.2 (by rintro rfl; simp at hj)
          injection e with e
          subst e
          rw [add_none, hc' j hj, nth_get hj]
          rw [bs_get hj] at hu
          exact hu)
        ⟨g, off, none⟩ m.length c (bs m) (by rw [bs_length, Nat.mul_one]) hcells (by omega) (by unfold maxLen; omega) (by omega)
      exact ⟨v', w', hrun, .inr (fin v' w' h2), (Below.refl _ _).grown h3 (Nat.le_refl _) (by simp)⟩
/-- 'now = append(now, b...)'. -/
theorem append_now (s x : Operand) (hgd : o.guard = none) (ho : o.op = .call { callee := .builtin .append, args := #[s, x], argTypes := #[32, 32] })
    (hs : a.eval s = v) (hown : NowV w base v l) (A : Option Addr) (n c : Nat) (m : List Nat) (hx : a.eval x = .slice A n c) (hnm : n = m.length) (hr : Rd w A m)
    (hn : l.length + m.length ≤ 140737488355328) (hbase : base ≤ w.heap.size)
    (h : ∀ v' w', NowV w' base v' (l ++ m) → w.grownBy w' v.ownBlock → (v'.ownBlock = v.ownBlock ∨ ∀ k, v'.ownBlock = some k → w.heap.size ≤ k) → wpList Try.prog ops Q rest (a.put o.dst v') w') : wpList Try.prog ops Q (o :: rest) a w := by
  subst hnm
  rcases hown with hown | ⟨B, rfl, h1, h2, h3⟩
  · exact append_bytes s x hgd ho hs hown A _ c m hx rfl hr hn hbase fun v' w' k1 k2 k3 => h v' w' (.inl k1) k2 (k3.imp id fun e k e2 => by rw [e] at e2; injection e2 with e2; omega)
  · obtain ⟨v', w', hrun, k1, k3⟩ := run_append_clip2 o.type B l h1 A c m hr hn
    refine wpList_plain hgd fun K hK => ?_
    unfold Oper.wp execOp
    simp only [ho, resolve, invoke, builtin, Sem.run_bind, Sem.run_pure, Result.andThen_ok, List.map_toArray, List.map_cons, List.map_nil, hs, hx, hrun]
    refine hK _ _ (h v' w' ?_ (grown_of_below k3 _) ?_)
    · rcases k1 with ⟨rfl, rfl, rfl⟩ | k1
      · exact .inr ⟨B, by simp, by simpa using h1, h2, by simpa using hn⟩
      · exact .inl (k1.mono hbase)
    · rcases k1 with ⟨rfl, rfl, rfl⟩ | k1
      · exact .inl rfl
      · exact .inr fun k e => (NowV.lt (.inl k1) e).1
end

/-- A disk and, beside it, a list that grows (vn, ln) and a copy of one (A, lo). -/
structure KS (w0 w : World) (g : Nat) (nb ob : Option Nat) (d : DkS) (vn : Value) (ln : List Nat) (A : Option Addr) (lo : List Nat) : Prop where
  dk : Dk w g nb ob d
  bg : w0.heap.size ≤ g
  bn : ∀ k, nb = some k → w0.heap.size ≤ k
  bo : ∀ k, ob = some k → w0.heap.size ≤ k
  now : NowV w w0.heap.size vn ln
  old : Rd w A lo
  n1 : ∀ k, vn.ownBlock = some k → k ≠ g ∧ nb ≠ some k ∧ ob ≠ some k ∧ A.map (·.block) ≠ some k
  oA : ∀ a, A = some a → a.block ≠ g ∧ a.block < w.heap.size
  below : Below w0.heap.size w0 w
section
variable {w0 w w' : World} {g : Nat} {nb ob : Option Nat} {d d' : DkS} {vn : Value} {ln lo : List Nat} {A : Option Addr}
theorem KS.base (h : KS w0 w g nb ob d vn ln A lo) : w0.heap.size ≤ w.heap.size := h.below.size
theorem KS.bel (h : KS w0 w g nb ob d vn ln A lo) (hb : Below w.heap.size w w') : KS w0 w' g nb ob d vn ln A lo where
  dk := h.dk.below hb
  bg := h.bg
  bn := h.bn
  bo := h.bo
  now := h.now.keepb hb.size fun k e => hb.block k (h.now.lt e).2
  old := h.old.below hb
  n1 := h.n1
  oA := fun a e => ⟨(h.oA a e).1, Nat.lt_of_lt_of_le (h.oA a e).2 hb.size⟩
  below := h.below.trans (hb.mono h.base)
/-- A call on the disk. -/
theorem KS.after (h : KS w0 w g nb ob d vn ln A lo) (ha : After w g nb ob d' w') : ∃ nb' ob', KS w0 w' g nb' ob' d' vn ln A lo := by
  obtain ⟨nb', ob', h1, h2, h3, h4⟩ := ha
  have hk : ∀ k, vn.ownBlock = some k → w'.heap[k]? = w.heap[k]? := fun k e => h4.block k (h.now.lt e).2 (by intro e2; injection e2 with e2; exact (h.n1 k e).1 e2)
  have key : ∀ x : Option Nat, (New w nb x ∨ New w ob x) → (∀ k, x = some k → w0.heap.size ≤ k) ∧ ∀ k, vn.ownBlock = some k → x ≠ some k := by
    intro x hn
    refine ⟨fun k e => ?_, fun k e e2 => ?_⟩
    · rcases hn with (rfl | hn) | (rfl | hn)
      · exact h.bn k e
      · exact Nat.le_trans h.base (hn k e)
      · exact h.bo k e
      · exact Nat.le_trans h.base (hn k e)
    · have := (h.now.lt e).2
      rcases hn with (rfl | hn) | (rfl | hn)
      · exact (h.n1 k e).2.1 e2
      · have := hn k e2; omega
      · exact (h.n1 k e).2.2.1 e2
      · have := hn k e2; omega
  refine ⟨nb', ob', h1, h.bg, (key nb' h2).1, (key ob' h3).1, h.now.keepb h4.size hk, h.old.keep h4.size fun p hp ⟨a, ha, e⟩ => ?_, fun k e => ⟨(h.n1 k e).1, (key nb' h2).2 k e, (key ob' h3).2 k e, (h.n1 k e).2.2.2⟩, fun a e => ⟨(h.oA a e).1, Nat.lt_of_lt_of_le (h.oA a e).2 h4.size⟩, below_of_grown h.below h4 h.base h.bg⟩
  refine World.cell?_of_block (h4.block p.block hp fun e2 => ?_)
  injection e2 with e2
  exact (h.oA a ha).1 (by rw [e, e2])
/-- now = append(now, b...) -/
theorem KS.grow {vn' : Value} {ln' : List Nat} (h : KS w0 w g nb ob d vn ln A lo) (hn : NowV w' w0.heap.size vn' ln') (hg : w.grownBy w' vn.ownBlock) (ho : vn'.ownBlock = vn.ownBlock ∨ ∀ k, vn'.ownBlock = some k → w.heap.size ≤ k) :
    KS w0 w' g nb ob d vn' ln' A lo := by
  refine ⟨h.dk.grown hg (fun e => (h.n1 g e).1 rfl) (fun k e e2 => (h.n1 k e2).2.1 e) (fun k e e2 => (h.n1 k e2).2.2.1 e), h.bg, h.bn, h.bo, hn, h.old.keep hg.size fun p hp ⟨a, ha, e⟩ => World.cell?_of_block (hg.block p.block hp fun e2 => (h.n1 p.block e2.symm).2.2.2 (by rw [ha, ← e]; rfl)), ?_, fun a e => ⟨(h.oA a e).1, Nat.lt_of_lt_of_le (h.oA a e).2 hg.size⟩, ?_⟩
  · intro k e
    rcases ho with ho | ho
    · exact h.n1 k (by rw [← ho]; exact e)
    · have := ho k e
      refine ⟨?_, ?_, ?_, ?_⟩
      · have := h.dk.lt; omega
      · intro e2; have := h.dk.nl k e2; omega
      · intro e2; have := h.dk.ol k e2; omega
      · intro e2
        obtain ⟨a, ha, e3⟩ := Option.map_eq_some_iff.1 e2
        have := (h.oA a ha).2
        omega
  · refine ⟨hg.os.trans h.below.os, hg.tape.trans h.below.tape, hg.output.trans h.below.output, Nat.le_trans h.below.size hg.size, fun k hk => (hg.block k (Nat.lt_of_lt_of_le hk h.base) fun e => ?_).trans (h.below.block k hk)⟩
    have := (h.now.lt e.symm).1
    omega
/-- now = now[:n:n] -/
theorem KS.cut {n : Nat} {B : Option Addr} (h : KS w0 w g nb ob d vn ln A lo) (hr : Rd w B (ln.take n)) (hn : n ≤ ln.length) (hl : ln.length ≤ 140737488355328) (hB : B.map (·.block) = vn.ownBlock) : KS w0 w g nb ob d (.slice B n n) (ln.take n) A lo := by
  have ht : (ln.take n).length = n := by rw [List.length_take]; omega
  have ho : (Value.slice B n n).ownBlock = vn.ownBlock := by rw [← hB]; cases B <;> rfl
  refine ⟨h.dk, h.bg, h.bn, h.bo, .inr ⟨B, by rw [ht], hr, fun a e => ?_, by omega⟩, h.old, fun k e => h.n1 k (by rw [← ho]; exact e), h.oA, h.below⟩
  exact h.now.lt (by rw [← hB, e]; rfl)
/-- old = CopyBytes(now) -/
theorem KS.copy {v : Value} (h : KS w0 w g nb ob d vn ln A lo) (ho : Ow w' w.heap.size v ln) (hb : Below w.heap.size w w') : ∃ A' c', v = .slice A' ln.length c' ∧ KS w0 w' g nb ob d vn ln A' ln := by
  obtain ⟨A', c', rfl, hc, h3, hr⟩ := ho.form
  refine ⟨A', c', rfl, ?_⟩
  have k := h.bel hb
  refine ⟨k.dk, k.bg, k.bn, k.bo, k.now, hr, fun j e => ⟨(k.n1 j e).1, (k.n1 j e).2.1, (k.n1 j e).2.2.1, fun e2 => ?_⟩, fun a e => ⟨fun e2 => ?_, (h3 a e).2.1⟩, k.below⟩
  · obtain ⟨a, ha, e3⟩ := Option.map_eq_some_iff.1 e2
    have := (h3 a ha).1
    have := (h.now.lt e).2
    omega
  · have := (h3 a e).1
    have := h.dk.lt
    omega
end
end Go.Proofs.Ytkmjbfednmidbaa
