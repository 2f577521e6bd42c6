/-
  LISTS OF BYTES IN MEMORY: a slice that reads as a list, a slice of the call's own, append. Conditions: each law's own premises.
  STRINGS AS LISTS OF NUMBERS: parts, prefixes, runes. Conditions: none.
-/
import Derived.Test.YthmpagehmfillaaProg
import Derived.Test.YthmpagehmfillaaQ01
import Derived.Maps.AppendAt
import Derived.Lib.AppendStr
import Derived.Laws.CopyOwn
import Derived.Lib.Strings
import Derived.Lib.OthersKept
import Derived.Laws.RangeAny
namespace Go.Proofs.Ythmpagehmfillaa
open Go.RowKit
set_option linter.unusedSimpArgs false
set_option linter.unusedVariables false

def bv (n : Nat) : Value := .int .u8 n
def bs (l : List Nat) : List Value := l.map bv
theorem bs_length (l : List Nat) : (bs l).length = l.length := by simp [bs]
theorem bs_append (l m : List Nat) : bs (l ++ m) = bs l ++ bs m := by simp [bs]
theorem bs_oneCell (l : List Nat) : ∀ u ∈ bs l, u.oneCell' = true := by
  intro u hu
  simp only [bs, List.mem_map] at hu
  obtain ⟨n, _, rfl⟩ := hu
  rfl
theorem bs_get {l : List Nat} {i : Nat} (hi : i < l.length) : (bs l)[i]? = some (bv l[i]) := by simp [bs, hi]
/-- The i-th byte. -/
def nth (l : List Nat) (i : Nat) : Nat := l.getD i 0
theorem nth_get {l : List Nat} {i : Nat} (hi : i < l.length) : nth l i = l[i] := by simp [nth, hi]
theorem nth_lt {l : List Nat} (h : ∀ x ∈ l, x < 256) (i : Nat) : nth l i < 256 := by
  unfold nth
  rcases Nat.lt_or_ge i l.length with hi | hi
  · rw [List.getD_eq_getElem?_getD, List.getElem?_eq_getElem hi]
    exact h _ (List.getElem_mem hi)
  · rw [List.getD_eq_getElem?_getD, List.getElem?_eq_none hi]
    simp
theorem add_none (g o i : Nat) : (⟨g, o, none⟩ : Addr).add i = ⟨g, o + i, none⟩ := Addr.add_mid g o i

/-- A slice at A of as many bytes as l has reads as l. -/
def Rd (w : World) (A : Option Addr) (l : List Nat) : Prop :=
  (∀ x ∈ l, x < 256) ∧ (l ≠ [] → ∃ g o, A = some ⟨g, o, none⟩ ∧ g < w.heap.size ∧ ∀ i, i < l.length → w.cell? ⟨g, o + i, none⟩ = some (.int .u8 (nth l i : Nat)))
section
variable {w w' : World} {A : Option Addr} {l : List Nat} {B : Nat}
theorem Rd.nil : Rd w A [] := ⟨by simp, fun h => absurd rfl h⟩
theorem Rd.keep (h : Rd w A l) (hs : w.heap.size ≤ w'.heap.size) (hk : ∀ p : Addr, p.block < w.heap.size → (∃ a, A = some a ∧ a.block = p.block) → w'.cell? p = w.cell? p) : Rd w' A l :=
  ⟨h.1, fun hn => by
    obtain ⟨g, o, rfl, hg, hc⟩ := h.2 hn
    exact ⟨g, o, rfl, by omega, fun i hi => (hk ⟨g, o + i, none⟩ hg ⟨_, rfl, rfl⟩).trans (hc i hi)⟩⟩
theorem Rd.below (h : Rd w A l) (hb : Below w.heap.size w w') : Rd w' A l := h.keep hb.size fun _ hp _ => hb.cell hp
theorem Rd.drew (h : Rd w A l) : Rd w.drew A l := h
theorem Rd.drewN (h : Rd w A l) (n : Nat) : Rd (w.drewN n) A l := h
theorem Rd.alloc (h : Rd w A l) (o : Obj) : Rd (w.alloc o) A l := h.below ((Below.refl _ _).alloc (Nat.le_refl _) o)
theorem Rd.grown {row : Option Nat} (h : Rd w A l) (hg : w.grownBy w' row) (hne : ∀ a, A = some a → some a.block ≠ row) : Rd w' A l :=
  h.keep hg.size fun p hp ⟨a, ha, e⟩ => World.cell?_of_block (hg.block p.block hp (by rw [← e]; exact hne a ha))
/-- A part of what is read. -/
theorem Rd.part {g o : Nat} (h : Rd w (some ⟨g, o, none⟩) l) (k : Nat) (n : Nat) : Rd w (some ⟨g, o + k, none⟩) ((l.drop k).take n) := by
  refine ⟨fun x hx => h.1 x (List.mem_of_mem_drop (List.mem_of_mem_take hx)), fun hn => ?_⟩
  have hl : l ≠ [] := by rintro rfl; simp at hn
  obtain ⟨g', o', e, hg, hc⟩ := h.2 hl
  injection e with e
  injection e with e1 e2
  subst e1; subst e2
  refine ⟨g, o + k, rfl, hg, fun i hi => ?_⟩
  simp only [List.length_take, List.length_drop] at hi
  rw [Nat.add_assoc, hc (k + i) (by omega)]
  simp [nth, List.getElem?_take, List.getElem?_drop, show i < n by omega]
end

/-- A slice of the call's own, of the bytes l. -/
def Ow (w : World) (base : Nat) (v : Value) (l : List Nat) : Prop := (∀ x ∈ l, x < 256) ∧ w.ownsRow base 5 1 v l.length (bs l)
section
variable {w w' : World} {base : Nat} {v : Value} {l : List Nat}
theorem Ow.nil (w : World) (base : Nat) : Ow w base (.slice none 0 0) [] := ⟨by simp, World.ownsRow_nil _ _ _ _⟩
theorem Ow.form (h : Ow w base v l) : ∃ A c, v = .slice A l.length c ∧ l.length ≤ c ∧ (∀ a, A = some a → base ≤ a.block ∧ a.block < w.heap.size ∧ v.ownBlock = some a.block) ∧ Rd w A l := by
  obtain ⟨hb, hlen, h | ⟨g, cap, cur, rfl, hg, hh, hn, hm, hs, ht⟩⟩ := h
  · obtain ⟨rfl, hn⟩ := h
    have : l = [] := List.eq_nil_of_length_eq_zero hn
    subst this
    exact ⟨none, 0, rfl, Nat.le_refl _, (fun _ e => by cases e), Rd.nil⟩
  · have hlt : g < w.heap.size := by
      rcases Nat.lt_or_ge g w.heap.size with h | h
      · exact h
      · rw [Array.getElem?_eq_none h] at hh; cases hh
    refine ⟨some ⟨g, 0, none⟩, cap, rfl, hn, ?_, hb, fun _ => ⟨g, 0, rfl, hlt, fun i hi => ?_⟩⟩
    · rintro a e
      injection e with e
      subst e
      exact ⟨hg, hlt, rfl⟩
    · rw [Nat.zero_add, cell_of_row w g i cur _ _ hh]
      have h1 := bs_get hi
      rw [← ht, Nat.mul_one, List.getElem?_take, if_pos hi, Array.getElem?_toList] at h1
      rw [h1, nth_get hi]
      rfl
theorem Ow.form0 (h : Ow w base v l) (hl : l ≠ []) : ∃ g c, v = .slice (some ⟨g, 0, none⟩) l.length c ∧ l.length ≤ c ∧ base ≤ g ∧ g < w.heap.size ∧
    (∀ i, i < l.length → w.cell? ⟨g, i, none⟩ = some (.int .u8 (nth l i : Nat))) ∧ ∀ i, w.frozen? ⟨g, i, none⟩ = false := by
  obtain ⟨A, c, rfl, hc, hA, hr⟩ := h.form
  obtain ⟨g, o, rfl, hg, hcell⟩ := hr.2 hl
  have hl0 : 0 < l.length := List.length_pos_iff.2 hl
  obtain ⟨hb, hlen, h' | ⟨g', cap, cur, e, hg', hh, hn, hm, hs, ht⟩⟩ := h
  · omega
  · injection e with e e2 e3
    injection e with e
    injection e with e1 e4
    subst e1; subst e4
    exact ⟨_, c, rfl, hc, hg', hg, fun i hi => by have := hcell i hi; rwa [Nat.zero_add] at this, fun i => by simp [World.frozen?, hh]⟩
theorem Ow.kept {row : Option Nat} (h : Ow w base v l) (hg : w.grownBy w' row) (hne : v.ownBlock = none ∨ v.ownBlock ≠ row) : Ow w' base v l := ⟨h.1, h.2.kept hg hne⟩
theorem Ow.alloc (h : Ow w base v l) (o : Obj) : Ow (w.alloc o) base v l := ⟨h.1, h.2.alloc o⟩
theorem Ow.drew (h : Ow w base v l) : Ow w.drew base v l := h
theorem Ow.drewN (h : Ow w base v l) (n : Nat) : Ow (w.drewN n) base v l := h
theorem Ow.mono {base' : Nat} (h : Ow w base v l) (hb : base' ≤ base) : Ow w base' v l := ⟨h.1, h.2.1, h.2.2.imp id (fun ⟨g, cap, cur, e, hg, r⟩ => ⟨g, cap, cur, e, by omega, r⟩)⟩
theorem Ow.lt (h : Ow w base v l) : ∀ k, v.ownBlock = some k → base ≤ k ∧ k < w.heap.size := h.2.lt
theorem Ow.below (h : Ow w base v l) (hb : Below w.heap.size w w') : Ow w' base v l :=
  h.kept (row := none) ⟨hb.os, hb.tape, hb.output, hb.size, fun k hk _ => hb.block k hk⟩ (by
    cases hv : v.ownBlock with
    | none => exact .inl rfl
    | some k => exact .inr (by simp))
end

theorem info_u8 : (Try.prog.info? 5).map (fun i => (i.zero, i.size, i.bytes)) = some (some (.int .u8 0), 1, 1) := by kernel_rfl

section
variable {w : World} {ops : Array Oper} {rest : List Oper} {o : Oper} {a : Act} {Q : Exit → Act → World → Prop} {base : Nat} {v : Value} {l : List Nat}
set_option maxRecDepth 100000 in
/-- What an append of bytes leaves. -/
theorem run_append_bytes (ty : TypeId) (hown : Ow w base v l) (A : Option Addr) (c : Nat) (m : List Nat) (hr : Rd w A m)
    (hn : l.length + m.length ≤ 140737488355328) (hbase : base ≤ w.heap.size) :
    ∃ v' w', (Builtin.append_ #[24, 24] ty #[v, .slice A m.length c]).run Try.prog w = .ok v' w' ∧ Ow w' base v' (l ++ m) ∧ w.grownBy w' v.ownBlock ∧ (v'.ownBlock = v.ownBlock ∨ v'.ownBlock = some w.heap.size) := by
  obtain ⟨i, hi, hz, hs, hb⟩ := info_parts info_u8
  have hbytes : ∀ x ∈ l ++ m, x < 256 := fun x hx => by
    rcases List.mem_append.1 hx with h | h
    · exact hown.1 x h
    · exact hr.1 x h
  rcases A with _ | ad
  · have hm : m = [] := by
      rcases List.eq_nil_or_concat m with h | ⟨m', x, h⟩
      · exact h
      · obtain ⟨g, o, e, _⟩ := hr.2 (by rw [h]; simp)
        cases e
    subst hm
    refine ⟨v, w, ?_, by simpa using hown, grown_refl w _, .inl rfl⟩
    rcases hown.2.2 with ⟨rfl, h0⟩ | ⟨g, cap, cur, rfl, _, _, hnc, _⟩
    · simp [Builtin.append_, run_underlying Try.underlying24, sizeOf, typeInfo, hi, Builtin.lenOf, Builtin.firstCells]
    · simp [Builtin.append_, run_underlying Try.underlying24, sizeOf, typeInfo, hi, Builtin.lenOf, Builtin.firstCells, hnc, storeCells]
  · have hcells : ∀ j u, (bs m)[j]? = some u → w.cell? (ad.add j) = some u := by
      intro j u hu
      have hj : j < m.length := by have := (List.getElem?_eq_some_iff.1 hu).1; simpa [bs_length] using this
      obtain ⟨g, o, e, _, hc⟩ := hr.2 (by rintro rfl; simp at hj)
      injection e with e
      subst e
      rw [add_none, hc j hj, nth_get hj]
      rw [bs_get hj] at hu
      exact hu
    obtain ⟨v', w', hrun, h2, h3, _, h5⟩ := run_append_own_at (P := Try.prog) w base 24 ty 5 i (.int .u8 0) 1 1 Try.underlying24 hi hz hs hb rfl (by omega) v l.length (bs l) hown.2 ad m.length c (bs m)
      (by rw [bs_length, Nat.mul_one]) hcells (bs_oneCell m) (by unfold maxLen; omega) (by omega) hbase
    refine ⟨v', w', hrun, ⟨hbytes, ?_⟩, h3, h5⟩
    rw [List.length_append, bs_append]
    exact h2

theorem wp_append_bytes {K : Act → World → Prop} (s x : Operand) (ho : o.op = .call { callee := .builtin .append, args := #[s, x], argTypes := #[24, 24] })
    (hs : a.eval s = v) (hown : Ow w base v l) (A : Option Addr) (n c : Nat) (m : List Nat) (hx : a.eval x = .slice A n c) (hnm : n = m.length) (hr : Rd w A m)
    (hn : l.length + m.length ≤ 140737488355328) (hbase : base ≤ w.heap.size)
    (h : ∀ v' w', Ow w' base v' (l ++ m) → w.grownBy w' v.ownBlock → (v'.ownBlock = v.ownBlock ∨ v'.ownBlock = some w.heap.size) → K (a.put o.dst v') w') : o.wp Try.prog a w K Q := by
  subst hnm
  obtain ⟨v', w', hrun, h2, h3, h4⟩ := run_append_bytes o.type hown A c m hr hn hbase
  unfold Oper.wp execOp
  simp only [ho, resolve, invoke, builtin, Sem.run_bind, Sem.run_pure, Result.andThen_ok, List.map_toArray, List.map_cons, List.map_nil, hs, hx, hrun]
  exact h v' w' h2 h3 h4
/-- 'out = append(out, src...)'. -/
theorem append_bytes (s x : Operand) (hgd : o.guard = none) (ho : o.op = .call { callee := .builtin .append, args := #[s, x], argTypes := #[24, 24] })
    (hs : a.eval s = v) (hown : Ow w base v l) (A : Option Addr) (n c : Nat) (m : List Nat) (hx : a.eval x = .slice A n c) (hnm : n = m.length) (hr : Rd w A m)
    (hn : l.length + m.length ≤ 140737488355328) (hbase : base ≤ w.heap.size)
    (h : ∀ v' w', Ow w' base v' (l ++ m) → w.grownBy w' v.ownBlock → (v'.ownBlock = v.ownBlock ∨ v'.ownBlock = some w.heap.size) → wpList Try.prog ops Q rest (a.put o.dst v') w') : wpList Try.prog ops Q (o :: rest) a w :=
  wpList_plain hgd fun _ hK => wp_append_bytes s x ho hs hown A n c m hx hnm hr hn hbase fun v' w' h2 h3 h4 => hK _ _ (h v' w' h2 h3 h4)
/-- 'out = append(out, b)': b lies in a block of its own. -/
theorem append_byte (s x : Operand) (hgd : o.guard = none) (ho : o.op = .call { callee := .builtin .append, args := #[s, x], argTypes := #[24, 24] })
    (hs : a.eval s = v) (hown : Ow w base v l) (g c b : Nat) (hx : a.eval x = .slice (some ⟨g, 0, none⟩) 1 c) (hc : w.cell? ⟨g, 0, none⟩ = some (.int .u8 b)) (hb : b < 256)
    (hn : l.length + 1 ≤ 140737488355328) (hbase : base ≤ w.heap.size)
    (h : ∀ v' w', Ow w' base v' (l ++ [b]) → w.grownBy w' v.ownBlock → (v'.ownBlock = v.ownBlock ∨ v'.ownBlock = some w.heap.size) → wpList Try.prog ops Q rest (a.put o.dst v') w') : wpList Try.prog ops Q (o :: rest) a w := by
  refine append_bytes s x hgd ho hs hown (some ⟨g, 0, none⟩) 1 c [b] hx rfl ⟨by simpa using hb, fun _ => ⟨g, 0, rfl, block_lt_of_cell hc, fun i hi => ?_⟩⟩ (by simpa using hn) hbase h
  have : i = 0 := by simpa using hi
  subst this
  simpa [nth] using hc
end

theorem new_cell (w : World) (v : Value) (t : TypeId) : (w.alloc (.cells #[v] t)).cell? ⟨w.heap.size, 0, none⟩ = some v := by
  rw [cell_of_row _ _ _ _ _ _ (heap_alloc_new w _)]
  rfl
section
variable {W : World} {ops : Array Oper} {rest : List Oper} {o : Oper} {a : Act} {Q : Exit → Act → World → Prop} {base : Nat} {v : Value} {l : List Nat}
/-- 'out = append(out, b)' behind the block that was made for b. -/
theorem append_new (s x : Operand) (hgd : o.guard = none) (ho : o.op = .call { callee := .builtin .append, args := #[s, x], argTypes := #[24, 24] }) (t c : Nat) (z : Int) (b : Nat)
    (hs : a.eval s = v) (hx : a.eval x = .slice (some ⟨W.heap.size, 0, none⟩) 1 c) (hown : Ow W base v l) (hz : z = b) (hb : b < 256)
    (hn : l.length + 1 ≤ 140737488355328) (hbase : base ≤ W.heap.size)
    (h : ∀ v' w', Ow w' base v' (l ++ [b]) → W.grownBy w' v.ownBlock → (v'.ownBlock = v.ownBlock ∨ W.heap.size < w'.heap.size ∧ v'.ownBlock = some (W.heap.size + 1)) → wpList Try.prog ops Q rest (a.put o.dst v') w') :
    wpList Try.prog ops Q (o :: rest) a (W.alloc (.cells #[.int .u8 z] t)) := by
  subst hz
  refine append_byte s x hgd ho hs (hown.alloc _) W.heap.size c b hx (new_cell _ _ _) hb hn (by rw [World.size_alloc]; omega) fun v' w' h1 h2 h3 => h v' w' h1 (nil_grown (World.grownBy_alloc _ _ _) h2) ?_
  rw [World.size_alloc] at h3
  rcases h3 with h3 | h3
  · exact .inl h3
  · refine .inr ⟨?_, h3⟩
    have := h2.size
    rw [World.size_alloc] at this
    omega
end

/-- A string's bytes. -/
def strB (s : ByteArray) : List Nat := s.data.toList.map UInt8.toNat
theorem strB_length (s : ByteArray) : (strB s).length = s.size := by
  unfold strB
  rw [List.length_map]
  rfl
theorem strB_lt (s : ByteArray) : ∀ x ∈ strB s, x < 256 := by
  intro x hx
  simp only [strB, List.mem_map] at hx
  obtain ⟨u, _, rfl⟩ := hx
  exact UInt8.toNat_lt u
theorem strCells_bs (s : ByteArray) : Lib.strCells s = bs (strB s) := by
  simp [Lib.strCells, bs, strB, bv]
section
variable {w : World} {ops : Array Oper} {rest : List Oper} {o : Oper} {a : Act} {Q : Exit → Act → World → Prop} {base : Nat} {v : Value} {l : List Nat}
/-- 'out = append(out, s...)', s a string. -/
theorem append_str (sl x : Operand) (hgd : o.guard = none) (ho : o.op = .call { callee := .builtin .append, args := #[sl, x], argTypes := #[24, 9] })
    (hs : a.eval sl = v) (hown : Ow w base v l) (s : ByteArray) (hx : a.eval x = .string s) (hn : l.length + s.size ≤ 140737488355328) (hbase : base ≤ w.heap.size)
    (h : ∀ v' w', Ow w' base v' (l ++ strB s) → w.grownBy w' v.ownBlock → wpList Try.prog ops Q rest (a.put o.dst v') w') : wpList Try.prog ops Q (o :: rest) a w := by
  obtain ⟨i, hi, hz, hs1, hb⟩ := info_parts info_u8
  refine Lib.wpList_append_own_string w hgd sl x 24 9 ho base 5 i Try.underlying24 Try.underlying9 hi hz hs1 hb v l.length (bs l) hs hown.2 s hx (by unfold maxLen; omega) hn hbase
    fun v' w' h2 h3 _ => h v' w' ⟨fun y hy => ?_, ?_⟩ h3
  · rcases List.mem_append.1 hy with h | h
    · exact hown.1 y h
    · exact strB_lt s y h
  · rw [List.length_append, strB_length, bs_append, ← strCells_bs]
    exact h2
end

section
variable {w : World} {ops : Array Oper} {rest : List Oper} {o : Oper} {a : Act} {Q : Exit → Act → World → Prop}
/-- 'copy(dst, src)' into a row. -/
theorem copy_bytes (d s : Operand) (hgd : o.guard = none) (ho : o.op = .call { callee := .builtin .copy, args := #[d, s], argTypes := #[24, 24] })
    (g off dLen dCap : Nat) (hd : a.eval d = .slice (some ⟨g, off, none⟩) dLen dCap) (A : Option Addr) (sLen sCap : Nat) (hs : a.eval s = .slice A sLen sCap)
    (t N : Nat) (F : Nat → Value) (hrow : w.rowIs g t N F) (m : List Nat) (hm : m.length = Nat.min sLen dLen) (hr : Rd w A m) (hfit : off + m.length ≤ N)
    (h : ∀ w', w'.rowIs g t N (fun j => if off ≤ j ∧ j < off + m.length then .int .u8 (nth m (j - off) : Nat) else F j) → w.grownBy w' (some g) → wpList Try.prog ops Q rest (a.put o.dst (goInt m.length)) w') : wpList Try.prog ops Q (o :: rest) a w := by
  have hsz : (Try.prog.info? 5).map (·.size) = some 1 := by kernel_rfl
  by_cases h0 : m = []
  · subst h0
    refine wpList_copy_nothing hgd d s 24 24 ho 5 Try.underlying24 hsz _ A dLen dCap sLen sCap hd hs (by simpa using hm.symm) ?_
    exact h w (hrow.congr fun i _ => by rw [if_neg (by simp)]) (grown_refl _ _)
  · obtain ⟨cur, hg, hn, hc⟩ := hrow
    obtain ⟨g', o', rfl, hg', hcell⟩ := hr.2 h0
    have hgl : g < w.heap.size := lt_of_block hg
    refine wpList_copy_own hgd d s 24 24 ho 5 Try.underlying24 hsz g off dLen dCap ⟨g', o', none⟩ sLen sCap hd hs cur t hg (bs m) (by rw [bs_length]; exact hm) ?_ (by rw [bs_length, hn]; exact hfit) (bs_oneCell m) ?_
    · intro j v hv
      have hj : j < m.length := by have := (List.getElem?_eq_some_iff.1 hv).1; simpa [bs_length] using this
      rw [add_none, hcell j hj, nth_get hj]
      rw [bs_get hj] at hv
      exact hv
    · rw [bs_length]
      refine h _ ⟨_, setRow_heap w g cur _ t (0, 0) hg, ?_, fun j hj => ?_⟩ ⟨rfl, rfl, rfl, by simp, fun k _ hne => setRow_other w g k _ (fun e => hne (by rw [e]))⟩
      · simp [bs_length]
        omega
      · show _ = some (if off ≤ j ∧ j < off + m.length then Value.int .u8 (nth m (j - off) : Nat) else F j)
        rw [List.getElem?_toArray, List.getElem?_append, List.getElem?_append, List.length_take, Array.length_toList, hn, bs_length]
        by_cases e1 : j < off
        · rw [if_pos (by omega), List.getElem?_take, if_pos e1, if_neg (by omega), Array.getElem?_toList]
          exact hc j hj
        · rw [if_neg (by omega)]
          by_cases e2 : j < off + m.length
          · rw [if_pos (by omega), if_pos ⟨by omega, e2⟩, show min off N = off by omega, bs_get (show j - off < m.length by omega), nth_get (show j - off < m.length by omega)]
            rfl
          · rw [if_neg (by omega), if_neg (by omega), List.getElem?_drop, Array.getElem?_toList, show off + m.length + (j - min off N - m.length) = j by omega]
            exact hc j hj
end

/-- The one that was appended to is the call's own: what is below its base stays. -/
theorem below_of_append {B base : Nat} {w0 w w' : World} {v : Value} {l : List Nat} (h : Below B w0 w) (hown : Ow w base v l) (hg : w.grownBy w' v.ownBlock) (hB : B ≤ w.heap.size) (hb : B ≤ base) : Below B w0 w' :=
  h.grown hg hB (fun k hk => by have := (hown.lt k hk).1; omega)
end Go.Proofs.Ythmpagehmfillaa
namespace Go.Proofs.Ythmpagehmfillaa
open Go.RowKit
set_option linter.unusedSimpArgs false
set_option linter.unusedVariables false

/-- The string of these bytes. -/
def mkS (l : List Nat) : ByteArray := ⟨(l.map UInt8.ofNat).toArray⟩
theorem strB_mkS {l : List Nat} (h : ∀ x ∈ l, x < 256) : strB (mkS l) = l := by
  unfold strB mkS
  simp only [List.map_map]
  conv => rhs; rw [← List.map_id l]
  apply List.map_congr_left
  intro x hx
  have := h x hx
  simp [UInt8.toNat_ofNat']
  omega
theorem mkS_strB (s : ByteArray) : mkS (strB s) = s := by
  unfold strB mkS
  rw [List.map_map]
  have : List.map (UInt8.ofNat ∘ UInt8.toNat) s.data.toList = s.data.toList := by
    conv => rhs; rw [← List.map_id s.data.toList]
    apply List.map_congr_left
    intro x _
    simp
  rw [this]
theorem strB_inj {s t : ByteArray} (h : strB s = strB t) : s = t := by rw [← mkS_strB s, ← mkS_strB t, h]
theorem strB_nth {s : ByteArray} {i : Nat} (h : i < s.size) : nth (strB s) i = (s[i]'h).toNat := by
  have h' : i < (strB s).length := by rw [strB_length]; exact h
  rw [nth_get h']
  simp [strB]
  rfl
theorem get_nth {s : ByteArray} {i : Nat} (h : i < s.size) : (s.get! i).toNat = nth (strB s) i := by
  rw [strB_nth h]
  have := get_at s i h
  rw [Nat.add_zero] at this
  rw [this]
theorem strB_extract (s : ByteArray) (a b : Nat) : strB (s.extract a b) = ((strB s).drop a).take (b - a) := by
  unfold strB
  rw [Lib.extract_data, List.map_take, List.map_drop]
theorem strB_data_inj {s t : ByteArray} : s.data.toList = t.data.toList ↔ strB s = strB t := by
  constructor
  · intro h; simp [strB, h]
  · intro h; rw [strB_inj h]
theorem str_eq (s t : ByteArray) : (s.toList == t.toList) = decide (strB s = strB t) := by
  rw [Bool.eq_iff_iff]
  simp only [beq_iff_eq, decide_eq_true_eq]
  rw [Lib.toList_data, Lib.toList_data, strB_data_inj]

/-- How many bytes of a kind a list begins with. -/
def wl (p : Nat → Bool) (l : List Nat) : Nat := (l.takeWhile p).length
theorem wl_le (p : Nat → Bool) (l : List Nat) : wl p l ≤ l.length := (List.takeWhile_sublist p).length_le
theorem wl_at {p : Nat → Bool} {k : Nat} : ∀ {l : List Nat}, k < l.length → (∀ j, j < k → p (nth l j) = true) → p (nth l k) = false → wl p l = k := by
  induction k with
  | zero =>
    intro l hk _ hf
    cases l with
    | nil => simp at hk
    | cons a l =>
      have : p a = false := by simpa [nth] using hf
      simp [wl, List.takeWhile_cons, this]
  | succ k ih =>
    intro l hk ha hf
    cases l with
    | nil => simp at hk
    | cons a l =>
      have h0 : p a = true := by simpa [nth] using ha 0 (by omega)
      have := ih (l := l) (by simpa using hk) (fun j hj => by simpa [nth] using ha (j + 1) (by omega)) (by simpa [nth] using hf)
      unfold wl at this ⊢
      rw [List.takeWhile_cons, h0]
      simpa using this
theorem wl_lt {p : Nat → Bool} : ∀ {l : List Nat} {j : Nat}, j < wl p l → p (nth l j) = true := by
  intro l
  induction l with
  | nil => intro j hj; simp [wl] at hj
  | cons a l ih =>
    intro j hj
    unfold wl at hj
    rw [List.takeWhile_cons] at hj
    by_cases h : p a = true
    · rw [h] at hj
      cases j with
      | zero => simpa [nth] using h
      | succ j => simpa [nth] using ih (j := j) (by simpa [wl] using hj)
    · rw [if_neg h] at hj
      simp at hj
theorem wl_stop {p : Nat → Bool} {l : List Nat} (h : wl p l < l.length) : p (nth l (wl p l)) = false := by
  induction l with
  | nil => simp [wl] at h
  | cons a l ih =>
    by_cases hp : p a = true
    · have e : wl p (a :: l) = wl p l + 1 := by simp [wl, List.takeWhile_cons, hp]
      rw [e] at h ⊢
      simpa [nth] using ih (by simpa using h)
    · have e : wl p (a :: l) = 0 := by simp [wl, List.takeWhile_cons, hp]
      rw [e]
      simpa [nth] using hp

theorem wl_all {p : Nat → Bool} {l : List Nat} (h : ∀ j, j < l.length → p (nth l j) = true) : wl p l = l.length := by
  rcases Nat.lt_or_ge (wl p l) l.length with h1 | h1
  · have := wl_stop h1
    rw [h _ h1] at this
    cases this
  · have := wl_le p l
    omega

/-- The bytes of a rune that is not ASCII are not ASCII. -/
theorem decode_mid (s : ByteArray) (pos : Nat) (h : pos < s.size) (ha : 128 ≤ nth (strB s) pos) : ∀ j, j < (Utf8.decode s pos).2 → pos + j < s.size ∧ 128 ≤ nth (strB s) (pos + j) := by
  have h0 : pos + 0 < s.size ∧ 128 ≤ nth (strB s) (pos + 0) := ⟨h, ha⟩
  have hc : ∀ k, (decide (pos + k < s.size) && (s.get! (pos + k)).toNat / 64 == 2) = true → pos + k < s.size ∧ 128 ≤ nth (strB s) (pos + k) := by
    intro k hk
    simp only [Bool.and_eq_true, decide_eq_true_eq, beq_iff_eq] at hk
    refine ⟨hk.1, ?_⟩
    rw [← get_nth hk.1]
    omega
  unfold Utf8.decode
  simp only
  intro j
  split
  · intro hj; obtain rfl : j = 0 := by simpa using hj
    exact h0
  · split
    · rename_i h1
      rw [Bool.and_eq_true] at h1
      have c1 := hc 1 h1.2
      split
      all_goals
        intro hj
        have hj' : j = 0 ∨ j = 1 := by simp at hj; omega
        rcases hj' with rfl | rfl
        · exact h0
        · exact c1
    · split
      · rename_i h1
        rw [Bool.and_eq_true, Bool.and_eq_true] at h1
        have c1 := hc 1 h1.1.2
        have c2 := hc 2 h1.2
        split
        all_goals
          intro hj
          have hj' : j = 0 ∨ j = 1 ∨ j = 2 := by simp at hj; omega
          rcases hj' with rfl | rfl | rfl
          · exact h0
          · exact c1
          · exact c2
      · split
        · rename_i h1
          rw [Bool.and_eq_true, Bool.and_eq_true, Bool.and_eq_true] at h1
          have c1 := hc 1 h1.1.1.2
          have c2 := hc 2 h1.1.2
          have c3 := hc 3 h1.2
          split
          all_goals
            intro hj
            have hj' : j = 0 ∨ j = 1 ∨ j = 2 ∨ j = 3 := by simp at hj; omega
            rcases hj' with rfl | rfl | rfl | rfl
            · exact h0
            · exact c1
            · exact c2
            · exact c3
        · intro hj; obtain rfl : j = 0 := by simpa using hj
          exact h0
end Go.Proofs.Ythmpagehmfillaa
