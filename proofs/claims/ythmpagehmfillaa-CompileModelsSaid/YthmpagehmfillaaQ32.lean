/-
  AN ARGUMENT OF TYPE []api.Stmt, []api.Part, api.Config, OPENED. Conditions: none.
-/
import Derived.Test.YthmpagehmfillaaQ31
import Derived.Test.YthmpagehmfillaaQ29
import Derived.SizedLaws
namespace Go.Proofs.Ythmpagehmfillaa
open Go.RowKit Go.ChangeShapes Go.WideShapes Go.ChangeAt
set_option linter.unusedSimpArgs false
set_option linter.unusedVariables false
theorem wAll_mem {H : Type} {P : Program} {e : TypeId} : ∀ {ds : List (DataW H)} {i : Nat} {d : DataW H}, ds[i]? = some d → ∀ n ∈ d.weights P e, n ∈ DataW.weightsAll P e ds
  | [], _, _, h, _, _ => by simp at h
  | d0 :: ds, 0, d, h, n, hn => by
    simp only [List.getElem?_cons_zero, Option.some.injEq] at h
    subst h
    simp only [DataW.weightsAll, List.mem_append]
    exact .inl hn
  | d0 :: ds, i + 1, d, h, n, hn => by
    simp only [List.getElem?_cons_succ] at h
    simp only [DataW.weightsAll, List.mem_append]
    exact .inr (wAll_mem h n hn)
section
variable {H : Type} {enc : TypeId × Value → H} {W : World} {fuel : Nat} {cs : List Value} {x : DataW H × List MemPlace}
set_option maxRecDepth 100000 in
theorem open_ins (hf : DataW.trod enc Try.prog W 0 (fun _ => true) true fuel 56 cs = some x) : ∃ i : InsS, cs = [.int .u8 i.o, .int .i64 i.d, .int .i64 i.s, .int .i64 i.n] ∧ i.o < 256 := by
  obtain ⟨xs, n, _, _, hl, hx, hfs⟩ := DataW.trod_struct Try.underlying56 hf
  have hl : cs.length = 4 := hl.trans (by kernel_rfl)
  have hx : xs.length = 4 := hx
  have f0 := hfs 0 _ rfl
  have f1 := hfs 1 _ rfl
  have f2 := hfs 2 _ rfl
  have f3 := hfs 3 _ rfl
  rw [List.getElem?_eq_getElem (by omega)] at f0 f1 f2 f3
  obtain ⟨z0, e0, -, q0⟩ := DataW.trod_int Try.underlying54 f0
  obtain ⟨z1, e1, -, q1⟩ := DataW.trod_int Try.underlying3 f1
  obtain ⟨z2, e2, -, q2⟩ := DataW.trod_int Try.underlying3 f2
  obtain ⟨z3, e3, -, q3⟩ := DataW.trod_int Try.underlying3 f3
  obtain ⟨k, hk, rfl⟩ := nat_of_u8 q0
  have c1 : Try.prog.cellsOf 3 = 1 := by kernel_rfl
  have c2 : Try.prog.cellsOf 54 = 1 := by kernel_rfl
  have e0 : (cs.drop 0).take 1 = [Value.int .u8 k] := by rw [← c2]; exact e0
  have e1 : (cs.drop 1).take 1 = [Value.int .i64 z1] := by rw [← c1]; exact e1
  have e2 : (cs.drop 2).take 1 = [Value.int .i64 z2] := by rw [← c1]; exact e2
  have e3 : (cs.drop 3).take 1 = [Value.int .i64 z3] := by rw [← c1]; exact e3
  refine ⟨⟨k, z1, z2, z3⟩, ?_, hk⟩
  match cs, hl with
  | [a, b, c, d], _ =>
    have e0 : [a] = [Value.int .u8 k] := e0
    have e1 : [b] = [Value.int .i64 z1] := e1
    have e2 : [c] = [Value.int .i64 z2] := e2
    have e3 : [d] = [Value.int .i64 z3] := e3
    simp only [List.cons.injEq, and_true] at e0 e1 e2 e3
    rw [e0, e1, e2, e3]
set_option maxRecDepth 100000 in
theorem open_con (hf : DataW.trod enc Try.prog W 0 (fun _ => true) true fuel 58 cs = some x) : ∃ c : ConS, cs = [.bool c.nt, .int .u8 c.i.o, .int .i64 c.i.d, .int .i64 c.i.s, .int .i64 c.i.n] ∧ c.i.o < 256 := by
  obtain ⟨xs, n, _, _, hl, hx, hfs⟩ := DataW.trod_struct Try.underlying58 hf
  have hl : cs.length = 5 := hl.trans (by kernel_rfl)
  have hx : xs.length = 2 := hx
  have f0 := hfs 0 _ rfl
  have f1 := hfs 1 _ rfl
  rw [List.getElem?_eq_getElem (by omega)] at f0 f1
  obtain ⟨b, e0, -⟩ := DataW.trod_bool Try.underlying4 f0
  obtain ⟨i, e1, hi⟩ := open_ins f1
  have c1 : Try.prog.cellsOf 4 = 1 := by kernel_rfl
  have c2 : Try.prog.cellsOf 56 = 4 := by kernel_rfl
  have e0 : (cs.drop 0).take 1 = [Value.bool b] := by rw [← c1]; exact e0
  have e1 : (cs.drop 1).take 4 = [Value.int .u8 i.o, .int .i64 i.d, .int .i64 i.s, .int .i64 i.n] := by rw [← c2]; exact e1
  refine ⟨⟨b, i⟩, ?_, hi⟩
  match cs, hl with
  | [a, b0, c, d, e], _ =>
    have e0 : [a] = [Value.bool b] := e0
    have e1 : [b0, c, d, e] = [Value.int .u8 i.o, .int .i64 i.d, .int .i64 i.s, .int .i64 i.n] := e1
    simp only [List.cons.injEq, and_true] at e0 e1
    rw [e0, e1.1, e1.2.1, e1.2.2.1, e1.2.2.2]
end
/-- A list of statements as a tree. -/
def ofL : List StS → Sts
  | [] => .nil
  | x :: l => .cons x.k x.i x.c x.b x.e x.ln (ofL l)
theorem ofL_len : ∀ (l : List StS), (ofL l).len = l.length
  | [] => rfl
  | x :: l => by show (ofL l).len + 1 = l.length + 1; rw [ofL_len l]
theorem ofL_b8 : ∀ {l : List StS}, (∀ x ∈ l, x.k < 256 ∧ x.i.o < 256 ∧ x.c.i.o < 256 ∧ x.b.b8 ∧ x.e.b8) → (ofL l).b8
  | [], _ => trivial
  | x :: l, h => by
    obtain ⟨a, b, c, d, e⟩ := h x (List.mem_cons_self ..)
    exact ⟨a, b, c, d, e, ofL_b8 fun y hy => h y (List.mem_cons_of_mem _ hy)⟩
theorem ofL_inn : ∀ {l : List StS}, (∀ x ∈ l, (x.b.len ≤ 1099511627776 ∧ x.b.inn) ∧ (x.e.len ≤ 1099511627776 ∧ x.e.inn)) → (ofL l).inn
  | [], _ => trivial
  | x :: l, h => by
    obtain ⟨a, b⟩ := h x (List.mem_cons_self ..)
    exact ⟨a, b, ofL_inn fun y hy => h y (List.mem_cons_of_mem _ hy)⟩
/-- The cells of statements with their lists' slices. -/
def stL (l : List (StS × Value × Value)) : List Value := l.flatMap fun y => stC y.1.k y.1.i y.1.c y.2.1 y.2.2 y.1.ln
theorem stL_cons (y : StS × Value × Value) (l : List (StS × Value × Value)) : stL (y :: l) = stC y.1.k y.1.i y.1.c y.2.1 y.2.2 y.1.ln ++ stL l := rfl
theorem stL_len : ∀ (l : List (StS × Value × Value)), (stL l).length = l.length * 13
  | [] => rfl
  | y :: l => by rw [stL_cons, List.length_append, stL_len l, stC_len, List.length_cons]; omega
theorem stL_get : ∀ {l : List (StS × Value × Value)} {i m : Nat} (hi : i < l.length), m < 13 → (stL l)[i * 13 + m]? = (stC l[i].1.k l[i].1.i l[i].1.c l[i].2.1 l[i].2.2 l[i].1.ln)[m]?
  | y :: l, 0, m, _, hm => by
    rw [stL_cons, Nat.zero_mul, Nat.zero_add, List.getElem?_append_left (by rw [stC_len]; omega)]
    rfl
  | y :: l, i + 1, m, hi, hm => by
    rw [stL_cons, List.getElem?_append_right (by rw [stC_len]; omega), stC_len, show (i + 1) * 13 + m - 13 = i * 13 + m by omega, stL_get (by simpa using hi) hm]
    rfl
theorem stL_El {W : World} {S : Nat → Prop} : ∀ {l : List (StS × Value × Value)}, (∀ y ∈ l, Tr W S y.2.1 y.1.b ∧ Tr W S y.2.2 y.1.e) → El W S (ofL (l.map (·.1))) (stL l)
  | [], _ => rfl
  | y :: l, h => by
    obtain ⟨a, b⟩ := h y (List.mem_cons_self ..)
    exact ⟨y.2.1, y.2.2, stL l, stL_cons y l, a, b, stL_El fun z hz => h z (List.mem_cons_of_mem _ hz)⟩
/-- What an argument's list is. -/
def SzB {H : Type} (d : DataW H) (t : TypeId) : Prop := (d.weights Try.prog t).all (· ≤ reachBytes) = true
def StOk {H : Type} (W : World) (cs : List Value) (d : DataW H) : Prop := ∃ v T, cs = [v] ∧ Tr W (fun _ => True) v T ∧ T.b8 ∧ (SzB d 36 → T.len ≤ 1099511627776 ∧ T.inn)
def S1Ok {H : Type} (W : World) (cs : List Value) (d : DataW H) : Prop := ∃ (x : StS) (vb ve : Value), cs = stC x.k x.i x.c vb ve x.ln ∧ Tr W (fun _ => True) vb x.b ∧ Tr W (fun _ => True) ve x.e ∧ (x.k < 256 ∧ x.i.o < 256 ∧ x.c.i.o < 256 ∧ x.b.b8 ∧ x.e.b8) ∧
  (SzB d 60 → (x.b.len ≤ 1099511627776 ∧ x.b.inn) ∧ (x.e.len ≤ 1099511627776 ∧ x.e.inn))
set_option maxRecDepth 100000 in
theorem open_st1 {H : Type} {enc : TypeId × Value → H} {W : World} {fuel : Nat} (ih : ∀ (m : Nat) (cs : List Value) (x : DataW H × List MemPlace), m < fuel → DataW.trod enc Try.prog W 0 (fun _ => true) true m 36 cs = some x → StOk W cs x.1) {cs : List Value} {x : DataW H × List MemPlace}
    (hf : DataW.trod enc Try.prog W 0 (fun _ => true) true fuel 60 cs = some x) : S1Ok W cs x.1 := by
  obtain ⟨xs, n, hn, hxd, hl, hx, hfs⟩ := DataW.trod_struct Try.underlying60 hf
  have hl : cs.length = 13 := hl.trans (by kernel_rfl)
  have hx : xs.length = 6 := hx
  have f0 := hfs 0 _ rfl
  have f1 := hfs 1 _ rfl
  have f2 := hfs 2 _ rfl
  have f3 := hfs 3 _ rfl
  have f4 := hfs 4 _ rfl
  have f5 := hfs 5 _ rfl
  rw [List.getElem?_eq_getElem (by omega)] at f0 f1 f2 f3 f4 f5
  obtain ⟨z0, e0, -, q0⟩ := DataW.trod_int Try.underlying53 f0
  obtain ⟨k, hk, rfl⟩ := nat_of_u8 q0
  obtain ⟨i, e1, hi⟩ := open_ins f1
  obtain ⟨c, e2, hc⟩ := open_con f2
  obtain ⟨vb, b, e3, hb1, hb2, hb3⟩ := ih n _ _ (by omega) f3
  obtain ⟨ve, e, e4, he1, he2, he3⟩ := ih n _ _ (by omega) f4
  obtain ⟨z5, e5, -, q5⟩ := DataW.trod_int Try.underlying3 f5
  have c1 : Try.prog.cellsOf 53 = 1 := by kernel_rfl
  have c2 : Try.prog.cellsOf 56 = 4 := by kernel_rfl
  have c3 : Try.prog.cellsOf 58 = 5 := by kernel_rfl
  have c4 : Try.prog.cellsOf 36 = 1 := by kernel_rfl
  have c5 : Try.prog.cellsOf 3 = 1 := by kernel_rfl
  have e0 : (cs.drop 0).take 1 = [Value.int .u8 k] := by rw [← c1]; exact e0
  have e1 : (cs.drop 1).take 4 = [Value.int .u8 i.o, .int .i64 i.d, .int .i64 i.s, .int .i64 i.n] := by rw [← c2]; exact e1
  have e2 : (cs.drop 5).take 5 = [Value.bool c.nt, .int .u8 c.i.o, .int .i64 c.i.d, .int .i64 c.i.s, .int .i64 c.i.n] := by rw [← c3]; exact e2
  have e3 : (cs.drop 10).take 1 = [vb] := by rw [← c4]; exact e3
  have e4 : (cs.drop 11).take 1 = [ve] := by rw [← c4]; exact e4
  have e5 : (cs.drop 12).take 1 = [Value.int .i64 z5] := by rw [← c5]; exact e5
  refine ⟨⟨k, i, c, b, e, z5⟩, vb, ve, ?_, hb1, he1, ⟨hk, hi, hc, hb2, he2⟩, fun hs => ?_⟩
  · match cs, hl with
    | [a0, a1, a2, a3, a4, a5, a6, a7, a8, a9, a10, a11, a12], _ =>
      have e0 : [a0] = [Value.int .u8 k] := e0
      have e1 : [a1, a2, a3, a4] = [Value.int .u8 i.o, .int .i64 i.d, .int .i64 i.s, .int .i64 i.n] := e1
      have e2 : [a5, a6, a7, a8, a9] = [Value.bool c.nt, .int .u8 c.i.o, .int .i64 c.i.d, .int .i64 c.i.s, .int .i64 c.i.n] := e2
      have e3 : [a10] = [vb] := e3
      have e4 : [a11] = [ve] := e4
      have e5 : [a12] = [Value.int .i64 z5] := e5
      simp only [List.cons.injEq, and_true] at e0 e1 e2 e3 e4 e5
      rw [e0, e1.1, e1.2.1, e1.2.2.1, e1.2.2.2, e2.1, e2.2.1, e2.2.2.1, e2.2.2.2.1, e2.2.2.2.2, e3, e4, e5]
      rfl
  · have hs2 : ∀ q ∈ x.1.weights Try.prog 60, q ≤ reachBytes := fun q hq => by simpa using List.all_eq_true.1 hs q hq
    have key : ∀ (j : Nat) (t : TypeId) (hj : j < xs.length), ([53, 56, 58, 36, 36, 3] : List TypeId)[j]? = some t → SzB (xs[j]).1 t := by
      intro j t hj ht
      refine List.all_eq_true.2 fun q hq => ?_
      simp only [decide_eq_true_eq]
      refine hs2 q ?_
      rw [hxd]
      have hu : Try.prog.underlying 60 = _ := Try.underlying60
      simp only [DataW.weights, hu]
      exact DataW.weights_mem_each (j := j) (t := t) (d := xs[j].1) ht (by rw [List.getElem?_map, List.getElem?_eq_getElem hj]; rfl) q hq
    exact ⟨hb3 (key 3 _ (by omega) rfl), he3 (key 4 _ (by omega) rfl)⟩
theorem bytesSt : Try.prog.bytesOf 60 = 136 := by kernel_rfl
set_option maxRecDepth 100000 in
theorem open_sts {H : Type} {enc : TypeId × Value → H} {W : World} : ∀ (fuel : Nat) (cs : List Value) (x : DataW H × List MemPlace), DataW.trod enc Try.prog W 0 (fun _ => true) true fuel 36 cs = some x → StOk W cs x.1 := by
  intro fuel
  induction fuel using Nat.strongRecOn with
  | ind fuel ih =>
  intro cs x hf
  have hsz : Try.prog.cellsOf 60 = 13 := by kernel_rfl
  rcases DataW.trod_slice Try.underlying36 hf with ⟨rfl, hx⟩ | ⟨a, len, cap, elems, rest, n, hn, rfl, hx, _, hl, hm, hlen, hel, _, _⟩
  · exact ⟨.slice none 0 0, .nil, rfl, Tr.nil _ _, trivial, fun _ => ⟨Nat.zero_le _, trivial⟩⟩
  · have each : ∀ i : Nat, ∃ y : StS × Value × Value, i < len → (Tr W (fun _ => True) y.2.1 y.1.b ∧ Tr W (fun _ => True) y.2.2 y.1.e) ∧ (y.1.k < 256 ∧ y.1.i.o < 256 ∧ y.1.c.i.o < 256 ∧ y.1.b.b8 ∧ y.1.e.b8) ∧
        (∀ j, j < 13 → ∃ v, (stC y.1.k y.1.i y.1.c y.2.1 y.2.2 y.1.ln)[j]? = some v ∧ W.cell? ((a.add (i * 13)).add j) = some v) ∧ (SzB x.1 36 → (y.1.b.len ≤ 1099511627776 ∧ y.1.b.inn) ∧ (y.1.e.len ≤ 1099511627776 ∧ y.1.e.inn)) := by
      intro i
      by_cases hi : i < len
      · have h := hel i hi
        rw [List.getElem?_eq_getElem (by omega), Option.bind_eq_some_iff] at h
        obtain ⟨ds, h1, h2⟩ := h
        obtain ⟨k1, k2⟩ := cells_at h1
        rw [hsz] at k1 k2
        obtain ⟨y, vb, ve, hds, t1, t2, t3, t4⟩ := open_st1 (fun m cs x hm hf => ih m (by omega) cs x hf) h2
        refine ⟨(y, vb, ve), fun _ => ⟨⟨t1, t2⟩, t3, fun j hj => ?_, fun hs => t4 ?_⟩⟩
        · obtain ⟨v, h3, h4⟩ := k2 j hj
          rw [hds] at h3
          exact ⟨v, h3, h4⟩
        · refine List.all_eq_true.2 fun q hq => ?_
          refine List.all_eq_true.1 hs q ?_
          rw [hx]
          have hu : Try.prog.underlying 36 = _ := Try.underlying36
          simp only [DataW.weights, hu, List.mem_cons, List.mem_append]
          exact .inr (.inl (wAll_mem (i := i) (d := (elems[i]'(by omega)).1) (by rw [List.getElem?_map, List.getElem?_eq_getElem (by omega)]; rfl) q hq))
      · exact ⟨(⟨0, i0, c0, .nil, .nil, 0⟩, .slice none 0 0, .slice none 0 0), fun h => absurd h hi⟩
    obtain ⟨f, hfn⟩ := Classical.axiomOfChoice each
    have hL : ((List.range len).map f).length = len := by simp
    have hmem : ∀ y ∈ (List.range len).map f, ∃ i, i < len ∧ y = f i := by
      intro y hy
      obtain ⟨i, hi, rfl⟩ := List.mem_map.1 hy
      exact ⟨i, List.mem_range.1 hi, rfl⟩
    refine ⟨.slice (some a) len cap, ofL (((List.range len).map f).map (·.1)), rfl, ⟨stL ((List.range len).map f), ⟨?_, some a, cap, ?_, ?_, hm, fun h0 => ?_⟩, stL_El fun y hy => ?_⟩, ofL_b8 fun z hz => ?_, fun hs => ⟨?_, ofL_inn fun z hz => ?_⟩⟩
    · rw [stL_len, ofL_len]; simp
    · rw [ofL_len, List.length_map, hL]
    · rw [ofL_len, List.length_map, hL]; exact hl
    · rw [ofL_len, List.length_map, hL] at h0
      obtain ⟨v0, -, hc0⟩ := (hfn 0 (by omega)).2.2.1 0 (by omega)
      obtain ⟨g, o, s⟩ := a
      obtain rfl : s = none := by simpa [Addr.add] using World.cell?_spot hc0
      have hg := World.block_lt_of_cell? _ _ hc0
      refine ⟨g, o, rfl, trivial, by simpa [add_none] using hg, fun j hj => ?_⟩
      rw [stL_len, hL] at hj
      have hj13 : j / 13 < len := by omega
      obtain ⟨v, h3, h4⟩ := (hfn (j / 13) hj13).2.2.1 (j % 13) (by omega)
      rw [add_none, add_none] at h4
      have hjj : j = j / 13 * 13 + j % 13 := by omega
      have h5 := stL_get (l := (List.range len).map f) (i := j / 13) (m := j % 13) (by rw [hL]; exact hj13) (by omega)
      rw [List.getElem_map, List.getElem_range, h3, ← hjj, List.getElem?_eq_getElem (by rw [stL_len, hL]; omega)] at h5
      injection h5 with h5
      rw [h5, ← h4]
      congr 2
      omega
    · obtain ⟨i, hi, rfl⟩ := hmem y hy
      exact (hfn i hi).1
    · obtain ⟨y, hy, rfl⟩ := List.mem_map.1 hz
      obtain ⟨i, hi, rfl⟩ := hmem y hy
      exact (hfn i hi).2.1
    · rw [ofL_len, List.length_map, hL]
      have h1 : (elems.length + rest.length) * 136 ≤ reachBytes := by
        have := List.all_eq_true.1 hs ((elems.length + rest.length) * 136) (by
          rw [hx]
          have hu : Try.prog.underlying 36 = _ := Try.underlying36
          simp only [DataW.weights, hu, List.mem_cons, bytesSt, List.length_map]
          exact .inl trivial)
        simpa using this
      unfold reachBytes at h1
      omega
    · obtain ⟨y, hy, rfl⟩ := List.mem_map.1 hz
      obtain ⟨i, hi, rfl⟩ := hmem y hy
      exact (hfn i hi).2.2.2 hs
section
variable {H : Type} {enc : TypeId × Value → H} {W : World} {fuel : Nat} {cs : List Value} {x : DataW H × List MemPlace}
set_option maxRecDepth 100000 in
theorem open_pt1 (hf : DataW.trod enc Try.prog W 0 (fun _ => true) true fuel 69 cs = some x) : ∃ p : PartS, cs = ptC p ∧ p.k < 256 := by
  obtain ⟨xs, n, _, _, hl, hx, hfs⟩ := DataW.trod_struct Try.underlying69 hf
  have hl : cs.length = 7 := hl.trans (by kernel_rfl)
  have hx : xs.length = 7 := hx
  have f0 := hfs 0 _ rfl
  have f1 := hfs 1 _ rfl
  have f2 := hfs 2 _ rfl
  have f3 := hfs 3 _ rfl
  have f4 := hfs 4 _ rfl
  have f5 := hfs 5 _ rfl
  have f6 := hfs 6 _ rfl
  rw [List.getElem?_eq_getElem (by omega)] at f0 f1 f2 f3 f4 f5 f6
  obtain ⟨z0, e0, -, q0⟩ := DataW.trod_int Try.underlying67 f0
  obtain ⟨z1, e1, -, q1⟩ := DataW.trod_int Try.underlying3 f1
  obtain ⟨z2, e2, -, q2⟩ := DataW.trod_int Try.underlying3 f2
  obtain ⟨z3, e3, -, q3⟩ := DataW.trod_int Try.underlying3 f3
  obtain ⟨z4, e4, -, q4⟩ := DataW.trod_int Try.underlying3 f4
  obtain ⟨z5, e5, -, q5⟩ := DataW.trod_int Try.underlying3 f5
  obtain ⟨z6, e6, -, q6⟩ := DataW.trod_int Try.underlying3 f6
  obtain ⟨k, hk, rfl⟩ := nat_of_u8 q0
  have c1 : Try.prog.cellsOf 3 = 1 := by kernel_rfl
  have c2 : Try.prog.cellsOf 67 = 1 := by kernel_rfl
  have e0 : (cs.drop 0).take 1 = [Value.int .u8 k] := by rw [← c2]; exact e0
  have e1 : (cs.drop 1).take 1 = [Value.int .i64 z1] := by rw [← c1]; exact e1
  have e2 : (cs.drop 2).take 1 = [Value.int .i64 z2] := by rw [← c1]; exact e2
  have e3 : (cs.drop 3).take 1 = [Value.int .i64 z3] := by rw [← c1]; exact e3
  have e4 : (cs.drop 4).take 1 = [Value.int .i64 z4] := by rw [← c1]; exact e4
  have e5 : (cs.drop 5).take 1 = [Value.int .i64 z5] := by rw [← c1]; exact e5
  have e6 : (cs.drop 6).take 1 = [Value.int .i64 z6] := by rw [← c1]; exact e6
  refine ⟨⟨k, z1, z2, z3, z4, z5, z6⟩, ?_, hk⟩
  match cs, hl with
  | [a, b, c, d, e, f, g], _ =>
    have e0 : [a] = [Value.int .u8 k] := e0
    have e1 : [b] = [Value.int .i64 z1] := e1
    have e2 : [c] = [Value.int .i64 z2] := e2
    have e3 : [d] = [Value.int .i64 z3] := e3
    have e4 : [e] = [Value.int .i64 z4] := e4
    have e5 : [f] = [Value.int .i64 z5] := e5
    have e6 : [g] = [Value.int .i64 z6] := e6
    simp only [List.cons.injEq, and_true] at e0 e1 e2 e3 e4 e5 e6
    rw [e0, e1, e2, e3, e4, e5, e6]
    rfl
theorem ptC_ptF (p : PartS) {j : Nat} (hj : j < 7) : (ptC p)[j]? = some (ptF p j) := by
  match j, hj with
  | 0, _ => rfl
  | 1, _ => rfl
  | 2, _ => rfl
  | 3, _ => rfl
  | 4, _ => rfl
  | 5, _ => rfl
  | 6, _ => rfl
set_option maxRecDepth 100000 in
theorem open_pts (hf : DataW.trod enc Try.prog W 0 (fun _ => true) true fuel 23 cs = some x) : ∃ v l, cs = [v] ∧ PrT W (fun _ => True) v l ∧ ∀ p ∈ l, p.k < 256 := by
  have hsz : Try.prog.cellsOf 69 = 7 := by kernel_rfl
  rcases open_elems Try.underlying23 hf with rfl | ⟨a, len, cap, m, rfl, hl, hm, hel⟩
  · exact ⟨.slice none 0 0, [], rfl, PrT.nil _ _, fun p hp => absurd hp (by simp)⟩
  · have each : ∀ i : Nat, ∃ p : PartS, i < len → p.k < 256 ∧ (∀ j, j < 7 → W.cell? ((a.add (i * 7)).add j) = some (ptF p j)) := by
      intro i
      by_cases hi : i < len
      · obtain ⟨ds, y, k1, k2, k3⟩ := hel i hi
        rw [hsz] at k1 k2
        obtain ⟨p, hds, hk⟩ := open_pt1 k3
        refine ⟨p, fun _ => ⟨hk, fun j hj => ?_⟩⟩
        obtain ⟨v, h3, h4⟩ := k2 j hj
        rw [hds, ptC_ptF p hj] at h3
        injection h3 with h3
        rw [h3]; exact h4
      · exact ⟨⟨0, 0, 0, 0, 0, 0, 0⟩, fun h => absurd h hi⟩
    obtain ⟨f, hfn⟩ := Classical.axiomOfChoice each
    have hL : ((List.range len).map f).length = len := by simp
    refine ⟨.slice (some a) len cap, (List.range len).map f, rfl, ⟨some a, cap, by rw [hL], by rw [hL]; exact hl, hm, fun hn => ?_⟩, fun p hp => ?_⟩
    · have h0 : 0 < len := by rw [← hL]; exact List.length_pos_iff.2 hn
      have hc0 := (hfn 0 h0).2 0 (by omega)
      obtain ⟨g, o, s⟩ := a
      obtain rfl : s = none := by simpa [Addr.add] using World.cell?_spot hc0
      have hg := World.block_lt_of_cell? _ _ hc0
      refine ⟨g, o, rfl, trivial, by simpa [add_none] using hg, fun i hi j hj => ?_⟩
      rw [hL] at hi
      have h4 := (hfn i hi).2 j hj
      rw [add_none, add_none] at h4
      rw [List.getElem_map, List.getElem_range, ← h4, Nat.add_assoc]
    · obtain ⟨i, hi, rfl⟩ := List.mem_map.1 hp
      exact (hfn i (List.mem_range.1 hi)).1
end
set_option maxRecDepth 100000 in
/-- An argument of type Config. -/
theorem open_cfg {H : Type} {enc : TypeId × Value → H} {W : World} {r : Reach} {b0 : Nat} {v : Value} {d : DataW H} {p : List MemPlace} (hval : Value.okWide Try.prog W r b0 62 v) (h0 : DataW.Trod enc Try.prog W 0 (fun _ => true) true 62 v d p) (hs : SzB d 62) :
    ∃ (c : CfgS) (vp vc vq : Value), v = .agg (cfgA c.h c.m c.ph c.pm vp vc vq c.has) ∧ PrT W (fun _ => True) vp c.parts ∧ Tr W (fun _ => True) vc c.code ∧ Tr W (fun _ => True) vq c.post ∧ (c.code.b8 ∧ c.post.b8) ∧ (c.code.len ≤ 1099511627776 ∧ c.post.len ≤ 1099511627776) ∧ (c.code.inn ∧ c.post.inn) ∧ ∀ q ∈ c.parts, q.k < 256 := by
  obtain ⟨cs, rfl, hsz⟩ := okWide_struct Try.underlying62 hval
  have hsz : cs.size = 8 := hsz.trans (by kernel_rfl)
  obtain ⟨fuel, hf⟩ := h0
  obtain ⟨xs, n, _, hxd, hl, hx, hfs⟩ := DataW.trod_struct Try.underlying62 hf
  have hx : xs.length = 8 := hx
  have f0 := hfs 0 _ rfl
  have f1 := hfs 1 _ rfl
  have f2 := hfs 2 _ rfl
  have f3 := hfs 3 _ rfl
  have f4 := hfs 4 _ rfl
  have f5 := hfs 5 _ rfl
  have f6 := hfs 6 _ rfl
  have f7 := hfs 7 _ rfl
  rw [List.getElem?_eq_getElem (by omega)] at f0 f1 f2 f3 f4 f5 f6 f7
  obtain ⟨z0, e0, -, q0⟩ := DataW.trod_int Try.underlying3 f0
  obtain ⟨z1, e1, -, q1⟩ := DataW.trod_int Try.underlying3 f1
  obtain ⟨z2, e2, -, q2⟩ := DataW.trod_int Try.underlying3 f2
  obtain ⟨z3, e3, -, q3⟩ := DataW.trod_int Try.underlying3 f3
  obtain ⟨vp, l, e4, hp1, hp2⟩ := open_pts f4
  obtain ⟨vc, T, e5, hc1, hc2, hc3⟩ := open_sts _ _ _ f5
  obtain ⟨vq, U, e6, hq1, hq2, hq3⟩ := open_sts _ _ _ f6
  obtain ⟨b, e7, -⟩ := DataW.trod_bool Try.underlying4 f7
  have c1 : Try.prog.cellsOf 3 = 1 := by kernel_rfl
  have c2 : Try.prog.cellsOf 23 = 1 := by kernel_rfl
  have c3 : Try.prog.cellsOf 36 = 1 := by kernel_rfl
  have c4 : Try.prog.cellsOf 4 = 1 := by kernel_rfl
  have key : ∀ (j : Nat) (t : TypeId) (hj : j < xs.length), ([3, 3, 3, 3, 23, 36, 36, 4] : List TypeId)[j]? = some t → SzB (xs[j]).1 t := by
    intro j t hj ht
    refine List.all_eq_true.2 fun q hq => ?_
    refine List.all_eq_true.1 hs q ?_
    have hxd' : d = .agg (xs.map (·.1)) := congrArg (·.1) hxd
    rw [hxd']
    have hu : Try.prog.underlying 62 = _ := Try.underlying62
    simp only [DataW.weights, hu]
    exact DataW.weights_mem_each (j := j) (t := t) (d := xs[j].1) ht (by rw [List.getElem?_map, List.getElem?_eq_getElem hj]; rfl) q hq
  obtain ⟨k1, k2⟩ := hc3 (key 5 _ (by omega) rfl)
  obtain ⟨k3, k4⟩ := hq3 (key 6 _ (by omega) rfl)
  refine ⟨⟨z0, z1, z2, z3, l, T, U, b⟩, vp, vc, vq, congrArg Value.agg ?_, hp1, hc1, hq1, ⟨hc2, hq2⟩, ⟨k1, k3⟩, ⟨k2, k4⟩, hp2⟩
  obtain ⟨L⟩ := cs
  have e0 : (L.drop 0).take 1 = [Value.int .i64 z0] := by rw [← c1]; exact e0
  have e1 : (L.drop 1).take 1 = [Value.int .i64 z1] := by rw [← c1]; exact e1
  have e2 : (L.drop 2).take 1 = [Value.int .i64 z2] := by rw [← c1]; exact e2
  have e3 : (L.drop 3).take 1 = [Value.int .i64 z3] := by rw [← c1]; exact e3
  have e4 : (L.drop 4).take 1 = [vp] := by rw [← c2]; exact e4
  have e5 : (L.drop 5).take 1 = [vc] := by rw [← c3]; exact e5
  have e6 : (L.drop 6).take 1 = [vq] := by rw [← c3]; exact e6
  have e7 : (L.drop 7).take 1 = [Value.bool b] := by rw [← c4]; exact e7
  match L, hsz with
  | [a0, a1, a2, a3, a4, a5, a6, a7], _ =>
    have e0 : [a0] = [Value.int .i64 z0] := e0
    have e1 : [a1] = [Value.int .i64 z1] := e1
    have e2 : [a2] = [Value.int .i64 z2] := e2
    have e3 : [a3] = [Value.int .i64 z3] := e3
    have e4 : [a4] = [vp] := e4
    have e5 : [a5] = [vc] := e5
    have e6 : [a6] = [vq] := e6
    have e7 : [a7] = [Value.bool b] := e7
    simp only [List.cons.injEq, and_true] at e0 e1 e2 e3 e4 e5 e6 e7
    rw [e0, e1, e2, e3, e4, e5, e6, e7]
    rfl
end Go.Proofs.Ythmpagehmfillaa
