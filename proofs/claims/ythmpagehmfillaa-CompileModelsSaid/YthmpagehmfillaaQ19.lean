/-
  PARTS: a part's row; a map whose elements tell a kind and where a part's numbers go; the plain law of a part's numbers. Conditions: none.
-/
import Derived.Test.YthmpagehmfillaaQ18
namespace Go.Proofs.Ythmpagehmfillaa
open Go.RowKit Go.MapKept
set_option linter.unusedSimpArgs false
set_option linter.unusedVariables false
def ptF (x : PartS) : Nat → Value
  | 0 => .int .u8 x.k
  | 1 => .int .i64 x.size
  | 2 => .int .i64 x.a
  | 3 => .int .i64 x.b
  | 4 => .int .i64 x.c
  | 5 => .int .i64 x.rate
  | _ => .int .i64 x.limit
def ptC (x : PartS) : List Value := [.int .u8 x.k, .int .i64 x.size, .int .i64 x.a, .int .i64 x.b, .int .i64 x.c, .int .i64 x.rate, .int .i64 x.limit]
def ptA (x : PartS) : Array Value := #[.int .u8 x.k, .int .i64 x.size, .int .i64 x.a, .int .i64 x.b, .int .i64 x.c, .int .i64 x.rate, .int .i64 x.limit]
theorem pt_row {w : World} {g : Nat} {t : TypeId} {x : PartS} (h : w.heap[g]? = some (.cells (ptA x) t (0, 0))) : w.rowIs g t 7 (ptF x) := ⟨_, h, rfl, fun i hi => by
  match i, hi with
  | 0, _ => rfl
  | 1, _ => rfl
  | 2, _ => rfl
  | 3, _ => rfl
  | 4, _ => rfl
  | 5, _ => rfl
  | 6, _ => rfl⟩
theorem pt_heap {w : World} {g : Nat} {t : TypeId} {x : PartS} (h : w.rowIs g t 7 (ptF x)) : w.heap[g]? = some (.cells (ptA x) t (0, 0)) := by
  obtain ⟨cs, h1, h2, h3⟩ := h
  rw [h1]
  have : cs = ptA x := by
    apply Array.ext (by rw [h2]; rfl)
    intro i hi1 hi2
    have h4 := h3 i (by omega)
    have e : (ptA x)[i]? = some (ptF x i) := by
      rw [h2] at hi1
      match i, hi1 with
      | 0, _ => rfl
      | 1, _ => rfl
      | 2, _ => rfl
      | 3, _ => rfl
      | 4, _ => rfl
      | 5, _ => rfl
      | 6, _ => rfl
    rw [← e, Array.getElem?_eq_getElem hi1, Array.getElem?_eq_getElem hi2] at h4
    exact Option.some.inj h4
  rw [this]
/-- A number of a part. -/
def setP (x : PartS) (o : Nat) (v : Int) : PartS := match o with
  | 1 => { x with size := v }
  | 2 => { x with a := v }
  | 3 => { x with b := v }
  | 4 => { x with c := v }
  | 5 => { x with rate := v }
  | _ => { x with limit := v }
theorem pt_setP {w : World} {g : Nat} {t : TypeId} {x : PartS} (h : w.rowIs g t 7 (ptF x)) {o : Nat} (h1 : 1 ≤ o) (h6 : o ≤ 6) (v : Int) : (w.setCell ⟨g, o, none⟩ (.int .i64 v)).rowIs g t 7 (ptF (setP x o v)) :=
  (h.set o _).congr fun i hi => by
    have ho : o = 1 ∨ o = 2 ∨ o = 3 ∨ o = 4 ∨ o = 5 ∨ o = 6 := by omega
    rcases ho with rfl | rfl | rfl | rfl | rfl | rfl
    all_goals
      match i, hi with
      | 0, _ => rfl
      | 1, _ => rfl
      | 2, _ => rfl
      | 3, _ => rfl
      | 4, _ => rfl
      | 5, _ => rfl
      | 6, _ => rfl
theorem pt_setK {w : World} {g : Nat} {t : TypeId} {x : PartS} (h : w.rowIs g t 7 (ptF x)) (k : Nat) : (w.setCell ⟨g, 0, none⟩ (.int .u8 k)).rowIs g t 7 (ptF { x with k := k }) :=
  (h.set 0 _).congr fun i hi => by
    match i, hi with
    | 0, _ => rfl
    | 1, _ => rfl
    | 2, _ => rfl
    | 3, _ => rfl
    | 4, _ => rfl
    | 5, _ => rfl
    | 6, _ => rfl
theorem pt_cellP {x : PartS} {o : Nat} (h1 : 1 ≤ o) (h6 : o ≤ 6) : ∃ v : Int, ptF x o = .int .i64 v := by
  have ho : o = 1 ∨ o = 2 ∨ o = 3 ∨ o = 4 ∨ o = 5 ∨ o = 6 := by omega
  rcases ho with rfl | rfl | rfl | rfl | rfl | rfl <;> exact ⟨_, rfl⟩
def p0 : PartS := ⟨0, 0, 0, 0, 0, 0, 0⟩
theorem pt_size : (Try.prog.info? 69).map (·.size) = some 7 := by kernel_rfl
theorem pt_results {fn : Func} {p : Tmp} (h : fn.results = #[.cell p 69]) (tmps : Array Value) (w : World) (g : Nat) (x : PartS) (hp : tmps.getD p undef = .pointer (some ⟨g, 0, none⟩)) (hr : w.rowIs g 69 7 (ptF x)) : (results fn tmps).run Try.prog w = .ok (.agg (ptA x)) w :=
  results_cell_row h tmps w g _ (ptA x) (0, 0) _ hp (pt_heap hr) Try.underlying69 rfl pt_size
/-- Numbers go to their places. -/
def putP (x : PartS) : List Nat → List Nat → PartS
  | o :: os, v :: vs => putP (setP x o v) os vs
  | _, _ => x
/-- Where a kind's numbers go. -/
def offP : Nat → List Nat
  | 1 => [4]
  | 2 => [1, 6]
  | 3 => [1]
  | 4 => [1]
  | 5 => [2, 3, 4]
  | 6 => [1, 2, 3, 5]
  | 7 => [1, 2, 3, 5]
  | 8 => [1, 2]
  | _ => [1, 2, 6]
theorem putP_snoc (x : PartS) : ∀ (os vs : List Nat) (o v : Nat), os.length = vs.length → putP x (os ++ [o]) (vs ++ [v]) = setP (putP x os vs) o v
  | [], [], _, _, _ => rfl
  | [], _ :: _, _, _, h => by cases h
  | _ :: _, [], _, _, h => by cases h
  | o1 :: os, v1 :: vs, o, v, h => putP_snoc (setP x o1 v1) os vs o v (by simpa using h)
theorem partL_lt {s : List Nat} {k : Nat} (h : look partL s = some k) : s ≠ [] ∧ 1 ≤ k ∧ k ≤ 9 := by
  have h1 := look_mem h
  have h2 : ∀ x ∈ partL, x.1 ≠ [] ∧ 1 ≤ x.2 ∧ x.2 ≤ 9 := by decide
  exact h2 _ h1
theorem offP_len {k : Nat} (h1 : 1 ≤ k) (h9 : k ≤ 9) : (offP k).length = partN.getD k 0 ∧ ∀ o ∈ offP k, 1 ≤ o ∧ o ≤ 6 := by
  have hk : k = 1 ∨ k = 2 ∨ k = 3 ∨ k = 4 ∨ k = 5 ∨ k = 6 ∨ k = 7 ∨ k = 8 ∨ k = 9 := by omega
  rcases hk with rfl | rfl | rfl | rfl | rfl | rfl | rfl | rfl | rfl <;> decide
theorem offP_sz (k : Nat) : (offP k).length ≤ 4 := by
  unfold offP
  split <;> decide
theorem len1 {v : List Nat} (h : v.length = 1) : ∃ a, v = [a] := by
  match v, h with
  | [a], _ => exact ⟨a, rfl⟩
theorem len2 {v : List Nat} (h : v.length = 2) : ∃ a b, v = [a, b] := by
  match v, h with
  | [a, b], _ => exact ⟨a, b, rfl⟩
theorem len3 {v : List Nat} (h : v.length = 3) : ∃ a b c, v = [a, b, c] := by
  match v, h with
  | [a, b, c], _ => exact ⟨a, b, c, rfl⟩
theorem len4 {v : List Nat} (h : v.length = 4) : ∃ a b c d, v = [a, b, c, d] := by
  match v, h with
  | [a, b, c, d], _ => exact ⟨a, b, c, d, rfl⟩
theorem putP_mk {k : Nat} (h1 : 1 ≤ k) (h9 : k ≤ 9) {v : List Nat} (hv : v.length = (offP k).length) (m : Bool) (hm : m = true → k = 1) :
    (if m then setP (putP { p0 with k := k } (offP k) v) 4 (-(putP { p0 with k := k } (offP k) v).c) else putP { p0 with k := k } (offP k) v) = mkPart k m v := by
  have hk : k = 1 ∨ k = 2 ∨ k = 3 ∨ k = 4 ∨ k = 5 ∨ k = 6 ∨ k = 7 ∨ k = 8 ∨ k = 9 := by omega
  rcases hk with rfl | rfl | rfl | rfl | rfl | rfl | rfl | rfl | rfl
  · obtain ⟨a, rfl⟩ := len1 hv
    cases m <;> rfl
  all_goals
    have hmf : m = false := by
      cases m with
      | false => rfl
      | true => have := hm rfl; omega
    subst hmf
    first
      | (obtain ⟨a, rfl⟩ := len1 hv; rfl)
      | (obtain ⟨a, b, rfl⟩ := len2 hv; rfl)
      | (obtain ⟨a, b, c, rfl⟩ := len3 hv; rfl)
      | (obtain ⟨a, b, c, d, rfl⟩ := len4 hv; rfl)
/-- Numbers that were taken, and what is ahead. -/
def numsA (n : Nat) (l : List Tok) (acc : List Nat) : Res (List Nat × List Tok) := match nums n l with
  | .error e => .error e
  | .ok (ns, l) => .ok (acc ++ ns, l)
theorem numsA_nil (n : Nat) (l : List Tok) : numsA n l [] = nums n l := by
  unfold numsA
  rcases nums n l with e | ⟨y, z⟩ <;> rfl
def NumJ (R : Res (List Nat × List Tok)) (n : Nat) (l : List Tok) (b : Option Flt) (acc : List Nat) : Prop := match b with
  | none => R = numsA n l acc
  | some e => R = .error e
theorem numJ_go {R : Res (List Nat × List Tok)} {n v : Nat} {l l' : List Tok} {b b' : Option Flt} {acc : List Nat} (h : NumJ R (n + 1) l b acc) (hr : Rel (num 65535) l b v l' b') : NumJ R n l' b' (acc ++ [v]) := by
  unfold NumJ at h
  unfold Rel at hr
  cases b with
  | some e => simp only at h hr; subst hr; exact h
  | none =>
    simp only at h hr
    unfold numsA nums at h
    rcases hq : num 65535 l with e | ⟨y, z⟩
    · rw [hq] at h hr; simp only at h hr; subst hr; exact h
    · rw [hq] at h hr
      obtain ⟨rfl, rfl, rfl⟩ := hr
      show R = numsA n l' (acc ++ [v])
      unfold numsA
      simp only at h
      rw [h]
      rcases nums n l' with e | ⟨y, z⟩
      · rfl
      · simp
section
variable {w w' W : World} {b gx : Nat}
/-- An element of the map: a kind, and a list of places in a row. -/
def PtV (w : World) (b gx : Nat) (v : Value) (k : Nat) : Prop := ∃ G, v = .agg #[.int .u8 k, .slice (some ⟨G, 0, none⟩) (offP k).length (offP k).length] ∧ G < w.heap.size ∧ gx < G ∧ b < G ∧ ∀ j (hj : j < (offP k).length), w.cell? ⟨G, j, none⟩ = some (.pointer (some ⟨gx, (offP k)[j], none⟩))
theorem PtV.keep {v : Value} {k : Nat} (h : PtV w b gx v k) (hz : w.heap.size ≤ w'.heap.size) (hb : ∀ i, i < w.heap.size → i ≠ b → w'.heap[i]? = w.heap[i]?) : PtV w' b gx v k := by
  obtain ⟨G, h1, h2, h3, h3', h4⟩ := h
  exact ⟨G, h1, Nat.lt_of_lt_of_le h2 hz, h3, h3', fun j hj => (World.cell?_of_block (hb G h2 (by omega))).trans (h4 j hj)⟩
/-- The map's elements. -/
def PtL (w : World) (b gx : Nat) : List (List Nat × Value) → List (List Nat × Nat) → Prop
  | [], [] => True
  | x :: LV, y :: L => x.1 = y.1 ∧ PtV w b gx x.2 y.2 ∧ PtL w b gx LV L
  | _, _ => False
theorem PtL.keep (hz : w.heap.size ≤ w'.heap.size) (hb : ∀ i, i < w.heap.size → i ≠ b → w'.heap[i]? = w.heap[i]?) : ∀ {LV : List (List Nat × Value)} {L : List (List Nat × Nat)}, PtL w b gx LV L → PtL w' b gx LV L
  | [], [], _ => trivial
  | _ :: _, [], h => h.elim
  | [], _ :: _, h => h.elim
  | _ :: _, _ :: _, h => ⟨h.1, h.2.1.keep hz hb, PtL.keep hz hb h.2.2⟩
theorem PtL.snoc {s : List Nat} {v : Value} {k : Nat} (hv : PtV w b gx v k) : ∀ {LV : List (List Nat × Value)} {L : List (List Nat × Nat)}, PtL w b gx LV L → PtL w b gx (LV ++ [(s, v)]) (L ++ [(s, k)])
  | [], [], _ => ⟨rfl, hv, trivial⟩
  | _ :: _, [], h => h.elim
  | [], _ :: _, h => h.elim
  | _ :: _, _ :: _, h => ⟨h.1, h.2.1, PtL.snoc hv h.2.2⟩
theorem PtL.find (s : List Nat) : ∀ {LV : List (List Nat × Value)} {L : List (List Nat × Nat)}, PtL w b gx LV L → match look L s with
    | none => LV.find? (fun x => x.1 == s) = none
    | some k => ∃ v, LV.find? (fun x => x.1 == s) = some (s, v) ∧ PtV w b gx v k
  | [], [], _ => rfl
  | _ :: _, [], h => h.elim
  | [], _ :: _, h => h.elim
  | x :: LV, y :: L, h => by
    obtain ⟨h1, h2, h3⟩ := h
    have ih := PtL.find s h3
    by_cases hs : y.1 = s
    · have e1 : look (y :: L) s = some y.2 := by unfold look; rw [List.find?_cons_of_pos (by simpa using hs)]; rfl
      rw [e1]
      obtain ⟨x1, x2⟩ := x
      simp only at h1 h2
      exact ⟨x2, by rw [List.find?_cons_of_pos (by simp [h1, hs]), h1, hs], h2⟩
    · have e1 : look (y :: L) s = look L s := by unfold look; rw [List.find?_cons_of_neg (by simpa using hs)]
      rw [e1, List.find?_cons_of_neg (by rw [h1]; simpa using hs)]
      exact ih
theorem PtL.keys : ∀ {LV : List (List Nat × Value)} {L : List (List Nat × Nat)}, PtL w b gx LV L → LV.map (·.1) = L.map (·.1)
  | [], [], _ => rfl
  | _ :: _, [], h => h.elim
  | [], _ :: _, h => h.elim
  | _ :: _, _ :: _, h => by rw [List.map_cons, List.map_cons, h.1, PtL.keys h.2.2]
/-- The map, as far as it is made. -/
def MP (W w : World) (b gx : Nat) (L : List (List Nat × Nat)) : Prop := ∃ LV, MB W w b LV ∧ PtL w b gx LV L
theorem MP.be {L : List (List Nat × Nat)} (h : MP W w b gx L) : Below W.heap.size W w := by obtain ⟨LV, h1, -⟩ := h; exact h1.be
theorem MP.made (W : World) (gx : Nat) : MP W (W.alloc (.map #[] 0)) W.heap.size gx [] := ⟨[], MB.made W, trivial⟩
end
section
variable {P : Program} {w W : World} {ops : Array Oper} {rest : List Oper} {o : Oper} {a : Act} {Q : Exit → Act → World → Prop} {gx b : Nat} {L : List (List Nat × Nat)}
/-- One entry of a literal; all else stands. -/
theorem wpList_ins2 (hg : o.guard = none) (m x v : Operand) (t : TypeId) (hop : o.op = .insert t m x v) (k e : TypeId) (ht : P.underlying t = some (.map k e)) (hk : P.underlying k = some .string) (b : Nat) (L : List (List Nat × Value))
    (hm : a.eval m = .map (some b)) (hM : MB W w b L) (S : ByteArray) (hx' : a.eval x = .string S) (val : Value) (hv : a.eval v = val) (hn : (L.all fun x => !(x.1 == strB S)) = true)
    (hK : ∀ w', MB W w' b (L ++ [(strB S, val)]) → w.heap.size ≤ w'.heap.size → (∀ i, i < w.heap.size → i ≠ b → w'.heap[i]? = w.heap[i]?) → wpList P ops Q rest (a.put o.dst undef) w') :
    wpList P ops Q (o :: rest) a w := by
  refine wpList_plain hg fun K' hK' => ?_
  obtain ⟨hbe, hle, ⟨es, clock, hb, he⟩, h8⟩ := hM
  have hs8 : B8 (strB S) := strB_lt S
  have hx : a.eval x = .string (mkS (strB S)) := by rw [mkS_strB]; exact hx'
  generalize strB S = s at *
  obtain ⟨j, hf⟩ := findNow_L hs8 es.toList L 0 he h8
  have hnone : L.find? (fun x => x.1 == s) = none := by
    rw [List.find?_eq_none]
    intro x hx
    have := List.all_eq_true.1 hn x hx
    simpa using this
  rw [hnone] at hf
  have hrun : (Instr.mapUpdate t (.map (some b)) (.string (mkS s)) val).run P w = .ok () { w with heap := w.heap.setIfInBounds b (.map (es.push { key := .string (mkS s), val := val, born := clock }) (clock + 1)) } := by
    unfold Instr.mapUpdate
    simp only [Sem.run_bind, run_underlying ht, Result.andThen, Go.MapKept.run_getObj_map hb, run_checkKey (w := w) hk (k := .string (mkS s)) trivial false 9999, run_findKey (w := w) hk hf]
    exact Go.MapKept.run_setObj_map _ hb
  obtain ⟨q1, q2⟩ := heap_set (o' := .map (es.push { key := .string (mkS s), val := val, born := clock }) (clock + 1)) hb
  have hbw : b < w.heap.size := (Array.getElem?_eq_some_iff.1 hb).1
  unfold Oper.wp
  simp [execOp, hop, hm, hx, hv, hrun, Result.andThen]
  refine hK' _ _ (hK _ ⟨?_, hle, ⟨_, _, q1, ?_⟩, ?_⟩ (by simp) (fun i _ hi => q2 i hi))
  · exact ⟨hbe.os, hbe.tape, hbe.output, by simpa using hbe.size, fun i hi => (q2 i (by omega)).trans (hbe.block i hi)⟩
  · simp [he]
  · intro y hy
    rcases List.mem_append.1 hy with hy | hy
    · exact h8 y hy
    · rw [List.mem_singleton.1 hy]; exact hs8
/-- One element of the literal, behind its list of places. -/
theorem wpList_insP (hg : o.guard = none) (m x v : Operand) (t : TypeId) (hop : o.op = .insert t m x v) (kt e : TypeId) (ht : P.underlying t = some (.map kt e)) (hk : P.underlying kt = some .string)
    (hm : a.eval m = .map (some b)) (hM : MP W w b gx L) (S : ByteArray) (hx : a.eval x = .string S) (ptrs : Array Value) (T : TypeId)
    (hp : ptrs = ((offP ((look partL (strB S)).getD 0)).map fun o => Value.pointer (some ⟨gx, o, none⟩)).toArray)
    (hv : a.eval v = .agg #[.int .u8 ((look partL (strB S)).getD 0 : Nat), .slice (some ⟨w.heap.size, 0, none⟩) (offP ((look partL (strB S)).getD 0)).length (offP ((look partL (strB S)).getD 0)).length])
    (hn : (L.all fun x => !(x.1 == strB S)) = true) (hgx : gx < W.heap.size)
    (hK : ∀ w', MP W w' b gx (L ++ [(strB S, (look partL (strB S)).getD 0)]) → wpList P ops Q rest (a.put o.dst undef) w') :
    wpList P ops Q (o :: rest) a (w.alloc (.cells ptrs T)) := by
  generalize (look partL (strB S)).getD 0 = k at *
  obtain ⟨LV, h1, h2⟩ := hM
  have hkeys := h2.keys
  have hn' : (LV.all fun x => !(x.1 == strB S)) = true := by
    rw [List.all_eq_true] at hn ⊢
    intro y hy
    have hy1 : y.1 ∈ LV.map (·.1) := List.mem_map_of_mem hy
    rw [hkeys] at hy1
    obtain ⟨z, hz, e⟩ := List.mem_map.1 hy1
    have := hn z hz
    rw [← e]; exact this
  have hnew : PtV (w.alloc (.cells ptrs T)) b gx (.agg #[.int .u8 k, .slice (some ⟨w.heap.size, 0, none⟩) (offP k).length (offP k).length]) k := by
    refine ⟨w.heap.size, rfl, by rw [World.size_alloc]; omega, by have := h1.be.size; omega, by have := h1.mp.lt; omega, fun j hj => ?_⟩
    rw [cell_of_row _ _ _ _ _ _ (heap_alloc_new w _), hp, List.getElem?_toArray, List.getElem?_map, List.getElem?_eq_getElem hj]
    rfl
  refine wpList_ins2 hg m x v t hop kt e ht hk b LV hm (h1.alloc _) S hx _ hv hn' (fun w' hw hz hb => hK w' ⟨_, hw, ?_⟩)
  have h2' := h2.keep (w' := w.alloc (.cells ptrs T)) (by rw [World.size_alloc]; omega) (fun i hi _ => Below.heap_alloc w _ i hi)
  exact (h2'.keep hz hb).snoc (hnew.keep hz hb)
/-- The look-up. -/
theorem wpList_lookP (hg : o.guard = none) (m x : Operand) (t : TypeId) (hop : o.op = .lookup t m x true) (kt e : TypeId) (ht : P.underlying t = some (.map kt e)) (hk : P.underlying kt = some .string) (z : Value) (hz : ∀ w, (zeroValue e).run P w = .ok z w)
    (hm : a.eval m = .map (some b)) (hM : MP W w b gx L) (s : List Nat) (hs : B8 s) (hx : a.eval x = .string (mkS s))
    (hK : match look L s with
      | none => wpList P ops Q rest (a.put o.dst (.tuple #[z, .bool false])) w
      | some k => ∀ v, PtV w b gx v k → wpList P ops Q rest (a.put o.dst (.tuple #[v, .bool true])) w) : wpList P ops Q (o :: rest) a w := by
  refine wpList_plain hg fun K' hK' => ?_
  obtain ⟨LV, h1, h2⟩ := hM
  have hrun := run_look ht hk h1.mp h1.k8 hs (hz w) true
  have hf := h2.find s
  unfold lookV hasV at hrun
  cases hl : look L s with
  | none =>
    rw [hl] at hf hK
    simp only at hf hK
    rw [hf] at hrun
    unfold Oper.wp
    simp [execOp, hop, hm, hx, hrun, Result.andThen]
    exact hK' _ _ hK
  | some k =>
    rw [hl] at hf hK
    simp only at hf hK
    obtain ⟨v, hv, hp⟩ := hf
    rw [hv] at hrun
    unfold Oper.wp
    simp [execOp, hop, hm, hx, hrun, Result.andThen]
    exact hK' _ _ (hK v hp)
end
end Go.Proofs.Ythmpagehmfillaa
