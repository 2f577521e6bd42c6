/-
  ARGUMENTS OF A ROW, OPENED: slices of slices of bytes, structs of few fields. Conditions: none.
-/
import Derived.Test.YthmpagehmfillaaQ30
namespace Go.Proofs.Ythmpagehmfillaa
open Go.RowKit Go.ChangeShapes Go.WideShapes Go.ChangeAt
set_option linter.unusedSimpArgs false
set_option linter.unusedVariables false

section
variable {H : Type} {enc : TypeId × Value → H} {P : Program} {W : World} {base : Nat} {fuel : Nat} {t e : TypeId} {cs : List Value} {x : DataW H × List MemPlace}
/-- A slice of bytes among cells. -/
theorem open_slT (ht : P.underlying t = some (.slice e)) (he : P.underlying e = some (.int .u8)) (hc : P.cellsOf e = 1) (hf : DataW.trod enc P W 0 (fun _ => true) true fuel t cs = some x) :
    ∃ (A : Option Addr) (c : Nat) (l : List Nat), cs = [.slice A l.length c] ∧ l.length ≤ c ∧ c ≤ maxLen ∧ Rd W A l := by
  rcases open_ints ht he hc hf with ⟨hcs, hx⟩ | ⟨a, len, cap, zs, hcs, _, hl, hm, hz, hx, hcell, hwz⟩
  · exact ⟨none, 0, [], hcs, Nat.le_refl _, by simp, Rd.nil⟩
  · simp only [if_true] at hz
    have hln : ((zs.take len).map Int.toNat).length = len := by simp; omega
    refine ⟨some a, cap, (zs.take len).map Int.toNat, by rw [hln]; exact hcs, by omega, hm, ?_, fun hn => ?_⟩
    · intro x hx
      simp only [List.mem_map] at hx
      obtain ⟨z, hz', rfl⟩ := hx
      obtain ⟨k, hk, rfl⟩ := nat_of_u8 (hwz z (List.mem_of_mem_take hz'))
      simpa using hk
    · have h0 : 0 < len := by
        rw [← hln]
        exact List.length_pos_iff.2 hn
      obtain ⟨b, off, s⟩ := a
      have hs0 := hcell 0 (by omega)
      obtain rfl : s = none := by simpa [Addr.add] using World.cell?_spot hs0
      refine ⟨b, off, rfl, ?_, fun i hi => ?_⟩
      · have := World.block_lt_of_cell? _ _ hs0
        simpa [add_none] using this
      · rw [hln] at hi
        have h1 := hcell i (by omega)
        rw [add_none] at h1
        rw [h1]
        obtain ⟨k, hk, e1⟩ := nat_of_u8 (hwz (zs.getD i 0) (by rw [List.getD_eq_getElem?_getD, List.getElem?_eq_getElem (by omega)]; exact List.getElem_mem _))
        rw [e1]
        have e2 : nth ((zs.take len).map Int.toNat) i = k := by
          have : i < zs.length := by omega
          simp [nth, List.getElem?_take, hi]
          rw [List.getD_eq_getElem?_getD, List.getElem?_eq_getElem this] at e1
          have e1 : zs[i] = (k : Int) := e1
          rw [List.getElem?_eq_getElem this, e1]
          simp
        rw [e2]
theorem cells_at {a : Addr} {n : Nat} {ds : List Value} (h : W.cells? base a n = some ds) : ds.length = n ∧ ∀ i, i < n → ∃ v, ds[i]? = some v ∧ W.cell? (a.add i) = some v := by
  unfold World.cells? at h
  split at h
  · have hl : ds.length = n := by simpa using mapM_some_length h
    refine ⟨hl, fun i hi => ?_⟩
    have := mapM_some_get h i i (by simp [hi])
    rw [List.getElem?_eq_getElem (by omega)] at this ⊢
    exact ⟨_, rfl, this⟩
  · cases h
/-- A slice, opened: each element's cells, and what they read as. -/
theorem open_elems (ht : P.underlying t = some (.slice e)) (hf : DataW.trod enc P W 0 (fun _ => true) true fuel t cs = some x) :
    cs = [.slice none 0 0] ∨ ∃ (a : Addr) (len cap m : Nat), cs = [.slice (some a) len cap] ∧ len ≤ cap ∧ cap ≤ maxLen ∧ ∀ i, i < len → ∃ ds y, ds.length = P.cellsOf e ∧ (∀ j, j < P.cellsOf e → ∃ v, ds[j]? = some v ∧ W.cell? ((a.add (i * P.cellsOf e)).add j) = some v) ∧
      DataW.trod enc P W 0 (fun _ => true) true m e ds = some y := by
  rcases DataW.trod_slice ht hf with ⟨h, _⟩ | ⟨a, len, cap, elems, rest, m, _, rfl, _, _, hl, hm, hlen, hel, _, _⟩
  · exact .inl h
  · refine .inr ⟨a, len, cap, m, rfl, hl, hm, fun i hi => ?_⟩
    have h := hel i hi
    rw [List.getElem?_eq_getElem (by omega), Option.bind_eq_some_iff] at h
    obtain ⟨ds, h1, h2⟩ := h
    obtain ⟨k1, k2⟩ := cells_at h1
    exact ⟨ds, _, k1, k2, h2⟩
/-- Two cells, three: what a list of so many is. -/
theorem list_one {l : List Value} (h : l.length = 1) {a : Value} (h0 : l[0]? = some a) : l = [a] := by
  match l, h with
  | [x], _ => simpa using h0
theorem agg_two {cs : Array Value} {a b : Value} (hs : cs.size = 2) (h0 : (cs.toList.drop 0).take 1 = [a]) (h1 : (cs.toList.drop 1).take 1 = [b]) : cs = #[a, b] := by
  obtain ⟨l⟩ := cs
  match l, hs with
  | [x, y], _ =>
    simp at h0 h1
    rw [h0, h1]
end
/-- A slice of slices of bytes. -/
def Rds (w : World) (A : Option Addr) (L : List (List Nat)) : Prop :=
  L ≠ [] → ∃ b o, A = some ⟨b, o, none⟩ ∧ b < w.heap.size ∧ ∀ i, i < L.length → ∃ B c, w.cell? ⟨b, o + i, none⟩ = some (.slice B (L.getD i []).length c) ∧ (L.getD i []).length ≤ c ∧ c ≤ maxLen ∧ Rd w B (L.getD i [])
theorem Rds.below {w w' : World} {A : Option Addr} {L : List (List Nat)} (h : Rds w A L) (hb : Below w.heap.size w w') : Rds w' A L := by
  intro hn
  obtain ⟨b, o, rfl, hl, hc⟩ := h hn
  refine ⟨b, o, rfl, Nat.lt_of_lt_of_le hl hb.size, fun i hi => ?_⟩
  obtain ⟨B, c, h1, h2, h3, h4⟩ := hc i hi
  exact ⟨B, c, (hb.cell (p := ⟨b, o + i, none⟩) hl).trans h1, h2, h3, h4.below hb⟩
theorem open_rds {H : Type} {enc : TypeId × Value → H} {P : Program} {t e u : TypeId} {W : World} {r : Reach} {b0 : Nat} {v : Value} {d : DataW H} {p : List MemPlace} (ht : P.underlying t = some (.slice e)) (he : P.underlying e = some (.slice u)) (hu : P.underlying u = some (.int .u8)) (hc : P.cellsOf e = 1) (hcu : P.cellsOf u = 1)
    (hval : Value.okWide P W r b0 t v) (h0 : DataW.Trod enc P W 0 (fun _ => true) true t v d p) :
    ∃ (A : Option Addr) (c : Nat) (L : List (List Nat)), v = .slice A L.length c ∧ L.length ≤ c ∧ c ≤ maxLen ∧ Rds W A L := by
  obtain ⟨a0, len, cap, rfl⟩ := okWide_slice ht hval
  obtain ⟨fuel, hf⟩ := h0
  rcases open_elems ht hf with hcs | ⟨a, len', cap', m, hcs, hl, hm, hel⟩
  · simp [Value.cells] at hcs
    obtain ⟨rfl, rfl, rfl⟩ := hcs
    exact ⟨none, 0, [], rfl, Nat.le_refl _, by simp, fun h => absurd rfl h⟩
  · simp [Value.cells] at hcs
    obtain ⟨rfl, rfl, rfl⟩ := hcs
    have each : ∀ i : Nat, ∃ l : List Nat, i < len → ∃ B c, W.cell? (a.add i) = some (.slice B l.length c) ∧ l.length ≤ c ∧ c ≤ maxLen ∧ Rd W B l := by
      intro i
      by_cases hi : i < len
      · obtain ⟨ds, y, k1, k2, k3⟩ := hel i hi
        obtain ⟨B, c, l, e1, e2, e3, e4⟩ := open_slT he hu hcu k3
        obtain ⟨v, q1, q2⟩ := k2 0 (by omega)
        rw [e1] at q1
        simp at q1
        subst q1
        rw [hc, Nat.mul_one] at q2
        exact ⟨l, fun _ => ⟨B, c, by simpa [Addr.add] using q2, e2, e3, e4⟩⟩
      · exact ⟨[], fun h => absurd h hi⟩
    obtain ⟨f, hfn⟩ := Classical.axiomOfChoice each
    have hlen : ((List.range len).map f).length = len := by simp
    refine ⟨some a, cap, (List.range len).map f, by rw [hlen], by omega, hm, fun hn => ?_⟩
    have h0 : 0 < len := by rw [← hlen]; exact List.length_pos_iff.2 hn
    obtain ⟨b, off, s⟩ := a
    obtain ⟨B0, c0, hs0, -⟩ := hfn 0 h0
    obtain rfl : s = none := by simpa [Addr.add] using World.cell?_spot hs0
    refine ⟨b, off, rfl, ?_, fun i hi => ?_⟩
    · have := World.block_lt_of_cell? _ _ hs0
      simpa [add_none] using this
    · rw [hlen] at hi
      obtain ⟨B, c, h1, h2, h3, h4⟩ := hfn i hi
      have e : ((List.range len).map f).getD i [] = f i := by simp [List.getD, hi]
      rw [add_none] at h1
      rw [e]
      exact ⟨B, c, h1, h2, h3, h4⟩
end Go.Proofs.Ythmpagehmfillaa
