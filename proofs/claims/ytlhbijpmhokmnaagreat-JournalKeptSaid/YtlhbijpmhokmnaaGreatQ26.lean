/-
  ARGUMENTS OF A ROW, OPENED: slices of slices of bytes, structs of few fields. Conditions: none.
  THE WALKS OF quillpresslaw03's awake; of a digest that New did not make; of DigestNone. Conditions: none.
  THE WALK OF quillpresslaw03.DigestCuts: it returns true. Conditions: the parts read.
-/
import Derived.Test.YtlhbijpmhokmnaaGreatQ25
import Derived.Test.YtlhbijpmhokmnaaGreatQ08
import Derived.Lib.SlBytesConst
import Derived.Lib.ConvBytes
import Derived.Test.YtlhbijpmhokmnaaGreatQ11
import Derived.BigQuiet
namespace Go.Proofs.YtlhbijpmhokmnaaGreat
open Go.RowKit Go.ChangeShapes Go.WideShapes Go.ChangeAt
set_option linter.unusedSimpArgs false
set_option linter.unusedVariables false

section
variable {H : Type} {enc : TypeId × Value → H} {P : Program} {W : World} {base : Nat} {fuel : Nat} {t e : TypeId} {cs : List Value} {x : DataW H × List MemPlace}
/-- A slice of bytes among cells. -/
theorem open_slT (ht : P.underlying t = some (.slice e)) (he : P.underlying e = some (.int .u8)) (hc : P.cellsOf e = 1) (hf : DataW.trod enc P W 0 (fun _ => true) true fuel t cs = some x) :
    ∃ (A : Option Addr) (c : Nat) (l : List Nat), cs = [.slice A l.length c] ∧ l.length ≤ c ∧ c ≤ maxLen ∧ Rd W A l := by
  rcases open_ints ht he hc hf with ⟨hcs, hx⟩ | ⟨a, len, cap, zs, hcs, _, hl, hm, hz, hx, hcell, hwz⟩
  · exact ⟨none, 0, [], hcs, Nat.le_refl _, by simp, Rd.nil⟩
  · simp only [if_true] at hz
    have hln : ((zs.take len).map Int.toNat).length = len := by simp; omega
    refine ⟨some a, cap, (zs.take len).map Int.toNat, by rw [hln]; exact hcs, by omega, hm, ?_, fun hn => ?_⟩
    · intro x hx
      simp only [List.mem_map] at hx
      obtain ⟨z, hz', rfl⟩ := hx
      obtain ⟨k, hk, rfl⟩ := nat_of_u8 (hwz z (List.mem_of_mem_take hz'))
      simpa using hk
    · have h0 : 0 < len := by
        rw [← hln]
        exact List.length_pos_iff.2 hn
      obtain ⟨b, off, s⟩ := a
      have hs0 := hcell 0 (by omega)
      obtain rfl : s = none := by simpa [Addr.add] using World.cell?_spot hs0
      refine ⟨b, off, rfl, ?_, fun i hi => ?_⟩
      · have := World.block_lt_of_cell? _ _ hs0
        simpa [add_none] using this
      · rw [hln] at hi
        have h1 := hcell i (by omega)
        rw [add_none] at h1
        rw [h1]
        obtain ⟨k, hk, e1⟩ := nat_of_u8 (hwz (zs.getD i 0) (by rw [List.getD_eq_getElem?_getD, List.getElem?_eq_getElem (by omega)]; exact List.getElem_mem _))
        rw [e1]
        have e2 : nth ((zs.take len).map Int.toNat) i = k := by
          have : i < zs.length := by omega
          simp [nth, List.getElem?_take, hi]
          rw [List.getD_eq_getElem?_getD, List.getElem?_eq_getElem this] at e1
          have e1 : zs[i] = (k : Int) := e1
          rw [List.getElem?_eq_getElem this, e1]
          simp
        rw [e2]
theorem cells_at {a : Addr} {n : Nat} {ds : List Value} (h : W.cells? base a n = some ds) : ds.length = n ∧ ∀ i, i < n → ∃ v, ds[i]? = some v ∧ W.cell? (a.add i) = some v := by
  unfold World.cells? at h
  split at h
  · have hl : ds.length = n := by simpa using mapM_some_length h
    refine ⟨hl, fun i hi => ?_⟩
    have := mapM_some_get h i i (by simp [hi])
    rw [List.getElem?_eq_getElem (by omega)] at this ⊢
    exact ⟨_, rfl, this⟩
  · cases h
/-- A slice, opened: each element's cells, and what they read as. -/
theorem open_elems (ht : P.underlying t = some (.slice e)) (hf : DataW.trod enc P W 0 (fun _ => true) true fuel t cs = some x) :
    cs = [.slice none 0 0] ∨ ∃ (a : Addr) (len cap m : Nat), cs = [.slice (some a) len cap] ∧ len ≤ cap ∧ cap ≤ maxLen ∧ ∀ i, i < len → ∃ ds y, ds.length = P.cellsOf e ∧ (∀ j, j < P.cellsOf e → ∃ v, ds[j]? = some v ∧ W.cell? ((a.add (i * P.cellsOf e)).add j) = some v) ∧
      DataW.trod enc P W 0 (fun _ => true) true m e ds = some y := by
  rcases DataW.trod_slice ht hf with ⟨h, _⟩ | ⟨a, len, cap, elems, rest, m, _, rfl, _, _, hl, hm, hlen, hel, _, _⟩
  · exact .inl h
  · refine .inr ⟨a, len, cap, m, rfl, hl, hm, fun i hi => ?_⟩
    have h := hel i hi
    rw [List.getElem?_eq_getElem (by omega), Option.bind_eq_some_iff] at h
    obtain ⟨ds, h1, h2⟩ := h
    obtain ⟨k1, k2⟩ := cells_at h1
    exact ⟨ds, _, k1, k2, h2⟩
/-- Two cells, three: what a list of so many is. -/
theorem list_one {l : List Value} (h : l.length = 1) {a : Value} (h0 : l[0]? = some a) : l = [a] := by
  match l, h with
  | [x], _ => simpa using h0
theorem agg_two {cs : Array Value} {a b : Value} (hs : cs.size = 2) (h0 : (cs.toList.drop 0).take 1 = [a]) (h1 : (cs.toList.drop 1).take 1 = [b]) : cs = #[a, b] := by
  obtain ⟨l⟩ := cs
  match l, hs with
  | [x, y], _ =>
    simp at h0 h1
    rw [h0, h1]
end
/-- A slice of slices of bytes. -/
def Rds (w : World) (A : Option Addr) (L : List (List Nat)) : Prop :=
  L ≠ [] → ∃ b o, A = some ⟨b, o, none⟩ ∧ b < w.heap.size ∧ ∀ i, i < L.length → ∃ B c, w.cell? ⟨b, o + i, none⟩ = some (.slice B (L.getD i []).length c) ∧ (L.getD i []).length ≤ c ∧ c ≤ maxLen ∧ Rd w B (L.getD i [])
theorem Rds.below {w w' : World} {A : Option Addr} {L : List (List Nat)} (h : Rds w A L) (hb : Below w.heap.size w w') : Rds w' A L := by
  intro hn
  obtain ⟨b, o, rfl, hl, hc⟩ := h hn
  refine ⟨b, o, rfl, Nat.lt_of_lt_of_le hl hb.size, fun i hi => ?_⟩
  obtain ⟨B, c, h1, h2, h3, h4⟩ := hc i hi
  exact ⟨B, c, (hb.cell (p := ⟨b, o + i, none⟩) hl).trans h1, h2, h3, h4.below hb⟩
theorem open_rds {H : Type} {enc : TypeId × Value → H} {P : Program} {t e u : TypeId} {W : World} {r : Reach} {b0 : Nat} {v : Value} {d : DataW H} {p : List MemPlace} (ht : P.underlying t = some (.slice e)) (he : P.underlying e = some (.slice u)) (hu : P.underlying u = some (.int .u8)) (hc : P.cellsOf e = 1) (hcu : P.cellsOf u = 1)
    (hval : Value.okWide P W r b0 t v) (h0 : DataW.Trod enc P W 0 (fun _ => true) true t v d p) :
    ∃ (A : Option Addr) (c : Nat) (L : List (List Nat)), v = .slice A L.length c ∧ L.length ≤ c ∧ c ≤ maxLen ∧ Rds W A L := by
  obtain ⟨a0, len, cap, rfl⟩ := okWide_slice ht hval
  obtain ⟨fuel, hf⟩ := h0
  rcases open_elems ht hf with hcs | ⟨a, len', cap', m, hcs, hl, hm, hel⟩
  · simp [Value.cells] at hcs
    obtain ⟨rfl, rfl, rfl⟩ := hcs
    exact ⟨none, 0, [], rfl, Nat.le_refl _, by simp, fun h => absurd rfl h⟩
  · simp [Value.cells] at hcs
    obtain ⟨rfl, rfl, rfl⟩ := hcs
    have each : ∀ i : Nat, ∃ l : List Nat, i < len → ∃ B c, W.cell? (a.add i) = some (.slice B l.length c) ∧ l.length ≤ c ∧ c ≤ maxLen ∧ Rd W B l := by
      intro i
      by_cases hi : i < len
      · obtain ⟨ds, y, k1, k2, k3⟩ := hel i hi
        obtain ⟨B, c, l, e1, e2, e3, e4⟩ := open_slT he hu hcu k3
        obtain ⟨v, q1, q2⟩ := k2 0 (by omega)
        rw [e1] at q1
        simp at q1
        subst q1
        rw [hc, Nat.mul_one] at q2
        exact ⟨l, fun _ => ⟨B, c, by simpa [Addr.add] using q2, e2, e3, e4⟩⟩
      · exact ⟨[], fun h => absurd h hi⟩
    obtain ⟨f, hfn⟩ := Classical.axiomOfChoice each
    have hlen : ((List.range len).map f).length = len := by simp
    refine ⟨some a, cap, (List.range len).map f, by rw [hlen], by omega, hm, fun hn => ?_⟩
    have h0 : 0 < len := by rw [← hlen]; exact List.length_pos_iff.2 hn
    obtain ⟨b, off, s⟩ := a
    obtain ⟨B0, c0, hs0, -⟩ := hfn 0 h0
    obtain rfl : s = none := by simpa [Addr.add] using World.cell?_spot hs0
    refine ⟨b, off, rfl, ?_, fun i hi => ?_⟩
    · have := World.block_lt_of_cell? _ _ hs0
      simpa [add_none] using this
    · rw [hlen] at hi
      obtain ⟨B, c, h1, h2, h3, h4⟩ := hfn i hi
      have e : ((List.range len).map f).getD i [] = f i := by simp [List.getD, hi]
      rw [add_none] at h1
      rw [e]
      exact ⟨B, c, h1, h2, h3, h4⟩
end Go.Proofs.YtlhbijpmhokmnaaGreat
namespace Go.Proofs.YtlhbijpmhokmnaaGreat
open Go.RowKit
set_option linter.unusedSimpArgs false
set_option linter.unusedVariables false

theorem sha_lt (l : List Nat) : ∀ x ∈ sha l, x < 256 := by
  intro x hx
  unfold sha sumOf at hx
  obtain ⟨i, _, rfl⟩ := List.mem_map.1 hx
  exact Nat.mod_lt _ (by omega)
theorem hex_nil : mkS (hexL (sha [])) = ⟨#[101, 51, 98, 48, 99, 52, 52, 50, 57, 56, 102, 99, 49, 99, 49, 52, 57, 97, 102, 98, 102, 52, 99, 56, 57, 57, 54, 102, 98, 57, 50, 52, 50, 55, 97, 101, 52, 49, 101, 52, 54, 52, 57, 98, 57, 51, 52, 99, 97, 52, 57, 53, 57, 57, 49, 98, 55, 56, 53, 50, 98, 56, 53, 53]⟩ := by rw [sha_nil]; kernel_rfl
theorem hex_abc : mkS (hexL (sha [97, 98, 99])) = ⟨#[98, 97, 55, 56, 49, 54, 98, 102, 56, 102, 48, 49, 99, 102, 101, 97, 52, 49, 52, 49, 52, 48, 100, 101, 53, 100, 97, 101, 50, 50, 50, 51, 98, 48, 48, 51, 54, 49, 97, 51, 57, 54, 49, 55, 55, 97, 57, 99, 98, 52, 49, 48, 102, 102, 54, 49, 102, 50, 48, 48, 49, 53, 97, 100]⟩ := by rw [sha_abc]; kernel_rfl
theorem constW_rd (w : World) (e : TypeId) (l : List Nat) (h : ∀ x ∈ l, x < 256) (fr : Nat × Nat) : Rd (w.alloc (.cells (l.map fun x => Value.int .u8 (x : Nat)).toArray e fr)) (some ⟨w.heap.size, 0, none⟩) l := by
  refine ⟨h, fun hl => ⟨w.heap.size, 0, rfl, by simp, fun i hi => ?_⟩⟩
  rw [Nat.zero_add, cell_of_row _ _ _ _ _ _ (heap_alloc_new w _), nth_get hi]
  simp [hi]
end Go.Proofs.YtlhbijpmhokmnaaGreat
namespace Go.Proofs.YtlhbijpmhokmnaaGreat
open Go.RowKit
set_option linter.unusedSimpArgs false
set_option linter.unusedVariables false

def shaC (l : List Nat) : Array Value := ((sha l).map fun x => Value.int .u8 (x : Nat)).toArray
theorem shaC_eq (l : List Nat) (V : World) : (Op.equalIn 10000 103 (.agg (shaC l)) (.agg (shaC l))).run Tryz.prog V = .ok true V := by
  have hz : ∀ i, i < 32 → (shaC l)[i]? = some (.int .u8 (nth (sha l) i : Nat)) := by
    intro i hi
    have : i < (sha l).length := by rw [sha_length]; exact hi
    rw [nth_get this]
    simp [shaC, this]
  have := run_equalIn_bytes V 9998 103 32 (shaC l) (shaC l) (nth (sha l)) (nth (sha l)) Tryz.underlying103 hz hz
  rw [show sameN (nth (sha l)) (nth (sha l)) 32 = true by rw [sameN_iff]; intros; rfl] at this
  exact this
/-- A digest of the call's own, of the bytes l. -/
structure Dg (w0 w : World) (g : Nat) (rv : Value) (l : List Nat) : Prop where
  dr : Dr w g (chain h0 l (l.length / 64)) rv l.length
  rest : Ow w w0.heap.size rv (l.drop (64 * (l.length / 64)))
  ng : rv.ownBlock ≠ some g
  bg : w0.heap.size ≤ g
  bl : Below w0.heap.size w0 w
section
variable {w0 w w' : World} {g : Nat} {rv : Value} {l : List Nat}
theorem Dg.at (h : Dg w0 w g rv l) : w0.heap.size ≤ w.heap.size := h.bl.size
theorem Dg.keep (h : Dg w0 w g rv l) (hb : Below w0.heap.size w w') (h1 : w'.heap[g]? = w.heap[g]?) (h2 : ∀ k, rv.ownBlock = some k → w'.heap[k]? = w.heap[k]?) : Dg w0 w' g rv l :=
  ⟨h.dr.of h1, h.rest.keepb' h2, h.ng, h.bg, h.bl.trans hb⟩
theorem Dg.below (h : Dg w0 w g rv l) (hb : Below w.heap.size w w') : Dg w0 w' g rv l :=
  h.keep (hb.mono h.at) (hb.block g h.dr.lt) fun k e => hb.block k (h.rest.ownLt' e)
theorem Dg.grown {row : Option Nat} (h : Dg w0 w g rv l) (hg : w.grownBy w' row) (h1 : row ≠ some g) (h2 : ∀ k, rv.ownBlock = some k → row ≠ some k) (h3 : ∀ k, row = some k → w0.heap.size ≤ k) : Dg w0 w' g rv l :=
  h.keep (⟨hg.os, hg.tape, hg.output, hg.size, fun k hk => hg.block k (Nat.lt_of_lt_of_le hk h.at) fun e => by have := h3 k e.symm; omega⟩) (hg.block g h.dr.lt h1.symm) fun k e => hg.block k (h.rest.ownLt' e) (h2 k e).symm
end
theorem dg_len (l : List Nat) : (l.drop (64 * (l.length / 64))).length < 64 := by rw [List.length_drop]; omega
theorem sum_dg {w0 w : World} {g : Nat} {rv : Value} {l : List Nat} (h : Dg w0 w g rv l) (hl : l.length ≤ 70368744177664) : Calls Tryz.prog 95 #[.pointer (some ⟨g, 0, none⟩)] w fun e w' => e = .returned (.agg (shaC l)) ∧ Below w.heap.size w w' := by
  have h1 := h.dr
  obtain ⟨rA, rc, rfl, -, -, hr⟩ := h.rest.form
  refine (sum_any h1 hr (dg_len l) hl).mono ?_
  rintro e w' ⟨he, hb⟩
  rw [chain_all] at he
  exact ⟨he, hb⟩
theorem of_c (A : Option Addr) (n c : Nat) (m : List Nat) (w : World) (hn : n = m.length) (hm : m.length ≤ 35184372088832) (hr : Rd w A m) : Calls Tryz.prog 105 #[.slice A n c] w fun e w' => e = .returned (.agg (shaC m)) ∧ Below w.heap.size w w' := by
  subst hn
  exact (of_any A c m w hm hr).mono fun e w' ⟨he, hb⟩ => ⟨he, hb⟩
theorem write_dg {w0 w : World} {g : Nat} {rv : Value} {l : List Nat} (h : Dg w0 w g rv l) (hl : l.length ≤ 70368744177664) (A : Option Addr) (n c : Nat) (m : List Nat) (hn : n = m.length) (hm : m.length ≤ 70368744177664) (hr : Rd w A m) :
    Calls Tryz.prog 94 #[.pointer (some ⟨g, 0, none⟩), .slice A n c] w fun e w' => e = .returned (.int .i64 0) ∧ ∃ rv', Dg w0 w' g rv' (l ++ m) ∧ Chg w w' (fun k => k = g ∨ rv.ownBlock = some k) ∧ ∀ k, rv'.ownBlock = some k → w.heap.size ≤ k := by
  subst hn
  refine (write_any h.dr h.rest h.at h.ng hl A c m hm (dg_len l) hr).mono ?_
  rintro e w' ⟨rfl, rv', hd, ho, hc⟩
  have hq : (l.take (64 * (l.length / 64))).length = 64 * (l.length / 64) := by rw [List.length_take]; omega
  have e0 : l ++ m = l.take (64 * (l.length / 64)) ++ (l.drop (64 * (l.length / 64)) ++ m) := by rw [← List.append_assoc, List.take_append_drop]
  have el : (l ++ m).length / 64 = l.length / 64 + (l.drop (64 * (l.length / 64)) ++ m).length / 64 := by
    simp only [List.length_append, List.length_drop]
    omega
  have e1 : chain h0 l (l.length / 64) = chain h0 (l.take (64 * (l.length / 64))) (l.length / 64) := by
    have := chain_add h0 (l.take (64 * (l.length / 64))) (l.drop (64 * (l.length / 64))) (l.length / 64) 0 hq
    rw [List.take_append_drop, Nat.add_zero] at this
    exact this
  have e2 : chain h0 (l ++ m) ((l ++ m).length / 64) = chain (chain h0 l (l.length / 64)) (l.drop (64 * (l.length / 64)) ++ m) ((l.drop (64 * (l.length / 64)) ++ m).length / 64) := by
    rw [el, e1]
    conv => lhs; rw [e0]
    exact chain_add h0 _ _ _ _ hq
  have e3 : (l ++ m).drop (64 * ((l ++ m).length / 64)) = (l.drop (64 * (l.length / 64)) ++ m).drop (64 * ((l.drop (64 * (l.length / 64)) ++ m).length / 64)) := by
    rw [el]
    conv => lhs; rw [e0]
    rw [Nat.mul_add, List.drop_append, hq, List.drop_eq_nil_of_le (by rw [hq]; omega), List.nil_append]
    congr 1
    omega
  have hfr : ∀ k, rv'.ownBlock = some k → w.heap.size ≤ k := by
    intro k e
    obtain ⟨_, _, ⟨rfl, _⟩ | ⟨g', cap, cur, rfl, hg, _⟩⟩ := ho
    · cases e
    · obtain rfl : g' = k := by injection e
      exact hg
  refine ⟨rfl, rv', ⟨by rw [e2, show (l ++ m).length = l.length + m.length from List.length_append]; exact hd, by rw [e3]; exact ho.mono h.at, fun e => by have := hfr g e; have := h.dr.lt; omega, h.bg, h.bl.trans (hc.below (fun k e => ?_) h.at)⟩, hc, hfr⟩
  rcases e with rfl | e
  · exact h.bg
  · exact ow_base h.rest e
theorem copyb_any (A : Option Addr) (n c : Nat) (l : List Nat) (w : World) (hn : n = l.length) (h : Rd w A l) (hl : l.length ≤ 140737488355328) :
    Calls Tryz.prog 28 #[.slice A n c] w fun e w' => ∃ v, e = .returned v ∧ Ow w' w.heap.size v l ∧ Below w.heap.size w w' := by
  subst hn
  go_enter Tryz.func28, Tryz.ntmps28
  go_wp2_with fail
  refine (own_any A l.length c l w rfl h (by omega)).mono ?_
  rintro e w1 ⟨v, rfl, ho, hb⟩
  have HO := Lib.hid ho
  have HB := Lib.hid hb
  clear ho hb
  go_wp2_with fail
  go_ret
  exact ⟨v, rfl, HO.out, HB.out⟩
/-- The call's own bytes that are written over. -/
def InR (w : World) (A : Option Addr) (u : Nat) : Prop := 0 < u → ∃ (gi nn : Nat) (F : Nat → Value), A = some ⟨gi, 0, none⟩ ∧ w.rowIs gi 5 nn F ∧ u ≤ nn ∧ ∀ j, j < u → ∃ y, y < 256 ∧ F j = .int .u8 (y : Nat)
theorem inR_of {w : World} {base : Nat} {A : Option Addr} {u c : Nat} {l : List Nat} (h : Ow w base (.slice A u c) l) (hl : u = l.length) : InR w A u := by
  subst hl
  intro h0
  obtain ⟨hb, hlen, ⟨h1, h2⟩ | ⟨g, cap, cur, e, hg, hh, hn, hm, hs, ht⟩⟩ := h
  · omega
  · injection e with e1 e2 e3
    subst e1
    refine ⟨g, cur.size, fun j => cur[j]?.getD (.bool false), rfl, ⟨cur, hh, rfl, fun i hi => by simp [hi]⟩, by omega, fun j hj => ?_⟩
    have hj2 : j < cur.size := by omega
    have h3 : (cur.toList.take (l.length * 1))[j]? = (bs l)[j]? := by rw [ht]
    rw [List.getElem?_take, if_pos (by omega), Array.getElem?_toList, bs_get hj] at h3
    exact ⟨l[j], hb _ (List.getElem_mem hj), by show cur[j]?.getD _ = _; rw [h3]; rfl⟩
end Go.Proofs.YtlhbijpmhokmnaaGreat
