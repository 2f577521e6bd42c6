/-
  AN ARGUMENT OF TYPE []Op, OPENED (Op: four numbers and bytes). Conditions: none.
-/
import Derived.Test.YtmldpamkghdohaaArgs
namespace Go.Proofs.Ytmldpamkghdohaa
open Go.RowKit Go.ChangeShapes Go.WideShapes Go.ChangeAt
set_option linter.unusedSimpArgs false
set_option linter.unusedVariables false

structure OpS where
  k : Int
  n : Int
  m : Int
  e : Int
  b : List Nat
/-- What a call lies as. -/
structure OpAt (w : World) (g o : Nat) (x : OpS) : Prop where
  c0 : w.cell? ⟨g, o, none⟩ = some (.int .i64 x.k)
  c1 : w.cell? ⟨g, o + 1, none⟩ = some (.int .i64 x.n)
  c2 : w.cell? ⟨g, o + 2, none⟩ = some (.int .i64 x.m)
  c3 : w.cell? ⟨g, o + 3, none⟩ = some (.int .i64 x.e)
  c4 : ∃ B c, w.cell? ⟨g, o + 4, none⟩ = some (.slice B x.b.length c) ∧ x.b.length ≤ c ∧ c ≤ maxLen ∧ Rd w B x.b
  w0 : (Lit.int .i64 x.k).wf = true
  w1 : (Lit.int .i64 x.n).wf = true
  w2 : (Lit.int .i64 x.m).wf = true
  w3 : (Lit.int .i64 x.e).wf = true
def Ops (w : World) (A : Option Addr) (L : List OpS) : Prop := L ≠ [] → ∃ g o, A = some ⟨g, o, none⟩ ∧ g < w.heap.size ∧ ∀ i (hi : i < L.length), OpAt w g (o + i * 5) L[i]
theorem OpAt.below {w w' : World} {g o : Nat} {x : OpS} (h : OpAt w g o x) (hg : g < w.heap.size) (hb : Below w.heap.size w w') : OpAt w' g o x := by
  obtain ⟨h0, h1, h2, h3, ⟨B, c, h4, h5, h6, h7⟩, k0, k1, k2, k3⟩ := h
  exact ⟨(hb.cell (p := ⟨g, o, none⟩) hg).trans h0, (hb.cell (p := ⟨g, o + 1, none⟩) hg).trans h1, (hb.cell (p := ⟨g, o + 2, none⟩) hg).trans h2, (hb.cell (p := ⟨g, o + 3, none⟩) hg).trans h3, ⟨B, c, (hb.cell (p := ⟨g, o + 4, none⟩) hg).trans h4, h5, h6, h7.below hb⟩, k0, k1, k2, k3⟩
theorem Ops.below {w w' : World} {A : Option Addr} {L : List OpS} (h : Ops w A L) (hb : Below w.heap.size w w') : Ops w' A L := by
  intro hn
  obtain ⟨g, o, rfl, hg, hc⟩ := h hn
  exact ⟨g, o, rfl, Nat.lt_of_lt_of_le hg hb.size, fun i hi => (hc i hi).below hg hb⟩
set_option maxRecDepth 100000 in
theorem open_ops {H : Type} {enc : TypeId × Value → H} {W : World} {r : Reach} {b0 : Nat} {v : Value} {d : DataW H} {p : List MemPlace} (hval : Value.okWide Try.prog W r b0 66 v) (h0 : DataW.Trod enc Try.prog W 0 (fun _ => true) true 66 v d p) :
    ∃ (A : Option Addr) (c : Nat) (L : List OpS), v = .slice A L.length c ∧ L.length ≤ c ∧ c ≤ maxLen ∧ Ops W A L := by
  obtain ⟨a0, len, cap, rfl⟩ := okWide_slice Try.underlying66 hval
  obtain ⟨fuel, hf⟩ := h0
  have hsz : Try.prog.cellsOf 68 = 5 := by kernel_rfl
  rcases open_elems Try.underlying66 hf with hcs | ⟨a, len', cap', m, hcs, hl, hm, hel⟩
  · simp [Value.cells] at hcs
    obtain ⟨rfl, rfl, rfl⟩ := hcs
    exact ⟨none, 0, [], rfl, Nat.le_refl _, by simp, fun h => absurd rfl h⟩
  · simp [Value.cells] at hcs
    obtain ⟨rfl, rfl, rfl⟩ := hcs
    have each : ∀ i : Nat, ∃ x : OpS, i < len → ∀ g o s, a = ⟨g, o, s⟩ → s = none → OpAt W g (o + i * 5) x := by
      intro i
      by_cases hi : i < len
      · obtain ⟨ds, y, k1, k2, k3⟩ := hel i hi
        rw [hsz] at k1 k2
        obtain ⟨xs, n, _, _, _, hx, hfs⟩ := DataW.trod_struct Try.underlying68 k3
        have hx : xs.length = 5 := hx
        have f0 := hfs 0 _ rfl
        have f1 := hfs 1 _ rfl
        have f2 := hfs 2 _ rfl
        have f3 := hfs 3 _ rfl
        have f4 := hfs 4 _ rfl
        rw [List.getElem?_eq_getElem (by omega)] at f0 f1 f2 f3 f4
        obtain ⟨z0, e0, -, q0⟩ := DataW.trod_int Try.underlying3 f0
        obtain ⟨z1, e1, -, q1⟩ := DataW.trod_int Try.underlying3 f1
        obtain ⟨z2, e2, -, q2⟩ := DataW.trod_int Try.underlying3 f2
        obtain ⟨z3, e3, -, q3⟩ := DataW.trod_int Try.underlying23 f3
        obtain ⟨B, c, l, e4, p1, p2, p3⟩ := open_slT Try.underlying26 Try.underlying5 (by kernel_rfl) f4
        have c1 : Try.prog.cellsOf 3 = 1 := by kernel_rfl
        have c2 : Try.prog.cellsOf 26 = 1 := by kernel_rfl
        have c3 : Try.prog.cellsOf 23 = 1 := by kernel_rfl
        have e0 : (ds.drop 0).take 1 = [Value.int .i64 z0] := by rw [← c1]; exact e0
        have e1 : (ds.drop 1).take 1 = [Value.int .i64 z1] := by rw [← c1]; exact e1
        have e2 : (ds.drop 2).take 1 = [Value.int .i64 z2] := by rw [← c1]; exact e2
        have e3 : (ds.drop 3).take 1 = [Value.int .i64 z3] := by rw [← c3]; exact e3
        have e4 : (ds.drop 4).take 1 = [Value.slice B l.length c] := by rw [← c2]; exact e4
        have hds : ds = [.int .i64 z0, .int .i64 z1, .int .i64 z2, .int .i64 z3, .slice B l.length c] := by
          match ds, k1 with
          | [a, b, c, d, e], _ =>
            have e0 : [a] = [Value.int .i64 z0] := e0
            have e1 : [b] = [Value.int .i64 z1] := e1
            have e2 : [c] = [Value.int .i64 z2] := e2
            have e3 : [d] = [Value.int .i64 z3] := e3
            have e4 : [e] = [Value.slice B l.length _] := e4
            simp only [List.cons.injEq, and_true] at e0 e1 e2 e3 e4
            rw [e0, e1, e2, e3, e4]
        subst hds
        refine ⟨⟨z0, z1, z2, z3, l⟩, fun _ g o s ha hs => ?_⟩
        subst ha; subst hs
        have key : ∀ j, j < 5 → ∀ v, ([Value.int .i64 z0, .int .i64 z1, .int .i64 z2, .int .i64 z3, .slice B l.length c] : List Value)[j]? = some v → W.cell? ⟨g, o + i * 5 + j, none⟩ = some v := by
          intro j hj v hv
          obtain ⟨v', h1, h2⟩ := k2 j hj
          rw [h1] at hv
          injection hv with hv
          subst hv
          rw [add_none, add_none] at h2
          exact h2
        exact ⟨key 0 (by omega) _ rfl, key 1 (by omega) _ rfl, key 2 (by omega) _ rfl, key 3 (by omega) _ rfl, ⟨B, c, key 4 (by omega) _ rfl, p1, p2, p3⟩, q0, q1, q2, q3⟩
      · exact ⟨⟨0, 0, 0, 0, []⟩, fun h => absurd h hi⟩
    have hspot : 0 < len → ∃ g o, a = ⟨g, o, none⟩ ∧ g < W.heap.size := by
      intro h0
      obtain ⟨ds, y, k1, k2, k3⟩ := hel 0 h0
      obtain ⟨v', h1, h2⟩ := k2 0 (by omega)
      obtain ⟨g, o, s⟩ := a
      obtain rfl : s = none := by simpa [Addr.add] using World.cell?_spot h2
      have := World.block_lt_of_cell? _ _ h2
      exact ⟨g, o, rfl, by simpa [add_none] using this⟩
    obtain ⟨f, hfn⟩ := Classical.axiomOfChoice each
    have hlen : ((List.range len).map f).length = len := by simp
    refine ⟨some a, cap, (List.range len).map f, by rw [hlen], by omega, hm, fun hn => ?_⟩
    have h0 : 0 < len := by rw [← hlen]; exact List.length_pos_iff.2 hn
    obtain ⟨g, o, rfl, hg⟩ := hspot h0
    refine ⟨g, o, rfl, hg, fun i hi => ?_⟩
    rw [hlen] at hi
    have := hfn i hi g o none rfl rfl
    rw [List.getElem_map, List.getElem_range]
    exact this
end Go.Proofs.Ytmldpamkghdohaa
