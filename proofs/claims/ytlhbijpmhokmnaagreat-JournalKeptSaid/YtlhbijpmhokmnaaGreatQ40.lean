/-
  AN ARGUMENT OF TYPE []Life, OPENED. Conditions: none.
  A FILE MADE, WITH A PASSWORD OR WITHOUT; small laws of JournalKept. Conditions: none.
-/
import Derived.Test.YtlhbijpmhokmnaaGreatQ26
import Derived.Test.YtlhbijpmhokmnaaGreatQ39
import Derived.Deep.DeepCutAuto
import Derived.Deep.CutBlock
namespace Go.Proofs.YtlhbijpmhokmnaaGreat
open Go.RowKit Go.ChangeShapes Go.WideShapes Go.ChangeAt
set_option linter.unusedSimpArgs false
set_option linter.unusedVariables false

structure LifeS where
  bodies : List (List Nat)
  arm : Int
  keep : Int
  junk : List Nat
  again : Int
  lkeep : Int
  ljunk : List Nat
/-- A slice of bytes in a cell. -/
def SlAt (w : World) (p : Addr) (l : List Nat) : Prop := ∃ B c, w.cell? p = some (.slice B l.length c) ∧ l.length ≤ c ∧ c ≤ maxLen ∧ Rd w B l
/-- What a life lies as. -/
structure LifeAt (w : World) (g o : Nat) (x : LifeS) : Prop where
  c0 : ∃ A c, w.cell? ⟨g, o, none⟩ = some (.slice A x.bodies.length c) ∧ x.bodies.length ≤ c ∧ c ≤ maxLen ∧ Rds w A x.bodies
  c1 : w.cell? ⟨g, o + 1, none⟩ = some (.int .i64 x.arm)
  c2 : w.cell? ⟨g, o + 2, none⟩ = some (.int .i64 x.keep)
  c3 : SlAt w ⟨g, o + 3, none⟩ x.junk
  c4 : w.cell? ⟨g, o + 4, none⟩ = some (.int .i64 x.again)
  c5 : w.cell? ⟨g, o + 5, none⟩ = some (.int .i64 x.lkeep)
  c6 : SlAt w ⟨g, o + 6, none⟩ x.ljunk
def Lives (w : World) (A : Option Addr) (L : List LifeS) : Prop := L ≠ [] → ∃ g o, A = some ⟨g, o, none⟩ ∧ g < w.heap.size ∧ ∀ i (hi : i < L.length), LifeAt w g (o + i * 7) L[i]
theorem SlAt.below {w w' : World} {p : Addr} {l : List Nat} (h : SlAt w p l) (hg : p.block < w.heap.size) (hb : Below w.heap.size w w') : SlAt w' p l := by
  obtain ⟨B, c, h4, h5, h6, h7⟩ := h
  exact ⟨B, c, (hb.cell (p := p) hg).trans h4, h5, h6, h7.below hb⟩
theorem LifeAt.below {w w' : World} {g o : Nat} {x : LifeS} (h : LifeAt w g o x) (hg : g < w.heap.size) (hb : Below w.heap.size w w') : LifeAt w' g o x := by
  obtain ⟨⟨A, c, a1, a2, a3, a4⟩, h1, h2, h3, h4, h5, h6⟩ := h
  exact ⟨⟨A, c, (hb.cell (p := ⟨g, o, none⟩) hg).trans a1, a2, a3, a4.below hb⟩, (hb.cell (p := ⟨g, o + 1, none⟩) hg).trans h1, (hb.cell (p := ⟨g, o + 2, none⟩) hg).trans h2, h3.below hg hb, (hb.cell (p := ⟨g, o + 4, none⟩) hg).trans h4, (hb.cell (p := ⟨g, o + 5, none⟩) hg).trans h5, h6.below hg hb⟩
theorem open_rdsT {H : Type} {enc : TypeId × Value → H} {P : Program} {t e u : TypeId} {W : World} {fuel : Nat} {cs : List Value} {x : DataW H × List MemPlace} (ht : P.underlying t = some (.slice e)) (he : P.underlying e = some (.slice u)) (hu : P.underlying u = some (.int .u8)) (hc : P.cellsOf e = 1) (hcu : P.cellsOf u = 1)
    (hf : DataW.trod enc P W 0 (fun _ => true) true fuel t cs = some x) : ∃ (A : Option Addr) (c : Nat) (L : List (List Nat)), cs = [.slice A L.length c] ∧ L.length ≤ c ∧ c ≤ maxLen ∧ Rds W A L := by
  rcases open_elems ht hf with hcs | ⟨a, len, cap, m, hcs, hl, hm, hel⟩
  · exact ⟨none, 0, [], hcs, Nat.le_refl _, by simp, fun h => absurd rfl h⟩
  · have each : ∀ i : Nat, ∃ l : List Nat, i < len → ∃ B c, W.cell? (a.add i) = some (.slice B l.length c) ∧ l.length ≤ c ∧ c ≤ maxLen ∧ Rd W B l := by
      intro i
      by_cases hi : i < len
      · obtain ⟨ds, y, k1, k2, k3⟩ := hel i hi
        obtain ⟨B, c, l, e1, e2, e3, e4⟩ := open_slT he hu hcu k3
        obtain ⟨v, q1, q2⟩ := k2 0 (by omega)
        rw [e1] at q1
        simp at q1
        subst q1
        rw [hc, Nat.mul_one] at q2
        exact ⟨l, fun _ => ⟨B, c, by simpa [Addr.add] using q2, e2, e3, e4⟩⟩
      · exact ⟨[], fun h => absurd h hi⟩
    obtain ⟨f, hfn⟩ := Classical.axiomOfChoice each
    have hlen : ((List.range len).map f).length = len := by simp
    refine ⟨some a, cap, (List.range len).map f, by rw [hlen]; exact hcs, by omega, hm, fun hn => ?_⟩
    have h0 : 0 < len := by rw [← hlen]; exact List.length_pos_iff.2 hn
    obtain ⟨b, off, s⟩ := a
    obtain ⟨B0, c0, hs0, -⟩ := hfn 0 h0
    obtain rfl : s = none := by simpa [Addr.add] using World.cell?_spot hs0
    refine ⟨b, off, rfl, ?_, fun i hi => ?_⟩
    · have := World.block_lt_of_cell? _ _ hs0
      simpa [add_none] using this
    · rw [hlen] at hi
      obtain ⟨B, c, h1, h2, h3, h4⟩ := hfn i hi
      have e : ((List.range len).map f).getD i [] = f i := by simp [List.getD_eq_getElem?_getD, hi]
      rw [e]
      exact ⟨B, c, by simpa [add_none] using h1, h2, h3, h4⟩
set_option maxRecDepth 100000 in
theorem open_crashT {H : Type} {enc : TypeId × Value → H} {W : World} {fuel : Nat} {cs : List Value} {x : DataW H × List MemPlace} (hl : cs.length = 2) (hf : DataW.trod enc Tryz.prog W 0 (fun _ => true) true fuel 53 cs = some x) :
    ∃ (k : Int) (A : Option Addr) (c : Nat) (l : List Nat), cs = [.int .i64 k, .slice A l.length c] ∧ l.length ≤ c ∧ c ≤ maxLen ∧ Rd W A l := by
  obtain ⟨xs, n, _, _, _, hx, hfs⟩ := DataW.trod_struct Tryz.underlying53 hf
  have hx : xs.length = 2 := hx
  have h1 := hfs 0 _ rfl
  have h2 := hfs 1 _ rfl
  rw [List.getElem?_eq_getElem (by omega)] at h1 h2
  obtain ⟨k, e1, -, hw⟩ := DataW.trod_int Tryz.underlying3 h1
  obtain ⟨A, c, l, e2, q1, q2, q3⟩ := open_slT Tryz.underlying22 Tryz.underlying5 (by kernel_rfl) h2
  have c1 : Tryz.prog.cellsOf 3 = 1 := by kernel_rfl
  have c2 : Tryz.prog.cellsOf 22 = 1 := by kernel_rfl
  have e1 : (cs.drop 0).take 1 = [Value.int .i64 k] := by rw [← c1]; exact e1
  have e2 : (cs.drop 1).take 1 = [Value.slice A l.length c] := by rw [← c2]; exact e2
  refine ⟨k, A, c, l, ?_, q1, q2, q3⟩
  match cs, hl with
  | [a, b], _ =>
    have e1 : [a] = [Value.int .i64 k] := e1
    have e2 : [b] = [Value.slice A l.length c] := e2
    simp only [List.cons.injEq, and_true] at e1 e2
    rw [e1, e2]
set_option maxRecDepth 100000 in
theorem open_lives {H : Type} {enc : TypeId × Value → H} {W : World} {r : Reach} {b0 : Nat} {v : Value} {d : DataW H} {p : List MemPlace} (hval : Value.okWide Tryz.prog W r b0 54 v) (h0 : DataW.Trod enc Tryz.prog W 0 (fun _ => true) true 54 v d p) :
    ∃ (A : Option Addr) (c : Nat) (L : List LifeS), v = .slice A L.length c ∧ L.length ≤ c ∧ c ≤ maxLen ∧ Lives W A L := by
  obtain ⟨a0, len, cap, rfl⟩ := okWide_slice Tryz.underlying54 hval
  obtain ⟨fuel, hf⟩ := h0
  have hsz : Tryz.prog.cellsOf 58 = 7 := by kernel_rfl
  rcases open_elems Tryz.underlying54 hf with hcs | ⟨a, len', cap', m, hcs, hl, hm, hel⟩
  · simp [Value.cells] at hcs
    obtain ⟨rfl, rfl, rfl⟩ := hcs
    exact ⟨none, 0, [], rfl, Nat.le_refl _, by simp, fun h => absurd rfl h⟩
  · simp [Value.cells] at hcs
    obtain ⟨rfl, rfl, rfl⟩ := hcs
    have each : ∀ i : Nat, ∃ x : LifeS, i < len → ∀ g o s, a = ⟨g, o, s⟩ → s = none → LifeAt W g (o + i * 7) x := by
      intro i
      by_cases hi : i < len
      · obtain ⟨ds, y, k1, k2, k3⟩ := hel i hi
        rw [hsz] at k1 k2
        obtain ⟨xs, n, _, _, _, hx, hfs⟩ := DataW.trod_struct Tryz.underlying58 k3
        have hx : xs.length = 5 := hx
        have f0 := hfs 0 _ rfl
        have f1 := hfs 1 _ rfl
        have f2 := hfs 2 _ rfl
        have f3 := hfs 3 _ rfl
        have f4 := hfs 4 _ rfl
        rw [List.getElem?_eq_getElem (by omega)] at f0 f1 f2 f3 f4
        have c1 : Tryz.prog.cellsOf 3 = 1 := by kernel_rfl
        have c2 : Tryz.prog.cellsOf 31 = 1 := by kernel_rfl
        have c3 : Tryz.prog.cellsOf 53 = 2 := by kernel_rfl
        match ds, k1, k2, f0, f1, f2, f3, f4 with
        | [d0, d1, d2, d3, d4, d5, d6], k1, k2, f0, f1, f2, f3, f4 =>
          have g0 : DataW.trod enc Tryz.prog W 0 (fun _ => true) true n 31 [d0] = some xs[0] := by
            have : (([d0, d1, d2, d3, d4, d5, d6] : List Value).drop 0).take (Tryz.prog.cellsOf 31) = [d0] := by rw [c2]; rfl
            rw [← this]; exact f0
          have g1 : DataW.trod enc Tryz.prog W 0 (fun _ => true) true n 3 [d1] = some xs[1] := by
            have : (([d0, d1, d2, d3, d4, d5, d6] : List Value).drop 1).take (Tryz.prog.cellsOf 3) = [d1] := by rw [c1]; rfl
            rw [← this]; exact f1
          have g2 : DataW.trod enc Tryz.prog W 0 (fun _ => true) true n 53 [d2, d3] = some xs[2] := by
            have : (([d0, d1, d2, d3, d4, d5, d6] : List Value).drop 2).take (Tryz.prog.cellsOf 53) = [d2, d3] := by rw [c3]; rfl
            rw [← this]; exact f2
          have g3 : DataW.trod enc Tryz.prog W 0 (fun _ => true) true n 3 [d4] = some xs[3] := by
            have : (([d0, d1, d2, d3, d4, d5, d6] : List Value).drop 4).take (Tryz.prog.cellsOf 3) = [d4] := by rw [c1]; rfl
            rw [← this]; exact f3
          have g4 : DataW.trod enc Tryz.prog W 0 (fun _ => true) true n 53 [d5, d6] = some xs[4] := by
            have : (([d0, d1, d2, d3, d4, d5, d6] : List Value).drop 5).take (Tryz.prog.cellsOf 53) = [d5, d6] := by rw [c3]; rfl
            rw [← this]; exact f4
          obtain ⟨A0, b0', B, e0, r1, r2, r3⟩ := open_rdsT Tryz.underlying31 Tryz.underlying22 Tryz.underlying5 (by kernel_rfl) (by kernel_rfl) g0
          obtain ⟨z1, e1, -, -⟩ := DataW.trod_int Tryz.underlying3 g1
          obtain ⟨k2', A2, q2, l2, e2, s1, s2, s3⟩ := open_crashT rfl g2
          obtain ⟨z3, e3, -, -⟩ := DataW.trod_int Tryz.underlying3 g3
          obtain ⟨k4', A4, q4, l4, e4, u1, u2, u3⟩ := open_crashT rfl g4
          simp only [List.cons.injEq, and_true] at e0 e1 e2 e3 e4
          obtain ⟨rfl, rfl⟩ := e2
          obtain ⟨rfl, rfl⟩ := e4
          subst e0; subst e1; subst e3
          refine ⟨⟨B, z1, k2', l2, z3, k4', l4⟩, fun _ g o s ha hs => ?_⟩
          subst ha; subst hs
          have key : ∀ j, j < 7 → ∀ v, ([.slice A0 B.length b0', .int .i64 z1, .int .i64 k2', .slice A2 l2.length q2, .int .i64 z3, .int .i64 k4', .slice A4 l4.length q4] : List Value)[j]? = some v → W.cell? ⟨g, o + i * 7 + j, none⟩ = some v := by
            intro j hj v hv
            obtain ⟨v', h1, h2⟩ := k2 j hj
            rw [h1] at hv
            injection hv with hv
            subst hv
            rw [add_none, add_none] at h2
            exact h2
          exact ⟨⟨A0, b0', key 0 (by omega) _ rfl, r1, r2, r3⟩, key 1 (by omega) _ rfl, key 2 (by omega) _ rfl, ⟨A2, q2, key 3 (by omega) _ rfl, s1, s2, s3⟩, key 4 (by omega) _ rfl, key 5 (by omega) _ rfl, ⟨A4, q4, key 6 (by omega) _ rfl, u1, u2, u3⟩⟩
      · exact ⟨⟨[], 0, 0, [], 0, 0, []⟩, fun h => absurd h hi⟩
    have hspot : 0 < len → ∃ g o, a = ⟨g, o, none⟩ ∧ g < W.heap.size := by
      intro h0
      obtain ⟨ds, y, k1, k2, k3⟩ := hel 0 h0
      obtain ⟨v', h1, h2⟩ := k2 0 (by omega)
      obtain ⟨g, o, s⟩ := a
      obtain rfl : s = none := by simpa [Addr.add] using World.cell?_spot h2
      have := World.block_lt_of_cell? _ _ h2
      exact ⟨g, o, rfl, by simpa [add_none] using this⟩
    obtain ⟨f, hfn⟩ := Classical.axiomOfChoice each
    have hlen : ((List.range len).map f).length = len := by simp
    refine ⟨some a, cap, (List.range len).map f, by rw [hlen], by omega, hm, fun hn => ?_⟩
    have h0 : 0 < len := by rw [← hlen]; exact List.length_pos_iff.2 hn
    obtain ⟨g, o, rfl, hg⟩ := hspot h0
    refine ⟨g, o, rfl, hg, fun i hi => ?_⟩
    rw [hlen] at hi
    have := hfn i hi g o none rfl rfl
    rw [List.getElem_map, List.getElem_range]
    exact this
end Go.Proofs.YtlhbijpmhokmnaaGreat
namespace Go.Proofs.YtlhbijpmhokmnaaGreat
open Go.RowKit
set_option linter.unusedSimpArgs false
set_option linter.unusedVariables false

theorem as_enc (kb : Nat → Nat) (nc salt : List Nat) (hn : nc.length = 8) (hs : salt.length = 32) : As (some (kb, nc)) salt (mkD 65536 salt) (mkD 65504 []) :=
  ⟨hn, hs, by show 65536 = 32 + 65504; decide, by show salt = salt ++ encA _ _ []; rw [encA_nil, List.append_nil], by show salt = salt ++ encA _ _ []; rw [encA_nil, List.append_nil], by show salt.length = 32 + 0; rw [hs], Nat.le_refl _, rfl, rfl, rfl, rfl⟩
theorem create_both {w0 w : World} {base g : Nat} {nb ob : Option Nat} (hd : Dk w g nb ob (mkD 65536 [])) (hg : base ≤ g) (hnb : ∀ k, nb = some k → base ≤ k) (hob : ∀ k, ob = some k → base ≤ k) (hb : Below base w0 w) (hs : base ≤ w.heap.size) (A : Option Addr) (u c : Nat) (pw : List Nat) (hu : u = pw.length) (hpw : pw.length ≤ 40) (hr : Rd w A pw) (B : Option Addr) (m e0 : Nat) (salt : List Nat)
    (hc : (pw = [] ∧ m = 0) ∨ (pw ≠ [] ∧ m = 32 ∧ salt.length = 32 ∧ 32 ≤ e0 ∧ Rd w B salt)) :
    Calls Tryz.prog 26 #[.pointer (some ⟨g, 0, none⟩), .slice A u c, .slice B m e0] w fun e w' => ∃ gf K pre mm, e = .returned (.tuple #[.pointer (some ⟨gf, 0, none⟩), .int .i64 0]) ∧ Ff base w0 w' gf g K pre (mkD mm []) ∧ 65504 ≤ mm ∧ mm ≤ 65536 := by
  rcases hc with ⟨rfl, rfl⟩ | ⟨hp, rfl, hsl, he, hrs⟩
  · subst hu
    refine (create_plain hd rfl A B c e0).mono ?_
    rintro e w' ⟨gf, rfl, hf, -, hbb⟩
    exact ⟨gf, none, [], 65536, rfl, ⟨nb, ob, fv_plain hf (Nat.le_refl _), hg, hnb, hob, hb.trans (hbb.mono hs)⟩, by decide, by decide⟩
  · refine (create_any hd rfl A u c pw B e0 salt hu (by omega) hp hr hsl he hrs).mono ?_
    rintro e w' hcp
    have ha : (mkD 65536 []).append salt = (0, { mkD 65536 [] with now := salt }) := (mk_calm 65536 []).append salt (by show 0 + salt.length ≤ 65536; omega)
    have hs2 : ({ mkD 65536 [] with now := salt } : DkS).sync = (0, mkD 65536 salt) := by
      have : Calm ({ mkD 65536 [] with now := salt } : DkS) := ⟨rfl, rfl, rfl⟩
      rw [this.sync]
      rfl
    have ha2 : ((mkD 65536 []).append salt).2.sync = (0, mkD 65536 salt) := by rw [ha]; exact hs2
    rcases hcp with ⟨h1, -⟩ | ⟨-, h2, -⟩ | ⟨-, -, gf, nb', ob', rfl, hf, -, hn', ho', hgr⟩
    · rw [ha] at h1; exact absurd rfl h1
    · rw [ha2] at h2; exact absurd rfl h2
    · rw [ha2] at hf
      refine ⟨gf, some (encK pw salt), salt, 65504, rfl, ⟨nb', ob', ⟨_, hf, as_enc _ _ salt ?_ hsl⟩, hg, fr_new hs hnb hob hn', fr_new hs hnb hob ho', below_of_grown hb hgr hs hg⟩, by decide, by decide⟩
      show (salt.take 8).length = 8
      rw [List.length_take, hsl]; rfl
theorem bas_small {L : List (List Nat)} (h : ∀ x ∈ L, x.length ≤ 300) : (bas L).length ≤ 21 + L.length * 354 := by
  have key : ∀ (L : List (List Nat)) (k : Nat), (∀ x ∈ L, x.length ≤ 300) → (txs k L).length ≤ L.length * 354 := by
    intro L
    induction L with
    | nil => intro k _; exact Nat.le_refl _
    | cons a L ih =>
      intro k h
      rw [txs, List.length_append, txL_length, List.length_cons]
      have h1 := ih (k + 1) (fun x hx => h x (List.mem_cons_of_mem _ hx))
      have h2 := h a (List.mem_cons_self ..)
      omega
  unfold bas
  rw [List.length_append]
  have := key L 1 h
  show 21 + _ ≤ _
  omega
/-- A body as the law takes it. -/
def Small (b : List Nat) : Prop := GoodB b ∧ b.length ≤ 300
def Smalls (L : List (List Nat)) : Prop := ∀ x ∈ L, Small x
theorem Smalls.good {L : List (List Nat)} (h : Smalls L) : ∀ x ∈ L, GoodB x := fun x hx => (h x hx).1
theorem Smalls.snoc {L : List (List Nat)} {b : List Nat} (h : Smalls L) (hb : Small b) : Smalls (L ++ [b]) := fun x hx => by
  rcases List.mem_append.1 hx with hx | hx
  · exact h x hx
  · rw [List.mem_singleton.1 hx]; exact hb
theorem Smalls.len {L : List (List Nat)} (h : Smalls L) : (bas L).length ≤ 21 + L.length * 354 := bas_small fun x hx => (h x hx).2
theorem smalls_nil : Smalls [] := fun x hx => by cases hx
theorem Rest.armed {p : DkS} {m : Nat} {L : List (List Nat)} (h : Rest p m L) (n : Int) : Rest { p with armed := n } m L := ⟨h.most, h.now, h.old, h.floor, h.ok⟩
theorem Rest.failing {p : DkS} {m : Nat} {L : List (List Nat)} (h : Rest p m L) (n : Nat) : Rest { p with fails := n, err := 10 } m L := ⟨h.most, h.now, h.old, h.floor, fun _ => (show (10 : Int) ≠ 0 by decide)⟩
theorem Both2.armed {p : DkS} {m : Nat} {L : List (List Nat)} (h : Both2 p m L) (n : Int) : Both2 { p with armed := n } m L := ⟨h.most, h.now, h.old, h.floor, h.ok⟩
end Go.Proofs.YtlhbijpmhokmnaaGreat
