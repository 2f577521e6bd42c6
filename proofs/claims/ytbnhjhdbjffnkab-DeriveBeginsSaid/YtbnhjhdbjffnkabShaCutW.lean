/-
  THE WALK OF quillpresslaw03.DigestCuts: it returns true. Conditions: the parts read.
-/
import Derived.Test.YtbnhjhdbjffnkabShaA
import Derived.Test.YtbnhjhdbjffnkabArgs
import Derived.Test.YtbnhjhdbjffnkabSlices
import Derived.BigQuiet
namespace Go.Proofs.Ytbnhjhdbjffnkab
open Go.RowKit
set_option linter.unusedSimpArgs false
set_option linter.unusedVariables false

def shaC (l : List Nat) : Array Value := ((sha l).map fun x => Value.int .u8 (x : Nat)).toArray
theorem shaC_eq (l : List Nat) (V : World) : (Op.equalIn 10000 30 (.agg (shaC l)) (.agg (shaC l))).run Try.prog V = .ok true V := by
  have hz : ∀ i, i < 32 → (shaC l)[i]? = some (.int .u8 (nth (sha l) i : Nat)) := by
    intro i hi
    have : i < (sha l).length := by rw [sha_length]; exact hi
    rw [nth_get this]
    simp [shaC, this]
  have := run_equalIn_bytes V 9998 30 32 (shaC l) (shaC l) (nth (sha l)) (nth (sha l)) Try.underlying30 hz hz
  rw [show sameN (nth (sha l)) (nth (sha l)) 32 = true by rw [sameN_iff]; intros; rfl] at this
  exact this
/-- A digest of the call's own, of the bytes l. -/
structure Dg (w0 w : World) (g : Nat) (rv : Value) (l : List Nat) : Prop where
  dr : Dr w g (chain h0 l (l.length / 64)) rv l.length
  rest : Ow w w0.heap.size rv (l.drop (64 * (l.length / 64)))
  ng : rv.ownBlock ≠ some g
  bg : w0.heap.size ≤ g
  bl : Below w0.heap.size w0 w
section
variable {w0 w w' : World} {g : Nat} {rv : Value} {l : List Nat}
theorem Dg.at (h : Dg w0 w g rv l) : w0.heap.size ≤ w.heap.size := h.bl.size
theorem Dg.keep (h : Dg w0 w g rv l) (hb : Below w0.heap.size w w') (h1 : w'.heap[g]? = w.heap[g]?) (h2 : ∀ k, rv.ownBlock = some k → w'.heap[k]? = w.heap[k]?) : Dg w0 w' g rv l :=
  ⟨h.dr.of h1, h.rest.keepb' h2, h.ng, h.bg, h.bl.trans hb⟩
theorem Dg.below (h : Dg w0 w g rv l) (hb : Below w.heap.size w w') : Dg w0 w' g rv l :=
  h.keep (hb.mono h.at) (hb.block g h.dr.lt) fun k e => hb.block k (h.rest.ownLt' e)
theorem Dg.grown {row : Option Nat} (h : Dg w0 w g rv l) (hg : w.grownBy w' row) (h1 : row ≠ some g) (h2 : ∀ k, rv.ownBlock = some k → row ≠ some k) (h3 : ∀ k, row = some k → w0.heap.size ≤ k) : Dg w0 w' g rv l :=
  h.keep (⟨hg.os, hg.tape, hg.output, hg.size, fun k hk => hg.block k (Nat.lt_of_lt_of_le hk h.at) fun e => by have := h3 k e.symm; omega⟩) (hg.block g h.dr.lt h1.symm) fun k e => hg.block k (h.rest.ownLt' e) (h2 k e).symm
end
theorem dg_len (l : List Nat) : (l.drop (64 * (l.length / 64))).length < 64 := by rw [List.length_drop]; omega
theorem sum_dg {w0 w : World} {g : Nat} {rv : Value} {l : List Nat} (h : Dg w0 w g rv l) (hl : l.length ≤ 70368744177664) : Calls Try.prog 12 #[.pointer (some ⟨g, 0, none⟩)] w fun e w' => e = .returned (.agg (shaC l)) ∧ Below w.heap.size w w' := by
  have h1 := h.dr
  obtain ⟨rA, rc, rfl, -, -, hr⟩ := h.rest.form
  refine (sum_any h1 hr (dg_len l) hl).mono ?_
  rintro e w' ⟨he, hb⟩
  rw [chain_all] at he
  exact ⟨he, hb⟩
theorem of_c (A : Option Addr) (n c : Nat) (m : List Nat) (w : World) (hn : n = m.length) (hm : m.length ≤ 35184372088832) (hr : Rd w A m) : Calls Try.prog 13 #[.slice A n c] w fun e w' => e = .returned (.agg (shaC m)) ∧ Below w.heap.size w w' := by
  subst hn
  exact (of_any A c m w hm hr).mono fun e w' ⟨he, hb⟩ => ⟨he, hb⟩
theorem write_dg {w0 w : World} {g : Nat} {rv : Value} {l : List Nat} (h : Dg w0 w g rv l) (hl : l.length ≤ 70368744177664) (A : Option Addr) (n c : Nat) (m : List Nat) (hn : n = m.length) (hm : m.length ≤ 70368744177664) (hr : Rd w A m) :
    Calls Try.prog 10 #[.pointer (some ⟨g, 0, none⟩), .slice A n c] w fun e w' => e = .returned (.int .i64 0) ∧ ∃ rv', Dg w0 w' g rv' (l ++ m) ∧ Chg w w' (fun k => k = g ∨ rv.ownBlock = some k) ∧ ∀ k, rv'.ownBlock = some k → w.heap.size ≤ k := by
  subst hn
  refine (write_any h.dr h.rest h.at h.ng hl A c m hm (dg_len l) hr).mono ?_
  rintro e w' ⟨rfl, rv', hd, ho, hc⟩
  have hq : (l.take (64 * (l.length / 64))).length = 64 * (l.length / 64) := by rw [List.length_take]; omega
  have e0 : l ++ m = l.take (64 * (l.length / 64)) ++ (l.drop (64 * (l.length / 64)) ++ m) := by rw [← List.append_assoc, List.take_append_drop]
  have el : (l ++ m).length / 64 = l.length / 64 + (l.drop (64 * (l.length / 64)) ++ m).length / 64 := by
    simp only [List.length_append, List.length_drop]
    omega
  have e1 : chain h0 l (l.length / 64) = chain h0 (l.take (64 * (l.length / 64))) (l.length / 64) := by
    have := chain_add h0 (l.take (64 * (l.length / 64))) (l.drop (64 * (l.length / 64))) (l.length / 64) 0 hq
    rw [List.take_append_drop, Nat.add_zero] at this
    exact this
  have e2 : chain h0 (l ++ m) ((l ++ m).length / 64) = chain (chain h0 l (l.length / 64)) (l.drop (64 * (l.length / 64)) ++ m) ((l.drop (64 * (l.length / 64)) ++ m).length / 64) := by
    rw [el, e1]
    conv => lhs; rw [e0]
    exact chain_add h0 _ _ _ _ hq
  have e3 : (l ++ m).drop (64 * ((l ++ m).length / 64)) = (l.drop (64 * (l.length / 64)) ++ m).drop (64 * ((l.drop (64 * (l.length / 64)) ++ m).length / 64)) := by
    rw [el]
    conv => lhs; rw [e0]
    rw [Nat.mul_add, List.drop_append, hq, List.drop_eq_nil_of_le (by rw [hq]; omega), List.nil_append]
    congr 1
    omega
  have hfr : ∀ k, rv'.ownBlock = some k → w.heap.size ≤ k := by
    intro k e
    obtain ⟨_, _, ⟨rfl, _⟩ | ⟨g', cap, cur, rfl, hg, _⟩⟩ := ho
    · cases e
    · obtain rfl : g' = k := by injection e
      exact hg
  refine ⟨rfl, rv', ⟨by rw [e2, show (l ++ m).length = l.length + m.length from List.length_append]; exact hd, by rw [e3]; exact ho.mono h.at, fun e => by have := hfr g e; have := h.dr.lt; omega, h.bg, h.bl.trans (hc.below (fun k e => ?_) h.at)⟩, hc, hfr⟩
  rcases e with rfl | e
  · exact h.bg
  · exact ow_base h.rest e
theorem len_dg {w0 w : World} {g : Nat} {rv : Value} {l : List Nat} (h : Dg w0 w g rv l) : Calls Try.prog 11 #[.pointer (some ⟨g, 0, none⟩)] w fun e w' => e = .returned (.int .i64 l.length) ∧ w = w' := by
  have c74 := h.dr.num
  have H := Lib.hid h
  clear h
  go_enter Try.func11, Try.ntmps11
  go_wp2
  go_ret
  exact ⟨rfl, rfl⟩
theorem copyb_any (A : Option Addr) (n c : Nat) (l : List Nat) (w : World) (hn : n = l.length) (h : Rd w A l) (hl : l.length ≤ 140737488355328) :
    Calls Try.prog 9 #[.slice A n c] w fun e w' => ∃ v, e = .returned v ∧ Ow w' w.heap.size v l ∧ Below w.heap.size w w' := by
  subst hn
  go_enter Try.func9, Try.ntmps9
  go_wp2_with fail
  refine (own_any A l.length c l w rfl h (by omega)).mono ?_
  rintro e w1 ⟨v, rfl, ho, hb⟩
  have HO := Lib.hid ho
  have HB := Lib.hid hb
  clear ho hb
  go_wp2_with fail
  go_ret
  exact ⟨v, rfl, HO.out, HB.out⟩
/-- The call's own bytes that are written over. -/
def InR (w : World) (A : Option Addr) (u : Nat) : Prop := 0 < u → ∃ (gi nn : Nat) (F : Nat → Value), A = some ⟨gi, 0, none⟩ ∧ w.rowIs gi 5 nn F ∧ u ≤ nn ∧ ∀ j, j < u → ∃ y, y < 256 ∧ F j = .int .u8 (y : Nat)
theorem inR_of {w : World} {base : Nat} {A : Option Addr} {u c : Nat} {l : List Nat} (h : Ow w base (.slice A u c) l) (hl : u = l.length) : InR w A u := by
  subst hl
  intro h0
  obtain ⟨hb, hlen, ⟨h1, h2⟩ | ⟨g, cap, cur, e, hg, hh, hn, hm, hs, ht⟩⟩ := h
  · omega
  · injection e with e1 e2 e3
    subst e1
    refine ⟨g, cur.size, fun j => cur[j]?.getD (.bool false), rfl, ⟨cur, hh, rfl, fun i hi => by simp [hi]⟩, by omega, fun j hj => ?_⟩
    have hj2 : j < cur.size := by omega
    have h3 : (cur.toList.take (l.length * 1))[j]? = (bs l)[j]? := by rw [ht]
    rw [List.getElem?_take, if_pos (by omega), Array.getElem?_toList, bs_get hj] at h3
    exact ⟨l[j], hb _ (List.getElem_mem hj), by show cur[j]?.getD _ = _; rw [h3]; rfl⟩
set_option maxRecDepth 100000 in
set_option maxHeartbeats 4000000 in
theorem digestCuts_w (v0 : Value) (w : World) (A : Option Addr) (c : Nat) (L : List (List Nat)) (hv : v0 = .slice A L.length c) (hL : Rds w A L) :
    Calls Try.prog 3 #[v0] w fun e w' => e = .returned (.bool true) ∧ Below w.heap.size w w' := by
  subst hv
  have HL := Lib.hid hL
  clear hL
  go_enter Try.func3, Try.ntmps3
  go_wp2_with fail
  refine (dnew_any w).mono ?_
  rintro e w1 ⟨rfl, hrow, hb1⟩
  have hdg : Dg w w1 w.heap.size (.slice none 0 0) [] := ⟨dr_new hrow, Ow.nil _ _, by simp [Value.ownBlock], Nat.le_refl _, hb1⟩
  have HDG := Lib.hid hdg
  clear hrow hb1 hdg
  go_wp2_with fail
  go_loopw [4, 5] (fun va v wr => ∃ (i : Nat) (l : List Nat) (rv : Value), i ≤ 30 ∧ i ≤ L.length ∧ v = .int .i64 i ∧ Dg w wr w.heap.size rv l ∧ Ow wr w.heap.size va l ∧ (∀ k, va.ownBlock = some k → k ≠ w.heap.size ∧ rv.ownBlock ≠ some k) ∧ l.length ≤ 3000 * i) (fun _ v _ => 30 - (intOf v).toNat)
  case atStart => exact ⟨0, [], _, by omega, by omega, rfl, HDG.out, Ow.nil _ _, (fun k e => by cases e), by simp⟩
  case round =>
    obtain ⟨i, l, rv, hi30, hiL, rfl, hd, ho, hne, hll⟩ := hrel
    have HD := Lib.hid hd
    have HO := Lib.hid ho
    have HNE := Lib.hid hne
    clear hd ho hne
    by_cases e0 : i < L.length ∧ i < 30
    · obtain ⟨e1, e2⟩ := e0
      have e1' : (i : Int) < L.length := by omega
      have e2' : (i : Int) < 30 := by omega
      obtain ⟨b0, o0, rfl, hb0, hcell⟩ := HL.out (by intro e; rw [e] at e1; simp at e1)
      obtain ⟨Bi, ci, hc0, hci, hcm, hri⟩ := hcell i e1
      have hc := (HD.out.bl.cell (p := ⟨b0, o0 + i, none⟩) hb0).trans hc0
      obtain ⟨q, hq⟩ : ∃ q, q = L.getD i [] := ⟨_, rfl⟩
      rw [← hq] at hc hci hri
      obtain ⟨u, hu⟩ : ∃ u, u = min q.length 3000 := ⟨_, rfl⟩
      have k0 : (if (3000 : Int) < q.length then (3000 : Int) else q.length) = u := by split <;> omega
      have k1 : (u : Int) ≤ ci := by omega
      have k2 : u ≤ ci := by omega
      have k3 : (0 : Int) ≤ u := by omega
      have hql : (q.take u).length = u := by rw [List.length_take]; omega
      have u30 : u ≤ 3000 := by omega
      have HQL := Lib.hid hql
      have HRU : Hid (Rd w Bi (q.take u)) := rd_take hri u
      clear hcell hb0 hri hq hci hcm hu hc0 hql
      go_upto_region 6 with fail
      go_quiet (fail)
      go_upto_region 7 with fail
      have hdq := HD.out.below (below_drewN' (Below.refl wr.heap.size wr) nq)
      have hoq : Ow (wr.drewN nq) w.heap.size u4 l := HO.out.keepb' fun k _ => rfl
      generalize wr.drewN nq = Y at *
      have HDY := Lib.hid hdq
      have HOY := Lib.hid hoq
      clear hdq hoq HD HO hc
      go_wp2_with fail
      refine (copyb_any Bi u ci (q.take u) Y HQL.out.symm (HRU.out.below HDY.out.bl) (by rw [HQL.out]; omega)).mono ?_
      rintro e w2 ⟨vi, rfl, hoi, hb2⟩
      obtain ⟨Ai, cci, rfl, hcc, hAi, hrI⟩ := hoi.form
      have hd2 := HDY.out.below hb2
      have ho2 : Ow w2 w.heap.size u4 l := HOY.out.keepb' fun k e => hb2.block k (HOY.out.ownLt' e)
      rw [HQL.out] at hoi
      rw [HQL.out]
      have HOI := Lib.hid hoi
      have HD2 := Lib.hid hd2
      have HO2 := Lib.hid ho2
      have HRI := Lib.hid hrI
      have hgY := HDY.out.dr.lt
      have hrvY := fun k e => HDY.out.rest.ownLt' (k := k) e
      have HRVY := Lib.hid hrvY
      have hY2 := hb2.size
      clear hoi hd2 ho2 hb2 hAi hrI hrvY
      go_wp2_with fail
      refine (write_dg HD2.out (by omega) Ai u cci (q.take u) HQL.out.symm (by rw [HQL.out]; omega) HRI.out).mono ?_
      rintro e w3 ⟨rfl, rv', hd3, hc3, hf3⟩
      have ho3 : Ow w3 w.heap.size u4 l := HO2.out.keepb' fun k e => hc3.block k (HO2.out.ownLt' e) (by
        rintro (h | h)
        · exact (HNE.out k e).1 h
        · exact (HNE.out k e).2 h)
      have hi3 : Ow w3 Y.heap.size (.slice Ai u cci) (q.take u) := HOI.out.keepb' fun k e => hc3.block k (HOI.out.ownLt' e) (by
        have h1 := ow_base HOI.out e
        rintro (h | h)
        · omega
        · have := HRVY.out k h; omega)
      have hna : ∀ k, (Value.slice Ai u cci).ownBlock = some k → Y.heap.size ≤ k ∧ k < w2.heap.size := fun k e => ⟨ow_base HOI.out e, HOI.out.ownLt' e⟩
      have HD3 := Lib.hid hd3
      have HO3 := Lib.hid ho3
      have HI3 := Lib.hid hi3
      have HF3 := Lib.hid hf3
      have HNA := Lib.hid hna
      have hw23 := hc3.size
      clear hd3 hc3 hf3 ho3 hi3 hna HD2 HO2 HOI
      go_wp2_with fail
      have hrow3 : InR w3 Ai u := inR_of HI3.out (by rw [HQL.out])
      go_loopw [8] (fun v wq => ∃ k : Nat, k ≤ u ∧ v = .int .i64 k ∧ InR wq Ai u ∧ w3.grownBy wq (Ai.map (·.block))) (fun v _ => u - (intOf v).toNat)
      case atStart => exact ⟨0, by omega, rfl, hrow3, grown_refl _ _⟩
      case round =>
        clear hrow3
        obtain ⟨k, hk, rfl, hin, hg⟩ := hrel
        have HIN := Lib.hid hin
        have HG := Lib.hid hg
        clear hin hg
        by_cases ku : k < u
        · obtain ⟨gi, nn, F, rfl, hrow, hun, hF⟩ := HIN.out (by omega)
          obtain ⟨y, hy, hFy⟩ := hF k ku
          have cc := hrow.cell (i := k) (by omega)
          rw [hFy] at cc
          have ff := hrow.frozen k
          have kk : (k : Int) < u := by omega
          have kx : bits .xor .u8 (y : Int) 255 = ((y ^^^ 255 : Nat) : Int) := by rw [show (255 : Int) = ((255 : Nat) : Int) from rfl, u8_xor_nat _ _ hy (by omega)]
          have hx : y ^^^ 255 < 256 := Nat.xor_lt_two_pow (n := 8) hy (by omega)
          have HROW := Lib.hid hrow
          have HFF := Lib.hid hF
          clear hrow hF hFy
          go_wp2
          go_roundw
          case rel =>
            refine ⟨k + 1, by omega, by go_num, ?_, grown_set (p := ⟨gi, k, none⟩) HG.out (.inl rfl) _⟩
            intro _
            refine ⟨gi, nn, _, rfl, HROW.out.set k _, hun, fun j hj => ?_⟩
            by_cases e : j = k
            · exact ⟨_, hx, by rw [if_pos e]⟩
            · obtain ⟨y', h1, h2⟩ := HFF.out j hj
              exact ⟨y', h1, by rw [if_neg e]; exact h2⟩
          case measure => simp [intOf]; omega
        · obtain rfl : k = u := by omega
          have hAg : ∀ x, Ai.map (·.block) = some x → Y.heap.size ≤ x ∧ x < w2.heap.size := fun x e => HNA.out x (by
            cases Ai with
            | none => cases e
            | some a => exact e)
          have hd4 : Dg w wr w.heap.size rv' (l ++ q.take k) := HD3.out.grown HG.out (fun e => by have := hAg _ e; omega) (fun x e e2 => by have := hAg x e2; have := HF3.out x e; omega) (fun x e => by have := hAg x e; have := HDY.out.at; omega)
          have ho4 : Ow wr w.heap.size u4 l := HO3.out.keepb' fun x e => HG.out.block x (HO3.out.ownLt' e) (fun e2 => by have := hAg x e2.symm; have := HOY.out.ownLt' e; omega)
          have HD4 := Lib.hid hd4
          have HO4 := Lib.hid ho4
          have HF4 : Hid (∀ x, rv'.ownBlock = some x → x ≠ w.heap.size ∧ u4.ownBlock ≠ some x) := fun x e => ⟨by have := HF3.out x e; have := HDY.out.dr.lt; omega, fun e2 => by have := HF3.out x e; have := HOY.out.ownLt' e2; omega⟩
          clear hd4 ho4 hAg HG HIN
          go_upto_region 15 with (at_builtin; refine append_bytes (.tmp 51) (.tmp 52) rfl rfl rfl HO4.out Bi k ci (q.take k) rfl HQL.out.symm (HRU.out.below HD4.out.bl) (by rw [HQL.out]; omega) HD4.out.at ?_; intro v5 w5 ho5 hg5 ha5; have HO5 := Lib.hid ho5; have HG5 : Hid (wr.grownBy w5 u4.ownBlock) := hg5; have HA5 : Hid (v5.ownBlock = u4.ownBlock ∨ v5.ownBlock = some wr.heap.size) := ha5; clear ho5 hg5 ha5)
          obtain ⟨A5, c5, rfl, -, -, hr5⟩ := HO5.out.form
          have hd5 := HD4.out.grown HG5.out (fun e => (HNE.out _ e).1 rfl) (fun x e e2 => (HF4.out x e).2 e2) (fun x e => ow_base HO4.out e)
          have hne5 : ∀ x, (Value.slice A5 (l ++ q.take k).length c5).ownBlock = some x → x ≠ w.heap.size ∧ rv'.ownBlock ≠ some x := by
            intro x e
            rcases HA5.out with h | h
            · rw [h] at e
              exact ⟨(HNE.out x e).1, fun e2 => (HF4.out x e2).2 e⟩
            · rw [h] at e
              obtain rfl : wr.heap.size = x := by injection e
              have h1 := HD4.out.dr.lt
              exact ⟨by omega, fun e2 => by have := HD4.out.rest.ownLt' e2; omega⟩
          obtain ⟨M, hM⟩ : ∃ M, M = l ++ q.take k := ⟨_, rfl⟩
          have hMl : M.length ≤ 3000 * (i + 1) := by rw [hM, List.length_append, HQL.out]; omega
          have hlm : l.length + min k q.length = M.length := by rw [hM, List.length_append, List.length_take]
          have ho5 := HO5.out
          rw [← hM] at hd5 hr5 hne5 ho5
          have HD5 := Lib.hid hd5
          have HR5 := Lib.hid hr5
          have HN5 := Lib.hid hne5
          have HOM := Lib.hid ho5
          have heq := shaC_eq M
          clear hd5 hr5 hne5 ho5 HO5 HD4 HO4 HF4 HD3 HO3 HI3 HF3 HNA HRI HDY HOY HRVY HG5 HA5
          rw [← hM]
          clear hM hlm
          go_wp2_with fail
          refine (len_dg HD5.out).mono ?_
          rintro e w' ⟨rfl, rfl⟩
          go_wp2_with fail
          refine (sum_dg HD5.out (by omega)).mono ?_
          rintro e w6 ⟨rfl, hb6⟩
          have HB6 := Lib.hid hb6
          clear hb6
          go_wp2_with fail
          refine (of_c A5 M.length c5 M w6 rfl (by omega) (HR5.out.below HB6.out)).mono ?_
          rintro e w7 ⟨rfl, hb7⟩
          have HB7 : Hid (Below w5.heap.size w5 w7) := HB6.out.trans (hb7.mono HB6.out.size)
          clear hb7
          go_wp2_with fail
          refine (sum_dg (HD5.out.below HB7.out) (by omega)).mono ?_
          rintro e w8 ⟨rfl, hb8⟩
          have HB8 : Hid (Below w5.heap.size w5 w8) := HB7.out.trans (hb8.mono HB7.out.size)
          clear hb8
          go_wp2_with fail
          refine (sum_dg (HD5.out.below HB8.out) (by omega)).mono ?_
          rintro e w9 ⟨rfl, hb9⟩
          have HB9 : Hid (Below w5.heap.size w5 w9) := HB8.out.trans (hb9.mono HB8.out.size)
          clear hb9
          go_wp2
          go_roundw
          case rel => exact ⟨i + 1, M, rv', by omega, by omega, by go_num, HD5.out.below HB9.out, HOM.out.keepb' (fun x e => HB9.out.block x (HOM.out.ownLt' e)), HN5.out, hMl⟩
          case measure => simp [intOf]; omega
    · have hcond : (i : Int) < L.length → ¬ (i : Int) < 30 := by omega
      have hll2 : l.length ≤ 90000 := by omega
      obtain ⟨A5, c5, rfl, -, -, hr5⟩ := HO.out.form
      have HR5 := Lib.hid hr5
      have heq := shaC_eq l
      clear hr5
      by_cases e1 : i < L.length
      all_goals
        first
          | (have e1' : (i : Int) < L.length := by omega
             have e2' : ¬ (i : Int) < 30 := by omega)
          | (have e1' : ¬ (i : Int) < L.length := by omega)
        go_wp2_with fail
        refine (sum_dg HD.out (by omega)).mono ?_
        rintro e w6 ⟨rfl, hb6⟩
        have HB6 := Lib.hid hb6
        clear hb6
        go_wp2_with fail
        refine (of_c A5 l.length c5 l w6 rfl (by omega) (HR5.out.below HB6.out)).mono ?_
        rintro e w7 ⟨rfl, hb7⟩
        have HB7 : Hid (Below wr.heap.size wr w7) := HB6.out.trans (hb7.mono HB6.out.size)
        clear hb7
        go_wp2_with fail
        refine (shaAwake_any w7).mono ?_
        rintro e w8 ⟨rfl, hb8⟩
        have HB8 : Hid (Below wr.heap.size wr w8) := HB7.out.trans (hb8.mono HB7.out.size)
        clear hb8
        go_wp2_with fail
        go_ret
        exact ⟨rfl, HD.out.bl.trans (HB8.out.mono HD.out.at)⟩
theorem digestCuts_walk (v0 : Value) (w : World) {H : Type} (enc : TypeId × Value → H) (d0 : DataW H) (p0 : List MemPlace) {r : Reach} {b0 : Nat} (h0 : DataW.Trod enc Try.prog w 0 (fun _ => true) true 22 v0 d0 p0) (hv : Value.okWide Try.prog w r b0 22 v0) :
    Calls Try.prog 3 #[v0] w fun e w' => e = .returned (.bool true) ∧ Below w.heap.size w w' := by
  obtain ⟨A, c, L, rfl, -, -, hL⟩ := open_rds Try.underlying22 Try.underlying25 Try.underlying5 (by kernel_rfl) (by kernel_rfl) hv h0
  exact digestCuts_w _ w A c L rfl hL
end Go.Proofs.Ytbnhjhdbjffnkab
