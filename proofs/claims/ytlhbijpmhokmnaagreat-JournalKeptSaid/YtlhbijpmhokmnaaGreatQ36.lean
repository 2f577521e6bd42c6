/-
  JOURNALS OF THE CALL's OWN; the chapter's examples ('awake'). Conditions: none.
  THE CHAPTER's EXAMPLES ('awake') OF journal. Conditions: none.
-/
import Derived.Test.YtlhbijpmhokmnaaGreatQ35
namespace Go.Proofs.YtlhbijpmhokmnaaGreat
open Go.RowKit
set_option linter.unusedSimpArgs false
set_option linter.unusedVariables false

section
variable {p p' : DkS} {m : Nat} {B hd b cm : List Nat} {L : List (List Nat)}
theorem Calm.step (hc : Calm p) {k : Nat} (hk : k < 6) (h : Mid p m B (tA hd b cm k) (oA hd b cm k)) (hm : B.length + (hd ++ b ++ cm).length ≤ m) : (stepA hd b cm k p).1 = 0 ∧ Calm (stepA hd b cm k p).2 := by
  rw [List.length_append, List.length_append] at hm
  have ha : ∀ x : List Nat, p.now.length + x.length ≤ p.most → (p.append x).1 = 0 ∧ Calm (p.append x).2 := by
    intro x hx
    rw [hc.append x hx]
    exact ⟨rfl, hc.down, hc.armed, hc.fails⟩
  have hs : p.sync.1 = 0 ∧ Calm p.sync.2 := by
    rw [hc.sync]
    exact ⟨rfl, hc.down, hc.armed, hc.fails⟩
  have hl : p.now.length = B.length + (tA hd b cm k).length := by rw [h.now, List.length_append]
  have hmo := h.most
  match k, hk, h, hl with
  | 0, _, h, hl => exact ha hd (by rw [hl, hmo]; show B.length + 0 + _ ≤ _; omega)
  | 1, _, h, hl => exact hs
  | 2, _, h, hl => exact ha b (by rw [hl, hmo]; show B.length + hd.length + _ ≤ _; omega)
  | 3, _, h, hl => exact hs
  | 4, _, h, hl => exact ha cm (by rw [hl, hmo]; show B.length + (hd ++ b).length + _ ≤ _; rw [List.length_append]; omega)
  | 5, _, h, hl => exact hs
theorem Calm.run (hc : Calm p) (h : Mid p m B [] []) (hm : B.length + (hd ++ b ++ cm).length ≤ m) : ∀ k, k ≤ 6 → (∀ i, i < k → (stepA hd b cm i (runA hd b cm i p)).1 = 0) ∧ Calm (runA hd b cm k p)
  | 0, _ => ⟨fun i hi => absurd hi (Nat.not_lt_zero _), hc⟩
  | k + 1, hk => by
    obtain ⟨h1, h2⟩ := hc.run h hm k (by omega)
    obtain ⟨h3, h4⟩ := h2.step (by omega) (Mid.run h hm k (by omega) h1) hm
    refine ⟨fun i hi => ?_, h4⟩
    rcases Nat.lt_or_ge i k with q | q
    · exact h1 i q
    · obtain rfl : i = k := by omega
      exact h3
theorem calm_out {r : Int} {n' e' : Nat} {br : Bool} (hc : Calm p) (h : Rest p m L) (hm : (bas L).length + 54 + b.length ≤ m)
    (ho : AddOut (headL (L.length + 1) b.length) b (commitL (L.length + 1) (headL (L.length + 1) b.length) b) L.length (bas L).length p r p' n' e' br) :
    r = 0 ∧ Rest p' m (L ++ [b]) ∧ n' = (L ++ [b]).length ∧ e' = (bas (L ++ [b])).length ∧ br = false ∧ Calm p' := by
  have hm' : (bas L).length + (headL (L.length + 1) b.length ++ b ++ commitL (L.length + 1) (headL (L.length + 1) b.length) b).length ≤ m := by rw [tx_parts, txL_length]; omega
  obtain ⟨h1, h2⟩ := hc.run h hm' 6 (Nat.le_refl _)
  have hp : r = 0 ∧ p' = runA (headL (L.length + 1) b.length) b (commitL (L.length + 1) (headL (L.length + 1) b.length) b) 6 p := by
    rcases ho with ⟨k, hk, -, q1, q2, -⟩ | ⟨-, q1, q2, -⟩
    · exact absurd (q1.symm.trans (h1 k hk)) q2
    · exact ⟨q1, q2⟩
  rcases add_out h hm ho with ⟨q1, q2, q3, q4, q5⟩ | ⟨q1, -⟩
  · exact ⟨q1, q2, q3, q4, q5, by rw [hp.2]; exact h2⟩
  · exact absurd hp.1 q1
theorem Calm.cut (h : Calm p) (n : Nat) : p.cut n = (0, { p with now := p.now.take n, floor := min p.floor n }) := by
  unfold DkS.cut
  rw [h.op]
theorem Calm.openG (h : Calm p) : p.pre.1 = none := by rw [h.pre]
theorem mk_rest (most : Nat) : Rest (mkD most txt) most [] := ⟨rfl, rfl, rfl, rfl, fun h => absurd rfl h⟩
theorem mk_calm (most : Nat) (l : List Nat) : Calm (mkD most l) := ⟨rfl, rfl, rfl⟩
theorem as_plain {d : DkS} (h : d.floor ≤ d.now.length) : As none [] d d :=
  ⟨trivial, rfl, by show d.most = 0 + d.most; omega, rfl, rfl, by show d.floor = 0 + d.floor; omega, h, rfl, rfl, rfl, rfl⟩
end
/-- A file of the call's own. -/
def Ff (base : Nat) (w0 w : World) (gf gd : Nat) (K : TurnK) (pre : List Nat) (p : DkS) : Prop :=
  ∃ nb ob, Fv w gf gd nb ob K pre p ∧ base ≤ gd ∧ (∀ k, nb = some k → base ≤ k) ∧ (∀ k, ob = some k → base ≤ k) ∧ Below base w0 w
section
variable {base gf gd gj n e : Nat} {br : Bool} {w0 w w' : World} {K : TurnK} {pre : List Nat} {p p' : DkS}
theorem Ff.at (h : Ff base w0 w gf gd K pre p) : base ≤ w.heap.size := by
  obtain ⟨nb, ob, h1, h2, -⟩ := h
  have := h1.lt
  omega
theorem Ff.below (h : Ff base w0 w gf gd K pre p) (hb : Below w.heap.size w w') : Ff base w0 w' gf gd K pre p := by
  have hs := h.at
  obtain ⟨nb, ob, h1, h2, h3, h4, h5⟩ := h
  exact ⟨nb, ob, h1.below hb, h2, h3, h4, h5.trans (hb.mono hs)⟩
/-- A call on it. -/
theorem Ff.call (h : Ff base w0 w gf gd K pre p) : ∃ nb ob, Fv w gf gd nb ob K pre p ∧ (∀ p' w', VAfter w gf gd nb ob K pre p' w' → Ff base w0 w' gf gd K pre p') ∧
    (∀ p' w', Fv w' gf gd nb ob K pre p' → w.grownBy w' (some gd) → Ff base w0 w' gf gd K pre p') ∧
    (∀ gj p' n e br w', base ≤ gj → JAfter w gj gf gd nb ob K pre p' n e br w' → Ff base w0 w' gf gd K pre p' ∧ Jo w' gj gf n e br) := by
  have hs := h.at
  obtain ⟨nb, ob, h1, h2, h3, h4, h5⟩ := h
  refine ⟨nb, ob, h1, fun p' w' ⟨nb', ob', k1, k2, k3, k4⟩ => ⟨nb', ob', k1, h2, fr_new hs h3 h4 k2, fr_new hs h3 h4 k3, below_of_grown h5 k4 hs h2⟩, fun p' w' k1 k4 => ⟨nb, ob, k1, h2, h3, h4, below_of_grown h5 k4 hs h2⟩, fun gj p' n e br w' hj ⟨nb', ob', k1, k2, k3, k4, k5⟩ => ⟨⟨nb', ob', k1, h2, fr_new hs h3 h4 k3, fr_new hs h3 h4 k4, k5.below h5 h2 hj hs⟩, k2⟩⟩
theorem Ff.len (h : Ff base w0 w gf gd K pre p) : p.now.length ≤ p.most ∧ p.old.length ≤ p.most ∧ p.most ≤ 4194304 := by
  obtain ⟨nb, ob, h1, -⟩ := h
  exact h1.len
/-- The disk's size. -/
theorem vdsize_any (h : Ff base w0 w gf gd K pre p) : Calls Tryz.prog 12 #[.pointer (some ⟨gd, 0, none⟩)] w fun e w' => e = .returned (.int .i64 (fromK K + p.now.length : Nat)) ∧ w = w' := by
  obtain ⟨nb, ob, h1, -⟩ := h
  obtain ⟨d, q1, q2⟩ := h1.ex
  have := size_any q1.dk
  rw [q2.size] at this
  exact this
/-- The disk of a plain file, cut. -/
theorem vdcut_any {nb ob : Option Nat} (h : Fv w gf gd nb ob none [] p) (n : Nat) (hn : n ≤ p.now.length) :
    Calls Tryz.prog 44 #[.pointer (some ⟨gd, 0, none⟩), .int .i64 n] w (Ret fun r w' => VAfter w gf gd nb ob none [] (p.cut n).2 w' ∧ r = (p.cut n).1) := by
  obtain ⟨d, h1, h2⟩ := h.ex
  have hs := h2.size
  have hc := h2.cut n hn
  have e0 : fromK none + n = n := Nat.zero_add n
  have e1 : fromK none + p.now.length = p.now.length := Nat.zero_add _
  rw [e0] at hc
  rw [e1] at hs
  refine (trunc_any h1.dk n (by omega)).mono ?_
  rintro e w' ⟨r, rfl, ⟨nb', ob', q1, q2, q3, q4⟩, hr⟩
  exact ⟨r, rfl, ⟨nb', ob', ⟨_, h1.after q1 q4, hc.2⟩, q2, q3, q4⟩, hr.trans hc.1⟩
end
/-- begun's answer. -/
def Begun (base : Nat) (w0 w : World) (e : Ending) (most : Nat) (gf gd gj : Nat) : Prop :=
  e = .returned (.tuple #[.pointer (some ⟨gd, 0, none⟩), .pointer (some ⟨gf, 0, none⟩), .pointer (some ⟨gj, 0, none⟩)]) ∧ Ff base w0 w gf gd none [] (mkD most txt) ∧ Jo w gj gf 0 21 false ∧ base ≤ gj
theorem fv_plain {w : World} {gf g : Nat} {nb ob : Option Nat} {d : DkS} (h : Fl w gf g nb ob d none) (hf : d.floor ≤ d.now.length) : Fv w gf g nb ob none [] d := ⟨d, h, as_plain hf⟩
theorem mk_app (most : Nat) (h : 21 ≤ most) : (mkD most []).append txt = (0, { mkD most [] with now := txt }) := (mk_calm most []).append txt (by show 0 + 21 ≤ most; omega)
theorem mk_app_sync (most : Nat) : ({ mkD most [] with now := txt } : DkS).sync = (0, mkD most txt) := by
  have : Calm ({ mkD most [] with now := txt } : DkS) := ⟨rfl, rfl, rfl⟩
  rw [this.sync]
  rfl
set_option maxRecDepth 100000 in
set_option maxHeartbeats 4000000 in
theorem jbegun_any (most : Nat) (h1 : 21 ≤ most) (h2 : most ≤ 4194304) (w : World) : Calls Tryz.prog 17 #[.int .i64 most] w fun e w' => ∃ gf gd gj, Begun w.heap.size w w' e most gf gd gj := by
  go_enter Tryz.func17, Tryz.ntmps17
  go_wp2_with fail
  refine (new_any' most w h2).mono ?_
  rintro e w1 ⟨g, nb, ob, rfl, hd, hg, hnb, hob, hb⟩
  have D1 := Lib.hid hd
  have B1 := Lib.hid hb
  have G1 := Lib.hid (And.intro hg (And.intro hnb hob))
  clear hd hg hnb hob hb
  go_wp2_with fail
  refine (create_plain D1.out rfl none none 0 0).mono ?_
  rintro e w2 ⟨gf, rfl, hf, hgf, hb⟩
  have hff : Ff w.heap.size w w2 gf g none [] (mkD most []) := ⟨nb, ob, fv_plain hf (Nat.le_refl _), G1.out.1, G1.out.2.1, G1.out.2.2, B1.out.trans (hb.mono B1.out.size)⟩
  have hat := hff.at
  obtain ⟨nb2, ob2, hv, hcall, -, -⟩ := hff.call
  have HV := Lib.hid hv
  have HC := Lib.hid hcall
  have HAT := Lib.hid hat
  clear hf hgf hb hff hv hcall hat D1 B1 G1
  go_wp2_with fail
  have ha := mk_app most h1
  refine (jcreate_ok HV.out rfl (by rw [ha]) (by rw [ha]; exact congrArg Prod.fst (mk_app_sync most))).mono ?_
  rintro e w3 ⟨gj, rfl, hj, hgj, hva⟩
  rw [ha] at hva
  have hva : VAfter w2 gf g nb2 ob2 none [] (DkS.sync { mkD most [] with now := txt }).2 w3 := hva
  rw [mk_app_sync] at hva
  have HJ := Lib.hid hj
  have HF := Lib.hid (HC.out _ _ hva)
  have HG := Lib.hid (Nat.le_trans HAT.out hgj)
  clear hj hgj hva ha
  go_wp2_with fail
  go_ret3
  exact ⟨gf, g, gj, rfl, HF.out, HJ.out, HG.out⟩
end Go.Proofs.YtlhbijpmhokmnaaGreat
namespace Go.Proofs.YtlhbijpmhokmnaaGreat
open Go.RowKit
set_option linter.unusedSimpArgs false
set_option linter.unusedVariables false

theorem calm_open {p : DkS} {m : Nat} {L : List (List Nat)} {r : List Nat} (hc : Calm p) (hr : Told p.now L r) (hm : p.most = m) (h0 : r = [] → p.old = p.now ∧ p.floor = p.now.length) : (openD p L r).1 = 0 ∧ Rest (openD p L r).2 m L ∧ Calm (openD p L r).2 := by
  unfold openD
  by_cases hr0 : r = []
  · obtain ⟨e1, e2⟩ := h0 hr0
    have hn : p.now = bas L := by rw [hr.bas', hr0, List.append_nil]
    rw [if_pos hr0, hc.pre]
    exact ⟨rfl, ⟨hm, by rw [hn, List.append_nil], by rw [e1, hn, List.append_nil], by rw [e2, hn]; rfl, fun h => absurd hc.fails h⟩, hc⟩
  · rw [if_neg hr0, hc.pre]
    have e : p.now.take (ofs L L.length) = bas L := by rw [hr.bas', ← bas_length]; exact List.take_left' rfl
    unfold backD
    rw [hc.cut, if_neg (by simp)]
    have hq : Calm { p with now := p.now.take (ofs L L.length), floor := min p.floor (ofs L L.length) } := ⟨hc.down, hc.armed, hc.fails⟩
    show (DkS.sync { p with now := p.now.take (ofs L L.length), floor := min p.floor (ofs L L.length) }).1 = 0 ∧ _
    rw [hq.sync]
    exact ⟨rfl, ⟨hm, by show p.now.take _ = _; rw [e, List.append_nil], by show p.now.take _ = _; rw [e, List.append_nil], by show (p.now.take _).length = _; rw [e]; rfl, fun h => absurd hc.fails h⟩, ⟨hc.down, hc.armed, hc.fails⟩⟩
/-- A file's two lists' blocks are told by the memory. -/
theorem Fv.uniq {w : World} {gf gd : Nat} {nb ob nb' ob' : Option Nat} {K K' : TurnK} {pre pre' : List Nat} {p p' : DkS} (h : Fv w gf gd nb ob K pre p) (h' : Fv w gf gd nb' ob' K' pre' p') : nb = nb' ∧ ob = ob' := by
  obtain ⟨d, h1, -⟩ := h.ex
  obtain ⟨d', h1', -⟩ := h'.ex
  obtain ⟨nv, ov, r1, ⟨A, c, rfl, -, -, -, q1⟩, ⟨B, e, rfl, -, -, -, q2⟩⟩ := h1.dk.lies
  obtain ⟨nv', ov', r1', ⟨A', c', rfl, -, -, -, q1'⟩, ⟨B', e', rfl, -, -, -, q2'⟩⟩ := h1'.dk.lies
  have e2 := (r1.cell (show 2 < 9 by omega)).symm.trans (r1'.cell (show 2 < 9 by omega))
  have e3 := (r1.cell (show 3 < 9 by omega)).symm.trans (r1'.cell (show 3 < 9 by omega))
  have e2 : Value.slice A d.now.length c = Value.slice A' d'.now.length c' := Option.some.inj e2
  have e3 : Value.slice B d.old.length e = Value.slice B' d'.old.length e' := Option.some.inj e3
  injection e2 with f2
  injection e3 with f3
  subst f2; subst f3
  exact ⟨q1.symm.trans q1', q2.symm.trans q2'⟩
/-- The file's bytes do not lie in block k. -/
def Sepf (w : World) (gf gd k : Nat) : Prop := ∀ nb ob K pre p, Fv w gf gd nb ob K pre p → nb ≠ some k ∧ ob ≠ some k
theorem sepf_of {w : World} {gf gd k : Nat} {nb ob : Option Nat} {K : TurnK} {pre : List Nat} {p : DkS} (h : Fv w gf gd nb ob K pre p) (h1 : nb ≠ some k) (h2 : ob ≠ some k) : Sepf w gf gd k := fun nb' ob' K' pre' p' h' => by
  obtain ⟨rfl, rfl⟩ := h'.uniq h
  exact ⟨h1, h2⟩
theorem Sepf.below {w w' : World} {gf gd k : Nat} {nb ob : Option Nat} {K : TurnK} {pre : List Nat} {p : DkS} (hs : Sepf w gf gd k) (h : Fv w gf gd nb ob K pre p) (hb : Below w.heap.size w w') : Sepf w' gf gd k :=
  sepf_of (h.below hb) (hs _ _ _ _ _ h).1 (hs _ _ _ _ _ h).2
/-- Another block written. -/
theorem Fv.off {w w' : World} {gf gd k : Nat} {nb ob : Option Nat} {pre : List Nat} {p : DkS} (h : Fv w gf gd nb ob none pre p) (hg : w.grownBy w' (some k)) (h1 : gf ≠ k) (h2 : gd ≠ k) (h3 : nb ≠ some k) (h4 : ob ≠ some k) : Fv w' gf gd nb ob none pre p := by
  obtain ⟨d, ⟨⟨tv, q1, q2⟩, q3⟩, q4⟩ := h.ex
  exact ⟨d, ⟨⟨tv, grown_row hg q1 h1, q2⟩, q3.grown hg (fun e => h2 (by injection e with e; exact e.symm)) (fun k' e e2 => h3 (by rw [e]; exact e2.symm)) (fun k' e e2 => h4 (by rw [e]; exact e2.symm))⟩, q4⟩
section
variable {base gf gd gj : Nat} {w0 w : World} {K : TurnK} {pre : List Nat} {p : DkS} {m : Nat} {L : List (List Nat)}
theorem jadd_ff (h : Ff base w0 w gf gd K pre p) (hj : Jo w gj gf L.length (bas L).length false) (hgj : base ≤ gj) (hr : Rest p m L) (hL : L.length + 1 < 100000) (A : Option Addr) (n c : Nat) (b : List Nat) (hn : n = b.length) (hg : GoodB b) (hrd : Rd w A b) :
    Calls Tryz.prog 15 #[.pointer (some ⟨gj, 0, none⟩), .slice A n c] w (Ret fun r w' => ∃ p' n' e' br, AddOut (headL (L.length + 1) b.length) b (commitL (L.length + 1) (headL (L.length + 1) b.length) b) L.length (bas L).length p r p' n' e' br ∧ Ff base w0 w' gf gd K pre p' ∧ Jo w' gj gf n' e' br ∧ Twb w w' gd gj ∧ ∀ k, k < w.heap.size → Sepf w gf gd k → Sepf w' gf gd k) := by
  obtain ⟨nb, ob, h1, -, -, h4⟩ := h.call
  refine (jadd_any hj h1 A n c b hn hg hrd hL (by rw [hr.now, List.append_nil]; exact Nat.le_refl _)).mono ?_
  rintro e w' ⟨r, rfl, p', n', e', br, q1, q2⟩
  obtain ⟨k1, k2⟩ := h4 _ _ _ _ _ _ hgj q2
  obtain ⟨nb8, ob8, f8, _, n8, o8, ht⟩ := q2
  exact ⟨r, rfl, p', n', e', br, q1, k1, k2, ht, fun k hk hs => sepf_of f8 (new_not n8 (hs _ _ _ _ _ h1).1 (hs _ _ _ _ _ h1).2 hk) (new_not o8 (hs _ _ _ _ _ h1).1 (hs _ _ _ _ _ h1).2 hk)⟩
/-- Added, and all is well. -/
def Added (base : Nat) (w0 w : World) (gf gd gj : Nat) (K : TurnK) (pre : List Nat) (m : Nat) (L : List (List Nat)) : Prop :=
  ∃ p, Ff base w0 w gf gd K pre p ∧ Jo w gj gf L.length (bas L).length false ∧ Rest p m L ∧ Calm p
theorem jadd_calm (h : Added base w0 w gf gd gj K pre m L) (hgj : base ≤ gj) (hL : L.length + 1 < 100000) (A : Option Addr) (n c : Nat) (b : List Nat) (hn : n = b.length) (hg : GoodB b) (hrd : Rd w A b) (hm : (bas L).length + 54 + b.length ≤ m) :
    Calls Tryz.prog 15 #[.pointer (some ⟨gj, 0, none⟩), .slice A n c] w fun e w' => e = .returned (.int .i64 0) ∧ Added base w0 w' gf gd gj K pre m (L ++ [b]) ∧ Twb w w' gd gj ∧ ∀ k, k < w.heap.size → Sepf w gf gd k → Sepf w' gf gd k := by
  obtain ⟨p, h1, h2, h3, h4⟩ := h
  refine (jadd_ff h1 h2 hgj h3 hL A n c b hn hg hrd).mono ?_
  rintro e w' ⟨r, rfl, p', n', e', br, q1, q2, q3, q4⟩
  obtain ⟨rfl, k2, rfl, rfl, rfl, k6⟩ := calm_out h4 h3 hm q1
  exact ⟨rfl, ⟨p', q2, q3, k2, k6⟩, q4⟩
/-- Opened, and all is well. -/
theorem jopen_calm {r : List Nat} (h : Ff base w0 w gf gd K pre p) (hc : Calm p) (hr : Told p.now L r) (hm : p.most = m) (h0 : r = [] → p.old = p.now ∧ p.floor = p.now.length) :
    Calls Tryz.prog 8 #[.pointer (some ⟨gf, 0, none⟩)] w fun e w' => ∃ gj v, e = .returned (.tuple #[.pointer (some ⟨gj, 0, none⟩), v, .int .i64 0]) ∧ Added base w0 w' gf gd gj K pre m L ∧ Lo w' w.heap.size v L ∧ w.heap.size ≤ gj ∧ Ff base w0 w' gf gd K pre (openD p L r).2 ∧ w.grownBy w' (some gd) ∧ ∀ k, v.ownBlock = some k → Sepf w' gf gd k := by
  obtain ⟨k1, k2, k3⟩ := calm_open hc hr hm h0
  obtain ⟨nb, ob, h1, h2, -⟩ := h.call
  refine (jopen_told2 h1 hc.openG hr).mono ?_
  rintro e w' ⟨nb5, ob5, f5, n5, o5, g5, ⟨-, gj, v, rfl, q2, q3, q4, q5⟩ | ⟨q2, -⟩⟩
  · rw [← bas_length] at q2
    have hff := h2 _ _ ⟨nb5, ob5, f5, n5, o5, g5⟩
    exact ⟨gj, v, rfl, ⟨_, hff, q2, k2, k3⟩, q3, q4, hff, g5, fun k hk => sepf_of f5 (q5 k hk).1 (q5 k hk).2⟩
  · exact absurd k1 q2
end
def abc : List Nat := [97, 98, 99]
theorem abc_good : GoodB abc := by unfold GoodB; decide
theorem bas_nil : bas [] = txt := by unfold bas; exact List.append_nil _
theorem bas_abc_len : (bas [abc]).length = 78 := by
  have e := bas_snoc [] abc
  rw [List.nil_append] at e
  rw [e, List.length_append, txL_length, bas_nil]; rfl
theorem told_abc : Told (bas [abc]) [abc] [] := told_bas (fun x hx => by rw [List.mem_singleton.1 hx]; exact abc_good)
/-- The last byte cut off. -/
theorem told_cut77 : ∃ r, r ≠ [] ∧ Told ((bas [abc]).take 77) [] r := by
  have e := bas_snoc [] abc
  rw [List.nil_append] at e
  refine ⟨(txL 1 abc).take 56, ?_, ?_⟩
  · intro h
    have h2 := congrArg List.length h
    rw [List.length_take, txL_length] at h2
    exact absurd h2 (by decide)
  · have e2 : (bas [abc]).take 77 = bas [] ++ (txL 1 abc).take 56 := by
      rw [e, List.take_append, List.take_of_length_le (by rw [bas_nil]; decide)]
      congr 1
    rw [e2]
    refine told_mk (fun x hx => by cases hx) ?_
    refine one_head (b := abc) abc_good ?_ ?_
    · have hp : headL 1 abc.length <+: txL 1 abc := List.prefix_append _ _
      have := List.prefix_take_iff (xs := headL 1 abc.length) (ys := txL 1 abc) (i := 56)
      exact this.2 ⟨hp, by rw [headL_length]; decide⟩
    · rw [List.length_take, txL_length]; decide
set_option maxRecDepth 100000 in
set_option maxHeartbeats 8000000 in
theorem jawake_any (w : World) : Calls Tryz.prog 11 #[] w fun e w' => e = .returned (.bool true) ∧ Below w.heap.size w w' := by
  have kc := fun (w : World) (C : Array Value) (n c : Nat) => Lib.run_convert_bytes_const (P := Tryz.prog) w 22 5 C n c Tryz.underlying22 Tryz.underlying5
  go_enter Tryz.func11, Tryz.ntmps11
  go_wp2_with fail
  refine (jbegun_any 1000 (by omega) (by omega) w).mono ?_
  rintro e w1 ⟨gf, gd, gj, rfl, hf, hj, hgj⟩
  have HF := Lib.hid hf
  have HJ := Lib.hid hj
  have HG := Lib.hid hgj
  clear hf hj hgj
  go_wp2_with fail
  refine (vdsize_any HF.out).mono ?_
  rintro e w' ⟨rfl, rfl⟩
  rw [show fromK none + (mkD 1000 txt).now.length = 21 from rfl]
  go_wp2_with (first
    | (refine wpList_buildFlat rfl 22 5 3 _ rfl .u8 abc Tryz.underlying22 (by kernel_rfl) (by kernel_rfl) rfl (by decide) (by decide) rfl ?_)
    | (refine wpList_conv_const rfl (.tmp 20) rfl (bs abc).toArray 3 3 rfl ?_))
  have hax := (Below.refl w1.heap.size w1).alloc (Nat.le_refl _) (.cells #[.int .u8 97, .int .u8 98, .int .u8 99] 5 (3, 3 + 1))
  have had : Added w.heap.size w (w1.alloc (.cells #[.int .u8 97, .int .u8 98, .int .u8 99] 5 (3, 3 + 1))) gf gd gj none [] 1000 [] := ⟨_, HF.out.below hax, HJ.out.below hax, mk_rest 1000, mk_calm 1000 txt⟩
  refine (jadd_calm had HG.out (by decide) (some ⟨w1.heap.size, 0, none⟩) 3 3 abc rfl abc_good (constW_rd w1 5 abc (by decide) _) (by rw [bas_nil]; decide)).mono ?_
  rintro e w2 ⟨rfl, had2, -⟩
  rw [List.nil_append] at had2
  have HA := Lib.hid had2
  clear had had2 hax HF HJ
  obtain ⟨p2, hf2, hj2, hr2, hc2⟩ := HA.out
  have hn2 : p2.now = bas [abc] := by rw [hr2.now, List.append_nil]
  have HF2 := Lib.hid hf2
  have HJ2 := Lib.hid hj2
  have HN2 := Lib.hid hn2
  have HC2 := Lib.hid hc2
  have HM2 := Lib.hid hr2.most
  have HFL2 := Lib.hid (show p2.floor = 78 by rw [hr2.floor, bas_abc_len]; rfl)
  have HO2 := Lib.hid (show p2.old = p2.now by rw [hn2, hr2.old, List.append_nil])
  clear hf2 hj2 hr2 hc2 hn2 HA
  go_wp2_with fail
  refine (vdsize_any HF2.out).mono ?_
  rintro e w' ⟨rfl, rfl⟩
  rw [HN2.out, bas_abc_len, show fromK none + 78 = 78 from rfl]
  go_wp2_with fail
  refine (jlen_any HJ2.out).mono ?_
  rintro e w' ⟨rfl, rfl⟩
  rw [show ([abc] : List (List Nat)).length = 1 from rfl]
  go_wp2_with fail
  refine (jsize_any HJ2.out).mono ?_
  rw [bas_abc_len]
  rintro e w' ⟨rfl, rfl⟩
  go_wp2_with fail
  refine (jbroken_any HJ2.out).mono ?_
  rintro e w' ⟨rfl, rfl⟩
  go_wp2_with fail
  refine (jopen_calm HF2.out HC2.out (by rw [HN2.out]; exact told_abc) HM2.out (fun _ => ⟨HO2.out, by rw [HFL2.out, HN2.out, bas_abc_len]⟩)).mono ?_
  rintro e w3 ⟨gj3, v3, rfl, -, hlo, hgj3, hf3, -, -⟩
  obtain ⟨A3, c3, rfl, hl1, hl2, hrds⟩ := hlo.rds
  have hod : (openD p2 [abc] []).2 = p2 := by unfold openD; rw [if_pos rfl, HC2.out.pre]
  rw [hod] at hf3
  have HF3 := Lib.hid hf3
  obtain ⟨b3, o3, rfl, hb3, hc3⟩ := hrds (by decide)
  obtain ⟨B3, d3, x3, y3, z3, r3⟩ := hc3 0 (by decide)
  have x3 : w3.cell? ⟨b3, o3 + 0, none⟩ = some (.slice B3 3 d3) := x3
  have r3 : Rd w3 B3 abc := r3
  have hcv := conv_str r3 d3
  have hcv : (convert 22 9 (.slice B3 3 d3)).run Tryz.prog w3 = .ok (.string ⟨#[97, 98, 99]⟩) w3 := hcv
  rw [Nat.add_zero] at x3
  rw [show ([abc] : List (List Nat)).length = 1 from rfl]
  clear hlo hgj3 hl1 hl2 hrds hod hf3 hb3 hc3 y3 z3 r3 HJ2 HF2
  go_wp2_with fail
  obtain ⟨nb3, ob3, hv3, hcall3, -, -⟩ := HF3.out.call
  have HCL3 := Lib.hid hcall3
  refine (vdcut_any hv3 77 (by rw [HN2.out, bas_abc_len]; decide)).mono ?_
  rintro e w4 ⟨r, rfl, hva, -⟩
  have hf4 := HCL3.out _ _ hva
  rw [HC2.out.cut] at hf4
  have HF4 := Lib.hid hf4
  clear hv3 hcall3 hva hf4 HF3 hcv x3
  go_wp2_with fail
  obtain ⟨r4, hr40, ht4⟩ := told_cut77
  have HR4 := Lib.hid hr40
  have hc4 : Calm ({ p2 with now := p2.now.take 77, floor := min p2.floor 77 } : DkS) := ⟨HC2.out.down, HC2.out.armed, HC2.out.fails⟩
  have ht4' : Told ({ p2 with now := p2.now.take 77, floor := min p2.floor 77 } : DkS).now [] r4 := by show Told (p2.now.take 77) [] r4; rw [HN2.out]; exact ht4
  refine (jopen_calm HF4.out hc4 ht4' HM2.out (fun e => absurd e hr40)).mono ?_
  rintro e w5 ⟨gj5, v5, rfl, had5, hlo5, -, -, -, -⟩
  obtain ⟨A5, c5, rfl, -⟩ := hlo5.rds
  obtain ⟨p5, hf5, hj5, hr5, -⟩ := had5
  have hn5 : p5.now = txt := by rw [hr5.now, List.append_nil, bas_nil]
  have HF5 := Lib.hid hf5
  have HJ5 := Lib.hid hj5
  have HN5 := Lib.hid hn5
  rw [show ([] : List (List Nat)).length = 0 from rfl]
  clear hr40 ht4 hc4 ht4' hlo5 hf5 hj5 hr5 hn5 HF4
  go_wp2_with fail
  refine (jlen_any HJ5.out).mono ?_
  rintro e w' ⟨rfl, rfl⟩
  rw [show (([] : List (List Nat)).length : Int) = 0 from rfl]
  go_wp2_with fail
  refine (vdsize_any HF5.out).mono ?_
  rintro e w' ⟨rfl, rfl⟩
  rw [HN5.out, show fromK none + txt.length = 21 from rfl]
  go_wp2_with fail
  go_ret
  obtain ⟨_, _, _, _, _, _, hb⟩ := HF5.out
  exact ⟨rfl, hb⟩
end Go.Proofs.YtlhbijpmhokmnaaGreat
