/-
  A FILE's DISK ARMED, SET TO FAIL, CRASHED; what Add then comes to. Conditions: a journal's file.
  THE WALKS OF slices.EqualFunc upon lists of bytes and of SameLists. Conditions: both lists lie in memory.
-/
import Derived.Test.YtlhbijpmhokmnaaGreatQ36
import Derived.Test.YtlhbijpmhokmnaaGreatQ11
import Derived.Test.YtlhbijpmhokmnaaGreatQ26
namespace Go.Proofs.YtlhbijpmhokmnaaGreat
open Go.RowKit
set_option linter.unusedSimpArgs false
set_option linter.unusedVariables false

theorem crLeft_two (d : DkS) (hfl : d.floor ≤ d.now.length) (keep : Int) (hk : 0 ≤ keep) (junk : List Nat) : d.floor ≤ (crLeft d keep junk).length ∧ (crLeft d keep junk).length ≤ d.now.length ∧ (crLeft d keep junk).take d.floor = d.now.take d.floor := by
  obtain ⟨x, hx⟩ : ∃ x, x = (min keep (d.now.length - d.floor : Nat)).toNat := ⟨_, rfl⟩
  have hxl : x ≤ d.now.length - d.floor := by rw [hx]; omega
  unfold crLeft
  rw [if_neg (by omega), ← hx]
  have hbl : (d.now.take (d.floor + x)).length = d.floor + x := by rw [List.length_take]; omega
  have htt : (d.now.take (d.floor + x)).take d.floor = d.now.take d.floor := by rw [List.take_take, Nat.min_eq_left (Nat.le_add_right _ _)]
  by_cases hj : junk = []
  · rw [if_pos hj]
    exact ⟨by rw [hbl]; omega, by rw [hbl]; omega, htt⟩
  · rw [if_neg hj]
    refine ⟨by rw [jk_length, hbl]; omega, by rw [jk_length, hbl]; omega, ?_⟩
    rw [← htt]
    generalize d.now.take (d.floor + x) = base at hbl htt
    have hf : d.floor ≤ crFrom d.floor base.length := Nat.le_max_left _ _
    generalize crFrom d.floor base.length = f at hf
    refine eq_of_nth (by rw [List.length_take, List.length_take, jk_length]) fun i hi => ?_
    rw [List.length_take, jk_length] at hi
    rw [f_nth_take _ _ _ (by omega), f_nth_take _ _ _ (by omega)]
    have hib : i < base.length := by omega
    unfold jk nth
    rw [List.getD_eq_getElem?_getD, List.getElem?_map, List.getElem?_range hib]
    simp only [Option.map_some, Option.getD_some]
    rw [if_neg (by omega)]
theorem As.crash {K : TurnK} {pre : List Nat} {d p : DkS} (h : As K pre d p) {left : List Nat} (hl : left = d.old ∨ (d.floor ≤ left.length ∧ left.length ≤ d.now.length ∧ left.take d.floor = d.now.take d.floor)) : ∃ p', As K pre (crashD d left) p' ∧ CrashTo p p' := by
  rcases hl with rfl | ⟨h1, h2, h3⟩
  · refine ⟨{ p with now := p.old, old := p.old, floor := p.old.length, down := false, armed := -1, fails := 0 }, ⟨h.ok, h.len, h.most, h.old, h.old, ?_, Nat.le_refl _, rfl, rfl, rfl, h.err⟩, ⟨rfl, rfl, rfl, rfl, rfl, rfl, .inl rfl⟩⟩
    show d.old.length = fromK K + p.old.length
    rw [h.old, List.length_append, encA_length, h.len]
  · have hf := h.floor
    have hs := h.size
    have hfl := h.fl
    have hpre : left.take (fromK K) = pre := by
      have e1 : left.take (fromK K) = (left.take d.floor).take (fromK K) := by rw [List.take_take, Nat.min_eq_left (by omega)]
      rw [e1, h3, List.take_take, Nat.min_eq_left (by omega), h.now]
      exact List.take_left' h.len
    have hcut : (left.drop (fromK K)).take p.floor = (encA K (fromK K) p.now).take p.floor := by
      have e1 : ∀ l : List Nat, (l.drop (fromK K)).take p.floor = (l.take d.floor).drop (fromK K) := fun l => by rw [hf, List.drop_take, Nat.add_sub_cancel_left]
      rw [e1, h3, ← e1, h.now, List.drop_left' h.len]
    have hnow : left = pre ++ encA K (fromK K) (encA K (fromK K) (left.drop (fromK K))) := by
      rw [encA_back, ← hpre, List.take_append_drop]
    have hlen : (encA K (fromK K) (left.drop (fromK K))).length = left.length - fromK K := by rw [encA_length, List.length_drop]
    refine ⟨{ p with now := encA K (fromK K) (left.drop (fromK K)), old := encA K (fromK K) (left.drop (fromK K)), floor := (encA K (fromK K) (left.drop (fromK K))).length, down := false, armed := -1, fails := 0 },
      ⟨h.ok, h.len, h.most, hnow, hnow, ?_, Nat.le_refl _, rfl, rfl, rfl, h.err⟩, ⟨rfl, rfl, rfl, rfl, rfl, rfl, .inr ⟨?_, ?_, ?_⟩⟩⟩
    · show left.length = fromK K + (encA K (fromK K) (left.drop (fromK K))).length
      rw [hlen]; omega
    · show p.floor ≤ (encA K (fromK K) (left.drop (fromK K))).length
      rw [hlen]; omega
    · show (encA K (fromK K) (left.drop (fromK K))).length ≤ p.now.length
      rw [hlen]; omega
    · show (encA K (fromK K) (left.drop (fromK K))).take p.floor = p.now.take p.floor
      rw [encA_take, hcut, encA_take, encA_back]
theorem As.fld {K : TurnK} {pre : List Nat} {d p : DkS} (h : As K pre d p) : d.floor ≤ d.now.length := by
  rw [h.size, h.floor]
  have := h.fl
  omega
theorem As.arm {K : TurnK} {pre : List Nat} {d p : DkS} (h : As K pre d p) (n : Int) : As K pre { d with armed := n } { p with armed := n } := ⟨h.ok, h.len, h.most, h.now, h.old, h.floor, h.fl, h.down, rfl, h.fails, h.err⟩
theorem As.fail {K : TurnK} {pre : List Nat} {d p : DkS} (h : As K pre d p) (n : Nat) (e : Int) : As K pre { d with fails := n, err := e } { p with fails := n, err := e } := ⟨h.ok, h.len, h.most, h.now, h.old, h.floor, h.fl, h.down, h.armed, rfl, rfl⟩
section
variable {w w' : World} {gf gd : Nat} {nb ob : Option Nat} {K : TurnK} {pre : List Nat} {p : DkS}
theorem varm_any (h : Fv w gf gd nb ob K pre p) (n : Int) (hn : 0 ≤ n) (hn2 : n ≤ 9223372036854775807) : Calls Tryz.prog 22 #[.pointer (some ⟨gd, 0, none⟩), .int .i64 n] w fun e w' => e = .returned (.int .i64 0) ∧ VAfter w gf gd nb ob K pre { p with armed := n } w' := by
  obtain ⟨d, h1, h2⟩ := h.ex
  refine (arm_any h1.dk n hn hn2).mono ?_
  rintro e w' ⟨rfl, q1, q2⟩
  exact ⟨rfl, nb, ob, ⟨_, h1.after q1 q2, h2.arm n⟩, .inl (.inl rfl), .inr (.inl rfl), q2⟩
theorem vfail_any (h : Fv w gf gd nb ob K pre p) (n : Nat) (er : Int) (hn : failB n er = false) (hn2 : n ≤ 9223372036854775807) : Calls Tryz.prog 21 #[.pointer (some ⟨gd, 0, none⟩), .int .i64 n, .int .i64 er] w fun e w' => e = .returned (.int .i64 0) ∧ VAfter w gf gd nb ob K pre { p with fails := n, err := er } w' := by
  obtain ⟨d, h1, h2⟩ := h.ex
  refine (fail_any h1.dk n er hn hn2).mono ?_
  rintro e w' ⟨rfl, q1, q2⟩
  exact ⟨rfl, nb, ob, ⟨_, h1.after q1 q2, h2.fail n er⟩, .inl (.inl rfl), .inr (.inl rfl), q2⟩
theorem vcrash_any (h : Fv w gf gd nb ob K pre p) (keep : Int) (AJ : Option Addr) (jn jc : Nat) (junk : List Nat) (hjn : jn = junk.length) (hJ : Rd w AJ junk) (hjl : junk.length ≤ 9223372036854775807) :
    Calls Tryz.prog 23 #[.pointer (some ⟨gd, 0, none⟩), .agg #[.int .i64 keep, .slice AJ jn jc]] w fun e w' => e = .returned (.int .i64 0) ∧ ∃ p', CrashTo p p' ∧ VAfter w gf gd nb ob K pre p' w' := by
  obtain ⟨d, h1, h2⟩ := h.ex
  by_cases hk : keep < 0
  · refine (crash_old h1.dk keep hk AJ jn jc).mono ?_
    rintro e w' ⟨rfl, nb', ob', q1, q2, q3, q4⟩
    obtain ⟨p', k1, k2⟩ := h2.crash (left := d.old) (.inl rfl)
    exact ⟨rfl, p', k2, nb', ob', ⟨_, h1.after q1 q4, k1⟩, q2, q3, q4⟩
  · subst hjn
    refine (crash_now h1.dk h2.fld keep (by omega) AJ junk jc hJ hjl).mono ?_
    rintro e w' ⟨rfl, nb', ob', q1, q2, q3, q4⟩
    obtain ⟨p', k1, k2⟩ := h2.crash (.inr (crLeft_two d h2.fld keep (by omega) junk))
    exact ⟨rfl, p', k2, nb', ob', ⟨_, h1.after q1 q4, k1⟩, q2, q3, q4⟩
theorem crash_to_plain {d : DkS} (hfl : d.floor ≤ d.now.length) (keep : Int) (hk : 0 ≤ keep) (junk : List Nat) : CrashTo d (crashD d (crLeft d keep junk)) := ⟨rfl, rfl, rfl, rfl, rfl, rfl, .inr (crLeft_two d hfl keep hk junk)⟩
/-- A plain file's disk, crashed. -/
theorem vcrash_plain (h : Fv w gf gd nb ob none [] p) (keep : Int) (hk : 0 ≤ keep) (AJ : Option Addr) (jn jc : Nat) (junk : List Nat) (hjn : jn = junk.length) (hJ : Rd w AJ junk) (hjl : junk.length ≤ 9223372036854775807) :
    Calls Tryz.prog 23 #[.pointer (some ⟨gd, 0, none⟩), .agg #[.int .i64 keep, .slice AJ jn jc]] w fun e w' => e = .returned (.int .i64 0) ∧ VAfter w gf gd nb ob none [] (crashD p (crLeft p keep junk)) w' := by
  obtain ⟨d, h1, h2⟩ := h.ex
  have hdp : d.now = p.now ∧ d.floor = p.floor ∧ d.old = p.old ∧ d.most = p.most := ⟨h2.now, by rw [h2.floor]; exact Nat.zero_add _, h2.old, by rw [h2.most]; exact Nat.zero_add _⟩
  subst hjn
  refine (crash_now h1.dk h2.fld keep hk AJ junk jc hJ hjl).mono ?_
  rintro e w' ⟨rfl, nb', ob', q1, q2, q3, q4⟩
  have hcl : crLeft d keep junk = crLeft p keep junk := by unfold crLeft; rw [hdp.1, hdp.2.1, hdp.2.2.1]
  refine ⟨rfl, nb', ob', ⟨_, h1.after q1 q4, ?_⟩, q2, q3, q4⟩
  rw [hcl]
  exact ⟨trivial, rfl, h2.most, rfl, rfl, by show (crLeft p keep junk).length = 0 + (crLeft p keep junk).length; omega, Nat.le_refl _, rfl, rfl, rfl, h2.err⟩
end
/-- A disk that goes down behind so many operations. -/
structure Armed (p : DkS) (a : Nat) : Prop where
  down : p.down = false
  armed : p.armed = a
  fails : p.fails = 0
theorem Armed.pre {p : DkS} {a : Nat} (h : Armed p (a + 1)) : p.pre = (none, { p with armed := a }) := by
  unfold DkS.pre
  rw [if_neg (by rw [h.down]; decide), if_neg (by rw [h.armed]; omega), if_pos h.fails, h.armed, if_pos (by omega)]
  have : ((a + 1 : Nat) : Int) - 1 = a := by omega
  rw [this]
theorem Armed.pre0 {p : DkS} (h : Armed p 0) : p.pre = (some 11, { p with down := true }) := by
  unfold DkS.pre
  rw [if_neg (by rw [h.down]; decide), if_pos (by rw [h.armed]; rfl)]
section
variable {p p' : DkS} {m : Nat} {B hd b cm : List Nat} {L : List (List Nat)}
theorem Armed.step {a k : Nat} (ha : Armed p (a + 1)) (hk : k < 6) (h : Mid p m B (tA hd b cm k) (oA hd b cm k)) (hm : B.length + (hd ++ b ++ cm).length ≤ m) : (stepA hd b cm k p).1 = 0 ∧ Armed (stepA hd b cm k p).2 a := by
  rw [List.length_append, List.length_append] at hm
  have hap : ∀ x : List Nat, p.now.length + x.length ≤ p.most → (p.append x).1 = 0 ∧ Armed (p.append x).2 a := by
    intro x hx
    unfold DkS.append DkS.op
    rw [ha.pre]
    show (if p.most < p.now.length + x.length then ((5 : Int), _) else (0, _)).1 = 0 ∧ Armed (if p.most < p.now.length + x.length then ((5 : Int), _) else (0, _)).2 a
    rw [if_neg (by omega)]
    exact ⟨rfl, ha.down, rfl, ha.fails⟩
  have hs : p.sync.1 = 0 ∧ Armed p.sync.2 a := by
    unfold DkS.sync DkS.op
    rw [ha.pre]
    exact ⟨rfl, ha.down, rfl, ha.fails⟩
  have hl : p.now.length = B.length + (tA hd b cm k).length := by rw [h.now, List.length_append]
  have hmo := h.most
  match k, hk, h, hl with
  | 0, _, h, hl => exact hap hd (by rw [hl, hmo]; show B.length + 0 + _ ≤ _; omega)
  | 1, _, h, hl => exact hs
  | 2, _, h, hl => exact hap b (by rw [hl, hmo]; show B.length + hd.length + _ ≤ _; omega)
  | 3, _, h, hl => exact hs
  | 4, _, h, hl => exact hap cm (by rw [hl, hmo]; show B.length + (hd ++ b).length + _ ≤ _; rw [List.length_append]; omega)
  | 5, _, h, hl => exact hs
theorem Armed.run {a : Nat} (h : Mid p m B [] []) (hm : B.length + (hd ++ b ++ cm).length ≤ m) (ha : Armed p a) (h6 : a < 6) : ∀ k, k ≤ a → (∀ i, i < k → (stepA hd b cm i (runA hd b cm i p)).1 = 0) ∧ Armed (runA hd b cm k p) (a - k)
  | 0, _ => ⟨fun i hi => absurd hi (Nat.not_lt_zero _), ha⟩
  | k + 1, hk => by
    obtain ⟨h1, h2⟩ := Armed.run h hm ha h6 k (by omega)
    have e : a - k = (a - (k + 1)) + 1 := by omega
    rw [e] at h2
    obtain ⟨h3, h4⟩ := h2.step (by omega) (Mid.run h hm k (by omega) h1) hm
    refine ⟨fun i hi => ?_, h4⟩
    rcases Nat.lt_or_ge i k with q | q
    · exact h1 i q
    · obtain rfl : i = k := by omega
      exact h3
theorem step_down {k : Nat} (h : Armed p 0) : stepA hd b cm k p = (11, { p with down := true }) := by
  have ha : ∀ F, p.op F = (11, { p with down := true }) := fun F => by unfold DkS.op; rw [h.pre0]
  unfold stepA
  split <;> exact ha _
theorem back_down {n : Nat} (h : p.down = true) : backD p n = (11, p) := by
  have ha : ∀ F, p.op F = (11, p) := fun F => by unfold DkS.op DkS.pre; rw [if_pos h]
  unfold backD DkS.cut
  rw [ha, if_pos (show (11 : Int) ≠ 0 by decide)]
theorem arm_out {a : Nat} {r : Int} {n' e' : Nat} {br : Bool} (ha : Armed p a) (h6 : a < 6) (h : Rest p m L) (hm : (bas L).length + 54 + b.length ≤ m)
    (ho : AddOut (headL (L.length + 1) b.length) b (commitL (L.length + 1) (headL (L.length + 1) b.length) b) L.length (bas L).length p r p' n' e' br) :
    r = 11 ∧ br = true ∧ n' = L.length ∧ e' = (bas L).length ∧ Mid p' m (bas L) (tA (headL (L.length + 1) b.length) b (commitL (L.length + 1) (headL (L.length + 1) b.length) b) a) (oA (headL (L.length + 1) b.length) b (commitL (L.length + 1) (headL (L.length + 1) b.length) b) a) := by
  have hm' : (bas L).length + (headL (L.length + 1) b.length ++ b ++ commitL (L.length + 1) (headL (L.length + 1) b.length) b).length ≤ m := by rw [tx_parts, txL_length]; omega
  obtain ⟨h1, h2⟩ := Armed.run h hm' ha h6 a (Nat.le_refl _)
  rw [Nat.sub_self] at h2
  have hmid := Mid.run h hm' a (by omega) h1
  have hsd : ∀ k, stepA (headL (L.length + 1) b.length) b (commitL (L.length + 1) (headL (L.length + 1) b.length) b) k (runA (headL (L.length + 1) b.length) b (commitL (L.length + 1) (headL (L.length + 1) b.length) b) a p) = _ := fun k => step_down h2
  rcases ho with ⟨k, hk, hall, q1, q2, rfl, rfl, rfl, rfl⟩ | ⟨hall, -⟩
  · have hka : k = a := by
      rcases Nat.lt_trichotomy k a with q | q | q
      · exact absurd (q1.symm.trans (h1 k q)) q2
      · exact q
      · have := hall a q
        rw [hsd] at this
        exact absurd (show (11 : Int) = 0 from this) (by decide)
    subst hka
    have hr : runA (headL (L.length + 1) b.length) b (commitL (L.length + 1) (headL (L.length + 1) b.length) b) (k + 1) p = { runA (headL (L.length + 1) b.length) b (commitL (L.length + 1) (headL (L.length + 1) b.length) b) k p with down := true } := by
      show (stepA _ _ _ k _).2 = _
      rw [hsd]
    rw [hsd] at q1
    rw [hr, back_down rfl]
    exact ⟨q1.symm, (show decide ((11 : Int) ≠ 0) = true by decide), rfl, rfl, hmid.most, hmid.now, hmid.old, hmid.floor, hmid.ok⟩
  · have := hall a h6
    rw [hsd] at this
    exact absurd (show (11 : Int) = 0 from this) (by decide)
end
end Go.Proofs.YtlhbijpmhokmnaaGreat
namespace Go.Proofs.YtlhbijpmhokmnaaGreat
open Go.RowKit
set_option linter.unusedSimpArgs false
set_option linter.unusedVariables false

def sameLL (a b : List (List Nat)) : Bool := decide (a = b)
theorem sameLL_iff (a b : List (List Nat)) : sameLL a b = true ↔ a = b := by simp [sameLL]
theorem eq_of_getD {a b : List (List Nat)} (hl : a.length = b.length) (h : ∀ i, i < a.length → a.getD i [] = b.getD i []) : a = b := by
  apply List.ext_getElem hl
  intro i h1 h2
  have := h i h1
  rw [List.getD_eq_getElem?_getD, List.getD_eq_getElem?_getD, List.getElem?_eq_getElem h1, List.getElem?_eq_getElem h2] at this
  exact this
set_option maxRecDepth 100000 in
set_option maxHeartbeats 2000000 in
theorem eqf_any (A1 A2 : Option Addr) (c1 c2 : Nat) (a b : List (List Nat)) (w : World) (ha : Rds w A1 a) (hb : Rds w A2 b) (hla : a.length ≤ maxLen) (hlb : b.length ≤ maxLen) :
    Calls Tryz.prog 52 #[.slice A1 a.length c1, .slice A2 b.length c2, .func (.func 9) #[] #[]] w (Quiet (.bool (sameLL a b)) w) := by
  unfold maxLen at hla hlb
  by_cases hl : a.length = b.length
  · have hne : (((a.length : Nat) : Int) != ((b.length : Nat) : Int)) = false := by rw [hl]; simp
    have HL := Lib.hid hl
    have HA := Lib.hid ha
    have HB := Lib.hid hb
    clear ha hb hl
    go_enter Tryz.func52, Tryz.ntmps52
    go_wp2
    go_loopw [17] (fun i wr => ∃ k n : Nat, k ≤ a.length ∧ i = .int .i64 k ∧ wr = w.drewN n ∧ ∀ j, j < k → a.getD j [] = b.getD j []) (fun i _ => a.length - (intOf i).toNat)
    case atStart => exact ⟨0, 0, by omega, rfl, rfl, fun j hj => by omega⟩
    case round =>
      obtain ⟨k, n, hk, rfl, rfl, hs⟩ := hrel
      have HS := Lib.hid hs
      clear hs
      by_cases e0 : k < a.length
      · obtain ⟨g1, o1, rfl, hg1, hc1⟩ := HA.out (by rintro rfl; simp at e0)
        obtain ⟨g2, o2, rfl, hg2, hc2⟩ := HB.out (by rintro rfl; have := HL.out; simp at this; subst this; simp at e0)
        obtain ⟨B1, d1, x1, l1, m1, r1⟩ := hc1 k e0
        obtain ⟨B2, d2, x2, l2, m2, r2⟩ := hc2 k (by have := HL.out; omega)
        obtain ⟨p, hp⟩ : ∃ p, p = a.getD k [] := ⟨_, rfl⟩
        obtain ⟨q, hq⟩ : ∃ q, q = b.getD k [] := ⟨_, rfl⟩
        rw [← hp] at x1 l1 r1
        rw [← hq] at x2 l2 r2
        have HP := Lib.hid hp
        have HQ := Lib.hid hq
        clear hp hq
        have b2 : (k : Int) < (b.length : Int) := by have := HL.out; omega
        have b1 : (k : Int) < (a.length : Int) := by omega
        have HX1 := Lib.hid hc1
        have HX2 := Lib.hid hc2
        clear hc1 hc2
        unfold maxLen at m1 m2
        have hbw : Below w.heap.size w (w.drewN n) := below_drewN' (Below.refl _ _) n
        have hs1 : p.length ≤ 9223372036854775807 := by omega
        have hs2 : q.length ≤ 9223372036854775807 := by omega
        have hcall := same_any B1 B2 d1 d2 p q (w.drewN n) (r1.below hbw) (r2.below hbw) hs1 hs2
        have HC := Lib.hid hcall
        clear hcall r1 r2 hbw l1 l2 m1 m2 hs1 hs2
        by_cases e1 : p = q
        · have E1 := Lib.hid e1
          have E2 := Lib.hid ((sameB_iff _ _).2 e1)
          clear e1
          go_wp2_with fail
          refine HC.out.mono ?_
          rw [E2.out]
          rintro e w' ⟨rfl, n', rfl⟩
          go_wp2_with fail
          go_roundw
          case rel =>
            refine ⟨k + 1, n + n', by omega, by go_num, by simp [World.drewN_drewN], fun j hj => ?_⟩
            rcases Nat.lt_or_ge j k with h | h
            · exact HS.out j h
            · have : j = k := by omega
              subst this
              rw [← HP.out, ← HQ.out]
              exact E1.out
          case measure => simp [intOf]; omega
        · have E2 : Hid (sameB p q = false) := by
            unfold Hid sameB
            exact decide_eq_false e1
          have E3 : Hid (sameLL a b = false) := by
            unfold Hid sameLL
            refine decide_eq_false ?_
            rintro rfl
            exact e1 (HP.out.trans HQ.out.symm)
          clear e1
          go_wp2_with fail
          refine HC.out.mono ?_
          rw [E2.out]
          rintro e w' ⟨rfl, n', rfl⟩
          go_wp2_with fail
          go_ret
          exact ⟨by rw [E3.out]; rfl, n + n', by simp [World.drewN_drewN]⟩
      · obtain rfl : k = a.length := by omega
        have E3 : Hid (sameLL a b = true) := (sameLL_iff a b).2 (eq_of_getD HL.out HS.out)
        go_wp2
        go_ret
        exact ⟨by rw [E3.out]; rfl, n, rfl⟩
  · have hne : (((a.length : Nat) : Int) != ((b.length : Nat) : Int)) = true := by rw [bne_iff_ne]; omega
    have E3 : Hid (sameLL a b = false) := by
      unfold Hid sameLL
      refine decide_eq_false ?_
      rintro rfl
      exact hl rfl
    clear hl
    go_enter Tryz.func52, Tryz.ntmps52
    go_wp2
    go_ret
    exact ⟨by rw [E3.out]; rfl, 0, rfl⟩
set_option maxHeartbeats 400000 in
theorem samel_any (A1 A2 : Option Addr) (n1 n2 c1 c2 : Nat) (a b : List (List Nat)) (w : World) (h1 : n1 = a.length) (h2 : n2 = b.length) (ha : Rds w A1 a) (hb : Rds w A2 b) (hla : a.length ≤ maxLen) (hlb : b.length ≤ maxLen) :
    Calls Tryz.prog 16 #[.slice A1 n1 c1, .slice A2 n2 c2] w (Quiet (.bool (sameLL a b)) w) := by
  subst h1; subst h2
  go_enter Tryz.func16, Tryz.ntmps16
  go_wp2_with fail
  refine (eqf_any A1 A2 c1 c2 a b w ha hb hla hlb).mono ?_
  rintro e w' ⟨rfl, n, rfl⟩
  go_wp2_with fail
  go_ret
  exact ⟨rfl, n, rfl⟩
end Go.Proofs.YtlhbijpmhokmnaaGreat
