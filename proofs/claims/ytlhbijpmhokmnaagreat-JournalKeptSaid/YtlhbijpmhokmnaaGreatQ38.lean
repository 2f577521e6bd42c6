/-
  THE WALK OF quillpresslaw29.JournalAny: it returns true. Conditions: none.
-/
import Derived.Test.YtlhbijpmhokmnaaGreatQ36
import Derived.Test.YtlhbijpmhokmnaaGreatQ37
namespace Go.Proofs.YtlhbijpmhokmnaaGreat
open Go.RowKit
set_option linter.unusedSimpArgs false
set_option linter.unusedVariables false

section
variable {W : World} {ops : Array Oper} {rest : List Oper} {o : Oper} {a : Act} {Q : Exit → Act → World → Prop}
/-- 'append' behind a slice without room. -/
theorem append_clip (s x : Operand) (hgd : o.guard = none) (ho : o.op = .call { callee := .builtin .append, args := #[s, x], argTypes := #[22, 22] })
    (B : Option Addr) (n1 : Nat) (l : List Nat) (hs : a.eval s = .slice B n1 n1) (hn1 : n1 = l.length) (hB : Rd W B l) (A : Option Addr) (n c : Nat) (m : List Nat) (hx : a.eval x = .slice A n c) (hnm : n = m.length) (hA : Rd W A m)
    (hn : l.length + m.length ≤ 140737488355328) (h : ∀ v' w' b, Sl w' v' (l ++ m) b → Below W.heap.size W w' → wpList Tryz.prog ops Q rest (a.put o.dst v') w') : wpList Tryz.prog ops Q (o :: rest) a W := by
  subst hn1; subst hnm
  refine wpList_plain hgd fun _ hK => ?_
  obtain ⟨v', w', b, hrun, h2, h3, h4⟩ := run_append_clip o.type B l hB A c m hA hn
  unfold Oper.wp execOp
  simp only [ho, resolve, invoke, builtin, Sem.run_bind, Sem.run_pure, Result.andThen_ok, List.map_toArray, List.map_cons, List.map_nil, hs, hx, hrun]
  exact hK _ _ (h v' w' b h2 h4)
end
/-- Where bytes lie is no journal's block. -/
theorem Jo.apart {w : World} {gj gf n e : Nat} {br : Bool} (h : Jo w gj gf n e br) {A : Option Addr} {m : List Nat} (hr : Rd w A m) : m = [] ∨ ∃ b o, A = some ⟨b, o, none⟩ ∧ b ≠ gj ∧ b < w.heap.size := by
  by_cases hm : m = []
  · exact .inl hm
  · obtain ⟨b, o, rfl, hb, hc⟩ := hr.2 hm
    refine .inr ⟨b, o, rfl, ?_, hb⟩
    rintro rfl
    have h0 := hc 0 (List.length_pos_iff.2 hm)
    obtain ⟨cs, h1, h2, h3⟩ := h
    rw [Nat.add_zero, cell_of_row _ _ _ _ _ _ h1] at h0
    rcases Nat.lt_or_ge o 4 with ho | ho
    · rw [h3 o ho] at h0
      injection h0 with h0
      exact joC_not gf n e br o ho _ h0
    · rw [Array.getElem?_eq_none (by omega)] at h0
      cases h0
section
variable {w w' : World} {gj gf gd n e base : Nat} {br : Bool} {nb ob : Option Nat} {K : TurnK} {pre : List Nat} {p : DkS}
theorem Twb.grownBy_of (ht : Twb w w' gd gj) (k : Nat) (hk : k < w.heap.size) (h1 : k ≠ gd) (h2 : k ≠ gj) : w'.heap[k]? = w.heap[k]? := ht.block k hk h1 h2
theorem rd_two (hf : Fv w gf gd nb ob K pre p) (hj : Jo w gj gf n e br) (ht : Twb w w' gd gj) {A : Option Addr} {m : List Nat} (hr : Rd w A m) : Rd w' A m := by
  obtain ⟨d, h1, h2⟩ := hf.ex
  rcases h1.dk.apart hr with rfl | ⟨b, o, rfl, hb, hl⟩
  · exact ⟨hr.1, fun h => absurd rfl h⟩
  · rcases hj.apart hr with rfl | ⟨b', o', e', hb', -⟩
    · exact ⟨hr.1, fun h => absurd rfl h⟩
    · have e1 := Option.some.inj e'
      injection e1 with e1 e2 e3
      subst e1
      refine hr.keep ht.size fun p hp ⟨a, ha, e⟩ => World.cell?_of_block (ht.block p.block hp (by rw [← e, ← Option.some.inj ha]; exact hb) (by rw [← e, ← Option.some.inj ha]; exact hb'))
/-- A list of bodies, behind a call on a journal. -/
theorem Lo.two {v : Value} {L : List (List Nat)} (h : Lo w base v L) (hf : Fv w gf gd nb ob K pre p) (hj : Jo w gj gf n e br) (ht : Twb w w' gd gj) (h1 : gd < base) (h2 : v.ownBlock ≠ some gj) : Lo w' base v L := by
  have hl := h.lt
  obtain ⟨V, q1, q3⟩ := h
  refine ⟨V, ⟨q1.1, ?_⟩, fun i hi => ?_⟩
  · rcases q1.2 with r1 | ⟨g, cap, cur, r1, r2, r3, r4⟩
    · exact .inl r1
    · refine .inr ⟨g, cap, cur, r1, r2, ?_, r4⟩
      have hk : v.ownBlock = some g := by rw [r1]; rfl
      have := hl g hk
      rw [ht.block g this.2 (by omega) (fun e => h2 (by rw [hk, e]))]
      exact r3
  · obtain ⟨x, hx, A, c, rfl, k1, k2, k3, k4⟩ := q3 i hi
    exact ⟨_, hx, A, c, rfl, k1, k2, rd_two hf hj ht k3, fun a ha => ⟨Nat.lt_of_lt_of_le (k4 a ha).1 ht.size, (k4 a ha).2⟩⟩
/-- A list's own block is no journal's. -/
theorem Lo.notJ {v : Value} {L : List (List Nat)} (h : Lo w base v L) (hj : Jo w gj gf n e br) : v.ownBlock ≠ some gj := by
  obtain ⟨V, ⟨_, h1⟩, -⟩ := h
  rcases h1 with ⟨rfl, -⟩ | ⟨g, cap, cur, rfl, hg, hh, -⟩
  · intro h; cases h
  · intro e
    injection e with e
    subst e
    obtain ⟨cs, q1, -⟩ := hj
    rw [hh] at q1
    injection q1 with q1
    injection q1 with q1 q2
    exact absurd q2 (by decide)
end
theorem load_n (most : Nat) (A : Option Addr) (n c : Nat) (b : List Nat) (w : World) (hn : n = b.length) (hm : most ≤ 4194304) (hb : b.length ≤ most) (hr : Rd w A b) :
    Calls Tryz.prog 6 #[.int .i64 most, .slice A n c] w fun e w' => ∃ g nb ob, e = .returned (.tuple #[.pointer (some ⟨g, 0, none⟩), .int .i64 0]) ∧ Dk w' g nb ob (mkD most b) ∧ w.heap.size ≤ g ∧ (∀ k, nb = some k → w.heap.size ≤ k) ∧ (∀ k, ob = some k → w.heap.size ≤ k) ∧ Below w.heap.size w w' := by
  subst hn
  exact load_any most A c b w hm hb hr
theorem vimage_any {w0 w : World} {base gf gd : Nat} {p : DkS} (h : Ff base w0 w gf gd none [] p) : Calls Tryz.prog 10 #[.pointer (some ⟨gd, 0, none⟩)] w fun e w' => ∃ A c, e = .returned (.slice A p.now.length c) ∧ Rd w' A p.now ∧ Below w.heap.size w w' := by
  obtain ⟨nb, ob, h1, -⟩ := h
  obtain ⟨d, q1, q2⟩ := h1.ex
  have hn : d.now = p.now := q2.now
  refine (image_any q1.dk).mono ?_
  rw [hn]
  rintro e w' ⟨v, b, rfl, ⟨A, c, rfl, -, -, hr, -⟩, -, hb⟩
  exact ⟨A, c, rfl, hr, hb⟩
theorem Ff.rd {w0 w w' : World} {base gf gd : Nat} {K : TurnK} {pre : List Nat} {p : DkS} (h : Ff base w0 w gf gd K pre p) {A : Option Addr} {m : List Nat} (hr : Rd w A m) (hg : w.grownBy w' (some gd)) : Rd w' A m := by
  obtain ⟨nb, ob, h1, -⟩ := h
  exact h1.rd hr hg
theorem lo_rds {w : World} {base : Nat} {A : Option Addr} {n c : Nat} {L : List (List Nat)} (h : Lo w base (.slice A n c) L) : n = L.length ∧ Rds w A L ∧ L.length ≤ maxLen := by
  obtain ⟨A', c', e, h1, h2, h3⟩ := h.rds
  injection e with e1 e2 e3
  subst e1
  exact ⟨e2, h3, Nat.le_trans h1 h2⟩
theorem Fv.gfLt {w : World} {gf gd : Nat} {nb ob : Option Nat} {K : TurnK} {pre : List Nat} {p : DkS} (h : Fv w gf gd nb ob K pre p) : gf < w.heap.size := by
  obtain ⟨d, h1, -⟩ := h.ex
  obtain ⟨tv, h2, -⟩ := h1.c
  exact block_lt_of_cell h2
theorem Ff.off {w0 w w' : World} {base b2 gf gd : Nat} {pre : List Nat} {p : DkS} {own : Option Nat} (h : Ff base w0 w gf gd none pre p) (hg : w.grownBy w' own) (ho : ∀ k, own = some k → b2 ≤ k ∧ Sepf w gf gd k) (h1 : gf < b2) (h2 : gd < b2) (hb : base ≤ b2) : Ff base w0 w' gf gd none pre p := by
  have hs := h.at
  obtain ⟨nb, ob, q1, q2, q3, q4, q5⟩ := h
  refine ⟨nb, ob, ?_, q2, q3, q4, q5.grown hg hs (fun k e => Nat.le_trans hb (ho k e).1)⟩
  cases own with
  | none => exact q1.below ⟨hg.os, hg.tape, hg.output, hg.size, fun k hk => hg.block k hk (fun e => by cases e)⟩
  | some k =>
    obtain ⟨k1, k2⟩ := ho k rfl
    exact q1.off hg (by omega) (by omega) (k2 _ _ _ _ _ q1).1 (k2 _ _ _ _ _ q1).2
theorem Added.below {w0 w w' : World} {base gf gd gj m : Nat} {K : TurnK} {pre : List Nat} {L : List (List Nat)} (h : Added base w0 w gf gd gj K pre m L) (hb : Below w.heap.size w w') : Added base w0 w' gf gd gj K pre m L := by
  obtain ⟨p, h1, h2, h3, h4⟩ := h
  exact ⟨p, h1.below hb, h2.below hb, h3, h4⟩
set_option maxRecDepth 100000 in
set_option maxHeartbeats 16000000 in
theorem journalAny_any (A2 : Option Addr) (c2 : Nat) (l : List Nat) (t : Bool) (B : Option Addr) (d : Nat) (q : List Nat) (w : World) (hA : Rd w A2 l) (hc : l.length ≤ c2) (hB : Rd w B q) (hd : q.length ≤ d) (hdm : d ≤ maxLen) :
    Calls Tryz.prog 3 #[.slice A2 l.length c2, .bool t, .slice B q.length d] w fun e w' => e = .returned (.bool true) ∧ Below w.heap.size w w' := by
  have kc := fun (w : World) (C : Array Value) (n c : Nat) => Lib.run_convert_bytes_const (P := Tryz.prog) w 22 5 C n c Tryz.underlying22 Tryz.underlying5
  obtain ⟨N2, hu⟩ : ∃ u, u = min l.length 3000 := ⟨_, rfl⟩
  obtain ⟨v, hv⟩ : ∃ v, v = min q.length 500 := ⟨_, rfl⟩
  have k0 : (if (3000 : Int) < l.length then (3000 : Int) else l.length) = N2 := by split <;> omega
  have k1 : (if (500 : Int) < q.length then (500 : Int) else q.length) = v := by split <;> omega
  have m1 : (N2 : Int) ≤ c2 := by omega
  have m2 : N2 ≤ c2 := by omega
  have m3 : (v : Int) ≤ d := by omega
  have m4 : v ≤ d := by omega
  have u3 : N2 ≤ 3000 := by omega
  have v6 : v ≤ 500 := by omega
  obtain ⟨D, hul, hAK⟩ : ∃ K : List Nat, N2 = K.length ∧ Rd w A2 K := ⟨l.take N2, by rw [List.length_take]; omega, rd_take hA N2⟩
  obtain ⟨body, hvl, hBS⟩ : ∃ S : List Nat, v = S.length ∧ Rd w B S := ⟨q.take v, by rw [List.length_take]; omega, rd_take hB v⟩
  have HUL := Lib.hid hul
  have HVL := Lib.hid hvl
  have HA := Lib.hid hAK
  have HB := Lib.hid hBS
  have HDM := Lib.hid hdm
  clear hu hv hul hvl hA hB hAK hBS hdm
  cases t with
  | true =>
    go_enter Tryz.func3, Tryz.ntmps3
    go_wp2_with fail
    go_quiet (fail)
    have HA1 := Lib.hid (HA.out.below (below_drewN' (Below.refl w.heap.size w) nq))
    have HB1 := Lib.hid (HB.out.below (below_drewN' (Below.refl w.heap.size w) nq))
    have HBW := Lib.hid (below_drewN' (Below.refl w.heap.size w) nq)
    clear HA HB
    generalize w.drewN nq = w1 at *
    have hcw := constW_rd w1 5 txt txt_lt (21, 21 + 1)
    have hax : Below w1.heap.size w1 (w1.alloc (.cells (bs txt).toArray 5 (21, 21 + 1))) := (Below.refl _ _).alloc (Nat.le_refl _) _
    have HCW := Lib.hid hcw
    have HAX := Lib.hid hax
    have HA2 := Lib.hid (HA1.out.below hax)
    clear hcw hax
    go_wp2_with (first
      | (refine wpList_buildFlat rfl 22 5 21 _ rfl .u8 txt Tryz.underlying22 (by kernel_rfl) (by kernel_rfl) rfl (by decide) (by decide) rfl ?_)
      | (refine wpList_conv_const rfl (.tmp 27) rfl (bs txt).toArray 21 21 rfl ?_)
      | (refine append_clip (.tmp 28) (.tmp 29) rfl rfl (some ⟨w1.heap.size, 0, none⟩) 21 txt rfl rfl HCW.out A2 N2 c2 D rfl HUL.out HA2.out (by have := HUL.out; show 21 + _ ≤ _; omega) ?_; intro v2 w2 blk hsl hb2))
    have HUL0 : Hid (D.length ≤ 3000) := by unfold Hid; rw [← HUL.out]; exact u3
    obtain ⟨D, hD⟩ : ∃ D', D' = txt ++ D := ⟨_, rfl⟩
    rw [← hD] at hsl
    obtain ⟨A2, c2, rfl, hl2, hc2, hrd2, -⟩ := hsl
    obtain ⟨N2, hN2⟩ : ∃ N2, N2 = D.length := ⟨_, rfl⟩
    rw [← hN2] at hl2 ⊢
    have hpre : txt <+: D := ⟨_, hD.symm⟩
    have HN := Lib.hid hN2
    have HNC := Lib.hid hl2
    have HDL : Hid (D.length ≤ 3021) := by unfold Hid; rw [hD, List.length_append]; have := HUL0.out; show 21 + _ ≤ _; omega
    have HRD := Lib.hid hrd2
    have hb02 := HAX.out.trans (hb2.mono HAX.out.size)
    have HB2 := Lib.hid (HBW.out.trans (hb02.mono HBW.out.size))
    have HBS := Lib.hid (HB1.out.below hb02)
    clear hD hl2 hc2 hrd2 hN2 hb2 hb02 HA1 HA2 HB1 HCW HAX HBW kc k0 k1
    refine (load_n 65536 A2 N2 c2 D w2 HN.out (by omega) (by have := HDL.out; omega) HRD.out).mono ?_
    rintro e w3 ⟨g, nb, ob, rfl, hd, hg, hnb, hob, hb⟩
    have D1 := Lib.hid hd
    have B1 := Lib.hid hb
    have G1 := Lib.hid (And.intro hg (And.intro hnb hob))
    clear hd hg hnb hob hb
    go_wp2_with fail
    refine (open_plain D1.out none 0).mono ?_
    rintro e w4 ⟨gf, rfl, hf, hgf, hb⟩
    have hb4 := B1.out.trans (hb.mono B1.out.size)
    have hs2 := HB2.out.size
    have hff : Ff w.heap.size w w4 gf g none [] (mkD 65536 D) := ⟨nb, ob, fv_plain hf (Nat.le_refl _), Nat.le_trans hs2 G1.out.1, fun k e => Nat.le_trans hs2 (G1.out.2.1 k e), fun k e => Nat.le_trans hs2 (G1.out.2.2 k e), HB2.out.trans (hb4.mono hs2)⟩
    have HF := Lib.hid hff
    have HBS44 : Hid (w.heap.size ≤ w4.heap.size) := hff.at
    have HG4 : Hid (g < w4.heap.size) := by obtain ⟨_, _, z, _⟩ := hff; exact z.lt
    have HRD4 := Lib.hid (HRD.out.below hb4)
    have HBS4 := Lib.hid (HBS.out.below hb4)
    have H24 := Lib.hid hb4.size
    clear hf hgf hb hb4 hs2 hff D1 B1 G1
    go_wp2_with fail
    obtain ⟨L, r, htold⟩ := told_exists hpre
    have HT := Lib.hid htold
    clear hpre htold
    refine (jopen_calm (m := 65536) HF.out (mk_calm 65536 D) HT.out rfl (fun _ => ⟨rfl, rfl⟩)).mono ?_
    rintro e w5 ⟨gj, v5, rfl, had, hlo, hgj, -, hgr, hsep⟩
    obtain ⟨A5, c5, rfl, hl1, hl2, hrds⟩ := hlo.rds
    have HSEP := Lib.hid hsep
    have HCA5 : Hid (∃ p, Ff w.heap.size w w5 gf g none [] p ∧ Rest p 65536 L ∧ Calm p) := by obtain ⟨p, z1, z2, z3, z4⟩ := had; exact ⟨p, z1, z3, z4⟩
    clear hsep
    have hadd := had
    obtain ⟨p5, hf5, hj5, hr5, hc5⟩ := had
    have hn5 : p5.now = bas L := by rw [hr5.now, List.append_nil]
    obtain ⟨n1, hn1⟩ : ∃ n1, n1 = (bas L).length := ⟨_, rfl⟩
    have hle : n1 ≤ D.length := by rw [hn1, HT.out.bas', List.length_append]; exact Nat.le_add_right _ _
    have hLb : 21 + 55 * L.length ≤ n1 := by rw [hn1, bas_length]; exact ofs_big HT.out.good (Nat.le_refl _)
    obtain ⟨n5, hn5'⟩ : ∃ n5, n5 = L.length := ⟨_, rfl⟩
    have hj5' : Jo w5 gj gf n5 n1 false := by rw [hn5', hn1]; exact hj5
    have q1 : decide (((N2 : Nat) : Int) < (n1 : Int)) = false := decide_eq_false (by have := HN.out; omega)
    have q2 : ((n1 : Int)) ≤ (c2 : Int) := by have := HN.out; have := HNC.out; omega
    have q3 : n1 ≤ c2 := by omega
    have q4 : n1 ≤ N2 := by have := HN.out; omega
    have HNLE := Lib.hid hle
    have hss : fromK none + p5.now.length = n1 := by rw [hn5, hn1]; exact Nat.zero_add _
    have HF5 := Lib.hid hf5
    have HJ5 := Lib.hid hj5'
    have HAD5 := Lib.hid hadd
    have HLO5 := Lib.hid hlo
    have HN5 := Lib.hid hn5
    have HSS := Lib.hid hss
    have HNL := Lib.hid hn5'
    have HN1 := Lib.hid hn1
    have HLB := Lib.hid hLb
    have HGJ := Lib.hid (Nat.le_trans (HF.out.at) hgj)
    have HG45 := Lib.hid hgr.size
    have HRD5 := Lib.hid (HF.out.rd HRD4.out hgr)
    have HBS5 := Lib.hid (HF.out.rd HBS4.out hgr)
    rw [← hn5']
    have HGF : Hid (gf < w4.heap.size) := by obtain ⟨_, _, z, _⟩ := HF.out; exact z.gfLt
    clear hlo hgj hgr hl1 hl2 hrds hadd hf5 hj5 hj5' hr5 hc5 hn5 hn1 hle hLb hn5' hss HF HRD4
    go_wp2_with fail
    refine (vdsize_any HF5.out).mono ?_
    rw [HSS.out]
    rintro e w' ⟨rfl, rfl⟩
    go_wp2_with fail
    have HD5 : Hid (Below w5.heap.size w5 w5.drew) := below_drewN' (Below.refl w5.heap.size w5) 1
    have HTK : Hid (D.take n1 = bas L) := by
      unfold Hid
      rw [HT.out.bas', HN1.out]
      exact List.take_left' rfl
    refine wp_region_held_drew (S := fun _ => True) (by kernel_rfl) trivial (fun hHeld => ?_)
    refine takeL (i := 0) (v := ?_) rfl (by kernel_rfl) (by kernel_rfl) (by kernel_rfl) (fun _ _ _ h => h) (Or.inl ⟨by rfl, ?_⟩) (by assumption) ?_
    rotate_left 1
    · (intro w hSw; (try dsimp only at hSw); go_simp; try with_reducible rfl)
    try simp only [Act.put, List.setIfInBounds_toArray, List.set_cons_zero, List.set_cons_succ]
    refine takeL (i := 1) (v := ?_) rfl (by kernel_rfl) (by kernel_rfl) (by kernel_rfl) (fun _ _ _ h => h) (Or.inl ⟨by rfl, ?_⟩) (by assumption) ?_
    rotate_left 1
    · (intro w hSw; (try dsimp only at hSw); go_simp; try with_reducible rfl)
    try simp only [Act.put, List.setIfInBounds_toArray, List.set_cons_zero, List.set_cons_succ]
    refine takeL (i := 2) (v := ?_) rfl (by kernel_rfl) (by kernel_rfl) (by kernel_rfl) (fun _ _ _ h => h) (Or.inl ⟨by rfl, ?_⟩) (by assumption) ?_
    rotate_left 1
    · (intro w hSw; (try dsimp only at hSw); go_simp; try with_reducible rfl)
    try simp only [Act.put, List.setIfInBounds_toArray, List.set_cons_zero, List.set_cons_succ]
    refine takeL (i := 3) (v := .bool false) rfl (by kernel_rfl) (by kernel_rfl) (by kernel_rfl) (fun _ _ _ h => h) (Or.inl ⟨by rfl, ?_⟩) (by assumption) ?_
    · (intro w hSw; (try dsimp only at hSw); go_simp; (try first | with_reducible rfl | assumption | (simp only [bne_self_eq_false]; done) | omega | (simp; done)))
    try simp only [Act.put, List.setIfInBounds_toArray, List.set_cons_zero, List.set_cons_succ]
    refine takeL (i := 4) (v := ?_) rfl (by kernel_rfl) (by kernel_rfl) (by kernel_rfl) (fun _ _ _ h => h) (Or.inl ⟨by rfl, ?_⟩) (by assumption) ?_
    rotate_left 1
    · (intro w hSw; (try dsimp only at hSw); go_simp; try with_reducible rfl)
    try simp only [Act.put, List.setIfInBounds_toArray, List.set_cons_zero, List.set_cons_succ]
    refine takeL (i := 5) (v := ?_) rfl (by kernel_rfl) (by kernel_rfl) (by kernel_rfl) (fun _ _ _ h => h) (Or.inl ⟨by rfl, ?_⟩) (by assumption) ?_
    rotate_left 1
    · (intro w hSw; (try dsimp only at hSw); go_simp; try with_reducible rfl)
    try simp only [Act.put, List.setIfInBounds_toArray, List.set_cons_zero, List.set_cons_succ]
    refine takeL (i := 6) (v := ?_) rfl (by kernel_rfl) (by kernel_rfl) (by kernel_rfl) (fun _ _ _ h => h) (Or.inl ⟨by rfl, ?_⟩) (by assumption) ?_
    rotate_left 1
    · (intro w hSw; (try dsimp only at hSw); go_simp; try with_reducible rfl)
    try simp only [Act.put, List.setIfInBounds_toArray, List.set_cons_zero, List.set_cons_succ]
    refine oneL (i := 7) rfl (by kernel_rfl) (fun K hK => ?_)
    go_simp
    refine (jsize_any (HJ5.out.below HD5.out)).mono ?_
    rintro e w' ⟨rfl, rfl⟩
    (try go_wp2_with fail)
    refine hK.out _ _ ?_ (fun hHeld => ?_)
    · trivial
    clear hK K
    try simp only [Act.put, List.setIfInBounds_toArray, List.set_cons_zero, List.set_cons_succ]
    refine takeL (i := 8) (v := .bool false) rfl (by kernel_rfl) (by kernel_rfl) (by kernel_rfl) (fun _ _ _ h => h) (Or.inl ⟨by rfl, ?_⟩) (by assumption) ?_
    · (intro w hSw; (try dsimp only at hSw); go_simp; (try first | with_reducible rfl | assumption | (simp only [bne_self_eq_false]; done) | omega | (simp; done)))
    try simp only [Act.put, List.setIfInBounds_toArray, List.set_cons_zero, List.set_cons_succ]
    refine takeL (i := 9) (v := .bool false) rfl (by kernel_rfl) (by kernel_rfl) (by kernel_rfl) (fun _ _ _ h => h) (Or.inl ⟨by rfl, ?_⟩) (by assumption) ?_
    · (intro w hSw; (try dsimp only at hSw); go_simp; (try first | with_reducible rfl | assumption | (simp only [bne_self_eq_false]; done) | omega | (simp; done)))
    try simp only [Act.put, List.setIfInBounds_toArray, List.set_cons_zero, List.set_cons_succ]
    refine takeL (i := 10) (v := ?_) rfl (by kernel_rfl) (by kernel_rfl) (by kernel_rfl) (fun _ _ _ h => h) (Or.inl ⟨by rfl, ?_⟩) (by assumption) ?_
    rotate_left 1
    · (intro w hSw; (try dsimp only at hSw); go_simp; try with_reducible rfl)
    try simp only [Act.put, List.setIfInBounds_toArray, List.set_cons_zero, List.set_cons_succ]
    refine takeL (i := 11) (v := ?_) rfl (by kernel_rfl) (by kernel_rfl) (by kernel_rfl) (fun _ _ _ h => h) (Or.inl ⟨by rfl, ?_⟩) (by assumption) ?_
    rotate_left 1
    · (intro w hSw; (try dsimp only at hSw); go_simp; try with_reducible rfl)
    try simp only [Act.put, List.setIfInBounds_toArray, List.set_cons_zero, List.set_cons_succ]
    refine takeL (i := 13) (v := ?_) rfl (by kernel_rfl) (by kernel_rfl) (by kernel_rfl) (fun _ _ _ h => h) (Or.inl ⟨by rfl, ?_⟩) (by assumption) ?_
    rotate_left 1
    · (intro w hSw; (try dsimp only at hSw); go_simp; try with_reducible rfl)
    try simp only [Act.put, List.setIfInBounds_toArray, List.set_cons_zero, List.set_cons_succ]
    refine takeL (i := 14) (v := ?_) rfl (by kernel_rfl) (by kernel_rfl) (by kernel_rfl) (fun _ _ _ h => h) (Or.inl ⟨by rfl, ?_⟩) (by assumption) ?_
    rotate_left 1
    · (intro w hSw; (try dsimp only at hSw); go_simp; try with_reducible rfl)
    try simp only [Act.put, List.setIfInBounds_toArray, List.set_cons_zero, List.set_cons_succ]
    refine takeL (i := 15) (v := ?_) rfl (by kernel_rfl) (by kernel_rfl) (by kernel_rfl) (fun _ _ _ h => h) (Or.inl ⟨by rfl, ?_⟩) (by assumption) ?_
    rotate_left 1
    · (intro w hSw; (try dsimp only at hSw); go_simp; try with_reducible rfl)
    try simp only [Act.put, List.setIfInBounds_toArray, List.set_cons_zero, List.set_cons_succ]
    refine oneL (i := 12) rfl (by kernel_rfl) (fun K hK => ?_)
    go_simp
    refine (vimage_any (HF5.out.below HD5.out)).mono ?_
    rintro e w6 ⟨A6, c6, rfl, hr6, hb6⟩
    have HR6 := Lib.hid hr6
    have HB6 := Lib.hid (HD5.out.trans (hb6.mono HD5.out.size))
    clear hr6 hb6
    (try go_wp2_with fail)
    refine hK.out _ _ ?_ (fun hHeld => ?_)
    · trivial
    clear hK K
    try simp only [Act.put, List.setIfInBounds_toArray, List.set_cons_zero, List.set_cons_succ]
    refine oneL (i := 16) rfl (by kernel_rfl) (fun K hK => ?_)
    go_simp
    refine (same_yes A6 A2 _ n1 c6 c2 (bas L) w6 (by rw [HN5.out]) HN1.out (HN5.out ▸ HR6.out) (HTK.out ▸ rd_takeL (HRD5.out.below HB6.out) n1) (by rw [← HN1.out]; have := HNLE.out; have := HDL.out; omega)).mono ?_
    rintro e w7 ⟨rfl, hb7⟩
    have HB7 := Lib.hid (HB6.out.trans (hb7.mono HB6.out.size))
    clear hb7
    (try go_wp2_with fail)
    refine hK.out _ _ ?_ (fun hHeld => ?_)
    · trivial
    clear hK K
    try simp only [Act.put, List.setIfInBounds_toArray, List.set_cons_zero, List.set_cons_succ]
    refine takeL (i := 17) (v := .bool false) rfl (by kernel_rfl) (by kernel_rfl) (by kernel_rfl) (fun _ _ _ h => h) (Or.inl ⟨by rfl, ?_⟩) (by assumption) ?_
    · (intro w hSw; (try dsimp only at hSw); go_simp; (try first | with_reducible rfl | assumption | (simp only [bne_self_eq_false]; done) | omega | (simp; done)))
    try simp only [Act.put, List.setIfInBounds_toArray, List.set_cons_zero, List.set_cons_succ]
    refine takeL (i := 18) (v := .bool false) rfl (by kernel_rfl) (by kernel_rfl) (by kernel_rfl) (fun _ _ _ h => h) (Or.inl ⟨by rfl, ?_⟩) (by assumption) ?_
    · (intro w hSw; (try dsimp only at hSw); go_simp; (try first | with_reducible rfl | assumption | (simp only [bne_self_eq_false]; done) | omega | (simp; done)))
    try simp only [Act.put, List.setIfInBounds_toArray, List.set_cons_zero, List.set_cons_succ]
    refine takeL (i := 19) (v := ?_) rfl (by kernel_rfl) (by kernel_rfl) (by kernel_rfl) (fun _ _ _ h => h) (Or.inl ⟨by rfl, ?_⟩) (by assumption) ?_
    rotate_left 1
    · (intro w hSw; (try dsimp only at hSw); go_simp; try with_reducible rfl)
    try simp only [Act.put, List.setIfInBounds_toArray, List.set_cons_zero, List.set_cons_succ]
    refine takeL (i := 20) (v := ?_) rfl (by kernel_rfl) (by kernel_rfl) (by kernel_rfl) (fun _ _ _ h => h) (Or.inl ⟨by rfl, ?_⟩) (by assumption) ?_
    rotate_left 1
    · (intro w hSw; (try dsimp only at hSw); go_simp; try with_reducible rfl)
    try simp only [Act.put, List.setIfInBounds_toArray, List.set_cons_zero, List.set_cons_succ]
    refine takeL (i := 21) (v := ?_) rfl (by kernel_rfl) (by kernel_rfl) (by kernel_rfl) (fun _ _ _ h => h) (Or.inl ⟨by rfl, ?_⟩) (by assumption) ?_
    rotate_left 1
    · (intro w hSw; (try dsimp only at hSw); go_simp; try with_reducible rfl)
    try simp only [Act.put, List.setIfInBounds_toArray, List.set_cons_zero, List.set_cons_succ]
    refine takeL (i := 22) (v := ?_) rfl (by kernel_rfl) (by kernel_rfl) (by kernel_rfl) (fun _ _ _ h => h) (Or.inl ⟨by rfl, ?_⟩) (by assumption) ?_
    rotate_left 1
    · (intro w hSw; (try dsimp only at hSw); go_simp; try with_reducible rfl)
    try simp only [Act.put, List.setIfInBounds_toArray, List.set_cons_zero, List.set_cons_succ]
    refine oneL (i := 23) rfl (by kernel_rfl) (fun K hK => ?_)
    go_simp
    refine (jlen_any (HJ5.out.below HB7.out)).mono ?_
    rintro e w' ⟨rfl, rfl⟩
    (try go_wp2_with fail)
    refine hK.out _ _ ?_ (fun hHeld => ?_)
    · trivial
    clear hK K
    try simp only [Act.put, List.setIfInBounds_toArray, List.set_cons_zero, List.set_cons_succ]
    refine takeL (i := 24) (v := .bool false) rfl (by kernel_rfl) (by kernel_rfl) (by kernel_rfl) (fun _ _ _ h => h) (Or.inl ⟨by rfl, ?_⟩) (by assumption) ?_
    · (intro w hSw; (try dsimp only at hSw); go_simp; (try first | with_reducible rfl | assumption | (simp only [bne_self_eq_false]; done) | omega | (simp; done)))
    try simp only [Act.put, List.setIfInBounds_toArray, List.set_cons_zero, List.set_cons_succ]
    refine takeL (i := 25) (v := .bool false) rfl (by kernel_rfl) (by kernel_rfl) (by kernel_rfl) (fun _ _ _ h => h) (Or.inl ⟨by rfl, ?_⟩) (by assumption) ?_
    · (intro w hSw; (try dsimp only at hSw); go_simp; (try first | with_reducible rfl | assumption | (simp only [bne_self_eq_false]; done) | omega | (simp; done)))
    try simp only [Act.put, List.setIfInBounds_toArray, List.set_cons_zero, List.set_cons_succ]
    refine wpAnyH_done (by kernel_rfl) ?_ _
    have HFD : Hid (g < w4.heap.size) := HG4.out
    have HB44 : Hid (w.heap.size ≤ w4.heap.size) := HBS44.out
    by_cases hv0 : v = 0
    · subst hv0
      obtain ⟨px, hfx, hrx, hcx⟩ := HCA5.out
      have hfx7 := hfx.below HB7.out
      have hlx := HLO5.out.below HB7.out
      have HFX := Lib.hid hfx7
      have HRX := Lib.hid hrx
      have HCX := Lib.hid hcx
      have HLX := Lib.hid hlx
      have hgood := HT.out.good
      have HGOOD := Lib.hid hgood
      have HNX := Lib.hid HNL.out
      clear hfx hrx hcx hfx7 hlx hgood HD5
      go_wp2_with fail
      have hnx : px.now = bas (L) := by rw [HRX.out.now, List.append_nil]
      refine (jopen_calm (r := []) HFX.out HCX.out (by rw [hnx]; exact told_bas HGOOD.out) HRX.out.most (fun _ => ⟨by rw [hnx, HRX.out.old, List.append_nil], by rw [hnx, HRX.out.floor]; rfl⟩)).mono ?_
      rintro e w10 ⟨gj10, v10, rfl, -, hlo10, -, hf10, hgr10, -⟩
      obtain ⟨A10, c10, rfl, hz1, hz2, hrds10⟩ := hlo10.rds
      obtain ⟨nbx, obx, fvx, -⟩ := HFX.out
      obtain ⟨hy1, hy2, hy3⟩ := lo_rds (HLX.out.grown fvx hgr10 HFD.out)
      obtain ⟨n10, hn10⟩ : ∃ n10, n10 = (L).length := ⟨_, rfl⟩
      have HS10 := Lib.hid (samel_any A5 A10 n5 n10 c5 c10 (L) (L) w10 HNX.out hn10 hy2 hrds10 (by omega) (by omega))
      rw [← hn10]
      have HF10 := Lib.hid hf10
      clear hnx hlo10 hf10 hgr10 hz1 hz2 hrds10 fvx hy1 hy2 hy3 hn10
      go_wp2_with fail
      refine HS10.out.mono ?_
      rw [(sameLL_iff (L) (L)).2 rfl]
      rintro e w' ⟨rfl, n11, rfl⟩
      go_wp2_with fail
      refine (jawake_any _).mono ?_
      rintro e w12 ⟨rfl, hb12⟩
      have HB12 := Lib.hid hb12
      clear hb12
      go_wp2_with fail
      go_ret
      obtain ⟨_, _, _, _, _, _, hbf⟩ := HF10.out
      exact ⟨rfl, (below_drewN' hbf n11).trans (HB12.out.mono hbf.size)⟩
    · have hv1 : (0 : Int) < (v : Int) := by omega
      have had7 := HAD5.out.below HB7.out
      have hbs7 := HBS5.out.below HB7.out
      have hgb : GoodB body := ⟨by have := HVL.out; omega, by have := HVL.out; omega⟩
      have HAD7 := Lib.hid had7
      have HBS7 := Lib.hid hbs7
      have HGB := Lib.hid hgb
      clear had7 hbs7 hgb
      go_wp2_with fail
      refine (jadd_calm HAD7.out HGJ.out (by have := HLB.out; have := HNLE.out; have := HDL.out; omega) B v d body HVL.out HGB.out HBS7.out (by rw [← HN1.out]; have := HVL.out; have := HNLE.out; have := HDL.out; omega)).mono ?_
      rintro e w8 ⟨rfl, had8, ht8, hs8⟩
      obtain ⟨nb7, ob7, fv7, -⟩ := (HF5.out.below HB7.out).call
      have hj7 := HJ5.out.below HB7.out
      have hlo7 := HLO5.out.below HB7.out
      have hnj := hlo7.notJ hj7
      have hlo8 := hlo7.two fv7 hj7 ht8 HFD.out hnj
      have hbs8 := rd_two fv7 hj7 ht8 HBS7.out
      have hB4 : ∀ a, B = some a → a.block < w4.heap.size := fun a ha => by
        obtain ⟨b0, o0, e0, hl0, -⟩ := HBS4.out.2 (by have := HGB.out.1; intro e; rw [e] at this; simp at this)
        rw [e0] at ha
        rw [← Option.some.inj ha]
        exact hl0
      have h48 : w4.heap.size ≤ w8.heap.size := Nat.le_trans (Nat.le_of_lt (Nat.lt_of_lt_of_le hj7.lt ht8.size) |> fun _ => Nat.le_trans HG45.out (Nat.le_trans HB7.out.size ht8.size)) (Nat.le_refl _)
      have hbod : Bod w8 (Value.slice A5 n5 c5).ownBlock (.slice B v d) body := ⟨B, d, by rw [HVL.out], by rw [← HVL.out]; exact m4, HDM.out, hbs8, fun a ha => ⟨Nat.lt_of_lt_of_le (hB4 a ha) h48, fun e => by have h1 := (hlo7.lt _ (by rw [← HNL.out]; exact e)).1; have h2 := hB4 a ha; omega⟩⟩
      have hown : ∀ k, (Value.slice A5 n5 c5).ownBlock = some k → w4.heap.size ≤ k ∧ Sepf w8 gf g k := fun k e => by
        have e' : (Value.slice A5 L.length c5).ownBlock = some k := by rw [← HNL.out]; exact e
        have h1 := HLO5.out.lt k e'
        exact ⟨h1.1, hs8 k (Nat.lt_of_lt_of_le h1.2 HB7.out.size) (by obtain ⟨_, _, z, _⟩ := HF5.out.call; exact (HSEP.out k e').below z HB7.out) ⟩
      have hlo8' : Lo w8 w4.heap.size (.slice A5 n5 c5) L := by rw [HNL.out]; exact hlo8
      obtain ⟨px, hfx, -, hrx, hcx⟩ := had8
      have HFX8 := Lib.hid hfx
      have HRX := Lib.hid hrx
      have HCX := Lib.hid hcx
      have HLO8 := Lib.hid hlo8'
      have HBOD := Lib.hid hbod
      have HOWN := Lib.hid hown
      have H48 := Lib.hid h48
      clear fv7 hj7 hlo7 hnj hlo8 hbs8 hB4 h48 hbod hown hlo8' hfx hrx hcx ht8 hs8
      have hL5 : L.length < 1000000 := by have := HLB.out; have := HNLE.out; have := HDL.out; omega
      go_wp2_with (at_builtin; refine append_body (.tmp 105) (.tmp 107) rfl rfl _ _ body rfl rfl HLO8.out HBOD.out hL5 H48.out ?_; intro v9 w9 ho9 hg9 ha9; obtain ⟨A9, c9, rfl, -⟩ := ho9.rds; obtain ⟨n9, hn9⟩ : ∃ n9, n9 = (L ++ [body]).length := ⟨_, rfl⟩; rw [← hn9] at ho9 ⊢; have HNX := Lib.hid hn9; have HLX := Lib.hid ho9; have HFX := Lib.hid (HFX8.out.off hg9 HOWN.out HGF.out HFD.out HB44.out); clear hn9 ho9 hg9 ha9)
      have hgood : ∀ x ∈ L ++ [body], GoodB x := fun x hx => by
        rcases List.mem_append.1 hx with hx | hx
        · exact HT.out.good x hx
        · rw [List.mem_singleton.1 hx]; exact HGB.out
      have HGOOD := Lib.hid hgood
      clear hgood
      have hnx : px.now = bas (L ++ [body]) := by rw [HRX.out.now, List.append_nil]
      refine (jopen_calm (r := []) HFX.out HCX.out (by rw [hnx]; exact told_bas HGOOD.out) HRX.out.most (fun _ => ⟨by rw [hnx, HRX.out.old, List.append_nil], by rw [hnx, HRX.out.floor]; rfl⟩)).mono ?_
      rintro e w10 ⟨gj10, v10, rfl, -, hlo10, -, hf10, hgr10, -⟩
      obtain ⟨A10, c10, rfl, hz1, hz2, hrds10⟩ := hlo10.rds
      obtain ⟨nbx, obx, fvx, -⟩ := HFX.out
      obtain ⟨hy1, hy2, hy3⟩ := lo_rds (HLX.out.grown fvx hgr10 HFD.out)
      obtain ⟨n10, hn10⟩ : ∃ n10, n10 = (L ++ [body]).length := ⟨_, rfl⟩
      have HS10 := Lib.hid (samel_any A9 A10 n9 n10 c9 c10 (L ++ [body]) (L ++ [body]) w10 HNX.out hn10 hy2 hrds10 (by omega) (by omega))
      rw [← hn10]
      have HF10 := Lib.hid hf10
      clear hnx hlo10 hf10 hgr10 hz1 hz2 hrds10 fvx hy1 hy2 hy3 hn10
      go_wp2_with fail
      refine HS10.out.mono ?_
      rw [(sameLL_iff (L ++ [body]) (L ++ [body])).2 rfl]
      rintro e w' ⟨rfl, n11, rfl⟩
      go_wp2_with fail
      refine (jawake_any _).mono ?_
      rintro e w12 ⟨rfl, hb12⟩
      have HB12 := Lib.hid hb12
      clear hb12
      go_wp2_with fail
      go_ret
      obtain ⟨_, _, _, _, _, _, hbf⟩ := HF10.out
      exact ⟨rfl, (below_drewN' hbf n11).trans (HB12.out.mono hbf.size)⟩
  | false =>
    go_enter Tryz.func3, Tryz.ntmps3
    go_wp2_with fail
    go_quiet (fail)
    have HN := HUL
    have HNC : Hid (N2 ≤ c2) := m2
    have HDL : Hid (D.length ≤ 3021) := by unfold Hid; rw [← HUL.out]; omega
    have hbw := below_drewN' (Below.refl w.heap.size w) nq
    have HRD := Lib.hid (HA.out.below hbw)
    have HBS := Lib.hid (HB.out.below hbw)
    have HB2 := Lib.hid hbw
    clear HA HB hbw kc k0 k1
    generalize w.drewN nq = w2 at *
    by_cases hpre : txt <+: D
    · go_wp2_with fail
      refine (load_n 65536 A2 N2 c2 D w2 HN.out (by omega) (by have := HDL.out; omega) HRD.out).mono ?_
      rintro e w3 ⟨g, nb, ob, rfl, hd, hg, hnb, hob, hb⟩
      have D1 := Lib.hid hd
      have B1 := Lib.hid hb
      have G1 := Lib.hid (And.intro hg (And.intro hnb hob))
      clear hd hg hnb hob hb
      go_wp2_with fail
      refine (open_plain D1.out none 0).mono ?_
      rintro e w4 ⟨gf, rfl, hf, hgf, hb⟩
      have hb4 := B1.out.trans (hb.mono B1.out.size)
      have hs2 := HB2.out.size
      have hff : Ff w.heap.size w w4 gf g none [] (mkD 65536 D) := ⟨nb, ob, fv_plain hf (Nat.le_refl _), Nat.le_trans hs2 G1.out.1, fun k e => Nat.le_trans hs2 (G1.out.2.1 k e), fun k e => Nat.le_trans hs2 (G1.out.2.2 k e), HB2.out.trans (hb4.mono hs2)⟩
      have HF := Lib.hid hff
      have HBS44 : Hid (w.heap.size ≤ w4.heap.size) := hff.at
      have HG4 : Hid (g < w4.heap.size) := by obtain ⟨_, _, z, _⟩ := hff; exact z.lt
      have HRD4 := Lib.hid (HRD.out.below hb4)
      have HBS4 := Lib.hid (HBS.out.below hb4)
      have H24 := Lib.hid hb4.size
      clear hf hgf hb hb4 hs2 hff D1 B1 G1
      go_wp2_with fail
      obtain ⟨L, r, htold⟩ := told_exists hpre
      have HT := Lib.hid htold
      clear hpre htold
      refine (jopen_calm (m := 65536) HF.out (mk_calm 65536 D) HT.out rfl (fun _ => ⟨rfl, rfl⟩)).mono ?_
      rintro e w5 ⟨gj, v5, rfl, had, hlo, hgj, -, hgr, hsep⟩
      obtain ⟨A5, c5, rfl, hl1, hl2, hrds⟩ := hlo.rds
      have HSEP := Lib.hid hsep
      have HCA5 : Hid (∃ p, Ff w.heap.size w w5 gf g none [] p ∧ Rest p 65536 L ∧ Calm p) := by obtain ⟨p, z1, z2, z3, z4⟩ := had; exact ⟨p, z1, z3, z4⟩
      clear hsep
      have hadd := had
      obtain ⟨p5, hf5, hj5, hr5, hc5⟩ := had
      have hn5 : p5.now = bas L := by rw [hr5.now, List.append_nil]
      obtain ⟨n1, hn1⟩ : ∃ n1, n1 = (bas L).length := ⟨_, rfl⟩
      have hle : n1 ≤ D.length := by rw [hn1, HT.out.bas', List.length_append]; exact Nat.le_add_right _ _
      have hLb : 21 + 55 * L.length ≤ n1 := by rw [hn1, bas_length]; exact ofs_big HT.out.good (Nat.le_refl _)
      obtain ⟨n5, hn5'⟩ : ∃ n5, n5 = L.length := ⟨_, rfl⟩
      have hj5' : Jo w5 gj gf n5 n1 false := by rw [hn5', hn1]; exact hj5
      have q1 : decide (((N2 : Nat) : Int) < (n1 : Int)) = false := decide_eq_false (by have := HN.out; omega)
      have q2 : ((n1 : Int)) ≤ (c2 : Int) := by have := HN.out; have := HNC.out; omega
      have q3 : n1 ≤ c2 := by omega
      have q4 : n1 ≤ N2 := by have := HN.out; omega
      have HNLE := Lib.hid hle
      have hss : fromK none + p5.now.length = n1 := by rw [hn5, hn1]; exact Nat.zero_add _
      have HF5 := Lib.hid hf5
      have HJ5 := Lib.hid hj5'
      have HAD5 := Lib.hid hadd
      have HLO5 := Lib.hid hlo
      have HN5 := Lib.hid hn5
      have HSS := Lib.hid hss
      have HNL := Lib.hid hn5'
      have HN1 := Lib.hid hn1
      have HLB := Lib.hid hLb
      have HGJ := Lib.hid (Nat.le_trans (HF.out.at) hgj)
      have HG45 := Lib.hid hgr.size
      have HRD5 := Lib.hid (HF.out.rd HRD4.out hgr)
      have HBS5 := Lib.hid (HF.out.rd HBS4.out hgr)
      rw [← hn5']
      have HGF : Hid (gf < w4.heap.size) := by obtain ⟨_, _, z, _⟩ := HF.out; exact z.gfLt
      clear hlo hgj hgr hl1 hl2 hrds hadd hf5 hj5 hj5' hr5 hc5 hn5 hn1 hle hLb hn5' hss HF HRD4
      go_wp2_with fail
      refine (vdsize_any HF5.out).mono ?_
      rw [HSS.out]
      rintro e w' ⟨rfl, rfl⟩
      go_wp2_with fail
      have HD5 : Hid (Below w5.heap.size w5 w5.drew) := below_drewN' (Below.refl w5.heap.size w5) 1
      have HTK : Hid (D.take n1 = bas L) := by
        unfold Hid
        rw [HT.out.bas', HN1.out]
        exact List.take_left' rfl
      refine wp_region_held_drew (S := fun _ => True) (by kernel_rfl) trivial (fun hHeld => ?_)
      refine takeL (i := 0) (v := ?_) rfl (by kernel_rfl) (by kernel_rfl) (by kernel_rfl) (fun _ _ _ h => h) (Or.inl ⟨by rfl, ?_⟩) (by assumption) ?_
      rotate_left 1
      · (intro w hSw; (try dsimp only at hSw); go_simp; try with_reducible rfl)
      try simp only [Act.put, List.setIfInBounds_toArray, List.set_cons_zero, List.set_cons_succ]
      refine takeL (i := 1) (v := ?_) rfl (by kernel_rfl) (by kernel_rfl) (by kernel_rfl) (fun _ _ _ h => h) (Or.inl ⟨by rfl, ?_⟩) (by assumption) ?_
      rotate_left 1
      · (intro w hSw; (try dsimp only at hSw); go_simp; try with_reducible rfl)
      try simp only [Act.put, List.setIfInBounds_toArray, List.set_cons_zero, List.set_cons_succ]
      refine takeL (i := 2) (v := ?_) rfl (by kernel_rfl) (by kernel_rfl) (by kernel_rfl) (fun _ _ _ h => h) (Or.inl ⟨by rfl, ?_⟩) (by assumption) ?_
      rotate_left 1
      · (intro w hSw; (try dsimp only at hSw); go_simp; try with_reducible rfl)
      try simp only [Act.put, List.setIfInBounds_toArray, List.set_cons_zero, List.set_cons_succ]
      refine takeL (i := 3) (v := .bool false) rfl (by kernel_rfl) (by kernel_rfl) (by kernel_rfl) (fun _ _ _ h => h) (Or.inl ⟨by rfl, ?_⟩) (by assumption) ?_
      · (intro w hSw; (try dsimp only at hSw); go_simp; (try first | with_reducible rfl | assumption | (simp only [bne_self_eq_false]; done) | omega | (simp; done)))
      try simp only [Act.put, List.setIfInBounds_toArray, List.set_cons_zero, List.set_cons_succ]
      refine takeL (i := 4) (v := ?_) rfl (by kernel_rfl) (by kernel_rfl) (by kernel_rfl) (fun _ _ _ h => h) (Or.inl ⟨by rfl, ?_⟩) (by assumption) ?_
      rotate_left 1
      · (intro w hSw; (try dsimp only at hSw); go_simp; try with_reducible rfl)
      try simp only [Act.put, List.setIfInBounds_toArray, List.set_cons_zero, List.set_cons_succ]
      refine takeL (i := 5) (v := ?_) rfl (by kernel_rfl) (by kernel_rfl) (by kernel_rfl) (fun _ _ _ h => h) (Or.inl ⟨by rfl, ?_⟩) (by assumption) ?_
      rotate_left 1
      · (intro w hSw; (try dsimp only at hSw); go_simp; try with_reducible rfl)
      try simp only [Act.put, List.setIfInBounds_toArray, List.set_cons_zero, List.set_cons_succ]
      refine takeL (i := 6) (v := ?_) rfl (by kernel_rfl) (by kernel_rfl) (by kernel_rfl) (fun _ _ _ h => h) (Or.inl ⟨by rfl, ?_⟩) (by assumption) ?_
      rotate_left 1
      · (intro w hSw; (try dsimp only at hSw); go_simp; try with_reducible rfl)
      try simp only [Act.put, List.setIfInBounds_toArray, List.set_cons_zero, List.set_cons_succ]
      refine oneL (i := 7) rfl (by kernel_rfl) (fun K hK => ?_)
      go_simp
      refine (jsize_any (HJ5.out.below HD5.out)).mono ?_
      rintro e w' ⟨rfl, rfl⟩
      (try go_wp2_with fail)
      refine hK.out _ _ ?_ (fun hHeld => ?_)
      · trivial
      clear hK K
      try simp only [Act.put, List.setIfInBounds_toArray, List.set_cons_zero, List.set_cons_succ]
      refine takeL (i := 8) (v := .bool false) rfl (by kernel_rfl) (by kernel_rfl) (by kernel_rfl) (fun _ _ _ h => h) (Or.inl ⟨by rfl, ?_⟩) (by assumption) ?_
      · (intro w hSw; (try dsimp only at hSw); go_simp; (try first | with_reducible rfl | assumption | (simp only [bne_self_eq_false]; done) | omega | (simp; done)))
      try simp only [Act.put, List.setIfInBounds_toArray, List.set_cons_zero, List.set_cons_succ]
      refine takeL (i := 9) (v := .bool false) rfl (by kernel_rfl) (by kernel_rfl) (by kernel_rfl) (fun _ _ _ h => h) (Or.inl ⟨by rfl, ?_⟩) (by assumption) ?_
      · (intro w hSw; (try dsimp only at hSw); go_simp; (try first | with_reducible rfl | assumption | (simp only [bne_self_eq_false]; done) | omega | (simp; done)))
      try simp only [Act.put, List.setIfInBounds_toArray, List.set_cons_zero, List.set_cons_succ]
      refine takeL (i := 10) (v := ?_) rfl (by kernel_rfl) (by kernel_rfl) (by kernel_rfl) (fun _ _ _ h => h) (Or.inl ⟨by rfl, ?_⟩) (by assumption) ?_
      rotate_left 1
      · (intro w hSw; (try dsimp only at hSw); go_simp; try with_reducible rfl)
      try simp only [Act.put, List.setIfInBounds_toArray, List.set_cons_zero, List.set_cons_succ]
      refine takeL (i := 11) (v := ?_) rfl (by kernel_rfl) (by kernel_rfl) (by kernel_rfl) (fun _ _ _ h => h) (Or.inl ⟨by rfl, ?_⟩) (by assumption) ?_
      rotate_left 1
      · (intro w hSw; (try dsimp only at hSw); go_simp; try with_reducible rfl)
      try simp only [Act.put, List.setIfInBounds_toArray, List.set_cons_zero, List.set_cons_succ]
      refine takeL (i := 13) (v := ?_) rfl (by kernel_rfl) (by kernel_rfl) (by kernel_rfl) (fun _ _ _ h => h) (Or.inl ⟨by rfl, ?_⟩) (by assumption) ?_
      rotate_left 1
      · (intro w hSw; (try dsimp only at hSw); go_simp; try with_reducible rfl)
      try simp only [Act.put, List.setIfInBounds_toArray, List.set_cons_zero, List.set_cons_succ]
      refine takeL (i := 14) (v := ?_) rfl (by kernel_rfl) (by kernel_rfl) (by kernel_rfl) (fun _ _ _ h => h) (Or.inl ⟨by rfl, ?_⟩) (by assumption) ?_
      rotate_left 1
      · (intro w hSw; (try dsimp only at hSw); go_simp; try with_reducible rfl)
      try simp only [Act.put, List.setIfInBounds_toArray, List.set_cons_zero, List.set_cons_succ]
      refine takeL (i := 15) (v := ?_) rfl (by kernel_rfl) (by kernel_rfl) (by kernel_rfl) (fun _ _ _ h => h) (Or.inl ⟨by rfl, ?_⟩) (by assumption) ?_
      rotate_left 1
      · (intro w hSw; (try dsimp only at hSw); go_simp; try with_reducible rfl)
      try simp only [Act.put, List.setIfInBounds_toArray, List.set_cons_zero, List.set_cons_succ]
      refine oneL (i := 12) rfl (by kernel_rfl) (fun K hK => ?_)
      go_simp
      refine (vimage_any (HF5.out.below HD5.out)).mono ?_
      rintro e w6 ⟨A6, c6, rfl, hr6, hb6⟩
      have HR6 := Lib.hid hr6
      have HB6 := Lib.hid (HD5.out.trans (hb6.mono HD5.out.size))
      clear hr6 hb6
      (try go_wp2_with fail)
      refine hK.out _ _ ?_ (fun hHeld => ?_)
      · trivial
      clear hK K
      try simp only [Act.put, List.setIfInBounds_toArray, List.set_cons_zero, List.set_cons_succ]
      refine oneL (i := 16) rfl (by kernel_rfl) (fun K hK => ?_)
      go_simp
      refine (same_yes A6 A2 _ n1 c6 c2 (bas L) w6 (by rw [HN5.out]) HN1.out (HN5.out ▸ HR6.out) (HTK.out ▸ rd_takeL (HRD5.out.below HB6.out) n1) (by rw [← HN1.out]; have := HNLE.out; have := HDL.out; omega)).mono ?_
      rintro e w7 ⟨rfl, hb7⟩
      have HB7 := Lib.hid (HB6.out.trans (hb7.mono HB6.out.size))
      clear hb7
      (try go_wp2_with fail)
      refine hK.out _ _ ?_ (fun hHeld => ?_)
      · trivial
      clear hK K
      try simp only [Act.put, List.setIfInBounds_toArray, List.set_cons_zero, List.set_cons_succ]
      refine takeL (i := 17) (v := .bool false) rfl (by kernel_rfl) (by kernel_rfl) (by kernel_rfl) (fun _ _ _ h => h) (Or.inl ⟨by rfl, ?_⟩) (by assumption) ?_
      · (intro w hSw; (try dsimp only at hSw); go_simp; (try first | with_reducible rfl | assumption | (simp only [bne_self_eq_false]; done) | omega | (simp; done)))
      try simp only [Act.put, List.setIfInBounds_toArray, List.set_cons_zero, List.set_cons_succ]
      refine takeL (i := 18) (v := .bool false) rfl (by kernel_rfl) (by kernel_rfl) (by kernel_rfl) (fun _ _ _ h => h) (Or.inl ⟨by rfl, ?_⟩) (by assumption) ?_
      · (intro w hSw; (try dsimp only at hSw); go_simp; (try first | with_reducible rfl | assumption | (simp only [bne_self_eq_false]; done) | omega | (simp; done)))
      try simp only [Act.put, List.setIfInBounds_toArray, List.set_cons_zero, List.set_cons_succ]
      refine takeL (i := 19) (v := ?_) rfl (by kernel_rfl) (by kernel_rfl) (by kernel_rfl) (fun _ _ _ h => h) (Or.inl ⟨by rfl, ?_⟩) (by assumption) ?_
      rotate_left 1
      · (intro w hSw; (try dsimp only at hSw); go_simp; try with_reducible rfl)
      try simp only [Act.put, List.setIfInBounds_toArray, List.set_cons_zero, List.set_cons_succ]
      refine takeL (i := 20) (v := ?_) rfl (by kernel_rfl) (by kernel_rfl) (by kernel_rfl) (fun _ _ _ h => h) (Or.inl ⟨by rfl, ?_⟩) (by assumption) ?_
      rotate_left 1
      · (intro w hSw; (try dsimp only at hSw); go_simp; try with_reducible rfl)
      try simp only [Act.put, List.setIfInBounds_toArray, List.set_cons_zero, List.set_cons_succ]
      refine takeL (i := 21) (v := ?_) rfl (by kernel_rfl) (by kernel_rfl) (by kernel_rfl) (fun _ _ _ h => h) (Or.inl ⟨by rfl, ?_⟩) (by assumption) ?_
      rotate_left 1
      · (intro w hSw; (try dsimp only at hSw); go_simp; try with_reducible rfl)
      try simp only [Act.put, List.setIfInBounds_toArray, List.set_cons_zero, List.set_cons_succ]
      refine takeL (i := 22) (v := ?_) rfl (by kernel_rfl) (by kernel_rfl) (by kernel_rfl) (fun _ _ _ h => h) (Or.inl ⟨by rfl, ?_⟩) (by assumption) ?_
      rotate_left 1
      · (intro w hSw; (try dsimp only at hSw); go_simp; try with_reducible rfl)
      try simp only [Act.put, List.setIfInBounds_toArray, List.set_cons_zero, List.set_cons_succ]
      refine oneL (i := 23) rfl (by kernel_rfl) (fun K hK => ?_)
      go_simp
      refine (jlen_any (HJ5.out.below HB7.out)).mono ?_
      rintro e w' ⟨rfl, rfl⟩
      (try go_wp2_with fail)
      refine hK.out _ _ ?_ (fun hHeld => ?_)
      · trivial
      clear hK K
      try simp only [Act.put, List.setIfInBounds_toArray, List.set_cons_zero, List.set_cons_succ]
      refine takeL (i := 24) (v := .bool false) rfl (by kernel_rfl) (by kernel_rfl) (by kernel_rfl) (fun _ _ _ h => h) (Or.inl ⟨by rfl, ?_⟩) (by assumption) ?_
      · (intro w hSw; (try dsimp only at hSw); go_simp; (try first | with_reducible rfl | assumption | (simp only [bne_self_eq_false]; done) | omega | (simp; done)))
      try simp only [Act.put, List.setIfInBounds_toArray, List.set_cons_zero, List.set_cons_succ]
      refine takeL (i := 25) (v := .bool false) rfl (by kernel_rfl) (by kernel_rfl) (by kernel_rfl) (fun _ _ _ h => h) (Or.inl ⟨by rfl, ?_⟩) (by assumption) ?_
      · (intro w hSw; (try dsimp only at hSw); go_simp; (try first | with_reducible rfl | assumption | (simp only [bne_self_eq_false]; done) | omega | (simp; done)))
      try simp only [Act.put, List.setIfInBounds_toArray, List.set_cons_zero, List.set_cons_succ]
      refine wpAnyH_done (by kernel_rfl) ?_ _
      have HFD : Hid (g < w4.heap.size) := HG4.out
      have HB44 : Hid (w.heap.size ≤ w4.heap.size) := HBS44.out
      by_cases hv0 : v = 0
      · subst hv0
        obtain ⟨px, hfx, hrx, hcx⟩ := HCA5.out
        have hfx7 := hfx.below HB7.out
        have hlx := HLO5.out.below HB7.out
        have HFX := Lib.hid hfx7
        have HRX := Lib.hid hrx
        have HCX := Lib.hid hcx
        have HLX := Lib.hid hlx
        have hgood := HT.out.good
        have HGOOD := Lib.hid hgood
        have HNX := Lib.hid HNL.out
        clear hfx hrx hcx hfx7 hlx hgood HD5
        go_wp2_with fail
        have hnx : px.now = bas (L) := by rw [HRX.out.now, List.append_nil]
        refine (jopen_calm (r := []) HFX.out HCX.out (by rw [hnx]; exact told_bas HGOOD.out) HRX.out.most (fun _ => ⟨by rw [hnx, HRX.out.old, List.append_nil], by rw [hnx, HRX.out.floor]; rfl⟩)).mono ?_
        rintro e w10 ⟨gj10, v10, rfl, -, hlo10, -, hf10, hgr10, -⟩
        obtain ⟨A10, c10, rfl, hz1, hz2, hrds10⟩ := hlo10.rds
        obtain ⟨nbx, obx, fvx, -⟩ := HFX.out
        obtain ⟨hy1, hy2, hy3⟩ := lo_rds (HLX.out.grown fvx hgr10 HFD.out)
        obtain ⟨n10, hn10⟩ : ∃ n10, n10 = (L).length := ⟨_, rfl⟩
        have HS10 := Lib.hid (samel_any A5 A10 n5 n10 c5 c10 (L) (L) w10 HNX.out hn10 hy2 hrds10 (by omega) (by omega))
        rw [← hn10]
        have HF10 := Lib.hid hf10
        clear hnx hlo10 hf10 hgr10 hz1 hz2 hrds10 fvx hy1 hy2 hy3 hn10
        go_wp2_with fail
        refine HS10.out.mono ?_
        rw [(sameLL_iff (L) (L)).2 rfl]
        rintro e w' ⟨rfl, n11, rfl⟩
        go_wp2_with fail
        refine (jawake_any _).mono ?_
        rintro e w12 ⟨rfl, hb12⟩
        have HB12 := Lib.hid hb12
        clear hb12
        go_wp2_with fail
        go_ret
        obtain ⟨_, _, _, _, _, _, hbf⟩ := HF10.out
        exact ⟨rfl, (below_drewN' hbf n11).trans (HB12.out.mono hbf.size)⟩
      · have hv1 : (0 : Int) < (v : Int) := by omega
        have had7 := HAD5.out.below HB7.out
        have hbs7 := HBS5.out.below HB7.out
        have hgb : GoodB body := ⟨by have := HVL.out; omega, by have := HVL.out; omega⟩
        have HAD7 := Lib.hid had7
        have HBS7 := Lib.hid hbs7
        have HGB := Lib.hid hgb
        clear had7 hbs7 hgb
        go_wp2_with fail
        refine (jadd_calm HAD7.out HGJ.out (by have := HLB.out; have := HNLE.out; have := HDL.out; omega) B v d body HVL.out HGB.out HBS7.out (by rw [← HN1.out]; have := HVL.out; have := HNLE.out; have := HDL.out; omega)).mono ?_
        rintro e w8 ⟨rfl, had8, ht8, hs8⟩
        obtain ⟨nb7, ob7, fv7, -⟩ := (HF5.out.below HB7.out).call
        have hj7 := HJ5.out.below HB7.out
        have hlo7 := HLO5.out.below HB7.out
        have hnj := hlo7.notJ hj7
        have hlo8 := hlo7.two fv7 hj7 ht8 HFD.out hnj
        have hbs8 := rd_two fv7 hj7 ht8 HBS7.out
        have hB4 : ∀ a, B = some a → a.block < w4.heap.size := fun a ha => by
          obtain ⟨b0, o0, e0, hl0, -⟩ := HBS4.out.2 (by have := HGB.out.1; intro e; rw [e] at this; simp at this)
          rw [e0] at ha
          rw [← Option.some.inj ha]
          exact hl0
        have h48 : w4.heap.size ≤ w8.heap.size := Nat.le_trans (Nat.le_of_lt (Nat.lt_of_lt_of_le hj7.lt ht8.size) |> fun _ => Nat.le_trans HG45.out (Nat.le_trans HB7.out.size ht8.size)) (Nat.le_refl _)
        have hbod : Bod w8 (Value.slice A5 n5 c5).ownBlock (.slice B v d) body := ⟨B, d, by rw [HVL.out], by rw [← HVL.out]; exact m4, HDM.out, hbs8, fun a ha => ⟨Nat.lt_of_lt_of_le (hB4 a ha) h48, fun e => by have h1 := (hlo7.lt _ (by rw [← HNL.out]; exact e)).1; have h2 := hB4 a ha; omega⟩⟩
        have hown : ∀ k, (Value.slice A5 n5 c5).ownBlock = some k → w4.heap.size ≤ k ∧ Sepf w8 gf g k := fun k e => by
          have e' : (Value.slice A5 L.length c5).ownBlock = some k := by rw [← HNL.out]; exact e
          have h1 := HLO5.out.lt k e'
          exact ⟨h1.1, hs8 k (Nat.lt_of_lt_of_le h1.2 HB7.out.size) (by obtain ⟨_, _, z, _⟩ := HF5.out.call; exact (HSEP.out k e').below z HB7.out) ⟩
        have hlo8' : Lo w8 w4.heap.size (.slice A5 n5 c5) L := by rw [HNL.out]; exact hlo8
        obtain ⟨px, hfx, -, hrx, hcx⟩ := had8
        have HFX8 := Lib.hid hfx
        have HRX := Lib.hid hrx
        have HCX := Lib.hid hcx
        have HLO8 := Lib.hid hlo8'
        have HBOD := Lib.hid hbod
        have HOWN := Lib.hid hown
        have H48 := Lib.hid h48
        clear fv7 hj7 hlo7 hnj hlo8 hbs8 hB4 h48 hbod hown hlo8' hfx hrx hcx ht8 hs8
        have hL5 : L.length < 1000000 := by have := HLB.out; have := HNLE.out; have := HDL.out; omega
        go_wp2_with (at_builtin; refine append_body (.tmp 105) (.tmp 107) rfl rfl _ _ body rfl rfl HLO8.out HBOD.out hL5 H48.out ?_; intro v9 w9 ho9 hg9 ha9; obtain ⟨A9, c9, rfl, -⟩ := ho9.rds; obtain ⟨n9, hn9⟩ : ∃ n9, n9 = (L ++ [body]).length := ⟨_, rfl⟩; rw [← hn9] at ho9 ⊢; have HNX := Lib.hid hn9; have HLX := Lib.hid ho9; have HFX := Lib.hid (HFX8.out.off hg9 HOWN.out HGF.out HFD.out HB44.out); clear hn9 ho9 hg9 ha9)
        have hgood : ∀ x ∈ L ++ [body], GoodB x := fun x hx => by
          rcases List.mem_append.1 hx with hx | hx
          · exact HT.out.good x hx
          · rw [List.mem_singleton.1 hx]; exact HGB.out
        have HGOOD := Lib.hid hgood
        clear hgood
        have hnx : px.now = bas (L ++ [body]) := by rw [HRX.out.now, List.append_nil]
        refine (jopen_calm (r := []) HFX.out HCX.out (by rw [hnx]; exact told_bas HGOOD.out) HRX.out.most (fun _ => ⟨by rw [hnx, HRX.out.old, List.append_nil], by rw [hnx, HRX.out.floor]; rfl⟩)).mono ?_
        rintro e w10 ⟨gj10, v10, rfl, -, hlo10, -, hf10, hgr10, -⟩
        obtain ⟨A10, c10, rfl, hz1, hz2, hrds10⟩ := hlo10.rds
        obtain ⟨nbx, obx, fvx, -⟩ := HFX.out
        obtain ⟨hy1, hy2, hy3⟩ := lo_rds (HLX.out.grown fvx hgr10 HFD.out)
        obtain ⟨n10, hn10⟩ : ∃ n10, n10 = (L ++ [body]).length := ⟨_, rfl⟩
        have HS10 := Lib.hid (samel_any A9 A10 n9 n10 c9 c10 (L ++ [body]) (L ++ [body]) w10 HNX.out hn10 hy2 hrds10 (by omega) (by omega))
        rw [← hn10]
        have HF10 := Lib.hid hf10
        clear hnx hlo10 hf10 hgr10 hz1 hz2 hrds10 fvx hy1 hy2 hy3 hn10
        go_wp2_with fail
        refine HS10.out.mono ?_
        rw [(sameLL_iff (L ++ [body]) (L ++ [body])).2 rfl]
        rintro e w' ⟨rfl, n11, rfl⟩
        go_wp2_with fail
        refine (jawake_any _).mono ?_
        rintro e w12 ⟨rfl, hb12⟩
        have HB12 := Lib.hid hb12
        clear hb12
        go_wp2_with fail
        go_ret
        obtain ⟨_, _, _, _, _, _, hbf⟩ := HF10.out
        exact ⟨rfl, (below_drewN' hbf n11).trans (HB12.out.mono hbf.size)⟩
    · have HPRE := Lib.hid hpre
      clear hpre
      go_wp2_with fail
      refine (load_n 65536 A2 N2 c2 D w2 HN.out (by omega) (by have := HDL.out; omega) HRD.out).mono ?_
      rintro e w3 ⟨g, nb, ob, rfl, hd, hg, hnb, hob, hb⟩
      have D1 := Lib.hid hd
      have B1 := Lib.hid hb
      have G1 := Lib.hid (And.intro hg (And.intro hnb hob))
      clear hd hg hnb hob hb
      go_wp2_with fail
      refine (open_plain D1.out none 0).mono ?_
      rintro e w4 ⟨gf, rfl, hf, hgf, hb⟩
      have hb4 := B1.out.trans (hb.mono B1.out.size)
      have hs2 := HB2.out.size
      have hff : Ff w.heap.size w w4 gf g none [] (mkD 65536 D) := ⟨nb, ob, fv_plain hf (Nat.le_refl _), Nat.le_trans hs2 G1.out.1, fun k e => Nat.le_trans hs2 (G1.out.2.1 k e), fun k e => Nat.le_trans hs2 (G1.out.2.2 k e), HB2.out.trans (hb4.mono hs2)⟩
      have HF := Lib.hid hff
      have HBS44 : Hid (w.heap.size ≤ w4.heap.size) := hff.at
      have HG4 : Hid (g < w4.heap.size) := by obtain ⟨_, _, z, _⟩ := hff; exact z.lt
      have HRD4 := Lib.hid (HRD.out.below hb4)
      have HBS4 := Lib.hid (HBS.out.below hb4)
      have H24 := Lib.hid hb4.size
      clear hf hgf hb hb4 hs2 hff D1 B1 G1
      go_wp2_with fail
      obtain ⟨nb4, ob4, fv4, -, hcall4, -⟩ := HF.out.call
      have HC4 := Lib.hid hcall4
      have HFV4 := Lib.hid fv4
      clear fv4 hcall4
      refine (jopen_arch HFV4.out (mk_calm 65536 D).openG HPRE.out).mono ?_
      rintro e w5 ⟨rfl, hf5, hg5⟩
      have hff5 := HC4.out _ _ hf5 hg5
      rw [(mk_calm 65536 D).pre] at hff5
      have HF5 := Lib.hid hff5
      have HRD5 := Lib.hid (HF.out.rd HRD4.out hg5)
      clear hf5 hg5 hff5 HF HFV4 HC4 HRD4
      go_wp2_with fail
      refine (vimage_any HF5.out).mono ?_
      rintro e w6 ⟨A6, c6, rfl, hr6, hb6⟩
      have hr6 : Rd w6 A6 D := hr6
      have HS6 := Lib.hid (same_yes A6 A2 N2 N2 c6 c2 D w6 HN.out HN.out hr6 (HRD5.out.below hb6) (by have := HDL.out; omega))
      have HF6 := Lib.hid (HF5.out.below hb6)
      rw [show (mkD 65536 D).now.length = N2 from HN.out.symm]
      clear hr6 hb6
      go_wp2_with fail
      refine HS6.out.mono ?_
      rintro e w7 ⟨rfl, hb7⟩
      have HF7 := Lib.hid (HF6.out.below hb7)
      clear hb7
      go_wp2_with fail
      refine (jawake_any _).mono ?_
      rintro e w12 ⟨rfl, hb12⟩
      have HF12 := Lib.hid (HF7.out.below hb12)
      clear hb12
      go_wp2_with fail
      go_ret
      obtain ⟨_, _, _, _, _, _, hbf⟩ := HF12.out
      exact ⟨rfl, hbf⟩
theorem journalAny_walk (A0 : Option Addr) (c0 : Nat) (l0 : List Nat) (a1 : Bool) (A2 : Option Addr) (c2 : Nat) (l2 : List Nat) (w : World) (hr0 : Rd w A0 l0) (hl0 : l0.length ≤ c0) (hm0 : c0 ≤ maxLen) (hr2 : Rd w A2 l2) (hl2 : l2.length ≤ c2) (hm2 : c2 ≤ maxLen) :
    Calls Tryz.prog 3 #[.slice A0 l0.length c0, .bool a1, .slice A2 l2.length c2] w fun e w' => e = .returned (.bool true) ∧ Below w.heap.size w w' := journalAny_any A0 c0 l0 a1 A2 c2 l2 w hr0 hl0 hr2 hl2 hm2
end Go.Proofs.YtlhbijpmhokmnaaGreat
