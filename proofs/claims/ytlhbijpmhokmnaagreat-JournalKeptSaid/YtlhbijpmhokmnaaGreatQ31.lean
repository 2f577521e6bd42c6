/-
  THE WALK OF journal's Create. Conditions: a file that is a plain disk, or none.
  A LIST OF BODIES THAT GROWS: append of one slice of bytes to a slice of them; a journal's fields written. Conditions: the list is the call's own, or nil.
  WHAT IS TOLD OF A JOURNAL's BYTES: the transactions that count, where each begins; plain laws. Conditions: none; no program in sight.
-/
import Derived.Test.YtlhbijpmhokmnaaGreatQ30
namespace Go.Proofs.YtlhbijpmhokmnaaGreat
open Go.RowKit
set_option linter.unusedSimpArgs false
set_option linter.unusedVariables false

/-- What a journal begins with. -/
def txt : List Nat := [113, 117, 105, 108, 108, 112, 114, 101, 115, 115, 32, 97, 114, 99, 104, 105, 118, 101, 32, 49, 10]
theorem txt_lt : ∀ x ∈ txt, x < 256 := by decide
theorem jcreate_no {w : World} {v : Value} (h : NoF w v) : Calls Tryz.prog 19 #[v] w fun e w' => e = .returned (.tuple #[.pointer none, .int .i64 1]) ∧ w = w' := by
  have H := Lib.hid h
  clear h
  go_enter Tryz.func19, Tryz.ntmps19
  go_wp2_with fail
  refine (jnone_no H.out).mono ?_
  rintro e w' ⟨rfl, rfl⟩
  go_wp2_with fail
  go_ret2
  exact ⟨rfl, rfl⟩
section
variable {w : World} {gf gd : Nat} {nb ob : Option Nat} {K : TurnK} {pre : List Nat} {p : DkS}
theorem jcreate_full (h : Fv w gf gd nb ob K pre p) (hp : 0 < p.now.length) :
    Calls Tryz.prog 19 #[.pointer (some ⟨gf, 0, none⟩)] w fun e w' => e = .returned (.tuple #[.pointer none, .int .i64 20]) ∧ Below w.heap.size w w' := by
  have H := Lib.hid h
  have hp' : (0 : Int) < p.now.length := by omega
  clear h
  go_enter Tryz.func19, Tryz.ntmps19
  go_wp2_with fail
  refine (jnone_any H.out).mono ?_
  rintro e w' ⟨rfl, hb⟩
  have HB := Lib.hid hb
  clear hb
  go_wp2_with fail
  refine (vsize_any (H.out.below HB.out)).mono ?_
  rintro e w2 ⟨rfl, hb⟩
  have HB2 := Lib.hid (HB.out.trans (hb.mono HB.out.size))
  clear hb
  go_wp2_with fail
  go_ret2
  exact ⟨rfl, HB2.out⟩
set_option maxRecDepth 100000 in
set_option maxHeartbeats 8000000 in
theorem jcreate_ok (h : Fv w gf gd nb ob K pre p) (hp : p.now.length = 0) (ha : (p.append txt).1 = 0) (hs : (p.append txt).2.sync.1 = 0) :
    Calls Tryz.prog 19 #[.pointer (some ⟨gf, 0, none⟩)] w fun e w' => ∃ gj, e = .returned (.tuple #[.pointer (some ⟨gj, 0, none⟩), .int .i64 0]) ∧ Jo w' gj gf 0 21 false ∧ w.heap.size ≤ gj ∧ VAfter w gf gd nb ob K pre (p.append txt).2.sync.2 w' := by
  skip
  have H := Lib.hid h
  have HP := Lib.hid hp
  have HA := Lib.hid ha
  have HS := Lib.hid hs
  have kc := fun (w : World) (C : Array Value) (n c : Nat) => Lib.run_convert_bytes_const (P := Tryz.prog) w 22 5 C n c Tryz.underlying22 Tryz.underlying5
  clear h hp ha hs
  go_enter Tryz.func19, Tryz.ntmps19
  go_wp2_with fail
  refine (jnone_any H.out).mono ?_
  rintro e w1 ⟨rfl, hb⟩
  have HB := Lib.hid hb
  clear hb
  go_wp2_with fail
  have hvs := vsize_any (H.out.below HB.out)
  rw [HP.out] at hvs
  refine hvs.mono ?_
  clear hvs
  rintro e w2 ⟨rfl, hb⟩
  have HB2 := Lib.hid (HB.out.trans (hb.mono HB.out.size))
  clear hb
  go_wp2_with (first
    | (refine wpList_buildFlat rfl 22 5 21 _ rfl .u8 txt Tryz.underlying22 (by kernel_rfl) (by kernel_rfl) rfl (by decide) (by decide) rfl ?_)
    | (refine wpList_conv_const rfl (.tmp 13) rfl (bs txt).toArray 21 21 rfl ?_))
  have HB3 : Hid (Below w.heap.size w (w2.alloc (.cells (bs txt).toArray 5 (21, 21 + 1)))) := HB2.out.alloc HB2.out.size _
  clear kc
  refine (vappend_any (H.out.below HB3.out) (some ⟨w2.heap.size, 0, none⟩) 21 _ txt rfl (by decide) (constW_rd w2 5 txt txt_lt _)).mono ?_
  rintro e w4 ⟨x, rfl, hx, hr⟩
  rw [HA.out] at hr
  subst hr
  obtain ⟨nb1, ob1, hf1, hn1, ho1, hg1⟩ := VAfter.fromB HB3.out hx
  have HF1 := Lib.hid hf1
  have HN1 := Lib.hid hn1
  have HO1 := Lib.hid ho1
  have HG1 := Lib.hid hg1
  clear hf1 hn1 ho1 hg1 hx
  go_wp2_with fail
  refine (vsync_any HF1.out).mono ?_
  rintro e w5 ⟨x, rfl, hx, hr⟩
  rw [HS.out] at hr
  subst hr
  have hx2 := VAfter.two HN1.out HO1.out HG1.out hx
  have HX := Lib.hid hx2
  clear hx hx2
  go_wp2_with fail
  go_ret2
  have hl : w.heap.size ≤ w5.heap.size := by obtain ⟨_, _, _, _, _, hg⟩ := HX.out; exact hg.size
  refine ⟨w5.heap.size, rfl, ⟨_, heap_alloc_new w5 _, rfl, fun i hi => ?_⟩, hl, HX.out.toB ((Below.refl _ _).alloc (Nat.le_refl _) _)⟩
  match i, hi with
  | 0, _ => rfl
  | 1, _ => rfl
  | 2, _ => rfl
  | 3, _ => rfl
set_option maxRecDepth 100000 in
set_option maxHeartbeats 8000000 in
/-- One that failed: what was written is cut away again. -/
theorem jcreate_fail (h : Fv w gf gd nb ob K pre p) (hp : p.now.length = 0) (ha : (p.append txt).1 = 0) (hs : (p.append txt).2.sync.1 = 10) (hc : ((p.append txt).2.sync.2.cut 0).1 = 0) :
    Calls Tryz.prog 19 #[.pointer (some ⟨gf, 0, none⟩)] w fun e w' => e = .returned (.tuple #[.pointer none, .int .i64 10]) ∧ VAfter w gf gd nb ob K pre ((p.append txt).2.sync.2.cut 0).2.sync.2 w' := by
  have HC := Lib.hid hc
  clear hc
  have H := Lib.hid h
  have HP := Lib.hid hp
  have HA := Lib.hid ha
  have HS := Lib.hid hs
  have kc := fun (w : World) (C : Array Value) (n c : Nat) => Lib.run_convert_bytes_const (P := Tryz.prog) w 22 5 C n c Tryz.underlying22 Tryz.underlying5
  clear h hp ha hs
  go_enter Tryz.func19, Tryz.ntmps19
  go_wp2_with fail
  refine (jnone_any H.out).mono ?_
  rintro e w1 ⟨rfl, hb⟩
  have HB := Lib.hid hb
  clear hb
  go_wp2_with fail
  have hvs := vsize_any (H.out.below HB.out)
  rw [HP.out] at hvs
  refine hvs.mono ?_
  clear hvs
  rintro e w2 ⟨rfl, hb⟩
  have HB2 := Lib.hid (HB.out.trans (hb.mono HB.out.size))
  clear hb
  go_wp2_with (first
    | (refine wpList_buildFlat rfl 22 5 21 _ rfl .u8 txt Tryz.underlying22 (by kernel_rfl) (by kernel_rfl) rfl (by decide) (by decide) rfl ?_)
    | (refine wpList_conv_const rfl (.tmp 13) rfl (bs txt).toArray 21 21 rfl ?_))
  have HB3 : Hid (Below w.heap.size w (w2.alloc (.cells (bs txt).toArray 5 (21, 21 + 1)))) := HB2.out.alloc HB2.out.size _
  clear kc
  refine (vappend_any (H.out.below HB3.out) (some ⟨w2.heap.size, 0, none⟩) 21 _ txt rfl (by decide) (constW_rd w2 5 txt txt_lt _)).mono ?_
  rintro e w4 ⟨x, rfl, hx, hr⟩
  rw [HA.out] at hr
  subst hr
  obtain ⟨nb1, ob1, hf1, hn1, ho1, hg1⟩ := VAfter.fromB HB3.out hx
  have HF1 := Lib.hid hf1
  have HN1 := Lib.hid hn1
  have HO1 := Lib.hid ho1
  have HG1 := Lib.hid hg1
  clear hf1 hn1 ho1 hg1 hx
  go_wp2_with fail
  refine (vsync_any HF1.out).mono ?_
  rintro e w5 ⟨x, rfl, hx, hr⟩
  rw [HS.out] at hr
  subst hr
  have hx2 := VAfter.two HN1.out HO1.out HG1.out hx
  obtain ⟨nb2, ob2, hf2, hn2, ho2, hg2⟩ := hx2
  have HF2 := Lib.hid hf2
  have HN2 := Lib.hid hn2
  have HO2 := Lib.hid ho2
  have HG2 := Lib.hid hg2
  clear hf2 hn2 ho2 hg2 hx
  go_wp2_with fail
  refine (vcut_any HF2.out 0 (Nat.zero_le _)).mono ?_
  rintro e w6 ⟨x, rfl, hx, hr⟩
  rw [HC.out] at hr
  subst hr
  have hx2 := VAfter.two HN2.out HO2.out HG2.out hx
  obtain ⟨nb3, ob3, hf3, hn3, ho3, hg3⟩ := hx2
  have HF3 := Lib.hid hf3
  have HN3 := Lib.hid hn3
  have HO3 := Lib.hid ho3
  have HG3 := Lib.hid hg3
  clear hf3 hn3 ho3 hg3 hx
  go_wp2_with fail
  refine (vsync_any HF3.out).mono ?_
  rintro e w7 ⟨x, rfl, hx, hr⟩
  have hx2 := VAfter.two HN3.out HO3.out HG3.out hx
  have HX := Lib.hid hx2
  clear hx hx2 hr
  go_wp2_with fail
  go_ret2
  exact ⟨rfl, HX.out⟩
end
end Go.Proofs.YtlhbijpmhokmnaaGreat
namespace Go.Proofs.YtlhbijpmhokmnaaGreat
open Go.RowKit
set_option linter.unusedSimpArgs false
set_option linter.unusedVariables false

/-- One body: a slice that lies elsewhere than in the block own. -/
def Bod (w : World) (own : Option Nat) (u : Value) (l : List Nat) : Prop := ∃ A c, u = .slice A l.length c ∧ l.length ≤ c ∧ c ≤ maxLen ∧ Rd w A l ∧ ∀ a, A = some a → a.block < w.heap.size ∧ own ≠ some a.block
/-- v is the call's own list of L. -/
def Lo (w : World) (base : Nat) (v : Value) (L : List (List Nat)) : Prop := ∃ V : List Value, w.ownsRow base 22 1 v L.length V ∧ ∀ i, i < L.length → ∃ u, V[i]? = some u ∧ Bod w v.ownBlock u (L.getD i [])
theorem Bod.kept {w w' : World} {own own' : Option Nat} {u : Value} {l : List Nat} (h : Bod w own u l) (hg : w.grownBy w' own) (ho : own' = own ∨ own' = some w.heap.size) : Bod w' own' u l := by
  obtain ⟨A, c, rfl, h1, h2, h3, h4⟩ := h
  refine ⟨A, c, rfl, h1, h2, h3.keep hg.size fun p hp ⟨a, ha, e⟩ => World.cell?_of_block (hg.block p.block hp (fun e2 => (h4 a ha).2 (by rw [e]; exact e2.symm))), fun a ha => ⟨Nat.lt_of_lt_of_le (h4 a ha).1 hg.size, ?_⟩⟩
  rcases ho with rfl | rfl
  · exact (h4 a ha).2
  · intro e; injection e with e; have := (h4 a ha).1; omega
theorem Bod.below {w w' : World} {own : Option Nat} {u : Value} {l : List Nat} (h : Bod w own u l) (hb : Below w.heap.size w w') : Bod w' own u l := by
  obtain ⟨A, c, rfl, h1, h2, h3, h4⟩ := h
  exact ⟨A, c, rfl, h1, h2, h3.below hb, fun a ha => ⟨Nat.lt_of_lt_of_le (h4 a ha).1 hb.size, (h4 a ha).2⟩⟩
theorem Lo.nil (w : World) (base : Nat) : Lo w base (.slice none 0 0) [] := ⟨[], World.ownsRow_nil _ _ _ _, fun i hi => by simp at hi⟩
theorem Lo.below {w w' : World} {base : Nat} {v : Value} {L : List (List Nat)} (h : Lo w base v L) (hb : Below w.heap.size w w') : Lo w' base v L := by
  obtain ⟨V, h1, h3⟩ := h
  refine ⟨V, h1.kept (row := none) ⟨hb.os, hb.tape, hb.output, hb.size, fun k hk _ => hb.block k hk⟩ ?_, fun i hi => ?_⟩
  · cases hv : v.ownBlock with
    | none => exact .inl rfl
    | some k => exact .inr (by simp)
  · obtain ⟨u, hu, hb'⟩ := h3 i hi
    exact ⟨_, hu, hb'.below hb⟩
theorem Lo.mono {w : World} {base base' : Nat} {v : Value} {L : List (List Nat)} (h : Lo w base v L) (hb : base' ≤ base) : Lo w base' v L := by
  obtain ⟨V, h1, h3⟩ := h
  exact ⟨V, ⟨h1.1, h1.2.imp id (fun ⟨g, cap, cur, e, hg, r⟩ => ⟨g, cap, cur, e, by omega, r⟩)⟩, h3⟩
theorem Lo.lt {w : World} {base : Nat} {v : Value} {L : List (List Nat)} (h : Lo w base v L) : ∀ k, v.ownBlock = some k → base ≤ k ∧ k < w.heap.size := by
  obtain ⟨V, h1, h3⟩ := h
  exact h1.lt
/-- Read as a list of lists. -/
theorem Lo.rds {w : World} {base : Nat} {v : Value} {L : List (List Nat)} (h : Lo w base v L) : ∃ A c, v = .slice A L.length c ∧ L.length ≤ c ∧ c ≤ maxLen ∧ Rds w A L := by
  obtain ⟨V, ⟨hlen, h⟩, h3⟩ := h
  rcases h with ⟨rfl, hn⟩ | ⟨g, cap, cur, rfl, hg, hh, hn, hm, hs, ht⟩
  · have : L = [] := List.eq_nil_of_length_eq_zero hn
    subst this
    exact ⟨none, 0, rfl, Nat.le_refl _, Nat.zero_le _, fun h => absurd rfl h⟩
  · have hlt : g < w.heap.size := by
      rcases Nat.lt_or_ge g w.heap.size with h | h
      · exact h
      · rw [Array.getElem?_eq_none h] at hh; cases hh
    refine ⟨some ⟨g, 0, none⟩, cap, rfl, hn, hm, fun _ => ⟨g, 0, rfl, hlt, fun i hi => ?_⟩⟩
    obtain ⟨u, hu, A, c, rfl, k1, k2, k3, k4⟩ := h3 i hi
    refine ⟨A, c, ?_, k1, k2, k3⟩
    rw [Nat.zero_add, cell_of_row w g i cur _ _ hh]
    rw [← ht, Nat.mul_one, List.getElem?_take, if_pos hi, Array.getElem?_toList] at hu
    exact hu
theorem info_bl : (Tryz.prog.info? 22).map (fun i => (i.zero, i.size, i.bytes)) = some (some (.slice none 0 0), 1, 24) := by kernel_rfl
section
variable {W : World} {ops : Array Oper} {rest : List Oper} {o : Oper} {a : Act} {Q : Exit → Act → World → Prop} {base : Nat} {v : Value} {L : List (List Nat)}
set_option maxRecDepth 100000 in
/-- 'out = append(out, u)' behind the block that was made for u. -/
theorem append_body (s x : Operand) (hgd : o.guard = none) (ho : o.op = .call { callee := .builtin .append, args := #[s, x], argTypes := #[31, 31] }) (c : Nat) (u : Value) (m : List Nat)
    (hs : a.eval s = v) (hx : a.eval x = .slice (some ⟨W.heap.size, 0, none⟩) 1 c) (hown : Lo W base v L) (hu : Bod W v.ownBlock u m)
    (hn : L.length < 1000000) (hbase : base ≤ W.heap.size)
    (h : ∀ v' w', Lo w' base v' (L ++ [m]) → W.grownBy w' v.ownBlock → (v'.ownBlock = v.ownBlock ∨ v'.ownBlock = some (W.heap.size + 1)) → wpList Tryz.prog ops Q rest (a.put o.dst v') w') :
    wpList Tryz.prog ops Q (o :: rest) a (W.alloc (.cells #[u] 22)) := by
  refine wpList_plain hgd fun _ hK => ?_
  obtain ⟨i, hi, hz, hs1, hb⟩ := info_parts info_bl
  obtain ⟨V, h1, h3⟩ := hown
  have hu0 := hu
  obtain ⟨A, cu, rfl, k1, k2, k3, k4⟩ := hu
  have h1' := h1.alloc (.cells #[.slice A m.length cu] 22)
  obtain ⟨v', w', hrun, r1, r2, _, r4⟩ := run_append_own_at (P := Tryz.prog) (W.alloc (.cells #[.slice A m.length cu] 22)) base 31 o.type 22 i (.slice none 0 0) 1 24 Tryz.underlying31 hi hz hs1 hb rfl (by omega)
    v L.length V h1' ⟨W.heap.size, 0, none⟩ 1 c [.slice A m.length cu] rfl
    (fun j u hu => by
      match j, hu with
      | 0, hu => injection hu with hu; subst hu; rw [add_none]; exact new_cell _ _ _)
    (fun u hu => by simp at hu; subst hu; rfl) (by unfold maxLen; omega) (by omega) (by rw [World.size_alloc]; omega)
  have hg : W.grownBy w' v.ownBlock := nil_grown (World.grownBy_alloc _ _ _) r2
  rw [World.size_alloc] at r4
  unfold Oper.wp execOp
  simp only [ho, resolve, invoke, builtin, Sem.run_bind, Sem.run_pure, Result.andThen_ok, List.map_toArray, List.map_cons, List.map_nil, hs, hx, hrun]
  have hab : Below W.heap.size W (W.alloc (.cells #[.slice A m.length cu] 22)) := (Below.refl _ _).alloc (Nat.le_refl _) _
  have r4' : v'.ownBlock = v.ownBlock ∨ v'.ownBlock = some (W.alloc (.cells #[.slice A m.length cu] 22)).heap.size := by rw [World.size_alloc]; exact r4
  refine hK _ _ (h v' w' ⟨V ++ [.slice A m.length cu], by rw [List.length_append]; exact r1, fun j hj => ?_⟩ hg r4)
  have hL : V.length = L.length := by have := h1.1; omega
  rw [List.length_append, List.length_singleton] at hj
  rcases Nat.lt_or_ge j L.length with hj' | hj'
  · obtain ⟨u, hu, q1⟩ := h3 j hj'
    refine ⟨_, by rw [List.getElem?_append_left (by omega)]; exact hu, ?_⟩
    rw [List.getD_eq_getElem?_getD, List.getElem?_append_left hj', ← List.getD_eq_getElem?_getD]
    exact (q1.below hab).kept r2 r4'
  · obtain rfl : j = L.length := by omega
    refine ⟨_, by rw [List.getElem?_append_right (by omega), hL, Nat.sub_self]; rfl, ?_⟩
    rw [List.getD_eq_getElem?_getD, List.getElem?_append_right (Nat.le_refl _), Nat.sub_self]
    exact (hu0.below hab).kept r2 r4'
end
/-- A body of the call's own. -/
theorem bod_ow {w : World} {base : Nat} {u : Value} {l : List Nat} {own : Option Nat} (h : Ow w base u l) (ho : ∀ k, own = some k → k < base) : Bod w own u l := by
  obtain ⟨b, ⟨A, c, e, q1, q2, q3, q4⟩, -⟩ := h.sl
  obtain ⟨A', c', e', -, h3, h4⟩ := h.form
  rw [e] at e'
  injection e' with e1 e2 e3
  subst e1; subst e3
  exact ⟨A, c, e, q1, q2, q3, fun a ha => ⟨(h3 a ha).2.1, fun e => by have := ho _ e; have := (h3 a ha).1; omega⟩⟩
section
variable {w : World} {gj gf n e : Nat} {br : Bool}
theorem Jo.setN (h : Jo w gj gf n e br) (n' : Nat) : Jo (w.setCell ⟨gj, 1, none⟩ (.int .i64 n')) gj gf n' e br := (h.set 1 _).congr fun i hi => by
  match i, hi with
  | 0, _ => rfl
  | 1, _ => rfl
  | 2, _ => rfl
  | 3, _ => rfl
theorem Jo.setE (h : Jo w gj gf n e br) (e' : Nat) : Jo (w.setCell ⟨gj, 2, none⟩ (.int .i64 e')) gj gf n e' br := (h.set 2 _).congr fun i hi => by
  match i, hi with
  | 0, _ => rfl
  | 1, _ => rfl
  | 2, _ => rfl
  | 3, _ => rfl
theorem Jo.setB (h : Jo w gj gf n e br) (b' : Bool) : Jo (w.setCell ⟨gj, 3, none⟩ (.bool b')) gj gf n e b' := (h.set 3 _).congr fun i hi => by
  match i, hi with
  | 0, _ => rfl
  | 1, _ => rfl
  | 2, _ => rfl
  | 3, _ => rfl
end
end Go.Proofs.YtlhbijpmhokmnaaGreat
namespace Go.Proofs.YtlhbijpmhokmnaaGreat
open Go.RowKit
set_option linter.unusedSimpArgs false
set_option linter.unusedVariables false

/-- b is the text, L's transactions, and r that is none. -/
structure Told (b : List Nat) (L : List (List Nat)) (r : List Nat) : Prop where
  eq : b = txt ++ (txs 1 L ++ r)
  good : ∀ x ∈ L, GoodB x
  stop : oneJ r (1 + L.length) = none
def ofs (L : List (List Nat)) (i : Nat) : Nat := 21 + (txs 1 (L.take i)).length
theorem txs_append : ∀ (A B : List (List Nat)) (k : Nat), txs k (A ++ B) = txs k A ++ txs (k + A.length) B := by
  intro A
  induction A with
  | nil => intro B k; simp [txs]
  | cons a A ih => intro B k; rw [List.cons_append, txs, txs, ih, List.append_assoc, show k + 1 + A.length = k + (a :: A).length by simp; omega]
theorem ofs_zero (L : List (List Nat)) : ofs L 0 = 21 := rfl
theorem ofs_all (L : List (List Nat)) : ofs L L.length = 21 + (txs 1 L).length := by unfold ofs; rw [List.take_length]
theorem getD_mem {L : List (List Nat)} {i : Nat} (h : i < L.length) : L.getD i [] ∈ L := by
  rw [List.getD_eq_getElem?_getD, List.getElem?_eq_getElem h]
  exact List.getElem_mem h
theorem take_snoc {L : List (List Nat)} {i : Nat} (h : i < L.length) : L.take (i + 1) = L.take i ++ [L.getD i []] := by
  rw [List.take_add_one, List.getD_eq_getElem?_getD, List.getElem?_eq_getElem h]
  rfl
theorem ofs_succ {L : List (List Nat)} {i : Nat} (h : i < L.length) : ofs L (i + 1) = ofs L i + (54 + (L.getD i []).length) := by
  unfold ofs
  rw [take_snoc h, txs_snoc, List.length_append, txL_length]
  omega
theorem ofs_big {L : List (List Nat)} (hg : ∀ x ∈ L, GoodB x) : ∀ {i : Nat}, i ≤ L.length → 21 + 55 * i ≤ ofs L i := by
  intro i
  induction i with
  | zero => intro _; exact Nat.le_refl _
  | succ i ih =>
    intro h
    have := ih (by omega)
    rw [ofs_succ (by omega)]
    have := (hg _ (getD_mem (show i < L.length by omega))).1
    omega
section
variable {b : List Nat} {L : List (List Nat)} {r : List Nat}
theorem Told.at (h : Told b L r) {i : Nat} (hi : i ≤ L.length) : b.drop (ofs L i) = txs (1 + i) (L.drop i) ++ r ∧ ofs L i ≤ b.length := by
  have e : txs 1 L = txs 1 (L.take i) ++ txs (1 + i) (L.drop i) := by
    have := txs_append (L.take i) (L.drop i) 1
    rw [List.take_append_drop, List.length_take, Nat.min_eq_left hi] at this
    exact this
  have e2 : b = (txt ++ txs 1 (L.take i)) ++ (txs (1 + i) (L.drop i) ++ r) := by rw [h.eq, e]; simp [List.append_assoc]
  have e3 : (txt ++ txs 1 (L.take i)).length = ofs L i := by rw [List.length_append]; rfl
  constructor
  · rw [e2, ← e3, List.drop_left]
  · rw [e2, List.length_append, e3]; omega
theorem Told.next (h : Told b L r) {i : Nat} (hi : i < L.length) : oneJ (b.drop (ofs L i)) (i + 1) = some (L.getD i []) := by
  rw [(h.at (by omega)).1, List.drop_eq_getElem_cons hi, txs, Nat.add_comm i 1]
  have e : L.getD i [] = L[i] := by rw [List.getD_eq_getElem?_getD, List.getElem?_eq_getElem hi]; rfl
  rw [e]
  exact one_of_tx (h.good _ (List.getElem_mem hi)) ⟨txs (1 + i + 1) (L.drop (1 + i)) ++ r, by rw [List.append_assoc]⟩
theorem Told.last (h : Told b L r) : oneJ (b.drop (ofs L L.length)) (L.length + 1) = none := by
  rw [(h.at (Nat.le_refl _)).1, List.drop_length, Nat.add_comm L.length 1]
  exact h.stop
theorem Told.length (h : Told b L r) : b.length = ofs L L.length + r.length := by
  rw [h.eq, List.length_append, List.length_append, ofs_all]
  show 21 + _ = _
  omega
theorem told_exists (h : txt <+: b) : ∃ L r, Told b L r := by
  obtain ⟨t, rfl⟩ := h
  obtain ⟨r, e, hg, hs⟩ := parse_split t.length t 1
  exact ⟨parseJ t.length t 1, r, by rw [← e], hg, hs (Nat.le_refl _)⟩
theorem told_uniq {L' : List (List Nat)} {r' : List Nat} (h : Told b L r) (h' : Told b L' r') : L = L' ∧ r = r' := by
  have e : txs 1 L ++ r = txs 1 L' ++ r' := by
    have := h.eq.symm.trans h'.eq
    exact List.append_cancel_left this
  have p1 := parse_txs L 1 (L.length + L'.length) h.good h.stop (by omega)
  have p2 := parse_txs L' 1 (L.length + L'.length) h'.good h'.stop (by omega)
  rw [e, p2] at p1
  subst p1
  exact ⟨rfl, List.append_cancel_left e⟩
end
end Go.Proofs.YtlhbijpmhokmnaaGreat
