/-
  THE WALK OF journal's Open ONCE MORE: what is told lies in no block of old. Conditions: a file that is a plain disk.
-/
import Derived.Test.YtlhbijpmhokmnaaGreatQ40
namespace Go.Proofs.YtlhbijpmhokmnaaGreat
open Go.RowKit
set_option linter.unusedSimpArgs false
set_option linter.unusedVariables false

/-- A body that is no older than this. -/
def Yu (base : Nat) (u : Value) : Prop := ∀ a, u.ownBlock = some a → base ≤ a
/-- v is the call's own list of L, and so are the bodies. -/
def LoY (w : World) (base : Nat) (v : Value) (L : List (List Nat)) : Prop := ∃ V : List Value, w.ownsRow base 22 1 v L.length V ∧ ∀ i, i < L.length → ∃ u, V[i]? = some u ∧ Bod w v.ownBlock u (L.getD i []) ∧ Yu base u
theorem LoY.lo {w : World} {base : Nat} {v : Value} {L : List (List Nat)} (h : LoY w base v L) : Lo w base v L := by
  obtain ⟨V, h1, h3⟩ := h
  exact ⟨V, h1, fun i hi => by obtain ⟨u, q1, q2, -⟩ := h3 i hi; exact ⟨u, q1, q2⟩⟩
theorem LoY.lt {w : World} {base : Nat} {v : Value} {L : List (List Nat)} (h : LoY w base v L) : ∀ k, v.ownBlock = some k → base ≤ k ∧ k < w.heap.size := h.lo.lt
theorem LoY.rds {w : World} {base : Nat} {v : Value} {L : List (List Nat)} (h : LoY w base v L) : ∃ A c, v = .slice A L.length c ∧ L.length ≤ c ∧ c ≤ maxLen ∧ Rds w A L := h.lo.rds
theorem LoY.nil (w : World) (base : Nat) : LoY w base (.slice none 0 0) [] := ⟨[], World.ownsRow_nil _ _ _ _, fun i hi => by simp at hi⟩
/-- Blocks of old may change. -/
theorem LoY.old {w w' : World} {base : Nat} {v : Value} {L : List (List Nat)} {row : Option Nat} (h : LoY w base v L) (hg : w.grownBy w' row) (hr : ∀ k, row = some k → k < base) : LoY w' base v L := by
  have hl := h.lt
  obtain ⟨V, h1, h3⟩ := h
  refine ⟨V, h1.kept hg ?_, fun i hi => ?_⟩
  · cases hv : v.ownBlock with
    | none => exact .inl rfl
    | some k => exact .inr (fun e => by have := hr k e.symm; have := (hl k hv).1; omega)
  · obtain ⟨x, hx, ⟨A, c, rfl, k1, k2, k3, k4⟩, hy⟩ := h3 i hi
    refine ⟨_, hx, ⟨A, c, rfl, k1, k2, k3.keep hg.size fun p hp ⟨a, ha, e⟩ => World.cell?_of_block (hg.block p.block hp (fun e2 => ?_)), fun a ha => ⟨Nat.lt_of_lt_of_le (k4 a ha).1 hg.size, (k4 a ha).2⟩⟩, hy⟩
    have h1 := hr _ e2.symm
    have h2 := hy a.block (by rw [ha]; rfl)
    rw [e] at h2
    omega
theorem LoY.below {w w' : World} {base : Nat} {v : Value} {L : List (List Nat)} (h : LoY w base v L) (hb : Below w.heap.size w w') : LoY w' base v L :=
  h.old (row := none) (grown_of_below hb none) (fun k e => by cases e)
theorem LoY.mono {w : World} {base base' : Nat} {v : Value} {L : List (List Nat)} (h : LoY w base v L) (hb : base' ≤ base) : LoY w base' v L := by
  obtain ⟨V, h1, h3⟩ := h
  exact ⟨V, ⟨h1.1, h1.2.imp id (fun ⟨g, cap, cur, e, hg, r⟩ => ⟨g, cap, cur, e, by omega, r⟩)⟩, fun i hi => by obtain ⟨u, q1, q2, q3⟩ := h3 i hi; exact ⟨u, q1, q2, fun a e => Nat.le_trans hb (q3 a e)⟩⟩
theorem LoY.setOff {w : World} {base : Nat} {v : Value} {L : List (List Nat)} (h : LoY w base v L) {p : Addr} {u0 : Value} (hp : w.cell? p = some u0) (h0 : ∀ x, u0 ≠ .int .u8 x) (hb : p.block < base) (u : Value) : LoY (w.setCell p u) base v L :=
  h.old (row := some p.block) (grown_set (grown_refl _ _) (.inl rfl) u) (fun k e => by injection e with e; omega)
theorem yu_ow {w : World} {b0 base : Nat} {u : Value} {l : List Nat} (h : Ow w b0 u l) (hb : base ≤ b0) : Yu base u := by
  obtain ⟨A', c', rfl, -, h3, h4⟩ := h.form
  intro a e
  cases A' with
  | none => cases e
  | some x =>
    have := (h3 x rfl).1
    have e : x.block = a := Option.some.inj e
    omega
section
variable {W : World} {ops : Array Oper} {rest : List Oper} {o : Oper} {a : Act} {Q : Exit → Act → World → Prop} {base : Nat} {v : Value} {L : List (List Nat)}
set_option maxRecDepth 100000 in
/-- 'out = append(out, u)' behind the block that was made for u. -/
theorem append_bodyY (s x : Operand) (hgd : o.guard = none) (ho : o.op = .call { callee := .builtin .append, args := #[s, x], argTypes := #[31, 31] }) (c : Nat) (u : Value) (m : List Nat)
    (hs : a.eval s = v) (hx : a.eval x = .slice (some ⟨W.heap.size, 0, none⟩) 1 c) (hown : LoY W base v L) (hu : Bod W v.ownBlock u m) (hy : Yu base u)
    (hn : L.length < 1000000) (hbase : base ≤ W.heap.size)
    (h : ∀ v' w', LoY w' base v' (L ++ [m]) → W.grownBy w' v.ownBlock → (v'.ownBlock = v.ownBlock ∨ v'.ownBlock = some (W.heap.size + 1)) → wpList Tryz.prog ops Q rest (a.put o.dst v') w') :
    wpList Tryz.prog ops Q (o :: rest) a (W.alloc (.cells #[u] 22)) := by
  refine wpList_plain hgd fun _ hK => ?_
  obtain ⟨i, hi, hz, hs1, hb⟩ := info_parts info_bl
  obtain ⟨V, h1, h3⟩ := hown
  have hu0 := hu
  obtain ⟨A, cu, rfl, k1, k2, k3, k4⟩ := hu
  have h1' := h1.alloc (.cells #[.slice A m.length cu] 22)
  obtain ⟨v', w', hrun, r1, r2, _, r4⟩ := run_append_own_at (P := Tryz.prog) (W.alloc (.cells #[.slice A m.length cu] 22)) base 31 o.type 22 i (.slice none 0 0) 1 24 Tryz.underlying31 hi hz hs1 hb rfl (by omega)
    v L.length V h1' ⟨W.heap.size, 0, none⟩ 1 c [.slice A m.length cu] rfl
    (fun j u hu => by
      match j, hu with
      | 0, hu => injection hu with hu; subst hu; rw [add_none]; exact new_cell _ _ _)
    (fun u hu => by simp at hu; subst hu; rfl) (by unfold maxLen; omega) (by omega) (by rw [World.size_alloc]; omega)
  have hg : W.grownBy w' v.ownBlock := nil_grown (World.grownBy_alloc _ _ _) r2
  rw [World.size_alloc] at r4
  unfold Oper.wp execOp
  simp only [ho, resolve, invoke, builtin, Sem.run_bind, Sem.run_pure, Result.andThen_ok, List.map_toArray, List.map_cons, List.map_nil, hs, hx, hrun]
  have hab : Below W.heap.size W (W.alloc (.cells #[.slice A m.length cu] 22)) := (Below.refl _ _).alloc (Nat.le_refl _) _
  have r4' : v'.ownBlock = v.ownBlock ∨ v'.ownBlock = some (W.alloc (.cells #[.slice A m.length cu] 22)).heap.size := by rw [World.size_alloc]; exact r4
  refine hK _ _ (h v' w' ⟨V ++ [.slice A m.length cu], by rw [List.length_append]; exact r1, fun j hj => ?_⟩ hg r4)
  have hL : V.length = L.length := by have := h1.1; omega
  rw [List.length_append, List.length_singleton] at hj
  rcases Nat.lt_or_ge j L.length with hj' | hj'
  · obtain ⟨u, hu, q1, q2⟩ := h3 j hj'
    refine ⟨_, by rw [List.getElem?_append_left (by omega)]; exact hu, ?_⟩
    rw [List.getD_eq_getElem?_getD, List.getElem?_append_left hj', ← List.getD_eq_getElem?_getD]
    exact ⟨(q1.below hab).kept r2 r4', q2⟩
  · obtain rfl : j = L.length := by omega
    refine ⟨_, by rw [List.getElem?_append_right (by omega), hL, Nat.sub_self]; rfl, ?_⟩
    rw [List.getD_eq_getElem?_getD, List.getElem?_append_right (Nat.le_refl _), Nat.sub_self]
    exact ⟨(hu0.below hab).kept r2 r4', hy⟩
end
section
variable {gf gd : Nat} {nb ob : Option Nat} {K : TurnK} {pre : List Nat} {p : DkS} {w w' : World}
theorem LoY.grown {base : Nat} {v : Value} {L : List (List Nat)} (h : LoY w base v L) (hf : Fv w gf gd nb ob K pre p) (hg : w.grownBy w' (some gd)) (hne : gd < base) : LoY w' base v L :=
  h.old hg (fun k e => by injection e with e; omega)
def OpenOk3 (w : World) (gf : Nat) (nb' ob' : Option Nat) (L : List (List Nat)) (e : Ending) (w' : World) : Prop :=
  ∃ gj v, e = .returned (.tuple #[.pointer (some ⟨gj, 0, none⟩), v, .int .i64 0]) ∧ Jo w' gj gf L.length (ofs L L.length) false ∧ LoY w' w.heap.size v L ∧ w.heap.size ≤ gj ∧ ∀ k, v.ownBlock = some k → nb' ≠ some k ∧ ob' ≠ some k
set_option maxRecDepth 100000 in
set_option maxHeartbeats 16000000 in
theorem jopen_told3 {L : List (List Nat)} {r : List Nat} (h : Fv w gf gd nb ob K pre p) (ho : p.pre.1 = none) (ht : Told p.now L r) :
    Calls Tryz.prog 8 #[.pointer (some ⟨gf, 0, none⟩)] w fun e w' => ∃ nb' ob', Fv w' gf gd nb' ob' K pre (openD p L r).2 ∧ (New w nb nb' ∨ New w ob nb') ∧ (New w nb ob' ∨ New w ob ob') ∧ w.grownBy w' (some gd) ∧
      (((openD p L r).1 = 0 ∧ OpenOk3 w gf nb' ob' L e w') ∨ ((openD p L r).1 ≠ 0 ∧ e = .returned (.tuple #[.pointer none, .slice none 0 0, .int .i64 (openD p L r).1]))) := by
  have H := Lib.hid h
  have kc := fun (w : World) (C : Array Value) (n c : Nat) => Lib.run_convert_bytes_const (P := Tryz.prog) w 22 5 C n c Tryz.underlying22 Tryz.underlying5
  have hpf : pfx txt p.now = true := by
    unfold pfx
    exact List.isPrefixOf_iff_prefix.2 ⟨_, ht.eq.symm⟩
  have hopn := opn_go ho
  have hrl : readL p 0 p.now.length = p.now := by unfold readL; rw [if_pos ho, List.drop_zero, List.take_length]
  have HPF := Lib.hid hpf
  have HRL := Lib.hid hrl
  have HLM := Lib.hid h.len
  have HT := Lib.hid ht
  clear h hrl hpf ht
  skip
  go_enter Tryz.func8, Tryz.ntmps8
  go_wp2_with fail
  refine (jnone_any H.out).mono ?_
  rintro e w1 ⟨rfl, hb⟩
  have HB := Lib.hid hb
  clear hb
  go_wp2_with fail
  refine (vsize_any (H.out.below HB.out)).mono ?_
  rintro e w2 ⟨rfl, hb⟩
  have HB2 := Lib.hid (HB.out.trans (hb.mono HB.out.size))
  clear hb
  go_wp2_with fail
  have hr := vread_any (H.out.below HB2.out) p.now.length rfl
  change Calls _ _ _ _ (fun e w' => ∃ (A : Option Addr) (c : Nat) (L : List Nat), e = .returned (.tuple #[.slice A L.length c, .int .i64 (opn p)]) ∧ _ ∧ (opn p = 0 → _) ∧ _) at hr
  rw [hopn] at hr
  refine hr.mono ?_
  clear hr hopn
  rintro e w3 ⟨A, c, L, rfl, q1, q2, -, q4, q5, q6⟩
  obtain rfl : L = p.now := (q2 rfl).trans HRL.out
  obtain ⟨LN, hln⟩ : ∃ LN, LN = p.now.length := ⟨_, rfl⟩
  rw [← hln] at q6 ⊢
  have HLN := Lib.hid hln
  have HR := Lib.hid q1
  have HC := Lib.hid q6
  have Q4 := Lib.hid q4
  have Q5 := Lib.hid (nil_grown (grown_of_below HB2.out _) q5)
  clear q1 q2 q4 q5 q6 hln
  go_wp2_with (first
    | (refine wpList_buildFlat rfl 22 5 21 _ rfl .u8 txt Tryz.underlying22 (by kernel_rfl) (by kernel_rfl) rfl (by decide) (by decide) rfl ?_)
    | (refine wpList_conv_const rfl (.tmp 25) rfl (bs txt).toArray 21 21 rfl ?_))
  clear kc
  have HB4 : Hid (Below w3.heap.size w3 (w3.alloc (.cells (bs txt).toArray 5 (21, 21 + 1)))) := (Below.refl _ _).alloc (Nat.le_refl _) _
  have hr4 := HR.out.below HB4.out
  refine (hasp_any A (some ⟨w3.heap.size, 0, none⟩) LN 21 c 21 p.now txt _ HLN.out rfl HC.out hr4 (constW_rd w3 5 txt txt_lt _)).mono ?_
  rw [HPF.out]
  rintro e w' ⟨rfl, rfl⟩
  have q4 := Q4.out.below HB4.out
  have q5 : w.grownBy _ (some gd) := nil_grown Q5.out (grown_of_below HB4.out _)
  clear HR Q4 Q5 HB2 HB HB4 H
  generalize (w3.alloc (.cells (bs txt).toArray 5 (21, 21 + 1))) = w4 at *
  have HR := Lib.hid hr4
  have Q4 := Lib.hid q4
  have Q5 := Lib.hid q5
  clear hr4 q4 q5
  have hlc := HC.out
  have hl21 : 21 ≤ LN := by rw [HLN.out, HT.out.length]; have := ofs_big HT.out.good (Nat.le_refl L.length); omega
  have b1 : (21 : Int) ≤ LN := by omega
  have b2 : (21 : Int) ≤ c := by omega
  have b3 : 21 ≤ c := by omega
  have hjo : Jo (w4.alloc (.cells #[.pointer (some ⟨gf, 0, none⟩), .int .i64 0, .int .i64 21, .bool false] 70)) w4.heap.size gf 0 21 false := ⟨_, heap_alloc_new w4 _, rfl, fun i hi => by
    match i, hi with
    | 0, _ => rfl
    | 1, _ => rfl
    | 2, _ => rfl
    | 3, _ => rfl⟩
  have hba : Below w4.heap.size w4 (w4.alloc (.cells #[.pointer (some ⟨gf, 0, none⟩), .int .i64 0, .int .i64 21, .bool false] 70)) := (Below.refl _ _).alloc (Nat.le_refl _) _
  have HJO := Lib.hid hjo
  have HBA := Lib.hid hba
  have hrx := HR.out.below hba
  have HRX := Lib.hid hrx
  clear hjo hba hrx
  go_upto_region 10 with fail
  go_cut [9, 10] (fun s9 s10 wx => OneV wx (oneJ (p.now.drop 21) 1) s9 s10 ∧ Below (w4.heap.size + 1) (w4.alloc (.cells #[.pointer (some ⟨gf, 0, none⟩), .int .i64 0, .int .i64 21, .bool false] 70)) wx)
  case first =>
    have hdl : (p.now.drop 21).length = LN - 21 := by rw [List.length_drop, ← HLN.out]
    have hd5 : (p.now.drop 21).length ≤ 5000000 := by have := HLM.out; rw [List.length_drop]; omega
    by_cases hc21 : c = 21
    · subst hc21
      have hd0 : 0 = (p.now.drop 21).length := by omega
      have HD0 := Lib.hid hd0
      have HRE := Lib.hid (rd_drop_same HRX.out 21 (by rw [← HLN.out]; omega))
      clear hd0 hdl hd5
      go_wp2_with fail
      refine (one_any A 0 0 (p.now.drop 21) 1 _ HD0.out (by have := HD0.out; omega) (Nat.le_refl _) (by omega) HRE.out).mono ?_
      rintro e w5 ⟨hb, ⟨hn, vx, rfl⟩ | ⟨body, A', c', hn, rfl, hc', hr'⟩⟩
      · have HN := Lib.hid hn
        have HB := Lib.hid (hb.mono (by rw [World.size_alloc]; exact Nat.le_refl _))
        clear hn hb
        go_wp2_with fail
        go_meet
        exact ⟨.inl ⟨HN.out, rfl⟩, HB.out⟩
      · have HN := Lib.hid hn
        have HB := Lib.hid (hb.mono (by rw [World.size_alloc]; exact Nat.le_refl _))
        have HR' := Lib.hid hr'
        clear hn hb hr'
        go_wp2_with fail
        go_meet
        exact ⟨.inr ⟨body, A', c', HN.out, rfl, rfl, hc', HR'.out⟩, HB.out⟩
    · have HD0 := Lib.hid hdl
      have HD5 := Lib.hid hd5
      have HRE := Lib.hid (rd_drop_on HRX.out 21)
      clear hdl hd5
      go_wp2_with fail
      refine (one_any _ (LN - 21) (c - 21) (p.now.drop 21) 1 _ HD0.out.symm HD5.out (by omega) (by omega) HRE.out).mono ?_
      rintro e w5 ⟨hb, ⟨hn, vx, rfl⟩ | ⟨body, A', c', hn, rfl, hc', hr'⟩⟩
      · have HN := Lib.hid hn
        have HB := Lib.hid (hb.mono (by rw [World.size_alloc]; exact Nat.le_refl _))
        clear hn hb
        go_wp2_with fail
        go_meet
        exact ⟨.inl ⟨HN.out, rfl⟩, HB.out⟩
      · have HN := Lib.hid hn
        have HB := Lib.hid (hb.mono (by rw [World.size_alloc]; exact Nat.le_refl _))
        have HR' := Lib.hid hr'
        clear hn hb hr'
        go_wp2_with fail
        go_meet
        exact ⟨.inr ⟨body, A', c', HN.out, rfl, rfl, hc', HR'.out⟩, HB.out⟩
  case rest =>
    obtain ⟨hov, hbx⟩ := hcut
    have hbx' : Below w4.heap.size w4 wc := HBA.out.trans (hbx.mono (Nat.le_succ _))
    have hj : Jo wc w4.heap.size gf 0 21 false := below_row hbx HJO.out (Nat.lt_succ_self _)
    have HJ0 := Lib.hid hj
    have HV0 := Lib.hid hov
    have HB0 := Lib.hid hbx'
    clear hov hbx hbx' hj HJO HBA HRX
    go_wp2_with fail
    go_loopw [8, 9, 10] (fun v8 v9 v10 wr => ∃ i, i ≤ L.length ∧ Jo wr w4.heap.size gf i (ofs L i) false ∧ LoY wr (w4.heap.size + 1) v8 (L.take i) ∧ OneV wr (oneJ (p.now.drop (ofs L i)) (i + 1)) v9 v10 ∧ Below w4.heap.size w4 wr) (fun _ _ _ wr => L.length + 1 - (intOf ((wr.cell? ⟨w4.heap.size, 1, none⟩).getD (.int .i64 0))).toNat)
    case atStart => exact ⟨0, Nat.zero_le _, HJ0.out, LoY.nil _ _, HV0.out, HB0.out⟩
    case round =>
      obtain ⟨i, hi, hj, hlo, hov, hb⟩ := hrel
      have HJ := Lib.hid hj
      have HLO := Lib.hid hlo
      have HB := Lib.hid hb
      obtain ⟨c0, c1, c2, -⟩ := hj.c
      have hgl : w4.heap.size < wr.heap.size := block_lt_of_cell c0
      have HC1 := Lib.hid c1
      clear hj hlo hb HJ0 HV0 HB0
      rcases hov with ⟨hn, rfl⟩ | ⟨body, A', c', hn, rfl, rfl, hc', hr'⟩
      · have hiL : i = L.length := by
          rcases Nat.lt_or_ge i L.length with h | h
          · have := HT.out.next h; rw [hn] at this; cases this
          · omega
        subst hiL
        have hlen := HT.out.length
        obtain ⟨e0, he0⟩ : ∃ e0, e0 = ofs L L.length := ⟨_, rfl⟩
        rw [← he0] at c2
        rw [← he0, ← HLN.out] at hlen
        have HE0 := Lib.hid he0
        have hsz := Q5.out.size
        have hlo := HLO.out
        rw [List.take_length] at hlo
        have HLO2' := Lib.hid hlo
        have HLO2 := Lib.hid (hlo.mono (show w.heap.size ≤ w4.heap.size + 1 by omega))
        have HSEP : Hid (∀ k, u8.ownBlock = some k → nb ≠ some k ∧ ob ≠ some k) := fun k e => ⟨fun e2 => by have := (hlo.lt k e).1; have := Q4.out.nl.1 k e2; omega, fun e2 => by have := (hlo.lt k e).1; have := Q4.out.nl.2 k e2; omega⟩
        have HFW := Lib.hid (Q4.out.below HB.out)
        have HGW := Lib.hid (nil_grown Q5.out (grown_of_below HB.out (some gd)))
        have hgd := Q4.out.lt
        have hlm := HLM.out
        have HSI := Lib.hid hsz
        have HN := Lib.hid hn
        clear hi hn he0 hlo c0 c1 hsz
        by_cases hr0 : r = []
        · have hee : e0 = LN := by rw [hlen, hr0]; rfl
          have HR0 := Lib.hid hr0
          have HEE := Lib.hid hee
          have hbb : ((e0 : Int) == LN) = true := by rw [hee]; exact beq_self_eq_true _
          clear hlen hr0 hee
          go_wp2_with fail
          go_ret3
          have hod : openD p L r = (0, p.pre.2) := if_pos HR0.out
          rw [hod]
          exact ⟨nb, ob, HFW.out, .inl (.inl rfl), .inr (.inl rfl), HGW.out, .inl ⟨rfl, w4.heap.size, u8, rfl, HJ.out, HLO2.out, HSI.out, HSEP.out⟩⟩
        · have hr1 : 0 < r.length := List.length_pos_iff.2 hr0
          have hbb : ((e0 : Int) == LN) = false := by rw [beq_eq_false_iff_ne]; omega
          have HLE := Lib.hid (show e0 ≤ LN by omega)
          have HR0 := Lib.hid hr0
          clear hlen hr0 hr1
          go_wp2_with fail
          refine (jback_any HJ.out HFW.out (by rw [← HE0.out, p.pre_keeps.2.1, ← HLN.out]; exact HLE.out)).mono ?_
          rintro e w5 ⟨x, rfl, hva, hx⟩
          have HX := Lib.hid hx
          have hod : openD p L r = backD p.pre.2 (ofs L L.length) := if_neg HR0.out
          have HOD := Lib.hid hod
          obtain ⟨nb5, ob5, hf5, hn5, ho5, hgr⟩ := hva
          have HF5 := Lib.hid hf5
          have HN5 := Lib.hid (new_two (.inl (.inl rfl)) (.inr (.inl rfl)) HGW.out.size hn5)
          have HO5 := Lib.hid (new_two (.inl (.inl rfl)) (.inr (.inl rfl)) HGW.out.size ho5)
          have HSP5 : Hid (∀ k, u8.ownBlock = some k → nb5 ≠ some k ∧ ob5 ≠ some k) := fun k e => ⟨new_not hn5 (HSEP.out k e).1 (HSEP.out k e).2 (HLO2'.out.lt k e).2, new_not ho5 (HSEP.out k e).1 (HSEP.out k e).2 (HLO2'.out.lt k e).2⟩
          have HGR := Lib.hid hgr
          clear hx hod hf5 hn5 ho5 hgr
          by_cases hx0 : x = 0
          · subst hx0
            go_wp2_with fail
            go_ret3
            rw [HOD.out]
            exact ⟨nb5, ob5, HF5.out, HN5.out, HO5.out, nil_grown HGW.out HGR.out, .inl ⟨HX.out.symm, w4.heap.size, u8, rfl, HJ.out.grown HFW.out HGR.out, LoY.mono (HLO2'.out.grown HFW.out HGR.out (by omega)) (by have := HSI.out; omega), HSI.out, HSP5.out⟩⟩
          · have hxb : (x != 0) = true := by rw [bne_iff_ne]; exact hx0
            have HX0 := Lib.hid hx0
            clear hx0
            go_wp2_with fail
            go_ret3
            rw [HOD.out, ← HX.out]
            exact ⟨nb5, ob5, HF5.out, HN5.out, HO5.out, nil_grown HGW.out HGR.out, .inr ⟨HX0.out, rfl⟩⟩
      · have hiL : i < L.length := by
          rcases Nat.lt_or_ge i L.length with h | h
          · exact h
          · obtain rfl : i = L.length := by omega
            rw [HT.out.last] at hn; cases hn
        have hbody : body = L.getD i [] := by have := HT.out.next hiL; rw [hn] at this; injection this
        obtain ⟨n, hbn⟩ : ∃ n, n = body.length := ⟨_, rfl⟩
        have hgood : GoodB body := by rw [hbody]; exact HT.out.good _ (getD_mem hiL)
        have hbig := ofs_big HT.out.good (show i + 1 ≤ L.length by omega)
        have hat := (HT.out.at (show i + 1 ≤ L.length by omega)).2
        have hsc := ofs_succ hiL
        rw [← hbody, ← hbn] at hsc
        rw [← HLN.out] at hat
        obtain ⟨e0, he0⟩ : ∃ e0, e0 = ofs L i := ⟨_, rfl⟩
        obtain ⟨e1, he1⟩ : ∃ e1, e1 = ofs L (i + 1) := ⟨_, rfl⟩
        obtain ⟨i1, hi1⟩ : ∃ i1, i1 = i + 1 := ⟨_, rfl⟩
        obtain ⟨m, hm⟩ : ∃ m, m = 54 + n := ⟨_, rfl⟩
        rw [← he0] at c2
        rw [← he0, ← he1] at hsc
        rw [← he1] at hat hbig
        have hlm := HLM.out
        have hLN5 : LN ≤ 4194304 := by rw [HLN.out]; omega
        have hn1 : n ≤ 1048576 := by rw [hbn]; exact hgood.2
        have k1 : IntKind.i64.wrap ((i : Int) + 1) = (i1 : Int) := by rw [IntKind.wrap_i64]; omega
        have k2 : IntKind.i64.wrap ((e0 : Int) + (m : Int)) = (e1 : Int) := by rw [IntKind.wrap_i64]; omega
        have HBN := Lib.hid hbn
        have HBO := Lib.hid hbody
        have HE0 := Lib.hid he0
        have HE1 := Lib.hid he1
        have HI1 := Lib.hid hi1
        have HM := Lib.hid hm
        have HR' := Lib.hid hr'
        rw [← hbn] at hc'
        clear hn hgood hsc hbn hbody he0 he1 hi1 hm hr' hlm
        go_wp2_with fail
        refine (bclone_any A' _ c' body wr (by first | exact HBN.out | rfl) (by have := HBN.out; omega) HR'.out).mono ?_
        rintro e w5 ⟨vb, rfl, hob, hb5⟩
        have HLO5 := Lib.hid (HLO.out.below hb5)
        have HJ5 := Lib.hid (HJ.out.below hb5)
        have HB5 := Lib.hid (HB.out.trans (hb5.mono HB.out.size))
        have hyu : Yu (w4.heap.size + 1) vb := yu_ow hob hgl
        have HYU := Lib.hid hyu
        have hbod : Bod w5 _ vb body := bod_ow hob (fun k e => (HLO.out.lt k e).2)
        have HBOD := Lib.hid hbod
        have hgl5 := Nat.lt_of_lt_of_le hgl hb5.size
        clear hob hb5 hyu hbod HLO HJ HB c0 c1 c2
        have hbd := HBOD.out
        obtain ⟨Ab, cb, rfl, hb1, hb2, hb3, hb4⟩ := hbd
        have HB1 := Lib.hid hb1
        clear hb1 hb2 hb3 hb4
        go_upto_region 15 with (at_builtin; refine append_bodyY (.tmp 58) (.tmp 61) rfl rfl _ _ body rfl rfl HLO5.out HBOD.out HYU.out (by rw [List.length_take]; omega) (by omega) ?_; intro v1 w6 ho6 hg6 ha6; have HJ6 := Lib.hid (show Jo w6 w4.heap.size gf i e0 false from (HE0.out ▸ HJ5.out).of_block (hg6.block _ hgl5 (fun e => by have := (HLO5.out.lt _ e.symm).1; omega))); have HO6 := Lib.hid ho6; have HB6 := Lib.hid (HB5.out.grown hg6 HB5.out.size (fun k e => by have := (HLO5.out.lt _ e).1; omega)); obtain ⟨c0, c1, c2, -⟩ := HJ6.out.c; have f1 := HJ6.out.frozen 1; clear ho6 hg6 ha6)
        have hj7 := HJ6.out.setN i1
        have ho7 := HO6.out.setOff c1 (by intro x e; cases e) (Nat.lt_succ_self _) (.int .i64 (i1 : Nat))
        have hb7 : Below w4.heap.size w4 (w6.setCell ⟨w4.heap.size, 1, none⟩ (.int .i64 (i1 : Nat))) := HB6.out.setCell (Nat.le_refl _) _
        generalize w6.setCell ⟨w4.heap.size, 1, none⟩ (.int .i64 (i1 : Nat)) = w7 at *
        obtain ⟨-, -, c2, -⟩ := hj7.c
        have f2 := hj7.frozen 2
        have HJ7 := Lib.hid hj7
        have HO7 := Lib.hid ho7
        have HB7 := Lib.hid hb7
        have hsz : ∀ W, Calls Tryz.prog 40 #[.slice A' body.length c'] W fun e w' => e = .returned (.int .i64 m) ∧ W = w' := by
          intro W
          rw [HM.out, HBN.out]
          exact size1_any A' _ c' W (by rw [← HBN.out]; omega)
        have HSZ := Lib.hid hsz
        clear hj7 ho7 hb7 hsz f1 c1 c0 HJ6 HO6 HB6
        go_region_with (first
          | (go_at_call 40; (refine (HSZ.out _).mono ?_); rintro e w' ⟨rfl, rfl⟩))
        all_goals
          have hj8 : Jo (w7.setCell ⟨w4.heap.size, 2, none⟩ (.int .i64 (e1 : Nat))).drew w4.heap.size gf i1 e1 false := HJ7.out.setE e1
          have ho8 : LoY (w7.setCell ⟨w4.heap.size, 2, none⟩ (.int .i64 (e1 : Nat))).drew (w4.heap.size + 1) v1 (List.take i L ++ [body]) := HO7.out.setOff c2 (by intro x e; cases e) (Nat.lt_succ_self _) (.int .i64 (e1 : Nat))
          have hb8 : Below w4.heap.size w4 (w7.setCell ⟨w4.heap.size, 2, none⟩ (.int .i64 (e1 : Nat))).drew := below_drewN' (HB7.out.setCell (Nat.le_refl _) _) 1
          generalize (w7.setCell ⟨w4.heap.size, 2, none⟩ (.int .i64 (e1 : Nat))).drew = w8 at *
          clear c2 f2 HJ7 HO7 HB7 HSZ
          obtain ⟨c0, c1, c2, -⟩ := hj8.c
          have hg8 := block_lt_of_cell c0
          have HJ8 := Lib.hid hj8
          have HO8 := Lib.hid ho8
          have HB8 := Lib.hid hb8
          have HRN := Lib.hid (HR.out.below hb8)
          obtain ⟨i2, hi2⟩ : ∃ i2, i2 = i1 + 1 := ⟨_, rfl⟩
          have k3 : IntKind.i64.wrap ((i1 : Int) + 1) = (i2 : Int) := by rw [IntKind.wrap_i64]; have := HI1.out; omega
          have hk2 : i2 < 4294967296 := by have := HI1.out; omega
          have HI2 := Lib.hid hi2
          have hdl : (p.now.drop e1).length = LN - e1 := by rw [List.length_drop, ← HLN.out]
          have hd5 : (p.now.drop e1).length ≤ 5000000 := by rw [hdl]; omega
          have HD5 := Lib.hid hd5
          have s1 : (e1 : Int) ≤ LN := by omega
          have s2 : (e1 : Int) ≤ c := by omega
          have s3 : e1 ≤ c := by omega
          clear hj8 ho8 hb8 hi2 c0 hd5
          by_cases hce : c = e1
          · skip
            subst hce
            have hd0 : 0 = (p.now.drop c).length := by omega
            have HD0 := Lib.hid hd0
            have HRE := Lib.hid (rd_drop_same HRN.out c (by rw [← HLN.out]; omega))
            clear hd0 hdl
            go_upto_region 12 with fail
            go_region_held3 (fun W => W.cell? ⟨w4.heap.size, 2, none⟩ = some (.int .i64 c) ∧ W.cell? ⟨w4.heap.size, 1, none⟩ = some (.int .i64 i1))
              (first | with_reducible exact ⟨c2, c1⟩ | with_reducible exact HS3.out | exact ⟨c2, c1⟩)
              (first
                | (go_at_call 38; (refine (one_v _ _ _ (p.now.drop c) i2 _ (by exact HD0.out) HD5.out (by omega) hk2 (by exact HRE.out)).mono ?_); rintro e w9 ⟨v9, b9, rfl, hv9, hb9⟩
                   have hb9' : Below w8.heap.size w8 w9 := (below_drewN' (Below.refl w8.heap.size w8) 1).trans hb9
                   have HB9 := Lib.hid hb9'
                   have HV9 := Lib.hid hv9
                   have HS3 : Hid (w9.cell? ⟨w4.heap.size, 2, none⟩ = some (.int .i64 c) ∧ w9.cell? ⟨w4.heap.size, 1, none⟩ = some (.int .i64 i1)) := ⟨(hb9'.cell (p := ⟨w4.heap.size, 2, none⟩) hg8).trans c2, (hb9'.cell (p := ⟨w4.heap.size, 1, none⟩) hg8).trans c1⟩
                   clear hb9 hb9' hv9))
            all_goals
              go_wp2_with fail
              go_roundw
              case rel =>
                have hI1 := HI1.out
                have hI2 := HI2.out
                refine ⟨i1, by omega, ?_, ?_, ?_, HB8.out.trans (HB9.out.mono HB8.out.size)⟩
                · rw [hI1, ← HE1.out, ← hI1]
                  exact HJ8.out.below HB9.out
                · rw [hI1, take_snoc hiL, ← HBO.out]
                  exact HO8.out.below HB9.out
                · rw [← hI2]
                  rw [hI1, ← HE1.out]
                  exact HV9.out
              case measure =>
                have hI1 := HI1.out
                rw [HS3.out.2, HC1.out]
                show L.length + 1 - ((i1 : Int)).toNat < L.length + 1 - ((i : Int)).toNat
                omega
          · have hd0 : LN - e1 = (p.now.drop e1).length := hdl.symm
            have HD0 := Lib.hid hd0
            have HRE := Lib.hid (rd_drop_add HRN.out e1)
            clear hd0 hdl
            go_upto_region 12 with fail
            go_region_held3 (fun W => W.cell? ⟨w4.heap.size, 2, none⟩ = some (.int .i64 e1) ∧ W.cell? ⟨w4.heap.size, 1, none⟩ = some (.int .i64 i1))
              (first | with_reducible exact ⟨c2, c1⟩ | with_reducible exact HS3.out | exact ⟨c2, c1⟩)
              (first
                | (go_at_call 38; (refine (one_v _ _ _ (p.now.drop e1) i2 _ (by exact HD0.out) HD5.out (by omega) hk2 (by exact HRE.out)).mono ?_); rintro e w9 ⟨v9, b9, rfl, hv9, hb9⟩
                   have hb9' : Below w8.heap.size w8 w9 := (below_drewN' (Below.refl w8.heap.size w8) 1).trans hb9
                   have HB9 := Lib.hid hb9'
                   have HV9 := Lib.hid hv9
                   have HS3 : Hid (w9.cell? ⟨w4.heap.size, 2, none⟩ = some (.int .i64 e1) ∧ w9.cell? ⟨w4.heap.size, 1, none⟩ = some (.int .i64 i1)) := ⟨(hb9'.cell (p := ⟨w4.heap.size, 2, none⟩) hg8).trans c2, (hb9'.cell (p := ⟨w4.heap.size, 1, none⟩) hg8).trans c1⟩
                   clear hb9 hb9' hv9))
            all_goals
              go_wp2_with fail
              go_roundw
              case rel =>
                have hI1 := HI1.out
                have hI2 := HI2.out
                refine ⟨i1, by omega, ?_, ?_, ?_, HB8.out.trans (HB9.out.mono HB8.out.size)⟩
                · rw [hI1, ← HE1.out, ← hI1]
                  exact HJ8.out.below HB9.out
                · rw [hI1, take_snoc hiL, ← HBO.out]
                  exact HO8.out.below HB9.out
                · rw [← hI2]
                  rw [hI1, ← HE1.out]
                  exact HV9.out
              case measure =>
                have hI1 := HI1.out
                rw [HS3.out.2, HC1.out]
                show L.length + 1 - ((i1 : Int)).toNat < L.length + 1 - ((i : Int)).toNat
                omega
end
end Go.Proofs.YtlhbijpmhokmnaaGreat
