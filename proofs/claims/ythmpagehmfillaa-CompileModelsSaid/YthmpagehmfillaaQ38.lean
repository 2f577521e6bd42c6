/-
  THE WALK OF compile.Stmts. Conditions: an Op is a byte; at most 3000 statements.
  WHAT IS PARSED IS A RIGHT TREE. Plain. Conditions: none.
-/
import Derived.Test.YthmpagehmfillaaQ37
import Derived.Test.YthmpagehmfillaaQ26
import Derived.Test.YthmpagehmfillaaQ22
import Derived.Test.YthmpagehmfillaaQ29
namespace Go.Proofs.Ythmpagehmfillaa
open Go.RowKit
set_option linter.unusedSimpArgs false
set_option linter.unusedVariables false
set_option maxRecDepth 100000
/-- What the code of statements comes to. -/
def StmP (post : Bool) (T : Sts) (w : World) (e : Ending) (w' : World) : Prop := ∃ u, e = .returned (.tuple #[u, .int .i64 (stmtsE post T)]) ∧ Ow w' w.heap.size u (stmtsC post T) ∧ Below w.heap.size w w'
theorem stmP_no {post : Bool} {T : Sts} {w w' : World} {k : Nat} (hk : stmtsE post T = k) (h0 : k ≠ 0) (hb : Below w.heap.size w w') : StmP post T w (.returned (.tuple #[.slice none 0 0, .int .i64 k])) w' := by
  refine ⟨_, by rw [hk], ?_, hb⟩
  unfold stmtsC
  rw [hk, if_neg h0]
  exact Ow.nil _ _
theorem mk_new {B : Nat} (w : World) (hB : B ≤ w.heap.size) : MkR (fun k => k < B) (w.alloc (.cells #[.slice none 0 0] 83)) w.heap.size [] :=
  ⟨⟨.slice none 0 0, one_row, ⟨Ow.nil _ _, (fun k _ e => (by cases e)), fun k (hk : k < B) => (by rw [World.size_alloc]; omega)⟩, (fun e => (by cases e))⟩, by omega⟩
set_option maxHeartbeats 8000000 in
theorem stmts_any (post : Bool) (T : Sts) (v : Value) (S : Nat → Prop) (w : World) (h8 : T.b8) (hn : T.all ≤ 3000) (hT : Tr w S v T) :
    Calls Try.prog 11 #[v, .bool post] w (StmP post T w) := by
  have HR := Lib.hid (rightT_any post T v S w h8 (by omega) hT)
  have HT := Lib.hid (hT.mono (S' := fun k => k < w.heap.size) (fun k _ hk => hk))
  have HX := Lib.hid (And.intro h8 hn)
  obtain ⟨A1, c1, rfl, -, -⟩ := hT.frm
  obtain ⟨r, hr⟩ : ∃ r, r = rightT post T := ⟨_, rfl⟩
  rw [← hr] at HR
  obtain ⟨z, hz⟩ : ∃ z, z = stmtsE post T := ⟨_, rfl⟩
  have hz' := hz
  unfold stmtsE at hz'
  rw [← hr] at hz'
  have HZ := Lib.hid hz
  have HZ' := Lib.hid (show (r = false → z = 124) ∧ (r = true → 4096 ≤ sizeT T → z = 3) ∧ (r = true → ¬ 4096 ≤ sizeT T → z = 0) from ⟨fun h => (by rw [hz', if_pos h]), fun h h4 => (by rw [hz', if_neg (by rw [h]; decide), if_pos h4]), fun h h4 => (by rw [hz', if_neg (by rw [h]; decide), if_neg h4])⟩)
  clear h8 hn hT hr hz hz'
  go_enter Try.func11, Try.ntmps11
  go_wp2_with fail
  refine HR.out.mono ?_
  rintro e w1 ⟨rfl, hb1⟩
  have HB1 := Lib.hid hb1
  clear hb1 HR
  cases r with
  | false =>
    go_wp2_with fail
    go_ret2
    exact stmP_no (by rw [← HZ.out, HZ'.out.1 (by first | trivial | rfl)]) (by decide) HB1.out
  | true =>
    have hLN := length_any _ T _ _ w1 (Nat.lt_succ_self _) (by have := HX.out; omega) HX.out.1 (HT.out.below HB1.out)
    have hsl := sizeT_le T
    generalize sizeT T = n at *
    have HLN := Lib.hid hLN
    clear hLN
    go_wp2_with fail
    refine HLN.out.mono ?_
    rintro e w2 ⟨rfl, hb2⟩
    have HB2 := Lib.hid (HB1.out.trans (hb2.mono HB1.out.size))
    clear hb2 HLN
    by_cases h4 : 4096 ≤ n
    · have i4 : (4096 : Int) ≤ (n : Int) := by omega
      have H4 := Lib.hid h4
      clear h4
      go_wp2_with fail
      go_ret2
      exact stmP_no (by rw [← HZ.out, HZ'.out.2.1 (by first | trivial | rfl) H4.out]) (by decide) HB2.out
    · have i4 : ¬ (4096 : Int) ≤ (n : Int) := by omega
      have H4 := Lib.hid h4
      have hbn : Below w2.heap.size w2 (w2.alloc (.cells #[.slice none 0 0] 83)) := (Below.refl _ _).alloc (Nat.le_refl _) _
      have HB3 := Lib.hid (HB2.out.trans (hbn.mono HB2.out.size))
      have HM3 := Lib.hid (mk_new w2 HB2.out.size)
      have HLS := Lib.hid (list_any (T.all + 1) T _ _ _ _ _ _ (Nat.lt_succ_self _) HX.out.2 HX.out.1 (HT.out.below HB3.out) (fun k hk => hk) HM3.out (by have := HX.out; show 0 + _ ≤ _; omega))
      clear h4 hbn
      go_wp2_with fail
      refine HLS.out.mono ?_
      rintro e w4 ⟨rfl, hm4, hk4⟩
      have HPS := Lib.hid (show Calls Try.prog 27 #[.pointer (some ⟨w2.heap.size, 0, none⟩), .agg #[.int .u8 0, .int .i64 0, .int .i64 0, .int .i64 0]] w4 fun e w' => e = .returned (.tuple #[]) ∧ MkR (fun k => k < w.heap.size) w' w2.heap.size (putO (genO T []) i0) ∧ Kep (fun k => k < w.heap.size) w4 w' from put_m i0 (by decide) _ w4 hm4 (by have := (genO_len T []).2; have := HX.out; simp only [List.length_nil] at *; omega))
      have HK4 := Lib.hid hk4
      clear hm4 hk4 HLS
      go_wp2_with fail
      refine HPS.out.mono ?_
      rintro e w5 ⟨rfl, hm5, hk5⟩
      have hk5' := HK4.out.trans hk5
      have hb5 : Below w.heap.size w w5 := HB3.out.trans (hk5'.bel (fun k hk => hk) HB3.out.size)
      obtain ⟨v5, hr5, ho5, -⟩ := hm5.ex
      have hc5 := hr5.cell (show 0 < 1 by omega)
      have HO5 := Lib.hid (ho5.above (B := w.heap.size) (fun k hk => hk))
      have HB5 := Lib.hid hb5
      clear hm5 hk5 hk5' hb5 hr5 ho5 HPS
      go_wp2_with fail
      go_ret2
      have hE : stmtsE post T = 0 := by rw [← HZ.out, HZ'.out.2.2 (by first | trivial | rfl) H4.out]
      refine ⟨v5, by rw [hE]; rfl, ?_, HB5.out⟩
      unfold stmtsC
      rw [hE, if_pos rfl]
      exact HO5.out
end Go.Proofs.Ythmpagehmfillaa
namespace Go.Proofs.Ythmpagehmfillaa
set_option linter.unusedSimpArgs false
set_option linter.unusedVariables false
theorem num_ok {m : Nat} {l l' : List Tok} {n : Nat} (h : num m l = .ok (n, l')) : n ≤ m := by
  unfold num at h
  split at h
  · split at h
    · cases h
    · injection h with h; injection h with h1 h2; omega
  · cases h
theorem look_val {L : List (List Nat × Nat)} {s : List Nat} {k : Nat} {p : Nat → Prop} (h : look L s = some k) (hp : ∀ x ∈ L, p x.2) : p k := by
  unfold look at h
  cases hf : L.find? (fun x => x.1 == s) with
  | none => rw [hf] at h; cases h
  | some x =>
    rw [hf] at h
    simp only [Option.map_some, Option.some.injEq] at h
    rw [← h]
    exact hp x (List.mem_of_find?_eq_some hf)
theorem place_ok {l l' : List Tok} {n : Nat} (h : place l = .ok (n, l')) : n ≤ 6 := by
  unfold place at h
  split at h
  · split at h
    · rename_i k hk
      injection h with h; injection h with h1 h2
      have := look_val (p := fun x => x ≤ 3) hk (by decide)
      omega
    · cases h
  · split at h
    · rename_i k hk
      injection h with h; injection h with h1 h2
      have := look_val (p := fun x => x ≤ 3) hk (by decide)
      omega
    · cases h
def OpOk (x : Nat × Nat) : Prop := (x.1 = 7 ∧ x.2 ≤ 255) ∨ (x.1 ≤ 6 ∧ x.2 = 0)
theorem operand_ok {l l' : List Tok} {x : Nat × Nat} (h : operand l = .ok (x, l')) : OpOk x := by
  unfold operand at h
  split at h
  · split at h
    · rename_i n l2 hn
      injection h with h; injection h with h1 h2
      have := num_ok hn
      subst h1
      exact .inl ⟨rfl, this⟩
    · cases h
  · split at h
    · rename_i n l2 hn
      injection h with h; injection h with h1 h2
      have := place_ok hn
      subst h1
      exact .inr ⟨this, rfl⟩
    · cases h
theorem ri_op {o : Nat} (h1 : 8 ≤ o) (h2 : o ≤ 21) {x : Nat × Nat} (h : OpOk x) : rightI o 0 x.1 x.2 = true := by
  have e : shp o = ⟨true, -1, false, true, false, false, false⟩ := by
    unfold shp
    rw [if_neg (by omega), if_neg (by omega), if_neg (by omega), if_neg (by omega), if_pos (by omega)]
  unfold rightI
  rw [e]
  rcases h with ⟨a, b⟩ | ⟨a, b⟩
  · rw [a]; simp [rightX, inI]; omega
  · rw [b]
    have : ¬ x.1 = 7 := by omega
    simp [rightX, inI, this]; omega
theorem condP_ok {l l' : List Tok} {c : ConS} (h : cond l = .ok (c, l')) : condS c = true ∧ c.i.o < 256 := by
  unfold cond at h
  simp only [] at h
  split at h
  · cases h
  · split at h
    · cases h
    · rename_i o ho
      split at h
      · cases h
      · rename_i x l2 hx
        injection h with h; injection h with h1 h2
        have h3 := look_val (p := fun x => 19 ≤ x ∧ x ≤ 21) ho (by decide)
        have h4 := ri_op (by omega : 8 ≤ o) (by omega) (operand_ok hx)
        subst h1
        refine ⟨?_, by show o < 256; omega⟩
        unfold condS
        simp only [h4, Bool.true_and, Bool.and_eq_true, decide_eq_true_eq]
        exact h3
/-- An instruction that may stand by itself. -/
def InOk (i : InsS) : Prop := plainS i true = true ∧ i.o < 256
theorem inOk {i : InsS} (h : rightI i.o i.d i.s i.n = true) (h1 : i.o ≠ 0) (h2 : i.o < 27) (h3 : ¬ (19 ≤ i.o ∧ i.o ≤ 21)) : InOk i := by
  refine ⟨?_, by omega⟩
  unfold plainS
  simp only [h, Bool.true_and, Bool.true_or, Bool.and_true, Bool.and_eq_true, Bool.not_eq_true', decide_eq_false_iff_not, Bool.and_eq_false_iff]
  refine ⟨⟨h1, by omega⟩, ?_⟩
  by_cases h4 : 19 ≤ i.o
  · exact .inr (by omega)
  · exact .inl h4
theorem onP2_ok {d : Nat} {l l' : List Tok} {i : InsS} (hd6 : d ≤ 6) (h : onP2 d l = .ok (i, l')) : InOk i := by
  unfold onP2 at h
  split at h
  · injection h with h; injection h with h1 h2; subst h1
    exact inOk (by simp [rightI, shp, rightX, inI]; omega) (by simp) (by simp) (by simp)
  split at h
  · injection h with h; injection h with h1 h2; subst h1
    exact inOk (by simp [rightI, shp, rightX, inI]; omega) (by simp) (by simp) (by simp)
  split at h
  · rename_i hq
    split at h
    · cases h
    · rename_i x l2 hx
      injection h with h; injection h with h1 h2
      obtain ⟨o, ho⟩ := Option.isSome_iff_exists.1 hq.1
      rw [ho] at h1
      have h3 := look_val (p := fun x => 8 ≤ x ∧ x ≤ 18) ho (by decide)
      have h4 := ri_op (by omega : 8 ≤ o) (by omega) (operand_ok hx)
      subst h1
      exact inOk h4 (by show o ≠ 0; omega) (by show o < 27; omega) (by show ¬ (19 ≤ o ∧ o ≤ 21); omega)
  split at h
  · split at h
    · split at h
      · cases h
      · rename_i n l2 hn
        injection h with h; injection h with h1 h2; subst h1
        have := num_ok hn
        exact inOk (by simp [rightI, shp, rightX, inI]; omega) (by simp) (by simp) (by simp)
    split at h
    · rename_i hq
      split at h
      · cases h
      · rename_i n l2 hn
        injection h with h; injection h with h1 h2; subst h1
        have := num_ok hn
        exact inOk (by simp [rightI, shp, rightX, inI]; omega) (by simp) (by simp) (by simp)
    · split at h
      · cases h
      · rename_i n l2 hn
        injection h with h; injection h with h1 h2; subst h1
        have := place_ok hn
        exact inOk (by simp [rightI, shp, rightX, inI]; omega) (by simp) (by simp) (by simp)
  · cases h
theorem onPlace_ok {l l' : List Tok} {i : InsS} (h : onPlace l = .ok (i, l')) : InOk i := by
  unfold onPlace at h
  split at h
  · cases h
  · rename_i d l2 hd
    exact onP2_ok (place_ok hd) h
theorem store_ok {l l' : List Tok} {i : InsS} (h : store l = .ok (i, l')) : InOk i := by
  unfold store at h
  split at h
  · cases h
  · rename_i n l2 hn
    split at h
    · cases h
    · split at h
      · cases h
      · injection h with h; injection h with h1 h2; subst h1
        have := num_ok hn
        exact inOk (by simp [rightI, shp, rightX, inI]; omega) (by simp) (by simp) (by simp)
theorem una_ok {o : Nat} {l l' : List Tok} {i : InsS} (ho : 5 ≤ o ∧ o ≤ 7) (h : una o l = .ok (i, l')) : InOk i := by
  unfold una at h
  split at h
  · cases h
  · rename_i d l2 hd
    injection h with h; injection h with h1 h2; subst h1
    have := place_ok hd
    have h3 : o = 5 ∨ o = 6 ∨ o = 7 := by omega
    rcases h3 with rfl | rfl | rfl
    all_goals exact inOk (by simp [rightI, shp, rightX, inI]; omega) (by simp) (by simp) (by simp)
/-- Right, and so deep at most. -/
def Good (lv : Nat) (T : Sts) : Prop := dpt lv T = true ∧ alR true lv T = true ∧ T.b8
def GoodS (lv : Nat) (x : StS) : Prop := rightS true x = true ∧ x.k < 256 ∧ x.i.o < 256 ∧ x.c.i.o < 256 ∧ Good lv x.b ∧ Good lv x.e
theorem Good.nil (lv : Nat) : Good lv .nil := ⟨dpt_nil lv, alR_nil true lv, trivial⟩
theorem Good.push {lv : Nat} {x : StS} (hx : GoodS lv x) : ∀ {T : Sts}, Good (lv + 1) T → Good (lv + 1) (T.push x)
  | .nil, _ => by
    obtain ⟨h1, h2, h3, h4, ⟨a1, a2, a3⟩, ⟨b1, b2, b3⟩⟩ := hx
    refine ⟨?_, ?_, h2, h3, h4, a3, b3, trivial⟩
    · show (dpt lv x.b && dpt lv x.e && true) = true
      rw [a1, b1]; rfl
    · show (rightS true x && alR true lv x.b && alR true lv x.e && true) = true
      rw [h1, a2, b2]; rfl
  | .cons k i c b e ln r, ⟨h1, h2, h3⟩ => by
    have e1 : (dpt lv b && dpt lv e && dpt (lv + 1) r) = true := h1
    have e2 : (rightS true ⟨k, i, c, b, e, ln⟩ && alR true lv b && alR true lv e && alR true (lv + 1) r) = true := h2
    simp only [Bool.and_eq_true] at e1 e2
    obtain ⟨g1, g2, g3⟩ := Good.push hx (T := r) ⟨e1.2, e2.2, h3.2.2.2.2.2⟩
    refine ⟨?_, ?_, h3.1, h3.2.1, h3.2.2.1, h3.2.2.2.1, h3.2.2.2.2.1, g3⟩
    · show (dpt lv b && dpt lv e && dpt (lv + 1) (r.push x)) = true
      rw [e1.1.1, e1.1.2, g1]; rfl
    · show (rightS true ⟨k, i, c, b, e, ln⟩ && alR true lv b && alR true lv e && alR true (lv + 1) (r.push x)) = true
      rw [e2.1.1.1, e2.1.1.2, e2.1.2, g2]; rfl
theorem Sts.push_all (x : StS) : ∀ (T : Sts), (T.push x).all = T.all + 1 + x.b.all + x.e.all
  | .nil => by show x.b.all + x.e.all + 0 + 1 = 0 + 1 + x.b.all + x.e.all; omega
  | .cons k i c b e ln r => by
    have := Sts.push_all x r
    show b.all + e.all + (r.push x).all + 1 = b.all + e.all + r.all + 1 + 1 + x.b.all + x.e.all
    omega
/-- What a block's parser gives. -/
def BlkG (lv : Nat) (blk : Blk) : Prop := ∀ l n T l' n', blk l n = .ok (T, l', n') → n ≤ 500 → Good lv T ∧ n' = n + T.all ∧ n' ≤ 500
theorem plain_good {lv : Nat} {i : InsS} {ln : Int} (h : InOk i) : GoodS lv ⟨1, i, c0, .nil, .nil, ln⟩ := by
  refine ⟨?_, by simp, h.2, by simp [c0, i0], Good.nil _, Good.nil _⟩
  unfold rightS bareS
  simp only [if_true, h.1, Bool.and_true]
  rfl
theorem kStmt_good {lv n k n' : Nat} {t : Tok} {r : Res (InsS × List Tok)} {x : StS} {l' : List Tok} (hr : ∀ i l, r = .ok (i, l) → InOk i) (h : kStmt t n 1 r = .ok (x, l', n')) : GoodS lv x ∧ n' = n ∧ x.b = .nil ∧ x.e = .nil := by
  unfold kStmt at h
  split at h
  · cases h
  · rename_i i l2
    injection h with h; injection h with h1 h2; injection h2 with h3 h4
    subst h1
    exact ⟨plain_good (hr i l2 rfl), h4.symm, rfl, rfl⟩
theorem stmt_good {lv n n' : Nat} {deep : Bool} {blk : Blk} (hb : BlkG lv blk) {l l' : List Tok} {x : StS} (h : stmt deep blk l n = .ok (x, l', n')) : GoodS lv x ∧ n' = n + 1 + x.b.all + x.e.all ∧ n' ≤ 500 ∧ deep = false := by
  unfold stmt at h
  simp only [] at h
  split at h
  · split at h
    · cases h
    · rename_i hlim
      have hl : n + 1 ≤ 500 ∧ deep = false := by
        constructor
        · omega
        · cases deep with
          | false => rfl
          | true => exact absurd (.inr rfl) hlim
      split at h
      · rename_i o ho
        injection h with h; injection h with h1 h2; injection h2 with h3 h4
        subst h1
        have h5 := look_val (p := fun x => 24 ≤ x ∧ x ≤ 26) ho (by decide)
        have h6 : o = 24 ∨ o = 25 ∨ o = 26 := by omega
        refine ⟨plain_good ?_, by show n' = n + 1 + 0 + 0; omega, by omega, hl.2⟩
        rcases h6 with rfl | rfl | rfl
        all_goals exact inOk (by decide) (by decide) (by decide) (by decide)
      · split at h
        · rename_i o ho
          have h5 := look_val (p := fun x => 5 ≤ x ∧ x ≤ 7) ho (by decide)
          obtain ⟨a1, a2, a3, a4⟩ := kStmt_good (lv := lv) (k := 1) (fun i l hi => una_ok h5 hi) h
          rw [a3, a4]
          exact ⟨a1, by show n' = n + 1 + 0 + 0; omega, by omega, hl.2⟩
        · split at h
          · injection h with h; injection h with h1 h2; injection h2 with h3 h4
            subst h1
            refine ⟨⟨rfl, by show (4 : Nat) < 256; omega, by show (0 : Nat) < 256; omega, by show (0 : Nat) < 256; omega, Good.nil _, Good.nil _⟩, by show n' = n + 1 + 0 + 0; omega, by omega, hl.2⟩
          split at h
          · obtain ⟨a1, a2, a3, a4⟩ := kStmt_good (lv := lv) (k := 1) (fun i l hi => store_ok hi) h
            rw [a3, a4]
            exact ⟨a1, by show n' = n + 1 + 0 + 0; omega, by omega, hl.2⟩
          split at h
          · unfold ifS at h
            split at h
            · cases h
            · rename_i c l2 hc
              obtain ⟨hc1, hc2⟩ := condP_ok hc
              split at h
              · cases h
              · rename_i b l3 m hbb
                obtain ⟨g1, g2, g3⟩ := hb _ _ _ _ _ hbb hl.1
                have hrs : ∀ (e : Sts) (ln : Int), rightS true ⟨2, i0, c, b, e, ln⟩ = true := by
                  intro e ln
                  unfold rightS
                  simp [hc1]
                split at h
                · split at h
                  · cases h
                  · rename_i e l4 m2 hee
                    obtain ⟨f1, f2, f3⟩ := hb _ _ _ _ _ hee g3
                    injection h with h; injection h with h1 h2; injection h2 with h3 h4
                    subst h1
                    exact ⟨⟨hrs _ _, by show (2 : Nat) < 256; omega, by show (0 : Nat) < 256; omega, hc2, g1, f1⟩, by show n' = n + 1 + b.all + e.all; omega, by omega, hl.2⟩
                · injection h with h; injection h with h1 h2; injection h2 with h3 h4
                  subst h1
                  exact ⟨⟨hrs _ _, by show (2 : Nat) < 256; omega, by show (0 : Nat) < 256; omega, hc2, g1, Good.nil _⟩, by show n' = n + 1 + b.all + 0; omega, by omega, hl.2⟩
          split at h
          · unfold doS at h
            split at h
            · cases h
            · rename_i b l3 m hbb
              obtain ⟨g1, g2, g3⟩ := hb _ _ _ _ _ hbb hl.1
              split at h
              · cases h
              · split at h
                · cases h
                · rename_i c l2 hc
                  obtain ⟨hc1, hc2⟩ := condP_ok hc
                  injection h with h; injection h with h1 h2; injection h2 with h3 h4
                  subst h1
                  have hrs : ∀ (ln : Int), rightS true ⟨3, i0, c, b, .nil, ln⟩ = true := by
                    intro ln
                    unfold rightS
                    simp [hc1, Sts.len]
                  exact ⟨⟨hrs _, by show (3 : Nat) < 256; omega, by show (0 : Nat) < 256; omega, hc2, g1, Good.nil _⟩, by show n' = n + 1 + b.all + 0; omega, by omega, hl.2⟩
          · obtain ⟨a1, a2, a3, a4⟩ := kStmt_good (lv := lv) (k := 1) (fun i l hi => onPlace_ok hi) h
            rw [a3, a4]
            exact ⟨a1, by show n' = n + 1 + 0 + 0; omega, by omega, hl.2⟩
  · cases h
def StG (d : Nat) (st : List Tok → Nat → Res (StS × List Tok × Nat)) : Prop := ∀ l n x l' n', st l n = .ok (x, l', n') → ∃ lv, d = lv + 1 ∧ GoodS lv x ∧ n' = n + 1 + x.b.all + x.e.all ∧ n' ≤ 500
theorem loopS_good {d : Nat} {st : List Tok → Nat → Res (StS × List Tok × Nat)} (hs : StG d st) : ∀ (f : Nat) (l : List Tok) (n : Nat) (out T : Sts) (l' : List Tok) (n' : Nat), loopS st f l n out = .ok (T, l', n') → Good d out → n ≤ 500 → Good d T ∧ n' + out.all = n + T.all ∧ n' ≤ 500
  | 0, _, _, _, _, _, _, h, _, _ => by cases h
  | f + 1, l, n, out, T, l', n', h, hg, hn => by
    unfold loopS at h
    split at h
    · injection h with h; injection h with h1 h2; injection h2 with h3 h4
      subst h1
      exact ⟨hg, by omega, by omega⟩
    · split at h
      · cases h
      · rename_i x l2 m hx
        obtain ⟨lv, rfl, g1, g2, g3⟩ := hs _ _ _ _ _ hx
        obtain ⟨a1, a2, a3⟩ := loopS_good hs f _ _ _ _ _ _ h (Good.push g1 hg) g3
        rw [Sts.push_all] at a2
        exact ⟨a1, by omega, a3⟩
theorem block_good {d : Nat} {st : List Tok → Nat → Res (StS × List Tok × Nat)} (hs : StG d st) : BlkG d (block st) := by
  intro l n T l' n' h hn
  unfold block at h
  split at h
  · cases h
  · split at h
    · cases h
    · rename_i T2 l3 m hl
      split at h
      · cases h
      · injection h with h; injection h with h1 h2; injection h2 with h3 h4
        subst h1
        obtain ⟨a1, a2, a3⟩ := loopS_good hs _ _ _ _ _ _ _ hl (Good.nil d) hn
        have : Sts.nil.all = 0 := rfl
        exact ⟨a1, by omega, by omega⟩
theorem stmtD_good : ∀ (d : Nat), StG d (stmtD d)
  | 0 => by
    intro l n x l' n' h
    have := (stmt_good (lv := 0) (fun _ _ _ _ _ h _ => by cases h) h).2.2.2
    cases this
  | d + 1 => by
    intro l n x l' n' h
    obtain ⟨a1, a2, a3, -⟩ := stmt_good (block_good (stmtD_good d)) h
    exact ⟨d, rfl, a1, a2, a3⟩
theorem prog_good {l l' : List Tok} {T : Sts} (h : prog l = .ok (T, l')) : Good 20 T ∧ T.all ≤ 500 := by
  unfold prog at h
  split at h
  · cases h
  · rename_i T2 l2 n hb
    injection h with h; injection h with h1 h2
    subst h1
    obtain ⟨a1, a2, a3⟩ := block_good (stmtD_good 20) _ _ _ _ _ hb (by omega)
    exact ⟨a1, by omega⟩
theorem Good.right {T : Sts} (h : Good 20 T) (hn : T.all ≤ 500) : rightT true T = true := by
  unfold rightT
  rw [h.1, h.2.1]
  have := cnt_all 20 T
  simp only [Bool.true_and, decide_eq_true_eq]
  omega
/-- What a parsed config is. -/
def CfgG (c : CfgS) : Prop := Good 20 c.code ∧ c.code.all ≤ 500 ∧ Good 20 c.post ∧ c.post.all ≤ 500 ∧ (c.has = true ∨ (c.post = .nil ∧ c.ph = 0 ∧ c.pm = 0))
theorem endP_good {c d : CfgS} {l : List Tok} (h : endP c l = .ok d) : d = c := by
  unfold endP at h
  split at h
  · injection h with h; exact h.symm
  · cases h
theorem parseL_good {l : List Tok} {d : CfgS} (h : parseL l = .ok d) : CfgG d := by
  unfold parseL at h
  split at h
  · cases h
  split at h
  · cases h
  split at h
  · cases h
  split at h
  · cases h
  split at h
  · cases h
  split at h
  · cases h
  split at h
  · cases h
  split at h
  · cases h
  rename_i T l2 hp
  obtain ⟨g1, g2⟩ := prog_good hp
  unfold postP at h
  split at h
  · split at h
    · cases h
    split at h
    · cases h
    split at h
    · cases h
    rename_i T2 l3 hp2
    obtain ⟨f1, f2⟩ := prog_good hp2
    have := endP_good h
    subst this
    exact ⟨g1, g2, f1, f2, .inl rfl⟩
  · have := endP_good h
    subst this
    exact ⟨g1, g2, Good.nil _, Nat.zero_le _, .inr ⟨rfl, rfl, rfl⟩⟩
theorem parseT_good {s : ByteArray} {c : CfgS} (h : parseT s = .ok c) : CfgG c := by
  unfold parseT at h
  split at h
  · cases h
  · split at h
    · cases h
    · exact parseL_good h
end Go.Proofs.Ythmpagehmfillaa
