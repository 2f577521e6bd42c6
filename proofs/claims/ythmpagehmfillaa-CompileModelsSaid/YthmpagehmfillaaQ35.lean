/-
  BLOCKS THAT STAY: what a call leaves of the blocks that a predicate tells; a list of the call's own beside them. Conditions: each law's own premises.
  THE WALKS OF package compile, first part: maker's put, size, jump; reach. Conditions: an Op is a byte; code of at most 60000 bytes.
  THE WALKS OF package compile: reach, branch, one, length: how long statements' code is. Conditions: an Op is a byte; at most 2^40 statements.
-/
import Derived.Test.YthmpagehmfillaaQ03
import Derived.Test.YthmpagehmfillaaQ05
import Derived.Lib.Hide
import Derived.Test.YthmpagehmfillaaQ34
import Derived.Deep.DeepCutAuto
import Derived.Test.YthmpagehmfillaaQ23
import Derived.StillTailTactics
import Derived.Deep.QuietTactic
import Derived.BigQuiet
import Derived.Deep.RegionHeld3
import Derived.Test.YthmpagehmfillaaQ33
import Derived.Test.YthmpagehmfillaaQ25
namespace Go.Proofs.Ythmpagehmfillaa
open Go.RowKit
set_option linter.unusedSimpArgs false
set_option linter.unusedVariables false
/-- The blocks of P stand as they stood. -/
structure Kep (P : Nat → Prop) (w w' : World) : Prop where
  os : w'.os = w.os
  tape : w'.tape = w.tape
  output : w'.output = w.output
  size : w.heap.size ≤ w'.heap.size
  block : ∀ k, k < w.heap.size → P k → w'.heap[k]? = w.heap[k]?
section
variable {P Q : Nat → Prop} {w w1 w2 : World}
theorem Kep.refl (P : Nat → Prop) (w : World) : Kep P w w := ⟨rfl, rfl, rfl, Nat.le_refl _, fun _ _ _ => rfl⟩
theorem Kep.trans (h : Kep P w w1) (k : Kep P w1 w2) : Kep P w w2 :=
  ⟨k.os.trans h.os, k.tape.trans h.tape, k.output.trans h.output, Nat.le_trans h.size k.size, fun x hx hp => (k.block x (Nat.lt_of_lt_of_le hx h.size) hp).trans (h.block x hx hp)⟩
theorem Kep.less (h : Kep P w w1) (hq : ∀ k, Q k → P k) : Kep Q w w1 := ⟨h.os, h.tape, h.output, h.size, fun x hx hp => h.block x hx (hq x hp)⟩
theorem Kep.grown {row : Option Nat} (h : w.grownBy w1 row) (hr : ∀ k, row = some k → ¬ P k) : Kep P w w1 := ⟨h.os, h.tape, h.output, h.size, fun x hx hs => h.block x hx fun e => hr x e.symm hs⟩
theorem Kep.below (h : Below w.heap.size w w1) : Kep P w w1 := ⟨h.os, h.tape, h.output, h.size, fun x hx _ => h.block x hx⟩
theorem Kep.drewN (h : Kep P w w1) (n : Nat) : Kep P w (w1.drewN n) := h.trans (Kep.below (below_drewN' (Below.refl _ _) n))
theorem Kep.set (h : Kep P w w1) {p : Addr} (hp : ¬ P p.block) (v : Value) : Kep P w (w1.setCell p v) :=
  h.trans (Kep.grown (grown_set (grown_refl w1 (some p.block)) (.inl rfl) v) (fun k e => by injection e with e; rw [← e]; exact hp))
theorem Kep.alloc (h : Kep P w w1) (o : Obj) : Kep P w (w1.alloc o) := h.trans (Kep.below ((Below.refl _ _).alloc (Nat.le_refl _) _))
theorem Kep.bel {B : Nat} (h : Kep P w w1) (hB : ∀ k, k < B → P k) (hw : B ≤ w.heap.size) : Below B w w1 := ⟨h.os, h.tape, h.output, h.size, fun x hx => h.block x (Nat.lt_of_lt_of_le hx hw) (hB x hx)⟩
theorem Kep.cell (h : Kep P w w1) {p : Addr} {v : Value} (hp : P p.block) (hc : w.cell? p = some v) : w1.cell? p = some v :=
  (World.cell?_of_block (h.block p.block (World.block_lt_of_cell? _ _ hc) hp)).trans hc
end
/-- A list of the call's own, in no block of P. -/
structure OwP (P : Nat → Prop) (w : World) (v : Value) (l : List Nat) : Prop where
  ow : Ow w 0 v l
  off : ∀ k, P k → v.ownBlock ≠ some k
  lt : ∀ k, P k → k < w.heap.size
section
variable {P Q : Nat → Prop} {w w1 : World} {v : Value} {l : List Nat}
theorem OwP.keep (h : OwP P w v l) (hk : Below w.heap.size w w1) : OwP P w1 v l := ⟨h.ow.below hk, h.off, fun k hp => Nat.lt_of_lt_of_le (h.lt k hp) hk.size⟩
theorem OwP.drewN (h : OwP P w v l) (n : Nat) : OwP P (w.drewN n) v l := ⟨h.ow.drewN n, h.off, h.lt⟩
theorem OwP.less (h : OwP P w v l) (hq : ∀ k, Q k → P k) : OwP Q w v l := ⟨h.ow, fun k hk => h.off k (hq k hk), fun k hk => h.lt k (hq k hk)⟩
/-- One more block that is to stay. -/
theorem OwP.more (h : OwP P w v l) (o : Obj) : OwP (fun k => P k ∨ k = w.heap.size) (w.alloc o) v l :=
  ⟨h.ow.alloc o, fun k hk e => by
    rcases hk with hk | rfl
    · exact h.off k hk e
    · exact Nat.lt_irrefl _ (h.ow.lt _ e).2, fun k hk => by
    rw [World.size_alloc]
    rcases hk with hk | rfl
    · have := h.lt k hk; omega
    · omega⟩
theorem OwP.above {B : Nat} (h : OwP P w v l) (hB : ∀ k, k < B → P k) : Ow w B v l := by
  refine ⟨h.ow.1, h.ow.2.1, h.ow.2.2.imp id ?_⟩
  rintro ⟨g, cap, cur, rfl, hg, r⟩
  refine ⟨g, cap, cur, rfl, ?_, r⟩
  rcases Nat.lt_or_ge g B with hlt | hge
  · exact absurd rfl (h.off g (hB g hlt))
  · exact hge
/-- Behind an append. -/
theorem OwP.grown {v' : Value} {l' : List Nat} (h : OwP P w v l) (h' : Ow w1 0 v' l') (hg : w.grownBy w1 v.ownBlock) (hv : v'.ownBlock = v.ownBlock ∨ ∃ k, v'.ownBlock = some k ∧ w.heap.size ≤ k) : OwP P w1 v' l' ∧ Kep P w w1 := by
  refine ⟨⟨h', fun k hk e => ?_, fun k hk => Nat.lt_of_lt_of_le (h.lt k hk) hg.size⟩, Kep.grown hg fun k e hk => h.off k hk e⟩
  rcases hv with e2 | ⟨k2, e2, hk2⟩
  · exact h.off k hk (e2.symm.trans e)
  · rw [e] at e2
    injection e2 with e2
    have := h.lt k hk
    omega
end
theorem Tr.kep {P S : Nat → Prop} {w w1 : World} {v : Value} {T : Sts} (h : Tr w S v T) (hk : Kep P w w1) (hS : ∀ k, S k → P k) : Tr w1 S v T :=
  h.keep (fun k hs hl => hk.block k hl (hS k hs)) hk.size (fun _ h _ => h)
theorem row_oth {w : World} {g t n g' : Nat} {f : Nat → Value} (h : w.rowIs g t n f) (hne : g ≠ g') (k : Nat) (u : Value) : (w.setCell ⟨g', k, none⟩ u).rowIs g t n f :=
  h.of_block (Below.heap_setCell w ⟨g', k, none⟩ u g hne)
end Go.Proofs.Ythmpagehmfillaa
namespace Go.Proofs.Ythmpagehmfillaa
open Go.RowKit
set_option linter.unusedSimpArgs false
set_option linter.unusedVariables false
set_option maxRecDepth 100000
/-- A maker in memory, beside the blocks of P. -/
structure MkR (P : Nat → Prop) (w : World) (pm : Nat) (out : List Nat) : Prop where
  ex : ∃ v, w.rowIs pm 83 1 (fun _ => v) ∧ OwP P w v out ∧ v.ownBlock ≠ some pm
  np : ¬ P pm
section
variable {P Q : Nat → Prop} {w w1 : World} {pm : Nat} {out : List Nat}
theorem MkR.keep (h : MkR P w pm out) (hk : Below w.heap.size w w1) : MkR P w1 pm out := by
  obtain ⟨v, h1, h2, h3⟩ := h.ex
  exact ⟨⟨v, below_row hk h1 h1.lt, h2.keep hk, h3⟩, h.np⟩
theorem MkR.drewN (h : MkR P w pm out) (n : Nat) : MkR P (w.drewN n) pm out := h.keep (below_drewN' (Below.refl _ _) n)
theorem MkR.less (h : MkR P w pm out) (hq : ∀ k, Q k → P k) : MkR Q w pm out := by
  obtain ⟨v, h1, h2, h3⟩ := h.ex
  exact ⟨⟨v, h1, h2.less hq, h3⟩, fun hp => h.np (hq _ hp)⟩
theorem MkR.lt (h : MkR P w pm out) : pm < w.heap.size := by
  obtain ⟨v, h1, h2, h3⟩ := h.ex
  exact h1.lt
theorem MkR.more (h : MkR P w pm out) (o : Obj) : MkR (fun k => P k ∨ k = w.heap.size) (w.alloc o) pm out := by
  obtain ⟨v, h1, h2, h3⟩ := h.ex
  refine ⟨⟨v, below_row ((Below.refl _ _).alloc (Nat.le_refl _) _) h1 h1.lt, h2.more o, h3⟩, fun hp => ?_⟩
  rcases hp with hp | hp
  · exact h.np hp
  · have := h1.lt; omega
end
theorem mk_set {P : Nat → Prop} {w w1 : World} {pm : Nat} {v v' : Value} {out out' : List Nat} (hrow : w.rowIs pm 83 1 (fun _ => v)) (hown : OwP P w v out) (hne : v.ownBlock ≠ some pm) (hnp : ¬ P pm)
    (h' : Ow w1 0 v' out') (hg : w.grownBy w1 v.ownBlock) (hv : v'.ownBlock = v.ownBlock ∨ v'.ownBlock = some w.heap.size) :
    MkR P (w1.setCell ⟨pm, 0, none⟩ v') pm out' ∧ Kep P w (w1.setCell ⟨pm, 0, none⟩ v') := by
  have hv2 : v'.ownBlock = v.ownBlock ∨ ∃ k, v'.ownBlock = some k ∧ w.heap.size ≤ k := hv.imp id fun e => ⟨_, e, Nat.le_refl _⟩
  obtain ⟨h1, h2⟩ := hown.grown h' hg hv2
  have hne' : v'.ownBlock ≠ some pm := by
    rcases hv with e | e
    · rw [e]; exact hne
    · rw [e]; intro e2; injection e2 with e2; have := hrow.lt; omega
  have hrow1 : w1.rowIs pm 83 1 (fun _ => v) := hrow.of_block (hg.block pm hrow.lt (fun e => hne e.symm))
  have hg2 : w1.grownBy (w1.setCell ⟨pm, 0, none⟩ v') (some pm) := grown_set (grown_refl _ _) (.inl rfl) _
  have hk2 : Kep P w1 (w1.setCell ⟨pm, 0, none⟩ v') := Kep.grown hg2 (fun k e => by injection e with e; rw [← e]; exact hnp)
  refine ⟨⟨⟨v', (hrow1.set 0 v').congr fun i hi => ?_, ⟨h1.ow.kept hg2 ?_, h1.off, fun k hk => Nat.lt_of_lt_of_le (h1.lt k hk) hg2.size⟩, hne'⟩, hnp⟩, h2.trans hk2⟩
  · match i, hi with
    | 0, _ => rfl
  · exact .inr hne'
theorem put_m {P : Nat → Prop} {pm : Nat} (i : InsS) (ho : i.o < 256) (out : List Nat) (w : World) (h : MkR P w pm out) (hl : out.length ≤ 60000) :
    Calls Try.prog 27 #[.pointer (some ⟨pm, 0, none⟩), insV i.o i.d i.s i.n] w fun e w' => e = .returned (.tuple #[]) ∧ MkR P w' pm (putO out i) ∧ Kep P w w' := by
  obtain ⟨v, hrow, hown, hne⟩ := h.ex
  have hnp := h.np
  obtain ⟨A, c, rfl, hc, hA, hr⟩ := hown.ow.form
  have hba : Below w.heap.size w (w.alloc (.cells #[.int .u8 i.o, .int .i64 i.d, .int .i64 i.s, .int .i64 i.n] 56)) := (Below.refl _ _).alloc (Nat.le_refl _) _
  have r1 := heap_alloc_new w (.cells #[.int .u8 i.o, .int .i64 i.d, .int .i64 i.s, .int .i64 i.n] 56)
  have hrow1 := below_row hba hrow hrow.lt
  have hown1 := hown.keep hba
  have HP := Lib.hid (fun W => put_any i.o ho i.d i.s i.n out.length (by omega) W)
  unfold insV at HP ⊢
  go_enter Try.func27, Try.ntmps27
  go_upto_region 1 with fail
  generalize w.alloc (.cells #[.int .u8 i.o, .int .i64 i.d, .int .i64 i.s, .int .i64 i.n] 56) = W1 at *
  have c0 : W1.cell? ⟨w.heap.size, 0, none⟩ = some (.int .u8 i.o) := cell_of_row _ _ _ _ _ _ r1
  have c1 : W1.cell? ⟨w.heap.size, 1, none⟩ = some (.int .i64 i.d) := cell_of_row _ _ _ _ _ _ r1
  have c2 : W1.cell? ⟨w.heap.size, 2, none⟩ = some (.int .i64 i.s) := cell_of_row _ _ _ _ _ _ r1
  have c3 : W1.cell? ⟨w.heap.size, 3, none⟩ = some (.int .i64 i.n) := cell_of_row _ _ _ _ _ _ r1
  have c4 : W1.cell? ⟨pm, 0, none⟩ = some (.slice A out.length c) := hrow1.cell (by omega)
  have HRW := Lib.hid hrow1
  have HOW := Lib.hid hown1
  have HN := Lib.hid (And.intro hne (And.intro hnp (And.intro hl hc)))
  have HBA := Lib.hid hba
  have CC := Lib.hid (And.intro c0 (And.intro c1 (And.intro c2 (And.intro c3 c4))))
  clear h hrow hown hne hnp hc hA hr hba r1 hrow1 hown1 hl c0 c1 c2 c3 c4 ho
  go_region_held3 (fun W => W.cell? ⟨w.heap.size, 0, none⟩ = some (.int .u8 i.o) ∧ W.cell? ⟨w.heap.size, 1, none⟩ = some (.int .i64 i.d) ∧ W.cell? ⟨w.heap.size, 2, none⟩ = some (.int .i64 i.s) ∧ W.cell? ⟨w.heap.size, 3, none⟩ = some (.int .i64 i.n) ∧ W.cell? ⟨pm, 0, none⟩ = some (.slice A out.length c))
    (first
      | exact CC.out
      | exact CC6.out)
    (first
      | (go_at_call 56; (refine (HP.out _).mono ?_); rintro e w6 ⟨v6, rfl, ho6, hb6⟩
         have hb6' : Below W1.heap.size W1 w6 := (below_drewN' (Below.refl _ _) 1).trans hb6
         have HB6 := Lib.hid hb6'
         have HO6 := Lib.hid ho6
         have HRW6 := Lib.hid (below_row hb6' HRW.out HRW.out.lt)
         have HOW6 := Lib.hid (HOW.out.keep hb6')
         have CC6 := Lib.hid (show w6.cell? ⟨w.heap.size, 0, none⟩ = some (.int .u8 i.o) ∧ w6.cell? ⟨w.heap.size, 1, none⟩ = some (.int .i64 i.d) ∧ w6.cell? ⟨w.heap.size, 2, none⟩ = some (.int .i64 i.s) ∧ w6.cell? ⟨w.heap.size, 3, none⟩ = some (.int .i64 i.n) ∧ w6.cell? ⟨pm, 0, none⟩ = some (.slice A out.length c) from ⟨(hb6'.cell (World.block_lt_of_cell? _ _ CC.out.1)).trans CC.out.1, (hb6'.cell (World.block_lt_of_cell? _ _ CC.out.2.1)).trans CC.out.2.1, (hb6'.cell (World.block_lt_of_cell? _ _ CC.out.2.2.1)).trans CC.out.2.2.1, (hb6'.cell (World.block_lt_of_cell? _ _ CC.out.2.2.2.1)).trans CC.out.2.2.2.1, (hb6'.cell (World.block_lt_of_cell? _ _ CC.out.2.2.2.2)).trans CC.out.2.2.2.2⟩)
         clear hb6 ho6 hb6'))
  obtain ⟨A6, d6, rfl, -, -, hr6⟩ := HO6.out.form
  have HR6 := Lib.hid hr6
  clear hr6 HP
  have c4 := CC6.out.2.2.2.2
  have z4 : w6.frozen? ⟨pm, 0, none⟩ = false := HRW6.out.frozen 0
  go_wp2_with (at_builtin; refine append_bytes (.tmp 20) (.tmp 21) rfl rfl rfl HOW6.out.ow A6 _ d6 (putI i out.length) rfl rfl HR6.out (by have := putI_len i out.length; have := HN.out.2.2.1; omega) (Nat.zero_le _) ?_; intro v7 w7 ho7 hg7 ha7; have Z7 := mk_set HRW6.out HOW6.out HN.out.1 HN.out.2.1 ho7 hg7 ha7; have z7 : w7.frozen? ⟨pm, 0, none⟩ = false := (HRW6.out.of_block (hg7.block pm HRW6.out.lt (fun e => HN.out.1 e.symm))).frozen 0; have y7 : ∃ u, w7.cell? ⟨pm, 0, none⟩ = some u := ⟨_, (HRW6.out.of_block (hg7.block pm HRW6.out.lt (fun e => HN.out.1 e.symm))).cell (by omega)⟩; obtain ⟨u7, y7⟩ := y7; obtain ⟨A7, c7, rfl, -⟩ := ho7.form; rw [List.length_append] at Z7; have HZ7 := Lib.hid Z7; clear Z7 ho7 hg7 ha7)
  go_end0
  exact ⟨rfl, HZ7.out.1, (Kep.below HBA.out).trans ((Kep.below HB6.out).trans HZ7.out.2)⟩
theorem MkR.val {P : Nat → Prop} {w : World} {pm : Nat} {out : List Nat} (h : MkR P w pm out) : ∃ A c, w.cell? ⟨pm, 0, none⟩ = some (.slice A out.length c) := by
  obtain ⟨v, h1, h2, h3⟩ := h.ex
  obtain ⟨A, c, rfl, -⟩ := h2.ow.form
  exact ⟨A, c, h1.cell (by omega)⟩
theorem size_m {P : Nat → Prop} {pm : Nat} (tg : Int) (out : List Nat) (w : World) (h : MkR P w pm out) (hl : out.length ≤ 60000) :
    Calls Try.prog 81 #[.pointer (some ⟨pm, 0, none⟩), .int .i64 tg, .int .i64 5] w fun e w' => e = .returned (.int .i64 (if putE ⟨29, 0, 0, tg⟩ out.length = 0 then 2 else 5)) ∧ Below w.heap.size w w' := by
  obtain ⟨A, c, c4⟩ := h.val
  have HP := Lib.hid (show ∀ W, Calls Try.prog 56 #[.agg #[.int .u8 29, .int .i64 0, .int .i64 0, .int .i64 tg], .int .i64 out.length] W (PutP ⟨29, 0, 0, tg⟩ out.length W) from fun W => put_any 29 (by omega) 0 0 tg out.length (by omega) W)
  obtain ⟨z, hz⟩ : ∃ z, z = putE ⟨29, 0, 0, tg⟩ out.length := ⟨_, rfl⟩
  unfold PutP at HP
  rw [← hz] at HP ⊢
  clear hz h hl
  go_enter Try.func81, Try.ntmps81
  go_wp2_with fail
  refine (HP.out _).mono ?_
  rintro e w3 ⟨v, rfl, ho, hb⟩
  have HB := Lib.hid hb
  clear ho hb c4
  by_cases hz : z = 0
  · subst hz
    go_wp2_with fail
    go_ret
    exact ⟨rfl, HB.out⟩
  · have hz2 : ((z : Int) == 0) = false := by rw [beq_eq_false_iff_ne]; omega
    have HZ := Lib.hid hz
    clear hz
    go_wp2_with fail
    go_ret
    exact ⟨by first | rfl | (rw [if_neg HZ.out]; rfl), HB.out⟩
theorem jump_m {P : Nat → Prop} {pm : Nat} (f : Bool) (tg : Int) (out : List Nat) (w : World) (h : MkR P w pm out) (hl : out.length ≤ 50000) :
    Calls Try.prog 54 #[.pointer (some ⟨pm, 0, none⟩), .bool f, .int .i64 tg] w fun e w' => e = .returned (.tuple #[]) ∧ MkR P w' pm (jumpO out f tg (decide (putE ⟨29, 0, 0, tg⟩ out.length = 0))) ∧ Kep P w w' := by
  have HS := Lib.hid (size_m tg out w h (by omega))
  have HL := Lib.hid hl
  have HM := Lib.hid h
  clear h hl
  cases f with
  | true =>
    cases hs : decide (putE ⟨29, 0, 0, tg⟩ out.length = 0) with
    | true =>
      rw [if_pos (of_decide_eq_true hs)] at HS
      have HPS := Lib.hid (show ∀ W, MkR P W pm out → Calls Try.prog 27 #[.pointer (some ⟨pm, 0, none⟩), .agg #[.int .u8 27, .int .i64 0, .int .i64 0, .int .i64 tg]] W fun e w' => e = .returned (.tuple #[]) ∧ MkR P w' pm (putO out ⟨27, 0, 0, tg⟩) ∧ Kep P W w' from fun W hW => put_m ⟨27, 0, 0, tg⟩ (by show 27 < 256; omega) out W hW (by have := HL.out; omega))
      clear hs
      go_enter Try.func54, Try.ntmps54
      go_wp2_with fail
      refine HS.out.mono ?_
      rintro e w3 ⟨rfl, hb3⟩
      have HB3 := Lib.hid hb3
      clear hb3 HS
      go_wp2_with fail
      refine (HPS.out _ (HM.out.keep HB3.out)).mono ?_
      rintro e w4 ⟨rfl, hm4, hk4⟩
      have H4 := Lib.hid (And.intro hm4 hk4)
      clear hm4 hk4 HPS
      go_wp2_with fail
      (try simp only [Exit.inBlock, Exit.then])
      refine bodyPost_ret (results_none rfl _ _ _) rfl ?_
      exact ⟨rfl, H4.out.1, (Kep.below HB3.out).trans H4.out.2⟩
    | false =>
      rw [if_neg (of_decide_eq_false hs)] at HS
      have HPS := Lib.hid (show ∀ W, MkR P W pm out → Calls Try.prog 27 #[.pointer (some ⟨pm, 0, none⟩), .agg #[.int .u8 28, .int .i64 0, .int .i64 0, .int .i64 (out.length + 5)]] W fun e w' => e = .returned (.tuple #[]) ∧ MkR P w' pm (putO out ⟨28, 0, 0, out.length + 5⟩) ∧ Kep P W w' from fun W hW => put_m ⟨28, 0, 0, out.length + 5⟩ (by show 28 < 256; omega) out W hW (by have := HL.out; omega))
      have HPT := Lib.hid (show ∀ W, MkR P W pm (putO out ⟨28, 0, 0, out.length + 5⟩) → Calls Try.prog 27 #[.pointer (some ⟨pm, 0, none⟩), .agg #[.int .u8 30, .int .i64 0, .int .i64 0, .int .i64 tg]] W fun e w' => e = .returned (.tuple #[]) ∧ MkR P w' pm (putO (putO out ⟨28, 0, 0, out.length + 5⟩) ⟨30, 0, 0, tg⟩) ∧ Kep P W w' from fun W hW => put_m ⟨30, 0, 0, tg⟩ (by show 30 < 256; omega) _ W hW (by have := HL.out; have := putO_len out ⟨28, 0, 0, out.length + 5⟩; omega))
      have hl2 : (out.length : Int) ≤ 60000 := by have := HL.out; omega
      clear hs
      go_enter Try.func54, Try.ntmps54
      go_wp2_with fail
      refine HS.out.mono ?_
      rintro e w3 ⟨rfl, hb3⟩
      have HB3 := Lib.hid hb3
      clear hb3 HS
      obtain ⟨A, c, c4⟩ := (HM.out.keep HB3.out).val
      go_wp2_with fail
      refine (HPS.out _ (HM.out.keep HB3.out)).mono ?_
      rintro e w4 ⟨rfl, hm4, hk4⟩
      have H4 := Lib.hid (And.intro hm4 hk4)
      clear hm4 hk4 HPS c4
      go_wp2_with fail
      refine (HPT.out _ H4.out.1).mono ?_
      rintro e w5 ⟨rfl, hm5, hk5⟩
      have H5 := Lib.hid (And.intro hm5 hk5)
      clear hm5 hk5 HPT
      go_wp2_with fail
      go_end0
      exact ⟨rfl, H5.out.1, (Kep.below HB3.out).trans (H4.out.2.trans H5.out.2)⟩
  | false =>
    cases hs : decide (putE ⟨29, 0, 0, tg⟩ out.length = 0) with
    | true =>
      rw [if_pos (of_decide_eq_true hs)] at HS
      have HPS := Lib.hid (show ∀ W, MkR P W pm out → Calls Try.prog 27 #[.pointer (some ⟨pm, 0, none⟩), .agg #[.int .u8 28, .int .i64 0, .int .i64 0, .int .i64 tg]] W fun e w' => e = .returned (.tuple #[]) ∧ MkR P w' pm (putO out ⟨28, 0, 0, tg⟩) ∧ Kep P W w' from fun W hW => put_m ⟨28, 0, 0, tg⟩ (by show 28 < 256; omega) out W hW (by have := HL.out; omega))
      clear hs
      go_enter Try.func54, Try.ntmps54
      go_wp2_with fail
      refine HS.out.mono ?_
      rintro e w3 ⟨rfl, hb3⟩
      have HB3 := Lib.hid hb3
      clear hb3 HS
      go_wp2_with fail
      refine (HPS.out _ (HM.out.keep HB3.out)).mono ?_
      rintro e w4 ⟨rfl, hm4, hk4⟩
      have H4 := Lib.hid (And.intro hm4 hk4)
      clear hm4 hk4 HPS
      go_wp2_with fail
      (try simp only [Exit.inBlock, Exit.then])
      refine bodyPost_ret (results_none rfl _ _ _) rfl ?_
      exact ⟨rfl, H4.out.1, (Kep.below HB3.out).trans H4.out.2⟩
    | false =>
      rw [if_neg (of_decide_eq_false hs)] at HS
      have HPS := Lib.hid (show ∀ W, MkR P W pm out → Calls Try.prog 27 #[.pointer (some ⟨pm, 0, none⟩), .agg #[.int .u8 27, .int .i64 0, .int .i64 0, .int .i64 (out.length + 5)]] W fun e w' => e = .returned (.tuple #[]) ∧ MkR P w' pm (putO out ⟨27, 0, 0, out.length + 5⟩) ∧ Kep P W w' from fun W hW => put_m ⟨27, 0, 0, out.length + 5⟩ (by show 27 < 256; omega) out W hW (by have := HL.out; omega))
      have HPT := Lib.hid (show ∀ W, MkR P W pm (putO out ⟨27, 0, 0, out.length + 5⟩) → Calls Try.prog 27 #[.pointer (some ⟨pm, 0, none⟩), .agg #[.int .u8 30, .int .i64 0, .int .i64 0, .int .i64 tg]] W fun e w' => e = .returned (.tuple #[]) ∧ MkR P w' pm (putO (putO out ⟨27, 0, 0, out.length + 5⟩) ⟨30, 0, 0, tg⟩) ∧ Kep P W w' from fun W hW => put_m ⟨30, 0, 0, tg⟩ (by show 30 < 256; omega) _ W hW (by have := HL.out; have := putO_len out ⟨27, 0, 0, out.length + 5⟩; omega))
      have hl2 : (out.length : Int) ≤ 60000 := by have := HL.out; omega
      clear hs
      go_enter Try.func54, Try.ntmps54
      go_wp2_with fail
      refine HS.out.mono ?_
      rintro e w3 ⟨rfl, hb3⟩
      have HB3 := Lib.hid hb3
      clear hb3 HS
      obtain ⟨A, c, c4⟩ := (HM.out.keep HB3.out).val
      go_wp2_with fail
      refine (HPS.out _ (HM.out.keep HB3.out)).mono ?_
      rintro e w4 ⟨rfl, hm4, hk4⟩
      have H4 := Lib.hid (And.intro hm4 hk4)
      clear hm4 hk4 HPS c4
      go_wp2_with fail
      refine (HPT.out _ H4.out.1).mono ?_
      rintro e w5 ⟨rfl, hm5, hk5⟩
      have H5 := Lib.hid (And.intro hm5 hk5)
      clear hm5 hk5 HPT
      go_wp2_with fail
      go_end0
      exact ⟨rfl, H5.out.1, (Kep.below HB3.out).trans (H4.out.2.trans H5.out.2)⟩
end Go.Proofs.Ythmpagehmfillaa
namespace Go.Proofs.Ythmpagehmfillaa
open Go.RowKit
set_option linter.unusedSimpArgs false
set_option linter.unusedVariables false
set_option maxRecDepth 100000
/-- What a call of length at v comes to, in each world above w. -/
def LenC (w : World) (v : Value) (T : Sts) : Prop := ∀ W, Below w.heap.size w W → Calls Try.prog 25 #[v] W fun e w' => e = .returned (.int .i64 (sizeT T)) ∧ Below W.heap.size W w'
theorem LenC.below {w w' : World} {v : Value} {T : Sts} (h : LenC w v T) (hb : Below w.heap.size w w') : LenC w' v T := fun W hW => h W (hb.trans (hW.mono hb.size))
theorem results_tmp4 {fn : Func} {t u v x : Tmp} (h : fn.results = #[.tmp t, .tmp u, .tmp v, .tmp x]) (tmps : Array Value) (P : Program) (w : World) :
    (results fn tmps).run P w = .ok (.tuple #[tmps.getD t undef, tmps.getD u undef, tmps.getD v undef, tmps.getD x undef]) w := by
  simp [results, h]
theorem reach_any (n : Nat) (m : Int) (w : World) : Calls Try.prog 80 #[.int .i64 n, .int .i64 m] w fun e w' => e = .returned (.int .i64 (if n ≤ 127 then 2 else m)) ∧ w' = w := by
  by_cases h : n ≤ 127
  · rw [if_pos h]
    have h1 : (n : Int) ≤ 127 := by omega
    clear h
    go_enter Try.func80, Try.ntmps80
    go_wp2_with fail
    go_ret
    exact ⟨rfl, rfl⟩
  · rw [if_neg h]
    have h1 : ¬ (n : Int) ≤ 127 := by omega
    clear h
    go_enter Try.func80, Try.ntmps80
    go_wp2_with fail
    go_ret
    exact ⟨rfl, rfl⟩
theorem reach_end (n el : Nat) (he : el ≠ 0) (w : World) : Calls Try.prog 80 #[.int .i64 n, .int .i64 3] w fun e w' => e = .returned (.int .i64 (endK n el)) ∧ w' = w := by
  refine (reach_any n 3 w).mono ?_
  rintro e w' ⟨rfl, rfl⟩
  refine ⟨?_, rfl⟩
  unfold endK
  rw [if_neg he]
  split <;> rfl
theorem reach_over (n m en : Nat) (h : n = m + en) (w : World) : Calls Try.prog 80 #[.int .i64 n, .int .i64 5] w fun e w' => e = .returned (.int .i64 (overK m en)) ∧ w' = w := by
  refine (reach_any n 5 w).mono ?_
  rintro e w' ⟨rfl, rfl⟩
  refine ⟨?_, rfl⟩
  subst h
  unfold overK
  split <;> rfl
set_option maxHeartbeats 8000000 in
theorem branch_of {g o : Nat} {x : StS} {vb ve : Value} {w : World} (hx : StAt w g o x vb ve) (hb : UB vb x.b.len) (he : UB ve x.e.len) (h1 : LenC w vb x.b) (h2 : LenC w ve x.e) :
    Calls Try.prog 53 #[.pointer (some ⟨g, o, none⟩)] w fun e w' => e = .returned (.tuple #[.int .i64 (overK (sizeT x.b) (endK (sizeT x.e) x.e.len)), .int .i64 (sizeT x.b), .int .i64 (endK (sizeT x.e) x.e.len), .int .i64 (sizeT x.e)]) ∧ Below w.heap.size w w' := by
  obtain ⟨Ab, cb, rfl⟩ := hb
  obtain ⟨Ae, ce, rfl⟩ := he
  have fa := hx.2 10 (by omega)
  have fb := hx.2 11 (by omega)
  simp only [smF] at fa fb
  have hb1 := sizeT_le x.b
  have he1 := sizeT_le x.e
  unfold LenC at h1 h2
  obtain ⟨sb, hsb⟩ : ∃ n, n = sizeT x.b := ⟨_, rfl⟩
  obtain ⟨se, hse⟩ : ∃ n, n = sizeT x.e := ⟨_, rfl⟩
  rw [← hsb] at h1 hb1 ⊢
  rw [← hse] at h2 he1 ⊢
  have hen := endK_le se x.e.len
  have hwr : IntKind.i64.wrap ((sb : Int) + ((endK se x.e.len : Nat) : Int)) = ((sb + endK se x.e.len : Nat) : Int) := wnN (by omega) (by omega)
  have hwr0 : IntKind.i64.wrap ((sb : Int) + 0) = ((sb : Nat) : Int) := wnN (by omega) (by omega)
  have H1 := Lib.hid h1
  have H2 := Lib.hid h2
  have HX := Lib.hid hx
  have HF := Lib.hid (And.intro fa fb)
  have HW := Lib.hid (And.intro hwr hwr0)
  clear hsb hse h1 h2 hx hwr hwr0
  go_enter Try.func53, Try.ntmps53
  go_upto_region 1 with fail
  go_region_held3 (fun W => W.cell? ⟨g, o + 10, none⟩ = some (.slice Ab x.b.len cb) ∧ W.cell? ⟨g, o + 11, none⟩ = some (.slice Ae x.e.len ce))
    (first
      | exact HF.out
      | exact HF3.out
      | exact HF4.out)
    (first
      | (go_at_call_of 25 Ab; (refine (H1.out _ (below_drewN' (Below.refl _ _) 1)).mono ?_); rintro e w3 ⟨rfl, hb3⟩
         have HB3 : Hid (Below w.heap.size w w3) := (below_drewN' (Below.refl _ _) 1).trans hb3
         have HF3 := Lib.hid (show w3.cell? ⟨g, o + 10, none⟩ = some (.slice Ab x.b.len cb) ∧ w3.cell? ⟨g, o + 11, none⟩ = some (.slice Ae x.e.len ce) from ⟨(HB3.out.cell HX.out.1).trans HF.out.1, (HB3.out.cell HX.out.1).trans HF.out.2⟩)
         clear hb3)
      | (go_at_call_of 25 Ae; (refine (H2.out w3 HB3.out).mono ?_); rintro e w4 ⟨rfl, hb4⟩
         have HB4 := Lib.hid (HB3.out.trans (hb4.mono HB3.out.size))
         have HF4 := Lib.hid (show w4.cell? ⟨g, o + 10, none⟩ = some (.slice Ab x.b.len cb) ∧ w4.cell? ⟨g, o + 11, none⟩ = some (.slice Ae x.e.len ce) from ⟨(HB4.out.cell HX.out.1).trans HF.out.1, (HB4.out.cell HX.out.1).trans HF.out.2⟩)
         clear hb4))
  all_goals
    have fb := HF4.out.2
    by_cases hz : x.e.len = 0
    · have hz0 : ¬ (0 : Int) < (x.e.len : Int) := by omega
      have HK0 := Lib.hid (show endK se x.e.len = 0 by unfold endK; rw [if_pos hz])
      have hw0 := HW.out.2
      have HRO := Lib.hid (reach_over sb sb 0 rfl)
      clear hz HW H1 H2 HF
      go_wp2_with fail
      refine (HRO.out _).mono ?_
      rintro e w5 ⟨rfl, rfl⟩
      go_wp2_with fail
      (try simp only [Exit.inBlock, Exit.then])
      refine bodyPost_ret (results_tmp4 rfl _ _ _) rfl ?_
      exact ⟨by rw [HK0.out]; rfl, HB4.out⟩
    · have hz0 : (0 : Int) < (x.e.len : Int) := by omega
      have HRE := Lib.hid (reach_end se x.e.len hz)
      have HRO := Lib.hid (reach_over (sb + endK se x.e.len) sb (endK se x.e.len) rfl)
      have hw0 := HW.out.1
      clear hz HW H1 H2 HF
      go_wp2_with fail
      refine (HRE.out _).mono ?_
      rintro e w5 ⟨rfl, rfl⟩
      obtain ⟨en, hen'⟩ : ∃ en, en = endK se x.e.len := ⟨_, rfl⟩
      rw [← hen'] at hw0 HRO hen ⊢
      have HEN := Lib.hid hen'
      clear hen'
      go_wp2_with fail
      refine (HRO.out _).mono ?_
      rintro e w6 ⟨rfl, rfl⟩
      go_wp2_with fail
      (try simp only [Exit.inBlock, Exit.then])
      refine bodyPost_ret (results_tmp4 rfl _ _ _) rfl ?_
      exact ⟨by rw [← HEN.out]; rfl, HB4.out⟩
end Go.Proofs.Ythmpagehmfillaa
