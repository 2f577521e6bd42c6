/-
  THE WALK OF code.Put. Conditions: an Op is a byte; a place of at most 65535.
-/
import Derived.Test.YthmpagehmfillaaQ33
import Derived.Test.YthmpagehmfillaaQ03
import Derived.Deep.QuietTactic
import Derived.BigQuiet
import Derived.Deep.DeepCutAuto
namespace Go.Proofs.Ythmpagehmfillaa
open Go.RowKit
set_option linter.unusedSimpArgs false
set_option linter.unusedVariables false
set_option maxRecDepth 100000
def inF (o : Nat) (d s n : Int) : Nat → Value
  | 0 => .int .u8 o
  | 1 => .int .i64 d
  | 2 => .int .i64 s
  | _ => .int .i64 n
def shF (x : Shp) : Nat → Value
  | 0 => .bool x.known
  | 1 => .int .i64 x.place
  | 2 => .bool x.from'
  | 3 => .bool x.operand
  | 4 => .bool x.number
  | 5 => .bool x.jump
  | _ => .bool x.long
theorem in_row (w : World) (o : Nat) (d s n : Int) : (w.alloc (.cells #[.int .u8 o, .int .i64 d, .int .i64 s, .int .i64 n] 56)).rowIs w.heap.size 56 4 (inF o d s n) :=
  ⟨_, heap_alloc_new w _, rfl, fun i hi => by
    match i, hi with
    | 0, _ => rfl
    | 1, _ => rfl
    | 2, _ => rfl
    | 3, _ => rfl⟩
theorem sh_row (w : World) (x : Shp) : (w.alloc (.cells #[.bool x.known, .int .i64 x.place, .bool x.from', .bool x.operand, .bool x.number, .bool x.jump, .bool x.long] 132)).rowIs w.heap.size 132 7 (shF x) :=
  ⟨_, heap_alloc_new w _, rfl, fun i hi => by
    match i, hi with
    | 0, _ => rfl
    | 1, _ => rfl
    | 2, _ => rfl
    | 3, _ => rfl
    | 4, _ => rfl
    | 5, _ => rfl
    | 6, _ => rfl⟩
section
variable {W : World} {ops : Array Oper} {rest : List Oper} {o : Oper} {a : Act} {Q : Exit → Act → World → Prop} {base : Nat} {v : Value} {l : List Nat}
/-- 'out = append(out, b, d)' behind the block that was made for both. -/
theorem append_two (s x : Operand) (hgd : o.guard = none) (ho : o.op = .call { callee := .builtin .append, args := #[s, x], argTypes := #[24, 24] }) (t c : Nat) (z y : Int) (b d : Nat)
    (hs : a.eval s = v) (hx : a.eval x = .slice (some ⟨W.heap.size, 0, none⟩) 2 c) (hown : Ow W base v l) (hz : z = b) (hy : y = d) (hb : b < 256) (hd : d < 256)
    (hn : l.length + 2 ≤ 140737488355328) (hbase : base ≤ W.heap.size)
    (h : ∀ v' w', Ow w' base v' (l ++ [b, d]) → W.grownBy w' v.ownBlock → wpList Try.prog ops Q rest (a.put o.dst v') w') :
    wpList Try.prog ops Q (o :: rest) a (W.alloc (.cells #[.int .u8 z, .int .u8 y] t)) := by
  subst hz
  subst hy
  refine append_bytes s x hgd ho hs (hown.alloc _) (some ⟨W.heap.size, 0, none⟩) 2 c [b, d] hx rfl ⟨by simp; omega, fun _ => ⟨W.heap.size, 0, rfl, by rw [World.size_alloc]; omega, fun i hi => ?_⟩⟩ (by simpa using hn) (by rw [World.size_alloc]; omega) fun v' w' h1 h2 _ => h v' w' h1 (nil_grown (World.grownBy_alloc _ _ _) h2)
  rw [Nat.zero_add, cell_of_row _ _ _ _ _ _ (heap_alloc_new W _)]
  match i, hi with
  | 0, _ => rfl
  | 1, _ => rfl
end
/-- What Put comes to. -/
def PutP (i : InsS) (p : Nat) (w : World) (e : Ending) (w' : World) : Prop := ∃ v, e = .returned (.tuple #[v, .int .i64 (putE i p)]) ∧ Ow w' w.heap.size v (putI i p) ∧ Below w.heap.size w w'
theorem putP_no {i : InsS} {p : Nat} {w w' : World} {k : Nat} (hk : putE i p = k) (h0 : k ≠ 0) (hb : Below w.heap.size w w') : PutP i p w (.returned (.tuple #[.slice none 0 0, .int .i64 k])) w' := by
  refine ⟨_, by rw [hk], ?_, hb⟩
  unfold putI
  rw [hk, if_neg h0]
  exact Ow.nil _ _
set_option maxHeartbeats 8000000 in
theorem put_no (o : Nat) (ho : o < 256) (d s n : Int) (p : Nat) (hp : p ≤ 65535) (w : World) (hri : rightI o d s n = false) : Calls Try.prog 56 #[insV o d s n, .int .i64 p] w (PutP ⟨o, d, s, n⟩ p w) := by
  have hE : putE ⟨o, d, s, n⟩ p = 110 := by unfold putE; rw [if_pos hri]
  have HR := Lib.hid (right_any o ho d s n)
  rw [hri] at HR
  obtain ⟨x, hx⟩ : ∃ x, shp o = x := ⟨_, rfl⟩
  have HX := Lib.hid hx
  have HE := Lib.hid hE
  clear hx hE hri
  unfold insV at HR ⊢
  have hba : Below w.heap.size w (w.alloc (.cells #[.int .u8 o, .int .i64 d, .int .i64 s, .int .i64 n] 56)) := (Below.refl _ _).alloc (Nat.le_refl _) _
  have hr4 := in_row w o d s n
  have HS := Lib.hid (shape_any o ho (w.alloc (.cells #[.int .u8 o, .int .i64 d, .int .i64 s, .int .i64 n] 56)))
  have k0 : (w.alloc (.cells #[.int .u8 o, .int .i64 d, .int .i64 s, .int .i64 n] 56)).cell? ⟨w.heap.size, 0, none⟩ = some (.int .u8 o) := hr4.cell (by omega)
  have HR4 := Lib.hid hr4
  have HBA := Lib.hid hba
  clear hba hr4
  go_enter Try.func56, Try.ntmps56
  go_wp2_with fail
  refine HS.out.mono ?_
  rintro e W1 ⟨rfl, hb1⟩
  rw [HX.out]
  dsimp only [shpC]
  have hr1 := below_row hb1 HR4.out HR4.out.lt
  have HB1 := Lib.hid (HBA.out.trans (hb1.mono HBA.out.size))
  clear hb1 HS HBA HR4 k0
  have hrs := sh_row W1 x
  have hb2 : Below W1.heap.size W1 (W1.alloc (.cells #[.bool x.known, .int .i64 x.place, .bool x.from', .bool x.operand, .bool x.number, .bool x.jump, .bool x.long] 132)) := (Below.refl _ _).alloc (Nat.le_refl _) _
  have hr2 := below_row hb2 hr1 hr1.lt
  have HB2 := Lib.hid (HB1.out.trans (hb2.mono HB1.out.size))
  have e0 : (W1.alloc (.cells #[.bool x.known, .int .i64 x.place, .bool x.from', .bool x.operand, .bool x.number, .bool x.jump, .bool x.long] 132)).cell? ⟨w.heap.size, 0, none⟩ = some (.int .u8 o) := hr2.cell (by omega)
  have e1 : (W1.alloc (.cells #[.bool x.known, .int .i64 x.place, .bool x.from', .bool x.operand, .bool x.number, .bool x.jump, .bool x.long] 132)).cell? ⟨w.heap.size, 1, none⟩ = some (.int .i64 d) := hr2.cell (by omega)
  have e2 : (W1.alloc (.cells #[.bool x.known, .int .i64 x.place, .bool x.from', .bool x.operand, .bool x.number, .bool x.jump, .bool x.long] 132)).cell? ⟨w.heap.size, 2, none⟩ = some (.int .i64 s) := hr2.cell (by omega)
  have e3 : (W1.alloc (.cells #[.bool x.known, .int .i64 x.place, .bool x.from', .bool x.operand, .bool x.number, .bool x.jump, .bool x.long] 132)).cell? ⟨w.heap.size, 3, none⟩ = some (.int .i64 n) := hr2.cell (by omega)
  clear hb2 hr2 hr1 hrs HB1
  go_wp2_with fail
  refine (HR.out _).mono ?_
  rintro e w3 ⟨rfl, hb3⟩
  have HB3 := Lib.hid (HB2.out.trans (hb3.mono HB2.out.size))
  clear hb3 HB2 e0 e1 e2 e3
  go_wp2_with fail
  go_ret2
  exact putP_no HE.out (by decide) HB3.out
theorem shp_known {o : Nat} (h : (shp o).known = true) : o ≤ 30 := by
  rcases Nat.lt_or_ge 30 o with h30 | h30
  · exfalso
    unfold shp at h
    rw [if_neg (by omega), if_neg (by omega), if_neg (by omega), if_neg (by omega), if_neg (by omega), if_neg (by omega), if_neg (by omega), if_neg (by omega), if_neg (by omega)] at h
    cases h
  · exact h30
theorem byte1 {o l : Nat} (ho : o ≤ 30) (hl : l ≤ 7) : bits BinOp.or IntKind.u8 ((o : Int) * 8 % 256) (l : Int) = ((o * 8 + l : Nat) : Int) := by
  have h : ∀ o ∈ List.range 31, ∀ l ∈ List.range 8, bits BinOp.or IntKind.u8 ((o : Int) * 8 % 256) (l : Int) = ((o * 8 + l : Nat) : Int) := by decide +kernel
  exact h o (List.mem_range.2 (by omega)) l (List.mem_range.2 (by omega))
theorem byte2 {o l : Nat} (ho : o ≤ 30) (hl : l ≤ 7) : bits BinOp.or IntKind.u8 ((o : Int) * 8 % 256) ((l : Int) % 256) = ((o * 8 + l : Nat) : Int) := by
  rw [show (l : Int) % 256 = l by omega]
  exact byte1 ho hl
theorem putP_ok {i : InsS} {p : Nat} {w w' : World} {v : Value} {B : Nat} {l : List Nat} (hE : putE i p = 0) (hl : (i.o * 8 + lowX (shp i.o) i.d i.s) :: tailX (shp i.o) i.s i.n p = l) (ho : Ow w' B v l) (hB : w.heap.size ≤ B) (hb : Below w.heap.size w w') : PutP i p w (.returned (.tuple #[v, .int .i64 0])) w' := by
  refine ⟨v, by rw [hE]; rfl, ?_, hb⟩
  unfold putI
  rw [if_pos hE, hl]
  exact ho.mono hB
theorem ow_one (w : World) (b : Nat) (hb : b < 256) : Ow (w.alloc (.cells #[.int .u8 b] 5)) w.heap.size (.slice (some ⟨w.heap.size, 0, none⟩) 1 1) [b] :=
  ⟨by simpa using hb, rfl, .inr ⟨w.heap.size, 1, #[.int .u8 b], rfl, Nat.le_refl _, heap_alloc_new w _, Nat.le_refl _, by unfold maxLen; omega, rfl, rfl⟩⟩
set_option maxHeartbeats 8000000 in
theorem put_1 (o : Nat) (ho : o < 256)  (p : Nat) (hp : p ≤ 65535) (w : World) (hri : rightI o 0 0 0 = true)  (hx : shp o = ⟨true, -1, false, false, false, false, false⟩) : Calls Try.prog 56 #[insV o 0 0 0, .int .i64 p] w (PutP ⟨o, 0, 0, 0⟩ p w) := by
  have HM := Lib.hid (more_any o ho 0 0 0)
  rw [show moreI ⟨o, 0, 0, 0⟩ = 0 by unfold moreI; rw [hx]; rfl] at HM
  have HE : Hid (putE ⟨o, 0, 0, 0⟩ p = 0 ∧ o * 8 + lowX (shp o) 0 0 = o * 8 + 0 ∧ tailX (shp o) 0 0 p = []) := by
    unfold putE
    refine ⟨?_, by rw [hx]; rfl, by rw [hx]; rfl⟩
    rw [if_neg (by rw [hri]; decide), if_neg (by rw [hx]; rintro ⟨h, -⟩; cases h)]
  unfold insV at HM
  have HR := Lib.hid (right_any o ho 0 0 0)
  rw [hri] at HR
  have HX := Lib.hid hx
  have h30 : o ≤ 30 := shp_known (by rw [HX.out])
  obtain ⟨b, hbb⟩ : ∃ b, b = o * 8 + 0 := ⟨_, rfl⟩
  have k3 : bits BinOp.or IntKind.u8 ((o : Int) * 8 % 256) 0 = (b : Int) := by rw [hbb]; exact byte1 (l := 0) h30 (by omega)
  have k4 : bits BinOp.or IntKind.u8 ((o : Int) * 8 % 256) (0 % 256) = (b : Int) := by rw [hbb]; exact byte2 (l := 0) h30 (by omega)
  have hb2 : b < 256 := by omega
  have p0 : ¬ (p : Int) < 0 := by omega
  have p1 : ¬ (65535 : Int) < (p : Int) := by omega
  have HBB := Lib.hid (And.intro hbb hb2)
  clear hx hbb hb2 h30
  unfold insV at HR ⊢
  have hba : Below w.heap.size w (w.alloc (.cells #[.int .u8 o, .int .i64 0, .int .i64 0, .int .i64 0] 56)) := (Below.refl _ _).alloc (Nat.le_refl _) _
  have hr4 := in_row w o 0 0 0
  have HS := Lib.hid (shape_any o ho (w.alloc (.cells #[.int .u8 o, .int .i64 0, .int .i64 0, .int .i64 0] 56)))
  have k0 : (w.alloc (.cells #[.int .u8 o, .int .i64 0, .int .i64 0, .int .i64 0] 56)).cell? ⟨w.heap.size, 0, none⟩ = some (.int .u8 o) := hr4.cell (by omega)
  have HR4 := Lib.hid hr4
  have HBA := Lib.hid hba
  clear hba hr4
  go_enter Try.func56, Try.ntmps56
  go_wp2_with fail
  refine HS.out.mono ?_
  rintro e W1 ⟨rfl, hb1⟩
  rw [HX.out]
  dsimp only [shpC]
  have hr1 := below_row hb1 HR4.out HR4.out.lt
  have HB1 := Lib.hid (HBA.out.trans (hb1.mono HBA.out.size))
  clear hb1 HS HBA HR4 k0
  have hrs : (W1.alloc (.cells #[.bool true, .int .i64 (-1), .bool false, .bool false, .bool false, .bool false, .bool false] 132)).rowIs W1.heap.size 132 7 (shF ⟨true, -1, false, false, false, false, false⟩) := sh_row W1 ⟨true, -1, false, false, false, false, false⟩
  have hb2 : Below W1.heap.size W1 (W1.alloc (.cells #[.bool true, .int .i64 (-1), .bool false, .bool false, .bool false, .bool false, .bool false] 132)) := (Below.refl _ _).alloc (Nat.le_refl _) _
  have hr2 := below_row hb2 hr1 hr1.lt
  have HB2 := Lib.hid (HB1.out.trans (hb2.mono HB1.out.size))
  have e0 : (W1.alloc (.cells #[.bool true, .int .i64 (-1), .bool false, .bool false, .bool false, .bool false, .bool false] 132)).cell? ⟨w.heap.size, 0, none⟩ = some (.int .u8 o) := hr2.cell (by omega)
  have e1 : (W1.alloc (.cells #[.bool true, .int .i64 (-1), .bool false, .bool false, .bool false, .bool false, .bool false] 132)).cell? ⟨w.heap.size, 1, none⟩ = some (.int .i64 0) := hr2.cell (by omega)
  have e2 : (W1.alloc (.cells #[.bool true, .int .i64 (-1), .bool false, .bool false, .bool false, .bool false, .bool false] 132)).cell? ⟨w.heap.size, 2, none⟩ = some (.int .i64 0) := hr2.cell (by omega)
  have e3 : (W1.alloc (.cells #[.bool true, .int .i64 (-1), .bool false, .bool false, .bool false, .bool false, .bool false] 132)).cell? ⟨w.heap.size, 3, none⟩ = some (.int .i64 0) := hr2.cell (by omega)
  have HR2 := Lib.hid hr2
  have HRS := Lib.hid hrs
  clear hb2 hr2 hr1 hrs HB1
  go_wp2_with fail
  refine (HR.out _).mono ?_
  rintro e w3 ⟨rfl, hb3⟩
  have hr3 := below_row hb3 HR2.out HR2.out.lt
  have hs3 := below_row hb3 HRS.out HRS.out.lt
  have HB3 := Lib.hid (HB2.out.trans (hb3.mono HB2.out.size))
  have HR3 := Lib.hid hr3
  have HS3 := Lib.hid hs3
  have f0 : w3.cell? ⟨w.heap.size, 0, none⟩ = some (.int .u8 o) := hr3.cell (by omega)
  have f1 : w3.cell? ⟨w.heap.size, 1, none⟩ = some (.int .i64 0) := hr3.cell (by omega)
  have f2 : w3.cell? ⟨w.heap.size, 2, none⟩ = some (.int .i64 0) := hr3.cell (by omega)
  have f3 : w3.cell? ⟨w.heap.size, 3, none⟩ = some (.int .i64 0) := hr3.cell (by omega)
  have g2 := hs3.cell (show 2 < 7 by omega)
  have g3 := hs3.cell (show 3 < 7 by omega)
  have g5 := hs3.cell (show 5 < 7 by omega)
  have g6 := hs3.cell (show 6 < 7 by omega)
  dsimp only [shF] at g2 g3 g5 g6
  clear hb3 hr3 hs3 HB2 e0 e1 e2 e3
  go_upto_region 13 with fail
  have ho4 := ow_one w3 b HBB.out.2
  have hb4 : Below w3.heap.size w3 (w3.alloc (.cells #[.int .u8 b] 5)) := (Below.refl _ _).alloc (Nat.le_refl _) _
  have hr4 := below_row hb4 HR3.out HR3.out.lt
  have hs4 := below_row hb4 HS3.out HS3.out.lt
  have HL3 := Lib.hid HB3.out.size
  have HL4 := Lib.hid hb4.size
  have HB4 := Lib.hid (HB3.out.trans (hb4.mono HB3.out.size))
  generalize w3.alloc (.cells #[.int .u8 b] 5) = w4 at *
  clear f0 f1 f2 f3 g2 g3 g5 g6 hb4 HB3 HR3 HS3
  have f0 : w4.cell? ⟨w.heap.size, 0, none⟩ = some (.int .u8 o) := hr4.cell (by omega)
  have f1 : w4.cell? ⟨w.heap.size, 1, none⟩ = some (.int .i64 0) := hr4.cell (by omega)
  have f2 : w4.cell? ⟨w.heap.size, 2, none⟩ = some (.int .i64 0) := hr4.cell (by omega)
  have f3 : w4.cell? ⟨w.heap.size, 3, none⟩ = some (.int .i64 0) := hr4.cell (by omega)
  have g2 := hs4.cell (show 2 < 7 by omega)
  have g5 := hs4.cell (show 5 < 7 by omega)
  have g6 := hs4.cell (show 6 < 7 by omega)
  dsimp only [shF] at g2 g5 g6
  have HO4 := Lib.hid ho4
  clear ho4 hr4 hs4
  go_wp2_with fail
  refine (HM.out _).mono ?_
  rintro e w5 ⟨rfl, hb5⟩
  have HO5 := Lib.hid (HO4.out.below hb5)
  have HB5 := Lib.hid (HB4.out.trans (hb5.mono HB4.out.size))
  have HL5 := Lib.hid (Nat.le_trans HL4.out hb5.size)
  have h05 := (hb5.cell (World.block_lt_of_cell? _ _ f0)).trans f0
  have h15 := (hb5.cell (World.block_lt_of_cell? _ _ f1)).trans f1
  have h25 := (hb5.cell (World.block_lt_of_cell? _ _ f2)).trans f2
  have h35 := (hb5.cell (World.block_lt_of_cell? _ _ f3)).trans f3
  clear hb5 f0 f1 f2 f3 g2 g5 g6
  go_wp2_with fail
  go_ret2
  exact putP_ok HE.out.1 (by rw [HE.out.2.1, HE.out.2.2, ← HBB.out.1]) HO5.out HL3.out HB5.out
set_option maxHeartbeats 8000000 in
theorem put_2 (o : Nat) (ho : o < 256) (dn sn : Nat) (p : Nat) (hp : p ≤ 65535) (w : World) (hri : rightI o dn sn 0 = true) (hd : dn ≤ 6) (hs : sn ≤ 6) (hx : shp o = ⟨true, 6, true, false, false, false, false⟩) : Calls Try.prog 56 #[insV o dn sn 0, .int .i64 p] w (PutP ⟨o, dn, sn, 0⟩ p w) := by
  have HM := Lib.hid (more_any o ho dn sn 0)
  rw [show moreI ⟨o, dn, sn, 0⟩ = 1 by unfold moreI; rw [hx]; rfl] at HM
  have HE : Hid (putE ⟨o, dn, sn, 0⟩ p = 0 ∧ o * 8 + lowX (shp o) dn sn = o * 8 + dn ∧ tailX (shp o) sn 0 p = [sn]) := by
    unfold putE
    refine ⟨?_, by rw [hx]; rfl, by rw [hx]; rfl⟩
    rw [if_neg (by rw [hri]; decide), if_neg (by rw [hx]; rintro ⟨h, -⟩; cases h)]
  unfold insV at HM
  have HR := Lib.hid (right_any o ho dn sn 0)
  rw [hri] at HR
  have HX := Lib.hid hx
  have h30 : o ≤ 30 := shp_known (by rw [HX.out])
  obtain ⟨b, hbb⟩ : ∃ b, b = o * 8 + dn := ⟨_, rfl⟩
  have k3 : bits BinOp.or IntKind.u8 ((o : Int) * 8 % 256) dn = (b : Int) := by rw [hbb]; exact byte1 (l := dn) h30 (by omega)
  have k4 : bits BinOp.or IntKind.u8 ((o : Int) * 8 % 256) (dn % 256) = (b : Int) := by rw [hbb]; exact byte2 (l := dn) h30 (by omega)
  have hb2 : b < 256 := by omega
  have p0 : ¬ (p : Int) < 0 := by omega
  have p1 : ¬ (65535 : Int) < (p : Int) := by omega
  have HBB := Lib.hid (And.intro hbb hb2)
  clear hx hbb hb2 h30
  unfold insV at HR ⊢
  have hba : Below w.heap.size w (w.alloc (.cells #[.int .u8 o, .int .i64 dn, .int .i64 sn, .int .i64 0] 56)) := (Below.refl _ _).alloc (Nat.le_refl _) _
  have hr4 := in_row w o dn sn 0
  have HS := Lib.hid (shape_any o ho (w.alloc (.cells #[.int .u8 o, .int .i64 dn, .int .i64 sn, .int .i64 0] 56)))
  have k0 : (w.alloc (.cells #[.int .u8 o, .int .i64 dn, .int .i64 sn, .int .i64 0] 56)).cell? ⟨w.heap.size, 0, none⟩ = some (.int .u8 o) := hr4.cell (by omega)
  have HR4 := Lib.hid hr4
  have HBA := Lib.hid hba
  clear hba hr4
  go_enter Try.func56, Try.ntmps56
  go_wp2_with fail
  refine HS.out.mono ?_
  rintro e W1 ⟨rfl, hb1⟩
  rw [HX.out]
  dsimp only [shpC]
  have hr1 := below_row hb1 HR4.out HR4.out.lt
  have HB1 := Lib.hid (HBA.out.trans (hb1.mono HBA.out.size))
  clear hb1 HS HBA HR4 k0
  have hrs : (W1.alloc (.cells #[.bool true, .int .i64 6, .bool true, .bool false, .bool false, .bool false, .bool false] 132)).rowIs W1.heap.size 132 7 (shF ⟨true, 6, true, false, false, false, false⟩) := sh_row W1 ⟨true, 6, true, false, false, false, false⟩
  have hb2 : Below W1.heap.size W1 (W1.alloc (.cells #[.bool true, .int .i64 6, .bool true, .bool false, .bool false, .bool false, .bool false] 132)) := (Below.refl _ _).alloc (Nat.le_refl _) _
  have hr2 := below_row hb2 hr1 hr1.lt
  have HB2 := Lib.hid (HB1.out.trans (hb2.mono HB1.out.size))
  have e0 : (W1.alloc (.cells #[.bool true, .int .i64 6, .bool true, .bool false, .bool false, .bool false, .bool false] 132)).cell? ⟨w.heap.size, 0, none⟩ = some (.int .u8 o) := hr2.cell (by omega)
  have e1 : (W1.alloc (.cells #[.bool true, .int .i64 6, .bool true, .bool false, .bool false, .bool false, .bool false] 132)).cell? ⟨w.heap.size, 1, none⟩ = some (.int .i64 dn) := hr2.cell (by omega)
  have e2 : (W1.alloc (.cells #[.bool true, .int .i64 6, .bool true, .bool false, .bool false, .bool false, .bool false] 132)).cell? ⟨w.heap.size, 2, none⟩ = some (.int .i64 sn) := hr2.cell (by omega)
  have e3 : (W1.alloc (.cells #[.bool true, .int .i64 6, .bool true, .bool false, .bool false, .bool false, .bool false] 132)).cell? ⟨w.heap.size, 3, none⟩ = some (.int .i64 0) := hr2.cell (by omega)
  have HR2 := Lib.hid hr2
  have HRS := Lib.hid hrs
  clear hb2 hr2 hr1 hrs HB1
  go_wp2_with fail
  refine (HR.out _).mono ?_
  rintro e w3 ⟨rfl, hb3⟩
  have hr3 := below_row hb3 HR2.out HR2.out.lt
  have hs3 := below_row hb3 HRS.out HRS.out.lt
  have HB3 := Lib.hid (HB2.out.trans (hb3.mono HB2.out.size))
  have HR3 := Lib.hid hr3
  have HS3 := Lib.hid hs3
  have f0 : w3.cell? ⟨w.heap.size, 0, none⟩ = some (.int .u8 o) := hr3.cell (by omega)
  have f1 : w3.cell? ⟨w.heap.size, 1, none⟩ = some (.int .i64 dn) := hr3.cell (by omega)
  have f2 : w3.cell? ⟨w.heap.size, 2, none⟩ = some (.int .i64 sn) := hr3.cell (by omega)
  have f3 : w3.cell? ⟨w.heap.size, 3, none⟩ = some (.int .i64 0) := hr3.cell (by omega)
  have g2 := hs3.cell (show 2 < 7 by omega)
  have g3 := hs3.cell (show 3 < 7 by omega)
  have g5 := hs3.cell (show 5 < 7 by omega)
  have g6 := hs3.cell (show 6 < 7 by omega)
  dsimp only [shF] at g2 g3 g5 g6
  clear hb3 hr3 hs3 HB2 e0 e1 e2 e3
  go_upto_region 13 with fail
  have ho4 := ow_one w3 b HBB.out.2
  have hb4 : Below w3.heap.size w3 (w3.alloc (.cells #[.int .u8 b] 5)) := (Below.refl _ _).alloc (Nat.le_refl _) _
  have hr4 := below_row hb4 HR3.out HR3.out.lt
  have hs4 := below_row hb4 HS3.out HS3.out.lt
  have HL3 := Lib.hid HB3.out.size
  have HL4 := Lib.hid hb4.size
  have HB4 := Lib.hid (HB3.out.trans (hb4.mono HB3.out.size))
  generalize w3.alloc (.cells #[.int .u8 b] 5) = w4 at *
  clear f0 f1 f2 f3 g2 g3 g5 g6 hb4 HB3 HR3 HS3
  have f0 : w4.cell? ⟨w.heap.size, 0, none⟩ = some (.int .u8 o) := hr4.cell (by omega)
  have f1 : w4.cell? ⟨w.heap.size, 1, none⟩ = some (.int .i64 dn) := hr4.cell (by omega)
  have f2 : w4.cell? ⟨w.heap.size, 2, none⟩ = some (.int .i64 sn) := hr4.cell (by omega)
  have f3 : w4.cell? ⟨w.heap.size, 3, none⟩ = some (.int .i64 0) := hr4.cell (by omega)
  have g2 := hs4.cell (show 2 < 7 by omega)
  have g5 := hs4.cell (show 5 < 7 by omega)
  have g6 := hs4.cell (show 6 < 7 by omega)
  dsimp only [shF] at g2 g5 g6
  have HO4 := Lib.hid ho4
  clear ho4 hr4 hs4
  go_wp2_with (at_builtin; refine append_new (.tmp 77) (.tmp 81) rfl rfl _ 1 _ sn rfl rfl HO4.out (by omega) (by omega) (by simp) HL4.out ?_; intro v6 w6 ho6 hg6 hv6; have HO6 := Lib.hid ho6; have HB6 := Lib.hid (below_of_append HB4.out HO4.out hg6 HB4.out.size HL3.out); clear ho6 hg6 hv6)
  go_ret2
  exact putP_ok HE.out.1 (by rw [HE.out.2.1, HE.out.2.2, ← HBB.out.1]; rfl) HO6.out HL3.out HB6.out
set_option maxHeartbeats 8000000 in
theorem put_3 (o : Nat) (ho : o < 256) (dn nn : Nat) (p : Nat) (hp : p ≤ 65535) (w : World) (hri : rightI o dn 0 nn = true) (hd : dn ≤ 6) (hn : nn ≤ 255) (hx : shp o = ⟨true, 6, false, false, true, false, false⟩) : Calls Try.prog 56 #[insV o dn 0 nn, .int .i64 p] w (PutP ⟨o, dn, 0, nn⟩ p w) := by
  have HM := Lib.hid (more_any o ho dn 0 nn)
  rw [show moreI ⟨o, dn, 0, nn⟩ = 1 by unfold moreI; rw [hx]; rfl] at HM
  have HE : Hid (putE ⟨o, dn, 0, nn⟩ p = 0 ∧ o * 8 + lowX (shp o) dn 0 = o * 8 + dn ∧ tailX (shp o) 0 nn p = [nn]) := by
    unfold putE
    refine ⟨?_, by rw [hx]; rfl, by rw [hx]; rfl⟩
    rw [if_neg (by rw [hri]; decide), if_neg (by rw [hx]; rintro ⟨h, -⟩; cases h)]
  unfold insV at HM
  have HR := Lib.hid (right_any o ho dn 0 nn)
  rw [hri] at HR
  have HX := Lib.hid hx
  have h30 : o ≤ 30 := shp_known (by rw [HX.out])
  obtain ⟨b, hbb⟩ : ∃ b, b = o * 8 + dn := ⟨_, rfl⟩
  have k3 : bits BinOp.or IntKind.u8 ((o : Int) * 8 % 256) dn = (b : Int) := by rw [hbb]; exact byte1 (l := dn) h30 (by omega)
  have k4 : bits BinOp.or IntKind.u8 ((o : Int) * 8 % 256) (dn % 256) = (b : Int) := by rw [hbb]; exact byte2 (l := dn) h30 (by omega)
  have hb2 : b < 256 := by omega
  have p0 : ¬ (p : Int) < 0 := by omega
  have p1 : ¬ (65535 : Int) < (p : Int) := by omega
  have HBB := Lib.hid (And.intro hbb hb2)
  clear hx hbb hb2 h30
  unfold insV at HR ⊢
  have hba : Below w.heap.size w (w.alloc (.cells #[.int .u8 o, .int .i64 dn, .int .i64 0, .int .i64 nn] 56)) := (Below.refl _ _).alloc (Nat.le_refl _) _
  have hr4 := in_row w o dn 0 nn
  have HS := Lib.hid (shape_any o ho (w.alloc (.cells #[.int .u8 o, .int .i64 dn, .int .i64 0, .int .i64 nn] 56)))
  have k0 : (w.alloc (.cells #[.int .u8 o, .int .i64 dn, .int .i64 0, .int .i64 nn] 56)).cell? ⟨w.heap.size, 0, none⟩ = some (.int .u8 o) := hr4.cell (by omega)
  have HR4 := Lib.hid hr4
  have HBA := Lib.hid hba
  clear hba hr4
  go_enter Try.func56, Try.ntmps56
  go_wp2_with fail
  refine HS.out.mono ?_
  rintro e W1 ⟨rfl, hb1⟩
  rw [HX.out]
  dsimp only [shpC]
  have hr1 := below_row hb1 HR4.out HR4.out.lt
  have HB1 := Lib.hid (HBA.out.trans (hb1.mono HBA.out.size))
  clear hb1 HS HBA HR4 k0
  have hrs : (W1.alloc (.cells #[.bool true, .int .i64 6, .bool false, .bool false, .bool true, .bool false, .bool false] 132)).rowIs W1.heap.size 132 7 (shF ⟨true, 6, false, false, true, false, false⟩) := sh_row W1 ⟨true, 6, false, false, true, false, false⟩
  have hb2 : Below W1.heap.size W1 (W1.alloc (.cells #[.bool true, .int .i64 6, .bool false, .bool false, .bool true, .bool false, .bool false] 132)) := (Below.refl _ _).alloc (Nat.le_refl _) _
  have hr2 := below_row hb2 hr1 hr1.lt
  have HB2 := Lib.hid (HB1.out.trans (hb2.mono HB1.out.size))
  have e0 : (W1.alloc (.cells #[.bool true, .int .i64 6, .bool false, .bool false, .bool true, .bool false, .bool false] 132)).cell? ⟨w.heap.size, 0, none⟩ = some (.int .u8 o) := hr2.cell (by omega)
  have e1 : (W1.alloc (.cells #[.bool true, .int .i64 6, .bool false, .bool false, .bool true, .bool false, .bool false] 132)).cell? ⟨w.heap.size, 1, none⟩ = some (.int .i64 dn) := hr2.cell (by omega)
  have e2 : (W1.alloc (.cells #[.bool true, .int .i64 6, .bool false, .bool false, .bool true, .bool false, .bool false] 132)).cell? ⟨w.heap.size, 2, none⟩ = some (.int .i64 0) := hr2.cell (by omega)
  have e3 : (W1.alloc (.cells #[.bool true, .int .i64 6, .bool false, .bool false, .bool true, .bool false, .bool false] 132)).cell? ⟨w.heap.size, 3, none⟩ = some (.int .i64 nn) := hr2.cell (by omega)
  have HR2 := Lib.hid hr2
  have HRS := Lib.hid hrs
  clear hb2 hr2 hr1 hrs HB1
  go_wp2_with fail
  refine (HR.out _).mono ?_
  rintro e w3 ⟨rfl, hb3⟩
  have hr3 := below_row hb3 HR2.out HR2.out.lt
  have hs3 := below_row hb3 HRS.out HRS.out.lt
  have HB3 := Lib.hid (HB2.out.trans (hb3.mono HB2.out.size))
  have HR3 := Lib.hid hr3
  have HS3 := Lib.hid hs3
  have f0 : w3.cell? ⟨w.heap.size, 0, none⟩ = some (.int .u8 o) := hr3.cell (by omega)
  have f1 : w3.cell? ⟨w.heap.size, 1, none⟩ = some (.int .i64 dn) := hr3.cell (by omega)
  have f2 : w3.cell? ⟨w.heap.size, 2, none⟩ = some (.int .i64 0) := hr3.cell (by omega)
  have f3 : w3.cell? ⟨w.heap.size, 3, none⟩ = some (.int .i64 nn) := hr3.cell (by omega)
  have g2 := hs3.cell (show 2 < 7 by omega)
  have g3 := hs3.cell (show 3 < 7 by omega)
  have g5 := hs3.cell (show 5 < 7 by omega)
  have g6 := hs3.cell (show 6 < 7 by omega)
  dsimp only [shF] at g2 g3 g5 g6
  clear hb3 hr3 hs3 HB2 e0 e1 e2 e3
  go_upto_region 13 with fail
  have ho4 := ow_one w3 b HBB.out.2
  have hb4 : Below w3.heap.size w3 (w3.alloc (.cells #[.int .u8 b] 5)) := (Below.refl _ _).alloc (Nat.le_refl _) _
  have hr4 := below_row hb4 HR3.out HR3.out.lt
  have hs4 := below_row hb4 HS3.out HS3.out.lt
  have HL3 := Lib.hid HB3.out.size
  have HL4 := Lib.hid hb4.size
  have HB4 := Lib.hid (HB3.out.trans (hb4.mono HB3.out.size))
  generalize w3.alloc (.cells #[.int .u8 b] 5) = w4 at *
  clear f0 f1 f2 f3 g2 g3 g5 g6 hb4 HB3 HR3 HS3
  have f0 : w4.cell? ⟨w.heap.size, 0, none⟩ = some (.int .u8 o) := hr4.cell (by omega)
  have f1 : w4.cell? ⟨w.heap.size, 1, none⟩ = some (.int .i64 dn) := hr4.cell (by omega)
  have f2 : w4.cell? ⟨w.heap.size, 2, none⟩ = some (.int .i64 0) := hr4.cell (by omega)
  have f3 : w4.cell? ⟨w.heap.size, 3, none⟩ = some (.int .i64 nn) := hr4.cell (by omega)
  have g2 := hs4.cell (show 2 < 7 by omega)
  have g5 := hs4.cell (show 5 < 7 by omega)
  have g6 := hs4.cell (show 6 < 7 by omega)
  dsimp only [shF] at g2 g5 g6
  have HO4 := Lib.hid ho4
  clear ho4 hr4 hs4
  go_wp2_with fail
  refine (HM.out _).mono ?_
  rintro e w5 ⟨rfl, hb5⟩
  have HO5 := Lib.hid (HO4.out.below hb5)
  have HB5 := Lib.hid (HB4.out.trans (hb5.mono HB4.out.size))
  have HL5 := Lib.hid (Nat.le_trans HL4.out hb5.size)
  have h05 := (hb5.cell (World.block_lt_of_cell? _ _ f0)).trans f0
  have h15 := (hb5.cell (World.block_lt_of_cell? _ _ f1)).trans f1
  have h25 := (hb5.cell (World.block_lt_of_cell? _ _ f2)).trans f2
  have h35 := (hb5.cell (World.block_lt_of_cell? _ _ f3)).trans f3
  clear hb5 f0 f1 f2 f3 g2 g5 g6
  go_wp2_with (at_builtin; refine append_new (.tmp 87) (.tmp 91) rfl rfl _ 1 _ nn rfl rfl HO5.out (by omega) (by omega) (by simp) HL5.out ?_; intro v6 w6 ho6 hg6 hv6; have HO6 := Lib.hid ho6; have HB6 := Lib.hid (below_of_append HB5.out HO5.out hg6 HB5.out.size HL3.out); clear ho6 hg6 hv6)
  go_ret2
  exact putP_ok HE.out.1 (by rw [HE.out.2.1, HE.out.2.2, ← HBB.out.1]; rfl) HO6.out HL3.out HB6.out
set_option maxHeartbeats 8000000 in
theorem put_4 (o : Nat) (ho : o < 256) (dn : Nat) (p : Nat) (hp : p ≤ 65535) (w : World) (hri : rightI o dn 0 0 = true) (hd : dn ≤ 6) (hx : shp o = ⟨true, 6, false, false, false, false, false⟩) : Calls Try.prog 56 #[insV o dn 0 0, .int .i64 p] w (PutP ⟨o, dn, 0, 0⟩ p w) := by
  have HM := Lib.hid (more_any o ho dn 0 0)
  rw [show moreI ⟨o, dn, 0, 0⟩ = 0 by unfold moreI; rw [hx]; rfl] at HM
  have HE : Hid (putE ⟨o, dn, 0, 0⟩ p = 0 ∧ o * 8 + lowX (shp o) dn 0 = o * 8 + dn ∧ tailX (shp o) 0 0 p = []) := by
    unfold putE
    refine ⟨?_, by rw [hx]; rfl, by rw [hx]; rfl⟩
    rw [if_neg (by rw [hri]; decide), if_neg (by rw [hx]; rintro ⟨h, -⟩; cases h)]
  unfold insV at HM
  have HR := Lib.hid (right_any o ho dn 0 0)
  rw [hri] at HR
  have HX := Lib.hid hx
  have h30 : o ≤ 30 := shp_known (by rw [HX.out])
  obtain ⟨b, hbb⟩ : ∃ b, b = o * 8 + dn := ⟨_, rfl⟩
  have k3 : bits BinOp.or IntKind.u8 ((o : Int) * 8 % 256) dn = (b : Int) := by rw [hbb]; exact byte1 (l := dn) h30 (by omega)
  have k4 : bits BinOp.or IntKind.u8 ((o : Int) * 8 % 256) (dn % 256) = (b : Int) := by rw [hbb]; exact byte2 (l := dn) h30 (by omega)
  have hb2 : b < 256 := by omega
  have p0 : ¬ (p : Int) < 0 := by omega
  have p1 : ¬ (65535 : Int) < (p : Int) := by omega
  have HBB := Lib.hid (And.intro hbb hb2)
  clear hx hbb hb2 h30
  unfold insV at HR ⊢
  have hba : Below w.heap.size w (w.alloc (.cells #[.int .u8 o, .int .i64 dn, .int .i64 0, .int .i64 0] 56)) := (Below.refl _ _).alloc (Nat.le_refl _) _
  have hr4 := in_row w o dn 0 0
  have HS := Lib.hid (shape_any o ho (w.alloc (.cells #[.int .u8 o, .int .i64 dn, .int .i64 0, .int .i64 0] 56)))
  have k0 : (w.alloc (.cells #[.int .u8 o, .int .i64 dn, .int .i64 0, .int .i64 0] 56)).cell? ⟨w.heap.size, 0, none⟩ = some (.int .u8 o) := hr4.cell (by omega)
  have HR4 := Lib.hid hr4
  have HBA := Lib.hid hba
  clear hba hr4
  go_enter Try.func56, Try.ntmps56
  go_wp2_with fail
  refine HS.out.mono ?_
  rintro e W1 ⟨rfl, hb1⟩
  rw [HX.out]
  dsimp only [shpC]
  have hr1 := below_row hb1 HR4.out HR4.out.lt
  have HB1 := Lib.hid (HBA.out.trans (hb1.mono HBA.out.size))
  clear hb1 HS HBA HR4 k0
  have hrs : (W1.alloc (.cells #[.bool true, .int .i64 6, .bool false, .bool false, .bool false, .bool false, .bool false] 132)).rowIs W1.heap.size 132 7 (shF ⟨true, 6, false, false, false, false, false⟩) := sh_row W1 ⟨true, 6, false, false, false, false, false⟩
  have hb2 : Below W1.heap.size W1 (W1.alloc (.cells #[.bool true, .int .i64 6, .bool false, .bool false, .bool false, .bool false, .bool false] 132)) := (Below.refl _ _).alloc (Nat.le_refl _) _
  have hr2 := below_row hb2 hr1 hr1.lt
  have HB2 := Lib.hid (HB1.out.trans (hb2.mono HB1.out.size))
  have e0 : (W1.alloc (.cells #[.bool true, .int .i64 6, .bool false, .bool false, .bool false, .bool false, .bool false] 132)).cell? ⟨w.heap.size, 0, none⟩ = some (.int .u8 o) := hr2.cell (by omega)
  have e1 : (W1.alloc (.cells #[.bool true, .int .i64 6, .bool false, .bool false, .bool false, .bool false, .bool false] 132)).cell? ⟨w.heap.size, 1, none⟩ = some (.int .i64 dn) := hr2.cell (by omega)
  have e2 : (W1.alloc (.cells #[.bool true, .int .i64 6, .bool false, .bool false, .bool false, .bool false, .bool false] 132)).cell? ⟨w.heap.size, 2, none⟩ = some (.int .i64 0) := hr2.cell (by omega)
  have e3 : (W1.alloc (.cells #[.bool true, .int .i64 6, .bool false, .bool false, .bool false, .bool false, .bool false] 132)).cell? ⟨w.heap.size, 3, none⟩ = some (.int .i64 0) := hr2.cell (by omega)
  have HR2 := Lib.hid hr2
  have HRS := Lib.hid hrs
  clear hb2 hr2 hr1 hrs HB1
  go_wp2_with fail
  refine (HR.out _).mono ?_
  rintro e w3 ⟨rfl, hb3⟩
  have hr3 := below_row hb3 HR2.out HR2.out.lt
  have hs3 := below_row hb3 HRS.out HRS.out.lt
  have HB3 := Lib.hid (HB2.out.trans (hb3.mono HB2.out.size))
  have HR3 := Lib.hid hr3
  have HS3 := Lib.hid hs3
  have f0 : w3.cell? ⟨w.heap.size, 0, none⟩ = some (.int .u8 o) := hr3.cell (by omega)
  have f1 : w3.cell? ⟨w.heap.size, 1, none⟩ = some (.int .i64 dn) := hr3.cell (by omega)
  have f2 : w3.cell? ⟨w.heap.size, 2, none⟩ = some (.int .i64 0) := hr3.cell (by omega)
  have f3 : w3.cell? ⟨w.heap.size, 3, none⟩ = some (.int .i64 0) := hr3.cell (by omega)
  have g2 := hs3.cell (show 2 < 7 by omega)
  have g3 := hs3.cell (show 3 < 7 by omega)
  have g5 := hs3.cell (show 5 < 7 by omega)
  have g6 := hs3.cell (show 6 < 7 by omega)
  dsimp only [shF] at g2 g3 g5 g6
  clear hb3 hr3 hs3 HB2 e0 e1 e2 e3
  go_upto_region 13 with fail
  have ho4 := ow_one w3 b HBB.out.2
  have hb4 : Below w3.heap.size w3 (w3.alloc (.cells #[.int .u8 b] 5)) := (Below.refl _ _).alloc (Nat.le_refl _) _
  have hr4 := below_row hb4 HR3.out HR3.out.lt
  have hs4 := below_row hb4 HS3.out HS3.out.lt
  have HL3 := Lib.hid HB3.out.size
  have HL4 := Lib.hid hb4.size
  have HB4 := Lib.hid (HB3.out.trans (hb4.mono HB3.out.size))
  generalize w3.alloc (.cells #[.int .u8 b] 5) = w4 at *
  clear f0 f1 f2 f3 g2 g3 g5 g6 hb4 HB3 HR3 HS3
  have f0 : w4.cell? ⟨w.heap.size, 0, none⟩ = some (.int .u8 o) := hr4.cell (by omega)
  have f1 : w4.cell? ⟨w.heap.size, 1, none⟩ = some (.int .i64 dn) := hr4.cell (by omega)
  have f2 : w4.cell? ⟨w.heap.size, 2, none⟩ = some (.int .i64 0) := hr4.cell (by omega)
  have f3 : w4.cell? ⟨w.heap.size, 3, none⟩ = some (.int .i64 0) := hr4.cell (by omega)
  have g2 := hs4.cell (show 2 < 7 by omega)
  have g5 := hs4.cell (show 5 < 7 by omega)
  have g6 := hs4.cell (show 6 < 7 by omega)
  dsimp only [shF] at g2 g5 g6
  have HO4 := Lib.hid ho4
  clear ho4 hr4 hs4
  go_wp2_with fail
  refine (HM.out _).mono ?_
  rintro e w5 ⟨rfl, hb5⟩
  have HO5 := Lib.hid (HO4.out.below hb5)
  have HB5 := Lib.hid (HB4.out.trans (hb5.mono HB4.out.size))
  have HL5 := Lib.hid (Nat.le_trans HL4.out hb5.size)
  have h05 := (hb5.cell (World.block_lt_of_cell? _ _ f0)).trans f0
  have h15 := (hb5.cell (World.block_lt_of_cell? _ _ f1)).trans f1
  have h25 := (hb5.cell (World.block_lt_of_cell? _ _ f2)).trans f2
  have h35 := (hb5.cell (World.block_lt_of_cell? _ _ f3)).trans f3
  clear hb5 f0 f1 f2 f3 g2 g5 g6
  go_wp2_with fail
  go_ret2
  exact putP_ok HE.out.1 (by rw [HE.out.2.1, HE.out.2.2, ← HBB.out.1]) HO5.out HL3.out HB5.out
set_option maxHeartbeats 8000000 in
theorem put_5 (o : Nat) (ho : o < 256) (sn : Nat) (p : Nat) (hp : p ≤ 65535) (w : World) (hri : rightI o 0 sn 0 = true) (hs : sn ≤ 6) (hx : shp o = ⟨true, -1, false, true, false, false, false⟩) : Calls Try.prog 56 #[insV o 0 sn 0, .int .i64 p] w (PutP ⟨o, 0, sn, 0⟩ p w) := by
  have HM := Lib.hid (more_any o ho 0 sn 0)
  rw [show moreI ⟨o, 0, sn, 0⟩ = 0 by unfold moreI; rw [hx]; ((try unfold moreX); (try unfold tailX); simp; omega)] at HM
  have HE : Hid (putE ⟨o, 0, sn, 0⟩ p = 0 ∧ o * 8 + lowX (shp o) 0 sn = o * 8 + sn ∧ tailX (shp o) sn 0 p = []) := by
    unfold putE
    refine ⟨?_, by rw [hx]; rfl, by rw [hx]; ((try unfold moreX); (try unfold tailX); simp; omega)⟩
    rw [if_neg (by rw [hri]; decide), if_neg (by rw [hx]; rintro ⟨h, -⟩; cases h)]
  unfold insV at HM
  have HR := Lib.hid (right_any o ho 0 sn 0)
  rw [hri] at HR
  have HX := Lib.hid hx
  have h30 : o ≤ 30 := shp_known (by rw [HX.out])
  obtain ⟨b, hbb⟩ : ∃ b, b = o * 8 + sn := ⟨_, rfl⟩
  have k3 : bits BinOp.or IntKind.u8 ((o : Int) * 8 % 256) sn = (b : Int) := by rw [hbb]; exact byte1 (l := sn) h30 (by omega)
  have k4 : bits BinOp.or IntKind.u8 ((o : Int) * 8 % 256) (sn % 256) = (b : Int) := by rw [hbb]; exact byte2 (l := sn) h30 (by omega)
  have hb2 : b < 256 := by omega
  have p0 : ¬ (p : Int) < 0 := by omega
  have p1 : ¬ (65535 : Int) < (p : Int) := by omega
  have HBB := Lib.hid (And.intro hbb hb2)
  clear hx hbb hb2 h30
  unfold insV at HR ⊢
  have hba : Below w.heap.size w (w.alloc (.cells #[.int .u8 o, .int .i64 0, .int .i64 sn, .int .i64 0] 56)) := (Below.refl _ _).alloc (Nat.le_refl _) _
  have hr4 := in_row w o 0 sn 0
  have HS := Lib.hid (shape_any o ho (w.alloc (.cells #[.int .u8 o, .int .i64 0, .int .i64 sn, .int .i64 0] 56)))
  have k0 : (w.alloc (.cells #[.int .u8 o, .int .i64 0, .int .i64 sn, .int .i64 0] 56)).cell? ⟨w.heap.size, 0, none⟩ = some (.int .u8 o) := hr4.cell (by omega)
  have HR4 := Lib.hid hr4
  have HBA := Lib.hid hba
  clear hba hr4
  go_enter Try.func56, Try.ntmps56
  go_wp2_with fail
  refine HS.out.mono ?_
  rintro e W1 ⟨rfl, hb1⟩
  rw [HX.out]
  dsimp only [shpC]
  have hr1 := below_row hb1 HR4.out HR4.out.lt
  have HB1 := Lib.hid (HBA.out.trans (hb1.mono HBA.out.size))
  clear hb1 HS HBA HR4 k0
  have hrs : (W1.alloc (.cells #[.bool true, .int .i64 (-1), .bool false, .bool true, .bool false, .bool false, .bool false] 132)).rowIs W1.heap.size 132 7 (shF ⟨true, -1, false, true, false, false, false⟩) := sh_row W1 ⟨true, -1, false, true, false, false, false⟩
  have hb2 : Below W1.heap.size W1 (W1.alloc (.cells #[.bool true, .int .i64 (-1), .bool false, .bool true, .bool false, .bool false, .bool false] 132)) := (Below.refl _ _).alloc (Nat.le_refl _) _
  have hr2 := below_row hb2 hr1 hr1.lt
  have HB2 := Lib.hid (HB1.out.trans (hb2.mono HB1.out.size))
  have e0 : (W1.alloc (.cells #[.bool true, .int .i64 (-1), .bool false, .bool true, .bool false, .bool false, .bool false] 132)).cell? ⟨w.heap.size, 0, none⟩ = some (.int .u8 o) := hr2.cell (by omega)
  have e1 : (W1.alloc (.cells #[.bool true, .int .i64 (-1), .bool false, .bool true, .bool false, .bool false, .bool false] 132)).cell? ⟨w.heap.size, 1, none⟩ = some (.int .i64 0) := hr2.cell (by omega)
  have e2 : (W1.alloc (.cells #[.bool true, .int .i64 (-1), .bool false, .bool true, .bool false, .bool false, .bool false] 132)).cell? ⟨w.heap.size, 2, none⟩ = some (.int .i64 sn) := hr2.cell (by omega)
  have e3 : (W1.alloc (.cells #[.bool true, .int .i64 (-1), .bool false, .bool true, .bool false, .bool false, .bool false] 132)).cell? ⟨w.heap.size, 3, none⟩ = some (.int .i64 0) := hr2.cell (by omega)
  have HR2 := Lib.hid hr2
  have HRS := Lib.hid hrs
  clear hb2 hr2 hr1 hrs HB1
  go_wp2_with fail
  refine (HR.out _).mono ?_
  rintro e w3 ⟨rfl, hb3⟩
  have hr3 := below_row hb3 HR2.out HR2.out.lt
  have hs3 := below_row hb3 HRS.out HRS.out.lt
  have HB3 := Lib.hid (HB2.out.trans (hb3.mono HB2.out.size))
  have HR3 := Lib.hid hr3
  have HS3 := Lib.hid hs3
  have f0 : w3.cell? ⟨w.heap.size, 0, none⟩ = some (.int .u8 o) := hr3.cell (by omega)
  have f1 : w3.cell? ⟨w.heap.size, 1, none⟩ = some (.int .i64 0) := hr3.cell (by omega)
  have f2 : w3.cell? ⟨w.heap.size, 2, none⟩ = some (.int .i64 sn) := hr3.cell (by omega)
  have f3 : w3.cell? ⟨w.heap.size, 3, none⟩ = some (.int .i64 0) := hr3.cell (by omega)
  have g2 := hs3.cell (show 2 < 7 by omega)
  have g3 := hs3.cell (show 3 < 7 by omega)
  have g5 := hs3.cell (show 5 < 7 by omega)
  have g6 := hs3.cell (show 6 < 7 by omega)
  dsimp only [shF] at g2 g3 g5 g6
  clear hb3 hr3 hs3 HB2 e0 e1 e2 e3
  go_upto_region 13 with fail
  have ho4 := ow_one w3 b HBB.out.2
  have hb4 : Below w3.heap.size w3 (w3.alloc (.cells #[.int .u8 b] 5)) := (Below.refl _ _).alloc (Nat.le_refl _) _
  have hr4 := below_row hb4 HR3.out HR3.out.lt
  have hs4 := below_row hb4 HS3.out HS3.out.lt
  have HL3 := Lib.hid HB3.out.size
  have HL4 := Lib.hid hb4.size
  have HB4 := Lib.hid (HB3.out.trans (hb4.mono HB3.out.size))
  generalize w3.alloc (.cells #[.int .u8 b] 5) = w4 at *
  clear f0 f1 f2 f3 g2 g3 g5 g6 hb4 HB3 HR3 HS3
  have f0 : w4.cell? ⟨w.heap.size, 0, none⟩ = some (.int .u8 o) := hr4.cell (by omega)
  have f1 : w4.cell? ⟨w.heap.size, 1, none⟩ = some (.int .i64 0) := hr4.cell (by omega)
  have f2 : w4.cell? ⟨w.heap.size, 2, none⟩ = some (.int .i64 sn) := hr4.cell (by omega)
  have f3 : w4.cell? ⟨w.heap.size, 3, none⟩ = some (.int .i64 0) := hr4.cell (by omega)
  have g2 := hs4.cell (show 2 < 7 by omega)
  have g5 := hs4.cell (show 5 < 7 by omega)
  have g6 := hs4.cell (show 6 < 7 by omega)
  dsimp only [shF] at g2 g5 g6
  have HO4 := Lib.hid ho4
  clear ho4 hr4 hs4
  go_wp2_with fail
  refine (HM.out _).mono ?_
  rintro e w5 ⟨rfl, hb5⟩
  have HO5 := Lib.hid (HO4.out.below hb5)
  have HB5 := Lib.hid (HB4.out.trans (hb5.mono HB4.out.size))
  have HL5 := Lib.hid (Nat.le_trans HL4.out hb5.size)
  have h05 := (hb5.cell (World.block_lt_of_cell? _ _ f0)).trans f0
  have h15 := (hb5.cell (World.block_lt_of_cell? _ _ f1)).trans f1
  have h25 := (hb5.cell (World.block_lt_of_cell? _ _ f2)).trans f2
  have h35 := (hb5.cell (World.block_lt_of_cell? _ _ f3)).trans f3
  clear hb5 f0 f1 f2 f3 g2 g5 g6
  go_wp2_with fail
  go_ret2
  exact putP_ok HE.out.1 (by rw [HE.out.2.1, HE.out.2.2, ← HBB.out.1]) HO5.out HL3.out HB5.out
set_option maxHeartbeats 8000000 in
theorem put_5n (o : Nat) (ho : o < 256) (nn : Nat) (p : Nat) (hp : p ≤ 65535) (w : World) (hri : rightI o 0 7 nn = true) (hn : nn ≤ 255) (hx : shp o = ⟨true, -1, false, true, false, false, false⟩) : Calls Try.prog 56 #[insV o 0 7 nn, .int .i64 p] w (PutP ⟨o, 0, 7, nn⟩ p w) := by
  have HM := Lib.hid (more_any o ho 0 7 nn)
  rw [show moreI ⟨o, 0, 7, nn⟩ = 1 by unfold moreI; rw [hx]; rfl] at HM
  have HE : Hid (putE ⟨o, 0, 7, nn⟩ p = 0 ∧ o * 8 + lowX (shp o) 0 7 = o * 8 + 7 ∧ tailX (shp o) 7 nn p = [nn]) := by
    unfold putE
    refine ⟨?_, by rw [hx]; rfl, by rw [hx]; rfl⟩
    rw [if_neg (by rw [hri]; decide), if_neg (by rw [hx]; rintro ⟨h, -⟩; cases h)]
  unfold insV at HM
  have HR := Lib.hid (right_any o ho 0 7 nn)
  rw [hri] at HR
  have HX := Lib.hid hx
  have h30 : o ≤ 30 := shp_known (by rw [HX.out])
  obtain ⟨b, hbb⟩ : ∃ b, b = o * 8 + 7 := ⟨_, rfl⟩
  have k3 : bits BinOp.or IntKind.u8 ((o : Int) * 8 % 256) 7 = (b : Int) := by rw [hbb]; exact byte1 (l := 7) h30 (by omega)
  have k4 : bits BinOp.or IntKind.u8 ((o : Int) * 8 % 256) (7 % 256) = (b : Int) := by rw [hbb]; exact byte2 (l := 7) h30 (by omega)
  have hb2 : b < 256 := by omega
  have p0 : ¬ (p : Int) < 0 := by omega
  have p1 : ¬ (65535 : Int) < (p : Int) := by omega
  have HBB := Lib.hid (And.intro hbb hb2)
  clear hx hbb hb2 h30
  unfold insV at HR ⊢
  have hba : Below w.heap.size w (w.alloc (.cells #[.int .u8 o, .int .i64 0, .int .i64 7, .int .i64 nn] 56)) := (Below.refl _ _).alloc (Nat.le_refl _) _
  have hr4 := in_row w o 0 7 nn
  have HS := Lib.hid (shape_any o ho (w.alloc (.cells #[.int .u8 o, .int .i64 0, .int .i64 7, .int .i64 nn] 56)))
  have k0 : (w.alloc (.cells #[.int .u8 o, .int .i64 0, .int .i64 7, .int .i64 nn] 56)).cell? ⟨w.heap.size, 0, none⟩ = some (.int .u8 o) := hr4.cell (by omega)
  have HR4 := Lib.hid hr4
  have HBA := Lib.hid hba
  clear hba hr4
  go_enter Try.func56, Try.ntmps56
  go_wp2_with fail
  refine HS.out.mono ?_
  rintro e W1 ⟨rfl, hb1⟩
  rw [HX.out]
  dsimp only [shpC]
  have hr1 := below_row hb1 HR4.out HR4.out.lt
  have HB1 := Lib.hid (HBA.out.trans (hb1.mono HBA.out.size))
  clear hb1 HS HBA HR4 k0
  have hrs : (W1.alloc (.cells #[.bool true, .int .i64 (-1), .bool false, .bool true, .bool false, .bool false, .bool false] 132)).rowIs W1.heap.size 132 7 (shF ⟨true, -1, false, true, false, false, false⟩) := sh_row W1 ⟨true, -1, false, true, false, false, false⟩
  have hb2 : Below W1.heap.size W1 (W1.alloc (.cells #[.bool true, .int .i64 (-1), .bool false, .bool true, .bool false, .bool false, .bool false] 132)) := (Below.refl _ _).alloc (Nat.le_refl _) _
  have hr2 := below_row hb2 hr1 hr1.lt
  have HB2 := Lib.hid (HB1.out.trans (hb2.mono HB1.out.size))
  have e0 : (W1.alloc (.cells #[.bool true, .int .i64 (-1), .bool false, .bool true, .bool false, .bool false, .bool false] 132)).cell? ⟨w.heap.size, 0, none⟩ = some (.int .u8 o) := hr2.cell (by omega)
  have e1 : (W1.alloc (.cells #[.bool true, .int .i64 (-1), .bool false, .bool true, .bool false, .bool false, .bool false] 132)).cell? ⟨w.heap.size, 1, none⟩ = some (.int .i64 0) := hr2.cell (by omega)
  have e2 : (W1.alloc (.cells #[.bool true, .int .i64 (-1), .bool false, .bool true, .bool false, .bool false, .bool false] 132)).cell? ⟨w.heap.size, 2, none⟩ = some (.int .i64 7) := hr2.cell (by omega)
  have e3 : (W1.alloc (.cells #[.bool true, .int .i64 (-1), .bool false, .bool true, .bool false, .bool false, .bool false] 132)).cell? ⟨w.heap.size, 3, none⟩ = some (.int .i64 nn) := hr2.cell (by omega)
  have HR2 := Lib.hid hr2
  have HRS := Lib.hid hrs
  clear hb2 hr2 hr1 hrs HB1
  go_wp2_with fail
  refine (HR.out _).mono ?_
  rintro e w3 ⟨rfl, hb3⟩
  have hr3 := below_row hb3 HR2.out HR2.out.lt
  have hs3 := below_row hb3 HRS.out HRS.out.lt
  have HB3 := Lib.hid (HB2.out.trans (hb3.mono HB2.out.size))
  have HR3 := Lib.hid hr3
  have HS3 := Lib.hid hs3
  have f0 : w3.cell? ⟨w.heap.size, 0, none⟩ = some (.int .u8 o) := hr3.cell (by omega)
  have f1 : w3.cell? ⟨w.heap.size, 1, none⟩ = some (.int .i64 0) := hr3.cell (by omega)
  have f2 : w3.cell? ⟨w.heap.size, 2, none⟩ = some (.int .i64 7) := hr3.cell (by omega)
  have f3 : w3.cell? ⟨w.heap.size, 3, none⟩ = some (.int .i64 nn) := hr3.cell (by omega)
  have g2 := hs3.cell (show 2 < 7 by omega)
  have g3 := hs3.cell (show 3 < 7 by omega)
  have g5 := hs3.cell (show 5 < 7 by omega)
  have g6 := hs3.cell (show 6 < 7 by omega)
  dsimp only [shF] at g2 g3 g5 g6
  clear hb3 hr3 hs3 HB2 e0 e1 e2 e3
  go_upto_region 13 with fail
  have ho4 := ow_one w3 b HBB.out.2
  have hb4 : Below w3.heap.size w3 (w3.alloc (.cells #[.int .u8 b] 5)) := (Below.refl _ _).alloc (Nat.le_refl _) _
  have hr4 := below_row hb4 HR3.out HR3.out.lt
  have hs4 := below_row hb4 HS3.out HS3.out.lt
  have HL3 := Lib.hid HB3.out.size
  have HL4 := Lib.hid hb4.size
  have HB4 := Lib.hid (HB3.out.trans (hb4.mono HB3.out.size))
  generalize w3.alloc (.cells #[.int .u8 b] 5) = w4 at *
  clear f0 f1 f2 f3 g2 g3 g5 g6 hb4 HB3 HR3 HS3
  have f0 : w4.cell? ⟨w.heap.size, 0, none⟩ = some (.int .u8 o) := hr4.cell (by omega)
  have f1 : w4.cell? ⟨w.heap.size, 1, none⟩ = some (.int .i64 0) := hr4.cell (by omega)
  have f2 : w4.cell? ⟨w.heap.size, 2, none⟩ = some (.int .i64 7) := hr4.cell (by omega)
  have f3 : w4.cell? ⟨w.heap.size, 3, none⟩ = some (.int .i64 nn) := hr4.cell (by omega)
  have g2 := hs4.cell (show 2 < 7 by omega)
  have g5 := hs4.cell (show 5 < 7 by omega)
  have g6 := hs4.cell (show 6 < 7 by omega)
  dsimp only [shF] at g2 g5 g6
  have HO4 := Lib.hid ho4
  clear ho4 hr4 hs4
  go_wp2_with fail
  refine (HM.out _).mono ?_
  rintro e w5 ⟨rfl, hb5⟩
  have HO5 := Lib.hid (HO4.out.below hb5)
  have HB5 := Lib.hid (HB4.out.trans (hb5.mono HB4.out.size))
  have HL5 := Lib.hid (Nat.le_trans HL4.out hb5.size)
  have h05 := (hb5.cell (World.block_lt_of_cell? _ _ f0)).trans f0
  have h15 := (hb5.cell (World.block_lt_of_cell? _ _ f1)).trans f1
  have h25 := (hb5.cell (World.block_lt_of_cell? _ _ f2)).trans f2
  have h35 := (hb5.cell (World.block_lt_of_cell? _ _ f3)).trans f3
  clear hb5 f0 f1 f2 f3 g2 g5 g6
  go_wp2_with (at_builtin; refine append_new (.tmp 87) (.tmp 91) rfl rfl _ 1 _ nn rfl rfl HO5.out (by omega) (by omega) (by simp) HL5.out ?_; intro v6 w6 ho6 hg6 hv6; have HO6 := Lib.hid ho6; have HB6 := Lib.hid (below_of_append HB5.out HO5.out hg6 HB5.out.size HL3.out); clear ho6 hg6 hv6)
  go_ret2
  exact putP_ok HE.out.1 (by rw [HE.out.2.1, HE.out.2.2, ← HBB.out.1]; rfl) HO6.out HL3.out HB6.out
set_option maxHeartbeats 8000000 in
theorem put_6 (o : Nat) (ho : o < 256) (dn nn : Nat) (p : Nat) (hp : p ≤ 65535) (w : World) (hri : rightI o dn 0 nn = true) (hd : dn ≤ 3) (hn : nn ≤ 255) (hx : shp o = ⟨true, 3, false, false, true, false, false⟩) : Calls Try.prog 56 #[insV o dn 0 nn, .int .i64 p] w (PutP ⟨o, dn, 0, nn⟩ p w) := by
  have HM := Lib.hid (more_any o ho dn 0 nn)
  rw [show moreI ⟨o, dn, 0, nn⟩ = 1 by unfold moreI; rw [hx]; rfl] at HM
  have HE : Hid (putE ⟨o, dn, 0, nn⟩ p = 0 ∧ o * 8 + lowX (shp o) dn 0 = o * 8 + dn ∧ tailX (shp o) 0 nn p = [nn]) := by
    unfold putE
    refine ⟨?_, by rw [hx]; rfl, by rw [hx]; rfl⟩
    rw [if_neg (by rw [hri]; decide), if_neg (by rw [hx]; rintro ⟨h, -⟩; cases h)]
  unfold insV at HM
  have HR := Lib.hid (right_any o ho dn 0 nn)
  rw [hri] at HR
  have HX := Lib.hid hx
  have h30 : o ≤ 30 := shp_known (by rw [HX.out])
  obtain ⟨b, hbb⟩ : ∃ b, b = o * 8 + dn := ⟨_, rfl⟩
  have k3 : bits BinOp.or IntKind.u8 ((o : Int) * 8 % 256) dn = (b : Int) := by rw [hbb]; exact byte1 (l := dn) h30 (by omega)
  have k4 : bits BinOp.or IntKind.u8 ((o : Int) * 8 % 256) (dn % 256) = (b : Int) := by rw [hbb]; exact byte2 (l := dn) h30 (by omega)
  have hb2 : b < 256 := by omega
  have p0 : ¬ (p : Int) < 0 := by omega
  have p1 : ¬ (65535 : Int) < (p : Int) := by omega
  have HBB := Lib.hid (And.intro hbb hb2)
  clear hx hbb hb2 h30
  unfold insV at HR ⊢
  have hba : Below w.heap.size w (w.alloc (.cells #[.int .u8 o, .int .i64 dn, .int .i64 0, .int .i64 nn] 56)) := (Below.refl _ _).alloc (Nat.le_refl _) _
  have hr4 := in_row w o dn 0 nn
  have HS := Lib.hid (shape_any o ho (w.alloc (.cells #[.int .u8 o, .int .i64 dn, .int .i64 0, .int .i64 nn] 56)))
  have k0 : (w.alloc (.cells #[.int .u8 o, .int .i64 dn, .int .i64 0, .int .i64 nn] 56)).cell? ⟨w.heap.size, 0, none⟩ = some (.int .u8 o) := hr4.cell (by omega)
  have HR4 := Lib.hid hr4
  have HBA := Lib.hid hba
  clear hba hr4
  go_enter Try.func56, Try.ntmps56
  go_wp2_with fail
  refine HS.out.mono ?_
  rintro e W1 ⟨rfl, hb1⟩
  rw [HX.out]
  dsimp only [shpC]
  have hr1 := below_row hb1 HR4.out HR4.out.lt
  have HB1 := Lib.hid (HBA.out.trans (hb1.mono HBA.out.size))
  clear hb1 HS HBA HR4 k0
  have hrs : (W1.alloc (.cells #[.bool true, .int .i64 3, .bool false, .bool false, .bool true, .bool false, .bool false] 132)).rowIs W1.heap.size 132 7 (shF ⟨true, 3, false, false, true, false, false⟩) := sh_row W1 ⟨true, 3, false, false, true, false, false⟩
  have hb2 : Below W1.heap.size W1 (W1.alloc (.cells #[.bool true, .int .i64 3, .bool false, .bool false, .bool true, .bool false, .bool false] 132)) := (Below.refl _ _).alloc (Nat.le_refl _) _
  have hr2 := below_row hb2 hr1 hr1.lt
  have HB2 := Lib.hid (HB1.out.trans (hb2.mono HB1.out.size))
  have e0 : (W1.alloc (.cells #[.bool true, .int .i64 3, .bool false, .bool false, .bool true, .bool false, .bool false] 132)).cell? ⟨w.heap.size, 0, none⟩ = some (.int .u8 o) := hr2.cell (by omega)
  have e1 : (W1.alloc (.cells #[.bool true, .int .i64 3, .bool false, .bool false, .bool true, .bool false, .bool false] 132)).cell? ⟨w.heap.size, 1, none⟩ = some (.int .i64 dn) := hr2.cell (by omega)
  have e2 : (W1.alloc (.cells #[.bool true, .int .i64 3, .bool false, .bool false, .bool true, .bool false, .bool false] 132)).cell? ⟨w.heap.size, 2, none⟩ = some (.int .i64 0) := hr2.cell (by omega)
  have e3 : (W1.alloc (.cells #[.bool true, .int .i64 3, .bool false, .bool false, .bool true, .bool false, .bool false] 132)).cell? ⟨w.heap.size, 3, none⟩ = some (.int .i64 nn) := hr2.cell (by omega)
  have HR2 := Lib.hid hr2
  have HRS := Lib.hid hrs
  clear hb2 hr2 hr1 hrs HB1
  go_wp2_with fail
  refine (HR.out _).mono ?_
  rintro e w3 ⟨rfl, hb3⟩
  have hr3 := below_row hb3 HR2.out HR2.out.lt
  have hs3 := below_row hb3 HRS.out HRS.out.lt
  have HB3 := Lib.hid (HB2.out.trans (hb3.mono HB2.out.size))
  have HR3 := Lib.hid hr3
  have HS3 := Lib.hid hs3
  have f0 : w3.cell? ⟨w.heap.size, 0, none⟩ = some (.int .u8 o) := hr3.cell (by omega)
  have f1 : w3.cell? ⟨w.heap.size, 1, none⟩ = some (.int .i64 dn) := hr3.cell (by omega)
  have f2 : w3.cell? ⟨w.heap.size, 2, none⟩ = some (.int .i64 0) := hr3.cell (by omega)
  have f3 : w3.cell? ⟨w.heap.size, 3, none⟩ = some (.int .i64 nn) := hr3.cell (by omega)
  have g2 := hs3.cell (show 2 < 7 by omega)
  have g3 := hs3.cell (show 3 < 7 by omega)
  have g5 := hs3.cell (show 5 < 7 by omega)
  have g6 := hs3.cell (show 6 < 7 by omega)
  dsimp only [shF] at g2 g3 g5 g6
  clear hb3 hr3 hs3 HB2 e0 e1 e2 e3
  go_upto_region 13 with fail
  have ho4 := ow_one w3 b HBB.out.2
  have hb4 : Below w3.heap.size w3 (w3.alloc (.cells #[.int .u8 b] 5)) := (Below.refl _ _).alloc (Nat.le_refl _) _
  have hr4 := below_row hb4 HR3.out HR3.out.lt
  have hs4 := below_row hb4 HS3.out HS3.out.lt
  have HL3 := Lib.hid HB3.out.size
  have HL4 := Lib.hid hb4.size
  have HB4 := Lib.hid (HB3.out.trans (hb4.mono HB3.out.size))
  generalize w3.alloc (.cells #[.int .u8 b] 5) = w4 at *
  clear f0 f1 f2 f3 g2 g3 g5 g6 hb4 HB3 HR3 HS3
  have f0 : w4.cell? ⟨w.heap.size, 0, none⟩ = some (.int .u8 o) := hr4.cell (by omega)
  have f1 : w4.cell? ⟨w.heap.size, 1, none⟩ = some (.int .i64 dn) := hr4.cell (by omega)
  have f2 : w4.cell? ⟨w.heap.size, 2, none⟩ = some (.int .i64 0) := hr4.cell (by omega)
  have f3 : w4.cell? ⟨w.heap.size, 3, none⟩ = some (.int .i64 nn) := hr4.cell (by omega)
  have g2 := hs4.cell (show 2 < 7 by omega)
  have g5 := hs4.cell (show 5 < 7 by omega)
  have g6 := hs4.cell (show 6 < 7 by omega)
  dsimp only [shF] at g2 g5 g6
  have HO4 := Lib.hid ho4
  clear ho4 hr4 hs4
  go_wp2_with fail
  refine (HM.out _).mono ?_
  rintro e w5 ⟨rfl, hb5⟩
  have HO5 := Lib.hid (HO4.out.below hb5)
  have HB5 := Lib.hid (HB4.out.trans (hb5.mono HB4.out.size))
  have HL5 := Lib.hid (Nat.le_trans HL4.out hb5.size)
  have h05 := (hb5.cell (World.block_lt_of_cell? _ _ f0)).trans f0
  have h15 := (hb5.cell (World.block_lt_of_cell? _ _ f1)).trans f1
  have h25 := (hb5.cell (World.block_lt_of_cell? _ _ f2)).trans f2
  have h35 := (hb5.cell (World.block_lt_of_cell? _ _ f3)).trans f3
  clear hb5 f0 f1 f2 f3 g2 g5 g6
  go_wp2_with (at_builtin; refine append_new (.tmp 87) (.tmp 91) rfl rfl _ 1 _ nn rfl rfl HO5.out (by omega) (by omega) (by simp) HL5.out ?_; intro v6 w6 ho6 hg6 hv6; have HO6 := Lib.hid ho6; have HB6 := Lib.hid (below_of_append HB5.out HO5.out hg6 HB5.out.size HL3.out); clear ho6 hg6 hv6)
  go_ret2
  exact putP_ok HE.out.1 (by rw [HE.out.2.1, HE.out.2.2, ← HBB.out.1]; rfl) HO6.out HL3.out HB6.out
set_option maxHeartbeats 8000000 in
theorem put_7 (o : Nat) (ho : o < 256) (nn : Nat) (p : Nat) (hp : p ≤ 65535) (w : World) (hri : rightI o 0 0 nn = true) (hn : nn ≤ 255) (hx : shp o = ⟨true, -1, false, false, true, false, false⟩) : Calls Try.prog 56 #[insV o 0 0 nn, .int .i64 p] w (PutP ⟨o, 0, 0, nn⟩ p w) := by
  have HM := Lib.hid (more_any o ho 0 0 nn)
  rw [show moreI ⟨o, 0, 0, nn⟩ = 1 by unfold moreI; rw [hx]; rfl] at HM
  have HE : Hid (putE ⟨o, 0, 0, nn⟩ p = 0 ∧ o * 8 + lowX (shp o) 0 0 = o * 8 + 0 ∧ tailX (shp o) 0 nn p = [nn]) := by
    unfold putE
    refine ⟨?_, by rw [hx]; rfl, by rw [hx]; rfl⟩
    rw [if_neg (by rw [hri]; decide), if_neg (by rw [hx]; rintro ⟨h, -⟩; cases h)]
  unfold insV at HM
  have HR := Lib.hid (right_any o ho 0 0 nn)
  rw [hri] at HR
  have HX := Lib.hid hx
  have h30 : o ≤ 30 := shp_known (by rw [HX.out])
  obtain ⟨b, hbb⟩ : ∃ b, b = o * 8 + 0 := ⟨_, rfl⟩
  have k3 : bits BinOp.or IntKind.u8 ((o : Int) * 8 % 256) 0 = (b : Int) := by rw [hbb]; exact byte1 (l := 0) h30 (by omega)
  have k4 : bits BinOp.or IntKind.u8 ((o : Int) * 8 % 256) (0 % 256) = (b : Int) := by rw [hbb]; exact byte2 (l := 0) h30 (by omega)
  have hb2 : b < 256 := by omega
  have p0 : ¬ (p : Int) < 0 := by omega
  have p1 : ¬ (65535 : Int) < (p : Int) := by omega
  have HBB := Lib.hid (And.intro hbb hb2)
  clear hx hbb hb2 h30
  unfold insV at HR ⊢
  have hba : Below w.heap.size w (w.alloc (.cells #[.int .u8 o, .int .i64 0, .int .i64 0, .int .i64 nn] 56)) := (Below.refl _ _).alloc (Nat.le_refl _) _
  have hr4 := in_row w o 0 0 nn
  have HS := Lib.hid (shape_any o ho (w.alloc (.cells #[.int .u8 o, .int .i64 0, .int .i64 0, .int .i64 nn] 56)))
  have k0 : (w.alloc (.cells #[.int .u8 o, .int .i64 0, .int .i64 0, .int .i64 nn] 56)).cell? ⟨w.heap.size, 0, none⟩ = some (.int .u8 o) := hr4.cell (by omega)
  have HR4 := Lib.hid hr4
  have HBA := Lib.hid hba
  clear hba hr4
  go_enter Try.func56, Try.ntmps56
  go_wp2_with fail
  refine HS.out.mono ?_
  rintro e W1 ⟨rfl, hb1⟩
  rw [HX.out]
  dsimp only [shpC]
  have hr1 := below_row hb1 HR4.out HR4.out.lt
  have HB1 := Lib.hid (HBA.out.trans (hb1.mono HBA.out.size))
  clear hb1 HS HBA HR4 k0
  have hrs : (W1.alloc (.cells #[.bool true, .int .i64 (-1), .bool false, .bool false, .bool true, .bool false, .bool false] 132)).rowIs W1.heap.size 132 7 (shF ⟨true, -1, false, false, true, false, false⟩) := sh_row W1 ⟨true, -1, false, false, true, false, false⟩
  have hb2 : Below W1.heap.size W1 (W1.alloc (.cells #[.bool true, .int .i64 (-1), .bool false, .bool false, .bool true, .bool false, .bool false] 132)) := (Below.refl _ _).alloc (Nat.le_refl _) _
  have hr2 := below_row hb2 hr1 hr1.lt
  have HB2 := Lib.hid (HB1.out.trans (hb2.mono HB1.out.size))
  have e0 : (W1.alloc (.cells #[.bool true, .int .i64 (-1), .bool false, .bool false, .bool true, .bool false, .bool false] 132)).cell? ⟨w.heap.size, 0, none⟩ = some (.int .u8 o) := hr2.cell (by omega)
  have e1 : (W1.alloc (.cells #[.bool true, .int .i64 (-1), .bool false, .bool false, .bool true, .bool false, .bool false] 132)).cell? ⟨w.heap.size, 1, none⟩ = some (.int .i64 0) := hr2.cell (by omega)
  have e2 : (W1.alloc (.cells #[.bool true, .int .i64 (-1), .bool false, .bool false, .bool true, .bool false, .bool false] 132)).cell? ⟨w.heap.size, 2, none⟩ = some (.int .i64 0) := hr2.cell (by omega)
  have e3 : (W1.alloc (.cells #[.bool true, .int .i64 (-1), .bool false, .bool false, .bool true, .bool false, .bool false] 132)).cell? ⟨w.heap.size, 3, none⟩ = some (.int .i64 nn) := hr2.cell (by omega)
  have HR2 := Lib.hid hr2
  have HRS := Lib.hid hrs
  clear hb2 hr2 hr1 hrs HB1
  go_wp2_with fail
  refine (HR.out _).mono ?_
  rintro e w3 ⟨rfl, hb3⟩
  have hr3 := below_row hb3 HR2.out HR2.out.lt
  have hs3 := below_row hb3 HRS.out HRS.out.lt
  have HB3 := Lib.hid (HB2.out.trans (hb3.mono HB2.out.size))
  have HR3 := Lib.hid hr3
  have HS3 := Lib.hid hs3
  have f0 : w3.cell? ⟨w.heap.size, 0, none⟩ = some (.int .u8 o) := hr3.cell (by omega)
  have f1 : w3.cell? ⟨w.heap.size, 1, none⟩ = some (.int .i64 0) := hr3.cell (by omega)
  have f2 : w3.cell? ⟨w.heap.size, 2, none⟩ = some (.int .i64 0) := hr3.cell (by omega)
  have f3 : w3.cell? ⟨w.heap.size, 3, none⟩ = some (.int .i64 nn) := hr3.cell (by omega)
  have g2 := hs3.cell (show 2 < 7 by omega)
  have g3 := hs3.cell (show 3 < 7 by omega)
  have g5 := hs3.cell (show 5 < 7 by omega)
  have g6 := hs3.cell (show 6 < 7 by omega)
  dsimp only [shF] at g2 g3 g5 g6
  clear hb3 hr3 hs3 HB2 e0 e1 e2 e3
  go_upto_region 13 with fail
  have ho4 := ow_one w3 b HBB.out.2
  have hb4 : Below w3.heap.size w3 (w3.alloc (.cells #[.int .u8 b] 5)) := (Below.refl _ _).alloc (Nat.le_refl _) _
  have hr4 := below_row hb4 HR3.out HR3.out.lt
  have hs4 := below_row hb4 HS3.out HS3.out.lt
  have HL3 := Lib.hid HB3.out.size
  have HL4 := Lib.hid hb4.size
  have HB4 := Lib.hid (HB3.out.trans (hb4.mono HB3.out.size))
  generalize w3.alloc (.cells #[.int .u8 b] 5) = w4 at *
  clear f0 f1 f2 f3 g2 g3 g5 g6 hb4 HB3 HR3 HS3
  have f0 : w4.cell? ⟨w.heap.size, 0, none⟩ = some (.int .u8 o) := hr4.cell (by omega)
  have f1 : w4.cell? ⟨w.heap.size, 1, none⟩ = some (.int .i64 0) := hr4.cell (by omega)
  have f2 : w4.cell? ⟨w.heap.size, 2, none⟩ = some (.int .i64 0) := hr4.cell (by omega)
  have f3 : w4.cell? ⟨w.heap.size, 3, none⟩ = some (.int .i64 nn) := hr4.cell (by omega)
  have g2 := hs4.cell (show 2 < 7 by omega)
  have g5 := hs4.cell (show 5 < 7 by omega)
  have g6 := hs4.cell (show 6 < 7 by omega)
  dsimp only [shF] at g2 g5 g6
  have HO4 := Lib.hid ho4
  clear ho4 hr4 hs4
  go_wp2_with fail
  refine (HM.out _).mono ?_
  rintro e w5 ⟨rfl, hb5⟩
  have HO5 := Lib.hid (HO4.out.below hb5)
  have HB5 := Lib.hid (HB4.out.trans (hb5.mono HB4.out.size))
  have HL5 := Lib.hid (Nat.le_trans HL4.out hb5.size)
  have h05 := (hb5.cell (World.block_lt_of_cell? _ _ f0)).trans f0
  have h15 := (hb5.cell (World.block_lt_of_cell? _ _ f1)).trans f1
  have h25 := (hb5.cell (World.block_lt_of_cell? _ _ f2)).trans f2
  have h35 := (hb5.cell (World.block_lt_of_cell? _ _ f3)).trans f3
  clear hb5 f0 f1 f2 f3 g2 g5 g6
  go_wp2_with (at_builtin; refine append_new (.tmp 87) (.tmp 91) rfl rfl _ 1 _ nn rfl rfl HO5.out (by omega) (by omega) (by simp) HL5.out ?_; intro v6 w6 ho6 hg6 hv6; have HO6 := Lib.hid ho6; have HB6 := Lib.hid (below_of_append HB5.out HO5.out hg6 HB5.out.size HL3.out); clear ho6 hg6 hv6)
  go_ret2
  exact putP_ok HE.out.1 (by rw [HE.out.2.1, HE.out.2.2, ← HBB.out.1]; rfl) HO6.out HL3.out HB6.out
theorem put_8n (o : Nat) (ho : o < 256) (nn : Nat) (p : Nat) (hp : p ≤ 65535) (w : World) (hri : rightI o 0 0 nn = true) (hn : nn ≤ 65535) (hf : (nn : Int) - p - 2 < -128 ∨ 127 < (nn : Int) - p - 2) (hx : shp o = ⟨true, -1, false, false, false, true, false⟩) : Calls Try.prog 56 #[insV o 0 0 nn, .int .i64 p] w (PutP ⟨o, 0, 0, nn⟩ p w) := by
  have HE : Hid (putE ⟨o, 0, 0, nn⟩ p = 125) := by
    unfold putE
    rw [hx]
    show (if rightI o 0 0 nn = false then 110 else if true = true ∧ ((nn : Int) - p - 2 < -128 ∨ 127 < (nn : Int) - p - 2) then 125 else 0) = 125
    rw [if_neg (by rw [hri]; decide), if_pos ⟨rfl, hf⟩]
  have HR := Lib.hid (right_any o ho 0 0 nn)
  rw [hri] at HR
  have HX := Lib.hid hx
  have p0 : ¬ (p : Int) < 0 := by omega
  have p1 : ¬ (65535 : Int) < (p : Int) := by omega
  unfold insV at HR ⊢
  clear hx hri
  rcases hf with hf | hf
  ·
    have hba : Below w.heap.size w (w.alloc (.cells #[.int .u8 o, .int .i64 0, .int .i64 0, .int .i64 nn] 56)) := (Below.refl _ _).alloc (Nat.le_refl _) _
    have hr4 := in_row w o 0 0 nn
    have HS := Lib.hid (shape_any o ho (w.alloc (.cells #[.int .u8 o, .int .i64 0, .int .i64 0, .int .i64 nn] 56)))
    have k0 : (w.alloc (.cells #[.int .u8 o, .int .i64 0, .int .i64 0, .int .i64 nn] 56)).cell? ⟨w.heap.size, 0, none⟩ = some (.int .u8 o) := hr4.cell (by omega)
    have HR4 := Lib.hid hr4
    have HBA := Lib.hid hba
    clear hba hr4
    go_enter Try.func56, Try.ntmps56
    go_wp2_with fail
    refine HS.out.mono ?_
    rintro e W1 ⟨rfl, hb1⟩
    rw [HX.out]
    dsimp only [shpC]
    have hr1 := below_row hb1 HR4.out HR4.out.lt
    have HB1 := Lib.hid (HBA.out.trans (hb1.mono HBA.out.size))
    clear hb1 HS HBA HR4 k0
    have hrs : (W1.alloc (.cells #[.bool true, .int .i64 (-1), .bool false, .bool false, .bool false, .bool true, .bool false] 132)).rowIs W1.heap.size 132 7 (shF ⟨true, -1, false, false, false, true, false⟩) := sh_row W1 ⟨true, -1, false, false, false, true, false⟩
    have hb2 : Below W1.heap.size W1 (W1.alloc (.cells #[.bool true, .int .i64 (-1), .bool false, .bool false, .bool false, .bool true, .bool false] 132)) := (Below.refl _ _).alloc (Nat.le_refl _) _
    have hr2 := below_row hb2 hr1 hr1.lt
    have HB2 := Lib.hid (HB1.out.trans (hb2.mono HB1.out.size))
    have e0 : (W1.alloc (.cells #[.bool true, .int .i64 (-1), .bool false, .bool false, .bool false, .bool true, .bool false] 132)).cell? ⟨w.heap.size, 0, none⟩ = some (.int .u8 o) := hr2.cell (by omega)
    have e1 : (W1.alloc (.cells #[.bool true, .int .i64 (-1), .bool false, .bool false, .bool false, .bool true, .bool false] 132)).cell? ⟨w.heap.size, 1, none⟩ = some (.int .i64 0) := hr2.cell (by omega)
    have e2 : (W1.alloc (.cells #[.bool true, .int .i64 (-1), .bool false, .bool false, .bool false, .bool true, .bool false] 132)).cell? ⟨w.heap.size, 2, none⟩ = some (.int .i64 0) := hr2.cell (by omega)
    have e3 : (W1.alloc (.cells #[.bool true, .int .i64 (-1), .bool false, .bool false, .bool false, .bool true, .bool false] 132)).cell? ⟨w.heap.size, 3, none⟩ = some (.int .i64 nn) := hr2.cell (by omega)
    have HR2 := Lib.hid hr2
    have HRS := Lib.hid hrs
    clear hb2 hr2 hr1 hrs HB1
    go_wp2_with fail
    refine (HR.out _).mono ?_
    rintro e w3 ⟨rfl, hb3⟩
    have hr3 := below_row hb3 HR2.out HR2.out.lt
    have hs3 := below_row hb3 HRS.out HRS.out.lt
    have HB3 := Lib.hid (HB2.out.trans (hb3.mono HB2.out.size))
    have HR3 := Lib.hid hr3
    have HS3 := Lib.hid hs3
    have f0 : w3.cell? ⟨w.heap.size, 0, none⟩ = some (.int .u8 o) := hr3.cell (by omega)
    have f1 : w3.cell? ⟨w.heap.size, 1, none⟩ = some (.int .i64 0) := hr3.cell (by omega)
    have f2 : w3.cell? ⟨w.heap.size, 2, none⟩ = some (.int .i64 0) := hr3.cell (by omega)
    have f3 : w3.cell? ⟨w.heap.size, 3, none⟩ = some (.int .i64 nn) := hr3.cell (by omega)
    have g2 := hs3.cell (show 2 < 7 by omega)
    have g3 := hs3.cell (show 3 < 7 by omega)
    have g5 := hs3.cell (show 5 < 7 by omega)
    have g6 := hs3.cell (show 6 < 7 by omega)
    dsimp only [shF] at g2 g3 g5 g6
    clear hb3 hr3 hs3 HB2 e0 e1 e2 e3
    go_wp2_with fail
    go_ret2
    exact putP_no HE.out (by decide) HB3.out
  · have hf2 : ¬ (nn : Int) - p - 2 < -128 := by omega
    have hba : Below w.heap.size w (w.alloc (.cells #[.int .u8 o, .int .i64 0, .int .i64 0, .int .i64 nn] 56)) := (Below.refl _ _).alloc (Nat.le_refl _) _
    have hr4 := in_row w o 0 0 nn
    have HS := Lib.hid (shape_any o ho (w.alloc (.cells #[.int .u8 o, .int .i64 0, .int .i64 0, .int .i64 nn] 56)))
    have k0 : (w.alloc (.cells #[.int .u8 o, .int .i64 0, .int .i64 0, .int .i64 nn] 56)).cell? ⟨w.heap.size, 0, none⟩ = some (.int .u8 o) := hr4.cell (by omega)
    have HR4 := Lib.hid hr4
    have HBA := Lib.hid hba
    clear hba hr4
    go_enter Try.func56, Try.ntmps56
    go_wp2_with fail
    refine HS.out.mono ?_
    rintro e W1 ⟨rfl, hb1⟩
    rw [HX.out]
    dsimp only [shpC]
    have hr1 := below_row hb1 HR4.out HR4.out.lt
    have HB1 := Lib.hid (HBA.out.trans (hb1.mono HBA.out.size))
    clear hb1 HS HBA HR4 k0
    have hrs : (W1.alloc (.cells #[.bool true, .int .i64 (-1), .bool false, .bool false, .bool false, .bool true, .bool false] 132)).rowIs W1.heap.size 132 7 (shF ⟨true, -1, false, false, false, true, false⟩) := sh_row W1 ⟨true, -1, false, false, false, true, false⟩
    have hb2 : Below W1.heap.size W1 (W1.alloc (.cells #[.bool true, .int .i64 (-1), .bool false, .bool false, .bool false, .bool true, .bool false] 132)) := (Below.refl _ _).alloc (Nat.le_refl _) _
    have hr2 := below_row hb2 hr1 hr1.lt
    have HB2 := Lib.hid (HB1.out.trans (hb2.mono HB1.out.size))
    have e0 : (W1.alloc (.cells #[.bool true, .int .i64 (-1), .bool false, .bool false, .bool false, .bool true, .bool false] 132)).cell? ⟨w.heap.size, 0, none⟩ = some (.int .u8 o) := hr2.cell (by omega)
    have e1 : (W1.alloc (.cells #[.bool true, .int .i64 (-1), .bool false, .bool false, .bool false, .bool true, .bool false] 132)).cell? ⟨w.heap.size, 1, none⟩ = some (.int .i64 0) := hr2.cell (by omega)
    have e2 : (W1.alloc (.cells #[.bool true, .int .i64 (-1), .bool false, .bool false, .bool false, .bool true, .bool false] 132)).cell? ⟨w.heap.size, 2, none⟩ = some (.int .i64 0) := hr2.cell (by omega)
    have e3 : (W1.alloc (.cells #[.bool true, .int .i64 (-1), .bool false, .bool false, .bool false, .bool true, .bool false] 132)).cell? ⟨w.heap.size, 3, none⟩ = some (.int .i64 nn) := hr2.cell (by omega)
    have HR2 := Lib.hid hr2
    have HRS := Lib.hid hrs
    clear hb2 hr2 hr1 hrs HB1
    go_wp2_with fail
    refine (HR.out _).mono ?_
    rintro e w3 ⟨rfl, hb3⟩
    have hr3 := below_row hb3 HR2.out HR2.out.lt
    have hs3 := below_row hb3 HRS.out HRS.out.lt
    have HB3 := Lib.hid (HB2.out.trans (hb3.mono HB2.out.size))
    have HR3 := Lib.hid hr3
    have HS3 := Lib.hid hs3
    have f0 : w3.cell? ⟨w.heap.size, 0, none⟩ = some (.int .u8 o) := hr3.cell (by omega)
    have f1 : w3.cell? ⟨w.heap.size, 1, none⟩ = some (.int .i64 0) := hr3.cell (by omega)
    have f2 : w3.cell? ⟨w.heap.size, 2, none⟩ = some (.int .i64 0) := hr3.cell (by omega)
    have f3 : w3.cell? ⟨w.heap.size, 3, none⟩ = some (.int .i64 nn) := hr3.cell (by omega)
    have g2 := hs3.cell (show 2 < 7 by omega)
    have g3 := hs3.cell (show 3 < 7 by omega)
    have g5 := hs3.cell (show 5 < 7 by omega)
    have g6 := hs3.cell (show 6 < 7 by omega)
    dsimp only [shF] at g2 g3 g5 g6
    clear hb3 hr3 hs3 HB2 e0 e1 e2 e3
    go_wp2_with fail
    go_ret2
    exact putP_no HE.out (by decide) HB3.out
set_option maxHeartbeats 8000000 in
theorem put_8 (o : Nat) (ho : o < 256) (nn : Nat) (p : Nat) (hp : p ≤ 65535) (w : World) (hri : rightI o 0 0 nn = true) (hn : nn ≤ 65535) (hf : ¬ ((nn : Int) - p - 2 < -128 ∨ 127 < (nn : Int) - p - 2)) (hx : shp o = ⟨true, -1, false, false, false, true, false⟩) : Calls Try.prog 56 #[insV o 0 0 nn, .int .i64 p] w (PutP ⟨o, 0, 0, nn⟩ p w) := by
  obtain ⟨bq, hq⟩ : ∃ bq : Nat, bq = (((nn : Int) - p - 2) % 256).toNat := ⟨_, rfl⟩
  have HE : Hid (putE ⟨o, 0, 0, nn⟩ p = 0 ∧ o * 8 + lowX (shp o) 0 0 = o * 8 + 0 ∧ tailX (shp o) 0 nn p = [bq]) := by
    unfold putE
    refine ⟨?_, by rw [hx]; rfl, by rw [hx, hq]; rfl⟩
    rw [if_neg (by rw [hri]; decide), if_neg (by rw [hx]; exact fun h => hf h.2)]
  have hq2 : ((nn : Int) - p - 2) % 256 = (bq : Int) := by omega
  have q0 : ¬ (nn : Int) - p - 2 < -128 := by omega
  have q1 : ¬ 127 < (nn : Int) - p - 2 := by omega
  clear hf hq
  have HR := Lib.hid (right_any o ho 0 0 nn)
  rw [hri] at HR
  have HX := Lib.hid hx
  have h30 : o ≤ 30 := shp_known (by rw [HX.out])
  obtain ⟨b, hbb⟩ : ∃ b, b = o * 8 + 0 := ⟨_, rfl⟩
  have k3 : bits BinOp.or IntKind.u8 ((o : Int) * 8 % 256) 0 = (b : Int) := by rw [hbb]; exact byte1 (l := 0) h30 (by omega)
  have k4 : bits BinOp.or IntKind.u8 ((o : Int) * 8 % 256) (0 % 256) = (b : Int) := by rw [hbb]; exact byte2 (l := 0) h30 (by omega)
  have hb2 : b < 256 := by omega
  have p0 : ¬ (p : Int) < 0 := by omega
  have p1 : ¬ (65535 : Int) < (p : Int) := by omega
  have HBB := Lib.hid (And.intro hbb hb2)
  clear hx hbb hb2 h30
  unfold insV at HR ⊢
  have hba : Below w.heap.size w (w.alloc (.cells #[.int .u8 o, .int .i64 0, .int .i64 0, .int .i64 nn] 56)) := (Below.refl _ _).alloc (Nat.le_refl _) _
  have hr4 := in_row w o 0 0 nn
  have HS := Lib.hid (shape_any o ho (w.alloc (.cells #[.int .u8 o, .int .i64 0, .int .i64 0, .int .i64 nn] 56)))
  have k0 : (w.alloc (.cells #[.int .u8 o, .int .i64 0, .int .i64 0, .int .i64 nn] 56)).cell? ⟨w.heap.size, 0, none⟩ = some (.int .u8 o) := hr4.cell (by omega)
  have HR4 := Lib.hid hr4
  have HBA := Lib.hid hba
  clear hba hr4
  go_enter Try.func56, Try.ntmps56
  go_wp2_with fail
  refine HS.out.mono ?_
  rintro e W1 ⟨rfl, hb1⟩
  rw [HX.out]
  dsimp only [shpC]
  have hr1 := below_row hb1 HR4.out HR4.out.lt
  have HB1 := Lib.hid (HBA.out.trans (hb1.mono HBA.out.size))
  clear hb1 HS HBA HR4 k0
  have hrs : (W1.alloc (.cells #[.bool true, .int .i64 (-1), .bool false, .bool false, .bool false, .bool true, .bool false] 132)).rowIs W1.heap.size 132 7 (shF ⟨true, -1, false, false, false, true, false⟩) := sh_row W1 ⟨true, -1, false, false, false, true, false⟩
  have hb2 : Below W1.heap.size W1 (W1.alloc (.cells #[.bool true, .int .i64 (-1), .bool false, .bool false, .bool false, .bool true, .bool false] 132)) := (Below.refl _ _).alloc (Nat.le_refl _) _
  have hr2 := below_row hb2 hr1 hr1.lt
  have HB2 := Lib.hid (HB1.out.trans (hb2.mono HB1.out.size))
  have e0 : (W1.alloc (.cells #[.bool true, .int .i64 (-1), .bool false, .bool false, .bool false, .bool true, .bool false] 132)).cell? ⟨w.heap.size, 0, none⟩ = some (.int .u8 o) := hr2.cell (by omega)
  have e1 : (W1.alloc (.cells #[.bool true, .int .i64 (-1), .bool false, .bool false, .bool false, .bool true, .bool false] 132)).cell? ⟨w.heap.size, 1, none⟩ = some (.int .i64 0) := hr2.cell (by omega)
  have e2 : (W1.alloc (.cells #[.bool true, .int .i64 (-1), .bool false, .bool false, .bool false, .bool true, .bool false] 132)).cell? ⟨w.heap.size, 2, none⟩ = some (.int .i64 0) := hr2.cell (by omega)
  have e3 : (W1.alloc (.cells #[.bool true, .int .i64 (-1), .bool false, .bool false, .bool false, .bool true, .bool false] 132)).cell? ⟨w.heap.size, 3, none⟩ = some (.int .i64 nn) := hr2.cell (by omega)
  have HR2 := Lib.hid hr2
  have HRS := Lib.hid hrs
  clear hb2 hr2 hr1 hrs HB1
  go_wp2_with fail
  refine (HR.out _).mono ?_
  rintro e w3 ⟨rfl, hb3⟩
  have hr3 := below_row hb3 HR2.out HR2.out.lt
  have hs3 := below_row hb3 HRS.out HRS.out.lt
  have HB3 := Lib.hid (HB2.out.trans (hb3.mono HB2.out.size))
  have HR3 := Lib.hid hr3
  have HS3 := Lib.hid hs3
  have f0 : w3.cell? ⟨w.heap.size, 0, none⟩ = some (.int .u8 o) := hr3.cell (by omega)
  have f1 : w3.cell? ⟨w.heap.size, 1, none⟩ = some (.int .i64 0) := hr3.cell (by omega)
  have f2 : w3.cell? ⟨w.heap.size, 2, none⟩ = some (.int .i64 0) := hr3.cell (by omega)
  have f3 : w3.cell? ⟨w.heap.size, 3, none⟩ = some (.int .i64 nn) := hr3.cell (by omega)
  have g2 := hs3.cell (show 2 < 7 by omega)
  have g3 := hs3.cell (show 3 < 7 by omega)
  have g5 := hs3.cell (show 5 < 7 by omega)
  have g6 := hs3.cell (show 6 < 7 by omega)
  dsimp only [shF] at g2 g3 g5 g6
  clear hb3 hr3 hs3 HB2 e0 e1 e2 e3
  go_upto_region 13 with fail
  have ho4 := ow_one w3 b HBB.out.2
  have hb4 : Below w3.heap.size w3 (w3.alloc (.cells #[.int .u8 b] 5)) := (Below.refl _ _).alloc (Nat.le_refl _) _
  have hr4 := below_row hb4 HR3.out HR3.out.lt
  have hs4 := below_row hb4 HS3.out HS3.out.lt
  have HL3 := Lib.hid HB3.out.size
  have HL4 := Lib.hid hb4.size
  have HB4 := Lib.hid (HB3.out.trans (hb4.mono HB3.out.size))
  generalize w3.alloc (.cells #[.int .u8 b] 5) = w4 at *
  clear f0 f1 f2 f3 g2 g3 g5 g6 hb4 HB3 HR3 HS3
  have f0 : w4.cell? ⟨w.heap.size, 0, none⟩ = some (.int .u8 o) := hr4.cell (by omega)
  have f1 : w4.cell? ⟨w.heap.size, 1, none⟩ = some (.int .i64 0) := hr4.cell (by omega)
  have f2 : w4.cell? ⟨w.heap.size, 2, none⟩ = some (.int .i64 0) := hr4.cell (by omega)
  have f3 : w4.cell? ⟨w.heap.size, 3, none⟩ = some (.int .i64 nn) := hr4.cell (by omega)
  have g2 := hs4.cell (show 2 < 7 by omega)
  have g5 := hs4.cell (show 5 < 7 by omega)
  have g6 := hs4.cell (show 6 < 7 by omega)
  dsimp only [shF] at g2 g5 g6
  have HO4 := Lib.hid ho4
  clear ho4 hr4 hs4
  go_wp2_with (at_builtin; refine append_new (.tmp 69) (.tmp 72) rfl rfl _ 1 _ bq rfl rfl HO4.out (by omega) (by omega) (by simp) HL4.out ?_; intro v6 w6 ho6 hg6 hv6; have HO6 := Lib.hid ho6; have HB6 := Lib.hid (below_of_append HB4.out HO4.out hg6 HB4.out.size HL3.out); clear ho6 hg6 hv6)
  go_ret2
  exact putP_ok HE.out.1 (by rw [HE.out.2.1, HE.out.2.2, ← HBB.out.1]; rfl) HO6.out HL3.out HB6.out
set_option maxHeartbeats 8000000 in
theorem put_9 (o : Nat) (ho : o < 256) (nn : Nat) (p : Nat) (hp : p ≤ 65535) (w : World) (hri : rightI o 0 0 nn = true) (hn : nn ≤ 65535) (hx : shp o = ⟨true, -1, false, false, false, false, true⟩) : Calls Try.prog 56 #[insV o 0 0 nn, .int .i64 p] w (PutP ⟨o, 0, 0, nn⟩ p w) := by
  have HE : Hid (putE ⟨o, 0, 0, nn⟩ p = 0 ∧ o * 8 + lowX (shp o) 0 0 = o * 8 + 0 ∧ tailX (shp o) 0 nn p = [nn / 256, nn % 256]) := by
    unfold putE
    refine ⟨?_, by rw [hx]; rfl, ?_⟩
    · rw [if_neg (by rw [hri]; decide), if_neg (by rw [hx]; rintro ⟨h, -⟩; cases h)]
    · rw [hx]
      show [((nn : Int) / 256).toNat, ((nn : Int) % 256).toNat] = _
      rw [show ((nn : Int) / 256).toNat = nn / 256 by omega, show ((nn : Int) % 256).toNat = nn % 256 by omega]
  have HR := Lib.hid (right_any o ho 0 0 nn)
  rw [hri] at HR
  have HX := Lib.hid hx
  have h30 : o ≤ 30 := shp_known (by rw [HX.out])
  obtain ⟨b, hbb⟩ : ∃ b, b = o * 8 + 0 := ⟨_, rfl⟩
  have k3 : bits BinOp.or IntKind.u8 ((o : Int) * 8 % 256) 0 = (b : Int) := by rw [hbb]; exact byte1 (l := 0) h30 (by omega)
  have k4 : bits BinOp.or IntKind.u8 ((o : Int) * 8 % 256) (0 % 256) = (b : Int) := by rw [hbb]; exact byte2 (l := 0) h30 (by omega)
  have hb2 : b < 256 := by omega
  have p0 : ¬ (p : Int) < 0 := by omega
  have p1 : ¬ (65535 : Int) < (p : Int) := by omega
  have HBB := Lib.hid (And.intro hbb hb2)
  clear hx hbb hb2 h30
  unfold insV at HR ⊢
  have hba : Below w.heap.size w (w.alloc (.cells #[.int .u8 o, .int .i64 0, .int .i64 0, .int .i64 nn] 56)) := (Below.refl _ _).alloc (Nat.le_refl _) _
  have hr4 := in_row w o 0 0 nn
  have HS := Lib.hid (shape_any o ho (w.alloc (.cells #[.int .u8 o, .int .i64 0, .int .i64 0, .int .i64 nn] 56)))
  have k0 : (w.alloc (.cells #[.int .u8 o, .int .i64 0, .int .i64 0, .int .i64 nn] 56)).cell? ⟨w.heap.size, 0, none⟩ = some (.int .u8 o) := hr4.cell (by omega)
  have HR4 := Lib.hid hr4
  have HBA := Lib.hid hba
  clear hba hr4
  go_enter Try.func56, Try.ntmps56
  go_wp2_with fail
  refine HS.out.mono ?_
  rintro e W1 ⟨rfl, hb1⟩
  rw [HX.out]
  dsimp only [shpC]
  have hr1 := below_row hb1 HR4.out HR4.out.lt
  have HB1 := Lib.hid (HBA.out.trans (hb1.mono HBA.out.size))
  clear hb1 HS HBA HR4 k0
  have hrs : (W1.alloc (.cells #[.bool true, .int .i64 (-1), .bool false, .bool false, .bool false, .bool false, .bool true] 132)).rowIs W1.heap.size 132 7 (shF ⟨true, -1, false, false, false, false, true⟩) := sh_row W1 ⟨true, -1, false, false, false, false, true⟩
  have hb2 : Below W1.heap.size W1 (W1.alloc (.cells #[.bool true, .int .i64 (-1), .bool false, .bool false, .bool false, .bool false, .bool true] 132)) := (Below.refl _ _).alloc (Nat.le_refl _) _
  have hr2 := below_row hb2 hr1 hr1.lt
  have HB2 := Lib.hid (HB1.out.trans (hb2.mono HB1.out.size))
  have e0 : (W1.alloc (.cells #[.bool true, .int .i64 (-1), .bool false, .bool false, .bool false, .bool false, .bool true] 132)).cell? ⟨w.heap.size, 0, none⟩ = some (.int .u8 o) := hr2.cell (by omega)
  have e1 : (W1.alloc (.cells #[.bool true, .int .i64 (-1), .bool false, .bool false, .bool false, .bool false, .bool true] 132)).cell? ⟨w.heap.size, 1, none⟩ = some (.int .i64 0) := hr2.cell (by omega)
  have e2 : (W1.alloc (.cells #[.bool true, .int .i64 (-1), .bool false, .bool false, .bool false, .bool false, .bool true] 132)).cell? ⟨w.heap.size, 2, none⟩ = some (.int .i64 0) := hr2.cell (by omega)
  have e3 : (W1.alloc (.cells #[.bool true, .int .i64 (-1), .bool false, .bool false, .bool false, .bool false, .bool true] 132)).cell? ⟨w.heap.size, 3, none⟩ = some (.int .i64 nn) := hr2.cell (by omega)
  have HR2 := Lib.hid hr2
  have HRS := Lib.hid hrs
  clear hb2 hr2 hr1 hrs HB1
  go_wp2_with fail
  refine (HR.out _).mono ?_
  rintro e w3 ⟨rfl, hb3⟩
  have hr3 := below_row hb3 HR2.out HR2.out.lt
  have hs3 := below_row hb3 HRS.out HRS.out.lt
  have HB3 := Lib.hid (HB2.out.trans (hb3.mono HB2.out.size))
  have HR3 := Lib.hid hr3
  have HS3 := Lib.hid hs3
  have f0 : w3.cell? ⟨w.heap.size, 0, none⟩ = some (.int .u8 o) := hr3.cell (by omega)
  have f1 : w3.cell? ⟨w.heap.size, 1, none⟩ = some (.int .i64 0) := hr3.cell (by omega)
  have f2 : w3.cell? ⟨w.heap.size, 2, none⟩ = some (.int .i64 0) := hr3.cell (by omega)
  have f3 : w3.cell? ⟨w.heap.size, 3, none⟩ = some (.int .i64 nn) := hr3.cell (by omega)
  have g2 := hs3.cell (show 2 < 7 by omega)
  have g3 := hs3.cell (show 3 < 7 by omega)
  have g5 := hs3.cell (show 5 < 7 by omega)
  have g6 := hs3.cell (show 6 < 7 by omega)
  dsimp only [shF] at g2 g3 g5 g6
  clear hb3 hr3 hs3 HB2 e0 e1 e2 e3
  go_upto_region 13 with fail
  have ho4 := ow_one w3 b HBB.out.2
  have hb4 : Below w3.heap.size w3 (w3.alloc (.cells #[.int .u8 b] 5)) := (Below.refl _ _).alloc (Nat.le_refl _) _
  have hr4 := below_row hb4 HR3.out HR3.out.lt
  have hs4 := below_row hb4 HS3.out HS3.out.lt
  have HL3 := Lib.hid HB3.out.size
  have HL4 := Lib.hid hb4.size
  have HB4 := Lib.hid (HB3.out.trans (hb4.mono HB3.out.size))
  generalize w3.alloc (.cells #[.int .u8 b] 5) = w4 at *
  clear f0 f1 f2 f3 g2 g3 g5 g6 hb4 HB3 HR3 HS3
  have f0 : w4.cell? ⟨w.heap.size, 0, none⟩ = some (.int .u8 o) := hr4.cell (by omega)
  have f1 : w4.cell? ⟨w.heap.size, 1, none⟩ = some (.int .i64 0) := hr4.cell (by omega)
  have f2 : w4.cell? ⟨w.heap.size, 2, none⟩ = some (.int .i64 0) := hr4.cell (by omega)
  have f3 : w4.cell? ⟨w.heap.size, 3, none⟩ = some (.int .i64 nn) := hr4.cell (by omega)
  have g2 := hs4.cell (show 2 < 7 by omega)
  have g5 := hs4.cell (show 5 < 7 by omega)
  have g6 := hs4.cell (show 6 < 7 by omega)
  dsimp only [shF] at g2 g5 g6
  have HO4 := Lib.hid ho4
  clear ho4 hr4 hs4
  go_wp2_with (at_builtin; refine append_two (.tmp 56) (.tmp 64) rfl rfl _ 2 _ _ (nn / 256) (nn % 256) rfl rfl HO4.out (by omega) (by omega) (by omega) (by omega) (by simp) HL4.out ?_; intro v6 w6 ho6 hg6; have HO6 := Lib.hid ho6; have HB6 := Lib.hid (below_of_append HB4.out HO4.out hg6 HB4.out.size HL3.out); clear ho6 hg6)
  go_ret2
  exact putP_ok HE.out.1 (by rw [HE.out.2.1, HE.out.2.2, ← HBB.out.1]; rfl) HO6.out HL3.out HB6.out
/-- code.Put. -/
theorem put_any (o : Nat) (ho : o < 256) (d s n : Int) (p : Nat) (hp : p ≤ 65535) (w : World) : Calls Try.prog 56 #[insV o d s n, .int .i64 p] w (PutP ⟨o, d, s, n⟩ p w) := by
  cases hri : rightI o d s n with
  | false => exact put_no o ho d s n p hp w hri
  | true =>
    have hm := shp_mem o
    have hb := hri
    unfold rightI at hb
    obtain ⟨x, hx⟩ : ∃ x, shp o = x := ⟨_, rfl⟩
    rw [hx] at hb hm
    unfold shapes at hm
    simp only [List.mem_cons, List.not_mem_nil, or_false] at hm
    rcases hm with rfl | rfl | rfl | rfl | rfl | rfl | rfl | rfl | rfl | rfl
    · have hb' : d = 0 ∧ s = 0 ∧ n = 0 := by simp [rightX, inI] at hb; omega
      obtain ⟨rfl, rfl, rfl⟩ := hb'
      exact put_1 o ho p hp w hri hx
    · have hb' : (0 ≤ d ∧ d ≤ 6) ∧ (0 ≤ s ∧ s ≤ 6) ∧ n = 0 := by simp [rightX, inI] at hb; omega
      obtain ⟨⟨d0, d1⟩, ⟨s0, s1⟩, rfl⟩ := hb'
      obtain ⟨dn, rfl⟩ := Int.eq_ofNat_of_zero_le d0
      obtain ⟨sn, rfl⟩ := Int.eq_ofNat_of_zero_le s0
      exact put_2 o ho dn sn p hp w hri (by omega) (by omega) hx
    · have hb' : (0 ≤ d ∧ d ≤ 6) ∧ s = 0 ∧ (0 ≤ n ∧ n ≤ 255) := by simp [rightX, inI] at hb; omega
      obtain ⟨⟨d0, d1⟩, rfl, ⟨n0, n1⟩⟩ := hb'
      obtain ⟨dn, rfl⟩ := Int.eq_ofNat_of_zero_le d0
      obtain ⟨nn, rfl⟩ := Int.eq_ofNat_of_zero_le n0
      exact put_3 o ho dn nn p hp w hri (by omega) (by omega) hx
    · have hb' : (0 ≤ d ∧ d ≤ 6) ∧ s = 0 ∧ n = 0 := by simp [rightX, inI] at hb; omega
      obtain ⟨⟨d0, d1⟩, rfl, rfl⟩ := hb'
      obtain ⟨dn, rfl⟩ := Int.eq_ofNat_of_zero_le d0
      exact put_4 o ho dn p hp w hri (by omega) hx
    · by_cases h7 : s = 7
      · subst h7
        have hb' : d = 0 ∧ (0 ≤ n ∧ n ≤ 255) := by simp [rightX, inI] at hb; omega
        obtain ⟨rfl, ⟨n0, n1⟩⟩ := hb'
        obtain ⟨nn, rfl⟩ := Int.eq_ofNat_of_zero_le n0
        exact put_5n o ho nn p hp w hri (by omega) hx
      · have hb' : d = 0 ∧ (0 ≤ s ∧ s ≤ 6) ∧ n = 0 := by simp [rightX, inI, h7] at hb; omega
        obtain ⟨rfl, ⟨s0, s1⟩, rfl⟩ := hb'
        obtain ⟨sn, rfl⟩ := Int.eq_ofNat_of_zero_le s0
        exact put_5 o ho sn p hp w hri (by omega) hx
    · have hb' : (0 ≤ d ∧ d ≤ 3) ∧ s = 0 ∧ (0 ≤ n ∧ n ≤ 255) := by simp [rightX, inI] at hb; omega
      obtain ⟨⟨d0, d1⟩, rfl, ⟨n0, n1⟩⟩ := hb'
      obtain ⟨dn, rfl⟩ := Int.eq_ofNat_of_zero_le d0
      obtain ⟨nn, rfl⟩ := Int.eq_ofNat_of_zero_le n0
      exact put_6 o ho dn nn p hp w hri (by omega) (by omega) hx
    · have hb' : d = 0 ∧ s = 0 ∧ (0 ≤ n ∧ n ≤ 255) := by simp [rightX, inI] at hb; omega
      obtain ⟨rfl, rfl, ⟨n0, n1⟩⟩ := hb'
      obtain ⟨nn, rfl⟩ := Int.eq_ofNat_of_zero_le n0
      exact put_7 o ho nn p hp w hri (by omega) hx
    · have hb' : d = 0 ∧ s = 0 ∧ (0 ≤ n ∧ n ≤ 65535) := by simp [rightX, inI] at hb; omega
      obtain ⟨rfl, rfl, ⟨n0, n1⟩⟩ := hb'
      obtain ⟨nn, rfl⟩ := Int.eq_ofNat_of_zero_le n0
      by_cases hf : (nn : Int) - p - 2 < -128 ∨ 127 < (nn : Int) - p - 2
      · exact put_8n o ho nn p hp w hri (by omega) hf hx
      · exact put_8 o ho nn p hp w hri (by omega) hf hx
    · have hb' : d = 0 ∧ s = 0 ∧ (0 ≤ n ∧ n ≤ 65535) := by simp [rightX, inI] at hb; omega
      obtain ⟨rfl, rfl, ⟨n0, n1⟩⟩ := hb'
      obtain ⟨nn, rfl⟩ := Int.eq_ofNat_of_zero_le n0
      exact put_9 o ho nn p hp w hri (by omega) hx
    · cases hb
end Go.Proofs.Ythmpagehmfillaa
