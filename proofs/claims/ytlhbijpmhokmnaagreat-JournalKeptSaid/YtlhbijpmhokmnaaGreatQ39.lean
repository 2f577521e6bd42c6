/-
  THE WALK OF quillpresslow.Made. Conditions: at most 5000 bytes.
  low's Pick. Conditions: the bound is at least 1 and no great number.
  WHAT IS KEPT BESIDE A JOURNAL's FILE: a list of bodies of the call's own. Conditions: it lies behind the file.
-/
import Derived.Test.YtlhbijpmhokmnaaGreatQ36
import Derived.Test.YtlhbijpmhokmnaaGreatQ01
import Derived.Test.YtlhbijpmhokmnaaGreatProg
import Derived.Test.YtlhbijpmhokmnaaGreatQ37
import Derived.Test.YtlhbijpmhokmnaaGreatQ38
namespace Go.Proofs.YtlhbijpmhokmnaaGreat
open Go.RowKit
set_option linter.unusedSimpArgs false
set_option linter.unusedVariables false

def mkX (z : Int) : Int := IntKind.u64.wrap (IntKind.u64.wrap (z * 2862933555777941757) + 3037000493)
theorem mkX_b (z : Int) : 0 ≤ mkX z ∧ mkX z < 18446744073709551616 := by unfold mkX; rw [IntKind.wrap_u64]; omega
theorem mkx_any (z : Int) (w : World) : Calls Tryz.prog 56 #[.int .u64 z] w fun e w' => e = .returned (.int .u64 (mkX z)) ∧ w = w' := by
  go_enter Tryz.func56, Tryz.ntmps56
  go_wp2
  go_ret
  exact ⟨rfl, rfl⟩
theorem firstx_any (z : Int) (w : World) : Calls Tryz.prog 55 #[.int .i64 z] w fun e w' => e = .returned (.int .u64 (mkX (IntKind.u64.wrap z))) ∧ w = w' := by
  go_enter Tryz.func55, Tryz.ntmps55
  go_wp2_with fail
  refine (mkx_any _ w).mono ?_
  rintro e w' ⟨rfl, rfl⟩
  go_wp2_with fail
  go_ret
  exact ⟨rfl, rfl⟩
def tkX (z : Int) : Nat := (z / 1099511627776 % 256).toNat
theorem tkX_lt (z : Int) : tkX z < 256 := by unfold tkX; omega
theorem takenx_any (z : Int) (w : World) : Calls Tryz.prog 57 #[.int .u64 z] w fun e w' => e = .returned (.int .u8 (tkX z)) ∧ w = w' := by
  go_enter Tryz.func57, Tryz.ntmps57
  go_wp2
  go_ret
  refine ⟨congrArg (fun y => Ending.returned (Value.int .u8 y)) ?_, rfl⟩
  show z / 1099511627776 % 256 = ((z / 1099511627776 % 256).toNat : Int)
  omega
theorem and7_zero : bits .and .i64 (0 : Int) 7 = 0 := by decide
set_option maxRecDepth 100000 in
set_option maxHeartbeats 2000000 in
theorem madeS_aux (s n : Nat) (hn : n ≤ 5000) (w : World) (y0 : Int) (hy0 : y0 = mkX (IntKind.u64.wrap s)) (f0 : Nat) (hf0 : f0 = tkX (mkX y0)) : Calls Tryz.prog 25 #[.int .i64 s, .int .i64 n] w fun e w' => ∃ v l, e = .returned v ∧ l.length = n ∧ (0 < n → nth l 0 = f0) ∧ Ow w' w.heap.size v l ∧ Below w.heap.size w w' := by
  go_enter Tryz.func25, Tryz.ntmps25
  go_wp2_with fail
  refine (firstx_any s w).mono ?_
  rintro e w' ⟨rfl, rfl⟩
  rw [← hy0]
  have HF0 := Lib.hid hf0
  clear hy0 hf0
  go_wp2_with fail
  go_loopw [5, 6, 11] (fun v5 v6 v11 wr => ∃ (k : Nat) (z : Int) (l : List Nat), k ≤ n ∧ (k = 0 → z = y0) ∧ v5 = .int .u64 z ∧ v11 = .int .i64 k ∧ l.length = k ∧ (0 < k → nth l 0 = f0) ∧ Ow wr w.heap.size v6 l ∧ Below w.heap.size w wr) (fun _ _ v _ => n - (intOf v).toNat)
  case atStart => exact ⟨0, _, [], by omega, fun _ => rfl, rfl, rfl, rfl, fun h => absurd h (Nat.lt_irrefl 0), Ow.nil _ _, Below.refl _ _⟩
  case round =>
    obtain ⟨k, z, l, hk, hz, rfl, rfl, hl, hl0, ho, hb⟩ := hrel
    have HO := Lib.hid ho
    have HB := Lib.hid hb
    have HL := Lib.hid hl
    have HZ := Lib.hid hz
    have HL0 := Lib.hid hl0
    clear ho hb hl hz hl0
    by_cases kn : k < n
    · have kn' : (k : Int) < n := by omega
      obtain ⟨q, hq⟩ : ∃ q, bits .and .i64 (k : Int) 7 = q := ⟨_, rfl⟩
      by_cases q0 : q = 0
      · have q1 : (q == 0) = true := by rw [beq_iff_eq]; exact q0
        clear q0
        go_wp2_with fail
        refine (mkx_any z wr).mono ?_
        rintro e w' ⟨rfl, rfl⟩
        obtain ⟨z1, hz1⟩ : ∃ z1, z1 = mkX z := ⟨_, rfl⟩
        rw [← hz1]
        have HZ1 := Lib.hid hz1
        clear hz1
        go_wp2_with fail
        refine (takenx_any z1 wr).mono ?_
        rintro e w' ⟨rfl, rfl⟩
        have hz0 : nth (l ++ [tkX z1]) 0 = f0 := by
          rcases Nat.eq_zero_or_pos k with h | h
          · have e := List.eq_nil_of_length_eq_zero (HL.out.trans h)
            rw [e, HZ1.out, HZ.out h, HF0.out]; rfl
          · rw [← HL0.out h]; exact nth_app_left _ _ _ (by rw [HL.out]; exact h)
        have HZ0 := Lib.hid hz0
        clear hz0
        go_wp2_with (at_builtin; refine append_new (.tmp 19) (.tmp 22) rfl rfl _ _ _ _ rfl rfl HO.out rfl (tkX_lt _) (by rw [HL.out]; omega) HB.out.size ?_; intro v1 w1 ho1 hg1 ha1; have HO1 := Lib.hid ho1; have HG1 := Lib.hid hg1; clear ho1 hg1 ha1)
        go_roundw
        case rel =>
          have hb1 : Below w.heap.size w w1 := HB.out.grown HG1.out HB.out.size (fun x e => (HO.out.lt x e).1)
          have hl1 : (l ++ [tkX z1]).length = k + 1 := by rw [List.length_append, HL.out]; rfl
          have h0 : 0 < k + 1 → nth (l ++ [tkX z1]) 0 = f0 := fun _ => HZ0.out
          have h1 : k + 1 = 0 → z1 = y0 := fun e => by omega
          first
          | exact ⟨k + 1, z1, l ++ [tkX z1], by omega, h1, rfl, by go_num, hl1, h0, HO1.out, hb1⟩
          | (repeat apply Exists.intro); refine ⟨⟨k + 1, z1, l ++ [tkX z1], by omega, h1, rfl, by go_num, hl1, h0, HO1.out, hb1⟩, rfl⟩
        case measure => simp [intOf]; omega
      · have q1 : (q == 0) = false := by rw [beq_eq_false_iff_ne]; exact q0
        have hk0 : 0 < k := by
          rcases Nat.eq_zero_or_pos k with h | h
          · subst h; exact absurd (hq.symm.trans and7_zero) q0
          · exact h
        clear q0
        go_wp2_with fail
        refine (takenx_any z wr).mono ?_
        rintro e w' ⟨rfl, rfl⟩
        go_wp2_with (at_builtin; refine append_new (.tmp 19) (.tmp 22) rfl rfl _ _ _ _ rfl rfl HO.out rfl (tkX_lt _) (by rw [HL.out]; omega) HB.out.size ?_; intro v1 w1 ho1 hg1 ha1; have HO1 := Lib.hid ho1; have HG1 := Lib.hid hg1; clear ho1 hg1 ha1)
        go_roundw
        case rel =>
          have hb1 : Below w.heap.size w w1 := HB.out.grown HG1.out HB.out.size (fun x e => (HO.out.lt x e).1)
          have hl1 : (l ++ [tkX z]).length = k + 1 := by rw [List.length_append, HL.out]; rfl
          have h0 : 0 < k + 1 → nth (l ++ [tkX z]) 0 = f0 := fun _ => (by rw [← HL0.out hk0]; exact nth_app_left _ _ _ (by rw [HL.out]; exact hk0))
          have h1 : k + 1 = 0 → z = y0 := fun e => by omega
          first
          | exact ⟨k + 1, z, l ++ [tkX z], by omega, h1, rfl, by go_num, hl1, h0, HO1.out, hb1⟩
          | (repeat apply Exists.intro); refine ⟨⟨k + 1, z, l ++ [tkX z], by omega, h1, rfl, by go_num, hl1, h0, HO1.out, hb1⟩, rfl⟩
        case measure => simp [intOf]; omega
    · obtain rfl : k = n := by omega
      have kn' : ¬ (k : Int) < k := by omega
      go_wp2_with fail
      go_ret
      first | exact ⟨_, l, rfl, HL.out, HL0.out, HO.out, HB.out⟩ | exact ⟨_, rfl, l, HL.out, HL0.out, HO.out, HB.out⟩
theorem madeS_any (s n : Nat) (hn : n ≤ 5000) (w : World) : Calls Tryz.prog 25 #[.int .i64 s, .int .i64 n] w fun e w' => ∃ v l, e = .returned v ∧ l.length = n ∧ (0 < n → nth l 0 = tkX (mkX (mkX (IntKind.u64.wrap s)))) ∧ Ow w' w.heap.size v l ∧ Below w.heap.size w w' :=
  madeS_aux s n hn w _ rfl _ rfl
theorem made4_first : tkX (mkX (mkX (IntKind.u64.wrap (4 : Nat)))) = 58 := by decide
end Go.Proofs.YtlhbijpmhokmnaaGreat
namespace Go.Proofs.YtlhbijpmhokmnaaGreat
open Go.RowKit
set_option linter.unusedSimpArgs false
set_option linter.unusedVariables false

theorem pickz_any (x : Int) (n : Nat) (h1 : 1 ≤ n) (h2 : n ≤ 4611686018427387904) (w : World) : Calls Tryz.prog 27 #[.int .i64 x, .int .i64 (n : Nat)] w fun e w' => ∃ k : Nat, e = .returned (.int .i64 k) ∧ k < n ∧ w = w' := by
  have k1 := Int.tmod_lt_of_pos x (show (0 : Int) < n by omega)
  have k2 : -(n : Int) < x.tmod n := by
    have := Int.tmod_lt_of_pos (-x) (show (0 : Int) < n by omega)
    rw [Int.neg_tmod] at this
    omega
  have c1 : ¬ (n : Int) < 1 := by omega
  have c2 : ((n : Int) == 0) = false := by rw [beq_eq_false_iff_ne]; omega
  have c3 : IntKind.i64.wrap (x.tmod n + n) = x.tmod n + n := by simp [IntKind.wrap, IntKind.signed, IntKind.bits]; omega
  have c4 : ¬ n = 0 := by omega
  go_enter Tryz.func27, Tryz.ntmps27
  go_wp2_with fail
  go_ret
  have e1 := Int.emod_nonneg (x.tmod n) (show (n : Int) ≠ 0 by omega)
  have e2 := Int.emod_lt_of_pos (x.tmod n) (show (0 : Int) < n by omega)
  generalize x.tmod n % n = y at *
  obtain ⟨k, rfl⟩ : ∃ k : Nat, y = k := ⟨y.toNat, by omega⟩
  exact ⟨k, rfl, by omega, rfl⟩
end Go.Proofs.YtlhbijpmhokmnaaGreat
namespace Go.Proofs.YtlhbijpmhokmnaaGreat
open Go.RowKit
set_option linter.unusedSimpArgs false
set_option linter.unusedVariables false

/-- What was there of old is as it was, but for two blocks. -/
structure OldK (Y w : World) (gd gj : Nat) : Prop where
  size : Y.heap.size ≤ w.heap.size
  block : ∀ k, k < Y.heap.size → k ≠ gd → k ≠ gj → w.heap[k]? = Y.heap[k]?
section
variable {Y w w' : World} {gf gd gj gj0 : Nat} {nb ob nb0 ob0 : Option Nat} {K : TurnK} {pre : List Nat} {p p' p0 : DkS}
theorem OldK.refl (Y : World) (gd gj : Nat) : OldK Y Y gd gj := ⟨Nat.le_refl _, fun _ _ _ _ => rfl⟩
theorem OldK.grown (h : OldK Y w gd gj) (hg : w.grownBy w' (some gd)) : OldK Y w' gd gj :=
  ⟨Nat.le_trans h.size hg.size, fun k hk h1 h2 => (hg.block k (Nat.lt_of_lt_of_le hk h.size) (fun e => h1 (by injection e))).trans (h.block k hk h1 h2)⟩
theorem OldK.two (h : OldK Y w gd gj0) (ht : Twb w w' gd gj) (hj : gj = gj0 ∨ Y.heap.size ≤ gj) : OldK Y w' gd gj0 :=
  ⟨Nat.le_trans h.size ht.size, fun k hk h1 h2 => (ht.block k (Nat.lt_of_lt_of_le hk h.size) h1 (by rcases hj with rfl | hj; exact h2; omega)).trans (h.block k hk h1 h2)⟩
theorem OldK.own {row : Option Nat} (h : OldK Y w gd gj) (hg : w.grownBy w' row) (hr : ∀ k, row = some k → Y.heap.size ≤ k) : OldK Y w' gd gj :=
  ⟨Nat.le_trans h.size hg.size, fun k hk h1 h2 => (hg.block k (Nat.lt_of_lt_of_le hk h.size) (fun e => by have := hr k e.symm; omega)).trans (h.block k hk h1 h2)⟩
theorem OldK.below (h : OldK Y w gd gj) (hb : Below w.heap.size w w') : OldK Y w' gd gj :=
  h.own (row := none) (grown_of_below hb none) (fun k e => by cases e)
/-- Another block written, of those that are younger. -/
theorem Fv.offK {n0 e0 k : Nat} {br0 : Bool} (h : Fv w gf gd nb ob K pre p) (hY : Fv Y gf gd nb0 ob0 K pre p0) (hJ : Jo Y gj0 gf n0 e0 br0) (hK : OldK Y w gd gj0) (hK' : OldK Y w' gd gj0) (hg : w.grownBy w' (some k)) (hk : Y.heap.size ≤ k) (h3 : nb ≠ some k) (h4 : ob ≠ some k) : Fv w' gf gd nb ob K pre p := by
  obtain ⟨d, ⟨⟨tv, q1, q2⟩, q3⟩, q4⟩ := h.ex
  obtain ⟨dY, ⟨⟨tvY, r1, r2⟩, r3⟩, r4⟩ := hY.ex
  have hgd := r3.lt
  have r3' := r3
  obtain ⟨nv, ov, hrow, -⟩ := r3.lies
  have hfd : gf ≠ gd := rows_apart r1 hrow (by decide)
  have hfj : gf ≠ gj0 := rows_apart r1 hJ (by decide)
  have r1w : w.rowIs gf 47 3 (flC gd (fromK K) tvY) := r1.of_block (hK.block gf r1.lt hfd hfj)
  have htv : tv = tvY := by
    have e1 := q1.cell (show 2 < 3 by omega)
    have e2 := r1w.cell (show 2 < 3 by omega)
    exact Option.some.inj (e1.symm.trans e2)
  subst htv
  refine ⟨d, ⟨⟨tv, r1.of_block (hK'.block gf r1.lt hfd hfj), ?_⟩, q3.grown hg (fun e => by injection e with e; omega) (fun k' e e2 => h3 (by rw [e]; exact e2.symm)) (fun k' e e2 => h4 (by rw [e]; exact e2.symm))⟩, q4⟩
  cases K with
  | none => exact r2
  | some x =>
    obtain ⟨kb, nonce⟩ := x
    obtain ⟨gc, pc, pn, A, c, s1, s2, s3, s4, s5, s6, s7⟩ := r2
    have key : ∀ {g t n : Nat} {f : Nat → Value}, Y.rowIs g t n f → t ≠ 63 → t ≠ 70 → w'.rowIs g t n f := fun hr h1 h2 => hr.of_block (hK'.block _ hr.lt (rows_apart hr hrow h1) (rows_apart hr hJ h2))
    refine ⟨gc, pc, pn, A, c, s1, key s2 (by decide) (by decide), key s3 (by decide) (by decide), key s4 (by decide) (by decide), s5, ?_, s7⟩
    rcases r3'.apart s6 with e | ⟨b, o, rfl, hb, hl⟩
    · rw [e] at s7; cases s7
    · rcases hJ.apart s6 with e | ⟨b', o', e', hb', -⟩
      · rw [e] at s7; cases s7
      · have e1 := Option.some.inj e'
        injection e1 with e1 e2 e3
        subst e1
        exact s6.keep hK'.size fun p hp ⟨a, ha, e⟩ => World.cell?_of_block (hK'.block p.block hp (by rw [← e, ← Option.some.inj ha]; exact hb) (by rw [← e, ← Option.some.inj ha]; exact hb'))
end
/-- A journal's file, and beside it a list. -/
structure Kv (base : Nat) (w0 Y w : World) (gf gd gj0 : Nat) (K : TurnK) (pre : List Nat) (p : DkS) (L : List (List Nat)) (v : Value) : Prop where
  f : Ff base w0 w gf gd K pre p
  old : OldK Y w gd gj0
  lo : Lo w Y.heap.size v L
  sep : ∀ k, v.ownBlock = some k → Sepf w gf gd k
section
variable {base : Nat} {w0 Y w w' : World} {gf gd gj gj0 n e : Nat} {br : Bool} {K : TurnK} {pre : List Nat} {p p' p0 : DkS} {L : List (List Nat)} {v : Value} {nb0 ob0 : Option Nat}
theorem Kv.below (h : Kv base w0 Y w gf gd gj0 K pre p L v) (hb : Below w.heap.size w w') : Kv base w0 Y w' gf gd gj0 K pre p L v := by
  obtain ⟨nb, ob, hv, -⟩ := h.f.call
  exact ⟨h.f.below hb, h.old.below hb, h.lo.below hb, fun k e => (h.sep k e).below hv hb⟩
theorem Kv.call (h : Kv base w0 Y w gf gd gj0 K pre p L v) (hgd : gd < Y.heap.size) : ∃ nb ob, Fv w gf gd nb ob K pre p ∧
    (∀ p' w', VAfter w gf gd nb ob K pre p' w' → Kv base w0 Y w' gf gd gj0 K pre p' L v ∧ w.grownBy w' (some gd)) ∧
    (∀ gj n e br p' n' e' br' w', Jo w gj gf n e br → base ≤ gj → (gj = gj0 ∨ Y.heap.size ≤ gj) → JAfter w gj gf gd nb ob K pre p' n' e' br' w' → Kv base w0 Y w' gf gd gj0 K pre p' L v ∧ Jo w' gj gf n' e' br' ∧ Twb w w' gd gj) := by
  obtain ⟨nb, ob, hv, h1, -, h3⟩ := h.f.call
  have hsn : ∀ k, v.ownBlock = some k → ∀ x, (New w nb x ∨ New w ob x) → x ≠ some k := fun k e x hx => new_not hx (h.sep k e _ _ _ _ _ hv).1 (h.sep k e _ _ _ _ _ hv).2 (h.lo.lt k e).2
  refine ⟨nb, ob, hv, fun p' w' ha => ?_, fun gj n e br p' n' e' br' w' hj hg hy ha => ?_⟩
  · have hf := h1 _ _ ha
    obtain ⟨nb', ob', f', n', o', g'⟩ := ha
    exact ⟨⟨hf, h.old.grown g', h.lo.grown hv g' hgd, fun k e => sepf_of f' (hsn k e _ n') (hsn k e _ o')⟩, g'⟩
  · obtain ⟨hf, hj'⟩ := h3 _ _ _ _ _ _ hg ha
    obtain ⟨nb', ob', f', -, n', o', t'⟩ := ha
    exact ⟨⟨hf, h.old.two t' hy, h.lo.two hv hj t' hgd (h.lo.notJ hj), fun k e => sepf_of f' (hsn k e _ n') (hsn k e _ o')⟩, hj', t'⟩
/-- The list grown by one. -/
theorem Kv.app {n0 e0 : Nat} {br0 : Bool} {m : List Nat} {v' : Value} (h : Kv base w0 Y w gf gd gj0 K pre p L v) (hY : Fv Y gf gd nb0 ob0 K pre p0) (hJ : Jo Y gj0 gf n0 e0 br0) (hby : base ≤ Y.heap.size)
    (hlo : Lo w' Y.heap.size v' (L ++ [m])) (hg : w.grownBy w' v.ownBlock) (ho : v'.ownBlock = v.ownBlock ∨ v'.ownBlock = some (w.heap.size + 1)) : Kv base w0 Y w' gf gd gj0 K pre p (L ++ [m]) v' := by
  have hown : ∀ k, v.ownBlock = some k → Y.heap.size ≤ k := fun k e => (h.lo.lt k e).1
  have hold : OldK Y w' gd gj0 := h.old.own hg hown
  obtain ⟨nb, ob, q1, q2, q3, q4, q5⟩ := h.f
  have hf : Fv w' gf gd nb ob K pre p := by
    cases hv : v.ownBlock with
    | none =>
      rw [hv] at hg
      exact q1.below ⟨hg.os, hg.tape, hg.output, hg.size, fun k hk => hg.block k hk (fun e => by cases e)⟩
    | some k =>
      rw [hv] at hg
      exact q1.offK hY hJ h.old hold hg (hown k hv) (h.sep k hv _ _ _ _ _ q1).1 (h.sep k hv _ _ _ _ _ q1).2
  have hs : base ≤ w.heap.size := Nat.le_trans hby h.old.size
  refine ⟨⟨nb, ob, hf, q2, q3, q4, q5.grown hg hs (fun k e => Nat.le_trans hby (hown k e))⟩, hold, hlo, fun k e => sepf_of hf ?_ ?_⟩
  · rcases ho with ho | ho
    · exact (h.sep k (ho.symm.trans e) _ _ _ _ _ q1).1
    · intro e2
      have := q1.nl.1 k e2
      rw [ho] at e
      injection e with e
      omega
  · rcases ho with ho | ho
    · exact (h.sep k (ho.symm.trans e) _ _ _ _ _ q1).2
    · intro e2
      have := q1.nl.2 k e2
      rw [ho] at e
      injection e with e
      omega
theorem kv_jo (h : Jo w gj gf n e br) (hg : w.grownBy w' v.ownBlock) (hl : Lo w base v L) : Jo w' gj gf n e br :=
  h.of_block (hg.block gj h.lt (fun e => hl.notJ h e.symm))
/-- An opening, whatever it comes to. -/
theorem jopen_drop {m : Nat} {nb ob : Option Nat} (h : Fv w gf gd nb ob K pre p) (hb : Both2 p m L) : Calls Tryz.prog 8 #[.pointer (some ⟨gf, 0, none⟩)] w fun e w' => ∃ u p', e = .returned u ∧ VAfter w gf gd nb ob K pre p' w' ∧ Both2 p' m L := by
  cases hp : p.pre.1 with
  | none =>
    obtain ⟨r, hr⟩ := hb.now
    refine (jopen_told h hp hr).mono ?_
    rintro e w' ⟨q1, q2⟩
    rcases q2 with ⟨-, gj, v, rfl, -⟩ | ⟨-, rfl⟩
    · exact ⟨_, _, rfl, q1, hb.opened⟩
    · exact ⟨_, _, rfl, q1, hb.opened⟩
  | some x =>
    have hx := (pre_same hb.ok).2 x hp
    refine (jopen_err h (by rw [opn_no hp]; exact hx)).mono ?_
    rintro e w' ⟨rfl, q1, q2⟩
    exact ⟨_, _, rfl, ⟨nb, ob, q1, .inl (.inl rfl), .inr (.inl rfl), q2⟩, hb.pre⟩
end
end Go.Proofs.YtlhbijpmhokmnaaGreat
