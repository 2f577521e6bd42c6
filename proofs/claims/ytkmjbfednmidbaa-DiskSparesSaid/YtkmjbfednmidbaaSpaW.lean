/-
  THE WALK OF quillpresslaw07.DiskSpares: it returns true. Conditions: the argument reads as a list.
-/
import Derived.Test.YtkmjbfednmidbaaSpa2
import Derived.Test.YtkmjbfednmidbaaLent
namespace Go.Proofs.Ytkmjbfednmidbaa
open Go.RowKit
set_option linter.unusedSimpArgs false
set_option linter.unusedVariables false

theorem image_ow {g : Nat} {nb ob : Option Nat} {d : DkS} {w : World} (h : Dk w g nb ob d) : Calls Try.prog 21 #[.pointer (some ⟨g, 0, none⟩)] w fun e w' => ∃ A c, e = .returned (.slice A d.now.length c) ∧ Ow w' w.heap.size (.slice A d.now.length c) d.now ∧ Below w.heap.size w w' := by
  obtain ⟨A, c, h2, hc1, hc2, hr, hb⟩ := h.nowC
  have hl : d.now.length ≤ 140737488355328 := by have := h.wf.now; have := h.wf.most; omega
  have H := Lib.hid h
  have HR := Lib.hid hr
  clear h hr hb
  go_enter Try.func21, Try.ntmps21
  go_wp2_with fail
  refine (none_any H.out).mono ?_
  rintro e w' ⟨rfl, rfl⟩
  go_wp2_with fail
  refine (clone_ow A _ c d.now _ rfl HR.out hl).mono ?_
  rintro e w1 ⟨v, rfl, ho, hbl⟩
  obtain ⟨A1, c1, rfl, -, -, -⟩ := ho.form
  have HS := Lib.hid ho
  have HL := Lib.hid hbl
  clear ho hbl
  go_wp2_with fail
  go_ret
  exact ⟨A1, c1, rfl, HS.out, HL.out⟩
theorem image_mk {g : Nat} {nb ob : Option Nat} {most : Nat} {s : List Nat} {w : World} (h : Dk w g nb ob (mkD most s)) : Calls Try.prog 21 #[.pointer (some ⟨g, 0, none⟩)] w fun e w' => ∃ A c, e = .returned (.slice A s.length c) ∧ Ow w' w.heap.size (.slice A s.length c) s ∧ Below w.heap.size w w' := image_ow h
theorem load_n (most : Nat) (A : Option Addr) (n c : Nat) (b : List Nat) (w : World) (hn : n = b.length) (hm : most ≤ 4194304) (hb : b.length ≤ most) (hr : Rd w A b) :
    Calls Try.prog 25 #[.int .i64 most, .slice A n c] w fun e w' => ∃ g nb ob, e = .returned (.tuple #[.pointer (some ⟨g, 0, none⟩), .int .i64 0]) ∧ Dk w' g nb ob (mkD most b) ∧ w.heap.size ≤ g ∧ (∀ k, nb = some k → w.heap.size ≤ k) ∧ (∀ k, ob = some k → w.heap.size ≤ k) ∧ Below w.heap.size w w' := by
  subst hn
  exact load_any most A c b w hm hb hr
/-- A read of all. -/
theorem read_all {g : Nat} {nb ob : Option Nat} {most : Nat} {b : List Nat} {w : World} (h : Dk w g nb ob (mkD most b)) (n : Nat) (hn : n = b.length) :
    Calls Try.prog 27 #[.pointer (some ⟨g, 0, none⟩), .int .i64 0, .int .i64 n] w fun e w' => ∃ A c, e = .returned (.tuple #[.slice A b.length c, .int .i64 0]) ∧ Ow w' w.heap.size (.slice A b.length c) b ∧ Dk w' g nb ob (mkD most b) ∧ w.grownBy w' (some g) := by
  subst hn
  refine (read_any h 0 b.length (by simp [mkD])).mono ?_
  rintro e w' ⟨v, rfl, ho, hd, hg⟩
  have e1 : readL (mkD most b) 0 b.length = b := by simp [readL, mkD, DkS.pre]
  have e2 : (mkD most b).pre.2 = mkD most b := rfl
  rw [e1] at ho
  rw [e2] at hd
  obtain ⟨A, c, rfl, -, -, -⟩ := ho.form
  exact ⟨A, c, rfl, ho, hd, hg⟩
theorem five {P : Nat → Prop} (h : P 0 ∧ P 1 ∧ P 2 ∧ P 3 ∧ P 4) : ∀ i, i < 5 → P i := by
  intro i hi
  match i, hi with
  | 0, _ => exact h.1
  | 1, _ => exact h.2.1
  | 2, _ => exact h.2.2.1
  | 3, _ => exact h.2.2.2.1
  | 4, _ => exact h.2.2.2.2
/-- Five of a kind. -/
def pick5 {α : Type} (a b c d e : α) : Nat → α
  | 0 => a
  | 1 => b
  | 2 => c
  | 3 => d
  | _ => e
theorem apart5 {W : World} {v0 v1 v2 v3 v4 : Value} {t : TypeId} {b0 b1 b2 b3 b4 : Option Nat} {m0 m1 m2 m3 m4 c0 c1 c2 c3 c4 : Nat} (s1 s2 s3 s4 : Nat) (h0 : Bk W v0 b0 m0 c0) (h1 : Bk W v1 b1 m1 c1) (h2 : Bk W v2 b2 m2 c2) (h3 : Bk W v3 b3 m3 c3) (h4 : Bk W v4 b4 m4 c4)
    (z0 : ∀ k, b0 = some k → k < s1) (z1 : ∀ k, b1 = some k → s1 ≤ k ∧ k < s2) (z2 : ∀ k, b2 = some k → s2 ≤ k ∧ k < s3) (z3 : ∀ k, b3 = some k → s3 ≤ k ∧ k < s4) (z4 : ∀ k, b4 = some k → s4 ≤ k) (hs : s1 ≤ s2 ∧ s2 ≤ s3 ∧ s3 ≤ s4)
    (hm : m0 ≤ 9223372036854775807 ∧ m1 ≤ 9223372036854775807 ∧ m2 ≤ 9223372036854775807 ∧ m3 ≤ 9223372036854775807 ∧ m4 ≤ 9223372036854775807) :
    Calls Try.prog 28 #[.slice (some ⟨W.heap.size, 0, none⟩) 5 5] (W.alloc (.cells #[v0, v1, v2, v3, v4] t)) fun e w' => e = .returned (.bool true) ∧ Alt W w' (fun x => b0 = some x ∨ b1 = some x ∨ b2 = some x ∨ b3 = some x ∨ b4 = some x) := by
  have hA := (Below.refl W.heap.size W).alloc (Nat.le_refl _) (.cells #[v0, v1, v2, v3, v4] t)
  have up : ∀ {v b m c}, Bk W v b m c → Bk (W.alloc (.cells #[v0, v1, v2, v3, v4] t)) v b m c := fun h => h.keep fun k e => hA.block k (h.lt e)
  have y0 := fun k e => h0.lt (k := k) e
  have y1 := fun k e => h1.lt (k := k) e
  have y2 := fun k e => h2.lt (k := k) e
  have y3 := fun k e => h3.lt (k := k) e
  have y4 := fun k e => h4.lt (k := k) e
  refine (apart_any W.heap.size 5 5 (pick5 v0 v1 v2 v3 v4) (pick5 b0 b1 b2 b3 b4) (pick5 m0 m1 m2 m3 m4) (pick5 c0 c1 c2 c3 c4) _ (by omega) (five ⟨?_, ?_, ?_, ?_, ?_⟩) (five ⟨up h0, up h1, up h2, up h3, up h4⟩) ?_ ?_ ?_).mono ?_
  · rw [cell_of_row _ _ _ _ _ _ (heap_alloc_new W _)]; rfl
  · rw [cell_of_row _ _ _ _ _ _ (heap_alloc_new W _)]; rfl
  · rw [cell_of_row _ _ _ _ _ _ (heap_alloc_new W _)]; rfl
  · rw [cell_of_row _ _ _ _ _ _ (heap_alloc_new W _)]; rfl
  · rw [cell_of_row _ _ _ _ _ _ (heap_alloc_new W _)]; rfl
  · intro i j hi hj hij g e1 e2
    have key : ∀ i, i < 5 → ∀ g, pick5 b0 b1 b2 b3 b4 i = some g → (i = 0 → g < s1) ∧ (i = 1 → s1 ≤ g ∧ g < s2) ∧ (i = 2 → s2 ≤ g ∧ g < s3) ∧ (i = 3 → s3 ≤ g ∧ g < s4) ∧ (i = 4 → s4 ≤ g) := by
      intro i hi g e
      match i, hi with
      | 0, _ => have := z0 g e; omega
      | 1, _ => have := z1 g e; omega
      | 2, _ => have := z2 g e; omega
      | 3, _ => have := z3 g e; omega
      | 4, _ => have := z4 g e; omega
    have k1 := key i hi g e1
    have k2 := key j hj g e2
    omega
  · refine five ⟨fun e => ?_, fun e => ?_, fun e => ?_, fun e => ?_, fun e => ?_⟩
    · have := y0 _ e; omega
    · have := y1 _ e; omega
    · have := y2 _ e; omega
    · have := y3 _ e; omega
    · have := y4 _ e; omega
  · intro i
    match i with
    | 0 => exact hm.1
    | 1 => exact hm.2.1
    | 2 => exact hm.2.2.1
    | 3 => exact hm.2.2.2.1
    | 4 => exact hm.2.2.2.2
    | _ + 5 => exact hm.2.2.2.2
  · rintro e w' ⟨rfl, ha⟩
    refine ⟨rfl, Alt.trans (S := fun x => b0 = some x ∨ b1 = some x ∨ b2 = some x ∨ b3 = some x ∨ b4 = some x) ⟨hA.os, hA.tape, hA.output, hA.size, fun k hk _ => hA.block k hk⟩ ha ?_⟩
    rintro x - ⟨i, hi, e⟩
    match i, hi with
    | 0, _ => exact .inl e
    | 1, _ => exact .inr (.inl e)
    | 2, _ => exact .inr (.inr (.inl e))
    | 3, _ => exact .inr (.inr (.inr (.inl e)))
    | 4, _ => exact .inr (.inr (.inr (.inr e)))
theorem Dk.alt {w w' : World} {g : Nat} {nb ob : Option Nat} {d : DkS} {S : Nat → Prop} (h : Dk w g nb ob d) (ha : Alt w w' S) (h1 : ¬ S g) (h2 : ∀ k, nb = some k → ¬ S k) (h3 : ∀ k, ob = some k → ¬ S k) : Dk w' g nb ob d := by
  obtain ⟨nv, ov, k1, k2, k3⟩ := h.lies
  exact ⟨h.wf, h.nn, h.on, fun k e => Nat.lt_of_lt_of_le (h.nl k e) ha.size, fun k e => Nat.lt_of_lt_of_le (h.ol k e) ha.size, nv, ov, k1.of_block (ha.block g k1.lt h1), k2.keep ha.size (fun k e hk => ha.block k hk (h2 k e)), k3.keep ha.size (fun k e hk => ha.block k hk (h3 k e))⟩
theorem Rd.alt {w w' : World} {A : Option Addr} {l : List Nat} {S : Nat → Prop} (h : Rd w A l) (ha : Alt w w' S) (h1 : ∀ a, A = some a → ¬ S a.block) : Rd w' A l :=
  h.keep ha.size fun p hp ⟨a, e, e2⟩ => World.cell?_of_block (ha.block p.block hp (by rw [← e2]; exact h1 a e))

set_option maxRecDepth 100000 in
set_option maxHeartbeats 8000000 in
theorem diskSpares_any (A : Option Addr) (c : Nat) (l : List Nat) (w : World) (hr : Rd w A l) (hlc : l.length ≤ c) (hcm : c ≤ 9223372036854775807) :
    Calls Try.prog 5 #[.slice A l.length c] w fun e w' => e = .returned (.bool true) ∧ Below w.heap.size w w' := by
  have kc := fun (w : World) (C : Array Value) (n c : Nat) => Lib.run_convert_bytes_const (P := Try.prog) w 32 5 C n c Try.underlying32 Try.underlying5
  obtain ⟨n, hn⟩ : ∃ n : Nat, n = min l.length 3000 := ⟨_, rfl⟩
  obtain ⟨s, hs⟩ : ∃ s, s = l.take n := ⟨_, rfl⟩
  have hsl : s.length = n := by rw [hs, List.length_take]; omega
  have hnm : (if (3000 : Int) < l.length then 3000 else (l.length : Int)) = n := by split <;> omega
  have hn1 : (n : Int) ≤ c := by omega
  have hn2 : n ≤ c := by omega
  have hn4 : n ≤ 3000 := by omega
  have HR := Lib.hid (show Rd w A s by rw [hs]; exact rd_takeL hr n)
  have HS := Lib.hid hsl
  clear hr hs hn hsl hlc
  go_enter Try.func5, Try.ntmps5
  go_wp2_with fail
  refine (copyb_any A n c s w HS.out.symm HR.out (by rw [HS.out]; omega)).mono ?_
  rintro e w1 ⟨v1, rfl, ho1, hb1⟩
  obtain ⟨A1, c1, rfl, -, -, hr1⟩ := ho1.form
  have O1 := Lib.hid ho1
  have B1 := Lib.hid hb1
  have R1 := Lib.hid hr1
  clear ho1 hb1 hr1
  go_wp2_with fail
  refine (load_n 5000 A1 s.length c1 s w1 rfl (by omega) (by rw [HS.out]; omega) R1.out).mono ?_
  rintro e w2 ⟨g, nb, ob, rfl, hd, hg, hnb, hob, hb2⟩
  have D2 := Lib.hid hd
  have B2 := Lib.hid hb2
  have O2 := Lib.hid (O1.out.below hb2)
  have G2 := Lib.hid (show w1.heap.size ≤ g ∧ (∀ k, nb = some k → w1.heap.size ≤ k) ∧ (∀ k, ob = some k → w1.heap.size ≤ k) from ⟨hg, hnb, hob⟩)
  clear hd hg hnb hob hb2
  go_wp2_with fail
  refine (copy_any D2.out).mono ?_
  rintro e w3 ⟨g3, nb3, ob3, rfl, hd3, hg3, hnb3, hob3, hb3⟩
  have D3 := Lib.hid (D2.out.below hb3)
  have C3 := Lib.hid hd3
  have G3 := Lib.hid (show w2.heap.size ≤ g3 ∧ (∀ k, nb3 = some k → w2.heap.size ≤ k) ∧ (∀ k, ob3 = some k → w2.heap.size ≤ k) from ⟨hg3, hnb3, hob3⟩)
  have B3 := Lib.hid hb3
  have O3 := Lib.hid (O2.out.below hb3)
  clear hd3 hg3 hnb3 hob3 hb3
  go_wp2_with fail
  refine (read_all D3.out n HS.out.symm).mono ?_
  rintro e w4 ⟨A4, c4, rfl, hx4, hd4, hg4⟩
  have hgl3 : g < w3.heap.size := D3.out.lt
  have hgl2 : g < w2.heap.size := D2.out.lt
  have I1 : Hid (∀ k, (Value.slice A1 s.length c1).ownBlock = some k → k < w1.heap.size) := fun k e => (O1.out.lt k e).2
  have O4 := Lib.hid (O3.out.kept hg4 (.inr fun e => by have := I1.out g e; have := G2.out.1; omega))
  have C4 := Lib.hid (C3.out.grown hg4 (fun e => by injection e with e; have := G3.out.1; omega) (fun k e e2 => by injection e2 with e2; have := G3.out.2.1 k e; omega) (fun k e e2 => by injection e2 with e2; have := G3.out.2.2 k e; omega))
  have X4 := Lib.hid hx4
  have D4 := Lib.hid hd4
  have B4 := Lib.hid hg4
  have S4 := hg4.size
  clear hx4 hd4 hg4
  go_wp2_with fail
  refine (read_all D4.out n HS.out.symm).mono ?_
  rintro e w5 ⟨A5, c5, rfl, hx5, hd5, hg5⟩
  have O5 := Lib.hid (O4.out.kept hg5 (.inr fun e => by have := I1.out g e; have := G2.out.1; omega))
  have C5 := Lib.hid (C4.out.grown hg5 (fun e => by injection e with e; have := G3.out.1; omega) (fun k e e2 => by injection e2 with e2; have := G3.out.2.1 k e; omega) (fun k e e2 => by injection e2 with e2; have := G3.out.2.2 k e; omega))
  have X5 := Lib.hid (X4.out.kept hg5 (.inr fun e => by have := (X4.out.lt g e).1; omega))
  have Y5 := Lib.hid hx5
  have D5 := Lib.hid hd5
  have B5 := Lib.hid hg5
  have S5 := hg5.size
  clear hx5 hd5 hg5
  go_wp2_with fail
  refine (image_mk D5.out).mono ?_
  rintro e w6 ⟨A6, c6, rfl, hx6, hb6⟩
  have O6 := Lib.hid (O5.out.below hb6)
  have C6 := Lib.hid (C5.out.below hb6)
  have D6 := Lib.hid (D5.out.below hb6)
  have X6 := Lib.hid (X5.out.below hb6)
  have Y6 := Lib.hid (Y5.out.below hb6)
  have Z6 := Lib.hid hx6
  have B6 := Lib.hid hb6
  have S6 := hb6.size
  clear hx6 hb6
  go_wp2_with fail
  refine (image_mk C6.out).mono ?_
  rintro e w7 ⟨A7, c7, rfl, hx7, hb7⟩
  have O7 := Lib.hid (O6.out.below hb7)
  have C7 := Lib.hid (C6.out.below hb7)
  have D7 := Lib.hid (D6.out.below hb7)
  have X7 := Lib.hid (X6.out.below hb7)
  have Y7 := Lib.hid (Y6.out.below hb7)
  have Z7 := Lib.hid (Z6.out.below hb7)
  have W7 := Lib.hid hx7
  have S7 := hb7.size
  have hall : Below w.heap.size w w7 := B1.out.trans ((B2.out.mono B1.out.size |>.trans (B3.out.mono (by have := B1.out.size; have := B2.out.size; omega)) |>.trans (below_of_grown (below_of_grown (Below.refl _ _) B4.out (by have := B1.out.size; have := B2.out.size; have := B3.out.size; omega) (by have := B1.out.size; have := G2.out.1; omega)) B5.out (by have := B1.out.size; have := B2.out.size; have := B3.out.size; omega) (by have := B1.out.size; have := G2.out.1; omega))) |>.trans ((B6.out.trans (hb7.mono B6.out.size)).mono (by have := B1.out.size; have := B2.out.size; have := B3.out.size; omega)))
  have B7 := Lib.hid hall
  clear hx7 hb7 hall
  have r4 := X7.out.form
  obtain ⟨A4', c4', e4, -, -, r4⟩ := r4
  injection e4 with e4 e4b e4c
  subst e4; subst e4c
  obtain ⟨A7', c7', e7, -, -, r7⟩ := W7.out.form
  injection e7 with e7 e7b e7c
  subst e7; subst e7c
  have R4 := Lib.hid r4
  have R7 := Lib.hid r7
  clear r4 r7
  go_wp2_with fail
  refine (same_yes A4 A s.length n c4 c s w7 rfl HS.out.symm R4.out (HR.out.below B7.out) (by rw [HS.out]; omega)).mono ?_
  rintro e w8 ⟨rfl, hb8⟩
  have T8 := Lib.hid hb8
  clear hb8
  go_wp2_with fail
  refine (same_yes A7 A s.length n c7 c s w8 rfl HS.out.symm (R7.out.below T8.out) (HR.out.below (B7.out.trans (T8.out.mono B7.out.size))) (by rw [HS.out]; omega)).mono ?_
  rintro e w9 ⟨rfl, hb9⟩
  have T9 := Lib.hid (T8.out.trans (hb9.mono T8.out.size))
  clear hb9
  go_wp2_with fail
  have hb9 : Below w.heap.size w w9 := B7.out.trans (T9.out.mono B7.out.size)
  have D9 := Lib.hid (D7.out.below T9.out)
  have C9 := Lib.hid (C7.out.below T9.out)
  have hO := O7.out.below T9.out
  have hX := X7.out.below T9.out
  have hY := Y7.out.below T9.out
  have hZ := Z7.out.below T9.out
  have hW := W7.out.below T9.out
  have B9 := Lib.hid hb9
  obtain ⟨m0, k0, q0, p0⟩ := hO.bk (by rw [HS.out]; omega)
  obtain ⟨m1, k1, q1, p1⟩ := hX.bk (by rw [HS.out]; omega)
  obtain ⟨m2, k2, q2, p2⟩ := hY.bk (by rw [HS.out]; omega)
  obtain ⟨m3, k3, q3, p3⟩ := hZ.bk (by rw [HS.out]; omega)
  obtain ⟨m4, k4, q4, p4⟩ := hW.bk (by rw [HS.out]; omega)
  have z0 : ∀ k, (Value.slice A1 s.length c1).ownBlock = some k → k < w3.heap.size := fun k e => by have := I1.out k e; have := B2.out.size; have := B3.out.size; omega
  have z1 : ∀ k, (Value.slice A4 s.length c4).ownBlock = some k → w3.heap.size ≤ k ∧ k < w4.heap.size := fun k e => ⟨(X4.out.lt k e).1, (X4.out.lt k e).2⟩
  have z2 : ∀ k, (Value.slice A5 s.length c5).ownBlock = some k → w4.heap.size ≤ k ∧ k < w5.heap.size := fun k e => ⟨(Y5.out.lt k e).1, (Y5.out.lt k e).2⟩
  have z3 : ∀ k, (Value.slice A6 s.length c6).ownBlock = some k → w5.heap.size ≤ k ∧ k < w6.heap.size := fun k e => ⟨(Z6.out.lt k e).1, (Z6.out.lt k e).2⟩
  have z4 : ∀ k, (Value.slice A7 s.length c7).ownBlock = some k → w6.heap.size ≤ k := fun k e => (p4 k e).1
  have zm : ∀ {v b m c'}, Bk w9 v b m c' → m ≤ 9223372036854775807 := fun {v b m c'} h => by
    rcases h with ⟨_, _, rfl, _⟩ | ⟨_, _, _, _, _, _, _, _, h, h', _⟩ <;> omega
  have hap := apart5 (t := 32) w3.heap.size w4.heap.size w5.heap.size w6.heap.size q0 q1 q2 q3 q4 z0 z1 z2 z3 z4 ⟨S4, S5, S6⟩ ⟨zm q0, zm q1, zm q2, zm q3, zm q4⟩
  have HI := Lib.hid I1.out
  have Z0 := Lib.hid p0
  have Z1 := Lib.hid z1
  have Z2 := Lib.hid z2
  have Z3 := Lib.hid z3
  have Z4 := Lib.hid z4
  clear hb9 hO hX hY hZ hW q0 q1 q2 q3 q4 p0 p1 p2 p3 p4 z0 z1 z2 z3 z4 zm
  refine hap.mono ?_
  rintro e w10 ⟨rfl, ha⟩
  obtain ⟨SS, hSS⟩ : ∃ SS : Nat → Prop, SS = fun x => (Value.slice A1 s.length c1).ownBlock = some x ∨ (Value.slice A4 s.length c4).ownBlock = some x ∨ (Value.slice A5 s.length c5).ownBlock = some x ∨ (Value.slice A6 s.length c6).ownBlock = some x ∨ (Value.slice A7 s.length c7).ownBlock = some x := ⟨_, rfl⟩
  rw [← hSS] at ha
  have hs1 : ∀ k, SS k → w.heap.size ≤ k ∧ (k < w1.heap.size ∨ w3.heap.size ≤ k) := by
    intro k hk
    rw [hSS] at hk
    have := B1.out.size; have := B2.out.size; have := B3.out.size
    rcases hk with e | e | e | e | e
    · exact ⟨(Z0.out k e).1, .inl (HI.out k e)⟩
    · have := Z1.out k e; omega
    · have := Z2.out k e; omega
    · have := Z3.out k e; omega
    · have := Z4.out k e; omega
  have hb10 : Below w.heap.size w w10 := B9.out.trans (ha.below (fun k e => (hs1 k e).1) B9.out.size)
  have hn1 := D2.out.nl
  have ho1 := D2.out.ol
  have hn3 := C3.out.nl
  have ho3 := C3.out.ol
  have hgl3 := C3.out.lt
  have hd10 : Dk w10 g nb ob (mkD 5000 s) := D9.out.alt ha (fun e => by have := hs1 _ e; have := G2.out.1; have := B3.out.size; omega) (fun k e e2 => by have := hs1 _ e2; have := G2.out.2.1 k e; have := hn1 k e; have := B3.out.size; omega) (fun k e e2 => by have := hs1 _ e2; have := G2.out.2.2 k e; have := ho1 k e; have := B3.out.size; omega)
  have hc10 : Dk w10 g3 nb3 ob3 (mkD 5000 s) := C9.out.alt ha (fun e => by have := hs1 _ e; have := G3.out.1; have := B2.out.size; omega) (fun k e e2 => by have := hs1 _ e2; have := G3.out.2.1 k e; have := hn3 k e; have := B2.out.size; omega) (fun k e e2 => by have := hs1 _ e2; have := G3.out.2.2 k e; have := ho3 k e; have := B2.out.size; omega)
  have hn1' := hn1
  have N1 := Lib.hid hn1
  have N2 := Lib.hid ho1
  have D10 := Lib.hid hd10
  have C10 := Lib.hid hc10
  have B10 := Lib.hid hb10
  clear hap ha hSS hs1 hb10 hn1 hn1' ho1 hn3 ho3 hgl3 hd10 hc10 Z0 Z1 Z2 Z3 Z4 HI
  go_wp2_with fail
  refine (image_mk D10.out).mono ?_
  rintro e w11 ⟨A11, c11, rfl, hx11, hb11⟩
  obtain ⟨A11', c11', e11, -, -, r11⟩ := hx11.form
  injection e11 with e11 e11b e11c
  subst e11; subst e11c
  have R11 := Lib.hid r11
  have B11 := Lib.hid hb11
  clear hx11 r11 hb11
  go_wp2_with fail
  refine (same_yes A11 A s.length n c11 c s w11 rfl HS.out.symm R11.out (HR.out.below (B10.out.trans (B11.out.mono B10.out.size))) (by rw [HS.out]; omega)).mono ?_
  rintro e w12 ⟨rfl, hb12⟩
  have T12 := Lib.hid (B11.out.trans (hb12.mono B11.out.size))
  have hb12' := (B11.out.trans (hb12.mono B11.out.size)).alloc (B11.out.trans (hb12.mono B11.out.size)).size (.cells #[.int .u8 120] 5 (1, 1 + 1))
  have B12 := Lib.hid hb12'
  clear hb12 hb12'
  go_wp2_with fail
  refine (append_any (C10.out.below B12.out) (some ⟨w12.heap.size, 0, none⟩) 1 [120] (by simp) (constW_rd w12 5 [120] (by simp) _)).mono ?_
  rintro e w13 ⟨r, rfl, ⟨nb', ob', hc13, -, -, hg13⟩, hr13⟩
  obtain rfl : r = 0 := by
    rw [hr13]
    have h1 : ¬ (5000 < s.length + [120].length) := by rw [HS.out]; simp; omega
    have h2 : DkS.append (mkD 5000 s) [120] = (if 5000 < s.length + [120].length then (5, mkD 5000 s) else (0, { mkD 5000 s with now := s ++ [120] })) := rfl
    rw [h2, if_neg h1]
  have hd13 : Dk w13 g nb ob (mkD 5000 s) := (D10.out.below B12.out).grown hg13 (fun e => by injection e with e; have := G3.out.1; have := D2.out.lt; omega) (fun k e e2 => by injection e2 with e2; have := G3.out.1; have := N1.out k e; omega) (fun k e e2 => by injection e2 with e2; have := G3.out.1; have := N2.out k e; omega)
  have hb13 : Below w.heap.size w w13 := below_of_grown (B10.out.trans (B12.out.mono B10.out.size)) hg13 (Nat.le_trans B10.out.size B12.out.size) (by have := G3.out.1; have := B1.out.size; have := B2.out.size; omega)
  have D13 := Lib.hid hd13
  have B13 := Lib.hid hb13
  clear hc13 hg13 hr13 hd13 hb13
  go_wp2_with fail
  refine (size_any D13.out).mono ?_
  rintro e w14 ⟨rfl, rfl⟩
  rw [show ((mkD 5000 s).now.length : Int) = n from congrArg (fun x : Nat => (x : Int)) HS.out]
  go_wp2_with fail
  refine (awake_any w13).mono ?_
  rintro e w15 ⟨rfl, hb15⟩
  have B15 := Lib.hid (B13.out.trans (hb15.mono B13.out.size))
  clear hb15
  go_wp2_with fail
  go_ret
  exact ⟨rfl, B15.out⟩
theorem diskSpares_walk (A : Option Addr) (c : Nat) (l : List Nat) (w : World) (hr : Rd w A l) (hlc : l.length ≤ c) (hcm : c ≤ maxLen) :
    Calls Try.prog 5 #[.slice A l.length c] w fun e w' => e = .returned (.bool true) ∧ Below w.heap.size w w' := diskSpares_any A c l w hr hlc (by unfold maxLen at hcm; omega)
end Go.Proofs.Ytkmjbfednmidbaa
