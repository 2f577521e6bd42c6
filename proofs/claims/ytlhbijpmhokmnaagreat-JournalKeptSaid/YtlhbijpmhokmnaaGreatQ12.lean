/-
  LISTS OF BYTES IN MEMORY, more: an append at a step of a region that draws its order. Conditions: each law's own premises.
  THE WALKS OF slices.Clone, slices.Clip AT BYTES; disk's none, Size, Synced, Down, Arm, Fail. Conditions: the disk lies in memory.
  THE WALKS OF disk's Image, Arm, Fail, operation. Conditions: the disk lies in memory.
  THE WALK OF disk's operation: what is ahead, then the closure. Conditions: the disk lies in memory; the closure by its contract.
-/
import Derived.Test.YtlhbijpmhokmnaaGreatQ01
import Derived.Test.YtlhbijpmhokmnaaGreatQ11
namespace Go.Proofs.YtlhbijpmhokmnaaGreat
open Go.RowKit
set_option linter.unusedSimpArgs false
set_option linter.unusedVariables false

section
variable {W : World} {ops : Array Oper} {o : Oper} {a : Act} {K : Act → World → Prop} {Q : Exit → Act → World → Prop} {E : Prop} {base : Nat} {v : Value} {l : List Nat}
theorem step_append_bytes (s x : Operand) (hgd : o.guard = none) (ho : o.op = .call { callee := .builtin .append, args := #[s, x], argTypes := #[22, 22] })
    (hs : a.eval s = v) (hown : Ow W base v l) (A : Option Addr) (n c : Nat) (m : List Nat) (hx : a.eval x = .slice A n c) (hnm : n = m.length) (hr : Rd W A m)
    (hn : l.length + m.length ≤ 140737488355328) (hbase : base ≤ W.heap.size)
    (h : ∀ v' w', Ow w' base v' (l ++ m) → W.grownBy w' v.ownBlock → (v'.ownBlock = v.ownBlock ∨ v'.ownBlock = some W.heap.size) → K (a.put o.dst v') w') :
    if Region.wanted o (yielded ops a.tmps) = true then Oper.wp Tryz.prog o a W K Q else E := by
  have hw : Region.wanted o (yielded ops a.tmps) = true := by simp [Region.wanted, hgd]
  rw [if_pos hw]
  exact wp_append_bytes s x ho hs hown A n c m hx hnm hr hn hbase h
/-- 'out = append(out, b)' inside a region that draws, behind the block that was made for b. -/
theorem step_append_new (s x : Operand) (hgd : o.guard = none) (ho : o.op = .call { callee := .builtin .append, args := #[s, x], argTypes := #[22, 22] }) (t c : Nat) (z : Int) (b : Nat)
    (hs : a.eval s = v) (hx : a.eval x = .slice (some ⟨W.heap.size, 0, none⟩) 1 c) (hown : Ow W base v l) (hz : z = b) (hb : b < 256)
    (hn : l.length + 1 ≤ 140737488355328) (hbase : base ≤ W.heap.size)
    (h : ∀ v' w', Ow w' base v' (l ++ [b]) → W.grownBy w' v.ownBlock → (v'.ownBlock = v.ownBlock ∨ W.heap.size < w'.heap.size ∧ v'.ownBlock = some (W.heap.size + 1)) → K (a.put o.dst v') w') :
    if Region.wanted o (yielded ops a.tmps) = true then Oper.wp Tryz.prog o a (W.alloc (.cells #[.int .u8 z] t)).drew K Q else E := by
  subst hz
  have hr : Rd (W.alloc (.cells #[.int .u8 (b : Nat)] t)).drew (some ⟨W.heap.size, 0, none⟩) [b] := ⟨by simpa using hb, fun _ => ⟨W.heap.size, 0, rfl, by simp, fun i hi => by
    have : i = 0 := by simpa using hi
    subst this
    exact new_cell W (.int .u8 (b : Nat)) t⟩⟩
  have hown' : Ow (W.alloc (.cells #[.int .u8 (b : Nat)] t)).drew base v l := (hown.alloc _).drew
  refine step_append_bytes s x hgd ho hs hown' _ 1 c [b] hx rfl hr (by simpa using hn) (by simp; omega) fun v' w' h1 h2 h3 => ?_
  have h2' : W.grownBy w' v.ownBlock := nil_grown (World.grownBy_alloc W (.cells #[.int .u8 (b : Nat)] t) v.ownBlock) ⟨h2.os, h2.tape, h2.output, h2.size, h2.block⟩
  refine h v' w' h1 h2' ?_
  rcases h3 with h3 | h3
  · exact .inl h3
  · refine .inr ⟨?_, by simpa using h3⟩
    have := h2.size
    simp at this
    omega
end
end Go.Proofs.YtlhbijpmhokmnaaGreat
namespace Go.Proofs.YtlhbijpmhokmnaaGreat
open Go.RowKit
set_option linter.unusedSimpArgs false
set_option linter.unusedVariables false

/-- An empty slice over a block of none. -/
theorem Ow.zero (w : World) : Ow (w.alloc (.cells #[] 5)) w.heap.size (.slice (some ⟨w.heap.size, 0, none⟩) 0 0) [] :=
  ⟨by simp, rfl, .inr ⟨w.heap.size, 0, #[], rfl, Nat.le_refl _, heap_alloc_new w _, Nat.le_refl _, by simp, rfl, rfl⟩⟩
theorem Ow.sl {w : World} {base : Nat} {v : Value} {l : List Nat} (h : Ow w base v l) : ∃ b, Sl w v l b ∧ ∀ k, b = some k → base ≤ k ∧ v.ownBlock = some k := by
  have h0 := h
  obtain ⟨hb, hlen, ⟨rfl, hn⟩ | ⟨g, cap, cur, rfl, hg, hh, hn, hm, hs, ht⟩⟩ := h0
  · have : l = [] := List.eq_nil_of_length_eq_zero hn
    subst this
    exact ⟨none, ⟨none, 0, rfl, Nat.le_refl _, by omega, Rd.nil, rfl⟩, fun k e => by cases e⟩
  · obtain ⟨A, c, e, _, _, hr⟩ := h.form
    injection e with e1 e2 e3
    subst e1
    exact ⟨some g, ⟨_, cap, rfl, hn, by unfold maxLen at hm; omega, hr, rfl⟩, fun k e => by injection e with e; subst e; exact ⟨hg, rfl⟩⟩
theorem Ow.ownLt {w : World} {base : Nat} {v : Value} {l : List Nat} (h : Ow w base v l) {k : Nat} (e : v.ownBlock = some k) : k < w.heap.size := by
  obtain ⟨hb, hlen, ⟨rfl, hn⟩ | ⟨g, cap, cur, rfl, hg, hh, hn, hm, hs, ht⟩⟩ := h
  · cases e
  · obtain rfl : g = k := by injection e
    exact lt_of_block hh
theorem clone_any (A : Option Addr) (n c : Nat) (l : List Nat) (w : World) (hn : n = l.length) (h : Rd w A l) (hl : l.length ≤ 140737488355328) :
    Calls Tryz.prog 29 #[.slice A n c] w fun e w' => ∃ v b, e = .returned v ∧ Sl w' v l b ∧ (∀ k, b = some k → w.heap.size ≤ k) ∧ Below w.heap.size w w' := by
  rcases A with _ | ad
  · have hln : l = [] := by
      cases l with
      | nil => rfl
      | cons a t => obtain ⟨g, o, e, _⟩ := h.2 (by simp); cases e
    subst hln
    subst hn
    have hq := fun W : World => Lib.run_eql_slice_nil (P := Tryz.prog) (w := W)
    go_enter Tryz.func29, Tryz.ntmps29
    go_wp2
    go_ret
    exact ⟨_, none, rfl, ⟨none, 0, rfl, Nat.le_refl _, by omega, Rd.nil, rfl⟩, by simp, Below.refl _ _⟩
  · have HA := Lib.hid h
    have HN := Lib.hid hn
    clear h hn
    have hq := fun W : World => Lib.run_eql_slice_nil (P := Tryz.prog) (w := W)
    go_enter Tryz.func29, Tryz.ntmps29
    go_wp2_with (at_builtin; refine append_bytes (.tmp 5) (.tmp 6) rfl rfl rfl (Ow.zero w) (some ad) n c l rfl HN.out (HA.out.alloc _) (by simpa using hl) (by simp) ?_; intro v1 w1 ho1 hg1 ha1)
    go_ret
    obtain ⟨b, hs, hb⟩ := ho1.sl
    exact ⟨v1, b, rfl, by simpa using hs, fun k hk => (hb k hk).1, ((Below.refl _ _).alloc (Nat.le_refl _) _).grown hg1 (by simp) (fun k hk => by have hk : some w.heap.size = some k := hk; injection hk with hk; omega)⟩
theorem clone_lt (A : Option Addr) (n c : Nat) (l : List Nat) (w : World) (hn : n = l.length) (h : Rd w A l) (hl : l.length ≤ 140737488355328) :
    Calls Tryz.prog 29 #[.slice A n c] w fun e w' => ∃ v b, e = .returned v ∧ Sl w' v l b ∧ (∀ k, b = some k → w.heap.size ≤ k ∧ k < w'.heap.size) ∧ Below w.heap.size w w' := by
  rcases A with _ | ad
  · have hln : l = [] := by
      cases l with
      | nil => rfl
      | cons a t => obtain ⟨g, o, e, _⟩ := h.2 (by simp); cases e
    subst hln
    subst hn
    have hq := fun W : World => Lib.run_eql_slice_nil (P := Tryz.prog) (w := W)
    go_enter Tryz.func29, Tryz.ntmps29
    go_wp2
    go_ret
    exact ⟨_, none, rfl, ⟨none, 0, rfl, Nat.le_refl _, by omega, Rd.nil, rfl⟩, by simp, Below.refl _ _⟩
  · have HA := Lib.hid h
    have HN := Lib.hid hn
    clear h hn
    have hq := fun W : World => Lib.run_eql_slice_nil (P := Tryz.prog) (w := W)
    go_enter Tryz.func29, Tryz.ntmps29
    go_wp2_with (at_builtin; refine append_bytes (.tmp 5) (.tmp 6) rfl rfl rfl (Ow.zero w) (some ad) n c l rfl HN.out (HA.out.alloc _) (by simpa using hl) (by simp) ?_; intro v1 w1 ho1 hg1 ha1)
    go_ret
    obtain ⟨b, hs, hb⟩ := ho1.sl
    exact ⟨v1, b, rfl, by simpa using hs, fun k hk => ⟨(hb k hk).1, (ho1.lt k (hb k hk).2).2⟩, ((Below.refl _ _).alloc (Nat.le_refl _) _).grown hg1 (by simp) (fun k hk => by have hk : some w.heap.size = some k := hk; injection hk with hk; omega)⟩
theorem clip_any (A : Option Addr) (n c : Nat) (w : World) (hc : n ≤ c) : Calls Tryz.prog 80 #[.slice A n c] w fun e w' => e = .returned (.slice A n n) ∧ w = w' := by
  go_enter Tryz.func80, Tryz.ntmps80
  go_wp2
  go_ret
  exact ⟨rfl, rfl⟩

section
variable {w : World} {g : Nat} {nb ob : Option Nat} {d : DkS}
theorem Dk.c (h : Dk w g nb ob d) : w.cell? ⟨g, 0, none⟩ = some (.bool true) ∧ w.cell? ⟨g, 1, none⟩ = some (.int .i64 d.most) ∧ w.cell? ⟨g, 4, none⟩ = some (.int .i64 d.floor) ∧ w.cell? ⟨g, 5, none⟩ = some (.bool d.down) ∧
    w.cell? ⟨g, 6, none⟩ = some (.int .i64 d.armed) ∧ w.cell? ⟨g, 7, none⟩ = some (.int .i64 d.fails) ∧ w.cell? ⟨g, 8, none⟩ = some (.int .i64 d.err) := by
  obtain ⟨nv, ov, h1, _⟩ := h.lies
  exact ⟨h1.cell (by omega), h1.cell (by omega), h1.cell (by omega), h1.cell (by omega), h1.cell (by omega), h1.cell (by omega), h1.cell (by omega)⟩
theorem Dk.nowC (h : Dk w g nb ob d) : ∃ A c, w.cell? ⟨g, 2, none⟩ = some (.slice A d.now.length c) ∧ d.now.length ≤ c ∧ c ≤ 9223372036854775807 ∧ Rd w A d.now ∧ A.map (·.block) = nb := by
  obtain ⟨nv, ov, h1, ⟨A, c, rfl, h2⟩, _⟩ := h.lies
  exact ⟨A, c, h1.cell (by omega), h2⟩
theorem Dk.oldC (h : Dk w g nb ob d) : ∃ A c, w.cell? ⟨g, 3, none⟩ = some (.slice A d.old.length c) ∧ d.old.length ≤ c ∧ c ≤ 9223372036854775807 ∧ Rd w A d.old ∧ A.map (·.block) = ob := by
  obtain ⟨nv, ov, h1, _, ⟨A, c, rfl, h2⟩⟩ := h.lies
  exact ⟨A, c, h1.cell (by omega), h2⟩
theorem Dk.fz (h : Dk w g nb ob d) (j : Nat) : w.frozen? ⟨g, j, none⟩ = false := by
  obtain ⟨nv, ov, h1, _⟩ := h.lies
  exact h1.frozen j
end
theorem none_nil (w : World) : Calls Tryz.prog 43 #[.pointer none] w fun e w' => e = .returned (.bool true) ∧ w = w' := by
  go_enter Tryz.func43, Tryz.ntmps43
  go_wp2
  go_ret
  exact ⟨rfl, rfl⟩
theorem none_zero (g : Nat) (w : World) (h : w.cell? ⟨g, 0, none⟩ = some (.bool false)) : Calls Tryz.prog 43 #[.pointer (some ⟨g, 0, none⟩)] w fun e w' => e = .returned (.bool true) ∧ w = w' := by
  go_enter Tryz.func43, Tryz.ntmps43
  go_wp2
  go_ret
  exact ⟨rfl, rfl⟩
theorem none_any {g : Nat} {nb ob : Option Nat} {d : DkS} {w : World} (h : Dk w g nb ob d) : Calls Tryz.prog 43 #[.pointer (some ⟨g, 0, none⟩)] w fun e w' => e = .returned (.bool false) ∧ w = w' := by
  have h0 := h.c.1
  go_enter Tryz.func43, Tryz.ntmps43
  go_wp2
  go_ret
  exact ⟨rfl, rfl⟩
theorem size_any {g : Nat} {nb ob : Option Nat} {d : DkS} {w : World} (h : Dk w g nb ob d) : Calls Tryz.prog 12 #[.pointer (some ⟨g, 0, none⟩)] w fun e w' => e = .returned (.int .i64 d.now.length) ∧ w = w' := by
  obtain ⟨A, c, h2, -, -, -, -⟩ := h.nowC
  have H := Lib.hid h
  clear h
  go_enter Tryz.func12, Tryz.ntmps12
  go_wp2_with fail
  refine (none_any H.out).mono ?_
  rintro e w' ⟨rfl, rfl⟩
  go_wp2_with fail
  go_ret
  exact ⟨rfl, rfl⟩
end Go.Proofs.YtlhbijpmhokmnaaGreat
namespace Go.Proofs.YtlhbijpmhokmnaaGreat
open Go.RowKit
set_option linter.unusedSimpArgs false
set_option linter.unusedVariables false

theorem dk_floor (d : DkS) (x : Nat) (nv ov : Value) (i : Nat) (hi : i < 9) : dkC { d with floor := x } nv ov i = if i = 4 then dkC { d with floor := x } nv ov 4 else dkC d nv ov i := by
  match i, hi with
  | 0, _ => rfl
  | 1, _ => rfl
  | 2, _ => rfl
  | 3, _ => rfl
  | 4, _ => rfl
  | 5, _ => rfl
  | 6, _ => rfl
  | 7, _ => rfl
  | 8, _ => rfl
theorem dk_down (d : DkS) (x : Bool) (nv ov : Value) (i : Nat) (hi : i < 9) : dkC { d with down := x } nv ov i = if i = 5 then dkC { d with down := x } nv ov 5 else dkC d nv ov i := by
  match i, hi with
  | 0, _ => rfl
  | 1, _ => rfl
  | 2, _ => rfl
  | 3, _ => rfl
  | 4, _ => rfl
  | 5, _ => rfl
  | 6, _ => rfl
  | 7, _ => rfl
  | 8, _ => rfl
theorem dk_armed (d : DkS) (x : Int) (nv ov : Value) (i : Nat) (hi : i < 9) : dkC { d with armed := x } nv ov i = if i = 6 then dkC { d with armed := x } nv ov 6 else dkC d nv ov i := by
  match i, hi with
  | 0, _ => rfl
  | 1, _ => rfl
  | 2, _ => rfl
  | 3, _ => rfl
  | 4, _ => rfl
  | 5, _ => rfl
  | 6, _ => rfl
  | 7, _ => rfl
  | 8, _ => rfl
theorem dk_fails (d : DkS) (x : Nat) (nv ov : Value) (i : Nat) (hi : i < 9) : dkC { d with fails := x } nv ov i = if i = 7 then dkC { d with fails := x } nv ov 7 else dkC d nv ov i := by
  match i, hi with
  | 0, _ => rfl
  | 1, _ => rfl
  | 2, _ => rfl
  | 3, _ => rfl
  | 4, _ => rfl
  | 5, _ => rfl
  | 6, _ => rfl
  | 7, _ => rfl
  | 8, _ => rfl
theorem dk_err (d : DkS) (x : Int) (nv ov : Value) (i : Nat) (hi : i < 9) : dkC { d with err := x } nv ov i = if i = 8 then dkC { d with err := x } nv ov 8 else dkC d nv ov i := by
  match i, hi with
  | 0, _ => rfl
  | 1, _ => rfl
  | 2, _ => rfl
  | 3, _ => rfl
  | 4, _ => rfl
  | 5, _ => rfl
  | 6, _ => rfl
  | 7, _ => rfl
  | 8, _ => rfl
theorem image_any {g : Nat} {nb ob : Option Nat} {d : DkS} {w : World} (h : Dk w g nb ob d) : Calls Tryz.prog 10 #[.pointer (some ⟨g, 0, none⟩)] w fun e w' => ∃ v b, e = .returned v ∧ Sl w' v d.now b ∧ (∀ k, b = some k → w.heap.size ≤ k) ∧ Below w.heap.size w w' := by
  obtain ⟨A, c, h2, hc1, hc2, hr, hb⟩ := h.nowC
  have hl : d.now.length ≤ 140737488355328 := by have := h.wf.now; have := h.wf.most; omega
  have H := Lib.hid h
  have HR := Lib.hid hr
  clear h hr hb
  go_enter Tryz.func10, Tryz.ntmps10
  go_wp2_with fail
  refine (none_any H.out).mono ?_
  rintro e w' ⟨rfl, rfl⟩
  go_wp2_with fail
  refine (clone_any A _ c d.now _ rfl HR.out hl).mono ?_
  rintro e w1 ⟨v, b, rfl, hs, hb, hbl⟩
  have HS := Lib.hid hs
  have HB := Lib.hid hb
  have HL := Lib.hid hbl
  clear hs hb hbl
  go_wp2_with fail
  go_ret
  exact ⟨v, b, rfl, HS.out, HB.out, HL.out⟩

theorem arm_no {g : Nat} {nb ob : Option Nat} {d : DkS} {w : World} (h : Dk w g nb ob d) (n : Int) (hn : n < 0) : Calls Tryz.prog 22 #[.pointer (some ⟨g, 0, none⟩), .int .i64 n] w fun e w' => e = .returned (.int .i64 2) ∧ w = w' := by
  have H := Lib.hid h
  clear h
  go_enter Tryz.func22, Tryz.ntmps22
  go_wp2_with fail
  refine (none_any H.out).mono ?_
  rintro e w' ⟨rfl, rfl⟩
  go_wp2_with fail
  go_ret
  exact ⟨rfl, rfl⟩
theorem arm_any {g : Nat} {nb ob : Option Nat} {d : DkS} {w : World} (h : Dk w g nb ob d) (n : Int) (hn : 0 ≤ n) (hn2 : n ≤ 9223372036854775807) : Calls Tryz.prog 22 #[.pointer (some ⟨g, 0, none⟩), .int .i64 n] w fun e w' =>
    e = .returned (.int .i64 0) ∧ Dk w' g nb ob { d with armed := n } ∧ w.grownBy w' (some g) := by
  have f6 := h.fz 6
  have h6 := h.c.2.2.2.2.1
  have H := Lib.hid h
  have k1 : ¬ n < 0 := by omega
  clear h
  go_enter Tryz.func22, Tryz.ntmps22
  go_wp2_with fail
  refine (none_any H.out).mono ?_
  rintro e w' ⟨rfl, rfl⟩
  go_wp2_with fail
  go_ret
  refine ⟨rfl, ?_, grown_set (grown_refl _ _) (.inl rfl) _⟩
  exact H.out.set 6 _ (by decide) ⟨rfl, rfl⟩ ⟨H.out.wf.most, H.out.wf.now, H.out.wf.old, H.out.wf.floor, by show -1 ≤ n; omega, hn2, H.out.wf.fails⟩ (fun nv ov i hi => dk_armed d n nv ov i hi)
/-- Fail's answers. -/
def failB (n e : Int) : Bool := decide (n < 1) || (e != 10 && e != 5)
theorem fail_no {g : Nat} {nb ob : Option Nat} {d : DkS} {w : World} (h : Dk w g nb ob d) (n er : Int) (hn : failB n er = true) : Calls Tryz.prog 21 #[.pointer (some ⟨g, 0, none⟩), .int .i64 n, .int .i64 er] w fun e w' => e = .returned (.int .i64 2) ∧ w = w' := by
  have H := Lib.hid h
  clear h
  by_cases k1 : n < 1
  · clear hn
    go_enter Tryz.func21, Tryz.ntmps21
    go_wp2_with fail
    refine (none_any H.out).mono ?_
    rintro e w' ⟨rfl, rfl⟩
    go_wp2_with fail
    go_ret
    exact ⟨rfl, rfl⟩
  · unfold failB at hn
    rw [decide_eq_false k1, Bool.false_or, Bool.and_eq_true] at hn
    obtain ⟨k2, k3⟩ := hn
    go_enter Tryz.func21, Tryz.ntmps21
    go_wp2_with fail
    refine (none_any H.out).mono ?_
    rintro e w' ⟨rfl, rfl⟩
    go_wp2_with fail
    go_ret
    exact ⟨rfl, rfl⟩
set_option maxHeartbeats 1000000 in
theorem fail_any {g : Nat} {nb ob : Option Nat} {d : DkS} {w : World} (h : Dk w g nb ob d) (n : Nat) (er : Int) (hn : failB n er = false) (hn2 : n ≤ 9223372036854775807) : Calls Tryz.prog 21 #[.pointer (some ⟨g, 0, none⟩), .int .i64 n, .int .i64 er] w fun e w' =>
    e = .returned (.int .i64 0) ∧ Dk w' g nb ob { d with fails := n, err := er } ∧ w.grownBy w' (some g) := by
  have f7 := h.fz 7
  have h7 := h.c.2.2.2.2.2.1
  have f8 := h.fz 8
  have h8 := h.c.2.2.2.2.2.2
  have H := Lib.hid h
  clear h
  unfold failB at hn
  rw [Bool.or_eq_false_iff, decide_eq_false_iff_not] at hn
  obtain ⟨k1, k2⟩ := hn
  have hfin : Dk ((w.setCell ⟨g, 7, none⟩ (.int .i64 n)).setCell ⟨g, 8, none⟩ (.int .i64 er)) g nb ob { d with fails := n, err := er } := by
    have h1 : Dk (w.setCell ⟨g, 7, none⟩ (.int .i64 n)) g nb ob { d with fails := n } := Dk.set H.out 7 _ (by decide) ⟨rfl, rfl⟩ ⟨H.out.wf.most, H.out.wf.now, H.out.wf.old, H.out.wf.floor, H.out.wf.armed0, H.out.wf.armed, hn2⟩ (fun nv ov i hi => dk_fails d n nv ov i hi)
    exact Dk.set h1 8 _ (by decide) ⟨rfl, rfl⟩ ⟨H.out.wf.most, H.out.wf.now, H.out.wf.old, H.out.wf.floor, H.out.wf.armed0, H.out.wf.armed, hn2⟩ (fun nv ov i hi => dk_err { d with fails := n } er nv ov i hi)
  have hgr : w.grownBy ((w.setCell ⟨g, 7, none⟩ (.int .i64 n)).setCell ⟨g, 8, none⟩ (.int .i64 er)) (some g) :=
    grown_set (p := ⟨g, 8, none⟩) (grown_set (p := ⟨g, 7, none⟩) (grown_refl _ _) (.inl rfl) _) (.inl rfl) _
  have HF := Lib.hid hfin
  have HG := Lib.hid hgr
  clear hfin hgr
  by_cases k3 : er = 10
  all_goals
    first
      | (have k4 : (er != 10) = false := by rw [k3]; rfl
         clear k2)
      | (have k4 : (er != 10) = true := by rw [bne_iff_ne]; exact k3
         rw [k4, Bool.true_and] at k2)
    clear k3
    go_enter Tryz.func21, Tryz.ntmps21
    go_wp2_with fail
    refine (none_any H.out).mono ?_
    rintro e w' ⟨rfl, rfl⟩
    go_wp2_with fail
    go_ret
    exact ⟨rfl, HF.out, HG.out⟩
end Go.Proofs.YtlhbijpmhokmnaaGreat
namespace Go.Proofs.YtlhbijpmhokmnaaGreat
open Go.RowKit
set_option linter.unusedSimpArgs false
set_option linter.unusedVariables false

/-- An error's number is handed back. -/
def Ret (R : Int → World → Prop) (e : Ending) (w' : World) : Prop := ∃ r : Int, e = .returned (.int .i64 r) ∧ R r w'
/-- What may follow. -/
structure Ahead (f : FuncId) (cap : Array Value) (g : Nat) (nb ob : Option Nat) (d : DkS) (w : World) (R : Int → World → Prop) : Prop where
  go : ∀ w2, d.pre.1 = none → Dk w2 g nb ob d.pre.2 → w.grownBy w2 (some g) → w2.heap.size = w.heap.size → Calls Tryz.prog f cap w2 (Ret R)
  no : ∀ w2 er, d.pre.1 = some er → Dk w2 g nb ob d.pre.2 → w.grownBy w2 (some g) → w2.heap.size = w.heap.size → R er w2
set_option maxRecDepth 100000 in
set_option maxHeartbeats 4000000 in
theorem op_any (f : FuncId) (cap : Array Value) {g : Nat} {nb ob : Option Nat} {d : DkS} {w : World} {R : Int → World → Prop} (h : Dk w g nb ob d) (hcf : ∀ W : World, (callFunc f cap).run Tryz.prog W = .ok (.enter f cap) W) (hq : Ahead f cap g nb ob d w R) :
    Calls Tryz.prog 62 #[.pointer (some ⟨g, 0, none⟩), .func (.func f) #[] cap] w (Ret R) := by
  have hwf := h.wf.pre
  obtain ⟨h0, h1, h4, h5, h6, h7, h8⟩ := h.c
  have f5 := h.fz 5
  have f6 := h.fz 6
  have f7 := h.fz 7
  have a0 := h.wf.armed0
  have a1 := h.wf.armed
  have a2 := h.wf.fails
  have HQ := Lib.hid hq
  have HW := Lib.hid hwf
  have H := Lib.hid h
  clear h0 h1 h4 hq hwf h
  by_cases hd : d.down = true
  · have hp : d.pre = (some 11, d) := by unfold DkS.pre; rw [if_pos hd]
    rw [hd] at h5
    have HP := Lib.hid hp
    clear hp hd
    go_enter Tryz.func62, Tryz.ntmps62
    go_wp2_with fail
    go_ret
    exact ⟨11, rfl, HQ.out.no w 11 (by rw [HP.out]) (by rw [HP.out]; exact H.out) (grown_refl _ _) rfl⟩
  · rw [Bool.not_eq_true] at hd
    have hd2 := hd
    rw [hd] at h5
    have HD := Lib.hid hd2
    clear hd hd2
    by_cases ha : d.armed = 0
    · have hp : d.pre = (some 11, { d with down := true }) := by unfold DkS.pre; rw [if_neg (by rw [HD.out]; simp), if_pos ha]
      have k1 : (d.armed == 0) = true := by rw [ha]; rfl
      have HP := Lib.hid hp
      clear hp ha
      go_enter Tryz.func62, Tryz.ntmps62
      go_wp2_with fail
      go_ret
      refine ⟨11, rfl, HQ.out.no _ 11 (by rw [HP.out]) ?_ (grown_set (p := ⟨g, 5, none⟩) (grown_refl _ _) (.inl rfl) _) (by simp [World.setCell])⟩
      have := HW.out
      rw [HP.out] at this ⊢
      exact Dk.set H.out 5 _ (by decide) ⟨rfl, rfl⟩ this (fun nv ov i hi => dk_down d true nv ov i hi)
    · have k1 : (d.armed == 0) = false := by rw [beq_eq_false_iff_ne]; exact ha
      have hgen : ∀ (am : Int) (W : World), (am = if 0 < d.armed then d.armed - 1 else d.armed) → Dk W g nb ob { d with armed := am } → w.grownBy W (some g) → W.heap.size = w.heap.size →
          (d.fails = 0 → d.pre = (none, { d with armed := am }) ∧ (Dk W g nb ob { d with armed := am } ∧ w.grownBy W (some g) ∧ W.heap.size = w.heap.size)) ∧
          (d.fails = 1 → d.pre = (some d.err, { d with armed := am, fails := 0 }) ∧ (Dk (W.setCell ⟨g, 7, none⟩ (.int .i64 0)) g nb ob { d with armed := am, fails := 0 } ∧ w.grownBy (W.setCell ⟨g, 7, none⟩ (.int .i64 0)) (some g) ∧ (W.setCell ⟨g, 7, none⟩ (.int .i64 0)).heap.size = w.heap.size)) ∧
          (1 < d.fails → d.pre = (none, { d with armed := am, fails := d.fails - 1 }) ∧ (Dk (W.setCell ⟨g, 7, none⟩ (.int .i64 ((d.fails : Int) - 1))) g nb ob { d with armed := am, fails := d.fails - 1 } ∧ w.grownBy (W.setCell ⟨g, 7, none⟩ (.int .i64 ((d.fails : Int) - 1))) (some g) ∧ (W.setCell ⟨g, 7, none⟩ (.int .i64 ((d.fails : Int) - 1))).heap.size = w.heap.size)) := by
        intro am W ham hD hg hs
        subst ham
        have hpre : d.pre = if d.fails = 0 then (none, { d with armed := if 0 < d.armed then d.armed - 1 else d.armed }) else if d.fails = 1 then (some d.err, { d with armed := if 0 < d.armed then d.armed - 1 else d.armed, fails := 0 }) else (none, { d with armed := if 0 < d.armed then d.armed - 1 else d.armed, fails := d.fails - 1 }) := by
          unfold DkS.pre
          rw [if_neg (by rw [HD.out]; simp), if_neg ha]
        have hw := HW.out
        refine ⟨fun h0 => ⟨by rw [hpre, if_pos h0], hD, hg, hs⟩, fun h1 => ?_, fun h2 => ?_⟩
        · have e : d.pre = (some d.err, { d with armed := if 0 < d.armed then d.armed - 1 else d.armed, fails := 0 }) := by rw [hpre, if_neg (by omega), if_pos h1]
          rw [e] at hw
          exact ⟨e, Dk.set hD 7 _ (by decide) ⟨rfl, rfl⟩ hw (fun nv ov i hi => dk_fails { d with armed := if 0 < d.armed then d.armed - 1 else d.armed } 0 nv ov i hi), grown_set (p := ⟨g, 7, none⟩) hg (.inl rfl) _, by simpa [World.setCell] using hs⟩
        · have e : d.pre = (none, { d with armed := if 0 < d.armed then d.armed - 1 else d.armed, fails := d.fails - 1 }) := by rw [hpre, if_neg (by omega), if_neg (by omega)]
          rw [e] at hw
          have ec : ((d.fails : Int) - 1) = ((d.fails - 1 : Nat) : Int) := by omega
          rw [ec]
          exact ⟨e, Dk.set hD 7 _ (by decide) ⟨rfl, rfl⟩ hw (fun nv ov i hi => dk_fails { d with armed := if 0 < d.armed then d.armed - 1 else d.armed } (d.fails - 1) nv ov i hi), grown_set (p := ⟨g, 7, none⟩) hg (.inl rfl) _, by simpa [World.setCell] using hs⟩
      have HG := Lib.hid hgen
      have k6 : IntKind.i64.wrap ((d.fails : Int) - 1) = d.fails - 1 := by simp [IntKind.wrap, IntKind.signed, IntKind.bits]; omega
      have k8 : IntKind.i64.wrap (d.armed - 1) = d.armed - 1 := by simp [IntKind.wrap, IntKind.signed, IntKind.bits]; omega
      clear hgen ha
      by_cases hA : 0 < d.armed
      all_goals
        first
          | (have hx := HG.out (d.armed - 1) (w.setCell ⟨g, 6, none⟩ (.int .i64 (d.armed - 1))) (by rw [if_pos hA])
               (Dk.set H.out 6 _ (by decide) ⟨rfl, rfl⟩ ⟨H.out.wf.most, H.out.wf.now, H.out.wf.old, H.out.wf.floor, by show -1 ≤ d.armed - 1; omega, by show d.armed - 1 ≤ _; omega, H.out.wf.fails⟩ (fun nv ov i hi => dk_armed d (d.armed - 1) nv ov i hi))
               (grown_set (p := ⟨g, 6, none⟩) (grown_refl _ _) (.inl rfl) _) (by simp [World.setCell]))
          | (have hx := HG.out d.armed w (by rw [if_neg hA]) H.out (grown_refl _ _) rfl)
        have HX := Lib.hid hx
        clear hx
        have hcase : d.fails = 0 ∨ d.fails = 1 ∨ 1 < d.fails := by omega
        rcases hcase with hf | hf | hf
        · obtain ⟨hp, hdk⟩ := HX.out.1 hf
          have k2 : ¬ (0 : Int) < d.fails := by omega
          have HP := Lib.hid hp
          have HK := Lib.hid hdk
          clear hp hdk hf
          go_enter Tryz.func62, Tryz.ntmps62
          go_wp2_with fail
          refine (HQ.out.go _ (by rw [HP.out]) (by rw [HP.out]; exact HK.out.1) HK.out.2.1 (by first | exact HK.out.2.2 | rfl)).mono ?_
          rintro e w' ⟨r, rfl, hr⟩
          go_wp2_with fail
          go_ret
          exact ⟨r, rfl, hr⟩
        · obtain ⟨hp, hdk⟩ := HX.out.2.1 hf
          have k2 : (0 : Int) < d.fails := by omega
          have k3 : ((d.fails : Int) - 1 == 0) = true := by rw [beq_iff_eq]; omega
          have k4 : (d.fails : Int) - 1 = 0 := by omega
          have HP := Lib.hid hp
          have HK := Lib.hid hdk
          have K4 := Lib.hid k4
          clear hp hdk hf k4
          go_enter Tryz.func62, Tryz.ntmps62
          go_wp2_with fail
          rw [K4.out]
          go_ret
          exact ⟨d.err, rfl, HQ.out.no _ d.err (by rw [HP.out]) (by rw [HP.out]; exact HK.out.1) HK.out.2.1 HK.out.2.2⟩
        · obtain ⟨hp, hdk⟩ := HX.out.2.2 hf
          have k2 : (0 : Int) < d.fails := by omega
          have k3 : ((d.fails : Int) - 1 == 0) = false := by rw [beq_eq_false_iff_ne]; omega
          have HP := Lib.hid hp
          have HK := Lib.hid hdk
          clear hp hdk
          go_enter Tryz.func62, Tryz.ntmps62
          go_wp2_with fail
          refine (HQ.out.go _ (by rw [HP.out]) (by rw [HP.out]; exact HK.out.1) HK.out.2.1 (by first | exact HK.out.2.2 | rfl)).mono ?_
          rintro e w' ⟨r, rfl, hr⟩
          go_wp2_with fail
          go_ret
          exact ⟨r, rfl, hr⟩
end Go.Proofs.YtlhbijpmhokmnaaGreat
