/-
  THE WALK OF quillpresslow.Made. Conditions: at most 5000 bytes.
  LISTS OF 32-BIT NUMBERS IN MEMORY: as those of bytes (names in W32). Conditions: each law's own premises.
-/
import Derived.Test.YtlhbijpmhokmnaaGreatQ36
import Derived.Test.YtlhbijpmhokmnaaGreatQ01
namespace Go.Proofs.YtlhbijpmhokmnaaGreat
open Go.RowKit
set_option linter.unusedSimpArgs false
set_option linter.unusedVariables false

def mkX (z : Int) : Int := IntKind.u64.wrap (IntKind.u64.wrap (z * 2862933555777941757) + 3037000493)
theorem mkX_b (z : Int) : 0 ≤ mkX z ∧ mkX z < 18446744073709551616 := by unfold mkX; rw [IntKind.wrap_u64]; omega
theorem mkx_any (z : Int) (w : World) : Calls Tryz.prog 56 #[.int .u64 z] w fun e w' => e = .returned (.int .u64 (mkX z)) ∧ w = w' := by
  go_enter Tryz.func56, Tryz.ntmps56
  go_wp2
  go_ret
  exact ⟨rfl, rfl⟩
theorem firstx_any (z : Int) (w : World) : Calls Tryz.prog 55 #[.int .i64 z] w fun e w' => e = .returned (.int .u64 (mkX (IntKind.u64.wrap z))) ∧ w = w' := by
  go_enter Tryz.func55, Tryz.ntmps55
  go_wp2_with fail
  refine (mkx_any _ w).mono ?_
  rintro e w' ⟨rfl, rfl⟩
  go_wp2_with fail
  go_ret
  exact ⟨rfl, rfl⟩
def tkX (z : Int) : Nat := (z / 1099511627776 % 256).toNat
theorem tkX_lt (z : Int) : tkX z < 256 := by unfold tkX; omega
theorem takenx_any (z : Int) (w : World) : Calls Tryz.prog 57 #[.int .u64 z] w fun e w' => e = .returned (.int .u8 (tkX z)) ∧ w = w' := by
  go_enter Tryz.func57, Tryz.ntmps57
  go_wp2
  go_ret
  refine ⟨congrArg (fun y => Ending.returned (Value.int .u8 y)) ?_, rfl⟩
  show z / 1099511627776 % 256 = ((z / 1099511627776 % 256).toNat : Int)
  omega
theorem and7_zero : bits .and .i64 (0 : Int) 7 = 0 := by decide
set_option maxRecDepth 100000 in
set_option maxHeartbeats 2000000 in
theorem madeS_aux (s n : Nat) (hn : n ≤ 5000) (w : World) (y0 : Int) (hy0 : y0 = mkX (IntKind.u64.wrap s)) (f0 : Nat) (hf0 : f0 = tkX (mkX y0)) : Calls Tryz.prog 25 #[.int .i64 s, .int .i64 n] w fun e w' => ∃ v l, e = .returned v ∧ l.length = n ∧ (0 < n → nth l 0 = f0) ∧ Ow w' w.heap.size v l ∧ Below w.heap.size w w' := by
  go_enter Tryz.func25, Tryz.ntmps25
  go_wp2_with fail
  refine (firstx_any s w).mono ?_
  rintro e w' ⟨rfl, rfl⟩
  rw [← hy0]
  have HF0 := Lib.hid hf0
  clear hy0 hf0
  go_wp2_with fail
  go_loopw [5, 6, 11] (fun v5 v6 v11 wr => ∃ (k : Nat) (z : Int) (l : List Nat), k ≤ n ∧ (k = 0 → z = y0) ∧ v5 = .int .u64 z ∧ v11 = .int .i64 k ∧ l.length = k ∧ (0 < k → nth l 0 = f0) ∧ Ow wr w.heap.size v6 l ∧ Below w.heap.size w wr) (fun _ _ v _ => n - (intOf v).toNat)
  case atStart => exact ⟨0, _, [], by omega, fun _ => rfl, rfl, rfl, rfl, fun h => absurd h (Nat.lt_irrefl 0), Ow.nil _ _, Below.refl _ _⟩
  case round =>
    obtain ⟨k, z, l, hk, hz, rfl, rfl, hl, hl0, ho, hb⟩ := hrel
    have HO := Lib.hid ho
    have HB := Lib.hid hb
    have HL := Lib.hid hl
    have HZ := Lib.hid hz
    have HL0 := Lib.hid hl0
    clear ho hb hl hz hl0
    by_cases kn : k < n
    · have kn' : (k : Int) < n := by omega
      obtain ⟨q, hq⟩ : ∃ q, bits .and .i64 (k : Int) 7 = q := ⟨_, rfl⟩
      by_cases q0 : q = 0
      · have q1 : (q == 0) = true := by rw [beq_iff_eq]; exact q0
        clear q0
        go_wp2_with fail
        refine (mkx_any z wr).mono ?_
        rintro e w' ⟨rfl, rfl⟩
        obtain ⟨z1, hz1⟩ : ∃ z1, z1 = mkX z := ⟨_, rfl⟩
        rw [← hz1]
        have HZ1 := Lib.hid hz1
        clear hz1
        go_wp2_with fail
        refine (takenx_any z1 wr).mono ?_
        rintro e w' ⟨rfl, rfl⟩
        have hz0 : nth (l ++ [tkX z1]) 0 = f0 := by
          rcases Nat.eq_zero_or_pos k with h | h
          · have e := List.eq_nil_of_length_eq_zero (HL.out.trans h)
            rw [e, HZ1.out, HZ.out h, HF0.out]; rfl
          · rw [← HL0.out h]; exact nth_app_left _ _ _ (by rw [HL.out]; exact h)
        have HZ0 := Lib.hid hz0
        clear hz0
        go_wp2_with (at_builtin; refine append_new (.tmp 19) (.tmp 22) rfl rfl _ _ _ _ rfl rfl HO.out rfl (tkX_lt _) (by rw [HL.out]; omega) HB.out.size ?_; intro v1 w1 ho1 hg1 ha1; have HO1 := Lib.hid ho1; have HG1 := Lib.hid hg1; clear ho1 hg1 ha1)
        go_roundw
        case rel =>
          have hb1 : Below w.heap.size w w1 := HB.out.grown HG1.out HB.out.size (fun x e => (HO.out.lt x e).1)
          have hl1 : (l ++ [tkX z1]).length = k + 1 := by rw [List.length_append, HL.out]; rfl
          have h0 : 0 < k + 1 → nth (l ++ [tkX z1]) 0 = f0 := fun _ => HZ0.out
          have h1 : k + 1 = 0 → z1 = y0 := fun e => by omega
          first
          | exact ⟨k + 1, z1, l ++ [tkX z1], by omega, h1, rfl, by go_num, hl1, h0, HO1.out, hb1⟩
          | (repeat apply Exists.intro); refine ⟨⟨k + 1, z1, l ++ [tkX z1], by omega, h1, rfl, by go_num, hl1, h0, HO1.out, hb1⟩, rfl⟩
        case measure => simp [intOf]; omega
      · have q1 : (q == 0) = false := by rw [beq_eq_false_iff_ne]; exact q0
        have hk0 : 0 < k := by
          rcases Nat.eq_zero_or_pos k with h | h
          · subst h; exact absurd (hq.symm.trans and7_zero) q0
          · exact h
        clear q0
        go_wp2_with fail
        refine (takenx_any z wr).mono ?_
        rintro e w' ⟨rfl, rfl⟩
        go_wp2_with (at_builtin; refine append_new (.tmp 19) (.tmp 22) rfl rfl _ _ _ _ rfl rfl HO.out rfl (tkX_lt _) (by rw [HL.out]; omega) HB.out.size ?_; intro v1 w1 ho1 hg1 ha1; have HO1 := Lib.hid ho1; have HG1 := Lib.hid hg1; clear ho1 hg1 ha1)
        go_roundw
        case rel =>
          have hb1 : Below w.heap.size w w1 := HB.out.grown HG1.out HB.out.size (fun x e => (HO.out.lt x e).1)
          have hl1 : (l ++ [tkX z]).length = k + 1 := by rw [List.length_append, HL.out]; rfl
          have h0 : 0 < k + 1 → nth (l ++ [tkX z]) 0 = f0 := fun _ => (by rw [← HL0.out hk0]; exact nth_app_left _ _ _ (by rw [HL.out]; exact hk0))
          have h1 : k + 1 = 0 → z = y0 := fun e => by omega
          first
          | exact ⟨k + 1, z, l ++ [tkX z], by omega, h1, rfl, by go_num, hl1, h0, HO1.out, hb1⟩
          | (repeat apply Exists.intro); refine ⟨⟨k + 1, z, l ++ [tkX z], by omega, h1, rfl, by go_num, hl1, h0, HO1.out, hb1⟩, rfl⟩
        case measure => simp [intOf]; omega
    · obtain rfl : k = n := by omega
      have kn' : ¬ (k : Int) < k := by omega
      go_wp2_with fail
      go_ret
      first | exact ⟨_, l, rfl, HL.out, HL0.out, HO.out, HB.out⟩ | exact ⟨_, rfl, l, HL.out, HL0.out, HO.out, HB.out⟩
theorem madeS_any (s n : Nat) (hn : n ≤ 5000) (w : World) : Calls Tryz.prog 25 #[.int .i64 s, .int .i64 n] w fun e w' => ∃ v l, e = .returned v ∧ l.length = n ∧ (0 < n → nth l 0 = tkX (mkX (mkX (IntKind.u64.wrap s)))) ∧ Ow w' w.heap.size v l ∧ Below w.heap.size w w' :=
  madeS_aux s n hn w _ rfl _ rfl
theorem made4_first : tkX (mkX (mkX (IntKind.u64.wrap (4 : Nat)))) = 58 := by decide
end Go.Proofs.YtlhbijpmhokmnaaGreat
namespace Go.Proofs.YtlhbijpmhokmnaaGreat.W32
open Go.RowKit
set_option linter.unusedSimpArgs false
set_option linter.unusedVariables false

def bv (n : Nat) : Value := .int .u32 n
def bs (l : List Nat) : List Value := l.map bv
theorem bs_length (l : List Nat) : (bs l).length = l.length := by simp [bs]
theorem bs_append (l m : List Nat) : bs (l ++ m) = bs l ++ bs m := by simp [bs]
theorem bs_oneCell (l : List Nat) : ∀ u ∈ bs l, u.oneCell' = true := by
  intro u hu
  simp only [bs, List.mem_map] at hu
  obtain ⟨n, _, rfl⟩ := hu
  rfl
theorem bs_get {l : List Nat} {i : Nat} (hi : i < l.length) : (bs l)[i]? = some (bv l[i]) := by simp [bs, hi]
theorem nth_lt {l : List Nat} (h : ∀ x ∈ l, x < 4294967296) (i : Nat) : nth l i < 4294967296 := by
  unfold nth
  rcases Nat.lt_or_ge i l.length with hi | hi
  · rw [List.getD_eq_getElem?_getD, List.getElem?_eq_getElem hi]
    exact h _ (List.getElem_mem hi)
  · rw [List.getD_eq_getElem?_getD, List.getElem?_eq_none hi]
    simp

/-- A slice at A of as many bytes as l has reads as l. -/
def Rd (w : World) (A : Option Addr) (l : List Nat) : Prop :=
  (∀ x ∈ l, x < 4294967296) ∧ (l ≠ [] → ∃ g o, A = some ⟨g, o, none⟩ ∧ g < w.heap.size ∧ ∀ i, i < l.length → w.cell? ⟨g, o + i, none⟩ = some (.int .u32 (nth l i : Nat)))
section
variable {w w' : World} {A : Option Addr} {l : List Nat} {B : Nat}
theorem Rd.nil : Rd w A [] := ⟨by simp, fun h => absurd rfl h⟩
theorem Rd.keep (h : Rd w A l) (hs : w.heap.size ≤ w'.heap.size) (hk : ∀ p : Addr, p.block < w.heap.size → (∃ a, A = some a ∧ a.block = p.block) → w'.cell? p = w.cell? p) : Rd w' A l :=
  ⟨h.1, fun hn => by
    obtain ⟨g, o, rfl, hg, hc⟩ := h.2 hn
    exact ⟨g, o, rfl, by omega, fun i hi => (hk ⟨g, o + i, none⟩ hg ⟨_, rfl, rfl⟩).trans (hc i hi)⟩⟩
theorem Rd.below (h : Rd w A l) (hb : Below w.heap.size w w') : Rd w' A l := h.keep hb.size fun _ hp _ => hb.cell hp
theorem Rd.drew (h : Rd w A l) : Rd w.drew A l := h
theorem Rd.drewN (h : Rd w A l) (n : Nat) : Rd (w.drewN n) A l := h
theorem Rd.alloc (h : Rd w A l) (o : Obj) : Rd (w.alloc o) A l := h.below ((Below.refl _ _).alloc (Nat.le_refl _) o)
theorem Rd.grown {row : Option Nat} (h : Rd w A l) (hg : w.grownBy w' row) (hne : ∀ a, A = some a → some a.block ≠ row) : Rd w' A l :=
  h.keep hg.size fun p hp ⟨a, ha, e⟩ => World.cell?_of_block (hg.block p.block hp (by rw [← e]; exact hne a ha))
/-- A part of what is read. -/
theorem Rd.part {g o : Nat} (h : Rd w (some ⟨g, o, none⟩) l) (k : Nat) (n : Nat) : Rd w (some ⟨g, o + k, none⟩) ((l.drop k).take n) := by
  refine ⟨fun x hx => h.1 x (List.mem_of_mem_drop (List.mem_of_mem_take hx)), fun hn => ?_⟩
  have hl : l ≠ [] := by rintro rfl; simp at hn
  obtain ⟨g', o', e, hg, hc⟩ := h.2 hl
  injection e with e
  injection e with e1 e2
  subst e1; subst e2
  refine ⟨g, o + k, rfl, hg, fun i hi => ?_⟩
  simp only [List.length_take, List.length_drop] at hi
  rw [Nat.add_assoc, hc (k + i) (by omega)]
  simp [nth, List.getElem?_take, List.getElem?_drop, show i < n by omega]
end

/-- A slice of the call's own, of the bytes l. -/
def Ow (w : World) (base : Nat) (v : Value) (l : List Nat) : Prop := (∀ x ∈ l, x < 4294967296) ∧ w.ownsRow base 92 1 v l.length (bs l)
section
variable {w w' : World} {base : Nat} {v : Value} {l : List Nat}
theorem Ow.nil (w : World) (base : Nat) : Ow w base (.slice none 0 0) [] := ⟨by simp, World.ownsRow_nil _ _ _ _⟩
theorem Ow.form (h : Ow w base v l) : ∃ A c, v = .slice A l.length c ∧ l.length ≤ c ∧ (∀ a, A = some a → base ≤ a.block ∧ a.block < w.heap.size ∧ v.ownBlock = some a.block) ∧ Rd w A l := by
  obtain ⟨hb, hlen, h | ⟨g, cap, cur, rfl, hg, hh, hn, hm, hs, ht⟩⟩ := h
  · obtain ⟨rfl, hn⟩ := h
    have : l = [] := List.eq_nil_of_length_eq_zero hn
    subst this
    exact ⟨none, 0, rfl, Nat.le_refl _, (fun _ e => by cases e), Rd.nil⟩
  · have hlt : g < w.heap.size := by
      rcases Nat.lt_or_ge g w.heap.size with h | h
      · exact h
      · rw [Array.getElem?_eq_none h] at hh; cases hh
    refine ⟨some ⟨g, 0, none⟩, cap, rfl, hn, ?_, hb, fun _ => ⟨g, 0, rfl, hlt, fun i hi => ?_⟩⟩
    · rintro a e
      injection e with e
      subst e
      exact ⟨hg, hlt, rfl⟩
    · rw [Nat.zero_add, cell_of_row w g i cur _ _ hh]
      have h1 := bs_get hi
      rw [← ht, Nat.mul_one, List.getElem?_take, if_pos hi, Array.getElem?_toList] at h1
      rw [h1, nth_get hi]
      rfl
theorem Ow.form0 (h : Ow w base v l) (hl : l ≠ []) : ∃ g c, v = .slice (some ⟨g, 0, none⟩) l.length c ∧ l.length ≤ c ∧ base ≤ g ∧ g < w.heap.size ∧
    (∀ i, i < l.length → w.cell? ⟨g, i, none⟩ = some (.int .u32 (nth l i : Nat))) ∧ ∀ i, w.frozen? ⟨g, i, none⟩ = false := by
  obtain ⟨A, c, rfl, hc, hA, hr⟩ := h.form
  obtain ⟨g, o, rfl, hg, hcell⟩ := hr.2 hl
  have hl0 : 0 < l.length := List.length_pos_iff.2 hl
  obtain ⟨hb, hlen, h' | ⟨g', cap, cur, e, hg', hh, hn, hm, hs, ht⟩⟩ := h
  · omega
  · injection e with e e2 e3
    injection e with e
    injection e with e1 e4
    subst e1; subst e4
    exact ⟨_, c, rfl, hc, hg', hg, fun i hi => by have := hcell i hi; rwa [Nat.zero_add] at this, fun i => by simp [World.frozen?, hh]⟩
theorem Ow.kept {row : Option Nat} (h : Ow w base v l) (hg : w.grownBy w' row) (hne : v.ownBlock = none ∨ v.ownBlock ≠ row) : Ow w' base v l := ⟨h.1, h.2.kept hg hne⟩
theorem Ow.alloc (h : Ow w base v l) (o : Obj) : Ow (w.alloc o) base v l := ⟨h.1, h.2.alloc o⟩
theorem Ow.drew (h : Ow w base v l) : Ow w.drew base v l := h
theorem Ow.drewN (h : Ow w base v l) (n : Nat) : Ow (w.drewN n) base v l := h
theorem Ow.mono {base' : Nat} (h : Ow w base v l) (hb : base' ≤ base) : Ow w base' v l := ⟨h.1, h.2.1, h.2.2.imp id (fun ⟨g, cap, cur, e, hg, r⟩ => ⟨g, cap, cur, e, by omega, r⟩)⟩
theorem Ow.lt (h : Ow w base v l) : ∀ k, v.ownBlock = some k → base ≤ k ∧ k < w.heap.size := h.2.lt
theorem Ow.below (h : Ow w base v l) (hb : Below w.heap.size w w') : Ow w' base v l :=
  h.kept (row := none) ⟨hb.os, hb.tape, hb.output, hb.size, fun k hk _ => hb.block k hk⟩ (by
    cases hv : v.ownBlock with
    | none => exact .inl rfl
    | some k => exact .inr (by simp))
end

theorem info_u8 : (Tryz.prog.info? 92).map (fun i => (i.zero, i.size, i.bytes)) = some (some (.int .u32 0), 1, 4) := by kernel_rfl

section
variable {w : World} {ops : Array Oper} {rest : List Oper} {o : Oper} {a : Act} {Q : Exit → Act → World → Prop} {base : Nat} {v : Value} {l : List Nat}
set_option maxRecDepth 100000 in
/-- What an append of bytes leaves. -/
theorem run_append_bytes (ty : TypeId) (hown : Ow w base v l) (A : Option Addr) (c : Nat) (m : List Nat) (hr : Rd w A m)
    (hn : l.length + m.length ≤ 35184372088832) (hbase : base ≤ w.heap.size) :
    ∃ v' w', (Builtin.append_ #[120, 120] ty #[v, .slice A m.length c]).run Tryz.prog w = .ok v' w' ∧ Ow w' base v' (l ++ m) ∧ w.grownBy w' v.ownBlock ∧ (v'.ownBlock = v.ownBlock ∨ v'.ownBlock = some w.heap.size) := by
  obtain ⟨i, hi, hz, hs, hb⟩ := info_parts info_u8
  have hbytes : ∀ x ∈ l ++ m, x < 4294967296 := fun x hx => by
    rcases List.mem_append.1 hx with h | h
    · exact hown.1 x h
    · exact hr.1 x h
  rcases A with _ | ad
  · have hm : m = [] := by
      rcases List.eq_nil_or_concat m with h | ⟨m', x, h⟩
      · exact h
      · obtain ⟨g, o, e, _⟩ := hr.2 (by rw [h]; simp)
        cases e
    subst hm
    refine ⟨v, w, ?_, by simpa using hown, grown_refl w _, .inl rfl⟩
    rcases hown.2.2 with ⟨rfl, h0⟩ | ⟨g, cap, cur, rfl, _, _, hnc, _⟩
    · simp [Builtin.append_, run_underlying Tryz.underlying120, sizeOf, typeInfo, hi, Builtin.lenOf, Builtin.firstCells]
    · simp [Builtin.append_, run_underlying Tryz.underlying120, sizeOf, typeInfo, hi, Builtin.lenOf, Builtin.firstCells, hnc, storeCells]
  · have hcells : ∀ j u, (bs m)[j]? = some u → w.cell? (ad.add j) = some u := by
      intro j u hu
      have hj : j < m.length := by have := (List.getElem?_eq_some_iff.1 hu).1; simpa [bs_length] using this
      obtain ⟨g, o, e, _, hc⟩ := hr.2 (by rintro rfl; simp at hj)
      injection e with e
      subst e
      rw [add_none, hc j hj, nth_get hj]
      rw [bs_get hj] at hu
      exact hu
    obtain ⟨v', w', hrun, h2, h3, _, h5⟩ := run_append_own_at (P := Tryz.prog) w base 120 ty 92 i (.int .u32 0) 1 4 Tryz.underlying120 hi hz hs hb rfl (by omega) v l.length (bs l) hown.2 ad m.length c (bs m)
      (by rw [bs_length, Nat.mul_one]) hcells (bs_oneCell m) (by unfold maxLen; omega) (by omega) hbase
    refine ⟨v', w', hrun, ⟨hbytes, ?_⟩, h3, h5⟩
    rw [List.length_append, bs_append]
    exact h2

theorem wp_append_bytes {K : Act → World → Prop} (s x : Operand) (ho : o.op = .call { callee := .builtin .append, args := #[s, x], argTypes := #[120, 120] })
    (hs : a.eval s = v) (hown : Ow w base v l) (A : Option Addr) (n c : Nat) (m : List Nat) (hx : a.eval x = .slice A n c) (hnm : n = m.length) (hr : Rd w A m)
    (hn : l.length + m.length ≤ 35184372088832) (hbase : base ≤ w.heap.size)
    (h : ∀ v' w', Ow w' base v' (l ++ m) → w.grownBy w' v.ownBlock → (v'.ownBlock = v.ownBlock ∨ v'.ownBlock = some w.heap.size) → K (a.put o.dst v') w') : o.wp Tryz.prog a w K Q := by
  subst hnm
  obtain ⟨v', w', hrun, h2, h3, h4⟩ := run_append_bytes o.type hown A c m hr hn hbase
  unfold Oper.wp execOp
  simp only [ho, resolve, invoke, builtin, Sem.run_bind, Sem.run_pure, Result.andThen_ok, List.map_toArray, List.map_cons, List.map_nil, hs, hx, hrun]
  exact h v' w' h2 h3 h4
/-- 'out = append(out, src...)'. -/
theorem append_bytes (s x : Operand) (hgd : o.guard = none) (ho : o.op = .call { callee := .builtin .append, args := #[s, x], argTypes := #[120, 120] })
    (hs : a.eval s = v) (hown : Ow w base v l) (A : Option Addr) (n c : Nat) (m : List Nat) (hx : a.eval x = .slice A n c) (hnm : n = m.length) (hr : Rd w A m)
    (hn : l.length + m.length ≤ 35184372088832) (hbase : base ≤ w.heap.size)
    (h : ∀ v' w', Ow w' base v' (l ++ m) → w.grownBy w' v.ownBlock → (v'.ownBlock = v.ownBlock ∨ v'.ownBlock = some w.heap.size) → wpList Tryz.prog ops Q rest (a.put o.dst v') w') : wpList Tryz.prog ops Q (o :: rest) a w :=
  wpList_plain hgd fun _ hK => wp_append_bytes s x ho hs hown A n c m hx hnm hr hn hbase fun v' w' h2 h3 h4 => hK _ _ (h v' w' h2 h3 h4)
/-- 'out = append(out, b)': b lies in a block of its own. -/
theorem append_byte (s x : Operand) (hgd : o.guard = none) (ho : o.op = .call { callee := .builtin .append, args := #[s, x], argTypes := #[120, 120] })
    (hs : a.eval s = v) (hown : Ow w base v l) (g c b : Nat) (hx : a.eval x = .slice (some ⟨g, 0, none⟩) 1 c) (hc : w.cell? ⟨g, 0, none⟩ = some (.int .u32 b)) (hb : b < 4294967296)
    (hn : l.length + 1 ≤ 35184372088832) (hbase : base ≤ w.heap.size)
    (h : ∀ v' w', Ow w' base v' (l ++ [b]) → w.grownBy w' v.ownBlock → (v'.ownBlock = v.ownBlock ∨ v'.ownBlock = some w.heap.size) → wpList Tryz.prog ops Q rest (a.put o.dst v') w') : wpList Tryz.prog ops Q (o :: rest) a w := by
  refine append_bytes s x hgd ho hs hown (some ⟨g, 0, none⟩) 1 c [b] hx rfl ⟨by simpa using hb, fun _ => ⟨g, 0, rfl, block_lt_of_cell hc, fun i hi => ?_⟩⟩ (by simpa using hn) hbase h
  have : i = 0 := by simpa using hi
  subst this
  simpa [nth] using hc
end

theorem new_cell (w : World) (v : Value) (t : TypeId) : (w.alloc (.cells #[v] t)).cell? ⟨w.heap.size, 0, none⟩ = some v := by
  rw [cell_of_row _ _ _ _ _ _ (heap_alloc_new w _)]
  rfl
section
variable {W : World} {ops : Array Oper} {rest : List Oper} {o : Oper} {a : Act} {Q : Exit → Act → World → Prop} {base : Nat} {v : Value} {l : List Nat}
/-- 'out = append(out, b)' behind the block that was made for b. -/
theorem append_new (s x : Operand) (hgd : o.guard = none) (ho : o.op = .call { callee := .builtin .append, args := #[s, x], argTypes := #[120, 120] }) (t c : Nat) (z : Int) (b : Nat)
    (hs : a.eval s = v) (hx : a.eval x = .slice (some ⟨W.heap.size, 0, none⟩) 1 c) (hown : Ow W base v l) (hz : z = b) (hb : b < 4294967296)
    (hn : l.length + 1 ≤ 35184372088832) (hbase : base ≤ W.heap.size)
    (h : ∀ v' w', Ow w' base v' (l ++ [b]) → W.grownBy w' v.ownBlock → (v'.ownBlock = v.ownBlock ∨ W.heap.size < w'.heap.size ∧ v'.ownBlock = some (W.heap.size + 1)) → wpList Tryz.prog ops Q rest (a.put o.dst v') w') :
    wpList Tryz.prog ops Q (o :: rest) a (W.alloc (.cells #[.int .u32 z] t)) := by
  subst hz
  refine append_byte s x hgd ho hs (hown.alloc _) W.heap.size c b hx (new_cell _ _ _) hb hn (by rw [World.size_alloc]; omega) fun v' w' h1 h2 h3 => h v' w' h1 (nil_grown (World.grownBy_alloc _ _ _) h2) ?_
  rw [World.size_alloc] at h3
  rcases h3 with h3 | h3
  · exact .inl h3
  · refine .inr ⟨?_, h3⟩
    have := h2.size
    rw [World.size_alloc] at this
    omega
end

end Go.Proofs.YtlhbijpmhokmnaaGreat.W32
