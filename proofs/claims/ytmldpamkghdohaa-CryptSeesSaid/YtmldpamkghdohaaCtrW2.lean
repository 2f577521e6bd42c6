/-
  THE WALK OF ctr.Stream. Conditions: the pointer is nil or leads to a cipher, the nonce reads as a list.
-/
import Derived.Test.YtmldpamkghdohaaCtrW1
import Derived.Laws.MakeOwn
namespace Go.Proofs.Ytmldpamkghdohaa
open Go.RowKit
set_option linter.unusedSimpArgs false
set_option linter.unusedVariables false

theorem nth_app_r (l m : List Nat) (i : Nat) (h : l.length ≤ i) : nth (l ++ m) i = nth m (i - l.length) := by
  simp [nth, List.getElem?_append, Nat.not_lt.2 h]
theorem strm_more (kb : Nat → Nat) (nonce : List Nat) (a k m : Nat) (hm : m ≤ 16 - (a + k) % 16) :
    strm kb nonce a k ++ ((ctrB kb nonce ((a + k) / 16)).drop ((a + k) % 16)).take m = strm kb nonce a (k + m) := by
  refine eq_of_nth (by simp [strm, ctrB]; omega) fun i hi => ?_
  have hB := ctrB_length kb nonce ((a + k) / 16)
  have hx : (a + k) % 16 < 16 := Nat.mod_lt _ (by omega)
  have hi' : i < k + m := by
    rw [List.length_append, strm_length, List.length_take, List.length_drop, hB] at hi
    omega
  rw [nth_strm hi']
  by_cases h : i < k
  · rw [nth_app_l (by rw [strm_length]; exact h), nth_strm h]
  · rw [show (a + i) / 16 = (a + k) / 16 by omega, show (a + i) % 16 = (a + k) % 16 + (i - k) by omega]
    have h2 := nth_app_r (strm kb nonce a k) (((ctrB kb nonce ((a + k) / 16)).drop ((a + k) % 16)).take m) i (by rw [strm_length]; omega)
    rw [h2, strm_length, nth_part (by omega)]
theorem strm_lt {kb : Nat → Nat} {nonce : List Nat} (hkb : ∀ i, i < 240 → kb i < 256) (hn : ∀ x ∈ nonce, x < 256) (a n : Nat) : ∀ x ∈ strm kb nonce a n, x < 256 := by
  intro x hx
  obtain ⟨i, _, rfl⟩ := List.mem_map.1 hx
  refine nth_lt (fun x hx => ?_) _
  obtain ⟨j, hj, rfl⟩ := List.mem_map.1 hx
  refine encN_lt hkb (fun j _ => nth_lt (fun x hx => ?_) _) 14 (by omega) j (by simpa using hj)
  rcases List.mem_append.1 hx with h | h
  · exact hn x h
  · obtain ⟨t, _, rfl⟩ := List.mem_map.1 h
    exact Nat.mod_lt _ (by omega)
/-- make([]byte, 0, n). -/
def vlen : Value → Nat
  | .slice _ n _ => n
  | _ => 0
theorem Ow.vlen {w : World} {base : Nat} {v : Value} {l : List Nat} (h : Ow w base v l) : vlen v = l.length := by
  obtain ⟨A, c, rfl, _⟩ := h.form
  rfl
theorem run_mk0 (w : World) (n : Nat) (hn : n ≤ 4194304) : (Instr.makeSlice 26 (.int .i64 0) (.int .i64 n)).run Try.prog w = .ok (.slice (some ⟨w.heap.size, 0, none⟩) 0 n) (w.alloc (.cells (madeCells #[.int .u8 0] n) 5)) := by
  obtain ⟨i, hi, hz, hs, hb⟩ := info_parts info_u8
  have h := run_make (P := Try.prog) w 26 5 i (.int .u8 0) Try.underlying26 hi hz .i64 .i64 0 n (Int.le_refl _) (by omega) (by rw [hb]; omega) (by omega)
  rw [hs, Nat.mul_one] at h
  exact h
theorem ow_make (w : World) (base n : Nat) (hb : base ≤ w.heap.size) (hn : n ≤ 4194304) : Ow (w.alloc (.cells (madeCells #[.int .u8 0] n) 5)) base (.slice (some ⟨w.heap.size, 0, none⟩) 0 n) [] :=
  ⟨by simp, World.ownsRow_made w _ n hb (by unfold maxLen; omega) (by rw [size_madeCells, Nat.mul_one])⟩

section
variable {w : World} {ops : Array Oper} {rest : List Oper} {o : Oper} {a : Act} {Q : Exit → Act → World → Prop} {base : Nat} {v : Value} {l : List Nat}
/-- 'out = append(out, l[r:][:m]...)'. -/
theorem append_part (s x : Operand) (hgd : o.guard = none) (ho : o.op = .call { callee := .builtin .append, args := #[s, x], argTypes := #[26, 26] })
    (hs : a.eval s = v) (hown : Ow w base v l) (g r m c : Nat) (L : List Nat) (hx : a.eval x = .slice (some ⟨g, r, none⟩) m c) (hr : Rd w (some ⟨g, 0, none⟩) L) (hm : r + m ≤ L.length)
    (hn : l.length + m ≤ 140737488355328) (hbase : base ≤ w.heap.size)
    (h : ∀ v' w', Ow w' base v' (l ++ (L.drop r).take m) → w.grownBy w' v.ownBlock → wpList Try.prog ops Q rest (a.put o.dst v') w') : wpList Try.prog ops Q (o :: rest) a w := by
  have hl : ((L.drop r).take m).length = m := by simp; omega
  have hr2 := hr.part r m
  rw [Nat.zero_add] at hr2
  exact append_bytes s x hgd ho hs hown (some ⟨g, r, none⟩) m c _ hx hl.symm hr2 (by rw [hl]; exact hn) hbase fun v' w' h1 h2 _ => h v' w' h1 h2
end
set_option maxRecDepth 100000 in
set_option maxHeartbeats 4000000 in
theorem stream_any (g : Nat) (A : Option Addr) (c : Nat) (kb : Nat → Nat) (nonce : List Nat) (a n : Nat) (w : World) (ha : a ≤ 1099511627776) (hn : n ≤ 4194304) (hc : Cph w g kb) (hkb : ∀ i, i < 240 → kb i < 256)
    (hl : nonce.length = 8) (hr : Rd w A nonce) :
    Calls Try.prog 11 #[.pointer (some ⟨g, 0, none⟩), .slice A 8 c, .int .i64 a, .int .i64 n] w fun e w' => ∃ v, e = .returned (.tuple #[v, .int .i64 0]) ∧ Ow w' w.heap.size v (strm kb nonce a n) ∧ Below w.heap.size w w' := by
  have hml : maxLen = 9223372036854775807 := rfl
  have HC := Lib.hid hc
  have HR := Lib.hid hr
  have HCM := Lib.hid hc.mark
  have hgl := hc.lt
  clear hr hc
  go_enter Try.func11, Try.ntmps11
  go_wp2_with fail
  have HB0 := Lib.hid (((Below.refl w.heap.size w).alloc (Nat.le_refl _) (.cells #[.pointer (some ⟨g, 0, none⟩)] 22)).alloc (by rw [World.size_alloc]; omega) (.cells #[.slice A 8 c] 26))
  have hp1 : ((w.alloc (.cells #[.pointer (some ⟨g, 0, none⟩)] 22)).alloc (.cells #[.slice A 8 c] 26)).cell? ⟨w.heap.size, 0, none⟩ = some (.pointer (some ⟨g, 0, none⟩)) := by
    rw [World.cell?_alloc_past _ _ _ (by rw [World.size_alloc]; exact Nat.lt_succ_self _)]
    exact new_cell _ _ _
  have hp2 : ((w.alloc (.cells #[.pointer (some ⟨g, 0, none⟩)] 22)).alloc (.cells #[.slice A 8 c] 26)).cell? ⟨w.heap.size + 1, 0, none⟩ = some (.slice A 8 c) := by
    have h := new_cell (w.alloc (.cells #[.pointer (some ⟨g, 0, none⟩)] 22)) (.slice A 8 c) 26
    rwa [World.size_alloc] at h
  have hsz : ((w.alloc (.cells #[.pointer (some ⟨g, 0, none⟩)] 22)).alloc (.cells #[.slice A 8 c] 26)).heap.size = w.heap.size + 2 := by rw [World.size_alloc, World.size_alloc]
  generalize (w.alloc (.cells #[.pointer (some ⟨g, 0, none⟩)] 22)).alloc (.cells #[.slice A 8 c] 26) = W at *
  have HC0 := Lib.hid (HC.out.below HB0.out HC.out.lt)
  have HR0 := Lib.hid (HR.out.below HB0.out)
  have HP1 := Lib.hid hp1
  have HP2 := Lib.hid hp2
  have HSZ := Lib.hid hsz
  clear HR HC hsz
  refine (made_any g W true HC0.out.mark).mono ?_
  rintro e w' ⟨rfl, rfl⟩
  have q1 : ((a : Int) < 0) = False := by simp
  have q2 : ((1099511627776 : Int) < (a : Int)) = False := by rw [eq_iff_iff]; exact ⟨fun h => by omega, False.elim⟩
  have q3 : ((n : Int) < 0) = False := by simp
  have q4 : ((4194304 : Int) < (n : Int)) = False := by rw [eq_iff_iff]; exact ⟨fun h => by omega, False.elim⟩
  have hmk := fun W' => run_mk0 W' n hn
  go_wp2_with fail
  have ho0 := ow_make W w.heap.size n (by rw [HSZ.out]; omega) hn
  have hb0 := HB0.out.alloc (by rw [HSZ.out]; omega) (.cells (madeCells #[.int .u8 0] n) 5)
  have hp1 := (((Below.refl W.heap.size W).alloc (Nat.le_refl _) (.cells (madeCells #[.int .u8 0] n) 5)).cell (p := ⟨w.heap.size, 0, none⟩) (by show w.heap.size < _; rw [HSZ.out]; omega)).trans HP1.out
  have hp2 := (((Below.refl W.heap.size W).alloc (Nat.le_refl _) (.cells (madeCells #[.int .u8 0] n) 5)).cell (p := ⟨w.heap.size + 1, 0, none⟩) (by show w.heap.size + 1 < _; rw [HSZ.out]; omega)).trans HP2.out
  have hz : W.heap.size = w.heap.size + 2 := HSZ.out
  have ho1 := ow_make W W.heap.size n (Nat.le_refl _) hn
  have hb1 := (Below.refl W.heap.size W).alloc (Nat.le_refl _) (.cells (madeCells #[.int .u8 0] n) 5)
  have HO1 := Lib.hid ho1
  have HB1 := Lib.hid hb1
  clear ho0 hb0 hp1 hp2 ho1 hb1 hmk q1 q2 q3 q4 HSZ
  go_loopw [11] (fun v wr => ∃ k : Nat, k ≤ n ∧ Ow wr W.heap.size v (strm kb nonce a k) ∧ Below W.heap.size W wr) (fun v _ => n - vlen v)
  case atStart => exact ⟨0, by omega, HO1.out, HB1.out⟩
  case round =>
    clear HO1 HB1
    obtain ⟨k, hk, ho, hb⟩ := hrel
    obtain ⟨A1, c1, rfl, hc1, hA1, hr1⟩ := ho.form
    rw [strm_length] at *
    have HO := Lib.hid ho
    have HB := Lib.hid hb
    clear ho hb hr1
    by_cases e0 : k < n
    · have hp1 := (HB.out.cell (p := ⟨w.heap.size, 0, none⟩) (by show w.heap.size < _; omega)).trans HP1.out
      have hp2 := (HB.out.cell (p := ⟨w.heap.size + 1, 0, none⟩) (by show w.heap.size + 1 < _; omega)).trans HP2.out
      go_wp2_with fail
      have hz : ((a : Int) + k) / 16 = ((a + k) / 16 : Nat) := by push_cast; rfl
      rw [hz]
      refine (ctrblock_any g (w.heap.size + 1) w.heap.size c A kb nonce ((a + k) / 16) wr (by omega) (HC0.out.below HB.out (by have := HC0.out.lt; omega)) hkb hp2 hp1 hl (HR0.out.below HB.out)).mono ?_
      rintro e w2 ⟨g2, hg2, rfl, hr2, hb2⟩
      have HO2 := Lib.hid (HO.out.below hb2)
      have HB2 := Lib.hid (HB.out.trans (hb2.mono HB.out.size))
      have HR2 := Lib.hid hr2
      clear hb2 hr2 HO HB hp1 hp2 hz
      have m0 : (0 : Int) ≤ ((a : Int) + k) % 16 := by omega
      have m1 : ((a : Int) + k) % 16 ≤ 16 := by omega
      have m2 : (((a : Int) + k) % 16).toNat = (a + k) % 16 := by omega
      have m3 : (a + k) % 16 < 16 := Nat.mod_lt _ (by omega)
      go_wp2_with (at_builtin; refine append_part (.tmp 56) (.tmp 65) rfl rfl rfl HO2.out.drew g2 _ _ _ _ rfl HR2.out.drew (by rw [ctrB_length]; omega) (by rw [strm_length]; omega) HB2.out.size ?_; intro v3 w3 ho3 hg3; have hg3 : w2.grownBy w3 (Value.slice A1 k c1).ownBlock := hg3)
      all_goals
        rw [strm_more _ _ _ _ _ (by omega)] at ho3
        have hvl := ho3.vlen
        rw [strm_length] at hvl
        rw [← hz]
        refine ⟨⟨_, ?_, ho3, below_of_append HB2.out HO2.out hg3 HB2.out.size (Nat.le_refl _)⟩, ?_⟩
        · omega
        · show n - vlen v3 < n - k
          rw [hvl]
          omega
    · obtain rfl : k = n := by omega
      go_wp2_with fail
      go_ret2
      exact ⟨_, rfl, HO.out.mono (by omega), HB0.out.trans (HB.out.mono (by omega))⟩
end Go.Proofs.Ytmldpamkghdohaa
