/-
  THE WALK OF quillpresslaw05.AesBack: for any key and any two blocks the law returns true. Conditions: none.
-/
import Derived.Test.YtbnhjhdbjffnkaaAesA
import Derived.Test.YtbnhjhdbjffnkaaAesInv
import Derived.Test.YtbnhjhdbjffnkaaArr
namespace Go.Proofs.Ytbnhjhdbjffnkaa
open Go.RowKit
set_option linter.unusedSimpArgs false
set_option linter.unusedVariables false

/-- In a region that only reads: a whole array is loaded. -/
theorem quiet_load_row {o : Oper} {a : Act} {w : World} {K : Act → Prop} (ty : TypeId) (x : Operand) (ho : o.op = .load ty x) (g : Nat) (hx : a.eval x = .pointer (some ⟨g, 0, none⟩)) (t : TypeId) (cs : Array Value) (fr : Nat × Nat) (d : TypeDesc)
    (hg : w.heap[g]? = some (.cells cs t fr)) (hu : Try.prog.underlying ty = some d) (hd : d.isRow = true) (hi : (Try.prog.info? ty).map (·.size) = some cs.size)
    (h : K (a.put o.dst (.agg cs))) : o.quiet Try.prog a (fun w' => ∃ n, w' = w.drewN n) K := by
  refine ⟨.agg cs, ?_, h⟩
  rintro w' ⟨n, rfl⟩
  have hl := run_loadVar_row (P := Try.prog) (w.drewN n) g t ty cs fr d (show (w.drewN n).heap[g]? = _ from hg) hu (by cases d <;> first | rfl | cases hd) hi
  unfold Oper.quietAt
  simp only [execOp, ho, hx, Instr.loadAt, Instr.sureAddr, Sem.run_bind, Sem.run_pure, Result.andThen_ok, hl]
  exact ⟨rfl, rfl⟩

/-- In a region that only reads: '==' between two arrays. -/
theorem quiet_eql_row {o : Oper} {a : Act} {w : World} {K : Act → Prop} (ty : TypeId) (x y : Operand) (rt : TypeId) (ho : o.op = .binOp .eql ty x y rt) (xs ys : Array Value) (hx : a.eval x = .agg xs) (hy : a.eval y = .agg ys) (b : Bool) (hm : Try.prog.eqGuardType Try.prog.depth ty = false)
    (he : ∀ V, (Op.equalIn 10000 ty (.agg xs) (.agg ys)).run Try.prog V = .ok b V)
    (h : K (a.put o.dst (.bool b))) : o.quiet Try.prog a (fun w' => ∃ n, w' = w.drewN n) K := by
  refine ⟨.bool b, ?_, h⟩
  rintro w' ⟨n, rfl⟩
  unfold Oper.quietAt
  simp only [execOp, ho, hx, hy, Sem.run_bind, Sem.run_pure, run_eqGuard_agg _ _ _ _ _ _ _ hm, run_eql_struct, he, Result.andThen_ok]
  exact ⟨rfl, rfl⟩

theorem Rd_row {w : World} {g t n : Nat} {f : Nat → Nat} {cs : Array Value} (hg : w.heap[g]? = some (.cells cs t (0, 0))) (hn : cs.size = n) (hc : ∀ i, i < n → cs[i]? = some (.int .u8 (f i : Nat))) (hf : ∀ i, i < n → f i < 256) : Rd w (some ⟨g, 0, none⟩) ((List.range n).map f) :=
  row_rd (t := t) ⟨cs, hg, hn, hc⟩ hf
theorem sameB_range (f g : Nat → Nat) (n : Nat) : sameB ((List.range n).map f) ((List.range n).map g) = sameN f g n := by
  rw [Bool.eq_iff_iff, sameB_iff, sameN_iff]
  constructor
  · intro h i hi
    have := congrArg (fun l => l[i]?) h
    simpa [hi] using this
  · intro h
    apply List.map_congr_left
    intro i hi
    exact h i (by simpa using hi)

set_option maxRecDepth 100000 in
set_option maxHeartbeats 4000000 in
theorem back_walk (key a b : Nat → Nat) (ck ca cb : Array Value) (w : World) (nk : ck.size = 32) (na : ca.size = 16) (nb : cb.size = 16)
    (hk : ∀ i, i < 32 → ck[i]? = some (.int .u8 (key i : Nat))) (ha : ∀ i, i < 16 → ca[i]? = some (.int .u8 (a i : Nat))) (hb : ∀ i, i < 16 → cb[i]? = some (.int .u8 (b i : Nat)))
    (lk : ∀ i, i < 32 → key i < 256) (la : ∀ i, i < 16 → a i < 256) (lb : ∀ i, i < 16 → b i < 256) :
    Calls Try.prog 6 #[.agg ck, .agg ca, .agg cb] w fun e w' => e = .returned (.bool true) ∧ Below w.heap.size w w' := by
  have NK := Lib.hid nk
  have NA := Lib.hid na
  have NB := Lib.hid nb
  have HK := Lib.hid hk
  have HA := Lib.hid ha
  have HB := Lib.hid hb
  clear nk na nb hk ha hb
  go_enter Try.func6, Try.ntmps6
  go_wp2_with fail
  have hbel := ((((Below.refl w.heap.size w).alloc (Nat.le_refl _) (.cells ck 44)).alloc (by simp) (.cells ca 40)).alloc (by simp; omega) (.cells cb 40))
  have hbk : (((w.alloc (.cells ck 44)).alloc (.cells ca 40)).alloc (.cells cb 40)).heap[w.heap.size]? = some (.cells ck 44 (0, 0)) := by
    rw [heap_alloc_old _ _ (r := w.heap.size) (by simp; omega), heap_alloc2_old]
  have hba : (((w.alloc (.cells ck 44)).alloc (.cells ca 40)).alloc (.cells cb 40)).heap[w.heap.size + 1]? = some (.cells ca 40 (0, 0)) := by
    rw [heap_alloc_old _ _ (r := w.heap.size + 1) (by simp), heap_alloc2_new]
  have hbb : (((w.alloc (.cells ck 44)).alloc (.cells ca 40)).alloc (.cells cb 40)).heap[w.heap.size + 1 + 1]? = some (.cells cb 40 (0, 0)) := by
    have := heap_alloc_new ((w.alloc (.cells ck 44)).alloc (.cells ca 40)) (.cells cb 40)
    simpa using this
  have hsz : (((w.alloc (.cells ck 44)).alloc (.cells ca 40)).alloc (.cells cb 40)).heap.size = w.heap.size + 3 := by simp
  generalize ((w.alloc (.cells ck 44)).alloc (.cells ca 40)).alloc (.cells cb 40) = W at *
  have hkl : ∀ x ∈ (List.range 32).map key, x < 256 := (Rd_row hbk NK.out HK.out lk).1
  have hkb : ∀ i, i < 240 → nth (ks ((List.range 32).map key)) i < 256 := fun i _ => nth_lt (ks_lt hkl) i
  have HBel := Lib.hid hbel
  have HBk := Lib.hid hbk
  have HBa := Lib.hid hba
  have HBb := Lib.hid hbb
  have hszg : w.heap.size + 3 ≤ W.heap.size := by omega
  clear hbel hbk hba hbb hsz
  refine (new_any (some ⟨w.heap.size, 0, none⟩) 32 ((List.range 32).map key) W (by simp) (Rd_row HBk.out NK.out HK.out lk)).mono ?_
  rintro e w1 ⟨rfl, hc1, hb1⟩
  generalize nth (ks ((List.range 32).map key)) = kb at *
  have hgc : W.heap.size < w1.heap.size := hc1.lt
  have HKB := Lib.hid hkb
  have HC1 := Lib.hid hc1
  have HB1 : Hid (Below w.heap.size w w1) := HBel.out.trans (hb1.mono HBel.out.size)
  have HBa1 : Hid (w1.heap[w.heap.size + 1]? = some (.cells ca 40 (0, 0))) := (hb1.block _ (by omega)).trans HBa.out
  have HBb1 : Hid (w1.heap[w.heap.size + 1 + 1]? = some (.cells cb 40 (0, 0))) := (hb1.block _ (by omega)).trans HBb.out
  clear hb1 hc1 hkb HBel HBk HBa HBb
  go_wp2_with fail
  refine (encrypt_any W.heap.size (w.heap.size + 1) 0 16 kb a w1 HC1.out HKB.out la (fun i hi => by rw [Nat.zero_add, cell_of_row _ _ _ _ _ _ HBa1.out]; exact HA.out i hi)).mono ?_
  rintro e w2 ⟨rfl, hx2, hb2⟩
  have hgx : w1.heap.size < w2.heap.size := hx2.lt
  have HX2 := Lib.hid hx2
  have HC2 : Hid (Cph w2 W.heap.size kb) := HC1.out.below hb2 hgc
  have HB2 : Hid (Below w.heap.size w w2) := HB1.out.trans (hb2.mono HB1.out.size)
  have HBa2 : Hid (w2.heap[w.heap.size + 1]? = some (.cells ca 40 (0, 0))) := (hb2.block _ (by omega)).trans HBa1.out
  have HBb2 : Hid (w2.heap[w.heap.size + 1 + 1]? = some (.cells cb 40 (0, 0))) := (hb2.block _ (by omega)).trans HBb1.out
  clear hb2 hx2 HC1 HB1 HBa1 HBb1
  go_wp2_with fail
  refine (encrypt_any W.heap.size (w.heap.size + 1 + 1) 0 16 kb b w2 HC2.out HKB.out lb (fun i hi => by rw [Nat.zero_add, cell_of_row _ _ _ _ _ _ HBb2.out]; exact HB.out i hi)).mono ?_
  rintro e w3 ⟨rfl, hy3, hb3⟩
  have hgy : w2.heap.size < w3.heap.size := hy3.lt
  have HY3 := Lib.hid hy3
  have HX3 : Hid (w3.rowIs w1.heap.size 40 16 (fun i => .int .u8 (encN kb a 14 i : Nat))) := below_row hb3 HX2.out hgx
  have HC3 : Hid (Cph w3 W.heap.size kb) := HC2.out.below hb3 (by omega)
  have HB3 : Hid (Below w.heap.size w w3) := HB2.out.trans (hb3.mono HB2.out.size)
  have HBa3 : Hid (w3.heap[w.heap.size + 1]? = some (.cells ca 40 (0, 0))) := (hb3.block _ (by omega)).trans HBa2.out
  have HBb3 : Hid (w3.heap[w.heap.size + 1 + 1]? = some (.cells cb 40 (0, 0))) := (hb3.block _ (by omega)).trans HBb2.out
  clear hb3 hy3 HC2 HB2 HBa2 HBb2 HX2
  go_wp2_with fail
  refine (decrypt_any W.heap.size (w.heap.size + 1) 0 16 kb a w3 HC3.out HKB.out la (fun i hi => by rw [Nat.zero_add, cell_of_row _ _ _ _ _ _ HBa3.out]; exact HA.out i hi)).mono ?_
  rintro e w4 ⟨rfl, hu4, hb4⟩
  have hgu : w3.heap.size < w4.heap.size := hu4.lt
  have HU4 := Lib.hid hu4
  have HX4 : Hid (w4.rowIs w1.heap.size 40 16 (fun i => .int .u8 (encN kb a 14 i : Nat))) := below_row hb4 HX3.out (by omega)
  have HY4 : Hid (w4.rowIs w2.heap.size 40 16 (fun i => .int .u8 (encN kb b 14 i : Nat))) := below_row hb4 HY3.out hgy
  have HC4 : Hid (Cph w4 W.heap.size kb) := HC3.out.below hb4 (by omega)
  have HB4 : Hid (Below w.heap.size w w4) := HB3.out.trans (hb4.mono HB3.out.size)
  have HBa4 : Hid (w4.heap[w.heap.size + 1]? = some (.cells ca 40 (0, 0))) := (hb4.block _ (by omega)).trans HBa3.out
  have HBb4 : Hid (w4.heap[w.heap.size + 1 + 1]? = some (.cells cb 40 (0, 0))) := (hb4.block _ (by omega)).trans HBb3.out
  clear hb4 hu4 HC3 HB3 HBa3 HBb3 HX3 HY3
  go_wp2_with fail
  have ex := encN_lt HKB.out la 14 (by omega)
  have ey := encN_lt HKB.out lb 14 (by omega)
  have heq : ∀ V, (Op.equalIn 10000 40 (.agg ca) (.agg cb)).run Try.prog V = .ok (sameN a b 16) V := fun V => run_equalIn_bytes V 9998 40 16 ca cb a b Try.underlying40 HA.out HB.out
  have hsame : sameB ((List.range 16).map (encN kb a 14)) ((List.range 16).map (encN kb b 14)) = sameN a b 16 := by
    rw [sameB_range, Bool.eq_iff_iff, sameN_iff, sameN_iff]
    constructor
    · intro h i hi
      rw [← decrypt_encrypt (s := a) (t := encN kb a 14) HKB.out la (fun _ _ => rfl) hi, ← decrypt_encrypt (s := b) (t := encN kb a 14) HKB.out lb (fun i hi => h i hi) hi]
    · intro h i hi
      have : ∀ n, n ≤ 14 → ∀ i, i < 16 → encN kb a n i = encN kb b n i := by
        intro n
        induction n with
        | zero => intro _ i hi; show a i ^^^ _ = b i ^^^ _; rw [h i hi]
        | succ n ih =>
          intro hn i hi
          have h1 := ih (by omega)
          show encS kb (n + 1) _ i = encS kb (n + 1) _ i
          have he : ∀ i, i < 16 → encT (encN kb a n) i = encT (encN kb b n) i := fun i _ => by unfold encT; rw [h1 _ (pe_lt i)]
          unfold encS
          rw [mixF_congr' he 2 3 1 1 hi, he i hi]
      exact this 14 (by omega) i hi
  have HEX := Lib.hid ex
  have HEY := Lib.hid ey
  have HSame := Lib.hid hsame
  clear ex ey hsame
  refine wp_region_quiet_lit (by kernel_rfl) (by kernel_rfl) ?_
  repeat (quiet_step ((go_at_call 18; exact Calls.quiet_of (same_n _ _ 16 16 16 16 ((List.range 16).map (encN kb a 14)) ((List.range 16).map (encN kb b 14)) _ (by simp) (by simp) ((row_rd HX4.out HEX.out).drewN _) ((row_rd HY4.out HEY.out).drewN _) (by simp) (by simp)))))
  rw [HSame.out]
  refine wpQuiet_step (fun K hK => ?_)
  rw [if_pos (by rfl)]
  refine quiet_load_row _ _ rfl (w.heap.size + 1) (by go_simp) _ _ _ _ HBa4.out Try.underlying40 rfl (by rw [NA.out]; kernel_rfl) (hK _ ?_)
  clear hK K
  refine wpQuiet_step (fun K hK => ?_)
  rw [if_pos (by rfl)]
  refine quiet_load_row _ _ rfl (w.heap.size + 1 + 1) (by go_simp) _ _ _ _ HBb4.out Try.underlying40 rfl (by rw [NB.out]; kernel_rfl) (hK _ ?_)
  clear hK K
  refine wpQuiet_step (fun K hK => ?_)
  rw [if_pos (by rfl)]
  refine quiet_eql_row _ _ _ _ rfl _ _ (by go_simp) (by go_simp) (sameN a b 16) (by kernel_rfl) heq (hK _ ?_)
  clear hK K
  repeat (quiet_step (fail))
  refine wpQuiet_nil ?_
  intro _ hw'
  obtain ⟨nq, hw''⟩ := hw'
  subst hw''
  have HU5 : Hid ((w4.drewN nq).rowIs w3.heap.size 40 16 (fun i => .int .u8 (decN kb a 14 i ^^^ kb i : Nat))) := rowIs_drewN' HU4.out nq
  have HX5 : Hid ((w4.drewN nq).rowIs w1.heap.size 40 16 (fun i => .int .u8 (encN kb a 14 i : Nat))) := rowIs_drewN' HX4.out nq
  have HC5 : Hid (Cph (w4.drewN nq) W.heap.size kb) := HC4.out.below (below_drewN' (Below.refl w4.heap.size w4) nq) (by omega)
  have HB5 : Hid (Below w.heap.size w (w4.drewN nq)) := below_drewN' HB4.out nq
  have HBa5 : Hid ((w4.drewN nq).heap[w.heap.size + 1]? = some (.cells ca 40 (0, 0))) := HBa4.out
  have hg5 : (w4.drewN nq).heap.size = w4.heap.size := rfl
  clear HU4 HX4 HY4 HC4 HB4 HBa4 HBb4 HSame heq HEY
  generalize w4.drewN nq = w5 at *
  have hg4 : w3.heap.size < w5.heap.size := by omega
  clear hgu hg5
  go_wp2_with fail
  refine (decrypt_any W.heap.size w1.heap.size 0 16 kb (encN kb a 14) w5 HC5.out HKB.out (fun i hi => HEX.out i hi) (fun i hi => by rw [Nat.zero_add]; exact HX5.out.cell hi)).mono ?_
  rintro e w6 ⟨rfl, hv6, hb6⟩
  have hg6 : w5.heap.size < w6.heap.size := hv6.lt
  have HV6 := Lib.hid hv6
  have HU6 : Hid (w6.rowIs w3.heap.size 40 16 (fun i => .int .u8 (decN kb a 14 i ^^^ kb i : Nat))) := below_row hb6 HU5.out hg4
  have HC6 : Hid (Cph w6 W.heap.size kb) := HC5.out.below hb6 (by omega)
  have HB6 : Hid (Below w.heap.size w w6) := HB5.out.trans (hb6.mono HB5.out.size)
  have HBa6 : Hid (w6.heap[w.heap.size + 1]? = some (.cells ca 40 (0, 0))) := (hb6.block _ (by omega)).trans HBa5.out
  clear hb6 hv6 HC5 HB5 HBa5 HX5 HU5
  have hu6 : ∀ i, i < 16 → decN kb a 14 i ^^^ kb i < 256 := fun i hi => Nat.xor_lt_two_pow (n := 8) (decN_lt HKB.out la 14 (by omega) i hi) (HKB.out i (by omega))
  have HDU := Lib.hid hu6
  clear hu6
  go_wp2_with fail
  refine (encrypt_any W.heap.size w3.heap.size 0 16 kb (fun i => decN kb a 14 i ^^^ kb i) w6 HC6.out HKB.out (fun i hi => HDU.out i hi) (fun i hi => by rw [Nat.zero_add]; exact HU6.out.cell hi)).mono ?_
  rintro e w7 ⟨rfl, hw7, hb7⟩
  have hg7 : w6.heap.size < w7.heap.size := hw7.lt
  have HW7 := Lib.hid hw7
  have HV7 : Hid (w7.rowIs w5.heap.size 40 16 (fun i => .int .u8 (decN kb (encN kb a 14) 14 i ^^^ kb i : Nat))) := below_row hb7 HV6.out hg6
  have HB7 : Hid (Below w.heap.size w w7) := HB6.out.trans (hb7.mono HB6.out.size)
  have HBa7 : Hid (w7.heap[w.heap.size + 1]? = some (.cells ca 40 (0, 0))) := (hb7.block _ (by omega)).trans HBa6.out
  clear hb7 hw7 HC6 HB6 HBa6 HV6 HU6
  go_wp2_with fail
  have e1 : sameB ((List.range 16).map (fun i => decN kb (encN kb a 14) 14 i ^^^ kb i)) ((List.range 16).map a) = true := by
    rw [sameB_range, sameN_iff]
    intro i hi
    exact decrypt_encrypt HKB.out la (fun _ _ => rfl) hi
  have e2 : sameB ((List.range 16).map (encN kb (fun i => decN kb a 14 i ^^^ kb i) 14)) ((List.range 16).map a) = true := by
    rw [sameB_range, sameN_iff]
    intro i hi
    exact encrypt_decrypt HKB.out la (fun _ _ => rfl) hi
  have HE2 := Lib.hid e2
  have hva : ∀ i, i < 16 → decN kb (encN kb a 14) 14 i ^^^ kb i < 256 := fun i hi => by rw [decrypt_encrypt HKB.out la (fun _ _ => rfl) hi]; exact la i hi
  have hwa : ∀ i, i < 16 → encN kb (fun i => decN kb a 14 i ^^^ kb i) 14 i < 256 := encN_lt HKB.out HDU.out 14 (by omega)
  have HWA := Lib.hid hwa
  clear e2 hwa
  refine (same_n _ _ 16 16 16 16 _ _ _ (by simp) (by simp) (row_rd HV7.out hva) (Rd_row HBa7.out NA.out HA.out la) (by simp) (by simp)).mono ?_
  rintro e w' ⟨rfl, n8, rfl⟩
  rw [e1]
  clear e1 hva HV7
  have HW8 : Hid ((w7.drewN n8).rowIs w6.heap.size 40 16 (fun i => .int .u8 (encN kb (fun i => decN kb a 14 i ^^^ kb i) 14 i : Nat))) := rowIs_drewN' HW7.out n8
  have HB8 : Hid (Below w.heap.size w (w7.drewN n8)) := below_drewN' HB7.out n8
  have HBa8 : Hid ((w7.drewN n8).heap[w.heap.size + 1]? = some (.cells ca 40 (0, 0))) := HBa7.out
  clear HW7 HB7 HBa7
  generalize w7.drewN n8 = w8 at *
  go_wp2_with fail
  refine (same_n _ _ 16 16 16 16 _ _ _ (by simp) (by simp) (row_rd HW8.out HWA.out) (Rd_row HBa8.out NA.out HA.out la) (by simp) (by simp)).mono ?_
  rintro e w' ⟨rfl, n9, rfl⟩
  rw [HE2.out]
  have HB9 : Hid (Below w.heap.size w (w8.drewN n9)) := below_drewN' HB8.out n9
  clear HW8 HB8 HBa8 HE2 HWA
  generalize w8.drewN n9 = w9 at *
  go_wp2_with fail
  refine (awake_any w9).mono ?_
  rintro e w10 ⟨rfl, hb10⟩
  have HB10 := Lib.hid (HB9.out.trans (hb10.mono HB9.out.size))
  clear hb10 HB9
  go_wp2_with fail
  go_ret
  exact ⟨rfl, HB10.out⟩
end Go.Proofs.Ytbnhjhdbjffnkaa
