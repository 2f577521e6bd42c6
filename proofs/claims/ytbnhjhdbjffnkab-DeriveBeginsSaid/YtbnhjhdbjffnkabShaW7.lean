/-
  THE WALKS OF digest.Of, quillpresslaw03's hex, awake. Conditions: the bytes read.
-/
import Derived.Test.YtbnhjhdbjffnkabShaW6
import Derived.Test.YtbnhjhdbjffnkabStr
import Derived.BigQuiet
namespace Go.Proofs.Ytbnhjhdbjffnkab
open Go.RowKit
set_option linter.unusedSimpArgs false
set_option linter.unusedVariables false

theorem padded_split (l : List Nat) : padded l = l.take (64 * (l.length / 64)) ++ padTo (l.drop (64 * (l.length / 64))) l.length := by
  have h1 : (l.drop (64 * (l.length / 64))).length = l.length % 64 := by rw [List.length_drop]; omega
  have h2 : padZ (l.length % 64) = padZ l.length := by unfold padZ; rw [Nat.mod_mod]
  unfold padded padTo
  rw [h1, h2]
  simp only [← List.append_assoc]
  rw [List.take_append_drop]
theorem chain_all (l : List Nat) : chain (chain h0 l (l.length / 64)) (padTo (l.drop (64 * (l.length / 64))) l.length) ((padTo (l.drop (64 * (l.length / 64))) l.length).length / 64) = shaSt l := by
  have hq : (l.take (64 * (l.length / 64))).length = 64 * (l.length / 64) := by rw [List.length_take]; omega
  have e1 : chain h0 l (l.length / 64) = chain h0 (l.take (64 * (l.length / 64))) (l.length / 64) := by
    have := chain_add h0 (l.take (64 * (l.length / 64))) (l.drop (64 * (l.length / 64))) (l.length / 64) 0 hq
    rw [List.take_append_drop, Nat.add_zero] at this
    exact this
  have hpl : (padded l).length = 64 * (l.length / 64) + (padTo (l.drop (64 * (l.length / 64))) l.length).length := by rw [padded_split, List.length_append, hq]
  unfold shaSt
  rw [e1, ← chain_add h0 _ _ (l.length / 64) _ hq, ← padded_split, hpl]
  congr 1
  omega
theorem one_out (w : World) : Below w.heap.size w (w.alloc (.cells #[.int .u8 0, .int .u8 0, .int .u8 0, .int .u8 0, .int .u8 0, .int .u8 0, .int .u8 0, .int .u8 0, .int .u8 0, .int .u8 0, .int .u8 0, .int .u8 0, .int .u8 0, .int .u8 0, .int .u8 0, .int .u8 0, .int .u8 0, .int .u8 0, .int .u8 0, .int .u8 0, .int .u8 0, .int .u8 0, .int .u8 0, .int .u8 0, .int .u8 0, .int .u8 0, .int .u8 0, .int .u8 0, .int .u8 0, .int .u8 0, .int .u8 0, .int .u8 0] 30)) ∧ (w.alloc (.cells #[.int .u8 0, .int .u8 0, .int .u8 0, .int .u8 0, .int .u8 0, .int .u8 0, .int .u8 0, .int .u8 0, .int .u8 0, .int .u8 0, .int .u8 0, .int .u8 0, .int .u8 0, .int .u8 0, .int .u8 0, .int .u8 0, .int .u8 0, .int .u8 0, .int .u8 0, .int .u8 0, .int .u8 0, .int .u8 0, .int .u8 0, .int .u8 0, .int .u8 0, .int .u8 0, .int .u8 0, .int .u8 0, .int .u8 0, .int .u8 0, .int .u8 0, .int .u8 0] 30)).rowIs w.heap.size 30 32 (fun _ => .int .u8 0) := by
  have e : (#[.int .u8 0, .int .u8 0, .int .u8 0, .int .u8 0, .int .u8 0, .int .u8 0, .int .u8 0, .int .u8 0, .int .u8 0, .int .u8 0, .int .u8 0, .int .u8 0, .int .u8 0, .int .u8 0, .int .u8 0, .int .u8 0, .int .u8 0, .int .u8 0, .int .u8 0, .int .u8 0, .int .u8 0, .int .u8 0, .int .u8 0, .int .u8 0, .int .u8 0, .int .u8 0, .int .u8 0, .int .u8 0, .int .u8 0, .int .u8 0, .int .u8 0, .int .u8 0] : Array Value) = ((List.range 32).map fun _ => Value.int .u8 0).toArray := by kernel_rfl
  rw [e]
  exact ⟨(Below.refl _ _).alloc (Nat.le_refl _) _, rowNew rfl (by simp) fun i hi => by simp [hi]⟩
set_option maxRecDepth 100000 in
set_option maxHeartbeats 2000000 in
theorem of_any (A : Option Addr) (c : Nat) (m : List Nat) (w : World) (hm : m.length ≤ 35184372088832) (hr : Rd w A m) :
    Calls Try.prog 13 #[.slice A m.length c] w fun e w' => e = .returned (bytesV (sha m)) ∧ Below w.heap.size w w' := by
  have HR := Lib.hid hr
  clear hr
  go_enter Try.func13, Try.ntmps13
  go_wp2_with fail
  obtain ⟨hb0, hr0⟩ := one_out w
  generalize w.alloc (.cells #[.int .u8 0, .int .u8 0, .int .u8 0, .int .u8 0, .int .u8 0, .int .u8 0, .int .u8 0, .int .u8 0, .int .u8 0, .int .u8 0, .int .u8 0, .int .u8 0, .int .u8 0, .int .u8 0, .int .u8 0, .int .u8 0, .int .u8 0, .int .u8 0, .int .u8 0, .int .u8 0, .int .u8 0, .int .u8 0, .int .u8 0, .int .u8 0, .int .u8 0, .int .u8 0, .int .u8 0, .int .u8 0, .int .u8 0, .int .u8 0, .int .u8 0, .int .u8 0] 30) = W at *
  have HB0 := Lib.hid hb0
  have HR0 := Lib.hid hr0
  have HRW := Lib.hid (HR.out.below hb0)
  clear hb0 hr0 HR
  refine (dnew_any W).mono ?_
  rintro e w1 ⟨rfl, hrow, hb1⟩
  have HD1 := Lib.hid (dr_new hrow)
  have HB1 := Lib.hid hb1
  clear hrow hb1
  go_wp2_with fail
  refine (write_any HD1.out (Ow.nil w1 W.heap.size) HB1.out.size (by simp [Value.ownBlock]) (by omega) A c m (by omega) (by simp) (HRW.out.below HB1.out)).mono ?_
  rintro e w2 ⟨rfl, rv, hd2, ho2, hc2⟩
  rw [List.nil_append, Nat.zero_add] at hd2
  rw [List.nil_append] at ho2
  obtain ⟨rA, rc, rfl, -, -, hr2⟩ := ho2.form
  have hb2 : Below W.heap.size w1 w2 := hc2.below (fun k e => by
    rcases e with rfl | e
    · exact Nat.le_refl _
    · cases e) HB1.out.size
  have HD2 := Lib.hid hd2
  have HR2 := Lib.hid hr2
  have HB2 : Hid (Below W.heap.size W w2) := HB1.out.trans hb2
  clear hd2 ho2 hc2 hr2 hb2
  go_wp2_with fail
  refine (sum_any HD2.out HR2.out (by rw [List.length_drop]; omega) (by omega)).mono ?_
  rintro e w3 ⟨he, hb3⟩
  have HB3 : Hid (Below W.heap.size W w3) := HB2.out.trans (hb3.mono HB2.out.size)
  clear hb3
  rw [chain_all] at he
  obtain ⟨cs, hcs⟩ : ∃ cs : Array Value, cs = ((sumOf (shaSt m)).map fun x => Value.int .u8 (x : Nat)).toArray := ⟨_, rfl⟩
  have he2 : e = .returned (.agg cs) := by rw [he, hcs]; rfl
  have hcn : cs.size = 32 := by rw [hcs]; simp [sumOf]
  have hci : ∀ i, i < 32 → cs[i]? = some (.int .u8 (outB (shaSt m) i : Nat)) := by
    intro i hi
    rw [hcs]
    simp [sumOf, hi]
  have hag : Value.agg cs = bytesV (sha m) := by rw [hcs]; rfl
  obtain ⟨ds, hds, hdn, -⟩ := HR0.out.of_block (HB3.out.block w.heap.size HR0.out.lt)
  have HCN := Lib.hid hcn
  have HCI := Lib.hid hci
  have HAG := Lib.hid hag
  have DS := Lib.hid hds
  have DN := Lib.hid hdn
  clear he hcs hcn hci hag hds hdn
  subst he2
  go_wp2_with (refine wpList_store_row rfl 30 (.tmp 2) (.tmp 9) rfl w.heap.size cs rfl rfl 30 ds DS.out (by rw [HCN.out]; exact size32) (by rw [HCN.out, DN.out]) (u8_oneCell HCN.out HCI.out) ?_)
  (try simp only [Exit.inBlock, Exit.then])
  refine bodyPost_ret (results_cell_row rfl _ _ w.heap.size 30 cs (0, 0) _ rfl (setRow_heap _ _ _ _ _ _ DS.out) Try.underlying30 rfl (by rw [HCN.out]; exact size32)) rfl ?_
  exact ⟨by rw [HAG.out], below_setRow (HB0.out.trans (HB3.out.mono HB0.out.size)) (Nat.le_refl _) _⟩
/-- A hash as a text. -/
def hx (n : Nat) : Nat := nth [48, 49, 50, 51, 52, 53, 54, 55, 56, 57, 97, 98, 99, 100, 101, 102] n
def hexL (l : List Nat) : List Nat := l.flatMap fun b => [hx (b / 16), hx (b % 16)]
theorem mkS_append (l m : List Nat) : mkS l ++ mkS m = mkS (l ++ m) := by
  unfold mkS
  rw [ByteArray.mk_append_mk, List.map_append]
theorem mkS_size' (l : List Nat) : (mkS l).size = l.length := by simp [mkS, ByteArray.size]
theorem hexL_length (l : List Nat) : (hexL l).length = 2 * l.length := by
  induction l with
  | nil => rfl
  | cons a l ih =>
    show ([hx (a / 16), hx (a % 16)] ++ hexL l).length = _
    rw [List.length_append, ih, List.length_cons]
    simp
    omega
theorem drewN_plus (w : World) (a b : Nat) : (w.drewN a).drewN b = w.drewN (a + b) := by
  unfold World.drewN
  simp only [Nat.add_assoc]
theorem digit_run (x : Nat) (hx16 : x < 16) (w : World) : (Instr.slice 9 (.string ⟨#[48, 49, 50, 51, 52, 53, 54, 55, 56, 57, 97, 98, 99, 100, 101, 102]⟩) (some (.int .u8 (x : Int))) (some (.int .u8 ((x : Int) + 1))) none).run Try.prog w = .ok (.string (mkS [hx x])) w := by
  rw [run_slice_string_if w 9 _ .u8 .u8 x (x + 1) Try.underlying9, if_pos ⟨by omega, by show (x : Int) + 1 ≤ 16; omega⟩, if_pos ⟨by omega, by omega⟩]
  have e1 : ((x : Int)).toNat = x := by omega
  have e2 : ((x : Int) + 1).toNat = x + 1 := by omega
  rw [e1, e2]
  have : ∀ x, x < 16 → (⟨#[48, 49, 50, 51, 52, 53, 54, 55, 56, 57, 97, 98, 99, 100, 101, 102]⟩ : ByteArray).extract x (x + 1) = mkS [hx x] := by decide +kernel
  rw [this x hx16]
set_option maxRecDepth 100000 in
set_option maxHeartbeats 2000000 in
theorem hex_any (l : List Nat) (hl : l.length = 32) (hb : ∀ x ∈ l, x < 256) (w : World) : Calls Try.prog 30 #[bytesV l] w fun e w' => e = .returned (.string (mkS (hexL l))) ∧ Below w.heap.size w w' := by
  unfold bytesV
  obtain ⟨cs, hcs⟩ : ∃ cs : Array Value, cs = (l.map fun x => Value.int .u8 (x : Nat)).toArray := ⟨_, rfl⟩
  rw [← hcs]
  go_enter Try.func30, Try.ntmps30
  go_wp2_with fail
  have hrow : (w.alloc (.cells (l.map fun x => Value.int .u8 (x : Nat)).toArray 30)).rowIs w.heap.size 30 32 (fun j => .int .u8 (nth l j : Nat)) :=
    rowNew rfl (by simpa using hl) fun i hi => by
      rw [nth_get (by omega)]
      simp [show i < l.length by omega]
  have hb0 : Below w.heap.size w (w.alloc (.cells (l.map fun x => Value.int .u8 (x : Nat)).toArray 30)) := (Below.refl _ _).alloc (Nat.le_refl _) _
  generalize w.alloc (.cells (l.map fun x => Value.int .u8 (x : Nat)).toArray 30) = X at *
  have HRow := Lib.hid hrow
  have HB0 := Lib.hid hb0
  have HBL := Lib.hid hb
  have HLL := Lib.hid hl
  clear hrow hb0 hcs hb hl
  go_loopw [3, 4] (fun s v wr => ∃ i n : Nat, i ≤ 32 ∧ v = .int .i64 i ∧ s = .string (mkS (hexL (l.take i))) ∧ wr = X.drewN n) (fun _ v _ => 32 - (intOf v).toNat)
  case atStart => exact ⟨0, 0, by omega, rfl, rfl, rfl⟩
  case round =>
    obtain ⟨i, n, hi, rfl, rfl, rfl⟩ := hrel
    by_cases i32 : i < 32
    · have c1 := (rowIs_drewN' HRow.out n).cell i32
      have hb8 : nth l i < 256 := nth_lt HBL.out i
      have HT : Hid (hexL (l.take (i + 1)) = hexL (l.take i) ++ [hx (nth l i / 16), hx (nth l i % 16)]) := by
        show hexL (l.take (i + 1)) = _
        have hli : i < l.length := by rw [HLL.out]; exact i32
        rw [List.take_add_one, List.getElem?_eq_getElem hli, ← nth_get hli]
        unfold hexL
        rw [List.flatMap_append]
        simp
      obtain ⟨b, hbn⟩ : ∃ b, b = nth l i := ⟨_, rfl⟩
      rw [← hbn] at c1 hb8 HT
      obtain ⟨S, hS⟩ : ∃ S, S = mkS (hexL (l.take i)) := ⟨_, rfl⟩
      rw [← hS]
      have HSS := Lib.hid hS
      clear hbn hS
      obtain ⟨Y, hY⟩ : ∃ Y, Y = X.drewN n := ⟨_, rfl⟩
      rw [← hY] at c1 ⊢
      have HY := Lib.hid hY
      clear hY
      have i32' : (i : Int) < 32 := by omega
      obtain ⟨d, hd⟩ : ∃ d, d = b / 16 := ⟨_, rfl⟩
      obtain ⟨m, hm⟩ : ∃ m, m = b % 16 := ⟨_, rfl⟩
      rw [← hd, ← hm] at HT
      have q0 : (b : Int) / 16 = d := by omega
      have q1 : bits .and .u8 (b : Int) 15 = (m : Int) := by
        rw [show (15 : Int) = ((15 : Nat) : Int) from rfl, u8_and_nat _ _ hb8 (by omega)]
        have : b &&& 15 = b % 16 := Nat.and_two_pow_sub_one_eq_mod b 4
        rw [this, hm]
      have d16 : d < 16 := by omega
      have m16 : m < 16 := by omega
      have q2 : IntKind.u8.wrap ((d : Int) + 1) = d + 1 := by rw [IntKind.wrap_u8']; omega
      have q3 : IntKind.u8.wrap ((m : Int) + 1) = m + 1 := by rw [IntKind.wrap_u8']; omega
      have s1 := digit_run d d16
      have s2 := digit_run m m16
      have hlen : (hexL (l.take i)).length ≤ 64 := by
        rw [hexL_length, List.length_take]
        omega
      obtain ⟨S1, hS1⟩ : ∃ S1, S1 = mkS (hexL (l.take i) ++ [hx d]) := ⟨_, rfl⟩
      obtain ⟨S2, hS2⟩ : ∃ S2, S2 = mkS (hexL (l.take (i + 1))) := ⟨_, rfl⟩
      have a1 : ∀ W : World, (Op.stringOp .add S (mkS [hx d])).run Try.prog W = .ok (.string S1) W := fun W => by
        rw [run_string_add_sum W _ _ (by rw [HSS.out, mkS_size', mkS_size']; simp; omega), HSS.out, mkS_append, hS1]
      have a2 : ∀ W : World, (Op.stringOp .add S1 (mkS [hx m])).run Try.prog W = .ok (.string S2) W := fun W => by
        rw [run_string_add_sum W _ _ (by rw [hS1, mkS_size', mkS_size']; simp; omega), hS1, mkS_append, hS2, HT.out, List.append_assoc]
        rfl
      have HS2 := Lib.hid hS2
      clear hd hm hS1 hS2 hlen
      go_upto_region 5 with fail
      go_quiet (fail)
      go_wp2
      go_roundw
      case rel =>
        exact ⟨i + 1, _, by omega, by go_num, by rw [HS2.out], by rw [HY.out]; exact drewN_plus X n _⟩
      case measure => simp [intOf]; omega
    · obtain rfl : i = 32 := by omega
      go_wp2
      go_ret
      refine ⟨?_, below_drewN' HB0.out _⟩
      rw [List.take_of_length_le (by rw [HLL.out]; omega)]
      rfl
end Go.Proofs.Ytbnhjhdbjffnkab
