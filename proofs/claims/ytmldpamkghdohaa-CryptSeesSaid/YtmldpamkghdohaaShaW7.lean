/-
  THE WALKS OF digest.Of, quillpresslaw03's hex, awake. Conditions: the bytes read.
-/
import Derived.Test.YtmldpamkghdohaaShaW6
import Derived.Test.YtmldpamkghdohaaStr
import Derived.BigQuiet
namespace Go.Proofs.Ytmldpamkghdohaa
open Go.RowKit
set_option linter.unusedSimpArgs false
set_option linter.unusedVariables false

theorem padded_split (l : List Nat) : padded l = l.take (64 * (l.length / 64)) ++ padTo (l.drop (64 * (l.length / 64))) l.length := by
  have h1 : (l.drop (64 * (l.length / 64))).length = l.length % 64 := by rw [List.length_drop]; omega
  have h2 : padZ (l.length % 64) = padZ l.length := by unfold padZ; rw [Nat.mod_mod]
  unfold padded padTo
  rw [h1, h2]
  simp only [← List.append_assoc]
  rw [List.take_append_drop]
theorem chain_all (l : List Nat) : chain (chain h0 l (l.length / 64)) (padTo (l.drop (64 * (l.length / 64))) l.length) ((padTo (l.drop (64 * (l.length / 64))) l.length).length / 64) = shaSt l := by
  have hq : (l.take (64 * (l.length / 64))).length = 64 * (l.length / 64) := by rw [List.length_take]; omega
  have e1 : chain h0 l (l.length / 64) = chain h0 (l.take (64 * (l.length / 64))) (l.length / 64) := by
    have := chain_add h0 (l.take (64 * (l.length / 64))) (l.drop (64 * (l.length / 64))) (l.length / 64) 0 hq
    rw [List.take_append_drop, Nat.add_zero] at this
    exact this
  have hpl : (padded l).length = 64 * (l.length / 64) + (padTo (l.drop (64 * (l.length / 64))) l.length).length := by rw [padded_split, List.length_append, hq]
  unfold shaSt
  rw [e1, ← chain_add h0 _ _ (l.length / 64) _ hq, ← padded_split, hpl]
  congr 1
  omega
theorem one_out (w : World) : Below w.heap.size w (w.alloc (.cells #[.int .u8 0, .int .u8 0, .int .u8 0, .int .u8 0, .int .u8 0, .int .u8 0, .int .u8 0, .int .u8 0, .int .u8 0, .int .u8 0, .int .u8 0, .int .u8 0, .int .u8 0, .int .u8 0, .int .u8 0, .int .u8 0, .int .u8 0, .int .u8 0, .int .u8 0, .int .u8 0, .int .u8 0, .int .u8 0, .int .u8 0, .int .u8 0, .int .u8 0, .int .u8 0, .int .u8 0, .int .u8 0, .int .u8 0, .int .u8 0, .int .u8 0, .int .u8 0] 40)) ∧ (w.alloc (.cells #[.int .u8 0, .int .u8 0, .int .u8 0, .int .u8 0, .int .u8 0, .int .u8 0, .int .u8 0, .int .u8 0, .int .u8 0, .int .u8 0, .int .u8 0, .int .u8 0, .int .u8 0, .int .u8 0, .int .u8 0, .int .u8 0, .int .u8 0, .int .u8 0, .int .u8 0, .int .u8 0, .int .u8 0, .int .u8 0, .int .u8 0, .int .u8 0, .int .u8 0, .int .u8 0, .int .u8 0, .int .u8 0, .int .u8 0, .int .u8 0, .int .u8 0, .int .u8 0] 40)).rowIs w.heap.size 40 32 (fun _ => .int .u8 0) := by
  have e : (#[.int .u8 0, .int .u8 0, .int .u8 0, .int .u8 0, .int .u8 0, .int .u8 0, .int .u8 0, .int .u8 0, .int .u8 0, .int .u8 0, .int .u8 0, .int .u8 0, .int .u8 0, .int .u8 0, .int .u8 0, .int .u8 0, .int .u8 0, .int .u8 0, .int .u8 0, .int .u8 0, .int .u8 0, .int .u8 0, .int .u8 0, .int .u8 0, .int .u8 0, .int .u8 0, .int .u8 0, .int .u8 0, .int .u8 0, .int .u8 0, .int .u8 0, .int .u8 0] : Array Value) = ((List.range 32).map fun _ => Value.int .u8 0).toArray := by kernel_rfl
  rw [e]
  exact ⟨(Below.refl _ _).alloc (Nat.le_refl _) _, rowNew rfl (by simp) fun i hi => by simp [hi]⟩
set_option maxRecDepth 100000 in
set_option maxHeartbeats 2000000 in
theorem of_any (A : Option Addr) (c : Nat) (m : List Nat) (w : World) (hm : m.length ≤ 35184372088832) (hr : Rd w A m) :
    Calls Try.prog 83 #[.slice A m.length c] w fun e w' => e = .returned (bytesV (sha m)) ∧ Below w.heap.size w w' := by
  have HR := Lib.hid hr
  clear hr
  go_enter Try.func83, Try.ntmps83
  go_wp2_with fail
  obtain ⟨hb0, hr0⟩ := one_out w
  generalize w.alloc (.cells #[.int .u8 0, .int .u8 0, .int .u8 0, .int .u8 0, .int .u8 0, .int .u8 0, .int .u8 0, .int .u8 0, .int .u8 0, .int .u8 0, .int .u8 0, .int .u8 0, .int .u8 0, .int .u8 0, .int .u8 0, .int .u8 0, .int .u8 0, .int .u8 0, .int .u8 0, .int .u8 0, .int .u8 0, .int .u8 0, .int .u8 0, .int .u8 0, .int .u8 0, .int .u8 0, .int .u8 0, .int .u8 0, .int .u8 0, .int .u8 0, .int .u8 0, .int .u8 0] 40) = W at *
  have HB0 := Lib.hid hb0
  have HR0 := Lib.hid hr0
  have HRW := Lib.hid (HR.out.below hb0)
  clear hb0 hr0 HR
  refine (dnew_any W).mono ?_
  rintro e w1 ⟨rfl, hrow, hb1⟩
  have HD1 := Lib.hid (dr_new hrow)
  have HB1 := Lib.hid hb1
  clear hrow hb1
  go_wp2_with fail
  refine (write_any HD1.out (Ow.nil w1 W.heap.size) HB1.out.size (by simp [Value.ownBlock]) (by omega) A c m (by omega) (by simp) (HRW.out.below HB1.out)).mono ?_
  rintro e w2 ⟨rfl, rv, hd2, ho2, hc2⟩
  rw [List.nil_append, Nat.zero_add] at hd2
  rw [List.nil_append] at ho2
  obtain ⟨rA, rc, rfl, -, -, hr2⟩ := ho2.form
  have hb2 : Below W.heap.size w1 w2 := hc2.below (fun k e => by
    rcases e with rfl | e
    · exact Nat.le_refl _
    · cases e) HB1.out.size
  have HD2 := Lib.hid hd2
  have HR2 := Lib.hid hr2
  have HB2 : Hid (Below W.heap.size W w2) := HB1.out.trans hb2
  clear hd2 ho2 hc2 hr2 hb2
  go_wp2_with fail
  refine (sum_any HD2.out HR2.out (by rw [List.length_drop]; omega) (by omega)).mono ?_
  rintro e w3 ⟨he, hb3⟩
  have HB3 : Hid (Below W.heap.size W w3) := HB2.out.trans (hb3.mono HB2.out.size)
  clear hb3
  rw [chain_all] at he
  obtain ⟨cs, hcs⟩ : ∃ cs : Array Value, cs = ((sumOf (shaSt m)).map fun x => Value.int .u8 (x : Nat)).toArray := ⟨_, rfl⟩
  have he2 : e = .returned (.agg cs) := by rw [he, hcs]; rfl
  have hcn : cs.size = 32 := by rw [hcs]; simp [sumOf]
  have hci : ∀ i, i < 32 → cs[i]? = some (.int .u8 (outB (shaSt m) i : Nat)) := by
    intro i hi
    rw [hcs]
    simp [sumOf, hi]
  have hag : Value.agg cs = bytesV (sha m) := by rw [hcs]; rfl
  obtain ⟨ds, hds, hdn, -⟩ := HR0.out.of_block (HB3.out.block w.heap.size HR0.out.lt)
  have HCN := Lib.hid hcn
  have HCI := Lib.hid hci
  have HAG := Lib.hid hag
  have DS := Lib.hid hds
  have DN := Lib.hid hdn
  clear he hcs hcn hci hag hds hdn
  subst he2
  go_wp2_with (refine wpList_store_row rfl 40 (.tmp 2) (.tmp 9) rfl w.heap.size cs rfl rfl 40 ds DS.out (by rw [HCN.out]; exact size32) (by rw [HCN.out, DN.out]) (u8_oneCell HCN.out HCI.out) ?_)
  (try simp only [Exit.inBlock, Exit.then])
  refine bodyPost_ret (results_cell_row rfl _ _ w.heap.size 40 cs (0, 0) _ rfl (setRow_heap _ _ _ _ _ _ DS.out) Try.underlying40 rfl (by rw [HCN.out]; exact size32)) rfl ?_
  exact ⟨by rw [HAG.out], below_setRow (HB0.out.trans (HB3.out.mono HB0.out.size)) (Nat.le_refl _) _⟩
/-- A hash as a text. -/
def hx (n : Nat) : Nat := nth [48, 49, 50, 51, 52, 53, 54, 55, 56, 57, 97, 98, 99, 100, 101, 102] n
def hexL (l : List Nat) : List Nat := l.flatMap fun b => [hx (b / 16), hx (b % 16)]
theorem mkS_append (l m : List Nat) : mkS l ++ mkS m = mkS (l ++ m) := by
  unfold mkS
  rw [ByteArray.mk_append_mk, List.map_append]
theorem mkS_size' (l : List Nat) : (mkS l).size = l.length := by simp [mkS, ByteArray.size]
theorem hexL_length (l : List Nat) : (hexL l).length = 2 * l.length := by
  induction l with
  | nil => rfl
  | cons a l ih =>
    show ([hx (a / 16), hx (a % 16)] ++ hexL l).length = _
    rw [List.length_append, ih, List.length_cons]
    simp
    omega
theorem drewN_plus (w : World) (a b : Nat) : (w.drewN a).drewN b = w.drewN (a + b) := by
  unfold World.drewN
  simp only [Nat.add_assoc]
theorem digit_run (x : Nat) (hx16 : x < 16) (w : World) : (Instr.slice 9 (.string ⟨#[48, 49, 50, 51, 52, 53, 54, 55, 56, 57, 97, 98, 99, 100, 101, 102]⟩) (some (.int .u8 (x : Int))) (some (.int .u8 ((x : Int) + 1))) none).run Try.prog w = .ok (.string (mkS [hx x])) w := by
  rw [run_slice_string_if w 9 _ .u8 .u8 x (x + 1) Try.underlying9, if_pos ⟨by omega, by show (x : Int) + 1 ≤ 16; omega⟩, if_pos ⟨by omega, by omega⟩]
  have e1 : ((x : Int)).toNat = x := by omega
  have e2 : ((x : Int) + 1).toNat = x + 1 := by omega
  rw [e1, e2]
  have : ∀ x, x < 16 → (⟨#[48, 49, 50, 51, 52, 53, 54, 55, 56, 57, 97, 98, 99, 100, 101, 102]⟩ : ByteArray).extract x (x + 1) = mkS [hx x] := by decide +kernel
  rw [this x hx16]
end Go.Proofs.Ytmldpamkghdohaa
