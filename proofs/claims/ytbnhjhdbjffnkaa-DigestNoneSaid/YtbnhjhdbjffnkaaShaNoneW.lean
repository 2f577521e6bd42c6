/-
  THE WALKS OF digest's methods on no digest; of quillpresslaw03.DigestNone. Conditions: none.
-/
import Derived.Test.YtbnhjhdbjffnkaaShaA
import Derived.Test.YtbnhjhdbjffnkaaRow
namespace Go.Proofs.Ytbnhjhdbjffnkaa
open Go.RowKit
set_option linter.unusedSimpArgs false
set_option linter.unusedVariables false

/-- No digest: nil, or one that New did not make. -/
def Nd (w : World) (p : Value) : Prop := p = .pointer none ∨ ∃ g, p = .pointer (some ⟨g, 0, none⟩) ∧ w.cell? ⟨g, 0, none⟩ = some (.bool false) ∧ w.cell? ⟨g, 74, none⟩ = some (.int .i64 0)
theorem Nd.below {w w' : World} {p : Value} (h : Nd w p) (hb : Below w.heap.size w w') : Nd w' p := by
  rcases h with h | ⟨g, h, hc, hn⟩
  · exact .inl h
  · exact .inr ⟨g, h, (hb.cell (p := ⟨g, 0, none⟩) (block_lt_of_cell hc)).trans hc, (hb.cell (p := ⟨g, 74, none⟩) (block_lt_of_cell hn)).trans hn⟩
set_option maxHeartbeats 1000000 in
theorem write_nd {w : World} {p : Value} (h : Nd w p) (A : Option Addr) (n c : Nat) : Calls Try.prog 30 #[p, .slice A n c] w fun e w' => e = .returned (.int .i64 1) ∧ w = w' := by
  rcases h with rfl | ⟨g, rfl, hc, hn⟩
  all_goals
    go_enter Try.func30, Try.ntmps30
    go_wp2
    go_ret
    exact ⟨rfl, rfl⟩
set_option maxHeartbeats 1000000 in
theorem len_nd {w : World} {p : Value} (h : Nd w p) : Calls Try.prog 32 #[p] w fun e w' => e = .returned (.int .i64 0) ∧ w = w' := by
  rcases h with rfl | ⟨g, rfl, hc, hn⟩
  all_goals
    go_enter Try.func32, Try.ntmps32
    go_wp2
    go_ret
    exact ⟨rfl, rfl⟩
set_option maxRecDepth 100000 in
set_option maxHeartbeats 2000000 in
theorem sum_nd {w : World} {p : Value} (h : Nd w p) : Calls Try.prog 31 #[p] w fun e w' => e = .returned (.agg #[.int .u8 0, .int .u8 0, .int .u8 0, .int .u8 0, .int .u8 0, .int .u8 0, .int .u8 0, .int .u8 0, .int .u8 0, .int .u8 0, .int .u8 0, .int .u8 0, .int .u8 0, .int .u8 0, .int .u8 0, .int .u8 0, .int .u8 0, .int .u8 0, .int .u8 0, .int .u8 0, .int .u8 0, .int .u8 0, .int .u8 0, .int .u8 0, .int .u8 0, .int .u8 0, .int .u8 0, .int .u8 0, .int .u8 0, .int .u8 0, .int .u8 0, .int .u8 0]) ∧ Below w.heap.size w w' := by
  obtain ⟨hb0, hr0, hr1, hz0⟩ := two_outs w
  have hnd := h.below hb0
  have HB0 := Lib.hid hb0
  have HR0 := Lib.hid hr0
  have HR1 := Lib.hid hr1
  have hp : p = .pointer none ∨ ∃ g, p = .pointer (some ⟨g, 0, none⟩) := h.imp id fun ⟨g, h, _⟩ => ⟨g, h⟩
  have HND := Lib.hid hnd
  clear h hb0 hr0 hr1 hnd
  go_enter Try.func31, Try.ntmps31
  go_upto_region 2 with fail
  generalize (w.alloc (.cells #[.int .u8 0, .int .u8 0, .int .u8 0, .int .u8 0, .int .u8 0, .int .u8 0, .int .u8 0, .int .u8 0, .int .u8 0, .int .u8 0, .int .u8 0, .int .u8 0, .int .u8 0, .int .u8 0, .int .u8 0, .int .u8 0, .int .u8 0, .int .u8 0, .int .u8 0, .int .u8 0, .int .u8 0, .int .u8 0, .int .u8 0, .int .u8 0, .int .u8 0, .int .u8 0, .int .u8 0, .int .u8 0, .int .u8 0, .int .u8 0, .int .u8 0, .int .u8 0] 44)).alloc (.cells #[.int .u8 0, .int .u8 0, .int .u8 0, .int .u8 0, .int .u8 0, .int .u8 0, .int .u8 0, .int .u8 0, .int .u8 0, .int .u8 0, .int .u8 0, .int .u8 0, .int .u8 0, .int .u8 0, .int .u8 0, .int .u8 0, .int .u8 0, .int .u8 0, .int .u8 0, .int .u8 0, .int .u8 0, .int .u8 0, .int .u8 0, .int .u8 0, .int .u8 0, .int .u8 0, .int .u8 0, .int .u8 0, .int .u8 0, .int .u8 0, .int .u8 0, .int .u8 0] 44) = W at *
  obtain ⟨cs, hcs, hcn, hci⟩ := HR1.out
  obtain ⟨ds, hds, hdn, hdi⟩ := HR0.out
  have hzz : cs = #[.int .u8 0, .int .u8 0, .int .u8 0, .int .u8 0, .int .u8 0, .int .u8 0, .int .u8 0, .int .u8 0, .int .u8 0, .int .u8 0, .int .u8 0, .int .u8 0, .int .u8 0, .int .u8 0, .int .u8 0, .int .u8 0, .int .u8 0, .int .u8 0, .int .u8 0, .int .u8 0, .int .u8 0, .int .u8 0, .int .u8 0, .int .u8 0, .int .u8 0, .int .u8 0, .int .u8 0, .int .u8 0, .int .u8 0, .int .u8 0, .int .u8 0, .int .u8 0] := by
    have e : (#[.int .u8 0, .int .u8 0, .int .u8 0, .int .u8 0, .int .u8 0, .int .u8 0, .int .u8 0, .int .u8 0, .int .u8 0, .int .u8 0, .int .u8 0, .int .u8 0, .int .u8 0, .int .u8 0, .int .u8 0, .int .u8 0, .int .u8 0, .int .u8 0, .int .u8 0, .int .u8 0, .int .u8 0, .int .u8 0, .int .u8 0, .int .u8 0, .int .u8 0, .int .u8 0, .int .u8 0, .int .u8 0, .int .u8 0, .int .u8 0, .int .u8 0, .int .u8 0] : Array Value) = ((List.range 32).map fun _ => Value.int .u8 0).toArray := by kernel_rfl
    rw [e]
    apply Array.ext'
    apply List.ext_getElem?
    intro i
    rw [Array.getElem?_toList]
    rcases Nat.lt_or_ge i 32 with hi | hi
    · rw [hci i hi]; simp [hi]
    · rw [Array.getElem?_eq_none (by omega), List.getElem?_eq_none (by simpa using hi)]
  have CS := Lib.hid hcs
  have CN := Lib.hid hcn
  have DS := Lib.hid hds
  have DN := Lib.hid hdn
  have CI := Lib.hid hci
  have HZZ := Lib.hid hzz
  clear hcs hcn hci hds hdn hdi hzz
  rcases HND.out with rfl | ⟨g, rfl, hc, hn⟩
  all_goals
    go_wp2_with (first
      | (refine wpList_load_row rfl 44 (.tmp 3) rfl (w.heap.size + 1) rfl 44 cs (0, 0) _ CS.out Try.underlying44 rfl (by rw [CN.out]; exact size32) ?_)
      | (refine wpList_store_row rfl 44 (.tmp 2) (.tmp 17) rfl w.heap.size cs rfl rfl 44 ds DS.out (by rw [CN.out]; exact size32) (by rw [CN.out, DN.out]) (u8_oneCell (F := fun _ => 0) CN.out CI.out) ?_))
    (try simp only [Exit.inBlock, Exit.then])
    refine bodyPost_ret (results_cell_row rfl _ _ w.heap.size 44 cs (0, 0) _ rfl (setRow_heap _ _ _ _ _ _ DS.out) Try.underlying44 rfl (by rw [CN.out]; exact size32)) rfl ?_
    exact ⟨by rw [HZZ.out], below_setRow HB0.out (Nat.le_refl _) _⟩
theorem zero_eq (V : World) : (Op.equalIn 10000 44 (.agg #[.int .u8 0, .int .u8 0, .int .u8 0, .int .u8 0, .int .u8 0, .int .u8 0, .int .u8 0, .int .u8 0, .int .u8 0, .int .u8 0, .int .u8 0, .int .u8 0, .int .u8 0, .int .u8 0, .int .u8 0, .int .u8 0, .int .u8 0, .int .u8 0, .int .u8 0, .int .u8 0, .int .u8 0, .int .u8 0, .int .u8 0, .int .u8 0, .int .u8 0, .int .u8 0, .int .u8 0, .int .u8 0, .int .u8 0, .int .u8 0, .int .u8 0, .int .u8 0]) (.agg #[.int .u8 0, .int .u8 0, .int .u8 0, .int .u8 0, .int .u8 0, .int .u8 0, .int .u8 0, .int .u8 0, .int .u8 0, .int .u8 0, .int .u8 0, .int .u8 0, .int .u8 0, .int .u8 0, .int .u8 0, .int .u8 0, .int .u8 0, .int .u8 0, .int .u8 0, .int .u8 0, .int .u8 0, .int .u8 0, .int .u8 0, .int .u8 0, .int .u8 0, .int .u8 0, .int .u8 0, .int .u8 0, .int .u8 0, .int .u8 0, .int .u8 0, .int .u8 0])).run Try.prog V = .ok true V := by
  have hz : ∀ i, i < 32 → (#[.int .u8 0, .int .u8 0, .int .u8 0, .int .u8 0, .int .u8 0, .int .u8 0, .int .u8 0, .int .u8 0, .int .u8 0, .int .u8 0, .int .u8 0, .int .u8 0, .int .u8 0, .int .u8 0, .int .u8 0, .int .u8 0, .int .u8 0, .int .u8 0, .int .u8 0, .int .u8 0, .int .u8 0, .int .u8 0, .int .u8 0, .int .u8 0, .int .u8 0, .int .u8 0, .int .u8 0, .int .u8 0, .int .u8 0, .int .u8 0, .int .u8 0, .int .u8 0] : Array Value)[i]? = some (.int .u8 ((fun _ => 0) i : Nat)) := by
    intro i hi
    have e : (#[.int .u8 0, .int .u8 0, .int .u8 0, .int .u8 0, .int .u8 0, .int .u8 0, .int .u8 0, .int .u8 0, .int .u8 0, .int .u8 0, .int .u8 0, .int .u8 0, .int .u8 0, .int .u8 0, .int .u8 0, .int .u8 0, .int .u8 0, .int .u8 0, .int .u8 0, .int .u8 0, .int .u8 0, .int .u8 0, .int .u8 0, .int .u8 0, .int .u8 0, .int .u8 0, .int .u8 0, .int .u8 0, .int .u8 0, .int .u8 0, .int .u8 0, .int .u8 0] : Array Value) = ((List.range 32).map fun _ => Value.int .u8 0).toArray := by kernel_rfl
    rw [e]
    simp [hi]
  have := run_equalIn_bytes V 9998 44 32 #[.int .u8 0, .int .u8 0, .int .u8 0, .int .u8 0, .int .u8 0, .int .u8 0, .int .u8 0, .int .u8 0, .int .u8 0, .int .u8 0, .int .u8 0, .int .u8 0, .int .u8 0, .int .u8 0, .int .u8 0, .int .u8 0, .int .u8 0, .int .u8 0, .int .u8 0, .int .u8 0, .int .u8 0, .int .u8 0, .int .u8 0, .int .u8 0, .int .u8 0, .int .u8 0, .int .u8 0, .int .u8 0, .int .u8 0, .int .u8 0, .int .u8 0, .int .u8 0] #[.int .u8 0, .int .u8 0, .int .u8 0, .int .u8 0, .int .u8 0, .int .u8 0, .int .u8 0, .int .u8 0, .int .u8 0, .int .u8 0, .int .u8 0, .int .u8 0, .int .u8 0, .int .u8 0, .int .u8 0, .int .u8 0, .int .u8 0, .int .u8 0, .int .u8 0, .int .u8 0, .int .u8 0, .int .u8 0, .int .u8 0, .int .u8 0, .int .u8 0, .int .u8 0, .int .u8 0, .int .u8 0, .int .u8 0, .int .u8 0, .int .u8 0, .int .u8 0] (fun _ => 0) (fun _ => 0) Try.underlying44 hz hz
  rw [show sameN (fun _ => 0) (fun _ => 0) 32 = true by decide +kernel] at this
  exact this
set_option maxRecDepth 100000 in
set_option maxHeartbeats 4000000 in
theorem digestNone_walk (A1 : Option Addr) (c1 : Nat) (l1 : List Nat) (w : World) (hr1 : Rd w A1 l1) (hl1 : l1.length ≤ c1) (hm1 : c1 ≤ maxLen) :
    Calls Try.prog 8 #[.slice A1 l1.length c1] w fun e w' => e = .returned (.bool true) ∧ Below w.heap.size w w' := by
  clear hr1 hl1 hm1
  have heq := zero_eq
  go_enter Try.func8, Try.ntmps8
  go_wp2_with fail
  have hB0 : Below w.heap.size w ((w.alloc (.cells Try.zeroCells55 55)).alloc (.cells #[.pointer none, .pointer (some ⟨w.heap.size, 0, none⟩)] 50)) := ((Below.refl _ _).alloc (Nat.le_refl _) _).alloc (by simp) _
  have c0 : ((w.alloc (.cells Try.zeroCells55 55)).alloc (.cells #[.pointer none, .pointer (some ⟨w.heap.size, 0, none⟩)] 50)).cell? ⟨w.heap.size + 1, 0, none⟩ = some (.pointer none) := by
    rw [cell_of_row _ _ _ _ _ _ (heap_alloc2_new _ _ _)]; rfl
  have c1' : ((w.alloc (.cells Try.zeroCells55 55)).alloc (.cells #[.pointer none, .pointer (some ⟨w.heap.size, 0, none⟩)] 50)).cell? ⟨w.heap.size + 1, 1, none⟩ = some (.pointer (some ⟨w.heap.size, 0, none⟩)) := by
    rw [cell_of_row _ _ _ _ _ _ (heap_alloc2_new _ _ _)]; rfl
  have c2 : ((w.alloc (.cells Try.zeroCells55 55)).alloc (.cells #[.pointer none, .pointer (some ⟨w.heap.size, 0, none⟩)] 50)).cell? ⟨w.heap.size, 0, none⟩ = some (.bool false) := by
    rw [cell_of_row _ _ _ _ _ _ (heap_alloc2_old _ _ _)]; kernel_rfl
  have c3 : ((w.alloc (.cells Try.zeroCells55 55)).alloc (.cells #[.pointer none, .pointer (some ⟨w.heap.size, 0, none⟩)] 50)).cell? ⟨w.heap.size, 74, none⟩ = some (.int .i64 0) := by
    rw [cell_of_row _ _ _ _ _ _ (heap_alloc2_old _ _ _)]; kernel_rfl
  generalize (w.alloc (.cells Try.zeroCells55 55)).alloc (.cells #[.pointer none, .pointer (some ⟨w.heap.size, 0, none⟩)] 50) = W at *
  have HB0 := Lib.hid hB0
  have h0 : w.heap.size + 1 < W.heap.size := block_lt_of_cell c0
  have C0 := Lib.hid c0
  have C1 := Lib.hid c1'
  have HNz : Hid (Nd W (.pointer (some ⟨w.heap.size, 0, none⟩))) := .inr ⟨_, rfl, c2, c3⟩
  clear c0 c1' c2 c3 hB0
  go_loopw [11] (fun i wr => ∃ k : Nat, k ≤ 2 ∧ i = .int .i64 k ∧ Below W.heap.size W wr) (fun i _ => 2 - (intOf i).toNat)
  case atStart => exact ⟨0, by omega, rfl, Below.refl _ _⟩
  case round =>
    obtain ⟨k, hk, rfl, hb⟩ := hrel
    have hsz := hb.size
    have hcase : k = 0 ∨ k = 1 ∨ k = 2 := by omega
    rcases hcase with rfl | rfl | rfl
    · have x0 := (hb.cell (p := ⟨w.heap.size + 1, 0, none⟩) h0).trans C0.out
      have HN : Hid (Nd wr (.pointer none)) := .inl rfl
      have HB := Lib.hid hb
      clear hb
      go_wp2_with fail
      refine (write_nd HN.out A1 l1.length c1).mono ?_
      rintro e w' ⟨rfl, rfl⟩
      go_wp2_with fail
      refine (sum_nd HN.out).mono ?_
      rintro e w2 ⟨rfl, hb2⟩
      have HN2 := Lib.hid (HN.out.below hb2)
      have HB2 : Hid (Below W.heap.size W w2) := HB.out.trans (hb2.mono hsz)
      clear hb2
      go_wp2_with fail
      refine (len_nd HN2.out).mono ?_
      rintro e w' ⟨rfl, rfl⟩
      go_wp2_with fail
      go_roundw
      case rel =>
        first
          | exact ⟨1, by omega, by go_num, HB2.out⟩
          | exact ⟨2, by omega, by go_num, HB2.out⟩
      case measure => simp [intOf]
    · have x0 := (hb.cell (p := ⟨w.heap.size + 1, 1, none⟩) h0).trans C1.out
      have HN := Lib.hid (HNz.out.below hb)
      have HB := Lib.hid hb
      clear hb
      go_wp2_with fail
      refine (write_nd HN.out A1 l1.length c1).mono ?_
      rintro e w' ⟨rfl, rfl⟩
      go_wp2_with fail
      refine (sum_nd HN.out).mono ?_
      rintro e w2 ⟨rfl, hb2⟩
      have HN2 := Lib.hid (HN.out.below hb2)
      have HB2 : Hid (Below W.heap.size W w2) := HB.out.trans (hb2.mono hsz)
      clear hb2
      go_wp2_with fail
      refine (len_nd HN2.out).mono ?_
      rintro e w' ⟨rfl, rfl⟩
      go_wp2_with fail
      go_roundw
      case rel =>
        first
          | exact ⟨1, by omega, by go_num, HB2.out⟩
          | exact ⟨2, by omega, by go_num, HB2.out⟩
      case measure => simp [intOf]
    · have HB := Lib.hid hb
      clear hb
      go_wp2_with fail
      refine (shaAwake_any wr).mono ?_
      rintro e w' ⟨rfl, hb⟩
      have HB1 : Hid (Below W.heap.size W w') := HB.out.trans (hb.mono hsz)
      clear hb
      go_wp2_with fail
      go_ret
      exact ⟨rfl, HB0.out.trans (HB1.out.mono HB0.out.size)⟩
end Go.Proofs.Ytbnhjhdbjffnkaa
