/-
  THE WALK OF derive.Hmac. Conditions: the key and the bytes read as lists.
-/
import Derived.Test.YtbnhjhdbjffnkabDerW2
namespace Go.Proofs.Ytbnhjhdbjffnkab
open Go.RowKit
set_option linter.unusedSimpArgs false
set_option linter.unusedVariables false

theorem Two.bel {w0 w w' : World} {g0 g1 : Nat} {r0 r1 : Value} {l0 l1 : List Nat} (h : Two w0 w g0 g1 r0 r1 l0 l1) (hb : Below w.heap.size w w') : Two w0 w' g0 g1 r0 r1 l0 l1 := ⟨h.a.below hb, h.b.below hb, h.g, h.n0, h.n1, h.nr⟩
theorem Two.write {w0 w w' : World} {g0 g1 : Nat} {r0 r1 rv : Value} {l0 l1 l : List Nat} (h : Two w0 w g0 g1 r0 r1 l0 l1) (hd : Dg w0 w' g0 rv l) (hc : Chg w w' (fun k => k = g0 ∨ r0.ownBlock = some k)) (hf : ∀ k, rv.ownBlock = some k → w.heap.size ≤ k) : Two w0 w' g0 g1 rv r1 l l1 := by
  refine ⟨hd, h.b.keep (hc.below (fun k e => by
    rcases e with rfl | e
    · exact h.a.bg
    · exact ow_base h.a.rest e) h.a.at) (hc.block g1 h.b.dr.lt ?_) (fun k e => hc.block k (h.b.rest.ownLt' e) ?_), h.g, ?_, h.n1, ?_⟩
  · rintro (e | e)
    · exact h.g e.symm
    · exact h.n0 e
  · rintro (rfl | e2)
    · exact h.n1 e
    · exact h.nr k e2 e
  · intro e; have := hf _ e; have := h.b.dr.lt; omega
  · intro k e e2; have := hf _ e; have := h.b.rest.ownLt' e2; omega
theorem shaC_at (l : List Nat) : ∀ i, i < 32 → (shaC l)[i]? = some (.int .u8 (nth (sha l) i : Nat)) := by
  intro i hi
  have : i < (sha l).length := by rw [sha_length]; exact hi
  rw [nth_get this]
  simp [shaC, this]
theorem shaC_size (l : List Nat) : (shaC l).size = 32 := by simp [shaC, sha_length]
set_option maxRecDepth 100000 in
set_option maxHeartbeats 2000000 in
theorem hmac_any (A : Option Addr) (n c : Nat) (key : List Nat) (B : Option Addr) (m d : Nat) (b : List Nat) (w : World) (hn : n = key.length) (hl : key.length ≤ 35184372088832) (hr : Rd w A key) (hm : m = b.length) (hbl : b.length ≤ 35184372088832) (hb : Rd w B b) :
    Calls Try.prog 23 #[.slice A n c, .slice B m d] w fun e w' => e = .returned (.agg (shaC (padS (keyS key) 92 ++ sha (padS (keyS key) 54 ++ b)))) ∧ Below w.heap.size w w' := by
  have HR := Lib.hid hr
  have HB := Lib.hid hb
  have HM := Lib.hid hm
  have HN := Lib.hid hn
  clear hr hb hm hn
  go_enter Try.func23, Try.ntmps23
  go_wp2_with fail
  obtain ⟨hb0, hr0⟩ := one_out w
  generalize w.alloc (.cells #[.int .u8 0, .int .u8 0, .int .u8 0, .int .u8 0, .int .u8 0, .int .u8 0, .int .u8 0, .int .u8 0, .int .u8 0, .int .u8 0, .int .u8 0, .int .u8 0, .int .u8 0, .int .u8 0, .int .u8 0, .int .u8 0, .int .u8 0, .int .u8 0, .int .u8 0, .int .u8 0, .int .u8 0, .int .u8 0, .int .u8 0, .int .u8 0, .int .u8 0, .int .u8 0, .int .u8 0, .int .u8 0, .int .u8 0, .int .u8 0, .int .u8 0, .int .u8 0] 30) = W at *
  have HB0 := Lib.hid hb0
  have HR0 := Lib.hid hr0
  have HRW := Lib.hid (HR.out.below hb0)
  have HBW := Lib.hid (HB.out.below hb0)
  clear hb0 hr0 HR HB
  refine (begun_any A n c key W HN.out hl HRW.out).mono ?_
  rintro e w1 ⟨g0, g1, r0, r1, rfl, htw⟩
  have HTW := Lib.hid htw
  clear htw
  go_wp2_with fail
  have hbv := (Below.refl w1.heap.size w1).alloc (Nat.le_refl _) (.cells #[.pointer (some ⟨g0, 0, none⟩), .pointer (some ⟨g1, 0, none⟩)] 59)
  have hq : (w1.alloc (.cells #[.pointer (some ⟨g0, 0, none⟩), .pointer (some ⟨g1, 0, none⟩)] 59)).heap[w1.heap.size]? = some (.cells #[.pointer (some ⟨g0, 0, none⟩), .pointer (some ⟨g1, 0, none⟩)] 59) := heap_alloc_new w1 _
  have hgq : g0 < w1.heap.size ∧ g1 < w1.heap.size := ⟨HTW.out.a.dr.lt, HTW.out.b.dr.lt⟩
  have hrq : (∀ k, r0.ownBlock = some k → k < w1.heap.size) ∧ (∀ k, r1.ownBlock = some k → k < w1.heap.size) := ⟨fun k e => HTW.out.a.rest.ownLt' e, fun k e => HTW.out.b.rest.ownLt' e⟩
  have htv := HTW.out.bel hbv
  have hsv : w1.heap.size < (w1.alloc (.cells #[.pointer (some ⟨g0, 0, none⟩), .pointer (some ⟨g1, 0, none⟩)] 59)).heap.size := by rw [World.size_alloc]; omega
  generalize w1.alloc (.cells #[.pointer (some ⟨g0, 0, none⟩), .pointer (some ⟨g1, 0, none⟩)] 59) = V at *
  generalize w1.heap.size = q at *
  have HQ := Lib.hid hq
  have HGQ := Lib.hid hgq
  have HRQ := Lib.hid hrq
  have HTV := Lib.hid htv
  have HSV := Lib.hid hsv
  clear hbv hq hgq hrq htv hsv HTW
  refine (write_dg HTV.out.a (by rw [padS_length]; omega) B m d b HM.out (by omega) (HBW.out.below HTV.out.a.bl)).mono ?_
  rintro e w2 ⟨rfl, rv0, hd2, hc2, hf2⟩
  have ht2 := HTV.out.write hd2 hc2 hf2
  have hq2 := (hc2.block q HSV.out (by
    rintro (e | e)
    · have := HGQ.out.1; omega
    · have := HRQ.out.1 q e; omega)).trans HQ.out
  have HT2 := Lib.hid ht2
  have HQ2 := Lib.hid hq2
  have c0 := cell_of_row w2 q 0 _ _ _ hq2
  have hsz2 : q < w2.heap.size := Nat.lt_of_lt_of_le HSV.out hc2.size
  have HSZ2 := Lib.hid hsz2
  have c0 : w2.cell? ⟨q, 0, none⟩ = some (.pointer (some ⟨g0, 0, none⟩)) := c0
  clear hd2 hc2 hf2 ht2 hq2 HTV HQ hsz2
  go_wp2_with fail
  refine (sum_dg HT2.out.a (by rw [List.length_append, padS_length]; omega)).mono ?_
  rintro e w3 ⟨rfl, hb3⟩
  have HT3 := Lib.hid (HT2.out.bel hb3)
  have hq3 := (hb3.block q HSZ2.out).trans HQ2.out
  have HQ3 := Lib.hid hq3
  have HB3 := Lib.hid hb3
  obtain ⟨Li, hLi⟩ : ∃ L, L = padS (keyS key) 54 ++ b := ⟨_, rfl⟩
  rw [← hLi]
  have HLI := Lib.hid hLi
  have hrk : ∀ V : World, Rd (V.alloc (.cells (shaC Li) 30)) (some ⟨V.heap.size, 0, none⟩) (sha Li) := fun V => constW_rd V _ (sha Li) (sha_lt Li) _
  have hci := shaC_at Li
  have hcn := shaC_size Li
  generalize shaC Li = CK at *
  have HRK := Lib.hid (hrk w3)
  have HCI := Lib.hid hci
  have HCN := Lib.hid hcn
  have hbu := (Below.refl w3.heap.size w3).alloc (Nat.le_refl _) (.cells CK 30)
  have hqu : (w3.alloc (.cells CK 30)).heap[q]? = some (.cells #[.pointer (some ⟨g0, 0, none⟩), .pointer (some ⟨g1, 0, none⟩)] 59) := (hbu.block q (Nat.lt_of_lt_of_le HSZ2.out HB3.out.size)).trans HQ3.out
  have c1 : (w3.alloc (.cells CK 30)).cell? ⟨q, 1, none⟩ = some (.pointer (some ⟨g1, 0, none⟩)) := cell_of_row _ q 1 _ _ _ hqu
  have HTU := Lib.hid (HT3.out.bel hbu)
  have HQU := Lib.hid hqu
  have HSU : Hid (q < (w3.alloc (.cells CK 30)).heap.size) := Nat.lt_of_lt_of_le (Nat.lt_of_lt_of_le HSZ2.out HB3.out.size) hbu.size
  clear hb3 hq3 hLi hrk hci hcn hbu hqu c0 HT2 HQ2 HT3 HQ3
  go_wp2_with (refine wpList_store_new 30 (.tmp 6) (.tmp 15) rfl rfl _ CK rfl rfl (by rw [HCN.out]; exact size32) (by rw [HCN.out]; rfl) (bytes_oneCell HCN.out HCI.out) ?_)
  dsimp only [Act.put]
  have hru := HRK.out
  have HRU := Lib.hid hru
  clear hru HRK
  generalize w3.alloc (.cells CK 30) = U0 at *
  refine wp_region_still_tail 3 (by kernel_rfl) (by kernel_rfl) ?_
  simp only [List.take_succ_cons, List.take_zero, List.drop_succ_cons, List.drop_zero]
  repeat still_step
  try refine wpStill_nil ?_
  have htd := HTU.out.bel (below_drewN' (Below.refl _ _) 1)
  have hqd : U0.drew.heap[q]? = some (.cells #[.pointer (some ⟨g0, 0, none⟩), .pointer (some ⟨g1, 0, none⟩)] 59) := HQU.out
  have hsd : q < U0.drew.heap.size := HSU.out
  have hrd : Rd U0.drew (some ⟨w3.heap.size, 0, none⟩) (sha Li) := HRU.out.drew
  change Two W U0.drew _ _ _ _ _ _ at htd
  change wpList _ _ _ _ _ U0.drew
  generalize U0.drew = U at *
  have HTD := Lib.hid htd
  have HQD := Lib.hid hqd
  have HSD := Lib.hid hsd
  have HRD := Lib.hid hrd
  clear htd hqd hsd hrd c1 HTU HQU HSU HRU HCI HCN HB3
  go_wp2_with fail
  refine (write_dg HTD.out.b (by rw [padS_length]; omega) _ 32 32 (sha Li) (sha_length Li).symm (by rw [sha_length]; omega) HRD.out).mono ?_
  rintro e w4 ⟨rfl, rv1, hd4, hc4, hf4⟩
  have hq4 := (hc4.block q HSD.out (by
    rintro (e | e)
    · have := HGQ.out.2; omega
    · have := HRQ.out.2 q e; omega)).trans HQD.out
  have c4 : w4.cell? ⟨q, 1, none⟩ = some (.pointer (some ⟨g1, 0, none⟩)) := cell_of_row w4 q 1 _ _ _ hq4
  have HD4 := Lib.hid hd4
  clear hd4 hc4 hf4 hq4 HTD HQD HRD
  go_wp2_with fail
  refine (sum_dg HD4.out (by rw [List.length_append, padS_length, sha_length]; omega)).mono ?_
  rintro e w5 ⟨rfl, hb5⟩
  rw [HLI.out]
  have hci := shaC_at (padS (keyS key) 92 ++ sha (padS (keyS key) 54 ++ b))
  have hcn := shaC_size (padS (keyS key) 92 ++ sha (padS (keyS key) 54 ++ b))
  have hb6 : Below W.heap.size W w5 := HD4.out.bl.trans (hb5.mono HD4.out.at)
  generalize hcs : shaC (padS (keyS key) 92 ++ sha (padS (keyS key) 54 ++ b)) = cs at *
  have HCS := Lib.hid hcs
  clear hcs
  have hr5 := HR0.out.of_block (hb6.block _ HR0.out.lt)
  obtain ⟨ds, hds, hdn, hdi⟩ := hr5
  have HCN := Lib.hid hcn
  have HCI := Lib.hid hci
  have DS := Lib.hid hds
  have DN := Lib.hid hdn
  have HB6 := Lib.hid hb6
  clear hci hcn hb5 hb6 hds hdn hdi c4
  go_wp2_with (refine wpList_store_row rfl 30 (.tmp 4) (.tmp 22) rfl w.heap.size cs rfl rfl 30 ds DS.out (by rw [HCN.out]; exact size32) (by rw [HCN.out, DN.out]) (bytes_oneCell HCN.out HCI.out) ?_)
  (try simp only [Exit.inBlock, Exit.then])
  refine bodyPost_ret (results_cell_row rfl _ _ w.heap.size 30 cs (0, 0) _ rfl (setRow_heap _ _ _ _ _ _ DS.out) Try.underlying30 rfl (by rw [HCN.out]; exact size32)) rfl ?_
  exact ⟨by rw [HCS.out], below_setRow (HB0.out.trans (HB6.out.mono HB0.out.size)) (Nat.le_refl _) _⟩
theorem hmac_c (A : Option Addr) (n c : Nat) (key : List Nat) (B : Option Addr) (m d : Nat) (b : List Nat) (w : World) (hn : n = key.length) (hl : key.length ≤ 35184372088832) (hr : Rd w A key) (hm : m = b.length) (hbl : b.length ≤ 35184372088832) (hb : Rd w B b) :
    Calls Try.prog 23 #[.slice A n c, .slice B m d] w fun e w' => e = .returned (bytesV (hmac key b)) ∧ Below w.heap.size w w' := hmac_any A n c key B m d b w hn hl hr hm hbl hb
end Go.Proofs.Ytbnhjhdbjffnkab
