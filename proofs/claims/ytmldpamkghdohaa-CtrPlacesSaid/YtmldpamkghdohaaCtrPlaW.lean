/-
  THE WALK OF quillpresslaw06.CtrPlaces: it returns true. Conditions: the arguments read.
-/
import Derived.Test.YtmldpamkghdohaaCtrPlaL
import Derived.Test.YtmldpamkghdohaaRow
import Derived.Deep.QuietTactic
import Derived.StillTailTactics
import Derived.Deep.Cut
namespace Go.Proofs.Ytmldpamkghdohaa
open Go.RowKit
set_option linter.unusedSimpArgs false
set_option linter.unusedVariables false

theorem pickz_i (x z : Int) (n : Nat) (hz : z = n) (h1 : 1 ≤ n) (h2 : n ≤ 4611686018427387904) (w : World) : Calls Try.prog 19 #[.int .i64 x, .int .i64 z] w fun e w' => ∃ k : Nat, e = .returned (.int .i64 k) ∧ k < n ∧ w = w' := by
  subst hz
  exact pickz_any x n h1 h2 w
theorem box_bytes (w : World) (t : TypeId) (cs : Array Value) (l : List Nat) (n : Nat) (hl : l.length = n) (hc : ∀ i, i < n → cs[i]? = some (.int .u8 (nth l i : Nat))) (h8 : ∀ x ∈ l, x < 256) : Rd (w.alloc (.cells cs t)) (some ⟨w.heap.size, 0, none⟩) l := by
  refine ⟨h8, fun _ => ⟨_, 0, rfl, by simp, fun i hi => ?_⟩⟩
  rw [hl] at hi
  rw [Nat.zero_add, cell_of_row _ _ _ _ _ _ (heap_alloc_new w _)]
  exact hc i hi
theorem turn_ok (g : Nat) (A : Option Addr) (n8 c : Nat) (kb : Nat → Nat) (nonce : List Nat) (a : Nat) (z : Int) (B : Option Addr) (m d : Nat) (b : List Nat) (w : World) (hz : z = a) (h8 : n8 = 8) (ha : a ≤ 1099511627776) (hn : b.length ≤ 4194304) (hc : Cph w g kb) (hkb : ∀ i, i < 240 → kb i < 256)
    (hl : nonce.length = 8) (hr : Rd w A nonce) (hm : m = b.length) (hb : Rd w B b) :
    Calls Try.prog 13 #[.pointer (some ⟨g, 0, none⟩), .slice A n8 c, .int .i64 z, .slice B m d] w fun e w' => ∃ A' c', e = .returned (.tuple #[.slice A' b.length c', .int .i64 0]) ∧ Ow w' w.heap.size (.slice A' b.length c') (turned kb nonce a b) ∧ Below w.heap.size w w' := by
  subst hz; subst h8
  refine (turn_any g A c kb nonce a B m d b w ha hn hc hkb hl hr hm hb).mono ?_
  rintro e w' ⟨v, rfl, ho, hb⟩
  obtain ⟨A', c', rfl, -, -, -⟩ := ho.form
  rw [turned_length] at ho ⊢
  exact ⟨A', c', rfl, ho, hb⟩
theorem stream_ok (g : Nat) (A : Option Addr) (n8 c : Nat) (kb : Nat → Nat) (nonce : List Nat) (a n : Nat) (z y : Int) (w : World) (hz : z = a) (hy : y = n) (h8 : n8 = 8) (ha : a ≤ 1099511627776) (hn : n ≤ 4194304) (hc : Cph w g kb) (hkb : ∀ i, i < 240 → kb i < 256)
    (hl : nonce.length = 8) (hr : Rd w A nonce) :
    Calls Try.prog 11 #[.pointer (some ⟨g, 0, none⟩), .slice A n8 c, .int .i64 z, .int .i64 y] w fun e w' => ∃ A' c', e = .returned (.tuple #[.slice A' n c', .int .i64 0]) ∧ Ow w' w.heap.size (.slice A' n c') (strm kb nonce a n) ∧ Below w.heap.size w w' := by
  subst hz; subst hy; subst h8
  refine (stream_any g A c kb nonce a n w ha hn hc hkb hl hr).mono ?_
  rintro e w' ⟨v, rfl, ho, hb⟩
  obtain ⟨A', c', rfl, -, -, -⟩ := ho.form
  rw [strm_length] at ho ⊢
  exact ⟨A', c', rfl, ho, hb⟩
set_option maxRecDepth 100000 in
set_option maxHeartbeats 8000000 in
theorem ctrPlaces_any (csk csn : Array Value) (key nonce : List Nat) (hkl : key.length = 32) (hnl : nonce.length = 8) (hck : ∀ i, i < 32 → csk[i]? = some (.int .u8 (nth key i : Nat))) (hk8 : ∀ x ∈ key, x < 256)
    (hcn : ∀ i, i < 8 → csn[i]? = some (.int .u8 (nth nonce i : Nat))) (hn8 : ∀ x ∈ nonce, x < 256) (at' cut : Int)
    (B : Option Addr) (d : Nat) (b : List Nat) (w : World) (hB : Rd w B b) (hd : b.length ≤ d) :
    Calls Try.prog 5 #[.agg csk, .agg csn, .int .i64 at', .slice B b.length d, .int .i64 cut] w fun e w' => e = .returned (.bool true) ∧ Below w.heap.size w w' := by
  obtain ⟨v, hv⟩ : ∃ v, v = min b.length 500 := ⟨_, rfl⟩
  have k1 : (if (500 : Int) < b.length then (500 : Int) else b.length) = v := by split <;> omega
  have m3 : (v : Int) ≤ d := by omega
  have m4 : v ≤ d := by omega
  have v6 : v ≤ 500 := by omega
  obtain ⟨S, hvl, hBS⟩ : ∃ S : List Nat, v = S.length ∧ Rd w B S := ⟨b.take v, by rw [List.length_take]; omega, rd_takeL hB v⟩
  subst hvl
  have HB := Lib.hid hBS
  have hkr := box_bytes w 40 csk key 32 hkl hck hk8
  have hb1 := (Below.refl w.heap.size w).alloc (Nat.le_refl _) (.cells csk 40)
  have hnr := box_bytes (w.alloc (.cells csk 40)) 43 csn nonce 8 hnl hcn hn8
  have hb2 := (Below.refl (w.alloc (.cells csk 40)).heap.size (w.alloc (.cells csk 40))).alloc (Nat.le_refl _) (.cells csn 43)
  rw [World.size_alloc] at hnr
  have HK := Lib.hid (hkr.below hb2)
  have HN := Lib.hid hnr
  have HBW := Lib.hid (hb1.trans (hb2.mono hb1.size))
  replace HB := Lib.hid (HB.out.below HBW.out)
  have HKL := Lib.hid hkl
  have HNL := Lib.hid hnl
  clear hv hB hBS hkl hnl hck hk8 hcn hn8 hkr hnr hb1 hb2
  go_enter Try.func5, Try.ntmps5
  go_wp2_with fail
  generalize (w.alloc (.cells csk 40)).alloc (.cells csn 43) = W at *
  refine (pickz_i at' _ 1099511626776 rfl (by omega) (by omega) W).mono ?_
  rintro e w' ⟨a, rfl, ha, rfl⟩
  go_wp2_with fail
  refine (pickz_i cut _ (S.length + 1) (by omega) (by omega) (by omega) W).mono ?_
  rintro e w' ⟨k, rfl, hk, rfl⟩
  go_wp2_with fail
  refine (new_any (some ⟨w.heap.size, 0, none⟩) 32 key W HKL.out HK.out).mono ?_
  rintro e w1 ⟨rfl, hc1, hb1⟩
  have HKB : Hid (∀ i, i < 240 → nth (ks key) i < 256) := fun i _ => nth_lt (ks_lt HK.out.1) i
  generalize nth (ks key) = kb at *
  have HC := Lib.hid hc1
  clear HK
  replace HN := Lib.hid (HN.out.below hb1)
  replace HB := Lib.hid (HB.out.below hb1)
  replace HBW := Lib.hid (HBW.out.trans (hb1.mono HBW.out.size))
  clear hb1 hc1
  generalize W.heap.size = gc at *
  go_wp2_with fail
  refine (turn_ok gc _ 8 8 kb nonce a _ B S.length d S w1 rfl rfl (by omega) (by omega) HC.out HKB.out HNL.out HN.out rfl HB.out).mono ?_
  rintro e w2 ⟨A1, c1, rfl, ho1, hb2⟩
  try replace HC := Lib.hid (HC.out.below hb2 HC.out.lt)
  try replace HK := Lib.hid (HK.out.below hb2)
  try replace HN := Lib.hid (HN.out.below hb2)
  try replace HB := Lib.hid (HB.out.below hb2)
  try replace HO1 := Lib.hid (HO1.out.below hb2)
  try replace HO2 := Lib.hid (HO2.out.below hb2)
  try replace HO3 := Lib.hid (HO3.out.below hb2)
  try replace HO4 := Lib.hid (HO4.out.below hb2)
  try replace HO5 := Lib.hid (HO5.out.below hb2)
  try replace HO6 := Lib.hid (HO6.out.below hb2)
  try replace HR1 := Lib.hid (HR1.out.below hb2)
  try replace HR2 := Lib.hid (HR2.out.below hb2)
  try replace HR3 := Lib.hid (HR3.out.below hb2)
  try replace HR4 := Lib.hid (HR4.out.below hb2)
  try replace HR5 := Lib.hid (HR5.out.below hb2)
  try replace HR6 := Lib.hid (HR6.out.below hb2)
  replace HBW := Lib.hid (HBW.out.trans (hb2.mono HBW.out.size))
  clear hb2
  have HO1 := Lib.hid ho1
  clear ho1
  have HR1 := Lib.hid HO1.out.rdv
  clear HO1
  have SC := HC
  have SN := HN
  have SB := HB
  have SR := HR1
  have SW := HBW
  have h22 := Lib.hid (Below.refl w2.heap.size w2)
  have d1 : k ≤ S.length := by omega
  have d2 : k ≤ d := by omega
  have d3 : (k : Int) ≤ d := by omega
  have d4 : (k : Int) ≤ S.length := by omega
  go_wp2_with fail
  have ht : (S.take k).length = k := by rw [List.length_take]; omega
  have hdr : (S.drop k).length = S.length - k := List.length_drop
  have hg : ∀ (W : World), Cph W gc kb → Rd W (some ⟨w.heap.size + 1, 0, none⟩) nonce → Rd W B S → Calls Try.prog 13 #[.pointer (some ⟨gc, 0, none⟩), .slice (some ⟨w.heap.size + 1, 0, none⟩) 8 8, .int .i64 a, .slice B k d] W fun e w' => ∃ A' c', e = .returned (.tuple #[.slice A' k c', .int .i64 0]) ∧ Ow w' W.heap.size (.slice A' k c') (turned kb nonce a (S.take k)) ∧ Below W.heap.size W w' := by
    intro W h1 h2 h3
    have := turn_ok gc (some ⟨w.heap.size + 1, 0, none⟩) 8 8 kb nonce a a B k d (S.take k) W rfl rfl (by omega) (by omega) h1 HKB.out HNL.out h2 ht.symm (rd_takeL h3 k)
    rw [ht] at this
    exact this
  go_region_held3 (fun _ => True) (exact trivial) (first
    | (go_at_call 13; (refine (hg _ (by exact HC.out) (by exact HN.out) (by exact HB.out)).mono ?_); rintro e w4 ⟨A2, c2, rfl, ho2, hb4⟩))
  clear hg
  go_wp2_with fail
  have hb4' : Below w2.heap.size w2 w4 := (below_drewN' (Below.refl _ _) 1).trans hb4
  replace h22 := Lib.hid (h22.out.trans hb4')
  clear hb4
  try replace HC := Lib.hid (HC.out.below hb4' HC.out.lt)
  try replace HK := Lib.hid (HK.out.below hb4')
  try replace HN := Lib.hid (HN.out.below hb4')
  try replace HB := Lib.hid (HB.out.below hb4')
  try replace HO1 := Lib.hid (HO1.out.below hb4')
  try replace HO2 := Lib.hid (HO2.out.below hb4')
  try replace HO3 := Lib.hid (HO3.out.below hb4')
  try replace HO4 := Lib.hid (HO4.out.below hb4')
  try replace HO5 := Lib.hid (HO5.out.below hb4')
  try replace HO6 := Lib.hid (HO6.out.below hb4')
  try replace HR1 := Lib.hid (HR1.out.below hb4')
  try replace HR2 := Lib.hid (HR2.out.below hb4')
  try replace HR3 := Lib.hid (HR3.out.below hb4')
  try replace HR4 := Lib.hid (HR4.out.below hb4')
  try replace HR5 := Lib.hid (HR5.out.below hb4')
  try replace HR6 := Lib.hid (HR6.out.below hb4')
  replace HBW := Lib.hid (HBW.out.trans (hb4'.mono HBW.out.size))
  clear hb4'
  have HO2 := Lib.hid (show Ow w4 w2.heap.size (.slice A2 k c2) (turned kb nonce a (S.take k)) from ho2)
  clear ho2
  have HR2 := Lib.hid HO2.out.rdv
  have hg : ∀ (X : Option Addr) (cc : Nat) (W : World), Cph W gc kb → Rd W (some ⟨w.heap.size + 1, 0, none⟩) nonce → Rd W X (S.drop k) → Calls Try.prog 13 #[.pointer (some ⟨gc, 0, none⟩), .slice (some ⟨w.heap.size + 1, 0, none⟩) 8 8, .int .i64 (↑a + ↑k), .slice X (S.length - k) cc] W fun e w' => ∃ A' c', e = .returned (.tuple #[.slice A' (S.length - k) c', .int .i64 0]) ∧ Ow w' W.heap.size (.slice A' (S.length - k) c') (turned kb nonce (a + k) (S.drop k)) ∧ Below W.heap.size W w' := by
    intro X cc W h1 h2 h3
    have := turn_ok gc (some ⟨w.heap.size + 1, 0, none⟩) 8 8 kb nonce (a + k) (↑a + ↑k) X (S.length - k) cc (S.drop k) W (by omega) rfl (by omega) (by rw [hdr]; omega) h1 HKB.out HNL.out h2 hdr.symm h3
    rw [hdr] at this
    exact this
  have q1 : IntKind.i64.wrap ((a : Int) + k) = (a : Int) + k := by rw [IntKind.wrap_i64]; omega
  have HDR := Lib.hid hdr
  have HT := Lib.hid ht
  have HG := Lib.hid hg
  clear hdr ht hg
  have hdk : k = d ∨ k < d := by omega
  rcases hdk with rfl | hdk
  · have HKE : Hid (S.length = k) := by
      have := HDR.out
      show S.length = k
      omega
    have hg0 : ∀ (W : World), Cph W gc kb → Rd W (some ⟨w.heap.size + 1, 0, none⟩) nonce → Calls Try.prog 13 #[.pointer (some ⟨gc, 0, none⟩), .slice (some ⟨w.heap.size + 1, 0, none⟩) 8 8, .int .i64 (↑a + ↑k), .slice B 0 0] W fun e w' => ∃ A' c', e = .returned (.tuple #[.slice A' 0 c', .int .i64 0]) ∧ Ow w' W.heap.size (.slice A' 0 c') (turned kb nonce (a + k) (S.drop k)) ∧ Below W.heap.size W w' := by
      intro W h1 h2
      have hnil : S.drop k = [] := List.drop_eq_nil_of_le (by rw [HKE.out]; exact Nat.le_refl _)
      rw [hnil]
      have := turn_ok gc (some ⟨w.heap.size + 1, 0, none⟩) 8 8 kb nonce (a + k) (↑a + ↑k) B 0 0 [] W (by omega) rfl (by omega) (by simp) h1 HKB.out HNL.out h2 rfl Rd.nil
      rw [List.length_nil] at this
      exact this
    clear HG
    have HG := Lib.hid hg0
    have HCUT := True.intro
    clear hg0
    go_region_held3 (fun _ => True) (exact trivial) (first
      | (go_at_call 13; (refine (HG.out _ (by exact HC.out) (by exact HN.out)).mono ?_); rintro e w6 ⟨A3, c3, rfl, ho3, hb6⟩))
    have hdk := True.intro
    have n1 := True.intro
    have hb6' : Below w4.heap.size w4 w6 := (below_drewN' (Below.refl _ _) 1).trans hb6
    have HO3 := Lib.hid (show Ow w6 w4.heap.size (.slice A3 0 c3) (turned kb nonce (a + k) (S.drop k)) from ho3)
    clear HG HCUT hb6 ho3 q1 n1 hdk
    replace h22 := Lib.hid (h22.out.trans (hb6'.mono h22.out.size))
    try replace HC := Lib.hid (HC.out.below hb6' HC.out.lt)
    try replace HK := Lib.hid (HK.out.below hb6')
    try replace HN := Lib.hid (HN.out.below hb6')
    try replace HB := Lib.hid (HB.out.below hb6')
    try replace HO1 := Lib.hid (HO1.out.below hb6')
    try replace HO2 := Lib.hid (HO2.out.below hb6')
    try replace HO3 := Lib.hid (HO3.out.below hb6')
    try replace HO4 := Lib.hid (HO4.out.below hb6')
    try replace HO5 := Lib.hid (HO5.out.below hb6')
    try replace HO6 := Lib.hid (HO6.out.below hb6')
    try replace HR1 := Lib.hid (HR1.out.below hb6')
    try replace HR2 := Lib.hid (HR2.out.below hb6')
    try replace HR3 := Lib.hid (HR3.out.below hb6')
    try replace HR4 := Lib.hid (HR4.out.below hb6')
    try replace HR5 := Lib.hid (HR5.out.below hb6')
    try replace HR6 := Lib.hid (HR6.out.below hb6')
    replace HBW := Lib.hid (HBW.out.trans (hb6'.mono HBW.out.size))
    clear hb6'
    have HR3 := Lib.hid HO3.out.rdv
    have l2 : (turned kb nonce a (S.take k)).length = k := by rw [turned_length, HT.out]
    have l3 : (turned kb nonce (a + k) (S.drop k)).length = 0 := by rw [turned_length, HDR.out] <;> omega
    have L2 := Lib.hid l2
    have L3 := Lib.hid l3
    clear l2 l3
    go_upto_region 10 with fail
    go_wp2_with (at_builtin; refine append_bytes_g (.tmp 86) (.tmp 87) (by rfl) rfl rfl HO2.out A3 _ _ _ rfl L3.out.symm HR3.out (by rw [L2.out, L3.out]; omega) h22.out.size ?_; intro v7 w7 ho7 hg7 ha7; have hg7 : w6.grownBy w7 (Value.slice A2 k c2).ownBlock := hg7; have hb27 : Below w2.heap.size w2 w7 := below_of_append h22.out HO2.out hg7 h22.out.size (Nat.le_refl _); rw [turned_parts kb nonce a S k d1] at ho7; have HO7 := Lib.hid ho7; have HB27 := Lib.hid hb27; clear ho7 hg7 ha7 hb27; obtain ⟨A7, c7, rfl, -, -, hr7⟩ := HO7.out.form; rw [turned_length]; have HR7 := Lib.hid hr7; clear hr7)
    replace HC := Lib.hid (SC.out.below HB27.out SC.out.lt)
    replace HN := Lib.hid (SN.out.below HB27.out)
    replace HB := Lib.hid (SB.out.below HB27.out)
    replace HR1 := Lib.hid (SR.out.below HB27.out)
    replace HBW := Lib.hid (SW.out.trans (HB27.out.mono SW.out.size))
    clear HO2 HO3 HO7 HR2 HR3 h22 HB27 SC SN SB SR SW L2 L3
    have hTL := turned_length kb nonce a S
    obtain ⟨T, hTE⟩ : ∃ T, T = turned kb nonce a S := ⟨_, rfl⟩
    have hTT := turned_twice kb nonce a S
    have hTn := fun i (hi : i < S.length) => @nth_turned kb nonce a S i hi
    rw [← hTE] at hTL hTT hTn HR1 HR7
    have HTL := Lib.hid hTL
    have HTT := Lib.hid hTT
    have HTN := Lib.hid hTn
    clear hTL hTT hTn hTE
    refine (same_yes _ _ _ _ _ _ T w7 HTL.out.symm HTL.out.symm HR7.out HR1.out (by rw [HTL.out]; omega)).mono ?_
    rintro e w8 ⟨rfl, hb8⟩
    clear HR7
    try replace HC := Lib.hid (HC.out.below hb8 HC.out.lt)
    try replace HK := Lib.hid (HK.out.below hb8)
    try replace HN := Lib.hid (HN.out.below hb8)
    try replace HB := Lib.hid (HB.out.below hb8)
    try replace HO1 := Lib.hid (HO1.out.below hb8)
    try replace HO2 := Lib.hid (HO2.out.below hb8)
    try replace HO3 := Lib.hid (HO3.out.below hb8)
    try replace HO4 := Lib.hid (HO4.out.below hb8)
    try replace HO5 := Lib.hid (HO5.out.below hb8)
    try replace HO6 := Lib.hid (HO6.out.below hb8)
    try replace HR1 := Lib.hid (HR1.out.below hb8)
    try replace HR2 := Lib.hid (HR2.out.below hb8)
    try replace HR3 := Lib.hid (HR3.out.below hb8)
    try replace HR4 := Lib.hid (HR4.out.below hb8)
    try replace HR5 := Lib.hid (HR5.out.below hb8)
    try replace HR6 := Lib.hid (HR6.out.below hb8)
    replace HBW := Lib.hid (HBW.out.trans (hb8.mono HBW.out.size))
    clear hb8
    go_wp2_with fail
    refine (turn_ok gc _ 8 8 kb nonce a _ _ _ _ T w8 rfl rfl (by omega) (by rw [HTL.out]; omega) HC.out HKB.out HNL.out HN.out HTL.out.symm HR1.out).mono ?_
    rw [HTT.out, HTL.out]
    rintro e w9 ⟨A9, c9, rfl, ho9, hb9⟩
    try replace HC := Lib.hid (HC.out.below hb9 HC.out.lt)
    try replace HK := Lib.hid (HK.out.below hb9)
    try replace HN := Lib.hid (HN.out.below hb9)
    try replace HB := Lib.hid (HB.out.below hb9)
    try replace HO1 := Lib.hid (HO1.out.below hb9)
    try replace HO2 := Lib.hid (HO2.out.below hb9)
    try replace HO3 := Lib.hid (HO3.out.below hb9)
    try replace HO4 := Lib.hid (HO4.out.below hb9)
    try replace HO5 := Lib.hid (HO5.out.below hb9)
    try replace HO6 := Lib.hid (HO6.out.below hb9)
    try replace HR1 := Lib.hid (HR1.out.below hb9)
    try replace HR2 := Lib.hid (HR2.out.below hb9)
    try replace HR3 := Lib.hid (HR3.out.below hb9)
    try replace HR4 := Lib.hid (HR4.out.below hb9)
    try replace HR5 := Lib.hid (HR5.out.below hb9)
    try replace HR6 := Lib.hid (HR6.out.below hb9)
    replace HBW := Lib.hid (HBW.out.trans (hb9.mono HBW.out.size))
    clear hb9
    have HR2 := Lib.hid ho9.rdv
    clear ho9
    go_wp2_with fail
    refine (stream_ok gc _ 8 8 kb nonce a S.length _ _ w9 rfl rfl rfl (by omega) (by omega) HC.out HKB.out HNL.out HN.out).mono ?_
    rintro e w10 ⟨A10, c10, rfl, ho10, hb10⟩
    try replace HC := Lib.hid (HC.out.below hb10 HC.out.lt)
    try replace HK := Lib.hid (HK.out.below hb10)
    try replace HN := Lib.hid (HN.out.below hb10)
    try replace HB := Lib.hid (HB.out.below hb10)
    try replace HO1 := Lib.hid (HO1.out.below hb10)
    try replace HO2 := Lib.hid (HO2.out.below hb10)
    try replace HO3 := Lib.hid (HO3.out.below hb10)
    try replace HO4 := Lib.hid (HO4.out.below hb10)
    try replace HO5 := Lib.hid (HO5.out.below hb10)
    try replace HO6 := Lib.hid (HO6.out.below hb10)
    try replace HR1 := Lib.hid (HR1.out.below hb10)
    try replace HR2 := Lib.hid (HR2.out.below hb10)
    try replace HR3 := Lib.hid (HR3.out.below hb10)
    try replace HR4 := Lib.hid (HR4.out.below hb10)
    try replace HR5 := Lib.hid (HR5.out.below hb10)
    try replace HR6 := Lib.hid (HR6.out.below hb10)
    replace HBW := Lib.hid (HBW.out.trans (hb10.mono HBW.out.size))
    clear hb10
    have hc10 : S.length ≤ c10 := by
      obtain ⟨A', c', e, h, -, -⟩ := ho10.form
      rw [strm_length] at h
      injection e with _ _ e
      omega
    have HR3 := Lib.hid ho10.rdv
    clear ho10
    go_wp2_with fail
    refine (stream_ok gc _ 8 8 kb nonce (a + k) (S.length - k) _ _ w10 (by omega) (by omega) rfl (by omega) (by omega) HC.out HKB.out HNL.out HN.out).mono ?_
    rintro e w11 ⟨A11, c11, rfl, ho11, hb11⟩
    try replace HC := Lib.hid (HC.out.below hb11 HC.out.lt)
    try replace HK := Lib.hid (HK.out.below hb11)
    try replace HN := Lib.hid (HN.out.below hb11)
    try replace HB := Lib.hid (HB.out.below hb11)
    try replace HO1 := Lib.hid (HO1.out.below hb11)
    try replace HO2 := Lib.hid (HO2.out.below hb11)
    try replace HO3 := Lib.hid (HO3.out.below hb11)
    try replace HO4 := Lib.hid (HO4.out.below hb11)
    try replace HO5 := Lib.hid (HO5.out.below hb11)
    try replace HO6 := Lib.hid (HO6.out.below hb11)
    try replace HR1 := Lib.hid (HR1.out.below hb11)
    try replace HR2 := Lib.hid (HR2.out.below hb11)
    try replace HR3 := Lib.hid (HR3.out.below hb11)
    try replace HR4 := Lib.hid (HR4.out.below hb11)
    try replace HR5 := Lib.hid (HR5.out.below hb11)
    try replace HR6 := Lib.hid (HR6.out.below hb11)
    replace HBW := Lib.hid (HBW.out.trans (hb11.mono HBW.out.size))
    clear hb11
    have HR4 := Lib.hid ho11.rdv
    clear ho11
    have hx := HR3.out.cutL k (S.length - k) c10 (by rw [strm_length]; omega) (by rw [strm_length]; exact hc10)
    rw [strm_drop kb nonce a S.length k d1, List.take_of_length_le (by rw [strm_length]; omega)] at hx
    have HX := Lib.hid hx
    have hsl := strm_length kb nonce a S.length
    have hpl := strm_length kb nonce (a + k) (S.length - k)
    generalize strm kb nonce (a + k) (S.length - k) = P at *
    generalize strm kb nonce a S.length = R at *
    have HSL := Lib.hid hsl
    have HPL := Lib.hid hpl
    have f1 : k ≤ c10 := by omega
    have f2 : (k : Int) ≤ c10 := by omega
    clear hx hsl hpl
    go_wp2_with fail
    refine (same_yes _ _ _ _ _ _ S w11 rfl rfl HR2.out HB.out (by omega)).mono ?_
    rintro e w12 ⟨rfl, hb12⟩
    replace HX := Lib.hid (HX.out.below hb12)
    try replace HC := Lib.hid (HC.out.below hb12 HC.out.lt)
    try replace HK := Lib.hid (HK.out.below hb12)
    try replace HN := Lib.hid (HN.out.below hb12)
    try replace HB := Lib.hid (HB.out.below hb12)
    try replace HO1 := Lib.hid (HO1.out.below hb12)
    try replace HO2 := Lib.hid (HO2.out.below hb12)
    try replace HO3 := Lib.hid (HO3.out.below hb12)
    try replace HO4 := Lib.hid (HO4.out.below hb12)
    try replace HO5 := Lib.hid (HO5.out.below hb12)
    try replace HO6 := Lib.hid (HO6.out.below hb12)
    try replace HR1 := Lib.hid (HR1.out.below hb12)
    try replace HR2 := Lib.hid (HR2.out.below hb12)
    try replace HR3 := Lib.hid (HR3.out.below hb12)
    try replace HR4 := Lib.hid (HR4.out.below hb12)
    try replace HR5 := Lib.hid (HR5.out.below hb12)
    try replace HR6 := Lib.hid (HR6.out.below hb12)
    replace HBW := Lib.hid (HBW.out.trans (hb12.mono HBW.out.size))
    clear hb12
    go_wp2_with fail
    all_goals
      refine (same_yes _ _ _ _ _ _ P w12 (by rw [HPL.out] <;> omega) (by rw [HPL.out] <;> omega) (by have h := HX.out; split at h <;> first | exact h | (exfalso; omega)) HR4.out (by rw [HPL.out]; omega)).mono ?_
      rintro e w13 ⟨rfl, hb13⟩
      clear HX
      try replace HC := Lib.hid (HC.out.below hb13 HC.out.lt)
      try replace HK := Lib.hid (HK.out.below hb13)
      try replace HN := Lib.hid (HN.out.below hb13)
      try replace HB := Lib.hid (HB.out.below hb13)
      try replace HO1 := Lib.hid (HO1.out.below hb13)
      try replace HO2 := Lib.hid (HO2.out.below hb13)
      try replace HO3 := Lib.hid (HO3.out.below hb13)
      try replace HO4 := Lib.hid (HO4.out.below hb13)
      try replace HO5 := Lib.hid (HO5.out.below hb13)
      try replace HO6 := Lib.hid (HO6.out.below hb13)
      try replace HR1 := Lib.hid (HR1.out.below hb13)
      try replace HR2 := Lib.hid (HR2.out.below hb13)
      try replace HR3 := Lib.hid (HR3.out.below hb13)
      try replace HR4 := Lib.hid (HR4.out.below hb13)
      try replace HR5 := Lib.hid (HR5.out.below hb13)
      try replace HR6 := Lib.hid (HR6.out.below hb13)
      replace HBW := Lib.hid (HBW.out.trans (hb13.mono HBW.out.size))
      clear hb13
      go_wp2_with fail
      go_loopw [25] (fun i wr => ∃ j : Nat, j ≤ S.length ∧ i = .int .i64 j ∧ Below w13.heap.size w13 wr) (fun i _ => S.length - (intOf i).toNat)
      case atStart => exact ⟨0, by omega, rfl, Below.refl _ _⟩
      case round =>
        obtain ⟨j, hj, rfl, hbr⟩ := hrel
        have HBR := Lib.hid hbr
        try replace HC := Lib.hid (HC.out.below hbr HC.out.lt)
        try replace HK := Lib.hid (HK.out.below hbr)
        try replace HN := Lib.hid (HN.out.below hbr)
        try replace HB := Lib.hid (HB.out.below hbr)
        try replace HO1 := Lib.hid (HO1.out.below hbr)
        try replace HO2 := Lib.hid (HO2.out.below hbr)
        try replace HO3 := Lib.hid (HO3.out.below hbr)
        try replace HO4 := Lib.hid (HO4.out.below hbr)
        try replace HO5 := Lib.hid (HO5.out.below hbr)
        try replace HO6 := Lib.hid (HO6.out.below hbr)
        try replace HR1 := Lib.hid (HR1.out.below hbr)
        try replace HR2 := Lib.hid (HR2.out.below hbr)
        try replace HR3 := Lib.hid (HR3.out.below hbr)
        try replace HR4 := Lib.hid (HR4.out.below hbr)
        try replace HR5 := Lib.hid (HR5.out.below hbr)
        try replace HR6 := Lib.hid (HR6.out.below hbr)
        replace HBW := Lib.hid (HBW.out.trans (hbr.mono HBW.out.size))
        clear hbr
        by_cases e0 : j < S.length
        · obtain ⟨g3, o3, rfl, -, h3⟩ := HR1.out.2 (by intro e; have := HTL.out; rw [e] at this; simp at this; omega)
          obtain ⟨g4, o4, rfl, -, h4⟩ := HR3.out.2 (by intro e; have := HSL.out; rw [e] at this; simp at this; omega)
          obtain ⟨g5, o5, rfl, -, h5⟩ := HB.out.2 (by intro e; rw [e] at e0; simp at e0)
          have y3 := h3 j (by rw [HTL.out]; exact e0)
          have y4 := h4 j (by rw [HSL.out]; exact e0)
          have y5 := h5 j e0
          rw [HTN.out j e0, Nat.xor_comm] at y3
          have y6 : bits BinOp.xor IntKind.u8 (nth S j : Int) (nth R j : Int) = ((nth S j ^^^ nth R j : Nat) : Int) := u8_xor_nat _ _ (nth_lt HB.out.1 j) (nth_lt HR3.out.1 j)
          have y7 : ((nth S j ^^^ nth R j : Nat) : Int) < 256 := by
            have := Nat.xor_lt_two_pow (n := 8) (nth_lt HB.out.1 j) (nth_lt HR3.out.1 j)
            omega
          generalize nth S j ^^^ nth R j = X at *
          generalize nth R j = Y at *
          generalize nth S j = Z at *
          clear h3 h4 h5
          go_wp2_with fail
          go_quiet (fail)
          go_wp2_with fail
          refine ⟨⟨j + 1, by omega, by go_num, below_drewN' HBR.out nq⟩, ?_⟩
          simp [intOf]
          omega
        · obtain rfl : j = S.length := by omega
          go_wp2_with fail
          refine (awake_any wr).mono ?_
          rintro e w14 ⟨rfl, hb14⟩
          try replace HC := Lib.hid (HC.out.below hb14 HC.out.lt)
          try replace HK := Lib.hid (HK.out.below hb14)
          try replace HN := Lib.hid (HN.out.below hb14)
          try replace HB := Lib.hid (HB.out.below hb14)
          try replace HO1 := Lib.hid (HO1.out.below hb14)
          try replace HO2 := Lib.hid (HO2.out.below hb14)
          try replace HO3 := Lib.hid (HO3.out.below hb14)
          try replace HO4 := Lib.hid (HO4.out.below hb14)
          try replace HO5 := Lib.hid (HO5.out.below hb14)
          try replace HO6 := Lib.hid (HO6.out.below hb14)
          try replace HR1 := Lib.hid (HR1.out.below hb14)
          try replace HR2 := Lib.hid (HR2.out.below hb14)
          try replace HR3 := Lib.hid (HR3.out.below hb14)
          try replace HR4 := Lib.hid (HR4.out.below hb14)
          try replace HR5 := Lib.hid (HR5.out.below hb14)
          try replace HR6 := Lib.hid (HR6.out.below hb14)
          replace HBW := Lib.hid (HBW.out.trans (hb14.mono HBW.out.size))
          clear hb14
          go_wp2_with fail
          go_ret
          exact ⟨rfl, HBW.out⟩
  · have hcut : ∀ W, Rd W B S → Rd W (B.map (·.add k)) (S.drop k) := fun W h => by
      have hc := h.cutL k (S.length - k) d (by omega) m4
      rw [List.take_of_length_le (by rw [HDR.out]; omega), if_neg (by omega)] at hc
      exact hc
    have n1 : ¬ d = k := by omega
    have HCUT := Lib.hid hcut
    clear hcut
    go_region_held3 (fun _ => True) (exact trivial) (first
      | (go_at_call 13; (refine (HG.out _ _ _ (by exact HC.out) (by exact HN.out) (by exact HCUT.out _ HB.out)).mono ?_); rintro e w6 ⟨A3, c3, rfl, ho3, hb6⟩))
    have hb6' : Below w4.heap.size w4 w6 := (below_drewN' (Below.refl _ _) 1).trans hb6
    have HO3 := Lib.hid (show Ow w6 w4.heap.size (.slice A3 (S.length - k) c3) (turned kb nonce (a + k) (S.drop k)) from ho3)
    clear HG HCUT hb6 ho3 q1 n1 hdk
    replace h22 := Lib.hid (h22.out.trans (hb6'.mono h22.out.size))
    try replace HC := Lib.hid (HC.out.below hb6' HC.out.lt)
    try replace HK := Lib.hid (HK.out.below hb6')
    try replace HN := Lib.hid (HN.out.below hb6')
    try replace HB := Lib.hid (HB.out.below hb6')
    try replace HO1 := Lib.hid (HO1.out.below hb6')
    try replace HO2 := Lib.hid (HO2.out.below hb6')
    try replace HO3 := Lib.hid (HO3.out.below hb6')
    try replace HO4 := Lib.hid (HO4.out.below hb6')
    try replace HO5 := Lib.hid (HO5.out.below hb6')
    try replace HO6 := Lib.hid (HO6.out.below hb6')
    try replace HR1 := Lib.hid (HR1.out.below hb6')
    try replace HR2 := Lib.hid (HR2.out.below hb6')
    try replace HR3 := Lib.hid (HR3.out.below hb6')
    try replace HR4 := Lib.hid (HR4.out.below hb6')
    try replace HR5 := Lib.hid (HR5.out.below hb6')
    try replace HR6 := Lib.hid (HR6.out.below hb6')
    replace HBW := Lib.hid (HBW.out.trans (hb6'.mono HBW.out.size))
    clear hb6'
    have HR3 := Lib.hid HO3.out.rdv
    have l2 : (turned kb nonce a (S.take k)).length = k := by rw [turned_length, HT.out]
    have l3 : (turned kb nonce (a + k) (S.drop k)).length = (S.length - k) := by rw [turned_length, HDR.out] <;> omega
    have L2 := Lib.hid l2
    have L3 := Lib.hid l3
    clear l2 l3
    go_upto_region 10 with fail
    go_wp2_with (at_builtin; refine append_bytes_g (.tmp 86) (.tmp 87) (by rfl) rfl rfl HO2.out A3 _ _ _ rfl L3.out.symm HR3.out (by rw [L2.out, L3.out]; omega) h22.out.size ?_; intro v7 w7 ho7 hg7 ha7; have hg7 : w6.grownBy w7 (Value.slice A2 k c2).ownBlock := hg7; have hb27 : Below w2.heap.size w2 w7 := below_of_append h22.out HO2.out hg7 h22.out.size (Nat.le_refl _); rw [turned_parts kb nonce a S k d1] at ho7; have HO7 := Lib.hid ho7; have HB27 := Lib.hid hb27; clear ho7 hg7 ha7 hb27; obtain ⟨A7, c7, rfl, -, -, hr7⟩ := HO7.out.form; rw [turned_length]; have HR7 := Lib.hid hr7; clear hr7)
    replace HC := Lib.hid (SC.out.below HB27.out SC.out.lt)
    replace HN := Lib.hid (SN.out.below HB27.out)
    replace HB := Lib.hid (SB.out.below HB27.out)
    replace HR1 := Lib.hid (SR.out.below HB27.out)
    replace HBW := Lib.hid (SW.out.trans (HB27.out.mono SW.out.size))
    clear HO2 HO3 HO7 HR2 HR3 h22 HB27 SC SN SB SR SW L2 L3
    have hTL := turned_length kb nonce a S
    obtain ⟨T, hTE⟩ : ∃ T, T = turned kb nonce a S := ⟨_, rfl⟩
    have hTT := turned_twice kb nonce a S
    have hTn := fun i (hi : i < S.length) => @nth_turned kb nonce a S i hi
    rw [← hTE] at hTL hTT hTn HR1 HR7
    have HTL := Lib.hid hTL
    have HTT := Lib.hid hTT
    have HTN := Lib.hid hTn
    clear hTL hTT hTn hTE
    refine (same_yes _ _ _ _ _ _ T w7 HTL.out.symm HTL.out.symm HR7.out HR1.out (by rw [HTL.out]; omega)).mono ?_
    rintro e w8 ⟨rfl, hb8⟩
    clear HR7
    try replace HC := Lib.hid (HC.out.below hb8 HC.out.lt)
    try replace HK := Lib.hid (HK.out.below hb8)
    try replace HN := Lib.hid (HN.out.below hb8)
    try replace HB := Lib.hid (HB.out.below hb8)
    try replace HO1 := Lib.hid (HO1.out.below hb8)
    try replace HO2 := Lib.hid (HO2.out.below hb8)
    try replace HO3 := Lib.hid (HO3.out.below hb8)
    try replace HO4 := Lib.hid (HO4.out.below hb8)
    try replace HO5 := Lib.hid (HO5.out.below hb8)
    try replace HO6 := Lib.hid (HO6.out.below hb8)
    try replace HR1 := Lib.hid (HR1.out.below hb8)
    try replace HR2 := Lib.hid (HR2.out.below hb8)
    try replace HR3 := Lib.hid (HR3.out.below hb8)
    try replace HR4 := Lib.hid (HR4.out.below hb8)
    try replace HR5 := Lib.hid (HR5.out.below hb8)
    try replace HR6 := Lib.hid (HR6.out.below hb8)
    replace HBW := Lib.hid (HBW.out.trans (hb8.mono HBW.out.size))
    clear hb8
    go_wp2_with fail
    refine (turn_ok gc _ 8 8 kb nonce a _ _ _ _ T w8 rfl rfl (by omega) (by rw [HTL.out]; omega) HC.out HKB.out HNL.out HN.out HTL.out.symm HR1.out).mono ?_
    rw [HTT.out, HTL.out]
    rintro e w9 ⟨A9, c9, rfl, ho9, hb9⟩
    try replace HC := Lib.hid (HC.out.below hb9 HC.out.lt)
    try replace HK := Lib.hid (HK.out.below hb9)
    try replace HN := Lib.hid (HN.out.below hb9)
    try replace HB := Lib.hid (HB.out.below hb9)
    try replace HO1 := Lib.hid (HO1.out.below hb9)
    try replace HO2 := Lib.hid (HO2.out.below hb9)
    try replace HO3 := Lib.hid (HO3.out.below hb9)
    try replace HO4 := Lib.hid (HO4.out.below hb9)
    try replace HO5 := Lib.hid (HO5.out.below hb9)
    try replace HO6 := Lib.hid (HO6.out.below hb9)
    try replace HR1 := Lib.hid (HR1.out.below hb9)
    try replace HR2 := Lib.hid (HR2.out.below hb9)
    try replace HR3 := Lib.hid (HR3.out.below hb9)
    try replace HR4 := Lib.hid (HR4.out.below hb9)
    try replace HR5 := Lib.hid (HR5.out.below hb9)
    try replace HR6 := Lib.hid (HR6.out.below hb9)
    replace HBW := Lib.hid (HBW.out.trans (hb9.mono HBW.out.size))
    clear hb9
    have HR2 := Lib.hid ho9.rdv
    clear ho9
    go_wp2_with fail
    refine (stream_ok gc _ 8 8 kb nonce a S.length _ _ w9 rfl rfl rfl (by omega) (by omega) HC.out HKB.out HNL.out HN.out).mono ?_
    rintro e w10 ⟨A10, c10, rfl, ho10, hb10⟩
    try replace HC := Lib.hid (HC.out.below hb10 HC.out.lt)
    try replace HK := Lib.hid (HK.out.below hb10)
    try replace HN := Lib.hid (HN.out.below hb10)
    try replace HB := Lib.hid (HB.out.below hb10)
    try replace HO1 := Lib.hid (HO1.out.below hb10)
    try replace HO2 := Lib.hid (HO2.out.below hb10)
    try replace HO3 := Lib.hid (HO3.out.below hb10)
    try replace HO4 := Lib.hid (HO4.out.below hb10)
    try replace HO5 := Lib.hid (HO5.out.below hb10)
    try replace HO6 := Lib.hid (HO6.out.below hb10)
    try replace HR1 := Lib.hid (HR1.out.below hb10)
    try replace HR2 := Lib.hid (HR2.out.below hb10)
    try replace HR3 := Lib.hid (HR3.out.below hb10)
    try replace HR4 := Lib.hid (HR4.out.below hb10)
    try replace HR5 := Lib.hid (HR5.out.below hb10)
    try replace HR6 := Lib.hid (HR6.out.below hb10)
    replace HBW := Lib.hid (HBW.out.trans (hb10.mono HBW.out.size))
    clear hb10
    have hc10 : S.length ≤ c10 := by
      obtain ⟨A', c', e, h, -, -⟩ := ho10.form
      rw [strm_length] at h
      injection e with _ _ e
      omega
    have HR3 := Lib.hid ho10.rdv
    clear ho10
    go_wp2_with fail
    refine (stream_ok gc _ 8 8 kb nonce (a + k) (S.length - k) _ _ w10 (by omega) (by omega) rfl (by omega) (by omega) HC.out HKB.out HNL.out HN.out).mono ?_
    rintro e w11 ⟨A11, c11, rfl, ho11, hb11⟩
    try replace HC := Lib.hid (HC.out.below hb11 HC.out.lt)
    try replace HK := Lib.hid (HK.out.below hb11)
    try replace HN := Lib.hid (HN.out.below hb11)
    try replace HB := Lib.hid (HB.out.below hb11)
    try replace HO1 := Lib.hid (HO1.out.below hb11)
    try replace HO2 := Lib.hid (HO2.out.below hb11)
    try replace HO3 := Lib.hid (HO3.out.below hb11)
    try replace HO4 := Lib.hid (HO4.out.below hb11)
    try replace HO5 := Lib.hid (HO5.out.below hb11)
    try replace HO6 := Lib.hid (HO6.out.below hb11)
    try replace HR1 := Lib.hid (HR1.out.below hb11)
    try replace HR2 := Lib.hid (HR2.out.below hb11)
    try replace HR3 := Lib.hid (HR3.out.below hb11)
    try replace HR4 := Lib.hid (HR4.out.below hb11)
    try replace HR5 := Lib.hid (HR5.out.below hb11)
    try replace HR6 := Lib.hid (HR6.out.below hb11)
    replace HBW := Lib.hid (HBW.out.trans (hb11.mono HBW.out.size))
    clear hb11
    have HR4 := Lib.hid ho11.rdv
    clear ho11
    have hx := HR3.out.cutL k (S.length - k) c10 (by rw [strm_length]; omega) (by rw [strm_length]; exact hc10)
    rw [strm_drop kb nonce a S.length k d1, List.take_of_length_le (by rw [strm_length]; omega)] at hx
    have HX := Lib.hid hx
    have hsl := strm_length kb nonce a S.length
    have hpl := strm_length kb nonce (a + k) (S.length - k)
    generalize strm kb nonce (a + k) (S.length - k) = P at *
    generalize strm kb nonce a S.length = R at *
    have HSL := Lib.hid hsl
    have HPL := Lib.hid hpl
    have f1 : k ≤ c10 := by omega
    have f2 : (k : Int) ≤ c10 := by omega
    clear hx hsl hpl
    go_wp2_with fail
    refine (same_yes _ _ _ _ _ _ S w11 rfl rfl HR2.out HB.out (by omega)).mono ?_
    rintro e w12 ⟨rfl, hb12⟩
    replace HX := Lib.hid (HX.out.below hb12)
    try replace HC := Lib.hid (HC.out.below hb12 HC.out.lt)
    try replace HK := Lib.hid (HK.out.below hb12)
    try replace HN := Lib.hid (HN.out.below hb12)
    try replace HB := Lib.hid (HB.out.below hb12)
    try replace HO1 := Lib.hid (HO1.out.below hb12)
    try replace HO2 := Lib.hid (HO2.out.below hb12)
    try replace HO3 := Lib.hid (HO3.out.below hb12)
    try replace HO4 := Lib.hid (HO4.out.below hb12)
    try replace HO5 := Lib.hid (HO5.out.below hb12)
    try replace HO6 := Lib.hid (HO6.out.below hb12)
    try replace HR1 := Lib.hid (HR1.out.below hb12)
    try replace HR2 := Lib.hid (HR2.out.below hb12)
    try replace HR3 := Lib.hid (HR3.out.below hb12)
    try replace HR4 := Lib.hid (HR4.out.below hb12)
    try replace HR5 := Lib.hid (HR5.out.below hb12)
    try replace HR6 := Lib.hid (HR6.out.below hb12)
    replace HBW := Lib.hid (HBW.out.trans (hb12.mono HBW.out.size))
    clear hb12
    go_wp2_with fail
    all_goals
      refine (same_yes _ _ _ _ _ _ P w12 (by rw [HPL.out] <;> omega) (by rw [HPL.out] <;> omega) (by have h := HX.out; split at h <;> first | exact h | (exfalso; omega)) HR4.out (by rw [HPL.out]; omega)).mono ?_
      rintro e w13 ⟨rfl, hb13⟩
      clear HX
      try replace HC := Lib.hid (HC.out.below hb13 HC.out.lt)
      try replace HK := Lib.hid (HK.out.below hb13)
      try replace HN := Lib.hid (HN.out.below hb13)
      try replace HB := Lib.hid (HB.out.below hb13)
      try replace HO1 := Lib.hid (HO1.out.below hb13)
      try replace HO2 := Lib.hid (HO2.out.below hb13)
      try replace HO3 := Lib.hid (HO3.out.below hb13)
      try replace HO4 := Lib.hid (HO4.out.below hb13)
      try replace HO5 := Lib.hid (HO5.out.below hb13)
      try replace HO6 := Lib.hid (HO6.out.below hb13)
      try replace HR1 := Lib.hid (HR1.out.below hb13)
      try replace HR2 := Lib.hid (HR2.out.below hb13)
      try replace HR3 := Lib.hid (HR3.out.below hb13)
      try replace HR4 := Lib.hid (HR4.out.below hb13)
      try replace HR5 := Lib.hid (HR5.out.below hb13)
      try replace HR6 := Lib.hid (HR6.out.below hb13)
      replace HBW := Lib.hid (HBW.out.trans (hb13.mono HBW.out.size))
      clear hb13
      go_wp2_with fail
      go_loopw [25] (fun i wr => ∃ j : Nat, j ≤ S.length ∧ i = .int .i64 j ∧ Below w13.heap.size w13 wr) (fun i _ => S.length - (intOf i).toNat)
      case atStart => exact ⟨0, by omega, rfl, Below.refl _ _⟩
      case round =>
        obtain ⟨j, hj, rfl, hbr⟩ := hrel
        have HBR := Lib.hid hbr
        try replace HC := Lib.hid (HC.out.below hbr HC.out.lt)
        try replace HK := Lib.hid (HK.out.below hbr)
        try replace HN := Lib.hid (HN.out.below hbr)
        try replace HB := Lib.hid (HB.out.below hbr)
        try replace HO1 := Lib.hid (HO1.out.below hbr)
        try replace HO2 := Lib.hid (HO2.out.below hbr)
        try replace HO3 := Lib.hid (HO3.out.below hbr)
        try replace HO4 := Lib.hid (HO4.out.below hbr)
        try replace HO5 := Lib.hid (HO5.out.below hbr)
        try replace HO6 := Lib.hid (HO6.out.below hbr)
        try replace HR1 := Lib.hid (HR1.out.below hbr)
        try replace HR2 := Lib.hid (HR2.out.below hbr)
        try replace HR3 := Lib.hid (HR3.out.below hbr)
        try replace HR4 := Lib.hid (HR4.out.below hbr)
        try replace HR5 := Lib.hid (HR5.out.below hbr)
        try replace HR6 := Lib.hid (HR6.out.below hbr)
        replace HBW := Lib.hid (HBW.out.trans (hbr.mono HBW.out.size))
        clear hbr
        by_cases e0 : j < S.length
        · obtain ⟨g3, o3, rfl, -, h3⟩ := HR1.out.2 (by intro e; have := HTL.out; rw [e] at this; simp at this; omega)
          obtain ⟨g4, o4, rfl, -, h4⟩ := HR3.out.2 (by intro e; have := HSL.out; rw [e] at this; simp at this; omega)
          obtain ⟨g5, o5, rfl, -, h5⟩ := HB.out.2 (by intro e; rw [e] at e0; simp at e0)
          have y3 := h3 j (by rw [HTL.out]; exact e0)
          have y4 := h4 j (by rw [HSL.out]; exact e0)
          have y5 := h5 j e0
          rw [HTN.out j e0, Nat.xor_comm] at y3
          have y6 : bits BinOp.xor IntKind.u8 (nth S j : Int) (nth R j : Int) = ((nth S j ^^^ nth R j : Nat) : Int) := u8_xor_nat _ _ (nth_lt HB.out.1 j) (nth_lt HR3.out.1 j)
          have y7 : ((nth S j ^^^ nth R j : Nat) : Int) < 256 := by
            have := Nat.xor_lt_two_pow (n := 8) (nth_lt HB.out.1 j) (nth_lt HR3.out.1 j)
            omega
          generalize nth S j ^^^ nth R j = X at *
          generalize nth R j = Y at *
          generalize nth S j = Z at *
          clear h3 h4 h5
          go_wp2_with fail
          go_quiet (fail)
          go_wp2_with fail
          refine ⟨⟨j + 1, by omega, by go_num, below_drewN' HBR.out nq⟩, ?_⟩
          simp [intOf]
          omega
        · obtain rfl : j = S.length := by omega
          go_wp2_with fail
          refine (awake_any wr).mono ?_
          rintro e w14 ⟨rfl, hb14⟩
          try replace HC := Lib.hid (HC.out.below hb14 HC.out.lt)
          try replace HK := Lib.hid (HK.out.below hb14)
          try replace HN := Lib.hid (HN.out.below hb14)
          try replace HB := Lib.hid (HB.out.below hb14)
          try replace HO1 := Lib.hid (HO1.out.below hb14)
          try replace HO2 := Lib.hid (HO2.out.below hb14)
          try replace HO3 := Lib.hid (HO3.out.below hb14)
          try replace HO4 := Lib.hid (HO4.out.below hb14)
          try replace HO5 := Lib.hid (HO5.out.below hb14)
          try replace HO6 := Lib.hid (HO6.out.below hb14)
          try replace HR1 := Lib.hid (HR1.out.below hb14)
          try replace HR2 := Lib.hid (HR2.out.below hb14)
          try replace HR3 := Lib.hid (HR3.out.below hb14)
          try replace HR4 := Lib.hid (HR4.out.below hb14)
          try replace HR5 := Lib.hid (HR5.out.below hb14)
          try replace HR6 := Lib.hid (HR6.out.below hb14)
          replace HBW := Lib.hid (HBW.out.trans (hb14.mono HBW.out.size))
          clear hb14
          go_wp2_with fail
          go_ret
          exact ⟨rfl, HBW.out⟩
theorem ctrPlaces_walk (cs0 : Array Value) (f0 : Nat → Nat) (cs1 : Array Value) (f1 : Nat → Nat) (a2 : Int) (A3 : Option Addr) (c3 : Nat) (l3 : List Nat) (a4 : Int) (w : World) (n0 : cs0.size = 32) (h0 : ∀ i, i < 32 → cs0[i]? = some (.int .u8 (f0 i : Nat))) (b0 : ∀ i, i < 32 → f0 i < 256)
    (n1 : cs1.size = 8) (h1 : ∀ i, i < 8 → cs1[i]? = some (.int .u8 (f1 i : Nat))) (b1 : ∀ i, i < 8 → f1 i < 256) (w2 : (Lit.int .i64 a2).wf = true) (hr3 : Rd w A3 l3) (hl3 : l3.length ≤ c3) (hm3 : c3 ≤ maxLen) (w4 : (Lit.int .i64 a4).wf = true) :
    Calls Try.prog 5 #[.agg cs0, .agg cs1, .int .i64 a2, .slice A3 l3.length c3, .int .i64 a4] w fun e w' => e = .returned (.bool true) ∧ Below w.heap.size w w' := by
  refine ctrPlaces_any cs0 cs1 ((List.range 32).map f0) ((List.range 8).map f1) (by simp) (by simp) (fun i hi => ?_) (fun x hx => ?_) (fun i hi => ?_) (fun x hx => ?_) a2 a4 A3 c3 l3 w hr3 hl3
  · rw [h0 i hi]
    simp [nth, hi]
  · obtain ⟨i, hi, rfl⟩ := List.mem_map.1 hx
    exact b0 i (by simpa using hi)
  · rw [h1 i hi]
    simp [nth, hi]
  · obtain ⟨i, hi, rfl⟩ := List.mem_map.1 hx
    exact b1 i (by simpa using hi)
end Go.Proofs.Ytmldpamkghdohaa
