/-
  THE WALKS OF journal's head, commit, one. Conditions: the slices read as lists.
-/
import Derived.Test.YtlhbijpmhokmnaaGreatQ10
import Derived.Test.YtlhbijpmhokmnaaGreatQ18
namespace Go.Proofs.YtlhbijpmhokmnaaGreat
open Go.RowKit
set_option linter.unusedSimpArgs false
set_option linter.unusedVariables false

theorem Ow.rdW {w : World} {base n c : Nat} {A : Option Addr} {l : List Nat} (h : Ow w base (.slice A n c) l) : Rd w A l := by
  obtain ⟨A', c', e, -, -, hr⟩ := h.form
  injection e with e _ _
  subst e
  exact hr
theorem rd_bs (w : World) (l : List Nat) (hl : ∀ x ∈ l, x < 256) (t : TypeId) : Rd (w.alloc (.cells (bs l).toArray t)) (some ⟨w.heap.size, 0, none⟩) l := by
  refine ⟨hl, fun _ => ⟨_, 0, rfl, by simp, fun i hi => ?_⟩⟩
  rw [Nat.zero_add, cell_of_row _ _ _ _ _ _ (heap_alloc_new w _)]
  simp [bs, bv, hi, nth_get hi]
theorem bytesV_bs (l : List Nat) : bytesV l = .agg (bs l).toArray := rfl
theorem bs_all (l : List Nat) : (bs l).toArray.all (·.oneCell') = true := by
  rw [Array.all_eq_true_iff_forall_mem]
  intro v hv
  exact bs_oneCell l v (by simpa using hv)
def zero20 : Array Value := (List.replicate 20 (Value.int .u8 0)).toArray
set_option maxRecDepth 100000 in
set_option maxHeartbeats 4000000 in
theorem head_any (k n : Nat) (w : World) (hk : k < 4294967296) (hn : n < 4294967296) :
    Calls Tryz.prog 46 #[.int .i64 k, .int .i64 n] w fun e w' => ∃ B c, e = .returned (.slice B 29 c) ∧ 29 ≤ c ∧ Ow w' w.heap.size (.slice B 29 c) (headL k n) ∧ Below w.heap.size w w' := by
  have k1 : IntKind.u32.wrap (k : Int) = k := by rw [IntKind.wrap_u32]; omega
  have k2 : IntKind.u32.wrap (n : Int) = n := by rw [IntKind.wrap_u32]; omega
  go_enter Tryz.func46, Tryz.ntmps46
  go_wp2_with fail
  have hb0 := (Below.refl w.heap.size w).alloc (Nat.le_refl _) (.cells #[.int .u8 99] 5)
  have hr0 : Rd (w.alloc (.cells #[.int .u8 99] 5)) (some ⟨w.heap.size, 0, none⟩) [99] := rd_bs w [99] (by simp) 5
  refine (add32_any (some ⟨w.heap.size, 0, none⟩) 1 1 [99] k _ rfl (by simp) (Nat.le_refl _) hr0 hk).mono ?_
  rintro e w1 ⟨B1, c1, rfl, hc1, ho1, hb1⟩
  have HB1 := Lib.hid (hb0.trans (hb1.mono hb0.size))
  have HO1 := Lib.hid ho1
  clear hb0 hr0 hb1 ho1
  go_wp2_with fail
  refine (add32_any B1 5 c1 ([99] ++ be4w k) n w1 rfl (by simp [be4w]) hc1 (Ow.rdW HO1.out) hn).mono ?_
  rintro e w2 ⟨B2, c2, rfl, hc2, ho2, hb2⟩
  have e9 : [99] ++ be4w k ++ be4w n = headB k n := rfl
  rw [e9] at ho2
  have HB2 := Lib.hid (HB1.out.trans (hb2.mono HB1.out.size))
  have HO2 := Lib.hid (ho2.mono HB1.out.size)
  clear hb2 ho2 e9 HO1
  go_wp2_with fail
  have hof := sof_any B2 c2 (headB k n) w2 (by rw [headB_length]; omega) (Ow.rdW HO2.out)
  rw [headB_length] at hof
  refine hof.mono ?_
  clear hof
  rintro e w3 ⟨rfl, hb3⟩
  rw [bytesV_bs]
  have hs20 := sha1_length (headB k n)
  have hslt := sha1_lt (headB k n)
  generalize hS : sha1 (headB k n) = S at *
  have HSE := Lib.hid hS
  have HB3 := Lib.hid (HB2.out.trans (hb3.mono HB2.out.size))
  have HO3 := Lib.hid (HO2.out.below hb3)
  have HSL := Lib.hid hs20
  have HLT := Lib.hid hslt
  clear hb3 hs20 hslt hS HO2
  obtain ⟨C, hC⟩ : ∃ C, C = (bs S).toArray := ⟨_, rfl⟩
  rw [← hC]
  have hCs : C.size = 20 := by rw [hC]; simp [bs_length, HSL.out]
  have hC1 : C.all (·.oneCell') = true := by rw [hC]; exact bs_all S
  have hrS : Rd (w3.alloc (.cells C 96)) (some ⟨w3.heap.size, 0, none⟩) S := by rw [hC]; exact rd_bs w3 S HLT.out _
  have hax : Below w3.heap.size w3 (w3.alloc (.cells C 96)) := (Below.refl _ _).alloc (Nat.le_refl _) _
  have HO4 := Lib.hid (HO3.out.below hax)
  have HB4 := Lib.hid (HB3.out.trans (hax.mono HB3.out.size))
  have HRS := Lib.hid hrS
  have HCS := Lib.hid hCs
  have HC1 := Lib.hid hC1
  have hbs : w.heap.size ≤ (w3.alloc (.cells C 96)).heap.size := HB4.out.size
  clear hC hCs hC1 hrS hax HO3 HB3
  go_wp2_with (first
    | (refine wpList_store_new 96 (.tmp 6) (.tmp 15) rfl rfl _ C rfl rfl (by rw [HCS.out]; exact size20) (by rw [HCS.out]; rfl) HC1.out ?_)
    | (at_builtin; refine append_bytes (.tmp 16) (.tmp 17) rfl rfl rfl HO4.out _ 20 20 S rfl HSL.out.symm HRS.out (by rw [headB_length, HSL.out]; omega) hbs ?_; intro v5 w5 ho5 hg5 ha5; have HO5 := Lib.hid ho5; have HB5 := Lib.hid (HB4.out.grown hg5 hbs (fun x e => (HO4.out.lt x e).1)); clear ho5 hg5 ha5))
  go_ret
  have ho := HO5.out
  have hh : headB k n ++ S = headL k n := by rw [← HSE.out]; rfl
  rw [hh] at ho
  obtain ⟨B5, c5, rfl, hc5, -, -⟩ := ho.form
  rw [headL_length] at ho hc5 ⊢
  exact ⟨B5, c5, rfl, hc5, ho, HB5.out⟩
theorem sha1_two (h b : List Nat) (hl : h.length = 29) : sumOf5 (chain5 (chain5 g0 (h ++ b) ((h ++ b).length / 64)) (padTo ((h ++ b).drop (64 * ((h ++ b).length / 64))) (29 + b.length)) ((padTo ((h ++ b).drop (64 * ((h ++ b).length / 64))) (29 + b.length)).length / 64)) = sha1 (h ++ b) := by
  have := chain5_all (h ++ b)
  rw [List.length_append, hl] at this
  rw [List.length_append, hl, this]
  rfl
set_option maxRecDepth 100000 in
set_option maxHeartbeats 4000000 in
theorem commit_any (k : Nat) (A : Option Addr) (n c : Nat) (h : List Nat) (B : Option Addr) (m d : Nat) (b : List Nat) (w : World) (hk : k < 4294967296) (hn : n = h.length) (hh : h.length = 29) (hm : m = b.length) (hb : b.length ≤ 1048576) (hA : Rd w A h) (hB : Rd w B b) :
    Calls Tryz.prog 51 #[.int .i64 k, .slice A n c, .slice B m d] w fun e w' => ∃ D c', e = .returned (.slice D 25 c') ∧ 25 ≤ c' ∧ Ow w' w.heap.size (.slice D 25 c') (commitL k h b) ∧ Below w.heap.size w w' := by
  have k1 : IntKind.u32.wrap (k : Int) = k := by rw [IntKind.wrap_u32]; omega
  have HA := Lib.hid hA
  have HB := Lib.hid hB
  have HH := Lib.hid hh
  have HN := Lib.hid hn
  have HM := Lib.hid hm
  have HBL : Hid (b.length ≤ 1048576) := hb
  clear hA hB hh hn hm hb
  go_enter Tryz.func51, Tryz.ntmps51
  go_wp2_with fail
  refine (snew_any w).mono ?_
  rintro e w1 ⟨rfl, hd1, hb1⟩
  have HD1 := Lib.hid hd1
  have HB1 := Lib.hid hb1
  clear hd1 hb1
  go_wp2_with fail
  have hw := swrite_any HD1.out (Ow.nil w1 w.heap.size) HB1.out.size (by simp [Value.ownBlock]) (by omega) A c h (by rw [HH.out]; omega) (by simp) (HA.out.below HB1.out)
  rw [← HN.out] at hw
  refine hw.mono ?_
  clear hw
  rintro e w2 ⟨rfl, rv, hd2, ho2, hc2⟩
  have e0 : n / 64 = 0 := by have := HN.out; have := HH.out; omega
  rw [List.nil_append, ← HN.out, e0, Nat.zero_add] at hd2
  rw [List.nil_append, ← HN.out, e0, Nat.mul_zero, List.drop_zero] at ho2
  have hd2 : Dh w2 w.heap.size g0 rv n := hd2
  obtain ⟨rA, rc, hrv, -, hown2, -⟩ := ho2.form
  have hne : rv.ownBlock ≠ some w.heap.size := by
    intro e
    have := ho2.lt _ e
    have := HD1.out.lt
    omega
  have hb2 : Below w.heap.size w w2 := HB1.out.trans (hc2.below (fun k e => by
    rcases e with rfl | e
    · exact Nat.le_refl _
    · simp [Value.ownBlock] at e) HB1.out.size)
  have HD2 := Lib.hid hd2
  have HO2 := Lib.hid ho2
  have HB2 := Lib.hid hb2
  have HNE := Lib.hid hne
  have hs12 : w1.heap.size ≤ w2.heap.size := hc2.size
  have HS12 := Lib.hid hs12
  clear hd2 ho2 hc2 hb2 hne e0 hrv hown2 hs12 HD1
  go_wp2_with fail
  have hw := swrite_any HD2.out HO2.out HS12.out HNE.out (by have := HN.out; have := HH.out; omega) B d b (by have := HBL.out; omega) (by have := HH.out; omega) (HB.out.below HB2.out)
  rw [← HM.out] at hw
  refine hw.mono ?_
  clear hw
  rintro e w3 ⟨rfl, rv3, hd3, ho3, hc3⟩
  have hb3 : Below w.heap.size w w3 := HB2.out.trans (hc3.below (fun k e => by
    rcases e with rfl | e
    · exact Nat.le_refl _
    · have := (HO2.out.lt k e).1; have := HB1.out.size; omega) HB2.out.size)
  obtain ⟨rA3, rc3, rfl, -, -, hr3⟩ := ho3.form
  have HD3 := Lib.hid hd3
  have HR3 := Lib.hid hr3
  have HB3 := Lib.hid hb3
  clear hd3 ho3 hc3 hb3 hr3 HD2 HO2 HNE HS12
  go_wp2_with fail
  refine (ssum_any HD3.out HR3.out (by rw [List.length_drop]; omega) (by have := HN.out; have := HH.out; have := HM.out; have := HBL.out; omega)).mono ?_
  rintro e w4 ⟨he, hb4⟩
  have hs2 := sha1_two h b HH.out
  rw [show n + m = 29 + b.length by rw [HN.out, HH.out, HM.out], hs2, bytesV_bs] at he
  have hs20 := sha1_length (h ++ b)
  have hslt := sha1_lt (h ++ b)
  generalize hS : sha1 (h ++ b) = S at *
  subst he
  have HSE := Lib.hid hS
  have HB4 := Lib.hid (HB3.out.trans (hb4.mono HB3.out.size))
  have HSL := Lib.hid hs20
  have HLT := Lib.hid hslt
  clear hb4 hs20 hslt hS hs2 HD3 HR3
  obtain ⟨C, hC⟩ : ∃ C, C = (bs S).toArray := ⟨_, rfl⟩
  rw [← hC]
  have hCs : C.size = 20 := by rw [hC]; simp [bs_length, HSL.out]
  have hC1 : C.all (·.oneCell') = true := by rw [hC]; exact bs_all S
  have hrS : Rd (w4.alloc (.cells C 96)) (some ⟨w4.heap.size, 0, none⟩) S := by rw [hC]; exact rd_bs w4 S HLT.out _
  have hax : Below w4.heap.size w4 (w4.alloc (.cells C 96)) := (Below.refl _ _).alloc (Nat.le_refl _) _
  have HB5 := Lib.hid (HB4.out.trans (hax.mono HB4.out.size))
  have HRS := Lib.hid hrS
  have HCS := Lib.hid hCs
  have HC1 := Lib.hid hC1
  clear hC hCs hC1 hrS hax
  go_wp2_with (refine wpList_store_new 96 (.tmp 8) (.tmp 17) rfl rfl _ C rfl rfl (by rw [HCS.out]; exact size20) (by rw [HCS.out]; rfl) HC1.out ?_)
  generalize w4.alloc (.cells C 96) = Y at *
  have hbY := HB5.out.size
  go_region_law (first
    | (go_simp; go_at_call 72; (refine (add32_any (some ⟨Y.heap.size, 0, none⟩) 1 1 [122] k _ rfl (by simp) (Nat.le_refl _) (by first | exact rd_bs Y [122] (by simp) 5 | exact rd_bs Y.drew [122] (by simp) 5) hk).mono ?_); rintro e w6 ⟨B6, c6, rfl, hc6, ho6, hb6⟩
       have e5 : [122] ++ be4w k = 122 :: be4w k := rfl
       rw [e5] at ho6
       have hb06 : Below Y.heap.size Y w6 := by
         first
           | exact ((Below.refl Y.heap.size Y).alloc (Nat.le_refl _) _).trans (hb6.mono (by simp))
           | exact ((Below.refl Y.heap.size Y).drew.alloc (Nat.le_refl _) _).trans (hb6.mono (by simp))
           | exact ((below_drewN' (Below.refl Y.heap.size Y) 1).alloc (Nat.le_refl _) _).trans (hb6.mono (by simp))
           | exact (below_drewN' ((Below.refl Y.heap.size Y).alloc (Nat.le_refl _) _) 1).trans (hb6.mono (by simp))
       have HB6 := Lib.hid (HB5.out.trans (hb06.mono HB5.out.size))
       have HO6 := Lib.hid (ho6.mono (show Y.heap.size ≤ _ by simp))
       have HR6 := Lib.hid (HRS.out.below hb06)
       have hs6 : Y.heap.size ≤ w6.heap.size := hb06.size
       clear ho6 hb6 hb06 e5)
    | (refine step_append_bytes (.tmp 21) (.tmp 22) rfl rfl rfl HO6.out _ 20 20 S rfl HSL.out.symm HR6.out (by rw [HSL.out]; simp [be4w]) hs6 ?_; intro v7 w7 ho7 hg7 ha7
       have HO7 := Lib.hid ho7
       have HB7 := Lib.hid (HB6.out.grown hg7 (by have := HB6.out.size; omega) (fun x e => by have := (HO6.out.lt x e).1; omega))
       clear ho7 hg7 ha7))
  all_goals
    go_wp2
    go_ret
    have ho := HO7.out
    have hcm : 122 :: be4w k ++ S = commitL k h b := by rw [← HSE.out]; rfl
    rw [hcm] at ho
    obtain ⟨D7, c7, rfl, hc7, -, -⟩ := ho.form
    rw [commitL_length] at ho hc7 ⊢
    exact ⟨D7, c7, rfl, hc7, ho.mono hbY, HB7.out⟩
/-- What one tells. -/
def OneP (l : List Nat) (k : Nat) (w : World) (e : Ending) (w' : World) : Prop :=
  Below w.heap.size w w' ∧ ((oneJ l k = none ∧ ∃ v, e = .returned (.tuple #[v, .bool false])) ∨ (∃ body A' c', oneJ l k = some body ∧ e = .returned (.tuple #[.slice A' body.length c', .bool true]) ∧ body.length ≤ c' ∧ Rd w' A' body))
theorem oneJ_no1 {l : List Nat} {k : Nat} (h : l.length < 9) : oneJ l k = none := by unfold oneJ; rw [if_pos h]
theorem oneJ_no2 {l : List Nat} {k : Nat} (h : be4 l 5 < 1 ∨ 1048576 < be4 l 5) : oneJ l k = none := by
  unfold oneJ
  by_cases h9 : l.length < 9
  · rw [if_pos h9]
  · rw [if_neg h9, if_pos h]
theorem oneJ_no3 {l : List Nat} {k : Nat} (h : pfx (headL k (be4 l 5)) l = false ∨ l.length - 29 < be4 l 5) : oneJ l k = none := by
  unfold oneJ
  split
  · rfl
  · split
    · rfl
    · rw [if_neg]
      rintro ⟨h1, h2⟩
      rcases h with h | h
      · have : pfx (headL k (be4 l 5)) l = true := h1
        rw [this] at h; cases h
      · omega
theorem oneJ_at {l : List Nat} {k : Nat} (h0 : 9 ≤ l.length) (h1 : 1 ≤ be4 l 5) (h2 : be4 l 5 ≤ 1048576) (h3 : pfx (headL k (be4 l 5)) l = true) (h4 : be4 l 5 ≤ l.length - 29) :
    oneJ l k = if pfx (commitL k (headL k (be4 l 5)) ((l.drop 29).take (be4 l 5))) (l.drop (29 + be4 l 5)) = true then some ((l.drop 29).take (be4 l 5)) else none := by
  unfold oneJ
  rw [if_neg (by omega), if_neg (by omega), if_pos ⟨h3, h4⟩]
  rfl
theorem rd_cutL {w : World} {B : Option Addr} {l : List Nat} (h : Rd w B l) (a c : Nat) (hc : a ≤ l.length) (hlc : l.length ≤ c) : Rd w (if c = a then B else B.map (·.add a)) (l.drop a) := by
  have := h.cut a (l.length - a) c (by omega) hlc
  rwa [List.take_of_length_le (by simp)] at this
set_option maxRecDepth 100000 in
set_option maxHeartbeats 4000000 in
theorem one_short_any (A : Option Addr) (n c : Nat) (l : List Nat) (k : Nat) (w : World) (hn : n = l.length) (h9 : n < 9) : Calls Tryz.prog 38 #[.slice A n c, .int .i64 k] w (OneP l k w) := by
  have HO := Lib.hid (oneJ_no1 (k := k) (show l.length < 9 by omega))
  clear hn
  go_enter Tryz.func38, Tryz.ntmps38
  go_wp2_with fail
  refine (u32_no A n c w h9).mono ?_
  rintro e w' ⟨rfl, rfl⟩
  go_wp2_with fail
  go_ret2
  exact ⟨Below.refl _ _, .inl ⟨HO.out, _, rfl⟩⟩
set_option maxRecDepth 100000 in
set_option maxHeartbeats 4000000 in
theorem one_num_any (A : Option Addr) (n c : Nat) (l : List Nat) (k v : Nat) (w : World) (hu : Calls Tryz.prog 70 #[.slice A n c, .int .i64 5] w fun e w' => e = .returned (.tuple #[.int .u32 v, .bool true]) ∧ w = w') (hv : v < 1 ∨ 1048576 < v) (ho : oneJ l k = none) :
    Calls Tryz.prog 38 #[.slice A n c, .int .i64 k] w (OneP l k w) := by
  have HO := Lib.hid ho
  have HU := Lib.hid hu
  have hcase : (v : Int) < 1 ∨ (¬ (v : Int) < 1 ∧ (1048576 : Int) < v) := by omega
  clear hu ho hv
  rcases hcase with h1 | ⟨h1, h2⟩
  all_goals
    go_enter Tryz.func38, Tryz.ntmps38
    go_wp2_with fail
    refine HU.out.mono ?_
    rintro e w' ⟨rfl, rfl⟩
    go_wp2_with fail
    go_ret2
    exact ⟨Below.refl _ _, .inl ⟨HO.out, _, rfl⟩⟩
set_option maxRecDepth 100000 in
set_option maxHeartbeats 4000000 in
theorem one_head_any (A : Option Addr) (n c : Nat) (l : List Nat) (k v : Nat) (w : World) (hu : Calls Tryz.prog 70 #[.slice A n c, .int .i64 5] w fun e w' => e = .returned (.tuple #[.int .u32 v, .bool true]) ∧ w = w') (hv : 1 ≤ v) (hv2 : v ≤ 1048576) (hk : k < 4294967296) (hn : n = l.length) (hnl : n ≤ 5000000) (hc : n ≤ c) (hr : Rd w A l)
    (hp : pfx (headL k v) l = false) (ho : oneJ l k = none) :
    Calls Tryz.prog 38 #[.slice A n c, .int .i64 k] w (OneP l k w) := by
  have HO := Lib.hid ho
  have HU := Lib.hid hu
  have HP := Lib.hid hp
  have HN := Lib.hid hn
  have HR := Lib.hid hr
  have h1 : ¬ (v : Int) < 1 := by omega
  have h2 : ¬ (1048576 : Int) < v := by omega
  have hw1 : IntKind.i64.wrap (v : Int) = v := by simp [IntKind.wrap, IntKind.signed, IntKind.bits]; omega
  clear hu ho hp hn hr
  go_enter Tryz.func38, Tryz.ntmps38
  go_wp2_with fail
  refine HU.out.mono ?_
  rintro e w' ⟨rfl, rfl⟩
  go_wp2_with fail
  refine (head_any k v w hk (by omega)).mono ?_
  rintro e w1 ⟨B1, c1, rfl, hc1, ho1, hb1⟩
  have HO1 := Lib.hid ho1
  have HB1 := Lib.hid hb1
  clear ho1 hb1
  go_wp2_with fail
  refine (hasp_any _ B1 _ 29 _ c1 l (headL k v) w1 (by exact HN.out) (headL_length k v).symm (by first | exact hc | exact Nat.le_refl _) (HR.out.below HB1.out) (Ow.rdW HO1.out)).mono ?_
  rw [HP.out]
  rintro e w' ⟨rfl, rfl⟩
  go_wp2_with fail
  go_ret2
  exact ⟨HB1.out, .inl ⟨HO.out, _, rfl⟩⟩
set_option maxRecDepth 100000 in
set_option maxHeartbeats 4000000 in
theorem one_cut_any (A : Option Addr) (n c : Nat) (l : List Nat) (k v : Nat) (w : World) (hu : Calls Tryz.prog 70 #[.slice A n c, .int .i64 5] w fun e w' => e = .returned (.tuple #[.int .u32 v, .bool true]) ∧ w = w') (hv : 1 ≤ v) (hv2 : v ≤ 1048576) (hk : k < 4294967296) (hn : n = l.length) (hnl : n ≤ 5000000) (hc : n ≤ c) (hr : Rd w A l)
    (hp : pfx (headL k v) l = true) (h29 : 29 ≤ n) (hs : n - 29 < v) (ho : oneJ l k = none) :
    Calls Tryz.prog 38 #[.slice A n c, .int .i64 k] w (OneP l k w) := by
  have HO := Lib.hid ho
  have HU := Lib.hid hu
  have HP := Lib.hid hp
  have HN := Lib.hid hn
  have HR := Lib.hid hr
  have h1 : ¬ (v : Int) < 1 := by omega
  have h2 : ¬ (1048576 : Int) < v := by omega
  have h3 : (n : Int) - 29 < v := by omega
  have hw1 : IntKind.i64.wrap (v : Int) = v := by simp [IntKind.wrap, IntKind.signed, IntKind.bits]; omega
  clear hu ho hp hn hr
  go_enter Tryz.func38, Tryz.ntmps38
  go_wp2_with fail
  refine HU.out.mono ?_
  rintro e w' ⟨rfl, rfl⟩
  go_wp2_with fail
  refine (head_any k v w hk (by omega)).mono ?_
  rintro e w1 ⟨B1, c1, rfl, hc1, ho1, hb1⟩
  have HO1 := Lib.hid ho1
  have HB1 := Lib.hid hb1
  clear ho1 hb1
  go_wp2_with fail
  refine (hasp_any _ B1 _ 29 _ c1 l (headL k v) w1 (by exact HN.out) (headL_length k v).symm (by first | exact hc | exact Nat.le_refl _) (HR.out.below HB1.out) (Ow.rdW HO1.out)).mono ?_
  rw [HP.out]
  rintro e w' ⟨rfl, rfl⟩
  go_wp2_with fail
  go_ret2
  exact ⟨HB1.out, .inl ⟨HO.out, _, rfl⟩⟩
set_option maxRecDepth 100000 in
set_option maxHeartbeats 8000000 in
theorem one_all_any (A : Option Addr) (n c : Nat) (l : List Nat) (k v t : Nat) (w : World) (hu : Calls Tryz.prog 70 #[.slice A n c, .int .i64 5] w fun e w' => e = .returned (.tuple #[.int .u32 v, .bool true]) ∧ w = w') (hv : 1 ≤ v) (hv2 : v ≤ 1048576) (hk : k < 4294967296) (hn : n = l.length) (hnl : n ≤ 5000000) (hc : n ≤ c) (hr : Rd w A l)
    (hp : pfx (headL k v) l = true) (ht : t = 29 + v) (htn : t ≤ n) (ho : oneJ l k = if pfx (commitL k (headL k v) ((l.drop 29).take v)) (l.drop t) = true then some ((l.drop 29).take v) else none) :
    Calls Tryz.prog 38 #[.slice A n c, .int .i64 k] w (OneP l k w) := by
  have h1 : ¬ (v : Int) < 1 := by omega
  have h2 : ¬ (1048576 : Int) < v := by omega
  have h3 : ¬ (n : Int) - 29 < v := by omega
  have hw1 : IntKind.i64.wrap (v : Int) = v := by simp [IntKind.wrap, IntKind.signed, IntKind.bits]; omega
  have h4 : IntKind.i64.wrap (29 + (v : Int)) = (t : Int) := by simp [IntKind.wrap, IntKind.signed, IntKind.bits]; omega
  have h5 : (t : Int) ≤ c := by omega
  have h6 : (t : Int) ≤ n := by omega
  have h7 : (29 : Int) ≤ t := by omega
  have h8 : t ≤ c := by omega
  have h10 : 29 ≤ t := by omega
  have h11 : t - 29 = v := by omega
  have h12 : ¬ c = 29 := by omega
  obtain ⟨g, o, rfl, hgl, hcell⟩ := hr.2 (by intro e; rw [e] at hn; simp at hn; omega)
  obtain ⟨D, hD⟩ : ∃ D : Option Addr, D = some ⟨g, o + 29, none⟩ := ⟨_, rfl⟩
  have hrD : Rd w D ((l.drop 29).take v) := by rw [hD]; exact rd_takeL (rd_drop_on hr 29) v
  obtain ⟨E, hE, hrE⟩ : ∃ E : Option Addr, (E = if c = t then some ⟨g, o, none⟩ else some ⟨g, o + t, none⟩) ∧ Rd w E (l.drop t) := by
    refine ⟨_, rfl, ?_⟩
    split
    · exact rd_drop_same hr t (by omega)
    · exact rd_drop_on hr t
  clear hgl hcell
  obtain ⟨body, hbody⟩ : ∃ body, body = (l.drop 29).take v := ⟨_, rfl⟩
  have hbl : v = body.length := by rw [hbody, List.length_take, List.length_drop, ← hn]; omega
  have hel : n - t = (l.drop t).length := by rw [List.length_drop, ← hn]
  have hcv : v ≤ c - 29 := by omega
  have hcr : n - t ≤ c - t := by omega
  rw [← hbody] at ho hrD
  have HBL := Lib.hid hbl
  have HEL := Lib.hid hel
  have HRD := Lib.hid hrD
  have HRE := Lib.hid hrE
  have HO := Lib.hid ho
  have HU := Lib.hid hu
  have HP := Lib.hid hp
  have HN := Lib.hid hn
  have HR := Lib.hid hr
  clear hu ho hp hn hr hbody hbl hel hrD hrE ht
  generalize l.drop t = R at *
  have hcase : (c = t ∧ E = some ⟨g, o, none⟩) ∨ (¬ c = t ∧ E = some ⟨g, o + t, none⟩) := by
    rw [hE]
    by_cases hct : c = t
    · exact .inl ⟨hct, if_pos hct⟩
    · exact .inr ⟨hct, if_neg hct⟩
  have HDD := Lib.hid hD
  clear hE hD
  rcases hcase with ⟨hct, hEE⟩ | ⟨hct, hEE⟩
  · obtain rfl : n = t := by omega
    subst hct
    have hel0 : 0 = R.length := by rw [← HEL.out]; omega
    have HEL0 := Lib.hid hel0
    clear hel0 hcr
    subst hEE
    obtain rfl := HDD.out
    as_aux_lemma =>
      go_enter Tryz.func38, Tryz.ntmps38
      go_wp2_with fail
      refine HU.out.mono ?_
      rintro e w' ⟨rfl, rfl⟩
      go_wp2_with fail
      refine (head_any k v w hk (by omega)).mono ?_
      rintro e w1 ⟨B1, c1, rfl, hc1, ho1, hb1⟩
      have HO1 := Lib.hid ho1
      have HB1 := Lib.hid hb1
      clear ho1 hb1
      go_wp2_with fail
      refine (hasp_any _ B1 _ 29 _ c1 l (headL k v) w1 (by exact HN.out) (headL_length k v).symm (by first | exact hc | exact Nat.le_refl _) (HR.out.below HB1.out) (Ow.rdW HO1.out)).mono ?_
      rw [HP.out]
      rintro e w' ⟨rfl, rfl⟩
      go_wp2_with fail
      have HBD : Hid (Below w1.heap.size w1 w1.drew) := below_drewN' (Below.refl _ _) 1
      have HRH := Lib.hid ((Ow.rdW HO1.out).below HBD.out)
      have HRB := Lib.hid ((HRD.out.below HB1.out).below HBD.out)
      have HRR := Lib.hid ((HRE.out.below HB1.out).below HBD.out)
      have HB1D := Lib.hid (HB1.out.trans (HBD.out.mono HB1.out.size))
      go_region_held3 (fun _ => True) (exact trivial)
        (first
          | (go_at_call 51; (refine (commit_any k B1 29 c1 (headL k v) _ v _ body _ hk (headL_length k v).symm (headL_length k v) HBL.out (by have := HBL.out; omega) (by exact HRH.out) (by exact HRB.out)).mono ?_); rintro e w2 ⟨B2, c2, rfl, hc2, ho2, hb2⟩
             have HO2 := Lib.hid ho2
             have HB2 := Lib.hid (HB1D.out.trans (hb2.mono HB1D.out.size))
             have HRR2 := Lib.hid (HRR.out.below hb2)
             have HRB2 := Lib.hid (HRB.out.below hb2)
             clear ho2 hb2)
          | (go_at_call 37; (refine (hasp_any _ B2 _ 25 _ c2 R (commitL k (headL k v) body) _ (by first | exact HEL.out | exact HEL0.out) (commitL_length _ _ _).symm (by first | exact hcr | exact Nat.le_refl _ | omega) (by exact HRR2.out) (by exact Ow.rdW HO2.out)).mono ?_); rintro e w3 ⟨rfl, rfl⟩))
      all_goals
        generalize hq : pfx (commitL k (headL k v) body) R = q at *
        have hO := HO.out
        have HQ := Lib.hid hq
        clear hq
        cases q with
        | false =>
          have HOJ : Hid (oneJ l k = none) := by rw [hO, if_neg (by simp)]; rfl
          clear hO HO
          go_wp2
          go_ret2
          exact ⟨HB2.out, .inl ⟨HOJ.out, _, rfl⟩⟩
        | true =>
          have HOJ : Hid (oneJ l k = some body) := by rw [hO, if_pos rfl]; rfl
          clear hO HO
          go_wp2
          go_ret2
          have hbl := HBL.out
          subst hbl
          exact ⟨HB2.out, .inr ⟨body, _, _, HOJ.out, rfl, (by first | exact hcv | exact Nat.le_refl _ | omega), HRB2.out⟩⟩
  · subst hEE
    obtain rfl := HDD.out
    as_aux_lemma =>
      go_enter Tryz.func38, Tryz.ntmps38
      go_wp2_with fail
      refine HU.out.mono ?_
      rintro e w' ⟨rfl, rfl⟩
      go_wp2_with fail
      refine (head_any k v w hk (by omega)).mono ?_
      rintro e w1 ⟨B1, c1, rfl, hc1, ho1, hb1⟩
      have HO1 := Lib.hid ho1
      have HB1 := Lib.hid hb1
      clear ho1 hb1
      go_wp2_with fail
      refine (hasp_any _ B1 _ 29 _ c1 l (headL k v) w1 (by exact HN.out) (headL_length k v).symm (by first | exact hc | exact Nat.le_refl _) (HR.out.below HB1.out) (Ow.rdW HO1.out)).mono ?_
      rw [HP.out]
      rintro e w' ⟨rfl, rfl⟩
      go_wp2_with fail
      have HBD : Hid (Below w1.heap.size w1 w1.drew) := below_drewN' (Below.refl _ _) 1
      have HRH := Lib.hid ((Ow.rdW HO1.out).below HBD.out)
      have HRB := Lib.hid ((HRD.out.below HB1.out).below HBD.out)
      have HRR := Lib.hid ((HRE.out.below HB1.out).below HBD.out)
      have HB1D := Lib.hid (HB1.out.trans (HBD.out.mono HB1.out.size))
      go_region_held3 (fun _ => True) (exact trivial)
        (first
          | (go_at_call 51; (refine (commit_any k B1 29 c1 (headL k v) _ v _ body _ hk (headL_length k v).symm (headL_length k v) HBL.out (by have := HBL.out; omega) (by exact HRH.out) (by exact HRB.out)).mono ?_); rintro e w2 ⟨B2, c2, rfl, hc2, ho2, hb2⟩
             have HO2 := Lib.hid ho2
             have HB2 := Lib.hid (HB1D.out.trans (hb2.mono HB1D.out.size))
             have HRR2 := Lib.hid (HRR.out.below hb2)
             have HRB2 := Lib.hid (HRB.out.below hb2)
             clear ho2 hb2)
          | (go_at_call 37; (refine (hasp_any _ B2 _ 25 _ c2 R (commitL k (headL k v) body) _ (by first | exact HEL.out | exact HEL0.out) (commitL_length _ _ _).symm (by first | exact hcr | exact Nat.le_refl _ | omega) (by exact HRR2.out) (by exact Ow.rdW HO2.out)).mono ?_); rintro e w3 ⟨rfl, rfl⟩))
      all_goals
        generalize hq : pfx (commitL k (headL k v) body) R = q at *
        have hO := HO.out
        have HQ := Lib.hid hq
        clear hq
        cases q with
        | false =>
          have HOJ : Hid (oneJ l k = none) := by rw [hO, if_neg (by simp)]; rfl
          clear hO HO
          go_wp2
          go_ret2
          exact ⟨HB2.out, .inl ⟨HOJ.out, _, rfl⟩⟩
        | true =>
          have HOJ : Hid (oneJ l k = some body) := by rw [hO, if_pos rfl]; rfl
          clear hO HO
          go_wp2
          go_ret2
          have hbl := HBL.out
          subst hbl
          exact ⟨HB2.out, .inr ⟨body, _, _, HOJ.out, rfl, (by first | exact hcv | exact Nat.le_refl _ | omega), HRB2.out⟩⟩
theorem one_any (A : Option Addr) (n c : Nat) (l : List Nat) (k : Nat) (w : World) (hn : n = l.length) (hl : l.length ≤ 5000000) (hc : n ≤ c) (hk : k < 4294967296) (hr : Rd w A l) :
    Calls Tryz.prog 38 #[.slice A n c, .int .i64 k] w (OneP l k w) := by
  by_cases h9 : n < 9
  · exact one_short_any A n c l k w hn h9
  · have hu := u32_yes A n c l w hn (by omega) (by omega) hc hr
    by_cases hv : be4 l 5 < 1 ∨ 1048576 < be4 l 5
    · exact one_num_any A n c l k _ w hu hv (oneJ_no2 hv)
    · cases hp : pfx (headL k (be4 l 5)) l with
      | false => exact one_head_any A n c l k _ w hu (by omega) (by omega) hk hn (by omega) hc hr hp (oneJ_no3 (.inl hp))
      | true =>
        have hpl : 29 ≤ l.length := by
          have := (List.isPrefixOf_iff_prefix.1 (show (headL k (be4 l 5)).isPrefixOf l = true from hp)).length_le
          rw [headL_length] at this
          exact this
        by_cases hs : n - 29 < be4 l 5
        · exact one_cut_any A n c l k _ w hu (by omega) (by omega) hk hn (by omega) hc hr hp (by omega) hs (oneJ_no3 (.inr (by omega)))
        · exact one_all_any A n c l k _ (29 + be4 l 5) w hu (by omega) (by omega) hk hn (by omega) hc hr hp rfl (by omega) (oneJ_at (by omega) (by omega) (by omega) hp (by omega))
end Go.Proofs.YtlhbijpmhokmnaaGreat
