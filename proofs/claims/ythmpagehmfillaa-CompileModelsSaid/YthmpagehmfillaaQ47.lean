/-
  THE WALK OF valid.Check. Conditions: the bytes read so.
  THE WALK OF quillpresslaw23.CompileModels. Conditions: none.
-/
import Derived.Test.YthmpagehmfillaaQ46
import Derived.Carry
import Derived.Test.YthmpagehmfillaaQ40
import Derived.Test.YthmpagehmfillaaQ45
namespace Go.Proofs.Ythmpagehmfillaa
open Go.RowKit
open Go.Maps (has)
set_option linter.unusedSimpArgs false
set_option linter.unusedVariables false
set_option maxRecDepth 100000
abbrev ckW (w : World) (post : Bool) : World := ((((((w.alloc (.cells #[.bool post] 4)).alloc (.map #[] 0)).alloc (.map #[] 0)).alloc (.cells #[.map (some (w.heap.size + 1))] 74)).alloc (.cells #[.map (some (w.heap.size + 2))] 74)).alloc (.cells #[.bool true] 4)).alloc (.cells #[.int .u8 0] 54)
theorem al_old (w : World) (o : Obj) {k : Nat} (h : k < w.heap.size) : (w.alloc o).heap[k]? = w.heap[k]? := ((Below.refl w.heap.size w).alloc (Nat.le_refl _) o).block k h
theorem ck_one {w : World} {g : Nat} {t : TypeId} {v : Value} (h : w.heap[g]? = some (.cells #[v] t (0, 0))) : w.rowIs g t 1 (fun _ => v) := ⟨_, h, rfl, fun i hi => by
  match i, hi with
  | 0, _ => rfl⟩
theorem ck_init (w : World) (post : Bool) : CkR w.heap.size post [] (ckW w post) ∧ Below w.heap.size w (ckW w post) ∧ (ckW w post).heap.size = w.heap.size + 7 := by
  unfold ckW
  obtain ⟨a0, s0, b0⟩ := And.intro (heap_alloc_new w (.cells #[.bool post] 4)) (And.intro (World.size_alloc w (.cells #[.bool post] 4)) ((Below.refl w.heap.size w).alloc (Nat.le_refl _) (.cells #[.bool post] 4)))
  generalize w.alloc (.cells #[.bool post] 4) = w1 at *
  obtain ⟨a1, s1, b1⟩ := And.intro (World.ownsMap_made w1 Try.prog 3 (plainElem (H := Unit) Try.prog 3)) (And.intro (World.size_alloc w1 (.map #[] 0)) ((Below.refl w1.heap.size w1).alloc (Nat.le_refl _) (.map #[] 0)))
  generalize w1.alloc (.map #[] 0) = w2 at *
  obtain ⟨a2, s2, b2⟩ := And.intro (World.ownsMap_made w2 Try.prog 3 (plainElem (H := Unit) Try.prog 3)) (And.intro (World.size_alloc w2 (.map #[] 0)) ((Below.refl w2.heap.size w2).alloc (Nat.le_refl _) (.map #[] 0)))
  generalize w2.alloc (.map #[] 0) = w3 at *
  obtain ⟨a3, s3, b3⟩ := And.intro (heap_alloc_new w3 (.cells #[.map (some (w.heap.size + 1))] 74)) (And.intro (World.size_alloc w3 (.cells #[.map (some (w.heap.size + 1))] 74)) ((Below.refl w3.heap.size w3).alloc (Nat.le_refl _) (.cells #[.map (some (w.heap.size + 1))] 74)))
  generalize w3.alloc (.cells #[.map (some (w.heap.size + 1))] 74) = w4 at *
  obtain ⟨a4, s4, b4⟩ := And.intro (heap_alloc_new w4 (.cells #[.map (some (w.heap.size + 2))] 74)) (And.intro (World.size_alloc w4 (.cells #[.map (some (w.heap.size + 2))] 74)) ((Below.refl w4.heap.size w4).alloc (Nat.le_refl _) (.cells #[.map (some (w.heap.size + 2))] 74)))
  generalize w4.alloc (.cells #[.map (some (w.heap.size + 2))] 74) = w5 at *
  obtain ⟨a5, s5, b5⟩ := And.intro (heap_alloc_new w5 (.cells #[.bool true] 4)) (And.intro (World.size_alloc w5 (.cells #[.bool true] 4)) ((Below.refl w5.heap.size w5).alloc (Nat.le_refl _) (.cells #[.bool true] 4)))
  generalize w5.alloc (.cells #[.bool true] 4) = w6 at *
  obtain ⟨a6, s6, b6⟩ := And.intro (heap_alloc_new w6 (.cells #[.int .u8 0] 54)) (And.intro (World.size_alloc w6 (.cells #[.int .u8 0] 54)) ((Below.refl w6.heap.size w6).alloc (Nat.le_refl _) (.cells #[.int .u8 0] 54)))
  generalize w6.alloc (.cells #[.int .u8 0] 54) = w7 at *
  have t6 := b6
  have t5 := b5.trans (t6.mono b5.size)
  have t4 := b4.trans (t5.mono b4.size)
  have t3 := b3.trans (t4.mono b3.size)
  have t2 := b2.trans (t3.mono b2.size)
  have t1 := b1.trans (t2.mono b1.size)
  have t0 := b0.trans (t1.mono b0.size)
  have z1 : w1.heap.size = w.heap.size + 1 := s0
  have z2 : w2.heap.size = w.heap.size + 2 := by rw [s1, z1]
  have z3 : w3.heap.size = w.heap.size + 3 := by rw [s2, z2]
  have z4 : w4.heap.size = w.heap.size + 4 := by rw [s3, z3]
  have z5 : w5.heap.size = w.heap.size + 5 := by rw [s4, z4]
  have z6 : w6.heap.size = w.heap.size + 6 := by rw [s5, z5]
  rw [z1] at a1
  rw [z2] at a2
  rw [z3] at a3
  rw [z4] at a4
  rw [z5] at a5
  rw [z6] at a6
  refine ⟨⟨⟨ck_one ((t1.block _ (by omega)).trans a0), ck_one ((t4.block _ (by omega)).trans a3), ck_one ((t5.block _ (by omega)).trans a4), ck_one ((t6.block _ (by omega)).trans a5), ck_one a6⟩, a1.kept (grown_of_below t2 none) (by simp), a2.kept (grown_of_below t3 none) (by simp)⟩, t0, by rw [s6, z6]⟩
theorem below_gn {w w' : World} (h : w.grownBy w' none) : Below w.heap.size w w' := ⟨h.os, h.tape, h.output, h.size, fun k hk => h.block k hk (by simp)⟩
theorem goesL_key {L : List (Nat × InsS)} : ∀ x ∈ goesL L, WideAt.IsKeyLit x := by
  intro x hx
  obtain ⟨y, -, rfl⟩ := List.mem_map.1 hx
  exact trivial
theorem startL_key {L : List (Nat × InsS)} : ∀ x ∈ startL L, WideAt.IsKeyLit x := by
  intro x hx
  obtain ⟨y, -, rfl⟩ := List.mem_map.1 hx
  exact trivial
theorem has_mem {l : List Lit} (hl : ∀ x ∈ l, WideAt.IsKeyLit x) {k : Lit} : has (Maps.setOf oneU l) k = true ↔ k ∈ l := by
  rw [Maps.has_setOf oneU k l hl, List.any_eq_true]
  constructor
  · rintro ⟨x, hx, h⟩
    rw [← WideAt.sameKey_eq h]
    exact hx
  · exact fun h => ⟨k, h, WideAt.sameKey_self (hl k h)⟩
theorem vq_start {post : Bool} {L : List (Nat × InsS)} : goodF post L = true ↔ goodF post L = true ∧ ∀ k ∈ goesL L, has (Maps.setOf oneU (goesL L)) k = false → k ∈ startL L :=
  ⟨fun h => ⟨h, fun k hk h0 => by rw [(has_mem goesL_key).2 hk] at h0; cases h0⟩, fun h => h.1⟩
theorem vq_step {left : Lit → Bool} {x : Lit} {l S : List Lit} {G : Prop} {g v : Bool} (hk : WideAt.IsKeyLit x) (hx : x ∈ l) (h : g = true ↔ G ∧ ∀ k ∈ l, left k = false → k ∈ S) (hv : v = true ↔ g = true ∧ x ∈ S) :
    v = true ↔ G ∧ ∀ k ∈ l, (left k && !k.sameKey x) = false → k ∈ S := by
  rw [hv, h]
  constructor
  · rintro ⟨⟨h1, h2⟩, h3⟩
    refine ⟨h1, fun k hk' h0 => ?_⟩
    cases hl : left k with
    | false => exact h2 k hk' hl
    | true =>
      rw [hl] at h0
      cases hs : k.sameKey x with
      | false => rw [hs] at h0; cases h0
      | true => rw [WideAt.sameKey_eq hs]; exact h3
  · rintro ⟨h1, h2⟩
    exact ⟨⟨h1, fun k hk' h0 => h2 k hk' (by rw [h0]; rfl)⟩, h2 x hx (by rw [WideAt.sameKey_self hk]; simp)⟩
/-- The loop over the places that jumps go to. -/
def VqR (B r : Nat) (post : Bool) (L : List (Nat × InsS)) (w wr : World) : Prop :=
  ∃ (left : Lit → Bool) (cnt : Nat) (g : Bool), wr.ranges Try.prog 3 (plainElem (H := Unit) Try.prog 3) (B + 2) r L.length (Maps.setOf oneU (goesL L)) left cnt ∧
    (wr.rowIs (B + 3) 74 1 (fun _ => .map (some (B + 1))) ∧ wr.rowIs (B + 5) 4 1 (fun _ => .bool g) ∧ wr.rowIs (B + 6) 54 1 (fun _ => .int .u8 (lastF L)) ∧ MpK wr (B + 1) L.length (startL L)) ∧ Below B w wr ∧
    (g = true ↔ goodF post L = true ∧ ∀ k ∈ goesL L, left k = false → k ∈ startL L)
def VcP (post : Bool) (b : List Nat) (w : World) (e : Ending) (w' : World) : Prop := ∃ z : Nat, e = .returned (.int .i64 z) ∧ ChkV b post z ∧ Below w.heap.size w w'
theorem zero3 (w : World) : (zeroValue 3).run Try.prog w = .ok (.int .i64 0) w := by kernel_rfl
theorem ck_ne3 {w : World} {g b r n t k cnt : Nat} {f : Nat → Value} {D : DataW Unit} {left : Lit → Bool} {R : Value → Option (DataW Unit × List MemPlace)} (hr : w.ranges Try.prog 3 R b r n D left cnt) (hq : w.rowIs g t k f) (e : g = r) : False := by
  obtain ⟨es, clock, since, seen, c0, -, -, -, -, h, -⟩ := hr
  obtain ⟨cs, h1, -⟩ := hq
  rw [e, h] at h1
  cases h1
theorem ranges_set {w : World} {B r n cnt : Nat} {D : DataW Unit} {left : Lit → Bool} {R : Value → Option (DataW Unit × List MemPlace)} {v : Value} (hr : w.ranges Try.prog 3 R (B + 2) r n D left cnt) (h : B + 5 ≠ r) : (w.setCell ⟨B + 5, 0, none⟩ v).ranges Try.prog 3 R (B + 2) r n D left cnt :=
  hr.kept (grown_set (grown_refl w (some (B + 5))) (.inl rfl) v) (by simp) (by simp; omega)
theorem chk_yes {b : List Nat} {post : Bool} {L : List (Nat × InsS)} (h0 : eachE b = 0) (hL : eachF b.length b 0 = some L) (h : okV post L) : ChkV b post 0 := by
  unfold ChkV
  rw [if_neg (by rw [h0]; simp)]
  intro L' hL'
  rw [hL] at hL'
  injection hL' with e
  subst e
  exact ⟨.inl rfl, ⟨fun _ => h, fun _ => rfl⟩⟩
theorem chk_no {b : List Nat} {post : Bool} {L : List (Nat × InsS)} (h0 : eachE b = 0) (hL : eachF b.length b 0 = some L) (h : ¬ okV post L) : ChkV b post 110 := by
  unfold ChkV
  rw [if_neg (by rw [h0]; simp)]
  intro L' hL'
  rw [hL] at hL'
  injection hL' with e
  subst e
  exact ⟨.inr rfl, ⟨fun e => (by cases e), fun e => absurd e h⟩⟩
theorem vq_set {B r : Nat} {post v : Bool} {L : List (Nat × InsS)} {w w5 : World} {left : Lit → Bool} {cnt : Nat} {f : Nat → Value} (hr : w5.ranges Try.prog 3 (plainElem (H := Unit) Try.prog 3) (B + 2) r L.length (Maps.setOf oneU (goesL L)) left cnt) (q2 : w5.rowIs (B + 3) 74 1 (fun _ => .map (some (B + 1)))) (q4 : w5.rowIs (B + 5) 4 1 f) (q5 : w5.rowIs (B + 6) 54 1 (fun _ => .int .u8 (lastF L))) (m1 : MpK w5 (B + 1) L.length (startL L)) (hb : Below B w w5)
    (hg : v = true ↔ goodF post L = true ∧ ∀ k ∈ goesL L, left k = false → k ∈ startL L) (hne : B + 5 ≠ r) : VqR B r post L w (w5.setCell ⟨B + 5, 0, none⟩ (.bool v)) :=
  ⟨left, cnt, v, ranges_set hr hne, ⟨row_oth q2 (by omega) 0 _, (q4.set 0 _).congr fun i hi => (by
    match i, hi with
    | 0, _ => rfl), row_oth q5 (by omega) 0 _, m1.setCell (by simp) _⟩, hb.setCell (p := ⟨B + 5, 0, none⟩) (Nat.le_add_right _ _) _, hg⟩
set_option maxHeartbeats 8000000 in
theorem check_v (post : Bool) (b : List Nat) (A : Option Addr) (c : Nat) (w : World) (hR : Rd w A b) : Calls Try.prog 9 #[.slice A b.length c, .bool post] w (VcP post b w) := by
  have hmm := @run_makeMap Try.prog
  obtain ⟨hck, hbk, hsk⟩ := ck_init w post
  have HEC := Lib.hid (each_chk post b A c w (ckW w post) hR hbk hck)
  have HBK := Lib.hid hbk
  unfold fnC ckW at HEC
  clear hck hbk hsk
  go_enter Try.func9, Try.ntmps9
  go_wp2_with fail
  simp only [Nat.add_assoc, Nat.reduceAdd]
  refine HEC.out.mono ?_
  rintro e w3 ⟨rfl, hb3, himp⟩
  have HB3 := Lib.hid hb3
  by_cases hE : eachE b = 0
  · obtain ⟨L, hL, hl, hck⟩ := himp hE
    have HE := Lib.hid (And.intro hE (And.intro hL hl))
    have je : ((eachE b : Int) != 0) = false := by rw [hE]; rfl
    obtain ⟨⟨q1, q2, q3, q4, q5⟩, m1, m2⟩ := hck
    have c6 := q3.cell (show 0 < 1 by omega)
    have HQ := Lib.hid (And.intro q2 (And.intro q4 (And.intro q5 m1)))
    have HM2 := Lib.hid m2
    have hlt := m2.lt
    clear hE hL hl q1 q2 q3 q4 q5 m1 m2 himp hb3 HEC HBK hR hmm
    go_wp2_with (first
      | (at_range; refine wpList_range_own _ rfl _ 74 rfl 3 3 K3 Try.underlying74 _ (w.heap.size + 2) L.length _ rfl HM2.out ?_; intro w4 hrg0 hg0 hs0)
      | fail)
    go_frame
    have hbn := below_gn hg0
    have HB4 := Lib.hid (HB3.out.trans (hbn.mono HB3.out.size))
    have R0 : VqR w.heap.size w3.heap.size post L w w4 := ⟨_, _, goodF post L, hrg0, ⟨below_row hbn HQ.out.1 HQ.out.1.lt, below_row hbn HQ.out.2.1 HQ.out.2.1.lt, below_row hbn HQ.out.2.2.1 HQ.out.2.2.1.lt, HQ.out.2.2.2.kept hg0 (by simp)⟩, HB4.out, vq_start⟩
    have HR0 := Lib.hid R0
    have HLT := Lib.hid hlt
    have HNE : Hid (w.heap.size + 5 ≠ w3.heap.size) := Nat.ne_of_lt HQ.out.2.1.lt
    clear hbn hrg0 hg0 hs0 R0 HQ HM2 c6 hlt
    go_loopw [10] (fun _ wr => VqR w.heap.size w3.heap.size post L w wr) (fun _ wr => wr.rangeLeft (w.heap.size + 2) w3.heap.size)
    case atStart => exact HR0.out
    case round =>
      obtain ⟨left, cnt, g, hrg, ⟨q2, q4, q5, m1⟩, hbw, hg⟩ := hrel
      have HRG := Lib.hid hrg
      have HBW := Lib.hid hbw
      have HGG := Lib.hid hg
      clear HR0 hbw hg hrg
      go_wp2_with (first
        | (at_next; refine wpList_next_ranges_ii _ rfl _ rfl 3 3 .i64 .i64 K3 Try.underlying3 Try.underlying3 (w.heap.size + 2) w3.heap.size L.length _ _ _ rfl HRG.out ?_ ?_)
        | fail)
      · intro hc0 hl0
        have c5 := q4.cell (show 0 < 1 by omega)
        have c8 := q5.cell (show 0 < 1 by omega)
        clear q2 q4 q5 m1 hc0
        cases g with
        | false =>
          have hok : ¬ okV post L := fun h => by have := HGG.out.2 ⟨h.1, fun k hk _ => h.2.1 k hk⟩; cases this
          have HOK := Lib.hid hok
          clear hok hl0
          go_wp2_with fail
          go_ret
          exact ⟨110, rfl, chk_no HE.out.1 HE.out.2.1 HOK.out, HBW.out⟩
        | true =>
          have hgd := HGG.out.1 rfl
          have HGD := Lib.hid (show goodF post L = true ∧ ∀ k ∈ goesL L, k ∈ startL L from ⟨hgd.1, fun k hk => hgd.2 k hk (hl0 k)⟩)
          obtain ⟨o, ho⟩ : ∃ o, lastF L = o := ⟨_, rfl⟩
          rw [ho] at c8
          have HO := Lib.hid ho
          clear hgd hl0 ho
          by_cases o0 : o = 0
          · have k0 : ((o : Int) != 0) = false := by rw [o0]; rfl
            have HOK := Lib.hid (show okV post L from ⟨HGD.out.1, HGD.out.2, .inl (HO.out.trans o0)⟩)
            clear o0
            go_wp2_with fail
            go_ret
            exact ⟨0, rfl, chk_yes HE.out.1 HE.out.2.1 HOK.out, HBW.out⟩
          · have k0 : ((o : Int) != 0) = true := by rw [bne_iff_ne]; omega
            by_cases o9 : o = 29
            · have k9 : ((o : Int) != 29) = false := by rw [o9]; rfl
              have HOK := Lib.hid (show okV post L from ⟨HGD.out.1, HGD.out.2, .inr (.inl (HO.out.trans o9))⟩)
              clear o0 o9
              go_wp2_with fail
              go_ret
              exact ⟨0, rfl, chk_yes HE.out.1 HE.out.2.1 HOK.out, HBW.out⟩
            · have k9 : ((o : Int) != 29) = true := by rw [bne_iff_ne]; omega
              by_cases o3 : o = 30
              · have k3 : ((o : Int) != 30) = false := by rw [o3]; rfl
                have HOK := Lib.hid (show okV post L from ⟨HGD.out.1, HGD.out.2, .inr (.inr (HO.out.trans o3))⟩)
                clear o0 o9 o3
                go_wp2_with fail
                go_ret
                exact ⟨0, rfl, chk_yes HE.out.1 HE.out.2.1 HOK.out, HBW.out⟩
              · have k3 : ((o : Int) != 30) = true := by rw [bne_iff_ne]; omega
                have HOK := Lib.hid (show ¬ okV post L from fun h => by have := HO.out; rcases h.2.2 with h | h | h <;> omega)
                clear o0 o9 o3
                go_wp2_with fail
                go_ret
                exact ⟨110, rfl, chk_no HE.out.1 HE.out.2.1 HOK.out, HBW.out⟩
      · intro x c w5 cnt1 hwx hwc hlx hat hrg1 hlt hg1 hs1 hen
        have hx : Lit.int .i64 x ∈ goesL L := (has_mem goesL_key).1 (Maps.has_true_of_atKey hat)
        have m5 : MpK w5 (w.heap.size + 1) L.length (startL L) := m1.kept hg1 (by have := HLT.out; simp; omega)
        have q2' := grown_row hg1 q2 (by have := q2.lt; have := HRG.out.lt; have := HLT.out; have := q4.lt; exact fun e => ck_ne3 HRG.out q2 e)
        have q4' := grown_row hg1 q4 (fun e => ck_ne3 HRG.out q4 e)
        have q5' := grown_row hg1 q5 (fun e => ck_ne3 HRG.out q5 e)
        obtain ⟨c1, hrun, hat1, -⟩ := m5.lookup_int K3 Try.underlying74 Try.underlying3 (zero3 w5) (Maps.keyOf_int_mk Try.underlying3 hwx)
        have hS := atKey_setOf oneU (.lit (.int .i64 0)) (.int .i64 x) trivial (startL L)
        have hc1 : (c1 = 1 ↔ Lit.int .i64 x ∈ startL L) := by
          by_cases hm : Lit.int .i64 x ∈ startL L
          · rw [hS.1 hm] at hat1
            injection hat1 with h1
            injection h1 with _ h2
            exact ⟨fun _ => hm, fun _ => h2.symm⟩
          · rw [hS.2 hm] at hat1
            injection hat1 with h1
            injection h1 with _ h2
            exact ⟨fun h => by omega, fun h => absurd h hm⟩
        have c5 := q4'.cell (show 0 < 1 by omega)
        have y5 := q4'.frozen 0
        have c2 := q2'.cell (show 0 < 1 by omega)
        have HX := Lib.hid (And.intro hx (And.intro hc1 (And.intro hrg1 (And.intro hlt (And.intro m5 (And.intro q2' (And.intro q4' q5')))))))
        have HB5 := Lib.hid (show Below w.heap.size w w5 from below_of_grown HBW.out hg1 HBW.out.size (by have := HLT.out; omega))
        clear hx hc1 hrg1 hlt m5 q2' q4' q5' hat1 hS hat hlx hwx hwc hg1 hs1 q2 q4 q5 m1
        cases g with
        | false =>
          go_wp2_with fail
          go_roundw
          case rel => first | exact vq_set (v := false) HX.out.2.2.1 HX.out.2.2.2.2.2.1 HX.out.2.2.2.2.2.2.1 HX.out.2.2.2.2.2.2.2 HX.out.2.2.2.2.1 HB5.out (vq_step trivial HX.out.1 HGG.out (by simp)) HNE.out | exact ⟨_, _, _, _, _, _, _, _, _, _, _, _, vq_set (v := false) HX.out.2.2.1 HX.out.2.2.2.2.2.1 HX.out.2.2.2.2.2.2.1 HX.out.2.2.2.2.2.2.2 HX.out.2.2.2.2.1 HB5.out (vq_step trivial HX.out.1 HGG.out (by simp)) HNE.out, rfl⟩
          case measure => rw [(ranges_set HX.out.2.2.1 HNE.out).left_eq, HRG.out.left_eq]; exact HX.out.2.2.2.1
        | true =>
          go_wp2_with fail
          go_roundw
          case rel => exact vq_set HX.out.2.2.1 HX.out.2.2.2.2.2.1 HX.out.2.2.2.2.2.2.1 HX.out.2.2.2.2.2.2.2 HX.out.2.2.2.2.1 HB5.out (vq_step trivial HX.out.1 (g := true) ⟨fun _ => (by first | exact HGG.out.1 trivial | exact HGG.out.1 rfl), fun _ => rfl⟩ (by rw [beq_iff_eq, HX.out.2.1]; simp)) HNE.out
          case measure => rw [(ranges_set HX.out.2.2.1 HNE.out).left_eq, HRG.out.left_eq]; exact HX.out.2.2.2.1
  · have je : ((eachE b : Int) != 0) = true := by rw [bne_iff_ne]; omega
    have HE := Lib.hid hE
    clear hE himp hb3 HEC HBK hR hmm
    go_wp2_with fail
    go_ret
    exact ⟨eachE b, rfl, by unfold ChkV; rw [if_pos HE.out], HB3.out⟩
end Go.Proofs.Ythmpagehmfillaa
namespace Go.Proofs.Ythmpagehmfillaa
open Go.RowKit
set_option linter.unusedSimpArgs false
set_option linter.unusedVariables false
set_option maxRecDepth 100000
/-- valid.Check of the code of statements. -/
theorem val_any {post : Bool} {T : Sts} (h : stmtsE post T = 0) (A : Option Addr) (n c : Nat) (hn : n = (stmtsC post T).length) (w : World) (hR : Rd w A (stmtsC post T)) :
    Calls Try.prog 9 #[.slice A n c, .bool post] w fun e w' => e = .returned (.int .i64 0) ∧ Below w.heap.size w w' := by
  subst hn
  refine (check_v post _ A c w hR).mono ?_
  rintro e w' ⟨z, rfl, hz, hb⟩
  obtain ⟨-, h0, h1⟩ := stmts_chk h
  unfold ChkV at hz
  rw [if_neg (by rw [h0]; simp)] at hz
  have hs : ∃ L, eachF (stmtsC post T).length (stmtsC post T) 0 = some L := by
    unfold eachE at h0
    cases hf : eachF (stmtsC post T).length (stmtsC post T) 0 with
    | some L => exact ⟨L, rfl⟩
    | none =>
      rw [hf] at h0
      split at h0
      · cases h0
      split at h0
      · cases h0
      · cases h0
  obtain ⟨L, hL⟩ := hs
  obtain ⟨-, h2⟩ := hz L hL
  rw [h2.2 (h1 L hL)]
  exact ⟨rfl, hb⟩
set_option maxHeartbeats 8000000 in
theorem compileModels_main (s : ByteArray) (w : World) : Calls Try.prog 3 #[.string s] w fun e w' => e = .returned (.bool true) ∧ Below w.heap.size w w' := by
  by_cases hs : 6000 < s.size
  · have k1 : (6000 : Int) < s.size := by omega
    clear hs
    go_enter Try.func3, Try.ntmps3
    go_wp2_with fail
    refine (awake23 _).mono ?_
    rintro e w2 ⟨rfl, hb2⟩
    have HB2 := Lib.hid hb2
    clear hb2
    go_wp2_with fail
    go_ret
    exact ⟨rfl, HB2.out⟩
  have k1 : ¬ (6000 : Int) < s.size := by omega
  have HC1 := Lib.hid (compile_any s w)
  have HY := Lib.hid (fun h => compR_yes (s := s) h)
  have HN := Lib.hid (fun h => compR_no (r := parseT s) h)
  generalize hM : compR (parseT s) = R at HY HN
  obtain ⟨M, x, y⟩ := R
  dsimp only at HY HN
  have HM := Lib.hid hM
  clear hM hs
  go_enter Try.func3, Try.ntmps3
  go_wp2_with fail
  refine HC1.out.mono ?_
  rintro e w5 hq
  obtain ⟨vp, vc, vq, rfl, hp5, hc5, hq5, hb5⟩ := hq.q HM.out
  obtain ⟨B1, m1, rfl⟩ := hp5.form
  obtain ⟨B2, m2, rfl, -, -, rc5⟩ := hc5.form
  obtain ⟨B3, m3, rfl, -, -, rq5⟩ := hq5.form
  obtain ⟨a2, a3, ab, -⟩ := two_ob w5 (.cells #[.int .i64 M.h, .int .i64 M.m, .int .i64 M.ph, .int .i64 M.pm, .slice B1 M.parts.length m1, .slice B2 M.code.length m2, .slice B3 M.post.length m3] 26) (.cells #[.int .i64 x, .int .i64 y] 29)
  have HP5 := Lib.hid (And.intro ((hp5.mono (S' := fun _ => True) (fun _ _ _ => trivial)).below ab) (And.intro (rc5.below ab) (rq5.below ab)))
  have HR6 := Lib.hid (And.intro (mod_row a2) (flt_row a3))
  have HH := Lib.hid (hb5.trans (ab.mono hb5.size))
  clear hp5 hc5 hq5 rc5 rq5 a2 a3 ab hb5 hq HC1
  have c8 := HR6.out.2.cell (show 0 < 2 by omega)
  dsimp only [fltF] at c8
  have r2 := HR6.out.1
  have c0 := r2.cell (show 0 < 7 by omega)
  have c1 := r2.cell (show 1 < 7 by omega)
  have c2 := r2.cell (show 2 < 7 by omega)
  have c3 := r2.cell (show 3 < 7 by omega)
  have c4 := r2.cell (show 4 < 7 by omega)
  have c5 := r2.cell (show 5 < 7 by omega)
  have c6 := r2.cell (show 6 < 7 by omega)
  dsimp only [modF] at c0 c1 c2 c3 c4 c5 c6
  clear r2
  unfold modA
  by_cases hx : x = 0
  · have HMX := Lib.hid (HY.out hx)
    subst hx
    go_upto_region 6 with fail
    generalize (w5.alloc (.cells #[.int .i64 M.h, .int .i64 M.m, .int .i64 M.ph, .int .i64 M.pm, .slice B1 M.parts.length m1, .slice B2 M.code.length m2, .slice B3 M.post.length m3] 26)).alloc (.cells #[.int .i64 0, .int .i64 y] 29) = W6 at *
    obtain ⟨cf, hpc, hmt, hMe, hs1, hs2⟩ := HMX.out
    have hmt' : modelT M.h M.m M.ph M.pm M.parts M.code.length M.post.length = 0 := by rw [hMe]; exact hmt
    have hrc : Rd W6 B2 (stmtsC false cf.code) := by have := HP5.out.2.1; rw [hMe] at this; exact this
    have hmc : M.code.length = (stmtsC false cf.code).length := by rw [hMe]
    have HV1 := Lib.hid (fun W (hb : Below W6.heap.size W6 W) => val_any hs1 B2 M.code.length m2 hmc W (hrc.below hb))
    have HMP := Lib.hid hMe
    have HS2 := Lib.hid hs2
    have HMT := Lib.hid hmt'
    clear hpc hmt hMe hs1 hs2 hrc hmc hmt' HMX HN HY HM
    go_wp2_with fail
    refine (model_any M.h M.m M.ph M.pm M.parts _ B2 B3 M.code.length M.post.length m2 m3 _ W6 HP5.out.1).mono ?_
    rintro e w7 ⟨rfl, hb7⟩
    rw [HMT.out]
    have HB7 := Lib.hid hb7
    have r7 := below_row hb7 HR6.out.1 HR6.out.1.lt
    clear hb7 c0 c1 c2 c3 c4 c5 c6 c8
    have c0 := r7.cell (show 0 < 7 by omega)
    have c1 := r7.cell (show 1 < 7 by omega)
    have c2 := r7.cell (show 2 < 7 by omega)
    have c3 := r7.cell (show 3 < 7 by omega)
    have c4 := r7.cell (show 4 < 7 by omega)
    have c5 := r7.cell (show 5 < 7 by omega)
    have c6 := r7.cell (show 6 < 7 by omega)
    dsimp only [modF] at c0 c1 c2 c3 c4 c5 c6
    clear r7
    go_wp2_with fail
    refine (HV1.out w7 HB7.out).mono ?_
    rintro e w8 ⟨rfl, hb8⟩
    have HB8 := Lib.hid (HB7.out.trans (hb8.mono HB7.out.size))
    have r8 := below_row HB8.out HR6.out.1 HR6.out.1.lt
    clear hb8 c0 c1 c2 c3 c4 c5 c6 HV1
    have c0 := r8.cell (show 0 < 7 by omega)
    have c1 := r8.cell (show 1 < 7 by omega)
    have c2 := r8.cell (show 2 < 7 by omega)
    have c3 := r8.cell (show 3 < 7 by omega)
    have c4 := r8.cell (show 4 < 7 by omega)
    have c5 := r8.cell (show 5 < 7 by omega)
    have c6 := r8.cell (show 6 < 7 by omega)
    dsimp only [modF] at c0 c1 c2 c3 c4 c5 c6
    clear r8
    by_cases hh : cf.has = true
    · have hmp : M.post = stmtsC true cf.post := by rw [HMP.out]; exact if_pos hh
      have hps := HS2.out hh
      have hl1 := (stmts_chk hps).1.1
      have hrp : Rd w8 B3 (stmtsC true cf.post) := by have := HP5.out.2.2.below HB8.out; rw [hmp] at this; exact this
      have HV2 := Lib.hid (val_any hps B3 M.post.length m3 (by rw [hmp]) w8 hrp)
      have j0 : ((M.post.length : Int) == 0) = false := by rw [beq_eq_false_iff_ne, hmp]; omega
      clear hmp hps hl1 hrp hh
      go_wp2_with fail
      refine HV2.out.mono ?_
      rintro e w9 ⟨rfl, hb9⟩
      have HB9 := Lib.hid (HB8.out.trans (hb9.mono HB8.out.size))
      clear hb9 c0 c1 c2 c3 c4 c5 c6 HV2
      go_wp2_with fail
      refine (awake23 w9).mono ?_
      rintro e w10 ⟨rfl, hb10⟩
      have HB10 := Lib.hid (HB9.out.trans (hb10.mono HB9.out.size))
      clear hb10
      go_wp2_with fail
      go_ret
      exact ⟨rfl, HH.out.trans (HB10.out.mono HH.out.size)⟩
    · have hmp : M.post.length = 0 := by rw [HMP.out]; show (if cf.has = true then stmtsC true cf.post else []).length = 0; rw [if_neg hh]; rfl
      have j0 : ((M.post.length : Int) == 0) = true := by rw [hmp]; rfl
      clear hmp hh
      go_wp2_with fail
      refine (awake23 w8).mono ?_
      rintro e w10 ⟨rfl, hb10⟩
      have HB10 := Lib.hid (HB8.out.trans (hb10.mono HB8.out.size))
      clear hb10
      go_wp2_with fail
      go_ret
      exact ⟨rfl, HH.out.trans (HB10.out.mono HH.out.size)⟩
  · have hx' : (x == 0) = false := by rw [beq_eq_false_iff_ne]; exact hx
    have hxn : (x != 0) = true := by rw [bne_iff_ne]; exact hx
    have HM0 := Lib.hid (HN.out hx)
    clear hx
    go_upto_region 5 with fail
    generalize (w5.alloc (.cells #[.int .i64 M.h, .int .i64 M.m, .int .i64 M.ph, .int .i64 M.pm, .slice B1 M.parts.length m1, .slice B2 M.code.length m2, .slice B3 M.post.length m3] 26)).alloc (.cells #[.int .i64 x, .int .i64 y] 29) = W6 at *
    have hM0 := HM0.out
    subst hM0
    clear HM0 HY HN HM
    go_wp2_with fail
    refine (samM_any mod0 _ (.slice none 0 0) B2 B3 none none m2 m3 0 0 (fun _ => True) W6 HP5.out.1 (PrT.nil _ _) HP5.out.2.1 Rd.nil HP5.out.2.2 Rd.nil ⟨by decide, by decide⟩).mono ?_
    rintro e w7 ⟨rfl, hb7⟩
    have HB7 := Lib.hid hb7
    clear hb7 c0 c1 c2 c3 c4 c5 c6 c8
    go_wp2_with fail
    refine (awake23 w7).mono ?_
    rintro e w10 ⟨rfl, hb10⟩
    have HB10 := Lib.hid (HB7.out.trans (hb10.mono HB7.out.size))
    clear hb10
    go_wp2_with fail
    go_ret
    exact ⟨rfl, HH.out.trans (HB10.out.mono HH.out.size)⟩
end Go.Proofs.Ythmpagehmfillaa
