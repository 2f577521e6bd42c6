/-
  THE WALK OF journal's Open. Conditions: a file that is a plain disk, or none.
-/
import Derived.Test.YtlhbijpmhokmnaaGreatQ31
import Derived.Deep.DeepCutAuto
import Derived.Deep.CutBlock
namespace Go.Proofs.YtlhbijpmhokmnaaGreat
open Go.RowKit
set_option linter.unusedSimpArgs false
set_option linter.unusedVariables false

theorem jopen_no {w : World} {v : Value} (h : NoF w v) : Calls Tryz.prog 8 #[v] w fun e w' => e = .returned (.tuple #[.pointer none, .slice none 0 0, .int .i64 1]) ∧ w = w' := by
  have H := Lib.hid h
  clear h
  go_enter Tryz.func8, Tryz.ntmps8
  go_wp2_with fail
  refine (jnone_no H.out).mono ?_
  rintro e w' ⟨rfl, rfl⟩
  go_wp2_with fail
  go_ret3
  exact ⟨rfl, rfl⟩
def opn (p : DkS) : Int := (p.op fun d => ((0 : Int), d)).1
theorem opn_go {p : DkS} (h : p.pre.1 = none) : opn p = 0 := by unfold opn DkS.op; revert h; cases p.pre with | mk a b => intro h; obtain rfl : a = none := h; rfl
theorem opn_no {p : DkS} {e : Int} (h : p.pre.1 = some e) : opn p = e := by unfold opn DkS.op; revert h; cases p.pre with | mk a b => intro h; obtain rfl : a = some e := h; rfl
section
variable {w : World} {gf gd : Nat} {nb ob : Option Nat} {K : TurnK} {pre : List Nat} {p : DkS}
set_option maxRecDepth 100000 in
set_option maxHeartbeats 4000000 in
theorem jopen_err (h : Fv w gf gd nb ob K pre p) (ho : opn p ≠ 0) :
    Calls Tryz.prog 8 #[.pointer (some ⟨gf, 0, none⟩)] w fun e w' => e = .returned (.tuple #[.pointer none, .slice none 0 0, .int .i64 (opn p)]) ∧ Fv w' gf gd nb ob K pre p.pre.2 ∧ w.grownBy w' (some gd) := by
  have H := Lib.hid h
  have ho' : (opn p != 0) = true := by rw [bne_iff_ne]; exact ho
  clear h ho
  obtain ⟨r, hr0⟩ : ∃ r, r = opn p := ⟨_, rfl⟩
  rw [← hr0] at ho' ⊢
  go_enter Tryz.func8, Tryz.ntmps8
  go_wp2_with fail
  refine (jnone_any H.out).mono ?_
  rintro e w1 ⟨rfl, hb⟩
  have HB := Lib.hid hb
  clear hb
  go_wp2_with fail
  refine (vsize_any (H.out.below HB.out)).mono ?_
  rintro e w2 ⟨rfl, hb⟩
  have HB2 := Lib.hid (HB.out.trans (hb.mono HB.out.size))
  clear hb
  go_wp2_with fail
  have hr := vread_any (H.out.below HB2.out) p.now.length rfl
  change Calls _ _ _ _ (fun e w' => ∃ (A : Option Addr) (c : Nat) (L : List Nat), e = .returned (.tuple #[.slice A L.length c, .int .i64 (opn p)]) ∧ _) at hr
  rw [← hr0] at hr
  refine hr.mono ?_
  clear hr
  rintro e w3 ⟨A, c, L, rfl, -, -, -, q4, q5, -⟩
  have Q4 := Lib.hid q4
  have Q5 := Lib.hid (nil_grown (grown_of_below HB2.out _) q5)
  clear q4 q5
  go_wp2_with fail
  go_ret3
  exact ⟨by first | rfl | (rw [hr0]; rfl), Q4.out, Q5.out⟩
set_option maxRecDepth 100000 in
set_option maxHeartbeats 4000000 in
theorem jopen_arch (h : Fv w gf gd nb ob K pre p) (ho : p.pre.1 = none) (ht : ¬ txt <+: p.now) :
    Calls Tryz.prog 8 #[.pointer (some ⟨gf, 0, none⟩)] w fun e w' => e = .returned (.tuple #[.pointer none, .slice none 0 0, .int .i64 15]) ∧ Fv w' gf gd nb ob K pre p.pre.2 ∧ w.grownBy w' (some gd) := by
  have H := Lib.hid h
  have kc := fun (w : World) (C : Array Value) (n c : Nat) => Lib.run_convert_bytes_const (P := Tryz.prog) w 22 5 C n c Tryz.underlying22 Tryz.underlying5
  have hpf : pfx txt p.now = false := by
    unfold pfx
    rw [Bool.eq_false_iff]
    intro e
    exact ht (List.isPrefixOf_iff_prefix.1 e)
  have hopn := opn_go ho
  have hrl : readL p 0 p.now.length = p.now := by unfold readL; rw [if_pos ho, List.drop_zero, List.take_length]
  have HPF := Lib.hid hpf
  have HRL := Lib.hid hrl
  have HLM := Lib.hid h.len
  clear h hrl hpf ht
  skip
  go_enter Tryz.func8, Tryz.ntmps8
  go_wp2_with fail
  refine (jnone_any H.out).mono ?_
  rintro e w1 ⟨rfl, hb⟩
  have HB := Lib.hid hb
  clear hb
  go_wp2_with fail
  refine (vsize_any (H.out.below HB.out)).mono ?_
  rintro e w2 ⟨rfl, hb⟩
  have HB2 := Lib.hid (HB.out.trans (hb.mono HB.out.size))
  clear hb
  go_wp2_with fail
  have hr := vread_any (H.out.below HB2.out) p.now.length rfl
  change Calls _ _ _ _ (fun e w' => ∃ (A : Option Addr) (c : Nat) (L : List Nat), e = .returned (.tuple #[.slice A L.length c, .int .i64 (opn p)]) ∧ _ ∧ (opn p = 0 → _) ∧ _) at hr
  rw [hopn] at hr
  refine hr.mono ?_
  clear hr hopn
  rintro e w3 ⟨A, c, L, rfl, q1, q2, -, q4, q5, q6⟩
  obtain rfl : L = p.now := (q2 rfl).trans HRL.out
  obtain ⟨LN, hln⟩ : ∃ LN, LN = p.now.length := ⟨_, rfl⟩
  rw [← hln] at q6 ⊢
  have HLN := Lib.hid hln
  have HR := Lib.hid q1
  have HC := Lib.hid q6
  have Q4 := Lib.hid q4
  have Q5 := Lib.hid (nil_grown (grown_of_below HB2.out _) q5)
  clear q1 q2 q4 q5 q6 hln
  go_wp2_with (first
    | (refine wpList_buildFlat rfl 22 5 21 _ rfl .u8 txt Tryz.underlying22 (by kernel_rfl) (by kernel_rfl) rfl (by decide) (by decide) rfl ?_)
    | (refine wpList_conv_const rfl (.tmp 25) rfl (bs txt).toArray 21 21 rfl ?_))
  clear kc
  have HB4 : Hid (Below w3.heap.size w3 (w3.alloc (.cells (bs txt).toArray 5 (21, 21 + 1)))) := (Below.refl _ _).alloc (Nat.le_refl _) _
  refine (hasp_any A (some ⟨w3.heap.size, 0, none⟩) LN 21 c 21 p.now txt _ HLN.out rfl HC.out (HR.out.below HB4.out) (constW_rd w3 5 txt txt_lt _)).mono ?_
  rw [HPF.out]
  rintro e w4 ⟨rfl, rfl⟩
  go_wp2_with fail
  go_ret3
  exact ⟨rfl, Q4.out.below HB4.out, nil_grown Q5.out (grown_of_below HB4.out _)⟩
theorem Rd.setOff {w : World} {A : Option Addr} {l : List Nat} (h : Rd w A l) {p : Addr} {u0 : Value} (hp : w.cell? p = some u0) (h0 : ∀ x, u0 ≠ .int .u8 x) (u : Value) : Rd (w.setCell p u) A l := by
  refine ⟨h.1, fun hl => ?_⟩
  obtain ⟨b, o, rfl, hb, hc⟩ := h.2 hl
  refine ⟨b, o, rfl, by simpa [World.setCell] using hb, fun i hi => ?_⟩
  rw [World.cell?_setCell_other (h := ?_)]
  · exact hc i hi
  · rintro rfl
    rw [hc i hi] at hp
    injection hp with hp
    exact h0 _ hp.symm
theorem Lo.setOff {w : World} {base : Nat} {v : Value} {L : List (List Nat)} (h : Lo w base v L) {p : Addr} {u0 : Value} (hp : w.cell? p = some u0) (h0 : ∀ x, u0 ≠ .int .u8 x) (hb : p.block < base) (u : Value) : Lo (w.setCell p u) base v L := by
  have hg : w.grownBy (w.setCell p u) (some p.block) := grown_set (grown_refl _ _) (.inl rfl) u
  have hl := h.lt
  obtain ⟨V, h1, h3⟩ := h
  refine ⟨V, h1.kept hg ?_, fun i hi => ?_⟩
  · cases hv : v.ownBlock with
    | none => exact .inl rfl
    | some k => exact .inr (fun e => by injection e with e; have := (hl k hv).1; omega)
  · obtain ⟨x, hx, A, c, rfl, k1, k2, k3, k4⟩ := h3 i hi
    exact ⟨_, hx, A, c, rfl, k1, k2, k3.setOff hp h0 u, fun a ha => ⟨by simpa [World.setCell] using (k4 a ha).1, (k4 a ha).2⟩⟩
theorem Lo.grown {w w' : World} {base : Nat} {v : Value} {L : List (List Nat)} (h : Lo w base v L) (hf : Fv w gf gd nb ob K pre p) (hg : w.grownBy w' (some gd)) (hne : gd < base) : Lo w' base v L := by
  have hl := h.lt
  obtain ⟨V, h1, h3⟩ := h
  refine ⟨V, h1.kept hg ?_, fun i hi => ?_⟩
  · cases hv : v.ownBlock with
    | none => exact .inl rfl
    | some k => exact .inr (fun e => by injection e with e; have := (hl k hv).1; omega)
  · obtain ⟨x, hx, A, c, rfl, k1, k2, k3, k4⟩ := h3 i hi
    exact ⟨_, hx, A, c, rfl, k1, k2, hf.rd k3 hg, fun a ha => ⟨Nat.lt_of_lt_of_le (k4 a ha).1 hg.size, (k4 a ha).2⟩⟩
/-- What one answers. -/
def OneV (w : World) (o : Option (List Nat)) (v9 v10 : Value) : Prop := (o = none ∧ v10 = .bool false) ∨ ∃ body A c, o = some body ∧ v10 = .bool true ∧ v9 = .slice A body.length c ∧ body.length ≤ c ∧ Rd w A body
theorem OneV.below {w w' : World} {o : Option (List Nat)} {v9 v10 : Value} (h : OneV w o v9 v10) (hb : Below w.heap.size w w') : OneV w' o v9 v10 :=
  h.imp id fun ⟨body, A, c, h1, h2, h3, h4, h5⟩ => ⟨body, A, c, h1, h2, h3, h4, h5.below hb⟩
theorem one_v (A : Option Addr) (n c : Nat) (l : List Nat) (k : Nat) (w : World) (hn : n = l.length) (hl : l.length ≤ 5000000) (hc : n ≤ c) (hk : k < 4294967296) (hr : Rd w A l) :
    Calls Tryz.prog 38 #[.slice A n c, .int .i64 k] w fun e w' => ∃ v9 b, e = .returned (.tuple #[v9, .bool b]) ∧ OneV w' (oneJ l k) v9 (.bool b) ∧ Below w.heap.size w w' :=
  (one_any A n c l k w hn hl hc hk hr).mono fun e w' ⟨hb, h⟩ => by
    rcases h with ⟨h1, v, rfl⟩ | ⟨body, A', c', h1, rfl, h2, h3⟩
    · exact ⟨v, false, rfl, .inl ⟨h1, rfl⟩, hb⟩
    · exact ⟨_, true, rfl, .inr ⟨body, A', c', h1, rfl, rfl, h2, h3⟩, hb⟩
theorem rd_drop_add {w : World} {A : Option Addr} {l : List Nat} (h : Rd w A l) (n : Nat) : Rd w (A.map fun x => x.add n) (l.drop n) := by
  by_cases hl : l = []
  · subst hl
    rw [List.drop_nil]
    exact Rd.nil
  · obtain ⟨g, o, rfl, _, _⟩ := h.2 hl
    show Rd w (some ((⟨g, o, none⟩ : Addr).add n)) _
    rw [add_none]
    exact rd_drop_on h n
/-- What Open leaves behind, where all was told. -/
def openD (p : DkS) (L : List (List Nat)) (r : List Nat) : Int × DkS := if r = [] then (0, p.pre.2) else backD p.pre.2 (ofs L L.length)
def OpenOk (w : World) (gf : Nat) (L : List (List Nat)) (e : Ending) (w' : World) : Prop :=
  ∃ gj v, e = .returned (.tuple #[.pointer (some ⟨gj, 0, none⟩), v, .int .i64 0]) ∧ Jo w' gj gf L.length (ofs L L.length) false ∧ Lo w' w.heap.size v L ∧ w.heap.size ≤ gj
/-- The same; the list does not lie where the file's bytes lie. -/
def OpenOk2 (w : World) (gf : Nat) (nb' ob' : Option Nat) (L : List (List Nat)) (e : Ending) (w' : World) : Prop :=
  ∃ gj v, e = .returned (.tuple #[.pointer (some ⟨gj, 0, none⟩), v, .int .i64 0]) ∧ Jo w' gj gf L.length (ofs L L.length) false ∧ Lo w' w.heap.size v L ∧ w.heap.size ≤ gj ∧ ∀ k, v.ownBlock = some k → nb' ≠ some k ∧ ob' ≠ some k
theorem Fv.nl (h : Fv w gf gd nb ob K pre p) : (∀ k, nb = some k → k < w.heap.size) ∧ (∀ k, ob = some k → k < w.heap.size) := by
  obtain ⟨d, h1, -⟩ := h.ex
  exact ⟨h1.dk.nl, h1.dk.ol⟩
theorem new_two {w w1 : World} {nb ob nb1 ob1 x : Option Nat} (hn : New w nb nb1 ∨ New w ob nb1) (ho : New w nb ob1 ∨ New w ob ob1) (hs : w.heap.size ≤ w1.heap.size) (hx : New w1 nb1 x ∨ New w1 ob1 x) : New w nb x ∨ New w ob x := by
  rcases hx with hx | hx
  · exact hn.imp (fun h => h.trans hs hx) (fun h => h.trans hs hx)
  · exact ho.imp (fun h => h.trans hs hx) (fun h => h.trans hs hx)
/-- What is new lies in no block between. -/
theorem new_not {w : World} {nb ob x : Option Nat} {k : Nat} (hx : New w nb x ∨ New w ob x) (h1 : nb ≠ some k) (h2 : ob ≠ some k) (hk : k < w.heap.size) : x ≠ some k := by
  rintro rfl
  rcases hx with (h | h) | (h | h)
  · exact h1 h.symm
  · have := h k rfl; omega
  · exact h2 h.symm
  · have := h k rfl; omega
set_option maxRecDepth 100000 in
set_option maxHeartbeats 16000000 in
theorem jopen_told2 {L : List (List Nat)} {r : List Nat} (h : Fv w gf gd nb ob K pre p) (ho : p.pre.1 = none) (ht : Told p.now L r) :
    Calls Tryz.prog 8 #[.pointer (some ⟨gf, 0, none⟩)] w fun e w' => ∃ nb' ob', Fv w' gf gd nb' ob' K pre (openD p L r).2 ∧ (New w nb nb' ∨ New w ob nb') ∧ (New w nb ob' ∨ New w ob ob') ∧ w.grownBy w' (some gd) ∧
      (((openD p L r).1 = 0 ∧ OpenOk2 w gf nb' ob' L e w') ∨ ((openD p L r).1 ≠ 0 ∧ e = .returned (.tuple #[.pointer none, .slice none 0 0, .int .i64 (openD p L r).1]))) := by
  have H := Lib.hid h
  have kc := fun (w : World) (C : Array Value) (n c : Nat) => Lib.run_convert_bytes_const (P := Tryz.prog) w 22 5 C n c Tryz.underlying22 Tryz.underlying5
  have hpf : pfx txt p.now = true := by
    unfold pfx
    exact List.isPrefixOf_iff_prefix.2 ⟨_, ht.eq.symm⟩
  have hopn := opn_go ho
  have hrl : readL p 0 p.now.length = p.now := by unfold readL; rw [if_pos ho, List.drop_zero, List.take_length]
  have HPF := Lib.hid hpf
  have HRL := Lib.hid hrl
  have HLM := Lib.hid h.len
  have HT := Lib.hid ht
  clear h hrl hpf ht
  skip
  go_enter Tryz.func8, Tryz.ntmps8
  go_wp2_with fail
  refine (jnone_any H.out).mono ?_
  rintro e w1 ⟨rfl, hb⟩
  have HB := Lib.hid hb
  clear hb
  go_wp2_with fail
  refine (vsize_any (H.out.below HB.out)).mono ?_
  rintro e w2 ⟨rfl, hb⟩
  have HB2 := Lib.hid (HB.out.trans (hb.mono HB.out.size))
  clear hb
  go_wp2_with fail
  have hr := vread_any (H.out.below HB2.out) p.now.length rfl
  change Calls _ _ _ _ (fun e w' => ∃ (A : Option Addr) (c : Nat) (L : List Nat), e = .returned (.tuple #[.slice A L.length c, .int .i64 (opn p)]) ∧ _ ∧ (opn p = 0 → _) ∧ _) at hr
  rw [hopn] at hr
  refine hr.mono ?_
  clear hr hopn
  rintro e w3 ⟨A, c, L, rfl, q1, q2, -, q4, q5, q6⟩
  obtain rfl : L = p.now := (q2 rfl).trans HRL.out
  obtain ⟨LN, hln⟩ : ∃ LN, LN = p.now.length := ⟨_, rfl⟩
  rw [← hln] at q6 ⊢
  have HLN := Lib.hid hln
  have HR := Lib.hid q1
  have HC := Lib.hid q6
  have Q4 := Lib.hid q4
  have Q5 := Lib.hid (nil_grown (grown_of_below HB2.out _) q5)
  clear q1 q2 q4 q5 q6 hln
  go_wp2_with (first
    | (refine wpList_buildFlat rfl 22 5 21 _ rfl .u8 txt Tryz.underlying22 (by kernel_rfl) (by kernel_rfl) rfl (by decide) (by decide) rfl ?_)
    | (refine wpList_conv_const rfl (.tmp 25) rfl (bs txt).toArray 21 21 rfl ?_))
  clear kc
  have HB4 : Hid (Below w3.heap.size w3 (w3.alloc (.cells (bs txt).toArray 5 (21, 21 + 1)))) := (Below.refl _ _).alloc (Nat.le_refl _) _
  have hr4 := HR.out.below HB4.out
  refine (hasp_any A (some ⟨w3.heap.size, 0, none⟩) LN 21 c 21 p.now txt _ HLN.out rfl HC.out hr4 (constW_rd w3 5 txt txt_lt _)).mono ?_
  rw [HPF.out]
  rintro e w' ⟨rfl, rfl⟩
  have q4 := Q4.out.below HB4.out
  have q5 : w.grownBy _ (some gd) := nil_grown Q5.out (grown_of_below HB4.out _)
  clear HR Q4 Q5 HB2 HB HB4 H
  generalize (w3.alloc (.cells (bs txt).toArray 5 (21, 21 + 1))) = w4 at *
  have HR := Lib.hid hr4
  have Q4 := Lib.hid q4
  have Q5 := Lib.hid q5
  clear hr4 q4 q5
  have hlc := HC.out
  have hl21 : 21 ≤ LN := by rw [HLN.out, HT.out.length]; have := ofs_big HT.out.good (Nat.le_refl L.length); omega
  have b1 : (21 : Int) ≤ LN := by omega
  have b2 : (21 : Int) ≤ c := by omega
  have b3 : 21 ≤ c := by omega
  have hjo : Jo (w4.alloc (.cells #[.pointer (some ⟨gf, 0, none⟩), .int .i64 0, .int .i64 21, .bool false] 70)) w4.heap.size gf 0 21 false := ⟨_, heap_alloc_new w4 _, rfl, fun i hi => by
    match i, hi with
    | 0, _ => rfl
    | 1, _ => rfl
    | 2, _ => rfl
    | 3, _ => rfl⟩
  have hba : Below w4.heap.size w4 (w4.alloc (.cells #[.pointer (some ⟨gf, 0, none⟩), .int .i64 0, .int .i64 21, .bool false] 70)) := (Below.refl _ _).alloc (Nat.le_refl _) _
  have HJO := Lib.hid hjo
  have HBA := Lib.hid hba
  have hrx := HR.out.below hba
  have HRX := Lib.hid hrx
  clear hjo hba hrx
  go_upto_region 10 with fail
  go_cut [9, 10] (fun s9 s10 wx => OneV wx (oneJ (p.now.drop 21) 1) s9 s10 ∧ Below (w4.heap.size + 1) (w4.alloc (.cells #[.pointer (some ⟨gf, 0, none⟩), .int .i64 0, .int .i64 21, .bool false] 70)) wx)
  case first =>
    have hdl : (p.now.drop 21).length = LN - 21 := by rw [List.length_drop, ← HLN.out]
    have hd5 : (p.now.drop 21).length ≤ 5000000 := by have := HLM.out; rw [List.length_drop]; omega
    by_cases hc21 : c = 21
    · subst hc21
      have hd0 : 0 = (p.now.drop 21).length := by omega
      have HD0 := Lib.hid hd0
      have HRE := Lib.hid (rd_drop_same HRX.out 21 (by rw [← HLN.out]; omega))
      clear hd0 hdl hd5
      go_wp2_with fail
      refine (one_any A 0 0 (p.now.drop 21) 1 _ HD0.out (by have := HD0.out; omega) (Nat.le_refl _) (by omega) HRE.out).mono ?_
      rintro e w5 ⟨hb, ⟨hn, vx, rfl⟩ | ⟨body, A', c', hn, rfl, hc', hr'⟩⟩
      · have HN := Lib.hid hn
        have HB := Lib.hid (hb.mono (by rw [World.size_alloc]; exact Nat.le_refl _))
        clear hn hb
        go_wp2_with fail
        go_meet
        exact ⟨.inl ⟨HN.out, rfl⟩, HB.out⟩
      · have HN := Lib.hid hn
        have HB := Lib.hid (hb.mono (by rw [World.size_alloc]; exact Nat.le_refl _))
        have HR' := Lib.hid hr'
        clear hn hb hr'
        go_wp2_with fail
        go_meet
        exact ⟨.inr ⟨body, A', c', HN.out, rfl, rfl, hc', HR'.out⟩, HB.out⟩
    · have HD0 := Lib.hid hdl
      have HD5 := Lib.hid hd5
      have HRE := Lib.hid (rd_drop_on HRX.out 21)
      clear hdl hd5
      go_wp2_with fail
      refine (one_any _ (LN - 21) (c - 21) (p.now.drop 21) 1 _ HD0.out.symm HD5.out (by omega) (by omega) HRE.out).mono ?_
      rintro e w5 ⟨hb, ⟨hn, vx, rfl⟩ | ⟨body, A', c', hn, rfl, hc', hr'⟩⟩
      · have HN := Lib.hid hn
        have HB := Lib.hid (hb.mono (by rw [World.size_alloc]; exact Nat.le_refl _))
        clear hn hb
        go_wp2_with fail
        go_meet
        exact ⟨.inl ⟨HN.out, rfl⟩, HB.out⟩
      · have HN := Lib.hid hn
        have HB := Lib.hid (hb.mono (by rw [World.size_alloc]; exact Nat.le_refl _))
        have HR' := Lib.hid hr'
        clear hn hb hr'
        go_wp2_with fail
        go_meet
        exact ⟨.inr ⟨body, A', c', HN.out, rfl, rfl, hc', HR'.out⟩, HB.out⟩
  case rest =>
    obtain ⟨hov, hbx⟩ := hcut
    have hbx' : Below w4.heap.size w4 wc := HBA.out.trans (hbx.mono (Nat.le_succ _))
    have hj : Jo wc w4.heap.size gf 0 21 false := below_row hbx HJO.out (Nat.lt_succ_self _)
    have HJ0 := Lib.hid hj
    have HV0 := Lib.hid hov
    have HB0 := Lib.hid hbx'
    clear hov hbx hbx' hj HJO HBA HRX
    go_wp2_with fail
    go_loopw [8, 9, 10] (fun v8 v9 v10 wr => ∃ i, i ≤ L.length ∧ Jo wr w4.heap.size gf i (ofs L i) false ∧ Lo wr (w4.heap.size + 1) v8 (L.take i) ∧ OneV wr (oneJ (p.now.drop (ofs L i)) (i + 1)) v9 v10 ∧ Below w4.heap.size w4 wr) (fun _ _ _ wr => L.length + 1 - (intOf ((wr.cell? ⟨w4.heap.size, 1, none⟩).getD (.int .i64 0))).toNat)
    case atStart => exact ⟨0, Nat.zero_le _, HJ0.out, Lo.nil _ _, HV0.out, HB0.out⟩
    case round =>
      obtain ⟨i, hi, hj, hlo, hov, hb⟩ := hrel
      have HJ := Lib.hid hj
      have HLO := Lib.hid hlo
      have HB := Lib.hid hb
      obtain ⟨c0, c1, c2, -⟩ := hj.c
      have hgl : w4.heap.size < wr.heap.size := block_lt_of_cell c0
      have HC1 := Lib.hid c1
      clear hj hlo hb HJ0 HV0 HB0
      rcases hov with ⟨hn, rfl⟩ | ⟨body, A', c', hn, rfl, rfl, hc', hr'⟩
      · have hiL : i = L.length := by
          rcases Nat.lt_or_ge i L.length with h | h
          · have := HT.out.next h; rw [hn] at this; cases this
          · omega
        subst hiL
        have hlen := HT.out.length
        obtain ⟨e0, he0⟩ : ∃ e0, e0 = ofs L L.length := ⟨_, rfl⟩
        rw [← he0] at c2
        rw [← he0, ← HLN.out] at hlen
        have HE0 := Lib.hid he0
        have hsz := Q5.out.size
        have hlo := HLO.out
        rw [List.take_length] at hlo
        have HLO2' := Lib.hid hlo
        have HLO2 := Lib.hid (hlo.mono (show w.heap.size ≤ w4.heap.size + 1 by omega))
        have HSEP : Hid (∀ k, u8.ownBlock = some k → nb ≠ some k ∧ ob ≠ some k) := fun k e => ⟨fun e2 => by have := (hlo.lt k e).1; have := Q4.out.nl.1 k e2; omega, fun e2 => by have := (hlo.lt k e).1; have := Q4.out.nl.2 k e2; omega⟩
        have HFW := Lib.hid (Q4.out.below HB.out)
        have HGW := Lib.hid (nil_grown Q5.out (grown_of_below HB.out (some gd)))
        have hgd := Q4.out.lt
        have hlm := HLM.out
        have HSI := Lib.hid hsz
        have HN := Lib.hid hn
        clear hi hn he0 hlo c0 c1 hsz
        by_cases hr0 : r = []
        · have hee : e0 = LN := by rw [hlen, hr0]; rfl
          have HR0 := Lib.hid hr0
          have HEE := Lib.hid hee
          have hbb : ((e0 : Int) == LN) = true := by rw [hee]; exact beq_self_eq_true _
          clear hlen hr0 hee
          go_wp2_with fail
          go_ret3
          have hod : openD p L r = (0, p.pre.2) := if_pos HR0.out
          rw [hod]
          exact ⟨nb, ob, HFW.out, .inl (.inl rfl), .inr (.inl rfl), HGW.out, .inl ⟨rfl, w4.heap.size, u8, rfl, HJ.out, HLO2.out, HSI.out, HSEP.out⟩⟩
        · have hr1 : 0 < r.length := List.length_pos_iff.2 hr0
          have hbb : ((e0 : Int) == LN) = false := by rw [beq_eq_false_iff_ne]; omega
          have HLE := Lib.hid (show e0 ≤ LN by omega)
          have HR0 := Lib.hid hr0
          clear hlen hr0 hr1
          go_wp2_with fail
          refine (jback_any HJ.out HFW.out (by rw [← HE0.out, p.pre_keeps.2.1, ← HLN.out]; exact HLE.out)).mono ?_
          rintro e w5 ⟨x, rfl, hva, hx⟩
          have HX := Lib.hid hx
          have hod : openD p L r = backD p.pre.2 (ofs L L.length) := if_neg HR0.out
          have HOD := Lib.hid hod
          obtain ⟨nb5, ob5, hf5, hn5, ho5, hgr⟩ := hva
          have HF5 := Lib.hid hf5
          have HN5 := Lib.hid (new_two (.inl (.inl rfl)) (.inr (.inl rfl)) HGW.out.size hn5)
          have HO5 := Lib.hid (new_two (.inl (.inl rfl)) (.inr (.inl rfl)) HGW.out.size ho5)
          have HSP5 : Hid (∀ k, u8.ownBlock = some k → nb5 ≠ some k ∧ ob5 ≠ some k) := fun k e => ⟨new_not hn5 (HSEP.out k e).1 (HSEP.out k e).2 (HLO2'.out.lt k e).2, new_not ho5 (HSEP.out k e).1 (HSEP.out k e).2 (HLO2'.out.lt k e).2⟩
          have HGR := Lib.hid hgr
          clear hx hod hf5 hn5 ho5 hgr
          by_cases hx0 : x = 0
          · subst hx0
            go_wp2_with fail
            go_ret3
            rw [HOD.out]
            exact ⟨nb5, ob5, HF5.out, HN5.out, HO5.out, nil_grown HGW.out HGR.out, .inl ⟨HX.out.symm, w4.heap.size, u8, rfl, HJ.out.grown HFW.out HGR.out, Lo.mono (HLO2'.out.grown HFW.out HGR.out (by omega)) (by have := HSI.out; omega), HSI.out, HSP5.out⟩⟩
          · have hxb : (x != 0) = true := by rw [bne_iff_ne]; exact hx0
            have HX0 := Lib.hid hx0
            clear hx0
            go_wp2_with fail
            go_ret3
            rw [HOD.out, ← HX.out]
            exact ⟨nb5, ob5, HF5.out, HN5.out, HO5.out, nil_grown HGW.out HGR.out, .inr ⟨HX0.out, rfl⟩⟩
      · have hiL : i < L.length := by
          rcases Nat.lt_or_ge i L.length with h | h
          · exact h
          · obtain rfl : i = L.length := by omega
            rw [HT.out.last] at hn; cases hn
        have hbody : body = L.getD i [] := by have := HT.out.next hiL; rw [hn] at this; injection this
        obtain ⟨n, hbn⟩ : ∃ n, n = body.length := ⟨_, rfl⟩
        have hgood : GoodB body := by rw [hbody]; exact HT.out.good _ (getD_mem hiL)
        have hbig := ofs_big HT.out.good (show i + 1 ≤ L.length by omega)
        have hat := (HT.out.at (show i + 1 ≤ L.length by omega)).2
        have hsc := ofs_succ hiL
        rw [← hbody, ← hbn] at hsc
        rw [← HLN.out] at hat
        obtain ⟨e0, he0⟩ : ∃ e0, e0 = ofs L i := ⟨_, rfl⟩
        obtain ⟨e1, he1⟩ : ∃ e1, e1 = ofs L (i + 1) := ⟨_, rfl⟩
        obtain ⟨i1, hi1⟩ : ∃ i1, i1 = i + 1 := ⟨_, rfl⟩
        obtain ⟨m, hm⟩ : ∃ m, m = 54 + n := ⟨_, rfl⟩
        rw [← he0] at c2
        rw [← he0, ← he1] at hsc
        rw [← he1] at hat hbig
        have hlm := HLM.out
        have hLN5 : LN ≤ 4194304 := by rw [HLN.out]; omega
        have hn1 : n ≤ 1048576 := by rw [hbn]; exact hgood.2
        have k1 : IntKind.i64.wrap ((i : Int) + 1) = (i1 : Int) := by rw [IntKind.wrap_i64]; omega
        have k2 : IntKind.i64.wrap ((e0 : Int) + (m : Int)) = (e1 : Int) := by rw [IntKind.wrap_i64]; omega
        have HBN := Lib.hid hbn
        have HBO := Lib.hid hbody
        have HE0 := Lib.hid he0
        have HE1 := Lib.hid he1
        have HI1 := Lib.hid hi1
        have HM := Lib.hid hm
        have HR' := Lib.hid hr'
        rw [← hbn] at hc'
        clear hn hgood hsc hbn hbody he0 he1 hi1 hm hr' hlm
        go_wp2_with fail
        refine (bclone_any A' _ c' body wr (by first | exact HBN.out | rfl) (by have := HBN.out; omega) HR'.out).mono ?_
        rintro e w5 ⟨vb, rfl, hob, hb5⟩
        have HLO5 := Lib.hid (HLO.out.below hb5)
        have HJ5 := Lib.hid (HJ.out.below hb5)
        have HB5 := Lib.hid (HB.out.trans (hb5.mono HB.out.size))
        have hbod : Bod w5 _ vb body := bod_ow hob (fun k e => (HLO.out.lt k e).2)
        have HBOD := Lib.hid hbod
        have hgl5 := Nat.lt_of_lt_of_le hgl hb5.size
        clear hob hb5 hbod HLO HJ HB c0 c1 c2
        have hbd := HBOD.out
        obtain ⟨Ab, cb, rfl, hb1, hb2, hb3, hb4⟩ := hbd
        have HB1 := Lib.hid hb1
        clear hb1 hb2 hb3 hb4
        go_upto_region 15 with (at_builtin; refine append_body (.tmp 58) (.tmp 61) rfl rfl _ _ body rfl rfl HLO5.out HBOD.out (by rw [List.length_take]; omega) (by omega) ?_; intro v1 w6 ho6 hg6 ha6; have HJ6 := Lib.hid (show Jo w6 w4.heap.size gf i e0 false from (HE0.out ▸ HJ5.out).of_block (hg6.block _ hgl5 (fun e => by have := (HLO5.out.lt _ e.symm).1; omega))); have HO6 := Lib.hid ho6; have HB6 := Lib.hid (HB5.out.grown hg6 HB5.out.size (fun k e => by have := (HLO5.out.lt _ e).1; omega)); obtain ⟨c0, c1, c2, -⟩ := HJ6.out.c; have f1 := HJ6.out.frozen 1; clear ho6 hg6 ha6)
        have hj7 := HJ6.out.setN i1
        have ho7 := HO6.out.setOff c1 (by intro x e; cases e) (Nat.lt_succ_self _) (.int .i64 (i1 : Nat))
        have hb7 : Below w4.heap.size w4 (w6.setCell ⟨w4.heap.size, 1, none⟩ (.int .i64 (i1 : Nat))) := HB6.out.setCell (Nat.le_refl _) _
        generalize w6.setCell ⟨w4.heap.size, 1, none⟩ (.int .i64 (i1 : Nat)) = w7 at *
        obtain ⟨-, -, c2, -⟩ := hj7.c
        have f2 := hj7.frozen 2
        have HJ7 := Lib.hid hj7
        have HO7 := Lib.hid ho7
        have HB7 := Lib.hid hb7
        have hsz : ∀ W, Calls Tryz.prog 40 #[.slice A' body.length c'] W fun e w' => e = .returned (.int .i64 m) ∧ W = w' := by
          intro W
          rw [HM.out, HBN.out]
          exact size1_any A' _ c' W (by rw [← HBN.out]; omega)
        have HSZ := Lib.hid hsz
        clear hj7 ho7 hb7 hsz f1 c1 c0 HJ6 HO6 HB6
        go_region_with (first
          | (go_at_call 40; (refine (HSZ.out _).mono ?_); rintro e w' ⟨rfl, rfl⟩))
        all_goals
          have hj8 : Jo (w7.setCell ⟨w4.heap.size, 2, none⟩ (.int .i64 (e1 : Nat))).drew w4.heap.size gf i1 e1 false := HJ7.out.setE e1
          have ho8 : Lo (w7.setCell ⟨w4.heap.size, 2, none⟩ (.int .i64 (e1 : Nat))).drew (w4.heap.size + 1) v1 (List.take i L ++ [body]) := HO7.out.setOff c2 (by intro x e; cases e) (Nat.lt_succ_self _) (.int .i64 (e1 : Nat))
          have hb8 : Below w4.heap.size w4 (w7.setCell ⟨w4.heap.size, 2, none⟩ (.int .i64 (e1 : Nat))).drew := below_drewN' (HB7.out.setCell (Nat.le_refl _) _) 1
          generalize (w7.setCell ⟨w4.heap.size, 2, none⟩ (.int .i64 (e1 : Nat))).drew = w8 at *
          clear c2 f2 HJ7 HO7 HB7 HSZ
          obtain ⟨c0, c1, c2, -⟩ := hj8.c
          have hg8 := block_lt_of_cell c0
          have HJ8 := Lib.hid hj8
          have HO8 := Lib.hid ho8
          have HB8 := Lib.hid hb8
          have HRN := Lib.hid (HR.out.below hb8)
          obtain ⟨i2, hi2⟩ : ∃ i2, i2 = i1 + 1 := ⟨_, rfl⟩
          have k3 : IntKind.i64.wrap ((i1 : Int) + 1) = (i2 : Int) := by rw [IntKind.wrap_i64]; have := HI1.out; omega
          have hk2 : i2 < 4294967296 := by have := HI1.out; omega
          have HI2 := Lib.hid hi2
          have hdl : (p.now.drop e1).length = LN - e1 := by rw [List.length_drop, ← HLN.out]
          have hd5 : (p.now.drop e1).length ≤ 5000000 := by rw [hdl]; omega
          have HD5 := Lib.hid hd5
          have s1 : (e1 : Int) ≤ LN := by omega
          have s2 : (e1 : Int) ≤ c := by omega
          have s3 : e1 ≤ c := by omega
          clear hj8 ho8 hb8 hi2 c0 hd5
          by_cases hce : c = e1
          · skip
            subst hce
            have hd0 : 0 = (p.now.drop c).length := by omega
            have HD0 := Lib.hid hd0
            have HRE := Lib.hid (rd_drop_same HRN.out c (by rw [← HLN.out]; omega))
            clear hd0 hdl
            go_upto_region 12 with fail
            go_region_held3 (fun W => W.cell? ⟨w4.heap.size, 2, none⟩ = some (.int .i64 c) ∧ W.cell? ⟨w4.heap.size, 1, none⟩ = some (.int .i64 i1))
              (first | with_reducible exact ⟨c2, c1⟩ | with_reducible exact HS3.out | exact ⟨c2, c1⟩)
              (first
                | (go_at_call 38; (refine (one_v _ _ _ (p.now.drop c) i2 _ (by exact HD0.out) HD5.out (by omega) hk2 (by exact HRE.out)).mono ?_); rintro e w9 ⟨v9, b9, rfl, hv9, hb9⟩
                   have hb9' : Below w8.heap.size w8 w9 := (below_drewN' (Below.refl w8.heap.size w8) 1).trans hb9
                   have HB9 := Lib.hid hb9'
                   have HV9 := Lib.hid hv9
                   have HS3 : Hid (w9.cell? ⟨w4.heap.size, 2, none⟩ = some (.int .i64 c) ∧ w9.cell? ⟨w4.heap.size, 1, none⟩ = some (.int .i64 i1)) := ⟨(hb9'.cell (p := ⟨w4.heap.size, 2, none⟩) hg8).trans c2, (hb9'.cell (p := ⟨w4.heap.size, 1, none⟩) hg8).trans c1⟩
                   clear hb9 hb9' hv9))
            all_goals
              go_wp2_with fail
              go_roundw
              case rel =>
                have hI1 := HI1.out
                have hI2 := HI2.out
                refine ⟨i1, by omega, ?_, ?_, ?_, HB8.out.trans (HB9.out.mono HB8.out.size)⟩
                · rw [hI1, ← HE1.out, ← hI1]
                  exact HJ8.out.below HB9.out
                · rw [hI1, take_snoc hiL, ← HBO.out]
                  exact HO8.out.below HB9.out
                · rw [← hI2]
                  rw [hI1, ← HE1.out]
                  exact HV9.out
              case measure =>
                have hI1 := HI1.out
                rw [HS3.out.2, HC1.out]
                show L.length + 1 - ((i1 : Int)).toNat < L.length + 1 - ((i : Int)).toNat
                omega
          · have hd0 : LN - e1 = (p.now.drop e1).length := hdl.symm
            have HD0 := Lib.hid hd0
            have HRE := Lib.hid (rd_drop_add HRN.out e1)
            clear hd0 hdl
            go_upto_region 12 with fail
            go_region_held3 (fun W => W.cell? ⟨w4.heap.size, 2, none⟩ = some (.int .i64 e1) ∧ W.cell? ⟨w4.heap.size, 1, none⟩ = some (.int .i64 i1))
              (first | with_reducible exact ⟨c2, c1⟩ | with_reducible exact HS3.out | exact ⟨c2, c1⟩)
              (first
                | (go_at_call 38; (refine (one_v _ _ _ (p.now.drop e1) i2 _ (by exact HD0.out) HD5.out (by omega) hk2 (by exact HRE.out)).mono ?_); rintro e w9 ⟨v9, b9, rfl, hv9, hb9⟩
                   have hb9' : Below w8.heap.size w8 w9 := (below_drewN' (Below.refl w8.heap.size w8) 1).trans hb9
                   have HB9 := Lib.hid hb9'
                   have HV9 := Lib.hid hv9
                   have HS3 : Hid (w9.cell? ⟨w4.heap.size, 2, none⟩ = some (.int .i64 e1) ∧ w9.cell? ⟨w4.heap.size, 1, none⟩ = some (.int .i64 i1)) := ⟨(hb9'.cell (p := ⟨w4.heap.size, 2, none⟩) hg8).trans c2, (hb9'.cell (p := ⟨w4.heap.size, 1, none⟩) hg8).trans c1⟩
                   clear hb9 hb9' hv9))
            all_goals
              go_wp2_with fail
              go_roundw
              case rel =>
                have hI1 := HI1.out
                have hI2 := HI2.out
                refine ⟨i1, by omega, ?_, ?_, ?_, HB8.out.trans (HB9.out.mono HB8.out.size)⟩
                · rw [hI1, ← HE1.out, ← hI1]
                  exact HJ8.out.below HB9.out
                · rw [hI1, take_snoc hiL, ← HBO.out]
                  exact HO8.out.below HB9.out
                · rw [← hI2]
                  rw [hI1, ← HE1.out]
                  exact HV9.out
              case measure =>
                have hI1 := HI1.out
                rw [HS3.out.2, HC1.out]
                show L.length + 1 - ((i1 : Int)).toNat < L.length + 1 - ((i : Int)).toNat
                omega
theorem jopen_told {L : List (List Nat)} {r : List Nat} (h : Fv w gf gd nb ob K pre p) (ho : p.pre.1 = none) (ht : Told p.now L r) :
    Calls Tryz.prog 8 #[.pointer (some ⟨gf, 0, none⟩)] w fun e w' => VAfter w gf gd nb ob K pre (openD p L r).2 w' ∧
      (((openD p L r).1 = 0 ∧ OpenOk w gf L e w') ∨ ((openD p L r).1 ≠ 0 ∧ e = .returned (.tuple #[.pointer none, .slice none 0 0, .int .i64 (openD p L r).1]))) := by
  refine (jopen_told2 h ho ht).mono ?_
  rintro e w' ⟨nb', ob', h1, h2, h3, h4, h5⟩
  refine ⟨⟨nb', ob', h1, h2, h3, h4⟩, h5.imp (fun ⟨q1, gj, v, q2, q3, q4, q5, q6⟩ => ⟨q1, gj, v, q2, q3, q4, q5⟩) id⟩
end
end Go.Proofs.YtlhbijpmhokmnaaGreat
