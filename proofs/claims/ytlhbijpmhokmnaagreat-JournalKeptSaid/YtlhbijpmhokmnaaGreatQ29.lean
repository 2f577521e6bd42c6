/-
  AN ENCRYPTED FILE IN MEMORY; THE WALKS OF crypt's made, none, plain, the closure, Size, Plain, Sync. Conditions: the file lies in memory.
  THE WALKS OF crypt's Size, Plain, Sync, Append. Conditions: the file lies in memory.
  THE WALKS OF crypt's Truncate, ReadAt. Conditions: the file lies in memory.
  THE WALK OF crypt's ReadAt. Conditions: the file lies in memory.
  THE WALKS OF crypt's encrypted, Create, Open. Conditions: the disk lies in memory, the bytes read.
  THE WALKS OF crypt's Create, Open. Conditions: the disk lies in memory, the bytes read.
  crypt's CALLS ON A FILE THAT Create DID NOT MAKE; plain laws on turning twice. Conditions: none.
  THE WALK OF quillpresslaw08.awake. Conditions: none.
-/
import Derived.Test.YtlhbijpmhokmnaaGreatQ17
import Derived.Test.YtlhbijpmhokmnaaGreatQ25
import Derived.Test.YtlhbijpmhokmnaaGreatQ27
import Derived.Deep.RegionHeld3
import Derived.BigQuiet
import Derived.Deep.Cut
import Derived.Deep.QuietTactic
import Derived.Test.YtlhbijpmhokmnaaGreatQ24
import Derived.Test.YtlhbijpmhokmnaaGreatQ28
namespace Go.Proofs.YtlhbijpmhokmnaaGreat
open Go.RowKit
set_option linter.unusedSimpArgs false
set_option linter.unusedVariables false

/-- How bytes are turned: not at all, or by a key's rounds and a nonce. -/
abbrev TurnK := Option ((Nat → Nat) × List Nat)
def turnK (K : TurnK) (a : Int) (b : List Nat) : List Nat := match K with
  | none => b
  | some (kb, nonce) => ctrT kb nonce a b
def fromK (K : TurnK) : Nat := match K with
  | none => 0
  | some _ => 32
def CTurn (w : World) (tv : Value) (K : TurnK) : Prop := match K with
  | none => tv = .func (.func 31) #[] #[]
  | some (kb, nonce) => ∃ gc pc pn A c, tv = .func (.func 66) #[] #[.pointer (some ⟨pc, 0, none⟩), .pointer (some ⟨pn, 0, none⟩)] ∧ w.rowIs pc 88 1 (fun _ => .pointer (some ⟨gc, 0, none⟩)) ∧ w.rowIs pn 22 1 (fun _ => .slice A 8 c) ∧
      Cph w gc kb ∧ (∀ i, i < 240 → kb i < 256) ∧ Rd w A nonce ∧ nonce.length = 8
def flC (g fr : Nat) (tv : Value) : Nat → Value
  | 0 => .pointer (some ⟨g, 0, none⟩)
  | 1 => .int .i64 fr
  | _ => tv
structure Fl (w : World) (gf g : Nat) (nb ob : Option Nat) (d : DkS) (K : TurnK) : Prop where
  row : ∃ tv, w.rowIs gf 47 3 (flC g (fromK K) tv) ∧ CTurn w tv K
  dk : Dk w g nb ob d
section
variable {w w' : World} {gf g : Nat} {nb ob : Option Nat} {d : DkS} {K : TurnK} {tv : Value}
theorem rows_apart {g g' t t' n n' : Nat} {f f' : Nat → Value} (h : w.rowIs g t n f) (h' : w.rowIs g' t' n' f') (ht : t ≠ t') : g ≠ g' := by
  rintro rfl
  obtain ⟨c, h1, _⟩ := h
  obtain ⟨c', h2, _⟩ := h'
  rw [h1] at h2
  injection h2 with h2
  injection h2 with h3 h4
  exact ht h4
theorem CTurn.below (h : CTurn w tv K) (hb : Below w.heap.size w w') : CTurn w' tv K := by
  cases K with
  | none => exact h
  | some x =>
    obtain ⟨kb, nonce⟩ := x
    obtain ⟨gc, pc, pn, A, c, h1, h2, h3, h4, h5, h6, h7⟩ := h
    exact ⟨gc, pc, pn, A, c, h1, below_row hb h2 h2.lt, below_row hb h3 h3.lt, h4.below hb h4.lt, h5, h6.below hb, h7⟩
theorem CTurn.grown (h : CTurn w tv K) (hd : Dk w g nb ob d) (hg : w.grownBy w' (some g)) : CTurn w' tv K := by
  cases K with
  | none => exact h
  | some x =>
    obtain ⟨kb, nonce⟩ := x
    obtain ⟨gc, pc, pn, A, c, h1, h2, h3, h4, h5, h6, h7⟩ := h
    obtain ⟨nv, ov, hr, _⟩ := hd.lies
    exact ⟨gc, pc, pn, A, c, h1, grown_row hg h2 (rows_apart h2 hr (by decide)), grown_row hg h3 (rows_apart h3 hr (by decide)), h4.grown hg (rows_apart h4 hr (by decide)), h5, hd.rd h6 hg, h7⟩
theorem Fl.below (h : Fl w gf g nb ob d K) (hb : Below w.heap.size w w') : Fl w' gf g nb ob d K := by
  obtain ⟨⟨tv, h1, h2⟩, h3⟩ := h
  exact ⟨⟨tv, below_row hb h1 h1.lt, h2.below hb⟩, h3.below hb⟩
/-- A call on the disk. -/
theorem Fl.after {d' : DkS} {nb' ob' : Option Nat} (h : Fl w gf g nb ob d K) (hd : Dk w' g nb' ob' d') (hg : w.grownBy w' (some g)) : Fl w' gf g nb' ob' d' K := by
  obtain ⟨⟨tv, h1, h2⟩, h3⟩ := h
  obtain ⟨nv, ov, hr, _⟩ := h3.lies
  exact ⟨⟨tv, grown_row hg h1 (rows_apart h1 hr (by decide)), h2.grown h3 hg⟩, hd⟩
theorem Fl.c (h : Fl w gf g nb ob d K) : ∃ tv, w.cell? ⟨gf, 0, none⟩ = some (.pointer (some ⟨g, 0, none⟩)) ∧ w.cell? ⟨gf, 1, none⟩ = some (.int .i64 (fromK K : Nat)) ∧ w.cell? ⟨gf, 2, none⟩ = some tv ∧ CTurn w tv K := by
  obtain ⟨⟨tv, h1, h2⟩, h3⟩ := h
  exact ⟨tv, h1.cell (by omega), h1.cell (by omega), h1.cell (by omega), h2⟩
end
theorem made_none (w : World) : Calls Tryz.prog 68 #[.pointer none] w fun e w' => e = .returned (.bool false) ∧ w = w' := by
  go_enter Tryz.func68, Tryz.ntmps68
  go_wp2
  go_ret
  exact ⟨rfl, rfl⟩
theorem made_zeroF (gf : Nat) (w : World) (h : w.cell? ⟨gf, 0, none⟩ = some (.pointer none)) : Calls Tryz.prog 68 #[.pointer (some ⟨gf, 0, none⟩)] w fun e w' => e = .returned (.bool false) ∧ w = w' := by
  go_enter Tryz.func68, Tryz.ntmps68
  go_wp2
  go_ret
  exact ⟨rfl, rfl⟩
theorem made_f {w : World} {gf g : Nat} {nb ob : Option Nat} {d : DkS} {K : TurnK} (h : Fl w gf g nb ob d K) : Calls Tryz.prog 68 #[.pointer (some ⟨gf, 0, none⟩)] w fun e w' => e = .returned (.bool true) ∧ w = w' := by
  obtain ⟨tv, h0, -⟩ := h.c
  clear h
  go_enter Tryz.func68, Tryz.ntmps68
  go_wp2
  go_ret
  exact ⟨rfl, rfl⟩
theorem cnone_nil (w : World) : Calls Tryz.prog 30 #[.pointer none] w fun e w' => e = .returned (.bool true) ∧ w = w' := by
  go_enter Tryz.func30, Tryz.ntmps30
  go_wp2
  go_ret
  exact ⟨rfl, rfl⟩
theorem cnone_any {w : World} {g : Nat} {nb ob : Option Nat} {d : DkS} (h : Dk w g nb ob d) : Calls Tryz.prog 30 #[.pointer (some ⟨g, 0, none⟩)] w fun e w' => e = .returned (.bool false) ∧ Below w.heap.size w w' := by
  have H := Lib.hid h
  clear h
  go_enter Tryz.func30, Tryz.ntmps30
  go_wp2_with fail
  refine (copy_any H.out).mono ?_
  rintro e w' ⟨g', nb', ob', rfl, -, -, -, -, hb⟩
  have HB := Lib.hid hb
  clear hb
  go_wp2_with fail
  go_ret
  exact ⟨rfl, HB.out⟩
theorem plain_any (a : Int) (v : Value) (w : World) : Calls Tryz.prog 31 #[.int .i64 a, v] w fun e w' => e = .returned v ∧ w = w' := by
  go_enter Tryz.func31, Tryz.ntmps31
  go_wp2
  go_ret
  exact ⟨rfl, rfl⟩
set_option maxRecDepth 100000 in
set_option maxHeartbeats 1000000 in
theorem encr1_any (kb : Nat → Nat) (nonce : List Nat) (gc pc pn c : Nat) (A : Option Addr) (a : Int) (B : Option Addr) (m e0 : Nat) (b : List Nat) (w : World) (hm : m = b.length) (h2 : w.rowIs pc 88 1 (fun _ => .pointer (some ⟨gc, 0, none⟩))) (h3 : w.rowIs pn 22 1 (fun _ => .slice A 8 c))
    (h4 : Cph w gc kb) (h5 : ∀ i, i < 240 → kb i < 256) (h6 : Rd w A nonce) (h7 : nonce.length = 8) (hb : Rd w B b) :
    Calls Tryz.prog 66 #[.int .i64 a, .slice B m e0, .pointer (some ⟨pc, 0, none⟩), .pointer (some ⟨pn, 0, none⟩)] w fun e w' => ∃ A' c', e = .returned (.slice A' (ctrT kb nonce a b).length c') ∧ Ow w' w.heap.size (.slice A' (ctrT kb nonce a b).length c') (ctrT kb nonce a b) ∧ Below w.heap.size w w' := by
  subst hm
  have x2 : w.cell? ⟨pc, 0, none⟩ = some (.pointer (some ⟨gc, 0, none⟩)) := h2.cell (show 0 < 1 by omega)
  have x3 : w.cell? ⟨pn, 0, none⟩ = some (.slice A 8 c) := h3.cell (show 0 < 1 by omega)
  have H7 := Lib.hid h7
  have H4 := Lib.hid h4
  have H5 := Lib.hid h5
  have H6 := Lib.hid h6
  have HB := Lib.hid hb
  clear h2 h3 h4 h5 h6 h7 hb
  go_enter Tryz.func66, Tryz.ntmps66
  go_wp2_with fail
  refine (turn_all gc A 8 c kb nonce a B b.length e0 b w H7.out.symm rfl H4.out H5.out H6.out HB.out).mono ?_
  rintro e w1 ⟨A', c', rfl, ho, hbl⟩
  generalize hL : ctrT kb nonce a b = L at ho ⊢
  generalize ctrE nonce.length a b.length = ce
  have HLE := Lib.hid hL
  have HO := Lib.hid ho
  have HL := Lib.hid hbl
  clear ho hbl hL
  go_wp2_with fail
  go_ret
  rw [HLE.out]
  exact ⟨A', c', rfl, HO.out, HL.out⟩
end Go.Proofs.YtlhbijpmhokmnaaGreat
namespace Go.Proofs.YtlhbijpmhokmnaaGreat
open Go.RowKit
set_option linter.unusedSimpArgs false
set_option linter.unusedVariables false

set_option maxRecDepth 100000 in
set_option maxHeartbeats 1000000 in
theorem fsize_any {w : World} {gf g : Nat} {nb ob : Option Nat} {d : DkS} {K : TurnK} (h : Fl w gf g nb ob d K) : Calls Tryz.prog 36 #[.pointer (some ⟨gf, 0, none⟩)] w fun e w' => e = .returned (.int .i64 (d.now.length - fromK K : Nat)) ∧ Below w.heap.size w w' := by
  obtain ⟨tv, c0, c1, c2, -⟩ := h.c
  have hl : d.now.length ≤ 4194304 := by have := h.dk.wf.now; have := h.dk.wf.most; omega
  have hK : fromK K ≤ 32 := by unfold fromK; split <;> omega
  have H := Lib.hid h
  clear h c2
  obtain ⟨fr, hfr⟩ : ∃ fr, fr = fromK K := ⟨_, rfl⟩
  rw [← hfr] at c1 hK ⊢
  have k1 : IntKind.i64.wrap ((d.now.length : Int) - fr) = (d.now.length : Int) - fr := by simp [IntKind.wrap, IntKind.signed, IntKind.bits]; omega
  obtain ⟨n, hn⟩ : ∃ n, n = d.now.length - fr := ⟨_, rfl⟩
  have k2 : (if (d.now.length : Int) - fr < 0 then 0 else (d.now.length : Int) - fr) = n := by split <;> omega
  have k3 : (if (0 : Int) < (d.now.length : Int) - fr then (d.now.length : Int) - fr else 0) = n := by split <;> omega
  rw [← hn]
  clear hn hfr
  go_enter Tryz.func36, Tryz.ntmps36
  go_wp2_with fail
  refine (made_f H.out).mono ?_
  rintro e w' ⟨rfl, rfl⟩
  go_wp2_with fail
  go_region_held3 (fun W => W.cell? ⟨gf, 0, none⟩ = some (.pointer (some ⟨g, 0, none⟩)) ∧ W.cell? ⟨gf, 1, none⟩ = some (.int .i64 fr))
    (first | with_reducible exact ⟨c0, c1⟩ | exact ⟨c0, c1⟩)
    (first
      | (go_at_call 12; (refine (size_any (H.out.dk.below (below_drewN' (Below.refl w.heap.size w) 1))).mono ?_); rintro e w' ⟨rfl, rfl⟩))
  all_goals
    go_wp2
    go_ret
    exact ⟨rfl, below_drewN' (Below.refl _ _) _⟩
theorem fsync_any {w : World} {gf g : Nat} {nb ob : Option Nat} {d : DkS} {K : TurnK} (h : Fl w gf g nb ob d K) : Calls Tryz.prog 50 #[.pointer (some ⟨gf, 0, none⟩)] w (Ret fun r w' => After w g nb ob d.sync.2 w' ∧ r = d.sync.1) := by
  obtain ⟨tv, c0, c1, c2, -⟩ := h.c
  have H := Lib.hid h
  clear h c2 c1
  go_enter Tryz.func50, Tryz.ntmps50
  go_wp2_with fail
  refine (made_f H.out).mono ?_
  rintro e w' ⟨rfl, rfl⟩
  go_wp2_with fail
  refine (sync_any H.out.dk).mono ?_
  rintro e w' ⟨r, rfl, ha, hr⟩
  have HA := Lib.hid ha
  have HR := Lib.hid hr
  clear ha hr
  go_wp2_with fail
  go_ret
  exact ⟨r, rfl, HA.out, HR.out⟩
theorem cr_append {g : Nat} {nb ob : Option Nat} {d : DkS} {w : World} (h : Dk w g nb ob d) (A : Option Addr) (n c : Nat) (m : List Nat) (hn : n = m.length) (hm : m.length ≤ 5000000) (hr : Rd w A m) :
    Calls Tryz.prog 58 #[.pointer (some ⟨g, 0, none⟩), .slice A n c] w (Ret fun r w' => After w g nb ob (d.append m).2 w' ∧ r = (d.append m).1) := by
  subst hn
  exact append_any h A c m hm hr
theorem After.fromB {w W w' : World} {g : Nat} {nb ob : Option Nat} {d : DkS} (hb : Below w.heap.size w W) (h : After W g nb ob d w') : After w g nb ob d w' := After.from (grown_of_below hb _) h
theorem ctrT_le {kb : Nat → Nat} {nonce : List Nat} {a : Int} {b : List Nat} : (ctrT kb nonce a b).length ≤ 4194304 := by
  rw [ctrT_length]
  exact ctrL_le
set_option maxRecDepth 100000 in
set_option maxHeartbeats 4000000 in
theorem fappend_any {w : World} {gf g : Nat} {nb ob : Option Nat} {d : DkS} {K : TurnK} (h : Fl w gf g nb ob d K) (A : Option Addr) (n c : Nat) (b : List Nat) (hn : n = b.length) (hb : b.length ≤ 5000000) (hr : Rd w A b) :
    Calls Tryz.prog 49 #[.pointer (some ⟨gf, 0, none⟩), .slice A n c] w (Ret fun r w' => After w g nb ob (d.append (turnK K d.now.length b)).2 w' ∧ r = (d.append (turnK K d.now.length b)).1) := by
  subst hn
  obtain ⟨tv, c0, c1, c2, ht⟩ := h.c
  have hgl : gf < w.heap.size := block_lt_of_cell c0
  have H := Lib.hid h
  have HR := Lib.hid hr
  have HD0 : Hid (Below w.heap.size w w.drew) := below_drewN' (Below.refl _ _) 1
  clear h hr c1
  cases K with
  | none =>
    obtain rfl : tv = .func (.func 31) #[] #[] := ht
    go_enter Tryz.func49, Tryz.ntmps49
    go_wp2_with fail
    refine (made_f H.out).mono ?_
    rintro e w' ⟨rfl, rfl⟩
    go_wp2_with fail
    go_region_held3 (fun W => W.cell? ⟨gf, 0, none⟩ = some (.pointer (some ⟨g, 0, none⟩)) ∧ W.cell? ⟨gf, 2, none⟩ = some (.func (.func 31) #[] #[]))
      (first | with_reducible exact ⟨c0, c2⟩ | with_reducible exact HS3.out | exact ⟨c0, c2⟩)
      (first
        | (go_at_call 12; (refine (size_any (H.out.dk.below HD0.out)).mono ?_); rintro e w' ⟨rfl, rfl⟩)
        | (go_at_call 31; (refine (plain_any _ _ _).mono ?_); rintro e w' ⟨rfl, rfl⟩)
        | (go_at_call 58; (refine (cr_append (H.out.dk.below HD0.out) A b.length c b rfl hb (HR.out.below HD0.out)).mono ?_); rintro e w3 ⟨r, rfl, ha, hx⟩
           have HA := Lib.hid (After.fromB HD0.out ha)
           have HX := Lib.hid hx
           obtain ⟨_, _, _, _, _, hg3⟩ := ha
           have HS3 : Hid (w3.cell? ⟨gf, 0, none⟩ = some (.pointer (some ⟨g, 0, none⟩)) ∧ w3.cell? ⟨gf, 2, none⟩ = some (.func (.func 31) #[] #[])) := by
             have hne : gf ≠ g := by
               obtain ⟨tv2, hrow, _⟩ := H.out.row
               obtain ⟨nv, ov, hr2, _⟩ := H.out.dk.lies
               exact rows_apart hrow hr2 (by decide)
             exact ⟨(grown_cell (p := ⟨gf, 0, none⟩) hg3 hgl hne).trans c0, (grown_cell (p := ⟨gf, 2, none⟩) hg3 hgl hne).trans c2⟩
           clear hx hg3))
    all_goals
      go_wp2
      go_ret
      exact ⟨r, rfl, HA.out, HX.out⟩
  | some x =>
    obtain ⟨kb, nonce⟩ := x
    obtain ⟨gc, pc, pn, A0, c0', rfl, h2, h3, h4, h5, h6, h7⟩ := ht
    have H2 := Lib.hid h2
    have H3 := Lib.hid h3
    have H4 := Lib.hid h4
    have H5 := Lib.hid h5
    have H6 := Lib.hid h6
    have H7 := Lib.hid h7
    clear h2 h3 h4 h5 h6 h7
    go_enter Tryz.func49, Tryz.ntmps49
    go_wp2_with fail
    refine (made_f H.out).mono ?_
    rintro e w' ⟨rfl, rfl⟩
    go_wp2_with fail
    go_region_held3 (fun W => W.cell? ⟨gf, 0, none⟩ = some (.pointer (some ⟨g, 0, none⟩)) ∧ W.cell? ⟨gf, 2, none⟩ = some (.func (.func 66) #[] #[.pointer (some ⟨pc, 0, none⟩), .pointer (some ⟨pn, 0, none⟩)]))
      (first | with_reducible exact ⟨c0, c2⟩ | with_reducible exact HS3.out | with_reducible exact HS2.out | exact ⟨c0, c2⟩)
      (first
        | (go_at_call 12; (refine (size_any (H.out.dk.below HD0.out)).mono ?_); rintro e w' ⟨rfl, rfl⟩)
        | (go_at_call 66; (refine (encr1_any kb nonce gc pc pn c0' A0 d.now.length A b.length c b _ rfl (by exact H2.out) (by exact H3.out) (by exact H4.out) H5.out (by exact H6.out) H7.out (by exact HR.out)).mono ?_); rintro e w2 ⟨A', c', rfl, ho, hb2⟩
           have hb2' : Below w.heap.size w w2 := HD0.out.trans hb2
           have HB2 := Lib.hid hb2'
           have HS2 : Hid (w2.cell? ⟨gf, 0, none⟩ = some (.pointer (some ⟨g, 0, none⟩)) ∧ w2.cell? ⟨gf, 2, none⟩ = some (.func (.func 66) #[] #[.pointer (some ⟨pc, 0, none⟩), .pointer (some ⟨pn, 0, none⟩)])) := ⟨(hb2'.cell (p := ⟨gf, 0, none⟩) hgl).trans c0, (hb2'.cell (p := ⟨gf, 2, none⟩) hgl).trans c2⟩
           have HLL := Lib.hid (ctrT_le (kb := kb) (nonce := nonce) (a := d.now.length) (b := b))
           generalize hL : ctrT kb nonce d.now.length b = L at ho HLL ⊢
           obtain ⟨A'', c'', e2, -, -, hr2⟩ := ho.form
           injection e2 with e2a e2b e2c
           subst e2a; subst e2c
           have HL := Lib.hid hL
           have HR2 := Lib.hid hr2
           clear ho hb2 hb2' hL e2b hr2)
        | (go_at_call 58; (refine (cr_append (H.out.dk.below HB2.out) A' L.length c' L rfl (by have := HLL.out; omega) HR2.out).mono ?_); rintro e w3 ⟨r, rfl, ha, hx⟩
           have HA := Lib.hid (After.fromB HB2.out ha)
           have HX := Lib.hid hx
           obtain ⟨_, _, _, _, _, hg3⟩ := ha
           have HS3 : Hid (w3.cell? ⟨gf, 0, none⟩ = some (.pointer (some ⟨g, 0, none⟩)) ∧ w3.cell? ⟨gf, 2, none⟩ = some (.func (.func 66) #[] #[.pointer (some ⟨pc, 0, none⟩), .pointer (some ⟨pn, 0, none⟩)])) := by
             have hne : gf ≠ g := by
               obtain ⟨tv2, hrow, _⟩ := H.out.row
               obtain ⟨nv, ov, hr2, _⟩ := H.out.dk.lies
               exact rows_apart hrow hr2 (by decide)
             have hgl2 := Nat.lt_of_lt_of_le hgl HB2.out.size
             exact ⟨(grown_cell (p := ⟨gf, 0, none⟩) hg3 hgl2 hne).trans HS2.out.1, (grown_cell (p := ⟨gf, 2, none⟩) hg3 hgl2 hne).trans HS2.out.2⟩
           clear hx hg3))
    all_goals
      go_wp2
      go_ret
      rw [show turnK (some (kb, nonce)) d.now.length b = L from HL.out]
      exact ⟨r, rfl, HA.out, HX.out⟩
end Go.Proofs.YtlhbijpmhokmnaaGreat
namespace Go.Proofs.YtlhbijpmhokmnaaGreat
open Go.RowKit
set_option linter.unusedSimpArgs false
set_option linter.unusedVariables false

theorem Fl.ne {w : World} {gf g : Nat} {nb ob : Option Nat} {d : DkS} {K : TurnK} (h : Fl w gf g nb ob d K) : gf ≠ g := by
  obtain ⟨tv2, hrow, _⟩ := h.row
  obtain ⟨nv, ov, hr2, _⟩ := h.dk.lies
  exact rows_apart hrow hr2 (by decide)
theorem fromK_le (K : TurnK) : fromK K ≤ 32 := by unfold fromK; split <;> omega
set_option maxRecDepth 100000 in
set_option maxHeartbeats 2000000 in
theorem ftrunc_no {w : World} {gf g : Nat} {nb ob : Option Nat} {d : DkS} {K : TurnK} (h : Fl w gf g nb ob d K) (n : Int) (hn : n < 0 ∨ ((d.now.length - fromK K : Nat) : Int) < n) :
    Calls Tryz.prog 53 #[.pointer (some ⟨gf, 0, none⟩), .int .i64 n] w fun e w' => e = .returned (.int .i64 2) ∧ Below w.heap.size w w' := by
  have H := Lib.hid h
  clear h
  obtain ⟨s, hs⟩ : ∃ s, s = d.now.length - fromK K := ⟨_, rfl⟩
  rw [← hs] at hn
  have HS := Lib.hid hs
  clear hs
  by_cases k1 : n < 0
  · clear hn
    go_enter Tryz.func53, Tryz.ntmps53
    go_wp2_with fail
    refine (made_f H.out).mono ?_
    rintro e w' ⟨rfl, rfl⟩
    go_wp2_with fail
    go_ret
    exact ⟨rfl, Below.refl _ _⟩
  · have k2 : (s : Int) < n := by rcases hn with h | h; exact absurd h k1; exact h
    clear hn
    go_enter Tryz.func53, Tryz.ntmps53
    go_wp2_with fail
    refine (made_f H.out).mono ?_
    rintro e w' ⟨rfl, rfl⟩
    go_wp2_with fail
    refine (fsize_any H.out).mono ?_
    rw [← HS.out]
    rintro e w1 ⟨rfl, hb⟩
    have HB := Lib.hid hb
    clear hb
    go_wp2_with fail
    go_ret
    exact ⟨rfl, HB.out⟩
set_option maxRecDepth 100000 in
set_option maxHeartbeats 4000000 in
theorem ftrunc_go {w : World} {gf g : Nat} {nb ob : Option Nat} {d : DkS} {K : TurnK} (h : Fl w gf g nb ob d K) (n : Nat) (hn : n ≤ d.now.length - fromK K) (R : Int → World → Prop)
    (hR : ∀ W, Below w.heap.size w W → Calls Tryz.prog 44 #[.pointer (some ⟨g, 0, none⟩), .int .i64 (fromK K + n : Nat)] W (Ret fun r w' => R r w' ∧ W.grownBy w' (some g))) :
    Calls Tryz.prog 53 #[.pointer (some ⟨gf, 0, none⟩), .int .i64 n] w (Ret R) := by
  obtain ⟨tv, c0, c1, c2, -⟩ := h.c
  have hgl : gf < w.heap.size := block_lt_of_cell c0
  have hl : d.now.length ≤ 4194304 := by have := h.dk.wf.now; have := h.dk.wf.most; omega
  have hK := fromK_le K
  have H := Lib.hid h
  have HN := Lib.hid hR
  clear h c2 hR
  obtain ⟨fr, hfr⟩ : ∃ fr, fr = fromK K := ⟨_, rfl⟩
  rw [← hfr] at c1 hK hn
  have HF := Lib.hid hfr
  clear hfr
  obtain ⟨s, hs⟩ : ∃ s, s = d.now.length - fr := ⟨_, rfl⟩
  rw [← hs] at hn
  have HS := Lib.hid hs
  have k0 : ¬ (n : Int) < 0 := by omega
  have k2 : ¬ (s : Int) < n := by omega
  have k1 : IntKind.i64.wrap ((fr : Int) + n) = ((fr + n : Nat) : Int) := by simp [IntKind.wrap, IntKind.signed, IntKind.bits]; omega
  obtain ⟨t, ht⟩ : ∃ t, t = fr + n := ⟨_, rfl⟩
  rw [← ht] at k1
  have HT := Lib.hid ht
  clear hs ht
  go_enter Tryz.func53, Tryz.ntmps53
  go_wp2_with fail
  refine (made_f H.out).mono ?_
  rintro e w' ⟨rfl, rfl⟩
  go_wp2_with fail
  refine (fsize_any H.out).mono ?_
  rw [← HF.out, ← HS.out]
  rintro e w1 ⟨rfl, hb⟩
  have HB := Lib.hid hb
  have e0 := (hb.cell (p := ⟨gf, 0, none⟩) hgl).trans c0
  have e1 := (hb.cell (p := ⟨gf, 1, none⟩) hgl).trans c1
  have hne := H.out.ne
  have hgl1 := Nat.lt_of_lt_of_le hgl hb.size
  have HNE := Lib.hid hne
  have HD0 : Hid (Below w.heap.size w w1.drew) := hb.trans ((below_drewN' (Below.refl w1.heap.size w1) 1).mono hb.size)
  clear hb c0 c1 hne
  go_wp2_with fail
  go_region_held3 (fun W => W.cell? ⟨gf, 0, none⟩ = some (.pointer (some ⟨g, 0, none⟩)) ∧ W.cell? ⟨gf, 1, none⟩ = some (.int .i64 fr))
    (first | with_reducible exact ⟨e0, e1⟩ | with_reducible exact HS3.out | exact ⟨e0, e1⟩)
    (first
      | (go_at_call 44; (rw [HT.out, HF.out]; refine (HN.out _ HD0.out).mono ?_); rintro e w3 ⟨r, rfl, hx, hg3⟩
         have HX := Lib.hid hx
         have HS3 : Hid (w3.cell? ⟨gf, 0, none⟩ = some (.pointer (some ⟨g, 0, none⟩)) ∧ w3.cell? ⟨gf, 1, none⟩ = some (.int .i64 fr)) := ⟨(grown_cell (p := ⟨gf, 0, none⟩) hg3 hgl1 HNE.out).trans e0, (grown_cell (p := ⟨gf, 1, none⟩) hg3 hgl1 HNE.out).trans e1⟩
         clear hx hg3))
  all_goals
    go_wp2
    go_ret
    exact ⟨r, rfl, HX.out⟩
theorem ftrunc_any {w : World} {gf g : Nat} {nb ob : Option Nat} {d : DkS} {K : TurnK} (h : Fl w gf g nb ob d K) (n : Nat) (hn : fromK K + n ≤ d.now.length) :
    Calls Tryz.prog 53 #[.pointer (some ⟨gf, 0, none⟩), .int .i64 n] w (Ret fun r w' => After w g nb ob (d.op fun d => (0, { d with now := d.now.take (fromK K + n), floor := min d.floor (fromK K + n) })).2 w' ∧ r = (d.op fun d => (0, { d with now := d.now.take (fromK K + n), floor := min d.floor (fromK K + n) })).1) := by
  refine ftrunc_go h n (by omega) _ fun W hb => ?_
  refine (trunc_any (h.dk.below hb) (fromK K + n) hn).mono ?_
  rintro e w' ⟨r, rfl, ha, hr⟩
  obtain ⟨q1, q2, q3, q4, q5, q6⟩ := ha
  exact ⟨r, rfl, ⟨After.fromB hb ⟨q1, q2, q3, q4, q5, q6⟩, hr⟩, q6⟩
theorem ftrunc_far {w : World} {gf g : Nat} {nb ob : Option Nat} {d : DkS} {K : TurnK} (h : Fl w gf g nb ob d K) (hn : d.now.length < fromK K) :
    Calls Tryz.prog 53 #[.pointer (some ⟨gf, 0, none⟩), .int .i64 (0 : Nat)] w (Ret fun r w' => r = 2 ∧ Below w.heap.size w w') := by
  refine ftrunc_go h 0 (by omega) _ fun W hb => ?_
  refine (trunc_no (h.dk.below hb) ((fromK K + 0 : Nat) : Int) (by unfold truncB; simp; omega)).mono ?_
  rintro e w' ⟨rfl, hb2⟩
  exact ⟨2, rfl, ⟨rfl, hb.trans (hb2.mono hb.size)⟩, grown_of_below hb2 _⟩
end Go.Proofs.YtlhbijpmhokmnaaGreat
namespace Go.Proofs.YtlhbijpmhokmnaaGreat
open Go.RowKit
set_option linter.unusedSimpArgs false
set_option linter.unusedVariables false

set_option maxRecDepth 100000 in
set_option maxHeartbeats 2000000 in
theorem fread_no {w : World} {gf g : Nat} {nb ob : Option Nat} {d : DkS} {K : TurnK} (h : Fl w gf g nb ob d K) (a n : Int) (hn2 : n ≤ 9223372036854775807) (hn : a < 0 ∨ n < 0 ∨ ((d.now.length - fromK K : Nat) : Int) < n ∨ ((d.now.length - fromK K : Nat) : Int) - n < a) :
    Calls Tryz.prog 35 #[.pointer (some ⟨gf, 0, none⟩), .int .i64 a, .int .i64 n] w fun e w' => e = .returned (.tuple #[.slice none 0 0, .int .i64 2]) ∧ Below w.heap.size w w' := by
  have hl : d.now.length ≤ 4194304 := by have := h.dk.wf.now; have := h.dk.wf.most; omega
  have H := Lib.hid h
  clear h
  obtain ⟨s, hs⟩ : ∃ s, s = d.now.length - fromK K := ⟨_, rfl⟩
  rw [← hs] at hn
  have HS := Lib.hid hs
  have hs4 : s ≤ 4194304 := by omega
  clear hs
  by_cases k1 : a < 0
  · clear hn
    go_enter Tryz.func35, Tryz.ntmps35
    go_wp2_with fail
    refine (made_f H.out).mono ?_
    rintro e w' ⟨rfl, rfl⟩
    go_wp2_with fail
    go_ret2
    exact ⟨rfl, Below.refl _ _⟩
  · by_cases k2 : n < 0
    · clear hn
      go_enter Tryz.func35, Tryz.ntmps35
      go_wp2_with fail
      refine (made_f H.out).mono ?_
      rintro e w' ⟨rfl, rfl⟩
      go_wp2_with fail
      go_ret2
      exact ⟨rfl, Below.refl _ _⟩
    · by_cases k3 : (s : Int) < n
      · clear hn
        go_enter Tryz.func35, Tryz.ntmps35
        go_wp2_with fail
        refine (made_f H.out).mono ?_
        rintro e w' ⟨rfl, rfl⟩
        go_wp2_with fail
        refine (fsize_any H.out).mono ?_
        rw [← HS.out]
        rintro e w1 ⟨rfl, hb⟩
        have HB := Lib.hid hb
        clear hb
        go_wp2_with fail
        go_ret2
        exact ⟨rfl, HB.out⟩
      · have k4 : (s : Int) - n < a := by
          rcases hn with h | h | h | h
          · exact absurd h k1
          · exact absurd h k2
          · exact absurd h k3
          · exact h
        have k5 : IntKind.i64.wrap ((s : Int) - n) = (s : Int) - n := by simp [IntKind.wrap, IntKind.signed, IntKind.bits]; omega
        clear hn
        go_enter Tryz.func35, Tryz.ntmps35
        go_wp2_with fail
        refine (made_f H.out).mono ?_
        rintro e w' ⟨rfl, rfl⟩
        go_wp2_with fail
        refine (fsize_any H.out).mono ?_
        rw [← HS.out]
        rintro e w1 ⟨rfl, hb⟩
        have HB := Lib.hid hb
        clear hb
        go_wp2_with fail
        refine (fsize_any (H.out.below HB.out)).mono ?_
        rw [← HS.out]
        rintro e w2 ⟨rfl, hb⟩
        have HB2 := Lib.hid (HB.out.trans (hb.mono HB.out.size))
        clear hb
        go_wp2_with fail
        go_ret2
        exact ⟨rfl, HB2.out⟩
set_option maxRecDepth 100000 in
set_option maxHeartbeats 4000000 in
theorem fread2_any {w : World} {gf g : Nat} {nb ob : Option Nat} {d : DkS} {K : TurnK} (h : Fl w gf g nb ob d K) (a n : Nat) (hn : fromK K + a + n ≤ d.now.length) :
    Calls Tryz.prog 35 #[.pointer (some ⟨gf, 0, none⟩), .int .i64 a, .int .i64 n] w fun e w' => ∃ A' c' L, e = .returned (.tuple #[.slice A' L.length c', .int .i64 (d.op fun d => ((0 : Int), d)).1]) ∧ Rd w' A' L ∧ ((d.op fun d => ((0 : Int), d)).1 = 0 → L = turnK K ((fromK K + a : Nat) : Int) (readL d (fromK K + a) n)) ∧
      ((d.op fun d => ((0 : Int), d)).1 ≠ 0 → L = []) ∧ Dk w' g nb ob d.pre.2 ∧ w.grownBy w' (some g) ∧ L.length ≤ c' := by
  obtain ⟨TV, c0, c1, c2, ht⟩ := h.c
  have hgl : gf < w.heap.size := block_lt_of_cell c0
  have hl : d.now.length ≤ 4194304 := by have := h.dk.wf.now; have := h.dk.wf.most; omega
  have hK := fromK_le K
  have H := Lib.hid h
  clear h ht
  obtain ⟨fr, hfr⟩ : ∃ fr, fr = fromK K := ⟨_, rfl⟩
  rw [← hfr] at c1 hK hn
  have HF := Lib.hid hfr
  clear hfr
  obtain ⟨s, hs⟩ : ∃ s, s = d.now.length - fr := ⟨_, rfl⟩
  have HS := Lib.hid hs
  have hs4 : s ≤ 4194304 := by omega
  have k0 : ¬ (a : Int) < 0 := by omega
  have k1 : ¬ (n : Int) < 0 := by omega
  have k2 : ¬ (s : Int) < n := by omega
  have k3 : IntKind.i64.wrap ((s : Int) - n) = (s : Int) - n := by simp [IntKind.wrap, IntKind.signed, IntKind.bits]; omega
  have k4 : ¬ (s : Int) - n < a := by omega
  have k5 : IntKind.i64.wrap ((fr : Int) + a) = ((fr + a : Nat) : Int) := by simp [IntKind.wrap, IntKind.signed, IntKind.bits]; omega
  obtain ⟨t, ht⟩ : ∃ t, t = fr + a := ⟨_, rfl⟩
  rw [← ht] at k5 hn
  have HT := Lib.hid ht
  clear hs ht
  go_enter Tryz.func35, Tryz.ntmps35
  go_wp2_with fail
  refine (made_f H.out).mono ?_
  rintro e w' ⟨rfl, rfl⟩
  go_wp2_with fail
  refine (fsize_any H.out).mono ?_
  rw [← HF.out, ← HS.out]
  rintro e w1 ⟨rfl, hb⟩
  have HB := Lib.hid hb
  clear hb
  go_wp2_with fail
  refine (fsize_any (H.out.below HB.out)).mono ?_
  rw [← HF.out, ← HS.out]
  rintro e w2 ⟨rfl, hb⟩
  have hb2 := HB.out.trans (hb.mono HB.out.size)
  have HB2 := Lib.hid hb2
  have e0 := (hb2.cell (p := ⟨gf, 0, none⟩) hgl).trans c0
  have e1 := (hb2.cell (p := ⟨gf, 1, none⟩) hgl).trans c1
  have e2 := (hb2.cell (p := ⟨gf, 2, none⟩) hgl).trans c2
  have hgl1 := Nat.lt_of_lt_of_le hgl hb2.size
  have HNE := Lib.hid H.out.ne
  have HD0 : Hid (Below w.heap.size w w2.drew) := hb2.trans ((below_drewN' (Below.refl w2.heap.size w2) 1).mono hb2.size)
  clear hb hb2 c0 c1 c2
  go_wp2_with fail
  go_region_held3 (fun W => W.cell? ⟨gf, 0, none⟩ = some (.pointer (some ⟨g, 0, none⟩)) ∧ W.cell? ⟨gf, 1, none⟩ = some (.int .i64 fr))
    (first | with_reducible exact ⟨e0, e1⟩ | with_reducible exact ⟨HS3.out.1, HS3.out.2.1⟩ | exact ⟨e0, e1⟩)
    (first
      | (go_at_call 32; (refine (read_any (H.out.dk.below HD0.out) t n hn).mono ?_); rintro e w3 ⟨v, rfl, ho, hd3, hg3⟩
         have HS3 : Hid (w3.cell? ⟨gf, 0, none⟩ = some (.pointer (some ⟨g, 0, none⟩)) ∧ w3.cell? ⟨gf, 1, none⟩ = some (.int .i64 fr) ∧ w3.cell? ⟨gf, 2, none⟩ = some TV) := ⟨(grown_cell (p := ⟨gf, 0, none⟩) hg3 hgl1 HNE.out).trans e0, (grown_cell (p := ⟨gf, 1, none⟩) hg3 hgl1 HNE.out).trans e1, (grown_cell (p := ⟨gf, 2, none⟩) hg3 hgl1 HNE.out).trans e2⟩
         obtain ⟨A3, c3, rfl, hc3, -, hr3⟩ := ho.form
         have HO3 := Lib.hid ho
         have HR3 := Lib.hid hr3
         have HC3 := Lib.hid hc3
         have HD3 := Lib.hid hd3
         have HG3 := Lib.hid (nil_grown (grown_of_below HD0.out (some g)) hg3)
         have HF3 := Lib.hid ((H.out.below HD0.out).after hd3 hg3)
         clear ho hd3 hg3 hr3 hc3))
  all_goals
    generalize hx : (d.op fun d => ((0 : Int), d)).1 = x at *
    have HX := Lib.hid hx
    clear hx e0 e1 e2
    by_cases x0 : x = 0
    · subst x0
      have y1 := HS3.out.2.1
      have y2 := HS3.out.2.2
      have hgl3 := block_lt_of_cell y1
      go_wp2_with fail
      skip
      obtain ⟨tv', -, -, q2, ht⟩ := HF3.out.c
      obtain rfl : tv' = TV := by rw [y2] at q2; injection q2 with q2; exact q2.symm
      generalize hL : readL d t n = L at *
      have HLE := Lib.hid hL
      clear q2 hL
      cases K with
      | none =>
        obtain rfl : tv' = .func (.func 31) #[] #[] := ht
        go_region_held3 (fun W => W.cell? ⟨gf, 1, none⟩ = some (.int .i64 fr) ∧ W.cell? ⟨gf, 2, none⟩ = some (.func (.func 31) #[] #[]))
          (first | with_reducible exact ⟨y1, y2⟩ | exact ⟨y1, y2⟩)
          (first
            | (go_at_call 31; (refine (plain_any _ _ _).mono ?_); rintro e w' ⟨rfl, rfl⟩))
        all_goals
          go_wp2
          go_ret2
          rw [HX.out, ← HF.out, ← HT.out]
          exact ⟨A3, c3, L, rfl, HR3.out.drewN _, fun _ => by rw [HLE.out]; rfl, fun h => absurd rfl h, HD3.out.below (below_drewN' (Below.refl _ _) _), nil_grown HG3.out (grown_of_below (below_drewN' (Below.refl w3.heap.size w3) _) _), HC3.out⟩
      | some x =>
        obtain ⟨kb, nonce⟩ := x
        obtain ⟨gc, pc, pn, A0, c0', rfl, h2, h3, h4, h5, h6, h7⟩ := ht
        have H2 := Lib.hid h2
        have H3 := Lib.hid h3
        have H4 := Lib.hid h4
        have H5 := Lib.hid h5
        have H6 := Lib.hid h6
        have H7 := Lib.hid h7
        clear h2 h3 h4 h5 h6 h7
        go_region_held3 (fun W => W.cell? ⟨gf, 1, none⟩ = some (.int .i64 fr) ∧ W.cell? ⟨gf, 2, none⟩ = some (.func (.func 66) #[] #[.pointer (some ⟨pc, 0, none⟩), .pointer (some ⟨pn, 0, none⟩)]))
          (first | with_reducible exact ⟨y1, y2⟩ | with_reducible exact HS4.out | exact ⟨y1, y2⟩)
          (first
            | (go_at_call 66; (refine (encr1_any kb nonce gc pc pn c0' A0 t A3 L.length c3 L _ rfl (by exact H2.out) (by exact H3.out) (by exact H4.out) H5.out (by exact H6.out) H7.out (by exact HR3.out)).mono ?_); rintro e w4 ⟨A', c', rfl, ho, hb4⟩
               have hb4' : Below w3.heap.size w3 w4 := (below_drewN' (Below.refl _ _) 1).trans hb4
               have HB4 := Lib.hid hb4'
               have HS4 : Hid (w4.cell? ⟨gf, 1, none⟩ = some (.int .i64 fr) ∧ w4.cell? ⟨gf, 2, none⟩ = some (.func (.func 66) #[] #[.pointer (some ⟨pc, 0, none⟩), .pointer (some ⟨pn, 0, none⟩)])) := ⟨(hb4'.cell (p := ⟨gf, 1, none⟩) hgl3).trans y1, (hb4'.cell (p := ⟨gf, 2, none⟩) hgl3).trans y2⟩
               generalize hL2 : ctrT kb nonce t L = L2 at ho ⊢
               obtain ⟨A'', c'', e2, hc2, -, hr2⟩ := ho.form
               injection e2 with e2a e2b e2c
               subst e2a; subst e2c
               have HL2 := Lib.hid hL2
               have HR2 := Lib.hid hr2
               have HC2 := Lib.hid hc2
               clear ho hb4 hb4' hL2 e2b hr2 hc2))
        all_goals
          go_wp2
          go_ret2
          rw [HX.out, ← HF.out, ← HT.out]
          exact ⟨A', c', L2, rfl, HR2.out, fun _ => by rw [HLE.out]; exact HL2.out.symm, fun h => absurd rfl h, HD3.out.below HB4.out, nil_grown HG3.out (grown_of_below HB4.out _), HC2.out⟩
    · have xb : (x != 0) = true := by rw [bne_iff_ne]; exact x0
      have X0 := Lib.hid x0
      clear x0
      go_wp2_with fail
      go_ret2
      rw [HX.out]
      exact ⟨none, 0, [], rfl, Rd.nil, fun h => absurd h X0.out, fun _ => rfl, HD3.out, HG3.out, Nat.le_refl _⟩
theorem fread_any {w : World} {gf g : Nat} {nb ob : Option Nat} {d : DkS} {K : TurnK} (h : Fl w gf g nb ob d K) (a n : Nat) (hn : fromK K + a + n ≤ d.now.length) :
    Calls Tryz.prog 35 #[.pointer (some ⟨gf, 0, none⟩), .int .i64 a, .int .i64 n] w fun e w' => ∃ A' c' L, e = .returned (.tuple #[.slice A' L.length c', .int .i64 (d.op fun d => ((0 : Int), d)).1]) ∧ Rd w' A' L ∧ ((d.op fun d => ((0 : Int), d)).1 = 0 → L = turnK K ((fromK K + a : Nat) : Int) (readL d (fromK K + a) n)) ∧
      ((d.op fun d => ((0 : Int), d)).1 ≠ 0 → L = []) ∧ Dk w' g nb ob d.pre.2 ∧ w.grownBy w' (some g) :=
  (fread2_any h a n hn).mono fun _ _ ⟨A', c', L, q1, q2, q3, q4, q5, q6, _⟩ => ⟨A', c', L, q1, q2, q3, q4, q5, q6⟩
end Go.Proofs.YtlhbijpmhokmnaaGreat
namespace Go.Proofs.YtlhbijpmhokmnaaGreat
open Go.RowKit
set_option linter.unusedSimpArgs false
set_option linter.unusedVariables false

/-- The key's rounds and the nonce. -/
def encK (pw salt : List Nat) : (Nat → Nat) × List Nat := (nth (ks ((pbAll pw salt 3 1).take 32)), salt.take 8)
/-- A new file. -/
def NewF (w w' : World) (e : Ending) (g : Nat) (nb ob : Option Nat) (d : DkS) (K : TurnK) : Prop := ∃ gf, e = .returned (.pointer (some ⟨gf, 0, none⟩)) ∧ Fl w' gf g nb ob d K ∧ w.heap.size ≤ gf ∧ Below w.heap.size w w'
set_option maxRecDepth 100000 in
set_option maxHeartbeats 4000000 in
theorem encr_any {g : Nat} {nb ob : Option Nat} {d : DkS} {w : World} (h : Dk w g nb ob d) (A : Option Addr) (n c : Nat) (pw : List Nat) (B : Option Addr) (m e0 : Nat) (salt : List Nat) (hn : n = pw.length) (hl : pw.length ≤ 35184372088832) (hr : Rd w A pw) (hm : m = salt.length) (hs : salt.length = 32) (he : m ≤ e0) (hb : Rd w B salt) :
    Calls Tryz.prog 33 #[.pointer (some ⟨g, 0, none⟩), .slice A n c, .slice B m e0] w fun e w' => NewF w w' e g nb ob d (some (encK pw salt)) := by
  subst hn
  obtain rfl : m = 32 := hm.trans hs
  have HS := Lib.hid hs
  have HB := Lib.hid hb
  have HR := Lib.hid hr
  have H := Lib.hid h
  have hc1 : (8 : Int) ≤ e0 := by omega
  have hc2 : 8 ≤ e0 := by omega
  clear h hr hb hm hs
  go_enter Tryz.func33, Tryz.ntmps33
  go_wp2_with fail
  refine (pbkdf2_any A pw.length c pw B 32 e0 salt 4 32 w rfl hl HR.out HS.out.symm (by rw [HS.out]; omega) HB.out (by omega) (by omega) (by omega)).mono ?_
  rintro e w1 ⟨A1, c1, rfl, hc, hr1, hb1⟩
  have hkl : ((pbAll pw salt 3 1).take 32).length = 32 := by rw [List.length_take, pbAll_length]; rfl
  obtain ⟨KL, hKL⟩ : ∃ KL, KL = (pbAll pw salt 3 1).take 32 := ⟨_, rfl⟩
  have hr1 : Rd w1 A1 KL := by rw [hKL]; exact hr1
  rw [← hKL] at hkl
  have HKE := Lib.hid hKL
  have HKL := Lib.hid hkl
  have R1 := Lib.hid hr1
  have B1 := Lib.hid hb1
  clear hKL hkl hr1 hb1
  go_wp2_with fail
  refine (new_any A1 c1 KL w1 HKL.out R1.out).mono ?_
  rintro e w2 ⟨rfl, hcp, hb2⟩
  have C2 := Lib.hid hcp
  have B2 := Lib.hid (B1.out.trans (hb2.mono B1.out.size))
  have hsz12 := hb2.size
  have hlt2 := hcp.lt
  clear hcp hb2
  generalize w1.heap.size = gc at *
  go_wp2_with fail
  have hbx : Below w2.heap.size w2 (w2.alloc (.cells #[.pointer (some ⟨gc, 0, none⟩)] 88)) := (Below.refl _ _).alloc (Nat.le_refl _) _
  have hpc : (w2.alloc (.cells #[.pointer (some ⟨gc, 0, none⟩)] 88)).rowIs w2.heap.size 88 1 (fun _ => .pointer (some ⟨gc, 0, none⟩)) := ⟨_, heap_alloc_new w2 _, rfl, fun i hi => by
    match i, hi with
    | 0, _ => rfl⟩
  generalize w2.alloc (.cells #[.pointer (some ⟨gc, 0, none⟩)] 88) = W3 at *
  generalize hpcE : w2.heap.size = pc at *
  have B3 := Lib.hid (B2.out.trans (hbx.mono (by rw [← hpcE]; exact B2.out.size)))
  have C3 := Lib.hid (C2.out.below hbx (by rw [← hpcE]; exact C2.out.lt))
  have PC := Lib.hid hpc
  clear hbx hpc hpcE C2 B2
  have hsl : (salt.take 8).length = 8 := by rw [List.length_take, HS.out]; rfl
  refine (clone_ow B 8 e0 (salt.take 8) W3 hsl.symm (rd_takeL (HB.out.below B3.out) 8) (by rw [hsl]; omega)).mono ?_
  rintro e w4 ⟨v4, rfl, ho4, hb4⟩
  obtain ⟨A4, c4, rfl, -, -, hr4⟩ := ho4.form
  rw [hsl] at ho4 ⊢
  have R4 := Lib.hid hr4
  have B4 := Lib.hid (B3.out.trans (hb4.mono B3.out.size))
  have C4 := Lib.hid (C3.out.below hb4 C3.out.lt)
  have PC4 := Lib.hid (below_row hb4 PC.out PC.out.lt)
  have HSL := Lib.hid hsl
  clear ho4 hb4 hr4 hsl C3 PC B3
  go_wp2_with fail
  go_ret
  have hx1 : Below w4.heap.size w4 (w4.alloc (.cells #[.slice A4 8 c4] 22)) := (Below.refl _ _).alloc (Nat.le_refl _) _
  have hx2 := hx1.alloc hx1.size (.cells #[.pointer (some ⟨g, 0, none⟩), .int .i64 32, .func (.func 66) #[] #[.pointer (some ⟨pc, 0, none⟩), .pointer (some ⟨w4.heap.size, 0, none⟩)]] 47)
  have hpn : (w4.alloc (.cells #[.slice A4 8 c4] 22)).rowIs w4.heap.size 22 1 (fun _ => .slice A4 8 c4) := ⟨_, heap_alloc_new w4 _, rfl, fun i hi => by
    match i, hi with
    | 0, _ => rfl⟩
  have hy : Below (w4.heap.size + 1) (w4.alloc (.cells #[.slice A4 8 c4] 22)) ((w4.alloc (.cells #[.slice A4 8 c4] 22)).alloc (.cells #[.pointer (some ⟨g, 0, none⟩), .int .i64 32, .func (.func 66) #[] #[.pointer (some ⟨pc, 0, none⟩), .pointer (some ⟨w4.heap.size, 0, none⟩)]] 47)) := by
    have := (Below.refl (w4.alloc (.cells #[.slice A4 8 c4] 22)).heap.size (w4.alloc (.cells #[.slice A4 8 c4] 22))).alloc (Nat.le_refl _) (.cells #[.pointer (some ⟨g, 0, none⟩), .int .i64 32, .func (.func 66) #[] #[.pointer (some ⟨pc, 0, none⟩), .pointer (some ⟨w4.heap.size, 0, none⟩)]] 47)
    rwa [World.size_alloc] at this
  have hrow : World.rowIs ((w4.alloc (.cells #[.slice A4 8 c4] 22)).alloc (.cells #[.pointer (some ⟨g, 0, none⟩), .int .i64 32, .func (.func 66) #[] #[.pointer (some ⟨pc, 0, none⟩), .pointer (some ⟨w4.heap.size, 0, none⟩)]] 47)) (w4.heap.size + 1) 47 3 (flC g 32 (.func (.func 66) #[] #[.pointer (some ⟨pc, 0, none⟩), .pointer (some ⟨w4.heap.size, 0, none⟩)])) := ⟨_, heap_alloc2_new w4 _ _, rfl, fun i hi => by
    match i, hi with
    | 0, _ => rfl
    | 1, _ => rfl
    | 2, _ => rfl⟩
  have hturn : CTurn ((w4.alloc (.cells #[.slice A4 8 c4] 22)).alloc (.cells #[.pointer (some ⟨g, 0, none⟩), .int .i64 32, .func (.func 66) #[] #[.pointer (some ⟨pc, 0, none⟩), .pointer (some ⟨w4.heap.size, 0, none⟩)]] 47)) (.func (.func 66) #[] #[.pointer (some ⟨pc, 0, none⟩), .pointer (some ⟨w4.heap.size, 0, none⟩)]) (some (encK pw salt)) := by
    refine ⟨gc, pc, w4.heap.size, A4, c4, rfl, below_row hx2 PC4.out PC4.out.lt, below_row hy hpn (by omega), ?_, fun i hi => ?_, R4.out.below hx2, HSL.out⟩
    · show Cph _ gc (nth (ks ((pbAll pw salt 3 1).take 32)))
      rw [← HKE.out]
      exact C4.out.below hx2 C4.out.lt
    · exact nth_lt (ks_lt (by rw [← HKE.out]; exact R1.out.1)) i
  exact ⟨w4.heap.size + 1, rfl, ⟨⟨_, hrow, hturn⟩, H.out.below (B4.out.trans (hx2.mono B4.out.size))⟩, by have := B4.out.size; omega, B4.out.trans (hx2.mono B4.out.size)⟩
end Go.Proofs.YtlhbijpmhokmnaaGreat
namespace Go.Proofs.YtlhbijpmhokmnaaGreat
open Go.RowKit
set_option linter.unusedSimpArgs false
set_option linter.unusedVariables false

theorem After.two {w w1 w2 : World} {g : Nat} {nb ob nb1 ob1 : Option Nat} {d2 : DkS} (hn : New w nb nb1 ∨ New w ob nb1) (ho : New w nb ob1 ∨ New w ob ob1) (hg : w.grownBy w1 (some g)) (h : After w1 g nb1 ob1 d2 w2) : After w g nb ob d2 w2 := by
  obtain ⟨nb2, ob2, k1, k2, k3, k4⟩ := h
  have key : ∀ x, (New w1 nb1 x ∨ New w1 ob1 x) → (New w nb x ∨ New w ob x) := by
    intro x hx
    rcases hx with hx | hx
    · exact hn.imp (fun h => h.trans hg.size hx) (fun h => h.trans hg.size hx)
    · exact ho.imp (fun h => h.trans hg.size hx) (fun h => h.trans hg.size hx)
  exact ⟨nb2, ob2, k1, key nb2 k2, key ob2 k3, nil_grown hg k4⟩
/-- A plain file laid over a disk. -/
theorem plain_new {w : World} {g : Nat} {nb ob : Option Nat} {d : DkS} (h : Dk w g nb ob d) : Fl (w.alloc (.cells #[.pointer (some ⟨g, 0, none⟩), .int .i64 0, .func (.func 31) #[] #[]] 47)) w.heap.size g nb ob d none := by
  have hrow : (w.alloc (.cells #[.pointer (some ⟨g, 0, none⟩), .int .i64 0, .func (.func 31) #[] #[]] 47)).rowIs w.heap.size 47 3 (flC g 0 (.func (.func 31) #[] #[])) := ⟨_, heap_alloc_new w _, rfl, fun i hi => by
    match i, hi with
    | 0, _ => rfl
    | 1, _ => rfl
    | 2, _ => rfl⟩
  exact ⟨⟨_, hrow, rfl⟩, h.alloc _⟩
set_option maxRecDepth 100000 in
set_option maxHeartbeats 2000000 in
theorem create_state {g : Nat} {nb ob : Option Nat} {d : DkS} {w : World} (h : Dk w g nb ob d) (hd : 0 < d.now.length) (v1 v2 : Value) :
    Calls Tryz.prog 26 #[.pointer (some ⟨g, 0, none⟩), v1, v2] w fun e w' => e = .returned (.tuple #[.pointer none, .int .i64 20]) ∧ Below w.heap.size w w' := by
  have k1 : (0 : Int) < d.now.length := by omega
  have H := Lib.hid h
  clear h
  go_enter Tryz.func26, Tryz.ntmps26
  go_wp2_with fail
  refine (cnone_any H.out).mono ?_
  rintro e w1 ⟨rfl, hb⟩
  have HB := Lib.hid hb
  clear hb
  go_wp2_with fail
  refine (size_any (H.out.below HB.out)).mono ?_
  rintro e w' ⟨rfl, rfl⟩
  go_wp2_with fail
  go_ret2
  exact ⟨rfl, HB.out⟩
theorem create_nil (v1 v2 : Value) (w : World) : Calls Tryz.prog 26 #[.pointer none, v1, v2] w fun e w' => e = .returned (.tuple #[.pointer none, .int .i64 1]) ∧ w = w' := by
  go_enter Tryz.func26, Tryz.ntmps26
  go_wp2_with fail
  refine (cnone_nil w).mono ?_
  rintro e w1 ⟨rfl, rfl⟩
  go_wp2_with fail
  go_ret2
  exact ⟨rfl, rfl⟩
set_option maxRecDepth 100000 in
set_option maxHeartbeats 2000000 in
theorem create_arg {g : Nat} {nb ob : Option Nat} {d : DkS} {w : World} (h : Dk w g nb ob d) (hd : d.now.length = 0) (A B : Option Addr) (n c m e0 : Nat) (hnm : (n = 0 ∧ m ≠ 0) ∨ (n ≠ 0 ∧ m ≠ 32)) :
    Calls Tryz.prog 26 #[.pointer (some ⟨g, 0, none⟩), .slice A n c, .slice B m e0] w fun e w' => e = .returned (.tuple #[.pointer none, .int .i64 2]) ∧ Below w.heap.size w w' := by
  have H := Lib.hid h
  clear h
  have hdi : (d.now.length : Int) = 0 := by omega
  have HD := Lib.hid hdi
  clear hd hdi
  rcases hnm with ⟨rfl, hm⟩ | ⟨hn, hm⟩
  · have k2 : ((m : Int) == 0) = false := by rw [beq_eq_false_iff_ne]; omega
    clear hm
    go_enter Tryz.func26, Tryz.ntmps26
    go_wp2_with fail
    refine (cnone_any H.out).mono ?_
    rintro e w1 ⟨rfl, hb⟩
    have HB := Lib.hid hb
    clear hb
    go_wp2_with fail
    refine (size_any (H.out.below HB.out)).mono ?_
    rw [HD.out]
    rintro e w' ⟨rfl, rfl⟩
    go_wp2_with fail
    go_ret2
    exact ⟨rfl, HB.out⟩
  · have k1 : ((n : Int) == 0) = false := by rw [beq_eq_false_iff_ne]; omega
    have k2 : ((m : Int) != 32) = true := by rw [bne_iff_ne]; omega
    clear hm hn
    go_enter Tryz.func26, Tryz.ntmps26
    go_wp2_with fail
    refine (cnone_any H.out).mono ?_
    rintro e w1 ⟨rfl, hb⟩
    have HB := Lib.hid hb
    clear hb
    go_wp2_with fail
    refine (size_any (H.out.below HB.out)).mono ?_
    rw [HD.out]
    rintro e w' ⟨rfl, rfl⟩
    go_wp2_with fail
    go_ret2
    exact ⟨rfl, HB.out⟩
set_option maxRecDepth 100000 in
set_option maxHeartbeats 2000000 in
theorem create_plain {g : Nat} {nb ob : Option Nat} {d : DkS} {w : World} (h : Dk w g nb ob d) (hd : d.now.length = 0) (A B : Option Addr) (c e0 : Nat) :
    Calls Tryz.prog 26 #[.pointer (some ⟨g, 0, none⟩), .slice A 0 c, .slice B 0 e0] w fun e w' => ∃ gf, e = .returned (.tuple #[.pointer (some ⟨gf, 0, none⟩), .int .i64 0]) ∧ Fl w' gf g nb ob d none ∧ w.heap.size ≤ gf ∧ Below w.heap.size w w' := by
  have H := Lib.hid h
  clear h
  have hdi : (d.now.length : Int) = 0 := by omega
  have HD := Lib.hid hdi
  clear hd hdi
  go_enter Tryz.func26, Tryz.ntmps26
  go_wp2_with fail
  refine (cnone_any H.out).mono ?_
  rintro e w1 ⟨rfl, hb⟩
  have HB := Lib.hid hb
  clear hb
  go_wp2_with fail
  refine (size_any (H.out.below HB.out)).mono ?_
  rw [HD.out]
  rintro e w' ⟨rfl, rfl⟩
  go_wp2_with fail
  go_ret2
  exact ⟨w1.heap.size, rfl, plain_new (H.out.below HB.out), HB.out.size, HB.out.alloc HB.out.size _⟩
/-- What Create with a password comes to. -/
def CreP (w w' : World) (e : Ending) (g : Nat) (nb ob : Option Nat) (d : DkS) (pw salt : List Nat) : Prop :=
  ((d.append salt).1 ≠ 0 ∧ e = .returned (.tuple #[.pointer none, .int .i64 (d.append salt).1]) ∧ After w g nb ob (d.append salt).2 w') ∨
  ((d.append salt).1 = 0 ∧ (d.append salt).2.sync.1 ≠ 0 ∧ e = .returned (.tuple #[.pointer none, .int .i64 (d.append salt).2.sync.1]) ∧ After w g nb ob (d.append salt).2.sync.2 w') ∨
  ((d.append salt).1 = 0 ∧ (d.append salt).2.sync.1 = 0 ∧ ∃ gf nb' ob', e = .returned (.tuple #[.pointer (some ⟨gf, 0, none⟩), .int .i64 0]) ∧ Fl w' gf g nb' ob' (d.append salt).2.sync.2 (some (encK pw salt)) ∧ w.heap.size ≤ gf ∧ (New w nb nb' ∨ New w ob nb') ∧ (New w nb ob' ∨ New w ob ob') ∧ w.grownBy w' (some g))
set_option maxRecDepth 100000 in
set_option maxHeartbeats 4000000 in
theorem create_any {g : Nat} {nb ob : Option Nat} {d : DkS} {w : World} (h : Dk w g nb ob d) (hd : d.now.length = 0) (A : Option Addr) (n c : Nat) (pw : List Nat) (B : Option Addr) (e0 : Nat) (salt : List Nat) (hn : n = pw.length) (hpl : pw.length ≤ 35184372088832) (hp0 : pw ≠ []) (hr : Rd w A pw) (hs : salt.length = 32) (he : 32 ≤ e0) (hb : Rd w B salt) :
    Calls Tryz.prog 26 #[.pointer (some ⟨g, 0, none⟩), .slice A n c, .slice B 32 e0] w fun e w' => CreP w w' e g nb ob d pw salt := by
  have hn0 : n ≠ 0 := by rw [hn]; intro e; exact hp0 (List.eq_nil_of_length_eq_zero e)
  have k1 : ((n : Int) == 0) = false := by rw [beq_eq_false_iff_ne]; omega
  have H := Lib.hid h
  have HN := Lib.hid hn
  have HR := Lib.hid hr
  have HS := Lib.hid hs
  have HSB := Lib.hid hb
  have hdi : (d.now.length : Int) = 0 := by omega
  have HD := Lib.hid hdi
  clear h hd hdi hn hr hs hb hp0 hn0
  go_enter Tryz.func26, Tryz.ntmps26
  go_wp2_with fail
  refine (cnone_any H.out).mono ?_
  rintro e w1 ⟨rfl, hb⟩
  have HB := Lib.hid hb
  clear hb
  go_wp2_with fail
  refine (size_any (H.out.below HB.out)).mono ?_
  rw [HD.out]
  rintro e w' ⟨rfl, rfl⟩
  go_wp2_with fail
  refine (cr_append (H.out.below HB.out) B 32 e0 salt HS.out.symm (by rw [HS.out]; omega) (HSB.out.below HB.out)).mono ?_
  rintro e w2 ⟨r, rfl, ha, hx⟩
  have ha' := After.fromB HB.out ha
  have HR2 := Lib.hid ((H.out.below HB.out).rd (HR.out.below HB.out) (by obtain ⟨_, _, _, _, _, q⟩ := ha; exact q))
  have HS2 := Lib.hid ((H.out.below HB.out).rd (HSB.out.below HB.out) (by obtain ⟨_, _, _, _, _, q⟩ := ha; exact q))
  have HA := Lib.hid ha'
  have HX := Lib.hid hx
  clear ha ha' hx
  by_cases r0 : r = 0
  · subst r0
    obtain ⟨nb2, ob2, hd2, hn2, ho2, hg2⟩ := HA.out
    have D2 := Lib.hid hd2
    have N2 := Lib.hid (And.intro hn2 (And.intro ho2 hg2))
    clear hd2 hn2 ho2 hg2
    go_wp2_with fail
    refine (sync_any D2.out).mono ?_
    rintro e w3 ⟨r, rfl, ha, hx⟩
    have HR3 := Lib.hid (D2.out.rd HR2.out (by obtain ⟨_, _, _, _, _, q⟩ := ha; exact q))
    have HS3 := Lib.hid (D2.out.rd HS2.out (by obtain ⟨_, _, _, _, _, q⟩ := ha; exact q))
    have HA3 := Lib.hid (After.two N2.out.1 N2.out.2.1 N2.out.2.2 ha)
    have HX3 := Lib.hid hx
    clear ha hx
    by_cases r0 : r = 0
    · subst r0
      obtain ⟨nb3, ob3, hd3, hn3, ho3, hg3⟩ := HA3.out
      have D3 := Lib.hid hd3
      have N3 := Lib.hid (And.intro hn3 (And.intro ho3 hg3))
      clear hd3 hn3 ho3 hg3
      go_wp2_with fail
      refine (encr_any D3.out A n c pw B 32 e0 salt HN.out hpl HR3.out HS.out.symm HS.out he HS3.out).mono ?_
      rintro e w4 ⟨gf, rfl, hf, hgf, hb4⟩
      have HF := Lib.hid hf
      have HGF := Lib.hid hgf
      have HB4 := Lib.hid hb4
      clear hf hgf hb4
      go_wp2_with fail
      go_ret2
      exact .inr (.inr ⟨HX.out.symm, HX3.out.symm, gf, nb3, ob3, rfl, HF.out, Nat.le_trans N3.out.2.2.size HGF.out, N3.out.1, N3.out.2.1, nil_grown N3.out.2.2 (grown_of_below HB4.out _)⟩)
    · have xb : (r != 0) = true := by rw [bne_iff_ne]; exact r0
      have R0 := Lib.hid r0
      clear r0
      go_wp2_with fail
      go_ret2
      exact .inr (.inl ⟨HX.out.symm, by rw [← HX3.out]; exact R0.out, by rw [← HX3.out]; rfl, HA3.out⟩)
  · have xb : (r != 0) = true := by rw [bne_iff_ne]; exact r0
    have R0 := Lib.hid r0
    clear r0
    go_wp2_with fail
    go_ret2
    exact .inl ⟨by rw [← HX.out]; exact R0.out, by rw [← HX.out]; rfl, HA.out⟩
set_option maxRecDepth 100000 in
set_option maxHeartbeats 2000000 in
theorem open_plain {g : Nat} {nb ob : Option Nat} {d : DkS} {w : World} (h : Dk w g nb ob d) (A : Option Addr) (c : Nat) :
    Calls Tryz.prog 7 #[.pointer (some ⟨g, 0, none⟩), .slice A 0 c] w fun e w' => ∃ gf, e = .returned (.tuple #[.pointer (some ⟨gf, 0, none⟩), .int .i64 0]) ∧ Fl w' gf g nb ob d none ∧ w.heap.size ≤ gf ∧ Below w.heap.size w w' := by
  have H := Lib.hid h
  clear h
  go_enter Tryz.func7, Tryz.ntmps7
  go_wp2_with fail
  refine (cnone_any H.out).mono ?_
  rintro e w1 ⟨rfl, hb⟩
  have HB := Lib.hid hb
  clear hb
  go_wp2_with fail
  go_ret2
  exact ⟨w1.heap.size, rfl, plain_new (H.out.below HB.out), HB.out.size, HB.out.alloc HB.out.size _⟩
set_option maxRecDepth 100000 in
set_option maxHeartbeats 2000000 in
theorem open_short {g : Nat} {nb ob : Option Nat} {d : DkS} {w : World} (h : Dk w g nb ob d) (hd : d.now.length < 32) (A : Option Addr) (n c : Nat) (hn : n ≠ 0) :
    Calls Tryz.prog 7 #[.pointer (some ⟨g, 0, none⟩), .slice A n c] w fun e w' => e = .returned (.tuple #[.pointer none, .int .i64 12]) ∧ Below w.heap.size w w' := by
  have H := Lib.hid h
  have k1 : ((n : Int) == 0) = false := by rw [beq_eq_false_iff_ne]; omega
  have k2 : (d.now.length : Int) < 32 := by omega
  clear h hn
  go_enter Tryz.func7, Tryz.ntmps7
  go_wp2_with fail
  refine (cnone_any H.out).mono ?_
  rintro e w1 ⟨rfl, hb⟩
  have HB := Lib.hid hb
  clear hb
  go_wp2_with fail
  refine (size_any (H.out.below HB.out)).mono ?_
  rintro e w' ⟨rfl, rfl⟩
  go_wp2_with fail
  go_ret2
  exact ⟨rfl, HB.out⟩
set_option maxRecDepth 100000 in
set_option maxHeartbeats 4000000 in
/-- Open with a password, of a disk that may be read. -/
theorem open_any {g : Nat} {nb ob : Option Nat} {d : DkS} {w : World} (h : Dk w g nb ob d) (hd : 32 ≤ d.now.length) (hp : d.pre.1 = none) (A : Option Addr) (n c : Nat) (pw : List Nat) (hn : n = pw.length) (hpl : pw.length ≤ 35184372088832) (hp0 : pw ≠ []) (hr : Rd w A pw) :
    Calls Tryz.prog 7 #[.pointer (some ⟨g, 0, none⟩), .slice A n c] w fun e w' => ∃ gf, e = .returned (.tuple #[.pointer (some ⟨gf, 0, none⟩), .int .i64 0]) ∧ Fl w' gf g nb ob d.pre.2 (some (encK pw (d.now.take 32))) ∧ w.heap.size ≤ gf ∧ w.grownBy w' (some g) := by
  have hn0 : n ≠ 0 := by rw [hn]; intro e; exact hp0 (List.eq_nil_of_length_eq_zero e)
  have k1 : ((n : Int) == 0) = false := by rw [beq_eq_false_iff_ne]; omega
  have k2 : ¬ (d.now.length : Int) < 32 := by omega
  have H := Lib.hid h
  have HN := Lib.hid hn
  have HR := Lib.hid hr
  have hz : (d.op fun d => ((0 : Int), d)).1 = 0 := by
    unfold DkS.op
    cases hq : d.pre with
    | mk x y => rw [hq] at hp; have : x = none := hp; subst this; rfl
  have hL : readL d 0 32 = d.now.take 32 := by unfold readL; rw [if_pos hp]; rfl
  have hlen : (d.now.take 32).length = 32 := by rw [List.length_take]; omega
  have HZ := Lib.hid hz
  have HL := Lib.hid hL
  have HLN := Lib.hid hlen
  clear h hn hr hp0 hn0 hz hL hlen hp
  go_enter Tryz.func7, Tryz.ntmps7
  go_wp2_with fail
  refine (cnone_any H.out).mono ?_
  rintro e w1 ⟨rfl, hb⟩
  have HB := Lib.hid hb
  clear hb
  go_wp2_with fail
  refine (size_any (H.out.below HB.out)).mono ?_
  rintro e w' ⟨rfl, rfl⟩
  go_wp2_with fail
  refine (read_any (H.out.below HB.out) 0 32 (by omega)).mono ?_
  rw [HZ.out]
  rintro e w2 ⟨v, rfl, ho, hd2, hg2⟩
  rw [HL.out] at ho
  obtain ⟨A2, c2, rfl, hc2, -, hr2⟩ := ho.form
  rw [HLN.out] at hc2 ⊢
  have R2 := Lib.hid hr2
  have D2 := Lib.hid hd2
  have HG := Lib.hid (nil_grown (grown_of_below HB.out (some g)) hg2)
  have HR2 := Lib.hid ((H.out.below HB.out).rd (HR.out.below HB.out) hg2)
  clear ho hd2 hg2 hr2
  go_wp2_with fail
  refine (encr_any D2.out A n c pw A2 32 c2 (d.now.take 32) HN.out hpl HR2.out HLN.out.symm HLN.out hc2 R2.out).mono ?_
  rintro e w4 ⟨gf, rfl, hf, hgf, hb4⟩
  have HF := Lib.hid hf
  have HGF := Lib.hid hgf
  have HB4 := Lib.hid hb4
  clear hf hgf hb4
  go_wp2_with fail
  go_ret2
  exact ⟨gf, rfl, HF.out, Nat.le_trans HG.out.size HGF.out, nil_grown HG.out (grown_of_below HB4.out _)⟩
end Go.Proofs.YtlhbijpmhokmnaaGreat
namespace Go.Proofs.YtlhbijpmhokmnaaGreat
open Go.RowKit
set_option linter.unusedSimpArgs false
set_option linter.unusedVariables false

/-- No file: nil, or one whose disk is nil. -/
def NoF (w : World) (v : Value) : Prop := v = .pointer none ∨ ∃ gf, v = .pointer (some ⟨gf, 0, none⟩) ∧ w.cell? ⟨gf, 0, none⟩ = some (.pointer none)
theorem NoF.below {w w' : World} {v : Value} (h : NoF w v) (hb : Below w.heap.size w w') : NoF w' v := by
  rcases h with h | ⟨gf, h1, h2⟩
  · exact .inl h
  · exact .inr ⟨gf, h1, (hb.cell (p := ⟨gf, 0, none⟩) (block_lt_of_cell h2)).trans h2⟩
theorem made_no {w : World} {v : Value} (h : NoF w v) : Calls Tryz.prog 68 #[v] w fun e w' => e = .returned (.bool false) ∧ w = w' := by
  rcases h with rfl | ⟨gf, rfl, h2⟩
  · exact made_none w
  · exact made_zeroF gf w h2
theorem nread_any {w : World} {v : Value} (h : NoF w v) (v1 v2 : Value) : Calls Tryz.prog 35 #[v, v1, v2] w fun e w' => e = .returned (.tuple #[.slice none 0 0, .int .i64 1]) ∧ w = w' := by
  have H := Lib.hid h
  clear h
  go_enter Tryz.func35, Tryz.ntmps35
  go_wp2_with fail
  refine (made_no H.out).mono ?_
  rintro e w' ⟨rfl, rfl⟩
  go_wp2_with fail
  go_ret2
  exact ⟨rfl, rfl⟩
theorem nappend_any {w : World} {v : Value} (h : NoF w v) (v1 : Value) : Calls Tryz.prog 49 #[v, v1] w fun e w' => e = .returned (.int .i64 1) ∧ w = w' := by
  have H := Lib.hid h
  clear h
  go_enter Tryz.func49, Tryz.ntmps49
  go_wp2_with fail
  refine (made_no H.out).mono ?_
  rintro e w' ⟨rfl, rfl⟩
  go_wp2_with fail
  go_ret
  exact ⟨rfl, rfl⟩
theorem nsync_any {w : World} {v : Value} (h : NoF w v)  : Calls Tryz.prog 50 #[v] w fun e w' => e = .returned (.int .i64 1) ∧ w = w' := by
  have H := Lib.hid h
  clear h
  go_enter Tryz.func50, Tryz.ntmps50
  go_wp2_with fail
  refine (made_no H.out).mono ?_
  rintro e w' ⟨rfl, rfl⟩
  go_wp2_with fail
  go_ret
  exact ⟨rfl, rfl⟩
theorem ntrunc_any {w : World} {v : Value} (h : NoF w v) (v1 : Value) : Calls Tryz.prog 53 #[v, v1] w fun e w' => e = .returned (.int .i64 1) ∧ w = w' := by
  have H := Lib.hid h
  clear h
  go_enter Tryz.func53, Tryz.ntmps53
  go_wp2_with fail
  refine (made_no H.out).mono ?_
  rintro e w' ⟨rfl, rfl⟩
  go_wp2_with fail
  go_ret
  exact ⟨rfl, rfl⟩
theorem nsize_any {w : World} {v : Value} (h : NoF w v)  : Calls Tryz.prog 36 #[v] w fun e w' => e = .returned (.int .i64 0) ∧ w = w' := by
  have H := Lib.hid h
  clear h
  go_enter Tryz.func36, Tryz.ntmps36
  go_wp2_with fail
  refine (made_no H.out).mono ?_
  rintro e w' ⟨rfl, rfl⟩
  go_wp2_with fail
  go_ret
  exact ⟨rfl, rfl⟩
theorem ctrT_ok_length {kb : Nat → Nat} {nonce : List Nat} {a : Int} {b : List Nat} (h : CtrOk nonce.length a b.length) : (ctrT kb nonce a b).length = b.length := by
  unfold ctrT
  rw [if_pos h, turned_length]
/-- Turned twice it is as it was. -/
theorem ctrT_twice {kb : Nat → Nat} {nonce : List Nat} {a : Int} {b : List Nat} (h : CtrOk nonce.length a b.length) : ctrT kb nonce a (ctrT kb nonce a b) = b := by
  have hl := ctrT_ok_length (kb := kb) h
  have h2 : CtrOk nonce.length a (ctrT kb nonce a b).length := by rw [hl]; exact h
  have hl2 := ctrT_ok_length (kb := kb) h2
  refine eq_of_nth (hl2.trans hl) fun i hi => ?_
  have h3 := ctrT_nth hi
  have h4 := ctrT_nth h3.2
  rw [h3.1, h4.1, hl, ← Nat.xor_assoc, Nat.xor_self, Nat.zero_xor]
end Go.Proofs.YtlhbijpmhokmnaaGreat
namespace Go.Proofs.YtlhbijpmhokmnaaGreat
open Go.RowKit
set_option linter.unusedSimpArgs false
set_option linter.unusedVariables false

def z32 : List Nat := List.replicate 32 0
theorem cre_z {w w' : World} {e : Ending} {g : Nat} {nb ob : Option Nat} (h : CreP w w' e g nb ob (mkD 1000 []) [112] z32) : ∃ gf nb' ob', e = .returned (.tuple #[.pointer (some ⟨gf, 0, none⟩), .int .i64 0]) ∧ Fl w' gf g nb' ob' ⟨1000, z32, z32, 32, false, -1, 0, 0⟩ (some (encK [112] z32)) ∧ w.heap.size ≤ gf ∧ w.grownBy w' (some g) := by
  have e1 : ((mkD 1000 []).append z32).1 = 0 := by kernel_rfl
  have e2 : ((mkD 1000 []).append z32).2.sync.1 = 0 := by kernel_rfl
  rcases h with ⟨h, _⟩ | ⟨_, h, _⟩ | ⟨_, _, gf, nb', ob', h1, h2, h3, _, _, h4⟩
  · exact absurd e1 h
  · exact absurd e2 h
  · exact ⟨gf, nb', ob', h1, h2, h3, h4⟩
theorem enc_nonce : (encK [112] z32).2.length = 8 := rfl
theorem app_z (T : List Nat) (hT : T.length = 3) : DkS.append ⟨1000, z32, z32, 32, false, -1, 0, 0⟩ T = (0, ⟨1000, z32 ++ T, z32, 32, false, -1, 0, 0⟩) := by
  have h1 : ¬ (1000 < z32.length + T.length) := by rw [hT]; decide
  have h2 : DkS.append ⟨1000, z32, z32, 32, false, -1, 0, 0⟩ T = (if 1000 < z32.length + T.length then (5, ⟨1000, z32, z32, 32, false, -1, 0, 0⟩) else (0, ⟨1000, z32 ++ T, z32, 32, false, -1, 0, 0⟩)) := rfl
  rw [h2, if_neg h1]
theorem read_z (T : List Nat) (hT : T.length = 3) : readL ⟨1000, z32 ++ T, z32, 32, false, -1, 0, 0⟩ 32 3 = T := by
  have h : readL ⟨1000, z32 ++ T, z32, 32, false, -1, 0, 0⟩ 32 3 = ((z32 ++ T).drop 32).take 3 := rfl
  rw [h, List.drop_append_of_le_length (by decide), show z32.drop 32 = [] from by decide, List.nil_append, List.take_of_length_le (by omega)]
end Go.Proofs.YtlhbijpmhokmnaaGreat
