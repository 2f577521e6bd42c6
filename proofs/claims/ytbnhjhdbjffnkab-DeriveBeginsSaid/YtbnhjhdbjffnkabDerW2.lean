/-
  THE WALKS OF derive.begun AND derive.Hmac. Conditions: the key and the bytes read as lists.
-/
import Derived.Test.YtbnhjhdbjffnkabDerW1
namespace Go.Proofs.Ytbnhjhdbjffnkab
open Go.RowKit
set_option linter.unusedSimpArgs false
set_option linter.unusedVariables false

theorem Dg.up {w0 w1 w2 : World} {g : Nat} {rv : Value} {l : List Nat} (h : Dg w1 w2 g rv l) (hb : Below w0.heap.size w0 w1) : Dg w0 w2 g rv l := ⟨h.dr, h.rest.mono hb.size, h.ng, Nat.le_trans hb.size h.bg, hb.trans (h.bl.mono hb.size)⟩
/-- Two digests that have nothing in common. -/
structure Two (w0 w : World) (g0 g1 : Nat) (r0 r1 : Value) (l0 l1 : List Nat) : Prop where
  a : Dg w0 w g0 r0 l0
  b : Dg w0 w g1 r1 l1
  g : g0 ≠ g1
  n0 : r0.ownBlock ≠ some g1
  n1 : r1.ownBlock ≠ some g0
  nr : ∀ k, r0.ownBlock = some k → r1.ownBlock ≠ some k
theorem Two.of {w0 w1 w2 : World} {g0 g1 : Nat} {r0 r1 : Value} {l0 l1 : List Nat} (h : Dg w0 w1 g0 r0 l0) (k : Dg w1 w2 g1 r1 l1) : Two w0 w2 g0 g1 r0 r1 l0 l1 := by
  have hr1 : ∀ x, r1.ownBlock = some x → w1.heap.size ≤ x := fun x e => ow_base k.rest e
  refine ⟨h.below k.bl, k.up h.bl, ?_, ?_, ?_, ?_⟩
  · have := k.bg; have := h.dr.lt; omega
  · intro e; have := h.rest.ownLt' e; have := k.bg; omega
  · intro e; have := hr1 g0 e; have := h.dr.lt; omega
  · intro x e e2; have := hr1 x e2; have := h.rest.ownLt' e; omega
theorem Two.re {w0 Y w w' : World} {g0 g1 q : Nat} {r0 r1 : Value} {l0 l1 : List Nat} (h : Two Y w g0 g1 r0 r1 l0 l1) (hb : Below w0.heap.size w0 Y) (hg : w.grownBy w' (some q)) (hq : w0.heap.size ≤ q) (hq2 : q < Y.heap.size) : Two w0 w' g0 g1 r0 r1 l0 l1 := by
  have one : ∀ {g : Nat} {r : Value} {l : List Nat}, Dg Y w g r l → Dg w0 w' g r l := fun {g r l} k =>
    ⟨k.dr.of (hg.block g k.dr.lt (by intro e; injection e with e; have := k.bg; omega)), (k.rest.mono hb.size).keepb' (fun x e => hg.block x (k.rest.ownLt' e) (by intro e2; injection e2 with e2; have := ow_base k.rest e; omega)), k.ng, Nat.le_trans hb.size k.bg,
      below_of_grown (hb.trans (k.bl.mono hb.size)) hg (Nat.le_trans hb.size k.bl.size) hq⟩
  exact ⟨one h.a, one h.b, h.g, h.n0, h.n1, h.nr⟩
theorem two_of {cs : Array Value} {a b : Value} (h : cs.size = 2) (h0 : cs[0]? = some a) (h1 : cs[1]? = some b) : cs = #[a, b] := by
  obtain ⟨l⟩ := cs
  match l, h with
  | [x, y], _ =>
    simp at h0 h1
    rw [h0, h1]
theorem ahead_n (t p : Nat) (ht : t < 256) (A : Option Addr) (n c : Nat) (k : List Nat) (hn : n = k.length) (hk : k.length ≤ 64) (w : World) (hbox : w.cell? ⟨p, 0, none⟩ = some (.slice A n c)) (hr : Rd w A k) :
    Calls Try.prog 41 #[.int .u8 t, .pointer (some ⟨p, 0, none⟩)] w fun e w' => ∃ g rv, e = .returned (.pointer (some ⟨g, 0, none⟩)) ∧ Dg w w' g rv (padS k t) := by
  subst hn
  exact ahead_any t p ht A c k hk w hbox hr
theorem boxes (w : World) (v : Value) : Below w.heap.size w ((w.alloc (.cells #[v] 25)).alloc (.cells #[.pointer none, .pointer none] 59)) ∧
    ((w.alloc (.cells #[v] 25)).alloc (.cells #[.pointer none, .pointer none] 59)).rowIs w.heap.size 25 1 (fun _ => v) ∧
    ((w.alloc (.cells #[v] 25)).alloc (.cells #[.pointer none, .pointer none] 59)).rowIs (w.heap.size + 1) 59 2 (fun _ => .pointer none) ∧
    ((w.alloc (.cells #[v] 25)).alloc (.cells #[.pointer none, .pointer none] 59)).heap.size = w.heap.size + 2 := by
  have h1 : (w.alloc (.cells #[v] 25)).rowIs w.heap.size 25 1 (fun _ => v) := by
    refine rowNew rfl rfl fun i hi => ?_
    obtain rfl : i = 0 := by omega
    rfl
  have hb := (Below.refl (w.alloc (.cells #[v] 25)).heap.size (w.alloc (.cells #[v] 25))).alloc (Nat.le_refl _) (.cells #[.pointer none, .pointer none] 59)
  refine ⟨((Below.refl _ _).alloc (Nat.le_refl _) _).alloc (by rw [World.size_alloc]; omega) _, h1.of_block (hb.block _ h1.lt), rowNew (by rw [World.size_alloc]) rfl fun i hi => ?_, by rw [World.size_alloc, World.size_alloc]⟩
  rcases (show i = 0 ∨ i = 1 by omega) with rfl | rfl <;> rfl
set_option maxRecDepth 100000 in
set_option maxHeartbeats 2000000 in
theorem begun_any (A : Option Addr) (n c : Nat) (key : List Nat) (w : World) (hn : n = key.length) (hl : key.length ≤ 35184372088832) (hr : Rd w A key) :
    Calls Try.prog 37 #[.slice A n c] w fun e w' => ∃ g0 g1 r0 r1, e = .returned (.agg #[.pointer (some ⟨g0, 0, none⟩), .pointer (some ⟨g1, 0, none⟩)]) ∧ Two w w' g0 g1 r0 r1 (padS (keyS key) 54) (padS (keyS key) 92) := by
  have HR := Lib.hid hr
  have HN := Lib.hid hn
  clear hr
  by_cases h64 : 64 < key.length
  · have h64' : (64 : Int) < n := by omega
    clear hn
    go_enter Try.func37, Try.ntmps37
    go_wp2_with fail
    obtain ⟨hb0, hx0, ht0, hs0⟩ := boxes w (.slice A n c)
    have hrx := HR.out.below hb0
    generalize (w.alloc (.cells #[.slice A n c] 25)).alloc (.cells #[.pointer none, .pointer none] 59) = W at *
    have HB0 := Lib.hid hb0
    have HX0 := Lib.hid hx0
    have HT0 := Lib.hid ht0
    have HS0 := Lib.hid hs0
    have HRX := Lib.hid hrx
    clear hb0 hx0 ht0 hs0 hrx HR
    refine (of_c A n c key W HN.out hl HRX.out).mono ?_
    rintro e w3 ⟨rfl, hb3⟩
    have HB3 := Lib.hid hb3
    have hrk : ∀ V : World, Rd (V.alloc (.cells (shaC key) 30)) (some ⟨V.heap.size, 0, none⟩) (sha key) := fun V => constW_rd V _ (sha key) (sha_lt key) _
    have hci : ∀ i, i < 32 → (shaC key)[i]? = some (.int .u8 (nth (sha key) i : Nat)) := by
      intro i hi
      have : i < (sha key).length := by rw [sha_length]; exact hi
      rw [nth_get this]
      simp [shaC, this]
    have hcn : (shaC key).size = 32 := by simp [shaC, sha_length]
    generalize shaC key = CK at *
    have HRK := Lib.hid hrk
    have HCI := Lib.hid hci
    have HCN := Lib.hid hcn
    have hb4 := (Below.refl w3.heap.size w3).alloc (Nat.le_refl _) (.cells CK 30)
    have hx4 : (w3.alloc (.cells CK 30)).rowIs w.heap.size 25 1 (fun _ => .slice A n c) := (HX0.out.of_block (HB3.out.block _ HX0.out.lt)).of_block (hb4.block _ (Nat.lt_of_lt_of_le HX0.out.lt HB3.out.size))
    have ht4 : (w3.alloc (.cells CK 30)).rowIs (w.heap.size + 1) 59 2 (fun _ => .pointer none) := (HT0.out.of_block (HB3.out.block _ HT0.out.lt)).of_block (hb4.block _ (Nat.lt_of_lt_of_le HT0.out.lt HB3.out.size))
    have hb5 : Below w.heap.size w (w3.alloc (.cells CK 30)) := (HB0.out.trans (HB3.out.mono HB0.out.size)).alloc (Nat.le_trans HB0.out.size HB3.out.size) _
    have hlt3 : w.heap.size + 1 < w3.heap.size := by have := HS0.out; have := HB3.out.size; omega
    have x0 := hx4.cell (i := 0) (by omega)
    have x1 := hx4.frozen 0
    have HX4 := Lib.hid hx4
    have HT4 := Lib.hid ht4
    have HB5 := Lib.hid hb5
    have HLT3 := Lib.hid hlt3
    clear hb3 hrk hci hcn hb4 hx4 ht4 hb5 hlt3 HX0 HT0
    go_wp2_with (refine wpList_store_new 30 (.tmp 3) (.tmp 9) rfl rfl _ CK rfl rfl (by rw [HCN.out]; exact size32) (by rw [HCN.out]; rfl) (bytes_oneCell HCN.out HCI.out) ?_)
    have hg6 : (w3.alloc (.cells CK 30)).grownBy ((w3.alloc (.cells CK 30)).setCell ⟨w.heap.size, 0, none⟩ (.slice (some ⟨w3.heap.size, 0, none⟩) 32 32)) (some w.heap.size) := grown_set (grown_refl _ _) (.inl rfl) _
    have hx6 : ((w3.alloc (.cells CK 30)).setCell ⟨w.heap.size, 0, none⟩ (.slice (some ⟨w3.heap.size, 0, none⟩) 32 32)).rowIs w.heap.size 25 1 (fun _ => .slice (some ⟨w3.heap.size, 0, none⟩) 32 32) := (HX4.out.set 0 _).congr fun i hi => by rw [if_pos (by omega)]
    have ht6 := HT4.out.of_block (hg6.block _ HT4.out.lt (by intro e; injection e with e; omega))
    have hk6 : Rd ((w3.alloc (.cells CK 30)).setCell ⟨w.heap.size, 0, none⟩ (.slice (some ⟨w3.heap.size, 0, none⟩) 32 32)) (some ⟨w3.heap.size, 0, none⟩) (keyS key) := by
      rw [show keyS key = sha key from if_pos h64]
      refine (HRK.out w3).keep hg6.size fun p hp ⟨a, ha, e⟩ => World.cell?_of_block (hg6.block p.block hp fun e2 => ?_)
      injection e2 with e2
      injection ha with ha
      subst ha
      have e : w3.heap.size = p.block := e
      have := HLT3.out
      omega
    have hb6 := below_of_grown HB5.out hg6 HB5.out.size (Nat.le_refl _)
    have hlk : 32 = (keyS key).length := by rw [show keyS key = sha key from if_pos h64, sha_length]
    generalize (w3.alloc (.cells CK 30)).setCell ⟨w.heap.size, 0, none⟩ (.slice (some ⟨w3.heap.size, 0, none⟩) 32 32) = Y at *
    have HBX := Lib.hid hx6
    have HT := Lib.hid ht6
    have HK := Lib.hid hk6
    have HBY := Lib.hid hb6
    have HLK := Lib.hid hlk
    have HL64 := Lib.hid (keyS_length key)
    clear hg6 hx6 ht6 hk6 hb6 hlk x0 x1 HX4 HT4 HB5 HRK
    generalize w3.heap.size = gk at *
    refine (ahead_n 54 w.heap.size (by omega) (some ⟨gk, 0, none⟩) 32 32 (keyS key) HLK.out HL64.out Y (HBX.out.cell (i := 0) (by omega)) HK.out).mono ?_
    rintro e w4 ⟨g0, r0, rfl, hd0⟩
    have hbx4 := HBX.out.of_block (hd0.bl.block _ HBX.out.lt)
    have ht4 := HT.out.of_block (hd0.bl.block _ HT.out.lt)
    have HBX4 := Lib.hid hbx4
    have HT4 := Lib.hid ht4
    have HK4 := Lib.hid (HK.out.below hd0.bl)
    have HD0 := Lib.hid hd0
    clear hbx4 ht4 hd0
    go_wp2_with fail
    refine (ahead_n 92 w.heap.size (by omega) (some ⟨gk, 0, none⟩) 32 32 (keyS key) HLK.out HL64.out w4 (HBX4.out.cell (i := 0) (by omega)) HK4.out).mono ?_
    rintro e w5 ⟨g1, r1, rfl, hd1⟩
    have HTW := Lib.hid (Two.of HD0.out hd1)
    have ht5 := HT4.out.of_block (hd1.bl.block _ HT4.out.lt)
    have HT5 := Lib.hid ht5
    obtain ⟨ds, hds, hdn, hdi⟩ := ht5
    have HDS := Lib.hid hds
    have HDN := Lib.hid hdn
    clear hd1 HK4 HBX4 HT4 hds hdn hdi
    have HSZ : Hid (w.heap.size + 1 < Y.heap.size) := HT.out.lt
    generalize hpp : w.heap.size + 1 = q at *
    have HPP := Lib.hid hpp
    clear hpp
    have z0 := HT5.out.cell (i := 0) (by omega)
    have z1 := HT5.out.cell (i := 1) (by omega)
    have f0 := HT5.out.frozen 0
    have f1 := HT5.out.frozen 1
    go_wp2_with fail
    have hfin := (HT5.out.set 0 (.pointer (some ⟨g0, 0, none⟩))).set 1 (.pointer (some ⟨g1, 0, none⟩))
    obtain ⟨es, he1, he2, he3⟩ := hfin
    obtain rfl : es = #[.pointer (some ⟨g0, 0, none⟩), .pointer (some ⟨g1, 0, none⟩)] := two_of he2 (he3 0 (by omega)) (he3 1 (by omega))
    refine bodyPost_ret (results_cell_row rfl _ _ q 59 #[.pointer (some ⟨g0, 0, none⟩), .pointer (some ⟨g1, 0, none⟩)] (0, 0) _ rfl he1 Try.underlying59 rfl (by kernel_rfl)) rfl ?_
    exact ⟨g0, g1, r0, r1, rfl, HTW.out.re HBY.out (grown_set (p := ⟨q, 1, none⟩) (grown_set (p := ⟨q, 0, none⟩) (grown_refl w5 (some q)) (.inl rfl) _) (.inl rfl) _) (by have := HPP.out; omega) HSZ.out⟩
  · have h64' : ¬ (64 : Int) < n := by omega
    clear hn
    go_enter Try.func37, Try.ntmps37
    go_wp2_with fail
    obtain ⟨hb0, hx0, ht0, hs0⟩ := boxes w (.slice A n c)
    have hrx := HR.out.below hb0
    generalize (w.alloc (.cells #[.slice A n c] 25)).alloc (.cells #[.pointer none, .pointer none] 59) = W at *
    have HB0 := Lib.hid hb0
    have HX0 := Lib.hid hx0
    have HT0 := Lib.hid ht0
    have HS0 := Lib.hid hs0
    have HRX := Lib.hid hrx
    clear hb0 hx0 ht0 hs0 hrx HR
    have hke : keyS key = key := if_neg h64
    have HLK := Lib.hid (HN.out.trans (congrArg List.length hke.symm))
    have HL64 := Lib.hid (keyS_length key)
    have HK : Hid (Rd W A (keyS key)) := by rw [hke]; exact HRX.out
    have HBX := HX0
    have HT := HT0
    have HBY := HB0
    clear hke HRX
    refine (ahead_n 54 w.heap.size (by omega) A n c (keyS key) HLK.out HL64.out W (HBX.out.cell (i := 0) (by omega)) HK.out).mono ?_
    rintro e w4 ⟨g0, r0, rfl, hd0⟩
    have hbx4 := HBX.out.of_block (hd0.bl.block _ HBX.out.lt)
    have ht4 := HT.out.of_block (hd0.bl.block _ HT.out.lt)
    have HBX4 := Lib.hid hbx4
    have HT4 := Lib.hid ht4
    have HK4 := Lib.hid (HK.out.below hd0.bl)
    have HD0 := Lib.hid hd0
    clear hbx4 ht4 hd0
    go_wp2_with fail
    refine (ahead_n 92 w.heap.size (by omega) A n c (keyS key) HLK.out HL64.out w4 (HBX4.out.cell (i := 0) (by omega)) HK4.out).mono ?_
    rintro e w5 ⟨g1, r1, rfl, hd1⟩
    have HTW := Lib.hid (Two.of HD0.out hd1)
    have ht5 := HT4.out.of_block (hd1.bl.block _ HT4.out.lt)
    have HT5 := Lib.hid ht5
    obtain ⟨ds, hds, hdn, hdi⟩ := ht5
    have HDS := Lib.hid hds
    have HDN := Lib.hid hdn
    clear hd1 HK4 HBX4 HT4 hds hdn hdi
    have HSZ : Hid (w.heap.size + 1 < W.heap.size) := HT.out.lt
    generalize hpp : w.heap.size + 1 = q at *
    have HPP := Lib.hid hpp
    clear hpp
    have z0 := HT5.out.cell (i := 0) (by omega)
    have z1 := HT5.out.cell (i := 1) (by omega)
    have f0 := HT5.out.frozen 0
    have f1 := HT5.out.frozen 1
    go_wp2_with fail
    have hfin := (HT5.out.set 0 (.pointer (some ⟨g0, 0, none⟩))).set 1 (.pointer (some ⟨g1, 0, none⟩))
    obtain ⟨es, he1, he2, he3⟩ := hfin
    obtain rfl : es = #[.pointer (some ⟨g0, 0, none⟩), .pointer (some ⟨g1, 0, none⟩)] := two_of he2 (he3 0 (by omega)) (he3 1 (by omega))
    refine bodyPost_ret (results_cell_row rfl _ _ q 59 #[.pointer (some ⟨g0, 0, none⟩), .pointer (some ⟨g1, 0, none⟩)] (0, 0) _ rfl he1 Try.underlying59 rfl (by kernel_rfl)) rfl ?_
    exact ⟨g0, g1, r0, r1, rfl, HTW.out.re HBY.out (grown_set (p := ⟨q, 1, none⟩) (grown_set (p := ⟨q, 0, none⟩) (grown_refl w5 (some q)) (.inl rfl) _) (.inl rfl) _) (by have := HPP.out; omega) HSZ.out⟩
end Go.Proofs.Ytbnhjhdbjffnkab
