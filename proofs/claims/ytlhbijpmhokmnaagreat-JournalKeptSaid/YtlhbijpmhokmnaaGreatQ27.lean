/-
  CHAPTER 04, IN PLAIN LEAN; THE WALKS OF derive.begun's closure AND OF begun. Conditions: the key reads as a list of bytes.
  THE WALKS OF derive.begun AND derive.Hmac. Conditions: the key and the bytes read as lists.
  THE WALK OF derive.Hmac. Conditions: the key and the bytes read as lists.
  PBKDF2, IN PLAIN LEAN; THE WALK OF derive.Pbkdf2. Conditions: password and salt read as lists.
-/
import Derived.Test.YtlhbijpmhokmnaaGreatQ26
import Derived.StillTailTactics
namespace Go.Proofs.YtlhbijpmhokmnaaGreat
open Go.RowKit
set_option linter.unusedSimpArgs false
set_option linter.unusedVariables false

/-- A key of at most 64 bytes, noughts behind it, turned by t. -/
def padS (k : List Nat) (t : Nat) : List Nat := (List.range 64).map fun i => nth k i ^^^ t
def keyS (key : List Nat) : List Nat := if 64 < key.length then sha key else key
def hmac (key b : List Nat) : List Nat := sha (padS (keyS key) 92 ++ sha (padS (keyS key) 54 ++ b))
theorem padS_length (k : List Nat) (t : Nat) : (padS k t).length = 64 := by simp [padS]
theorem keyS_length (key : List Nat) : (keyS key).length ≤ 64 := by
  unfold keyS
  split
  · rw [sha_length]; omega
  · omega
theorem xor8_lt {a b : Nat} (ha : a < 256) (hb : b < 256) : a ^^^ b < 256 := Nat.xor_lt_two_pow (n := 8) ha hb
theorem padS_lt {k : List Nat} (hk : ∀ x ∈ k, x < 256) {t : Nat} (ht : t < 256) : ∀ x ∈ padS k t, x < 256 := by
  intro x hx
  obtain ⟨i, _, rfl⟩ := List.mem_map.1 hx
  exact xor8_lt (nth_lt hk i) ht
theorem nth_none {l : List Nat} {i : Nat} (h : l.length ≤ i) : nth l i = 0 := by simp [nth, List.getElem?_eq_none h]
theorem row_rdS {w : World} {g t n : Nat} {f : Nat → Nat} (h : w.rowIs g t n (fun i => .int .u8 (f i : Nat))) (hf : ∀ i, i < n → f i < 256) : Rd w (some ⟨g, 0, none⟩) ((List.range n).map f) := by
  refine ⟨fun x hx => ?_, fun _ => ⟨g, 0, rfl, h.lt, fun i hi => ?_⟩⟩
  · obtain ⟨i, hi, rfl⟩ := List.mem_map.1 hx
    exact hf i (by simpa using hi)
  · have hi : i < n := by simpa using hi
    rw [Nat.zero_add, h.cell hi]
    simp [nth, hi]
theorem one_pad (w : World) (Z : Array Value) (hZ : Z = ((List.range 64).map fun _ => Value.int .u8 0).toArray) : Below w.heap.size w (w.alloc (.cells Z 136)) ∧ (w.alloc (.cells Z 136)).rowIs w.heap.size 136 64 (fun _ => .int .u8 0) := by
  subst hZ
  exact ⟨(Below.refl _ _).alloc (Nat.le_refl _) _, rowNew rfl (by simp) fun i hi => by simp [hi]⟩
set_option maxRecDepth 100000 in
set_option maxHeartbeats 2000000 in
theorem ahead_any (t p : Nat) (ht : t < 256) (A : Option Addr) (c : Nat) (k : List Nat) (hk : k.length ≤ 64) (w : World) (hbox : w.cell? ⟨p, 0, none⟩ = some (.slice A k.length c)) (hr : Rd w A k) :
    Calls Tryz.prog 106 #[.int .u8 t, .pointer (some ⟨p, 0, none⟩)] w fun e w' => ∃ g rv, e = .returned (.pointer (some ⟨g, 0, none⟩)) ∧ Dg w w' g rv (padS k t) := by
  have HR := Lib.hid hr
  have hpl := block_lt_of_cell hbox
  have HBX := Lib.hid hbox
  have HR1 := Lib.hid hr.1
  clear hr hbox
  go_enter Tryz.func106, Tryz.ntmps106
  go_wp2_with fail
  obtain ⟨hb0, hr0⟩ := one_pad w #[.int .u8 0, .int .u8 0, .int .u8 0, .int .u8 0, .int .u8 0, .int .u8 0, .int .u8 0, .int .u8 0, .int .u8 0, .int .u8 0, .int .u8 0, .int .u8 0, .int .u8 0, .int .u8 0, .int .u8 0, .int .u8 0, .int .u8 0, .int .u8 0, .int .u8 0, .int .u8 0, .int .u8 0, .int .u8 0, .int .u8 0, .int .u8 0, .int .u8 0, .int .u8 0, .int .u8 0, .int .u8 0, .int .u8 0, .int .u8 0, .int .u8 0, .int .u8 0, .int .u8 0, .int .u8 0, .int .u8 0, .int .u8 0, .int .u8 0, .int .u8 0, .int .u8 0, .int .u8 0, .int .u8 0, .int .u8 0, .int .u8 0, .int .u8 0, .int .u8 0, .int .u8 0, .int .u8 0, .int .u8 0, .int .u8 0, .int .u8 0, .int .u8 0, .int .u8 0, .int .u8 0, .int .u8 0, .int .u8 0, .int .u8 0, .int .u8 0, .int .u8 0, .int .u8 0, .int .u8 0, .int .u8 0, .int .u8 0, .int .u8 0, .int .u8 0] (by kernel_rfl)
  have hpx : (w.alloc (.cells #[.int .u8 0, .int .u8 0, .int .u8 0, .int .u8 0, .int .u8 0, .int .u8 0, .int .u8 0, .int .u8 0, .int .u8 0, .int .u8 0, .int .u8 0, .int .u8 0, .int .u8 0, .int .u8 0, .int .u8 0, .int .u8 0, .int .u8 0, .int .u8 0, .int .u8 0, .int .u8 0, .int .u8 0, .int .u8 0, .int .u8 0, .int .u8 0, .int .u8 0, .int .u8 0, .int .u8 0, .int .u8 0, .int .u8 0, .int .u8 0, .int .u8 0, .int .u8 0, .int .u8 0, .int .u8 0, .int .u8 0, .int .u8 0, .int .u8 0, .int .u8 0, .int .u8 0, .int .u8 0, .int .u8 0, .int .u8 0, .int .u8 0, .int .u8 0, .int .u8 0, .int .u8 0, .int .u8 0, .int .u8 0, .int .u8 0, .int .u8 0, .int .u8 0, .int .u8 0, .int .u8 0, .int .u8 0, .int .u8 0, .int .u8 0, .int .u8 0, .int .u8 0, .int .u8 0, .int .u8 0, .int .u8 0, .int .u8 0, .int .u8 0, .int .u8 0] 136)).cell? ⟨p, 0, none⟩ = some (.slice A k.length c) := (hb0.cell (p := ⟨p, 0, none⟩) hpl).trans HBX.out
  have hrx := HR.out.below hb0
  generalize w.alloc (.cells #[.int .u8 0, .int .u8 0, .int .u8 0, .int .u8 0, .int .u8 0, .int .u8 0, .int .u8 0, .int .u8 0, .int .u8 0, .int .u8 0, .int .u8 0, .int .u8 0, .int .u8 0, .int .u8 0, .int .u8 0, .int .u8 0, .int .u8 0, .int .u8 0, .int .u8 0, .int .u8 0, .int .u8 0, .int .u8 0, .int .u8 0, .int .u8 0, .int .u8 0, .int .u8 0, .int .u8 0, .int .u8 0, .int .u8 0, .int .u8 0, .int .u8 0, .int .u8 0, .int .u8 0, .int .u8 0, .int .u8 0, .int .u8 0, .int .u8 0, .int .u8 0, .int .u8 0, .int .u8 0, .int .u8 0, .int .u8 0, .int .u8 0, .int .u8 0, .int .u8 0, .int .u8 0, .int .u8 0, .int .u8 0, .int .u8 0, .int .u8 0, .int .u8 0, .int .u8 0, .int .u8 0, .int .u8 0, .int .u8 0, .int .u8 0, .int .u8 0, .int .u8 0, .int .u8 0, .int .u8 0, .int .u8 0, .int .u8 0, .int .u8 0, .int .u8 0] 136) = X at *
  have HB0 := Lib.hid hb0
  have HR0 := Lib.hid hr0
  have HRX := Lib.hid hrx
  clear hb0 hr0 hrx HR
  refine wp_region_still_tail 2 (by kernel_rfl) (by kernel_rfl) ?_
  simp only [List.take_succ_cons, List.take_zero, List.drop_succ_cons, List.drop_zero]
  repeat still_step
  try refine wpStill_nil ?_
  change wpList _ _ _ _ _ X.drew
  have hrd : X.drew.rowIs w.heap.size 136 64 (fun _ => .int .u8 0) := HR0.out
  refine copy_bytes (.tmp 7) (.tmp 8) rfl rfl w.heap.size 0 64 64 rfl A k.length c rfl 136 64 _ hrd k (by show k.length = min k.length 64; omega) HRX.out.drew (by omega) ?_
  intro w1 hro hg1
  have hro : w1.rowIs w.heap.size 136 64 (fun j => .int .u8 (upd 0 (fun i => nth k i ^^^ t) (nth k) j : Nat)) := hro.congr fun j hj => by
    rw [upd_zero]
    by_cases e : j < k.length
    · rw [if_pos (by omega), Nat.sub_zero]
    · rw [if_neg (by omega), nth_none (by omega)]
      rfl
  have hb1 : Below w.heap.size w w1 := below_of_grown (below_drewN' HB0.out 1) hg1 HB0.out.size (Nat.le_refl _)
  have HRO := Lib.hid hro
  have HB1 := Lib.hid hb1
  clear hrd hro hg1 hb1 HR0 HB0 HRX hpx
  go_wp2_with fail
  go_loopw [10] (fun v wr => ∃ i : Nat, i ≤ 64 ∧ v = .int .i64 i ∧ wr.rowIs w.heap.size 136 64 (fun j => .int .u8 (upd i (fun i => nth k i ^^^ t) (nth k) j : Nat)) ∧ w1.grownBy wr (some w.heap.size)) (fun v _ => 64 - (intOf v).toNat)
  case atStart => exact ⟨0, by omega, rfl, HRO.out, grown_refl _ _⟩
  case round =>
    obtain ⟨i, hi, rfl, hro, hg⟩ := hrel
    have HRo := Lib.hid hro
    have HG := Lib.hid hg
    clear hro hg
    by_cases i64 : i < 64
    · have i64' : (i : Int) < 64 := by omega
      have c1 := HRo.out.cell i64
      have x1 := HRo.out.frozen i
      rw [upd_ge _ _ (Nat.le_refl _)] at c1
      have hx := u8_xor_nat (nth k i) t (nth_lt HR1.out i) ht
      go_wp2_with fail
      go_roundw
      case rel =>
        first
        | exact ⟨i + 1, by omega, by go_num, row_upd8v HRo.out rfl, grown_set (p := ⟨w.heap.size, i, none⟩) HG.out (.inl rfl) _⟩
        | (repeat apply Exists.intro); refine ⟨⟨i + 1, by omega, by go_num, row_upd8v HRo.out rfl, grown_set (p := ⟨w.heap.size, i, none⟩) HG.out (.inl rfl) _⟩, rfl⟩
      case measure => simp [intOf]; omega
    · obtain rfl : i = 64 := by omega
      go_wp2_with fail
      have hrp : Rd wr (some ⟨w.heap.size, 0, none⟩) (padS k t) := row_rdS (HRo.out.congr fun j hj => by rw [upd_lt _ _ hj]) (fun i hi => xor8_lt (nth_lt HR1.out i) ht)
      have hb3 : Below w.heap.size w wr := below_of_grown HB1.out HG.out HB1.out.size (Nat.le_refl _)
      have HRP := Lib.hid hrp
      have HB3 := Lib.hid hb3
      clear hrp hb3 HRo HG
      refine (dnew_any wr).mono ?_
      rintro e w2 ⟨rfl, hrow, hb2⟩
      have hdg : Dg w w2 wr.heap.size (.slice none 0 0) [] := ⟨dr_new hrow, Ow.nil _ _, by simp [Value.ownBlock], HB3.out.size, HB3.out.trans (hb2.mono HB3.out.size)⟩
      have HRP2 := Lib.hid (HRP.out.below hb2)
      have HDG := Lib.hid hdg
      clear hrow hb2 hdg HRP HB3
      generalize wr.heap.size = g at *
      go_wp2_with fail
      refine (write_dg HDG.out (by simp) _ 64 64 (padS k t) (padS_length k t).symm (by rw [padS_length]; omega) HRP2.out).mono ?_
      rintro e w3 ⟨rfl, rv', hd3, -, -⟩
      have HD3 := Lib.hid hd3
      clear hd3
      go_wp2_with fail
      go_ret
      exact ⟨g, rv', rfl, HD3.out⟩
end Go.Proofs.YtlhbijpmhokmnaaGreat
namespace Go.Proofs.YtlhbijpmhokmnaaGreat
open Go.RowKit
set_option linter.unusedSimpArgs false
set_option linter.unusedVariables false

theorem Dg.up {w0 w1 w2 : World} {g : Nat} {rv : Value} {l : List Nat} (h : Dg w1 w2 g rv l) (hb : Below w0.heap.size w0 w1) : Dg w0 w2 g rv l := ⟨h.dr, h.rest.mono hb.size, h.ng, Nat.le_trans hb.size h.bg, hb.trans (h.bl.mono hb.size)⟩
/-- Two digests that have nothing in common. -/
structure Two (w0 w : World) (g0 g1 : Nat) (r0 r1 : Value) (l0 l1 : List Nat) : Prop where
  a : Dg w0 w g0 r0 l0
  b : Dg w0 w g1 r1 l1
  g : g0 ≠ g1
  n0 : r0.ownBlock ≠ some g1
  n1 : r1.ownBlock ≠ some g0
  nr : ∀ k, r0.ownBlock = some k → r1.ownBlock ≠ some k
theorem Two.of {w0 w1 w2 : World} {g0 g1 : Nat} {r0 r1 : Value} {l0 l1 : List Nat} (h : Dg w0 w1 g0 r0 l0) (k : Dg w1 w2 g1 r1 l1) : Two w0 w2 g0 g1 r0 r1 l0 l1 := by
  have hr1 : ∀ x, r1.ownBlock = some x → w1.heap.size ≤ x := fun x e => ow_base k.rest e
  refine ⟨h.below k.bl, k.up h.bl, ?_, ?_, ?_, ?_⟩
  · have := k.bg; have := h.dr.lt; omega
  · intro e; have := h.rest.ownLt' e; have := k.bg; omega
  · intro e; have := hr1 g0 e; have := h.dr.lt; omega
  · intro x e e2; have := hr1 x e2; have := h.rest.ownLt' e; omega
theorem Two.re {w0 Y w w' : World} {g0 g1 q : Nat} {r0 r1 : Value} {l0 l1 : List Nat} (h : Two Y w g0 g1 r0 r1 l0 l1) (hb : Below w0.heap.size w0 Y) (hg : w.grownBy w' (some q)) (hq : w0.heap.size ≤ q) (hq2 : q < Y.heap.size) : Two w0 w' g0 g1 r0 r1 l0 l1 := by
  have one : ∀ {g : Nat} {r : Value} {l : List Nat}, Dg Y w g r l → Dg w0 w' g r l := fun {g r l} k =>
    ⟨k.dr.of (hg.block g k.dr.lt (by intro e; injection e with e; have := k.bg; omega)), (k.rest.mono hb.size).keepb' (fun x e => hg.block x (k.rest.ownLt' e) (by intro e2; injection e2 with e2; have := ow_base k.rest e; omega)), k.ng, Nat.le_trans hb.size k.bg,
      below_of_grown (hb.trans (k.bl.mono hb.size)) hg (Nat.le_trans hb.size k.bl.size) hq⟩
  exact ⟨one h.a, one h.b, h.g, h.n0, h.n1, h.nr⟩
theorem two_of {cs : Array Value} {a b : Value} (h : cs.size = 2) (h0 : cs[0]? = some a) (h1 : cs[1]? = some b) : cs = #[a, b] := by
  obtain ⟨l⟩ := cs
  match l, h with
  | [x, y], _ =>
    simp at h0 h1
    rw [h0, h1]
theorem ahead_n (t p : Nat) (ht : t < 256) (A : Option Addr) (n c : Nat) (k : List Nat) (hn : n = k.length) (hk : k.length ≤ 64) (w : World) (hbox : w.cell? ⟨p, 0, none⟩ = some (.slice A n c)) (hr : Rd w A k) :
    Calls Tryz.prog 106 #[.int .u8 t, .pointer (some ⟨p, 0, none⟩)] w fun e w' => ∃ g rv, e = .returned (.pointer (some ⟨g, 0, none⟩)) ∧ Dg w w' g rv (padS k t) := by
  subst hn
  exact ahead_any t p ht A c k hk w hbox hr
theorem boxes (w : World) (v : Value) : Below w.heap.size w ((w.alloc (.cells #[v] 22)).alloc (.cells #[.pointer none, .pointer none] 124)) ∧
    ((w.alloc (.cells #[v] 22)).alloc (.cells #[.pointer none, .pointer none] 124)).rowIs w.heap.size 22 1 (fun _ => v) ∧
    ((w.alloc (.cells #[v] 22)).alloc (.cells #[.pointer none, .pointer none] 124)).rowIs (w.heap.size + 1) 124 2 (fun _ => .pointer none) ∧
    ((w.alloc (.cells #[v] 22)).alloc (.cells #[.pointer none, .pointer none] 124)).heap.size = w.heap.size + 2 := by
  have h1 : (w.alloc (.cells #[v] 22)).rowIs w.heap.size 22 1 (fun _ => v) := by
    refine rowNew rfl rfl fun i hi => ?_
    obtain rfl : i = 0 := by omega
    rfl
  have hb := (Below.refl (w.alloc (.cells #[v] 22)).heap.size (w.alloc (.cells #[v] 22))).alloc (Nat.le_refl _) (.cells #[.pointer none, .pointer none] 124)
  refine ⟨((Below.refl _ _).alloc (Nat.le_refl _) _).alloc (by rw [World.size_alloc]; omega) _, h1.of_block (hb.block _ h1.lt), rowNew (by rw [World.size_alloc]) rfl fun i hi => ?_, by rw [World.size_alloc, World.size_alloc]⟩
  rcases (show i = 0 ∨ i = 1 by omega) with rfl | rfl <;> rfl
set_option maxRecDepth 100000 in
set_option maxHeartbeats 2000000 in
theorem begun_any (A : Option Addr) (n c : Nat) (key : List Nat) (w : World) (hn : n = key.length) (hl : key.length ≤ 35184372088832) (hr : Rd w A key) :
    Calls Tryz.prog 93 #[.slice A n c] w fun e w' => ∃ g0 g1 r0 r1, e = .returned (.agg #[.pointer (some ⟨g0, 0, none⟩), .pointer (some ⟨g1, 0, none⟩)]) ∧ Two w w' g0 g1 r0 r1 (padS (keyS key) 54) (padS (keyS key) 92) := by
  have HR := Lib.hid hr
  have HN := Lib.hid hn
  clear hr
  by_cases h64 : 64 < key.length
  · have h64' : (64 : Int) < n := by omega
    clear hn
    go_enter Tryz.func93, Tryz.ntmps93
    go_wp2_with fail
    obtain ⟨hb0, hx0, ht0, hs0⟩ := boxes w (.slice A n c)
    have hrx := HR.out.below hb0
    generalize (w.alloc (.cells #[.slice A n c] 22)).alloc (.cells #[.pointer none, .pointer none] 124) = W at *
    have HB0 := Lib.hid hb0
    have HX0 := Lib.hid hx0
    have HT0 := Lib.hid ht0
    have HS0 := Lib.hid hs0
    have HRX := Lib.hid hrx
    clear hb0 hx0 ht0 hs0 hrx HR
    refine (of_c A n c key W HN.out hl HRX.out).mono ?_
    rintro e w3 ⟨rfl, hb3⟩
    have HB3 := Lib.hid hb3
    have hrk : ∀ V : World, Rd (V.alloc (.cells (shaC key) 103)) (some ⟨V.heap.size, 0, none⟩) (sha key) := fun V => constW_rd V _ (sha key) (sha_lt key) _
    have hci : ∀ i, i < 32 → (shaC key)[i]? = some (.int .u8 (nth (sha key) i : Nat)) := by
      intro i hi
      have : i < (sha key).length := by rw [sha_length]; exact hi
      rw [nth_get this]
      simp [shaC, this]
    have hcn : (shaC key).size = 32 := by simp [shaC, sha_length]
    generalize shaC key = CK at *
    have HRK := Lib.hid hrk
    have HCI := Lib.hid hci
    have HCN := Lib.hid hcn
    have hb4 := (Below.refl w3.heap.size w3).alloc (Nat.le_refl _) (.cells CK 103)
    have hx4 : (w3.alloc (.cells CK 103)).rowIs w.heap.size 22 1 (fun _ => .slice A n c) := (HX0.out.of_block (HB3.out.block _ HX0.out.lt)).of_block (hb4.block _ (Nat.lt_of_lt_of_le HX0.out.lt HB3.out.size))
    have ht4 : (w3.alloc (.cells CK 103)).rowIs (w.heap.size + 1) 124 2 (fun _ => .pointer none) := (HT0.out.of_block (HB3.out.block _ HT0.out.lt)).of_block (hb4.block _ (Nat.lt_of_lt_of_le HT0.out.lt HB3.out.size))
    have hb5 : Below w.heap.size w (w3.alloc (.cells CK 103)) := (HB0.out.trans (HB3.out.mono HB0.out.size)).alloc (Nat.le_trans HB0.out.size HB3.out.size) _
    have hlt3 : w.heap.size + 1 < w3.heap.size := by have := HS0.out; have := HB3.out.size; omega
    have x0 := hx4.cell (i := 0) (by omega)
    have x1 := hx4.frozen 0
    have HX4 := Lib.hid hx4
    have HT4 := Lib.hid ht4
    have HB5 := Lib.hid hb5
    have HLT3 := Lib.hid hlt3
    clear hb3 hrk hci hcn hb4 hx4 ht4 hb5 hlt3 HX0 HT0
    go_wp2_with (refine wpList_store_new 103 (.tmp 3) (.tmp 9) rfl rfl _ CK rfl rfl (by rw [HCN.out]; exact size32) (by rw [HCN.out]; rfl) (bytes_oneCell HCN.out HCI.out) ?_)
    have hg6 : (w3.alloc (.cells CK 103)).grownBy ((w3.alloc (.cells CK 103)).setCell ⟨w.heap.size, 0, none⟩ (.slice (some ⟨w3.heap.size, 0, none⟩) 32 32)) (some w.heap.size) := grown_set (grown_refl _ _) (.inl rfl) _
    have hx6 : ((w3.alloc (.cells CK 103)).setCell ⟨w.heap.size, 0, none⟩ (.slice (some ⟨w3.heap.size, 0, none⟩) 32 32)).rowIs w.heap.size 22 1 (fun _ => .slice (some ⟨w3.heap.size, 0, none⟩) 32 32) := (HX4.out.set 0 _).congr fun i hi => by rw [if_pos (by omega)]
    have ht6 := HT4.out.of_block (hg6.block _ HT4.out.lt (by intro e; injection e with e; omega))
    have hk6 : Rd ((w3.alloc (.cells CK 103)).setCell ⟨w.heap.size, 0, none⟩ (.slice (some ⟨w3.heap.size, 0, none⟩) 32 32)) (some ⟨w3.heap.size, 0, none⟩) (keyS key) := by
      rw [show keyS key = sha key from if_pos h64]
      refine (HRK.out w3).keep hg6.size fun p hp ⟨a, ha, e⟩ => World.cell?_of_block (hg6.block p.block hp fun e2 => ?_)
      injection e2 with e2
      injection ha with ha
      subst ha
      have e : w3.heap.size = p.block := e
      have := HLT3.out
      omega
    have hb6 := below_of_grown HB5.out hg6 HB5.out.size (Nat.le_refl _)
    have hlk : 32 = (keyS key).length := by rw [show keyS key = sha key from if_pos h64, sha_length]
    generalize (w3.alloc (.cells CK 103)).setCell ⟨w.heap.size, 0, none⟩ (.slice (some ⟨w3.heap.size, 0, none⟩) 32 32) = Y at *
    have HBX := Lib.hid hx6
    have HT := Lib.hid ht6
    have HK := Lib.hid hk6
    have HBY := Lib.hid hb6
    have HLK := Lib.hid hlk
    have HL64 := Lib.hid (keyS_length key)
    clear hg6 hx6 ht6 hk6 hb6 hlk x0 x1 HX4 HT4 HB5 HRK
    generalize w3.heap.size = gk at *
    refine (ahead_n 54 w.heap.size (by omega) (some ⟨gk, 0, none⟩) 32 32 (keyS key) HLK.out HL64.out Y (HBX.out.cell (i := 0) (by omega)) HK.out).mono ?_
    rintro e w4 ⟨g0, r0, rfl, hd0⟩
    have hbx4 := HBX.out.of_block (hd0.bl.block _ HBX.out.lt)
    have ht4 := HT.out.of_block (hd0.bl.block _ HT.out.lt)
    have HBX4 := Lib.hid hbx4
    have HT4 := Lib.hid ht4
    have HK4 := Lib.hid (HK.out.below hd0.bl)
    have HD0 := Lib.hid hd0
    clear hbx4 ht4 hd0
    go_wp2_with fail
    refine (ahead_n 92 w.heap.size (by omega) (some ⟨gk, 0, none⟩) 32 32 (keyS key) HLK.out HL64.out w4 (HBX4.out.cell (i := 0) (by omega)) HK4.out).mono ?_
    rintro e w5 ⟨g1, r1, rfl, hd1⟩
    have HTW := Lib.hid (Two.of HD0.out hd1)
    have ht5 := HT4.out.of_block (hd1.bl.block _ HT4.out.lt)
    have HT5 := Lib.hid ht5
    obtain ⟨ds, hds, hdn, hdi⟩ := ht5
    have HDS := Lib.hid hds
    have HDN := Lib.hid hdn
    clear hd1 HK4 HBX4 HT4 hds hdn hdi
    have HSZ : Hid (w.heap.size + 1 < Y.heap.size) := HT.out.lt
    generalize hpp : w.heap.size + 1 = q at *
    have HPP := Lib.hid hpp
    clear hpp
    have z0 := HT5.out.cell (i := 0) (by omega)
    have z1 := HT5.out.cell (i := 1) (by omega)
    have f0 := HT5.out.frozen 0
    have f1 := HT5.out.frozen 1
    go_wp2_with fail
    have hfin := (HT5.out.set 0 (.pointer (some ⟨g0, 0, none⟩))).set 1 (.pointer (some ⟨g1, 0, none⟩))
    obtain ⟨es, he1, he2, he3⟩ := hfin
    obtain rfl : es = #[.pointer (some ⟨g0, 0, none⟩), .pointer (some ⟨g1, 0, none⟩)] := two_of he2 (he3 0 (by omega)) (he3 1 (by omega))
    refine bodyPost_ret (results_cell_row rfl _ _ q 124 #[.pointer (some ⟨g0, 0, none⟩), .pointer (some ⟨g1, 0, none⟩)] (0, 0) _ rfl he1 Tryz.underlying124 rfl (by kernel_rfl)) rfl ?_
    exact ⟨g0, g1, r0, r1, rfl, HTW.out.re HBY.out (grown_set (p := ⟨q, 1, none⟩) (grown_set (p := ⟨q, 0, none⟩) (grown_refl w5 (some q)) (.inl rfl) _) (.inl rfl) _) (by have := HPP.out; omega) HSZ.out⟩
  · have h64' : ¬ (64 : Int) < n := by omega
    clear hn
    go_enter Tryz.func93, Tryz.ntmps93
    go_wp2_with fail
    obtain ⟨hb0, hx0, ht0, hs0⟩ := boxes w (.slice A n c)
    have hrx := HR.out.below hb0
    generalize (w.alloc (.cells #[.slice A n c] 22)).alloc (.cells #[.pointer none, .pointer none] 124) = W at *
    have HB0 := Lib.hid hb0
    have HX0 := Lib.hid hx0
    have HT0 := Lib.hid ht0
    have HS0 := Lib.hid hs0
    have HRX := Lib.hid hrx
    clear hb0 hx0 ht0 hs0 hrx HR
    have hke : keyS key = key := if_neg h64
    have HLK := Lib.hid (HN.out.trans (congrArg List.length hke.symm))
    have HL64 := Lib.hid (keyS_length key)
    have HK : Hid (Rd W A (keyS key)) := by rw [hke]; exact HRX.out
    have HBX := HX0
    have HT := HT0
    have HBY := HB0
    clear hke HRX
    refine (ahead_n 54 w.heap.size (by omega) A n c (keyS key) HLK.out HL64.out W (HBX.out.cell (i := 0) (by omega)) HK.out).mono ?_
    rintro e w4 ⟨g0, r0, rfl, hd0⟩
    have hbx4 := HBX.out.of_block (hd0.bl.block _ HBX.out.lt)
    have ht4 := HT.out.of_block (hd0.bl.block _ HT.out.lt)
    have HBX4 := Lib.hid hbx4
    have HT4 := Lib.hid ht4
    have HK4 := Lib.hid (HK.out.below hd0.bl)
    have HD0 := Lib.hid hd0
    clear hbx4 ht4 hd0
    go_wp2_with fail
    refine (ahead_n 92 w.heap.size (by omega) A n c (keyS key) HLK.out HL64.out w4 (HBX4.out.cell (i := 0) (by omega)) HK4.out).mono ?_
    rintro e w5 ⟨g1, r1, rfl, hd1⟩
    have HTW := Lib.hid (Two.of HD0.out hd1)
    have ht5 := HT4.out.of_block (hd1.bl.block _ HT4.out.lt)
    have HT5 := Lib.hid ht5
    obtain ⟨ds, hds, hdn, hdi⟩ := ht5
    have HDS := Lib.hid hds
    have HDN := Lib.hid hdn
    clear hd1 HK4 HBX4 HT4 hds hdn hdi
    have HSZ : Hid (w.heap.size + 1 < W.heap.size) := HT.out.lt
    generalize hpp : w.heap.size + 1 = q at *
    have HPP := Lib.hid hpp
    clear hpp
    have z0 := HT5.out.cell (i := 0) (by omega)
    have z1 := HT5.out.cell (i := 1) (by omega)
    have f0 := HT5.out.frozen 0
    have f1 := HT5.out.frozen 1
    go_wp2_with fail
    have hfin := (HT5.out.set 0 (.pointer (some ⟨g0, 0, none⟩))).set 1 (.pointer (some ⟨g1, 0, none⟩))
    obtain ⟨es, he1, he2, he3⟩ := hfin
    obtain rfl : es = #[.pointer (some ⟨g0, 0, none⟩), .pointer (some ⟨g1, 0, none⟩)] := two_of he2 (he3 0 (by omega)) (he3 1 (by omega))
    refine bodyPost_ret (results_cell_row rfl _ _ q 124 #[.pointer (some ⟨g0, 0, none⟩), .pointer (some ⟨g1, 0, none⟩)] (0, 0) _ rfl he1 Tryz.underlying124 rfl (by kernel_rfl)) rfl ?_
    exact ⟨g0, g1, r0, r1, rfl, HTW.out.re HBY.out (grown_set (p := ⟨q, 1, none⟩) (grown_set (p := ⟨q, 0, none⟩) (grown_refl w5 (some q)) (.inl rfl) _) (.inl rfl) _) (by have := HPP.out; omega) HSZ.out⟩
end Go.Proofs.YtlhbijpmhokmnaaGreat
namespace Go.Proofs.YtlhbijpmhokmnaaGreat
open Go.RowKit
set_option linter.unusedSimpArgs false
set_option linter.unusedVariables false

theorem Two.bel {w0 w w' : World} {g0 g1 : Nat} {r0 r1 : Value} {l0 l1 : List Nat} (h : Two w0 w g0 g1 r0 r1 l0 l1) (hb : Below w.heap.size w w') : Two w0 w' g0 g1 r0 r1 l0 l1 := ⟨h.a.below hb, h.b.below hb, h.g, h.n0, h.n1, h.nr⟩
theorem Two.write {w0 w w' : World} {g0 g1 : Nat} {r0 r1 rv : Value} {l0 l1 l : List Nat} (h : Two w0 w g0 g1 r0 r1 l0 l1) (hd : Dg w0 w' g0 rv l) (hc : Chg w w' (fun k => k = g0 ∨ r0.ownBlock = some k)) (hf : ∀ k, rv.ownBlock = some k → w.heap.size ≤ k) : Two w0 w' g0 g1 rv r1 l l1 := by
  refine ⟨hd, h.b.keep (hc.below (fun k e => by
    rcases e with rfl | e
    · exact h.a.bg
    · exact ow_base h.a.rest e) h.a.at) (hc.block g1 h.b.dr.lt ?_) (fun k e => hc.block k (h.b.rest.ownLt' e) ?_), h.g, ?_, h.n1, ?_⟩
  · rintro (e | e)
    · exact h.g e.symm
    · exact h.n0 e
  · rintro (rfl | e2)
    · exact h.n1 e
    · exact h.nr k e2 e
  · intro e; have := hf _ e; have := h.b.dr.lt; omega
  · intro k e e2; have := hf _ e; have := h.b.rest.ownLt' e2; omega
theorem shaC_at (l : List Nat) : ∀ i, i < 32 → (shaC l)[i]? = some (.int .u8 (nth (sha l) i : Nat)) := by
  intro i hi
  have : i < (sha l).length := by rw [sha_length]; exact hi
  rw [nth_get this]
  simp [shaC, this]
theorem shaC_size (l : List Nat) : (shaC l).size = 32 := by simp [shaC, sha_length]
set_option maxRecDepth 100000 in
set_option maxHeartbeats 2000000 in
theorem hmac_any (A : Option Addr) (n c : Nat) (key : List Nat) (B : Option Addr) (m d : Nat) (b : List Nat) (w : World) (hn : n = key.length) (hl : key.length ≤ 35184372088832) (hr : Rd w A key) (hm : m = b.length) (hbl : b.length ≤ 35184372088832) (hb : Rd w B b) :
    Calls Tryz.prog 82 #[.slice A n c, .slice B m d] w fun e w' => e = .returned (.agg (shaC (padS (keyS key) 92 ++ sha (padS (keyS key) 54 ++ b)))) ∧ Below w.heap.size w w' := by
  have HR := Lib.hid hr
  have HB := Lib.hid hb
  have HM := Lib.hid hm
  have HN := Lib.hid hn
  clear hr hb hm hn
  go_enter Tryz.func82, Tryz.ntmps82
  go_wp2_with fail
  obtain ⟨hb0, hr0⟩ := one_out w
  generalize w.alloc (.cells #[.int .u8 0, .int .u8 0, .int .u8 0, .int .u8 0, .int .u8 0, .int .u8 0, .int .u8 0, .int .u8 0, .int .u8 0, .int .u8 0, .int .u8 0, .int .u8 0, .int .u8 0, .int .u8 0, .int .u8 0, .int .u8 0, .int .u8 0, .int .u8 0, .int .u8 0, .int .u8 0, .int .u8 0, .int .u8 0, .int .u8 0, .int .u8 0, .int .u8 0, .int .u8 0, .int .u8 0, .int .u8 0, .int .u8 0, .int .u8 0, .int .u8 0, .int .u8 0] 103) = W at *
  have HB0 := Lib.hid hb0
  have HR0 := Lib.hid hr0
  have HRW := Lib.hid (HR.out.below hb0)
  have HBW := Lib.hid (HB.out.below hb0)
  clear hb0 hr0 HR HB
  refine (begun_any A n c key W HN.out hl HRW.out).mono ?_
  rintro e w1 ⟨g0, g1, r0, r1, rfl, htw⟩
  have HTW := Lib.hid htw
  clear htw
  go_wp2_with fail
  have hbv := (Below.refl w1.heap.size w1).alloc (Nat.le_refl _) (.cells #[.pointer (some ⟨g0, 0, none⟩), .pointer (some ⟨g1, 0, none⟩)] 124)
  have hq : (w1.alloc (.cells #[.pointer (some ⟨g0, 0, none⟩), .pointer (some ⟨g1, 0, none⟩)] 124)).heap[w1.heap.size]? = some (.cells #[.pointer (some ⟨g0, 0, none⟩), .pointer (some ⟨g1, 0, none⟩)] 124) := heap_alloc_new w1 _
  have hgq : g0 < w1.heap.size ∧ g1 < w1.heap.size := ⟨HTW.out.a.dr.lt, HTW.out.b.dr.lt⟩
  have hrq : (∀ k, r0.ownBlock = some k → k < w1.heap.size) ∧ (∀ k, r1.ownBlock = some k → k < w1.heap.size) := ⟨fun k e => HTW.out.a.rest.ownLt' e, fun k e => HTW.out.b.rest.ownLt' e⟩
  have htv := HTW.out.bel hbv
  have hsv : w1.heap.size < (w1.alloc (.cells #[.pointer (some ⟨g0, 0, none⟩), .pointer (some ⟨g1, 0, none⟩)] 124)).heap.size := by rw [World.size_alloc]; omega
  generalize w1.alloc (.cells #[.pointer (some ⟨g0, 0, none⟩), .pointer (some ⟨g1, 0, none⟩)] 124) = V at *
  generalize w1.heap.size = q at *
  have HQ := Lib.hid hq
  have HGQ := Lib.hid hgq
  have HRQ := Lib.hid hrq
  have HTV := Lib.hid htv
  have HSV := Lib.hid hsv
  clear hbv hq hgq hrq htv hsv HTW
  refine (write_dg HTV.out.a (by rw [padS_length]; omega) B m d b HM.out (by omega) (HBW.out.below HTV.out.a.bl)).mono ?_
  rintro e w2 ⟨rfl, rv0, hd2, hc2, hf2⟩
  have ht2 := HTV.out.write hd2 hc2 hf2
  have hq2 := (hc2.block q HSV.out (by
    rintro (e | e)
    · have := HGQ.out.1; omega
    · have := HRQ.out.1 q e; omega)).trans HQ.out
  have HT2 := Lib.hid ht2
  have HQ2 := Lib.hid hq2
  have c0 := cell_of_row w2 q 0 _ _ _ hq2
  have hsz2 : q < w2.heap.size := Nat.lt_of_lt_of_le HSV.out hc2.size
  have HSZ2 := Lib.hid hsz2
  have c0 : w2.cell? ⟨q, 0, none⟩ = some (.pointer (some ⟨g0, 0, none⟩)) := c0
  clear hd2 hc2 hf2 ht2 hq2 HTV HQ hsz2
  go_wp2_with fail
  refine (sum_dg HT2.out.a (by rw [List.length_append, padS_length]; omega)).mono ?_
  rintro e w3 ⟨rfl, hb3⟩
  have HT3 := Lib.hid (HT2.out.bel hb3)
  have hq3 := (hb3.block q HSZ2.out).trans HQ2.out
  have HQ3 := Lib.hid hq3
  have HB3 := Lib.hid hb3
  obtain ⟨Li, hLi⟩ : ∃ L, L = padS (keyS key) 54 ++ b := ⟨_, rfl⟩
  rw [← hLi]
  have HLI := Lib.hid hLi
  have hrk : ∀ V : World, Rd (V.alloc (.cells (shaC Li) 103)) (some ⟨V.heap.size, 0, none⟩) (sha Li) := fun V => constW_rd V _ (sha Li) (sha_lt Li) _
  have hci := shaC_at Li
  have hcn := shaC_size Li
  generalize shaC Li = CK at *
  have HRK := Lib.hid (hrk w3)
  have HCI := Lib.hid hci
  have HCN := Lib.hid hcn
  have hbu := (Below.refl w3.heap.size w3).alloc (Nat.le_refl _) (.cells CK 103)
  have hqu : (w3.alloc (.cells CK 103)).heap[q]? = some (.cells #[.pointer (some ⟨g0, 0, none⟩), .pointer (some ⟨g1, 0, none⟩)] 124) := (hbu.block q (Nat.lt_of_lt_of_le HSZ2.out HB3.out.size)).trans HQ3.out
  have c1 : (w3.alloc (.cells CK 103)).cell? ⟨q, 1, none⟩ = some (.pointer (some ⟨g1, 0, none⟩)) := cell_of_row _ q 1 _ _ _ hqu
  have HTU := Lib.hid (HT3.out.bel hbu)
  have HQU := Lib.hid hqu
  have HSU : Hid (q < (w3.alloc (.cells CK 103)).heap.size) := Nat.lt_of_lt_of_le (Nat.lt_of_lt_of_le HSZ2.out HB3.out.size) hbu.size
  clear hb3 hq3 hLi hrk hci hcn hbu hqu c0 HT2 HQ2 HT3 HQ3
  go_wp2_with (refine wpList_store_new 103 (.tmp 6) (.tmp 15) rfl rfl _ CK rfl rfl (by rw [HCN.out]; exact size32) (by rw [HCN.out]; rfl) (bytes_oneCell HCN.out HCI.out) ?_)
  dsimp only [Act.put]
  have hru := HRK.out
  have HRU := Lib.hid hru
  clear hru HRK
  generalize w3.alloc (.cells CK 103) = U0 at *
  refine wp_region_still_tail 3 (by kernel_rfl) (by kernel_rfl) ?_
  simp only [List.take_succ_cons, List.take_zero, List.drop_succ_cons, List.drop_zero]
  repeat still_step
  try refine wpStill_nil ?_
  have htd := HTU.out.bel (below_drewN' (Below.refl _ _) 1)
  have hqd : U0.drew.heap[q]? = some (.cells #[.pointer (some ⟨g0, 0, none⟩), .pointer (some ⟨g1, 0, none⟩)] 124) := HQU.out
  have hsd : q < U0.drew.heap.size := HSU.out
  have hrd : Rd U0.drew (some ⟨w3.heap.size, 0, none⟩) (sha Li) := HRU.out.drew
  change Two W U0.drew _ _ _ _ _ _ at htd
  change wpList _ _ _ _ _ U0.drew
  generalize U0.drew = U at *
  have HTD := Lib.hid htd
  have HQD := Lib.hid hqd
  have HSD := Lib.hid hsd
  have HRD := Lib.hid hrd
  clear htd hqd hsd hrd c1 HTU HQU HSU HRU HCI HCN HB3
  go_wp2_with fail
  refine (write_dg HTD.out.b (by rw [padS_length]; omega) _ 32 32 (sha Li) (sha_length Li).symm (by rw [sha_length]; omega) HRD.out).mono ?_
  rintro e w4 ⟨rfl, rv1, hd4, hc4, hf4⟩
  have hq4 := (hc4.block q HSD.out (by
    rintro (e | e)
    · have := HGQ.out.2; omega
    · have := HRQ.out.2 q e; omega)).trans HQD.out
  have c4 : w4.cell? ⟨q, 1, none⟩ = some (.pointer (some ⟨g1, 0, none⟩)) := cell_of_row w4 q 1 _ _ _ hq4
  have HD4 := Lib.hid hd4
  clear hd4 hc4 hf4 hq4 HTD HQD HRD
  go_wp2_with fail
  refine (sum_dg HD4.out (by rw [List.length_append, padS_length, sha_length]; omega)).mono ?_
  rintro e w5 ⟨rfl, hb5⟩
  rw [HLI.out]
  have hci := shaC_at (padS (keyS key) 92 ++ sha (padS (keyS key) 54 ++ b))
  have hcn := shaC_size (padS (keyS key) 92 ++ sha (padS (keyS key) 54 ++ b))
  have hb6 : Below W.heap.size W w5 := HD4.out.bl.trans (hb5.mono HD4.out.at)
  generalize hcs : shaC (padS (keyS key) 92 ++ sha (padS (keyS key) 54 ++ b)) = cs at *
  have HCS := Lib.hid hcs
  clear hcs
  have hr5 := HR0.out.of_block (hb6.block _ HR0.out.lt)
  obtain ⟨ds, hds, hdn, hdi⟩ := hr5
  have HCN := Lib.hid hcn
  have HCI := Lib.hid hci
  have DS := Lib.hid hds
  have DN := Lib.hid hdn
  have HB6 := Lib.hid hb6
  clear hci hcn hb5 hb6 hds hdn hdi c4
  go_wp2_with (refine wpList_store_row rfl 103 (.tmp 4) (.tmp 22) rfl w.heap.size cs rfl rfl 103 ds DS.out (by rw [HCN.out]; exact size32) (by rw [HCN.out, DN.out]) (bytes_oneCell HCN.out HCI.out) ?_)
  (try simp only [Exit.inBlock, Exit.then])
  refine bodyPost_ret (results_cell_row rfl _ _ w.heap.size 103 cs (0, 0) _ rfl (setRow_heap _ _ _ _ _ _ DS.out) Tryz.underlying103 rfl (by rw [HCN.out]; exact size32)) rfl ?_
  exact ⟨by rw [HCS.out], below_setRow (HB0.out.trans (HB6.out.mono HB0.out.size)) (Nat.le_refl _) _⟩
theorem hmac_c (A : Option Addr) (n c : Nat) (key : List Nat) (B : Option Addr) (m d : Nat) (b : List Nat) (w : World) (hn : n = key.length) (hl : key.length ≤ 35184372088832) (hr : Rd w A key) (hm : m = b.length) (hbl : b.length ≤ 35184372088832) (hb : Rd w B b) :
    Calls Tryz.prog 82 #[.slice A n c, .slice B m d] w fun e w' => e = .returned (bytesV (hmac key b)) ∧ Below w.heap.size w w' := hmac_any A n c key B m d b w hn hl hr hm hbl hb
end Go.Proofs.YtlhbijpmhokmnaaGreat
namespace Go.Proofs.YtlhbijpmhokmnaaGreat
open Go.RowKit
set_option linter.unusedSimpArgs false
set_option linter.unusedVariables false

def uN (pw s : List Nat) : Nat → List Nat
  | 0 => hmac pw s
  | j + 1 => hmac pw (uN pw s j)
def xorL (a b : List Nat) : List Nat := (List.range 32).map fun i => nth a i ^^^ nth b i
def blN (pw s : List Nat) : Nat → List Nat
  | 0 => hmac pw s
  | j + 1 => xorL (blN pw s j) (uN pw s (j + 1))
def pbAll (pw salt : List Nat) (r : Nat) : Nat → List Nat
  | 0 => []
  | k + 1 => pbAll pw salt r k ++ blN pw (salt ++ [0, 0, 0, k + 1]) r
theorem xorL_nth (a b : List Nat) {q : Nat} (hq : q < 32) : nth (xorL a b) q = nth a q ^^^ nth b q := by
  rw [nth_get (by simpa [xorL] using hq)]
  simp [xorL]
theorem hmac_length (k b : List Nat) : (hmac k b).length = 32 := sha_length _
theorem hmac_lt (k b : List Nat) : ∀ x ∈ hmac k b, x < 256 := sha_lt _
theorem uN_length (pw s : List Nat) (j : Nat) : (uN pw s j).length = 32 := by cases j <;> exact hmac_length _ _
theorem uN_lt (pw s : List Nat) (j : Nat) : ∀ x ∈ uN pw s j, x < 256 := by cases j <;> exact hmac_lt _ _
theorem blN_length (pw s : List Nat) (j : Nat) : (blN pw s j).length = 32 := by
  cases j with
  | zero => exact hmac_length _ _
  | succ j => simp [blN, xorL]
theorem blN_lt (pw s : List Nat) (j : Nat) : ∀ x ∈ blN pw s j, x < 256 := by
  induction j with
  | zero => exact hmac_lt _ _
  | succ j ih =>
    intro x hx
    obtain ⟨i, _, rfl⟩ := List.mem_map.1 hx
    exact xor8_lt (nth_lt ih i) (nth_lt (uN_lt pw s (j + 1)) i)
theorem pbAll_length (pw salt : List Nat) (r k : Nat) : (pbAll pw salt r k).length = 32 * k := by
  induction k with
  | zero => rfl
  | succ k ih => rw [pbAll, List.length_append, ih, blN_length]; omega
/-- A row of 32 bytes. -/
def Row32 (w : World) (g : Nat) (l : List Nat) : Prop := w.rowIs g 103 32 (fun j => .int .u8 (nth l j : Nat))
theorem Row32.rd {w : World} {g : Nat} {l : List Nat} (h : Row32 w g l) (hl : l.length = 32) (hb : ∀ x ∈ l, x < 256) : Rd w (some ⟨g, 0, none⟩) l :=
  ⟨hb, fun _ => ⟨g, 0, rfl, h.lt, fun i hi => by rw [Nat.zero_add]; exact h.cell (by omega)⟩⟩
theorem bytesV_at (l : List Nat) (hl : l.length = 32) : ∃ C : Array Value, bytesV l = .agg C ∧ C.size = 32 ∧ ∀ i, i < 32 → C[i]? = some (.int .u8 (nth l i : Nat)) := by
  refine ⟨(l.map fun x => Value.int .u8 (x : Nat)).toArray, rfl, by simp [hl], fun i hi => ?_⟩
  rw [nth_get (by omega)]
  simp [hl, hi]
theorem pbkdf2_no (v0 v1 : Value) (r n : Int) (h : r < 1 ∨ 1000 < r ∨ n < 0 ∨ 1024 < n) (w : World) : Calls Tryz.prog 64 #[v0, v1, .int .i64 r, .int .i64 n] w fun e w' => e = .returned (.tuple #[.slice none 0 0, .int .i64 2]) ∧ w = w' := by
  by_cases h1 : r < 1
  · clear h
    go_enter Tryz.func64, Tryz.ntmps64
    go_wp2
    go_ret2
    exact ⟨rfl, rfl⟩
  · by_cases h2 : 1000 < r
    · clear h
      go_enter Tryz.func64, Tryz.ntmps64
      go_wp2
      go_ret2
      exact ⟨rfl, rfl⟩
    · by_cases h3 : n < 0
      · clear h
        go_enter Tryz.func64, Tryz.ntmps64
        go_wp2
        go_ret2
        exact ⟨rfl, rfl⟩
      · have h4 : 1024 < n := by omega
        clear h
        go_enter Tryz.func64, Tryz.ntmps64
        go_wp2
        go_ret2
        exact ⟨rfl, rfl⟩
set_option maxRecDepth 100000 in
set_option maxHeartbeats 4000000 in
theorem pbkdf2_any (A : Option Addr) (kn c : Nat) (key : List Nat) (B : Option Addr) (m d : Nat) (salt : List Nat) (r n : Nat) (w : World) (hn : kn = key.length) (hl : key.length ≤ 35184372088832) (hr : Rd w A key) (hm : m = salt.length) (hbl : salt.length ≤ 17592186044416) (hb : Rd w B salt)
    (hr1 : 1 ≤ r) (hr2 : r ≤ 1000) (hn2 : n ≤ 1024) :
    Calls Tryz.prog 64 #[.slice A kn c, .slice B m d, .int .i64 r, .int .i64 n] w fun e w' => ∃ A' c', e = .returned (.tuple #[.slice A' n c', .int .i64 0]) ∧ n ≤ c' ∧ Rd w' A' ((pbAll key salt (r - 1) ((n + 31) / 32)).take n) ∧ Below w.heap.size w w' := by
  have HR := Lib.hid hr
  have HB := Lib.hid hb
  have HM := Lib.hid hm
  have HN := Lib.hid hn
  have k1 : ¬ (r : Int) < 1 := by omega
  have k2 : ¬ (1000 : Int) < r := by omega
  have k3 : ¬ (n : Int) < 0 := by omega
  have k4 : ¬ (1024 : Int) < n := by omega
  clear hr hb hm hn
  go_enter Tryz.func64, Tryz.ntmps64
  go_wp2_with fail
  go_loopw [10, 11] (fun v10 v11 wr => ∃ k : Nat, 1 ≤ k ∧ 32 * (k - 1) < n + 32 ∧ v11 = .int .i64 k ∧ Ow wr w.heap.size v10 (pbAll key salt (r - 1) (k - 1)) ∧ Below w.heap.size w wr) (fun _ v _ => 40 - (intOf v).toNat)
  case atStart => exact ⟨1, by omega, by omega, rfl, Ow.nil _ _, Below.refl _ _⟩
  case round =>
    obtain ⟨k, hk1, hk2, rfl, ho, hb⟩ := hrel
    obtain ⟨A10, c10, rfl, h10c, h10b, h10r⟩ := ho.form
    rw [pbAll_length] at ho h10c ⊢
    have HO := Lib.hid ho
    have HBW := Lib.hid hb
    have H10 := Lib.hid h10r
    have H10B := Lib.hid h10b
    clear ho hb h10r h10b
    by_cases e0 : 32 * (k - 1) < n
    · have e0' : ((32 * (k - 1) : Nat) : Int) < n := by omega
      have q1 : IntKind.u8.wrap ((k : Int) / 16777216) = 0 := by rw [IntKind.wrap_u8]; omega
      have q2 : IntKind.u8.wrap ((k : Int) / 65536) = 0 := by rw [IntKind.wrap_u8]; omega
      have q3 : IntKind.u8.wrap ((k : Int) / 256) = 0 := by rw [IntKind.wrap_u8]; omega
      have q4 : IntKind.u8.wrap (k : Int) = k := by rw [IntKind.wrap_u8]; omega
      have k256 : ∀ x ∈ [0, 0, 0, k], x < 256 := by intro x hx; simp at hx; omega
      have hbs := HBW.out.size
      go_wp2_with (at_builtin; first
        | (refine append_bytes (v := .slice none 0 0) (.const (.slice none 0 0)) (.tmp 36) rfl rfl rfl (Ow.nil wr wr.heap.size) B m d salt rfl HM.out (HB.out.below HBW.out) (by simp; omega) (Nat.le_refl _) ?_; intro v1 w1 ho1 hg1 ha1
           have HO1 := Lib.hid ho1; have HB1 := Lib.hid ((Below.refl wr.heap.size wr).grown hg1 (Nat.le_refl _) (by simp [Value.ownBlock])); clear ho1 hg1 ha1)
        | (refine append_bytes (.tmp 37) (.tmp 49) rfl rfl rfl (HO1.out.alloc _) (some ⟨w1.heap.size, 0, none⟩) 4 4 [0, 0, 0, k] rfl rfl (constW_rd w1 _ [0, 0, 0, k] k256 _) (by simp; omega) (by have := HB1.out.size; rw [World.size_alloc]; omega) ?_; intro v2 w2 ho2 hg2 ha2
           have HO2 := Lib.hid ho2; have HB2 := Lib.hid (((HB1.out.alloc HB1.out.size _).grown hg2 (by have := HB1.out.size; rw [World.size_alloc]; omega) (fun x e => (HO1.out.lt x e).1))); clear ho2 hg2 ha2))
      obtain ⟨A2, c2, rfl, -, -, h2r⟩ := HO2.out.form
      have H2R := Lib.hid h2r
      have hHB3 : Below w.heap.size w w2 := HBW.out.trans (HB2.out.mono hbs)
      have HB3 := Lib.hid hHB3
      clear h2r hHB3 q1 q2 q3 q4
      rw [List.nil_append] at H2R ⊢
      obtain ⟨s, hs⟩ : ∃ s, s = salt ++ [0, 0, 0, k] := ⟨_, rfl⟩
      have hsl : s.length = salt.length + 4 := by rw [hs]; simp
      rw [← hs] at H2R ⊢
      have HSS := Lib.hid hs
      refine (hmac_c A kn c key A2 _ c2 s w2 HN.out hl (HR.out.below HB3.out) rfl (by omega) H2R.out).mono ?_
      rintro e w3 ⟨rfl, hb3⟩
      have HB4 := Lib.hid (HB3.out.trans (hb3.mono HB3.out.size))
      have HO4 := Lib.hid (HO.out.keepb' fun x e => (HB2.out.trans (hb3.mono HB2.out.size)).block x (HO.out.lt x e).2)
      have hsz : ∀ x, (Value.slice A10 (32 * (k - 1)) c10).ownBlock = some x → x < w3.heap.size := fun x e => Nat.lt_of_lt_of_le (HO.out.lt x e).2 (HB2.out.trans (hb3.mono HB2.out.size)).size
      have HSZ := Lib.hid hsz
      obtain ⟨C, hC, hCn, hCi⟩ := bytesV_at (hmac key s) (hmac_length key s)
      rw [hC]
      have HCN := Lib.hid hCn
      have HCI := Lib.hid hCi
      clear hs hC hCn hCi hb3 HO HB2 HB1 HO1 HO2 HB3 hsz H2R H10
      go_wp2_with (first
        | (refine wpList_store_new 103 (.tmp 12) (.tmp 51) rfl rfl _ C rfl rfl (by rw [HCN.out]; exact size32) (by rw [HCN.out]; rfl) (bytes_oneCell HCN.out HCI.out) ?_)
        | (refine wpList_load_row rfl 103 (.tmp 12) rfl w3.heap.size rfl 103 C (0, 0) _ (heap_alloc_new w3 _) Tryz.underlying103 rfl (by rw [HCN.out]; exact size32) ?_)
        | (refine wpList_store_new 103 (.tmp 13) (.tmp 52) rfl rfl _ C (by rw [World.size_alloc]; rfl) rfl (by rw [HCN.out]; exact size32) (by rw [HCN.out]; rfl) (bytes_oneCell HCN.out HCI.out) ?_))
      have hrw : ∀ V : World, Row32 (V.alloc (.cells C 103)) V.heap.size (hmac key s) := fun V => rowNew rfl HCN.out HCI.out
      have hx1 := hrw w3
      have hx2 := hrw (w3.alloc (.cells C 103))
      have hbx1 := (Below.refl w3.heap.size w3).alloc (Nat.le_refl _) (.cells C 103)
      have hbx2 := (Below.refl (w3.alloc (.cells C 103)).heap.size (w3.alloc (.cells C 103))).alloc (Nat.le_refl _) (.cells C 103)
      have hx1 : Row32 ((w3.alloc (.cells C 103)).alloc (.cells C 103)) w3.heap.size (hmac key s) := hx1.of_block (hbx2.block _ hx1.lt)
      rw [World.size_alloc] at hx2
      have hbx : Below w3.heap.size w3 ((w3.alloc (.cells C 103)).alloc (.cells C 103)) := hbx1.alloc (by rw [World.size_alloc]; omega) _
      have hbW : Below w.heap.size w ((w3.alloc (.cells C 103)).alloc (.cells C 103)) := HB4.out.trans (hbx.mono HB4.out.size)
      have hoX : Ow ((w3.alloc (.cells C 103)).alloc (.cells C 103)) w.heap.size (.slice A10 (32 * (k - 1)) c10) (pbAll key salt (r - 1) (k - 1)) := HO4.out.keepb' fun x e => hbx.block x (HSZ.out x e)
      have hws : w.heap.size ≤ w3.heap.size := HB4.out.size
      generalize (w3.alloc (.cells C 103)).alloc (.cells C 103) = X at *
      generalize w3.heap.size = g at *
      have HX1 := Lib.hid hx1
      have HX2 := Lib.hid hx2
      have HBX := Lib.hid hbW
      have HOX := Lib.hid hoX
      have HWS := Lib.hid hws
      clear hrw hx1 hx2 hbx1 hbx2 hbx hbW hoX hws HB4 HO4 HCN HCI
      have r1 : IntKind.i64.wrap ((r : Int) - 1) = ((r - 1 : Nat) : Int) := by simp [IntKind.wrap, IntKind.signed, IntKind.bits]; omega
      go_wp2_with fail
      go_loopw [55] (fun v wq => ∃ j : Nat, j ≤ r - 1 ∧ v = .int .i64 j ∧ Row32 wq g (uN key s j) ∧ Row32 wq (g + 1) (blN key s j) ∧ Chg X wq (fun x => x = g ∨ x = g + 1)) (fun v _ => r - (intOf v).toNat)
      case atStart => exact ⟨0, by omega, rfl, HX1.out, HX2.out, Chg.refl _ _⟩
      case round =>
        obtain ⟨j, hj, rfl, hu, hbk, hch⟩ := hrel
        have HU := Lib.hid hu
        have HK := Lib.hid hbk
        have HCH := Lib.hid hch
        clear hu hbk hch HX1 HX2
        have hbq : Below w.heap.size w wr := HBX.out.trans (HCH.out.below (fun x e => by rcases e with rfl | rfl <;> (have := HWS.out; omega)) HBX.out.size)
        have HBQ := Lib.hid hbq
        clear hbq
        by_cases e1 : j < r - 1
        · have e1' : (j : Int) < ((r - 1 : Nat) : Int) := by omega
          go_wp2_with fail
          refine (hmac_c A kn c key (some ⟨g, 0, none⟩) 32 32 (uN key s j) wr HN.out hl (HR.out.below HBQ.out) (uN_length _ _ _).symm (by rw [uN_length]; omega) (HU.out.rd (uN_length _ _ _) (uN_lt _ _ _))).mono ?_
          rintro e w4 ⟨rfl, hb4⟩
          obtain ⟨C, hC, hCn, hCi⟩ := bytesV_at (hmac key (uN key s j)) (hmac_length _ _)
          rw [hC]
          have HCN := Lib.hid hCn
          have HCI := Lib.hid hCi
          have hu4 := HU.out.of_block (hb4.block _ HU.out.lt)
          have hk4 : Row32 w4 (g + 1) (blN key s j) := HK.out.of_block (hb4.block _ HK.out.lt)
          have hc4 : Chg X w4 (fun x => x = g ∨ x = g + 1) := HCH.out.trans (Chg.of_below (S := fun _ => False) hb4 (fun k h1 h2 => by omega)) (fun x _ h => h.elim)
          obtain ⟨ds, hds, hdn, hdi⟩ := hu4
          have DS := Lib.hid hds
          have DN := Lib.hid hdn
          have HK4 := Lib.hid hk4
          have HC4 := Lib.hid hc4
          clear hC hCn hCi hb4 hds hdn hdi hk4 hc4 HU HK HCH HBQ
          go_wp2_with (refine wpList_store_row rfl 103 (.tmp 12) (.tmp 59) rfl g C rfl rfl 103 ds DS.out (by rw [HCN.out]; exact size32) (by rw [HCN.out, DN.out]) (bytes_oneCell HCN.out HCI.out) ?_)
          have hu5 : Row32 (w4.setRow g C) g (uN key s (j + 1)) := ⟨C, setRow_heap _ _ _ _ _ _ DS.out, HCN.out, HCI.out⟩
          have hg5 : w4.grownBy (w4.setRow g C) (some g) := ⟨rfl, rfl, rfl, by simp, fun k _ hne => setRow_other w4 g k _ (fun e => hne (by rw [e]))⟩
          have hk5 : Row32 (w4.setRow g C) (g + 1) (blN key s j) := HK4.out.of_block (hg5.block _ HK4.out.lt (by intro e; injection e with e; omega))
          have hc5 : Chg X (w4.setRow g C) (fun x => x = g ∨ x = g + 1) := HC4.out.trans (Chg.grown (S := fun x => x = g) hg5 (fun k e => by injection e with e; exact e.symm)) (fun x _ h => .inl h)
          generalize w4.setRow g C = Y at *
          have HU5 := Lib.hid hu5
          have HK5 := Lib.hid hk5
          have HC5 := Lib.hid hc5
          clear hu5 hg5 hk5 hc5 HK4 HC4 DS DN HCN HCI
          go_loopw [60] (fun v wz => ∃ i : Nat, i ≤ 32 ∧ v = .int .i64 i ∧ wz.rowIs (g + 1) 103 32 (fun q => .int .u8 (upd i (fun q => nth (blN key s j) q ^^^ nth (uN key s (j + 1)) q) (nth (blN key s j)) q : Nat)) ∧ Y.grownBy wz (some (g + 1))) (fun v _ => 32 - (intOf v).toNat)
          case atStart => exact ⟨0, by omega, rfl, HK5.out.congr (fun q _ => by rw [upd_zero]), grown_refl _ _⟩
          case round =>
            obtain ⟨i, hi, rfl, hro, hg⟩ := hrel
            have HRo := Lib.hid hro
            have HG := Lib.hid hg
            clear hro hg
            by_cases i32 : i < 32
            · have i32' : (i : Int) < 32 := by omega
              have hub := HU5.out.of_block (HG.out.block g HU5.out.lt (by intro e; injection e with e; omega))
              have c1 := HRo.out.cell i32
              have c2 : wr.cell? ⟨g, i, none⟩ = some (.int .u8 (nth (uN key s (j + 1)) i : Nat)) := hub.cell i32
              have x1 := HRo.out.frozen i
              rw [upd_ge _ _ (Nat.le_refl _)] at c1
              have hx := u8_xor_nat (nth (blN key s j) i) (nth (uN key s (j + 1)) i) (nth_lt (blN_lt _ _ _) i) (nth_lt (uN_lt _ _ _) i)
              obtain ⟨p1, hp1⟩ : ∃ p, p = nth (blN key s j) i := ⟨_, rfl⟩
              obtain ⟨p2, hp2⟩ : ∃ p, p = nth (uN key s (j + 1)) i := ⟨_, rfl⟩
              rw [← hp1] at c1 hx
              rw [← hp2] at c2 hx
              have HP := Lib.hid (show p1 ^^^ p2 = nth (blN key s j) i ^^^ nth (uN key s (j + 1)) i by rw [hp1, hp2])
              clear hub hp1 hp2
              go_upto_region 15 with fail
              refine wp_region_still_tail 8 (by kernel_rfl) (by kernel_rfl) ?_
              simp only [List.take_succ_cons, List.take_zero, List.drop_succ_cons, List.drop_zero]
              repeat still_step
              try refine wpStill_nil ?_
              have hzr : wr.drew.rowIs (g + 1) 103 32 (fun q => .int .u8 (upd i (fun q => nth (blN key s j) q ^^^ nth (uN key s (j + 1)) q) (nth (blN key s j)) q : Nat)) := HRo.out
              have hgz : Y.grownBy wr.drew (some (g + 1)) := ⟨HG.out.os, HG.out.tape, HG.out.output, HG.out.size, HG.out.block⟩
              have z1 := hzr.cell i32
              have z2 := hzr.frozen i
              clear c1 c2 x1
              change wpList _ _ _ _ _ wr.drew
              generalize wr.drew = Z at *
              have HZR := Lib.hid hzr
              have HGZ := Lib.hid hgz
              clear hzr hgz HRo HG
              go_wp2_with fail
              go_roundw
              case rel =>
                have hrow := row_upd8v HZR.out (congrArg (fun x : Nat => (x : Int)) HP.out)
                have hgr := grown_set (p := ⟨g + 1, i, none⟩) HGZ.out (.inl rfl) (.int .u8 ((p1 ^^^ p2 : Nat) : Int))
                first
                | exact ⟨i + 1, by omega, by go_num, hrow, hgr⟩
                | (repeat apply Exists.intro); refine ⟨⟨i + 1, by omega, by go_num, hrow, hgr⟩, rfl⟩
              case measure => simp [intOf]; omega
            · obtain rfl : i = 32 := by omega
              go_wp2_with fail
              have hub : Row32 wr g (uN key s (j + 1)) := HU5.out.of_block (HG.out.block g HU5.out.lt (by intro e; injection e with e; omega))
              have hkb : Row32 wr (g + 1) (blN key s (j + 1)) := HRo.out.congr fun q hq => by rw [upd_lt _ _ hq, blN, xorL_nth _ _ hq]
              have hch : Chg X wr (fun x => x = g ∨ x = g + 1) := HC5.out.trans (Chg.grown (S := fun x => x = g + 1) HG.out (fun k e => by injection e with e; exact e.symm)) (fun x _ h => .inr h)
              exact ⟨⟨j + 1, by omega, by go_num, hub, hkb, hch⟩, by simp [intOf]; omega⟩
        · obtain rfl : j = r - 1 := by omega
          have e1' : ¬ ((r - 1 : Nat) : Int) < ((r - 1 : Nat) : Int) := by omega
          have hot : Ow wr w.heap.size (.slice A10 (32 * (k - 1)) c10) (pbAll key salt (r - 1) (k - 1)) := HOX.out.keepb' fun x e => HCH.out.block x (HOX.out.lt x e).2 (by have := HSZ.out x e; rintro (rfl | rfl) <;> omega)
          have HOT := Lib.hid hot
          have hrd := HK.out.rd (blN_length _ _ _) (blN_lt _ _ _)
          have HRD := Lib.hid hrd
          have hpk : pbAll key salt (r - 1) (k + 1 - 1) = pbAll key salt (r - 1) (k - 1) ++ blN key s (r - 1) := by
            obtain ⟨k', rfl⟩ : ∃ k', k = k' + 1 := ⟨k - 1, by omega⟩
            rw [HSS.out]
            rfl
          have HPK := Lib.hid hpk
          clear hot hrd hpk HOX HU HK HCH
          go_wp2_with (at_builtin; refine append_bytes (.tmp 73) (.tmp 74) rfl rfl rfl HOT.out (some ⟨g + 1, 0, none⟩) 32 32 (blN key s (r - 1)) rfl (blN_length _ _ _).symm HRD.out (by rw [pbAll_length, blN_length]; omega) HBQ.out.size ?_; intro v5 w5 ho5 hg5 ha5; have HO5 := Lib.hid ho5; have HB5 := Lib.hid (HBQ.out.grown hg5 HBQ.out.size (fun x e => (HOT.out.lt x e).1)); clear ho5 hg5 ha5)
          exact ⟨⟨k + 1, by omega, by omega, by go_num, by rw [HPK.out]; exact HO5.out, HB5.out⟩, by simp [intOf]; omega⟩
    · have e0' : ¬ ((32 * (k - 1) : Nat) : Int) < n := by omega
      have hc1 : (n : Int) ≤ c10 := by omega
      have hc2 : n ≤ c10 := by omega
      go_wp2_with fail
      have hkk : k - 1 = (n + 31) / 32 := by omega
      go_ret2
      exact ⟨A10, c10, rfl, hc2, by rw [← hkk]; exact rd_take H10.out n, HBW.out⟩
end Go.Proofs.YtlhbijpmhokmnaaGreat
