/-
  THE WALKS OF quillpresslow's whole, stamped, all; slices.ContainsFunc, IndexFunc at bytes. Conditions: the slice lies in a block of its own.
-/
import Derived.Test.YtkmjbfednmidbaaBytes
import Derived.Test.YtkmjbfednmidbaaDiskK1
namespace Go.Proofs.Ytkmjbfednmidbaa
open Go.RowKit
set_option linter.unusedSimpArgs false
set_option linter.unusedVariables false

/-- Only these blocks change. -/
structure Alt (w w' : World) (S : Nat → Prop) : Prop where
  os : w'.os = w.os
  tape : w'.tape = w.tape
  output : w'.output = w.output
  size : w.heap.size ≤ w'.heap.size
  block : ∀ k, k < w.heap.size → ¬ S k → w'.heap[k]? = w.heap[k]?
section
variable {w w1 w2 : World} {S T : Nat → Prop}
theorem Alt.refl (w : World) (S : Nat → Prop) : Alt w w S := ⟨rfl, rfl, rfl, Nat.le_refl _, fun _ _ _ => rfl⟩
theorem Alt.trans (h : Alt w w1 S) (k : Alt w1 w2 T) (hT : ∀ x, x < w.heap.size → T x → S x) : Alt w w2 S :=
  ⟨k.os.trans h.os, k.tape.trans h.tape, k.output.trans h.output, Nat.le_trans h.size k.size, fun x hx hs => (k.block x (Nat.lt_of_lt_of_le hx h.size) (fun ht => hs (hT x hx ht))).trans (h.block x hx hs)⟩
theorem Alt.grown {row : Option Nat} (h : w.grownBy w1 row) (hr : ∀ k, row = some k → S k) : Alt w w1 S := ⟨h.os, h.tape, h.output, h.size, fun x hx hs => h.block x hx fun e => hs (hr x e.symm)⟩
theorem Alt.below {B : Nat} (h : Alt w w1 S) (hB : ∀ k, S k → B ≤ k) (hw : B ≤ w.heap.size) : Below B w w1 := ⟨h.os, h.tape, h.output, h.size, fun x hx => h.block x (Nat.lt_of_lt_of_le hx hw) fun hs => by have := hB x hs; omega⟩
theorem Alt.bel (h : Alt w w1 S) (k : Below w1.heap.size w1 w2) : Alt w w2 S := h.trans (T := fun _ => False) ⟨k.os, k.tape, k.output, k.size, fun x hx _ => k.block x hx⟩ (fun _ _ h => h.elim)
end

/-- A slice in a block of its own: c places, of which m are looked at. -/
def Bk (w : World) (v : Value) (b : Option Nat) (m c : Nat) : Prop :=
  (v = .slice none 0 0 ∧ b = none ∧ m = 0 ∧ c = 0) ∨ ∃ g n t f, v = .slice (some ⟨g, 0, none⟩) n c ∧ b = some g ∧ n ≤ c ∧ c ≤ maxLen ∧ n ≤ 140737488355328 ∧ m = min c (n + 40) ∧ w.rowIs g t c f
section
variable {w w' : World} {v : Value} {b : Option Nat} {m c : Nat}
theorem Ow.bk {base : Nat} {l : List Nat} (h : Ow w base v l) (hl : l.length ≤ 140737488355328) : ∃ m c, Bk w v v.ownBlock m c ∧ ∀ k, v.ownBlock = some k → base ≤ k ∧ k < w.heap.size := by
  have hlt := h.lt
  obtain ⟨hb, hlen, ⟨rfl, hn⟩ | ⟨g, cap, cur, rfl, hg, hh, hn, hm, hs, ht⟩⟩ := h
  · exact ⟨0, 0, .inl ⟨rfl, rfl, rfl, rfl⟩, hlt⟩
  · exact ⟨_, cap, .inr ⟨g, _, _, fun i => cur[i]?.getD undef, rfl, rfl, hn, hm, hl, rfl, cur, hh, by omega, fun i hi => by simp [Array.getElem?_eq_getElem (show i < cur.size by omega)]⟩, hlt⟩
theorem Bk.keep (h : Bk w v b m c) (hk : ∀ k, b = some k → w'.heap[k]? = w.heap[k]?) : Bk w' v b m c := by
  rcases h with h | ⟨g, n, t, f, h1, h2, h3, h4, hn40, h5, h6⟩
  · exact .inl h
  · exact .inr ⟨g, n, t, f, h1, h2, h3, h4, hn40, h5, h6.of_block (hk g h2)⟩
theorem Bk.set (h : Bk w v b m c) (pb po : Nat) (u : Value) : Bk (w.setCell ⟨pb, po, none⟩ u) v b m c := by
  rcases h with h | ⟨g, n, t, f, h1, h2, h3, h4, hn40, h5, h6⟩
  · exact .inl h
  · by_cases e : pb = g
    · subst e
      exact .inr ⟨pb, n, t, _, h1, h2, h3, h4, hn40, h5, h6.set po u⟩
    · exact .inr ⟨g, n, t, f, h1, h2, h3, h4, hn40, h5, h6.of_block (Below.heap_setCell w ⟨pb, po, none⟩ u g (by simpa using Ne.symm e))⟩
theorem Bk.lt (h : Bk w v b m c) {k : Nat} (e : b = some k) : k < w.heap.size := by
  rcases h with ⟨_, h, _⟩ | ⟨g, n, t, f, h1, h2, h3, h4, hn40, h5, h6⟩
  · rw [h] at e; cases e
  · rw [h2] at e; injection e with e; subst e; exact h6.lt
end
def stN (k r : Nat) : Nat := if r = 0 then k else 0

set_option maxRecDepth 100000 in
theorem whole_any (v : Value) (b : Option Nat) (m c : Nat) (w : World) (h : Bk w v b m c) : Calls Try.prog 61 #[v] w fun e w' => e = .returned (.slice (b.map fun g => ⟨g, 0, none⟩) m c) ∧ w = w' := by
  rcases h with ⟨rfl, rfl, rfl, rfl⟩ | ⟨g, n, t, f, rfl, rfl, h3, h4, hn40, rfl, h6⟩
  · go_enter Try.func61, Try.ntmps61
    go_wp2
    go_ret
    exact ⟨rfl, rfl⟩
  · unfold maxLen at h4
    clear h6
    have k1 : IntKind.i64.wrap ((n : Int) + 40) = (n : Int) + 40 := by simp [IntKind.wrap, IntKind.signed, IntKind.bits]; omega
    obtain ⟨m, hm⟩ : ∃ m, m = min c (n + 40) := ⟨_, rfl⟩
    have k2 : (if (n : Int) + 40 < c then (n : Int) + 40 else (c : Int)) = m := by split <;> omega
    have k3 : (m : Int) ≤ c := by omega
    have k4 : m ≤ c := by omega
    rw [← hm]
    clear hm h3 h4
    go_enter Try.func61, Try.ntmps61
    go_wp2
    go_ret
    exact ⟨rfl, rfl⟩
theorem stamped_any (k r : Nat) (hk : k < 256) (hr : r < 2) (w : World) : Calls Try.prog 62 #[.int .i64 k, .int .i64 r] w fun e w' => e = .returned (.int .u8 (stN k r : Nat)) ∧ w = w' := by
  have q1 : IntKind.u8.wrap (k : Int) = k := by rw [IntKind.wrap_u8]; omega
  have q2 : IntKind.u8.wrap ((k : Int) / 256) = 0 := by rw [IntKind.wrap_u8]; omega
  obtain rfl | rfl : r = 0 ∨ r = 1 := by omega
  · go_enter Try.func62, Try.ntmps62
    go_wp2
    go_ret
    exact ⟨rfl, rfl⟩
  · go_enter Try.func62, Try.ntmps62
    go_wp2
    go_ret
    exact ⟨rfl, rfl⟩
theorem mine_any (pk pr k r : Nat) (hk : k < 256) (hr : r < 2) (w : World) (h1 : w.cell? ⟨pk, 0, none⟩ = some (.int .i64 k)) (h2 : w.cell? ⟨pr, 0, none⟩ = some (.int .i64 r)) :
    Calls Try.prog 63 #[.int .u8 (stN k r : Nat), .pointer (some ⟨pk, 0, none⟩), .pointer (some ⟨pr, 0, none⟩)] w fun e w' => e = .returned (.bool true) ∧ w = w' := by
  go_enter Try.func63, Try.ntmps63
  go_wp2_with fail
  refine (stamped_any k r hk hr w).mono ?_
  rintro e w' ⟨rfl, rfl⟩
  go_wp2_with fail
  go_ret
  exact ⟨rfl, rfl⟩
def mineV (pk pr : Nat) : Value := .func (.func 63) #[] #[.pointer (some ⟨pk, 0, none⟩), .pointer (some ⟨pr, 0, none⟩)]
theorem all1_any (pb pk pr k r : Nat) (hk : k < 256) (hr : r < 2) (w : World) (h0 : w.cell? ⟨pb, 0, none⟩ = some (mineV pk pr)) (h1 : w.cell? ⟨pk, 0, none⟩ = some (.int .i64 k)) (h2 : w.cell? ⟨pr, 0, none⟩ = some (.int .i64 r)) :
    Calls Try.prog 74 #[.int .u8 (stN k r : Nat), .pointer (some ⟨pb, 0, none⟩)] w fun e w' => e = .returned (.bool false) ∧ w = w' := by
  unfold mineV at h0
  go_enter Try.func74, Try.ntmps74
  go_wp2_with fail
  refine (mine_any pk pr k r hk hr w h1 h2).mono ?_
  rintro e w' ⟨rfl, rfl⟩
  go_wp2_with fail
  go_ret
  exact ⟨rfl, rfl⟩
theorem index_any (b : Option Nat) (m c pb pk pr k r : Nat) (hk : k < 256) (hr : r < 2) (hm : m ≤ 9223372036854775807) (w : World) (h0 : w.cell? ⟨pb, 0, none⟩ = some (mineV pk pr)) (h1 : w.cell? ⟨pk, 0, none⟩ = some (.int .i64 k)) (h2 : w.cell? ⟨pr, 0, none⟩ = some (.int .i64 r))
    (hb : b = none → m = 0) (hc : ∀ g, b = some g → ∀ i, i < m → w.cell? ⟨g, i, none⟩ = some (.int .u8 (stN k r : Nat))) :
    Calls Try.prog 76 #[.slice (b.map fun g => ⟨g, 0, none⟩) m c, .func (.func 74) #[] #[.pointer (some ⟨pb, 0, none⟩)]] w fun e w' => e = .returned (.int .i64 (-1)) ∧ w = w' := by
  have H0 := Lib.hid h0
  have H1 := Lib.hid h1
  have H2 := Lib.hid h2
  clear h0 h1 h2
  rcases b with _ | g
  · obtain rfl := hb rfl
    clear hb hc
    go_enter Try.func76, Try.ntmps76
    go_wp2_with fail
    go_loopw [8] (fun i wr => i = .int .i64 0 ∧ wr = w) (fun i _ => 0)
    case atStart => exact ⟨rfl, rfl⟩
    case round =>
      obtain ⟨rfl, rfl⟩ := hrel
      go_wp2_with fail
      go_ret
      exact ⟨rfl, rfl⟩
  · have HC := Lib.hid (hc g rfl)
    clear hc hb
    rw [show (some g).map (fun g => (⟨g, 0, none⟩ : Addr)) = some ⟨g, 0, none⟩ from rfl]
    go_enter Try.func76, Try.ntmps76
    go_wp2_with fail
    go_loopw [8] (fun i wr => ∃ j : Nat, j ≤ m ∧ i = .int .i64 j ∧ wr = w) (fun i _ => m - (intOf i).toNat)
    case atStart => exact ⟨0, by omega, rfl, rfl⟩
    case round =>
      obtain ⟨j, hj, rfl, rfl⟩ := hrel
      by_cases e0 : j < m
      · have e0' : (j : Int) < m := by omega
        have x1 := HC.out j e0
        go_wp2_with fail
        refine (all1_any pb pk pr k r hk hr wr H0.out H1.out H2.out).mono ?_
        rintro e w' ⟨rfl, rfl⟩
        go_wp2_with fail
        go_roundw
        case rel => exact ⟨j + 1, by omega, by go_num, trivial⟩
        case measure => simp [intOf]; omega
      · obtain rfl : j = m := by omega
        go_wp2_with fail
        go_ret
        exact ⟨rfl, rfl⟩
theorem contains_any (b : Option Nat) (m c pb pk pr k r : Nat) (hk : k < 256) (hr : r < 2) (hm : m ≤ 9223372036854775807) (w : World) (h0 : w.cell? ⟨pb, 0, none⟩ = some (mineV pk pr)) (h1 : w.cell? ⟨pk, 0, none⟩ = some (.int .i64 k)) (h2 : w.cell? ⟨pr, 0, none⟩ = some (.int .i64 r))
    (hb : b = none → m = 0) (hc : ∀ g, b = some g → ∀ i, i < m → w.cell? ⟨g, i, none⟩ = some (.int .u8 (stN k r : Nat))) :
    Calls Try.prog 73 #[.slice (b.map fun g => ⟨g, 0, none⟩) m c, .func (.func 74) #[] #[.pointer (some ⟨pb, 0, none⟩)]] w fun e w' => e = .returned (.bool false) ∧ w = w' := by
  go_enter Try.func73, Try.ntmps73
  go_wp2_with fail
  refine (index_any b m c pb pk pr k r hk hr hm w h0 h1 h2 hb hc).mono ?_
  rintro e w' ⟨rfl, rfl⟩
  go_wp2_with fail
  go_ret
  exact ⟨rfl, rfl⟩
theorem all_any (b : Option Nat) (m c pk pr k r : Nat) (hk : k < 256) (hr : r < 2) (hm : m ≤ 9223372036854775807) (w : World) (h1 : w.cell? ⟨pk, 0, none⟩ = some (.int .i64 k)) (h2 : w.cell? ⟨pr, 0, none⟩ = some (.int .i64 r))
    (hb : b = none → m = 0) (hc : ∀ g, b = some g → ∀ i, i < m → w.cell? ⟨g, i, none⟩ = some (.int .u8 (stN k r : Nat))) :
    Calls Try.prog 64 #[.slice (b.map fun g => ⟨g, 0, none⟩) m c, mineV pk pr] w fun e w' => e = .returned (.bool true) ∧ Below w.heap.size w w' := by
  have HC := Lib.hid hc
  have HB := Lib.hid hb
  have H1 := Lib.hid h1
  have H2 := Lib.hid h2
  clear hc hb h1 h2
  go_enter Try.func64, Try.ntmps64
  go_wp2_with fail
  have hbl : Below w.heap.size w (w.alloc (.cells #[mineV pk pr] 83)) := (Below.refl _ _).alloc (Nat.le_refl _) _
  have k0 : (w.alloc (.cells #[mineV pk pr] 83)).cell? ⟨w.heap.size, 0, none⟩ = some (mineV pk pr) := by rw [cell_of_row _ _ _ _ _ _ (heap_alloc_new w _)]; rfl
  have hkc : ∀ (p : Nat) (u : Value), w.cell? ⟨p, 0, none⟩ = some u → (w.alloc (.cells #[mineV pk pr] 83)).cell? ⟨p, 0, none⟩ = some u := fun p u h => (hbl.cell (p := ⟨p, 0, none⟩) (block_lt_of_cell h)).trans h
  refine (contains_any b m c w.heap.size pk pr k r hk hr hm _ k0 (hkc _ _ H1.out) (hkc _ _ H2.out) HB.out fun g hg i hi => ?_).mono ?_
  · have h := HC.out g hg i hi
    exact (hbl.cell (p := ⟨g, i, none⟩) (block_lt_of_cell h)).trans h
  rintro e w' ⟨rfl, rfl⟩
  go_wp2_with fail
  go_ret
  exact ⟨rfl, hbl⟩
end Go.Proofs.Ytkmjbfednmidbaa
