/-
  THE CHAPTER's EXAMPLE OF AES, by the kernel's own run: the functions of the walks, in a form that the kernel runs fast. Conditions: none.
  THE WALK OF quillpresslaw05.awake: the chapter's examples come out. Conditions: none.
  CHAPTER 06, IN PLAIN LEAN; THE WALK OF ctr.Stream's closure (one block of the stream). Conditions: the boxes hold a nonce that reads as a list of 8, and a cipher.
  THE WALK OF ctr.Stream. Conditions: the pointer is nil or leads to a cipher, the nonce reads as a list.
-/
import Derived.Test.YtlhbijpmhokmnaaGreatQ22
import Derived.Test.YtlhbijpmhokmnaaGreatQ23
import Derived.Test.YtlhbijpmhokmnaaGreatQ12
import Derived.Test.YtlhbijpmhokmnaaGreatQ11
import Derived.Laws.MakeOwn
namespace Go.Proofs.YtlhbijpmhokmnaaGreat
set_option linter.unusedSimpArgs false

/-- The kernel reckons every element before it goes on. -/
def forceL {α : Type} : List Nat → (List Nat → α) → α
  | [], k => k []
  | x :: xs, k => force x fun y => forceL xs fun ys => k (y :: ys)
theorem forceL_eq {α : Type} (l : List Nat) : ∀ (k : List Nat → α), forceL l k = k l := by
  induction l with
  | nil => intro k; rfl
  | cons x xs ih => intro k; rw [forceL, force_eq, ih]
def ksE : Nat → List Nat → Nat → Nat → List Nat
  | 0, l, _, _ => l
  | f + 1, l, p, i => forceL (ksA l p i) fun l' => force (if i % 8 = 0 then tm p 2 else p) fun p' => ksE f l' p' (i + 1)
theorem ksE_eq (f : Nat) : ∀ l p i, ksE f l p i = ksF f l p i := by
  induction f with
  | zero => intros; rfl
  | succ f ih => intro l p i; rw [ksE, forceL_eq, force_eq, ih]; rfl
def encLs (kb : List Nat) (r : Nat) (l : List Nat) : List Nat :=
  forceL ((List.range 16).map (encT (nth l))) fun t => (List.range 16).map fun i => (if r < 14 then mixF (nth t) 2 3 1 1 i else nth t i) ^^^ nth kb (r * 16 + i)
def encLn (kb : List Nat) : Nat → Nat → List Nat → List Nat
  | 0, _, l => l
  | f + 1, r, l => forceL (encLs kb r l) fun l' => encLn kb f (r + 1) l'
def encL (key blk : List Nat) : List Nat := forceL (ksE 52 key 1 8) fun kb => forceL ((List.range 16).map fun i => nth blk i ^^^ nth kb i) fun l => encLn kb 14 1 l
theorem nth_map16 (f : Nat → Nat) {i : Nat} (h : i < 16) : nth ((List.range 16).map f) i = f i := by
  simp [nth, h]
theorem mixF_congr {s t : Nat → Nat} (h : ∀ i, i < 16 → s i = t i) (a b c d : Nat) {i : Nat} (hi : i < 16) : mixF s a b c d i = mixF t a b c d i := by
  unfold mixF
  rw [h _ (by omega), h _ (mix_ix hi), h _ (mix_ix hi), h _ (mix_ix hi)]
theorem encS_congr {kb s t : Nat → Nat} (h : ∀ i, i < 16 → s i = t i) (r : Nat) {i : Nat} (hi : i < 16) : encS kb r s i = encS kb r t i := by
  have he : ∀ i, i < 16 → encT s i = encT t i := fun i _ => by unfold encT; rw [h _ (pe_lt i)]
  unfold encS
  rw [mixF_congr he 2 3 1 1 hi, he i hi]
theorem encLs_nth (kb : List Nat) (r : Nat) (l : List Nat) {i : Nat} (hi : i < 16) : nth (encLs kb r l) i = encS (nth kb) r (nth l) i := by
  unfold encLs encS
  rw [forceL_eq, nth_map16 _ hi, mixF_congr (fun j hj => nth_map16 _ hj) 2 3 1 1 hi, nth_map16 _ hi]
theorem encLn_nth (kb : List Nat) (s : Nat → Nat) (f : Nat) : ∀ (n : Nat) (l : List Nat), (∀ i, i < 16 → nth l i = encN (nth kb) s n i) → ∀ i, i < 16 → nth (encLn kb f (n + 1) l) i = encN (nth kb) s (n + f) i := by
  induction f with
  | zero => intro n l h i hi; exact h i hi
  | succ f ih =>
    intro n l h i hi
    rw [encLn, forceL_eq, ih (n + 1) _ (fun j hj => ?_) i hi, show n + 1 + f = n + (f + 1) by omega]
    rw [encLs_nth _ _ _ hj]
    exact encS_congr h _ hj
theorem encL_nth (key blk : List Nat) {i : Nat} (hi : i < 16) : nth (encL key blk) i = encN (nth (ks key)) (nth blk) 14 i := by
  unfold encL
  rw [forceL_eq, forceL_eq, ksE_eq]
  have := encLn_nth (ks key) (nth blk) 14 0 ((List.range 16).map fun i => nth blk i ^^^ nth (ks key) i) (fun j hj => nth_map16 _ hj) i hi
  rw [Nat.zero_add, Nat.zero_add] at this
  exact this
def exampleL : List Nat := [142, 162, 183, 202, 81, 103, 69, 191, 234, 252, 73, 144, 75, 73, 96, 137]
theorem example_enc : encL (rowL 0 1 32) (rowL 0 17 16) = exampleL := by decide +kernel
theorem example_tm : tm 87 131 = 193 := by decide +kernel
theorem example_sb : sb 83 = 237 := by decide +kernel
theorem example_bk : bk 237 = 83 := by decide +kernel
theorem example_row : (List.range 16).map (encN (nth (ks (rowL 0 1 32))) (nth (rowL 0 17 16)) 14) = exampleL := by
  have h : (List.range 16).map (encN (nth (ks (rowL 0 1 32))) (nth (rowL 0 17 16)) 14) = (List.range 16).map (nth exampleL) := by
    apply List.map_congr_left
    intro i hi
    rw [← encL_nth _ _ (by simpa using hi), example_enc]
  rw [h]
  decide
end Go.Proofs.YtlhbijpmhokmnaaGreat
namespace Go.Proofs.YtlhbijpmhokmnaaGreat
open Go.RowKit
set_option linter.unusedSimpArgs false
set_option linter.unusedVariables false

theorem row_rd {w : World} {g t n : Nat} {f : Nat → Nat} (h : w.rowIs g t n (fun i => .int .u8 (f i : Nat))) (hf : ∀ i, i < n → f i < 256) : Rd w (some ⟨g, 0, none⟩) ((List.range n).map f) := by
  refine ⟨fun x hx => ?_, fun _ => ⟨g, 0, rfl, h.lt, fun i hi => ?_⟩⟩
  · simp only [List.mem_map, List.mem_range] at hx
    obtain ⟨i, hi, rfl⟩ := hx
    exact hf i hi
  · have hi' : i < n := by simpa using hi
    rw [Nat.zero_add, h.cell hi']
    simp [nth, hi']
/-- A literal of bytes, as it lies in its block. -/
theorem lit_rd (w : World) (t : TypeId) (l : List Nat) (hl : ∀ x ∈ l, x < 256) (cs : Array Value) (h : cs.toList = bs l) : Rd (w.alloc (.cells cs t)) (some ⟨w.heap.size, 0, none⟩) l := by
  refine ⟨hl, fun _ => ⟨_, 0, rfl, by simp, fun i hi => ?_⟩⟩
  rw [Nat.zero_add, cell_of_row _ _ _ _ _ _ (heap_alloc_new w _), ← Array.getElem?_toList, h, bs_get hi, nth_get hi]
  rfl
theorem rowL_lt (a b n : Nat) : ∀ x ∈ rowL a b n, x < 256 := by
  intro x hx
  simp only [rowL, List.mem_map] at hx
  obtain ⟨i, _, rfl⟩ := hx
  omega
theorem rowL_length (a b n : Nat) : (rowL a b n).length = n := by simp [rowL]
theorem ks_lt {key : List Nat} (h : ∀ x ∈ key, x < 256) : ∀ x ∈ ks key, x < 256 := by
  have step : ∀ l p i, (∀ x ∈ l, x < 256) → p < 256 → ∀ x ∈ ksA l p i, x < 256 := by
    intro l p i hl hp x hx
    unfold ksA at hx
    rcases List.mem_append.1 hx with hx | hx
    · exact hl x hx
    · simp only [List.mem_map] at hx
      obtain ⟨k, _, rfl⟩ := hx
      exact xor_lt8 (nth_lt hl _) (ksT_lt hl hp)
  have key' : ∀ f l p i, (∀ x ∈ l, x < 256) → p < 256 → ∀ x ∈ ksF f l p i, x < 256 := by
    intro f
    induction f with
    | zero => intro l p i hl _; exact hl
    | succ f ih =>
      intro l p i hl hp
      unfold ksF
      refine ih _ _ _ (step l p i hl hp) ?_
      split
      · exact tm_lt _ _ hp
      · exact hp
  exact key' 52 key 1 8 h (by omega)

theorem same_n (A1 A2 : Option Addr) (n1 n2 c1 c2 : Nat) (a b : List Nat) (w : World) (h1 : n1 = a.length) (h2 : n2 = b.length) (ha : Rd w A1 a) (hb : Rd w A2 b) (hla : a.length ≤ 9223372036854775807) (hlb : b.length ≤ 9223372036854775807) :
    Calls Tryz.prog 9 #[.slice A1 n1 c1, .slice A2 n2 c2] w (Quiet (.bool (sameB a b)) w) := by
  subst h1; subst h2
  exact same_any A1 A2 c1 c2 a b w ha hb hla hlb

end Go.Proofs.YtlhbijpmhokmnaaGreat
namespace Go.Proofs.YtlhbijpmhokmnaaGreat
open Go.RowKit
set_option linter.unusedSimpArgs false
set_option linter.unusedVariables false

/-- The first k bytes of a number of eight bytes, the great end first. -/
def beN (q k : Nat) : List Nat := (List.range k).map fun i => q / 2 ^ (56 - 8 * i) % 256
theorem beN_length (q k : Nat) : (beN q k).length = k := by simp [beN]
theorem beN_snoc (q k : Nat) : beN q (k + 1) = beN q k ++ [q / 2 ^ (56 - 8 * k) % 256] := range_snoc _ k
/-- A block of the stream. -/
def ctrB (kb : Nat → Nat) (nonce : List Nat) (q : Nat) : List Nat := (List.range 16).map (encN kb (nth (nonce ++ beN q 8)) 14)
def strm (kb : Nat → Nat) (nonce : List Nat) (at' n : Nat) : List Nat := (List.range n).map fun i => nth (ctrB kb nonce ((at' + i) / 16)) ((at' + i) % 16)
theorem ctrB_length (kb : Nat → Nat) (nonce : List Nat) (q : Nat) : (ctrB kb nonce q).length = 16 := by simp [ctrB]
theorem strm_length (kb : Nat → Nat) (nonce : List Nat) (a n : Nat) : (strm kb nonce a n).length = n := by simp [strm]
theorem nth_strm {kb : Nat → Nat} {nonce : List Nat} {a n i : Nat} (hi : i < n) : nth (strm kb nonce a n) i = nth (ctrB kb nonce ((a + i) / 16)) ((a + i) % 16) := by simp [nth, strm, hi]

theorem byte_of (q k : Nat) (hk : k < 8) : True := trivial

set_option maxRecDepth 100000 in
set_option maxHeartbeats 2000000 in
theorem ctrblock_any (g pn pc c : Nat) (A : Option Addr) (kb : Nat → Nat) (nonce : List Nat) (q : Nat) (w : World) (hq : q < 72057594037927936) (hc : Cph w g kb) (hkb : ∀ i, i < 240 → kb i < 256)
    (hbn : w.cell? ⟨pn, 0, none⟩ = some (.slice A 8 c)) (hbc : w.cell? ⟨pc, 0, none⟩ = some (.pointer (some ⟨g, 0, none⟩))) (hl : nonce.length = 8) (hr : Rd w A nonce) :
    Calls Tryz.prog 99 #[.int .i64 q, .pointer (some ⟨pn, 0, none⟩), .pointer (some ⟨pc, 0, none⟩)] w fun e w' => ∃ g', w.heap.size ≤ g' ∧ e = .returned (.slice (some ⟨g', 0, none⟩) 16 16) ∧
      Rd w' (some ⟨g', 0, none⟩) (ctrB kb nonce q) ∧ Below w.heap.size w w' := by
  have HC := Lib.hid hc
  have HBC := Lib.hid hbc
  have hpc := block_lt_of_cell hbc
  have HR := Lib.hid hr
  have h0 := Lib.hid (Ow.nil w w.heap.size)
  clear hr hc
  go_enter Tryz.func99, Tryz.ntmps99
  go_wp2_with (at_builtin; refine append_bytes (.const (.slice none 0 0)) (.tmp 9) rfl rfl rfl h0.out A 8 c nonce rfl hl.symm HR.out (by simp [hl]) (Nat.le_refl _) ?_; intro v0 w0 ho0 hg0 ha0)
  rw [List.nil_append] at ho0
  have hb0 : Below w.heap.size w w0 := below_of_append (Below.refl _ _) h0.out hg0 (Nat.le_refl _) (Nat.le_refl _)
  have HO0 := Lib.hid ho0
  have HB0 := Lib.hid hb0
  clear ho0 hg0 ha0 hb0
  go_loopw [5, 11] (fun v i wr => ∃ k : Nat, k ≤ 8 ∧ i = .int .i64 k ∧ Ow wr w.heap.size v (nonce ++ beN q k) ∧ Below w.heap.size w wr) (fun _ i _ => 8 - (intOf i).toNat)
  case atStart => exact ⟨0, by omega, rfl, by simpa [beN] using HO0.out, HB0.out⟩
  case round =>
    clear HO0 HB0 h0
    obtain ⟨k, hk, rfl, ho, hb⟩ := hrel
    have HO := Lib.hid ho
    have HB := Lib.hid hb
    clear ho hb
    by_cases e0 : k < 8
    · have hlen : (nonce ++ beN q k).length + 1 ≤ 140737488355328 := by rw [List.length_append, beN_length, hl]; omega
      obtain ⟨b, hbv⟩ : ∃ b, b = q / 2 ^ (56 - 8 * k) % 256 := ⟨_, rfl⟩
      have hb8 : b < 256 := by rw [hbv]; exact Nat.mod_lt _ (by omega)
      have hsn := beN_snoc q k
      rw [← hbv] at hsn
      obtain ⟨j, hj⟩ : ∃ j, j = k + 1 := ⟨_, rfl⟩
      rw [← hj] at hsn
      have HBV := Lib.hid hbv
      have HJ := Lib.hid hj
      have HSN := Lib.hid hsn
      clear hbv hj hsn
      have hcase : k = 0 ∨ k = 1 ∨ k = 2 ∨ k = 3 ∨ k = 4 ∨ k = 5 ∨ k = 6 ∨ k = 7 := by omega
      rcases hcase with rfl | rfl | rfl | rfl | rfl | rfl | rfl | rfl
      all_goals
        go_wp2_with (at_builtin; refine append_new (.tmp 14) (.tmp 21) rfl rfl _ _ _ b rfl rfl HO.out (by have h := HBV.out; simp only [Nat.reduceSub, Nat.reduceMul, Nat.reducePow] at h; omega) hb8 hlen HB.out.size ?_; intro v1 w1 ho1 hg1 ha1)
        rw [List.append_assoc, ← HSN.out] at ho1
        have hb1 : Below w.heap.size w w1 := below_of_append HB.out HO.out hg1 HB.out.size (Nat.le_refl _)
        have HO1 := Lib.hid ho1
        have HB1 := Lib.hid hb1
        clear ho1 hg1 ha1 hb1 HO HB
        go_wp2
        go_roundw
        case rel => exact ⟨j, by rw [HJ.out]; omega, by rw [HJ.out]; rfl, HO1.out, HB1.out⟩
        case measure => simp [intOf]
    · obtain rfl : k = 8 := by omega
      have hln : (nonce ++ beN q 8).length = 16 := by rw [List.length_append, beN_length, hl]
      obtain ⟨gi, ci, rfl, hci, hgi, hgi2, hcell, -⟩ := HO.out.form0 (by intro e; rw [e] at hln; simp at hln)
      rw [hln] at hcell hci ⊢
      have hcc := (HB.out.cell (p := ⟨pc, 0, none⟩) hpc).trans HBC.out
      have hbl := HO.out.1
      have HCELL := Lib.hid hcell
      have HBL := Lib.hid hbl
      have HC2 := Lib.hid (HC.out.below HB.out HC.out.lt)
      clear hcell hbl HO
      go_wp2_with fail
      refine (encrypt_any g gi 0 ci kb (nth (nonce ++ beN q 8)) wr HC2.out hkb (fun i _ => nth_lt HBL.out i) (fun i hi => by rw [Nat.zero_add]; exact HCELL.out i hi)).mono ?_
      rintro e w2 ⟨rfl, hr2, hb2⟩
      have HR2 := Lib.hid (row_rd hr2 (fun i hi => encN_lt hkb (fun i _ => nth_lt HBL.out i) 14 (by omega) i hi))
      have HB2 := Lib.hid (HB.out.trans (hb2.mono HB.out.size))
      have hs2 : w.heap.size ≤ wr.heap.size := HB.out.size
      clear hr2 hb2 HB HC2 HCELL hcc
      go_wp2_with fail
      go_ret
      exact ⟨_, hs2, rfl, HR2.out, HB2.out⟩
end Go.Proofs.YtlhbijpmhokmnaaGreat
namespace Go.Proofs.YtlhbijpmhokmnaaGreat
open Go.RowKit
set_option linter.unusedSimpArgs false
set_option linter.unusedVariables false

theorem nth_app_r (l m : List Nat) (i : Nat) (h : l.length ≤ i) : nth (l ++ m) i = nth m (i - l.length) := by
  simp [nth, List.getElem?_append, Nat.not_lt.2 h]
theorem strm_more (kb : Nat → Nat) (nonce : List Nat) (a k m : Nat) (hm : m ≤ 16 - (a + k) % 16) :
    strm kb nonce a k ++ ((ctrB kb nonce ((a + k) / 16)).drop ((a + k) % 16)).take m = strm kb nonce a (k + m) := by
  refine eq_of_nth (by simp [strm, ctrB]; omega) fun i hi => ?_
  have hB := ctrB_length kb nonce ((a + k) / 16)
  have hx : (a + k) % 16 < 16 := Nat.mod_lt _ (by omega)
  have hi' : i < k + m := by
    rw [List.length_append, strm_length, List.length_take, List.length_drop, hB] at hi
    omega
  rw [nth_strm hi']
  by_cases h : i < k
  · rw [nth_app_l (by rw [strm_length]; exact h), nth_strm h]
  · rw [show (a + i) / 16 = (a + k) / 16 by omega, show (a + i) % 16 = (a + k) % 16 + (i - k) by omega]
    have h2 := nth_app_r (strm kb nonce a k) (((ctrB kb nonce ((a + k) / 16)).drop ((a + k) % 16)).take m) i (by rw [strm_length]; omega)
    rw [h2, strm_length, nth_part (by omega)]
theorem strm_lt {kb : Nat → Nat} {nonce : List Nat} (hkb : ∀ i, i < 240 → kb i < 256) (hn : ∀ x ∈ nonce, x < 256) (a n : Nat) : ∀ x ∈ strm kb nonce a n, x < 256 := by
  intro x hx
  obtain ⟨i, _, rfl⟩ := List.mem_map.1 hx
  refine nth_lt (fun x hx => ?_) _
  obtain ⟨j, hj, rfl⟩ := List.mem_map.1 hx
  refine encN_lt hkb (fun j _ => nth_lt (fun x hx => ?_) _) 14 (by omega) j (by simpa using hj)
  rcases List.mem_append.1 hx with h | h
  · exact hn x h
  · obtain ⟨t, _, rfl⟩ := List.mem_map.1 h
    exact Nat.mod_lt _ (by omega)
/-- make([]byte, 0, n). -/
def vlen : Value → Nat
  | .slice _ n _ => n
  | _ => 0
theorem Ow.vlen {w : World} {base : Nat} {v : Value} {l : List Nat} (h : Ow w base v l) : vlen v = l.length := by
  obtain ⟨A, c, rfl, _⟩ := h.form
  rfl
theorem run_mk0 (w : World) (n : Nat) (hn : n ≤ 4194304) : (Instr.makeSlice 22 (.int .i64 0) (.int .i64 n)).run Tryz.prog w = .ok (.slice (some ⟨w.heap.size, 0, none⟩) 0 n) (w.alloc (.cells (madeCells #[.int .u8 0] n) 5)) := by
  obtain ⟨i, hi, hz, hs, hb⟩ := info_parts info_u8
  have h := run_make (P := Tryz.prog) w 22 5 i (.int .u8 0) Tryz.underlying22 hi hz .i64 .i64 0 n (Int.le_refl _) (by omega) (by rw [hb]; omega) (by omega)
  rw [hs, Nat.mul_one] at h
  exact h
theorem ow_make (w : World) (base n : Nat) (hb : base ≤ w.heap.size) (hn : n ≤ 4194304) : Ow (w.alloc (.cells (madeCells #[.int .u8 0] n) 5)) base (.slice (some ⟨w.heap.size, 0, none⟩) 0 n) [] :=
  ⟨by simp, World.ownsRow_made w _ n hb (by unfold maxLen; omega) (by rw [size_madeCells, Nat.mul_one])⟩

section
variable {w : World} {ops : Array Oper} {rest : List Oper} {o : Oper} {a : Act} {Q : Exit → Act → World → Prop} {base : Nat} {v : Value} {l : List Nat}
/-- 'out = append(out, l[r:][:m]...)'. -/
theorem append_part (s x : Operand) (hgd : o.guard = none) (ho : o.op = .call { callee := .builtin .append, args := #[s, x], argTypes := #[22, 22] })
    (hs : a.eval s = v) (hown : Ow w base v l) (g r m c : Nat) (L : List Nat) (hx : a.eval x = .slice (some ⟨g, r, none⟩) m c) (hr : Rd w (some ⟨g, 0, none⟩) L) (hm : r + m ≤ L.length)
    (hn : l.length + m ≤ 140737488355328) (hbase : base ≤ w.heap.size)
    (h : ∀ v' w', Ow w' base v' (l ++ (L.drop r).take m) → w.grownBy w' v.ownBlock → wpList Tryz.prog ops Q rest (a.put o.dst v') w') : wpList Tryz.prog ops Q (o :: rest) a w := by
  have hl : ((L.drop r).take m).length = m := by simp; omega
  have hr2 := hr.part r m
  rw [Nat.zero_add] at hr2
  exact append_bytes s x hgd ho hs hown (some ⟨g, r, none⟩) m c _ hx hl.symm hr2 (by rw [hl]; exact hn) hbase fun v' w' h1 h2 _ => h v' w' h1 h2
end
set_option maxRecDepth 100000 in
set_option maxHeartbeats 4000000 in
theorem stream_any (g : Nat) (A : Option Addr) (c : Nat) (kb : Nat → Nat) (nonce : List Nat) (a n : Nat) (w : World) (ha : a ≤ 1099511627776) (hn : n ≤ 4194304) (hc : Cph w g kb) (hkb : ∀ i, i < 240 → kb i < 256)
    (hl : nonce.length = 8) (hr : Rd w A nonce) :
    Calls Tryz.prog 86 #[.pointer (some ⟨g, 0, none⟩), .slice A 8 c, .int .i64 a, .int .i64 n] w fun e w' => ∃ v, e = .returned (.tuple #[v, .int .i64 0]) ∧ Ow w' w.heap.size v (strm kb nonce a n) ∧ Below w.heap.size w w' := by
  have hml : maxLen = 9223372036854775807 := rfl
  have HC := Lib.hid hc
  have HR := Lib.hid hr
  have HCM := Lib.hid hc.mark
  have hgl := hc.lt
  clear hr hc
  go_enter Tryz.func86, Tryz.ntmps86
  go_wp2_with fail
  have HB0 := Lib.hid (((Below.refl w.heap.size w).alloc (Nat.le_refl _) (.cells #[.pointer (some ⟨g, 0, none⟩)] 88)).alloc (by rw [World.size_alloc]; omega) (.cells #[.slice A 8 c] 22))
  have hp1 : ((w.alloc (.cells #[.pointer (some ⟨g, 0, none⟩)] 88)).alloc (.cells #[.slice A 8 c] 22)).cell? ⟨w.heap.size, 0, none⟩ = some (.pointer (some ⟨g, 0, none⟩)) := by
    rw [World.cell?_alloc_past _ _ _ (by rw [World.size_alloc]; exact Nat.lt_succ_self _)]
    exact new_cell _ _ _
  have hp2 : ((w.alloc (.cells #[.pointer (some ⟨g, 0, none⟩)] 88)).alloc (.cells #[.slice A 8 c] 22)).cell? ⟨w.heap.size + 1, 0, none⟩ = some (.slice A 8 c) := by
    have h := new_cell (w.alloc (.cells #[.pointer (some ⟨g, 0, none⟩)] 88)) (.slice A 8 c) 22
    rwa [World.size_alloc] at h
  have hsz : ((w.alloc (.cells #[.pointer (some ⟨g, 0, none⟩)] 88)).alloc (.cells #[.slice A 8 c] 22)).heap.size = w.heap.size + 2 := by rw [World.size_alloc, World.size_alloc]
  generalize (w.alloc (.cells #[.pointer (some ⟨g, 0, none⟩)] 88)).alloc (.cells #[.slice A 8 c] 22) = W at *
  have HC0 := Lib.hid (HC.out.below HB0.out HC.out.lt)
  have HR0 := Lib.hid (HR.out.below HB0.out)
  have HP1 := Lib.hid hp1
  have HP2 := Lib.hid hp2
  have HSZ := Lib.hid hsz
  clear HR HC hsz
  refine (made_any g W true HC0.out.mark).mono ?_
  rintro e w' ⟨rfl, rfl⟩
  have q1 : ((a : Int) < 0) = False := by simp
  have q2 : ((1099511627776 : Int) < (a : Int)) = False := by rw [eq_iff_iff]; exact ⟨fun h => by omega, False.elim⟩
  have q3 : ((n : Int) < 0) = False := by simp
  have q4 : ((4194304 : Int) < (n : Int)) = False := by rw [eq_iff_iff]; exact ⟨fun h => by omega, False.elim⟩
  have hmk := fun W' => run_mk0 W' n hn
  go_wp2_with fail
  have ho0 := ow_make W w.heap.size n (by rw [HSZ.out]; omega) hn
  have hb0 := HB0.out.alloc (by rw [HSZ.out]; omega) (.cells (madeCells #[.int .u8 0] n) 5)
  have hp1 := (((Below.refl W.heap.size W).alloc (Nat.le_refl _) (.cells (madeCells #[.int .u8 0] n) 5)).cell (p := ⟨w.heap.size, 0, none⟩) (by show w.heap.size < _; rw [HSZ.out]; omega)).trans HP1.out
  have hp2 := (((Below.refl W.heap.size W).alloc (Nat.le_refl _) (.cells (madeCells #[.int .u8 0] n) 5)).cell (p := ⟨w.heap.size + 1, 0, none⟩) (by show w.heap.size + 1 < _; rw [HSZ.out]; omega)).trans HP2.out
  have hz : W.heap.size = w.heap.size + 2 := HSZ.out
  have ho1 := ow_make W W.heap.size n (Nat.le_refl _) hn
  have hb1 := (Below.refl W.heap.size W).alloc (Nat.le_refl _) (.cells (madeCells #[.int .u8 0] n) 5)
  have HO1 := Lib.hid ho1
  have HB1 := Lib.hid hb1
  clear ho0 hb0 hp1 hp2 ho1 hb1 hmk q1 q2 q3 q4 HSZ
  go_loopw [11] (fun v wr => ∃ k : Nat, k ≤ n ∧ Ow wr W.heap.size v (strm kb nonce a k) ∧ Below W.heap.size W wr) (fun v _ => n - vlen v)
  case atStart => exact ⟨0, by omega, HO1.out, HB1.out⟩
  case round =>
    clear HO1 HB1
    obtain ⟨k, hk, ho, hb⟩ := hrel
    obtain ⟨A1, c1, rfl, hc1, hA1, hr1⟩ := ho.form
    rw [strm_length] at *
    have HO := Lib.hid ho
    have HB := Lib.hid hb
    clear ho hb hr1
    by_cases e0 : k < n
    · have hp1 := (HB.out.cell (p := ⟨w.heap.size, 0, none⟩) (by show w.heap.size < _; omega)).trans HP1.out
      have hp2 := (HB.out.cell (p := ⟨w.heap.size + 1, 0, none⟩) (by show w.heap.size + 1 < _; omega)).trans HP2.out
      go_wp2_with fail
      have hz : ((a : Int) + k) / 16 = ((a + k) / 16 : Nat) := by push_cast; rfl
      rw [hz]
      refine (ctrblock_any g (w.heap.size + 1) w.heap.size c A kb nonce ((a + k) / 16) wr (by omega) (HC0.out.below HB.out (by have := HC0.out.lt; omega)) hkb hp2 hp1 hl (HR0.out.below HB.out)).mono ?_
      rintro e w2 ⟨g2, hg2, rfl, hr2, hb2⟩
      have HO2 := Lib.hid (HO.out.below hb2)
      have HB2 := Lib.hid (HB.out.trans (hb2.mono HB.out.size))
      have HR2 := Lib.hid hr2
      clear hb2 hr2 HO HB hp1 hp2 hz
      have m0 : (0 : Int) ≤ ((a : Int) + k) % 16 := by omega
      have m1 : ((a : Int) + k) % 16 ≤ 16 := by omega
      have m2 : (((a : Int) + k) % 16).toNat = (a + k) % 16 := by omega
      have m3 : (a + k) % 16 < 16 := Nat.mod_lt _ (by omega)
      go_wp2_with (at_builtin; refine append_part (.tmp 56) (.tmp 65) rfl rfl rfl HO2.out.drew g2 _ _ _ _ rfl HR2.out.drew (by rw [ctrB_length]; omega) (by rw [strm_length]; omega) HB2.out.size ?_; intro v3 w3 ho3 hg3; have hg3 : w2.grownBy w3 (Value.slice A1 k c1).ownBlock := hg3)
      all_goals
        rw [strm_more _ _ _ _ _ (by omega)] at ho3
        have hvl := ho3.vlen
        rw [strm_length] at hvl
        rw [← hz]
        refine ⟨⟨_, ?_, ho3, below_of_append HB2.out HO2.out hg3 HB2.out.size (Nat.le_refl _)⟩, ?_⟩
        · omega
        · show n - vlen v3 < n - k
          rw [hvl]
          omega
    · obtain rfl : k = n := by omega
      go_wp2_with fail
      go_ret2
      exact ⟨_, rfl, HO.out.mono (by omega), HB0.out.trans (HB.out.mono (by omega))⟩
end Go.Proofs.YtlhbijpmhokmnaaGreat
