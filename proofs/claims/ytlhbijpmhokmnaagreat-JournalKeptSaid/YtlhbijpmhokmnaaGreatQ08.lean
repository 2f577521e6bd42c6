/-
  STRINGS AS LISTS OF NUMBERS: parts, prefixes, runes. Conditions: none.
  THE WALKS OF digest.Of, quillpresslaw03's hex, awake. Conditions: the bytes read.
  SHA-1 IN PLAIN MATHEMATICS. Conditions: none.
-/
import Derived.Test.YtlhbijpmhokmnaaGreatQ01
import Derived.Lib.Strings
import Derived.Lib.OthersKept
import Derived.Laws.RangeAny
import Derived.Test.YtlhbijpmhokmnaaGreatQ07
import Derived.BigQuiet
import Derived.Test.YtlhbijpmhokmnaaGreatQ02
namespace Go.Proofs.YtlhbijpmhokmnaaGreat
open Go.RowKit
set_option linter.unusedSimpArgs false
set_option linter.unusedVariables false

/-- The string of these bytes. -/
def mkS (l : List Nat) : ByteArray := ⟨(l.map UInt8.ofNat).toArray⟩
theorem strB_mkS {l : List Nat} (h : ∀ x ∈ l, x < 256) : strB (mkS l) = l := by
  unfold strB mkS
  simp only [List.map_map]
  conv => rhs; rw [← List.map_id l]
  apply List.map_congr_left
  intro x hx
  have := h x hx
  simp [UInt8.toNat_ofNat']
  omega
theorem mkS_strB (s : ByteArray) : mkS (strB s) = s := by
  unfold strB mkS
  rw [List.map_map]
  have : List.map (UInt8.ofNat ∘ UInt8.toNat) s.data.toList = s.data.toList := by
    conv => rhs; rw [← List.map_id s.data.toList]
    apply List.map_congr_left
    intro x _
    simp
  rw [this]
theorem strB_inj {s t : ByteArray} (h : strB s = strB t) : s = t := by rw [← mkS_strB s, ← mkS_strB t, h]
theorem strB_nth {s : ByteArray} {i : Nat} (h : i < s.size) : nth (strB s) i = (s[i]'h).toNat := by
  have h' : i < (strB s).length := by rw [strB_length]; exact h
  rw [nth_get h']
  simp [strB]
  rfl
theorem get_nth {s : ByteArray} {i : Nat} (h : i < s.size) : (s.get! i).toNat = nth (strB s) i := by
  rw [strB_nth h]
  have := get_at s i h
  rw [Nat.add_zero] at this
  rw [this]
theorem strB_extract (s : ByteArray) (a b : Nat) : strB (s.extract a b) = ((strB s).drop a).take (b - a) := by
  unfold strB
  rw [Lib.extract_data, List.map_take, List.map_drop]
theorem strB_data_inj {s t : ByteArray} : s.data.toList = t.data.toList ↔ strB s = strB t := by
  constructor
  · intro h; simp [strB, h]
  · intro h; rw [strB_inj h]
theorem str_eq (s t : ByteArray) : (s.toList == t.toList) = decide (strB s = strB t) := by
  rw [Bool.eq_iff_iff]
  simp only [beq_iff_eq, decide_eq_true_eq]
  rw [Lib.toList_data, Lib.toList_data, strB_data_inj]

/-- How many bytes of a kind a list begins with. -/
def wl (p : Nat → Bool) (l : List Nat) : Nat := (l.takeWhile p).length
theorem wl_le (p : Nat → Bool) (l : List Nat) : wl p l ≤ l.length := (List.takeWhile_sublist p).length_le
theorem wl_at {p : Nat → Bool} {k : Nat} : ∀ {l : List Nat}, k < l.length → (∀ j, j < k → p (nth l j) = true) → p (nth l k) = false → wl p l = k := by
  induction k with
  | zero =>
    intro l hk _ hf
    cases l with
    | nil => simp at hk
    | cons a l =>
      have : p a = false := by simpa [nth] using hf
      simp [wl, List.takeWhile_cons, this]
  | succ k ih =>
    intro l hk ha hf
    cases l with
    | nil => simp at hk
    | cons a l =>
      have h0 : p a = true := by simpa [nth] using ha 0 (by omega)
      have := ih (l := l) (by simpa using hk) (fun j hj => by simpa [nth] using ha (j + 1) (by omega)) (by simpa [nth] using hf)
      unfold wl at this ⊢
      rw [List.takeWhile_cons, h0]
      simpa using this
theorem wl_lt {p : Nat → Bool} : ∀ {l : List Nat} {j : Nat}, j < wl p l → p (nth l j) = true := by
  intro l
  induction l with
  | nil => intro j hj; simp [wl] at hj
  | cons a l ih =>
    intro j hj
    unfold wl at hj
    rw [List.takeWhile_cons] at hj
    by_cases h : p a = true
    · rw [h] at hj
      cases j with
      | zero => simpa [nth] using h
      | succ j => simpa [nth] using ih (j := j) (by simpa [wl] using hj)
    · rw [if_neg h] at hj
      simp at hj
theorem wl_stop {p : Nat → Bool} {l : List Nat} (h : wl p l < l.length) : p (nth l (wl p l)) = false := by
  induction l with
  | nil => simp [wl] at h
  | cons a l ih =>
    by_cases hp : p a = true
    · have e : wl p (a :: l) = wl p l + 1 := by simp [wl, List.takeWhile_cons, hp]
      rw [e] at h ⊢
      simpa [nth] using ih (by simpa using h)
    · have e : wl p (a :: l) = 0 := by simp [wl, List.takeWhile_cons, hp]
      rw [e]
      simpa [nth] using hp

theorem wl_all {p : Nat → Bool} {l : List Nat} (h : ∀ j, j < l.length → p (nth l j) = true) : wl p l = l.length := by
  rcases Nat.lt_or_ge (wl p l) l.length with h1 | h1
  · have := wl_stop h1
    rw [h _ h1] at this
    cases this
  · have := wl_le p l
    omega

/-- The bytes of a rune that is not ASCII are not ASCII. -/
theorem decode_mid (s : ByteArray) (pos : Nat) (h : pos < s.size) (ha : 128 ≤ nth (strB s) pos) : ∀ j, j < (Utf8.decode s pos).2 → pos + j < s.size ∧ 128 ≤ nth (strB s) (pos + j) := by
  have h0 : pos + 0 < s.size ∧ 128 ≤ nth (strB s) (pos + 0) := ⟨h, ha⟩
  have hc : ∀ k, (decide (pos + k < s.size) && (s.get! (pos + k)).toNat / 64 == 2) = true → pos + k < s.size ∧ 128 ≤ nth (strB s) (pos + k) := by
    intro k hk
    simp only [Bool.and_eq_true, decide_eq_true_eq, beq_iff_eq] at hk
    refine ⟨hk.1, ?_⟩
    rw [← get_nth hk.1]
    omega
  unfold Utf8.decode
  simp only
  intro j
  split
  · intro hj; obtain rfl : j = 0 := by simpa using hj
    exact h0
  · split
    · rename_i h1
      rw [Bool.and_eq_true] at h1
      have c1 := hc 1 h1.2
      split
      all_goals
        intro hj
        have hj' : j = 0 ∨ j = 1 := by simp at hj; omega
        rcases hj' with rfl | rfl
        · exact h0
        · exact c1
    · split
      · rename_i h1
        rw [Bool.and_eq_true, Bool.and_eq_true] at h1
        have c1 := hc 1 h1.1.2
        have c2 := hc 2 h1.2
        split
        all_goals
          intro hj
          have hj' : j = 0 ∨ j = 1 ∨ j = 2 := by simp at hj; omega
          rcases hj' with rfl | rfl | rfl
          · exact h0
          · exact c1
          · exact c2
      · split
        · rename_i h1
          rw [Bool.and_eq_true, Bool.and_eq_true, Bool.and_eq_true] at h1
          have c1 := hc 1 h1.1.1.2
          have c2 := hc 2 h1.1.2
          have c3 := hc 3 h1.2
          split
          all_goals
            intro hj
            have hj' : j = 0 ∨ j = 1 ∨ j = 2 ∨ j = 3 := by simp at hj; omega
            rcases hj' with rfl | rfl | rfl | rfl
            · exact h0
            · exact c1
            · exact c2
            · exact c3
        · intro hj; obtain rfl : j = 0 := by simpa using hj
          exact h0
end Go.Proofs.YtlhbijpmhokmnaaGreat
namespace Go.Proofs.YtlhbijpmhokmnaaGreat
open Go.RowKit
set_option linter.unusedSimpArgs false
set_option linter.unusedVariables false

theorem padded_split (l : List Nat) : padded l = l.take (64 * (l.length / 64)) ++ padTo (l.drop (64 * (l.length / 64))) l.length := by
  have h1 : (l.drop (64 * (l.length / 64))).length = l.length % 64 := by rw [List.length_drop]; omega
  have h2 : padZ (l.length % 64) = padZ l.length := by unfold padZ; rw [Nat.mod_mod]
  unfold padded padTo
  rw [h1, h2]
  simp only [← List.append_assoc]
  rw [List.take_append_drop]
theorem chain_all (l : List Nat) : chain (chain h0 l (l.length / 64)) (padTo (l.drop (64 * (l.length / 64))) l.length) ((padTo (l.drop (64 * (l.length / 64))) l.length).length / 64) = shaSt l := by
  have hq : (l.take (64 * (l.length / 64))).length = 64 * (l.length / 64) := by rw [List.length_take]; omega
  have e1 : chain h0 l (l.length / 64) = chain h0 (l.take (64 * (l.length / 64))) (l.length / 64) := by
    have := chain_add h0 (l.take (64 * (l.length / 64))) (l.drop (64 * (l.length / 64))) (l.length / 64) 0 hq
    rw [List.take_append_drop, Nat.add_zero] at this
    exact this
  have hpl : (padded l).length = 64 * (l.length / 64) + (padTo (l.drop (64 * (l.length / 64))) l.length).length := by rw [padded_split, List.length_append, hq]
  unfold shaSt
  rw [e1, ← chain_add h0 _ _ (l.length / 64) _ hq, ← padded_split, hpl]
  congr 1
  omega
theorem one_out (w : World) : Below w.heap.size w (w.alloc (.cells #[.int .u8 0, .int .u8 0, .int .u8 0, .int .u8 0, .int .u8 0, .int .u8 0, .int .u8 0, .int .u8 0, .int .u8 0, .int .u8 0, .int .u8 0, .int .u8 0, .int .u8 0, .int .u8 0, .int .u8 0, .int .u8 0, .int .u8 0, .int .u8 0, .int .u8 0, .int .u8 0, .int .u8 0, .int .u8 0, .int .u8 0, .int .u8 0, .int .u8 0, .int .u8 0, .int .u8 0, .int .u8 0, .int .u8 0, .int .u8 0, .int .u8 0, .int .u8 0] 103)) ∧ (w.alloc (.cells #[.int .u8 0, .int .u8 0, .int .u8 0, .int .u8 0, .int .u8 0, .int .u8 0, .int .u8 0, .int .u8 0, .int .u8 0, .int .u8 0, .int .u8 0, .int .u8 0, .int .u8 0, .int .u8 0, .int .u8 0, .int .u8 0, .int .u8 0, .int .u8 0, .int .u8 0, .int .u8 0, .int .u8 0, .int .u8 0, .int .u8 0, .int .u8 0, .int .u8 0, .int .u8 0, .int .u8 0, .int .u8 0, .int .u8 0, .int .u8 0, .int .u8 0, .int .u8 0] 103)).rowIs w.heap.size 103 32 (fun _ => .int .u8 0) := by
  have e : (#[.int .u8 0, .int .u8 0, .int .u8 0, .int .u8 0, .int .u8 0, .int .u8 0, .int .u8 0, .int .u8 0, .int .u8 0, .int .u8 0, .int .u8 0, .int .u8 0, .int .u8 0, .int .u8 0, .int .u8 0, .int .u8 0, .int .u8 0, .int .u8 0, .int .u8 0, .int .u8 0, .int .u8 0, .int .u8 0, .int .u8 0, .int .u8 0, .int .u8 0, .int .u8 0, .int .u8 0, .int .u8 0, .int .u8 0, .int .u8 0, .int .u8 0, .int .u8 0] : Array Value) = ((List.range 32).map fun _ => Value.int .u8 0).toArray := by kernel_rfl
  rw [e]
  exact ⟨(Below.refl _ _).alloc (Nat.le_refl _) _, rowNew rfl (by simp) fun i hi => by simp [hi]⟩
set_option maxRecDepth 100000 in
set_option maxHeartbeats 2000000 in
theorem of_any (A : Option Addr) (c : Nat) (m : List Nat) (w : World) (hm : m.length ≤ 35184372088832) (hr : Rd w A m) :
    Calls Tryz.prog 105 #[.slice A m.length c] w fun e w' => e = .returned (bytesV (sha m)) ∧ Below w.heap.size w w' := by
  have HR := Lib.hid hr
  clear hr
  go_enter Tryz.func105, Tryz.ntmps105
  go_wp2_with fail
  obtain ⟨hb0, hr0⟩ := one_out w
  generalize w.alloc (.cells #[.int .u8 0, .int .u8 0, .int .u8 0, .int .u8 0, .int .u8 0, .int .u8 0, .int .u8 0, .int .u8 0, .int .u8 0, .int .u8 0, .int .u8 0, .int .u8 0, .int .u8 0, .int .u8 0, .int .u8 0, .int .u8 0, .int .u8 0, .int .u8 0, .int .u8 0, .int .u8 0, .int .u8 0, .int .u8 0, .int .u8 0, .int .u8 0, .int .u8 0, .int .u8 0, .int .u8 0, .int .u8 0, .int .u8 0, .int .u8 0, .int .u8 0, .int .u8 0] 103) = W at *
  have HB0 := Lib.hid hb0
  have HR0 := Lib.hid hr0
  have HRW := Lib.hid (HR.out.below hb0)
  clear hb0 hr0 HR
  refine (dnew_any W).mono ?_
  rintro e w1 ⟨rfl, hrow, hb1⟩
  have HD1 := Lib.hid (dr_new hrow)
  have HB1 := Lib.hid hb1
  clear hrow hb1
  go_wp2_with fail
  refine (write_any HD1.out (Ow.nil w1 W.heap.size) HB1.out.size (by simp [Value.ownBlock]) (by omega) A c m (by omega) (by simp) (HRW.out.below HB1.out)).mono ?_
  rintro e w2 ⟨rfl, rv, hd2, ho2, hc2⟩
  rw [List.nil_append, Nat.zero_add] at hd2
  rw [List.nil_append] at ho2
  obtain ⟨rA, rc, rfl, -, -, hr2⟩ := ho2.form
  have hb2 : Below W.heap.size w1 w2 := hc2.below (fun k e => by
    rcases e with rfl | e
    · exact Nat.le_refl _
    · cases e) HB1.out.size
  have HD2 := Lib.hid hd2
  have HR2 := Lib.hid hr2
  have HB2 : Hid (Below W.heap.size W w2) := HB1.out.trans hb2
  clear hd2 ho2 hc2 hr2 hb2
  go_wp2_with fail
  refine (sum_any HD2.out HR2.out (by rw [List.length_drop]; omega) (by omega)).mono ?_
  rintro e w3 ⟨he, hb3⟩
  have HB3 : Hid (Below W.heap.size W w3) := HB2.out.trans (hb3.mono HB2.out.size)
  clear hb3
  rw [chain_all] at he
  obtain ⟨cs, hcs⟩ : ∃ cs : Array Value, cs = ((sumOf (shaSt m)).map fun x => Value.int .u8 (x : Nat)).toArray := ⟨_, rfl⟩
  have he2 : e = .returned (.agg cs) := by rw [he, hcs]; rfl
  have hcn : cs.size = 32 := by rw [hcs]; simp [sumOf]
  have hci : ∀ i, i < 32 → cs[i]? = some (.int .u8 (outB (shaSt m) i : Nat)) := by
    intro i hi
    rw [hcs]
    simp [sumOf, hi]
  have hag : Value.agg cs = bytesV (sha m) := by rw [hcs]; rfl
  obtain ⟨ds, hds, hdn, -⟩ := HR0.out.of_block (HB3.out.block w.heap.size HR0.out.lt)
  have HCN := Lib.hid hcn
  have HCI := Lib.hid hci
  have HAG := Lib.hid hag
  have DS := Lib.hid hds
  have DN := Lib.hid hdn
  clear he hcs hcn hci hag hds hdn
  subst he2
  go_wp2_with (refine wpList_store_row rfl 103 (.tmp 2) (.tmp 9) rfl w.heap.size cs rfl rfl 103 ds DS.out (by rw [HCN.out]; exact size32) (by rw [HCN.out, DN.out]) (u8_oneCell HCN.out HCI.out) ?_)
  (try simp only [Exit.inBlock, Exit.then])
  refine bodyPost_ret (results_cell_row rfl _ _ w.heap.size 103 cs (0, 0) _ rfl (setRow_heap _ _ _ _ _ _ DS.out) Tryz.underlying103 rfl (by rw [HCN.out]; exact size32)) rfl ?_
  exact ⟨by rw [HAG.out], below_setRow (HB0.out.trans (HB3.out.mono HB0.out.size)) (Nat.le_refl _) _⟩
/-- A hash as a text. -/
def hx (n : Nat) : Nat := nth [48, 49, 50, 51, 52, 53, 54, 55, 56, 57, 97, 98, 99, 100, 101, 102] n
def hexL (l : List Nat) : List Nat := l.flatMap fun b => [hx (b / 16), hx (b % 16)]
theorem mkS_append (l m : List Nat) : mkS l ++ mkS m = mkS (l ++ m) := by
  unfold mkS
  rw [ByteArray.mk_append_mk, List.map_append]
theorem mkS_size' (l : List Nat) : (mkS l).size = l.length := by simp [mkS, ByteArray.size]
theorem hexL_length (l : List Nat) : (hexL l).length = 2 * l.length := by
  induction l with
  | nil => rfl
  | cons a l ih =>
    show ([hx (a / 16), hx (a % 16)] ++ hexL l).length = _
    rw [List.length_append, ih, List.length_cons]
    simp
    omega
theorem drewN_plus (w : World) (a b : Nat) : (w.drewN a).drewN b = w.drewN (a + b) := by
  unfold World.drewN
  simp only [Nat.add_assoc]
theorem digit_run (x : Nat) (hx16 : x < 16) (w : World) : (Instr.slice 9 (.string ⟨#[48, 49, 50, 51, 52, 53, 54, 55, 56, 57, 97, 98, 99, 100, 101, 102]⟩) (some (.int .u8 (x : Int))) (some (.int .u8 ((x : Int) + 1))) none).run Tryz.prog w = .ok (.string (mkS [hx x])) w := by
  rw [run_slice_string_if w 9 _ .u8 .u8 x (x + 1) Tryz.underlying9, if_pos ⟨by omega, by show (x : Int) + 1 ≤ 16; omega⟩, if_pos ⟨by omega, by omega⟩]
  have e1 : ((x : Int)).toNat = x := by omega
  have e2 : ((x : Int) + 1).toNat = x + 1 := by omega
  rw [e1, e2]
  have : ∀ x, x < 16 → (⟨#[48, 49, 50, 51, 52, 53, 54, 55, 56, 57, 97, 98, 99, 100, 101, 102]⟩ : ByteArray).extract x (x + 1) = mkS [hx x] := by decide +kernel
  rw [this x hx16]
end Go.Proofs.YtlhbijpmhokmnaaGreat
namespace Go.Proofs.YtlhbijpmhokmnaaGreat
open Go.RowKit
set_option linter.unusedSimpArgs false
set_option linter.unusedVariables false

def nextV (p w : List Nat) (t : Nat) : Nat := if t < 16 then be4 p (4 * t) else rr (nth w (t - 3) ^^^ nth w (t - 8) ^^^ nth w (t - 14) ^^^ nth w (t - 16)) 31
def sched1 (p : List Nat) : Nat → List Nat
  | 0 => []
  | t + 1 => sched1 p t ++ [nextV p (sched1 p t) t]
structure S5 where
  a : Nat
  b : Nat
  c : Nat
  d : Nat
  e : Nat
structure S5.Wf (s : S5) : Prop where
  a : s.a < 4294967296
  b : s.b < 4294967296
  c : s.c < 4294967296
  d : s.d < 4294967296
  e : s.e < 4294967296
def fR (t b c d : Nat) : Nat :=
  if t < 20 then (b &&& c) ||| ((4294967295 - b) &&& d) else if t < 40 then b ^^^ c ^^^ d else if t < 60 then (b &&& c) ||| (b &&& d) ||| (c &&& d) else b ^^^ c ^^^ d
def kR (t : Nat) : Nat := if t < 20 then 1518500249 else if t < 40 then 1859775393 else if t < 60 then 2400959708 else 3395469782
def rnd5 (t w : Nat) (s : S5) : S5 := ⟨(rr s.a 27 + fR t s.b s.c s.d + s.e + kR t + w) % 4294967296, s.a, rr s.b 2, s.c, s.d⟩
def g0 : S5 := ⟨1732584193, 4023233417, 2562383102, 271733878, 3285377520⟩
def rounds5 (w : List Nat) (s : S5) : Nat → S5
  | 0 => s
  | t + 1 => rnd5 t (nth w t) (rounds5 w s t)
def S5.add (s t : S5) : S5 := ⟨(s.a + t.a) % 4294967296, (s.b + t.b) % 4294967296, (s.c + t.c) % 4294967296, (s.d + t.d) % 4294967296, (s.e + t.e) % 4294967296⟩
def blk5 (s : S5) (p : List Nat) : S5 := s.add (rounds5 (sched1 p 80) s 80)
def chain5 (s : S5) (p : List Nat) : Nat → S5
  | 0 => s
  | n + 1 => blk5 (chain5 s p n) ((p.drop (64 * n)).take 64)
def S5.word (s : S5) : Nat → Nat
  | 0 => s.a
  | 1 => s.b
  | 2 => s.c
  | 3 => s.d
  | _ => s.e
def outB5 (s : S5) (i : Nat) : Nat := s.word (i / 4) / 256 ^ (3 - i % 4) % 256
def sumOf5 (s : S5) : List Nat := (List.range 20).map (outB5 s)
def shaSt5 (l : List Nat) : S5 := chain5 g0 (padded l) ((padded l).length / 64)
def sha1 (l : List Nat) : List Nat := sumOf5 (shaSt5 l)

theorem or_lt32 {a b : Nat} (ha : a < 4294967296) (hb : b < 4294967296) : a ||| b < 4294967296 := Nat.or_lt_two_pow (n := 32) ha hb
theorem fR_lt (t : Nat) {b c d : Nat} (hb : b < 4294967296) (hc : c < 4294967296) (hd : d < 4294967296) : fR t b c d < 4294967296 := by
  unfold fR
  split
  · exact or_lt32 (and_lt32 hb) (Nat.lt_of_le_of_lt Nat.and_le_right hd)
  · split
    · exact xor_lt32 (xor_lt32 hb hc) hd
    · split
      · exact or_lt32 (or_lt32 (and_lt32 hb) (and_lt32 hb)) (and_lt32 hc)
      · exact xor_lt32 (xor_lt32 hb hc) hd
theorem kR_lt (t : Nat) : kR t < 4294967296 := by unfold kR; repeat' split
                                                  all_goals omega
theorem sched1_length (p : List Nat) (t : Nat) : (sched1 p t).length = t := by
  induction t with
  | zero => rfl
  | succ t ih => simp [sched1, ih]
theorem sched1_take (p : List Nat) : ∀ t s, s ≤ t → (sched1 p t).take s = sched1 p s := by
  intro t
  induction t with
  | zero =>
    intro s hs
    have : s = 0 := by omega
    subst this
    rfl
  | succ t ih =>
    intro s hs
    by_cases h : s = t + 1
    · subst h; rw [List.take_of_length_le (by rw [sched1_length]; omega)]
    · rw [sched1, List.take_append_of_le_length (by rw [sched1_length]; omega)]
      exact ih s (by omega)
theorem sched1_nth (p : List Nat) {s t : Nat} (h : s < t) : nth (sched1 p t) s = nextV p (sched1 p s) s := by
  have h1 : nth (sched1 p t) s = nth ((sched1 p t).take (s + 1)) s := by simp [nth, List.getElem?_take]
  rw [h1, sched1_take p t (s + 1) (by omega), sched1]
  simp [nth, List.getElem?_append_right, sched1_length]
theorem sched1_lt {p : List Nat} (hp : ∀ x ∈ p, x < 256) : ∀ {s t : Nat}, s < t → nth (sched1 p t) s < 4294967296 := by
  intro s
  induction s using Nat.strongRecOn with
  | _ s ih =>
    intro t h
    rw [sched1_nth p h]
    unfold nextV
    split
    · exact be4_lt hp _
    · rename_i h16
      exact rr_lt (xor_lt32 (xor_lt32 (xor_lt32 (ih _ (by omega) (by omega)) (ih _ (by omega) (by omega))) (ih _ (by omega) (by omega))) (ih _ (by omega) (by omega))) (by omega)
theorem rnd5_wf (t w : Nat) {s : S5} (h : s.Wf) : (rnd5 t w s).Wf := ⟨by show _ % _ < _; omega, h.a, rr_lt h.b (by omega), h.c, h.d⟩
theorem rounds5_wf (w : List Nat) {s : S5} (h : s.Wf) (t : Nat) : (rounds5 w s t).Wf := by
  induction t with
  | zero => exact h
  | succ t ih => exact rnd5_wf _ _ ih
theorem add5_wf (s t : S5) : (s.add t).Wf := by constructor <;> (show _ % _ < _; omega)
theorem blk5_wf (s : S5) (p : List Nat) : (blk5 s p).Wf := add5_wf _ _
theorem g0_wf : g0.Wf := by constructor <;> decide
theorem chain5_wf {s : S5} (h : s.Wf) (p : List Nat) (n : Nat) : (chain5 s p n).Wf := by
  cases n with
  | zero => exact h
  | succ n => exact blk5_wf _ _
/-- The chain goes on. -/
theorem chain5_add (s : S5) (p q : List Nat) (n m : Nat) (h : p.length = 64 * n) : chain5 s (p ++ q) (n + m) = chain5 (chain5 s p n) q m := by
  induction m with
  | zero =>
    have : ∀ k, k ≤ n → chain5 s (p ++ q) k = chain5 s p k := by
      intro k
      induction k with
      | zero => intro _; rfl
      | succ k ih =>
        intro hk
        rw [chain5, chain5, ih (by omega)]
        congr 1
        rw [List.drop_append_of_le_length (by omega), List.take_append_of_le_length (by rw [List.length_drop]; omega)]
    exact this n (Nat.le_refl _)
  | succ m ih =>
    rw [show n + (m + 1) = (n + m) + 1 by omega, chain5, chain5, ih]
    congr 2
    rw [List.drop_append, List.drop_eq_nil_of_le (by omega), List.nil_append]
    congr 1
    omega
theorem sha1_length (l : List Nat) : (sha1 l).length = 20 := by simp [sha1, sumOf5]
theorem sha1_lt (l : List Nat) : ∀ x ∈ sha1 l, x < 256 := by
  intro x hx
  unfold sha1 sumOf5 outB5 at hx
  obtain ⟨i, _, rfl⟩ := List.mem_map.1 hx
  exact Nat.mod_lt _ (by omega)
end Go.Proofs.YtlhbijpmhokmnaaGreat
