/-
  THE WALKS OF ctr.Stream WHERE IT SAYS NO, AND OF ctr.Turn. Conditions: the slices read as lists.
  CHAPTER 06: WHAT THE CALLS ANSWER, IN ONE FORM FOR ALL ARGUMENTS. Conditions: the cipher is made, the slices read as lists.
  '==' BETWEEN TWO ARRAYS OF BYTES. Conditions: the arrays have as many cells as their type says, each a byte.
  ARGUMENTS OF A ROW, OPENED: a slice of bytes, nil or not. Conditions: none.
-/
import Derived.Test.YtlhbijpmhokmnaaGreatQ24
import Derived.Test.YtlhbijpmhokmnaaGreatQ15
import Derived.Test.YtlhbijpmhokmnaaGreatProg
import Derived.WalkKit
import Derived.Laws.StructEq
import Derived.Test.YtlhbijpmhokmnaaGreatQ01
import Derived.ProofKit
import Derived.OpenShut
namespace Go.Proofs.YtlhbijpmhokmnaaGreat
open Go.RowKit
set_option linter.unusedSimpArgs false
set_option linter.unusedVariables false

theorem two_boxes (w : World) (v1 v2 : Value) (t1 t2 : TypeId) : Below w.heap.size w ((w.alloc (.cells #[v1] t1)).alloc (.cells #[v2] t2)) ∧ ((w.alloc (.cells #[v1] t1)).alloc (.cells #[v2] t2)).cell? ⟨w.heap.size, 0, none⟩ = some v1 ∧
    ((w.alloc (.cells #[v1] t1)).alloc (.cells #[v2] t2)).cell? ⟨w.heap.size + 1, 0, none⟩ = some v2 ∧ ((w.alloc (.cells #[v1] t1)).alloc (.cells #[v2] t2)).heap.size = w.heap.size + 2 := by
  refine ⟨((Below.refl _ _).alloc (Nat.le_refl _) _).alloc (by rw [World.size_alloc]; omega) _, ?_, ?_, by rw [World.size_alloc, World.size_alloc]⟩
  · rw [World.cell?_alloc_past _ _ _ (by rw [World.size_alloc]; exact Nat.lt_succ_self _)]
    exact new_cell _ _ _
  · have h := new_cell (w.alloc (.cells #[v1] t1)) v2 t2
    rwa [World.size_alloc] at h

/-- What Stream takes. -/
def CtrOk (nl : Nat) (a n : Int) : Prop := nl = 8 ∧ 0 ≤ a ∧ a ≤ 1099511627776 ∧ 0 ≤ n ∧ n ≤ 4194304
set_option maxRecDepth 100000 in
set_option maxHeartbeats 4000000 in
theorem stream_no (g : Nat) (A : Option Addr) (nl c : Nat) (a n : Int) (w : World) (hm : w.cell? ⟨g, 0, none⟩ = some (.bool true)) (hno : ¬ CtrOk nl a n) :
    Calls Tryz.prog 86 #[.pointer (some ⟨g, 0, none⟩), .slice A nl c, .int .i64 a, .int .i64 n] w fun e w' => e = .returned (.tuple #[.slice none 0 0, .int .i64 2]) ∧ Below w.heap.size w w' := by
  have HM := Lib.hid hm
  have hgl := block_lt_of_cell hm
  clear hm
  go_enter Tryz.func86, Tryz.ntmps86
  go_wp2_with fail
  obtain ⟨hb0, hp1, hp2, hsz⟩ := two_boxes w (.pointer (some ⟨g, 0, none⟩)) (.slice A nl c) 88 22
  generalize (w.alloc (.cells #[.pointer (some ⟨g, 0, none⟩)] 88)).alloc (.cells #[.slice A nl c] 22) = W at *
  have HB0 := Lib.hid hb0
  have hmW := (HB0.out.cell (p := ⟨g, 0, none⟩) hgl).trans HM.out
  clear HM hb0
  refine (made_any g W true hmW).mono ?_
  rintro e w' ⟨rfl, rfl⟩
  by_cases h1 : nl = 8
  · have q1 : ((nl : Int) != 8) = false := by rw [h1]; rfl
    by_cases h2 : a < 0
    · clear hno
      go_wp2_with fail
      go_ret2
      exact ⟨rfl, HB0.out⟩
    · by_cases h3 : 1099511627776 < a
      · clear hno
        go_wp2_with fail
        go_ret2
        exact ⟨rfl, HB0.out⟩
      · by_cases h4 : n < 0
        · clear hno
          go_wp2_with fail
          go_ret2
          exact ⟨rfl, HB0.out⟩
        · have h5 : 4194304 < n := by
            apply Classical.byContradiction
            intro h5
            exact hno ⟨h1, by omega, by omega, by omega, by omega⟩
          clear hno
          go_wp2_with fail
          go_ret2
          exact ⟨rfl, HB0.out⟩
  · have q1 : ((nl : Int) != 8) = true := by rw [bne_iff_ne]; omega
    clear hno
    go_wp2_with fail
    go_ret2
    exact ⟨rfl, HB0.out⟩
theorem stream_nil (A : Option Addr) (nl c : Nat) (a n : Int) (w : World) :
    Calls Tryz.prog 86 #[.pointer none, .slice A nl c, .int .i64 a, .int .i64 n] w fun e w' => e = .returned (.tuple #[.slice none 0 0, .int .i64 1]) ∧ Below w.heap.size w w' := by
  go_enter Tryz.func86, Tryz.ntmps86
  go_wp2_with fail
  obtain ⟨hb0, hp1, hp2, hsz⟩ := two_boxes w (.pointer none) (.slice A nl c) 88 22
  generalize (w.alloc (.cells #[.pointer none] 88)).alloc (.cells #[.slice A nl c] 22) = W at *
  have HB0 := Lib.hid hb0
  clear hb0
  refine (made_nil W).mono ?_
  rintro e w' ⟨rfl, rfl⟩
  go_wp2_with fail
  go_ret2
  exact ⟨rfl, HB0.out⟩
theorem stream_zero (g : Nat) (A : Option Addr) (nl c : Nat) (a n : Int) (w : World) (hm : w.cell? ⟨g, 0, none⟩ = some (.bool false)) :
    Calls Tryz.prog 86 #[.pointer (some ⟨g, 0, none⟩), .slice A nl c, .int .i64 a, .int .i64 n] w fun e w' => e = .returned (.tuple #[.slice none 0 0, .int .i64 1]) ∧ Below w.heap.size w w' := by
  have hgl := block_lt_of_cell hm
  have HM := Lib.hid hm
  clear hm
  go_enter Tryz.func86, Tryz.ntmps86
  go_wp2_with fail
  obtain ⟨hb0, hp1, hp2, hsz⟩ := two_boxes w (.pointer (some ⟨g, 0, none⟩)) (.slice A nl c) 88 22
  generalize (w.alloc (.cells #[.pointer (some ⟨g, 0, none⟩)] 88)).alloc (.cells #[.slice A nl c] 22) = W at *
  have HB0 := Lib.hid hb0
  have hmW := (HB0.out.cell (p := ⟨g, 0, none⟩) hgl).trans HM.out
  clear hb0 HM
  refine (made_any g W false hmW).mono ?_
  rintro e w' ⟨rfl, rfl⟩
  go_wp2_with fail
  go_ret2
  exact ⟨rfl, HB0.out⟩

/-! ### Turn -/
def turnL (s b : List Nat) (k : Nat) : List Nat := (List.range s.length).map fun i => if i < k then nth s i ^^^ nth b i else nth s i
theorem turnL_length (s b : List Nat) (k : Nat) : (turnL s b k).length = s.length := by simp [turnL]
theorem nth_turnL {s b : List Nat} {k i : Nat} (hi : i < s.length) : nth (turnL s b k) i = if i < k then nth s i ^^^ nth b i else nth s i := by simp [nth, turnL, hi]
theorem turnL_zero (s b : List Nat) : turnL s b 0 = s := eq_of_nth (turnL_length _ _ _) fun i hi => by rw [turnL_length] at hi; rw [nth_turnL hi, if_neg (by omega)]
theorem nth_set {l : List Nat} {k x i : Nat} (hi : i < l.length) : nth (l.set k x) i = if i = k then x else nth l i := by
  simp only [nth, List.getD_eq_getElem?_getD, List.getElem?_set]
  by_cases h : k = i
  · simp [h, hi]
  · simp [h, Ne.symm h]
theorem turnL_step (s b : List Nat) (k : Nat) (hk : k < s.length) : (turnL s b k).set k (nth s k ^^^ nth b k) = turnL s b (k + 1) := by
  refine eq_of_nth (by simp [turnL]) fun i hi => ?_
  rw [List.length_set, turnL_length] at hi
  rw [nth_set (by rw [turnL_length]; exact hi), nth_turnL hi, nth_turnL hi]
  by_cases h : i = k
  · subst h; rw [if_pos rfl, if_pos (by omega)]
  · rw [if_neg h]
    by_cases h2 : i < k
    · rw [if_pos h2, if_pos (by omega)]
    · rw [if_neg h2, if_neg (by omega)]
/-- Bytes xor the stream. -/
def turned (kb : Nat → Nat) (nonce : List Nat) (a : Nat) (b : List Nat) : List Nat := turnL (strm kb nonce a b.length) b b.length
theorem turned_length (kb : Nat → Nat) (nonce : List Nat) (a : Nat) (b : List Nat) : (turned kb nonce a b).length = b.length := by rw [turned, turnL_length, strm_length]
theorem nth_turned {kb : Nat → Nat} {nonce : List Nat} {a : Nat} {b : List Nat} {i : Nat} (hi : i < b.length) : nth (turned kb nonce a b) i = nth (strm kb nonce a b.length) i ^^^ nth b i := by
  rw [turned, nth_turnL (by rw [strm_length]; exact hi), if_pos hi]

set_option maxRecDepth 100000 in
set_option maxHeartbeats 4000000 in
theorem turn_any (g : Nat) (A : Option Addr) (c : Nat) (kb : Nat → Nat) (nonce : List Nat) (a : Nat) (B : Option Addr) (m d : Nat) (b : List Nat) (w : World) (ha : a ≤ 1099511627776) (hn : b.length ≤ 4194304) (hc : Cph w g kb) (hkb : ∀ i, i < 240 → kb i < 256)
    (hl : nonce.length = 8) (hr : Rd w A nonce) (hm : m = b.length) (hb : Rd w B b) :
    Calls Tryz.prog 67 #[.pointer (some ⟨g, 0, none⟩), .slice A 8 c, .int .i64 a, .slice B m d] w fun e w' => ∃ v, e = .returned (.tuple #[v, .int .i64 0]) ∧ Ow w' w.heap.size v (turned kb nonce a b) ∧ Below w.heap.size w w' := by
  subst hm
  have HC := Lib.hid hc
  have HR := Lib.hid hr
  have HB := Lib.hid hb
  obtain ⟨s, hs⟩ : ∃ s, strm kb nonce a b.length = s := ⟨_, rfl⟩
  unfold turned
  rw [hs]
  have HEQ := Lib.hid hs
  clear hc hr hb hs
  go_enter Tryz.func67, Tryz.ntmps67
  go_wp2_with fail
  refine (stream_any g A c kb nonce a b.length w ha hn HC.out hkb hl HR.out).mono ?_
  rintro e w1 ⟨v1, rfl, ho1, hb1⟩
  have hs8 := strm_lt hkb HR.out.1 a b.length
  have hsl := strm_length kb nonce a b.length
  obtain ⟨A1, c1, rfl, hc1, -, -⟩ := ho1.form
  rw [strm_length] at hc1 ⊢
  have HEQ' := HEQ.out
  rw [HEQ'] at ho1 hs8 hsl
  rw [hsl] at ho1
  clear HEQ'
  have HO1 := Lib.hid ho1
  have HB1 := Lib.hid hb1
  have HS := Lib.hid hs8
  have HSL := Lib.hid hsl
  have HLT := Lib.hid HB.out.1
  clear ho1 hb1 hs8 hsl HC HR
  go_wp2_with fail
  go_loopw [28] (fun i wr => ∃ k : Nat, k ≤ b.length ∧ i = .int .i64 k ∧ Ow wr w.heap.size (.slice A1 b.length c1) (turnL s b k) ∧ Below w.heap.size w wr) (fun i _ => b.length - (intOf i).toNat)
  case atStart => exact ⟨0, by omega, rfl, by rw [turnL_zero]; exact HO1.out, HB1.out⟩
  case round =>
    clear HO1 HB1
    obtain ⟨k, hk, rfl, ho, hbw⟩ := hrel
    have hrd := HB.out.below hbw
    by_cases e0 : k < b.length
    · have hln := turnL_length s b k
      rw [HSL.out] at hln
      obtain ⟨g1, c1', e1, -, hg1, hg1l, hcell, hfr⟩ := ho.form0 (by intro e; rw [e] at hln; simp at hln; omega)
      rw [hln] at e1 hcell
      injection e1 with e1 _ _
      subst e1
      obtain ⟨g2, o2, rfl, hg2, hcell2⟩ := hrd.2 (by intro e; rw [e] at e0; simp at e0)
      have hsk : nth (turnL s b k) k = nth s k := by rw [nth_turnL (by rw [HSL.out]; exact e0), if_neg (Nat.lt_irrefl _)]
      have x1 : wr.cell? ⟨g1, k, none⟩ = some (.int .u8 (nth s k : Nat)) := by rw [hcell k e0, hsk]
      have x2 := hfr k
      have x3 : wr.cell? ⟨g2, o2 + k, none⟩ = some (.int .u8 (nth b k : Nat)) := hcell2 k e0
      have x4 : bits BinOp.xor IntKind.u8 (nth s k : Int) (nth b k : Int) = ((nth s k ^^^ nth b k : Nat) : Int) := u8_xor_nat _ _ (nth_lt HS.out k) (nth_lt HLT.out k)
      have x5 : (k : Int) < b.length := by omega
      have HO := Lib.hid ho
      have HBW := Lib.hid hbw
      have HLN := Lib.hid hln
      clear ho hbw hrd hcell hcell2 hfr hln hsk
      go_wp2_with fail
      have hset := HO.out.set (i := k) (x := nth s k ^^^ nth b k) (by rw [HLN.out]; exact e0) (Nat.xor_lt_two_pow (n := 8) (nth_lt HS.out k) (nth_lt HLT.out k))
      rw [turnL_step s b k (by rw [HSL.out]; exact e0)] at hset
      refine ⟨⟨k + 1, by omega, by go_num, hset, HBW.out.setCell hg1 _⟩, ?_⟩
      simp [intOf]
      omega
    · obtain rfl : k = b.length := by omega
      go_wp2_with fail
      go_ret2
      exact ⟨_, rfl, ho, hbw⟩
theorem turn_no (g : Nat) (A : Option Addr) (nl c : Nat) (a : Int) (B : Option Addr) (m d : Nat) (w : World) (hm : w.cell? ⟨g, 0, none⟩ = some (.bool true)) (hno : ¬ CtrOk nl a m) :
    Calls Tryz.prog 67 #[.pointer (some ⟨g, 0, none⟩), .slice A nl c, .int .i64 a, .slice B m d] w fun e w' => e = .returned (.tuple #[.slice none 0 0, .int .i64 2]) ∧ Below w.heap.size w w' := by
  have HM := Lib.hid hm
  have HN := Lib.hid hno
  clear hm hno
  go_enter Tryz.func67, Tryz.ntmps67
  go_wp2_with fail
  refine (stream_no g A nl c a m w HM.out HN.out).mono ?_
  rintro e w1 ⟨rfl, hb1⟩
  have HB1 := Lib.hid hb1
  clear hb1
  go_wp2_with fail
  go_ret2
  exact ⟨rfl, HB1.out⟩
theorem turn_zero (g : Nat) (A : Option Addr) (nl c : Nat) (a : Int) (B : Option Addr) (m d : Nat) (w : World) (hm : w.cell? ⟨g, 0, none⟩ = some (.bool false)) :
    Calls Tryz.prog 67 #[.pointer (some ⟨g, 0, none⟩), .slice A nl c, .int .i64 a, .slice B m d] w fun e w' => e = .returned (.tuple #[.slice none 0 0, .int .i64 1]) ∧ Below w.heap.size w w' := by
  have HM := Lib.hid hm
  clear hm
  go_enter Tryz.func67, Tryz.ntmps67
  go_wp2_with fail
  refine (stream_zero g A nl c a m w HM.out).mono ?_
  rintro e w1 ⟨rfl, hb1⟩
  have HB1 := Lib.hid hb1
  clear hb1
  go_wp2_with fail
  go_ret2
  exact ⟨rfl, HB1.out⟩
end Go.Proofs.YtlhbijpmhokmnaaGreat
namespace Go.Proofs.YtlhbijpmhokmnaaGreat
open Go.RowKit
set_option linter.unusedSimpArgs false
set_option linter.unusedVariables false

instance (nl : Nat) (a n : Int) : Decidable (CtrOk nl a n) := by unfold CtrOk; infer_instance
def ctrE (nl : Nat) (a n : Int) : Nat := if CtrOk nl a n then 0 else 2
def ctrL (kb : Nat → Nat) (nonce : List Nat) (a n : Int) : List Nat := if CtrOk nonce.length a n then strm kb nonce a.toNat n.toNat else []
def ctrT (kb : Nat → Nat) (nonce : List Nat) (a : Int) (b : List Nat) : List Nat := if CtrOk nonce.length a b.length then turned kb nonce a.toNat b else []
theorem ctrL_le {kb : Nat → Nat} {nonce : List Nat} {a n : Int} : (ctrL kb nonce a n).length ≤ 4194304 := by
  unfold ctrL
  split
  · rename_i h; rw [strm_length]; obtain ⟨_, _, _, _, h5⟩ := h; omega
  · simp
theorem ctrT_length (kb : Nat → Nat) (nonce : List Nat) (a : Int) (b : List Nat) : (ctrT kb nonce a b).length = (ctrL kb nonce a b.length).length := by
  unfold ctrT ctrL
  split
  · rw [turned_length, strm_length]; omega
  · rfl
theorem ctrT_nth {kb : Nat → Nat} {nonce : List Nat} {a : Int} {b : List Nat} {j : Nat} (hj : j < (ctrT kb nonce a b).length) : nth (ctrT kb nonce a b) j = nth (ctrL kb nonce a b.length) j ^^^ nth b j ∧ j < b.length := by
  unfold ctrT ctrL at *
  split at hj
  · rename_i h
    rw [turned_length] at hj
    rw [if_pos h, if_pos h, nth_turned hj, show ((b.length : Int)).toNat = b.length by omega]
    exact ⟨rfl, hj⟩
  · simp at hj

theorem stream_all (g : Nat) (A : Option Addr) (nl c : Nat) (kb : Nat → Nat) (nonce : List Nat) (a n : Int) (w : World) (hnl : nl = nonce.length) (hc : Cph w g kb) (hkb : ∀ i, i < 240 → kb i < 256) (hr : Rd w A nonce) :
    Calls Tryz.prog 86 #[.pointer (some ⟨g, 0, none⟩), .slice A nl c, .int .i64 a, .int .i64 n] w fun e w' => ∃ A' c', e = .returned (.tuple #[.slice A' (ctrL kb nonce a n).length c', .int .i64 (ctrE nonce.length a n : Nat)]) ∧
      Ow w' w.heap.size (.slice A' (ctrL kb nonce a n).length c') (ctrL kb nonce a n) ∧ Below w.heap.size w w' := by
  subst hnl
  by_cases h : CtrOk nonce.length a n
  · have e1 : ctrL kb nonce a n = strm kb nonce a.toNat n.toNat := if_pos h
    have e2 : ctrE nonce.length a n = 0 := if_pos h
    obtain ⟨h1, h2, h3, h4, h5⟩ := h
    obtain ⟨a', rfl⟩ : ∃ k : Nat, a = k := ⟨a.toNat, by omega⟩
    obtain ⟨n', rfl⟩ : ∃ k : Nat, n = k := ⟨n.toNat, by omega⟩
    rw [e1, e2, h1]
    simp only [Int.toNat_natCast]
    refine (stream_any g A c kb nonce a' n' w (by omega) (by omega) hc hkb h1 hr).mono ?_
    rintro e w' ⟨v, rfl, ho, hb⟩
    obtain ⟨A', c', rfl, -, -, -⟩ := ho.form
    exact ⟨A', c', rfl, ho, hb⟩
  · have e1 : ctrL kb nonce a n = [] := if_neg h
    have e2 : ctrE nonce.length a n = 2 := if_neg h
    rw [e1, e2]
    refine (stream_no g A nonce.length c a n w hc.mark h).mono ?_
    rintro e w' ⟨rfl, hb⟩
    exact ⟨none, 0, rfl, Ow.nil _ _, hb⟩
theorem turn_all (g : Nat) (A : Option Addr) (nl c : Nat) (kb : Nat → Nat) (nonce : List Nat) (a : Int) (B : Option Addr) (m d : Nat) (b : List Nat) (w : World) (hnl : nl = nonce.length) (hm : m = b.length) (hc : Cph w g kb) (hkb : ∀ i, i < 240 → kb i < 256) (hr : Rd w A nonce) (hb : Rd w B b) :
    Calls Tryz.prog 67 #[.pointer (some ⟨g, 0, none⟩), .slice A nl c, .int .i64 a, .slice B m d] w fun e w' => ∃ A' c', e = .returned (.tuple #[.slice A' (ctrT kb nonce a b).length c', .int .i64 (ctrE nonce.length a b.length : Nat)]) ∧
      Ow w' w.heap.size (.slice A' (ctrT kb nonce a b).length c') (ctrT kb nonce a b) ∧ Below w.heap.size w w' := by
  subst hnl; subst hm
  by_cases h : CtrOk nonce.length a b.length
  · have e1 : ctrT kb nonce a b = turned kb nonce a.toNat b := if_pos h
    have e2 : ctrE nonce.length a b.length = 0 := if_pos h
    obtain ⟨h1, h2, h3, h4, h5⟩ := h
    obtain ⟨a', rfl⟩ : ∃ k : Nat, a = k := ⟨a.toNat, by omega⟩
    rw [e1, e2, h1]
    simp only [Int.toNat_natCast]
    refine (turn_any g A c kb nonce a' B b.length d b w (by omega) (by omega) hc hkb h1 hr rfl hb).mono ?_
    rintro e w' ⟨v, rfl, ho, hb⟩
    obtain ⟨A', c', rfl, -, -, -⟩ := ho.form
    exact ⟨A', c', rfl, ho, hb⟩
  · have e1 : ctrT kb nonce a b = [] := if_neg h
    have e2 : ctrE nonce.length a b.length = 2 := if_neg h
    rw [e1, e2]
    refine (turn_no g A nonce.length c a B b.length d w hc.mark h).mono ?_
    rintro e w' ⟨rfl, hb⟩
    exact ⟨none, 0, rfl, Ow.nil _ _, hb⟩
end Go.Proofs.YtlhbijpmhokmnaaGreat
namespace Go.Proofs.YtlhbijpmhokmnaaGreat
open Go.RowKit
set_option linter.unusedSimpArgs false
set_option linter.unusedVariables false

/-- Are the first n places the same? -/
def sameN (f g : Nat → Nat) (n : Nat) : Bool := (List.range n).all fun i => f i == g i
theorem sameN_iff (f g : Nat → Nat) (n : Nat) : sameN f g n = true ↔ ∀ i, i < n → f i = g i := by simp [sameN]
def eqFrom (f g : Nat → Nat) : Nat → Nat → Bool
  | _, 0 => true
  | k, m + 1 => if f k = g k then eqFrom f g (k + 1) m else false
theorem eqFrom_iff (f g : Nat → Nat) (m : Nat) : ∀ k, eqFrom f g k m = true ↔ ∀ i, i < m → f (k + i) = g (k + i) := by
  induction m with
  | zero => intro k; simp [eqFrom]
  | succ m ih =>
    intro k
    unfold eqFrom
    constructor
    · intro h i hi
      split at h
      · rename_i e
        rcases Nat.eq_zero_or_pos i with h0 | h0
        · subst h0; exact e
        · have := (ih (k + 1)).1 h (i - 1) (by omega)
          rwa [show k + 1 + (i - 1) = k + i by omega] at this
      · cases h
    · intro h
      rw [if_pos (by simpa using h 0 (by omega)), ih]
      intro i hi
      have := h (i + 1) (by omega)
      rwa [show k + (i + 1) = k + 1 + i by omega] at this
theorem eqFrom_same (f g : Nat → Nat) (n : Nat) : eqFrom f g 0 n = sameN f g n := by
  rw [Bool.eq_iff_iff, eqFrom_iff, sameN_iff]
  simp
theorem run_equalIn_bytes (w : World) (d t n : Nat) (xs ys : Array Value) (f g : Nat → Nat) (ht : Tryz.prog.underlying t = some (.array n 5))
    (hx : ∀ i, i < n → xs[i]? = some (.int .u8 (f i : Nat))) (hy : ∀ i, i < n → ys[i]? = some (.int .u8 (g i : Nat))) :
    (Op.equalIn (d + 2) t (.agg xs) (.agg ys)).run Tryz.prog w = .ok (sameN f g n) w := by
  have hs : ∀ W, (sizeOf 5).run Tryz.prog W = .ok 1 W := fun W => by kernel_rfl
  have ha : ∀ W, (isAgg 5).run Tryz.prog W = .ok false W := fun W => by kernel_rfl
  have he : ∀ (W : World) (a b : Nat), (Op.equalIn (d + 1) 5 (.int .u8 (a : Nat)) (.int .u8 (b : Nat))).run Tryz.prog W = .ok ((a : Int) == (b : Int)) W := fun W a b => run_equalIn_int W d 5 .u8 .u8 _ _ Tryz.underlying5
  rw [← eqFrom_same]
  rw [Op.equalIn]
  simp only [Sem.run_bind, run_underlying ht, Result.andThen_ok, hs, Nat.mul_one]
  simp only [Std.Legacy.Range.forIn_eq_forIn_range', Std.Legacy.Range.size, Nat.sub_zero, Nat.add_sub_cancel, Nat.div_one]
  have key : ∀ m k, k + m = n → ∀ W, ((forIn (List.range' k m) ((none, ()) : Option Bool × Unit) fun i _ => do
      let u ← part 5 xs i
      let v ← part 5 ys i
      let b ← Op.equalIn (d + 1) 5 u v
      if (!b) = true then pure (ForInStep.done (some false, ())) else pure (ForInStep.yield (none, ()))) : Sem (Option Bool × Unit)).run Tryz.prog W =
      .ok (if eqFrom f g k m then (none, ()) else (some false, ())) W := by
    intro m
    induction m with
    | zero => intro k _ W; rfl
    | succ m ih =>
      intro k hk W
      have p1 : (part 5 xs k).run Tryz.prog W = .ok (.int .u8 (f k : Nat)) W := by simp [part, Sem.run_bind, ha, hx k (by omega)]
      have p2 : (part 5 ys k).run Tryz.prog W = .ok (.int .u8 (g k : Nat)) W := by simp [part, Sem.run_bind, ha, hy k (by omega)]
      rw [List.range'_succ, List.forIn_cons]
      simp only [Sem.run_bind, p1, p2, he, Result.andThen_ok]
      by_cases e : f k = g k
      · have eb : ((f k : Int) == (g k : Int)) = true := by rw [e]; simp
        simp only [eb, Bool.not_true, Bool.false_eq_true, if_false, Sem.run_pure, Result.andThen_ok, Nat.mul_one, Nat.add_zero]
        rw [eqFrom, if_pos e]
        exact ih (k + 1) (by omega) W
      · have eb : ((f k : Int) == (g k : Int)) = false := by rw [beq_eq_false_iff_ne]; omega
        simp only [eb, Bool.not_false, if_true, Sem.run_pure, Result.andThen_ok]
        rw [eqFrom, if_neg e]
        rfl
  rw [key n 0 (by omega) w]
  cases eqFrom f g 0 n <;> rfl
end Go.Proofs.YtlhbijpmhokmnaaGreat
namespace Go.Proofs.YtlhbijpmhokmnaaGreat
open Go.RowKit Go.ChangeShapes Go.WideShapes Go.ChangeAt
set_option linter.unusedSimpArgs false
set_option linter.unusedVariables false

theorem laidOut : laidOutB Tryz.prog = true := by kernel_rfl
theorem nat_of_u8 {x : Int} (h : (Lit.int .u8 x).wf = true) : ∃ n : Nat, n < 256 ∧ x = n := by
  simp [Lit.wf, IntKind.min, IntKind.max, IntKind.signed, IntKind.bits] at h
  exact ⟨x.toNat, by omega, by omega⟩
theorem i64_of_wf {x : Int} (h : (Lit.int .i64 x).wf = true) : -9223372036854775808 ≤ x ∧ x ≤ 9223372036854775807 := by
  simp [Lit.wf, IntKind.min, IntKind.max, IntKind.signed, IntKind.bits] at h
  omega
/-- An argument of type []byte. -/
theorem open_sl {H : Type} {enc : TypeId × Value → H} {P : Program} {t e : TypeId} {W : World} {r : Reach} {b0 : Nat} {v : Value} {d : DataW H} {p : List MemPlace} (ht : P.underlying t = some (.slice e)) (he : P.underlying e = some (.int .u8)) (hc : P.cellsOf e = 1)
    (hval : Value.okWide P W r b0 t v) (h0 : DataW.Trod enc P W 0 (fun _ => true) true t v d p) :
    ∃ (A : Option Addr) (c : Nat) (l : List Nat), v = .slice A l.length c ∧ l.length ≤ c ∧ c ≤ maxLen ∧ Rd W A l := by
  obtain ⟨a0, len, cap, rfl⟩ := okWide_slice ht hval
  obtain ⟨fuel, hf⟩ := h0
  rcases open_ints ht he hc hf with ⟨hcs, hx⟩ | ⟨a, len', cap', zs, hcs, _, hl, hm, hz, hx, hcell, hwz⟩
  · simp [Value.cells] at hcs
    obtain ⟨rfl, rfl, rfl⟩ := hcs
    exact ⟨none, 0, [], rfl, Nat.le_refl _, by simp, Rd.nil⟩
  · simp [Value.cells] at hcs
    obtain ⟨rfl, rfl, rfl⟩ := hcs
    simp only [if_true] at hz
    have hln : ((zs.take len).map Int.toNat).length = len := by simp; omega
    refine ⟨some a, cap, (zs.take len).map Int.toNat, by rw [hln], by omega, hm, ?_, fun hn => ?_⟩
    · intro x hx
      simp only [List.mem_map] at hx
      obtain ⟨z, hz', rfl⟩ := hx
      obtain ⟨k, hk, rfl⟩ := nat_of_u8 (hwz z (List.mem_of_mem_take hz'))
      simpa using hk
    · have h0 : 0 < len := by
        rw [← hln]
        exact List.length_pos_iff.2 hn
      obtain ⟨b, off, s⟩ := a
      have hs0 := hcell 0 (by omega)
      obtain rfl : s = none := by simpa [Addr.add] using World.cell?_spot hs0
      refine ⟨b, off, rfl, ?_, fun i hi => ?_⟩
      · have := World.block_lt_of_cell? _ _ hs0
        simpa [add_none] using this
      · rw [hln] at hi
        have h1 := hcell i (by omega)
        rw [add_none] at h1
        rw [h1]
        obtain ⟨k, hk, e1⟩ := nat_of_u8 (hwz (zs.getD i 0) (by rw [List.getD_eq_getElem?_getD, List.getElem?_eq_getElem (by omega)]; exact List.getElem_mem _))
        rw [e1]
        have e2 : nth ((zs.take len).map Int.toNat) i = k := by
          have : i < zs.length := by omega
          simp [nth, List.getElem?_take, hi]
          rw [List.getD_eq_getElem?_getD, List.getElem?_eq_getElem this] at e1
          have e1 : zs[i] = (k : Int) := e1
          rw [List.getElem?_eq_getElem this, e1]
          simp
        rw [e2]
end Go.Proofs.YtlhbijpmhokmnaaGreat
