/-
  THE WALKS OF slices.Equal AT BYTES AND OF quillpresslow's SMALL FUNCTIONS ON LISTS OF BYTES. Conditions: the slices read as lists of bytes.
  A JOURNAL's BYTES: what a transaction is, what counts of any bytes; plain laws. Conditions: none; no program in sight.
  quillpresslow.KeptBytes at what LentBytes handed out. Conditions: none on the room behind.
  WHAT A DISK DOES: plain definitions; how it lies in memory. Conditions: none.
-/
import Derived.Test.YtlhbijpmhokmnaaGreatQ01
import Derived.WalkSpells
import Derived.WalkLawsBesides
import Derived.Deep.QuietTactic
import Derived.BigQuiet
import Derived.Outline
import Derived.Deep.RegionHeld3
import Derived.Test.YtlhbijpmhokmnaaGreatQ08
namespace Go.Proofs.YtlhbijpmhokmnaaGreat
open Go.RowKit
set_option linter.unusedSimpArgs false
set_option linter.unusedVariables false

/-- Are two lists of bytes the same? -/
def sameB (a b : List Nat) : Bool := decide (a = b)
theorem sameB_iff (a b : List Nat) : sameB a b = true ↔ a = b := by simp [sameB]
theorem sameB_len {a b : List Nat} (h : a.length ≠ b.length) : sameB a b = false := by
  simp only [sameB, decide_eq_false_iff_not]
  rintro rfl
  exact h rfl
theorem eq_of_nth {a b : List Nat} (hl : a.length = b.length) (h : ∀ i, i < a.length → nth a i = nth b i) : a = b := by
  apply List.ext_getElem hl
  intro i h1 h2
  have := h i h1
  rw [nth_get h1, nth_get h2] at this
  exact this
/-- What was read without a change of memory. -/
def Quiet (v : Value) (w : World) (e : Ending) (w' : World) : Prop := e = .returned v ∧ ∃ n, w' = w.drewN n

set_option maxRecDepth 100000 in
set_option maxHeartbeats 1000000 in
theorem equal_any (A1 A2 : Option Addr) (c1 c2 : Nat) (a b : List Nat) (w : World) (ha : Rd w A1 a) (hb : Rd w A2 b) (hla : a.length ≤ 9223372036854775807) (hlb : b.length ≤ 9223372036854775807) :
    Calls Tryz.prog 42 #[.slice A1 a.length c1, .slice A2 b.length c2] w (Quiet (.bool (sameB a b)) w) := by
  by_cases hl : a.length = b.length
  · have hne : (((a.length : Nat) : Int) != ((b.length : Nat) : Int)) = false := by rw [hl]; simp
    have HL := Lib.hid hl
    have HA := Lib.hid ha
    have HB := Lib.hid hb
    clear ha hb hl
    go_enter Tryz.func42, Tryz.ntmps42
    go_wp2
    go_loopw [13] (fun i wr => ∃ k n : Nat, k ≤ a.length ∧ i = .int .i64 k ∧ wr = w.drewN n ∧ ∀ j, j < k → nth a j = nth b j) (fun i _ => a.length - (intOf i).toNat)
    case atStart => exact ⟨0, 0, by omega, rfl, rfl, fun j hj => by omega⟩
    case round =>
      obtain ⟨k, n, hk, rfl, rfl, hs⟩ := hrel
      have HS := Lib.hid hs
      clear hs
      by_cases e0 : k < a.length
      · obtain ⟨g1, o1, rfl, hg1, hc1⟩ := HA.out.2 (by rintro rfl; simp at e0)
        obtain ⟨g2, o2, rfl, hg2, hc2⟩ := HB.out.2 (by rintro rfl; have := HL.out; simp at this; subst this; simp at e0)
        have x1 := hc1 k e0
        have x2 := hc2 k (by have := HL.out; omega)
        have b2 : (k : Int) < (b.length : Int) := by have := HL.out; omega
        have b1 : (k : Int) < (a.length : Int) := by omega
        have HX1 := Lib.hid hc1
        have HX2 := Lib.hid hc2
        clear hc1 hc2
        by_cases e1 : nth a k = nth b k
        · have e2 : (((nth a k : Nat) : Int) != ((nth b k : Nat) : Int)) = false := by rw [e1]; simp
          have E1 := Lib.hid e1
          clear e1
          go_wp2_with fail
          go_quiet (fail)
          go_wp2
          go_roundw
          case rel =>
            refine ⟨k + 1, n + nq, by omega, by go_num, by simp [World.drewN_drewN], fun j hj => ?_⟩
            rcases Nat.lt_or_ge j k with h | h
            · exact HS.out j h
            · have : j = k := by omega
              subst this
              exact E1.out
          case measure => simp [intOf]; omega
        · have e2 : (((nth a k : Nat) : Int) != ((nth b k : Nat) : Int)) = true := by rw [bne_iff_ne]; omega
          have E1 := Lib.hid e1
          clear e1
          have E3 : Hid (sameB a b = false) := by
            have := E1.out
            simp only [Hid, sameB, decide_eq_false_iff_not]
            rintro rfl
            exact this rfl
          go_wp2_with fail
          go_quiet (fail)
          go_wp2
          go_ret
          exact ⟨by rw [E3.out]; rfl, n + nq, by simp [World.drewN_drewN]⟩
      · obtain rfl : k = a.length := by omega
        have E3 : Hid (sameB a b = true) := (sameB_iff a b).2 (eq_of_nth HL.out HS.out)
        go_wp2
        go_ret
        exact ⟨by rw [E3.out]; rfl, n, rfl⟩
  · have hne : (((a.length : Nat) : Int) != ((b.length : Nat) : Int)) = true := by rw [bne_iff_ne]; omega
    have E3 := Lib.hid (sameB_len hl)
    clear hl
    go_enter Tryz.func42, Tryz.ntmps42
    go_wp2
    go_ret
    exact ⟨by rw [E3.out]; rfl, 0, rfl⟩

theorem drewN_zero' (w : World) : w.drewN 0 = w := rfl
set_option maxHeartbeats 400000 in
theorem same_any (A1 A2 : Option Addr) (c1 c2 : Nat) (a b : List Nat) (w : World) (ha : Rd w A1 a) (hb : Rd w A2 b) (hla : a.length ≤ 9223372036854775807) (hlb : b.length ≤ 9223372036854775807) :
    Calls Tryz.prog 9 #[.slice A1 a.length c1, .slice A2 b.length c2] w (Quiet (.bool (sameB a b)) w) := by
  go_enter Tryz.func9, Tryz.ntmps9
  go_wp2_with fail
  refine (equal_any A1 A2 c1 c2 a b w ha hb hla hlb).mono ?_
  rintro e w' ⟨rfl, n, rfl⟩
  go_wp2_with fail
  go_ret
  exact ⟨rfl, n, rfl⟩

set_option maxHeartbeats 400000 in
theorem own_any (A : Option Addr) (n c : Nat) (l : List Nat) (w : World) (hn : n = l.length) (h : Rd w A l) (hl : l.length ≤ 140737488355328) :
    Calls Tryz.prog 60 #[.slice A n c] w fun e w' => ∃ v, e = .returned v ∧ Ow w' w.heap.size v l ∧ Below w.heap.size w w' := by
  have HN := Lib.hid hn
  have HA := Lib.hid h
  clear hn h
  go_enter Tryz.func60, Tryz.ntmps60
  go_wp2_with (refine append_bytes (v := .slice none 0 0) (l := []) (.const (.slice none 0 0)) (.tmp 3) rfl rfl rfl (Ow.nil _ w.heap.size) A n c l rfl HN.out HA.out (by simpa using hl) (Nat.le_refl _) ?_; intro v1 w1 ho1 hg1 ha1)
  go_ret
  exact ⟨v1, rfl, by simpa using ho1, (Below.refl _ _).grown hg1 (Nat.le_refl _) (by simp [Value.ownBlock])⟩

theorem equal_n (A1 A2 : Option Addr) (n1 n2 c1 c2 : Nat) (a b : List Nat) (w : World) (h1 : n1 = a.length) (h2 : n2 = b.length) (ha : Rd w A1 a) (hb : Rd w A2 b) (hla : a.length ≤ 9223372036854775807) (hlb : b.length ≤ 9223372036854775807) :
    Calls Tryz.prog 42 #[.slice A1 n1 c1, .slice A2 n2 c2] w (Quiet (.bool (sameB a b)) w) := by
  subst h1; subst h2
  exact equal_any A1 A2 c1 c2 a b w ha hb hla hlb
def tailB : List Nat := [116, 97, 105, 108]
/-- What was lent: the bytes, and behind them, in the spare room, the tail. -/
def Lent (w : World) (base : Nat) (v : Value) (l : List Nat) : Prop := ∃ g c, v = .slice (some ⟨g, 0, none⟩) l.length c ∧ l.length + 4 ≤ c ∧ base ≤ g ∧ Rd w (some ⟨g, 0, none⟩) (l ++ tailB)
end Go.Proofs.YtlhbijpmhokmnaaGreat
namespace Go.Proofs.YtlhbijpmhokmnaaGreat
open Go.RowKit
set_option linter.unusedSimpArgs false
set_option linter.unusedVariables false

def be4w (v : Nat) : List Nat := [v / 16777216 % 256, v / 65536 % 256, v / 256 % 256, v % 256]
def headB (k n : Nat) : List Nat := 99 :: (be4w k ++ be4w n)
def headL (k n : Nat) : List Nat := headB k n ++ sha1 (headB k n)
def commitL (k : Nat) (h body : List Nat) : List Nat := 122 :: be4w k ++ sha1 (h ++ body)
/-- A transaction. -/
def txL (k : Nat) (body : List Nat) : List Nat := headL k body.length ++ (body ++ commitL k (headL k body.length) body)
/-- The transaction's body, if it stands at the beginning of bytes. -/
def oneJ (b : List Nat) (k : Nat) : Option (List Nat) :=
  if b.length < 9 then none
  else if be4 b 5 < 1 ∨ 1048576 < be4 b 5 then none
  else if (headL k (be4 b 5)).isPrefixOf b = true ∧ be4 b 5 ≤ b.length - 29 then
    (if (commitL k (headL k (be4 b 5)) ((b.drop 29).take (be4 b 5))).isPrefixOf (b.drop (29 + be4 b 5)) = true then some ((b.drop 29).take (be4 b 5)) else none)
  else none
def GoodB (b : List Nat) : Prop := 1 ≤ b.length ∧ b.length ≤ 1048576
theorem be4w_length (v : Nat) : (be4w v).length = 4 := rfl
theorem headB_length (k n : Nat) : (headB k n).length = 9 := rfl
theorem headL_length (k n : Nat) : (headL k n).length = 29 := by unfold headL; rw [List.length_append, headB_length, sha1_length]
theorem commitL_length (k : Nat) (h b : List Nat) : (commitL k h b).length = 25 := by
  unfold commitL
  rw [List.length_append, List.length_cons, be4w_length, sha1_length]
theorem txL_length (k : Nat) (b : List Nat) : (txL k b).length = 54 + b.length := by
  unfold txL
  rw [List.length_append, List.length_append, headL_length, commitL_length]; omega
theorem be4w_lt (v : Nat) : ∀ x ∈ be4w v, x < 256 := by
  intro x hx
  simp only [be4w, List.mem_cons, List.not_mem_nil, or_false] at hx
  rcases hx with rfl | rfl | rfl | rfl <;> exact Nat.mod_lt _ (by omega)
theorem headB_lt (k n : Nat) : ∀ x ∈ headB k n, x < 256 := by
  intro x hx
  rcases List.mem_cons.1 hx with rfl | hx
  · omega
  · rcases List.mem_append.1 hx with hx | hx
    · exact be4w_lt _ x hx
    · exact be4w_lt _ x hx
theorem headL_lt (k n : Nat) : ∀ x ∈ headL k n, x < 256 := by
  intro x hx
  rcases List.mem_append.1 hx with hx | hx
  · exact headB_lt _ _ x hx
  · exact sha1_lt _ x hx
theorem commitL_lt (k : Nat) (h b : List Nat) : ∀ x ∈ commitL k h b, x < 256 := by
  intro x hx
  rcases List.mem_append.1 hx with hx | hx
  · rcases List.mem_cons.1 hx with rfl | hx
    · omega
    · exact be4w_lt _ x hx
  · exact sha1_lt _ x hx
theorem nth_app_left (a b : List Nat) (j : Nat) (h : j < a.length) : nth (a ++ b) j = nth a j := by
  unfold nth
  rw [List.getD_eq_getElem?_getD, List.getD_eq_getElem?_getD, List.getElem?_append_left h]
theorem be4_app (a b : List Nat) (i : Nat) (h : i + 4 ≤ a.length) : be4 (a ++ b) i = be4 a i := by
  unfold be4
  rw [nth_app_left _ _ _ (by omega), nth_app_left _ _ _ (by omega), nth_app_left _ _ _ (by omega), nth_app_left _ _ _ (by omega)]
theorem headB_num (k : Nat) {n : Nat} (hn : n < 4294967296) : be4 (headB k n) 5 = n := by
  show n / 16777216 % 256 * 16777216 + n / 65536 % 256 * 65536 + n / 256 % 256 * 256 + n % 256 = n
  omega
theorem headL_num (k : Nat) {n : Nat} (hn : n < 4294967296) (r : List Nat) : be4 (headL k n ++ r) 5 = n := by
  rw [be4_app _ _ _ (by rw [headL_length]; omega)]
  unfold headL
  rw [be4_app _ _ _ (by rw [headB_length]; omega), headB_num k hn]
theorem headL_inj {k n m : Nat} (hn : n < 4294967296) (hm : m < 4294967296) (h : headL k n = headL k m) : n = m := by
  have h1 := headL_num k hn []
  rw [h, headL_num k hm []] at h1
  exact h1.symm
theorem one_some {b : List Nat} {k : Nat} {body : List Nat} (h : oneJ b k = some body) : GoodB body ∧ txL k body <+: b := by
  unfold oneJ at h
  split at h
  · cases h
  · split at h
    · cases h
    · split at h
      · rename_i h1 h2 h3
        split at h
        · rename_i h4
          injection h with h
          obtain ⟨h5, h6⟩ := h3
          obtain ⟨r, hr⟩ := List.isPrefixOf_iff_prefix.1 h5
          obtain ⟨s, hs⟩ := List.isPrefixOf_iff_prefix.1 h4
          have hbl : b.length = 29 + r.length := by rw [← hr, List.length_append, headL_length]
          have hd : b.drop 29 = r := by rw [← hr, List.drop_append, headL_length, List.drop_of_length_le (by rw [headL_length]; omega)]; simp
          rw [hd] at h hs
          have hl : body.length = be4 b 5 := by rw [← h, List.length_take]; omega
          refine ⟨⟨by omega, by omega⟩, s, ?_⟩
          have hd2 : b.drop (29 + be4 b 5) = r.drop (be4 b 5) := by rw [← hd, List.drop_drop]
          rw [hd2, h, ← hl] at hs
          unfold txL
          rw [List.append_assoc, List.append_assoc, hs]
          have : body ++ r.drop body.length = r := by
            rw [hl]
            have e := List.take_append_drop (be4 b 5) r
            rw [h] at e
            exact e
          rw [this, hl]
          exact hr
        · cases h
      · cases h
theorem one_of_tx {b : List Nat} {k : Nat} {body : List Nat} (hg : GoodB body) (h : txL k body <+: b) : oneJ b k = some body := by
  obtain ⟨s, hs⟩ := h
  obtain ⟨g1, g2⟩ := hg
  have hb : headL k body.length ++ (body ++ (commitL k (headL k body.length) body ++ s)) = b := by
    rw [← hs]; unfold txL; simp only [List.append_assoc]
  have hl : b.length = 54 + body.length + s.length := by rw [← hs, List.length_append, txL_length]
  have hn : be4 b 5 = body.length := by rw [← hb]; exact headL_num k (by omega) _
  have hd : b.drop 29 = body ++ (commitL k (headL k body.length) body ++ s) := by
    rw [← hb, List.drop_append, headL_length, List.drop_of_length_le (by rw [headL_length]; omega)]; simp
  have ht : (b.drop 29).take body.length = body := by rw [hd, List.take_left' rfl]
  have hd2 : b.drop (29 + body.length) = commitL k (headL k body.length) body ++ s := by rw [← List.drop_drop, hd, List.drop_left' rfl]
  unfold oneJ
  rw [if_neg (by omega), hn, if_neg (by omega), if_pos ⟨List.isPrefixOf_iff_prefix.2 ⟨_, hb⟩, by omega⟩, ht, hd2, if_pos (List.isPrefixOf_iff_prefix.2 ⟨s, rfl⟩)]
def parseJ : Nat → List Nat → Nat → List (List Nat)
  | 0, _, _ => []
  | f + 1, b, k => match oneJ b k with
    | none => []
    | some body => body :: parseJ f (b.drop (54 + body.length)) (k + 1)
def txs : Nat → List (List Nat) → List Nat
  | _, [] => []
  | k, b :: r => txL k b ++ txs (k + 1) r
theorem txs_snoc (b : List Nat) : ∀ (L : List (List Nat)) (k : Nat), txs k (L ++ [b]) = txs k L ++ txL (k + L.length) b := by
  intro L
  induction L with
  | nil => intro k; simp [txs]
  | cons a L ih => intro k; rw [List.cons_append, txs, txs, ih, List.append_assoc, show k + 1 + L.length = k + (a :: L).length by simp; omega]
theorem parse_txs {r : List Nat} : ∀ (L : List (List Nat)) (k f : Nat), (∀ b ∈ L, GoodB b) → oneJ r (k + L.length) = none → L.length ≤ f → parseJ f (txs k L ++ r) k = L := by
  intro L
  induction L with
  | nil =>
    intro k f _ h _
    cases f with
    | zero => rfl
    | succ f =>
      rw [parseJ, txs, List.nil_append]
      rw [show k + ([] : List (List Nat)).length = k from rfl] at h
      rw [h]
  | cons b L ih =>
    intro k f hg h hf
    cases f with
    | zero => simp at hf
    | succ f =>
      have h1 : oneJ (txs k (b :: L) ++ r) k = some b := one_of_tx (hg b (by simp)) ⟨txs (k + 1) L ++ r, by rw [txs, List.append_assoc]⟩
      rw [parseJ, h1]
      simp only
      rw [txs, List.append_assoc, List.drop_left' (txL_length k b), ih (k + 1) f (fun x hx => hg x (by simp [hx])) (by rw [← h]; congr 1; simp; omega) (by simpa using hf)]
theorem parse_split : ∀ (f : Nat) (b : List Nat) (k : Nat), ∃ r, b = txs k (parseJ f b k) ++ r ∧ (∀ x ∈ parseJ f b k, GoodB x) ∧ (b.length ≤ f → oneJ r (k + (parseJ f b k).length) = none) := by
  intro f
  induction f with
  | zero =>
    intro b k
    refine ⟨b, rfl, by simp [parseJ], fun h => ?_⟩
    have : b = [] := List.eq_nil_of_length_eq_zero (by omega)
    subst this
    rfl
  | succ f ih =>
    intro b k
    rw [parseJ]
    cases h : oneJ b k with
    | none => exact ⟨b, rfl, by simp, fun _ => h⟩
    | some body =>
      obtain ⟨h1, s, hs⟩ := one_some h
      have hd : b.drop (54 + body.length) = s := by rw [← hs, List.drop_left' (txL_length k body)]
      obtain ⟨r, e1, e2, e3⟩ := ih s (k + 1)
      simp only
      rw [hd]
      refine ⟨r, ?_, ?_, fun hl => ?_⟩
      · rw [txs, List.append_assoc, ← e1, hs]
      · intro x hx
        rcases List.mem_cons.1 hx with rfl | hx
        · exact h1
        · exact e2 x hx
      · have hl2 : s.length ≤ f := by
          have := congrArg List.length hs
          rw [List.length_append, txL_length] at this
          omega
        have := e3 hl2
        rw [← this]
        congr 1
        simp; omega
/-- Bytes that are too short are none. -/
theorem one_short {x : List Nat} {k : Nat} (h : x.length ≤ 54) : oneJ x k = none := by
  cases h1 : oneJ x k with
  | none => rfl
  | some b =>
    obtain ⟨⟨g1, g2⟩, h2⟩ := one_some h1
    have := h2.length_le
    rw [txL_length] at this
    omega
/-- A head, and not the whole behind it, is none. -/
theorem one_head {x b : List Nat} {k : Nat} (hg : GoodB b) (h : headL k b.length <+: x) (hl : x.length < 54 + b.length) : oneJ x k = none := by
  cases h1 : oneJ x k with
  | none => rfl
  | some y =>
    obtain ⟨⟨g1, g2⟩, h2⟩ := one_some h1
    have h3 : headL k y.length <+: x := (List.prefix_append _ _).trans h2
    have h4 : headL k y.length = headL k b.length := List.prefix_of_prefix_length_le h3 h (by rw [headL_length, headL_length]; omega) |>.eq_of_length (by rw [headL_length, headL_length])
    have h5 := headL_inj (by omega) (by have := hg.2; omega) h4
    have := h2.length_le
    rw [txL_length] at this
    omega
/-- A head and a body, and no more behind it than a commit: none, or the whole. -/
theorem one_body {x b : List Nat} {k : Nat} (hg : GoodB b) (h : headL k b.length ++ b <+: x) (hl : x.length ≤ 54 + b.length) : oneJ x k = none ∨ (oneJ x k = some b ∧ x = txL k b) := by
  cases h1 : oneJ x k with
  | none => exact .inl rfl
  | some y =>
    right
    obtain ⟨⟨g1, g2⟩, h2⟩ := one_some h1
    have h0 : headL k b.length <+: x := (List.prefix_append _ _).trans h
    have h3 : headL k y.length <+: x := (List.prefix_append _ _).trans h2
    have h4 : headL k y.length = headL k b.length := List.prefix_of_prefix_length_le h3 h0 (by rw [headL_length, headL_length]; omega) |>.eq_of_length (by rw [headL_length, headL_length])
    have h5 := headL_inj (by omega) (by have := hg.2; omega) h4
    have h6 : headL k y.length ++ y <+: x := by
      have : headL k y.length ++ y <+: txL k y := ⟨commitL k (headL k y.length) y, by unfold txL; rw [List.append_assoc]⟩
      exact this.trans h2
    have h7 : headL k y.length ++ y = headL k b.length ++ b := (List.prefix_of_prefix_length_le h6 h (by simp [headL_length]; omega)).eq_of_length (by simp [headL_length]; omega)
    rw [h4] at h7
    have h8 : y = b := List.append_cancel_left h7
    subst h8
    exact ⟨rfl, (h2.eq_of_length_le (by rw [txL_length]; omega)).symm⟩
end Go.Proofs.YtlhbijpmhokmnaaGreat
namespace Go.Proofs.YtlhbijpmhokmnaaGreat
open Go.RowKit
set_option linter.unusedSimpArgs false
set_option linter.unusedVariables false

theorem Lent.below {w w' : World} {base : Nat} {v : Value} {l : List Nat} (h : Lent w base v l) (hb : Below w.heap.size w w') : Lent w' base v l := by
  obtain ⟨g, c, rfl, h1, h2, h3⟩ := h
  exact ⟨g, c, rfl, h1, h2, h3.below hb⟩
end Go.Proofs.YtlhbijpmhokmnaaGreat
namespace Go.Proofs.YtlhbijpmhokmnaaGreat
open Go.RowKit
set_option linter.unusedSimpArgs false
set_option linter.unusedVariables false

structure DkS where
  most : Nat
  now : List Nat
  old : List Nat
  floor : Nat
  down : Bool
  armed : Int
  fails : Nat
  err : Int
/-- What may be said of a disk at any time. -/
structure DkS.Wf (d : DkS) : Prop where
  most : d.most ≤ 4194304
  now : d.now.length ≤ d.most
  old : d.old.length ≤ d.most
  floor : d.floor ≤ d.most
  armed0 : -1 ≤ d.armed
  armed : d.armed ≤ 9223372036854775807
  fails : d.fails ≤ 9223372036854775807
/-- Ahead of an operation: an error, or none; the disk then. -/
def DkS.pre (d : DkS) : Option Int × DkS :=
  if d.down = true then (some 11, d)
  else if d.armed = 0 then (some 11, { d with down := true })
  else if d.fails = 0 then (none, { d with armed := if 0 < d.armed then d.armed - 1 else d.armed })
  else if d.fails = 1 then (some d.err, { d with armed := if 0 < d.armed then d.armed - 1 else d.armed, fails := 0 })
  else (none, { d with armed := if 0 < d.armed then d.armed - 1 else d.armed, fails := d.fails - 1 })
def DkS.op (d : DkS) (f : DkS → Int × DkS) : Int × DkS := match d.pre with
  | (some e, d') => (e, d')
  | (none, d') => f d'
def DkS.append (d : DkS) (m : List Nat) : Int × DkS := d.op fun d => if d.most < d.now.length + m.length then (5, d) else (0, { d with now := d.now ++ m })
def DkS.sync (d : DkS) : Int × DkS := d.op fun d => (0, { d with old := d.now, floor := d.now.length })
def DkS.trunc (d : DkS) (n : Int) : Int × DkS := if n < 0 ∨ (d.now.length : Int) < n then (2, d) else d.op fun d => (0, { d with now := d.now.take n.toNat, floor := min d.floor n.toNat })
theorem DkS.pre_keeps (d : DkS) : d.pre.2.most = d.most ∧ d.pre.2.now = d.now ∧ d.pre.2.old = d.old ∧ d.pre.2.floor = d.floor ∧ d.pre.2.err = d.err := by
  unfold DkS.pre
  repeat' split
  all_goals exact ⟨rfl, rfl, rfl, rfl, rfl⟩
theorem DkS.Wf.pre {d : DkS} (h : d.Wf) : d.pre.2.Wf := by
  obtain ⟨h1, h2, h3, h4, h5, h6, h7⟩ := h
  unfold DkS.pre
  repeat' split
  all_goals (constructor <;> simp <;> try omega)
  all_goals (split <;> omega)

/-- A slice that reads as l; its block. -/
def Sl (w : World) (v : Value) (l : List Nat) (b : Option Nat) : Prop := ∃ A c, v = .slice A l.length c ∧ l.length ≤ c ∧ c ≤ 9223372036854775807 ∧ Rd w A l ∧ A.map (·.block) = b
/-- The fields. -/
def dkC (d : DkS) (nv ov : Value) : Nat → Value
  | 0 => .bool true
  | 1 => .int .i64 d.most
  | 2 => nv
  | 3 => ov
  | 4 => .int .i64 d.floor
  | 5 => .bool d.down
  | 6 => .int .i64 d.armed
  | 7 => .int .i64 d.fails
  | _ => .int .i64 d.err
/-- A disk at block g; nb, ob: its two lists' blocks. -/
structure Dk (w : World) (g : Nat) (nb ob : Option Nat) (d : DkS) : Prop where
  wf : d.Wf
  nn : nb ≠ some g
  on : ob ≠ some g
  nl : ∀ k, nb = some k → k < w.heap.size
  ol : ∀ k, ob = some k → k < w.heap.size
  lies : ∃ nv ov, w.rowIs g 63 9 (dkC d nv ov) ∧ Sl w nv d.now nb ∧ Sl w ov d.old ob
/-- What is new, or as it was. -/
def New (w : World) (x y : Option Nat) : Prop := y = x ∨ ∀ k, y = some k → w.heap.size ≤ k

section
variable {w w' : World} {v : Value} {l : List Nat} {b nb ob : Option Nat} {g : Nat} {d : DkS}
theorem Sl.keep (h : Sl w v l b) (hs : w.heap.size ≤ w'.heap.size) (hk : ∀ k, b = some k → k < w.heap.size → w'.heap[k]? = w.heap[k]?) : Sl w' v l b := by
  obtain ⟨A, c, rfl, h1, h2, h3, rfl⟩ := h
  refine ⟨A, c, rfl, h1, h2, h3.keep hs fun p hp ⟨a, ha, e⟩ => World.cell?_of_block (hk p.block ?_ hp), rfl⟩
  rw [ha, ← e]
  rfl
theorem Sl.grown {row : Option Nat} (h : Sl w v l b) (hg : w.grownBy w' row) (hne : ∀ k, b = some k → some k ≠ row) : Sl w' v l b :=
  h.keep hg.size fun k hk hlt => hg.block k hlt (hne k hk)
theorem Sl.below (h : Sl w v l b) (hb : Below w.heap.size w w') : Sl w' v l b := h.keep hb.size fun k _ hlt => hb.block k hlt
theorem Sl.nil (w : World) : Sl w (.slice none 0 0) [] none := ⟨none, 0, rfl, Nat.le_refl _, by omega, Rd.nil, rfl⟩
theorem Dk.lt (h : Dk w g nb ob d) : g < w.heap.size := by obtain ⟨nv, ov, h1, _⟩ := h.lies; exact h1.lt
theorem Dk.below (h : Dk w g nb ob d) (hb : Below w.heap.size w w') : Dk w' g nb ob d := by
  obtain ⟨nv, ov, h1, h2, h3⟩ := h.lies
  exact ⟨h.wf, h.nn, h.on, fun k e => Nat.lt_of_lt_of_le (h.nl k e) hb.size, fun k e => Nat.lt_of_lt_of_le (h.ol k e) hb.size, nv, ov, h1.of_block (hb.block g h1.lt), h2.below hb, h3.below hb⟩
theorem Dk.grown {row : Option Nat} (h : Dk w g nb ob d) (hg : w.grownBy w' row) (h1 : row ≠ some g) (h2 : ∀ k, nb = some k → row ≠ some k) (h3 : ∀ k, ob = some k → row ≠ some k) : Dk w' g nb ob d := by
  obtain ⟨nv, ov, k1, k2, k3⟩ := h.lies
  exact ⟨h.wf, h.nn, h.on, fun k e => Nat.lt_of_lt_of_le (h.nl k e) hg.size, fun k e => Nat.lt_of_lt_of_le (h.ol k e) hg.size, nv, ov, k1.of_block (hg.block g k1.lt h1.symm), k2.grown hg (fun k e => (h2 k e).symm), k3.grown hg (fun k e => (h3 k e).symm)⟩
theorem Dk.alloc (h : Dk w g nb ob d) (o : Obj) : Dk (w.alloc o) g nb ob d := h.below ((Below.refl _ _).alloc (Nat.le_refl _) o)
theorem Dk.drew (h : Dk w g nb ob d) : Dk w.drew g nb ob d := h.below (below_drewN' (Below.refl _ _) 1)
/-- A field written. -/
theorem Dk.set {d' : DkS} (h : Dk w g nb ob d) (j : Nat) (u : Value) (hj : j ≠ 2 ∧ j ≠ 3) (hd : d'.now = d.now ∧ d'.old = d.old) (hw : d'.Wf)
    (hc : ∀ nv ov i, i < 9 → dkC d' nv ov i = if i = j then u else dkC d nv ov i) : Dk (w.setCell ⟨g, j, none⟩ u) g nb ob d' := by
  obtain ⟨nv, ov, k1, k2, k3⟩ := h.lies
  have hg : w.grownBy (w.setCell ⟨g, j, none⟩ u) (some g) := grown_set (grown_refl _ _) (.inl rfl) u
  refine ⟨hw, h.nn, h.on, fun k e => Nat.lt_of_lt_of_le (h.nl k e) hg.size, fun k e => Nat.lt_of_lt_of_le (h.ol k e) hg.size, nv, ov, (k1.set j u).congr fun i hi => (hc nv ov i hi).symm, ?_, ?_⟩
  · rw [hd.1]; exact k2.grown hg (fun k e e2 => h.nn (by rw [e, e2]))
  · rw [hd.2]; exact k3.grown hg (fun k e e2 => h.on (by rw [e, e2]))
theorem New.refl (w : World) (x : Option Nat) : New w x x := .inl rfl
theorem New.trans {x y z : Option Nat} (h : New w x y) (hs : w.heap.size ≤ w'.heap.size) (k : New w' y z) : New w x z := by
  rcases k with rfl | k
  · exact h
  · exact .inr fun j e => Nat.le_trans hs (k j e)
end
end Go.Proofs.YtlhbijpmhokmnaaGreat
