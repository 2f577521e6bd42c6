/-
  WHAT CtrPlaces SAYS, IN PLAIN LEAN. Conditions: each law's own premises.
-/
import Derived.Test.YtmldpamkghdohaaCtrT
import Derived.Test.YtmldpamkghdohaaPick
namespace Go.Proofs.Ytmldpamkghdohaa
open Go.RowKit
set_option linter.unusedSimpArgs false
set_option linter.unusedVariables false

section
variable {w : World} {ops : Array Oper} {rest : List Oper} {o : Oper} {a : Act} {Q : Exit → Act → World → Prop} {base : Nat} {v : Value} {l : List Nat}
/-- 'out = append(out, src...)' behind a guard that says yes. -/
theorem append_bytes_g (s x : Operand) (hw : Region.wanted o (yielded ops a.tmps) = true) (ho : o.op = .call { callee := .builtin .append, args := #[s, x], argTypes := #[26, 26] })
    (hs : a.eval s = v) (hown : Ow w base v l) (A : Option Addr) (n c : Nat) (m : List Nat) (hx : a.eval x = .slice A n c) (hnm : n = m.length) (hr : Rd w A m)
    (hn : l.length + m.length ≤ 140737488355328) (hbase : base ≤ w.heap.size)
    (h : ∀ v' w', Ow w' base v' (l ++ m) → w.grownBy w' v.ownBlock → (v'.ownBlock = v.ownBlock ∨ v'.ownBlock = some w.heap.size) → wpList Try.prog ops Q rest (a.put o.dst v') w') : wpList Try.prog ops Q (o :: rest) a w :=
  wpList_step fun K hK => by simp only [hw, if_true]; exact wp_append_bytes s x ho hs hown A n c m hx hnm hr hn hbase fun v' w' h2 h3 h4 => hK _ _ (h v' w' h2 h3 h4)
end
theorem Ow.rdv {w : World} {base n c : Nat} {A : Option Addr} {l : List Nat} (h : Ow w base (.slice A n c) l) : Rd w A l := by
  obtain ⟨A', c', e, -, -, hr⟩ := h.form
  injection e with e _ _
  subst e
  exact hr
theorem nth_drop' (l : List Nat) (a j : Nat) : nth (l.drop a) j = nth l (a + j) := by simp [nth, List.getElem?_drop]
theorem nth_take' (l : List Nat) (a j : Nat) (h : j < a) : nth (l.take a) j = nth l j := by simp [nth, List.getElem?_take, h]
theorem strm_drop (kb : Nat → Nat) (nonce : List Nat) (a n c : Nat) (h : c ≤ n) : (strm kb nonce a n).drop c = strm kb nonce (a + c) (n - c) := by
  refine eq_of_nth (by simp [strm_length]) fun i hi => ?_
  rw [List.length_drop, strm_length] at hi
  rw [nth_drop', nth_strm (by omega), nth_strm hi, Nat.add_assoc]
theorem turned_parts (kb : Nat → Nat) (nonce : List Nat) (a : Nat) (b : List Nat) (c : Nat) (h : c ≤ b.length) : turned kb nonce a (b.take c) ++ turned kb nonce (a + c) (b.drop c) = turned kb nonce a b := by
  refine eq_of_nth (by simp [turned_length]; omega) fun i hi => ?_
  have hi' : i < b.length := by
    rw [List.length_append, turned_length, turned_length, List.length_take, List.length_drop] at hi
    omega
  have h1 : (b.take c).length = c := by rw [List.length_take]; omega
  rw [nth_turned hi', nth_strm hi']
  by_cases hc : i < c
  · rw [nth_app_l (by rw [turned_length, h1]; exact hc), nth_turned (by rw [h1]; exact hc), nth_strm (by rw [h1]; exact hc), nth_take' _ _ _ hc]
  · rw [nth_app_r _ _ _ (by rw [turned_length, h1]; omega), turned_length, h1, nth_turned (by rw [List.length_drop]; omega), nth_strm (by rw [List.length_drop]; omega), nth_drop',
      show a + c + (i - c) = a + i by omega, show c + (i - c) = i by omega]
theorem turned_twice (kb : Nat → Nat) (nonce : List Nat) (a : Nat) (b : List Nat) : turned kb nonce a (turned kb nonce a b) = b := by
  refine eq_of_nth (by simp [turned_length]) fun i hi => ?_
  rw [turned_length, turned_length] at hi
  rw [nth_turned (by rw [turned_length]; exact hi), turned_length, nth_turned hi, ← Nat.xor_assoc, Nat.xor_self, Nat.zero_xor]
theorem Rd.cutL {w : World} {B : Option Addr} {l : List Nat} (h : Rd w B l) (a n c : Nat) (hc : a + n ≤ l.length) (hlc : l.length ≤ c) : Rd w (if c = a then B else B.map (·.add a)) ((l.drop a).take n) := by
  refine ⟨fun x hx => h.1 x (List.mem_of_mem_drop (List.mem_of_mem_take hx)), fun hne => ?_⟩
  have hn : 0 < n := by
    rcases Nat.eq_zero_or_pos n with e | e
    · rw [e] at hne; simp at hne
    · exact e
  obtain ⟨b, o, rfl, hb, hq⟩ := h.2 (by intro e; rw [e] at hc; simp at hc; omega)
  refine ⟨b, o + a, by rw [if_neg (by omega)]; simp [Addr.add], hb, fun i hi => ?_⟩
  simp only [List.length_take, List.length_drop] at hi
  rw [Nat.add_assoc, hq (a + i) (by omega)]
  simp [nth, List.getElem?_take, List.getElem?_drop, show i < n by omega]
end Go.Proofs.Ytmldpamkghdohaa
