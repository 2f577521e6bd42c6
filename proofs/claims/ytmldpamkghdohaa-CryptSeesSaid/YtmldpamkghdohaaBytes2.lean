/-
  LISTS OF BYTES IN MEMORY, more: an append at a step of a region that draws its order. Conditions: each law's own premises.
-/
import Derived.Test.YtmldpamkghdohaaBytes
namespace Go.Proofs.Ytmldpamkghdohaa
open Go.RowKit
set_option linter.unusedSimpArgs false
set_option linter.unusedVariables false

section
variable {W : World} {ops : Array Oper} {o : Oper} {a : Act} {K : Act → World → Prop} {Q : Exit → Act → World → Prop} {E : Prop} {base : Nat} {v : Value} {l : List Nat}
theorem step_append_bytes (s x : Operand) (hgd : o.guard = none) (ho : o.op = .call { callee := .builtin .append, args := #[s, x], argTypes := #[26, 26] })
    (hs : a.eval s = v) (hown : Ow W base v l) (A : Option Addr) (n c : Nat) (m : List Nat) (hx : a.eval x = .slice A n c) (hnm : n = m.length) (hr : Rd W A m)
    (hn : l.length + m.length ≤ 140737488355328) (hbase : base ≤ W.heap.size)
    (h : ∀ v' w', Ow w' base v' (l ++ m) → W.grownBy w' v.ownBlock → (v'.ownBlock = v.ownBlock ∨ v'.ownBlock = some W.heap.size) → K (a.put o.dst v') w') :
    if Region.wanted o (yielded ops a.tmps) = true then Oper.wp Try.prog o a W K Q else E := by
  have hw : Region.wanted o (yielded ops a.tmps) = true := by simp [Region.wanted, hgd]
  rw [if_pos hw]
  exact wp_append_bytes s x ho hs hown A n c m hx hnm hr hn hbase h
/-- 'out = append(out, b)' inside a region that draws, behind the block that was made for b. -/
theorem step_append_new (s x : Operand) (hgd : o.guard = none) (ho : o.op = .call { callee := .builtin .append, args := #[s, x], argTypes := #[26, 26] }) (t c : Nat) (z : Int) (b : Nat)
    (hs : a.eval s = v) (hx : a.eval x = .slice (some ⟨W.heap.size, 0, none⟩) 1 c) (hown : Ow W base v l) (hz : z = b) (hb : b < 256)
    (hn : l.length + 1 ≤ 140737488355328) (hbase : base ≤ W.heap.size)
    (h : ∀ v' w', Ow w' base v' (l ++ [b]) → W.grownBy w' v.ownBlock → (v'.ownBlock = v.ownBlock ∨ W.heap.size < w'.heap.size ∧ v'.ownBlock = some (W.heap.size + 1)) → K (a.put o.dst v') w') :
    if Region.wanted o (yielded ops a.tmps) = true then Oper.wp Try.prog o a (W.alloc (.cells #[.int .u8 z] t)).drew K Q else E := by
  subst hz
  have hr : Rd (W.alloc (.cells #[.int .u8 (b : Nat)] t)).drew (some ⟨W.heap.size, 0, none⟩) [b] := ⟨by simpa using hb, fun _ => ⟨W.heap.size, 0, rfl, by simp, fun i hi => by
    have : i = 0 := by simpa using hi
    subst this
    exact new_cell W (.int .u8 (b : Nat)) t⟩⟩
  have hown' : Ow (W.alloc (.cells #[.int .u8 (b : Nat)] t)).drew base v l := (hown.alloc _).drew
  refine step_append_bytes s x hgd ho hs hown' _ 1 c [b] hx rfl hr (by simpa using hn) (by simp; omega) fun v' w' h1 h2 h3 => ?_
  have h2' : W.grownBy w' v.ownBlock := nil_grown (World.grownBy_alloc W (.cells #[.int .u8 (b : Nat)] t) v.ownBlock) ⟨h2.os, h2.tape, h2.output, h2.size, h2.block⟩
  refine h v' w' h1 h2' ?_
  rcases h3 with h3 | h3
  · exact .inl h3
  · refine .inr ⟨?_, by simpa using h3⟩
    have := h2.size
    simp at this
    omega
end
end Go.Proofs.Ytmldpamkghdohaa
