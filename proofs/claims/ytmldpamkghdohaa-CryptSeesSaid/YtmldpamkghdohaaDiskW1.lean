/-
  THE WALKS OF slices.Clone, slices.Clip AT BYTES; disk's none, Size, Synced, Down, Arm, Fail. Conditions: the disk lies in memory.
-/
import Derived.Test.YtmldpamkghdohaaDiskS
import Derived.Test.YtmldpamkghdohaaBytes2
namespace Go.Proofs.Ytmldpamkghdohaa
open Go.RowKit
set_option linter.unusedSimpArgs false
set_option linter.unusedVariables false

/-- An empty slice over a block of none. -/
theorem Ow.zero (w : World) : Ow (w.alloc (.cells #[] 5)) w.heap.size (.slice (some ⟨w.heap.size, 0, none⟩) 0 0) [] :=
  ⟨by simp, rfl, .inr ⟨w.heap.size, 0, #[], rfl, Nat.le_refl _, heap_alloc_new w _, Nat.le_refl _, by simp, rfl, rfl⟩⟩
theorem Ow.sl {w : World} {base : Nat} {v : Value} {l : List Nat} (h : Ow w base v l) : ∃ b, Sl w v l b ∧ ∀ k, b = some k → base ≤ k ∧ v.ownBlock = some k := by
  have h0 := h
  obtain ⟨hb, hlen, ⟨rfl, hn⟩ | ⟨g, cap, cur, rfl, hg, hh, hn, hm, hs, ht⟩⟩ := h0
  · have : l = [] := List.eq_nil_of_length_eq_zero hn
    subst this
    exact ⟨none, ⟨none, 0, rfl, Nat.le_refl _, by omega, Rd.nil, rfl⟩, fun k e => by cases e⟩
  · obtain ⟨A, c, e, _, _, hr⟩ := h.form
    injection e with e1 e2 e3
    subst e1
    exact ⟨some g, ⟨_, cap, rfl, hn, by unfold maxLen at hm; omega, hr, rfl⟩, fun k e => by injection e with e; subst e; exact ⟨hg, rfl⟩⟩
theorem Ow.ownLt {w : World} {base : Nat} {v : Value} {l : List Nat} (h : Ow w base v l) {k : Nat} (e : v.ownBlock = some k) : k < w.heap.size := by
  obtain ⟨hb, hlen, ⟨rfl, hn⟩ | ⟨g, cap, cur, rfl, hg, hh, hn, hm, hs, ht⟩⟩ := h
  · cases e
  · obtain rfl : g = k := by injection e
    exact lt_of_block hh
theorem clone_any (A : Option Addr) (n c : Nat) (l : List Nat) (w : World) (hn : n = l.length) (h : Rd w A l) (hl : l.length ≤ 140737488355328) :
    Calls Try.prog 63 #[.slice A n c] w fun e w' => ∃ v b, e = .returned v ∧ Sl w' v l b ∧ (∀ k, b = some k → w.heap.size ≤ k) ∧ Below w.heap.size w w' := by
  rcases A with _ | ad
  · have hln : l = [] := by
      cases l with
      | nil => rfl
      | cons a t => obtain ⟨g, o, e, _⟩ := h.2 (by simp); cases e
    subst hln
    subst hn
    have hq := fun W : World => Lib.run_eql_slice_nil (P := Try.prog) (w := W)
    go_enter Try.func63, Try.ntmps63
    go_wp2
    go_ret
    exact ⟨_, none, rfl, ⟨none, 0, rfl, Nat.le_refl _, by omega, Rd.nil, rfl⟩, by simp, Below.refl _ _⟩
  · have HA := Lib.hid h
    have HN := Lib.hid hn
    clear h hn
    have hq := fun W : World => Lib.run_eql_slice_nil (P := Try.prog) (w := W)
    go_enter Try.func63, Try.ntmps63
    go_wp2_with (at_builtin; refine append_bytes (.tmp 5) (.tmp 6) rfl rfl rfl (Ow.zero w) (some ad) n c l rfl HN.out (HA.out.alloc _) (by simpa using hl) (by simp) ?_; intro v1 w1 ho1 hg1 ha1)
    go_ret
    obtain ⟨b, hs, hb⟩ := ho1.sl
    exact ⟨v1, b, rfl, by simpa using hs, fun k hk => (hb k hk).1, ((Below.refl _ _).alloc (Nat.le_refl _) _).grown hg1 (by simp) (fun k hk => by have hk : some w.heap.size = some k := hk; injection hk with hk; omega)⟩
theorem clone_lt (A : Option Addr) (n c : Nat) (l : List Nat) (w : World) (hn : n = l.length) (h : Rd w A l) (hl : l.length ≤ 140737488355328) :
    Calls Try.prog 63 #[.slice A n c] w fun e w' => ∃ v b, e = .returned v ∧ Sl w' v l b ∧ (∀ k, b = some k → w.heap.size ≤ k ∧ k < w'.heap.size) ∧ Below w.heap.size w w' := by
  rcases A with _ | ad
  · have hln : l = [] := by
      cases l with
      | nil => rfl
      | cons a t => obtain ⟨g, o, e, _⟩ := h.2 (by simp); cases e
    subst hln
    subst hn
    have hq := fun W : World => Lib.run_eql_slice_nil (P := Try.prog) (w := W)
    go_enter Try.func63, Try.ntmps63
    go_wp2
    go_ret
    exact ⟨_, none, rfl, ⟨none, 0, rfl, Nat.le_refl _, by omega, Rd.nil, rfl⟩, by simp, Below.refl _ _⟩
  · have HA := Lib.hid h
    have HN := Lib.hid hn
    clear h hn
    have hq := fun W : World => Lib.run_eql_slice_nil (P := Try.prog) (w := W)
    go_enter Try.func63, Try.ntmps63
    go_wp2_with (at_builtin; refine append_bytes (.tmp 5) (.tmp 6) rfl rfl rfl (Ow.zero w) (some ad) n c l rfl HN.out (HA.out.alloc _) (by simpa using hl) (by simp) ?_; intro v1 w1 ho1 hg1 ha1)
    go_ret
    obtain ⟨b, hs, hb⟩ := ho1.sl
    exact ⟨v1, b, rfl, by simpa using hs, fun k hk => ⟨(hb k hk).1, (ho1.lt k (hb k hk).2).2⟩, ((Below.refl _ _).alloc (Nat.le_refl _) _).grown hg1 (by simp) (fun k hk => by have hk : some w.heap.size = some k := hk; injection hk with hk; omega)⟩
theorem clip_any (A : Option Addr) (n c : Nat) (w : World) (hc : n ≤ c) : Calls Try.prog 76 #[.slice A n c] w fun e w' => e = .returned (.slice A n n) ∧ w = w' := by
  go_enter Try.func76, Try.ntmps76
  go_wp2
  go_ret
  exact ⟨rfl, rfl⟩

section
variable {w : World} {g : Nat} {nb ob : Option Nat} {d : DkS}
theorem Dk.c (h : Dk w g nb ob d) : w.cell? ⟨g, 0, none⟩ = some (.bool true) ∧ w.cell? ⟨g, 1, none⟩ = some (.int .i64 d.most) ∧ w.cell? ⟨g, 4, none⟩ = some (.int .i64 d.floor) ∧ w.cell? ⟨g, 5, none⟩ = some (.bool d.down) ∧
    w.cell? ⟨g, 6, none⟩ = some (.int .i64 d.armed) ∧ w.cell? ⟨g, 7, none⟩ = some (.int .i64 d.fails) ∧ w.cell? ⟨g, 8, none⟩ = some (.int .i64 d.err) := by
  obtain ⟨nv, ov, h1, _⟩ := h.lies
  exact ⟨h1.cell (by omega), h1.cell (by omega), h1.cell (by omega), h1.cell (by omega), h1.cell (by omega), h1.cell (by omega), h1.cell (by omega)⟩
theorem Dk.nowC (h : Dk w g nb ob d) : ∃ A c, w.cell? ⟨g, 2, none⟩ = some (.slice A d.now.length c) ∧ d.now.length ≤ c ∧ c ≤ 9223372036854775807 ∧ Rd w A d.now ∧ A.map (·.block) = nb := by
  obtain ⟨nv, ov, h1, ⟨A, c, rfl, h2⟩, _⟩ := h.lies
  exact ⟨A, c, h1.cell (by omega), h2⟩
theorem Dk.oldC (h : Dk w g nb ob d) : ∃ A c, w.cell? ⟨g, 3, none⟩ = some (.slice A d.old.length c) ∧ d.old.length ≤ c ∧ c ≤ 9223372036854775807 ∧ Rd w A d.old ∧ A.map (·.block) = ob := by
  obtain ⟨nv, ov, h1, _, ⟨A, c, rfl, h2⟩⟩ := h.lies
  exact ⟨A, c, h1.cell (by omega), h2⟩
theorem Dk.fz (h : Dk w g nb ob d) (j : Nat) : w.frozen? ⟨g, j, none⟩ = false := by
  obtain ⟨nv, ov, h1, _⟩ := h.lies
  exact h1.frozen j
end
theorem none_nil (w : World) : Calls Try.prog 60 #[.pointer none] w fun e w' => e = .returned (.bool true) ∧ w = w' := by
  go_enter Try.func60, Try.ntmps60
  go_wp2
  go_ret
  exact ⟨rfl, rfl⟩
theorem none_zero (g : Nat) (w : World) (h : w.cell? ⟨g, 0, none⟩ = some (.bool false)) : Calls Try.prog 60 #[.pointer (some ⟨g, 0, none⟩)] w fun e w' => e = .returned (.bool true) ∧ w = w' := by
  go_enter Try.func60, Try.ntmps60
  go_wp2
  go_ret
  exact ⟨rfl, rfl⟩
theorem none_any {g : Nat} {nb ob : Option Nat} {d : DkS} {w : World} (h : Dk w g nb ob d) : Calls Try.prog 60 #[.pointer (some ⟨g, 0, none⟩)] w fun e w' => e = .returned (.bool false) ∧ w = w' := by
  have h0 := h.c.1
  go_enter Try.func60, Try.ntmps60
  go_wp2
  go_ret
  exact ⟨rfl, rfl⟩
theorem size_any {g : Nat} {nb ob : Option Nat} {d : DkS} {w : World} (h : Dk w g nb ob d) : Calls Try.prog 31 #[.pointer (some ⟨g, 0, none⟩)] w fun e w' => e = .returned (.int .i64 d.now.length) ∧ w = w' := by
  obtain ⟨A, c, h2, -, -, -, -⟩ := h.nowC
  have H := Lib.hid h
  clear h
  go_enter Try.func31, Try.ntmps31
  go_wp2_with fail
  refine (none_any H.out).mono ?_
  rintro e w' ⟨rfl, rfl⟩
  go_wp2_with fail
  go_ret
  exact ⟨rfl, rfl⟩
end Go.Proofs.Ytmldpamkghdohaa
