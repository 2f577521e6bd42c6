/-
  BEHIND A LIFE: what is left, opened; for JournalKept. Conditions: a journal's file beside a list.
-/
import Derived.Test.YtlhbijpmhokmnaaGreatQ41
namespace Go.Proofs.YtlhbijpmhokmnaaGreat
open Go.RowKit
set_option linter.unusedSimpArgs false
set_option linter.unusedVariables false

/-- What is told is what was kept, or that and the one more. -/
def MoreK (w : World) (v11 v14 : Value) (L L2 : List (List Nat)) : Prop := L2 = L ∨ ∃ b, L2 = L ++ [b] ∧ 1 ≤ b.length ∧ Bod w v11.ownBlock v14 b
section
variable {base : Nat} {w0 Y w w' : World} {gf gd gj gj0 : Nat} {nb ob : Option Nat} {K : TurnK} {pre : List Nat} {p p1 : DkS} {mm : Nat} {L L2 : List (List Nat)} {v v14 : Value} {br : Bool}
theorem Bod.va {own : Option Nat} {u : Value} {l : List Nat} (h : Bod w own u l) (hf : Fv w gf gd nb ob K pre p) (hg : w.grownBy w' (some gd)) : Bod w' own u l := by
  obtain ⟨A, c, rfl, h1, h2, h3, h4⟩ := h
  exact ⟨A, c, rfl, h1, h2, hf.rd h3 hg, fun a ha => ⟨Nat.lt_of_lt_of_le (h4 a ha).1 hg.size, (h4 a ha).2⟩⟩
theorem MoreK.va (h : MoreK w v v14 L L2) (hf : Fv w gf gd nb ob K pre p) (hg : w.grownBy w' (some gd)) : MoreK w' v v14 L L2 :=
  h.imp id fun ⟨b, h1, h2, h3⟩ => ⟨b, h1, h2, h3.va hf hg⟩
theorem crash_state (hst : (br = false ∧ Rest p mm L ∧ v14 = .slice none 0 0) ∨ (br = true ∧ ∃ b, Small b ∧ Torn p mm L b ∧ Bod w v.ownBlock v14 b)) (hsm : Smalls L) (hc : CrashTo p p1) :
    ∃ L2, Both2 p1 mm L2 ∧ Smalls L2 ∧ L2.length ≤ L.length + 1 ∧ MoreK w v v14 L L2 := by
  rcases hst with ⟨-, hr, -⟩ | ⟨-, b, hb, ht, hbod⟩
  · exact ⟨L, (crash_rest hr hsm.good hc).both hsm.good, hsm, Nat.le_succ _, .inl rfl⟩
  · rcases crash_torn ht hsm.good hb.1 hc with h | h
    · exact ⟨L, h, hsm, Nat.le_succ _, .inl rfl⟩
    · exact ⟨L ++ [b], h, hsm.snoc hb, by rw [List.length_append]; exact Nat.le_refl _, .inr ⟨b, rfl, hb.1.1, hbod⟩⟩
/-- Opened, all well, beside a list. -/
theorem jopen_kv (h : Kv base w0 Y w gf gd gj0 K pre p L v) (hgd : gd < Y.heap.size) (hb : Both2 p mm L2) (hs : p.old = p.now) (hc : Calm p) :
    Calls Tryz.prog 8 #[.pointer (some ⟨gf, 0, none⟩)] w fun e w' => ∃ gj u p', e = .returned (.tuple #[.pointer (some ⟨gj, 0, none⟩), u, .int .i64 0]) ∧ Kv base w0 Y w' gf gd gj0 K pre p' L v ∧ Jo w' gj gf L2.length (bas L2).length false ∧ LoY w' w.heap.size u L2 ∧ w.heap.size ≤ gj ∧ Rest p' mm L2 ∧ Calm p' ∧ w.grownBy w' (some gd) := by
  obtain ⟨r, hr⟩ := hb.now
  obtain ⟨k1, k2, k3⟩ := hb.rest hs hc hr
  obtain ⟨nb, ob, hv, hva, -⟩ := h.call hgd
  refine (jopen_told3 hv hc.openG hr).mono ?_
  rintro e w' ⟨nb', ob', s1, s2, s3, s4, ⟨-, gj, u, rfl, q2, q3, q4, -⟩ | ⟨q2, -⟩⟩
  · rw [← bas_length] at q2
    obtain ⟨hk, hg⟩ := hva _ _ ⟨nb', ob', s1, s2, s3, s4⟩
    exact ⟨gj, u, _, rfl, hk, q2, q3, q4, k2, k3, hg⟩
  · exact absurd k1 q2
/-- Behind a crash: the list, the life, and what is told. -/
structure KM (base : Nat) (w0 Y w : World) (gf gd gj0 gx : Nat) (F : Nat → Value) (K : TurnK) (pre : List Nat) (p : DkS) (L : List (List Nat)) (v v14 : Value) (L2 : List (List Nat)) : Prop where
  kv : Kv base w0 Y w gf gd gj0 K pre p L v
  row : w.rowIs gx 58 7 F
  more : MoreK w v v14 L L2
variable {gx : Nat} {F : Nat → Value}
theorem MoreK.below (h : MoreK w v v14 L L2) (hb : Below w.heap.size w w') : MoreK w' v v14 L L2 :=
  h.imp id fun ⟨b, h1, h2, h3⟩ => ⟨b, h1, h2, h3.below hb⟩
theorem KM.below (h : KM base w0 Y w gf gd gj0 gx F K pre p L v v14 L2) (hb : Below w.heap.size w w') : KM base w0 Y w' gf gd gj0 gx F K pre p L v v14 L2 :=
  ⟨h.kv.below hb, below_row hb h.row h.row.lt, h.more.below hb⟩
theorem KM.bel (h : KM base w0 Y w gf gd gj0 gx F K pre p L v v14 L2) : Below base w0 w := by obtain ⟨_, _, _, _, _, _, hb⟩ := h.kv.f; exact hb
theorem km_grown (h : KM base w0 Y w gf gd gj0 gx F K pre p L v v14 L2) (hf : Fv w gf gd nb ob K pre p) (hk : Kv base w0 Y w' gf gd gj0 K pre p1 L v) (hg : w.grownBy w' (some gd)) : KM base w0 Y w' gf gd gj0 gx F K pre p1 L v v14 L2 := by
  obtain ⟨t', n', f', hrowd, rfl⟩ := hf.row
  exact ⟨hk, grown_row hg h.row (rows_apart h.row hrowd (by decide)), h.more.va hf hg⟩
theorem KM.call (h : KM base w0 Y w gf gd gj0 gx F K pre p L v v14 L2) (hgd : gd < Y.heap.size) : ∃ nb ob, Fv w gf gd nb ob K pre p ∧ ∀ p' w', VAfter w gf gd nb ob K pre p' w' → KM base w0 Y w' gf gd gj0 gx F K pre p' L v v14 L2 := by
  obtain ⟨nb, ob, hv, hva, -⟩ := h.kv.call hgd
  refine ⟨nb, ob, hv, fun p' w' ha => ?_⟩
  obtain ⟨hk, hg⟩ := hva _ _ ha
  exact km_grown h hv hk hg
theorem jopen_km (h : KM base w0 Y w gf gd gj0 gx F K pre p L v v14 L2) (hgd : gd < Y.heap.size) (hb : Both2 p mm L2) (hs : p.old = p.now) (hc : Calm p) :
    Calls Tryz.prog 8 #[.pointer (some ⟨gf, 0, none⟩)] w fun e w' => ∃ gj u p', e = .returned (.tuple #[.pointer (some ⟨gj, 0, none⟩), u, .int .i64 0]) ∧ KM base w0 Y w' gf gd gj0 gx F K pre p' L v v14 L2 ∧ Jo w' gj gf L2.length (bas L2).length false ∧ LoY w' w.heap.size u L2 ∧ w.heap.size ≤ gj ∧ Rest p' mm L2 ∧ Calm p' ∧ w.grownBy w' (some gd) := by
  refine (jopen_kv h.kv hgd hb hs hc).mono ?_
  rintro e w' ⟨gj, u, p', rfl, hk, q2, q3, q4, q5, q6, hg⟩
  obtain ⟨nb, ob, hv, -⟩ := h.kv.f.call
  exact ⟨gj, u, p', rfl, km_grown h hv hk hg, q2, q3, q4, q5, q6, hg⟩
theorem rest_now {p : DkS} {m : Nat} {L : List (List Nat)} (h : Rest p m L) : p.old = p.now := by rw [h.old, h.now]
end
end Go.Proofs.YtlhbijpmhokmnaaGreat
