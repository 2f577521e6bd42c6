/-
  ADD ON A DISK THAT IS FULL; a conversion behind another block; plain laws for JournalNumbers. Conditions: none.
-/
import Derived.Test.YtlhbijpmhokmnaaGreatQ43
namespace Go.Proofs.YtlhbijpmhokmnaaGreat
open Go.RowKit
set_option linter.unusedSimpArgs false
set_option linter.unusedVariables false

section
variable {p p' : DkS} {m : Nat} {B hd b cm : List Nat} {L : List (List Nat)}
theorem Calm.step4 (hc : Calm p) {k : Nat} (hk : k < 4) (h : Mid p m B (tA hd b cm k) (oA hd b cm k)) (hm : B.length + (hd ++ b).length ≤ m) : (stepA hd b cm k p).1 = 0 ∧ Calm (stepA hd b cm k p).2 ∧ Mid (stepA hd b cm k p).2 m B (tA hd b cm (k + 1)) (oA hd b cm (k + 1)) := by
  rw [List.length_append] at hm
  have ha : ∀ x t o : List Nat, Mid p m B t o → B.length + t.length + x.length ≤ m → (p.append x).1 = 0 ∧ Calm (p.append x).2 ∧ Mid (p.append x).2 m B (t ++ x) o := by
    intro x t o h hx
    have e := hc.append x (by rw [h.now, h.most, List.length_append]; exact hx)
    refine ⟨by rw [e], by rw [e]; exact ⟨hc.down, hc.armed, hc.fails⟩, ?_⟩
    rcases h.append x hx with ⟨_, q⟩ | ⟨q, _⟩
    · exact q
    · rw [e] at q; exact absurd rfl q
  have hs : ∀ t o : List Nat, Mid p m B t o → p.sync.1 = 0 ∧ Calm p.sync.2 ∧ Mid p.sync.2 m B t t := by
    intro t o h
    have e := hc.sync
    refine ⟨by rw [e], by rw [e]; exact ⟨hc.down, hc.armed, hc.fails⟩, ?_⟩
    rcases h.sync with ⟨_, q⟩ | ⟨q, _⟩
    · exact q
    · rw [e] at q; exact absurd rfl q
  match k, hk, h with
  | 0, _, h => exact ha hd [] [] h (by show B.length + 0 + _ ≤ _; omega)
  | 1, _, h => exact hs _ _ h
  | 2, _, h => exact ha b hd hd h (by omega)
  | 3, _, h => exact hs _ _ h
theorem Calm.run4 (hc : Calm p) (h : Mid p m B [] []) (hm : B.length + (hd ++ b).length ≤ m) : ∀ k, k ≤ 4 → (∀ i, i < k → (stepA hd b cm i (runA hd b cm i p)).1 = 0) ∧ Calm (runA hd b cm k p) ∧ Mid (runA hd b cm k p) m B (tA hd b cm k) (oA hd b cm k)
  | 0, _ => ⟨fun i hi => absurd hi (Nat.not_lt_zero _), hc, h⟩
  | k + 1, hk => by
    obtain ⟨h1, h2, h3⟩ := Calm.run4 hc h hm k (by omega)
    obtain ⟨q1, q2, q3⟩ := h2.step4 (cm := cm) (by omega) h3 hm
    refine ⟨fun i hi => ?_, q2, q3⟩
    rcases Nat.lt_or_ge i k with q | q
    · exact h1 i q
    · obtain rfl : i = k := by omega
      exact q1
theorem back_calm {t o : List Nat} (hc : Calm p) (h : Mid p m B t o) : (backD p B.length).1 = 0 ∧ Calm (backD p B.length).2 ∧ Mid (backD p B.length).2 m B [] [] := by
  have e : (backD p B.length).1 = 0 ∧ Calm (backD p B.length).2 := by
    unfold backD
    rw [hc.cut, if_neg (by simp)]
    have hq : Calm { p with now := p.now.take B.length, floor := min p.floor B.length } := ⟨hc.down, hc.armed, hc.fails⟩
    show (DkS.sync { p with now := p.now.take B.length, floor := min p.floor B.length }).1 = 0 ∧ Calm (DkS.sync { p with now := p.now.take B.length, floor := min p.floor B.length }).2
    rw [hq.sync]
    exact ⟨rfl, hc.down, hc.armed, hc.fails⟩
  refine ⟨e.1, e.2, ?_⟩
  rcases h.back with ⟨_, q⟩ | ⟨q, _⟩
  · exact q
  · exact absurd e.1 q
theorem full_out {r : Int} {n' e' : Nat} {br : Bool} (hc : Calm p) (h : Rest p m L) (hm1 : (bas L).length + 29 + b.length ≤ m) (hm2 : m < (bas L).length + 54 + b.length)
    (ho : AddOut (headL (L.length + 1) b.length) b (commitL (L.length + 1) (headL (L.length + 1) b.length) b) L.length (bas L).length p r p' n' e' br) :
    r = 5 ∧ Rest p' m L ∧ n' = L.length ∧ e' = (bas L).length ∧ br = false ∧ Calm p' := by
  have hm' : (bas L).length + (headL (L.length + 1) b.length ++ b).length ≤ m := by rw [List.length_append, headL_length]; omega
  obtain ⟨h1, h2, h3⟩ := hc.run4 (cm := commitL (L.length + 1) (headL (L.length + 1) b.length) b) h hm' 4 (Nat.le_refl _)
  have h4 : stepA (headL (L.length + 1) b.length) b (commitL (L.length + 1) (headL (L.length + 1) b.length) b) 4 (runA (headL (L.length + 1) b.length) b (commitL (L.length + 1) (headL (L.length + 1) b.length) b) 4 p) = (5, runA (headL (L.length + 1) b.length) b (commitL (L.length + 1) (headL (L.length + 1) b.length) b) 4 p) := by
    show DkS.append _ _ = _
    unfold DkS.append
    rw [h2.op, if_pos]
    have hn := congrArg List.length h3.now
    rw [List.length_append] at hn
    have ht : (tA (headL (L.length + 1) b.length) b (commitL (L.length + 1) (headL (L.length + 1) b.length) b) 4).length = 29 + b.length := by
      show (headL (L.length + 1) b.length ++ b).length = _
      rw [List.length_append, headL_length]
    rw [h3.most, hn, ht, commitL_length]
    omega
  rcases ho with ⟨k, hk, hall, q1, q2, rfl, rfl, rfl, rfl⟩ | ⟨hall, -⟩
  · have hk4 : k = 4 := by
      rcases Nat.lt_trichotomy k 4 with q | q | q
      · exact absurd (q1.symm.trans (h1 k q)) q2
      · exact q
      · have := hall 4 q
        rw [h4] at this
        exact absurd (show (5 : Int) = 0 from this) (by decide)
    subst hk4
    rw [h4] at q1
    have hr : runA (headL (L.length + 1) b.length) b (commitL (L.length + 1) (headL (L.length + 1) b.length) b) (4 + 1) p = runA (headL (L.length + 1) b.length) b (commitL (L.length + 1) (headL (L.length + 1) b.length) b) 4 p := by
      show (stepA _ _ _ 4 _).2 = _
      rw [h4]
    rw [hr]
    obtain ⟨k1, k2, k3⟩ := back_calm h2 h3
    exact ⟨q1.symm, k3, rfl, rfl, by simp [k1], k2⟩
  · have := hall 4 (by omega)
    rw [h4] at this
    exact absurd (show (5 : Int) = 0 from this) (by decide)
end
/-- Cut short ahead of the commit: nothing is told. -/
theorem short_told {p : DkS} {m a : Nat} {b : List Nat} (keep : Int) (hk : 0 ≤ keep) (junk : List Nat) (ha : a < 5) (hg : GoodB b) (h : Mid p m (bas []) (tA (headL 1 b.length) b (commitL 1 (headL 1 b.length) b) a) (oA (headL 1 b.length) b (commitL 1 (headL 1 b.length) b) a)) : ∃ r, Told (crLeft p keep junk) [] r := by
  have hfl : p.floor ≤ p.now.length := by
    rw [h.floor, h.now, List.length_append]
    have := (oA_tA (headL 1 b.length) b (commitL 1 (headL 1 b.length) b) a (by omega)).length_le
    omega
  rcases crash_torn (L := []) (b := b) ⟨a, by omega, .inl h⟩ (fun x hx => by cases hx) hg (crash_to_plain hfl keep hk junk) with h1 | h1
  · exact h1.now
  · exfalso
    obtain ⟨r, hr⟩ := h1.now
    have hr : Told (crLeft p keep junk) [b] r := hr
    have hl := congrArg List.length hr.bas'
    rw [List.length_append, bas_one_len] at hl
    have hle := (crLeft_two p hfl keep hk junk).2.1
    have hnl : p.now.length = 21 + (tA (headL 1 b.length) b (commitL 1 (headL 1 b.length) b) a).length := by rw [h.now, List.length_append, bas_nil]; rfl
    have := tA_len 1 b a ha
    omega
theorem convert_two (w : World) (C : Array Value) (n c : Nat) (o : Obj) :
    (convert 22 22 (.slice (some ⟨w.heap.size, 0, none⟩) n c)).run Tryz.prog ((w.alloc (.cells C 5)).alloc o) = .ok (.slice (some ⟨w.heap.size, 0, none⟩) n c) ((w.alloc (.cells C 5 (C.size, C.size + 1))).alloc o) := by
  have hget : ((w.alloc (.cells C 5)).alloc o).heap[w.heap.size]? = some (.cells C 5) := by
    show ((w.heap.push (.cells C 5)).push o)[w.heap.size]? = _
    rw [Array.getElem?_push_lt (by simp)]
    simp
  have hsh : ((w.alloc (.cells C 5)).alloc o).shape? w.heap.size = some (5, C.size) := by
    unfold World.shape?
    rw [hget]
  have hfr : ∀ (k : Nat), ((w.alloc (.cells C 5)).alloc o).freeze ⟨w.heap.size, k, none⟩ 1 = (w.alloc (.cells C 5 (k, k + 1))).alloc o := fun k => by
    have hm : ∀ (a : Array Obj) (x y : Obj) (f : Obj → Obj), ((a.push x).push y).modify a.size f = (a.push (f x)).push y := by
      intro a x y f
      apply Array.ext
      · simp
      · intro i h1 h2
        simp only [Array.getElem_modify, Array.getElem_push]
        have hs : i < a.size + 2 := by simp at h1; omega
        by_cases h : a.size = i
        · subst h
          simp
        · by_cases h' : i < a.size
          · simp [h, h', show i < a.size + 1 by omega]
          · simp [h, h', show ¬ i < a.size + 1 by omega]
    unfold World.freeze
    rw [if_neg (by decide)]
    show ({ ((w.alloc (.cells C 5)).alloc o) with heap := ((w.heap.push (.cells C 5)).push o).modify w.heap.size _ } : World) = _
    rw [hm]
    rfl
  simp [convert, run_underlying Tryz.underlying22, run_underlying Tryz.underlying5, markStringish, hsh]
  exact hfr _
end Go.Proofs.YtlhbijpmhokmnaaGreat
