/-
  THE WALKS OF quillpresslaw06.key AND awake. Conditions: none.
-/
import Derived.Test.YtlhbijpmhokmnaaGreatQ25
namespace Go.Proofs.YtlhbijpmhokmnaaGreat
open Go.RowKit
set_option linter.unusedSimpArgs false
set_option linter.unusedVariables false

theorem range_more (k : Nat) : List.range (k + 1) = List.range k ++ [k] := List.range_succ
theorem mk_rd (w : World) (n : Nat) : Rd (w.alloc (.cells (madeCells #[.int .u8 0] n) 5)) (some ⟨w.heap.size, 0, none⟩) (List.replicate n 0) := by
  refine ⟨fun x hx => by rw [(List.mem_replicate.1 hx).2]; omega, fun _ => ⟨_, 0, rfl, by simp, fun i hi => ?_⟩⟩
  rw [List.length_replicate] at hi
  rw [Nat.zero_add, cell_of_row _ _ _ _ _ _ (heap_alloc_new w _)]
  simp [madeCells, hi, nth, Nat.mod_one]
theorem run_mkn (w : World) (n : Nat) (hn : n ≤ 4194304) : (Instr.makeSlice 22 (.int .i64 n) (.int .i64 n)).run Tryz.prog w = .ok (.slice (some ⟨w.heap.size, 0, none⟩) n n) (w.alloc (.cells (madeCells #[.int .u8 0] n) 5)) := by
  obtain ⟨i, hi, hz, hs, hb⟩ := info_parts info_u8
  have h := run_make (P := Tryz.prog) w 22 5 i (.int .u8 0) Tryz.underlying22 hi hz .i64 .i64 n n (by omega) (Int.le_refl _) (by rw [hb]; omega) (by omega)
  rw [hs, Nat.mul_one] at h
  exact h
theorem bs_rep (n : Nat) : bs (List.replicate n 0) = List.replicate n (Value.int .u8 0) := by
  simp [bs]
  exact .inr rfl
theorem mk_ow (w : World) (base n : Nat) (hb : base ≤ w.heap.size) (hn : n ≤ 4194304) : Ow (w.alloc (.cells (madeCells #[.int .u8 0] n) 5)) base (.slice (some ⟨w.heap.size, 0, none⟩) n n) (List.replicate n 0) := by
  refine ⟨fun x hx => by rw [(List.mem_replicate.1 hx).2]; omega, ?_⟩
  rw [List.length_replicate, bs_rep]
  have h := World.ownsRow_lit (base := base) (e := 5) (size := 1) w (madeCells #[.int .u8 0] n) n hb (by unfold maxLen; omega) (by rw [size_madeCells, Nat.mul_one])
  have e : (madeCells #[.int .u8 0] n).toList = List.replicate n (Value.int .u8 0) := by
    apply List.ext_getElem
    · simp [madeCells]
    · intro i h1 h2
      simp [madeCells, Nat.mod_one]
  rwa [e] at h

theorem encrypt_rd (g : Nat) (A : Option Addr) (n cap : Nat) (kb : Nat → Nat) (l : List Nat) (w : World) (hn : n = 16) (hl : l.length = 16) (hc : Cph w g kb) (hkb : ∀ i, i < 240 → kb i < 256) (hr : Rd w A l) :
    Calls Tryz.prog 100 #[.pointer (some ⟨g, 0, none⟩), .slice A n cap] w fun e w' => ∃ g', e = .returned (.tuple #[.slice (some ⟨g', 0, none⟩) 16 16, .int .i64 0]) ∧ w.heap.size ≤ g' ∧
      Rd w' (some ⟨g', 0, none⟩) ((List.range 16).map (encN kb (nth l) 14)) ∧ Below w.heap.size w w' := by
  subst hn
  obtain ⟨gi, oi, rfl, -, hcell⟩ := hr.2 (by rintro rfl; simp at hl)
  rw [hl] at hcell
  refine (encrypt_any g gi oi cap kb (nth l) w hc hkb (fun i _ => nth_lt hr.1 i) hcell).mono ?_
  rintro e w2 ⟨rfl, hr2, hb2⟩
  exact ⟨_, rfl, Nat.le_refl _, row_rd hr2 (fun i hi => encN_lt hkb (fun i _ => nth_lt hr.1 i) 14 (by omega) i hi), hb2⟩
def z15 : List Nat := List.replicate 15 0
end Go.Proofs.YtlhbijpmhokmnaaGreat
