/-
  THE WALK OF disk's Append. Conditions: the disk lies in memory, the bytes read as a list.
-/
import Derived.Test.YtmldpamkghdohaaDiskW4
namespace Go.Proofs.Ytmldpamkghdohaa
open Go.RowKit
set_option linter.unusedSimpArgs false
set_option linter.unusedVariables false

theorem After.from {w W w' : World} {g : Nat} {nb ob : Option Nat} {d : DkS} (hg : w.grownBy W (some g)) (h : After W g nb ob d w') : After w g nb ob d w' := by
  obtain ⟨n', o', h1, h2, h3, h4⟩ := h
  have key : ∀ x y, New W x y → New w x y := fun x y h => by
    rcases h with h | h
    · exact .inl h
    · exact .inr fun k e => Nat.le_trans hg.size (h k e)
  exact ⟨n', o', h1, h2.imp (key _ _) (key _ _), h3.imp (key _ _) (key _ _), nil_grown hg h4⟩
/-- Bytes do not lie in a disk's own block. -/
theorem Dk.apart {w : World} {g : Nat} {nb ob : Option Nat} {d : DkS} (h : Dk w g nb ob d) {A : Option Addr} {m : List Nat} (hr : Rd w A m) : m = [] ∨ ∃ b o, A = some ⟨b, o, none⟩ ∧ b ≠ g ∧ b < w.heap.size := by
  by_cases hm : m = []
  · exact .inl hm
  · obtain ⟨b, o, rfl, hb, hc⟩ := hr.2 hm
    refine .inr ⟨b, o, rfl, ?_, hb⟩
    rintro rfl
    have h0 := hc 0 (List.length_pos_iff.2 hm)
    obtain ⟨nv, ov, ⟨cs, h1, h2, h3⟩, ⟨A1, c1, rfl, _⟩, ⟨A2, c2, rfl, _⟩⟩ := h.lies
    rw [Nat.add_zero, cell_of_row _ _ _ _ _ _ h1] at h0
    rcases Nat.lt_or_ge o 9 with ho | ho
    · rw [h3 o ho] at h0
      rcases (show o = 0 ∨ o = 1 ∨ o = 2 ∨ o = 3 ∨ o = 4 ∨ o = 5 ∨ o = 6 ∨ o = 7 ∨ o = 8 by omega) with rfl | rfl | rfl | rfl | rfl | rfl | rfl | rfl | rfl <;> simp [dkC] at h0
    · rw [Array.getElem?_eq_none (by omega)] at h0
      cases h0
theorem Dk.rd {w w' : World} {g : Nat} {nb ob : Option Nat} {d : DkS} (h : Dk w g nb ob d) {A : Option Addr} {m : List Nat} (hr : Rd w A m) (hg : w.grownBy w' (some g)) : Rd w' A m := by
  rcases h.apart hr with rfl | ⟨b, o, rfl, hb, hl⟩
  · exact ⟨hr.1, fun h => absurd rfl h⟩
  · exact hr.grown hg (fun a e => by injection e with e; subst e; intro e; injection e with e; exact hb e)
set_option maxRecDepth 100000 in
set_option maxHeartbeats 1000000 in
theorem append_any {g : Nat} {nb ob : Option Nat} {d : DkS} {w : World} (h : Dk w g nb ob d) (A : Option Addr) (c : Nat) (m : List Nat) (hm : m.length ≤ 5000000) (hr : Rd w A m) :
    Calls Try.prog 55 #[.pointer (some ⟨g, 0, none⟩), .slice A m.length c] w (Ret fun r w' => After w g nb ob (d.append m).2 w' ∧ r = (d.append m).1) := by
  have hgl := h.lt
  have H := Lib.hid h
  have HR := Lib.hid hr
  clear h hr
  go_enter Try.func55, Try.ntmps55
  go_wp2_with fail
  have hg0 : Below w.heap.size w ((w.alloc (.cells #[.pointer (some ⟨g, 0, none⟩)] 47)).alloc (.cells #[.slice A m.length c] 26)) := ((Below.refl _ _).alloc (Nat.le_refl _) _).alloc (by simp) _
  have c1 : ((w.alloc (.cells #[.pointer (some ⟨g, 0, none⟩)] 47)).alloc (.cells #[.slice A m.length c] 26)).cell? ⟨w.heap.size + 1, 0, none⟩ = some (.slice A m.length c) := by
    rw [cell_of_row _ _ _ _ _ _ (heap_alloc2_new _ _ _)]; rfl
  have c2 : ((w.alloc (.cells #[.pointer (some ⟨g, 0, none⟩)] 47)).alloc (.cells #[.slice A m.length c] 26)).cell? ⟨w.heap.size, 0, none⟩ = some (.pointer (some ⟨g, 0, none⟩)) := by
    rw [cell_of_row _ _ _ _ _ _ (heap_alloc2_old _ _ _)]; rfl
  have hs : ((w.alloc (.cells #[.pointer (some ⟨g, 0, none⟩)] 47)).alloc (.cells #[.slice A m.length c] 26)).heap.size = w.heap.size + 2 := by simp
  generalize (w.alloc (.cells #[.pointer (some ⟨g, 0, none⟩)] 47)).alloc (.cells #[.slice A m.length c] 26) = W at *
  have HD := Lib.hid (H.out.below hg0)
  have HG := Lib.hid (grown_of_below hg0 (some g))
  have HS := Lib.hid hs
  have HRW := Lib.hid (HR.out.below hg0)
  have C1 := Lib.hid c1
  clear hg0 hs c1
  refine (none_any HD.out).mono ?_
  rintro e w' ⟨rfl, rfl⟩
  have C2 := Lib.hid c2
  go_wp2_with fail
  have hah : Ahead 75 #[.pointer (some ⟨w.heap.size + 1, 0, none⟩), .pointer (some ⟨w.heap.size, 0, none⟩)] g nb ob d W (fun r w' => After w g nb ob (d.append m).2 w' ∧ r = (d.append m).1) := by
    refine ⟨fun w2 hp hd hg hsz => ?_, fun w2 er hp hd hg hsz => ?_⟩
    · have hw2 := hd.wf
      refine (append1 hd (w.heap.size + 1) w.heap.size A c m hm ?_ ?_ ?_ (by omega) (by omega)).mono ?_
      · exact HD.out.rd HRW.out hg
      · exact (World.cell?_of_block (hg.block (w.heap.size + 1) (by rw [HS.out]; omega) (by intro e; injection e with e; omega))).trans C1.out
      · exact (World.cell?_of_block (hg.block w.heap.size (by rw [HS.out]; omega) (by intro e; injection e with e; omega))).trans C2.out
      · rintro e w' ⟨r, rfl, ha, rfl⟩
        have he : d.append m = app1 m d.pre.2 := by
          unfold DkS.append DkS.op
          cases hq : d.pre with
          | mk x y => rw [hq] at hp; have : x = none := hp; subst this; rfl
        exact ⟨_, rfl, by rw [he]; exact (ha.from hg).from HG.out, by rw [he]⟩
    · have he : d.append m = (er, d.pre.2) := by
        unfold DkS.append DkS.op
        cases hq : d.pre with
        | mk x y => rw [hq] at hp; have : x = some er := hp; subst this; rfl
      rw [he]
      exact ⟨((hd.after hg).from HG.out), rfl⟩
  refine (op_any _ _ HD.out (fun W => ?_) hah).mono ?_
  · kernel_rfl
  rintro e w' ⟨r, rfl, hr⟩
  have HRR := Lib.hid hr
  clear hr hah
  go_wp2_with fail
  go_ret
  exact ⟨r, rfl, HRR.out⟩
end Go.Proofs.Ytmldpamkghdohaa
