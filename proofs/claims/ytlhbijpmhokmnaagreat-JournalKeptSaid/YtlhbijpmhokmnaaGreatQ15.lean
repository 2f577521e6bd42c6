/-
  THE WALKS OF disk's Truncate (outer), ReadAt, Load, New, Copy. Conditions: the disk lies in memory.
  A BYTE WRITTEN INTO A SLICE OF THE CALL's OWN.
-/
import Derived.Test.YtlhbijpmhokmnaaGreatQ14
import Derived.Test.YtlhbijpmhokmnaaGreatQ01
namespace Go.Proofs.YtlhbijpmhokmnaaGreat
open Go.RowKit
set_option linter.unusedSimpArgs false
set_option linter.unusedVariables false

/-- What Truncate asks. -/
def truncB (d : DkS) (n : Int) : Bool := decide (n < 0) || decide ((d.now.length : Int) < n)
set_option maxRecDepth 100000 in
set_option maxHeartbeats 1000000 in
theorem trunc_no {g : Nat} {nb ob : Option Nat} {d : DkS} {w : World} (h : Dk w g nb ob d) (n : Int) (hn : truncB d n = true) :
    Calls Tryz.prog 44 #[.pointer (some ⟨g, 0, none⟩), .int .i64 n] w fun e w' => e = .returned (.int .i64 2) ∧ Below w.heap.size w w' := by
  have hgl := h.lt
  have H := Lib.hid h
  clear h
  by_cases k1 : n < 0
  all_goals
    first
      | (have k2 : decide (n < 0) = true := decide_eq_true k1
         clear hn)
      | (have k2 : decide (n < 0) = false := decide_eq_false k1
         have k3 : (d.now.length : Int) < n := by unfold truncB at hn; rw [k2] at hn; simpa using hn
         clear hn)
    go_enter Tryz.func44, Tryz.ntmps44
    go_wp2_with fail
    have hg0 : Below w.heap.size w ((w.alloc (.cells #[.pointer (some ⟨g, 0, none⟩)] 23)).alloc (.cells #[.int .i64 n] 3)) := ((Below.refl _ _).alloc (Nat.le_refl _) _).alloc (by simp) _
    have c1 : ((w.alloc (.cells #[.pointer (some ⟨g, 0, none⟩)] 23)).alloc (.cells #[.int .i64 n] 3)).cell? ⟨w.heap.size + 1, 0, none⟩ = some (.int .i64 n) := by
      rw [cell_of_row _ _ _ _ _ _ (heap_alloc2_new _ _ _)]; rfl
    have c2 : ((w.alloc (.cells #[.pointer (some ⟨g, 0, none⟩)] 23)).alloc (.cells #[.int .i64 n] 3)).cell? ⟨w.heap.size, 0, none⟩ = some (.pointer (some ⟨g, 0, none⟩)) := by
      rw [cell_of_row _ _ _ _ _ _ (heap_alloc2_old _ _ _)]; rfl
    have hs : ((w.alloc (.cells #[.pointer (some ⟨g, 0, none⟩)] 23)).alloc (.cells #[.int .i64 n] 3)).heap.size = w.heap.size + 2 := by simp
    generalize (w.alloc (.cells #[.pointer (some ⟨g, 0, none⟩)] 23)).alloc (.cells #[.int .i64 n] 3) = W at *
    have HD := Lib.hid (H.out.below hg0)
    have HG := Lib.hid (grown_of_below hg0 (some g))
    have HS := Lib.hid hs
    have C1 := Lib.hid c1
    have HBW := Lib.hid hg0
    clear hg0 hs
    refine (none_any HD.out).mono ?_
    rintro e w' ⟨rfl, rfl⟩
    have C2 := Lib.hid c2
    obtain ⟨B, cb, hcn, hb1, hb2, -, -⟩ := HD.out.nowC
    go_wp2_with fail
    go_quiet (fail)
    go_wp2
    go_ret
    exact ⟨rfl, below_drewN' HBW.out _⟩
set_option maxRecDepth 100000 in
set_option maxHeartbeats 1000000 in
theorem trunc_any {g : Nat} {nb ob : Option Nat} {d : DkS} {w : World} (h : Dk w g nb ob d) (n : Nat) (hn : n ≤ d.now.length) :
    Calls Tryz.prog 44 #[.pointer (some ⟨g, 0, none⟩), .int .i64 n] w (Ret fun r w' => After w g nb ob (d.op fun d => (0, { d with now := d.now.take n, floor := min d.floor n })).2 w' ∧ r = (d.op fun d => (0, { d with now := d.now.take n, floor := min d.floor n })).1) := by
  have hgl := h.lt
  have H := Lib.hid h
  have k1 : decide ((n : Int) < 0) = false := decide_eq_false (by omega)
  have k2 : decide ((d.now.length : Int) < n) = false := decide_eq_false (by omega)
  clear h
  go_enter Tryz.func44, Tryz.ntmps44
  go_wp2_with fail
  have hg0 : Below w.heap.size w ((w.alloc (.cells #[.pointer (some ⟨g, 0, none⟩)] 23)).alloc (.cells #[.int .i64 n] 3)) := ((Below.refl _ _).alloc (Nat.le_refl _) _).alloc (by simp) _
  have c1 : ((w.alloc (.cells #[.pointer (some ⟨g, 0, none⟩)] 23)).alloc (.cells #[.int .i64 n] 3)).cell? ⟨w.heap.size + 1, 0, none⟩ = some (.int .i64 n) := by
    rw [cell_of_row _ _ _ _ _ _ (heap_alloc2_new _ _ _)]; rfl
  have c2 : ((w.alloc (.cells #[.pointer (some ⟨g, 0, none⟩)] 23)).alloc (.cells #[.int .i64 n] 3)).cell? ⟨w.heap.size, 0, none⟩ = some (.pointer (some ⟨g, 0, none⟩)) := by
    rw [cell_of_row _ _ _ _ _ _ (heap_alloc2_old _ _ _)]; rfl
  have hs : ((w.alloc (.cells #[.pointer (some ⟨g, 0, none⟩)] 23)).alloc (.cells #[.int .i64 n] 3)).heap.size = w.heap.size + 2 := by simp
  generalize (w.alloc (.cells #[.pointer (some ⟨g, 0, none⟩)] 23)).alloc (.cells #[.int .i64 n] 3) = W at *
  have HD := Lib.hid (H.out.below hg0)
  have HG := Lib.hid (grown_of_below hg0 (some g))
  have HS := Lib.hid hs
  have C1 := Lib.hid c1
  have HBW := Lib.hid hg0
  clear hg0 hs
  refine (none_any HD.out).mono ?_
  rintro e w' ⟨rfl, rfl⟩
  have C2 := Lib.hid c2
  obtain ⟨B, cb, hcn, hb1, hb2, -, -⟩ := HD.out.nowC
  go_wp2_with fail
  go_quiet (fail)
  replace HD := Lib.hid (HD.out.below (below_drewN' (Below.refl _ _) nq))
  replace HG := Lib.hid (grown_drewN HG.out nq)
  replace HS : Hid ((W.drewN nq).heap.size = w.heap.size + 2) := HS.out
  replace C1 : Hid ((W.drewN nq).cell? ⟨w.heap.size + 1, 0, none⟩ = some (.int .i64 n)) := C1.out
  replace C2 : Hid ((W.drewN nq).cell? ⟨w.heap.size, 0, none⟩ = some (.pointer (some ⟨g, 0, none⟩))) := C2.out
  have c2' := C2.out
  clear c1 c2 hcn HBW
  generalize W.drewN nq = X at *
  go_wp2_with fail
  refine (op_any _ _ HD.out (fun W => ?_) (op_of (fun d => (0, { d with now := d.now.take n, floor := min d.floor n })) HD.out HG.out fun w2 hd hg hsz => ?_)).mono ?_
  · kernel_rfl
  · refine trunc1 hd w.heap.size (w.heap.size + 1) n (by rw [(DkS.pre_keeps d).2.1]; exact hn) ?_ ?_ (by omega) (by omega)
    · exact (World.cell?_of_block (hg.block w.heap.size (by rw [HS.out]; omega) (by intro e; injection e with e; omega))).trans C2.out
    · exact (World.cell?_of_block (hg.block (w.heap.size + 1) (by rw [HS.out]; omega) (by intro e; injection e with e; omega))).trans C1.out
  rintro e w' ⟨r, rfl, hr⟩
  have HRR := Lib.hid hr
  clear hr
  go_wp2_with fail
  go_ret
  exact ⟨r, rfl, HRR.out⟩

/-- A new disk. -/
def mkD (most : Nat) (b : List Nat) : DkS := ⟨most, b, b, b.length, false, -1, 0, 0⟩
theorem mkD_wf {most : Nat} {b : List Nat} (h1 : most ≤ 4194304) (h2 : b.length ≤ most) : (mkD most b).Wf := ⟨h1, h2, h2, h2, by simp [mkD], by simp [mkD], by simp [mkD]⟩
theorem sl_len {w : World} {v : Value} {l : List Nat} {b : Option Nat} (h : Sl w v l b) : ∃ A c, v = .slice A l.length c ∧ Rd w A l := by
  obtain ⟨A, c, e, _, _, h, _⟩ := h
  exact ⟨A, c, e, h⟩
set_option maxRecDepth 100000 in
set_option maxHeartbeats 1000000 in
theorem load_any (most : Nat) (A : Option Addr) (c : Nat) (b : List Nat) (w : World) (hm : most ≤ 4194304) (hb : b.length ≤ most) (hr : Rd w A b) :
    Calls Tryz.prog 6 #[.int .i64 most, .slice A b.length c] w fun e w' => ∃ g nb ob, e = .returned (.tuple #[.pointer (some ⟨g, 0, none⟩), .int .i64 0]) ∧ Dk w' g nb ob (mkD most b) ∧ w.heap.size ≤ g ∧ (∀ k, nb = some k → w.heap.size ≤ k) ∧ (∀ k, ob = some k → w.heap.size ≤ k) ∧ Below w.heap.size w w' := by
  have k1 : decide ((most : Int) < 0) = false := decide_eq_false (by omega)
  have k2 : decide ((4194304 : Int) < most) = false := decide_eq_false (by omega)
  have k3 : decide ((most : Int) < b.length) = false := decide_eq_false (by omega)
  have HR := Lib.hid hr
  clear hr
  go_enter Tryz.func6, Tryz.ntmps6
  go_wp2_with fail
  refine (clone_lt A _ c b _ rfl HR.out (by omega)).mono ?_
  rintro e w1 ⟨v1, b1, rfl, hs1, hn1, hb1⟩
  have HS1 := Lib.hid hs1
  have HN1 := Lib.hid hn1
  have HB1 := Lib.hid hb1
  clear hs1 hn1 hb1
  go_wp2_with fail
  refine (clone_lt A _ c b _ rfl (HR.out.below HB1.out) (by omega)).mono ?_
  rintro e w2 ⟨v2, b2, rfl, hs2, hn2, hb2⟩
  obtain ⟨A1, c1, rfl, q1⟩ := HS1.out
  obtain ⟨A2, c2, rfl, q2⟩ := hs2
  have HS1' : Hid (Sl w2 (.slice A1 b.length c1) b b1) := Sl.below ⟨A1, c1, rfl, q1⟩ hb2
  have HS2 : Hid (Sl w2 (.slice A2 b.length c2) b b2) := ⟨A2, c2, rfl, q2⟩
  have HN2 := Lib.hid hn2
  have HB2 : Hid (Below w.heap.size w w2) := HB1.out.trans (hb2.mono HB1.out.size)
  have hsz := HB2.out.size
  have hz12 := hb2.size
  clear q1 q2 hn2 hb2
  go_wp2_with fail
  go_ret2
  have hbl := HB2.out.alloc HB2.out.size (.cells #[.bool true, .int .i64 most, .slice A1 b.length c1, .slice A2 b.length c2, .int .i64 b.length, .bool false, .int .i64 (-1), .int .i64 0, .int .i64 0] 63)
  have hlt1 : ∀ k, b1 = some k → k ≠ w2.heap.size := fun k e => by have := (HN1.out k e).2; omega
  have hlt2 : ∀ k, b2 = some k → k ≠ w2.heap.size := fun k e => by have := (HN2.out k e).2; omega
  refine ⟨w2.heap.size, b1, b2, rfl, ⟨mkD_wf hm hb, fun e => hlt1 _ e rfl, fun e => hlt2 _ e rfl, fun k e => by have := (HN1.out k e).2; rw [World.size_alloc]; omega, fun k e => by have := (HN2.out k e).2; rw [World.size_alloc]; omega, _, _, ⟨_, heap_alloc_new w2 _, rfl, fun i hi => ?_⟩, HS1'.out.below ((Below.refl _ _).alloc (Nat.le_refl _) _), HS2.out.below ((Below.refl _ _).alloc (Nat.le_refl _) _)⟩, hsz, fun k e => (HN1.out k e).1, fun k e => Nat.le_trans HB1.out.size (HN2.out k e).1, hbl⟩
  match i, hi with
  | 0, _ => rfl
  | 1, _ => rfl
  | 2, _ => rfl
  | 3, _ => rfl
  | 4, _ => rfl
  | 5, _ => rfl
  | 6, _ => rfl
  | 7, _ => rfl
  | 8, _ => rfl
set_option maxRecDepth 100000 in
set_option maxHeartbeats 1000000 in
theorem load_no (most : Int) (A : Option Addr) (n c : Nat) (w : World) (hb : (decide (most < 0) || decide (4194304 < most) || decide (most < n)) = true) :
    Calls Tryz.prog 6 #[.int .i64 most, .slice A n c] w fun e w' => e = .returned (.tuple #[.pointer none, .int .i64 2]) ∧ w = w' := by
  by_cases h1 : most < 0
  · clear hb
    go_enter Tryz.func6, Tryz.ntmps6
    go_wp2
    go_ret2
    exact ⟨rfl, rfl⟩
  · by_cases h2 : 4194304 < most
    · clear hb
      go_enter Tryz.func6, Tryz.ntmps6
      go_wp2
      go_ret2
      exact ⟨rfl, rfl⟩
    · have h3 : most < n := by simpa [h1, h2] using hb
      clear hb
      go_enter Tryz.func6, Tryz.ntmps6
      go_wp2
      go_ret2
      exact ⟨rfl, rfl⟩
theorem new_any' (most : Nat) (w : World) (hm : most ≤ 4194304) :
    Calls Tryz.prog 20 #[.int .i64 most] w fun e w' => ∃ g nb ob, e = .returned (.tuple #[.pointer (some ⟨g, 0, none⟩), .int .i64 0]) ∧ Dk w' g nb ob (mkD most []) ∧ w.heap.size ≤ g ∧ (∀ k, nb = some k → w.heap.size ≤ k) ∧ (∀ k, ob = some k → w.heap.size ≤ k) ∧ Below w.heap.size w w' := by
  go_enter Tryz.func20, Tryz.ntmps20
  go_wp2_with fail
  refine (load_any most none 0 [] w hm (by simp) Rd.nil).mono ?_
  rintro e w' ⟨g, nb, ob, rfl, hd⟩
  have HD := Lib.hid hd
  clear hd
  go_wp2_with fail
  go_ret2
  exact ⟨g, nb, ob, rfl, HD.out⟩
theorem new_no (most : Int) (w : World) (hb : (decide (most < 0) || decide (4194304 < most)) = true) :
    Calls Tryz.prog 20 #[.int .i64 most] w fun e w' => e = .returned (.tuple #[.pointer none, .int .i64 2]) ∧ w = w' := by
  go_enter Tryz.func20, Tryz.ntmps20
  go_wp2_with fail
  refine (load_no most none 0 0 w (by rw [hb]; rfl)).mono ?_
  rintro e w' ⟨rfl, rfl⟩
  go_wp2_with fail
  go_ret2
  exact ⟨rfl, rfl⟩

/-- A copy. -/
theorem dk_vals {w : World} {g : Nat} {nb ob : Option Nat} {d : DkS} (h : Dk w g nb ob d) : ∃ cs : Array Value, w.heap[g]? = some (.cells cs 63 (0, 0)) ∧ ∃ nv ov, Sl w nv d.now nb ∧ Sl w ov d.old ob ∧ cs = #[.bool true, .int .i64 d.most, nv, ov, .int .i64 d.floor, .bool d.down, .int .i64 d.armed, .int .i64 d.fails, .int .i64 d.err] := by
  obtain ⟨nv, ov, ⟨cs, h1, h2, h3⟩, h4, h5⟩ := h.lies
  refine ⟨cs, h1, nv, ov, h4, h5, ?_⟩
  apply Array.ext'
  apply List.ext_getElem?
  intro i
  rw [Array.getElem?_toList]
  rcases Nat.lt_or_ge i 9 with hi | hi
  · rw [h3 i hi]
    match i, hi with
    | 0, _ => rfl
    | 1, _ => rfl
    | 2, _ => rfl
    | 3, _ => rfl
    | 4, _ => rfl
    | 5, _ => rfl
    | 6, _ => rfl
    | 7, _ => rfl
    | 8, _ => rfl
  · rw [Array.getElem?_eq_none (by omega), List.getElem?_eq_none (by simpa using hi)]
set_option maxRecDepth 100000 in
set_option maxHeartbeats 1000000 in
theorem copy_any {g : Nat} {nb ob : Option Nat} {d : DkS} {w : World} (h : Dk w g nb ob d) :
    Calls Tryz.prog 61 #[.pointer (some ⟨g, 0, none⟩)] w fun e w' => ∃ g' nb' ob', e = .returned (.pointer (some ⟨g', 0, none⟩)) ∧ Dk w' g' nb' ob' d ∧ w.heap.size ≤ g' ∧ (∀ k, nb' = some k → w.heap.size ≤ k) ∧ (∀ k, ob' = some k → w.heap.size ≤ k) ∧ Below w.heap.size w w' := by
  obtain ⟨cs, hcs, nv, ov, hnv, hov, rfl⟩ := dk_vals h
  obtain ⟨A1, c1, rfl, q1⟩ := hnv
  obtain ⟨A2, c2, rfl, q2⟩ := hov
  obtain ⟨x0, x1, x4, x5, x6, x7, x8⟩ := h.c
  have x2 : w.cell? ⟨g, 2, none⟩ = some (.slice A1 d.now.length c1) := by rw [cell_of_row _ _ _ _ _ _ hcs]; rfl
  have x3 : w.cell? ⟨g, 3, none⟩ = some (.slice A2 d.old.length c2) := by rw [cell_of_row _ _ _ _ _ _ hcs]; rfl
  have H := Lib.hid h
  have Q1 := Lib.hid q1
  have Q2 := Lib.hid q2
  clear h hcs q1 q2
  go_enter Tryz.func61, Tryz.ntmps61
  go_wp2_with fail
  refine (none_any H.out).mono ?_
  rintro e w' ⟨rfl, rfl⟩
  go_wp2_with fail
  obtain ⟨nvv, hnvv⟩ : ∃ v, v = Value.slice A1 d.now.length c1 := ⟨_, rfl⟩
  have hgl := H.out.lt
  have hbX : Below w.heap.size w (w.alloc (.cells #[.bool true, .int .i64 d.most, .slice A1 d.now.length c1, .slice A2 d.old.length c2, .int .i64 d.floor, .bool d.down, .int .i64 d.armed, .int .i64 d.fails, .int .i64 d.err] 63)) := (Below.refl _ _).alloc (Nat.le_refl _) _
  have hrX : (w.alloc (.cells #[.bool true, .int .i64 d.most, .slice A1 d.now.length c1, .slice A2 d.old.length c2, .int .i64 d.floor, .bool d.down, .int .i64 d.armed, .int .i64 d.fails, .int .i64 d.err] 63)).rowIs w.heap.size 63 9 (dkC d (.slice A1 d.now.length c1) (.slice A2 d.old.length c2)) := ⟨_, heap_alloc_new w _, rfl, fun i hi => by
    match i, hi with
    | 0, _ => rfl
    | 1, _ => rfl
    | 2, _ => rfl
    | 3, _ => rfl
    | 4, _ => rfl
    | 5, _ => rfl
    | 6, _ => rfl
    | 7, _ => rfl
    | 8, _ => rfl⟩
  have y2 := (hbX.cell (p := ⟨g, 2, none⟩) hgl).trans x2
  have y3 := (hbX.cell (p := ⟨g, 3, none⟩) hgl).trans x3
  generalize w.alloc (.cells #[.bool true, .int .i64 d.most, .slice A1 d.now.length c1, .slice A2 d.old.length c2, .int .i64 d.floor, .bool d.down, .int .i64 d.armed, .int .i64 d.fails, .int .i64 d.err] 63) = X at *
  have HBX := Lib.hid hbX
  have HRX := Lib.hid hrX
  have hgX : g < X.heap.size := Nat.lt_of_lt_of_le hgl hbX.size
  have hnX : w.heap.size < X.heap.size := hrX.lt
  have hne : w.heap.size ≠ g := by omega
  have l1 : d.now.length ≤ 140737488355328 := by have := H.out.wf.now; have := H.out.wf.most; omega
  have l2 : d.old.length ≤ 140737488355328 := by have := H.out.wf.old; have := H.out.wf.most; omega
  clear hbX hrX x0 x1 x2 x3 x4 x5 x6 x7 x8 hnvv nvv
  have Y2 := Lib.hid y2
  have Y3 := Lib.hid y3
  go_region_held3 (fun w' => w'.cell? ⟨g, 2, none⟩ = some (.slice A1 d.now.length c1) ∧ w'.cell? ⟨g, 3, none⟩ = some (.slice A2 d.old.length c2))
    (first
      | exact ⟨y2, y3⟩
      | exact ⟨(HB4.out.cell (p := ⟨g, 2, none⟩) hgX).trans Y2.out, (HB4.out.cell (p := ⟨g, 3, none⟩) hgX).trans Y3.out⟩
      | exact ⟨(HB3.out.cell (p := ⟨g, 2, none⟩) hgX).trans Y2.out, (HB3.out.cell (p := ⟨g, 3, none⟩) hgX).trans Y3.out⟩
      | exact ⟨keep_set ((HB4.out.cell (p := ⟨g, 2, none⟩) hgX).trans Y2.out) (by simp [hne]), keep_set ((HB4.out.cell (p := ⟨g, 3, none⟩) hgX).trans Y3.out) (by simp [hne])⟩
      | exact ⟨keep_set (keep_set ((HB4.out.cell (p := ⟨g, 2, none⟩) hgX).trans Y2.out) (by simp [hne])) (by simp [hne]), keep_set (keep_set ((HB4.out.cell (p := ⟨g, 3, none⟩) hgX).trans Y3.out) (by simp [hne])) (by simp [hne])⟩)
    (first
      | (go_at_call 29; ((with_reducible refine (clone_lt A1 d.now.length c1 d.now X.drew rfl (Rd.below Q1.out.2.2.1 HBX.out).drew l1).mono ?_); rintro e w3 ⟨v1, b1, rfl, ⟨B1, k1, rfl, hs1⟩, hn1, hb1⟩)
         have HB3 : Hid (Below X.heap.size X w3) := (below_drewN' (Below.refl _ _) 1).trans hb1
         have HS1 : Hid (Sl w3 (.slice B1 d.now.length k1) d.now b1) := ⟨B1, k1, rfl, hs1⟩
         have HN1 := Lib.hid hn1
         clear hb1 hn1 hs1)
      | (go_at_call 29; ((with_reducible refine (clone_lt A2 d.old.length c2 d.old w3 rfl (Rd.below (Rd.below Q2.out.2.2.1 HBX.out) HB3.out) l2).mono ?_); rintro e w4 ⟨v2, b2, rfl, ⟨B2, k2, rfl, hs2⟩, hn2, hb2⟩)
         have HB4 : Hid (Below X.heap.size X w4) := HB3.out.trans (hb2.mono HB3.out.size)
         have HS1' : Hid (Sl w4 (.slice B1 d.now.length k1) d.now b1) := HS1.out.below hb2
         have HS2 : Hid (Sl w4 (.slice B2 d.old.length k2) d.old b2) := ⟨B2, k2, rfl, hs2⟩
         have HN2 := Lib.hid hn2
         have hz3 := HB3.out.size
         have hsz34 : w3.heap.size ≤ w4.heap.size := hb2.size
         have hr4 := HRX.out.of_block (HB4.out.block w.heap.size hnX)
         have z2 := hr4.cell (show 2 < 9 by omega)
         have z3 := hr4.cell (show 3 < 9 by omega)
         have f2 := hr4.frozen 2
         have f3 := hr4.frozen 3
         have HR4 := Lib.hid hr4
         clear hb2 hn2 hs2 hr4))
  all_goals
    go_wp2
    go_ret
    have n1 : ∀ k, b1 = some k → w.heap.size < k := fun k e => by have := (HN1.out k e).1; have : X.heap.size ≤ k := this; omega
    have n2 : ∀ k, b2 = some k → w.heap.size < k := fun k e => by have := (HN2.out k e).1; omega
    have hgr : ∀ i j u v, w4.grownBy ((w4.setCell ⟨w.heap.size, i, none⟩ u).setCell ⟨w.heap.size, j, none⟩ v) (some w.heap.size) := fun i j u v => grown_set2 (grown_refl _ _) i j u v
    have hB : Below w.heap.size w w4 := HBX.out.trans (HB4.out.mono HBX.out.size)
    refine ⟨w.heap.size, b1, b2, rfl, ⟨H.out.wf, fun e => by have := n1 _ e; omega, fun e => by have := n2 _ e; omega, fun k e => Nat.lt_of_lt_of_le (HN1.out k e).2 (Nat.le_trans hsz34 (hgr _ _ _ _).size), fun k e => Nat.lt_of_lt_of_le (HN2.out k e).2 (hgr _ _ _ _).size, _, _, ?_, HS1'.out.grown (hgr _ _ _ _) (fun k e e2 => by injection e2 with e2; have := n1 k e; omega), HS2.out.grown (hgr _ _ _ _) (fun k e e2 => by injection e2 with e2; have := n2 k e; omega)⟩, Nat.le_refl _, fun k e => Nat.le_of_lt (n1 k e), fun k e => Nat.le_of_lt (n2 k e), ?_⟩
    · refine ((HR4.out.set _ _).set _ _).congr fun i hi => ?_
      match i, hi with
      | 0, _ => rfl
      | 1, _ => rfl
      | 2, _ => rfl
      | 3, _ => rfl
      | 4, _ => rfl
      | 5, _ => rfl
      | 6, _ => rfl
      | 7, _ => rfl
      | 8, _ => rfl
    · exact (hB.setCell (p := ⟨w.heap.size, _, none⟩) (Nat.le_refl _) _).setCell (p := ⟨w.heap.size, _, none⟩) (Nat.le_refl _) _
end Go.Proofs.YtlhbijpmhokmnaaGreat
namespace Go.Proofs.YtlhbijpmhokmnaaGreat
open Go.RowKit
set_option linter.unusedSimpArgs false
set_option linter.unusedVariables false

/-- A byte written into a slice of the call's own. -/
theorem Ow.set {w : World} {base g n c : Nat} {l : List Nat} (h : Ow w base (.slice (some ⟨g, 0, none⟩) n c) l) {i : Nat} (hi : i < l.length) {x : Nat} (hx : x < 256) : Ow (w.setCell ⟨g, i, none⟩ (.int .u8 (x : Nat))) base (.slice (some ⟨g, 0, none⟩) n c) (l.set i x) := by
  obtain ⟨hb, hlen, ⟨h0, _⟩ | ⟨g', cap, cur, e, hg, hh, hn, hm, hs, ht⟩⟩ := h
  · cases h0
  · injection e with e1 e2 e3
    injection e1 with e1
    injection e1 with e1
    subst e1; subst e2; subst e3
    refine ⟨fun y hy => ?_, by rw [bs_length] at hlen ⊢; simp at hlen ⊢, .inr ⟨g, c, cur.setIfInBounds i (.int .u8 (x : Nat)), by simp, hg, ?_, by simpa using hn, hm, by simpa using hs, ?_⟩⟩
    · rcases List.mem_or_eq_of_mem_set hy with h | h
      · exact hb y h
      · rw [h]; exact hx
    · have hlt : g < w.heap.size := lt_of_block hh
      have hv : w.heap[g] = .cells cur 5 (0, 0) := (Array.getElem?_eq_some_iff.1 hh).2
      unfold World.setCell
      rw [Array.getElem?_eq_getElem (by simpa using hlt), Array.getElem_modify]
      simp [hv]
    · rw [Array.toList_setIfInBounds, List.length_set, Nat.mul_one, List.take_set]
      rw [Nat.mul_one] at ht
      rw [ht]
      simp [bs, bv]
end Go.Proofs.YtlhbijpmhokmnaaGreat
