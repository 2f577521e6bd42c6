/-
  THE CODE OF STATEMENTS, plain: it is the bytes of their instructions; jumps go where instructions start. Conditions: the statements are right, their code is shorter than 6000.
-/
import Derived.Test.YthmpagehmfillaaQ42
namespace Go.Proofs.Ythmpagehmfillaa
set_option linter.unusedSimpArgs false
set_option linter.unusedVariables false
/-- X is out with these instructions behind it, up to q. -/
def Lay (X out : List Nat) (L : List InsS) (q : Nat) : Prop := X = out ++ bytL L out.length ∧ OkL L out.length q
theorem Lay.len {X out : List Nat} {L : List InsS} {q : Nat} (h : Lay X out L q) : X.length = q := by
  have := h.2.len
  rw [h.1, List.length_append]
  omega
theorem Lay.trans {X Y out : List Nat} {L M : List InsS} {q r : Nat} (h : Lay X out L q) (h' : Lay Y X M r) : Lay Y out (L ++ M) r := by
  have hl := h.len
  obtain ⟨e', k'⟩ := h'
  rw [hl] at e' k'
  refine ⟨?_, h.2.append k'⟩
  rw [e', h.1, List.append_assoc, bytL_append M h.2]
theorem Lay.nil (out : List Nat) : Lay out out [] out.length := ⟨by simp [bytL], rfl⟩
theorem Lay.put {out : List Nat} {i : InsS} (h : putE i out.length = 0) : Lay (putO out i) out [i] (out.length + lenI i) := ⟨by simp [bytL, putO], h, rfl⟩
theorem Lay.jump {out : List Nat} {tg : Nat} {f short : Bool} (h1 : tg ≤ 65535) (h2 : out.length ≤ 60000) (h3 : short = true → tg ≤ out.length + 129 ∧ out.length ≤ tg + 126) :
    Lay (jumpO out f (tg : Int) short) out (jmpL out.length f (tg : Int) short) (out.length + if short then 2 else 5) := ⟨jumpO_eq _ _ _ _ (okJ h1 h2 h3), okJ h1 h2 h3⟩
theorem shp_jump {o : Nat} (h : o < 27) : (shp o).jump = false := by
  unfold shp
  repeat' split
  all_goals first | rfl | omega
theorem put_plain {i : InsS} {p : Nat} (hr : rightI i.o i.d i.s i.n = true) (ho : i.o < 27) : putE i p = 0 := by
  unfold putE
  rw [hr, if_neg (by decide), if_neg (by rw [shp_jump ho]; intro h; cases h.1)]
theorem condS_put {c : ConS} {p : Nat} (h : condS c = true) : putE c.i p = 0 ∧ 19 ≤ c.i.o ∧ c.i.o ≤ 21 := by
  unfold condS at h
  simp only [Bool.and_eq_true, decide_eq_true_eq] at h
  exact ⟨put_plain h.1.1 (by omega), h.1.2, h.2⟩
theorem i0_put (p : Nat) : putE i0 p = 0 := put_plain (by decide) (by decide)
theorem plainS_put {i : InsS} {post : Bool} {p : Nat} (h : plainS i post = true) : putE i p = 0 ∧ i.o < 27 ∧ i.o ≠ 0 ∧ ¬ (19 ≤ i.o ∧ i.o ≤ 21) ∧ (post = false → i.o ≠ 26) := by
  unfold plainS at h
  simp only [Bool.and_eq_true, Bool.not_eq_true', decide_eq_false_iff_not, Bool.or_eq_true, Bool.and_eq_false_iff] at h
  have h27 : i.o < 27 := by omega
  refine ⟨put_plain h.1.1.1.1 h27, h27, h.1.1.1.2, by omega, fun hp => ?_⟩
  rcases h.2 with h | h
  · rw [hp] at h; cases h
  · exact h
/-- What right statements are, one by one. -/
theorem rightS_k {post : Bool} {k : Nat} {i : InsS} {c : ConS} {b e : Sts} {ln : Int} (h : rightS post ⟨k, i, c, b, e, ln⟩ = true) : (k = 1 ∧ plainS i post = true) ∨ (k = 4 ∧ i = i0) ∨ (k = 2 ∧ condS c = true) ∨ (k = 3 ∧ condS c = true) := by
  unfold rightS at h
  by_cases k1 : k = 1
  · rw [if_pos k1, Bool.and_eq_true] at h
    exact .inl ⟨k1, h.2⟩
  by_cases k4 : k = 4
  · rw [if_neg k1, if_pos k4, Bool.and_eq_true] at h
    exact .inr (.inl ⟨k4, of_decide_eq_true h.2⟩)
  rw [if_neg k1, if_neg k4] at h
  by_cases k2 : k = 2
  · rw [if_pos (.inl k2)] at h
    simp only [Bool.and_eq_true] at h
    exact .inr (.inr (.inl ⟨k2, h.1.2⟩))
  by_cases k3 : k = 3
  · rw [if_pos (.inr k3)] at h
    simp only [Bool.and_eq_true] at h
    exact .inr (.inr (.inr ⟨k3, h.1.2⟩))
  rw [if_neg (by intro h; rcases h with h | h <;> contradiction)] at h
  cases h
theorem gen_ok {post : Bool} : ∀ (lv : Nat) (T : Sts) (out : List Nat), dpt lv T = true → alR post lv T = true → sizeT T < 6000 → out.length + sizeT T ≤ 50000 → Lay (genO T out) out (insT T out.length) (out.length + sizeT T)
  | lv, .nil, out, _, _, _, _ => Lay.nil out
  | 0, .cons .., out, h, _, _, _ => by cases h
  | lv + 1, .cons k i c b e ln r, out, hd, ha, hs, hl => by
    have h' : (dpt lv b && dpt lv e && dpt (lv + 1) r) = true := hd
    have ha' : (rightS post ⟨k, i, c, b, e, ln⟩ && alR post lv b && alR post lv e && alR post (lv + 1) r) = true := ha
    simp only [Bool.and_eq_true] at h' ha'
    have hz : sizeT (.cons k i c b e ln r) = min 6000 (oneK k i c (sizeT b) (sizeT e) e.len + sizeT r) := rfl
    rw [hz] at hs hl ⊢
    have hs' : oneK k i c (sizeT b) (sizeT e) e.len + sizeT r < 6000 := by omega
    rw [Nat.min_eq_right (Nat.le_of_lt hs')] at hl ⊢
    have rest : ∀ (X : List Nat) (L : List InsS), Lay X out L (out.length + oneK k i c (sizeT b) (sizeT e) e.len) → Lay (genO r X) out (L ++ insT r (out.length + oneK k i c (sizeT b) (sizeT e) e.len)) (out.length + (oneK k i c (sizeT b) (sizeT e) e.len + sizeT r)) := by
      intro X L hX
      have hr := gen_ok (lv + 1) r X h'.2 ha'.2 (by omega) (by rw [hX.len]; omega)
      rw [hX.len, Nat.add_assoc] at hr
      exact hX.trans hr
    unfold genO insT
    apply rest
    clear rest hd ha hz
    rcases rightS_k ha'.1.1.1 with ⟨hk, hp⟩ | ⟨hk, hp⟩ | ⟨hk, hp⟩ | ⟨hk, hp⟩
    · subst hk
      rw [if_neg (by decide), if_neg (by decide), if_neg (by decide), if_neg (by decide)]
      have := Lay.put (out := out) (plainS_put (p := out.length) hp).1
      unfold oneK
      rw [if_neg (by decide), if_neg (by decide)]
      exact this
    · subst hk
      subst hp
      rw [if_neg (by decide), if_neg (by decide), if_neg (by decide), if_neg (by decide)]
      have := Lay.put (out := out) (i0_put out.length)
      unfold oneK
      rw [if_neg (by decide), if_neg (by decide)]
      exact this
    · subst hk
      rw [if_pos rfl, if_pos rfl]
      unfold oneK at hs' hl ⊢
      rw [if_pos rfl] at hs' hl ⊢
      have hen := endK_or (sizeT e) e.len
      have hov := overK_le (sizeT b) (endK (sizeT e) e.len)
      have hov' : overK (sizeT b) (endK (sizeT e) e.len) = 2 → sizeT b + endK (sizeT e) e.len ≤ 127 := by
        unfold overK
        split
        · intro _; assumption
        · intro h; cases h
      have hel := endK_le (sizeT e) e.len
      generalize hen' : endK (sizeT e) e.len = en at *
      generalize hov'' : overK (sizeT b) en = ov at *
      have A := Lay.put (out := out) (condS_put (p := out.length) hp).1
      have lA := A.len
      have B : Lay (ifO out c (sizeT b) en) (putO out c.i) (jmpL (putO out c.i).length c.nt (((putO out c.i).length + ov + sizeT b + en : Nat) : Int) (decide (ov = 2))) ((putO out c.i).length + if decide (ov = 2) then 2 else 5) := by
        unfold ifO
        rw [hov'']
        exact Lay.jump (by omega) (by omega) (fun h => by have := hov' (of_decide_eq_true h); have := of_decide_eq_true h; omega)
      have eov : (if decide (ov = 2) = true then 2 else 5) = ov := by
        rcases hov with h | h <;> rw [h] <;> rfl
      rw [eov, lA] at B
      have lB := B.len
      have C := gen_ok lv b (ifO out c (sizeT b) en) h'.1.1 ha'.1.1.2 (by omega) (by omega)
      rw [lB] at C
      have lC := C.len
      have D : Lay (endO (genO b (ifO out c (sizeT b) en)) en (sizeT e)) (genO b (ifO out c (sizeT b) en)) (endL (genO b (ifO out c (sizeT b) en)).length en (sizeT e)) ((genO b (ifO out c (sizeT b) en)).length + en) :=
        ⟨endO_eq _ _ _, okE hen (by omega)⟩
      rw [lC] at D
      have lD := D.len
      have E := gen_ok lv e (endO (genO b (ifO out c (sizeT b) en)) en (sizeT e)) h'.1.2 ha'.1.2 (by omega) (by omega)
      rw [lD] at E
      have := A.trans (B.trans (C.trans (D.trans E)))
      have eq : out.length + lenI c.i + ov + sizeT b + en + sizeT e = out.length + (lenI c.i + ov + sizeT b + en + sizeT e) := by omega
      rw [eq] at this
      exact this
    · subst hk
      rw [if_neg (by decide), if_pos rfl, if_neg (by decide), if_pos rfl]
      unfold oneK at hs' hl ⊢
      rw [if_neg (by decide), if_pos rfl] at hs' hl ⊢
      have C := gen_ok lv b out h'.1.1 ha'.1.1.2 (by split at hs' <;> omega) (by split at hl <;> omega)
      have lC := C.len
      have A := Lay.put (out := genO b out) (condS_put (p := (genO b out).length) hp).1
      have lA := A.len
      have hl' : (putO (genO b out) c.i).length ≤ 60000 := by rw [lA, lC]; split at hl <;> omega
      have B : Lay (doO (genO b out) c out.length) (putO (genO b out) c.i) (jmpL (putO (genO b out) c.i).length (!c.nt) ((out.length : Nat) : Int) (decide ((putO (genO b out) c.i).length + 2 ≤ 128 + out.length))) ((putO (genO b out) c.i).length + if decide ((putO (genO b out) c.i).length + 2 ≤ 128 + out.length) then 2 else 5) := by
        unfold doO
        exact Lay.jump (by omega) hl' (fun h => by have := of_decide_eq_true h; rw [lA, lC] at *; omega)
      have hdec : decide ((putO (genO b out) c.i).length + 2 ≤ 128 + out.length) = decide (sizeT b + lenI c.i + 2 ≤ 128) := by
        rw [lA, lC]
        exact decide_eq_decide.2 (by omega)
      rw [hdec, lA, lC] at B
      have := C.trans (A.trans B)
      have eq : (out.length + sizeT b + lenI c.i + if decide (sizeT b + lenI c.i + 2 ≤ 128) = true then 2 else 5) = out.length + if sizeT b + lenI c.i + 2 ≤ 128 then sizeT b + lenI c.i + 2 else sizeT b + lenI c.i + 5 := by
        by_cases h : sizeT b + lenI c.i + 2 ≤ 128
        · rw [if_pos (decide_eq_true h), if_pos h]; omega
        · rw [if_neg (by simpa using h), if_neg h]; omega
      rw [eq] at this
      exact this
/-- An instruction starts here, or these end here. -/
def StI : List InsS → Nat → Nat → Prop
  | [], p, n => n = p
  | i :: L, p, n => n = p ∨ StI L (p + lenI i) n
theorem StI.start : ∀ (L : List InsS) (p : Nat), StI L p p
  | [], _ => rfl
  | _ :: _, _ => .inl rfl
theorem StI.fin : ∀ {L : List InsS} {p q : Nat}, OkL L p q → StI L p q
  | [], p, q, h => (show p = q from h).symm
  | i :: L, p, q, h => .inr (StI.fin h.2)
theorem StI.left : ∀ {L : List InsS} (M : List InsS) {p n : Nat}, StI L p n → StI (L ++ M) p n
  | [], M, p, n, h => by rw [show n = p from h]; exact StI.start _ _
  | i :: L, M, p, n, h => by
    rcases h with h | h
    · exact .inl h
    · exact .inr (StI.left M h)
theorem StI.right : ∀ {L M : List InsS} {p q n : Nat}, OkL L p q → StI M q n → StI (L ++ M) p n
  | [], M, p, q, n, h, h' => by rw [show p = q from h]; exact h'
  | i :: L, M, p, q, n, h, h' => .inr (StI.right h.2 h')
/-- All jumps go to such places. -/
def JmpI (L : List InsS) (S : Nat → Prop) : Prop := ∀ i ∈ L, 27 ≤ i.o → ∃ n : Nat, i.n = n ∧ S n
theorem JmpI.mono {L : List InsS} {S S' : Nat → Prop} (h : JmpI L S) (hS : ∀ n, S n → S' n) : JmpI L S' := fun i hi ho => by
  obtain ⟨n, h1, h2⟩ := h i hi ho
  exact ⟨n, h1, hS n h2⟩
theorem JmpI.append {L M : List InsS} {S : Nat → Prop} (h : JmpI L S) (h' : JmpI M S) : JmpI (L ++ M) S := fun i hi ho => by
  rcases List.mem_append.1 hi with hi | hi
  · exact h i hi ho
  · exact h' i hi ho
theorem JmpI.cons {i : InsS} {M : List InsS} {S : Nat → Prop} (h : i.o < 27) (h' : JmpI M S) : JmpI (i :: M) S := fun j hj ho => by
  rcases List.mem_cons.1 hj with rfl | hj
  · omega
  · exact h' j hj ho
theorem JmpI.jmp {p tg : Nat} {f short : Bool} {S : Nat → Prop} (h1 : S tg) (h2 : short = false → S (p + 5)) : JmpI (jmpL p f (tg : Int) short) S := by
  unfold jmpL
  cases short with
  | true =>
    intro i hi _
    simp only [if_pos, List.mem_singleton] at hi
    subst hi
    exact ⟨tg, rfl, h1⟩
  | false =>
    intro i hi _
    simp only [Bool.false_eq_true, if_false, List.mem_cons, List.not_mem_nil, or_false] at hi
    rcases hi with rfl | rfl
    · exact ⟨p + 5, rfl, h2 rfl⟩
    · exact ⟨tg, rfl, h1⟩
theorem JmpI.end {p en se : Nat} {S : Nat → Prop} (h : S (p + en + se)) : JmpI (endL p en se) S := by
  unfold endL
  split
  · rename_i h2
    intro i hi _
    simp only [List.mem_singleton] at hi
    subst hi
    exact ⟨p + 2 + se, rfl, by rw [← h2]; exact h⟩
  split
  · rename_i h3
    intro i hi _
    simp only [List.mem_singleton] at hi
    subst hi
    exact ⟨p + 3 + se, rfl, by rw [← h3]; exact h⟩
  · intro i hi
    cases hi
theorem jmpL_o {p : Nat} {f : Bool} {tg : Int} {short : Bool} {i : InsS} (h : i ∈ jmpL p f tg short) : 27 ≤ i.o := by
  unfold jmpL at h
  cases short with
  | true =>
    simp only [if_pos, List.mem_singleton] at h
    subst h
    show 27 ≤ if f = true then 27 else 28
    split <;> omega
  | false =>
    simp only [Bool.false_eq_true, if_false, List.mem_cons, List.not_mem_nil, or_false] at h
    rcases h with rfl | rfl
    · show 27 ≤ if f = true then 28 else 27
      split <;> omega
    · show 27 ≤ 30
      omega
theorem endL_o {p en se : Nat} {i : InsS} (h : i ∈ endL p en se) : 27 ≤ i.o := by
  unfold endL at h
  split at h
  · rw [List.mem_singleton.1 h]; dsimp only; omega
  split at h
  · rw [List.mem_singleton.1 h]; dsimp only; omega
  · cases h
theorem ins_jump {post : Bool} : ∀ (lv : Nat) (T : Sts) (p : Nat), dpt lv T = true → alR post lv T = true → sizeT T < 6000 → p + sizeT T ≤ 50000 → OkL (insT T p) p (p + sizeT T) ∧ JmpI (insT T p) (StI (insT T p) p) ∧ (post = false → ∀ i ∈ insT T p, i.o ≠ 26)
  | lv, .nil, p, _, _, _, _ => ⟨rfl, fun i hi => by (cases hi), fun _ i hi => by (cases hi)⟩
  | 0, .cons .., _, h, _, _, _ => by cases h
  | lv + 1, .cons k i c b e ln r, p, hd, ha, hs, hl => by
    have hO : OkL (insT (.cons k i c b e ln r) p) p (p + sizeT (.cons k i c b e ln r)) := by
      have := (gen_ok (lv + 1) (.cons k i c b e ln r) (List.replicate p 0) hd ha hs (by rw [List.length_replicate]; exact hl)).2
      rw [List.length_replicate] at this
      exact this
    refine ⟨hO, ?_⟩
    have h' : (dpt lv b && dpt lv e && dpt (lv + 1) r) = true := hd
    have ha' : (rightS post ⟨k, i, c, b, e, ln⟩ && alR post lv b && alR post lv e && alR post (lv + 1) r) = true := ha
    simp only [Bool.and_eq_true] at h' ha'
    have hz : sizeT (.cons k i c b e ln r) = min 6000 (oneK k i c (sizeT b) (sizeT e) e.len + sizeT r) := rfl
    rw [hz] at hs hl
    have hs' : oneK k i c (sizeT b) (sizeT e) e.len + sizeT r < 6000 := by omega
    rw [Nat.min_eq_right (Nat.le_of_lt hs')] at hl
    obtain ⟨oR, jR, nR⟩ := ins_jump (lv + 1) r (p + oneK k i c (sizeT b) (sizeT e) e.len) h'.2 ha'.2 (by omega) (by omega)
    have rest : ∀ (L : List InsS), OkL L p (p + oneK k i c (sizeT b) (sizeT e) e.len) → JmpI L (StI L p) → (post = false → ∀ j ∈ L, j.o ≠ 26) →
        JmpI (L ++ insT r (p + oneK k i c (sizeT b) (sizeT e) e.len)) (StI (L ++ insT r (p + oneK k i c (sizeT b) (sizeT e) e.len)) p) ∧ (post = false → ∀ j ∈ L ++ insT r (p + oneK k i c (sizeT b) (sizeT e) e.len), j.o ≠ 26) := by
      intro L hL hJ hN
      exact ⟨(hJ.mono fun n hn => hn.left _).append (jR.mono fun n hn => hn.right hL), fun hp j hj => by
        rcases List.mem_append.1 hj with hj | hj
        · exact hN hp j hj
        · exact nR hp j hj⟩
    unfold insT
    rcases rightS_k ha'.1.1.1 with ⟨hk, hp⟩ | ⟨hk, hp⟩ | ⟨hk, hp⟩ | ⟨hk, hp⟩
    · subst hk
      rw [if_neg (by decide), if_neg (by decide)]
      obtain ⟨h1, h2, -, -, h3⟩ := plainS_put (p := p) hp
      refine rest _ ?_ ?_ ?_
      rotate_left
      · exact JmpI.cons h2 (fun i hi => by cases hi)
      rotate_left
      · refine ⟨h1, ?_⟩
        unfold oneK
        rw [if_neg (by decide), if_neg (by decide)]
        rfl
      · intro hp j hj
        rw [List.mem_singleton.1 hj]
        exact h3 hp
    · subst hk
      subst hp
      rw [if_neg (by decide), if_neg (by decide)]
      refine rest _ ?_ ?_ ?_
      rotate_left
      · exact JmpI.cons (by decide) (fun i hi => by cases hi)
      rotate_left
      · refine ⟨i0_put p, ?_⟩
        unfold oneK
        rw [if_neg (by decide), if_neg (by decide)]
        rfl
      · intro hp j hj
        rw [List.mem_singleton.1 hj]
        decide
    · subst hk
      rw [if_pos rfl]
      obtain ⟨oC, c1, c2⟩ := condS_put (p := p) hp
      have hone : oneK 2 i c (sizeT b) (sizeT e) e.len = lenI c.i + overK (sizeT b) (endK (sizeT e) e.len) + sizeT b + endK (sizeT e) e.len + sizeT e := rfl
      rw [hone] at hs' hl rest ⊢
      have hen := endK_or (sizeT e) e.len
      have hov := overK_le (sizeT b) (endK (sizeT e) e.len)
      have hov' : overK (sizeT b) (endK (sizeT e) e.len) = 2 → sizeT b + endK (sizeT e) e.len ≤ 127 := by
        unfold overK
        split
        · intro _; assumption
        · intro h; cases h
      have hel := endK_le (sizeT e) e.len
      generalize endK (sizeT e) e.len = en at *
      generalize overK (sizeT b) en = ov at *
      have eov : (if decide (ov = 2) = true then 2 else 5) = ov := by
        rcases hov with h | h <;> rw [h] <;> rfl
      have oJ : OkL (jmpL (p + lenI c.i) c.nt ((p + lenI c.i + ov + sizeT b + en : Nat) : Int) (decide (ov = 2))) (p + lenI c.i) (p + lenI c.i + ov) := by
        have := okJ (p := p + lenI c.i) (tg := p + lenI c.i + ov + sizeT b + en) (f := c.nt) (short := decide (ov = 2)) (by omega) (by omega) (fun h => by have := hov' (of_decide_eq_true h); have := of_decide_eq_true h; omega)
        rw [eov] at this
        exact this
      obtain ⟨oB, jB, nB⟩ := ins_jump lv b (p + lenI c.i + ov) h'.1.1 ha'.1.1.2 (by omega) (by omega)
      have oE : OkL (endL (p + lenI c.i + ov + sizeT b) en (sizeT e)) (p + lenI c.i + ov + sizeT b) (p + lenI c.i + ov + sizeT b + en) := okE hen (by omega)
      obtain ⟨oF, jF, nF⟩ := ins_jump lv e (p + lenI c.i + ov + sizeT b + en) h'.1.2 ha'.1.2 (by omega) (by omega)
      have oW := oJ.append (oB.append (oE.append oF))
      refine rest _ ?_ ?_ ?_
      · exact ⟨oC, by rw [show p + (lenI c.i + ov + sizeT b + en + sizeT e) = p + lenI c.i + ov + sizeT b + en + sizeT e by omega]; exact oW⟩
      · refine JmpI.cons (by omega) ((JmpI.jmp ?_ ?_).append ((jB.mono ?_).append ((JmpI.end ?_).append (jF.mono ?_))))
        · exact .inr (StI.right oJ (StI.right oB (StI.right oE (StI.start _ _))))
        · intro h
          have : ov = 5 := by
            rcases hov with h' | h'
            · rw [h'] at h; cases h
            · exact h'
          have h2 : StI (insT b (p + lenI c.i + ov)) (p + lenI c.i + ov) (p + lenI c.i + ov) := StI.start _ _
          have h3 := StI.right oJ (StI.left (endL (p + lenI c.i + ov + sizeT b) en (sizeT e) ++ insT e (p + lenI c.i + ov + sizeT b + en)) h2)
          exact .inr (by rw [show p + lenI c.i + 5 = p + lenI c.i + ov by omega]; exact h3)
        · exact fun n hn => .inr (StI.right oJ (StI.left _ hn))
        · exact .inr (StI.fin oW)
        · exact fun n hn => .inr (StI.right oJ (StI.right oB (StI.right oE hn)))
      · intro hq j hj
        rcases List.mem_cons.1 hj with rfl | hj
        · omega
        rcases List.mem_append.1 hj with hj | hj
        · have := jmpL_o hj; omega
        rcases List.mem_append.1 hj with hj | hj
        · exact nB hq j hj
        rcases List.mem_append.1 hj with hj | hj
        · have := endL_o hj; omega
        · exact nF hq j hj
    · subst hk
      rw [if_neg (by decide), if_pos rfl]
      have hone : oneK 3 i c (sizeT b) (sizeT e) e.len = if sizeT b + lenI c.i + 2 ≤ 128 then sizeT b + lenI c.i + 2 else sizeT b + lenI c.i + 5 := rfl
      rw [hone] at hs' hl rest ⊢
      obtain ⟨oB, jB, nB⟩ := ins_jump lv b p h'.1.1 ha'.1.1.2 (by split at hs' <;> omega) (by split at hl <;> omega)
      obtain ⟨oC, c1, c2⟩ := condS_put (p := p + sizeT b) hp
      have oJ := okJ (p := p + sizeT b + lenI c.i) (tg := p) (f := !c.nt) (short := decide (sizeT b + lenI c.i + 2 ≤ 128)) (by omega) (by split at hl <;> omega) (fun h => by have := of_decide_eq_true h; omega)
      have eq : (p + sizeT b + lenI c.i + if decide (sizeT b + lenI c.i + 2 ≤ 128) = true then 2 else 5) = p + if sizeT b + lenI c.i + 2 ≤ 128 then sizeT b + lenI c.i + 2 else sizeT b + lenI c.i + 5 := by
        by_cases h : sizeT b + lenI c.i + 2 ≤ 128
        · rw [if_pos (decide_eq_true h), if_pos h]; omega
        · rw [if_neg (by simpa using h), if_neg h]; omega
      have oW : OkL (insT b p ++ c.i :: jmpL (p + sizeT b + lenI c.i) (!c.nt) ((p : Nat) : Int) (decide (sizeT b + lenI c.i + 2 ≤ 128))) p _ := oB.append ⟨oC, oJ⟩
      refine rest _ ?_ ?_ ?_
      · rw [← eq]; exact oW
      · refine (jB.mono fun n hn => StI.left _ hn).append (JmpI.cons (by omega) (JmpI.jmp (StI.start _ _) ?_))
        intro h
        have := StI.fin oW
        rw [h] at this ⊢
        exact this
      · intro hq j hj
        rcases List.mem_append.1 hj with hj | hj
        · exact nB hq j hj
        rcases List.mem_cons.1 hj with rfl | hj
        · omega
        · have := jmpL_o hj; omega
/-- What each tells: where instructions start, and these; none: it is no code. -/
def eachF : Nat → List Nat → Nat → Option (List (Nat × InsS))
  | 0, b, p => if b.length ≤ p then some [] else none
  | n + 1, b, p => if b.length ≤ p then some [] else if (getR b p).2.2 = 0 then (eachF n b (getR b p).2.1).map ((p, (getR b p).1) :: ·) else none
def atL : List InsS → Nat → List (Nat × InsS)
  | [], _ => []
  | i :: L, p => (p, i) :: atL L (p + lenI i)
theorem each_lay : ∀ (L : List InsS) (n : Nat) (b : List Nat) (p q : Nat), OkL L p q → b.drop p = bytL L p → b.length = q → L.length ≤ n → eachF n b p = some (atL L p)
  | [], n, b, p, q, h, _, hq, _ => by
    have hp : p = q := h
    cases n <;> (unfold eachF; rw [if_pos (by omega)]; rfl)
  | i :: L, 0, b, p, q, h, _, _, hn => by simp at hn
  | i :: L, n + 1, b, p, q, h, hb, hq, hn => by
    have h1 := lenI_pos h.1
    have h2 := OkL.le h.2
    have hg := get_put h.1 hb
    unfold eachF
    rw [if_neg (by omega), hg, if_pos rfl]
    dsimp only
    have hd : b.drop (p + lenI i) = bytL L (p + lenI i) := by
      rw [← List.drop_drop, hb]
      show (putI i p ++ bytL L _).drop _ = _
      rw [← putI_more h.1, List.drop_left]
    rw [each_lay L n b (p + lenI i) q h.2 hd hq (by simpa using hn)]
    rfl
end Go.Proofs.Ythmpagehmfillaa
