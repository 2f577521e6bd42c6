/-
  WHAT valid TELLS OF A CODE, plain. Conditions: none.
  THE CODE OF STATEMENTS MAY BE RUN, plain. Conditions: they have a code.
  WHAT Check TELLS, AND WHAT A MODEL IS, plain; what Compile comes to. Conditions: none.
-/
import Derived.Test.YthmpagehmfillaaQ43
import Derived.Test.YthmpagehmfillaaQ44
import Derived.Maps.OwnSet
import Derived.Maps.RangeWalk
import Derived.Test.YthmpagehmfillaaQ41
import Derived.Test.YthmpagehmfillaaQ29
import Derived.Test.YthmpagehmfillaaQ38
namespace Go.Proofs.Ythmpagehmfillaa
open Go.Maps (has)
set_option linter.unusedSimpArgs false
set_option linter.unusedVariables false
theorem rightI_n {o : Nat} {d s n : Int} (h : rightI o d s n = true) : 0 ≤ n ∧ n ≤ 65535 := by
  unfold rightI at h
  have hm := shp_mem o
  generalize shp o = x at hm h
  unfold shapes at hm
  simp only [List.mem_cons, List.not_mem_nil, or_false] at hm
  rcases hm with rfl | rfl | rfl | rfl | rfl | rfl | rfl | rfl | rfl | rfl <;> simp [rightX, inI] at h
  all_goals first
    | omega
    | (by_cases h7 : s = 7 <;> simp [h7] at h <;> omega)
theorem getR_next {b : List Nat} {p : Nat} (h : (getR b p).2.2 = 0) : p < (getR b p).2.1 ∧ (getR b p).2.1 ≤ b.length ∧ (getR b p).1.o < 256 ∧ 0 ≤ (getR b p).1.n ∧ (getR b p).1.n ≤ 65535 := by
  by_cases hb : BadX (shp (nth b p / 8)) (nth b p % 8)
  · rw [getR_bad rfl rfl rfl hb] at h
    cases h
  · by_cases hs : b.length < p + 1 + moreX (shp (nth b p / 8)) (if (shp (nth b p / 8)).operand then ((nth b p % 8 : Nat) : Int) else 0)
    · rw [getR_short rfl rfl rfl hb rfl hs] at h
      cases h
    · obtain ⟨d, hd⟩ : ∃ d, (if (shp (nth b p / 8)).operand then (0 : Int) else ((nth b p % 8 : Nat) : Int)) = d := ⟨_, rfl⟩
      obtain ⟨m, hm⟩ : ∃ m, moreX (shp (nth b p / 8)) (if (shp (nth b p / 8)).operand then ((nth b p % 8 : Nat) : Int) else 0) = m := ⟨_, rfl⟩
      rw [hm] at hs
      obtain ⟨s, hss⟩ : ∃ s, getS (shp (nth b p / 8)) b p (nth b p % 8) = s := ⟨_, rfl⟩
      obtain ⟨n, hn⟩ : ∃ n, getN (shp (nth b p / 8)) b p m = n := ⟨_, rfl⟩
      rw [getR_ok rfl rfl rfl hb hm hs hd hss hn] at h ⊢
      split at h
      · rename_i h3
        rw [if_pos h3]
        have h4 := o_le (i := ⟨_, _, _, _⟩) h3
        have h5 := rightI_n h3
        dsimp only at h4 ⊢
        exact ⟨by omega, by omega, by omega, h5⟩
      · cases h
def goodF (post : Bool) (L : List (Nat × InsS)) : Bool := L.all fun x => post || decide (x.2.o ≠ 26)
def lastF (L : List (Nat × InsS)) : Nat := (L.getLast?.map fun x => x.2.o).getD 0
def startL (L : List (Nat × InsS)) : List Lit := L.map fun x => .int .i64 (x.1 : Nat)
def goesL (L : List (Nat × InsS)) : List Lit := (L.filter fun x => decide (27 ≤ x.2.o)).map fun x => .int .i64 x.2.n
theorem goodF_snoc (post : Bool) (L : List (Nat × InsS)) (x : Nat × InsS) : goodF post (L ++ [x]) = (goodF post L && (post || decide (x.2.o ≠ 26))) := by
  unfold goodF
  rw [List.all_append]
  simp
theorem lastF_snoc (L : List (Nat × InsS)) (x : Nat × InsS) : lastF (L ++ [x]) = x.2.o := by simp [lastF]
theorem startL_snoc (L : List (Nat × InsS)) (x : Nat × InsS) : startL (L ++ [x]) = startL L ++ [.int .i64 (x.1 : Nat)] := by simp [startL]
theorem goesL_snoc (L : List (Nat × InsS)) (x : Nat × InsS) : goesL (L ++ [x]) = if 27 ≤ x.2.o then goesL L ++ [.int .i64 x.2.n] else goesL L := by
  unfold goesL
  rw [List.filter_append, List.map_append]
  by_cases h : 27 ≤ x.2.o
  · rw [if_pos h]; simp [h]
  · rw [if_neg h]; simp [h]
def eachE (b : List Nat) : Nat := if 4096 < b.length then 3 else if b.length = 0 then 110 else if (eachF b.length b 0).isNone then 110 else 0
def okV (post : Bool) (L : List (Nat × InsS)) : Prop := goodF post L = true ∧ (∀ k ∈ goesL L, k ∈ startL L) ∧ (lastF L = 0 ∨ lastF L = 29 ∨ lastF L = 30)
/-- What Check tells: 0 just if the code's instructions are so. -/
def ChkV (b : List Nat) (post : Bool) (z : Nat) : Prop := if eachE b ≠ 0 then z = eachE b else ∀ L, eachF b.length b 0 = some L → (z = 0 ∨ z = 110) ∧ (z = 0 ↔ okV post L)
section
variable {H : Type}
theorem atKey_fold (u z : DataW H) (k : Lit) (hk : WideAt.IsKeyLit k) : ∀ (acc : List Lit) (m : DataW H), Maps.IsMap m → (k ∈ acc → (acc.foldl (fun m x => m.put x u) m).atKey k z = u) ∧ (k ∉ acc → (acc.foldl (fun m x => m.put x u) m).atKey k z = m.atKey k z)
  | [], m, _ => ⟨fun h => (by cases h), fun _ => rfl⟩
  | x :: l, m, hm => by
    have ih := atKey_fold u z k hk l (m.put x u) (hm.put x u)
    rw [List.foldl_cons]
    refine ⟨fun h => ?_, fun h => ?_⟩
    · by_cases hl : k ∈ l
      · exact ih.1 hl
      · rw [ih.2 hl]
        rcases List.mem_cons.1 h with rfl | h
        · exact Maps.atKey_put_same hm hk u z
        · exact absurd h hl
    · rw [ih.2 (fun hl => h (List.mem_cons_of_mem _ hl)), Maps.atKey_put_other (fun e => h (by rw [e]; exact List.mem_cons_self))]
theorem atKey_setOf (u z : DataW H) (k : Lit) (hk : WideAt.IsKeyLit k) (acc : List Lit) : (k ∈ acc → (Maps.setOf u acc).atKey k z = u) ∧ (k ∉ acc → (Maps.setOf u acc).atKey k z = z) := by
  have h := atKey_fold u z k hk acc (.map []) Maps.isMap_empty
  exact ⟨h.1, fun hn => (h.2 hn).trans rfl⟩
theorem key_int {a : Int} (h : (Lit.int .i64 a).wf = true) : WideAt.IsKeyLit (.int .i64 a) := by
  exact trivial
end
end Go.Proofs.Ythmpagehmfillaa
namespace Go.Proofs.Ythmpagehmfillaa
set_option linter.unusedSimpArgs false
set_option linter.unusedVariables false
theorem OkL.count : ∀ {L : List InsS} {p q : Nat}, OkL L p q → L.length + p ≤ q
  | [], p, q, h => by rw [show p = q from h]; simp
  | i :: L, p, q, h => by
    have h1 := OkL.count h.2
    have h2 := lenI_pos h.1
    rw [List.length_cons]
    omega
theorem atL_mem : ∀ {L : List InsS} {p : Nat} {x : Nat × InsS}, x ∈ atL L p → x.2 ∈ L
  | i :: L, p, x, h => by
    rcases List.mem_cons.1 (show x ∈ (p, i) :: atL L (p + lenI i) from h) with rfl | h
    · exact List.mem_cons_self
    · exact List.mem_cons_of_mem _ (atL_mem h)
theorem StI.at : ∀ {L : List InsS} {p n : Nat} (i : InsS), StI L p n → ∃ j, (n, j) ∈ atL (L ++ [i]) p
  | [], p, n, i, h => ⟨i, by rw [show n = p from h]; exact List.mem_cons_self⟩
  | k :: L, p, n, i, h => by
    rcases h with rfl | h
    · exact ⟨k, List.mem_cons_self⟩
    · obtain ⟨j, hj⟩ := StI.at i h
      exact ⟨j, List.mem_cons_of_mem _ hj⟩
theorem atL_snoc : ∀ (L : List InsS) (p : Nat) (i : InsS), ∃ q, atL (L ++ [i]) p = atL L p ++ [(q, i)]
  | [], p, i => ⟨p, rfl⟩
  | k :: L, p, i => by
    obtain ⟨q, h⟩ := atL_snoc L (p + lenI k) i
    exact ⟨q, by show (p, k) :: atL (L ++ [i]) _ = _; rw [h]; rfl⟩
theorem stmts_chk {post : Bool} {T : Sts} (h : stmtsE post T = 0) : (1 ≤ (stmtsC post T).length ∧ (stmtsC post T).length ≤ 4096) ∧ eachE (stmtsC post T) = 0 ∧ ∀ L, eachF (stmtsC post T).length (stmtsC post T) 0 = some L → okV post L := by
  have hr : rightT post T = true ∧ sizeT T < 4096 := by
    unfold stmtsE at h
    cases hr : rightT post T with
    | false => rw [hr, if_pos rfl] at h; cases h
    | true =>
      rw [hr, if_neg (by decide)] at h
      by_cases h4 : 4096 ≤ sizeT T
      · rw [if_pos h4] at h; cases h
      · exact ⟨rfl, by omega⟩
  have hd := hr.1
  unfold rightT at hd
  simp only [Bool.and_eq_true] at hd
  have hg := gen_ok 20 T [] hd.1.1 hd.1.2 (by omega) (by simp; omega)
  obtain ⟨-, hj, hn⟩ := ins_jump 20 T 0 hd.1.1 hd.1.2 (by omega) (by omega)
  have hl := hg.len
  have hc : stmtsC post T = putO (genO T []) i0 := by unfold stmtsC; rw [if_pos h]
  have hL := hg.trans (Lay.put (out := genO T []) (i := i0) (i0_put _))
  rw [← hc, hl] at hL
  simp only [List.length_nil, Nat.zero_add] at hL hl
  have h1 : lenI i0 = 1 := by decide
  rw [h1] at hL
  have hlen := hL.len
  have hcnt := OkL.count hL.2
  simp only [List.length_nil, Nat.add_zero] at hcnt
  have hf := each_lay (insT T 0 ++ [i0]) (stmtsC post T).length (stmtsC post T) 0 (sizeT T + 1) hL.2 (by rw [List.drop_zero]; have := hL.1; rw [List.nil_append] at this; exact this) hlen (by rw [hlen]; exact hcnt)
  refine ⟨⟨by rw [hlen]; omega, by rw [hlen]; omega⟩, ?_, fun L hL' => ?_⟩
  · unfold eachE
    rw [if_neg (by rw [hlen]; omega), if_neg (by rw [hlen]; omega), hf]
    rfl
  · rw [hf] at hL'
    injection hL' with e
    subst e
    refine ⟨?_, fun k hk => ?_, .inl ?_⟩
    · unfold goodF
      rw [List.all_eq_true]
      intro x hx
      cases post with
      | true => rfl
      | false =>
        have hm := atL_mem hx
        rw [Bool.false_or, decide_eq_true_eq]
        rcases List.mem_append.1 hm with hm | hm
        · exact hn rfl _ hm
        · rw [List.mem_singleton.1 hm]; decide
    · unfold goesL at hk
      obtain ⟨x, hx, rfl⟩ := List.mem_map.1 hk
      obtain ⟨hx, ho⟩ := List.mem_filter.1 hx
      have ho' := of_decide_eq_true ho
      have hm := atL_mem hx
      rcases List.mem_append.1 hm with hm | hm
      · obtain ⟨n, hn1, hn2⟩ := hj _ hm ho'
        obtain ⟨j, hj'⟩ := hn2.at i0
        unfold startL
        rw [hn1]
        exact List.mem_map.2 ⟨(n, j), hj', rfl⟩
      · rw [List.mem_singleton.1 hm] at ho'
        exact absurd ho' (by decide)
    · obtain ⟨q, hq⟩ := atL_snoc (insT T 0) 0 i0
      rw [hq, lastF_snoc]
      rfl
end Go.Proofs.Ythmpagehmfillaa
namespace Go.Proofs.Ythmpagehmfillaa
set_option linter.unusedSimpArgs false
set_option linter.unusedVariables false
theorem check_mod (c : CfgS) (nc np : Nat) (hnc : nc ≤ 4096) (hnp : np ≤ 4096) (hps : if c.has then 1 ≤ np else np = 0) (h : checkT c ≠ 124) : (checkT c = 0) ↔ (modelT c.h c.m c.ph c.pm c.parts nc np = 0) := by
  unfold checkT at h ⊢
  by_cases h1 : configT c = false
  · rw [if_pos h1] at h; exact absurd rfl h
  · rw [if_neg h1]
    have h2 : configT c = true := by cases hq : configT c with
      | true => rfl
      | false => exact absurd hq h1
    have h3 : ¬ (np = 0 ∧ 0 < c.ph + c.pm) := by
      unfold configT at h2
      simp only [Bool.and_eq_true, Bool.or_eq_true, decide_eq_true_eq] at h2
      obtain ⟨-, h4⟩ := h2
      rintro ⟨h5, h6⟩
      cases hh : c.has with
      | true => rw [hh] at hps; simp at hps; omega
      | false =>
        rcases h4 with h4 | h4
        · rw [hh] at h4; cases h4
        · omega
    have hin : inC (nc : Int) 4096 = true ∧ inC (np : Int) 4096 = true := by
      unfold inC
      constructor <;> (simp only [Bool.and_eq_true, decide_eq_true_eq]; omega)
    have hr : rngM c.h c.m c.ph c.pm nc np 0 = (inC c.h 8 && inC c.ph 8 && inC c.m 12 && inC c.pm 12) := by
      show (inC c.h 8 && (inC c.ph 8 && (inC c.m 12 && (inC c.pm 12 && (inC nc 4096 && inC np 4096))))) = _
      rw [hin.1, hin.2]
      simp only [Bool.and_true, Bool.and_assoc]
    unfold modelT
    rw [hr]
    by_cases h4 : (inC c.h 8 && inC c.ph 8 && inC c.m 12 && inC c.pm 12) = false
    · rw [if_pos h4, if_pos h4]
      exact ⟨fun h => absurd h (by decide), fun h => absurd h (by decide)⟩
    · rw [if_neg h4, if_neg h4]
      generalize (2 : Int) ^ c.h.toNat = n
      by_cases h6 : rightPs c.parts = 0
      · by_cases h5 : n < (c.parts.length : Int)
        · rw [if_pos (show (np = 0 ∧ 0 < c.ph + c.pm) ∨ n < (c.parts.length : Int) from .inr h5)]
          simp [h6, h5]
        · rw [if_neg (show ¬ ((np = 0 ∧ 0 < c.ph + c.pm) ∨ n < (c.parts.length : Int)) from fun h => h.elim h3 h5)]
          simp [h6, h5]
      · by_cases h5 : n < (c.parts.length : Int)
        · rw [if_pos (show (np = 0 ∧ 0 < c.ph + c.pm) ∨ n < (c.parts.length : Int) from .inr h5)]
          simp [h6]
        · rw [if_neg (show ¬ ((np = 0 ∧ 0 < c.ph + c.pm) ∨ n < (c.parts.length : Int)) from fun h => h.elim h3 h5)]
          simp [h6]
/-- What is not compiled is no model. -/
theorem compR_no {r : Res CfgS} (h : (compR r).2.1 ≠ 0) : (compR r).1 = mod0 := by
  unfold compR compK at h ⊢
  repeat' split
  all_goals first | rfl | skip
  all_goals simp_all
/-- What is compiled is a right model, whose codes may be run. -/
theorem compR_yes {s : ByteArray} (h : (compR (parseT s)).2.1 = 0) : ∃ c, parseT s = .ok c ∧ modelT c.h c.m c.ph c.pm c.parts (stmtsC false c.code).length (if c.has then stmtsC true c.post else []).length = 0 ∧
    (compR (parseT s)).1 = ⟨c.h, c.m, c.ph, c.pm, c.parts, stmtsC false c.code, if c.has then stmtsC true c.post else []⟩ ∧ stmtsE false c.code = 0 ∧ (c.has = true → stmtsE true c.post = 0) := by
  cases hp : parseT s with
  | error x =>
    exfalso
    rw [hp] at h
    unfold compR compK cfgO fltO at h
    dsimp only at h
    have hc : checkT ⟨0, 0, 0, 0, [], .nil, .nil, false⟩ = 100 := by kernel_rfl
    by_cases hx : x.1 ≠ 0
    · rw [if_pos hx] at h
      have h' : (x.1 : Int) = 0 := h
      omega
    · rw [if_neg hx, if_pos (by rw [hc]; decide), hc] at h
      exact absurd h (by decide)
  | ok c =>
    rw [hp] at h
    unfold compR compK cfgO fltO at h ⊢
    dsimp only at h ⊢
    rw [if_neg (by simp)] at h ⊢
    by_cases h1 : checkT c ≠ 0
    · rw [if_pos h1] at h; exact absurd h h1
    rw [if_neg h1] at h ⊢
    by_cases h2 : stmtsE false c.code ≠ 0
    · rw [if_pos h2] at h
      exact absurd h (by simpa using h2)
    rw [if_neg h2] at h ⊢
    have h1' : checkT c = 0 := by simpa using h1
    have h2' : stmtsE false c.code = 0 := by simpa using h2
    have k1 := (stmts_chk h2').1
    by_cases h3 : c.has = true
    · rw [if_pos h3] at h ⊢
      by_cases h4 : stmtsE true c.post ≠ 0
      · rw [if_pos h4] at h
        exact absurd h (by simpa using h4)
      rw [if_neg h4]
      have h4' : stmtsE true c.post = 0 := by simpa using h4
      have k2 := (stmts_chk h4').1
      refine ⟨c, rfl, ?_, by rw [if_pos h3], h2', fun _ => h4'⟩
      rw [if_pos h3]
      exact (check_mod c _ _ k1.2 k2.2 (by rw [if_pos h3]; exact k2.1) (by rw [h1']; decide)).1 h1'
    · rw [if_neg h3]
      refine ⟨c, rfl, ?_, by rw [if_neg h3], h2', fun h => absurd h h3⟩
      rw [if_neg h3]
      exact (check_mod c _ _ k1.2 (Nat.zero_le _) (by rw [if_neg h3]) (by rw [h1']; decide)).1 h1'
end Go.Proofs.Ythmpagehmfillaa
