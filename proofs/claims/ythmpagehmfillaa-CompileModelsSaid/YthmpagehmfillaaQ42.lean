/-
  THE INSTRUCTIONS OF STATEMENTS, plain. Conditions: none.
-/
import Derived.Test.YthmpagehmfillaaQ23
import Derived.Test.YthmpagehmfillaaQ41
namespace Go.Proofs.Ythmpagehmfillaa
set_option linter.unusedSimpArgs false
set_option linter.unusedVariables false
/-- Instructions lie right, one behind the other, from a place to a place. -/
def OkL : List InsS → Nat → Nat → Prop
  | [], p, q => p = q
  | i :: L, p, q => putE i p = 0 ∧ OkL L (p + lenI i) q
/-- The bytes of instructions from a place on. -/
def bytL : List InsS → Nat → List Nat
  | [], _ => []
  | i :: L, p => putI i p ++ bytL L (p + lenI i)
theorem OkL.append : ∀ {L M : List InsS} {p q r : Nat}, OkL L p q → OkL M q r → OkL (L ++ M) p r
  | [], M, p, q, r, h, h' => by rw [show p = q from h]; exact h'
  | i :: L, M, p, q, r, h, h' => ⟨h.1, OkL.append h.2 h'⟩
theorem bytL_append : ∀ {L : List InsS} (M : List InsS) {p q : Nat}, OkL L p q → bytL (L ++ M) p = bytL L p ++ bytL M q
  | [], M, p, q, h => by rw [show p = q from h]; rfl
  | i :: L, M, p, q, h => by
    show putI i p ++ bytL (L ++ M) _ = (putI i p ++ bytL L _) ++ bytL M q
    rw [bytL_append M h.2, List.append_assoc]
theorem OkL.len : ∀ {L : List InsS} {p q : Nat}, OkL L p q → (bytL L p).length + p = q
  | [], p, q, h => by rw [show p = q from h]; simp [bytL]
  | i :: L, p, q, h => by
    have := OkL.len h.2
    show (putI i p ++ bytL L _).length + p = q
    rw [List.length_append, putI_more h.1]
    omega
theorem OkL.le {L : List InsS} {p q : Nat} (h : OkL L p q) : p ≤ q := by
  have := h.len
  omega
/-- A conditional jump's instructions. -/
def jmpL (p : Nat) (f : Bool) (tg : Int) (short : Bool) : List InsS :=
  if short then [⟨if f then 27 else 28, 0, 0, tg⟩] else [⟨if f then 28 else 27, 0, 0, ((p + 5 : Nat) : Int)⟩, ⟨30, 0, 0, tg⟩]
def endL (p en se : Nat) : List InsS :=
  if en = 2 then [⟨29, 0, 0, ((p + 2 + se : Nat) : Int)⟩] else if en = 3 then [⟨30, 0, 0, ((p + 3 + se : Nat) : Int)⟩] else []
/-- The instructions of statements from a place on. -/
def insT : Sts → Nat → List InsS
  | .nil, _ => []
  | .cons k i c b e _ r, p =>
    (if k = 2 then
      c.i :: (jmpL (p + lenI c.i) c.nt ((p + lenI c.i + overK (sizeT b) (endK (sizeT e) e.len) + sizeT b + endK (sizeT e) e.len : Nat) : Int) (decide (overK (sizeT b) (endK (sizeT e) e.len) = 2)) ++
        (insT b (p + lenI c.i + overK (sizeT b) (endK (sizeT e) e.len)) ++
          (endL (p + lenI c.i + overK (sizeT b) (endK (sizeT e) e.len) + sizeT b) (endK (sizeT e) e.len) (sizeT e) ++
            insT e (p + lenI c.i + overK (sizeT b) (endK (sizeT e) e.len) + sizeT b + endK (sizeT e) e.len))))
    else if k = 3 then insT b p ++ (c.i :: jmpL (p + sizeT b + lenI c.i) (!c.nt) ((p : Nat) : Int) (decide (sizeT b + lenI c.i + 2 ≤ 128)))
    else [i]) ++ insT r (p + oneK k i c (sizeT b) (sizeT e) e.len)
theorem right_jmp {o : Nat} (ho : o = 27 ∨ o = 28 ∨ o = 29) {n : Nat} (hn : n ≤ 65535) : rightI o 0 0 (n : Int) = true ∧ (shp o).jump = true ∧ lenI ⟨o, 0, 0, (n : Int)⟩ = 2 := by
  have h1 : rightI o 0 0 (n : Int) = true := by
    rcases ho with rfl | rfl | rfl <;> simp [rightI, rightX, shp, inI] <;> omega
  refine ⟨h1, by rcases ho with rfl | rfl | rfl <;> rfl, ?_⟩
  unfold lenI moreI
  dsimp only
  rw [if_pos h1]
  rcases ho with rfl | rfl | rfl <;> rfl
theorem right_lj {n : Nat} (hn : n ≤ 65535) (p : Nat) : putE ⟨30, 0, 0, (n : Int)⟩ p = 0 ∧ lenI ⟨30, 0, 0, (n : Int)⟩ = 3 := by
  have h1 : rightI 30 0 0 (n : Int) = true := by
    simp [rightI, rightX, shp, inI]
    omega
  refine ⟨?_, ?_⟩
  · unfold putE
    dsimp only
    rw [h1, if_neg (by decide), if_neg (by intro h; exact absurd h.1 (by decide))]
  · unfold lenI moreI
    dsimp only
    rw [if_pos h1]
    rfl
theorem put_jmp {o : Nat} (ho : o = 27 ∨ o = 28 ∨ o = 29) {n p : Nat} (hn : n ≤ 65535) (h : n ≤ p + 129 ∧ p ≤ n + 126) : putE ⟨o, 0, 0, (n : Int)⟩ p = 0 := by
  obtain ⟨h1, h2, -⟩ := right_jmp ho hn
  unfold putE
  dsimp only
  rw [h1, if_neg (by decide), if_neg (by intro h; have := h.2; omega)]
theorem okJ {p tg : Nat} {f short : Bool} (h1 : tg ≤ 65535) (h2 : p ≤ 60000) (h3 : short = true → tg ≤ p + 129 ∧ p ≤ tg + 126) : OkL (jmpL p f (tg : Int) short) p (p + if short then 2 else 5) := by
  unfold jmpL
  cases short with
  | true =>
    have ho : (if f then 27 else 28) = 27 ∨ (if f then 27 else 28) = 28 ∨ (if f then 27 else 28) = 29 := by cases f <;> simp
    exact ⟨put_jmp ho h1 (h3 rfl), by rw [(right_jmp ho h1).2.2]; rfl⟩
  | false =>
    have ho : (if f then 28 else 27) = 27 ∨ (if f then 28 else 27) = 28 ∨ (if f then 28 else 27) = 29 := by cases f <;> simp
    exact ⟨put_jmp ho (by omega) (by omega), (right_lj h1 _).1, by rw [(right_jmp ho (by omega)).2.2, (right_lj h1 p).2]; rfl⟩
theorem okE {p en se : Nat} (he : en = 0 ∨ (en = 2 ∧ se ≤ 127) ∨ en = 3) (h2 : p + se ≤ 60000) : OkL (endL p en se) p (p + en) := by
  unfold endL
  rcases he with rfl | ⟨rfl, hs⟩ | rfl
  · rfl
  · rw [if_pos rfl]
    exact ⟨put_jmp (.inr (.inr rfl)) (by omega) (by omega), by rw [(right_jmp (.inr (.inr rfl)) (by omega)).2.2]; rfl⟩
  · rw [if_neg (by decide), if_pos rfl]
    exact ⟨(right_lj (by omega) _).1, by rw [(right_lj (by omega) p).2]; rfl⟩
theorem endK_or (se el : Nat) : endK se el = 0 ∨ (endK se el = 2 ∧ se ≤ 127) ∨ endK se el = 3 := by
  unfold endK
  split
  · exact .inl rfl
  split
  · exact .inr (.inl ⟨rfl, by assumption⟩)
  · exact .inr (.inr rfl)
theorem jumpO_eq (out : List Nat) (f : Bool) (tg : Int) (short : Bool) {q : Nat} (h : OkL (jmpL out.length f tg short) out.length q) : jumpO out f tg short = out ++ bytL (jmpL out.length f tg short) out.length := by
  unfold jumpO
  unfold jmpL at h ⊢
  cases short with
  | true => simp [bytL, putO]
  | false =>
    have e := putI_more h.1
    simp only [Bool.false_eq_true, if_false, Int.natCast_add, Int.cast_ofNat_Int] at e ⊢
    unfold putO bytL bytL bytL
    rw [List.length_append, e, List.append_nil, List.append_assoc]
theorem endO_eq (out : List Nat) (en se : Nat) : endO out en se = out ++ bytL (endL out.length en se) out.length := by
  unfold endO endL
  split
  · simp [bytL, putO]
  split
  · simp [bytL, putO]
  · simp [bytL]
end Go.Proofs.Ythmpagehmfillaa
