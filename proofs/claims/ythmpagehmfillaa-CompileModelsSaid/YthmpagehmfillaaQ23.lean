/-
  AN INSTRUCTION'S BYTES, plain. Conditions: none.
  THE CODE OF STATEMENTS, plain: an instruction's bytes, how long a list's code is, the code itself. Conditions: none.
  WHAT PARTS MAY BE, plain; the walks of rowOf and of right's closure. Conditions: a kind is a byte.
-/
import Derived.Test.YthmpagehmfillaaQ02
import Derived.Test.YthmpagehmfillaaQ04
import Derived.Test.YthmpagehmfillaaQ22
import Derived.WalkKit
import Derived.ProofKit
namespace Go.Proofs.Ythmpagehmfillaa
set_option linter.unusedSimpArgs false
set_option linter.unusedVariables false
/-- How many bytes stand behind an instruction's first one. -/
def moreX (x : Shp) (s : Int) : Nat := if x.long then 2 else if x.from' || x.number || x.jump || (x.operand && decide (s = 7)) then 1 else 0
def moreI (i : InsS) : Nat := moreX (shp i.o) i.s
def lenI (i : InsS) : Nat := if rightI i.o i.d i.s i.n then 1 + moreI i else 0
/-- What Put tells. -/
def putE (i : InsS) (p : Nat) : Nat :=
  if rightI i.o i.d i.s i.n = false then 110 else if (shp i.o).jump = true ∧ (i.n - p - 2 < -128 ∨ 127 < i.n - p - 2) then 125 else 0
/-- What stands behind the first byte. -/
def tailX (x : Shp) (s n : Int) (p : Nat) : List Nat :=
  if x.long then [(n / 256).toNat, (n % 256).toNat] else if x.jump then [((n - p - 2) % 256).toNat] else if x.from' then [s.toNat] else if x.number || (x.operand && decide (s = 7)) then [n.toNat] else []
def lowX (x : Shp) (d s : Int) : Nat := if x.operand then s.toNat else d.toNat
/-- An instruction's bytes: none, where it may not stand. -/
def putI (i : InsS) (p : Nat) : List Nat := if putE i p = 0 then (i.o * 8 + lowX (shp i.o) i.d i.s) :: tailX (shp i.o) i.s i.n p else []
theorem tailX_len (x : Shp) (s n : Int) (p : Nat) : (tailX x s n p).length ≤ 2 := by
  unfold tailX
  split
  · exact Nat.le_refl _
  split
  · exact Nat.le_succ _
  split
  · exact Nat.le_succ _
  split
  · exact Nat.le_succ _
  · exact Nat.zero_le _
theorem putI_len (i : InsS) (p : Nat) : (putI i p).length ≤ 3 := by
  unfold putI
  split
  · have := tailX_len (shp i.o) i.s i.n p
    simp only [List.length_cons]
    omega
  · exact Nat.zero_le _
theorem lenI_le (i : InsS) : lenI i ≤ 3 := by
  unfold lenI moreI moreX
  split
  · split
    · omega
    split
    · omega
    · omega
  · omega
theorem wnN {x : Int} {n : Nat} (hn : n ≤ 100000) (e : x = (n : Int)) : IntKind.i64.wrap x = (n : Int) := by
  subst e
  rw [IntKind.wrap_i64]
  all_goals omega
end Go.Proofs.Ythmpagehmfillaa
namespace Go.Proofs.Ythmpagehmfillaa
set_option linter.unusedSimpArgs false
set_option linter.unusedVariables false
def endK (se el : Nat) : Nat := if el = 0 then 0 else if se ≤ 127 then 2 else 3
def overK (sb en : Nat) : Nat := if sb + en ≤ 127 then 2 else 5
/-- How long a statement's code is. -/
def oneK (k : Nat) (i : InsS) (c : ConS) (sb se el : Nat) : Nat :=
  if k = 2 then lenI c.i + overK sb (endK se el) + sb + endK se el + se
  else if k = 3 then (if sb + lenI c.i + 2 ≤ 128 then sb + lenI c.i + 2 else sb + lenI c.i + 5)
  else lenI i
/-- How long a list's code is; 6000: that or more. -/
def sizeT : Sts → Nat
  | .nil => 0
  | .cons k i c b e _ r => min 6000 (oneK k i c (sizeT b) (sizeT e) e.len + sizeT r)
def oneS (x : StS) : Nat := oneK x.k x.i x.c (sizeT x.b) (sizeT x.e) x.e.len
theorem sizeT_le : ∀ (T : Sts), sizeT T ≤ 6000
  | .nil => Nat.zero_le _
  | .cons .. => Nat.min_le_left _ _
theorem endK_le (se el : Nat) : endK se el ≤ 3 := by
  unfold endK
  split
  · omega
  split <;> omega
theorem overK_le (sb en : Nat) : overK sb en = 2 ∨ overK sb en = 5 := by
  unfold overK
  split
  · exact .inl rfl
  · exact .inr rfl
theorem oneS_le (x : StS) : oneS x ≤ 12020 := by
  unfold oneS oneK
  have h1 := sizeT_le x.b
  have h2 := sizeT_le x.e
  have h3 := lenI_le x.i
  have h4 := lenI_le x.c.i
  have h5 := endK_le (sizeT x.e) x.e.len
  have h6 := overK_le (sizeT x.b) (endK (sizeT x.e) x.e.len)
  split
  · omega
  split
  · split <;> omega
  · omega
theorem sizeT_drp {T : Sts} {j : Nat} (h : j < T.len) : sizeT (Sts.drp j T) = min 6000 (oneS (T.nth j) + sizeT (Sts.drp (j + 1) T)) := by
  rw [Sts.drp_nth h]
  rfl
/-- An instruction behind some code. -/
def putO (out : List Nat) (i : InsS) : List Nat := out ++ putI i out.length
/-- A conditional jump behind some code, taken if F is f. -/
def jumpO (out : List Nat) (f : Bool) (tg : Int) (short : Bool) : List Nat :=
  if short then putO out ⟨if f then 27 else 28, 0, 0, tg⟩
  else putO (putO out ⟨if f then 28 else 27, 0, 0, out.length + 5⟩) ⟨30, 0, 0, tg⟩
/-- The jump behind Body. -/
def endO (out : List Nat) (en se : Nat) : List Nat :=
  if en = 2 then putO out ⟨29, 0, 0, (out.length + 2 + se : Nat)⟩ else if en = 3 then putO out ⟨30, 0, 0, (out.length + 3 + se : Nat)⟩ else out
/-- The head of SIf: its condition, the jump over Body. -/
def ifO (out : List Nat) (c : ConS) (sb en : Nat) : List Nat :=
  jumpO (putO out c.i) c.nt (((putO out c.i).length + overK sb en + sb + en : Nat) : Int) (decide (overK sb en = 2))
/-- The foot of SDo: its condition, the jump back. -/
def doO (out : List Nat) (c : ConS) (fr : Nat) : List Nat :=
  jumpO (putO out c.i) (!c.nt) (fr : Int) (decide ((putO out c.i).length + 2 ≤ 128 + fr))
/-- The code of a list behind some code. -/
def genO : Sts → List Nat → List Nat
  | .nil, out => out
  | .cons k i c b e _ r, out => genO r (
      if k = 2 then genO e (endO (genO b (ifO out c (sizeT b) (endK (sizeT e) e.len))) (endK (sizeT e) e.len) (sizeT e))
      else if k = 3 then doO (genO b out) c out.length
      else putO out i)
/-- One statement's. -/
def gen1 (x : StS) (out : List Nat) : List Nat :=
  if x.k = 2 then genO x.e (endO (genO x.b (ifO out x.c (sizeT x.b) (endK (sizeT x.e) x.e.len))) (endK (sizeT x.e) x.e.len) (sizeT x.e))
  else if x.k = 3 then doO (genO x.b out) x.c out.length
  else putO out x.i
theorem genO_drp {T : Sts} {j : Nat} (h : j < T.len) (out : List Nat) : genO (Sts.drp j T) out = genO (Sts.drp (j + 1) T) (gen1 (T.nth j) out) := by
  rw [Sts.drp_nth h]
  rfl
theorem putO_len (out : List Nat) (i : InsS) : out.length ≤ (putO out i).length ∧ (putO out i).length ≤ out.length + 3 := by
  have := putI_len i out.length
  unfold putO
  rw [List.length_append]
  omega
theorem jumpO_len (out : List Nat) (f : Bool) (tg : Int) (s : Bool) : out.length ≤ (jumpO out f tg s).length ∧ (jumpO out f tg s).length ≤ out.length + 6 := by
  unfold jumpO
  split
  · have := putO_len out ⟨if f then 27 else 28, 0, 0, tg⟩
    omega
  · have h1 := putO_len out ⟨if f then 28 else 27, 0, 0, out.length + 5⟩
    have h2 := putO_len (putO out ⟨if f then 28 else 27, 0, 0, out.length + 5⟩) ⟨30, 0, 0, tg⟩
    omega
theorem endO_len (out : List Nat) (en se : Nat) : out.length ≤ (endO out en se).length ∧ (endO out en se).length ≤ out.length + 3 := by
  unfold endO
  split
  · exact putO_len _ _
  split
  · exact putO_len _ _
  · omega
theorem ifO_len (out : List Nat) (c : ConS) (sb en : Nat) : out.length ≤ (ifO out c sb en).length ∧ (ifO out c sb en).length ≤ out.length + 9 := by
  unfold ifO
  have h1 := putO_len out c.i
  have h2 := jumpO_len (putO out c.i) c.nt (((putO out c.i).length + overK sb en + sb + en : Nat) : Int) (decide (overK sb en = 2))
  omega
theorem doO_len (out : List Nat) (c : ConS) (fr : Nat) : out.length ≤ (doO out c fr).length ∧ (doO out c fr).length ≤ out.length + 9 := by
  unfold doO
  have h1 := putO_len out c.i
  have h2 := jumpO_len (putO out c.i) (!c.nt) (fr : Int) (decide ((putO out c.i).length + 2 ≤ 128 + fr))
  omega
theorem genO_len : ∀ (T : Sts) (out : List Nat), out.length ≤ (genO T out).length ∧ (genO T out).length ≤ out.length + 12 * T.all
  | .nil, out => by
    show out.length ≤ out.length ∧ out.length ≤ _
    omega
  | .cons k i c b e ln r, out => by
    show out.length ≤ (genO r _).length ∧ (genO r _).length ≤ out.length + 12 * (b.all + e.all + r.all + 1)
    split
    · have h1 := ifO_len out c (sizeT b) (endK (sizeT e) e.len)
      have h2 := genO_len b (ifO out c (sizeT b) (endK (sizeT e) e.len))
      have h3 := endO_len (genO b (ifO out c (sizeT b) (endK (sizeT e) e.len))) (endK (sizeT e) e.len) (sizeT e)
      have h4 := genO_len e (endO (genO b (ifO out c (sizeT b) (endK (sizeT e) e.len))) (endK (sizeT e) e.len) (sizeT e))
      have h5 := genO_len r (genO e (endO (genO b (ifO out c (sizeT b) (endK (sizeT e) e.len))) (endK (sizeT e) e.len) (sizeT e)))
      omega
    split
    · have h2 := genO_len b out
      have h3 := doO_len (genO b out) c out.length
      have h5 := genO_len r (doO (genO b out) c out.length)
      omega
    · have h1 := putO_len out i
      have h5 := genO_len r (putO out i)
      omega
theorem gen1_len (x : StS) (out : List Nat) : out.length ≤ (gen1 x out).length ∧ (gen1 x out).length ≤ out.length + 12 * (x.b.all + x.e.all + 1) := by
  have h := genO_len (.cons x.k x.i x.c x.b x.e 0 .nil) out
  exact h
theorem Sts.drp_all {T : Sts} {j : Nat} (h : j < T.len) : (Sts.drp j T).all = (T.nth j).b.all + (T.nth j).e.all + (Sts.drp (j + 1) T).all + 1 := by
  rw [Sts.drp_nth h]
  rfl
/-- Only kinds that there are; a halt has no instruction. -/
def Sts.kn : Sts → Prop
  | .nil => True
  | .cons k i _ b e _ r => (k = 1 ∨ k = 2 ∨ k = 3 ∨ (k = 4 ∧ i = i0)) ∧ b.kn ∧ e.kn ∧ r.kn
theorem Sts.kn_nth : ∀ {T : Sts} {j : Nat}, T.kn → j < T.len → ((T.nth j).k = 1 ∨ (T.nth j).k = 2 ∨ (T.nth j).k = 3 ∨ ((T.nth j).k = 4 ∧ (T.nth j).i = i0)) ∧ (T.nth j).b.kn ∧ (T.nth j).e.kn
  | .nil, _, _, h => absurd h (Nat.not_lt_zero _)
  | .cons k i c b e ln r, 0, h, _ => ⟨h.1, h.2.1, h.2.2.1⟩
  | .cons k i c b e ln r, j + 1, h, hj => Sts.kn_nth (T := r) (j := j) h.2.2.2 (by have : j + 1 < r.len + 1 := hj; omega)
theorem kn_of {post : Bool} : ∀ {lv : Nat} {T : Sts}, dpt lv T = true → alR post lv T = true → T.kn
  | lv, .nil, _, _ => trivial
  | 0, .cons .., h, _ => by cases h
  | lv + 1, .cons k i c b e ln r, h, ha => by
    have h' : (dpt lv b && dpt lv e && dpt (lv + 1) r) = true := h
    have ha' : (rightS post ⟨k, i, c, b, e, ln⟩ && alR post lv b && alR post lv e && alR post (lv + 1) r) = true := ha
    simp only [Bool.and_eq_true] at h' ha'
    refine ⟨?_, kn_of h'.1.1 ha'.1.1.2, kn_of h'.1.2 ha'.1.2, kn_of h'.2 ha'.2⟩
    have hr := ha'.1.1.1
    unfold rightS at hr
    by_cases k1 : k = 1
    · exact .inl k1
    by_cases k4 : k = 4
    · rw [if_neg k1, if_pos k4, Bool.and_eq_true] at hr
      exact .inr (.inr (.inr ⟨k4, of_decide_eq_true hr.2⟩))
    by_cases k2 : k = 2
    · exact .inr (.inl k2)
    by_cases k3 : k = 3
    · exact .inr (.inr (.inl k3))
    rw [if_neg k1, if_neg k4, if_neg (by intro h; rcases h with h | h <;> contradiction)] at hr
    cases hr
theorem rightT_kn {post : Bool} {T : Sts} (h : rightT post T = true) : T.kn := by
  unfold rightT at h
  simp only [Bool.and_eq_true] at h
  exact kn_of h.1.1 h.1.2
/-- What the code of statements comes to. -/
def stmtsE (post : Bool) (T : Sts) : Nat := if rightT post T = false then 124 else if 4096 ≤ sizeT T then 3 else 0
def stmtsC (post : Bool) (T : Sts) : List Nat := if stmtsE post T = 0 then putO (genO T []) i0 else []
end Go.Proofs.Ythmpagehmfillaa
namespace Go.Proofs.Ythmpagehmfillaa
open Go.RowKit
set_option linter.unusedSimpArgs false
set_option linter.unusedVariables false
/-- What a kind's fields may be. -/
structure RowP where
  known : Bool
  least : Int
  most : Int
  a : Bool
  b : Bool
  low : Int
  high : Int
  rate : Bool
  limit : Bool
  deriving DecidableEq
def rowP (k : Nat) : RowP :=
  if k = 1 then ⟨true, 0, -1, false, false, -2047, 2047, false, false⟩
  else if k = 2 then ⟨true, 0, 16, false, false, 0, 0, false, true⟩
  else if k = 3 then ⟨true, 0, 16, false, false, 0, 0, false, false⟩
  else if k = 4 then ⟨true, 4, 16, false, false, 0, 0, false, false⟩
  else if k = 5 then ⟨true, 0, -1, true, true, 0, 256, false, false⟩
  else if k = 6 then ⟨true, 0, 16, true, true, 0, 0, true, false⟩
  else if k = 7 then ⟨true, 0, 12, true, true, 0, 0, true, false⟩
  else if k = 8 then ⟨true, 0, 16, true, false, 0, 0, false, false⟩
  else if k = 9 then ⟨true, 0, 10, true, false, 0, 0, false, true⟩
  else ⟨false, 0, 0, false, false, 0, 0, false, false⟩
def rowC (r : RowP) : Array Value := #[.int .i64 r.least, .int .i64 r.most, .bool r.a, .bool r.b, .int .i64 r.low, .int .i64 r.high, .bool r.rate, .bool r.limit]
def inP (n low high : Int) (named : Bool) : Bool := if named then decide (low ≤ n) && decide (n ≤ high) else decide (0 ≤ n) && decide (n ≤ 0)
theorem inP_any (n low high : Int) (named : Bool) (w : World) : Calls Try.prog 75 #[.int .i64 n, .int .i64 low, .int .i64 high, .bool named] w fun e w' => e = .returned (.bool (inP n low high named)) ∧ w' = w := by
  unfold inP
  cases named with
  | true =>
    rw [if_pos rfl]
    by_cases h0 : low ≤ n
    · rw [decide_eq_true h0]
      by_cases h1 : n ≤ high
      · rw [decide_eq_true h1]
        go_enter Try.func75, Try.ntmps75
        go_wp2_with fail
        go_ret
        exact ⟨rfl, rfl⟩
      · rw [decide_eq_false h1]
        go_enter Try.func75, Try.ntmps75
        go_wp2_with fail
        go_ret
        refine ⟨?_, rfl⟩
        first
          | rfl
          | (show Ending.returned (.bool (decide (n ≤ high))) = _; rw [decide_eq_false (by omega)]; rfl)
    · rw [decide_eq_false h0]
      go_enter Try.func75, Try.ntmps75
      go_wp2_with fail
      go_ret
      exact ⟨rfl, rfl⟩
  | false =>
    rw [if_neg (by decide)]
    by_cases h0 : 0 ≤ n
    · rw [decide_eq_true h0]
      by_cases h1 : n ≤ 0
      · rw [decide_eq_true h1]
        go_enter Try.func75, Try.ntmps75
        go_wp2_with fail
        go_ret
        exact ⟨rfl, rfl⟩
      · rw [decide_eq_false h1]
        go_enter Try.func75, Try.ntmps75
        go_wp2_with fail
        go_ret
        refine ⟨?_, rfl⟩
        first
          | rfl
          | (show Ending.returned (.bool (decide (n ≤ 0))) = _; rw [decide_eq_false (by omega)]; rfl)
    · rw [decide_eq_false h0]
      go_enter Try.func75, Try.ntmps75
      go_wp2_with fail
      go_ret
      exact ⟨rfl, rfl⟩
theorem rowP_size : (Try.prog.info? 156).map (·.size) = some 8 := by kernel_rfl
theorem rowP_results {fn : Func} {p q : Tmp} (h : fn.results = #[.cell p 156, .tmp q]) (tmps : Array Value) (w : World) (cs : Array Value) (v : Value) (hp : tmps.getD p undef = .pointer (some ⟨w.heap.size, 0, none⟩)) (hq : tmps.getD q undef = v) (hs : cs.size = 8) :
    (results fn tmps).run Try.prog (w.alloc (.cells cs 156)) = .ok (.tuple #[.agg cs, v]) (w.alloc (.cells cs 156)) := by
  have hp' : tmps[p]?.getD undef = .pointer (some ⟨w.heap.size, 0, none⟩) := by simpa using hp
  have hq' : tmps[q]?.getD undef = v := by simpa using hq
  simp [results, h, hp', hq', asAddr, run_loadVar_row (w.alloc (.cells cs 156)) w.heap.size 156 156 _ _ _ (heap_alloc_new w _) Try.underlying156 rfl (by rw [hs]; exact rowP_size)]
set_option maxRecDepth 100000 in
set_option maxHeartbeats 8000000 in
theorem rowP_any (k : Nat) (w : World) : Calls Try.prog 74 #[.int .u8 k] w fun e w' => e = .returned (.tuple #[.agg (rowC (rowP k)), .bool (rowP k).known]) ∧ Below w.heap.size w w' := by
  by_cases h9 : 1 ≤ k ∧ k ≤ 9
  · have hc : k = 1 ∨ k = 2 ∨ k = 3 ∨ k = 4 ∨ k = 5 ∨ k = 6 ∨ k = 7 ∨ k = 8 ∨ k = 9 := by omega
    clear h9
    rcases hc with rfl | rfl | rfl | rfl | rfl | rfl | rfl | rfl | rfl
    all_goals
      go_enter Try.func74, Try.ntmps74
      go_wp2_with fail
      (try simp only [Exit.inBlock, Exit.then])
      refine bodyPost_ret (rowP_results rfl _ w _ _ rfl rfl rfl) rfl ?_
      exact ⟨rfl, (Below.refl _ _).alloc (Nat.le_refl _) _⟩
  · have e1 : ((k : Int) == 1) = false := by rw [beq_eq_false_iff_ne]; omega
    have e2 : ((k : Int) == 2) = false := by rw [beq_eq_false_iff_ne]; omega
    have e3 : ((k : Int) == 3) = false := by rw [beq_eq_false_iff_ne]; omega
    have e4 : ((k : Int) == 4) = false := by rw [beq_eq_false_iff_ne]; omega
    have e5 : ((k : Int) == 5) = false := by rw [beq_eq_false_iff_ne]; omega
    have e6 : ((k : Int) == 6) = false := by rw [beq_eq_false_iff_ne]; omega
    have e7 : ((k : Int) == 7) = false := by rw [beq_eq_false_iff_ne]; omega
    have e8 : ((k : Int) == 8) = false := by rw [beq_eq_false_iff_ne]; omega
    have e9 : ((k : Int) == 9) = false := by rw [beq_eq_false_iff_ne]; omega
    have hq : rowP k = ⟨false, 0, 0, false, false, 0, 0, false, false⟩ := by
      unfold rowP
      rw [if_neg (by omega), if_neg (by omega), if_neg (by omega), if_neg (by omega), if_neg (by omega), if_neg (by omega), if_neg (by omega), if_neg (by omega), if_neg (by omega)]
    rw [hq]
    clear hq h9
    go_enter Try.func74, Try.ntmps74
    go_wp2_with fail
    (try simp only [Exit.inBlock, Exit.then])
    refine bodyPost_ret (rowP_results rfl _ w _ _ rfl rfl rfl) rfl ?_
    exact ⟨rfl, (Below.refl _ _).alloc (Nat.le_refl _) _⟩
/-- How many places a part's tables have. -/
def placesP (p : PartS) : Int :=
  if (rowP p.k).known = false ∨ p.size < (rowP p.k).least ∨ (rowP p.k).most < p.size then 0
  else
    let n : Int := 2 ^ p.size.toNat
    if p.k = 3 then n + 256
    else if p.k = 4 then 2 * n
    else if p.k = 7 then (if p.b < 1 ∨ 8 < p.b then 0 else n * p.b)
    else if p.k = 8 then n + 512
    else if p.k = 9 then n * 32
    else n
def memP : List PartS → Int
  | [] => 0
  | p :: l => placesP p + memP l
def pZ : PartS := ⟨0, 0, 0, 0, 0, 0, 0⟩
/-- May a part stand at a place? -/
def partOk (p : PartS) (i : Nat) : Bool :=
  let r := rowP p.k
  r.known && inP p.size r.least r.most (decide (0 ≤ r.most)) && inP p.c r.low r.high (decide (0 < r.high)) && inP p.rate 1 64 r.rate && inP p.limit 1 1023 r.limit && inP p.a 0 (i - 1) r.a &&
    (if p.k = 7 then inP p.b 1 (min 8 (i - p.a)) true else inP p.b 0 (i - 1) r.b && !decide (p = pZ))
def allP : Nat → List PartS → Bool
  | _, [] => true
  | i, p :: l => partOk p i && allP (i + 1) l
def rightPs (l : List PartS) : Int := if l.length = 0 ∨ 16 < l.length then 100 else if allP 0 l then (if 1048576 < memP l then 101 else 0) else 100
theorem pow_16 : ∀ t < 17, (1 : Int) ≤ 2 ^ t ∧ (2 : Int) ^ t ≤ 65536 := by decide
theorem rowP_16 (k : Nat) : (rowP k).most ≤ 16 ∧ 0 ≤ (rowP k).least := by
  unfold rowP
  repeat' split
  all_goals exact ⟨by decide, by decide⟩
theorem places_le (p : PartS) : 0 ≤ placesP p ∧ placesP p ≤ 4194304 := by
  unfold placesP
  split
  · omega
  · rename_i h
    have hk := rowP_16 p.k
    have h1 : p.size.toNat < 17 := by omega
    obtain ⟨h2, h3⟩ := pow_16 _ h1
    generalize (2 : Int) ^ p.size.toNat = n at *
    simp only []
    split
    · omega
    split
    · omega
    split
    · split
      · omega
      · have hb : p.b = 1 ∨ p.b = 2 ∨ p.b = 3 ∨ p.b = 4 ∨ p.b = 5 ∨ p.b = 6 ∨ p.b = 7 ∨ p.b = 8 := by omega
        rcases hb with hb | hb | hb | hb | hb | hb | hb | hb <;> rw [hb] <;> omega
    split
    · omega
    split
    · omega
    · omega
theorem memP_le : ∀ (l : List PartS), 0 ≤ memP l ∧ memP l ≤ l.length * 4194304
  | [] => by simp [memP]
  | p :: l => by
    have h1 := places_le p
    have h2 := memP_le l
    simp only [memP, List.length_cons]
    push_cast
    omega
end Go.Proofs.Ythmpagehmfillaa
