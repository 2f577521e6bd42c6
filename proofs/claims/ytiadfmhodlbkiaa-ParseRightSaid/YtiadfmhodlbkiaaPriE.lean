/-
  PARSING HANGS ON THE TOKENS ALONE: with the lines wiped out of the tokens, what is parsed is the same, but for lines. Plain. Conditions: none.
-/
import Derived.Test.YtiadfmhodlbkiaaParX2
import Derived.Test.YtiadfmhodlbkiaaSamC
namespace Go.Proofs.Ytiadfmhodlbkiaa
set_option linter.unusedSimpArgs false
set_option linter.unusedVariables false
def nt (t : Tok) : Tok := ⟨t.k, t.s, t.n, 0⟩
def nl (l : List Tok) : List Tok := l.map nt
theorem nl_hd (l : List Tok) : hd (nl l) = nt (hd l) := by cases l <;> rfl
theorem nl_tail (l : List Tok) : (nl l).tail = nl l.tail := by cases l <;> rfl
theorem nl_length (l : List Tok) : (nl l).length = l.length := List.length_map ..
theorem nl_s (l : List Tok) : (hd (nl l)).s = (hd l).s := by rw [nl_hd]; rfl
theorem nl_k (l : List Tok) : (hd (nl l)).k = (hd l).k := by rw [nl_hd]; rfl
theorem nl_n (l : List Tok) : (hd (nl l)).n = (hd l).n := by rw [nl_hd]; rfl
theorem nl_ln (l : List Tok) : (hd (nl l)).ln = 0 := by rw [nl_hd]; rfl
/-- A result without its lines. -/
def wp {α : Type} (g : α → α) : Res (α × List Tok) → Res (α × List Tok)
  | .error e => .error (e.1, 0)
  | .ok (x, l) => .ok (g x, nl l)
def wm {α : Type} (g : α → α) : Res (α × List Tok × Nat) → Res (α × List Tok × Nat)
  | .error e => .error (e.1, 0)
  | .ok (x, l, n) => .ok (g x, nl l, n)
theorem must_nl (s : List Nat) (l : List Tok) : must s (nl l) = wp id (must s l) := by
  unfold must
  rw [nl_s, nl_tail, nl_ln]
  split <;> rfl
theorem num_nl (m : Nat) (l : List Tok) : num m (nl l) = wp id (num m l) := by
  unfold num
  rw [nl_k, nl_tail, nl_ln, nl_n]
  split
  · split <;> rfl
  · rfl
theorem place_nl (l : List Tok) : place (nl l) = wp id (place l) := by
  unfold place
  rw [nl_s, nl_tail, nl_s, nl_tail, nl_ln, nl_ln]
  split
  · rcases look regs (hd l.tail).s with _ | _ | n <;> rfl
  · rcases look regs (hd l).s with _ | n <;> rfl
theorem operand_nl (l : List Tok) : operand (nl l) = wp id (operand l) := by
  unfold operand
  rw [nl_k, num_nl, place_nl]
  split
  · rcases num 255 l with e | ⟨y, z⟩ <;> rfl
  · rcases place l with e | ⟨y, z⟩ <;> rfl
theorem cond_nl (l : List Tok) : cond (nl l) = wp id (cond l) := by
  unfold cond
  rw [nl_s, nl_tail]
  simp only []
  rw [show (if decide ((hd l).s = [110, 111, 116]) = true then nl l.tail else nl l) = nl (if decide ((hd l).s = [110, 111, 116]) = true then l.tail else l) by split <;> rfl, must_nl]
  rcases must [97] (if decide ((hd l).s = [110, 111, 116]) = true then l.tail else l) with e | ⟨y, z⟩
  · rfl
  · show (match look cmps (hd (nl z)).s with
      | none => _
      | some o => _) = _
    rw [nl_s, nl_tail, nl_ln, operand_nl]
    simp only []
    rcases look cmps (hd z).s with _ | o
    · rfl
    · simp only []
      rcases operand z.tail with e | ⟨y, z⟩ <;> rfl
theorem onP2_nl (d : Nat) (l : List Tok) : onP2 d (nl l) = wp id (onP2 d l) := by
  unfold onP2
  rw [nl_s, nl_tail, nl_ln, nl_k, nl_s, nl_tail, operand_nl, num_nl, num_nl, place_nl]
  split
  · rfl
  split
  · rfl
  split
  · rcases operand l.tail with e | ⟨y, z⟩ <;> rfl
  split
  · split
    · rcases num 255 l.tail with e | ⟨y, z⟩ <;> rfl
    split
    · rcases num 255 l.tail.tail with e | ⟨y, z⟩ <;> rfl
    · rcases place l.tail with e | ⟨y, z⟩ <;> rfl
  · rfl
theorem onPlace_nl (l : List Tok) : onPlace (nl l) = wp id (onPlace l) := by
  unfold onPlace
  rw [place_nl]
  rcases place l with e | ⟨y, z⟩
  · rfl
  · exact onP2_nl y z
theorem store_nl (l : List Tok) : store (nl l) = wp id (store l) := by
  unfold store
  rw [num_nl]
  rcases num 255 l with e | ⟨y, z⟩
  · rfl
  show (match must [61] (nl z) with
    | .error e => _
    | .ok (_, l) => _) = _
  rw [must_nl]
  simp only []
  rcases must [61] z with e | ⟨y, z⟩
  · rfl
  show (match must [97] (nl z) with
    | .error e => _
    | .ok (_, l) => _) = _
  rw [must_nl]
  simp only []
  rcases must [97] z with e | ⟨y, z⟩ <;> rfl
theorem una_nl (o : Nat) (l : List Tok) : una o (nl l) = wp id (una o l) := by
  unfold una
  rw [place_nl]
  rcases place l with e | ⟨y, z⟩ <;> rfl
/-- Statements without their lines. -/
def ez : Sts → Sts
  | .nil => .nil
  | .cons k i c b e _ r => .cons k i c (ez b) (ez e) 0 (ez r)
def es (x : StS) : StS := ⟨x.k, x.i, x.c, ez x.b, ez x.e, 0⟩
theorem ez_push (T : Sts) (x : StS) : ez (T.push x) = (ez T).push (es x) := by
  induction T with
  | nil => rfl
  | cons k i c b e ln r _ _ ih => show Sts.cons _ _ _ _ _ _ (ez (r.push x)) = _; rw [ih]; rfl
theorem samT_ez : ∀ {T U : Sts}, ez T = ez U → SamT false T U
  | .nil, .nil, _ => trivial
  | .nil, .cons .., h => by cases h
  | .cons .., .nil, h => by cases h
  | .cons k i c b e ln r, .cons k' i' c' b' e' ln' r', h => by
    simp only [ez, Sts.cons.injEq] at h
    obtain ⟨h1, h2, h3, h4, h5, -, h7⟩ := h
    exact ⟨h1, h2, h3, (fun h => absurd h (by decide)), samT_ez h4, samT_ez h5, samT_ez h7⟩
theorem kStmt_nl (t : Tok) (many k : Nat) (r : Res (InsS × List Tok)) : kStmt (nt t) many k (wp id r) = wm es (kStmt t many k r) := by
  unfold kStmt
  rcases r with e | ⟨y, z⟩ <;> rfl
/-- A block's parser does so. -/
def BlkE (blk : Blk) : Prop := ∀ l n, blk (nl l) n = wm ez (blk l n)
theorem ifS_nl {blk : Blk} (hb : BlkE blk) (ln : Nat) (l : List Tok) (n : Nat) : ifS blk 0 (nl l) n = wm es (ifS blk ln l n) := by
  unfold ifS
  rw [cond_nl]
  rcases cond l with e | ⟨c, z⟩
  · rfl
  show (match blk (nl z) n with
    | .error e => _
    | .ok (b, l, many) => _) = _
  rw [hb]
  simp only []
  rcases blk z n with e | ⟨b, z, n⟩
  · rfl
  show (if (hd (nl z)).s = [101, 108, 115, 101] then _ else _) = _
  rw [nl_s]
  simp only []
  split
  · show (match blk (nl z).tail n with
      | .error e => _
      | .ok (b, l, many) => _) = _
    rw [nl_tail, hb]
    rcases blk z.tail n with e | ⟨b, z, n⟩ <;> rfl
  · rfl
theorem doS_nl {blk : Blk} (hb : BlkE blk) (ln : Nat) (l : List Tok) (n : Nat) : doS blk 0 (nl l) n = wm es (doS blk ln l n) := by
  unfold doS
  rw [hb]
  rcases blk l n with e | ⟨b, z, n⟩
  · rfl
  show (match must [119, 104, 105, 108, 101] (nl z) with
    | .error e => _
    | .ok (_, l) => _) = _
  rw [must_nl]
  simp only []
  rcases must [119, 104, 105, 108, 101] z with e | ⟨_, z⟩
  · rfl
  show (match cond (nl z) with
    | .error e => _
    | .ok (c, l) => _) = _
  rw [cond_nl]
  simp only []
  rcases cond z with e | ⟨c, z⟩ <;> rfl
theorem stmt_nl {blk : Blk} (hb : BlkE blk) (deep : Bool) (l : List Tok) (n : Nat) : stmt deep blk (nl l) n = wm es (stmt deep blk l n) := by
  unfold stmt
  simp only [nl_hd, nl_tail]
  show (if (look bareL (hd l).s).isSome = true ∨ (look unaL (hd l).s).isSome = true ∨ (look firL (hd l).s).isSome = true then
      if 500 < n + 1 ∨ deep = true then Except.error (3, 0)
      else match look bareL (hd l).s with
      | some o => .ok ((⟨1, ⟨o, 0, 0, 0⟩, c0, .nil, .nil, 0⟩ : StS), nl l.tail, n + 1)
      | none => match look unaL (hd l).s with
        | some o => kStmt (nt (hd l)) (n + 1) 1 (una o (nl l.tail))
        | none =>
          if (hd l).s = [104, 97, 108, 116] then .ok ((⟨4, i0, c0, .nil, .nil, 0⟩ : StS), nl l.tail, n + 1)
          else if (hd l).s = [114] then kStmt (nt (hd l)) (n + 1) 1 (store (nl l.tail))
          else if (hd l).s = [105, 102] then ifS blk 0 (nl l.tail) (n + 1)
          else if (hd l).s = [100, 111] then doS blk 0 (nl l.tail) (n + 1)
          else kStmt (nt (hd l)) (n + 1) 1 (onPlace (nl l))
    else .error (121, 0)) = _
  rw [store_nl, onPlace_nl, ifS_nl hb (hd l).ln, doS_nl hb (hd l).ln, kStmt_nl, kStmt_nl]
  by_cases h1 : (look bareL (hd l).s).isSome = true ∨ (look unaL (hd l).s).isSome = true ∨ (look firL (hd l).s).isSome = true
  · rw [if_pos h1, if_pos h1]
    by_cases h2 : 500 < n + 1 ∨ deep = true
    · rw [if_pos h2, if_pos h2]; rfl
    · rw [if_neg h2, if_neg h2]
      rcases look bareL (hd l).s with _ | o
      · rcases look unaL (hd l).s with _ | o
        · simp only []
          by_cases h3 : (hd l).s = [104, 97, 108, 116]
          · rw [if_pos h3, if_pos h3]; rfl
          · rw [if_neg h3, if_neg h3]
            by_cases h4 : (hd l).s = [114]
            · rw [if_pos h4, if_pos h4]
            · rw [if_neg h4, if_neg h4]
              by_cases h5 : (hd l).s = [105, 102]
              · rw [if_pos h5, if_pos h5]
              · rw [if_neg h5, if_neg h5]
                by_cases h6 : (hd l).s = [100, 111]
                · rw [if_pos h6, if_pos h6]
                · rw [if_neg h6, if_neg h6]
        · simp only []
          rw [una_nl, kStmt_nl]
      · rfl
  · rw [if_neg h1, if_neg h1]; rfl
theorem loopS_nl {st : List Tok → Nat → Res (StS × List Tok × Nat)} (hs : ∀ l n, st (nl l) n = wm es (st l n)) : ∀ (f : Nat) (l : List Tok) (n : Nat) (out : Sts), loopS st f (nl l) n (ez out) = wm ez (loopS st f l n out)
  | 0, l, n, out => rfl
  | f + 1, l, n, out => by
    unfold loopS
    rw [nl_s, hs]
    split
    · rfl
    · rcases st l n with e | ⟨x, z, m⟩
      · rfl
      · show loopS st f (nl z) m ((ez out).push (es x)) = _
        rw [← ez_push]
        exact loopS_nl hs f z m _
theorem block_nl {st : List Tok → Nat → Res (StS × List Tok × Nat)} (hs : ∀ l n, st (nl l) n = wm es (st l n)) : BlkE (block st) := by
  intro l n
  unfold block
  rw [must_nl]
  rcases must [123] l with e | ⟨_, z⟩
  · rfl
  show (match loopS st ((nl z).length + 1) (nl z) n (ez .nil) with
    | .error e => _
    | .ok (T, l, many) => _) = _
  rw [loopS_nl hs, nl_length]
  simp only []
  rcases loopS st (z.length + 1) z n .nil with e | ⟨T, z, m⟩
  · rfl
  show (match must [125] (nl z) with
    | .error e => _
    | .ok (_, l) => _) = _
  rw [must_nl]
  simp only []
  rcases must [125] z with e | ⟨_, z⟩ <;> rfl
theorem stmtD_nl : ∀ (d : Nat) (l : List Tok) (n : Nat), stmtD d (nl l) n = wm es (stmtD d l n)
  | 0, l, n => stmt_nl (fun _ _ => rfl) true l n
  | d + 1, l, n => stmt_nl (block_nl (stmtD_nl d)) false l n
theorem nums_nl : ∀ (k : Nat) (l : List Tok), nums k (nl l) = wp id (nums k l)
  | 0, l => rfl
  | k + 1, l => by
    unfold nums
    rw [num_nl]
    rcases num 65535 l with e | ⟨y, z⟩
    · rfl
    show (match nums k (nl z) with
      | .error e => _
      | .ok (ns, l) => _) = _
    rw [nums_nl k z]
    simp only []
    rcases nums k z with e | ⟨y, z⟩ <;> rfl
theorem part_nl (l : List Tok) : part (nl l) = wp id (part l) := by
  unfold part
  rw [nl_s, nl_tail, nl_s, nl_tail, nl_ln]
  rcases look partL (hd l).s with _ | k
  · rfl
  simp only []
  rw [show (if (k == 1 && decide ((hd l.tail).s = [109, 105, 110, 117, 115])) = true then nl l.tail.tail else nl l.tail) = nl (if (k == 1 && decide ((hd l.tail).s = [109, 105, 110, 117, 115])) = true then l.tail.tail else l.tail) by split <;> rfl, nums_nl]
  rcases nums (partN.getD k 0) (if (k == 1 && decide ((hd l.tail).s = [109, 105, 110, 117, 115])) = true then l.tail.tail else l.tail) with e | ⟨y, z⟩ <;> rfl
theorem loopP_nl : ∀ (f : Nat) (l : List Tok) (out : List PartS), loopP f (nl l) out = wp id (loopP f l out)
  | 0, l, out => rfl
  | f + 1, l, out => by
    unfold loopP
    rw [nl_s, part_nl]
    split
    · rfl
    · rcases part l with e | ⟨x, z⟩
      · rfl
      · exact loopP_nl f z _
theorem prog_nl (l : List Tok) : prog (nl l) = wp ez (prog l) := by
  unfold prog
  rw [block_nl (stmtD_nl 20)]
  rcases block (stmtD 20) l 0 with e | ⟨T, z, n⟩ <;> rfl
/-- What a text says, without its lines. -/
def ec (c : CfgS) : CfgS := { c with code := ez c.code, post := ez c.post }
def wcR : Res CfgS → Res CfgS
  | .error e => .error (e.1, 0)
  | .ok c => .ok (ec c)
theorem endP_nl (c : CfgS) (l : List Tok) : endP (ec c) (nl l) = wcR (endP c l) := by
  unfold endP
  rw [nl_k, nl_ln]
  split <;> rfl
theorem postP_nl (c : CfgS) (hc : c.post = .nil) (l : List Tok) : postP (ec c) (nl l) = wcR (postP c l) := by
  unfold postP
  rw [nl_s, nl_tail, num_nl, endP_nl]
  split
  · rcases num 65535 l.tail with e | ⟨ph, z⟩
    · rfl
    show (match num 65535 (nl z) with
      | .error e => _
      | .ok (pm, l) => _) = _
    rw [num_nl]
    simp only []
    rcases num 65535 z with e | ⟨pm, z⟩
    · rfl
    show (match prog (nl z) with
      | .error e => _
      | .ok (T, l) => _) = _
    rw [prog_nl]
    simp only []
    rcases prog z with e | ⟨T, z⟩
    · rfl
    · exact endP_nl ⟨c.h, c.m, (ph : Nat), (pm : Nat), c.parts, c.code, T, true⟩ z
  · rfl
theorem parseL_nl (l : List Tok) : parseL (nl l) = wcR (parseL l) := by
  unfold parseL
  rw [must_nl]
  rcases must [109, 111, 100, 101, 108] l with e | ⟨_, z⟩
  · rfl
  show (match num 65535 (nl z) with
    | .error e => _
    | .ok (h, l) => _) = _
  rw [num_nl]
  simp only []
  rcases num 65535 z with e | ⟨h, z⟩
  · rfl
  show (match num 65535 (nl z) with
    | .error e => _
    | .ok (h, l) => _) = _
  rw [num_nl]
  simp only []
  rcases num 65535 z with e | ⟨m, z⟩
  · rfl
  show (match must [123] (nl z) with
    | .error e => _
    | .ok (h, l) => _) = _
  rw [must_nl]
  simp only []
  rcases must [123] z with e | ⟨_, z⟩
  · rfl
  show (match loopP ((nl z).length + 1) (nl z) [] with
    | .error e => _
    | .ok (ps, l) => _) = _
  rw [loopP_nl, nl_length]
  simp only []
  rcases loopP (z.length + 1) z [] with e | ⟨ps, z⟩
  · rfl
  show (match must [125] (nl z) with
    | .error e => _
    | .ok (h, l) => _) = _
  rw [must_nl]
  simp only []
  rcases must [125] z with e | ⟨_, z⟩
  · rfl
  show (match must [99, 111, 100, 101] (nl z) with
    | .error e => _
    | .ok (h, l) => _) = _
  rw [must_nl]
  simp only []
  rcases must [99, 111, 100, 101] z with e | ⟨_, z⟩
  · rfl
  show (match prog (nl z) with
    | .error e => _
    | .ok (T, l) => _) = _
  rw [prog_nl]
  simp only []
  rcases prog z with e | ⟨T, z⟩
  · rfl
  · exact postP_nl ⟨h, m, 0, 0, ps, T, .nil, false⟩ rfl z
theorem parse_lines {l m : List Tok} (h : nl l = nl m) : wcR (parseL l) = wcR (parseL m) := by rw [← parseL_nl, ← parseL_nl, h]
end Go.Proofs.Ytiadfmhodlbkiaa
