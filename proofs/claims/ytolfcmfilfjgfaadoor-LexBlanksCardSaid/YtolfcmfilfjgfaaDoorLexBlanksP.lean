/- The statement LexBlanks, the plain law: a token's text, followed by a blank, is that token again; blanks and comments change nothing. -/
import Derived.Test.YtolfcmfilfjgfaaDoorLexH
set_option linter.unusedVariables false
set_option linter.unusedSimpArgs false
namespace Go.Proofs.YtolfcmfilfjgfaaDoor
open Go.RowKit

/-- A token's text, read again with a blank behind it. -/
structure TokOk (k : Nat) (x : List UInt8) (N : Nat) : Prop where
  ne : x ≠ []
  blk : ∀ r, blkL 0 (x ++ 32 :: r) = (0, true)
  one : ∀ r, oneL (x ++ 32 :: r) = some (k, x, N, x.length)

theorem sign_ok : ∀ x ∈ signsL, TokOk 5 x 0 := by
  simp only [signsL, List.forall_mem_cons, List.not_mem_nil, false_imp_iff, implies_true, and_true]
  repeat' apply And.intro
  all_goals exact ⟨by decide, fun r => by rfl, fun r => by rfl⟩
theorem takeN (l : List UInt8) : ∀ b ∈ l.take (nameN l), nameB b = true := by
  induction l with
  | nil => intro b hb; simp at hb
  | cons a l ih =>
    intro b hb
    rw [nameN_cons] at hb
    split at hb
    · rename_i h
      rw [List.take_succ_cons] at hb
      rcases List.mem_cons.1 hb with rfl | hb
      · exact h
      · exact ih b hb
    · simp at hb
theorem nameN_app (x r : List UInt8) (h : ∀ b ∈ x, nameB b = true) : nameN (x ++ 32 :: r) = x.length := by
  induction x with
  | nil => rfl
  | cons a x ih =>
    rw [List.cons_append, nameN_cons, if_pos (h a (List.mem_cons_self ..)), ih fun b hb => h b (List.mem_cons_of_mem _ hb)]; rfl
theorem numL_app (l r : List UInt8) : ∀ (acc N n : Nat), numL acc l = some (N, n) → numL acc (l.take n ++ 32 :: r) = some (N, n) := by
  induction l with
  | nil =>
    intro acc N n h
    simp [numL] at h
    obtain ⟨rfl, rfl⟩ := h
    rfl
  | cons a l ih =>
    intro acc N n h
    rw [numL] at h
    split at h
    · rename_i hd
      split at h
      · cases h
      · rename_i hb
        rw [Option.map_eq_some_iff] at h
        obtain ⟨⟨N', n'⟩, h1, h2⟩ := h
        simp only [Prod.mk.injEq] at h2
        obtain ⟨rfl, rfl⟩ := h2
        rw [List.take_succ_cons, List.cons_append, numL, if_pos hd, if_neg hb, ih _ _ _ h1]; rfl
    · simp at h
      obtain ⟨rfl, rfl⟩ := h
      rfl
theorem letter_blank (c : UInt8) (r : List UInt8) (h : nameB c = true) : blkL 0 (c :: r) = (0, true) := by
  have hn : ∀ d : UInt8, nameB d = true → spB d = false ∧ d ≠ 47 := by
    intro d hd
    constructor
    · cases hs : spB d
      · rfl
      · exfalso
        unfold spB at hs
        simp only [Bool.or_eq_true, beq_iff_eq] at hs
        rcases hs with ((rfl | rfl) | rfl) | rfl <;> exact absurd hd (by decide)
    · rintro rfl; exact absurd hd (by decide)
  obtain ⟨h1, h2⟩ := hn c h
  refine blk_stop c r h1 ?_ ?_
  · show (47 == c && _) = false
    rw [beq_eq_false_iff_ne.2 (Ne.symm h2)]; rfl
  · show (47 == c && _) = false
    rw [beq_eq_false_iff_ne.2 (Ne.symm h2)]; rfl

/-- What 'one' finds, if it is no string: read again it is the same. -/
theorem one_again (R : List UInt8) (k : Nat) (x : List UInt8) (N n : Nat) (h : oneL R = some (k, x, N, n)) (h4 : k ≠ 4) : TokOk k x N ∧ x.length = n := by
  cases R with
  | nil => cases h
  | cons c r =>
    have hlen := oneL_len _ _ _ _ _ h
    rw [oneL] at h
    split at h
    · rename_i hc
      split at h
      · rename_i h60
        simp only [Option.some.injEq, Prod.mk.injEq] at h
        obtain ⟨rfl, rfl, rfl, rfl⟩ := h
        have hl : ((c :: r).take (nameN (c :: r))).length = nameN (c :: r) := by rw [List.length_take]; omega
        have hall := takeN (c :: r)
        obtain ⟨y, hy⟩ : ∃ y, (c :: r).take (nameN (c :: r)) = c :: y := by
          obtain ⟨m, hm⟩ : ∃ m, nameN (c :: r) = m + 1 := ⟨nameN (c :: r) - 1, by omega⟩
          rw [hm, List.take_succ_cons]; exact ⟨_, rfl⟩
        refine ⟨⟨by rw [hy]; simp, fun r' => ?_, fun r' => ?_⟩, hl⟩
        · rw [hy, List.cons_append]
          exact letter_blank c _ (by unfold nameB; rw [hc]; rfl)
        · have hna := nameN_app _ r' hall
          rw [hl] at hna
          have htk : (((c :: r).take (nameN (c :: r))) ++ 32 :: r').take (nameN (c :: r)) = (c :: r).take (nameN (c :: r)) := List.take_left' hl
          rw [hl]
          generalize nameN (c :: r) = M at *
          generalize hX : (c :: r).take M = X at *
          subst hy
          rw [List.cons_append, oneL, if_pos hc, ← List.cons_append, hna, if_pos h60, htk]
      · cases h
    · rename_i hc
      split at h
      · rename_i hd
        split at h
        · cases h
        · rename_i N' n' hn
          split at h
          · rename_i hok
            simp only [Option.some.injEq, Prod.mk.injEq] at h
            obtain ⟨rfl, rfl, rfl, rfl⟩ := h
            have hl : ((c :: r).take n').length = n' := by rw [List.length_take]; omega
            obtain ⟨m, hm⟩ : ∃ m, n' = m + 1 := ⟨n' - 1, by omega⟩
            have hy : (c :: r).take n' = c :: r.take m := by rw [hm, List.take_succ_cons]
            refine ⟨⟨by rw [hy]; simp, fun r' => ?_, fun r' => ?_⟩, hl⟩
            · rw [hy, List.cons_append]
              exact letter_blank c _ (by unfold nameB; rw [hd]; simp)
            · have hna := numL_app (c :: r) r' 0 N' n' hn
              have hk2 : numOk ((c :: r).take n' ++ 32 :: r') n' = true := by
                unfold numOk at hok ⊢
                rw [List.drop_left' hl, hy, List.cons_append, List.head?_cons]
                rw [List.head?_cons] at hok
                simp only [Bool.and_eq_true] at hok
                rw [hok.1]; rfl
              have htk : ((c :: r).take n' ++ 32 :: r').take n' = (c :: r).take n' := List.take_left' hl
              rw [hl]
              generalize (c :: r).take n' = X at *
              subst hy
              rw [List.cons_append, oneL, if_neg hc, if_pos hd, ← List.cons_append, hna]
              simp only
              rw [if_pos hk2, htk]
          · cases h
      · rename_i hd
        split at h
        · rw [Option.map_eq_some_iff] at h
          obtain ⟨_, _, h2⟩ := h
          simp only [Prod.mk.injEq] at h2
          exact absurd h2.1.symm h4
        · rw [Option.map_eq_some_iff] at h
          obtain ⟨y, h1, h2⟩ := h
          simp only [Prod.mk.injEq] at h2
          obtain ⟨rfl, rfl, rfl, rfl⟩ := h2
          exact ⟨sign_ok _ (List.mem_of_find?_eq_some h1), rfl⟩

/-- A row of tokens that ends as it should. -/
inductive Toks : List Tk → Prop
  | fin (a : Nat) : Toks [⟨0, [], a, 0⟩]
  | more (x : Tk) (l : List Tk) : (x.k ≠ 4 → TokOk x.k x.t x.n) → Toks l → Toks (x :: l)
/-- What a token adds to the statement's text, at most an eighth. -/
def wt (x : Tk) : Nat := if x.k = 4 then 0 else x.t.length + 1
theorem scan_toks : ∀ (f : Nat) (R : List UInt8) (a : Nat) (L : List Tk), scanL f R a = .toks L → Toks L ∧ (L.map wt).sum ≤ 2 * R.length + 1
  | 0, R, a, L, h => by cases h
  | f + 1, R, a, L, h => by
    rw [scanL] at h
    split at h
    · cases h
    · split at h
      · cases h
        exact ⟨.fin _, by simp [wt]⟩
      · rename_i c r hcr
        split at h
        · cases h
        · rename_i k x N n hone
          cases hs : scanL f ((c :: r).drop n) (a + (blkL 0 R).1 + n) with
          | bad p => rw [hs] at h; cases h
          | toks l =>
            rw [hs] at h
            have hL : L = ⟨k, x, a + (blkL 0 R).1, N⟩ :: l := by
              injection h with h; exact h.symm
            obtain ⟨ih1, ih2⟩ := scan_toks f _ _ l hs
            subst hL
            refine ⟨.more _ _ (fun h4 => (one_again _ _ _ _ _ hone h4).1) ih1, ?_⟩
            have hw : wt ⟨k, x, a + (blkL 0 R).1, N⟩ ≤ n + 1 := by
              unfold wt
              split
              · omega
              · rename_i h4
                have := (one_again _ _ _ _ _ hone h4).2
                simp only; omega
            rw [List.length_drop] at ih2
            have hn := oneL_len _ _ _ _ _ hone
            have hlr : (c :: r).length ≤ R.length := by rw [← hcr, List.length_drop]; omega
            rw [List.map_cons, List.sum_cons]
            omega

theorem scan_len : ∀ (f : Nat) (R : List UInt8) (a : Nat) (L : List Tk), scanL f R a = .toks L → L.length ≤ R.length + 1
  | 0, R, a, L, h => by cases h
  | f + 1, R, a, L, h => by
    rw [scanL] at h
    split at h
    · cases h
    · split at h
      · cases h
        simp
      · rename_i c r hcr
        split at h
        · cases h
        · rename_i k x N n hone
          cases hs : scanL f ((c :: r).drop n) (a + (blkL 0 R).1 + n) with
          | bad p => rw [hs] at h; cases h
          | toks l =>
            rw [hs] at h
            have hL : L = ⟨k, x, a + (blkL 0 R).1, N⟩ :: l := by
              injection h with h; exact h.symm
            have := scan_len f _ _ l hs
            subst hL
            have hn := oneL_len _ _ _ _ _ hone
            have hlr : (c :: r).length ≤ R.length := by rw [← hcr, List.length_drop]; omega
            rw [List.length_drop] at this
            rw [List.length_cons]
            omega

def sepL : Nat → List UInt8
  | 0 => [32]
  | 1 => [10]
  | 2 => [47, 42, 32, 99, 32, 42, 47]
  | _ => [47, 47, 32, 99, 10]
theorem sepL_len (j : Nat) : (sepL j).length ≤ 7 := by
  match j with
  | 0 => decide
  | 1 => decide
  | 2 => decide
  | _ + 3 => exact (by decide : ([47, 47, 32, 99, 10] : List UInt8).length ≤ 7)
/-- Blanks: whatever follows. -/
def IsB (B : List UInt8) : Prop := ∀ r, blkL 0 (B ++ r) = (B.length + (blkL 0 r).1, (blkL 0 r).2)
theorem isB_nil : IsB [] := fun r => by simp
theorem isB_sep (j : Nat) : IsB (32 :: sepL j) := by
  intro r
  rw [List.cons_append, blk_sp 32 _ rfl]
  have key : blkL 0 (sepL j ++ r) = ((sepL j).length + (blkL 0 r).1, (blkL 0 r).2) := by
    match j with
    | 0 => rw [show sepL 0 ++ r = 32 :: r from rfl, blk_sp 32 r rfl]; exact congrArg (·, (blkL 0 r).2) (Nat.add_comm _ _)
    | 1 => rw [show sepL 1 ++ r = 10 :: r from rfl, blk_sp 10 r rfl]; exact congrArg (·, (blkL 0 r).2) (Nat.add_comm _ _)
    | 2 => exact blk_com 47 ([42, 32, 99, 32, 42, 47] ++ r) 3 rfl rfl rfl rfl (by simp)
    | _ + 3 => exact blk_line 47 ([47, 32, 99, 10] ++ r) 4 rfl rfl rfl (by simp)
  rw [key, List.length_cons]
  simp only [Prod.mk.injEq, and_true]; omega
/-- The text that the statement builds: each token's text, a blank, a separator. -/
def joinT : List Tk → List Nat → List UInt8
  | x :: l, j :: js => x.t ++ (32 :: sepL j) ++ joinT l js
  | _, _ => []
def same3 (x y : Tk) : Prop := x.k = y.k ∧ x.t = y.t ∧ x.n = y.n
inductive Same3 : List Tk → List Tk → Prop
  | nil : Same3 [] []
  | cons {x y l m} : same3 x y → Same3 l m → Same3 (x :: l) (y :: m)
theorem Same3.length {l m : List Tk} (h : Same3 l m) : l.length = m.length := by
  induction h with
  | nil => rfl
  | cons _ _ ih => simp [ih]
theorem Same3.at {l m : List Tk} (h : Same3 l m) (i : Nat) (x : Tk) (hx : l[i]? = some x) : ∃ y, m[i]? = some y ∧ same3 x y := by
  induction h generalizing i with
  | nil => simp at hx
  | @cons x' y' l' m' h1 h2 ih =>
    cases i with
    | zero => simp at hx; subst hx; exact ⟨y', by simp, h1⟩
    | succ i => exact ih i (by simpa using hx) |>.imp fun y h => by simpa using h
theorem scan_join : ∀ (L : List Tk), Toks L → (∀ x ∈ L, x.k ≠ 4) → ∀ (js : List Nat), js.length = L.length → ∀ (B : List UInt8), IsB B → ∀ (f a : Nat), L.length ≤ f → ∃ M, scanL f (B ++ joinT L js) a = .toks M ∧ Same3 L M
  | _, .fin p, hall, js, hj, B, hB, f, a, hf => by
    obtain ⟨j, rfl⟩ : ∃ j, js = [j] := List.length_eq_one_iff.1 hj
    obtain ⟨f, rfl⟩ : ∃ f', f = f' + 1 := ⟨f - 1, by simp at hf; omega⟩
    refine ⟨_, ?_, .cons (y := ⟨0, [], a + (B ++ 32 :: sepL j).length, 0⟩) ⟨rfl, rfl, rfl⟩ .nil⟩
    have hb := hB (32 :: sepL j)
    have hs := isB_sep j []
    rw [List.append_nil] at hs
    have hb0 : blkL 0 (B ++ 32 :: sepL j) = ((B ++ 32 :: sepL j).length, true) := by
      rw [hb, hs, List.length_append]; simp [blkL]
    have hjt : joinT [⟨0, [], p, 0⟩] [j] = 32 :: sepL j := by simp [joinT]
    rw [hjt, scanL, hb0, if_neg (by simp)]
    simp only [List.drop_length]
  | _, .more x l hx hl, hall, js, hj, B, hB, f, a, hf => by
    obtain ⟨j, js, rfl⟩ : ∃ j js', js = j :: js' := by
      cases js with
      | nil => simp at hj
      | cons j js => exact ⟨j, js, rfl⟩
    obtain ⟨f, rfl⟩ : ∃ f', f = f' + 1 := ⟨f - 1, by simp at hf; omega⟩
    have hk := hx (hall x (List.mem_cons_self ..))
    have hjt : joinT (x :: l) (j :: js) = x.t ++ 32 :: (sepL j ++ joinT l js) := by simp [joinT]
    have hb : blkL 0 (B ++ joinT (x :: l) (j :: js)) = (B.length, true) := by
      rw [hB, hjt, hk.blk]; rfl
    obtain ⟨M, hM, hS⟩ := scan_join l hl (fun y hy => hall y (List.mem_cons_of_mem _ hy)) js (by simpa using hj) (32 :: sepL j) (isB_sep j) f (a + B.length + x.t.length) (by simp at hf; omega)
    refine ⟨⟨x.k, x.t, a + B.length, x.n⟩ :: M, ?_, .cons ⟨rfl, rfl, rfl⟩ hS⟩
    obtain ⟨c, y, hcy⟩ : ∃ c y, x.t = c :: y := by
      cases h : x.t with
      | nil => exact absurd h hk.ne
      | cons c y => exact ⟨c, y, rfl⟩
    have hone := hk.one (sepL j ++ joinT l js)
    have hdr : (x.t ++ 32 :: (sepL j ++ joinT l js)).drop x.t.length = 32 :: sepL j ++ joinT l js := by rw [List.drop_left]; rfl
    rw [scanL, hb, if_neg (by simp)]
    simp only [List.drop_left]
    rw [hjt]
    generalize hXX : x.t ++ 32 :: (sepL j ++ joinT l js) = X at *
    cases X with
    | nil => rw [hcy] at hXX; cases hXX
    | cons c' y' =>
      simp only
      rw [hone]
      simp only
      rw [hdr, hM]; rfl
theorem joinT_len : ∀ (L : List Tk) (js : List Nat), (joinT L js).length ≤ 8 * (L.map fun x => x.t.length + 1).sum
  | [], js => by simp [joinT]
  | x :: l, [] => by simp [joinT]
  | x :: l, j :: js => by
    have := joinT_len l js
    have hs := sepL_len j
    simp only [joinT, List.length_append, List.length_cons, List.map_cons, List.sum_cons]
    omega
theorem joinT_ge : ∀ (L : List Tk) (js : List Nat), js.length = L.length → L.length ≤ (joinT L js).length
  | [], js, _ => by simp
  | x :: l, [], h => by simp at h
  | x :: l, j :: js, h => by
    have := joinT_ge l js (by simpa using h)
    simp only [joinT, List.length_append, List.length_cons]
    omega
theorem sum_take (L : List Tk) (i : Nat) (h : ∀ x ∈ L.take i, x.k ≠ 4) : ((L.take i).map fun x => x.t.length + 1).sum ≤ (L.map wt).sum := by
  have h1 : (L.take i).map (fun x => x.t.length + 1) = (L.take i).map wt := by
    refine List.map_congr_left fun x hx => ?_
    unfold wt; rw [if_neg (h x hx)]
  rw [h1]
  conv => rhs; rw [← List.take_append_drop i L, List.map_append, List.sum_append]
  omega
theorem wt_le (L : List Tk) (i : Nat) (x : Tk) (hx : L[i]? = some x) (h4 : x.k ≠ 4) : x.t.length + 1 ≤ (L.map wt).sum := by
  have hs := sum_take (L.drop i) 1 (by
    intro y hy
    have hi := (List.getElem?_eq_some_iff.1 hx).1
    rw [List.drop_eq_getElem_cons hi, List.take_succ_cons, List.take_zero, List.mem_singleton] at hy
    rw [hy, (List.getElem?_eq_some_iff.1 hx).2]; exact h4)
  have hi := (List.getElem?_eq_some_iff.1 hx).1
  rw [List.drop_eq_getElem_cons hi, List.take_succ_cons, List.take_zero, (List.getElem?_eq_some_iff.1 hx).2] at hs
  have h2 : (L.map wt).sum = ((L.take i).map wt).sum + ((L.drop i).map wt).sum := by
    conv => lhs; rw [← List.take_append_drop i L, List.map_append, List.sum_append]
  rw [List.drop_eq_getElem_cons hi, (List.getElem?_eq_some_iff.1 hx).2] at h2
  simp only [List.map_cons, List.map_nil, List.sum_cons, List.sum_nil, Nat.add_zero] at hs h2
  omega
theorem joinT_snoc : ∀ (l : List Tk) (js : List Nat) (x : Tk) (j : Nat), js.length = l.length → joinT (l ++ [x]) (js ++ [j]) = joinT l js ++ (x.t ++ (32 :: sepL j))
  | [], [], x, j, _ => by simp [joinT]
  | [], _ :: _, x, j, h => by simp at h
  | y :: l, [], x, j, h => by simp at h
  | y :: l, i :: js, x, j, h => by
    rw [List.cons_append, List.cons_append, joinT, joinT_snoc l js x j (by simpa using h), joinT]
    simp
end Go.Proofs.YtolfcmfilfjgfaaDoor
