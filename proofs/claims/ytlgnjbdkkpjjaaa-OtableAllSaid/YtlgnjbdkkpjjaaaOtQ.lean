/- Entries of numbers from zero on, some of them gone; a set of numbers. -/
import Derived.Test.YtlgnjbdkkpjjaaaOtN
import Derived.Maps.OwnSet
set_option linter.unusedVariables false
set_option linter.unusedSimpArgs false
namespace Go.Proofs.Ytlgnjbdkkpjjaaa
open Go.RowKit Go.Sort Go.Maps

abbrev eC (j : Nat) : Ent := ⟨kI j, kI (-(j : Int)), 0, false⟩
def cA (k : Nat) : List Ent := (List.range k).map eC
theorem cA_len (k : Nat) : (cA k).length = k := by simp [cA]
theorem cA_succ (k : Nat) : cA (k + 1) = cA k ++ [eC k] := by simp [cA, List.range_succ]
theorem isKey_eC (j i : Nat) : isKey (kI j) (eC i) = decide (i = j) := by
  show (!false && decide (norm (kI i) = norm (kI j))) = _
  have : (norm (kI i) = norm (kI j)) ↔ i = j := by
    constructor
    · intro h
      have : (i : Int) = (j : Int) := congrArg (fun z : K3 => z.2.1) h
      omega
    · rintro rfl; rfl
  simp only [Bool.not_false, Bool.true_and, this]
theorem cA_put (k : Nat) : putA (kI k) (kI (-(k : Int))) 0 (cA k) = cA (k + 1) := by
  have h1 : (cA k).any (isKey (kI k)) = false := by
    rw [List.any_eq_false]; intro x hx
    obtain ⟨i, hi, rfl⟩ := List.mem_map.1 hx
    have := List.mem_range.1 hi
    rw [isKey_eC, decide_eq_false (by omega)]; simp
  rw [putA, if_neg (by rw [h1]; simp), cA_succ]; rfl
theorem cA_split (a N : Nat) (h : a ≤ N) : ∃ r, cA N = cA a ++ r := by
  obtain ⟨d, rfl⟩ := Nat.exists_eq_add_of_le h
  clear h
  induction d with
  | zero => exact ⟨[], by simp⟩
  | succ d ih =>
    obtain ⟨r, hr⟩ := ih
    exact ⟨r ++ [eC (a + d)], by rw [Nat.add_succ, cA_succ, hr, List.append_assoc]⟩

/-- What is left behind these keys' deletion. -/
def fG (G : List Nat) (l : List Ent) : List Ent := l.filter (fun e => !G.any (fun g => isKey (kI g) e))
theorem fG_nil (l : List Ent) : fG [] l = l := by simp [fG]
theorem fG_app (G : List Nat) (l m : List Ent) : fG G (l ++ m) = fG G l ++ fG G m := List.filter_append ..
theorem fG_del (G : List Nat) (k : Nat) (l : List Ent) : delA (kI k) (fG G l) = fG (G ++ [k]) l := by
  unfold delA fG
  rw [List.filter_filter]
  congr 1
  funext e
  simp [List.any_append, Bool.and_comm]
def fp (G : List Nat) (k : Nat) : Nat := (fG G (cA k)).length
theorem fG_take (G : List Nat) (a N : Nat) (h : a ≤ N) : (fG G (cA N)).take (fp G a) = fG G (cA a) := by
  obtain ⟨r, hr⟩ := cA_split a N h
  rw [hr, fG_app, fp, List.take_left']
  rfl
theorem fG_delD (G : List Nat) (k a N c : Nat) (h : a ≤ N) : delD (kI k) (fG G (cA N)) (c, fp G a) = (c, fp (G ++ [k]) a) := by
  unfold delD
  rw [fG_take G a N h, fG_del]; rfl
theorem any_eC (G : List Nat) (k : Nat) : G.any (fun g => isKey (kI g) (eC k)) = G.contains k := by
  induction G with
  | nil => rfl
  | cons g G ih => rw [List.any_cons, ih, isKey_eC, List.contains_cons]; congr 1
theorem fG_one (G : List Nat) (k : Nat) : fG G [eC k] = if G.contains k then [] else [eC k] := by
  unfold fG
  rw [List.filter_cons, any_eC]
  cases G.contains k <;> rfl
theorem fp_succ (G : List Nat) (k : Nat) : fp G (k + 1) = fp G k + (if G.contains k then 0 else 1) := by
  unfold fp
  rw [cA_succ, fG_app, List.length_append, fG_one]
  cases G.contains k <;> rfl
theorem fG_get (G : List Nat) (k N : Nat) (h : k < N) (hk : G.contains k = false) : (fG G (cA N))[fp G k]? = some (eC k) := by
  obtain ⟨r, hr⟩ := cA_split (k + 1) N h
  rw [hr, cA_succ, fG_app, fG_app, fG_one, hk, List.append_assoc]
  show (fG G (cA k) ++ _)[(fG G (cA k)).length]? = _
  rw [List.getElem?_append_right (Nat.le_refl _), Nat.sub_self]; rfl
theorem fG_end (G : List Nat) (N : Nat) : (fG G (cA N))[fp G N]? = none := List.getElem?_eq_none (Nat.le_refl _)
theorem fG_len (G : List Nat) (N : Nat) : (fG G (cA N)).length ≤ N := by
  have := List.length_filter_le (fun e => !G.any (fun g => isKey (kI g) e)) (cA N)
  rw [cA_len] at this
  exact this
theorem fp_snoc (G : List Nat) (k N : Nat) (h : k < N) : fp (G ++ [k]) N + (if G.contains k then 0 else 1) = fp G N := by
  have h1 : ∀ n, n ≤ k → fp (G ++ [k]) n = fp G n := by
    intro n
    induction n with
    | zero => intro _; rfl
    | succ n ih =>
      intro hn
      rw [fp_succ, fp_succ, ih (by omega)]
      have : (G ++ [k]).contains n = G.contains n := by
        rw [List.contains_eq_any_beq, List.contains_eq_any_beq, List.any_append]
        simp; omega
      rw [this]
  obtain ⟨d, rfl⟩ := Nat.exists_eq_add_of_le (show k + 1 ≤ N from h)
  clear h
  induction d with
  | zero =>
    rw [Nat.add_zero, fp_succ, fp_succ, h1 k (Nat.le_refl _)]
    have : (G ++ [k]).contains k = true := by simp
    rw [this]
    cases G.contains k <;> simp
  | succ d ih =>
    rw [Nat.add_succ, fp_succ, fp_succ]
    have : (G ++ [k]).contains (k + 1 + d) = G.contains (k + 1 + d) := by
      rw [List.contains_eq_any_beq, List.contains_eq_any_beq, List.any_append]
      simp; omega
    rw [this]
    omega

/-! ### The set -/
theorem isB : (∀ (v : Value) (z : DataW Unit × List MemPlace), plainElem Try.prog 4 v = some z → ∃ x, v = .bool x ∧ z = (.lit (.bool x), [])) := by
  intro v z h
  unfold plainElem at h
  rw [Try.underlying4] at h
  cases v <;> simp at h
  exact ⟨_, rfl, h.symm⟩
def SetD (G : List Nat) : DataW Unit := setOf (.lit (.bool true)) (G.map (fun (g : Nat) => Lit.int .i64 (g : Int)))
theorem setKeys (G : List Nat) : ∀ x ∈ G.map (fun (g : Nat) => Lit.int .i64 (g : Int)), WideAt.IsKeyLit x := by
  intro x hx
  obtain ⟨g, _, rfl⟩ := List.mem_map.1 hx
  first | trivial | (simp [WideAt.IsKeyLit])
theorem SetD_snoc (G : List Nat) (k : Nat) : SetD (G ++ [k]) = (SetD G).put (.int .i64 (k : Int)) (.lit (.bool true)) := by
  unfold SetD
  rw [List.map_append, List.map_singleton, setOf_snoc]
theorem SetD_tidy (G : List Nat) : Tidy (SetD G) := tidy_setOf _ _ (setKeys G)
theorem snoc_ind {Q : List Nat → Prop} (h0 : Q []) (h1 : ∀ l x, Q l → Q (l ++ [x])) : ∀ l, Q l := by
  intro l
  rw [← List.reverse_reverse l]
  induction l.reverse with
  | nil => exact h0
  | cons x r ih => rw [List.reverse_cons]; exact h1 _ _ ih
theorem SetD_at (G : List Nat) (k : Nat) : (SetD G).atKey (.int .i64 (k : Int)) (.lit (.bool false)) = .lit (.bool (G.contains k)) := by
  refine snoc_ind (Q := fun G => (SetD G).atKey (.int .i64 (k : Int)) (.lit (.bool false)) = .lit (.bool (G.contains k))) ?_ ?_ G
  · simp [SetD, setOf, DataW.atKey]
  · intro G' x ih
    rw [SetD_snoc]
    by_cases h : k = x
    · subst h
      rw [atKey_put_same (SetD_tidy G').isMap (by first | trivial | simp [WideAt.IsKeyLit])]
      simp
    · rw [atKey_put_other (by intro e; injection e with _ e; omega), ih]
      have : (G' ++ [x]).contains k = G'.contains k := by
        rw [List.contains_eq_any_beq, List.contains_eq_any_beq, List.any_append]
        simp [h]
      rw [this]
theorem SetD_has (G : List Nat) (x : Nat) : Maps.has (SetD G) (.int .i64 (x : Int)) = G.contains x := by
  unfold SetD
  rw [has_setOf _ _ _ (setKeys G), List.any_map, List.contains_eq_any_beq]
  congr 1
  funext g
  show (Lit.int .i64 (g : Int)).sameKey (.int .i64 (x : Int)) = _
  by_cases e : g = x
  · subst e; rw [WideAt.sameKey_self (by first | trivial | simp [WideAt.IsKeyLit])]; simp
  · rw [sameKey_ne (by intro e'; injection e' with _ e'; omega)]
    have : (x == g) = false := by simp; omega
    rw [this]
theorem SetD_size (G : List Nat) (N : Nat) (h : ∀ g ∈ G, g < N) : fp G N + Maps.size (SetD G) = N := by
  revert h
  refine snoc_ind (Q := fun G => (∀ g ∈ G, g < N) → fp G N + Maps.size (SetD G) = N) ?_ ?_ G
  · intro _
    show (fG [] (cA N)).length + _ = N
    rw [fG_nil, cA_len]
    have : Maps.size (SetD []) = 0 := by simp [SetD, setOf, Maps.size]
    omega
  · intro G' x ih h
    have h1 := ih (fun g hg => h g (by simp [hg]))
    have h2 := fp_snoc G' x N (h x (by simp))
    rw [SetD_snoc, size_put (SetD_tidy G'), SetD_has]
    revert h2
    cases G'.contains x <;> simp <;> intro h2 <;> omega
end Go.Proofs.Ytlgnjbdkkpjjaaa
