/- HeapChains: the plain law. -/
import Derived.Test.YtmimnaaofpkndaaDoorHpM
set_option linter.unusedVariables false
set_option linter.unusedSimpArgs false
namespace Go.Proofs.YtmimnaaofpkndaaDoor.Hp
open Go.RowKit Go.Proofs.YtmimnaaofpkndaaDoor

def ky (k : Nat) : K3 := keyL [UInt8.ofNat (97 + k)]
theorem ky_size (k : Nat) (hk : k < 4) : (ky k).2.2.size ≤ 4000 := by
  refine keyL_size _ (fun c hc => ?_) (by simp)
  rw [List.mem_singleton] at hc
  subst hc
  match k, hk with
  | 0, _ => decide
  | 1, _ => decide
  | 2, _ => decide
  | 3, _ => decide
theorem ky_val (k : Nat) (hk : k < 4) : ky k = (7, 0, ⟨#[0, UInt8.ofNat (97 + k)]⟩) := by
  unfold ky keyL
  rw [Tx.ofB_ascii _ (fun c hc => ?_)]
  · match k, hk with
    | 0, _ => rfl
    | 1, _ => rfl
    | 2, _ => rfl
    | 3, _ => rfl
  · rw [List.mem_singleton] at hc
    subst hc
    match k, hk with
    | 0, _ => decide
    | 1, _ => decide
    | 2, _ => decide
    | 3, _ => decide
theorem ky_inj {j k : Nat} (hj : j < 4) (hk : k < 4) (h : norm (ky j) = norm (ky k)) : j = k := by
  rw [ky_val j hj, ky_val k hk] at h
  match j, hj, k, hk with
  | 0, _, 0, _ => rfl
  | 0, _, 1, _ => exact absurd h (by decide)
  | 0, _, 2, _ => exact absurd h (by decide)
  | 0, _, 3, _ => exact absurd h (by decide)
  | 1, _, 0, _ => exact absurd h (by decide)
  | 1, _, 1, _ => rfl
  | 1, _, 2, _ => exact absurd h (by decide)
  | 1, _, 3, _ => exact absurd h (by decide)
  | 2, _, 0, _ => exact absurd h (by decide)
  | 2, _, 1, _ => exact absurd h (by decide)
  | 2, _, 2, _ => rfl
  | 2, _, 3, _ => exact absurd h (by decide)
  | 3, _, 0, _ => exact absurd h (by decide)
  | 3, _, 1, _ => exact absurd h (by decide)
  | 3, _, 2, _ => exact absurd h (by decide)
  | 3, _, 3, _ => rfl
/-- What a put leaves, entry by entry. -/
theorem put_mem {k v : K3} {f : Int} {A : List Ent} {y : Ent} (h : y ∈ putA k v f A) : (∃ x ∈ A, y = x ∧ isKey k x = false) ∨ (y.val = v ∧ y.flags = f ∧ norm y.key = norm k ∧ y.grave = false) := by
  unfold putA at h
  split at h
  · obtain ⟨x, hx, rfl⟩ := List.mem_map.1 h
    unfold updE
    by_cases hk : isKey k x = true
    · rw [if_pos hk]
      unfold isKey at hk
      simp at hk
      exact .inr ⟨rfl, rfl, hk.2, hk.1⟩
    · rw [if_neg hk]
      exact .inl ⟨x, hx, rfl, by simpa using hk⟩
  · rename_i hn
    rcases List.mem_append.1 h with h | h
    · refine .inl ⟨y, h, rfl, ?_⟩
      cases hk : isKey k y
      · rfl
      · exact absurd (List.any_eq_true.2 ⟨y, h, hk⟩) hn
    · rw [List.mem_singleton] at h
      subst h
      exact .inr ⟨rfl, rfl, norm_norm k, rfl⟩
theorem put_has (k v : K3) (f : Int) (A : List Ent) : ∃ y ∈ putA k v f A, isKey k y = true := by
  unfold putA
  split
  · rename_i h
    obtain ⟨x, hx, hk⟩ := List.any_eq_true.1 h
    refine ⟨updE k v f x, List.mem_map.2 ⟨x, hx, rfl⟩, ?_⟩
    unfold updE
    rw [if_pos hk]
    unfold isKey at hk ⊢
    exact hk
  · refine ⟨_, List.mem_append_right _ (List.mem_singleton.2 rfl), ?_⟩
    unfold isKey
    simp [norm_norm]
theorem put_other {k k' v : K3} {f : Int} {A : List Ent} (hne : norm k ≠ norm k') {x : Ent} (hx : x ∈ A) (hk : isKey k' x = true) : x ∈ putA k v f A := by
  have hkx : isKey k x = false := by
    unfold isKey at hk ⊢
    simp at hk ⊢
    intro _ h
    exact hne (h.symm.trans hk.2)
  unfold putA
  split
  · exact List.mem_map.2 ⟨x, hx, by unfold updE; rw [if_neg (by rw [hkx]; decide)]⟩
  · exact List.mem_append_left _ hx
theorem put_len (k v : K3) (f : Int) (A : List Ent) : (putA k v f A).length ≤ A.length + 1 := by
  unfold putA
  split <;> simp
/-- What is nearest, by key. -/
structure Near (l : List ObS) (nr : Nat → Nat) (c : Nat) : Prop where
  le : ∀ k, k < 4 → nr k ≤ l.length
  has : ∀ k, k < 4 → 0 < nr k → ∃ o, l[nr k - 1]? = some o ∧ ∃ y ∈ o.A, isKey (ky k) y = true
  no : ∀ k, k < 4 → ∀ (j : Nat) (o : ObS), nr k ≤ j → l[j]? = some o → ∀ y ∈ o.A, isKey (ky k) y = false
  vals : ∀ (j : Nat) (o : ObS), l[j]? = some o → ∀ y ∈ o.A, y.val = (3, ((j + 1 : Nat) : Int), ⟨#[]⟩) ∧ y.flags = 7
  len : ∀ (j : Nat) (o : ObS), l[j]? = some o → o.A.length ≤ c
def stepN (nr : Nat → Nat) (k a : Nat) : Nat → Nat := fun j => if j = k then max (nr k) a else nr j
theorem Near.new {l : List ObS} (h : ∀ (j : Nat) (o : ObS), l[j]? = some o → o.A = []) : Near l (fun _ => 0) 0 :=
  ⟨fun k _ => Nat.zero_le _, fun k _ h0 => absurd h0 (by decide), fun k _ j o _ ho y hy => (by rw [h j o ho] at hy; cases hy), fun j o ho y hy => (by rw [h j o ho] at hy; cases hy), fun j o ho => (by rw [h j o ho]; exact Nat.le_refl _)⟩
theorem Near.step {l : List ObS} {nr : Nat → Nat} {c : Nat} (h : Near l nr c) {k i : Nat} (hk : k < 4) {o : ObS} (ho : l[i]? = some o) :
    Near (l.set i ⟨o.b, o.T, putA (ky k) (3, ((i + 1 : Nat) : Int), ⟨#[]⟩) 7 o.A⟩) (stepN nr k (i + 1)) (c + 1) := by
  have hi := (List.getElem?_eq_some_iff.1 ho).1
  have get : ∀ (j : Nat) (o' : ObS), (l.set i ⟨o.b, o.T, putA (ky k) (3, ((i + 1 : Nat) : Int), ⟨#[]⟩) 7 o.A⟩)[j]? = some o' → (j = i ∧ o' = ⟨o.b, o.T, putA (ky k) (3, ((i + 1 : Nat) : Int), ⟨#[]⟩) 7 o.A⟩) ∨ (j ≠ i ∧ l[j]? = some o') := by
    intro j o' hj
    rw [List.getElem?_set] at hj
    by_cases hij : i = j
    · rw [if_pos hij, if_pos (by omega)] at hj
      exact .inl ⟨hij.symm, (Option.some.inj hj).symm⟩
    · rw [if_neg hij] at hj
      exact .inr ⟨fun e => hij e.symm, hj⟩
  refine ⟨fun j hj => ?_, fun j hj h0 => ?_, fun j hj a o' ha ho' y hy => ?_, fun a o' ho' y hy => ?_, fun a o' ho' => ?_⟩
  · rw [List.length_set]
    unfold stepN
    split
    · have := h.le k hk; omega
    · exact h.le j hj
  · unfold stepN at h0 ⊢
    by_cases hjk : j = k
    · subst hjk
      rw [if_pos rfl] at h0 ⊢
      by_cases hm : nr j ≤ i + 1
      · rw [Nat.max_eq_right hm, Nat.add_sub_cancel, List.getElem?_set, if_pos rfl, if_pos hi]
        exact ⟨_, rfl, put_has _ _ _ _⟩
      · rw [Nat.max_eq_left (by omega)]
        obtain ⟨o2, ho2, hy⟩ := h.has j hj (by omega)
        rw [List.getElem?_set, if_neg (by omega)]
        exact ⟨o2, ho2, hy⟩
    · rw [if_neg hjk] at h0 ⊢
      obtain ⟨o2, ho2, y, hy, hky⟩ := h.has j hj h0
      by_cases hij : i = nr j - 1
      · rw [List.getElem?_set, if_pos hij, if_pos (by omega)]
        rw [← hij, ho] at ho2
        obtain rfl := Option.some.inj ho2
        exact ⟨_, rfl, y, put_other (fun e => hjk (ky_inj hk hj e).symm) hy hky, hky⟩
      · rw [List.getElem?_set, if_neg hij]
        exact ⟨o2, ho2, y, hy, hky⟩
  · unfold stepN at ha
    rcases get a o' ho' with ⟨rfl, rfl⟩ | ⟨hne, hl⟩
    · by_cases hjk : j = k
      · rw [if_pos hjk] at ha; omega
      · rw [if_neg hjk] at ha
        rcases put_mem hy with ⟨x, hx, rfl, _⟩ | ⟨_, _, hn, _⟩
        · exact h.no j hj a o ha ho _ hx
        · unfold isKey
          rw [hn]
          have : norm (ky k) ≠ norm (ky j) := fun e => hjk (ky_inj hk hj e).symm
          simp [this]
    · by_cases hjk : j = k
      · rw [if_pos hjk] at ha
        rw [hjk]
        exact h.no k hk a o' (by omega) hl y hy
      · rw [if_neg hjk] at ha
        exact h.no j hj a o' ha hl y hy
  · rcases get a o' ho' with ⟨rfl, rfl⟩ | ⟨hne, hl⟩
    · rcases put_mem hy with ⟨x, hx, rfl, _⟩ | ⟨hv, hf, _⟩
      · exact h.vals a o ho _ hx
      · exact ⟨hv, hf⟩
    · exact h.vals a o' hl y hy
  · rcases get a o' ho' with ⟨rfl, rfl⟩ | ⟨hne, hl⟩
    · have := put_len (ky k) (3, ((a + 1 : Nat) : Int), ⟨#[]⟩) 7 o.A
      have := h.len a o ho
      show (putA _ _ _ _).length ≤ _
      omega
    · have := h.len a o' hl; omega
/-- What Find finds. -/
theorem Near.found {l : List ObS} {nr : Nat → Nat} {c : Nat} (h : Near l nr c) {k : Nat} (hk : k < 4) {gv : K3} {gf : Int} {gb : Bool} (hf : FindOut l (ky k) l.length gv gf gb) : gb = decide (0 < nr k) ∧ (gb = true → gv = (3, (nr k : Int), ⟨#[]⟩)) := by
  rcases hf with ⟨rfl, i, o, x, hi, ho, hx, hkx, rfl, hno⟩ | ⟨rfl, hno⟩
  · have hv := (h.vals i o ho x hx).1
    have h1 : i < nr k := by
      rcases Nat.lt_or_ge i (nr k) with h1 | h1
      · exact h1
      · rw [h.no k hk i o h1 ho x hx] at hkx; cases hkx
    have h2 : nr k ≤ i + 1 := by
      rcases Nat.lt_or_ge (i + 1) (nr k) with h2 | h2
      · obtain ⟨o2, ho2, y, hy, hky⟩ := h.has k hk (by omega)
        have := hno (nr k - 1) o2 (by omega) (by have := h.le k hk; omega) ho2 y hy
        rw [this] at hky; cases hky
      · exact h2
    have h3 : nr k = i + 1 := by omega
    rw [h3]
    exact ⟨by simp, fun _ => hv⟩
  · refine ⟨?_, fun h => by cases h⟩
    symm
    rw [decide_eq_false_iff_not]
    intro h0
    obtain ⟨o2, ho2, y, hy, hky⟩ := h.has k hk h0
    have := hno (nr k - 1) o2 (by have := h.le k hk; omega) ho2 y hy
    rw [this] at hky; cases hky
end Go.Proofs.YtmimnaaofpkndaaDoor.Hp
