/- Plain laws on strings of units: what a string made of units has at each place; units of ASCII texts; the places of arrays. No program in sight. -/
import Derived.Test.YtolfcmfilfjgfaaDoorTxtP
import Derived.KernelRfl
namespace Go.Proofs.YtolfcmfilfjgfaaDoor

def Fits (l : List Nat) : Prop := ∀ u, u ∈ l → u < 65536
def uS (l : List Nat) : ByteArray := ⟨(unitsB l).toArray⟩

theorem uS_size (l : List Nat) : (uS l).size = 2 * l.length := by
  show (unitsB l).toArray.size = _
  rw [List.size_toArray, unitsB_length]

theorem unitsB_getD (l : List Nat) (i : Nat) : (unitsB l).getD (2 * i) 0 = UInt8.ofNat (l.getD i 0 / 256) ∧ (unitsB l).getD (2 * i + 1) 0 = UInt8.ofNat (l.getD i 0 % 256) := by
  induction l generalizing i with
  | nil => simp [unitsB]
  | cons u l ih =>
    cases i with
    | zero => simp [unitsB_cons, unitB]
    | succ i =>
      have := ih i
      rw [unitsB_cons]
      simp only [unitB, List.cons_append, List.nil_append]
      rw [show 2 * (i + 1) = 2 * i + 1 + 1 by omega]
      simpa using this

theorem unitAt_uS (l : List Nat) (h : Fits l) (i : Nat) : unitAt (uS l) i = l.getD i 0 := by
  have hl : l.getD i 0 < 65536 := by
    by_cases hi : i < l.length
    · rw [List.getD_eq_getElem?_getD, List.getElem?_eq_getElem hi]; exact h _ (List.getElem_mem hi)
    · rw [List.getD_eq_getElem?_getD, List.getElem?_eq_none (by omega)]; decide
  have := unitsB_getD l i
  unfold unitAt uS
  simp only [this.1, this.2, UInt8.toNat_ofNat']
  omega

def idxValL (l : List Nat) : Nat → Option Nat
  | 0 => some 0
  | k + 1 => match idxValL l k with
    | none => none
    | some v => if 48 ≤ l.getD k 0 ∧ l.getD k 0 ≤ 57 then some (v * 10 + (l.getD k 0 - 48)) else none
def idxL (l : List Nat) : Int :=
  if l.length = 0 ∨ 5 < l.length ∨ (1 < l.length ∧ l.getD 0 0 = 48) then -1 else idxRes (idxValL l l.length)

theorem idxVal_uS (l : List Nat) (h : Fits l) (k : Nat) : idxVal (uS l) k = idxValL l k := by
  induction k with
  | zero => rfl
  | succ k ih => rw [idxVal, idxValL, ih, unitAt_uS l h] <;> rfl

theorem indexOf_uS (l : List Nat) (h : Fits l) : indexOf (uS l) = idxL l := by
  unfold indexOf idxL
  rw [uS_size, show 2 * l.length / 2 = l.length by omega, idxVal_uS l h, unitAt_uS l h]

/-! ASCII -/
theorem decUnits_ascii (l : List UInt8) (h : ∀ c, c ∈ l → c.toNat < 128) (fuel pos : Nat) (hf : l.length ≤ pos + fuel) :
    decUnits ⟨l.toArray⟩ fuel pos = (l.drop pos).map (·.toNat) := by
  induction fuel generalizing pos with
  | zero => rw [List.drop_of_length_le (by omega)]; rfl
  | succ f ih =>
    by_cases hp : pos < l.length
    · have hsz : pos < (⟨l.toArray⟩ : ByteArray).size := by show pos < l.toArray.size; simpa using hp
      have he : (⟨l.toArray⟩ : ByteArray)[pos]'hsz = l[pos] := rfl
      have hc : l[pos].toNat < 128 := h _ (List.getElem_mem hp)
      rw [decUnits, if_pos hsz, decode_ascii _ pos hsz (by rw [he]; exact hc), he, ih (pos + 1) (by omega), List.drop_eq_getElem_cons hp, List.map_cons, runeUnits, if_pos (show l[pos].toNat < 65536 by omega)]
      rfl
    · rw [decUnits_end _ _ _ (by show ¬ pos < l.toArray.size; simpa using hp), List.drop_of_length_le (by omega)]; rfl

theorem ofB_ascii (l : List UInt8) (h : ∀ c, c ∈ l → c.toNat < 128) : ofB ⟨l.toArray⟩ = unitsB (l.map (·.toNat)) := by
  unfold ofB unitsOf
  rw [decUnits_ascii l h _ 0 (by show l.length ≤ 0 + l.toArray.size; simp)]
  rfl

theorem indexOf_of_ascii (l : List UInt8) (h : ∀ c, c ∈ l → c.toNat < 128) : indexOf ⟨(ofB ⟨l.toArray⟩).toArray⟩ = idxL (l.map (·.toNat)) := by
  rw [ofB_ascii l h]
  refine indexOf_uS _ fun u hu => ?_
  obtain ⟨c, _, rfl⟩ := List.mem_map.1 hu
  have := UInt8.toNat_lt c
  omega

theorem runeUnits_fits (r : Nat) (h : r ≤ 1114111) : Fits (runeUnits r) := by
  unfold runeUnits
  intro u hu
  by_cases h1 : r < 65536
  · rw [if_pos h1] at hu; simp at hu; omega
  · rw [if_neg h1] at hu
    rcases List.mem_cons.1 hu with h2 | h2
    · omega
    · have := List.mem_singleton.1 h2; omega
theorem runeUnits_length (r : Nat) : (runeUnits r).length ≤ 2 := by
  unfold runeUnits
  by_cases h1 : r < 65536
  · rw [if_pos h1]; simp
  · rw [if_neg h1]; simp
theorem decUnits_fits (s : ByteArray) (fuel pos : Nat) : Fits (decUnits s fuel pos) := by
  induction fuel generalizing pos with
  | zero => intro u hu; simp [decUnits] at hu
  | succ f ih =>
    rw [decUnits]
    by_cases h : pos < s.size
    · rw [if_pos h]
      intro u hu
      rcases List.mem_append.1 hu with h1 | h1
      · exact runeUnits_fits _ (decode_max s pos) u h1
      · exact ih _ u h1
    · rw [if_neg h]; intro u hu; simp at hu
theorem decUnits_length (s : ByteArray) (fuel pos : Nat) : (decUnits s fuel pos).length ≤ 2 * fuel := by
  induction fuel generalizing pos with
  | zero => simp [decUnits]
  | succ f ih =>
    rw [decUnits]
    by_cases h : pos < s.size
    · rw [if_pos h, List.length_append]
      have := ih (pos + (Utf8.decode s pos).2)
      have := runeUnits_length (Utf8.decode s pos).1
      omega
    · rw [if_neg h]; simp

/-! The digits of a number below 12000 -/
def decF : Nat → Nat → List UInt8 → List UInt8
  | 0, _, l => l
  | f + 1, m, l => if m / 10 = 0 then UInt8.ofNat (48 + m % 10) :: l else decF f (m / 10) (UInt8.ofNat (48 + m % 10) :: l)
def decB (n : Nat) : List UInt8 := decF 5 n []
def dg (k : Nat) : UInt8 := UInt8.ofNat (48 + k % 10)
theorem dg_toNat (k : Nat) : (dg k).toNat = 48 + k % 10 := by
  unfold dg; rw [UInt8.toNat_ofNat']; omega

theorem decB_cases (n : Nat) (h : n < 12000) :
    (n < 10 ∧ decB n = [dg n]) ∨ (10 ≤ n ∧ n < 100 ∧ decB n = [dg (n / 10), dg n]) ∨ (100 ≤ n ∧ n < 1000 ∧ decB n = [dg (n / 100), dg (n / 10), dg n]) ∨
    (1000 ≤ n ∧ n < 10000 ∧ decB n = [dg (n / 1000), dg (n / 100), dg (n / 10), dg n]) ∨ (10000 ≤ n ∧ decB n = [dg (n / 10000), dg (n / 1000), dg (n / 100), dg (n / 10), dg n]) := by
  by_cases h1 : n < 10
  · refine .inl ⟨h1, ?_⟩
    simp only [decB, decF]
    rw [if_pos (by omega)]; rfl
  by_cases h2 : n < 100
  · refine .inr (.inl ⟨by omega, h2, ?_⟩)
    simp only [decB, decF]
    rw [if_neg (by omega), if_pos (by omega)]; rfl
  by_cases h3 : n < 1000
  · refine .inr (.inr (.inl ⟨by omega, h3, ?_⟩))
    simp only [decB, decF]
    rw [if_neg (by omega), if_neg (by omega), if_pos (by omega)]
    simp only [dg, Nat.div_div_eq_div_mul]
  by_cases h4 : n < 10000
  · refine .inr (.inr (.inr (.inl ⟨by omega, h4, ?_⟩)))
    simp only [decB, decF]
    rw [if_neg (by omega), if_neg (by omega), if_neg (by omega), if_pos (by omega)]
    simp only [dg, Nat.div_div_eq_div_mul]
  · refine .inr (.inr (.inr (.inr ⟨by omega, ?_⟩)))
    simp only [decB, decF]
    rw [if_neg (by omega), if_neg (by omega), if_neg (by omega), if_neg (by omega), if_pos (by omega)]
    simp only [dg, Nat.div_div_eq_div_mul]

/-- One more unit. -/
theorem idxValL_snoc (l : List Nat) (u : Nat) : idxValL (l ++ [u]) (l.length + 1) = match idxValL l l.length with
    | none => none
    | some v => if 48 ≤ u ∧ u ≤ 57 then some (v * 10 + (u - 48)) else none := by
  have hk : ∀ k, k ≤ l.length → idxValL (l ++ [u]) k = idxValL l k := by
    intro k
    induction k with
    | zero => intro _; rfl
    | succ k ih =>
      intro hk
      rw [idxValL, idxValL, ih (by omega), show (l ++ [u]).getD k 0 = l.getD k 0 by rw [List.getD_eq_getElem?_getD, List.getD_eq_getElem?_getD, List.getElem?_append_left (by omega)]]
  rw [idxValL, hk _ (Nat.le_refl _), show (l ++ [u]).getD l.length 0 = u by simp]

/-- What starts with something that is no digit from 1 to 9, and is longer than one, is no place. -/
theorem idxL_head (u : Nat) (l : List Nat) (h0 : l ≠ []) (h : ¬ (49 ≤ u ∧ u ≤ 57)) : idxL (u :: l) = -1 := by
  have hl : 0 < l.length := List.length_pos_iff.2 h0
  by_cases h48 : u = 48
  · rw [idxL, if_pos (.inr (.inr ⟨by simp; omega, by simpa using h48⟩))]
  · have h1 : idxValL (u :: l) 1 = none := by
      rw [idxValL, idxValL]
      show (if 48 ≤ (u :: l).getD 0 0 ∧ (u :: l).getD 0 0 ≤ 57 then some (0 * 10 + ((u :: l).getD 0 0 - 48)) else none) = none
      rw [List.getD_cons_zero, if_neg (by omega)]
    have hn : ∀ k, 1 ≤ k → idxValL (u :: l) k = none := by
      intro k
      induction k with
      | zero => intro h; omega
      | succ k ih =>
        intro _
        by_cases hk : k = 0
        · subst hk; exact h1
        · rw [idxValL, ih (by omega)]
    unfold idxL
    rw [hn _ (by simp)]
    by_cases hc : (u :: l).length = 0 ∨ 5 < (u :: l).length ∨ 1 < (u :: l).length ∧ (u :: l).getD 0 0 = 48
    · rw [if_pos hc]
    · rw [if_neg hc]; rfl

theorem idxL_last (u : Nat) (l : List Nat) (h : ¬ (48 ≤ u ∧ u ≤ 57)) : idxL (l ++ [u]) = -1 := by
  have : idxValL (l ++ [u]) (l ++ [u]).length = none := by
    rw [show (l ++ [u]).length = l.length + 1 by simp, idxValL_snoc]
    split
    · rfl
    · rw [if_neg h]
  unfold idxL
  rw [this]
  by_cases hc : (l ++ [u]).length = 0 ∨ 5 < (l ++ [u]).length ∨ 1 < (l ++ [u]).length ∧ (l ++ [u]).getD 0 0 = 48
  · rw [if_pos hc]
  · rw [if_neg hc]; rfl

theorem idx_digits (rs : List Nat) (h : ∀ d, d ∈ rs → d ≤ 9) : idxValL (rs.reverse.map (48 + ·)) rs.length = some (rs.reverse.foldl (fun v d => v * 10 + d) 0) := by
  induction rs with
  | nil => rfl
  | cons d rs ih =>
    have h1 := idxValL_snoc (rs.reverse.map (48 + ·)) (48 + d)
    rw [List.length_map, List.length_reverse, ih fun d' hd => h d' (List.mem_cons_of_mem _ hd)] at h1
    have h9 := h d (List.mem_cons_self ..)
    rw [List.reverse_cons, List.map_append, List.length_cons, List.foldl_append]
    refine h1.trans ?_
    show (if 48 ≤ 48 + d ∧ 48 + d ≤ 57 then _ else none) = _
    rw [if_pos (by omega)]
    simp

theorem idxL_digits (ds : List Nat) (h : ∀ d, d ∈ ds → d ≤ 9) (h0 : ds ≠ []) (h5 : ds.length ≤ 5) (hz : ds.length ≤ 1 ∨ ds.getD 0 0 ≠ 0) :
    idxL (ds.map (48 + ·)) = if 1000 ≤ ds.foldl (fun v d => v * 10 + d) 0 then -1 else ((ds.foldl (fun v d => v * 10 + d) 0 : Nat) : Int) := by
  have h1 := idx_digits ds.reverse (fun d hd => h d (List.mem_reverse.1 hd))
  rw [List.reverse_reverse, List.length_reverse] at h1
  have hl : 0 < ds.length := List.length_pos_iff.2 h0
  rw [idxL, if_neg, List.length_map, h1]
  · rfl
  · rw [List.length_map]
    rintro (h2 | h2 | ⟨h2, h3⟩)
    · omega
    · omega
    · rcases hz with hz | hz
      · omega
      · apply hz
        cases ds with
        | nil => exact absurd rfl h0
        | cons d ds => simp at h3; simpa using h3

theorem decB_ne (n : Nat) (h : n < 12000) : decB n ≠ [] := by
  rcases decB_cases n h with ⟨_, e⟩ | ⟨_, _, e⟩ | ⟨_, _, e⟩ | ⟨_, _, e⟩ | ⟨_, e⟩ <;> rw [e] <;> simp

theorem decB_ascii (n : Nat) (h : n < 12000) : ∀ c, c ∈ decB n → c.toNat < 128 := by
  rcases decB_cases n h with ⟨_, e⟩ | ⟨_, _, e⟩ | ⟨_, _, e⟩ | ⟨_, _, e⟩ | ⟨_, e⟩ <;> rw [e] <;> simp [dg_toNat] <;> omega

theorem idxL_dec (n : Nat) (h : n < 12000) : idxL ((decB n).map (·.toNat)) = if 1000 ≤ n then -1 else (n : Int) := by
  have key : ∀ ds : List Nat, (decB n).map (·.toNat) = ds.map (48 + ·) → (∀ d, d ∈ ds → d ≤ 9) → ds ≠ [] → ds.length ≤ 5 → (ds.length ≤ 1 ∨ ds.getD 0 0 ≠ 0) → ds.foldl (fun v d => v * 10 + d) 0 = n → idxL ((decB n).map (·.toNat)) = if 1000 ≤ n then -1 else (n : Int) := by
    intro ds e h1 h2 h3 h4 h5
    rw [e, idxL_digits ds h1 h2 h3 h4, h5]
  rcases decB_cases n h with ⟨h1, e⟩ | ⟨h1, h2, e⟩ | ⟨h1, h2, e⟩ | ⟨h1, h2, e⟩ | ⟨h1, e⟩
  · refine key [n % 10] (by rw [e]; simp [dg_toNat]) (by simp; omega) (by simp) (by simp) (by simp) (by simp; omega)
  · refine key [n / 10 % 10, n % 10] (by rw [e]; simp [dg_toNat]) (by simp; omega) (by simp) (by simp) (by simp; omega) (by simp; omega)
  · refine key [n / 100 % 10, n / 10 % 10, n % 10] (by rw [e]; simp [dg_toNat]) (by simp; omega) (by simp) (by simp) (by simp; omega) (by simp; omega)
  · refine key [n / 1000 % 10, n / 100 % 10, n / 10 % 10, n % 10] (by rw [e]; simp [dg_toNat]) (by simp; omega) (by simp) (by simp) (by simp; omega) (by simp; omega)
  · refine key [n / 10000 % 10, n / 1000 % 10, n / 100 % 10, n / 10 % 10, n % 10] (by rw [e]; simp [dg_toNat]) (by simp; omega) (by simp) (by simp) (by simp; omega) (by simp; omega)

end Go.Proofs.YtolfcmfilfjgfaaDoor
