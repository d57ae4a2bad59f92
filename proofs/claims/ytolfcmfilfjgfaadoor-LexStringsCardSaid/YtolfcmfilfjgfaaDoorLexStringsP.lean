/- The statement LexStrings, the plain law: a string of escapes and plain bytes is read as its units. -/
import Derived.Test.YtolfcmfilfjgfaaDoorLexH
set_option linter.unusedVariables false
set_option linter.unusedSimpArgs false
namespace Go.Proofs.YtolfcmfilfjgfaaDoor
open Go.RowKit

/-- A hexadecimal digit. -/
def hxd (n : Nat) : UInt8 := [48, 49, 50, 51, 52, 53, 54, 55, 56, 57, 97, 98, 99, 100, 101, 102].getD n 0
theorem hexD_hxd : ∀ n, n < 16 → hexD (hxd n) = some n := by decide
/-- What the statement writes for a unit. -/
def encU (single : Bool) (u : Nat) : List UInt8 :=
  if u = 10 ∧ single = false then [92, 110]
  else if u = 39 ∨ u = 34 ∨ u = 92 then [92, UInt8.ofNat u]
  else if 32 ≤ u ∧ u < 127 then [UInt8.ofNat u]
  else [92, 117, hxd (u / 4096), hxd (u / 256 % 16), hxd (u / 16 % 16), hxd (u % 16)]
def encL (single : Bool) (l : List Nat) : List UInt8 := l.flatMap (encU single)
theorem encU_len (single : Bool) (u : Nat) : (encU single u).length ≤ 6 := by
  unfold encU; repeat' split
  all_goals simp
theorem encL_len (single : Bool) (l : List Nat) : (encL single l).length ≤ 6 * l.length := by
  induction l with
  | nil => simp [encL]
  | cons u l ih =>
    have := encU_len single u
    have h : encL single (u :: l) = encU single u ++ encL single l := by simp [encL]
    rw [h, List.length_append, List.length_cons]; omega
def quoQ (single : Bool) : UInt8 := if single then 39 else 34

theorem hex_four (u : Nat) (h : u < 65536) (r : List UInt8) : escL (117 :: hxd (u / 4096) :: hxd (u / 256 % 16) :: hxd (u / 16 % 16) :: hxd (u % 16) :: r) = some (unitB u, 5) := by
  have h1 : hexL 0 [hxd (u / 4096), hxd (u / 256 % 16), hxd (u / 16 % 16), hxd (u % 16)] = some u := by
    rw [hexL, hexD_hxd _ (by omega)]
    show hexL _ _ = _
    rw [hexL, hexD_hxd _ (by omega)]
    show hexL _ _ = _
    rw [hexL, hexD_hxd _ (by omega)]
    show hexL _ _ = _
    rw [hexL, hexD_hxd _ (by omega)]
    show hexL _ _ = _
    rw [hexL]
    congr 1; omega
  rw [escL, if_pos (by decide), if_neg (by simp)]
  show Option.map _ (hexL 0 [_, _, _, _]) = _
  rw [h1]; rfl
theorem ofB_nil : ofB ⟨#[]⟩ = [] := by rfl
theorem u8_of (u : Nat) (h : u < 256) (c : Nat) (hc : c < 256) : (UInt8.ofNat u == UInt8.ofNat c) = decide (u = c) := by
  rw [Bool.eq_iff_iff, beq_iff_eq, decide_eq_true_eq, ← UInt8.toNat_inj]
  simp only [UInt8.toNat_ofNat']
  omega
theorem ofB_snoc (pl : List UInt8) (hp : ∀ c ∈ pl, c.toNat < 128) (u : Nat) (hu : u < 128) : ofB ⟨(pl ++ [UInt8.ofNat u]).toArray⟩ = ofB ⟨pl.toArray⟩ ++ unitB u := by
  have h0 : (UInt8.ofNat u).toNat = u := by simp only [UInt8.toNat_ofNat']; omega
  rw [ofB_ascii _ hp, ofB_ascii _ (by
    intro c hc
    rcases List.mem_append.1 hc with hc | hc
    · exact hp c hc
    · rw [List.mem_singleton.1 hc, h0]; exact hu), List.map_append, unitsB_append]
  show _ ++ unitsB [(UInt8.ofNat u).toNat] = _
  rw [h0]
  show _ ++ (unitB u ++ []) = _
  rw [List.append_nil]
theorem quo_one (single : Bool) (u : Nat) (hu : u < 65536) (r pl un : List UInt8) (hp : ∀ c ∈ pl, c.toNat < 128) : ∃ pl' un', (∀ c ∈ pl', c.toNat < 128) ∧ un' ++ ofB ⟨pl'.toArray⟩ = un ++ ofB ⟨pl.toArray⟩ ++ unitB u ∧
    quoL (quoQ single) 0 (encU single u ++ r) pl un = (quoL (quoQ single) 0 r pl' un').map fun x => (x.1, x.2 + (encU single u).length) := by
  have esc : ∀ (x : UInt8) (y : List UInt8) (n : Nat), escL (x :: (y ++ r)) = some (unitB u, n) → n = 1 + y.length → ∃ pl' un', (∀ c ∈ pl', c.toNat < 128) ∧ un' ++ ofB ⟨pl'.toArray⟩ = un ++ ofB ⟨pl.toArray⟩ ++ unitB u ∧
      quoL (quoQ single) 0 (92 :: x :: (y ++ r)) pl un = (quoL (quoQ single) 0 r pl' un').map fun x => (x.1, x.2 + (2 + y.length)) := by
    intro x y n h hn
    refine ⟨[], un ++ (ofB ⟨pl.toArray⟩ ++ unitB u), (fun c hc => by cases hc), ?_, ?_⟩
    · rw [show ofB ⟨([] : List UInt8).toArray⟩ = [] from ofB_nil, List.append_nil, List.append_assoc]
    · rw [quo_esc _ _ _ _ _ _ _ rfl (by cases single <;> rfl) rfl h, hn, Nat.add_comm 1, List.drop_succ_cons, List.drop_left]
      congr 1
      funext x
      simp only [Prod.mk.injEq, true_and]; omega
  unfold encU
  split
  · rename_i h
    obtain ⟨rfl, rfl⟩ := h
    exact esc 110 [] 1 (by rfl) rfl
  · rename_i h10
    split
    · rename_i h
      rcases h with rfl | rfl | rfl
      · exact esc 39 [] 1 (by rfl) rfl
      · exact esc 34 [] 1 (by rfl) rfl
      · exact esc 92 [] 1 (by rfl) rfl
    · rename_i hq
      split
      · rename_i h
        refine ⟨pl ++ [UInt8.ofNat u], un, ?_, ?_, ?_⟩
        · intro c hc
          rcases List.mem_append.1 hc with hc | hc
          · exact hp c hc
          · rw [List.mem_singleton.1 hc]; simp only [UInt8.toNat_ofNat']; omega
        · rw [ofB_snoc pl hp u (by omega), List.append_assoc]
        · have e1 : (UInt8.ofNat u == 10) = false := by rw [show (10 : UInt8) = UInt8.ofNat 10 from rfl, u8_of u (by omega) 10 (by omega)]; simp; omega
          have e2 : (UInt8.ofNat u == quoQ single) = false := by
            cases single
            · rw [show quoQ false = UInt8.ofNat 34 from rfl, u8_of u (by omega) 34 (by omega)]; simp; omega
            · rw [show quoQ true = UInt8.ofNat 39 from rfl, u8_of u (by omega) 39 (by omega)]; simp; omega
          have e3 : (UInt8.ofNat u == 92) = false := by rw [show (92 : UInt8) = UInt8.ofNat 92 from rfl, u8_of u (by omega) 92 (by omega)]; simp; omega
          exact quo_go _ _ _ _ _ e1 e2 e3
      · exact esc 117 [hxd (u / 4096), hxd (u / 256 % 16), hxd (u / 16 % 16), hxd (u % 16)] 5 (hex_four u hu r) rfl
theorem quo_enc (single : Bool) (l : List Nat) (hl : ∀ u ∈ l, u < 65536) : ∀ (pl un : List UInt8), (∀ c ∈ pl, c.toNat < 128) →
    quoL (quoQ single) 0 (encL single l ++ [quoQ single]) pl un = some (un ++ ofB ⟨pl.toArray⟩ ++ unitsB l, (encL single l).length + 1) := by
  induction l with
  | nil =>
    intro pl un hp
    show quoL (quoQ single) 0 [quoQ single] pl un = _
    rw [quo_hit _ _ _ _ _ (by cases single <;> rfl) (by simp)]
    simp [encL, unitsB_nil]
  | cons u l ih =>
    intro pl un hp
    have h : encL single (u :: l) = encU single u ++ encL single l := by simp [encL]
    obtain ⟨pl', un', p1, p2, p3⟩ := quo_one single u (hl u (List.mem_cons_self ..)) (encL single l ++ [quoQ single]) pl un hp
    rw [h, List.append_assoc, p3, ih (fun v hv => hl v (List.mem_cons_of_mem _ hv)) pl' un' p1, p2]
    simp only [Option.map_some, Option.some.injEq, Prod.mk.injEq, List.append_assoc, unitsB_cons, true_and, List.length_append]
    omega
def strT (single : Bool) (l : List Nat) : List UInt8 := quoQ single :: encL single l ++ [quoQ single]
theorem scan_str (single : Bool) (l : List Nat) (hl : ∀ u ∈ l, u < 65536) (f : Nat) : scanL (f + 2) (strT single l) 0 = .toks [⟨4, unitsB l, 0, 0⟩, ⟨0, [], (encL single l).length + 2, 0⟩] := by
  have hq := quo_enc single l hl [] [] (fun c hc => by cases hc)
  rw [show ofB ⟨([] : List UInt8).toArray⟩ = [] from ofB_nil] at hq
  have hone : oneL (strT single l) = some (4, unitsB l, 0, (encL single l).length + 2) := by
    unfold strT
    rw [List.cons_append, oneL, if_neg (by cases single <;> decide), if_neg (by cases single <;> decide), if_pos (by cases single <;> decide), hq]
    simp
  have hb : blkL 0 (strT single l) = (0, true) := by
    unfold strT
    rw [List.cons_append]
    cases single
    · exact blk_stop 34 _ rfl rfl rfl
    · exact blk_stop 39 _ rfl rfl rfl
  have hlen : (strT single l).length = (encL single l).length + 2 := by simp [strT]
  rw [scanL, hb, if_neg (by simp)]
  simp only [List.drop_zero]
  cases hs : strT single l with
  | nil => simp [strT] at hs
  | cons c r =>
    rw [hs] at hone hlen
    simp only [hone]
    rw [List.drop_of_length_le (by omega), scanL]
    simp [blkL, ScanT.add]
end Go.Proofs.YtolfcmfilfjgfaaDoor
