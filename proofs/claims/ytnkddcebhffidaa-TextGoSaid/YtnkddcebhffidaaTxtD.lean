/- Contract of the reference's Index: it is the number of a place as text.Index has it. -/
import Derived.Test.YtnkddcebhffidaaTxtC
set_option linter.unusedVariables false
namespace Go.Proofs.Ytnkddcebhffidaa
open Go.RowKit

theorem idxValL_lt (l : List Nat) (k v : Nat) (h : idxValL l k = some v) : v < 10 ^ k := by
  induction k generalizing v with
  | zero => simp [idxValL] at h; omega
  | succ k ih =>
    rw [idxValL] at h
    cases e : idxValL l k with
    | none => rw [e] at h; cases h
    | some x =>
      rw [e] at h
      simp only [] at h
      by_cases hd : 48 ≤ l.getD k 0 ∧ l.getD k 0 ≤ 57
      · rw [if_pos hd] at h
        have := ih x e
        injection h with h
        rw [Nat.pow_succ]; omega
      · rw [if_neg hd] at h; cases h

/-- A number told by at least four digits without a 0 ahead is at least 1000. -/
theorem idxValL_ge (l : List Nat) (k v : Nat) (h : idxValL l (k + 1) = some v) (h0 : l.getD 0 0 ≠ 48) : 10 ^ k ≤ v := by
  induction k generalizing v with
  | zero =>
    rw [idxValL, idxValL] at h
    simp only [] at h
    by_cases hd : 48 ≤ l.getD 0 0 ∧ l.getD 0 0 ≤ 57
    · rw [if_pos hd] at h; injection h with h; simp; omega
    · rw [if_neg hd] at h; cases h
  | succ k ih =>
    rw [idxValL] at h
    cases e : idxValL l (k + 1) with
    | none => rw [e] at h; cases h
    | some x =>
      rw [e] at h
      simp only [] at h
      by_cases hd : 48 ≤ l.getD (k + 1) 0 ∧ l.getD (k + 1) 0 ≤ 57
      · rw [if_pos hd] at h
        have := ih x e
        injection h with h
        rw [Nat.pow_succ]; omega
      · rw [if_neg hd] at h; cases h

theorem idxL_long (l : List Nat) (h : 3 < l.length) : idxL l = -1 := by
  unfold idxL
  by_cases hc : l.length = 0 ∨ 5 < l.length ∨ 1 < l.length ∧ l.getD 0 0 = 48
  · rw [if_pos hc]
  · rw [if_neg hc]
    cases e : idxValL l l.length with
    | none => rfl
    | some v =>
      have h1 := idxValL_ge l (l.length - 1) v (by rw [show l.length - 1 + 1 = l.length by omega]; exact e) (fun h0 => hc (.inr (.inr ⟨by omega, h0⟩)))
      have h2 : 10 ^ 3 ≤ 10 ^ (l.length - 1) := Nat.pow_le_pow_right (by decide) (by omega)
      show (if 1000 ≤ v then -1 else (v : Int)) = -1
      rw [if_pos (by omega)]

theorem idxValL_none (l : List Nat) (k n : Nat) (h : idxValL l k = none) (hn : k ≤ n) : idxValL l n = none := by
  induction n with
  | zero => have : k = 0 := by omega
            subst this; exact h
  | succ n ih =>
    by_cases he : k = n + 1
    · subst he; exact h
    · rw [idxValL, ih (by omega)]

set_option maxHeartbeats 4000000 in
set_option maxRecDepth 100000 in
theorem refIndex_any (a : Option Addr) (n cap : Nat) (l : List Nat) (w : World) (h : SliceR .i64 w a n cap (ints l)) (hf : Fits l) :
    Calls Try.prog 18 #[.slice a n cap] w fun e w' => e = .returned (.int .i64 (idxL l)) ∧ ∃ m, w' = w.drewN m := by
  have hl : l.length = n := by have := h.1; rwa [ints_length] at this
  have hm : n ≤ 9223372036854775807 := by have := h.2.1; have := h.2.2.1; unfold maxLen at this; omega
  have Hl := Lib.hid hl
  by_cases h0 : n = 0
  · have t0 : ((n : Int) == 0) = true := by simp [h0]
    have hr : idxL l = -1 := by rw [idxL, if_pos (.inl (by omega))]
    have HR := Lib.hid hr
    clear hr hl h0
    go_enter Try.func18, Try.ntmps18
    go_wp2
    go_ret
    exact ⟨by rw [HR.out]; rfl, 0, rfl⟩
  have t0 : ((n : Int) == 0) = false := by rw [beq_eq_false_iff_ne]; omega
  by_cases h3 : 3 < n
  · have t3 : decide ((3 : Int) < (n : Int)) = true := by simp; omega
    have hr : idxL l = -1 := idxL_long l (by omega)
    have HR := Lib.hid hr
    clear hr hl h0
    go_enter Try.func18, Try.ntmps18
    go_wp2
    go_ret
    exact ⟨by rw [HR.out]; rfl, 0, rfl⟩
  have t3 : decide ((3 : Int) < (n : Int)) = false := by simp; omega
  have hpos : 0 < n := by omega
  obtain ⟨b, off, rfl, hcell⟩ := h.at (by omega)
  have c0 : w.cell? ⟨b, off, none⟩ = some (.int .i64 ((l.getD 0 0 : Nat) : Int)) := hcell 0 (by omega)
  obtain ⟨x0, hx0⟩ : ∃ x0, x0 = l.getD 0 0 := ⟨_, rfl⟩
  rw [← hx0] at c0
  by_cases hz : 1 < n ∧ x0 = 48
  · have t1 : decide ((1 : Int) < (n : Int)) = true := by simp; omega
    have t2 : ((x0 : Int) == 48) = true := by simp [hz.2]
    have hr : idxL l = -1 := by rw [idxL, if_pos (.inr (.inr ⟨by omega, by omega⟩))]
    have HR := Lib.hid hr
    clear hr hl h0 hz hx0 hcell h
    go_enter Try.func18, Try.ntmps18
    go_wp2
    go_ret
    exact ⟨by rw [HR.out]; rfl, 0, rfl⟩
  have hr : idxL l = idxRes (idxValL l n) := by rw [idxL, if_neg (by omega), hl]
  have HR := Lib.hid hr
  clear hr
  by_cases h1 : 1 < n
  case' pos =>
    have t1 : decide ((1 : Int) < (n : Int)) = true := by simp; omega
    have t2 : ((x0 : Int) == 48) = false := by rw [beq_eq_false_iff_ne]; omega
    clear hz hx0 hl h0 h
    go_enter Try.func18, Try.ntmps18
    go_wp2
  case' neg =>
    have t1 : decide ((1 : Int) < (n : Int)) = false := by simp; omega
    clear hz hx0 hl h0 h
    go_enter Try.func18, Try.ntmps18
    go_wp2
  all_goals
    go_loopw [3, 4] (fun v i wr => ∃ k x : Nat, k ≤ n ∧ i = .int .i64 k ∧ v = .int .i64 x ∧ idxValL l k = some x ∧ ∃ m, wr = w.drewN m) (fun _ i _ => n - (intOf i).toNat)
    case atStart => exact ⟨0, 0, Nat.zero_le _, rfl, rfl, rfl, 0, rfl⟩
    case round =>
      obtain ⟨k, x, hk, rfl, rfl, hx, m, rfl⟩ := hrel
      have hxb : x < 10000 := Nat.lt_of_lt_of_le (idxValL_lt l k x hx) (Nat.pow_le_pow_right (n := 10) (by decide) (show k ≤ 4 by omega))
      have Hx := Lib.hid hx
      clear hx c0
      by_cases hlt : k < n
      · have t5 : decide ((k : Int) < (n : Int)) = true := by simp; omega
        have ck := hcell k hlt
        obtain ⟨u, hu⟩ : ∃ u, u = l.getD k 0 := ⟨_, rfl⟩
        have hul : u < 65536 := by
          rw [hu, List.getD_eq_getElem?_getD, List.getElem?_eq_getElem (by have := Hl.out; omega)]; exact hf _ (List.getElem_mem _)
        rw [← hu] at ck
        clear hcell
        have Hu := Lib.hid hu
        have z1 : (0 : Int) ≤ (k : Int) := by omega
        have z2 : (k : Int) < (n : Int) := by omega
        clear hu
        by_cases hdig : 48 ≤ u ∧ u ≤ 57
        · have t6 : decide ((u : Int) < 48) = false := by simp; omega
          have t7 : decide (57 < (u : Int)) = false := by simp; omega
          have hd1 := hdig.1
          have hd2 := hdig.2
          clear hdig
          go_wp2
          go_roundw
          case rel =>
            refine ⟨k + 1, x * 10 + (u - 48), by omega, by go_num, ?_, ?_, _, rfl⟩
            · congr 1; omega
            · rw [idxValL, Hx.out]; simp only []; rw [← Hu.out, if_pos ⟨hd1, hd2⟩]
          case measure => simp [intOf]; omega
        · have hnone : idxValL l n = none := idxValL_none l (k + 1) n (by rw [idxValL, Hx.out]; simp only []; rw [← Hu.out, if_neg hdig]) (by omega)
          have Hn := Lib.hid hnone
          clear hnone
          by_cases hlo : u < 48
          · have t6 : decide ((u : Int) < 48) = true := by simp; omega
            clear hdig
            go_wp2
            go_ret
            exact ⟨by rw [HR.out, Hn.out]; rfl, _, rfl⟩
          · have t6 : decide ((u : Int) < 48) = false := by simp; omega
            have t7 : decide (57 < (u : Int)) = true := by simp; omega
            clear hdig
            go_wp2
            go_ret
            exact ⟨by rw [HR.out, Hn.out]; rfl, _, rfl⟩
      · have t5 : decide ((k : Int) < (n : Int)) = false := by simp; omega
        clear hcell
        obtain rfl : k = n := by omega
        have hlast : idxRes (some x) = x := by
          have := idxValL_lt l k x Hx.out
          have h2 : 10 ^ k ≤ 10 ^ 3 := Nat.pow_le_pow_right (by decide) (by omega)
          show (if 1000 ≤ x then -1 else (x : Int)) = x
          rw [if_neg (by omega)]
        have HL := Lib.hid hlast
        clear hlast
        go_wp2
        go_ret
        exact ⟨by rw [HR.out, Hx.out, HL.out]; rfl, _, rfl⟩

end Go.Proofs.Ytnkddcebhffidaa
