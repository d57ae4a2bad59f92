/- Contract of text.Index: the number that a string of units tells as an array's place, or -1. -/
import Derived.Test.YtnkddcebhffidaaTxtA
import Derived.Lib.Hide
set_option linter.unusedVariables false
namespace Go.Proofs.Ytnkddcebhffidaa
open Go.RowKit

theorem len_n (s : ByteArray) (n : Nat) (w : World) (hs : s.size ≤ 9223372036854775807) (hn : Hid (n = s.size / 2)) :
    Calls Try.prog 20 #[.string s] w fun e w' => e = .returned (.int .i64 (n : Int)) ∧ w = w' := by
  have := hn.out; subst this
  exact len_any s w hs

theorem at_n (s : ByteArray) (i : Nat) (u : Nat) (w : World) (hs : s.size ≤ 9223372036854775807) (hi : 2 * i + 1 < s.size) (hu : Hid (u = unitAt s i)) :
    Calls Try.prog 27 #[.string s, .int .i64 (i : Int)] w fun e w' => e = .returned (.int .u16 (u : Int)) ∧ ∃ n, w' = w.drewN n := by
  have := hu.out; subst this
  exact at_in s i w hs hi

set_option maxHeartbeats 1000000 in
theorem index_ends (s : ByteArray) (n : Nat) (w : World) (hs : s.size ≤ 9223372036854775807) (hn : Hid (n = s.size / 2)) (h : n = 0 ∨ 5 < n) :
    Calls Try.prog 10 #[.string s] w fun e w' => e = .returned (.int .i64 (-1)) ∧ ∃ n, w' = w.drewN n := by
  by_cases h0 : n = 0
  · have hb : (((n : Nat) : Int) == 0) = true := by simp [h0]
    clear h h0
    go_enter Try.func10, Try.ntmps10
    go_wp2_with (go_at_call 20; refine (len_n _ n _ hs hn).mono ?_; rintro e w' ⟨rfl, rfl⟩)
    go_ret
    exact ⟨rfl, 0, rfl⟩
  · have h5 : 5 < n := by omega
    have hb : (((n : Nat) : Int) == 0) = false := by rw [beq_eq_false_iff_ne]; omega
    clear h h0
    have hc : decide (5 < (n : Int)) = true := by simp; omega
    go_enter Try.func10, Try.ntmps10
    go_wp2_with (go_at_call 20; refine (len_n _ n _ hs hn).mono ?_; rintro e w' ⟨rfl, rfl⟩)
    go_ret
    exact ⟨rfl, 0, rfl⟩

set_option maxHeartbeats 1000000 in
theorem index_zero (s : ByteArray) (n : Nat) (w : World) (hs : s.size ≤ 9223372036854775807) (hn : Hid (n = s.size / 2)) (h1 : 1 < n) (h5 : n ≤ 5) (hu : unitAt s 0 = 48) :
    Calls Try.prog 10 #[.string s] w fun e w' => e = .returned (.int .i64 (-1)) ∧ ∃ n, w' = w.drewN n := by
  have hb : (((n : Nat) : Int) == 0) = false := by rw [beq_eq_false_iff_ne]; omega
  have hc : decide (5 < (n : Int)) = false := by simp; omega
  have hd : decide (1 < (n : Int)) = true := by simp; omega
  have Hu := Lib.hid hu
  clear hu
  have hsz : 2 * 0 + 1 < s.size := by have := hn.out; omega
  go_enter Try.func10, Try.ntmps10
  go_wp2_with (first | (go_at_call 20; refine (len_n _ n _ hs hn).mono ?_; rintro e w' ⟨rfl, rfl⟩) | (go_at_call 27; refine (at_n s 0 48 _ hs hsz Hu.out.symm).mono ?_; rintro e w' ⟨rfl, _, rfl⟩))
  go_ret
  exact ⟨rfl, _, rfl⟩

set_option maxHeartbeats 2000000 in
theorem index_loop (s : ByteArray) (n : Nat) (w : World) (hs : s.size ≤ 9223372036854775807) (hn : Hid (n = s.size / 2)) (h0 : 0 < n) (h5 : n ≤ 5) (hu : n ≤ 1 ∨ unitAt s 0 ≠ 48) :
    Calls Try.prog 10 #[.string s] w fun e w' => e = .returned (.int .i64 (idxRes (idxVal s n))) ∧ ∃ n, w' = w.drewN n := by
  have hb : (((n : Nat) : Int) == 0) = false := by rw [beq_eq_false_iff_ne]; omega
  have hc : decide (5 < (n : Int)) = false := by simp; omega
  have hsz : 2 * 0 + 1 < s.size := by have := hn.out; omega
  have hev : ∀ k, k < n → 2 * k + 1 < s.size := fun k hk => by have := hn.out; omega
  by_cases h1 : n ≤ 1
  case' pos =>
    have hd : decide (1 < (n : Int)) = false := by simp; omega
    clear hu
    go_enter Try.func10, Try.ntmps10
    go_wp2_with (first | (go_at_call 20; refine (len_n _ n _ hs hn).mono ?_; rintro e w' ⟨rfl, rfl⟩))
  case' neg =>
    have hd : decide (1 < (n : Int)) = true := by simp; omega
    obtain ⟨u0, hu0⟩ : ∃ u0, u0 = unitAt s 0 := ⟨_, rfl⟩
    have Hu := Lib.hid hu0
    have hne : ((u0 : Int) == 48) = false := by rw [beq_eq_false_iff_ne]; have := hu.resolve_left h1; omega
    clear hu hu0
    go_enter Try.func10, Try.ntmps10
    go_wp2_with (first | (go_at_call 20; refine (len_n _ n _ hs hn).mono ?_; rintro e w' ⟨rfl, rfl⟩) | (go_at_call 27; refine (at_n s 0 u0 _ hs hsz Hu).mono ?_; rintro e w' ⟨rfl, _, rfl⟩))
  all_goals
    go_loopw [4, 25] (fun v i wr => ∃ k x : Nat, k ≤ n ∧ i = .int .i64 k ∧ v = .int .i64 x ∧ idxVal s k = some x ∧ x < 10 ^ k ∧ ∃ m, wr = w.drewN m) (fun _ i _ => n - (intOf i).toNat)
    case atStart => exact ⟨0, 0, by omega, rfl, rfl, rfl, by simp, _, (by first | rfl | exact (World.drewN_zero _).symm)⟩
    case round =>
      obtain ⟨k, x, hk, rfl, rfl, hx, hb10, m, rfl⟩ := hrel
      have hxb : x < 100000 := Nat.lt_of_lt_of_le hb10 (Nat.pow_le_pow_right (n := 10) (by decide) (show k ≤ 5 by omega))
      have Hx := Lib.hid hx
      have Hb := Lib.hid hb10
      clear hx hb10
      by_cases hlt : k < n
      · have hlt' : decide ((k : Int) < (n : Int)) = true := by simp; omega
        have hk2 := hev k hlt
        obtain ⟨u, hu⟩ : ∃ u, u = unitAt s k := ⟨_, rfl⟩
        have hul := unitAt_le s k
        rw [← hu] at hul
        have Hu := Lib.hid hu
        clear hu
        by_cases hdig : 48 ≤ u ∧ u ≤ 57
        · have t1 : decide ((u : Int) < 48) = false := by simp; omega
          have t2 : decide (57 < (u : Int)) = false := by simp; omega
          have hd1 := hdig.1
          have hd2 := hdig.2
          clear hdig
          go_wp2_with (go_at_call 27; refine (at_n s k u _ hs hk2 Hu).mono ?_; rintro e w' ⟨rfl, _, rfl⟩)
          go_roundw
          case rel =>
            refine ⟨k + 1, x * 10 + (u - 48), by omega, by go_num, ?_, ?_, ?_, _, rfl⟩
            · congr 1; omega
            · rw [idxVal, Hx.out]; simp only []; rw [← Hu.out, if_pos ⟨hd1, hd2⟩]
            · have := Hb.out; rw [Nat.pow_succ]; omega
          case measure => simp [intOf]; omega
        · have hnone : idxVal s n = none := idxVal_none s (k + 1) n (by rw [idxVal, Hx.out]; simp only []; rw [← Hu.out, if_neg hdig]) (by omega)
          by_cases hlo : u < 48
          · have t1 : decide ((u : Int) < 48) = true := by simp; omega
            clear hdig
            have Hn := Lib.hid hnone
            clear hnone
            go_wp2_with (go_at_call 27; refine (at_n s k u _ hs hk2 Hu).mono ?_; rintro e w' ⟨rfl, _, rfl⟩)
            go_ret
            exact ⟨by rw [Hn.out]; rfl, _, rfl⟩
          · have t1 : decide ((u : Int) < 48) = false := by simp; omega
            have t2 : decide (57 < (u : Int)) = true := by simp; omega
            clear hdig
            have Hn := Lib.hid hnone
            clear hnone
            go_wp2_with (go_at_call 27; refine (at_n s k u _ hs hk2 Hu).mono ?_; rintro e w' ⟨rfl, _, rfl⟩)
            go_ret
            exact ⟨by rw [Hn.out]; rfl, _, rfl⟩
      · have hlt' : decide ((k : Int) < (n : Int)) = false := by simp; omega
        obtain rfl : k = n := by omega
        by_cases hbig : 1000 ≤ x
        · have t1 : decide (1000 ≤ (x : Int)) = true := by simp; omega
          go_wp2
          go_ret
          exact ⟨by rw [Hx.out]; simp [idxRes, hbig], _, rfl⟩
        · have t1 : decide (1000 ≤ (x : Int)) = false := by simp; omega
          go_wp2
          go_ret
          exact ⟨by rw [Hx.out]; simp [idxRes, hbig], _, rfl⟩

theorem index_any (s : ByteArray) (w : World) (hs : s.size ≤ 9223372036854775807) :
    Calls Try.prog 10 #[.string s] w fun e w' => e = .returned (.int .i64 (indexOf s)) ∧ ∃ n, w' = w.drewN n := by
  by_cases h : s.size / 2 = 0 ∨ 5 < s.size / 2
  · rw [indexOf, if_pos (by rcases h with h | h; exact .inl h; exact .inr (.inl h))]
    exact index_ends s _ w hs rfl h
  · by_cases h1 : 1 < s.size / 2 ∧ unitAt s 0 = 48
    · rw [indexOf, if_pos (.inr (.inr h1))]
      exact index_zero s _ w hs rfl h1.1 (by omega) h1.2
    · rw [indexOf, if_neg (by rintro (h2 | h2 | h2); exact h (.inl h2); exact h (.inr h2); exact h1 h2)]
      refine index_loop s _ w hs rfl (by omega) (by omega) ?_
      by_cases h2 : s.size / 2 ≤ 1
      · exact .inl h2
      · exact .inr fun h3 => h1 ⟨by omega, h3⟩

end Go.Proofs.Ytnkddcebhffidaa
