/- The walk of the statement TextValues. -/
import Derived.Test.YtnkddcebhffidaaTxtV
import Derived.Test.YtnkddcebhffidaaTxtX
import Derived.BigCall
set_option linter.unusedVariables false
namespace Go.Proofs.Ytnkddcebhffidaa
open Go.RowKit

theorem val_uS (s : ByteArray) (w : World) (hs : s.size ≤ 2000) : ∃ U, Fits U ∧ U.length ≤ 4000 ∧ ∀ w, Calls Try.prog 19 #[.string s] w fun e w' => e = .returned (.agg #[.int .i64 7, .int .i64 0, .string (uS U)]) ∧ Below w.heap.size w w' :=
  ⟨unitsOf s, decUnits_fits _ _ _, by have := decUnits_length s s.size 0; unfold unitsOf; omega, fun w => val_any s w (by omega)⟩

theorem len_uS (l : List Nat) (n : Nat) (w : World) (hn : Hid (l.length = n)) (hb : n ≤ 100000) :
    Calls Try.prog 20 #[.string (uS l)] w fun e w' => e = .returned (.int .i64 (n : Int)) ∧ w' = w := by
  refine (len_n (uS l) n w (by rw [uS_size, hn.out]; omega) (by show n = _; rw [uS_size, hn.out]; omega)).mono ?_
  rintro e w' ⟨rfl, rfl⟩
  exact ⟨rfl, rfl⟩

theorem sub_head (U V : List Nat) (n m : Nat) (w : World) (hU : Hid (U.length = n)) (hV : Hid (V.length = m)) (hb : n ≤ 10000) (hb2 : m ≤ 10000) :
    Calls Try.prog 17 #[.string (uS (U ++ V)), .int .i64 0, .int .i64 (n : Int)] w fun e w' => e = .returned (.string (uS U)) ∧ w' = w := by
  have hl : (U ++ V).length = n + m := by rw [List.length_append, hU.out, hV.out]
  have hT : subTo (n + m) (n : Int) = n := by unfold subTo; omega
  have hF : subFrom (n + m) 0 (n : Int) = 0 := by unfold subFrom; rw [hT]; omega
  refine (sub_uS' (U ++ V) (n + m) 0 n n 0 w hl (by omega) hT hF).mono ?_
  rintro e w' ⟨rfl, rfl⟩
  refine ⟨?_, rfl⟩
  rw [List.drop_zero, ← hU.out, List.take_left]

theorem sub_tail (U V : List Nat) (n m : Nat) (w : World) (hU : Hid (U.length = n)) (hV : Hid (V.length = m)) (hb : n ≤ 10000) (hb2 : m ≤ 10000) :
    Calls Try.prog 17 #[.string (uS (U ++ V)), .int .i64 (n : Int), .int .i64 1073741824] w fun e w' => e = .returned (.string (uS V)) ∧ w' = w := by
  have hl : (U ++ V).length = n + m := by rw [List.length_append, hU.out, hV.out]
  have hT : subTo (n + m) 1073741824 = n + m := by unfold subTo; omega
  have hF : subFrom (n + m) n 1073741824 = n := by unfold subFrom; rw [hT]; omega
  refine (sub_uS' (U ++ V) (n + m) n 1073741824 (n + m) n w hl (by omega) hT hF).mono ?_
  rintro e w' ⟨rfl, rfl⟩
  refine ⟨?_, rfl⟩
  rw [← hl, List.take_length, ← hU.out, List.drop_left]

theorem sub_none (U : List Nat) (n : Nat) (w : World) (hU : Hid (U.length = n)) (hb : n ≤ 100000) :
    Calls Try.prog 17 #[.string (uS U), .int .i64 (-5), .int .i64 0] w fun e w' => e = .returned (.string ⟨#[]⟩) ∧ w' = w := by
  have hT : subTo n 0 = 0 := by unfold subTo; omega
  have hF : subFrom n (-5) 0 = 0 := by unfold subFrom; rw [hT]; omega
  refine (sub_uS' U n (-5) 0 0 0 w hU (by omega) hT hF).mono ?_
  rintro e w' ⟨rfl, rfl⟩
  exact ⟨rfl, rfl⟩

theorem join_uS (U V : List Nat) (w : World) (hU : U.length ≤ 4000) (hV : V.length ≤ 4000) :
    Calls Try.prog 12 #[.string (uS U), .string (uS V)] w fun e w' => e = .returned (.tuple #[.string (uS (U ++ V)), .bool true]) ∧ w = w' := by
  have := join_yes (uS U) (uS V) w (show _ ≤ 16384 by rw [uS_size, uS_size]; omega) (by rw [uS_size]; omega) (by rw [uS_size]; omega)
  rw [uS_append] at this
  exact this

theorem cmpL_zero (a b : List Nat) : cmpL a b = 0 ↔ a = b := by
  induction a generalizing b with
  | nil => cases b <;> simp [cmpL]
  | cons x a ih =>
    cases b with
    | nil => simp [cmpL]
    | cons y b =>
      rw [cmpL]
      by_cases h1 : x < y
      · rw [if_pos h1]; simp; omega
      · rw [if_neg h1]
        by_cases h2 : y < x
        · rw [if_pos h2]; simp; omega
        · rw [if_neg h2, ih]; simp; omega

theorem uS_inj (U V : List Nat) (hU : Fits U) (hV : Fits V) (h : uS U = uS V) : U = V := by
  have h2 : unitsB U = unitsB V := by
    have := congrArg (fun s => s.data.toList) h
    exact this
  have := (compareBytes_zero (unitsB U) (unitsB V)).2 h2
  rw [compareBytes_units U V hU hV, cmpL_zero] at this
  exact this

theorem uS_toList (U V : List Nat) (hU : Fits U) (hV : Fits V) : ((uS U).toList == (uS V).toList) = decide (U = V) := by
  by_cases h : U = V
  · subst h; simp
  · have h2 : ¬ (uS U).toList = (uS V).toList := fun e => h (uS_inj U V hU hV (by
      have h3 : (uS U).data.toList = (uS V).data.toList := by rw [← ByteArray.toList_eq, ← ByteArray.toList_eq, e]
      exact ByteArray.ext (Array.toList_inj.1 h3)))
    simp [h, h2]

set_option maxHeartbeats 4000000 in
set_option maxRecDepth 100000 in
theorem values_short (s t : ByteArray) (w : World) (h1 : s.size ≤ 2000) (h2 : t.size ≤ 2000) :
    Calls Try.prog 6 #[.string s, .string t] w fun e w' => e = .returned (.bool true) ∧ Below w.heap.size w w' := by
  obtain ⟨U, hU, hUn, cU⟩ := val_uS s w h1
  obtain ⟨V, hV, hVn, cV⟩ := val_uS t w h2
  have t1 : decide ((2000 : Int) < (s.size : Int)) = false := by simp; omega
  have t2 : decide ((2000 : Int) < (t.size : Int)) = false := by simp; omega
  obtain ⟨n, hn⟩ : ∃ n, U.length = n := ⟨_, rfl⟩
  obtain ⟨m, hm⟩ : ∃ m, V.length = m := ⟨_, rfl⟩
  have n1 : n ≤ 4000 := by omega
  have m1 : m ≤ 4000 := by omega
  have HN := Lib.hid hn
  have HM := Lib.hid hm
  have HJ := Lib.hid (show (U ++ V).length = n + m by rw [List.length_append, hn, hm])
  have CU := Lib.hid cU
  have CV := Lib.hid cV
  have KU := Lib.hid hUn
  have KV := Lib.hid hVn
  clear hn hm cU cV hUn hVn
  obtain ⟨c, hc⟩ : ∃ c, cmpL U V = c := ⟨_, rfl⟩
  have HC := Lib.hid hc
  have q3 : ((uS U).toList == (uS V).toList) = decide (c = 0) := by rw [uS_toList U V hU hV, ← hc]; simp [cmpL_zero]
  have D1 := Lib.hid (fun W => join_uS U V W KU.out KV.out)
  have D2 := Lib.hid (fun W => len_uS U n W HN (by omega))
  have D3 := Lib.hid (fun W => len_uS V m W HM (by omega))
  have D4 := Lib.hid (fun W => len_uS (U ++ V) (n + m) W HJ (by omega))
  have D5 := Lib.hid (fun W => sub_tail U V n m W HN HM (by omega) (by omega))
  have D6 := Lib.hid (fun W => sub_none (U ++ V) (n + m) W HJ (by omega))
  have D7 := Lib.hid (fun W => sub_head U V n m W HN HM (by omega) (by omega))
  have hcc : ∀ W, Calls Try.prog 14 #[.string (uS U), .string (uS V)] W fun e w' => e = .returned (.int .i64 c) ∧ w' = W := fun W => by
    refine (comp_uS U V hU hV W).mono ?_
    rintro e w' ⟨rfl, rfl⟩
    exact ⟨by rw [HC.out], rfl⟩
  have D8 := Lib.hid hcc
  clear hc hcc HC hU hV HN HM HJ KU KV
  generalize uS (U ++ V) = J at *
  generalize uS U = X at *
  generalize uS V = Y at *
  have q1 : (X.toList == X.toList) = true := by simp
  have q2 : (Y.toList == Y.toList) = true := by simp
  go_enter Try.func6, Try.ntmps6
  go_wp2_with fail
  refine (fit_any _).mono ?_
  rintro e w1 ⟨rfl, b1⟩
  go_wp2_with fail
  refine (CU.out _).mono ?_
  rintro e w2 ⟨rfl, b2⟩
  go_wp2_with fail
  refine (CV.out _).mono ?_
  rintro e w3 ⟨rfl, b3⟩
  have bb := b1.trans ((b2.trans (b3.mono b2.size)).mono b1.size)
  clear b1 b2 b3
  have hz := bb.size
  go_wp2_with fail
  refine (D1.out _).mono ?_
  rintro e w4 ⟨rfl, rfl⟩
  go_wp2_with fail
  refine (D2.out _).mono ?_
  rintro e w4 ⟨rfl, rfl⟩
  go_wp2_with fail
  have bf : Below w.heap.size w ((w3.alloc (Obj.cells #[.int .i64 7, .int .i64 0, .string X] 40)).alloc (Obj.cells #[.int .i64 7, .int .i64 0, .string Y] 40)) := (bb.alloc hz _).alloc (by simp; omega) _
  have g0 : (w3.alloc (Obj.cells #[.int .i64 7, .int .i64 0, .string X] 40)).heap[w3.heap.size]? = some (Obj.cells #[.int .i64 7, .int .i64 0, .string X] 40) := heap_alloc_new w3 _
  have g1 := (Lib.alloc_old (w3.alloc (Obj.cells #[.int .i64 7, .int .i64 0, .string X] 40)) (Obj.cells #[.int .i64 7, .int .i64 0, .string Y] 40) w3.heap.size (by simp)).trans g0
  have g2 := heap_alloc_new (w3.alloc (Obj.cells #[.int .i64 7, .int .i64 0, .string X] 40)) (Obj.cells #[.int .i64 7, .int .i64 0, .string Y] 40)
  rw [World.size_alloc] at g2
  generalize (w3.alloc (Obj.cells #[.int .i64 7, .int .i64 0, .string X] 40)).alloc (Obj.cells #[.int .i64 7, .int .i64 0, .string Y] 40) = W at *
  have x0 : W.cell? ⟨w3.heap.size, 0, none⟩ = some (.int .i64 7) := by rw [Lib.cell_of_heap g1]; rfl
  have x1 : W.cell? ⟨w3.heap.size, 1, none⟩ = some (.int .i64 0) := by rw [Lib.cell_of_heap g1]; rfl
  have x2 : W.cell? ⟨w3.heap.size, 2, none⟩ = some (.string X) := by rw [Lib.cell_of_heap g1]; rfl
  have y0 : W.cell? ⟨w3.heap.size + 1, 0, none⟩ = some (.int .i64 7) := by rw [Lib.cell_of_heap g2]; rfl
  have y1 : W.cell? ⟨w3.heap.size + 1, 1, none⟩ = some (.int .i64 0) := by rw [Lib.cell_of_heap g2]; rfl
  have y2 : W.cell? ⟨w3.heap.size + 1, 2, none⟩ = some (.string Y) := by rw [Lib.cell_of_heap g2]; rfl
  clear g0 g1 g2 bb hz
  by_cases hc0 : c = 0
  case' pos =>
    have q5 : (X.toList == Y.toList) = true := by rw [q3]; simp [hc0]
    have q6 : ((c : Int) == 0) = true := by simp [hc0]
  case' neg =>
    have q5 : (X.toList == Y.toList) = false := by rw [q3]; simp [hc0]
    have q6 : ((c : Int) == 0) = false := by simp [hc0]
  all_goals
    clear hc0 q3
    go_quiet (first
      | (go_at_call_of 20 (Value.string Y); exact Calls.quiet_of_same (D3.out _))
      | (go_at_call_of 20 (Value.string J); exact Calls.quiet_of_same (D4.out _))
      | (go_at_call_of 17 (Value.int .i64 1073741824); exact Calls.quiet_of_same (D5.out _))
      | (go_at_call_of 17 (Value.int .i64 (n : Int)); exact Calls.quiet_of_same (D7.out _))
      | (go_at_call 17; exact Calls.quiet_of_same (D6.out _))
      | (go_at_call 14; exact Calls.quiet_of_same (D8.out _)))
    go_wp2
    go_ret
    exact ⟨by simp, below_drewN bf _⟩

set_option maxHeartbeats 1000000 in
theorem values_long (s t : ByteArray) (w : World) (hs : s.size ≤ 9223372036854775807) (ht : t.size ≤ 9223372036854775807) (h : 2000 < s.size ∨ 2000 < t.size) :
    Calls Try.prog 6 #[.string s, .string t] w fun e w' => e = .returned (.bool true) ∧ Below w.heap.size w w' := by
  by_cases h1 : 2000 < s.size
  · have t1 : decide ((2000 : Int) < (s.size : Int)) = true := by simp; omega
    clear h
    go_enter Try.func6, Try.ntmps6
    go_wp2_with fail
    refine (fit_any _).mono ?_
    rintro e w1 ⟨rfl, b1⟩
    go_wp2
    go_ret
    exact ⟨rfl, b1⟩
  · have t1 : decide ((2000 : Int) < (s.size : Int)) = false := by simp; omega
    have t2 : decide ((2000 : Int) < (t.size : Int)) = true := by simp; omega
    clear h
    go_enter Try.func6, Try.ntmps6
    go_wp2_with fail
    refine (fit_any _).mono ?_
    rintro e w1 ⟨rfl, b1⟩
    go_wp2
    go_ret
    exact ⟨rfl, b1⟩

theorem values_walk (s t : ByteArray) (w : World) (hs : s.size ≤ maxLen) (ht : t.size ≤ maxLen) :
    Calls Try.prog 6 #[.string s, .string t] w fun e w' => e = .returned (.bool true) ∧ Below w.heap.size w w' := by
  unfold maxLen at hs ht
  by_cases h : 2000 < s.size ∨ 2000 < t.size
  · exact values_long s t w (by omega) (by omega) h
  · exact values_short s t w (by omega) (by omega)
end Go.Proofs.Ytnkddcebhffidaa
