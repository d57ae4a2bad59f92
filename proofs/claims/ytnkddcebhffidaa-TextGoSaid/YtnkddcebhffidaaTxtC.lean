/- Contracts of the reference's Compare and Index, and of text.Compare and text.Sub. -/
import Derived.Test.YtnkddcebhffidaaTxtR
import Derived.Test.YtnkddcebhffidaaTxtJ
import Derived.Lib.MinMax
import Derived.Lib.Bytealg
set_option linter.unusedVariables false
namespace Go.Proofs.Ytnkddcebhffidaa
open Go.RowKit

def cmpL : List Nat → List Nat → Int
  | [], [] => 0
  | [], _ :: _ => -1
  | _ :: _, [] => 1
  | x :: a, y :: b => if x < y then -1 else if y < x then 1 else cmpL a b

theorem cmpL_nil_left (b : List Nat) : cmpL [] b = if 0 < b.length then -1 else 0 := by cases b <;> simp [cmpL]
theorem cmpL_nil_right (a : List Nat) : cmpL a [] = if 0 < a.length then 1 else 0 := by cases a <;> simp [cmpL]
theorem cmpL_drop (a b : List Nat) (k : Nat) (ha : k < a.length) (hb : k < b.length) :
    cmpL (a.drop k) (b.drop k) = if a.getD k 0 < b.getD k 0 then -1 else if b.getD k 0 < a.getD k 0 then 1 else cmpL (a.drop (k + 1)) (b.drop (k + 1)) := by
  rw [List.drop_eq_getElem_cons ha, List.drop_eq_getElem_cons hb, cmpL]
  simp [List.getD_eq_getElem?_getD, List.getElem?_eq_getElem ha, List.getElem?_eq_getElem hb]

/-- A cell of a slice of numbers. -/
theorem SliceR.at {k : IntKind} {w : World} {a : Option Addr} {n cap : Nat} {l : List Nat} (h : SliceR k w a n cap (ints l)) (hn : 0 < n) :
    ∃ b off, a = some ⟨b, off, none⟩ ∧ ∀ i, i < n → w.cell? ⟨b, off + i, none⟩ = some (.int k ((l.getD i 0 : Nat) : Int)) := by
  obtain ⟨_, _, _, _, h4⟩ := h
  obtain ⟨b, off, e, _, hc⟩ := h4 hn
  exact ⟨b, off, e, fun i hi => by rw [hc i hi, ints_getD]⟩

set_option maxHeartbeats 4000000 in
set_option maxRecDepth 100000 in
theorem refCompare_any (a : Option Addr) (n cap : Nat) (l : List Nat) (a' : Option Addr) (n' cap' : Nat) (l' : List Nat) (w : World) (h : SliceR .i64 w a n cap (ints l)) (h' : SliceR .i64 w a' n' cap' (ints l')) :
    Calls Try.prog 15 #[.slice a n cap, .slice a' n' cap'] w fun e w' => e = .returned (.int .i64 (cmpL l l')) ∧ ∃ m, w' = w.drewN m := by
  have hl : l.length = n := by have := h.1; rwa [ints_length] at this
  have hl' : l'.length = n' := by have := h'.1; rwa [ints_length] at this
  have hm : n ≤ 9223372036854775807 := by have := h.2.1; have := h.2.2.1; unfold maxLen at this; omega
  have hm' : n' ≤ 9223372036854775807 := by have := h'.2.1; have := h'.2.2.1; unfold maxLen at this; omega
  have Hl := Lib.hid hl
  have Hl' := Lib.hid hl'
  clear hl hl'
  go_enter Try.func15, Try.ntmps15
  go_wp2
  go_loopw [5] (fun i wr => ∃ k : Nat, k ≤ n ∧ k ≤ n' ∧ i = .int .i64 k ∧ cmpL (l.drop k) (l'.drop k) = cmpL l l' ∧ ∃ m, wr = w.drewN m) (fun i _ => n - (intOf i).toNat)
  case atStart => exact ⟨0, Nat.zero_le _, Nat.zero_le _, rfl, rfl, 0, rfl⟩
  case round =>
    obtain ⟨k, hk, hk', rfl, hc, m, rfl⟩ := hrel
    have Hc := Lib.hid hc
    clear hc
    by_cases hlt : k < n ∧ k < n'
    · obtain ⟨h1, h2⟩ := hlt
      obtain ⟨b, off, rfl, hcell⟩ := h.at (by omega)
      obtain ⟨b', off', rfl, hcell'⟩ := h'.at (by omega)
      have c1 := hcell k h1
      have c2 := hcell' k h2
      have hd := cmpL_drop l l' k (by rw [Hl.out]; exact h1) (by rw [Hl'.out]; exact h2)
      generalize l.getD k 0 = x at *
      generalize l'.getD k 0 = y at *
      have Hd := Lib.hid hd
      have t0 : decide ((k : Int) < (n : Int)) = true := by simp; omega
      have t0' : decide ((k : Int) < (n' : Int)) = true := by simp; omega
      have z1 : (0 : Int) ≤ (k : Int) := by omega
      have z2 : (k : Int) < (n : Int) := by omega
      have z3 : (k : Int) < (n' : Int) := by omega
      clear hd hcell hcell' h h'
      by_cases hxy : x < y
      · have t1 : decide ((x : Int) < (y : Int)) = true := by simp; omega
        go_wp2_with fail
        go_quiet (fail)
        go_wp2
        go_ret
        exact ⟨by rw [← Hc.out, Hd.out, if_pos hxy]; rfl, dr2 _ _ _⟩
      · have t1 : decide ((x : Int) < (y : Int)) = false := by simp; omega
        by_cases hyx : y < x
        · have t2 : decide ((y : Int) < (x : Int)) = true := by simp; omega
          go_wp2_with fail
          go_quiet (fail)
          go_wp2_with fail
          go_quiet (fail)
          go_wp2
          go_ret
          exact ⟨by rw [← Hc.out, Hd.out, if_neg hxy, if_pos hyx]; rfl, dr3 _ _ _ _⟩
        · have t2 : decide ((y : Int) < (x : Int)) = false := by simp; omega
          go_wp2_with fail
          go_quiet (fail)
          go_wp2_with fail
          go_quiet (fail)
          go_wp2
          go_roundw
          case rel => exact ⟨k + 1, by omega, by omega, by go_num, by rw [← Hc.out, Hd.out, if_neg hxy, if_neg hyx], _, rfl⟩
          case measure => simp [intOf]; omega
    · have hres : cmpL l l' = if n < n' then -1 else if n' < n then 1 else 0 := by
        rw [← Hc.out]
        by_cases e1 : k = n
        · rw [List.drop_of_length_le (by rw [Hl.out]; omega), cmpL_nil_left, List.length_drop, Hl'.out]
          by_cases e2 : n < n'
          · rw [if_pos (by omega), if_pos e2]
          · rw [if_neg (by omega), if_neg e2, if_neg (by omega)]
        · rw [List.drop_of_length_le (l := l') (by rw [Hl'.out]; omega), cmpL_nil_right, List.length_drop, Hl.out, if_pos (by omega), if_neg (by omega), if_pos (by omega)]
      have HR := Lib.hid hres
      clear hres
      by_cases e1 : k < n
      · have t0 : decide ((k : Int) < (n : Int)) = true := by simp; omega
        have t0' : decide (k < n') = false := by simp; omega
        have t1 : decide ((n : Int) < (n' : Int)) = false := by simp; omega
        have t2 : decide ((n' : Int) < (n : Int)) = true := by simp; omega
        have p1 : ¬ n < n' := by omega
        have p2 : n' < n := by omega
        have P1 := Lib.hid p1
        have P2 := Lib.hid p2
        clear hlt p1 p2
        go_wp2
        go_ret
        exact ⟨by rw [HR.out, if_neg P1.out, if_pos P2.out]; rfl, _, rfl⟩
      · have t0 : decide ((k : Int) < (n : Int)) = false := by simp; omega
        have p2 : ¬ n' < n := by omega
        have t2 : decide ((n' : Int) < (n : Int)) = false := by simp; omega
        clear hlt
        by_cases e2 : n < n'
        · have t1 : decide ((n : Int) < (n' : Int)) = true := by simp; omega
          go_wp2
          go_ret
          exact ⟨by rw [HR.out, if_pos e2]; rfl, _, rfl⟩
        · have t1 : decide ((n : Int) < (n' : Int)) = false := by simp; omega
          go_wp2
          go_ret
          exact ⟨by rw [HR.out, if_neg e2, if_neg p2]; rfl, _, rfl⟩

theorem compareBytes_units (a b : List Nat) (ha : Fits a) (hb : Fits b) : Lib.compareBytes (unitsB a) (unitsB b) = cmpL a b := by
  induction a generalizing b with
  | nil =>
    cases b with
    | nil => rfl
    | cons y b => rfl
  | cons x a ih =>
    cases b with
    | nil => rfl
    | cons y b =>
      have hx := ha x (List.mem_cons_self ..)
      have hy := hb y (List.mem_cons_self ..)
      have ih' := ih b (fun u hu => ha u (List.mem_cons_of_mem _ hu)) (fun u hu => hb u (List.mem_cons_of_mem _ hu))
      have n1 : (UInt8.ofNat (x / 256)).toNat = x / 256 := by rw [UInt8.toNat_ofNat']; omega
      have n2 : (UInt8.ofNat (x % 256)).toNat = x % 256 := by rw [UInt8.toNat_ofNat']; omega
      have n3 : (UInt8.ofNat (y / 256)).toNat = y / 256 := by rw [UInt8.toNat_ofNat']; omega
      have n4 : (UInt8.ofNat (y % 256)).toNat = y % 256 := by rw [UInt8.toNat_ofNat']; omega
      rw [unitsB_cons, unitsB_cons, cmpL]
      show Lib.compareBytes (UInt8.ofNat (x / 256) :: UInt8.ofNat (x % 256) :: unitsB a) (UInt8.ofNat (y / 256) :: UInt8.ofNat (y % 256) :: unitsB b) = _
      rw [Lib.compareBytes, Lib.compareBytes, ih']
      simp only [UInt8.lt_iff_toNat_lt, n1, n2, n3, n4]
      by_cases h1 : x / 256 < y / 256
      · rw [if_pos h1, if_pos (by omega)]
      · rw [if_neg h1]
        by_cases h2 : y / 256 < x / 256
        · rw [if_pos h2, if_neg (by omega), if_pos (by omega)]
        · rw [if_neg h2]
          by_cases h3 : x % 256 < y % 256
          · rw [if_pos h3, if_pos (by omega)]
          · rw [if_neg h3]
            by_cases h4 : y % 256 < x % 256
            · rw [if_pos h4, if_neg (by omega), if_pos (by omega)]
            · rw [if_neg h4, if_neg (by omega), if_neg (by omega)]

theorem compare_any (s t : ByteArray) (w : World) :
    Calls Try.prog 14 #[.string s, .string t] w fun e w' => e = .returned (.int .i64 (Lib.compareBytes s.data.toList t.data.toList)) ∧ w = w' := by
  go_enter Try.func14, Try.ntmps14
  go_wp2_with fail
  refine (Try.strings_Compare _ _ _).mono ?_
  rintro e w' ⟨rfl, rfl⟩
  go_wp2
  go_ret
  exact ⟨rfl, rfl⟩

/-- The bounds of Sub. -/
def subTo (n : Nat) (to : Int) : Nat := (min (max to 0) (n : Int)).toNat
def subFrom (n : Nat) (fr to : Int) : Nat := (min (max fr 0) ((subTo n to : Nat) : Int)).toNat
theorem subTo_le (n : Nat) (to : Int) : subTo n to ≤ n := by unfold subTo; omega
theorem subFrom_le (n : Nat) (fr to : Int) : subFrom n fr to ≤ subTo n to := by unfold subFrom; omega
theorem subTo_eq (n : Nat) (to : Int) : min (max to 0) (n : Int) = (subTo n to : Int) := by unfold subTo; omega
theorem subFrom_eq (n : Nat) (fr to : Int) : min (max fr 0) (subTo n to : Int) = (subFrom n fr to : Int) := by unfold subFrom; omega

set_option maxHeartbeats 1000000 in
theorem sub_any (s : ByteArray) (fr to : Int) (w : World) (hs : s.size ≤ 9223372036854775807) :
    Calls Try.prog 17 #[.string s, .int .i64 fr, .int .i64 to] w fun e w' =>
      e = .returned (.string (s.extract (2 * subFrom (s.size / 2) fr to) (2 * subTo (s.size / 2) to))) ∧ w = w' := by
  obtain ⟨n, hn⟩ : ∃ n, n = s.size / 2 := ⟨_, rfl⟩
  have Hn := Lib.hid hn
  have q1 := subTo_le n to
  have q2 := subFrom_le n fr to
  have q3 : 2 * n ≤ s.size := by omega
  have e1 := subTo_eq n to
  have e2 := subFrom_eq n fr to
  rw [← hn]
  generalize subTo n to = T at *
  generalize subFrom n fr to = F at *
  have m1 : IntKind.i64.wrap (2 * (F : Int)) = 2 * (F : Int) := IntWalk.i64_in _ (by omega)
  have m2 : IntKind.i64.wrap (2 * (T : Int)) = 2 * (T : Int) := IntWalk.i64_in _ (by omega)
  have r1 : 0 ≤ 2 * (F : Int) := by omega
  have r2 : 2 * (F : Int) ≤ 2 * (T : Int) := by omega
  have r3 : 2 * (T : Int) ≤ (s.size : Int) := by omega
  have r4 : (2 * (F : Int)).toNat = 2 * F := by omega
  have r5 : (2 * (T : Int)).toNat = 2 * T := by omega
  clear hn
  go_enter Try.func17, Try.ntmps17
  go_wp2_with (go_at_call 20; refine (len_n _ n _ hs Hn).mono ?_; rintro e w' ⟨rfl, rfl⟩)
  go_ret
  exact ⟨rfl, rfl⟩

end Go.Proofs.Ytnkddcebhffidaa
