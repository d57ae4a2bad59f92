/- The walk of the statement TextGo. -/
import Derived.Test.YtnkddcebhffidaaTxtGoW
import Derived.Test.YtnkddcebhffidaaOpen
import Derived.BigCall
set_option linter.unusedVariables false
set_option linter.unusedSimpArgs false
namespace Go.Proofs.Ytnkddcebhffidaa
open Go.RowKit

set_option maxHeartbeats 2000000 in
set_option maxRecDepth 100000 in
theorem golaw_long (a : Option Addr) (n cap : Nat) (s : ByteArray) (w : World) (hm : n ≤ 9223372036854775807) (hs : s.size ≤ 9223372036854775807) (h : 3000 < n ∨ 3000 < s.size) :
    Calls Try.prog 8 #[.slice a n cap, .string s] w fun e w' => e = .returned (.bool true) ∧ Below w.heap.size w w' := by
  by_cases h1 : 3000 < n
  case' pos =>
    have t1 : decide ((3000 : Int) < (n : Int)) = true := by simp; omega
  case' neg =>
    have t1 : decide ((3000 : Int) < (n : Int)) = false := by simp; omega
    have t2 : decide ((3000 : Int) < (s.size : Int)) = true := by simp; omega
  all_goals
    clear h
    go_enter Try.func8, Try.ntmps8
    go_wp2_with fail
    refine (fit_any _).mono ?_
    rintro e w1 ⟨rfl, b1⟩
    go_wp2
    go_ret
    exact ⟨rfl, b1⟩

set_option maxHeartbeats 8000000 in
set_option maxRecDepth 100000 in
theorem golaw_short (a : Option Addr) (n cap : Nat) (s : ByteArray) (w : World) (l : List Nat) (hR : SliceR .u16 w a n cap (ints l)) (hl : l.length = n) (hf : Fits l) (h1 : n ≤ 3000) (h2 : s.size ≤ 3000) :
    Calls Try.prog 8 #[.slice a n cap, .string s] w fun e w' => e = .returned (.bool true) ∧ Below w.heap.size w w' := by
  have t1 : decide ((3000 : Int) < (n : Int)) = false := by simp; omega
  have t2 : decide ((3000 : Int) < (s.size : Int)) = false := by simp; omega
  have HL := Lib.hid hl
  clear hl
  go_enter Try.func8, Try.ntmps8
  go_wp2_with fail
  refine (fit_any _).mono ?_
  rintro e w1 ⟨rfl, b1⟩
  go_wp2_with fail
  refine (lawStr_any a n cap l _ (hR.below b1) hf (by omega)).mono ?_
  rintro e w2 ⟨rfl, b2⟩
  have bb2 := b1.trans (b2.mono b1.size)
  clear b1 b2
  go_wp2_with fail
  refine (go_uS l hf _ (by rw [HL.out]; omega)).mono ?_
  rintro e w3 ⟨rfl, b3⟩
  have bb3 := bb2.trans (b3.mono bb2.size)
  clear bb2 b3
  go_wp2_with fail
  refine (list_uS l hf _ (by rw [HL.out]; omega)).mono ?_
  rintro e w4 ⟨a4, cap4, rfl, hR4, hB4, b4⟩
  go_wp2_with fail
  refine (refGo_any a4 _ cap4 l _ hR4 hf (by rw [HL.out]; omega)).mono ?_
  rintro e w5 ⟨rfl, b5⟩
  have bb5 := bb3.trans ((b4.trans (b5.mono b4.size)).mono bb3.size)
  obtain ⟨G, hG⟩ : ∃ G : ByteArray, (⟨(goB (signs l)).toArray⟩ : ByteArray) = G := ⟨_, rfl⟩
  rw [hG]
  have q1 : (G.toList == G.toList) = true := by simp
  have q2 : (G.toList != G.toList) = false := by simp
  clear hG bb3 b4 b5 hR4 hB4 hR HL
  go_wp2
  have s5 := bb5.size
  go_loopw [] (fun wr => ∃ pos fuel : Nat, wr.heap[w5.heap.size]? = some (.stringIter s pos) ∧ Below w.heap.size w wr ∧ (PlainF s fuel pos → PlainF s s.size 0) ∧ s.size ≤ pos + fuel) (fun wr => s.size - wr.iterPos w5.heap.size)
  case atStart =>
    refine ⟨0, s.size, ?_, bb5.alloc s5 _, id, by omega⟩
    have := World.iter_heap w5 s 0
    simpa using this
  case round =>
    obtain ⟨pos, fuel, hit, hbw, hpl, hfu⟩ := hrel
    have hsz : w5.heap.size < wr.heap.size := (Array.getElem?_eq_some_iff.1 hit).1
    by_cases hp : pos < s.size
    · have hnx : ∀ ty, (Instr.next (.pointer (some ⟨w5.heap.size, 0, none⟩)) true ty).run Try.prog wr = _ := fun ty => Lib.run_next_any_at wr w5.heap.size s pos ty hit hp
      have hwd := width_pos s pos hp
      have hd1 := decode_max s pos
      have hit2 := Lib.iterAt_heap wr w5.heap.size s pos (pos + (Utf8.decode s pos).2) hit
      have hbw2 := Lib.below_iterAt hbw (k := w5.heap.size) s5 s (pos + (Utf8.decode s pos).2)
      obtain ⟨f, rfl⟩ : ∃ f, fuel = f + 1 := ⟨fuel - 1, by omega⟩
      have hpl2 : plainR (Utf8.decode s pos).1 → PlainF s f (pos + (Utf8.decode s pos).2) → PlainF s s.size 0 := fun h3 h4 => hpl fun _ => ⟨h3, h4⟩
      have HP := Lib.hid hpl2
      clear hpl hpl2
      generalize hd : Utf8.decode s pos = d at *
      obtain ⟨r, wd⟩ := d
      simp only at *
      clear hd
      obtain ⟨C, hC⟩ : ∃ C : Int, (r : Int) = C := ⟨_, rfl⟩
      rw [hC] at hnx
      by_cases c1 : C < 32
      case' pos =>
        have u1 : decide (C < 32) = true := by simp; omega
        clear hC HP
      case' neg =>
        have u1 : decide (C < 32) = false := by simp; omega
        by_cases c2 : C = 127
        case' pos =>
          have u2 : (C == 127) = true := by rw [beq_iff_eq]; exact c2
          have C2 := Lib.hid c2
          clear c2 hC HP
        case' neg =>
          have u2 : (C == 127) = false := by rw [beq_eq_false_iff_ne]; exact c2
          by_cases c3 : C = 92
          case' pos =>
            have u3 : (C == 92) = true := by rw [beq_iff_eq]; exact c3
            have C3 := Lib.hid c3
            clear c3 hC HP
          case' neg =>
            have u3 : (C == 92) = false := by rw [beq_eq_false_iff_ne]; exact c3
            by_cases c4 : C = 65533
            case' pos =>
              have u4 : (C == 65533) = true := by rw [beq_iff_eq]; exact c4
              have C4 := Lib.hid c4
              clear c4 hC HP
            case' neg =>
              have u4 : (C == 65533) = false := by rw [beq_eq_false_iff_ne]; exact c4
              have hpr : plainR r := by unfold plainR; omega
              have HP2 := HP.out hpr
              clear hC HP hpr
      case neg =>
        go_wp2
        go_roundw
        case rel => exact ⟨pos + wd, f, by simpa using hit2, hbw2, HP2, by omega⟩
        case measure =>
          simp only [World.iterPos, hit2, hit]
          omega
      all_goals
        go_wp2
        go_ret
        exact ⟨rfl, hbw2⟩
    · have hnx : ∀ ty, (Instr.next (.pointer (some ⟨w5.heap.size, 0, none⟩)) true ty).run Try.prog wr = _ := fun ty => Lib.run_next_end_at wr w5.heap.size s pos ty hit hp
      have hplain := hpl (plainF_end s fuel pos hp)
      have hback := go_back s s.size 0 (by omega) hplain
      have hfu2 : Fits (unitsOf s) := decUnits_fits s _ _
      have hlu : (unitsOf s).length ≤ 2 * s.size := decUnits_length s _ _
      have hS : (⟨(goB (signs (unitsOf s))).toArray⟩ : ByteArray) = s := by
        rw [show unitsOf s = decUnits s s.size 0 from rfl, hback, List.drop_zero]
      have HS := Lib.hid hS
      have q3 : (s.toList == s.toList) = true := by simp
      clear hS hback hplain hpl
      go_wp2_with fail
      refine (of_any s _ (by omega)).mono ?_
      rintro e w6 ⟨rfl, b6⟩
      have hb6 := hbw.trans (b6.mono hbw.size)
      go_wp2_with fail
      refine (go_uS (unitsOf s) hfu2 _ (by omega)).mono ?_
      rintro e w7 ⟨rfl, b7⟩
      rw [HS.out]
      go_wp2
      go_ret
      exact ⟨rfl, hb6.trans (b7.mono hb6.size)⟩

theorem golaw_walk (a : Option Addr) (n cap : Nat) (z : List Int) (s : ByteArray) (w : World) (h : IsRow .u16 w a n cap z) (hs : s.size ≤ maxLen) :
    Calls Try.prog 8 #[.slice a n cap, .string s] w fun e w' => e = .returned (.bool true) ∧ Below w.heap.size w w' := by
  obtain ⟨l, hR, hf, hl⟩ := units_in h
  by_cases hlong : 3000 < n ∨ 3000 < s.size
  · exact golaw_long a n cap s w (by have := hR.2.1; have := hR.2.2.1; unfold maxLen at this; omega) (by unfold maxLen at hs; omega) hlong
  · exact golaw_short a n cap s w l hR hl hf (by omega) (by omega)
end Go.Proofs.Ytnkddcebhffidaa
