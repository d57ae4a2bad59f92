/- Contract of the reference's Units: the units of any string's UTF-8, as a new row. -/
import Derived.Test.YtnkddcebhffidaaDoorTxtN
import Derived.Test.YtnkddcebhffidaaDoorShelf
import Derived.Lib.RuneCountTail
import Derived.Lib.IndexBytes
import Derived.Lib.QuoteLoop
set_option linter.unusedVariables false
namespace Go.Proofs.YtnkddcebhffidaaDoor
open Go.RowKit

theorem tabs_below {B g3 g4 : Nat} {w w' : World} (h : Lib.Utf8Tabs g3 g4 w) (b : Below B w w') (h3 : g3 < B) (h4 : g4 < B) : Lib.Utf8Tabs g3 g4 w' :=
  ⟨fun c hc => (b.cell (p := ⟨g3, c, none⟩) h3).trans (h.1 c hc), fun i hi => ⟨(b.cell (p := ⟨g4, 2 * i, none⟩) h4).trans (h.2 i hi).1, (b.cell (p := ⟨g4, 2 * i + 1, none⟩) h4).trans (h.2 i hi).2⟩⟩

theorem tail_extract (s : ByteArray) (pos k : Nat) : ((s.extract pos s.size).extract k (s.extract pos s.size).size) = s.extract (pos + k) s.size := by
  apply ByteArray.ext
  apply Array.toList_inj.1
  rw [Lib.extract_to_end, Lib.extract_to_end, Lib.extract_to_end, List.drop_drop]

theorem decode_fit (s : ByteArray) (pos : Nat) (h : pos < s.size) : pos + (Utf8.decode s pos).2 ≤ s.size := by
  rw [Lib.decode_at]
  have := Lib.decodeN_width_le (s.size - pos) (s.get! pos).toNat (s.get! (pos + 1)).toNat (s.get! (pos + 2)).toNat (s.get! (pos + 3)).toNat (by omega)
  omega

theorem tail_facts (s : ByteArray) (pos : Nat) (h : pos < s.size) (T : ByteArray) (hT : s.extract pos s.size = T) :
    Lib.decodeGo T = Utf8.decode s pos ∧ T.extract (Utf8.decode s pos).2 T.size = s.extract (pos + (Utf8.decode s pos).2) s.size := by
  subst hT
  refine ⟨?_, tail_extract s pos _⟩
  have hs : (s.extract pos s.size).size ≠ 0 := by rw [ByteArray.size_extract]; omega
  rw [Lib.decodeGo, if_neg hs, Lib.tail_decode, Nat.add_zero]

def strSize : Value → Nat
  | .string t => t.size
  | _ => 0

/-- A new row of the call's own that holds these numbers. -/
def NewRow (B : Nat) (w : World) (l : List Nat) (e : Ending) (w' : World) : Prop :=
  ∃ v, e = .returned v ∧ w'.ownsRow B 3 1 v l.length (numCells .i64 (ints l)) ∧ Below B w w'

theorem append_one (B : Nat) (w wr w1 : World) (u : Nat) (hb : Below B w wr) (hz : B ≤ wr.heap.size) (v : Value) (n : Nat) (xs : List Value) (hown : wr.ownsRow B 3 1 v n xs) (o : Obj) (hg : (wr.alloc o).grownBy w1 v.ownBlock) : Below B w w1 :=
  (hb.alloc hz o).grown hg (by simp; omega) (fun k' hk' => ((hown.alloc o).lt k' hk').1)

set_option maxHeartbeats 4000000 in
set_option maxRecDepth 1000000 in
theorem units_any (s : ByteArray) (w : World) (hs : s.size ≤ 1000000) (hT : Lib.Utf8Tabs 0 1 w) (hw : 2 ≤ w.heap.size) :
    Calls Tryd.prog 6 #[.string s] w (NewRow w.heap.size w (unitsOf s)) := by
  obtain ⟨i0, hi, hz0, hz1, hz2⟩ := info_parts infoInt
  have HT := Lib.hid hT
  clear hT
  go_enter Tryd.func6, Tryd.ntmps6
  go_wp2
  go_loopw [0, 3] (fun sv v wr => ∃ (pos fuel : Nat) (acc : List Nat), pos ≤ s.size ∧ sv = .string (s.extract pos s.size) ∧ wr.ownsRow w.heap.size 3 1 v acc.length (numCells .i64 (ints acc)) ∧ Below w.heap.size w wr ∧ acc ++ decUnits s fuel pos = unitsOf s ∧ s.size ≤ pos + fuel ∧ acc.length ≤ 2 * pos) (fun sv _ _ => strSize sv)
  case atStart => exact ⟨0, s.size, [], by omega, by congr 1; exact (ByteArray.ext (Array.toList_inj.1 (by rw [Lib.extract_to_end]; rfl))).symm, World.ownsRow_nil _ _ _ _, Below.refl _ _, rfl, by omega, by simp⟩
  case round =>
    obtain ⟨pos, fuel, acc, hpos, rfl, hown, hb, hacc, hfu, hal⟩ := hrel
    have hz := hb.size
    obtain ⟨T, hTe⟩ : ∃ T, s.extract pos s.size = T := ⟨_, rfl⟩
    have hTs : T.size = s.size - pos := by rw [← hTe, ByteArray.size_extract]; omega
    have HTe := Lib.hid hTe
    have HA := Lib.hid hacc
    rw [hTe]
    clear hTe hacc
    by_cases hp : pos < s.size
    · have t0 : decide (0 < T.size) = true := decide_eq_true (by omega)
      have h1 := decode_max s pos
      have h2 := width_pos s pos hp
      have h3 := decode_fit s pos hp
      obtain ⟨f, rfl⟩ : ∃ f, fuel = f + 1 := ⟨fuel - 1, by omega⟩
      have hstep : decUnits s (f + 1) pos = runeUnits (Utf8.decode s pos).1 ++ decUnits s f (pos + (Utf8.decode s pos).2) := by rw [decUnits, if_pos hp]
      obtain ⟨hdc, hsl⟩ := tail_facts s pos hp T HTe.out
      obtain ⟨r, wd, hrw⟩ : ∃ r wd, Utf8.decode s pos = (r, wd) := ⟨_, _, rfl⟩
      rw [hrw] at h1 h2 h3 hstep hdc hsl
      simp only at h1 h2 h3 hstep hsl
      have HS := Lib.hid hstep
      have HD := Lib.hid hdc
      have HX := Lib.hid hsl
      clear hrw hstep hdc hsl
      have y1 : (wd : Int) ≤ (T.size : Int) := by omega
      obtain ⟨R, hRr⟩ : ∃ R : Int, (r : Int) = R := ⟨_, rfl⟩
      have R0 : 0 ≤ R := by omega
      have R1 : R ≤ 1114111 := by omega
      clear h1
      have HTs := Lib.hid hTs
      clear hTs
      have y0 : (0 : Int) ≤ (wd : Int) := by omega
      have hcd : ∀ W, Below w.heap.size w W → Calls Tryd.prog 14 #[.string T] W fun e w' => e = .returned (.tuple #[.int .i32 R, .int .i64 wd]) ∧ Below W.heap.size W w' := fun W hW => by
        have := Tryd.utf8_DecodeRuneInString T W (tabs_below HT.out hW (by omega) (by omega))
        rw [HD.out] at this
        rw [← hRr]
        exact this
      have HC := Lib.hid hcd
      have HRR := Lib.hid hRr
      clear hcd hRr
      by_cases h32 : r < 65536
      · have t2 : R < 65536 := by have := HRR.out; omega
        have t1 : decide (R < 65536) = true := decide_eq_true t2
        have HR := Lib.hid (show runeUnits r = [r] by rw [runeUnits, if_pos h32])
        clear h32
        go_wp2_with fail
        refine (HC.out _ hb).mono ?_
        rintro e w1 ⟨rfl, b1⟩
        have hb1 := hb.trans (b1.mono hz)
        have hz1' := hb1.size
        have hown1 : w1.ownsRow w.heap.size 3 1 u3 acc.length (numCells .i64 (ints acc)) := hown.kept (row := none) ⟨b1.os, b1.tape, b1.output, b1.size, fun k hk _ => b1.block k hk⟩ (by cases hv : u3.ownBlock <;> simp)
        go_wp2_with (at_builtin; refine wpList_append_own _ rfl _ _ 24 rfl w.heap.size 3 i0 (.int .i64 0) 1 8 Tryd.underlying24 hi hz0 hz1 hz2 rfl (by decide) _ _ _ rfl (hown1.alloc _) ⟨w1.heap.size, 0, none⟩ 1 1 [.int .i64 R] rfl rfl (by intro j v hj; match j, hj with | 0, hj => simp at hj; subst hj; simp [Addr.add]) (by simp [Value.oneCell']) (by unfold maxLen; omega) (by omega) (by simp; omega) ?_)
        intro v' w2 hown2 hg2 _
        have hb2 := append_one w.heap.size w w1 w2 r hb1 hz1' _ _ _ hown1 _ hg2
        clear hown hown1 hg2
        go_wp2
        go_roundw
        case rel =>
          refine ⟨pos + wd, f, acc ++ [r], by omega, by rw [← HX.out], ?_, hb2, ?_, by omega, by simp; omega⟩
          · rw [List.length_append, ints_append, numCells_append]
            rw [← HRR.out] at hown2
            exact hown2
          · rw [← HA.out, HS.out, HR.out]; simp
        case measure => have := HTs.out; simp [strSize, ByteArray.size_extract]; omega
      · have t2 : 65536 ≤ R := by have := HRR.out; omega
        have t1 : decide (R < 65536) = false := decide_eq_false (by omega)
        have HR := Lib.hid (show runeUnits r = [55296 + (r - 65536) / 1024, 56320 + (r - 65536) % 1024] by rw [runeUnits, if_neg h32])
        clear h32
        go_wp2_with fail
        refine (HC.out _ hb).mono ?_
        rintro e w1 ⟨rfl, b1⟩
        have hb1 := hb.trans (b1.mono hz)
        have hz1' := hb1.size
        have hown1 : w1.ownsRow w.heap.size 3 1 u3 acc.length (numCells .i64 (ints acc)) := hown.kept (row := none) ⟨b1.os, b1.tape, b1.output, b1.size, fun k hk _ => b1.block k hk⟩ (by cases hv : u3.ownBlock <;> simp)
        go_wp2_with (at_builtin; refine wpList_append_own _ rfl _ _ 24 rfl w.heap.size 3 i0 (.int .i64 0) 1 8 Tryd.underlying24 hi hz0 hz1 hz2 rfl (by decide) _ _ _ rfl (hown1.alloc _) ⟨w1.heap.size, 0, none⟩ 2 2 [.int .i64 (55296 + (R - 65536) / 1024), .int .i64 (56320 + (R - 65536) % 1024)] rfl rfl (cell_two_new _ _ _ _) (by simp [Value.oneCell']) (by unfold maxLen; omega) (by omega) (by simp; omega) ?_)
        intro v' w2 hown2 hg2 _
        have hb2 := append_one w.heap.size w w1 w2 r hb1 hz1' _ _ _ hown1 _ hg2
        clear hown hown1 hg2
        go_wp2
        go_roundw
        case rel =>
          refine ⟨pos + wd, f, acc ++ [55296 + (r - 65536) / 1024, 56320 + (r - 65536) % 1024], by omega, by rw [← HX.out], ?_, hb2, ?_, by omega, by simp; omega⟩
          · rw [List.length_append, ints_append, numCells_append]
            have hcr := HRR.out
            have e1 : (55296 + (R - 65536) / 1024) = ((55296 + (r - 65536) / 1024 : Nat) : Int) := by omega
            have e2 : (56320 + (R - 65536) % 1024) = ((56320 + (r - 65536) % 1024 : Nat) : Int) := by omega
            rw [e1, e2] at hown2
            exact hown2
          · rw [← HA.out, HS.out, HR.out]; simp
        case measure => have := HTs.out; simp [strSize, ByteArray.size_extract]; omega
    · have t0 : decide (0 < T.size) = false := decide_eq_false (by omega)
      have hend := decUnits_end s fuel pos hp
      have HE := Lib.hid hend
      clear hend hTs
      go_wp2
      go_ret
      refine ⟨_, rfl, ?_, hb⟩
      have h := HA.out
      rw [HE.out, List.append_nil] at h
      rw [← h]
      exact hown

end Go.Proofs.YtnkddcebhffidaaDoor
