/- Contracts of text.put and text.Of: the units of any string's UTF-8. -/
import Derived.Test.YtolfcmfilfjgfaaDoorTxtP
import Derived.Test.YtolfcmfilfjgfaaDoorBldB
import Derived.Test.YtolfcmfilfjgfaaDoorShelf
import Derived.Lib.Hide
set_option linter.unusedVariables false
namespace Go.Proofs.YtolfcmfilfjgfaaDoor
open Go.RowKit

theorem unit_hi (u : Int) (h0 : 0 ≤ u) (h1 : u < 65536) : u / 256 = ((UInt8.ofNat (u.toNat / 256)).toNat : Int) := by
  simp [UInt8.toNat_ofNat']; omega
theorem unit_lo (u : Int) (h0 : 0 ≤ u) (h1 : u < 65536) : u % 256 = ((UInt8.ofNat (u.toNat % 256)).toNat : Int) := by
  simp [UInt8.toNat_ofNat']; omega

theorem byteCells_unit (l : List UInt8) (u : Int) (h0 : 0 ≤ u) (h1 : u < 65536) :
    Lib.byteCells (l ++ unitB u.toNat) = Lib.byteCells l ++ [.int .u8 (u / 256)] ++ [.int .u8 (u % 256)] := by
  rw [unit_hi u h0 h1, unit_lo u h0 h1, Lib.byteCells_append]
  simp [Lib.byteCells, unitB]

set_option maxHeartbeats 1000000 in
set_option maxRecDepth 100000 in
theorem put_k (B b : Nat) (l : List UInt8) (u : Int) (h0 : 0 ≤ u) (h1 : u < 65536) (w : World) (h : Lib.IsBuilderF 61 5 B b (Lib.byteCells l) w) (hlen : l.length + 2 ≤ 140737488355328) (hBw : B ≤ w.heap.size) :
    Calls Tryd.prog 34 #[.pointer (some ⟨b, 0, none⟩), .int .u16 u] w fun e w' => e = .returned (.tuple #[]) ∧ (Lib.IsBuilderF 61 5 B b (Lib.byteCells (l ++ unitB u.toNat)) w' ∧ Below B w w' ∧ Lib.OthersKept 5 (some b) w w') := by
  go_enter Tryd.func34, Tryd.ntmps34
  go_wp2_with (go_at_call 38; refine (WriteByte_k B b _ (u / 256) _ h (by rw [Lib.byteCells_length]; omega) hBw).mono ?_)
  rintro e w1 ⟨rfl, g1, b1, k1⟩
  go_wp2_with fail
  have hz := b1.size
  refine (WriteByte_k B b _ _ _ g1 (by rw [List.length_append, Lib.byteCells_length]; simp; omega) (by omega)).mono ?_
  rintro e w2 ⟨rfl, h2, b2, k2⟩
  go_wp2
  go_end0
  refine ⟨rfl, ?_, b1.trans b2, k1.trans k2⟩
  rw [byteCells_unit l u h0 h1]
  exact h2

theorem and1023 (x : Int) (h0 : 0 ≤ x) (h1 : x < 2147483648) : bits .and .i32 x 1023 = x % 1024 :=
  bits_mask .i32 31 (by decide) wraps_i32 10 (by decide) x h0 h1

set_option maxHeartbeats 4000000 in
set_option maxRecDepth 100000 in
theorem of_any (s : ByteArray) (w : World) (hs : s.size ≤ 17592186044416) :
    Calls Tryd.prog 25 #[.string s] w fun e w' => e = .returned (.string ⟨(ofB s).toArray⟩) ∧ Below w.heap.size w w' := by
  go_enter Tryd.func25, Tryd.ntmps25
  go_wp2
  go_loopw [] (fun wr => ∃ (pos fuel : Nat) (acc : List UInt8), Lib.IsBuilderF 61 5 w.heap.size w.heap.size (Lib.byteCells acc) wr ∧ wr.heap[w.heap.size + 1]? = some (.stringIter s pos) ∧ Below w.heap.size w wr ∧ acc ++ unitsB (decUnits s fuel pos) = ofB s ∧ s.size ≤ pos + fuel ∧ acc.length ≤ 4 * pos) (fun wr => s.size - wr.iterPos (w.heap.size + 1))
  case atStart =>
    refine ⟨0, s.size, [], (Lib.IsBuilderF.of (Lib.fresh_isBuilder 61 5 w)).alloc _, ?_, ((Below.refl _ w).alloc (Nat.le_refl _) _).alloc (by simp) _, rfl, by omega, by simp⟩
    have := World.iter_heap (w.alloc (.cells #[.pointer none, .slice none 0 0] 61)) s 0
    simpa using this
  case round =>
    obtain ⟨pos, fuel, acc, hI, hit, hbw, hacc, hfu, hal⟩ := hrel
    have hsz : w.heap.size + 1 < wr.heap.size := (Array.getElem?_eq_some_iff.1 hit).1
    by_cases hp : pos < s.size
    · have hnx : ∀ ty, (Instr.next (.pointer (some ⟨w.heap.size + 1, 0, none⟩)) true ty).run Tryd.prog wr = _ := fun ty => Lib.run_next_any_at wr (w.heap.size + 1) s pos ty hit hp
      have hwd := width_pos s pos hp
      have hd1 := decode_max s pos
      have hI2 := hI.iterAt hit (pos + (Utf8.decode s pos).2)
      have hit2 := Lib.iterAt_heap wr (w.heap.size + 1) s pos (pos + (Utf8.decode s pos).2) hit
      have hbw2 := Lib.below_iterAt hbw (k := w.heap.size + 1) (by omega) s (pos + (Utf8.decode s pos).2)
      have hsz2 : w.heap.size ≤ (wr.iterAt (w.heap.size + 1) s (pos + (Utf8.decode s pos).2)).heap.size := by rw [Lib.iterAt_size]; omega
      obtain ⟨f, rfl⟩ : ∃ f, fuel = f + 1 := ⟨fuel - 1, by omega⟩
      have hstep : unitsB (decUnits s (f + 1) pos) = unitsB (runeUnits (Utf8.decode s pos).1) ++ unitsB (decUnits s f (pos + (Utf8.decode s pos).2)) := by
        rw [decUnits, if_pos hp, unitsB_append]
      have HS := Lib.hid hstep
      have HA := Lib.hid hacc
      clear hstep hacc
      generalize hd : Utf8.decode s pos = d at *
      obtain ⟨r, wd⟩ := d
      simp only at *
      clear hd
      by_cases h32 : r < 65536
      · have hB : decide ((r : Int) < 65536) = true := by simp; omega
        go_wp2_with (go_at_call 34; refine (put_k w.heap.size w.heap.size acc _ (by omega) (by omega) _ hI2 (by omega) hsz2).mono ?_)
        rintro e W1 ⟨rfl, g1, b1, k1⟩
        go_wp2
        go_roundw
        case rel =>
          refine ⟨pos + wd, f, acc ++ unitB r, ?_, k1.iter hit2 (by omega), hbw2.trans b1, ?_, by omega, by simp [unitB]; omega⟩
          · simpa using g1
          · rw [← HA.out, HS.out]; simp [runeUnits, h32, unitsB_cons, unitsB_nil]
        case measure =>
          simp only [World.iterPos, k1.iter hit2 (by omega), hit]
          omega
      · have hB : decide ((r : Int) < 65536) = false := by simp; omega
        have hr : IntKind.u16.wrap (55296 + ((r : Int) - 65536) / 1024) = 55296 + ((r : Int) - 65536) / 1024 := IntWalk.u16_in _ (by omega)
        go_wp2_with fail
        refine (put_k w.heap.size w.heap.size acc _ (by omega) (by omega) _ hI2 (by omega) hsz2).mono ?_
        rintro e W1 ⟨rfl, g1, b1, k1⟩
        go_wp2_with fail
        rw [and1023 ((r : Int) - 65536) (by omega) (by omega), show wrap32 (56320 + ((r : Int) - 65536) % 1024) = 56320 + ((r : Int) - 65536) % 1024 from IntWalk.wrap32_in _ (by omega), IntWalk.u16_in (56320 + ((r : Int) - 65536) % 1024) (by omega)]
        have hz3 := b1.size
        have hit3 := k1.iter hit2 (by omega)
        refine (put_k w.heap.size w.heap.size _ _ (by omega) (by omega) _ g1 (by simp [unitB]; omega) (by omega)).mono ?_
        rintro e W2 ⟨rfl, g2, b2, k2⟩
        go_wp2
        go_roundw
        case rel =>
          refine ⟨pos + wd, f, acc ++ unitB (55296 + (r - 65536) / 1024) ++ unitB (56320 + (r - 65536) % 1024), ?_, k2.iter hit3 (by omega), (hbw2.trans b1).trans b2, ?_, by omega, by simp [unitB]; omega⟩
          · rw [show 55296 + (r - 65536) / 1024 = (55296 + ((r : Int) - 65536) / 1024).toNat from by omega, show 56320 + (r - 65536) % 1024 = (56320 + ((r : Int) - 65536) % 1024).toNat from by omega]
            exact g2
          · rw [← HA.out, HS.out]; simp [runeUnits, h32, unitsB_cons, unitsB_nil]
        case measure =>
          simp only [World.iterPos, k2.iter hit3 (by omega), hit]
          omega
    · have hnx : ∀ ty, (Instr.next (.pointer (some ⟨w.heap.size + 1, 0, none⟩)) true ty).run Tryd.prog wr = _ := fun ty => Lib.run_next_end_at wr (w.heap.size + 1) s pos ty hit hp
      go_wp2_with (go_at_call 35; refine (Tryd.Builder_String_any_k w.heap.size w.heap.size acc _ hI (by omega)).mono ?_)
      rintro e W1 ⟨rfl, _, b1, _⟩
      go_wp2
      go_ret
      refine ⟨?_, hbw.trans b1⟩
      rw [decUnits_end s fuel pos hp, unitsB_nil, List.append_nil] at hacc
      rw [hacc]
      rfl

end Go.Proofs.YtolfcmfilfjgfaaDoor
