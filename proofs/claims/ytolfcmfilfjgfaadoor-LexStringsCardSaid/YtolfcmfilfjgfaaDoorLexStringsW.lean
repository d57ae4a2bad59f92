/- The statement LexStrings: its walk. -/
import Derived.Test.YtolfcmfilfjgfaaDoorLexI
import Derived.Test.YtolfcmfilfjgfaaDoorLexStringsP
import Derived.Test.YtolfcmfilfjgfaaDoorLexN
import Derived.Laws.BitsLemmas
import Derived.BigRegion
import Derived.ChangeAlike
import Derived.Lib.QuietBelow
set_option linter.unusedVariables false
set_option linter.unusedSimpArgs false
namespace Go.Proofs.YtolfcmfilfjgfaaDoor
open Go.RowKit Go.Sort

theorem hxd_at (n : Nat) (h : n < (⟨#[48, 49, 50, 51, 52, 53, 54, 55, 56, 57, 97, 98, 99, 100, 101, 102]⟩ : ByteArray).size) : (⟨#[48, 49, 50, 51, 52, 53, 54, 55, 56, 57, 97, 98, 99, 100, 101, 102]⟩ : ByteArray)[n] = hxd n := by
  exact getD_byte _ n h
theorem conv_bytes (w : World) (W : World) (l : List UInt8) (n : Nat) (hn : l.length = n) (hW : W.heap[w.heap.size]? = some (.cells (l.map fun c => Value.int .u8 (c.toNat : Int)).toArray 5)) :
    (convert 37 9 (.slice (some ⟨w.heap.size, 0, none⟩) n n)).run Tryd.prog W = .ok (.string ⟨l.toArray⟩) W := by
  rw [run_convert_bytes_arg _ 37 5 Tryd.underlying37 Tryd.underlying5 w.heap.size 0 n n (l.map fun c => (c.toNat : Int)) (by simpa using hn) (fun i hi => ?_) 9 Tryd.underlying9]
  · rw [strOfNums_bytes]
  · rw [Lib.cell_of_heap hW, Nat.zero_add]
    subst hn
    simp [List.getD_eq_getElem?_getD, List.getElem?_eq_getElem hi]
theorem conv_four (w : World) (a b c d : UInt8) : (convert 37 9 (.slice (some ⟨w.heap.size, 0, none⟩) 4 4)).run Tryd.prog (w.alloc (.cells #[.int .u8 (a.toNat : Int), .int .u8 (b.toNat : Int), .int .u8 (c.toNat : Int), .int .u8 (d.toNat : Int)] 5)).drew = .ok (.string ⟨#[a, b, c, d]⟩) (w.alloc (.cells #[.int .u8 (a.toNat : Int), .int .u8 (b.toNat : Int), .int .u8 (c.toNat : Int), .int .u8 (d.toNat : Int)] 5)).drew :=
  conv_bytes w _ [a, b, c, d] 4 rfl (heap_alloc_new w _)
theorem conv_four' (w : World) (a b c d : UInt8) : (convert 37 9 (.slice (some ⟨w.heap.size, 0, none⟩) 4 4)).run Tryd.prog (w.alloc (.cells #[.int .u8 (a.toNat : Int), .int .u8 (b.toNat : Int), .int .u8 (c.toNat : Int), .int .u8 (d.toNat : Int)] 5)) = .ok (.string ⟨#[a, b, c, d]⟩) (w.alloc (.cells #[.int .u8 (a.toNat : Int), .int .u8 (b.toNat : Int), .int .u8 (c.toNat : Int), .int .u8 (d.toNat : Int)] 5)) :=
  conv_bytes w _ [a, b, c, d] 4 rfl (heap_alloc_new w _)
theorem conv_byte (w : World) (C : Int) (u : Nat) (hC : C = u) (hu : u < 256) : (convert 37 9 (.slice (some ⟨w.heap.size, 0, none⟩) 1 1)).run Tryd.prog (w.alloc (.cells #[.int .u8 C] 5)) = .ok (.string ⟨#[UInt8.ofNat u]⟩) (w.alloc (.cells #[.int .u8 C] 5)) := by
  have h : ((UInt8.ofNat u).toNat : Int) = C := by simp only [UInt8.toNat_ofNat']; omega
  have := conv_bytes w (w.alloc (.cells #[.int .u8 ((UInt8.ofNat u).toNat : Int)] 5)) [UInt8.ofNat u] 1 rfl (heap_alloc_new w _)
  rw [h] at this
  exact this
theorem and15 (x : Int) (h0 : 0 ≤ x) (h1 : x < 65536) : bits .and .u16 x 15 = x % 16 := bits_mask .u16 16 (by decide) (fun n a b => IntWalk.u16_in _ (by omega)) 4 (by decide) x h0 h1
def sB (sg : Bool) (l : List Nat) : ByteArray := ⟨(quoQ sg :: encL sg l).toArray⟩
theorem sB_size (sg : Bool) (l : List Nat) : (sB sg l).size = (encL sg l).length + 1 := by show (quoQ sg :: encL sg l).toArray.size = _; simp
theorem sB_snoc (sg : Bool) (l : List Nat) (u : Nat) (p : List UInt8) (h : encU sg u = p) : sB sg (l ++ [u]) = sB sg l ++ ⟨p.toArray⟩ := by
  unfold sB
  rw [ba_app, encL, List.flatMap_append, ← h]
  simp [encL]
theorem encL_snoc_len (sg : Bool) (l : List Nat) : (encL sg l).length ≤ 6 * l.length := encL_len sg l


set_option maxHeartbeats 8000000 in
set_option maxRecDepth 100000 in
theorem strings_false (a : Option Addr) (n cap : Nat) (l : List Nat) (m : Int) (w : World) (hn5 : n ≤ 500) (hr : SliceR .u16 w a n cap (ints l)) (hf : Fits l) (hm : w.cell? ⟨1, 0, none⟩ = some (.int .i64 m)) (tb : Tb w) :
    Calls Tryd.prog 4 #[.slice a n cap, .bool false] w fun e w' => e = .returned (.bool true) ∧ Below w.heap.size w w' := by
  have hln : l.length = n := by have := hr.1; rwa [ints_length] at this
  have L0 : decide ((500 : Int) < (n : Int)) = false := by simp; omega
  have h2 := cell_lt hm
  obtain ⟨i0, hi, hz0, hz1, hz2⟩ := info_parts infoInt
  have HL := Lib.hid hln
  have HF := Lib.hid hf
  clear hln hf
  go_enter Tryd.func4, Tryd.ntmps4
  go_wp2_with fail
  refine (fit_any m _ hm tb).mono ?_
  rintro e W0 ⟨rfl, b0⟩
  have HH := Lib.hid (And.intro (keep_m b0 h2 hm) (And.intro (tb.below b0) (hr.below b0)))
  clear hm tb hr
  go_wp2_with fail
  go_loopw [6, 7, 22] (fun vs vw vi wr => ∃ k : Nat, k ≤ n ∧ vi = .int .i64 k ∧ vs = .string (sB false (l.take k)) ∧ wr.ownsRow W0.heap.size 3 1 vw k (numCells .i64 (ints (l.take k))) ∧ Below W0.heap.size W0 wr) (fun _ _ vi _ => n - (intOf vi).toNat)
  case atStart => exact ⟨0, by omega, rfl, rfl, World.ownsRow_nil _ _ _ _, Below.refl _ _⟩
  case round =>
    obtain ⟨k, hk, rfl, rfl, hown, hb⟩ := hrel
    by_cases hlt : k < n
    · have L1 : decide ((k : Int) < (n : Int)) = true := by simp; omega
      obtain ⟨b, off, rfl, hbl, hcell⟩ := HH.out.2.2.2.2.2.2 (by omega)
      have hck := (hb.cell (p := ⟨b, off + k, none⟩) hbl).trans (hcell k hlt)
      rw [ints_getD] at hck
      have hul : l.getD k 0 < 65536 := by
        rw [List.getD_eq_getElem?_getD, List.getElem?_eq_getElem (by rw [HL.out]; exact hlt)]; exact HF.out _ (List.getElem_mem _)
      have hts := take_snocN l k (by rw [HL.out]; exact hlt)
      obtain ⟨u, hu⟩ : ∃ u, u = l.getD k 0 := ⟨_, rfl⟩
      rw [← hu] at hck hul hts
      have HT := Lib.hid hts
      clear hts hcell hu
      have hz := hb.size
      have x0 : (0 : Int) ≤ k := by omega
      have x1 : (k : Int) < n := by omega
      have x2 : (k : Int).toNat = k := by omega
      obtain ⟨C, hC⟩ : ∃ C, (u : Int) = C := ⟨_, rfl⟩
      rw [hC] at hck
      have c0 : 0 ≤ C := by omega
      have c1 : C < 65536 := by omega
      have d1 : IntKind.i64.wrap C = C := IntWalk.i64_in _ (by omega)
      have HC := Lib.hid hC
      clear hC
      go_wp2_with (at_builtin; refine wpList_append_own _ rfl _ _ 22 rfl W0.heap.size 3 i0 (.int .i64 0) 1 8 Tryd.underlying22 hi hz0 hz1 hz2 rfl (by decide) _ _ _ rfl (hown.alloc _) ⟨wr.heap.size, 0, none⟩ 1 1 [.int .i64 C] rfl rfl (by intro j v hj; match j, hj with | 0, hj => simp at hj; subst hj; simp [Addr.add]) (by simp [Value.oneCell']) (by unfold maxLen; omega) (by omega) (by simp; omega) ?_)
      intro v' w1 hown1 hgrow _
      have hb2 := (hb.alloc hz (.cells #[.int .i64 C] 3)).grown hgrow (by simp; omega) (fun k' hk' => ((hown.alloc (.cells #[.int .i64 C] 3)).lt k' hk').1)
      have hownE : w1.ownsRow W0.heap.size 3 1 v' (k + 1) (numCells .i64 (ints (l.take (k + 1)))) := by
        rw [HT.out, ints_append, numCells_append, show ints [u] = [C] by rw [← HC.out]; rfl]
        exact hown1
      have HO := Lib.hid hownE
      clear hown hgrow hown1 hownE hck hb hz x0 x1 x2
      have hz := hb2.size
      have a1 : IntKind.i64.wrap ((k : Int) + 1) = ((k + 1 : Nat) : Int) := by rw [IntWalk.i64_in _ (by omega)]; rfl
      have hel := encL_len false (l.take k)
      have htk : (l.take k).length ≤ k := List.length_take_le _ _
      have hsz := sB_size false (l.take k)
      have HS := Lib.hid hsz
      clear hsz
      have s0 : ¬ 9223372036854775807 < (sB false (l.take k)).size + 1 := by rw [HS.out]; omega
      have s1 : ¬ 9223372036854775807 < (sB false (l.take k)).size + 2 := by rw [HS.out]; omega
      have s2 : ¬ 9223372036854775807 < (sB false (l.take k)).size + (1 + 1) := by rw [HS.out]; omega
      have s3 : ¬ 9223372036854775807 < (sB false (l.take k)).size + (2 + 4) := by rw [HS.out]; omega
      have s4 : ¬ 9223372036854775807 < (sB false (l.take k)).size + 6 := by rw [HS.out]; omega
      clear hel htk
      generalize hSB : sB false (l.take k) = SB at *
      have HSB := Lib.hid hSB
      clear hSB
      have hnext : ∀ p, encU false u = p → sB false (l.take (k + 1)) = SB ++ ⟨p.toArray⟩ := fun p hp => by rw [HT.out, sB_snoc _ _ _ _ hp, HSB.out]
      have HX := Lib.hid hnext
      clear hnext
      rcases (show (u = 10) ∨ (u = 39) ∨ (u = 34) ∨ (u = 92) ∨ (u < 32 ∧ u ≠ 10) ∨ (32 ≤ u ∧ u < 127 ∧ u ≠ 39 ∧ u ≠ 34 ∧ u ≠ 92) ∨ (127 ≤ u) by omega) with hcase | hcase | hcase | hcase | hcase | hcase | hcase
      · skip
        have f0 : (C == 10) = true := by simp only [beq_iff_eq, beq_eq_false_iff_ne, decide_eq_true_eq, decide_eq_false_iff_not, ne_eq]; have := HC.out; omega
        have g0 : C = 10 := by have := HC.out; omega
        go_wp2
        go_roundw
        case rel => exact ⟨k + 1, by omega, by first | rfl | rw [Int.natCast_add], by rw [HX.out [92, 110] (by unfold encU; rw [if_pos ⟨hcase, rfl⟩])], HO.out, hb2⟩
        case measure => simp only [intOf]; omega
      · skip
        have f0 : (C == 10) = false := by simp only [beq_iff_eq, beq_eq_false_iff_ne, decide_eq_true_eq, decide_eq_false_iff_not, ne_eq]; have := HC.out; omega
        have g0 : ¬ C = 10 := by have := HC.out; omega
        have f1 : (C == 39) = true := by simp only [beq_iff_eq, beq_eq_false_iff_ne, decide_eq_true_eq, decide_eq_false_iff_not, ne_eq]; have := HC.out; omega
        have g1 : C = 39 := by have := HC.out; omega
        have cu : IntKind.u8.wrap 39 = 39 := by decide
        have kc := conv_byte w1 39 39 rfl (by omega)
        go_wp2
        go_roundw
        case rel => exact ⟨k + 1, by omega, by first | rfl | rw [Int.natCast_add], by (rw [HX.out [92, 39] (by unfold encU; rw [if_neg (by omega), if_pos (by omega), hcase]; rfl)]) <;> first | rfl | exact congrArg Value.string (congrArg (fun t => SB ++ t) (ba_app [92] _)), HO.out.alloc _, hb2.alloc hz _⟩
        case measure => simp only [intOf]; omega
      · skip
        have f0 : (C == 10) = false := by simp only [beq_iff_eq, beq_eq_false_iff_ne, decide_eq_true_eq, decide_eq_false_iff_not, ne_eq]; have := HC.out; omega
        have g0 : ¬ C = 10 := by have := HC.out; omega
        have f1 : (C == 39) = false := by simp only [beq_iff_eq, beq_eq_false_iff_ne, decide_eq_true_eq, decide_eq_false_iff_not, ne_eq]; have := HC.out; omega
        have g1 : ¬ C = 39 := by have := HC.out; omega
        have f2 : (C == 34) = true := by simp only [beq_iff_eq, beq_eq_false_iff_ne, decide_eq_true_eq, decide_eq_false_iff_not, ne_eq]; have := HC.out; omega
        have g2 : C = 34 := by have := HC.out; omega
        have cu : IntKind.u8.wrap 34 = 34 := by decide
        have kc := conv_byte w1 34 34 rfl (by omega)
        go_wp2
        go_roundw
        case rel => exact ⟨k + 1, by omega, by first | rfl | rw [Int.natCast_add], by (rw [HX.out [92, 34] (by unfold encU; rw [if_neg (by omega), if_pos (by omega), hcase]; rfl)]) <;> first | rfl | exact congrArg Value.string (congrArg (fun t => SB ++ t) (ba_app [92] _)), HO.out.alloc _, hb2.alloc hz _⟩
        case measure => simp only [intOf]; omega
      · skip
        have f0 : (C == 10) = false := by simp only [beq_iff_eq, beq_eq_false_iff_ne, decide_eq_true_eq, decide_eq_false_iff_not, ne_eq]; have := HC.out; omega
        have g0 : ¬ C = 10 := by have := HC.out; omega
        have f1 : (C == 39) = false := by simp only [beq_iff_eq, beq_eq_false_iff_ne, decide_eq_true_eq, decide_eq_false_iff_not, ne_eq]; have := HC.out; omega
        have g1 : ¬ C = 39 := by have := HC.out; omega
        have f2 : (C == 34) = false := by simp only [beq_iff_eq, beq_eq_false_iff_ne, decide_eq_true_eq, decide_eq_false_iff_not, ne_eq]; have := HC.out; omega
        have g2 : ¬ C = 34 := by have := HC.out; omega
        have f3 : (C == 92) = true := by simp only [beq_iff_eq, beq_eq_false_iff_ne, decide_eq_true_eq, decide_eq_false_iff_not, ne_eq]; have := HC.out; omega
        have g3 : C = 92 := by have := HC.out; omega
        have cu : IntKind.u8.wrap 92 = 92 := by decide
        have kc := conv_byte w1 92 92 rfl (by omega)
        go_wp2
        go_roundw
        case rel => exact ⟨k + 1, by omega, by first | rfl | rw [Int.natCast_add], by (rw [HX.out [92, 92] (by unfold encU; rw [if_neg (by omega), if_pos (by omega), hcase]; rfl)]) <;> first | rfl | exact congrArg Value.string (congrArg (fun t => SB ++ t) (ba_app [92] _)), HO.out.alloc _, hb2.alloc hz _⟩
        case measure => simp only [intOf]; omega
      · skip
        have f0 : (C == 10) = false := by simp only [beq_iff_eq, beq_eq_false_iff_ne, decide_eq_true_eq, decide_eq_false_iff_not, ne_eq]; have := HC.out; omega
        have g0 : ¬ C = 10 := by have := HC.out; omega
        have f1 : (C == 39) = false := by simp only [beq_iff_eq, beq_eq_false_iff_ne, decide_eq_true_eq, decide_eq_false_iff_not, ne_eq]; have := HC.out; omega
        have g1 : ¬ C = 39 := by have := HC.out; omega
        have f2 : (C == 34) = false := by simp only [beq_iff_eq, beq_eq_false_iff_ne, decide_eq_true_eq, decide_eq_false_iff_not, ne_eq]; have := HC.out; omega
        have g2 : ¬ C = 34 := by have := HC.out; omega
        have f3 : (C == 92) = false := by simp only [beq_iff_eq, beq_eq_false_iff_ne, decide_eq_true_eq, decide_eq_false_iff_not, ne_eq]; have := HC.out; omega
        have g3 : ¬ C = 92 := by have := HC.out; omega
        have f4 : (decide (32 ≤ C)) = false := by simp only [beq_iff_eq, beq_eq_false_iff_ne, decide_eq_true_eq, decide_eq_false_iff_not, ne_eq]; have := HC.out; omega
        have hcv := conv_four w1
        have hcv2 := conv_four' w1
        have p1 : 0 ≤ C / 4096 := by omega
        have q1 : C / 4096 < 16 := by omega
        have p2 : 0 ≤ C / 256 % 16 := by omega
        have q2 : C / 256 % 16 < 16 := by omega
        have p3 : 0 ≤ C / 16 % 16 := by omega
        have q3 : C / 16 % 16 < 16 := by omega
        have p4 : 0 ≤ C % 16 := by omega
        have q4 : C % 16 < 16 := by omega
        have r1 : bits .and .u16 (C / 256) 15 = C / 256 % 16 := and15 _ (by omega) (by omega)
        have r2 : bits .and .u16 (C / 16) 15 = C / 16 % 16 := and15 _ (by omega) (by omega)
        have r3 : bits .and .u16 C 15 = C % 16 := and15 _ (by omega) (by omega)
        have hdig : encU false u = [92, 117, hxd (C / 4096).toNat, hxd (C / 256 % 16).toNat, hxd (C / 16 % 16).toNat, hxd (C % 16).toNat] := by
          have hu := HC.out
          rw [show (C / 4096).toNat = u / 4096 by omega, show (C / 256 % 16).toNat = u / 256 % 16 by omega, show (C / 16 % 16).toNat = u / 16 % 16 by omega, show (C % 16).toNat = u % 16 by omega]
          unfold encU
          rw [if_neg (by omega), if_neg (by omega), if_neg (by omega)]
        have HD := Lib.hid hdig
        clear hdig
        go_wp2
        all_goals
          go_region
          all_goals
            go_wp2
            go_roundw
            case rel =>
              refine ⟨k + 1, by omega, by first | rfl | rw [Int.natCast_add], ?_, (HO.out.alloc _).drew, (hb2.alloc hz _).drew⟩
              rw [HX.out _ HD.out]
              simp only [hxd_at]
              exact congrArg Value.string (congrArg (fun t => SB ++ t) (ba_app [92, 117] _))
            case measure => simp only [intOf]; omega
      · skip
        have f0 : (C == 10) = false := by simp only [beq_iff_eq, beq_eq_false_iff_ne, decide_eq_true_eq, decide_eq_false_iff_not, ne_eq]; have := HC.out; omega
        have g0 : ¬ C = 10 := by have := HC.out; omega
        have f1 : (C == 39) = false := by simp only [beq_iff_eq, beq_eq_false_iff_ne, decide_eq_true_eq, decide_eq_false_iff_not, ne_eq]; have := HC.out; omega
        have g1 : ¬ C = 39 := by have := HC.out; omega
        have f2 : (C == 34) = false := by simp only [beq_iff_eq, beq_eq_false_iff_ne, decide_eq_true_eq, decide_eq_false_iff_not, ne_eq]; have := HC.out; omega
        have g2 : ¬ C = 34 := by have := HC.out; omega
        have f3 : (C == 92) = false := by simp only [beq_iff_eq, beq_eq_false_iff_ne, decide_eq_true_eq, decide_eq_false_iff_not, ne_eq]; have := HC.out; omega
        have g3 : ¬ C = 92 := by have := HC.out; omega
        have f4 : (decide (32 ≤ C)) = true := by simp only [beq_iff_eq, beq_eq_false_iff_ne, decide_eq_true_eq, decide_eq_false_iff_not, ne_eq]; have := HC.out; omega
        have f5 : (decide (C < 127)) = true := by simp only [beq_iff_eq, beq_eq_false_iff_ne, decide_eq_true_eq, decide_eq_false_iff_not, ne_eq]; have := HC.out; omega
        have cu : IntKind.u8.wrap C = C := IntWalk.u8_in _ (by have := HC.out; omega)
        have kc := conv_byte w1 C u HC.out.symm (by have := HC.out; omega)
        go_wp2
        go_roundw
        case rel => exact ⟨k + 1, by omega, by first | rfl | rw [Int.natCast_add], by (rw [HX.out [UInt8.ofNat u] (by unfold encU; rw [if_neg (by omega), if_neg (by omega), if_pos (by omega)])]) <;> first | rfl | exact congrArg Value.string (congrArg (fun t => SB ++ t) (ba_app [92] _)), HO.out.alloc _, hb2.alloc hz _⟩
        case measure => simp only [intOf]; omega
      · skip
        have f0 : (C == 10) = false := by simp only [beq_iff_eq, beq_eq_false_iff_ne, decide_eq_true_eq, decide_eq_false_iff_not, ne_eq]; have := HC.out; omega
        have g0 : ¬ C = 10 := by have := HC.out; omega
        have f1 : (C == 39) = false := by simp only [beq_iff_eq, beq_eq_false_iff_ne, decide_eq_true_eq, decide_eq_false_iff_not, ne_eq]; have := HC.out; omega
        have g1 : ¬ C = 39 := by have := HC.out; omega
        have f2 : (C == 34) = false := by simp only [beq_iff_eq, beq_eq_false_iff_ne, decide_eq_true_eq, decide_eq_false_iff_not, ne_eq]; have := HC.out; omega
        have g2 : ¬ C = 34 := by have := HC.out; omega
        have f3 : (C == 92) = false := by simp only [beq_iff_eq, beq_eq_false_iff_ne, decide_eq_true_eq, decide_eq_false_iff_not, ne_eq]; have := HC.out; omega
        have g3 : ¬ C = 92 := by have := HC.out; omega
        have f4 : (decide (32 ≤ C)) = true := by simp only [beq_iff_eq, beq_eq_false_iff_ne, decide_eq_true_eq, decide_eq_false_iff_not, ne_eq]; have := HC.out; omega
        have f5 : (decide (C < 127)) = false := by simp only [beq_iff_eq, beq_eq_false_iff_ne, decide_eq_true_eq, decide_eq_false_iff_not, ne_eq]; have := HC.out; omega
        have hcv := conv_four w1
        have hcv2 := conv_four' w1
        have p1 : 0 ≤ C / 4096 := by omega
        have q1 : C / 4096 < 16 := by omega
        have p2 : 0 ≤ C / 256 % 16 := by omega
        have q2 : C / 256 % 16 < 16 := by omega
        have p3 : 0 ≤ C / 16 % 16 := by omega
        have q3 : C / 16 % 16 < 16 := by omega
        have p4 : 0 ≤ C % 16 := by omega
        have q4 : C % 16 < 16 := by omega
        have r1 : bits .and .u16 (C / 256) 15 = C / 256 % 16 := and15 _ (by omega) (by omega)
        have r2 : bits .and .u16 (C / 16) 15 = C / 16 % 16 := and15 _ (by omega) (by omega)
        have r3 : bits .and .u16 C 15 = C % 16 := and15 _ (by omega) (by omega)
        have hdig : encU false u = [92, 117, hxd (C / 4096).toNat, hxd (C / 256 % 16).toNat, hxd (C / 16 % 16).toNat, hxd (C % 16).toNat] := by
          have hu := HC.out
          rw [show (C / 4096).toNat = u / 4096 by omega, show (C / 256 % 16).toNat = u / 256 % 16 by omega, show (C / 16 % 16).toNat = u / 16 % 16 by omega, show (C % 16).toNat = u % 16 by omega]
          unfold encU
          rw [if_neg (by omega), if_neg (by omega), if_neg (by omega)]
        have HD := Lib.hid hdig
        clear hdig
        go_wp2
        all_goals
          go_region
          all_goals
            go_wp2
            go_roundw
            case rel =>
              refine ⟨k + 1, by omega, by first | rfl | rw [Int.natCast_add], ?_, (HO.out.alloc _).drew, (hb2.alloc hz _).drew⟩
              rw [HX.out _ HD.out]
              simp only [hxd_at]
              exact congrArg Value.string (congrArg (fun t => SB ++ t) (ba_app [92, 117] _))
            case measure => simp only [intOf]; omega
    · obtain rfl : k = n := by omega
      have L1 : decide ((k : Int) < (k : Int)) = false := by simp
      rw [List.take_of_length_le (by rw [HL.out]; omega)] at hown ⊢
      have hel := encL_len false l
      rw [HL.out] at hel
      have hsz := sB_size false l
      have hSS : (sB false l ++ ⟨#[34]⟩).data.toList = strT false l := by
        rw [show (⟨#[34]⟩ : ByteArray) = ⟨[34].toArray⟩ from rfl, sB, ba_app]; rfl
      have hSl := len_of (sB false l ++ ⟨#[34]⟩)
      rw [hSS] at hSl
      have hstl : (strT false l).length = (encL false l).length + 2 := by simp [strT]
      have hsc := scan_str false l (fun u hu => HF.out u hu) ((sB false l ++ ⟨#[34]⟩).size - 1)
      rw [← hSS, show (sB false l ++ ⟨#[34]⟩).size - 1 + 2 = (sB false l ++ ⟨#[34]⟩).size + 1 by omega] at hsc
      have HSC := Lib.hid hsc
      have HE := Lib.hid (And.intro hSl hstl)
      have hle : (sB false l ++ ⟨#[34]⟩).size ≤ 16384 := by omega
      have s1 : ¬ 9223372036854775807 < (sB false l).size + 1 := by omega
      obtain ⟨E, hE⟩ : ∃ E, (encL false l).length = E := ⟨_, rfl⟩
      rw [hE] at hsz HSC hel
      have w1a : IntKind.i64.wrap (((sB false l).size : Int) + 1) = ((E + 2 : Nat) : Int) := by rw [hsz, IntWalk.i64_in _ (by omega)]; omega
      clear hSS hSl hstl hsc hE
      have HC := Lib.hid (And.intro (keep_m hb (cell_lt HH.out.1) HH.out.1) (HH.out.2.1.below hb))
      go_wp2_with fail
      refine (scan_any _ m _ wr hle (cell_lt HC.out.1) HC.out.1 HC.out.2 HSC).mono ?_
      rintro e W3 ⟨v, f, rfl, ⟨rfl, g, cg, rfl, own⟩, b3⟩
      have q0 := tk_row own 0 _ rfl
      have q1 := tk_row own 1 _ rfl
      simp only [Nat.zero_mul, Nat.one_mul, Nat.reduceMul, Nat.reduceAdd, Nat.zero_add] at q0 q1
      have hgl := (own.lt g rfl).2
      have hbb := b0.trans (hb.mono b0.size)
      have bb3 := hbb.trans (b3.mono hbb.size)
      have u4 := (Below.refl W3.heap.size W3).alloc (Nat.le_refl _) (.cells #[.int .i64 0, .int .i64 0] 27)
      have bb4 := bb3.alloc bb3.size (.cells #[.int .i64 0, .int .i64 0] 27)
      have kb := Blk.new W3 27 #[.int .i64 0, .int .i64 0]
      obtain ⟨va, vcap, rfl, hsl, hsB⟩ := sliceR_own (l := ints l) (by rw [ints_length, HL.out]; exact hown)
      rw [ints_length, HL.out] at hsl ⊢
      have hsl4 := (hsl.below b3).below u4
      go_upto_region 24 with fail
      generalize hW4 : W3.alloc (.cells #[.int .i64 0, .int .i64 0] 27) = W4 at *
      have t0 := (u4.cell (p := ⟨g, 0, none⟩) hgl).trans q0.1
      have t1 := (u4.cell (p := ⟨g, 1, none⟩) hgl).trans q0.2.1
      have t6 := (u4.cell (p := ⟨g, 6, none⟩) hgl).trans q1.2.2.1
      have k0 : W4.cell? ⟨W3.heap.size, 0, none⟩ = some (.int .i64 0) := by rw [kb.cell]; rfl
      have HSL := Lib.hid hsl4
      clear q0 q1 own hsl hsB kb hown u4 hsl4
      have t1' : W4.cell? ⟨g, 1, none⟩ = some (.string (uS l)) := t1
      have Qk0 := fun d os => cell_regrown k0 d os
      have Qt0 := fun d os => cell_regrown t0 d os
      have Qt1 := fun d os => cell_regrown t1' d os
      have Qt6 := fun d os => cell_regrown t6 d os
      have DS := fun d os => Calls.regrown_of (str_any va k vcap l (grow (redrawn W4 d) os) (HSL.out.below (below_regrown W4 d os)) HF.out (by omega))
      have z1 : ((uS l).toList == (uS l).toList) = true := by simp
      clear k0 t0 t1 t1' t6
      refine wp_region_quiet_below (by kernel_rfl) (by kernel_rfl) ?_
      repeat (first | go_big_quiet_step (with_reducible exact DS _ _) | quiet_step (with_reducible exact DS _ _))
      refine wpQuiet_nil ?_
      intro _ hw'
      obtain ⟨⟨dq, osq⟩, hw''⟩ := hw'
      subst hw''
      clear DS Qk0 Qt0 Qt1 Qt6
      have bq := below_regrown W4 dq osq
      have be := bb4.trans (bq.mono bb4.size)
      go_wp2
      go_ret
      exact ⟨by first | (simp; done) | (simp; omega), be⟩

set_option maxHeartbeats 8000000 in
set_option maxRecDepth 100000 in
theorem strings_true (a : Option Addr) (n cap : Nat) (l : List Nat) (m : Int) (w : World) (hn5 : n ≤ 500) (hr : SliceR .u16 w a n cap (ints l)) (hf : Fits l) (hm : w.cell? ⟨1, 0, none⟩ = some (.int .i64 m)) (tb : Tb w) :
    Calls Tryd.prog 4 #[.slice a n cap, .bool true] w fun e w' => e = .returned (.bool true) ∧ Below w.heap.size w w' := by
  have hln : l.length = n := by have := hr.1; rwa [ints_length] at this
  have L0 : decide ((500 : Int) < (n : Int)) = false := by simp; omega
  have h2 := cell_lt hm
  obtain ⟨i0, hi, hz0, hz1, hz2⟩ := info_parts infoInt
  have HL := Lib.hid hln
  have HF := Lib.hid hf
  clear hln hf
  go_enter Tryd.func4, Tryd.ntmps4
  go_wp2_with fail
  refine (fit_any m _ hm tb).mono ?_
  rintro e W0 ⟨rfl, b0⟩
  have HH := Lib.hid (And.intro (keep_m b0 h2 hm) (And.intro (tb.below b0) (hr.below b0)))
  clear hm tb hr
  go_wp2_with fail
  go_loopw [6, 7, 22] (fun vs vw vi wr => ∃ k : Nat, k ≤ n ∧ vi = .int .i64 k ∧ vs = .string (sB true (l.take k)) ∧ wr.ownsRow W0.heap.size 3 1 vw k (numCells .i64 (ints (l.take k))) ∧ Below W0.heap.size W0 wr) (fun _ _ vi _ => n - (intOf vi).toNat)
  case atStart => exact ⟨0, by omega, rfl, rfl, World.ownsRow_nil _ _ _ _, Below.refl _ _⟩
  case round =>
    obtain ⟨k, hk, rfl, rfl, hown, hb⟩ := hrel
    by_cases hlt : k < n
    · have L1 : decide ((k : Int) < (n : Int)) = true := by simp; omega
      obtain ⟨b, off, rfl, hbl, hcell⟩ := HH.out.2.2.2.2.2.2 (by omega)
      have hck := (hb.cell (p := ⟨b, off + k, none⟩) hbl).trans (hcell k hlt)
      rw [ints_getD] at hck
      have hul : l.getD k 0 < 65536 := by
        rw [List.getD_eq_getElem?_getD, List.getElem?_eq_getElem (by rw [HL.out]; exact hlt)]; exact HF.out _ (List.getElem_mem _)
      have hts := take_snocN l k (by rw [HL.out]; exact hlt)
      obtain ⟨u, hu⟩ : ∃ u, u = l.getD k 0 := ⟨_, rfl⟩
      rw [← hu] at hck hul hts
      have HT := Lib.hid hts
      clear hts hcell hu
      have hz := hb.size
      have x0 : (0 : Int) ≤ k := by omega
      have x1 : (k : Int) < n := by omega
      have x2 : (k : Int).toNat = k := by omega
      obtain ⟨C, hC⟩ : ∃ C, (u : Int) = C := ⟨_, rfl⟩
      rw [hC] at hck
      have c0 : 0 ≤ C := by omega
      have c1 : C < 65536 := by omega
      have d1 : IntKind.i64.wrap C = C := IntWalk.i64_in _ (by omega)
      have HC := Lib.hid hC
      clear hC
      go_wp2_with (at_builtin; refine wpList_append_own _ rfl _ _ 22 rfl W0.heap.size 3 i0 (.int .i64 0) 1 8 Tryd.underlying22 hi hz0 hz1 hz2 rfl (by decide) _ _ _ rfl (hown.alloc _) ⟨wr.heap.size, 0, none⟩ 1 1 [.int .i64 C] rfl rfl (by intro j v hj; match j, hj with | 0, hj => simp at hj; subst hj; simp [Addr.add]) (by simp [Value.oneCell']) (by unfold maxLen; omega) (by omega) (by simp; omega) ?_)
      intro v' w1 hown1 hgrow _
      have hb2 := (hb.alloc hz (.cells #[.int .i64 C] 3)).grown hgrow (by simp; omega) (fun k' hk' => ((hown.alloc (.cells #[.int .i64 C] 3)).lt k' hk').1)
      have hownE : w1.ownsRow W0.heap.size 3 1 v' (k + 1) (numCells .i64 (ints (l.take (k + 1)))) := by
        rw [HT.out, ints_append, numCells_append, show ints [u] = [C] by rw [← HC.out]; rfl]
        exact hown1
      have HO := Lib.hid hownE
      clear hown hgrow hown1 hownE hck hb hz x0 x1 x2
      have hz := hb2.size
      have a1 : IntKind.i64.wrap ((k : Int) + 1) = ((k + 1 : Nat) : Int) := by rw [IntWalk.i64_in _ (by omega)]; rfl
      have hel := encL_len true (l.take k)
      have htk : (l.take k).length ≤ k := List.length_take_le _ _
      have hsz := sB_size true (l.take k)
      have HS := Lib.hid hsz
      clear hsz
      have s0 : ¬ 9223372036854775807 < (sB true (l.take k)).size + 1 := by rw [HS.out]; omega
      have s1 : ¬ 9223372036854775807 < (sB true (l.take k)).size + 2 := by rw [HS.out]; omega
      have s2 : ¬ 9223372036854775807 < (sB true (l.take k)).size + (1 + 1) := by rw [HS.out]; omega
      have s3 : ¬ 9223372036854775807 < (sB true (l.take k)).size + (2 + 4) := by rw [HS.out]; omega
      have s4 : ¬ 9223372036854775807 < (sB true (l.take k)).size + 6 := by rw [HS.out]; omega
      clear hel htk
      generalize hSB : sB true (l.take k) = SB at *
      have HSB := Lib.hid hSB
      clear hSB
      have hnext : ∀ p, encU true u = p → sB true (l.take (k + 1)) = SB ++ ⟨p.toArray⟩ := fun p hp => by rw [HT.out, sB_snoc _ _ _ _ hp, HSB.out]
      have HX := Lib.hid hnext
      clear hnext
      rcases (show (u = 39) ∨ (u = 34) ∨ (u = 92) ∨ (u < 32) ∨ (32 ≤ u ∧ u < 127 ∧ u ≠ 39 ∧ u ≠ 34 ∧ u ≠ 92) ∨ (127 ≤ u) by omega) with hcase | hcase | hcase | hcase | hcase | hcase
      · skip
        have f0 : (C == 10) = false := by simp only [beq_iff_eq, beq_eq_false_iff_ne, decide_eq_true_eq, decide_eq_false_iff_not, ne_eq]; have := HC.out; omega
        have g0 : ¬ C = 10 := by have := HC.out; omega
        have f1 : (C == 39) = true := by simp only [beq_iff_eq, beq_eq_false_iff_ne, decide_eq_true_eq, decide_eq_false_iff_not, ne_eq]; have := HC.out; omega
        have g1 : C = 39 := by have := HC.out; omega
        have cu : IntKind.u8.wrap 39 = 39 := by decide
        have kc := conv_byte w1 39 39 rfl (by omega)
        go_wp2
        go_roundw
        case rel => exact ⟨k + 1, by omega, by first | rfl | rw [Int.natCast_add], by (rw [HX.out [92, 39] (by unfold encU; rw [if_neg (by omega), if_pos (by omega), hcase]; rfl)]) <;> first | rfl | exact congrArg Value.string (congrArg (fun t => SB ++ t) (ba_app [92] _)), HO.out.alloc _, hb2.alloc hz _⟩
        case measure => simp only [intOf]; omega
      · skip
        have f0 : (C == 10) = false := by simp only [beq_iff_eq, beq_eq_false_iff_ne, decide_eq_true_eq, decide_eq_false_iff_not, ne_eq]; have := HC.out; omega
        have g0 : ¬ C = 10 := by have := HC.out; omega
        have f1 : (C == 39) = false := by simp only [beq_iff_eq, beq_eq_false_iff_ne, decide_eq_true_eq, decide_eq_false_iff_not, ne_eq]; have := HC.out; omega
        have g1 : ¬ C = 39 := by have := HC.out; omega
        have f2 : (C == 34) = true := by simp only [beq_iff_eq, beq_eq_false_iff_ne, decide_eq_true_eq, decide_eq_false_iff_not, ne_eq]; have := HC.out; omega
        have g2 : C = 34 := by have := HC.out; omega
        have cu : IntKind.u8.wrap 34 = 34 := by decide
        have kc := conv_byte w1 34 34 rfl (by omega)
        go_wp2
        go_roundw
        case rel => exact ⟨k + 1, by omega, by first | rfl | rw [Int.natCast_add], by (rw [HX.out [92, 34] (by unfold encU; rw [if_neg (by omega), if_pos (by omega), hcase]; rfl)]) <;> first | rfl | exact congrArg Value.string (congrArg (fun t => SB ++ t) (ba_app [92] _)), HO.out.alloc _, hb2.alloc hz _⟩
        case measure => simp only [intOf]; omega
      · skip
        have f0 : (C == 10) = false := by simp only [beq_iff_eq, beq_eq_false_iff_ne, decide_eq_true_eq, decide_eq_false_iff_not, ne_eq]; have := HC.out; omega
        have g0 : ¬ C = 10 := by have := HC.out; omega
        have f1 : (C == 39) = false := by simp only [beq_iff_eq, beq_eq_false_iff_ne, decide_eq_true_eq, decide_eq_false_iff_not, ne_eq]; have := HC.out; omega
        have g1 : ¬ C = 39 := by have := HC.out; omega
        have f2 : (C == 34) = false := by simp only [beq_iff_eq, beq_eq_false_iff_ne, decide_eq_true_eq, decide_eq_false_iff_not, ne_eq]; have := HC.out; omega
        have g2 : ¬ C = 34 := by have := HC.out; omega
        have f3 : (C == 92) = true := by simp only [beq_iff_eq, beq_eq_false_iff_ne, decide_eq_true_eq, decide_eq_false_iff_not, ne_eq]; have := HC.out; omega
        have g3 : C = 92 := by have := HC.out; omega
        have cu : IntKind.u8.wrap 92 = 92 := by decide
        have kc := conv_byte w1 92 92 rfl (by omega)
        go_wp2
        go_roundw
        case rel => exact ⟨k + 1, by omega, by first | rfl | rw [Int.natCast_add], by (rw [HX.out [92, 92] (by unfold encU; rw [if_neg (by omega), if_pos (by omega), hcase]; rfl)]) <;> first | rfl | exact congrArg Value.string (congrArg (fun t => SB ++ t) (ba_app [92] _)), HO.out.alloc _, hb2.alloc hz _⟩
        case measure => simp only [intOf]; omega
      · skip
        obtain ⟨t0, f0⟩ : ∃ t, (C == 10) = t := ⟨_, rfl⟩
        have f1 : (C == 39) = false := by simp only [beq_iff_eq, beq_eq_false_iff_ne, decide_eq_true_eq, decide_eq_false_iff_not, ne_eq]; have := HC.out; omega
        have g1 : ¬ C = 39 := by have := HC.out; omega
        have f2 : (C == 34) = false := by simp only [beq_iff_eq, beq_eq_false_iff_ne, decide_eq_true_eq, decide_eq_false_iff_not, ne_eq]; have := HC.out; omega
        have g2 : ¬ C = 34 := by have := HC.out; omega
        have f3 : (C == 92) = false := by simp only [beq_iff_eq, beq_eq_false_iff_ne, decide_eq_true_eq, decide_eq_false_iff_not, ne_eq]; have := HC.out; omega
        have g3 : ¬ C = 92 := by have := HC.out; omega
        have f4 : (decide (32 ≤ C)) = false := by simp only [beq_iff_eq, beq_eq_false_iff_ne, decide_eq_true_eq, decide_eq_false_iff_not, ne_eq]; have := HC.out; omega
        have hcv := conv_four w1
        have hcv2 := conv_four' w1
        have p1 : 0 ≤ C / 4096 := by omega
        have q1 : C / 4096 < 16 := by omega
        have p2 : 0 ≤ C / 256 % 16 := by omega
        have q2 : C / 256 % 16 < 16 := by omega
        have p3 : 0 ≤ C / 16 % 16 := by omega
        have q3 : C / 16 % 16 < 16 := by omega
        have p4 : 0 ≤ C % 16 := by omega
        have q4 : C % 16 < 16 := by omega
        have r1 : bits .and .u16 (C / 256) 15 = C / 256 % 16 := and15 _ (by omega) (by omega)
        have r2 : bits .and .u16 (C / 16) 15 = C / 16 % 16 := and15 _ (by omega) (by omega)
        have r3 : bits .and .u16 C 15 = C % 16 := and15 _ (by omega) (by omega)
        have hdig : encU true u = [92, 117, hxd (C / 4096).toNat, hxd (C / 256 % 16).toNat, hxd (C / 16 % 16).toNat, hxd (C % 16).toNat] := by
          have hu := HC.out
          rw [show (C / 4096).toNat = u / 4096 by omega, show (C / 256 % 16).toNat = u / 256 % 16 by omega, show (C / 16 % 16).toNat = u / 16 % 16 by omega, show (C % 16).toNat = u % 16 by omega]
          unfold encU
          rw [if_neg (by simp), if_neg (by omega), if_neg (by omega)]
        have HD := Lib.hid hdig
        clear hdig
        go_wp2
        all_goals
          go_region
          all_goals
            go_wp2
            go_roundw
            case rel =>
              refine ⟨k + 1, by omega, by first | rfl | rw [Int.natCast_add], ?_, (HO.out.alloc _).drew, (hb2.alloc hz _).drew⟩
              rw [HX.out _ HD.out]
              simp only [hxd_at]
              exact congrArg Value.string (congrArg (fun t => SB ++ t) (ba_app [92, 117] _))
            case measure => simp only [intOf]; omega
      · skip
        have f0 : (C == 10) = false := by simp only [beq_iff_eq, beq_eq_false_iff_ne, decide_eq_true_eq, decide_eq_false_iff_not, ne_eq]; have := HC.out; omega
        have g0 : ¬ C = 10 := by have := HC.out; omega
        have f1 : (C == 39) = false := by simp only [beq_iff_eq, beq_eq_false_iff_ne, decide_eq_true_eq, decide_eq_false_iff_not, ne_eq]; have := HC.out; omega
        have g1 : ¬ C = 39 := by have := HC.out; omega
        have f2 : (C == 34) = false := by simp only [beq_iff_eq, beq_eq_false_iff_ne, decide_eq_true_eq, decide_eq_false_iff_not, ne_eq]; have := HC.out; omega
        have g2 : ¬ C = 34 := by have := HC.out; omega
        have f3 : (C == 92) = false := by simp only [beq_iff_eq, beq_eq_false_iff_ne, decide_eq_true_eq, decide_eq_false_iff_not, ne_eq]; have := HC.out; omega
        have g3 : ¬ C = 92 := by have := HC.out; omega
        have f4 : (decide (32 ≤ C)) = true := by simp only [beq_iff_eq, beq_eq_false_iff_ne, decide_eq_true_eq, decide_eq_false_iff_not, ne_eq]; have := HC.out; omega
        have f5 : (decide (C < 127)) = true := by simp only [beq_iff_eq, beq_eq_false_iff_ne, decide_eq_true_eq, decide_eq_false_iff_not, ne_eq]; have := HC.out; omega
        have cu : IntKind.u8.wrap C = C := IntWalk.u8_in _ (by have := HC.out; omega)
        have kc := conv_byte w1 C u HC.out.symm (by have := HC.out; omega)
        go_wp2
        go_roundw
        case rel => exact ⟨k + 1, by omega, by first | rfl | rw [Int.natCast_add], by (rw [HX.out [UInt8.ofNat u] (by unfold encU; rw [if_neg (by omega), if_neg (by omega), if_pos (by omega)])]) <;> first | rfl | exact congrArg Value.string (congrArg (fun t => SB ++ t) (ba_app [92] _)), HO.out.alloc _, hb2.alloc hz _⟩
        case measure => simp only [intOf]; omega
      · skip
        have f0 : (C == 10) = false := by simp only [beq_iff_eq, beq_eq_false_iff_ne, decide_eq_true_eq, decide_eq_false_iff_not, ne_eq]; have := HC.out; omega
        have g0 : ¬ C = 10 := by have := HC.out; omega
        have f1 : (C == 39) = false := by simp only [beq_iff_eq, beq_eq_false_iff_ne, decide_eq_true_eq, decide_eq_false_iff_not, ne_eq]; have := HC.out; omega
        have g1 : ¬ C = 39 := by have := HC.out; omega
        have f2 : (C == 34) = false := by simp only [beq_iff_eq, beq_eq_false_iff_ne, decide_eq_true_eq, decide_eq_false_iff_not, ne_eq]; have := HC.out; omega
        have g2 : ¬ C = 34 := by have := HC.out; omega
        have f3 : (C == 92) = false := by simp only [beq_iff_eq, beq_eq_false_iff_ne, decide_eq_true_eq, decide_eq_false_iff_not, ne_eq]; have := HC.out; omega
        have g3 : ¬ C = 92 := by have := HC.out; omega
        have f4 : (decide (32 ≤ C)) = true := by simp only [beq_iff_eq, beq_eq_false_iff_ne, decide_eq_true_eq, decide_eq_false_iff_not, ne_eq]; have := HC.out; omega
        have f5 : (decide (C < 127)) = false := by simp only [beq_iff_eq, beq_eq_false_iff_ne, decide_eq_true_eq, decide_eq_false_iff_not, ne_eq]; have := HC.out; omega
        have hcv := conv_four w1
        have hcv2 := conv_four' w1
        have p1 : 0 ≤ C / 4096 := by omega
        have q1 : C / 4096 < 16 := by omega
        have p2 : 0 ≤ C / 256 % 16 := by omega
        have q2 : C / 256 % 16 < 16 := by omega
        have p3 : 0 ≤ C / 16 % 16 := by omega
        have q3 : C / 16 % 16 < 16 := by omega
        have p4 : 0 ≤ C % 16 := by omega
        have q4 : C % 16 < 16 := by omega
        have r1 : bits .and .u16 (C / 256) 15 = C / 256 % 16 := and15 _ (by omega) (by omega)
        have r2 : bits .and .u16 (C / 16) 15 = C / 16 % 16 := and15 _ (by omega) (by omega)
        have r3 : bits .and .u16 C 15 = C % 16 := and15 _ (by omega) (by omega)
        have hdig : encU true u = [92, 117, hxd (C / 4096).toNat, hxd (C / 256 % 16).toNat, hxd (C / 16 % 16).toNat, hxd (C % 16).toNat] := by
          have hu := HC.out
          rw [show (C / 4096).toNat = u / 4096 by omega, show (C / 256 % 16).toNat = u / 256 % 16 by omega, show (C / 16 % 16).toNat = u / 16 % 16 by omega, show (C % 16).toNat = u % 16 by omega]
          unfold encU
          rw [if_neg (by omega), if_neg (by omega), if_neg (by omega)]
        have HD := Lib.hid hdig
        clear hdig
        go_wp2
        all_goals
          go_region
          all_goals
            go_wp2
            go_roundw
            case rel =>
              refine ⟨k + 1, by omega, by first | rfl | rw [Int.natCast_add], ?_, (HO.out.alloc _).drew, (hb2.alloc hz _).drew⟩
              rw [HX.out _ HD.out]
              simp only [hxd_at]
              exact congrArg Value.string (congrArg (fun t => SB ++ t) (ba_app [92, 117] _))
            case measure => simp only [intOf]; omega
    · obtain rfl : k = n := by omega
      have L1 : decide ((k : Int) < (k : Int)) = false := by simp
      rw [List.take_of_length_le (by rw [HL.out]; omega)] at hown ⊢
      have hel := encL_len true l
      rw [HL.out] at hel
      have hsz := sB_size true l
      have hSS : (sB true l ++ ⟨#[39]⟩).data.toList = strT true l := by
        rw [show (⟨#[39]⟩ : ByteArray) = ⟨[39].toArray⟩ from rfl, sB, ba_app]; rfl
      have hSl := len_of (sB true l ++ ⟨#[39]⟩)
      rw [hSS] at hSl
      have hstl : (strT true l).length = (encL true l).length + 2 := by simp [strT]
      have hsc := scan_str true l (fun u hu => HF.out u hu) ((sB true l ++ ⟨#[39]⟩).size - 1)
      rw [← hSS, show (sB true l ++ ⟨#[39]⟩).size - 1 + 2 = (sB true l ++ ⟨#[39]⟩).size + 1 by omega] at hsc
      have HSC := Lib.hid hsc
      have HE := Lib.hid (And.intro hSl hstl)
      have hle : (sB true l ++ ⟨#[39]⟩).size ≤ 16384 := by omega
      have s1 : ¬ 9223372036854775807 < (sB true l).size + 1 := by omega
      obtain ⟨E, hE⟩ : ∃ E, (encL true l).length = E := ⟨_, rfl⟩
      rw [hE] at hsz HSC hel
      have w1a : IntKind.i64.wrap (((sB true l).size : Int) + 1) = ((E + 2 : Nat) : Int) := by rw [hsz, IntWalk.i64_in _ (by omega)]; omega
      clear hSS hSl hstl hsc hE
      have HC := Lib.hid (And.intro (keep_m hb (cell_lt HH.out.1) HH.out.1) (HH.out.2.1.below hb))
      go_wp2_with fail
      refine (scan_any _ m _ wr hle (cell_lt HC.out.1) HC.out.1 HC.out.2 HSC).mono ?_
      rintro e W3 ⟨v, f, rfl, ⟨rfl, g, cg, rfl, own⟩, b3⟩
      have q0 := tk_row own 0 _ rfl
      have q1 := tk_row own 1 _ rfl
      simp only [Nat.zero_mul, Nat.one_mul, Nat.reduceMul, Nat.reduceAdd, Nat.zero_add] at q0 q1
      have hgl := (own.lt g rfl).2
      have hbb := b0.trans (hb.mono b0.size)
      have bb3 := hbb.trans (b3.mono hbb.size)
      have u4 := (Below.refl W3.heap.size W3).alloc (Nat.le_refl _) (.cells #[.int .i64 0, .int .i64 0] 27)
      have bb4 := bb3.alloc bb3.size (.cells #[.int .i64 0, .int .i64 0] 27)
      have kb := Blk.new W3 27 #[.int .i64 0, .int .i64 0]
      obtain ⟨va, vcap, rfl, hsl, hsB⟩ := sliceR_own (l := ints l) (by rw [ints_length, HL.out]; exact hown)
      rw [ints_length, HL.out] at hsl ⊢
      have hsl4 := (hsl.below b3).below u4
      go_upto_region 24 with fail
      generalize hW4 : W3.alloc (.cells #[.int .i64 0, .int .i64 0] 27) = W4 at *
      have t0 := (u4.cell (p := ⟨g, 0, none⟩) hgl).trans q0.1
      have t1 := (u4.cell (p := ⟨g, 1, none⟩) hgl).trans q0.2.1
      have t6 := (u4.cell (p := ⟨g, 6, none⟩) hgl).trans q1.2.2.1
      have k0 : W4.cell? ⟨W3.heap.size, 0, none⟩ = some (.int .i64 0) := by rw [kb.cell]; rfl
      have HSL := Lib.hid hsl4
      clear q0 q1 own hsl hsB kb hown u4 hsl4
      have t1' : W4.cell? ⟨g, 1, none⟩ = some (.string (uS l)) := t1
      have Qk0 := fun d os => cell_regrown k0 d os
      have Qt0 := fun d os => cell_regrown t0 d os
      have Qt1 := fun d os => cell_regrown t1' d os
      have Qt6 := fun d os => cell_regrown t6 d os
      have DS := fun d os => Calls.regrown_of (str_any va k vcap l (grow (redrawn W4 d) os) (HSL.out.below (below_regrown W4 d os)) HF.out (by omega))
      have z1 : ((uS l).toList == (uS l).toList) = true := by simp
      clear k0 t0 t1 t1' t6
      refine wp_region_quiet_below (by kernel_rfl) (by kernel_rfl) ?_
      repeat (first | go_big_quiet_step (with_reducible exact DS _ _) | quiet_step (with_reducible exact DS _ _))
      refine wpQuiet_nil ?_
      intro _ hw'
      obtain ⟨⟨dq, osq⟩, hw''⟩ := hw'
      subst hw''
      clear DS Qk0 Qt0 Qt1 Qt6
      have bq := below_regrown W4 dq osq
      have be := bb4.trans (bq.mono bb4.size)
      go_wp2
      go_ret
      exact ⟨by first | (simp; done) | (simp; omega), be⟩

theorem strings_walk (a : Option Addr) (n cap : Nat) (l : List Nat) (sg : Bool) (m : Int) (w : World) (hr : SliceR .u16 w a n cap (ints l)) (hf : Fits l) (hm : w.cell? ⟨1, 0, none⟩ = some (.int .i64 m)) (tb : Tb w) :
    Calls Tryd.prog 4 #[.slice a n cap, .bool sg] w fun e w' => e = .returned (.bool true) ∧ Below w.heap.size w w' := by
  by_cases hbig : 500 < n
  · have hnm : n ≤ maxLen := Nat.le_trans hr.2.1 hr.2.2.1
    unfold maxLen at hnm
    have L0 : decide ((500 : Int) < (n : Int)) = true := by simp; omega
    go_enter Tryd.func4, Tryd.ntmps4
    go_wp2_with fail
    refine (fit_any m _ hm tb).mono ?_
    rintro e W ⟨rfl, b⟩
    clear hm tb hr
    go_wp2
    go_ret
    exact ⟨rfl, b⟩
  · cases sg
    · exact strings_false a n cap l m w (by omega) hr hf hm tb
    · exact strings_true a n cap l m w (by omega) hr hf hm tb
end Go.Proofs.YtolfcmfilfjgfaaDoor
