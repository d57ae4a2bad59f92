/- The walk of the statement ValueJoins. -/
import Derived.Test.YtjkboelcpihphaaDoorValH
import Derived.OwnWalk
set_option linter.unusedVariables false
set_option linter.unusedSimpArgs false
namespace Go.Proofs.YtjkboelcpihphaaDoor
open Go.RowKit

theorem catV (a b c : ByteArray) (h : Hid (c = a ++ b)) (hs : a.size + b.size ≤ 1000000) (W : World) : (Op.stringOp .add a b).run Tryd.prog W = .ok (.string c) W := by
  rw [h.out]; exact run_string_add_sum W a b (by omega)

set_option maxHeartbeats 8000000 in
set_option maxRecDepth 100000 in
theorem joins_ok (K N : Int) (a : Option Addr) (na ca : Nat) (b : Option Addr) (nb cb : Nat) (l : List Nat) (k n : Int) (s t : ByteArray) (Z1 Z2 : ByteArray) (HZ1 : Hid (Z1 = Tx.uS l ++ t)) (HZ2 : Hid (Z2 = t ++ Tx.uS l)) (hy : (Tx.uS l).size ≤ 4000) (ht : t.size ≤ 4000) (w : World) (hT : Tb w) (hL : Tx.SliceR .u16 w b nb cb (Tx.ints l)) (hf : Tx.Fits l) (hna : na ≤ 2000) (hnb : nb ≤ 2000)
    (CV : ∀ W, Below w.heap.size w W → Calls Tryd.prog 10 #[SeedV K N a na ca] W (Ret (VS k n s) W))
    (CT : ∀ W, Below w.heap.size w W → Calls Tryd.prog 14 #[VS k n s] W (Ret (.tuple #[.string t, .int .i64 0]) W))
    (CB1 : ∀ W, Below w.heap.size w W → Calls Tryd.prog 11 #[.string ⟨#[43]⟩, VS 7 0 (Tx.uS l), VS k n s] W (Ret (.tuple #[VS 7 0 Z1, .int .i64 0]) W))
    (CB2 : ∀ W, Below w.heap.size w W → Calls Tryd.prog 11 #[.string ⟨#[43]⟩, VS k n s, VS 7 0 (Tx.uS l)] W (Ret (.tuple #[VS 7 0 Z2, .int .i64 0]) W)) :
    Calls Tryd.prog 4 #[SeedV K N a na ca, .slice b nb cb] w fun e w' => e = .returned (.bool true) ∧ Below w.heap.size w w' := by
  have HCV := Lib.hid CV
  have HCT := Lib.hid CT
  have HCB1 := Lib.hid CB1
  have HCB2 := Lib.hid CB2
  clear CV CT CB1 CB2
  have HT := Lib.hid hT
  have HL := Lib.hid hL
  clear hT hL
  have s1 : decide ((2000 : Int) < (na : Int)) = false := by simp; omega
  have s2 : decide ((2000 : Int) < (nb : Int)) = false := by simp; omega
  go_enter Tryd.func4, Tryd.ntmps4
  go_wp2_with fail
  have k_q := Blk.new w 24 #[.int .i64 K, .int .i64 N, .slice a na ca]
  have bb : Below w.heap.size w _ := ((Below.refl _ _).alloc (Nat.le_refl _) (.cells #[.int .i64 K, .int .i64 N, .slice a na ca] 24))
  generalize (w.alloc (.cells #[.int .i64 K, .int .i64 N, .slice a na ca] 24)) = W0 at *
  refine (fit_any _ (HT.out.below bb)).mono ?_
  rintro e w1 ⟨rfl, b1⟩
  have k_q := k_q.below b1 k_q.lt
  have bb := bb.trans (b1.mono bb.size)
  have x_q0 : w1.cell? ⟨w.heap.size, 0, none⟩ = some (.int .i64 K) := by rw [k_q.cell]; rfl
  have x_q1 : w1.cell? ⟨w.heap.size, 1, none⟩ = some (.int .i64 N) := by rw [k_q.cell]; rfl
  have x_q2 : w1.cell? ⟨w.heap.size, 2, none⟩ = some (.slice a na ca) := by rw [k_q.cell]; rfl
  have l_q := k_q.lt
  go_wp2_with fail
  refine (HCV.out _ bb).mono ?_
  rintro e w2 ⟨rfl, b2⟩
  clear x_q0 x_q1 x_q2 l_q
  have k_q := k_q.below b2 k_q.lt
  have bb := bb.trans (b2.mono bb.size)
  have x_q0 : w2.cell? ⟨w.heap.size, 0, none⟩ = some (.int .i64 K) := by rw [k_q.cell]; rfl
  have x_q1 : w2.cell? ⟨w.heap.size, 1, none⟩ = some (.int .i64 N) := by rw [k_q.cell]; rfl
  have x_q2 : w2.cell? ⟨w.heap.size, 2, none⟩ = some (.slice a na ca) := by rw [k_q.cell]; rfl
  have l_q := k_q.lt
  go_wp2_with fail
  have hkx := Blk.new w2 27 #[.int .i64 k, .int .i64 n, .string s]
  have k_q := k_q.alloc (.cells #[.int .i64 k, .int .i64 n, .string s] 27)
  have bb := bb.alloc bb.size (.cells #[.int .i64 k, .int .i64 n, .string s] 27)
  clear x_q0 x_q1 x_q2 l_q
  generalize w2.alloc (.cells #[.int .i64 k, .int .i64 n, .string s] 27) = W at *
  have HKX := Lib.hid hkx
  have hxl := hkx.lt
  have HKQ := Lib.hid k_q
  have hbb := bb
  clear hkx k_q
  obtain ⟨i0, hi, hz0, hz1, hz2⟩ := info_parts Tx.infoInt
  obtain ⟨hl1, hl2, hl3, hl4, hl5⟩ := HL.out
  rw [Tx.ints_length] at hl1
  have H5 := Lib.hid hl5
  clear hl4 hl5
  go_loopw [6, 31] (fun v i wr => ∃ j : Nat, j ≤ nb ∧ i = .int .i64 j ∧ wr.ownsRow W.heap.size 3 1 v j (Tx.numCells .i64 (Tx.ints (l.take j))) ∧ Below W.heap.size W wr) (fun _ i _ => nb - (intOf i).toNat)
  case atStart => exact ⟨0, Nat.zero_le _, rfl, World.ownsRow_nil _ _ _ _, Below.refl _ _⟩
  case round =>
    obtain ⟨j, hj, rfl, hown, hb⟩ := hrel
    by_cases hlt : j < nb
    · obtain ⟨bk, off, rfl, hbl, hcell⟩ := H5.out (by omega)
      have bw := bb.trans (hb.mono bb.size)
      have hck := (bw.cell (p := ⟨bk, off + j, none⟩) hbl).trans (hcell j hlt)
      rw [Tx.ints_getD] at hck
      have hul : l.getD j 0 < 65536 := by
        rw [List.getD_eq_getElem?_getD, List.getElem?_eq_getElem (by omega)]; exact hf _ (List.getElem_mem _)
      have hts := Tx.take_snocN l j (by omega)
      obtain ⟨u, hu⟩ : ∃ u, u = l.getD j 0 := ⟨_, rfl⟩
      rw [← hu] at hck hul hts
      have HTS := Lib.hid hts
      clear hts hcell hl1 hu bw
      have hz := hb.size
      have hk0 : (0 : Int) ≤ (j : Int) := by omega
      have hk1 : (j : Int) < (nb : Int) := by omega
      have y0 : (0 : Int) ≤ (u : Int) := by omega
      go_wp2_with (at_builtin; refine wpList_append_own _ rfl _ _ 33 rfl W.heap.size 3 i0 (.int .i64 0) 1 8 Tryd.underlying33 hi hz0 hz1 hz2 rfl (by decide) _ _ _ rfl (hown.alloc _) ⟨wr.heap.size, 0, none⟩ 1 1 [.int .i64 (u : Int)] rfl rfl (by intro j v hj; match j, hj with | 0, hj => simp at hj; subst hj; simp [Addr.add]) (by simp [Value.oneCell']) (by unfold maxLen; omega) (by omega) (by simp; omega) ?_)
      intro v' w3 hown1 hgrow _
      have hb2 := (hb.alloc hz (.cells #[.int .i64 (u : Int)] 3)).grown hgrow (by simp; omega) (fun k' hk' => ((hown.alloc (.cells #[.int .i64 (u : Int)] 3)).lt k' hk').1)
      clear hown hgrow
      go_wp2
      go_roundw
      case rel =>
        refine ⟨j + 1, by omega, by go_num, ?_, hb2⟩
        rw [HTS.out, Tx.ints_append, Tx.numCells_append]
        exact hown1
      case measure => simp [intOf]; omega
    · have hk2 : j = nb := by omega
      subst hk2
      have t1 : decide ((j : Int) < (j : Int)) = false := by simp
      rw [List.take_of_length_le (by omega)] at hown
      subst hl1
      obtain ⟨a', cap', rfl, hR, hB⟩ := Tx.sliceR_own (l := Tx.ints l) (by rw [Tx.ints_length]; exact hown)
      rw [Tx.ints_length] at hR ⊢
      have HR := Lib.hid hR
      clear hR hown
      have k_x := HKX.out.below hb hxl
      have bb := bb.trans (hb.mono bb.size)
      go_wp2_with fail
      refine (Tx.str_any a' l.length cap' l _ HR.out hf (by omega)).mono ?_
      rintro e w4 ⟨rfl, b4⟩
      generalize Tx.uS l = y at *
      have k_x := k_x.below b4 k_x.lt
      have bb := bb.trans (b4.mono bb.size)
      have x_x0 : w4.cell? ⟨w2.heap.size, 0, none⟩ = some (.int .i64 k) := by rw [k_x.cell]; rfl
      have x_x1 : w4.cell? ⟨w2.heap.size, 1, none⟩ = some (.int .i64 n) := by rw [k_x.cell]; rfl
      have x_x2 : w4.cell? ⟨w2.heap.size, 2, none⟩ = some (.string s) := by rw [k_x.cell]; rfl
      have l_x := k_x.lt
      go_wp2_with fail
      have k_x := k_x.alloc (.cells #[.int .i64 7, .int .i64 0, .string y] 27)
      have k_y := Blk.new w4 27 #[.int .i64 7, .int .i64 0, .string y]
      have bb := bb.alloc bb.size (.cells #[.int .i64 7, .int .i64 0, .string y] 27)
      clear x_x0 x_x1 x_x2 l_x
      generalize w4.alloc (.cells #[.int .i64 7, .int .i64 0, .string y] 27) = V1 at *
      have x_x0 : V1.cell? ⟨w2.heap.size, 0, none⟩ = some (.int .i64 k) := by rw [k_x.cell]; rfl
      have x_x1 : V1.cell? ⟨w2.heap.size, 1, none⟩ = some (.int .i64 n) := by rw [k_x.cell]; rfl
      have x_x2 : V1.cell? ⟨w2.heap.size, 2, none⟩ = some (.string s) := by rw [k_x.cell]; rfl
      have l_x := k_x.lt
      have x_y0 : V1.cell? ⟨w4.heap.size, 0, none⟩ = some (.int .i64 7) := by rw [k_y.cell]; rfl
      have x_y1 : V1.cell? ⟨w4.heap.size, 1, none⟩ = some (.int .i64 0) := by rw [k_y.cell]; rfl
      have x_y2 : V1.cell? ⟨w4.heap.size, 2, none⟩ = some (.string y) := by rw [k_y.cell]; rfl
      have l_y := k_y.lt
      refine (HCT.out _ bb).mono ?_
      rintro e w5 ⟨rfl, b5⟩
      clear x_x0 x_x1 x_x2 l_x x_y0 x_y1 x_y2 l_y
      have k_x := k_x.below b5 k_x.lt
      have k_y := k_y.below b5 k_y.lt
      have bb := bb.trans (b5.mono bb.size)
      have x_x0 : w5.cell? ⟨w2.heap.size, 0, none⟩ = some (.int .i64 k) := by rw [k_x.cell]; rfl
      have x_x1 : w5.cell? ⟨w2.heap.size, 1, none⟩ = some (.int .i64 n) := by rw [k_x.cell]; rfl
      have x_x2 : w5.cell? ⟨w2.heap.size, 2, none⟩ = some (.string s) := by rw [k_x.cell]; rfl
      have l_x := k_x.lt
      have x_y0 : w5.cell? ⟨w4.heap.size, 0, none⟩ = some (.int .i64 7) := by rw [k_y.cell]; rfl
      have x_y1 : w5.cell? ⟨w4.heap.size, 1, none⟩ = some (.int .i64 0) := by rw [k_y.cell]; rfl
      have x_y2 : w5.cell? ⟨w4.heap.size, 2, none⟩ = some (.string y) := by rw [k_y.cell]; rfl
      have l_y := k_y.lt
      go_wp2_with fail
      refine (HCB1.out _ bb).mono ?_
      rintro e w6 ⟨rfl, b6⟩
      clear x_x0 x_x1 x_x2 l_x x_y0 x_y1 x_y2 l_y
      have k_x := k_x.below b6 k_x.lt
      have k_y := k_y.below b6 k_y.lt
      have bb := bb.trans (b6.mono bb.size)
      have x_x0 : w6.cell? ⟨w2.heap.size, 0, none⟩ = some (.int .i64 k) := by rw [k_x.cell]; rfl
      have x_x1 : w6.cell? ⟨w2.heap.size, 1, none⟩ = some (.int .i64 n) := by rw [k_x.cell]; rfl
      have x_x2 : w6.cell? ⟨w2.heap.size, 2, none⟩ = some (.string s) := by rw [k_x.cell]; rfl
      have l_x := k_x.lt
      have x_y0 : w6.cell? ⟨w4.heap.size, 0, none⟩ = some (.int .i64 7) := by rw [k_y.cell]; rfl
      have x_y1 : w6.cell? ⟨w4.heap.size, 1, none⟩ = some (.int .i64 0) := by rw [k_y.cell]; rfl
      have x_y2 : w6.cell? ⟨w4.heap.size, 2, none⟩ = some (.string y) := by rw [k_y.cell]; rfl
      have l_y := k_y.lt
      go_wp2_with fail
      have k_x := k_x.alloc (.cells #[.int .i64 7, .int .i64 0, .string Z1] 27)
      have k_y := k_y.alloc (.cells #[.int .i64 7, .int .i64 0, .string Z1] 27)
      have k_v := Blk.new w6 27 #[.int .i64 7, .int .i64 0, .string Z1]
      have bb := bb.alloc bb.size (.cells #[.int .i64 7, .int .i64 0, .string Z1] 27)
      clear x_x0 x_x1 x_x2 l_x x_y0 x_y1 x_y2 l_y
      generalize w6.alloc (.cells #[.int .i64 7, .int .i64 0, .string Z1] 27) = V2 at *
      refine (HCB2.out _ bb).mono ?_
      rintro e w7 ⟨rfl, b7⟩
      have k_x := k_x.below b7 k_x.lt
      have k_y := k_y.below b7 k_y.lt
      have k_v := k_v.below b7 k_v.lt
      have bb := bb.trans (b7.mono bb.size)
      have x_x0 : w7.cell? ⟨w2.heap.size, 0, none⟩ = some (.int .i64 k) := by rw [k_x.cell]; rfl
      have x_x1 : w7.cell? ⟨w2.heap.size, 1, none⟩ = some (.int .i64 n) := by rw [k_x.cell]; rfl
      have x_x2 : w7.cell? ⟨w2.heap.size, 2, none⟩ = some (.string s) := by rw [k_x.cell]; rfl
      have l_x := k_x.lt
      have x_y0 : w7.cell? ⟨w4.heap.size, 0, none⟩ = some (.int .i64 7) := by rw [k_y.cell]; rfl
      have x_y1 : w7.cell? ⟨w4.heap.size, 1, none⟩ = some (.int .i64 0) := by rw [k_y.cell]; rfl
      have x_y2 : w7.cell? ⟨w4.heap.size, 2, none⟩ = some (.string y) := by rw [k_y.cell]; rfl
      have l_y := k_y.lt
      have x_v0 : w7.cell? ⟨w6.heap.size, 0, none⟩ = some (.int .i64 7) := by rw [k_v.cell]; rfl
      have x_v1 : w7.cell? ⟨w6.heap.size, 1, none⟩ = some (.int .i64 0) := by rw [k_v.cell]; rfl
      have x_v2 : w7.cell? ⟨w6.heap.size, 2, none⟩ = some (.string Z1) := by rw [k_v.cell]; rfl
      have l_v := k_v.lt
      have c1 := fun W => catV _ _ _ HZ1 (by omega) W
      have c2 := fun W => catV _ _ _ HZ2 (by omega) W
      have q1 : (Z1.toList == Z1.toList) = true := by simp
      have q2 : (Z2.toList == Z2.toList) = true := by simp
      go_wp2_with fail
      go_ret
      exact ⟨by simp, bb.alloc bb.size _⟩
set_option maxHeartbeats 8000000 in
set_option maxRecDepth 100000 in
theorem joins_bad (K N : Int) (a : Option Addr) (na ca : Nat) (b : Option Addr) (nb cb : Nat) (l : List Nat) (k n : Int) (s t : ByteArray) (e1 : Int) (he : ¬ e1 = 0) (w : World) (hT : Tb w) (hL : Tx.SliceR .u16 w b nb cb (Tx.ints l)) (hf : Tx.Fits l) (hna : na ≤ 2000) (hnb : nb ≤ 2000)
    (CV : ∀ W, Below w.heap.size w W → Calls Tryd.prog 10 #[SeedV K N a na ca] W (Ret (VS k n s) W))
    (CT : ∀ W, Below w.heap.size w W → Calls Tryd.prog 14 #[VS k n s] W (Ret (.tuple #[.string t, .int .i64 e1]) W))
    (CB1 : ∀ W, Below w.heap.size w W → Calls Tryd.prog 11 #[.string ⟨#[43]⟩, VS 7 0 (Tx.uS l), VS k n s] W (Ret (.tuple #[VS 0 0 ⟨#[]⟩, .int .i64 e1]) W))
    (CB2 : ∀ W, Below w.heap.size w W → Calls Tryd.prog 11 #[.string ⟨#[43]⟩, VS k n s, VS 7 0 (Tx.uS l)] W (Ret (.tuple #[VS 0 0 ⟨#[]⟩, .int .i64 e1]) W)) :
    Calls Tryd.prog 4 #[SeedV K N a na ca, .slice b nb cb] w fun e w' => e = .returned (.bool true) ∧ Below w.heap.size w w' := by
  have HCV := Lib.hid CV
  have HCT := Lib.hid CT
  have HCB1 := Lib.hid CB1
  have HCB2 := Lib.hid CB2
  clear CV CT CB1 CB2
  have HT := Lib.hid hT
  have HL := Lib.hid hL
  clear hT hL
  have s1 : decide ((2000 : Int) < (na : Int)) = false := by simp; omega
  have s2 : decide ((2000 : Int) < (nb : Int)) = false := by simp; omega
  go_enter Tryd.func4, Tryd.ntmps4
  go_wp2_with fail
  have k_q := Blk.new w 24 #[.int .i64 K, .int .i64 N, .slice a na ca]
  have bb : Below w.heap.size w _ := ((Below.refl _ _).alloc (Nat.le_refl _) (.cells #[.int .i64 K, .int .i64 N, .slice a na ca] 24))
  generalize (w.alloc (.cells #[.int .i64 K, .int .i64 N, .slice a na ca] 24)) = W0 at *
  refine (fit_any _ (HT.out.below bb)).mono ?_
  rintro e w1 ⟨rfl, b1⟩
  have k_q := k_q.below b1 k_q.lt
  have bb := bb.trans (b1.mono bb.size)
  have x_q0 : w1.cell? ⟨w.heap.size, 0, none⟩ = some (.int .i64 K) := by rw [k_q.cell]; rfl
  have x_q1 : w1.cell? ⟨w.heap.size, 1, none⟩ = some (.int .i64 N) := by rw [k_q.cell]; rfl
  have x_q2 : w1.cell? ⟨w.heap.size, 2, none⟩ = some (.slice a na ca) := by rw [k_q.cell]; rfl
  have l_q := k_q.lt
  go_wp2_with fail
  refine (HCV.out _ bb).mono ?_
  rintro e w2 ⟨rfl, b2⟩
  clear x_q0 x_q1 x_q2 l_q
  have k_q := k_q.below b2 k_q.lt
  have bb := bb.trans (b2.mono bb.size)
  have x_q0 : w2.cell? ⟨w.heap.size, 0, none⟩ = some (.int .i64 K) := by rw [k_q.cell]; rfl
  have x_q1 : w2.cell? ⟨w.heap.size, 1, none⟩ = some (.int .i64 N) := by rw [k_q.cell]; rfl
  have x_q2 : w2.cell? ⟨w.heap.size, 2, none⟩ = some (.slice a na ca) := by rw [k_q.cell]; rfl
  have l_q := k_q.lt
  go_wp2_with fail
  have hkx := Blk.new w2 27 #[.int .i64 k, .int .i64 n, .string s]
  have k_q := k_q.alloc (.cells #[.int .i64 k, .int .i64 n, .string s] 27)
  have bb := bb.alloc bb.size (.cells #[.int .i64 k, .int .i64 n, .string s] 27)
  clear x_q0 x_q1 x_q2 l_q
  generalize w2.alloc (.cells #[.int .i64 k, .int .i64 n, .string s] 27) = W at *
  have HKX := Lib.hid hkx
  have hxl := hkx.lt
  have HKQ := Lib.hid k_q
  have hbb := bb
  clear hkx k_q
  obtain ⟨i0, hi, hz0, hz1, hz2⟩ := info_parts Tx.infoInt
  obtain ⟨hl1, hl2, hl3, hl4, hl5⟩ := HL.out
  rw [Tx.ints_length] at hl1
  have H5 := Lib.hid hl5
  clear hl4 hl5
  go_loopw [6, 31] (fun v i wr => ∃ j : Nat, j ≤ nb ∧ i = .int .i64 j ∧ wr.ownsRow W.heap.size 3 1 v j (Tx.numCells .i64 (Tx.ints (l.take j))) ∧ Below W.heap.size W wr) (fun _ i _ => nb - (intOf i).toNat)
  case atStart => exact ⟨0, Nat.zero_le _, rfl, World.ownsRow_nil _ _ _ _, Below.refl _ _⟩
  case round =>
    obtain ⟨j, hj, rfl, hown, hb⟩ := hrel
    by_cases hlt : j < nb
    · obtain ⟨bk, off, rfl, hbl, hcell⟩ := H5.out (by omega)
      have bw := bb.trans (hb.mono bb.size)
      have hck := (bw.cell (p := ⟨bk, off + j, none⟩) hbl).trans (hcell j hlt)
      rw [Tx.ints_getD] at hck
      have hul : l.getD j 0 < 65536 := by
        rw [List.getD_eq_getElem?_getD, List.getElem?_eq_getElem (by omega)]; exact hf _ (List.getElem_mem _)
      have hts := Tx.take_snocN l j (by omega)
      obtain ⟨u, hu⟩ : ∃ u, u = l.getD j 0 := ⟨_, rfl⟩
      rw [← hu] at hck hul hts
      have HTS := Lib.hid hts
      clear hts hcell hl1 hu bw
      have hz := hb.size
      have hk0 : (0 : Int) ≤ (j : Int) := by omega
      have hk1 : (j : Int) < (nb : Int) := by omega
      have y0 : (0 : Int) ≤ (u : Int) := by omega
      go_wp2_with (at_builtin; refine wpList_append_own _ rfl _ _ 33 rfl W.heap.size 3 i0 (.int .i64 0) 1 8 Tryd.underlying33 hi hz0 hz1 hz2 rfl (by decide) _ _ _ rfl (hown.alloc _) ⟨wr.heap.size, 0, none⟩ 1 1 [.int .i64 (u : Int)] rfl rfl (by intro j v hj; match j, hj with | 0, hj => simp at hj; subst hj; simp [Addr.add]) (by simp [Value.oneCell']) (by unfold maxLen; omega) (by omega) (by simp; omega) ?_)
      intro v' w3 hown1 hgrow _
      have hb2 := (hb.alloc hz (.cells #[.int .i64 (u : Int)] 3)).grown hgrow (by simp; omega) (fun k' hk' => ((hown.alloc (.cells #[.int .i64 (u : Int)] 3)).lt k' hk').1)
      clear hown hgrow
      go_wp2
      go_roundw
      case rel =>
        refine ⟨j + 1, by omega, by go_num, ?_, hb2⟩
        rw [HTS.out, Tx.ints_append, Tx.numCells_append]
        exact hown1
      case measure => simp [intOf]; omega
    · have hk2 : j = nb := by omega
      subst hk2
      have t1 : decide ((j : Int) < (j : Int)) = false := by simp
      rw [List.take_of_length_le (by omega)] at hown
      subst hl1
      obtain ⟨a', cap', rfl, hR, hB⟩ := Tx.sliceR_own (l := Tx.ints l) (by rw [Tx.ints_length]; exact hown)
      rw [Tx.ints_length] at hR ⊢
      have HR := Lib.hid hR
      clear hR hown
      have k_x := HKX.out.below hb hxl
      have bb := bb.trans (hb.mono bb.size)
      go_wp2_with fail
      refine (Tx.str_any a' l.length cap' l _ HR.out hf (by omega)).mono ?_
      rintro e w4 ⟨rfl, b4⟩
      generalize Tx.uS l = y at *
      have k_x := k_x.below b4 k_x.lt
      have bb := bb.trans (b4.mono bb.size)
      have x_x0 : w4.cell? ⟨w2.heap.size, 0, none⟩ = some (.int .i64 k) := by rw [k_x.cell]; rfl
      have x_x1 : w4.cell? ⟨w2.heap.size, 1, none⟩ = some (.int .i64 n) := by rw [k_x.cell]; rfl
      have x_x2 : w4.cell? ⟨w2.heap.size, 2, none⟩ = some (.string s) := by rw [k_x.cell]; rfl
      have l_x := k_x.lt
      go_wp2_with fail
      have k_x := k_x.alloc (.cells #[.int .i64 7, .int .i64 0, .string y] 27)
      have k_y := Blk.new w4 27 #[.int .i64 7, .int .i64 0, .string y]
      have bb := bb.alloc bb.size (.cells #[.int .i64 7, .int .i64 0, .string y] 27)
      clear x_x0 x_x1 x_x2 l_x
      generalize w4.alloc (.cells #[.int .i64 7, .int .i64 0, .string y] 27) = V1 at *
      have x_x0 : V1.cell? ⟨w2.heap.size, 0, none⟩ = some (.int .i64 k) := by rw [k_x.cell]; rfl
      have x_x1 : V1.cell? ⟨w2.heap.size, 1, none⟩ = some (.int .i64 n) := by rw [k_x.cell]; rfl
      have x_x2 : V1.cell? ⟨w2.heap.size, 2, none⟩ = some (.string s) := by rw [k_x.cell]; rfl
      have l_x := k_x.lt
      have x_y0 : V1.cell? ⟨w4.heap.size, 0, none⟩ = some (.int .i64 7) := by rw [k_y.cell]; rfl
      have x_y1 : V1.cell? ⟨w4.heap.size, 1, none⟩ = some (.int .i64 0) := by rw [k_y.cell]; rfl
      have x_y2 : V1.cell? ⟨w4.heap.size, 2, none⟩ = some (.string y) := by rw [k_y.cell]; rfl
      have l_y := k_y.lt
      refine (HCT.out _ bb).mono ?_
      rintro e w5 ⟨rfl, b5⟩
      clear x_x0 x_x1 x_x2 l_x x_y0 x_y1 x_y2 l_y
      have k_x := k_x.below b5 k_x.lt
      have k_y := k_y.below b5 k_y.lt
      have bb := bb.trans (b5.mono bb.size)
      have x_x0 : w5.cell? ⟨w2.heap.size, 0, none⟩ = some (.int .i64 k) := by rw [k_x.cell]; rfl
      have x_x1 : w5.cell? ⟨w2.heap.size, 1, none⟩ = some (.int .i64 n) := by rw [k_x.cell]; rfl
      have x_x2 : w5.cell? ⟨w2.heap.size, 2, none⟩ = some (.string s) := by rw [k_x.cell]; rfl
      have l_x := k_x.lt
      have x_y0 : w5.cell? ⟨w4.heap.size, 0, none⟩ = some (.int .i64 7) := by rw [k_y.cell]; rfl
      have x_y1 : w5.cell? ⟨w4.heap.size, 1, none⟩ = some (.int .i64 0) := by rw [k_y.cell]; rfl
      have x_y2 : w5.cell? ⟨w4.heap.size, 2, none⟩ = some (.string y) := by rw [k_y.cell]; rfl
      have l_y := k_y.lt
      go_wp2_with fail
      refine (HCB1.out _ bb).mono ?_
      rintro e w6 ⟨rfl, b6⟩
      clear x_x0 x_x1 x_x2 l_x x_y0 x_y1 x_y2 l_y
      have k_x := k_x.below b6 k_x.lt
      have k_y := k_y.below b6 k_y.lt
      have bb := bb.trans (b6.mono bb.size)
      have x_x0 : w6.cell? ⟨w2.heap.size, 0, none⟩ = some (.int .i64 k) := by rw [k_x.cell]; rfl
      have x_x1 : w6.cell? ⟨w2.heap.size, 1, none⟩ = some (.int .i64 n) := by rw [k_x.cell]; rfl
      have x_x2 : w6.cell? ⟨w2.heap.size, 2, none⟩ = some (.string s) := by rw [k_x.cell]; rfl
      have l_x := k_x.lt
      have x_y0 : w6.cell? ⟨w4.heap.size, 0, none⟩ = some (.int .i64 7) := by rw [k_y.cell]; rfl
      have x_y1 : w6.cell? ⟨w4.heap.size, 1, none⟩ = some (.int .i64 0) := by rw [k_y.cell]; rfl
      have x_y2 : w6.cell? ⟨w4.heap.size, 2, none⟩ = some (.string y) := by rw [k_y.cell]; rfl
      have l_y := k_y.lt
      go_wp2_with fail
      have k_x := k_x.alloc (.cells #[.int .i64 0, .int .i64 0, .string ⟨#[]⟩] 27)
      have k_y := k_y.alloc (.cells #[.int .i64 0, .int .i64 0, .string ⟨#[]⟩] 27)
      have k_v := Blk.new w6 27 #[.int .i64 0, .int .i64 0, .string ⟨#[]⟩]
      have bb := bb.alloc bb.size (.cells #[.int .i64 0, .int .i64 0, .string ⟨#[]⟩] 27)
      clear x_x0 x_x1 x_x2 l_x x_y0 x_y1 x_y2 l_y
      generalize w6.alloc (.cells #[.int .i64 0, .int .i64 0, .string ⟨#[]⟩] 27) = V2 at *
      refine (HCB2.out _ bb).mono ?_
      rintro e w7 ⟨rfl, b7⟩
      have k_x := k_x.below b7 k_x.lt
      have k_y := k_y.below b7 k_y.lt
      have k_v := k_v.below b7 k_v.lt
      have bb := bb.trans (b7.mono bb.size)
      have x_x0 : w7.cell? ⟨w2.heap.size, 0, none⟩ = some (.int .i64 k) := by rw [k_x.cell]; rfl
      have x_x1 : w7.cell? ⟨w2.heap.size, 1, none⟩ = some (.int .i64 n) := by rw [k_x.cell]; rfl
      have x_x2 : w7.cell? ⟨w2.heap.size, 2, none⟩ = some (.string s) := by rw [k_x.cell]; rfl
      have l_x := k_x.lt
      have x_y0 : w7.cell? ⟨w4.heap.size, 0, none⟩ = some (.int .i64 7) := by rw [k_y.cell]; rfl
      have x_y1 : w7.cell? ⟨w4.heap.size, 1, none⟩ = some (.int .i64 0) := by rw [k_y.cell]; rfl
      have x_y2 : w7.cell? ⟨w4.heap.size, 2, none⟩ = some (.string y) := by rw [k_y.cell]; rfl
      have l_y := k_y.lt
      have x_v0 : w7.cell? ⟨w6.heap.size, 0, none⟩ = some (.int .i64 0) := by rw [k_v.cell]; rfl
      have x_v1 : w7.cell? ⟨w6.heap.size, 1, none⟩ = some (.int .i64 0) := by rw [k_v.cell]; rfl
      have x_v2 : w7.cell? ⟨w6.heap.size, 2, none⟩ = some (.string ⟨#[]⟩) := by rw [k_v.cell]; rfl
      have l_v := k_v.lt
      have q1 : (e1 == e1) = true := by simp
      have q2 : (e1 != 0) = true := by simpa using he
      have q3 : ¬ e1 = 0 := he
      have q4 : (e1 != e1) = false := by simp
      go_wp2_with fail
      go_ret
      exact ⟨by simp, bb.alloc bb.size _⟩
set_option maxHeartbeats 8000000 in
set_option maxRecDepth 100000 in
theorem joins_big1 (K N : Int) (a : Option Addr) (na ca : Nat) (b : Option Addr) (nb cb : Nat) (w : World) (hT : Tb w) (h1 : 2000 < na)  :
    Calls Tryd.prog 4 #[SeedV K N a na ca, .slice b nb cb] w fun e w' => e = .returned (.bool true) ∧ Below w.heap.size w w' := by
  have HT := Lib.hid hT
  clear hT
  have s1 : decide ((2000 : Int) < (na : Int)) = true := by simp; omega
  go_enter Tryd.func4, Tryd.ntmps4
  go_wp2_with fail
  have k_q := Blk.new w 24 #[.int .i64 K, .int .i64 N, .slice a na ca]
  have bb : Below w.heap.size w _ := ((Below.refl _ _).alloc (Nat.le_refl _) (.cells #[.int .i64 K, .int .i64 N, .slice a na ca] 24))
  generalize (w.alloc (.cells #[.int .i64 K, .int .i64 N, .slice a na ca] 24)) = W0 at *
  refine (fit_any _ (HT.out.below bb)).mono ?_
  rintro e w1 ⟨rfl, b1⟩
  have k_q := k_q.below b1 k_q.lt
  have bb := bb.trans (b1.mono bb.size)
  have x_q0 : w1.cell? ⟨w.heap.size, 0, none⟩ = some (.int .i64 K) := by rw [k_q.cell]; rfl
  have x_q1 : w1.cell? ⟨w.heap.size, 1, none⟩ = some (.int .i64 N) := by rw [k_q.cell]; rfl
  have x_q2 : w1.cell? ⟨w.heap.size, 2, none⟩ = some (.slice a na ca) := by rw [k_q.cell]; rfl
  have l_q := k_q.lt
  go_wp2_with fail
  go_ret
  exact ⟨by simp, bb⟩
set_option maxHeartbeats 8000000 in
set_option maxRecDepth 100000 in
theorem joins_big2 (K N : Int) (a : Option Addr) (na ca : Nat) (b : Option Addr) (nb cb : Nat) (w : World) (hT : Tb w) (h1 : na ≤ 2000) (h2 : 2000 < nb) :
    Calls Tryd.prog 4 #[SeedV K N a na ca, .slice b nb cb] w fun e w' => e = .returned (.bool true) ∧ Below w.heap.size w w' := by
  have HT := Lib.hid hT
  clear hT
  have s1 : decide ((2000 : Int) < (na : Int)) = false := by simp; omega
  have s2 : decide ((2000 : Int) < (nb : Int)) = true := by simp; omega
  go_enter Tryd.func4, Tryd.ntmps4
  go_wp2_with fail
  have k_q := Blk.new w 24 #[.int .i64 K, .int .i64 N, .slice a na ca]
  have bb : Below w.heap.size w _ := ((Below.refl _ _).alloc (Nat.le_refl _) (.cells #[.int .i64 K, .int .i64 N, .slice a na ca] 24))
  generalize (w.alloc (.cells #[.int .i64 K, .int .i64 N, .slice a na ca] 24)) = W0 at *
  refine (fit_any _ (HT.out.below bb)).mono ?_
  rintro e w1 ⟨rfl, b1⟩
  have k_q := k_q.below b1 k_q.lt
  have bb := bb.trans (b1.mono bb.size)
  have x_q0 : w1.cell? ⟨w.heap.size, 0, none⟩ = some (.int .i64 K) := by rw [k_q.cell]; rfl
  have x_q1 : w1.cell? ⟨w.heap.size, 1, none⟩ = some (.int .i64 N) := by rw [k_q.cell]; rfl
  have x_q2 : w1.cell? ⟨w.heap.size, 2, none⟩ = some (.slice a na ca) := by rw [k_q.cell]; rfl
  have l_q := k_q.lt
  go_wp2_with fail
  go_ret
  exact ⟨by simp, bb⟩
end Go.Proofs.YtjkboelcpihphaaDoor
