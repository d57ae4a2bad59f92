/- The statement LexBlanks: its walk. -/
import Derived.Test.YtolfcmfilfjgfaaDoorLexI
import Derived.Test.YtolfcmfilfjgfaaDoorLexBlanksP
import Derived.Test.YtolfcmfilfjgfaaDoorSlc
import Derived.Laws.BitsLemmas
import Derived.BigRegion
import Derived.BigQuiet
import Derived.Deep.QuietTactic
import Derived.ChangeAlike
set_option linter.unusedVariables false
set_option linter.unusedSimpArgs false
namespace Go.Proofs.YtolfcmfilfjgfaaDoor
open Go.RowKit

theorem and3 (x : Int) : ∃ j : Nat, j < 4 ∧ bits .and .i64 x 3 = (j : Int) := by
  have h : ((BitVec.ofInt 64 x) &&& (BitVec.ofInt 64 3)).toNat < 4 := by
    rw [BitVec.toNat_and]; exact Nat.lt_of_le_of_lt Nat.and_le_right (by decide)
  refine ⟨((BitVec.ofInt 64 x) &&& (BitVec.ofInt 64 3)).toNat, h, ?_⟩
  show IntKind.i64.wrap ((((BitVec.ofInt 64 x) &&& (BitVec.ofInt 64 3)).toNat : Nat) : Int) = _
  exact IntWalk.i64_in _ (by omega)
theorem pick_any (a : Option Addr) (n cap : Nat) (l : List Int) (i : Nat) (hi : i ≤ 100000) (hn : n ≤ maxLen) : ∃ j : Nat, j < 4 ∧ ∀ w, SliceR .i64 w a n cap l →
    Calls Tryd.prog 8 #[.slice a n cap, .int .i64 i] w fun e w' => e = .returned (.int .i64 j) ∧ w = w' := by
  unfold maxLen at hn
  by_cases hl : i < n
  · have L1 : decide ((i : Int) < (n : Int)) = true := by simpa using hl
    have x0 : (0 : Int) ≤ i := by omega
    have x1 : (i : Int) < n := by omega
    have x2 : (i : Int).toNat = i := by omega
    obtain ⟨j, hj, hz⟩ := and3 (l.getD i 0)
    refine ⟨j, hj, fun w ⟨h1, h2, h3, h3', h4⟩ => ?_⟩
    obtain ⟨b, off, rfl, hb, hc⟩ := h4 (by omega)
    have hci := hc i hl
    generalize l.getD i 0 = z at *
    clear hc h3' h4
    go_enter Tryd.func8, Tryd.ntmps8
    go_wp2
    go_ret
    exact ⟨by rfl, rfl⟩
  · have L1 : decide ((i : Int) < (n : Int)) = false := by simpa using hl
    refine ⟨0, by omega, fun w ⟨h1, h2, h3, h3', h4⟩ => ?_⟩
    clear h4 h3'
    go_enter Tryd.func8, Tryd.ntmps8
    go_wp2
    go_ret
    exact ⟨by rfl, rfl⟩

set_option maxHeartbeats 4000000 in
set_option maxRecDepth 100000 in
theorem blanks_walk (s : ByteArray) (ha : Option Addr) (hn hc : Nat) (hl : List Int) (m : Int) (w : World) (hs : s.size ≤ 9223372036854775807) (hr : SliceR .i64 w ha hn hc hl) (hm : w.cell? ⟨1, 0, none⟩ = some (.int .i64 m)) (tb : Tb w) :
    Calls Tryd.prog 3 #[.string s, .slice ha hn hc] w fun e w' => e = .returned (.bool true) ∧ Below w.heap.size w w' := by
  have hlen := len_of s
  by_cases hbig : 1000 < s.size
  · have L0 : decide ((1000 : Int) < (s.size : Int)) = true := by simp; omega
    go_enter Tryd.func3, Tryd.ntmps3
    go_wp2_with fail
    refine (fit_any m _ hm tb).mono ?_
    rintro e W ⟨rfl, b⟩
    clear hm tb hr
    go_wp2
    go_ret
    exact ⟨rfl, b⟩
  · have L0 : decide ((1000 : Int) < (s.size : Int)) = false := by simp; omega
    obtain ⟨R, hR⟩ : ∃ R, scanL (s.size + 1) s.data.toList 0 = R := ⟨_, rfl⟩
    have h2 := cell_lt hm
    have HR := Lib.hid hR
    clear hR
    go_enter Tryd.func3, Tryd.ntmps3
    go_wp2_with fail
    refine (fit_any m _ hm tb).mono ?_
    rintro e W0 ⟨rfl, b0⟩
    have hm0 := keep_m b0 h2 hm
    have tb0 := tb.below b0
    have hr0 := hr.below b0
    have HH := Lib.hid (And.intro hm0 (And.intro tb0 hr0))
    clear hm tb hm0 tb0 hr hr0
    go_wp2_with fail
    refine (scan_any s m R W0 (by omega) (cell_lt HH.out.1) HH.out.1 HH.out.2.1 HR).mono ?_
    rintro e W1 ⟨v, f, rfl, hsr, b1⟩
    have bb1 := b0.trans (b1.mono b0.size)
    have hm1 := keep_m b1 (cell_lt HH.out.1) HH.out.1
    have tb1 := HH.out.2.1.below b1
    have hr1 := HH.out.2.2.below b1
    have H1 := Lib.hid (And.intro hm1 (And.intro tb1 hr1))
    clear hm1 tb1 hr1 HH b0 b1
    cases R with
    | bad p =>
      obtain ⟨rfl, rfl⟩ := hsr
      go_wp2
      go_ret
      exact ⟨rfl, bb1.alloc bb1.size _⟩
    | toks L =>
      obtain ⟨rfl, g, cap, rfl, own⟩ := hsr
      have hLlen := scan_len _ _ _ _ HR.out
      rw [hlen] at hLlen
      obtain ⟨nl, hnl⟩ : ∃ nl, L.length = nl := ⟨_, rfl⟩
      rw [hnl] at own hLlen
      have HN := Lib.hid hnl
      clear hnl
      rw [HN.out]
      have hgl := (own.lt g rfl).2
      have kb : Blk (W1.alloc (.cells #[.int .i64 0, .int .i64 0] 27)) W1.heap.size 27 #[.int .i64 0, .int .i64 0] := Blk.new _ _ _
      have b2 := bb1.alloc bb1.size (.cells #[.int .i64 0, .int .i64 0] 27)
      have u2 := (Below.refl W1.heap.size W1).alloc (Nat.le_refl _) (.cells #[.int .i64 0, .int .i64 0] 27)
      have HB := Lib.hid b2
      have HU := Lib.hid u2
      have HO := Lib.hid own
      clear kb b2 u2 own
      go_wp2_with fail
      have hb2 := HB.out
      have hu2 := HU.out
      obtain ⟨hToks, hsum⟩ := scan_toks _ _ _ _ HR.out
      rw [hlen] at hsum
      have HT := Lib.hid hToks
      clear hToks
      generalize W1.alloc (.cells #[.int .i64 0, .int .i64 0] 27) = W2 at *
      have hgl2 : g < W2.heap.size := Nat.lt_of_lt_of_le hgl hu2.size
      go_loopw [7, 31] (fun vt vi wr => ∃ (i : Nat) (js : List Nat), i ≤ nl ∧ vi = .int .i64 i ∧ js.length = i ∧ vt = .string ⟨(joinT (L.take i) js).toArray⟩ ∧ (∀ x ∈ L.take i, x.k ≠ 4) ∧ Below W1.heap.size W1 wr ∧ Below w.heap.size w wr) (fun _ vi _ => nl - (intOf vi).toNat)
      case atStart => exact ⟨0, [], by omega, rfl, rfl, rfl, (fun x hx => by simp at hx), hu2, hb2⟩
      case round =>
        obtain ⟨i, js, hi, rfl, hjs, rfl, hall, bw, bb⟩ := hrel
        by_cases hil : i < nl
        · have L1 : decide ((i : Int) < (nl : Int)) = true := by simp; omega
          have y0 : (0 : Int) ≤ i := by omega
          have y1 : (i : Int) < nl := by omega
          have y2 : (i : Int).toNat = i := by omega
          have a1 : IntKind.i64.wrap ((i : Int) + 1) = ((i + 1 : Nat) : Int) := by rw [IntWalk.i64_in _ (by omega)]; rfl
          have hiL : i < L.length := by rw [HN.out]; exact hil
          obtain ⟨x, hx⟩ : ∃ x, L[i]? = some x := ⟨_, List.getElem?_eq_getElem hiL⟩
          have own' : W1.ownsRow W0.heap.size 31 4 (.slice (some ⟨g, 0, none⟩) L.length cap) L.length (tkCells L) := by rw [HN.out]; exact HO.out
          obtain ⟨q0, q1, q2, q3⟩ := tk_row own' i x hx
          have r0 := (bw.cell (p := ⟨g, i * 4, none⟩) hgl).trans q0
          have r1 := (bw.cell (p := ⟨g, i * 4 + 1, none⟩) hgl).trans q1
          have r2 := (bw.cell (p := ⟨g, i * 4 + 2, none⟩) hgl).trans q2
          have r3 := (bw.cell (p := ⟨g, i * 4 + 3, none⟩) hgl).trans q3
          have htk : L.take (i + 1) = L.take i ++ [x] := by rw [List.take_succ_eq_append_getElem hiL, (List.getElem?_eq_some_iff.1 hx).2]
          have HX := Lib.hid (And.intro hx htk)
          clear q0 q1 q2 q3 own' hx htk
          obtain ⟨kx, tx, ax, nx⟩ := x
          simp only at r0 r1 r2 r3
          by_cases hk4 : kx = 4
          · have L2 : ((kx : Int) == 4) = true := by simp; omega
            subst hk4
            have bz := bb.size
            go_wp2
            go_ret
            exact ⟨rfl, bb.alloc bz _⟩
          · have L2 : ((kx : Int) == 4) = false := by simp; omega
            have hwt := wt_le L i _ HX.out.1 hk4
            simp only at hwt
            have hJ : (joinT (L.take i) js).length ≤ 8 * (L.map wt).sum := Nat.le_trans (joinT_len _ _) (Nat.mul_le_mul_left 8 (sum_take L i hall))
            have s1 : ¬ 9223372036854775807 < tx.length + 1 := by omega
            have t1 : ¬ 9223372036854775807 < tx.length + 1 + 1 := by omega
            have t2 : ¬ 9223372036854775807 < tx.length + 1 + 7 := by omega
            have t3 : ¬ 9223372036854775807 < tx.length + 1 + 5 := by omega
            have v1 : ¬ 9223372036854775807 < (joinT (L.take i) js).length + (tx.length + 1 + 1) := by omega
            have v2 : ¬ 9223372036854775807 < (joinT (L.take i) js).length + (tx.length + 1 + 7) := by omega
            have v3 : ¬ 9223372036854775807 < (joinT (L.take i) js).length + (tx.length + 1 + 5) := by omega
            have bz := bb.size
            have wz := bw.size
            obtain ⟨J, hJe⟩ : ∃ J, joinT (L.take i) js = J := ⟨_, rfl⟩
            rw [hJe] at v1 v2 v3 hJ ⊢
            have HJ := Lib.hid hJe
            have HA := Lib.hid hall
            have HS := Lib.hid hsum
            clear hJe hall hsum
            go_upto_region 14 with fail
            have bw2 := bw.alloc wz (.cells #[.int .i64 (kx : Int), .string ⟨tx.toArray⟩, .int .i64 (ax : Int), .int .i64 (nx : Int)] 31)
            have bb2 := bb.alloc bz (.cells #[.int .i64 (kx : Int), .string ⟨tx.toArray⟩, .int .i64 (ax : Int), .int .i64 (nx : Int)] 31)
            have kq := Blk.new wr 31 #[.int .i64 (kx : Int), .string ⟨tx.toArray⟩, .int .i64 (ax : Int), .int .i64 (nx : Int)]
            generalize wr.alloc (.cells #[.int .i64 (kx : Int), .string ⟨tx.toArray⟩, .int .i64 (ax : Int), .int .i64 (nx : Int)] 31) = wq at *
            have x1 : wq.cell? ⟨wr.heap.size, 1, none⟩ = some (.string ⟨tx.toArray⟩) := by rw [kq.cell]; rfl
            have xl := kq.lt
            have bz2 := bb2.size
            have wz2 := bw2.size
            clear r0 r1 r2 r3 bw bb kq
            obtain ⟨j, hj, hpick⟩ := pick_any ha hn hc hl i (by omega) (Nat.le_trans H1.out.2.2.2.1 H1.out.2.2.2.2.1)
            have HP := Lib.hid hpick
            clear hpick
            have HX2 := Lib.hid HX.out.2
            have hall2 : ∀ y ∈ L.take (i + 1), y.k ≠ 4 := by
              intro y hy
              rw [HX2.out] at hy
              rcases List.mem_append.1 hy with hy | hy
              · exact HA.out y hy
              · rw [List.mem_singleton.1 hy]; exact hk4
            have hstr : ∀ j, joinT (L.take (i + 1)) (js ++ [j]) = J ++ (tx ++ (32 :: sepL j)) := fun j => by
              rw [HX2.out, joinT_snoc _ _ _ _ (by rw [hjs, List.length_take]; omega), HJ.out]
            have HS2 := Lib.hid hstr
            have HA2 := Lib.hid hall2
            clear hstr hall2
            rcases (show j = 0 ∨ j = 1 ∨ j = 2 ∨ j = 3 by omega) with rfl | rfl | rfl | rfl
            · go_region_with (go_at_call 8; refine (HP.out _ (H1.out.2.2.below (by repeat (first | exact bw2 | (refine Below.drew ?_) | (refine Below.alloc ?_ (by first | omega | (simp; omega)) _))))).mono ?_; rintro e w' ⟨rfl, rfl⟩)
              all_goals
                go_wp2
                go_roundw
                case rel =>
                  refine ⟨i + 1, js ++ [0], by omega, by first | rfl | rw [Int.natCast_add], by rw [List.length_append, hjs]; rfl, ?_, HA2.out, (by repeat (first | exact bw2 | (refine Below.drew ?_) | (refine Below.alloc ?_ (by first | omega | (simp; omega)) _))), (by repeat (first | exact bb2 | (refine Below.drew ?_) | (refine Below.alloc ?_ (by first | omega | (simp; omega)) _)))⟩
                  rw [HS2.out]
                  simp [ba_app, sepL]
                case measure => simp only [intOf]; omega
            · go_region_with (go_at_call 8; refine (HP.out _ (H1.out.2.2.below (by repeat (first | exact bw2 | (refine Below.drew ?_) | (refine Below.alloc ?_ (by first | omega | (simp; omega)) _))))).mono ?_; rintro e w' ⟨rfl, rfl⟩)
              all_goals
                go_wp2
                go_roundw
                case rel =>
                  refine ⟨i + 1, js ++ [1], by omega, by first | rfl | rw [Int.natCast_add], by rw [List.length_append, hjs]; rfl, ?_, HA2.out, (by repeat (first | exact bw2 | (refine Below.drew ?_) | (refine Below.alloc ?_ (by first | omega | (simp; omega)) _))), (by repeat (first | exact bb2 | (refine Below.drew ?_) | (refine Below.alloc ?_ (by first | omega | (simp; omega)) _)))⟩
                  rw [HS2.out]
                  simp [ba_app, sepL]
                case measure => simp only [intOf]; omega
            · go_region_with (go_at_call 8; refine (HP.out _ (H1.out.2.2.below (by repeat (first | exact bw2 | (refine Below.drew ?_) | (refine Below.alloc ?_ (by first | omega | (simp; omega)) _))))).mono ?_; rintro e w' ⟨rfl, rfl⟩)
              all_goals
                go_wp2
                go_roundw
                case rel =>
                  refine ⟨i + 1, js ++ [2], by omega, by first | rfl | rw [Int.natCast_add], by rw [List.length_append, hjs]; rfl, ?_, HA2.out, (by repeat (first | exact bw2 | (refine Below.drew ?_) | (refine Below.alloc ?_ (by first | omega | (simp; omega)) _))), (by repeat (first | exact bb2 | (refine Below.drew ?_) | (refine Below.alloc ?_ (by first | omega | (simp; omega)) _)))⟩
                  rw [HS2.out]
                  simp [ba_app, sepL]
                case measure => simp only [intOf]; omega
            · go_region_with (go_at_call 8; refine (HP.out _ (H1.out.2.2.below (by repeat (first | exact bw2 | (refine Below.drew ?_) | (refine Below.alloc ?_ (by first | omega | (simp; omega)) _))))).mono ?_; rintro e w' ⟨rfl, rfl⟩)
              all_goals
                go_wp2
                go_roundw
                case rel =>
                  refine ⟨i + 1, js ++ [3], by omega, by first | rfl | rw [Int.natCast_add], by rw [List.length_append, hjs]; rfl, ?_, HA2.out, (by repeat (first | exact bw2 | (refine Below.drew ?_) | (refine Below.alloc ?_ (by first | omega | (simp; omega)) _))), (by repeat (first | exact bb2 | (refine Below.drew ?_) | (refine Below.alloc ?_ (by first | omega | (simp; omega)) _)))⟩
                  rw [HS2.out]
                  simp [ba_app, sepL]
                case measure => simp only [intOf]; omega
        · obtain rfl : i = nl := by omega
          have L1 : decide ((i : Int) < (i : Int)) = false := by simp
          rw [show L.take i = L by rw [← HN.out, List.take_length]] at hall ⊢
          obtain ⟨TB, hTB⟩ : ∃ TB : ByteArray, (⟨(joinT L js).toArray⟩ : ByteArray) = TB := ⟨_, rfl⟩
          have hTl : TB.data.toList = joinT L js := by rw [← hTB]
          have hTs := len_of TB
          rw [hTl] at hTs
          have hjl : js.length = L.length := by rw [hjs, HN.out]
          have hge := joinT_ge L js hjl
          have hle := Nat.le_trans (joinT_len L js) (Nat.mul_le_mul_left 8 (by have := sum_take L L.length (by rw [List.take_length]; exact hall); rwa [List.take_length] at this))
          obtain ⟨M, hM, hSame⟩ := scan_join L HT.out hall js hjl [] isB_nil (TB.size + 1) 0 (by omega)
          rw [List.nil_append, ← hTl] at hM
          have HM := Lib.hid hM
          have HSM := Lib.hid hSame
          have hTle : TB.size ≤ 16384 := by omega
          have hml := hSame.length
          rw [HN.out] at hml
          rw [hTB]
          have hmr := keep_m bw (cell_lt H1.out.1) H1.out.1
          have tbr := H1.out.2.1.below bw
          have HC := Lib.hid (And.intro hmr tbr)
          clear hM hSame hTB hTl hTs hge hle hall hmr tbr
          go_wp2_with fail
          refine (scan_any TB m (.toks M) wr hTle (cell_lt HC.out.1) HC.out.1 HC.out.2 HM).mono ?_
          rintro e W3 ⟨v, f, rfl, ⟨rfl, g2, cap2, rfl, own2⟩, b3⟩
          have bb3 := bb.trans (b3.mono bb.size)
          have bw3 := bw.trans (b3.mono bw.size)
          have hg2 := (own2.lt g2 rfl).2
          rw [← hml] at own2 ⊢
          have uW4 := (Below.refl W3.heap.size W3).alloc (Nat.le_refl _) (.cells #[.int .i64 0, .int .i64 0] 27)
          have bb4 := bb3.alloc bb3.size (.cells #[.int .i64 0, .int .i64 0] 27)
          have bw4 := bw3.alloc bw3.size (.cells #[.int .i64 0, .int .i64 0] 27)
          have HO2 := Lib.hid own2
          clear own2 b3 bb3 bb bw HC
          go_wp2_with fail
          generalize W3.alloc (.cells #[.int .i64 0, .int .i64 0] 27) = W4 at *
          have hgW : g < W4.heap.size := Nat.lt_of_lt_of_le hgl bw4.size
          have hgW2 : g2 < W4.heap.size := Nat.lt_of_lt_of_le hg2 uW4.size
          obtain ⟨wA, hwA⟩ : ∃ x, x = wr := ⟨_, rfl⟩
          subst hwA
          go_loopw [69] (fun vi wx => ∃ i' : Nat, i' ≤ i ∧ vi = .int .i64 i' ∧ Below W4.heap.size W4 wx) (fun vi _ => i - (intOf vi).toNat)
          case atStart => exact ⟨0, by omega, rfl, Below.refl _ _⟩
          case round =>
            obtain ⟨k, hk, rfl, bx⟩ := hrel
            by_cases hkl : k < i
            · have L2 : decide ((k : Int) < (i : Int)) = true := by simp; omega
              have y0 : (0 : Int) ≤ k := by omega
              have y1 : (k : Int) < i := by omega
              have y2 : (k : Int).toNat = k := by omega
              have a1 : IntKind.i64.wrap ((k : Int) + 1) = ((k + 1 : Nat) : Int) := by rw [IntWalk.i64_in _ (by omega)]; rfl
              have hkL : k < L.length := by rw [HN.out]; exact hkl
              obtain ⟨x, hx⟩ : ∃ x, L[k]? = some x := ⟨_, List.getElem?_eq_getElem hkL⟩
              obtain ⟨y, hy, hxy⟩ := HSM.out.at k x hx
              have own' : W1.ownsRow W0.heap.size 31 4 (.slice (some ⟨g, 0, none⟩) L.length cap) L.length (tkCells L) := by rw [HN.out]; exact HO.out
              have own2' : W3.ownsRow wA.heap.size 31 4 (.slice (some ⟨g2, 0, none⟩) M.length cap2) M.length (tkCells M) := by rw [← hml]; exact HO2.out
              obtain ⟨q0, q1, q2, q3⟩ := tk_row own' k x hx
              obtain ⟨p0, p1, p2, p3⟩ := tk_row own2' k y hy
              obtain ⟨e1, e2, e3⟩ := hxy
              rw [← e1] at p0
              rw [← e2] at p1
              rw [← e3] at p3
              have r0 := (bx.cell (p := ⟨g, k * 4, none⟩) hgW).trans ((bw4.cell (p := ⟨g, k * 4, none⟩) hgl).trans q0)
              have r1 := (bx.cell (p := ⟨g, k * 4 + 1, none⟩) hgW).trans ((bw4.cell (p := ⟨g, k * 4 + 1, none⟩) hgl).trans q1)
              have r3 := (bx.cell (p := ⟨g, k * 4 + 3, none⟩) hgW).trans ((bw4.cell (p := ⟨g, k * 4 + 3, none⟩) hgl).trans q3)
              have t0 := (bx.cell (p := ⟨g2, k * 4, none⟩) hgW2).trans ((uW4.cell (p := ⟨g2, k * 4, none⟩) hg2).trans p0)
              have t1 := (bx.cell (p := ⟨g2, k * 4 + 1, none⟩) hgW2).trans ((uW4.cell (p := ⟨g2, k * 4 + 1, none⟩) hg2).trans p1)
              have t3 := (bx.cell (p := ⟨g2, k * 4 + 3, none⟩) hgW2).trans ((uW4.cell (p := ⟨g2, k * 4 + 3, none⟩) hg2).trans p3)
              generalize hkx : ((x.k : Nat) : Int) = kx at *
              generalize htx : (⟨x.t.toArray⟩ : ByteArray) = tx at *
              generalize hnx : ((x.n : Nat) : Int) = nx at *
              have z1 : (kx == kx) = true := by simp
              have z2 : (tx.toList == tx.toList) = true := by simp
              have z3 : (nx == nx) = true := by simp
              clear q0 q1 q2 q3 p0 p1 p2 p3 own' own2' hx hy e1 e2 e3 hkx htx hnx
              go_upto_region 22 with fail
              go_quiet (fail)
              go_wp2
              go_roundw
              case rel => exact ⟨k + 1, by omega, by first | rfl | rw [Int.natCast_add], by repeat (first | exact bx | (refine below_drewN ?_ _) | (refine Below.drew ?_))⟩
              case measure => simp only [intOf]; omega
            · obtain rfl : k = i := by omega
              have L2 : decide ((k : Int) < (k : Int)) = false := by simp
              go_wp2
              go_ret
              exact ⟨rfl, bb4.trans (bx.mono bb4.size)⟩
end Go.Proofs.YtolfcmfilfjgfaaDoor
