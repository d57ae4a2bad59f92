/- The walk of the statement HeapLengths. -/
import Derived.Test.YtmimnaaofpkndaaDoorHpW
set_option linter.unusedVariables false
set_option linter.unusedSimpArgs false
namespace Go.Proofs.YtmimnaaofpkndaaDoor.Hp
open Go.RowKit Go.Proofs.YtmimnaaofpkndaaDoor Go.Shelf

set_option maxRecDepth 100000 in
set_option maxHeartbeats 16000000 in
theorem lengths_walk (a : Option Addr) (m cap : Nat) (zs : List Int) (w : World) (h : ArgR w a m zs) (hLg : Lg w) : Calls Tryd.prog 4 #[.slice a m cap] w fun e w' => e = .returned (.bool true) ∧ Below w.heap.size w w' := by
  have HR := Lib.hid h
  have hzl := h.1
  have HF := Lib.hid (fit_any w hLg)
  have HG := Lib.hid hLg
  clear h hLg
  go_enter Tryd.func4, Tryd.ntmps4
  go_wp2_with fail
  refine HF.out.mono ?_
  rintro e w1 ⟨rfl, b1⟩
  have hg1 := HG.out.below b1
  by_cases hm : m ≤ 50
  · have t1 : decide ((50 : Int) < (m : Int)) = false := by simp; omega
    have HG1 := Lib.hid hg1
    clear hg1 HG
    go_wp2_with fail
    refine (hnew_any w1).mono ?_
    rintro e w2 ⟨rfl, rfl⟩
    have hmk := make_any 1 0 (newW_hx w1) (by decide) (by decide) (by simp) (newW_below w1).size
    have HMK := Lib.hid hmk
    clear hmk
    go_wp2_with fail
    refine HMK.out.mono ?_
    rintro e w3 hP
    obtain ⟨b, T, rfl, hl⟩ := HL.made HG1.out hP
    obtain ⟨A, hA⟩ : ∃ A, w1.heap.size = A := ⟨_, rfl⟩
    obtain ⟨H, hH⟩ : ∃ H, A + 1 = H := ⟨_, rfl⟩
    have hl2 : HL w1 w3 H A A b T [] := by rw [← hH, ← hA]; exact hl
    rw [hA, hH]
    have HL0 := Lib.hid hl2
    clear hl hl2 hP HMK HG1
    go_wp2_with fail
    go_loopw [6, 31] (fun u v wr => ∃ (i n : Nat) (L : List K3), i ≤ m ∧ u = .int .i64 (n : Int) ∧ v = .int .i64 (i : Int) ∧ L.length = n ∧ Hid (HL w1 wr H A A b T L)) (fun _ v _ => m - (intOf v).toNat)
    case atStart => exact ⟨0, 0, [], Nat.zero_le _, rfl, rfl, rfl, HL0⟩
    case round =>
      clear HL0
      obtain ⟨i, n, L, hi, rfl, rfl, hln, HC⟩ := hrel
      by_cases hlt : i < m
      · have hR2 := HR.out.below (b1.trans (HC.out.bel.mono b1.size))
        obtain ⟨g, off, rfl, hbl, hcell⟩ := hR2.2.2 (by omega)
        have e0 := hcell i hlt
        generalize zs.getD i 0 = x at *
        have t3 : decide ((i : Int) < (m : Int)) = true := by simp; omega
        have z0 : (0 : Int) ≤ (i : Int) := by omega
        have z1 : (i : Int) < (m : Int) := by omega
        have ac : IntKind.i64.wrap ((i : Int) + 1) = (i : Int) + 1 := IntWalk.i64_in _ (by omega)
        clear hR2 hcell
        obtain ⟨K, hK, hK2⟩ := norm_mod x 12000 (by omega) (by omega)
        have HK := Lib.hid hK
        clear hK
        go_upto_region 12 with fail
        rw [HK.out]
        clear HK e0
        have hK3 : K < 12000 := by omega
        clear hK2
        by_cases hp : i % 2 = 0
        · have m1 : (i : Int).tmod 2 = 0 := by rw [Int.tmod_eq_emod_of_nonneg (by omega)]; omega
          by_cases hk : K ≤ 1000
          · have t5 : decide ((K : Int) ≤ 1000) = true := by simp; omega
            go_wp2_with fail
            refine (lenK_any _).mono ?_
            rintro e v1 ⟨rfl, b3⟩
            have HC1 := Lib.hid (HC.out.below b3)
            clear b3 HC
            go_wp2_with fail
            refine (HC1.out.put_len K hk).mono ?_
            rintro e v2 ⟨rfl, L2, h2, hl2⟩
            have HC2 := Lib.hid h2
            clear h2 HC1
            go_wp2_with fail
            refine (lenK_any _).mono ?_
            rintro e v1 ⟨rfl, b6⟩
            have HD1 := Lib.hid (HC2.out.below b6)
            clear b6 HC2
            go_wp2_with fail
            refine HD1.out.own_len.mono ?_
            rintro e v2 ⟨rfl, b7⟩
            rw [hl2]
            have HD2 := Lib.hid (HD1.out.below b7)
            have HD3 := Lib.hid (HD2.out.below ((Below.refl v2.heap.size v2).alloc (Nat.le_refl _) (.cells #[.int .i64 3, .int .i64 (K : Int), .string ⟨#[]⟩] 34)))
            obtain ⟨ea, ec, x4⟩ := HD2.out.elems
            rw [hl2] at x4
            have lb4 : b < v2.heap.size := World.block_lt_of_cell? v2 _ x4
            clear b7 HD1
            go_wp2_with fail
            go_roundw
            case rel => exact ⟨i + 1, K, L2, by omega, rfl, rfl, hl2, HD3⟩
            case measure => simp [intOf]; omega
          · have t5 : decide ((K : Int) ≤ 1000) = false := by simp; omega
            go_wp2_with fail
            refine (lenK_any _).mono ?_
            rintro e v1 ⟨rfl, b3⟩
            have HC1 := Lib.hid (HC.out.below b3)
            clear b3 HC
            go_wp2_with fail
            refine (HC1.out.put_no 3 (K : Int) ⟨#[]⟩ (.inr (.inr (by omega)))).mono ?_
            rintro e v2 ⟨rfl, h2⟩
            have HC2 := Lib.hid h2
            clear h2 HC1
            obtain ⟨L2, hL2⟩ : ∃ L2, L2 = L := ⟨_, rfl⟩
            subst hL2
            have hl2 := hln
            go_wp2_with fail
            refine (lenK_any _).mono ?_
            rintro e v1 ⟨rfl, b6⟩
            have HD1 := Lib.hid (HC2.out.below b6)
            clear b6 HC2
            go_wp2_with fail
            refine HD1.out.own_len.mono ?_
            rintro e v2 ⟨rfl, b7⟩
            rw [hl2]
            have HD2 := Lib.hid (HD1.out.below b7)
            have HD3 := Lib.hid (HD2.out.below ((Below.refl v2.heap.size v2).alloc (Nat.le_refl _) (.cells #[.int .i64 3, .int .i64 (n : Int), .string ⟨#[]⟩] 34)))
            obtain ⟨ea, ec, x4⟩ := HD2.out.elems
            rw [hl2] at x4
            have lb4 : b < v2.heap.size := World.block_lt_of_cell? v2 _ x4
            clear b7 HD1
            go_wp2_with fail
            go_roundw
            case rel => exact ⟨i + 1, n, L2, by omega, rfl, rfl, hl2, HD3⟩
            case measure => simp [intOf]; omega
        · have m1 : (i : Int).tmod 2 = 1 := by rw [Int.tmod_eq_emod_of_nonneg (by omega)]; omega
          obtain ⟨q, hq, hq3⟩ : ∃ q : Nat, (K : Int).tmod 300 = (q : Int) ∧ q < 300 := ⟨K % 300, by rw [Int.tmod_eq_emod_of_nonneg (by omega)]; omega, by omega⟩
          have aq : IntKind.i64.wrap ((q : Int) + 1) = (q : Int) + 1 := IntWalk.i64_in _ (by omega)
          go_wp2_with fail
          refine (digit_any q (by omega) _).mono ?_
          rintro e v1 ⟨rfl, b3⟩
          have HC1 := Lib.hid (HC.out.below b3)
          clear b3 HC
          go_wp2_with fail
          refine (keyD_any q (by omega) _).mono ?_
          rintro e v2 ⟨rfl, b4⟩
          have HC2 := Lib.hid (HC1.out.below b4)
          clear b4 HC1
          go_wp2_with fail
          refine (HC2.out.put_at q (keyD q) (3, (i : Int), ⟨#[]⟩) (keyD_idx q (by omega)) (keyD_size q (by omega)) (by omega)).mono ?_
          rintro e v3 ⟨rfl, L2, h2, hl2, hx⟩
          have HC3 := Lib.hid h2
          have HX := Lib.hid hx
          clear h2 hx HC2
          rw [hln] at hl2
          have hmx : max ((n : Nat) : Int) ((q : Int) + 1) = ((max n (q + 1) : Nat) : Int) := by omega
          go_upto_region 22 with fail
          try rw [hmx]
          clear hmx
          generalize max n (q + 1) = n2 at *
          go_wp2_with fail
          refine (digit_any q (by omega) _).mono ?_
          rintro e v1 ⟨rfl, b3⟩
          have HC4 := Lib.hid (HC3.out.below b3)
          clear b3 HC3
          go_wp2_with fail
          refine (keyD_any q (by omega) _).mono ?_
          rintro e v2 ⟨rfl, b4⟩
          have HC5 := Lib.hid (HC4.out.below b4)
          clear b4 HC4
          go_wp2_with fail
          refine (HC5.out.own_at q (keyD q) (3, (i : Int), ⟨#[]⟩) (keyD_idx q (by omega)) (keyD_size q (by omega)) HX.out (show (3 : Int) ≠ 10 by decide)).mono ?_
          rintro e v3 ⟨rfl, b5⟩
          have HC6 := Lib.hid (HC5.out.below b5)
          have HC7 := Lib.hid (HC6.out.below ((Below.refl v3.heap.size v3).alloc (Nat.le_refl _) (.cells #[.int .i64 3, .int .i64 (i : Int), .string ⟨#[]⟩] 34)))
          clear b5 HC5 HX HC6
          go_wp2_with fail
          refine (lenK_any _).mono ?_
          rintro e v1 ⟨rfl, b6⟩
          have HD1 := Lib.hid (HC7.out.below b6)
          clear b6 HC7
          go_wp2_with fail
          refine HD1.out.own_len.mono ?_
          rintro e v2 ⟨rfl, b7⟩
          rw [hl2]
          have HD2 := Lib.hid (HD1.out.below b7)
          have HD3 := Lib.hid (HD2.out.below ((Below.refl v2.heap.size v2).alloc (Nat.le_refl _) (.cells #[.int .i64 3, .int .i64 (n2 : Int), .string ⟨#[]⟩] 34)))
          obtain ⟨ea, ec, x4⟩ := HD2.out.elems
          rw [hl2] at x4
          have lb4 : b < v2.heap.size := World.block_lt_of_cell? v2 _ x4
          clear b7 HD1
          go_wp2_with fail
          go_roundw
          case rel => exact ⟨i + 1, n2, L2, by omega, rfl, rfl, hl2, HD3⟩
          case measure => simp [intOf]; omega
      · have him : i = m := by omega
        subst him
        have t3 : decide ((i : Int) < (i : Int)) = false := by simp
        have fin : Below w.heap.size w wr := b1.trans (HC.out.bel.mono b1.size)
        go_wp2_with fail
        refine (lenK_any _).mono ?_
        rintro e v1 ⟨rfl, b3⟩
        have HC1 := Lib.hid (HC.out.below b3)
        clear b3 HC
        go_wp2_with fail
        refine (HC1.out.put_no 7 0 ⟨#[]⟩ (.inl (by decide))).mono ?_
        rintro e v2 ⟨rfl, h2⟩
        have HC2 := Lib.hid h2
        clear h2 HC1
        go_wp2_with fail
        refine (lenK_any _).mono ?_
        rintro e v3 ⟨rfl, b4⟩
        have HC3 := Lib.hid (HC2.out.below b4)
        clear b4 HC2
        go_wp2_with fail
        refine (HC3.out.put_no 3 (-1) ⟨#[]⟩ (.inr (.inl (by decide)))).mono ?_
        rintro e v4 ⟨rfl, h4⟩
        have HC4 := Lib.hid h4
        clear h4 HC3
        go_wp2_with fail
        refine (lenK_any _).mono ?_
        rintro e v5 ⟨rfl, b5⟩
        have HC5 := Lib.hid (HC4.out.below b5)
        clear b5 HC4
        go_wp2_with fail
        refine HC5.out.del_len.mono ?_
        rintro e v6 ⟨rfl, b6⟩
        have HC6 := Lib.hid (HC5.out.below b6)
        clear b6 HC5 fin
        have HFN := Lib.hid (b1.trans (HC6.out.bel.mono b1.size))
        go_wp2
        go_ret
        exact ⟨rfl, HFN.out⟩
  · have t1 : decide ((50 : Int) < (m : Int)) = true := by simp; omega
    go_wp2
    go_ret
    exact ⟨rfl, b1⟩
end Go.Proofs.YtmimnaaofpkndaaDoor.Hp
