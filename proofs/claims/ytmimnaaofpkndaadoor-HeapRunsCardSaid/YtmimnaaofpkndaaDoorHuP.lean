/- HeapRuns: a call of play, whatever it is. -/
import Derived.Test.YtmimnaaofpkndaaDoorHuC
import Derived.Test.YtmimnaaofpkndaaDoorHpL
import Derived.Test.YtmimnaaofpkndaaDoorHrN
import Derived.Deep.CutBlock
import Derived.Deep.RegionHeld3
set_option linter.unusedVariables false
set_option linter.unusedSimpArgs false
namespace Go.Proofs.YtmimnaaofpkndaaDoor.Hp
open Go.RowKit Go.Proofs.YtmimnaaofpkndaaDoor Go.Shelf Go.Sort
attribute [local go_sem] Oper.semAt_some
set_option maxRecDepth 100000 in
set_option maxHeartbeats 400000000 in
theorem play_any {w1 w : World} {s : RS} {N : Nat} (hR : RSt w1 s w) (hs : s.od = s.oi) (hp : RP s.oi N) (hN : N ≤ 4000) (hG : LG w1) (hP : PG w1) (hk0 : s.ks = []) (kd rr ky vl fl : Int) :
    Calls Tryd.prog 34 #[.pointer (some ⟨s.H, 0, none⟩), .pointer (some ⟨s.Q, 0, none⟩), .agg #[.int .i64 kd, .int .i64 rr, .int .i64 ky, .int .i64 vl, .int .i64 fl]] w fun e w' => e = .returned (.bool true) ∧ PlayP w1 s N w' := by
  obtain ⟨K, hK, hK8⟩ := norm_mod kd 8 (by decide) (by decide)
  obtain ⟨j, hj15, hj0⟩ := and_to rr 15 (by decide)
  have hjr : bits .and .i64 rr 15 = (j : Int) := hj0
  obtain ⟨vv, hvv9, hvv0⟩ := and_to vl 31 (by decide)
  have hvv : bits .and .i64 vl 31 = (vv : Int) := hvv0
  have HKD := Lib.hid (And.intro hK hvv9)
  have HJR := Lib.hid (And.intro hjr hK8)
  clear hK hvv9 hvv0 hj15 hj0 hjr hK8
  have HX := Lib.hid (And.intro hR (And.intro hs (And.intro hp (And.intro hN (And.intro hG (And.intro hP hk0))))))
  obtain ⟨H, hH⟩ : ∃ H, s.H = H := ⟨_, rfl⟩
  obtain ⟨Q, hQ⟩ : ∃ Q, s.Q = Q := ⟨_, rfl⟩
  rw [hH, hQ]
  have HHQ := Lib.hid (And.intro hH hQ)
  clear hR hs hp hN hG hP hk0 hH hQ
  have b0 : Below w.heap.size w (w.alloc (.cells #[.int .i64 kd, .int .i64 rr, .int .i64 ky, .int .i64 vl, .int .i64 fl] 80)) := (Below.refl _ _).alloc (Nat.le_refl _) _
  have k0 := Blk.new w 80 #[.int .i64 kd, .int .i64 rr, .int .i64 ky, .int .i64 vl, .int .i64 fl]
  obtain ⟨p, hp0⟩ : ∃ p, w.heap.size = p := ⟨_, rfl⟩
  rw [hp0] at k0
  have HB0 := Lib.hid (And.intro b0 k0)
  clear b0 k0
  go_enter Tryd.func34, Tryd.ntmps34
  go_upto_region 1 with fail
  generalize (w.alloc (.cells #[.int .i64 kd, .int .i64 rr, .int .i64 ky, .int .i64 vl, .int .i64 fl] 80)) = W0 at *
  go_cut [7, 8] from 30 to 36 (fun s7 s8 wx => ∃ (g h : Nat) (k : K3), s7 = .pointer (some ⟨g, 0, none⟩) ∧ s8 = .pointer (some ⟨h, 0, none⟩) ∧ Hid (KS k ∧ Below w.heap.size w wx ∧ Blk wx g 34 #[.int .i64 k.1, .int .i64 k.2.1, .string k.2.2] ∧ Blk wx h 34 #[.int .i64 3, .int .i64 (vv : Int), .string ⟨#[]⟩] ∧ Blk wx p 80 #[.int .i64 kd, .int .i64 rr, .int .i64 ky, .int .i64 vl, .int .i64 fl] ∧ g ≠ h ∧ p < g ∧ p < h))
  case first =>
    have bb := HB0.out.1.drew
    have k_p := HB0.out.2.drew
    clear HB0 HX
    refine wp_region_held_drew (S := (fun W => W.cell? ⟨p, 2, none⟩ = some (.int .i64 ky) ∧ W.cell? ⟨p, 3, none⟩ = some (.int .i64 vl))) (by kernel_rfl) ⟨by rw [k_p.cell]; rfl, by rw [k_p.cell]; rfl⟩ (fun hHeld => ?_)
    generalize W0.drew = D0 at *
    refine wpAnyH_take (i := 0) (oi := ?oo900) (v := ?vv900) ?hi900 (by kernel_rfl) (by kernel_rfl) (by kernel_rfl) ?hq900 ?hy900 (by assumption) ?hh900
    case hi900 => (simp only [List.getElem?_toArray, List.getElem?_cons_succ, List.getElem?_cons_zero]; rfl)
    case hq900 => exact fun _ _ _ h => h
    case hy900 => exact Or.inl ⟨by rfl, by (intro W hSw; (try dsimp only at hSw); go_simp; (try with_reducible rfl))⟩
    (try simp only [Act.put, List.setIfInBounds_toArray, List.set_cons_zero, List.set_cons_succ])
    refine wpAnyH_take (i := 1) (oi := ?oo901) (v := ?vv901) ?hi901 (by kernel_rfl) (by kernel_rfl) (by kernel_rfl) ?hq901 ?hy901 (by assumption) ?hh901
    case hi901 => (simp only [List.getElem?_toArray, List.getElem?_cons_succ, List.getElem?_cons_zero]; rfl)
    case hq901 => exact fun _ _ _ h => h
    case hy901 => exact Or.inl ⟨by rfl, by (intro W hSw; (try dsimp only at hSw); go_simp; (try with_reducible rfl))⟩
    (try simp only [Act.put, List.setIfInBounds_toArray, List.set_cons_zero, List.set_cons_succ])
    refine wpAnyH_take (i := 3) (oi := ?oo902) (v := ?vv902) ?hi902 (by kernel_rfl) (by kernel_rfl) (by kernel_rfl) ?hq902 ?hy902 (by assumption) ?hh902
    case hi902 => (simp only [List.getElem?_toArray, List.getElem?_cons_succ, List.getElem?_cons_zero]; rfl)
    case hq902 => exact fun _ _ _ h => h
    case hy902 => exact Or.inl ⟨by rfl, by (intro W hSw; (try dsimp only at hSw); go_simp; (try with_reducible rfl))⟩
    (try simp only [Act.put, List.setIfInBounds_toArray, List.set_cons_zero, List.set_cons_succ])
    refine wpAnyH_take (i := 4) (oi := ?oo903) (v := ?vv903) ?hi903 (by kernel_rfl) (by kernel_rfl) (by kernel_rfl) ?hq903 ?hy903 (by assumption) ?hh903
    case hi903 => (simp only [List.getElem?_toArray, List.getElem?_cons_succ, List.getElem?_cons_zero]; rfl)
    case hq903 => exact fun _ _ _ h => h
    case hy903 => exact Or.inl ⟨by rfl, by (intro W hSw; (try dsimp only at hSw); go_simp; (try with_reducible rfl))⟩
    (try simp only [Act.put, List.setIfInBounds_toArray, List.set_cons_zero, List.set_cons_succ])
    refine wpAnyH_take (i := 5) (oi := ?oo904) (v := ?vv904) ?hi904 (by kernel_rfl) (by kernel_rfl) (by kernel_rfl) ?hq904 ?hy904 (by assumption) ?hh904
    case hi904 => (simp only [List.getElem?_toArray, List.getElem?_cons_succ, List.getElem?_cons_zero]; rfl)
    case hq904 => exact fun _ _ _ h => h
    case hy904 => exact Or.inl ⟨by rfl, by (intro W hSw; (try dsimp only at hSw); go_simp; (try with_reducible rfl))⟩
    (try simp only [Act.put, List.setIfInBounds_toArray, List.set_cons_zero, List.set_cons_succ])
    refine wpAnyH_take (i := 6) (oi := ?oo905) (v := ?vv905) ?hi905 (by kernel_rfl) (by kernel_rfl) (by kernel_rfl) ?hq905 ?hy905 (by assumption) ?hh905
    case hi905 => (simp only [List.getElem?_toArray, List.getElem?_cons_succ, List.getElem?_cons_zero]; rfl)
    case hq905 => exact fun _ _ _ h => h
    case hy905 => exact Or.inl ⟨by rfl, by (intro W hSw; (try dsimp only at hSw); go_simp; (try with_reducible rfl))⟩
    (try simp only [Act.put, List.setIfInBounds_toArray, List.set_cons_zero, List.set_cons_succ])
    refine wpAnyH_ready (rs := [2, 7, 8]) (by kernel_rfl) (by simp) ?_
    refine AllReadyH.cons rfl (fun K hK => ?_) (AllReadyH.cons rfl (fun K hK => ?_) (AllReadyH.cons rfl (fun K hK => ?_) AllReadyH.nil))
    · go_simp
      obtain ⟨⟨k1, k2, k3⟩, hks, hkc⟩ := key_any ky D0
      have HKC := Lib.hid hkc
      clear hkc
      refine HKC.out.mono ?_
      rintro e U1 ⟨rfl, bq⟩
      have k_p := k_p.below bq k_p.lt
      have bb := bb.trans (bq.mono bb.size)
      clear bq HKC
      refine hK.out _ _ ⟨by rw [k_p.cell]; rfl, by rw [k_p.cell]; rfl⟩ (fun hHeld => ?_)
      clear hK K
      (try simp only [Act.put, List.setIfInBounds_toArray, List.set_cons_zero, List.set_cons_succ])
      refine wpAnyH_ready (rs := [7, 8]) (by kernel_rfl) (by simp) ?_
      refine AllReadyH.cons rfl (fun K hK => ?_) (AllReadyH.cons rfl (fun K hK => ?_) AllReadyH.nil)
      · go_simp
        have n_p := k_p.lt
        have k_p := k_p.alloc (.cells #[.int .i64 0, .int .i64 0, .string ⟨#[]⟩] 34)
        have k_g := Blk.new U1 34 #[.int .i64 0, .int .i64 0, .string ⟨#[]⟩]
        have bb := bb.alloc bb.size (.cells #[.int .i64 0, .int .i64 0, .string ⟨#[]⟩] 34)
        refine hK.out _ _ ⟨by rw [k_p.cell]; rfl, by rw [k_p.cell]; rfl⟩ (fun hHeld => ?_)
        clear hK K
        generalize U1.alloc (.cells #[.int .i64 0, .int .i64 0, .string ⟨#[]⟩] 34) = U2 at *
        generalize U1.heap.size = g at *
        have n_gp := n_p
        clear n_p
        (try simp only [Act.put, List.setIfInBounds_toArray, List.set_cons_zero, List.set_cons_succ])
        refine wpAnyH_ready (rs := [8]) (by kernel_rfl) (by simp) ?_
        refine AllReadyH.cons rfl (fun K hK => ?_) AllReadyH.nil
        go_simp
        have n_p := k_p.lt
        have n_l := k_g.lt
        have k_p := k_p.alloc (.cells #[.int .i64 0, .int .i64 0, .string ⟨#[]⟩] 34)
        have k_g := k_g.alloc (.cells #[.int .i64 0, .int .i64 0, .string ⟨#[]⟩] 34)
        have k_h := Blk.new U2 34 #[.int .i64 0, .int .i64 0, .string ⟨#[]⟩]
        have bb := bb.alloc bb.size (.cells #[.int .i64 0, .int .i64 0, .string ⟨#[]⟩] 34)
        refine hK.out _ _ ⟨by rw [k_p.cell]; rfl, by rw [k_p.cell]; rfl⟩ (fun hHeld => ?_)
        clear hK K
        generalize U2.alloc (.cells #[.int .i64 0, .int .i64 0, .string ⟨#[]⟩] 34) = U3 at *
        generalize U2.heap.size = h at *
        have n_hg : h ≠ g := by omega
        have n_gh : g ≠ h := by omega
        clear n_l
        have n_hp := n_p
        clear n_p
        (try simp only [Act.put, List.setIfInBounds_toArray, List.set_cons_zero, List.set_cons_succ])
        obtain ⟨x0, x1, x2, z0, z1, z2, l0⟩ := k3c k_g
        refine wpAnyH_ready (rs := [9]) (by kernel_rfl) (by simp) ?_
        refine AllReadyH.cons rfl (fun K hK => ?_) AllReadyH.nil
        go_simp
        clear x0 x1 x2 z0 z1 z2 l0
        have k_h := k3far k_h n_hg (.int .i64 k1) (.int .i64 k2) (.string k3)
        have k_p := k3far k_p (Nat.ne_of_lt n_gp) (.int .i64 k1) (.int .i64 k2) (.string k3)
        have k_g := k3set k_g (.int .i64 k1) (.int .i64 k2) (.string k3)
        have bb := b3set bb (g := g) (by omega) (.int .i64 k1) (.int .i64 k2) (.string k3)
        refine hK.out _ _ ⟨by rw [k_p.cell]; rfl, by rw [k_p.cell]; rfl⟩ (fun hHeld => ?_)
        clear hK K
        generalize (((U3.setCell ⟨g, 0, none⟩ (.int .i64 k1)).setCell ⟨g, 1, none⟩ (.int .i64 k2)).setCell ⟨g, 2, none⟩ (.string k3)) = U4 at *
        (try simp only [Act.put, List.setIfInBounds_toArray, List.set_cons_zero, List.set_cons_succ])
        obtain ⟨x0, x1, x2, z0, z1, z2, l0⟩ := k3c k_h
        refine wpAnyH_ready (rs := [10]) (by kernel_rfl) (by simp) ?_
        refine AllReadyH.cons rfl (fun K hK => ?_) AllReadyH.nil
        go_simp
        clear x0 x1 x2 z0 z1 z2 l0
        have k_g := k3far k_g n_gh (.int .i64 3) (.int .i64 (vv : Int)) (.string ⟨#[]⟩)
        have k_p := k3far k_p (Nat.ne_of_lt n_hp) (.int .i64 3) (.int .i64 (vv : Int)) (.string ⟨#[]⟩)
        have k_h := k3set k_h (.int .i64 3) (.int .i64 (vv : Int)) (.string ⟨#[]⟩)
        have bb := b3set bb (g := h) (by omega) (.int .i64 3) (.int .i64 (vv : Int)) (.string ⟨#[]⟩)
        refine hK.out _ _ ⟨by rw [k_p.cell]; rfl, by rw [k_p.cell]; rfl⟩ (fun hHeld => ?_)
        clear hK K
        generalize (((U4.setCell ⟨h, 0, none⟩ (.int .i64 3)).setCell ⟨h, 1, none⟩ (.int .i64 (vv : Int))).setCell ⟨h, 2, none⟩ (.string ⟨#[]⟩)) = U5 at *
        (try simp only [Act.put, List.setIfInBounds_toArray, List.set_cons_zero, List.set_cons_succ])
        refine wpAnyH_done (by kernel_rfl) ?_ _
        go_wp2_with fail
        go_meet
        exact ⟨g, h, (k1, k2, k3), rfl, rfl, Lib.hid ⟨hks, bb, k_g, k_h, k_p, n_gh, n_gp, n_hp⟩⟩
      · go_simp
        have n_p := k_p.lt
        have k_p := k_p.alloc (.cells #[.int .i64 0, .int .i64 0, .string ⟨#[]⟩] 34)
        have k_h := Blk.new U1 34 #[.int .i64 0, .int .i64 0, .string ⟨#[]⟩]
        have bb := bb.alloc bb.size (.cells #[.int .i64 0, .int .i64 0, .string ⟨#[]⟩] 34)
        refine hK.out _ _ ⟨by rw [k_p.cell]; rfl, by rw [k_p.cell]; rfl⟩ (fun hHeld => ?_)
        clear hK K
        generalize U1.alloc (.cells #[.int .i64 0, .int .i64 0, .string ⟨#[]⟩] 34) = U6 at *
        generalize U1.heap.size = h at *
        have n_hp := n_p
        clear n_p
        (try simp only [Act.put, List.setIfInBounds_toArray, List.set_cons_zero, List.set_cons_succ])
        refine wpAnyH_ready (rs := [7]) (by kernel_rfl) (by simp) ?_
        refine AllReadyH.cons rfl (fun K hK => ?_) AllReadyH.nil
        go_simp
        have n_p := k_p.lt
        have n_l := k_h.lt
        have k_p := k_p.alloc (.cells #[.int .i64 0, .int .i64 0, .string ⟨#[]⟩] 34)
        have k_h := k_h.alloc (.cells #[.int .i64 0, .int .i64 0, .string ⟨#[]⟩] 34)
        have k_g := Blk.new U6 34 #[.int .i64 0, .int .i64 0, .string ⟨#[]⟩]
        have bb := bb.alloc bb.size (.cells #[.int .i64 0, .int .i64 0, .string ⟨#[]⟩] 34)
        refine hK.out _ _ ⟨by rw [k_p.cell]; rfl, by rw [k_p.cell]; rfl⟩ (fun hHeld => ?_)
        clear hK K
        generalize U6.alloc (.cells #[.int .i64 0, .int .i64 0, .string ⟨#[]⟩] 34) = U7 at *
        generalize U6.heap.size = g at *
        have n_gh : g ≠ h := by omega
        have n_hg : h ≠ g := by omega
        clear n_l
        have n_gp := n_p
        clear n_p
        (try simp only [Act.put, List.setIfInBounds_toArray, List.set_cons_zero, List.set_cons_succ])
        obtain ⟨x0, x1, x2, z0, z1, z2, l0⟩ := k3c k_g
        refine wpAnyH_ready (rs := [9]) (by kernel_rfl) (by simp) ?_
        refine AllReadyH.cons rfl (fun K hK => ?_) AllReadyH.nil
        go_simp
        clear x0 x1 x2 z0 z1 z2 l0
        have k_h := k3far k_h n_hg (.int .i64 k1) (.int .i64 k2) (.string k3)
        have k_p := k3far k_p (Nat.ne_of_lt n_gp) (.int .i64 k1) (.int .i64 k2) (.string k3)
        have k_g := k3set k_g (.int .i64 k1) (.int .i64 k2) (.string k3)
        have bb := b3set bb (g := g) (by omega) (.int .i64 k1) (.int .i64 k2) (.string k3)
        refine hK.out _ _ ⟨by rw [k_p.cell]; rfl, by rw [k_p.cell]; rfl⟩ (fun hHeld => ?_)
        clear hK K
        generalize (((U7.setCell ⟨g, 0, none⟩ (.int .i64 k1)).setCell ⟨g, 1, none⟩ (.int .i64 k2)).setCell ⟨g, 2, none⟩ (.string k3)) = U8 at *
        (try simp only [Act.put, List.setIfInBounds_toArray, List.set_cons_zero, List.set_cons_succ])
        obtain ⟨x0, x1, x2, z0, z1, z2, l0⟩ := k3c k_h
        refine wpAnyH_ready (rs := [10]) (by kernel_rfl) (by simp) ?_
        refine AllReadyH.cons rfl (fun K hK => ?_) AllReadyH.nil
        go_simp
        clear x0 x1 x2 z0 z1 z2 l0
        have k_g := k3far k_g n_gh (.int .i64 3) (.int .i64 (vv : Int)) (.string ⟨#[]⟩)
        have k_p := k3far k_p (Nat.ne_of_lt n_hp) (.int .i64 3) (.int .i64 (vv : Int)) (.string ⟨#[]⟩)
        have k_h := k3set k_h (.int .i64 3) (.int .i64 (vv : Int)) (.string ⟨#[]⟩)
        have bb := b3set bb (g := h) (by omega) (.int .i64 3) (.int .i64 (vv : Int)) (.string ⟨#[]⟩)
        refine hK.out _ _ ⟨by rw [k_p.cell]; rfl, by rw [k_p.cell]; rfl⟩ (fun hHeld => ?_)
        clear hK K
        generalize (((U8.setCell ⟨h, 0, none⟩ (.int .i64 3)).setCell ⟨h, 1, none⟩ (.int .i64 (vv : Int))).setCell ⟨h, 2, none⟩ (.string ⟨#[]⟩)) = U9 at *
        (try simp only [Act.put, List.setIfInBounds_toArray, List.set_cons_zero, List.set_cons_succ])
        refine wpAnyH_done (by kernel_rfl) ?_ _
        go_wp2_with fail
        go_meet
        exact ⟨g, h, (k1, k2, k3), rfl, rfl, Lib.hid ⟨hks, bb, k_g, k_h, k_p, n_gh, n_gp, n_hp⟩⟩
    · go_simp
      have n_p := k_p.lt
      have k_p := k_p.alloc (.cells #[.int .i64 0, .int .i64 0, .string ⟨#[]⟩] 34)
      have k_g := Blk.new D0 34 #[.int .i64 0, .int .i64 0, .string ⟨#[]⟩]
      have bb := bb.alloc bb.size (.cells #[.int .i64 0, .int .i64 0, .string ⟨#[]⟩] 34)
      refine hK.out _ _ ⟨by rw [k_p.cell]; rfl, by rw [k_p.cell]; rfl⟩ (fun hHeld => ?_)
      clear hK K
      generalize D0.alloc (.cells #[.int .i64 0, .int .i64 0, .string ⟨#[]⟩] 34) = U10 at *
      generalize D0.heap.size = g at *
      have n_gp := n_p
      clear n_p
      (try simp only [Act.put, List.setIfInBounds_toArray, List.set_cons_zero, List.set_cons_succ])
      refine wpAnyH_ready (rs := [2, 8]) (by kernel_rfl) (by simp) ?_
      refine AllReadyH.cons rfl (fun K hK => ?_) (AllReadyH.cons rfl (fun K hK => ?_) AllReadyH.nil)
      · go_simp
        obtain ⟨⟨k1, k2, k3⟩, hks, hkc⟩ := key_any ky U10
        have HKC := Lib.hid hkc
        clear hkc
        refine HKC.out.mono ?_
        rintro e U11 ⟨rfl, bq⟩
        have k_p := k_p.below bq k_p.lt
        have k_g := k_g.below bq k_g.lt
        have bb := bb.trans (bq.mono bb.size)
        clear bq HKC
        refine hK.out _ _ ⟨by rw [k_p.cell]; rfl, by rw [k_p.cell]; rfl⟩ (fun hHeld => ?_)
        clear hK K
        (try simp only [Act.put, List.setIfInBounds_toArray, List.set_cons_zero, List.set_cons_succ])
        refine wpAnyH_ready (rs := [8]) (by kernel_rfl) (by simp) ?_
        refine AllReadyH.cons rfl (fun K hK => ?_) AllReadyH.nil
        go_simp
        have n_p := k_p.lt
        have n_l := k_g.lt
        have k_p := k_p.alloc (.cells #[.int .i64 0, .int .i64 0, .string ⟨#[]⟩] 34)
        have k_g := k_g.alloc (.cells #[.int .i64 0, .int .i64 0, .string ⟨#[]⟩] 34)
        have k_h := Blk.new U11 34 #[.int .i64 0, .int .i64 0, .string ⟨#[]⟩]
        have bb := bb.alloc bb.size (.cells #[.int .i64 0, .int .i64 0, .string ⟨#[]⟩] 34)
        refine hK.out _ _ ⟨by rw [k_p.cell]; rfl, by rw [k_p.cell]; rfl⟩ (fun hHeld => ?_)
        clear hK K
        generalize U11.alloc (.cells #[.int .i64 0, .int .i64 0, .string ⟨#[]⟩] 34) = U12 at *
        generalize U11.heap.size = h at *
        have n_hg : h ≠ g := by omega
        have n_gh : g ≠ h := by omega
        clear n_l
        have n_hp := n_p
        clear n_p
        (try simp only [Act.put, List.setIfInBounds_toArray, List.set_cons_zero, List.set_cons_succ])
        obtain ⟨x0, x1, x2, z0, z1, z2, l0⟩ := k3c k_g
        refine wpAnyH_ready (rs := [9]) (by kernel_rfl) (by simp) ?_
        refine AllReadyH.cons rfl (fun K hK => ?_) AllReadyH.nil
        go_simp
        clear x0 x1 x2 z0 z1 z2 l0
        have k_h := k3far k_h n_hg (.int .i64 k1) (.int .i64 k2) (.string k3)
        have k_p := k3far k_p (Nat.ne_of_lt n_gp) (.int .i64 k1) (.int .i64 k2) (.string k3)
        have k_g := k3set k_g (.int .i64 k1) (.int .i64 k2) (.string k3)
        have bb := b3set bb (g := g) (by omega) (.int .i64 k1) (.int .i64 k2) (.string k3)
        refine hK.out _ _ ⟨by rw [k_p.cell]; rfl, by rw [k_p.cell]; rfl⟩ (fun hHeld => ?_)
        clear hK K
        generalize (((U12.setCell ⟨g, 0, none⟩ (.int .i64 k1)).setCell ⟨g, 1, none⟩ (.int .i64 k2)).setCell ⟨g, 2, none⟩ (.string k3)) = U13 at *
        (try simp only [Act.put, List.setIfInBounds_toArray, List.set_cons_zero, List.set_cons_succ])
        obtain ⟨x0, x1, x2, z0, z1, z2, l0⟩ := k3c k_h
        refine wpAnyH_ready (rs := [10]) (by kernel_rfl) (by simp) ?_
        refine AllReadyH.cons rfl (fun K hK => ?_) AllReadyH.nil
        go_simp
        clear x0 x1 x2 z0 z1 z2 l0
        have k_g := k3far k_g n_gh (.int .i64 3) (.int .i64 (vv : Int)) (.string ⟨#[]⟩)
        have k_p := k3far k_p (Nat.ne_of_lt n_hp) (.int .i64 3) (.int .i64 (vv : Int)) (.string ⟨#[]⟩)
        have k_h := k3set k_h (.int .i64 3) (.int .i64 (vv : Int)) (.string ⟨#[]⟩)
        have bb := b3set bb (g := h) (by omega) (.int .i64 3) (.int .i64 (vv : Int)) (.string ⟨#[]⟩)
        refine hK.out _ _ ⟨by rw [k_p.cell]; rfl, by rw [k_p.cell]; rfl⟩ (fun hHeld => ?_)
        clear hK K
        generalize (((U13.setCell ⟨h, 0, none⟩ (.int .i64 3)).setCell ⟨h, 1, none⟩ (.int .i64 (vv : Int))).setCell ⟨h, 2, none⟩ (.string ⟨#[]⟩)) = U14 at *
        (try simp only [Act.put, List.setIfInBounds_toArray, List.set_cons_zero, List.set_cons_succ])
        refine wpAnyH_done (by kernel_rfl) ?_ _
        go_wp2_with fail
        go_meet
        exact ⟨g, h, (k1, k2, k3), rfl, rfl, Lib.hid ⟨hks, bb, k_g, k_h, k_p, n_gh, n_gp, n_hp⟩⟩
      · go_simp
        have n_p := k_p.lt
        have n_l := k_g.lt
        have k_p := k_p.alloc (.cells #[.int .i64 0, .int .i64 0, .string ⟨#[]⟩] 34)
        have k_g := k_g.alloc (.cells #[.int .i64 0, .int .i64 0, .string ⟨#[]⟩] 34)
        have k_h := Blk.new U10 34 #[.int .i64 0, .int .i64 0, .string ⟨#[]⟩]
        have bb := bb.alloc bb.size (.cells #[.int .i64 0, .int .i64 0, .string ⟨#[]⟩] 34)
        refine hK.out _ _ ⟨by rw [k_p.cell]; rfl, by rw [k_p.cell]; rfl⟩ (fun hHeld => ?_)
        clear hK K
        generalize U10.alloc (.cells #[.int .i64 0, .int .i64 0, .string ⟨#[]⟩] 34) = U15 at *
        generalize U10.heap.size = h at *
        have n_hg : h ≠ g := by omega
        have n_gh : g ≠ h := by omega
        clear n_l
        have n_hp := n_p
        clear n_p
        (try simp only [Act.put, List.setIfInBounds_toArray, List.set_cons_zero, List.set_cons_succ])
        refine wpAnyH_ready (rs := [2]) (by kernel_rfl) (by simp) ?_
        refine AllReadyH.cons rfl (fun K hK => ?_) AllReadyH.nil
        go_simp
        obtain ⟨⟨k1, k2, k3⟩, hks, hkc⟩ := key_any ky U15
        have HKC := Lib.hid hkc
        clear hkc
        refine HKC.out.mono ?_
        rintro e U16 ⟨rfl, bq⟩
        have k_p := k_p.below bq k_p.lt
        have k_g := k_g.below bq k_g.lt
        have k_h := k_h.below bq k_h.lt
        have bb := bb.trans (bq.mono bb.size)
        clear bq HKC
        refine hK.out _ _ ⟨by rw [k_p.cell]; rfl, by rw [k_p.cell]; rfl⟩ (fun hHeld => ?_)
        clear hK K
        (try simp only [Act.put, List.setIfInBounds_toArray, List.set_cons_zero, List.set_cons_succ])
        obtain ⟨x0, x1, x2, z0, z1, z2, l0⟩ := k3c k_g
        refine wpAnyH_ready (rs := [9]) (by kernel_rfl) (by simp) ?_
        refine AllReadyH.cons rfl (fun K hK => ?_) AllReadyH.nil
        go_simp
        clear x0 x1 x2 z0 z1 z2 l0
        have k_h := k3far k_h n_hg (.int .i64 k1) (.int .i64 k2) (.string k3)
        have k_p := k3far k_p (Nat.ne_of_lt n_gp) (.int .i64 k1) (.int .i64 k2) (.string k3)
        have k_g := k3set k_g (.int .i64 k1) (.int .i64 k2) (.string k3)
        have bb := b3set bb (g := g) (by omega) (.int .i64 k1) (.int .i64 k2) (.string k3)
        refine hK.out _ _ ⟨by rw [k_p.cell]; rfl, by rw [k_p.cell]; rfl⟩ (fun hHeld => ?_)
        clear hK K
        generalize (((U16.setCell ⟨g, 0, none⟩ (.int .i64 k1)).setCell ⟨g, 1, none⟩ (.int .i64 k2)).setCell ⟨g, 2, none⟩ (.string k3)) = U17 at *
        (try simp only [Act.put, List.setIfInBounds_toArray, List.set_cons_zero, List.set_cons_succ])
        obtain ⟨x0, x1, x2, z0, z1, z2, l0⟩ := k3c k_h
        refine wpAnyH_ready (rs := [10]) (by kernel_rfl) (by simp) ?_
        refine AllReadyH.cons rfl (fun K hK => ?_) AllReadyH.nil
        go_simp
        clear x0 x1 x2 z0 z1 z2 l0
        have k_g := k3far k_g n_gh (.int .i64 3) (.int .i64 (vv : Int)) (.string ⟨#[]⟩)
        have k_p := k3far k_p (Nat.ne_of_lt n_hp) (.int .i64 3) (.int .i64 (vv : Int)) (.string ⟨#[]⟩)
        have k_h := k3set k_h (.int .i64 3) (.int .i64 (vv : Int)) (.string ⟨#[]⟩)
        have bb := b3set bb (g := h) (by omega) (.int .i64 3) (.int .i64 (vv : Int)) (.string ⟨#[]⟩)
        refine hK.out _ _ ⟨by rw [k_p.cell]; rfl, by rw [k_p.cell]; rfl⟩ (fun hHeld => ?_)
        clear hK K
        generalize (((U17.setCell ⟨h, 0, none⟩ (.int .i64 3)).setCell ⟨h, 1, none⟩ (.int .i64 (vv : Int))).setCell ⟨h, 2, none⟩ (.string ⟨#[]⟩)) = U18 at *
        (try simp only [Act.put, List.setIfInBounds_toArray, List.set_cons_zero, List.set_cons_succ])
        refine wpAnyH_done (by kernel_rfl) ?_ _
        go_wp2_with fail
        go_meet
        exact ⟨g, h, (k1, k2, k3), rfl, rfl, Lib.hid ⟨hks, bb, k_g, k_h, k_p, n_gh, n_gp, n_hp⟩⟩
    · go_simp
      have n_p := k_p.lt
      have k_p := k_p.alloc (.cells #[.int .i64 0, .int .i64 0, .string ⟨#[]⟩] 34)
      have k_h := Blk.new D0 34 #[.int .i64 0, .int .i64 0, .string ⟨#[]⟩]
      have bb := bb.alloc bb.size (.cells #[.int .i64 0, .int .i64 0, .string ⟨#[]⟩] 34)
      refine hK.out _ _ ⟨by rw [k_p.cell]; rfl, by rw [k_p.cell]; rfl⟩ (fun hHeld => ?_)
      clear hK K
      generalize D0.alloc (.cells #[.int .i64 0, .int .i64 0, .string ⟨#[]⟩] 34) = U19 at *
      generalize D0.heap.size = h at *
      have n_hp := n_p
      clear n_p
      (try simp only [Act.put, List.setIfInBounds_toArray, List.set_cons_zero, List.set_cons_succ])
      refine wpAnyH_ready (rs := [2, 7]) (by kernel_rfl) (by simp) ?_
      refine AllReadyH.cons rfl (fun K hK => ?_) (AllReadyH.cons rfl (fun K hK => ?_) AllReadyH.nil)
      · go_simp
        obtain ⟨⟨k1, k2, k3⟩, hks, hkc⟩ := key_any ky U19
        have HKC := Lib.hid hkc
        clear hkc
        refine HKC.out.mono ?_
        rintro e U20 ⟨rfl, bq⟩
        have k_p := k_p.below bq k_p.lt
        have k_h := k_h.below bq k_h.lt
        have bb := bb.trans (bq.mono bb.size)
        clear bq HKC
        refine hK.out _ _ ⟨by rw [k_p.cell]; rfl, by rw [k_p.cell]; rfl⟩ (fun hHeld => ?_)
        clear hK K
        (try simp only [Act.put, List.setIfInBounds_toArray, List.set_cons_zero, List.set_cons_succ])
        refine wpAnyH_ready (rs := [7]) (by kernel_rfl) (by simp) ?_
        refine AllReadyH.cons rfl (fun K hK => ?_) AllReadyH.nil
        go_simp
        have n_p := k_p.lt
        have n_l := k_h.lt
        have k_p := k_p.alloc (.cells #[.int .i64 0, .int .i64 0, .string ⟨#[]⟩] 34)
        have k_h := k_h.alloc (.cells #[.int .i64 0, .int .i64 0, .string ⟨#[]⟩] 34)
        have k_g := Blk.new U20 34 #[.int .i64 0, .int .i64 0, .string ⟨#[]⟩]
        have bb := bb.alloc bb.size (.cells #[.int .i64 0, .int .i64 0, .string ⟨#[]⟩] 34)
        refine hK.out _ _ ⟨by rw [k_p.cell]; rfl, by rw [k_p.cell]; rfl⟩ (fun hHeld => ?_)
        clear hK K
        generalize U20.alloc (.cells #[.int .i64 0, .int .i64 0, .string ⟨#[]⟩] 34) = U21 at *
        generalize U20.heap.size = g at *
        have n_gh : g ≠ h := by omega
        have n_hg : h ≠ g := by omega
        clear n_l
        have n_gp := n_p
        clear n_p
        (try simp only [Act.put, List.setIfInBounds_toArray, List.set_cons_zero, List.set_cons_succ])
        obtain ⟨x0, x1, x2, z0, z1, z2, l0⟩ := k3c k_g
        refine wpAnyH_ready (rs := [9]) (by kernel_rfl) (by simp) ?_
        refine AllReadyH.cons rfl (fun K hK => ?_) AllReadyH.nil
        go_simp
        clear x0 x1 x2 z0 z1 z2 l0
        have k_h := k3far k_h n_hg (.int .i64 k1) (.int .i64 k2) (.string k3)
        have k_p := k3far k_p (Nat.ne_of_lt n_gp) (.int .i64 k1) (.int .i64 k2) (.string k3)
        have k_g := k3set k_g (.int .i64 k1) (.int .i64 k2) (.string k3)
        have bb := b3set bb (g := g) (by omega) (.int .i64 k1) (.int .i64 k2) (.string k3)
        refine hK.out _ _ ⟨by rw [k_p.cell]; rfl, by rw [k_p.cell]; rfl⟩ (fun hHeld => ?_)
        clear hK K
        generalize (((U21.setCell ⟨g, 0, none⟩ (.int .i64 k1)).setCell ⟨g, 1, none⟩ (.int .i64 k2)).setCell ⟨g, 2, none⟩ (.string k3)) = U22 at *
        (try simp only [Act.put, List.setIfInBounds_toArray, List.set_cons_zero, List.set_cons_succ])
        obtain ⟨x0, x1, x2, z0, z1, z2, l0⟩ := k3c k_h
        refine wpAnyH_ready (rs := [10]) (by kernel_rfl) (by simp) ?_
        refine AllReadyH.cons rfl (fun K hK => ?_) AllReadyH.nil
        go_simp
        clear x0 x1 x2 z0 z1 z2 l0
        have k_g := k3far k_g n_gh (.int .i64 3) (.int .i64 (vv : Int)) (.string ⟨#[]⟩)
        have k_p := k3far k_p (Nat.ne_of_lt n_hp) (.int .i64 3) (.int .i64 (vv : Int)) (.string ⟨#[]⟩)
        have k_h := k3set k_h (.int .i64 3) (.int .i64 (vv : Int)) (.string ⟨#[]⟩)
        have bb := b3set bb (g := h) (by omega) (.int .i64 3) (.int .i64 (vv : Int)) (.string ⟨#[]⟩)
        refine hK.out _ _ ⟨by rw [k_p.cell]; rfl, by rw [k_p.cell]; rfl⟩ (fun hHeld => ?_)
        clear hK K
        generalize (((U22.setCell ⟨h, 0, none⟩ (.int .i64 3)).setCell ⟨h, 1, none⟩ (.int .i64 (vv : Int))).setCell ⟨h, 2, none⟩ (.string ⟨#[]⟩)) = U23 at *
        (try simp only [Act.put, List.setIfInBounds_toArray, List.set_cons_zero, List.set_cons_succ])
        refine wpAnyH_done (by kernel_rfl) ?_ _
        go_wp2_with fail
        go_meet
        exact ⟨g, h, (k1, k2, k3), rfl, rfl, Lib.hid ⟨hks, bb, k_g, k_h, k_p, n_gh, n_gp, n_hp⟩⟩
      · go_simp
        have n_p := k_p.lt
        have n_l := k_h.lt
        have k_p := k_p.alloc (.cells #[.int .i64 0, .int .i64 0, .string ⟨#[]⟩] 34)
        have k_h := k_h.alloc (.cells #[.int .i64 0, .int .i64 0, .string ⟨#[]⟩] 34)
        have k_g := Blk.new U19 34 #[.int .i64 0, .int .i64 0, .string ⟨#[]⟩]
        have bb := bb.alloc bb.size (.cells #[.int .i64 0, .int .i64 0, .string ⟨#[]⟩] 34)
        refine hK.out _ _ ⟨by rw [k_p.cell]; rfl, by rw [k_p.cell]; rfl⟩ (fun hHeld => ?_)
        clear hK K
        generalize U19.alloc (.cells #[.int .i64 0, .int .i64 0, .string ⟨#[]⟩] 34) = U24 at *
        generalize U19.heap.size = g at *
        have n_gh : g ≠ h := by omega
        have n_hg : h ≠ g := by omega
        clear n_l
        have n_gp := n_p
        clear n_p
        (try simp only [Act.put, List.setIfInBounds_toArray, List.set_cons_zero, List.set_cons_succ])
        refine wpAnyH_ready (rs := [2]) (by kernel_rfl) (by simp) ?_
        refine AllReadyH.cons rfl (fun K hK => ?_) AllReadyH.nil
        go_simp
        obtain ⟨⟨k1, k2, k3⟩, hks, hkc⟩ := key_any ky U24
        have HKC := Lib.hid hkc
        clear hkc
        refine HKC.out.mono ?_
        rintro e U25 ⟨rfl, bq⟩
        have k_p := k_p.below bq k_p.lt
        have k_g := k_g.below bq k_g.lt
        have k_h := k_h.below bq k_h.lt
        have bb := bb.trans (bq.mono bb.size)
        clear bq HKC
        refine hK.out _ _ ⟨by rw [k_p.cell]; rfl, by rw [k_p.cell]; rfl⟩ (fun hHeld => ?_)
        clear hK K
        (try simp only [Act.put, List.setIfInBounds_toArray, List.set_cons_zero, List.set_cons_succ])
        obtain ⟨x0, x1, x2, z0, z1, z2, l0⟩ := k3c k_g
        refine wpAnyH_ready (rs := [9]) (by kernel_rfl) (by simp) ?_
        refine AllReadyH.cons rfl (fun K hK => ?_) AllReadyH.nil
        go_simp
        clear x0 x1 x2 z0 z1 z2 l0
        have k_h := k3far k_h n_hg (.int .i64 k1) (.int .i64 k2) (.string k3)
        have k_p := k3far k_p (Nat.ne_of_lt n_gp) (.int .i64 k1) (.int .i64 k2) (.string k3)
        have k_g := k3set k_g (.int .i64 k1) (.int .i64 k2) (.string k3)
        have bb := b3set bb (g := g) (by omega) (.int .i64 k1) (.int .i64 k2) (.string k3)
        refine hK.out _ _ ⟨by rw [k_p.cell]; rfl, by rw [k_p.cell]; rfl⟩ (fun hHeld => ?_)
        clear hK K
        generalize (((U25.setCell ⟨g, 0, none⟩ (.int .i64 k1)).setCell ⟨g, 1, none⟩ (.int .i64 k2)).setCell ⟨g, 2, none⟩ (.string k3)) = U26 at *
        (try simp only [Act.put, List.setIfInBounds_toArray, List.set_cons_zero, List.set_cons_succ])
        obtain ⟨x0, x1, x2, z0, z1, z2, l0⟩ := k3c k_h
        refine wpAnyH_ready (rs := [10]) (by kernel_rfl) (by simp) ?_
        refine AllReadyH.cons rfl (fun K hK => ?_) AllReadyH.nil
        go_simp
        clear x0 x1 x2 z0 z1 z2 l0
        have k_g := k3far k_g n_gh (.int .i64 3) (.int .i64 (vv : Int)) (.string ⟨#[]⟩)
        have k_p := k3far k_p (Nat.ne_of_lt n_hp) (.int .i64 3) (.int .i64 (vv : Int)) (.string ⟨#[]⟩)
        have k_h := k3set k_h (.int .i64 3) (.int .i64 (vv : Int)) (.string ⟨#[]⟩)
        have bb := b3set bb (g := h) (by omega) (.int .i64 3) (.int .i64 (vv : Int)) (.string ⟨#[]⟩)
        refine hK.out _ _ ⟨by rw [k_p.cell]; rfl, by rw [k_p.cell]; rfl⟩ (fun hHeld => ?_)
        clear hK K
        generalize (((U26.setCell ⟨h, 0, none⟩ (.int .i64 3)).setCell ⟨h, 1, none⟩ (.int .i64 (vv : Int))).setCell ⟨h, 2, none⟩ (.string ⟨#[]⟩)) = U27 at *
        (try simp only [Act.put, List.setIfInBounds_toArray, List.set_cons_zero, List.set_cons_succ])
        refine wpAnyH_done (by kernel_rfl) ?_ _
        go_wp2_with fail
        go_meet
        exact ⟨g, h, (k1, k2, k3), rfl, rfl, Lib.hid ⟨hks, bb, k_g, k_h, k_p, n_gh, n_gp, n_hp⟩⟩
  case rest =>
  obtain ⟨g, h, ⟨k1, k2, k3⟩, rfl, rfl, HF⟩ := hcut
  clear HB0
  obtain ⟨s0, hs0⟩ : ∃ s0, s0 = ({ s with ks := [(g, 34, #[.int .i64 k1, .int .i64 k2, .string k3]), (h, 34, #[.int .i64 3, .int .i64 (vv : Int), .string ⟨#[]⟩]), (p, 80, #[.int .i64 kd, .int .i64 rr, .int .i64 ky, .int .i64 vl, .int .i64 fl])] } : RS) := ⟨_, rfl⟩
  have hPF : PF w1 s N H Q g h p (k1, k2, k3) vv kd rr ky vl fl w wc s0 := by
    obtain ⟨hR, hs, hp, hN, hG, hP, hk0⟩ := HX.out
    obtain ⟨hks, bc, kg, kh, kp, hgh, hpg, hph⟩ := HF.out
    refine ⟨?_, by rw [hs0], by rw [hs0]; exact hs, by rw [hs0], by rw [hs0]; exact HHQ.out.1, by rw [hs0]; exact HHQ.out.2, HHQ.out.1, HHQ.out.2, hks, hp, hN, hG, hP, HKD.out.2⟩
    rw [hs0]
    refine hR.keeps hk0 bc _ (fun x hx => ?_) ?_
    · simp only [List.mem_cons, List.not_mem_nil, or_false] at hx
      rcases hx with rfl | rfl | rfl
      · exact ⟨kg, by dsimp only; omega⟩
      · exact ⟨kh, by dsimp only; omega⟩
      · exact ⟨kp, by dsimp only; omega⟩
    · simp only [List.pairwise_cons, List.mem_cons, List.not_mem_nil, or_false]
      refine ⟨fun y hy => ?_, fun y hy => ?_, fun y hy => hy.elim, List.Pairwise.nil⟩
      · rcases hy with rfl | rfl
        · exact hgh
        · exact Nat.ne_of_gt hpg
      · subst hy
        exact Nat.ne_of_gt hph
  have HPF := Lib.hid hPF
  have y0 : wc.cell? ⟨p, 0, none⟩ = some (.int .i64 kd) := by rw [(hPF.boxes hPF.st rfl).2.2.cell]; rfl
  have y1 : wc.cell? ⟨p, 1, none⟩ = some (.int .i64 rr) := by rw [(hPF.boxes hPF.st rfl).2.2.cell]; rfl
  have lp : p < wc.heap.size := (hPF.boxes hPF.st rfl).2.2.lt
  have hkd0 := HKD.out.1
  clear hPF hs0 HF HX HHQ hp0 hvv
  by_cases hK0 : K = 0
  · subst hK0
    clear HJR
    have hkd : (wrap64 (kd.tmod 8 + 8)).tmod 8 = 0 := hkd0
    clear hkd0
    as_aux_lemma =>
    have kp := (HPF.out.boxes HPF.out.st rfl).2.2
    have y3 : wc.cell? ⟨p, 3, none⟩ = some (.int .i64 vl) := by rw [kp.cell]; rfl
    have y4 : wc.cell? ⟨p, 4, none⟩ = some (.int .i64 fl) := by rw [kp.cell]; rfl
    clear kp
    obtain ⟨n, hn⟩ : ∃ n, s0.oi.length = n := ⟨_, rfl⟩
    have hnd : s0.od.length = n := by rw [HPF.out.od, ← HPF.out.oi, hn]
    obtain ⟨la, lcap, hq0, lq⟩ : ∃ la lcap, wc.cell? ⟨Q, 0, none⟩ = some (.slice la n lcap) ∧ Q < wc.heap.size := by
      obtain ⟨lv, hx⟩ := HPF.out.st.rhp
      have hr := hx.row
      rw [HPF.out.st.nq, hnd] at hr
      obtain ⟨la, lcap, e, -⟩ := own_shape hr
      have hb := hx.hb
      rw [HPF.out.hQ, e] at hb
      exact ⟨la, lcap, by rw [hb.cell]; rfl, hb.lt⟩
    have HN := Lib.hid (And.intro hn hnd)
    clear hn hnd
    by_cases h12 : 12 ≤ n
    · have t1 : decide ((12 : Int) ≤ (n : Int)) = true := by rw [decide_eq_true_eq]; omega
      have HE := Lib.hid (HPF.out.fin HPF.out.st (by rw [HPF.out.od, HPF.out.oi]) (by rw [HPF.out.oi]; exact HPF.out.rp.mono) rfl rfl)
      go_wp2_with fail
      go_ret
      exact ⟨rfl, HE.out⟩
    have t1 : decide ((12 : Int) ≤ (n : Int)) = false := by rw [decide_eq_false_iff_not]; omega
    obtain ⟨pv, hpv9, hpv0⟩ := and_to vl 15 (by decide)
    have hpv : bits .and .i64 vl 15 = (pv : Int) := hpv0
    clear hpv9 hpv0
    obtain ⟨f1, hf9, hf0⟩ := and_to fl 1 (by decide)
    have hff : bits .and .i64 fl 1 = (f1 : Int) := hf0
    clear hf0
    by_cases hf1 : f1 = 1
    · subst hf1
      have hf : bits .and .i64 fl 1 = 1 := hff
      clear hff
      have tf : ((1 : Int) == 1) = true := by decide
      by_cases hpn : n < pv
      · have t2 : decide ((n : Int) < (pv : Int)) = true := by rw [decide_eq_true_eq]; omega
        have hmk := HPF.out.st.make (by rw [HN.out.1]; omega) true 0
        rw [show (Value.pointer (some ⟨s0.H, 0, none⟩)) = Value.pointer (some ⟨H, 0, none⟩) by rw [HPF.out.hH], HN.out.1, show (if true = true then (1 : Int) else 0) = 1 from rfl] at hmk
        have HMK := Lib.hid hmk
        clear hmk
        go_wp2_with fail
        refine HMK.out.mono ?_
        rintro e W3 ⟨b, T, rfl, hst, hblk⟩
        have kp3 := (HPF.out.boxes hst rfl).2.2
        have e4 : W3.cell? ⟨p, 4, none⟩ = some (.int .i64 fl) := by rw [kp3.cell]; rfl
        have lp3 := kp3.lt
        have hrm := hst.rmake (by show s0.od.length ≤ 1000; rw [HN.out.2]; omega) true 0
        have hrm2 : Calls Tryd.prog 58 #[.pointer (some ⟨Q, 0, none⟩), .bool true, .int .i64 (0 : Int)] W3 fun e w' => e = .returned (.int .i64 ((n + 1 : Nat) : Int)) ∧ PlayP w1 s N w' ∧ w'.cell? ⟨b, 1, none⟩ = some (.int .i64 (0 : Int)) ∧ b < w'.heap.size := by
          have h1 := hrm
          rw [show (Value.pointer (some ⟨({ s0 with oi := s0.oi ++ [newO true 0], bs := s0.bs ++ [(b, T)] } : RS).Q, 0, none⟩)) = Value.pointer (some ⟨Q, 0, none⟩) by rw [← HPF.out.hQ]] at h1
          refine h1.mono ?_
          rintro e W4 ⟨q, rfl, hst4, -⟩
          have hbn : s0.bs.length = n := by rw [HPF.out.st.nb, HN.out.1]
          have hat : (s0.oi ++ [newO true 0])[n]? = some (newO true 0) := by rw [← HN.out.1, List.getElem?_append_right (Nat.le_refl _), Nat.sub_self]; rfl
          have hbat : (s0.bs ++ [(b, T)])[n]? = some (b, T) := by rw [← hbn, List.getElem?_append_right (Nat.le_refl _), Nat.sub_self]; rfl
          have hpr := hst4.prI (i := n) (o := newO true 0) hat
          rw [bl_at (s := { s0 with oi := s0.oi ++ [newO true 0], bs := s0.bs ++ [(b, T)], od := s0.od ++ [newO true 0], qs := s0.qs ++ [q] }) hbat] at hpr
          refine ⟨by show Ending.returned (.int .i64 ((s0.od.length + 1 : Nat) : Int)) = _; rw [HN.out.2], HPF.out.fin hst4 (by show s0.od ++ _ = s0.oi ++ _; rw [HPF.out.od, HPF.out.oi]) ?_ rfl rfl, hpr.1, hpr.2⟩
          show RP (s0.oi ++ [newO true 0]) (N + 1)
          have h0 := HPF.out.rp
          rw [← HPF.out.oi] at h0
          refine ⟨fun x hx => ?_, fun x hx => ?_, h0.ends.more _ (by show 0 ≤ s0.oi.length; rw [HN.out.1]; omega), by rw [List.length_append, HN.out.1]; show n + 1 ≤ 12; omega⟩
          · rcases List.mem_append.1 hx with hx | hx
            · exact h0.ok x hx
            · rw [List.mem_singleton.1 hx]
              exact ⟨fun x hx => absurd hx List.not_mem_nil, List.Pairwise.nil, fun _ x hx => absurd hx List.not_mem_nil, fun _ => rfl, Nat.zero_le _⟩
          · rcases List.mem_append.1 hx with hx | hx
            · exact Nat.le_succ_of_le (h0.len x hx)
            · rw [List.mem_singleton.1 hx]
              exact Nat.zero_le _
        have HRM := Lib.hid hrm2
        clear hst hblk kp3 hrm hrm2 HMK y0 y1 y3 y4 lp hq0 lq
        go_wp2_with fail
        refine HRM.out.mono ?_
        rintro e W4 ⟨rfl, hE, f1, f2⟩
        have HE := Lib.hid hE
        have tn : (((n + 1 : Nat) : Int) == ((n + 1 : Nat) : Int)) = true := by simp
        have tp : (((0 : Int) : Int) == (0 : Int)) = true := by simp
        clear hE e4 lp3 HRM
        go_wp2_with fail
        go_ret
        exact ⟨rfl, HE.out⟩
      · have t2 : decide ((n : Int) < (pv : Int)) = false := by rw [decide_eq_false_iff_not]; omega
        have hmk := HPF.out.st.make (by rw [HN.out.1]; omega) true pv
        rw [show (Value.pointer (some ⟨s0.H, 0, none⟩)) = Value.pointer (some ⟨H, 0, none⟩) by rw [HPF.out.hH], HN.out.1, show (if true = true then (1 : Int) else 0) = 1 from rfl] at hmk
        have HMK := Lib.hid hmk
        clear hmk
        go_wp2_with fail
        refine HMK.out.mono ?_
        rintro e W3 ⟨b, T, rfl, hst, hblk⟩
        have kp3 := (HPF.out.boxes hst rfl).2.2
        have e4 : W3.cell? ⟨p, 4, none⟩ = some (.int .i64 fl) := by rw [kp3.cell]; rfl
        have lp3 := kp3.lt
        have hrm := hst.rmake (by show s0.od.length ≤ 1000; rw [HN.out.2]; omega) true pv
        have hrm2 : Calls Tryd.prog 58 #[.pointer (some ⟨Q, 0, none⟩), .bool true, .int .i64 (pv : Int)] W3 fun e w' => e = .returned (.int .i64 ((n + 1 : Nat) : Int)) ∧ PlayP w1 s N w' ∧ w'.cell? ⟨b, 1, none⟩ = some (.int .i64 (pv : Int)) ∧ b < w'.heap.size := by
          have h1 := hrm
          rw [show (Value.pointer (some ⟨({ s0 with oi := s0.oi ++ [newO true pv], bs := s0.bs ++ [(b, T)] } : RS).Q, 0, none⟩)) = Value.pointer (some ⟨Q, 0, none⟩) by rw [← HPF.out.hQ]] at h1
          refine h1.mono ?_
          rintro e W4 ⟨q, rfl, hst4, -⟩
          have hbn : s0.bs.length = n := by rw [HPF.out.st.nb, HN.out.1]
          have hat : (s0.oi ++ [newO true pv])[n]? = some (newO true pv) := by rw [← HN.out.1, List.getElem?_append_right (Nat.le_refl _), Nat.sub_self]; rfl
          have hbat : (s0.bs ++ [(b, T)])[n]? = some (b, T) := by rw [← hbn, List.getElem?_append_right (Nat.le_refl _), Nat.sub_self]; rfl
          have hpr := hst4.prI (i := n) (o := newO true pv) hat
          rw [bl_at (s := { s0 with oi := s0.oi ++ [newO true pv], bs := s0.bs ++ [(b, T)], od := s0.od ++ [newO true pv], qs := s0.qs ++ [q] }) hbat] at hpr
          refine ⟨by show Ending.returned (.int .i64 ((s0.od.length + 1 : Nat) : Int)) = _; rw [HN.out.2], HPF.out.fin hst4 (by show s0.od ++ _ = s0.oi ++ _; rw [HPF.out.od, HPF.out.oi]) ?_ rfl rfl, hpr.1, hpr.2⟩
          show RP (s0.oi ++ [newO true pv]) (N + 1)
          have h0 := HPF.out.rp
          rw [← HPF.out.oi] at h0
          refine ⟨fun x hx => ?_, fun x hx => ?_, h0.ends.more _ (by show pv ≤ s0.oi.length; rw [HN.out.1]; omega), by rw [List.length_append, HN.out.1]; show n + 1 ≤ 12; omega⟩
          · rcases List.mem_append.1 hx with hx | hx
            · exact h0.ok x hx
            · rw [List.mem_singleton.1 hx]
              exact ⟨fun x hx => absurd hx List.not_mem_nil, List.Pairwise.nil, fun _ x hx => absurd hx List.not_mem_nil, fun _ => rfl, Nat.zero_le _⟩
          · rcases List.mem_append.1 hx with hx | hx
            · exact Nat.le_succ_of_le (h0.len x hx)
            · rw [List.mem_singleton.1 hx]
              exact Nat.zero_le _
        have HRM := Lib.hid hrm2
        clear hst hblk kp3 hrm hrm2 HMK y0 y1 y3 y4 lp hq0 lq
        go_wp2_with fail
        refine HRM.out.mono ?_
        rintro e W4 ⟨rfl, hE, f1, f2⟩
        have HE := Lib.hid hE
        have tn : (((n + 1 : Nat) : Int) == ((n + 1 : Nat) : Int)) = true := by simp
        have tp : (((pv : Int) : Int) == (pv : Int)) = true := by simp
        clear hE e4 lp3 HRM
        go_wp2_with fail
        go_ret
        exact ⟨rfl, HE.out⟩
    · have hf00 : f1 = 0 := by omega
      subst hf00
      have hf : bits .and .i64 fl 1 = 0 := hff
      clear hff hf1
      have tf : ((0 : Int) == 1) = false := by decide
      by_cases hpn : n < pv
      · have t2 : decide ((n : Int) < (pv : Int)) = true := by rw [decide_eq_true_eq]; omega
        have hmk := HPF.out.st.make (by rw [HN.out.1]; omega) false 0
        rw [show (Value.pointer (some ⟨s0.H, 0, none⟩)) = Value.pointer (some ⟨H, 0, none⟩) by rw [HPF.out.hH], HN.out.1, show (if false = true then (1 : Int) else 0) = 0 from rfl] at hmk
        have HMK := Lib.hid hmk
        clear hmk
        go_wp2_with fail
        refine HMK.out.mono ?_
        rintro e W3 ⟨b, T, rfl, hst, hblk⟩
        have kp3 := (HPF.out.boxes hst rfl).2.2
        have e4 : W3.cell? ⟨p, 4, none⟩ = some (.int .i64 fl) := by rw [kp3.cell]; rfl
        have lp3 := kp3.lt
        have hrm := hst.rmake (by show s0.od.length ≤ 1000; rw [HN.out.2]; omega) false 0
        have hrm2 : Calls Tryd.prog 58 #[.pointer (some ⟨Q, 0, none⟩), .bool false, .int .i64 (0 : Int)] W3 fun e w' => e = .returned (.int .i64 ((n + 1 : Nat) : Int)) ∧ PlayP w1 s N w' ∧ w'.cell? ⟨b, 1, none⟩ = some (.int .i64 (0 : Int)) ∧ b < w'.heap.size := by
          have h1 := hrm
          rw [show (Value.pointer (some ⟨({ s0 with oi := s0.oi ++ [newO false 0], bs := s0.bs ++ [(b, T)] } : RS).Q, 0, none⟩)) = Value.pointer (some ⟨Q, 0, none⟩) by rw [← HPF.out.hQ]] at h1
          refine h1.mono ?_
          rintro e W4 ⟨q, rfl, hst4, -⟩
          have hbn : s0.bs.length = n := by rw [HPF.out.st.nb, HN.out.1]
          have hat : (s0.oi ++ [newO false 0])[n]? = some (newO false 0) := by rw [← HN.out.1, List.getElem?_append_right (Nat.le_refl _), Nat.sub_self]; rfl
          have hbat : (s0.bs ++ [(b, T)])[n]? = some (b, T) := by rw [← hbn, List.getElem?_append_right (Nat.le_refl _), Nat.sub_self]; rfl
          have hpr := hst4.prI (i := n) (o := newO false 0) hat
          rw [bl_at (s := { s0 with oi := s0.oi ++ [newO false 0], bs := s0.bs ++ [(b, T)], od := s0.od ++ [newO false 0], qs := s0.qs ++ [q] }) hbat] at hpr
          refine ⟨by show Ending.returned (.int .i64 ((s0.od.length + 1 : Nat) : Int)) = _; rw [HN.out.2], HPF.out.fin hst4 (by show s0.od ++ _ = s0.oi ++ _; rw [HPF.out.od, HPF.out.oi]) ?_ rfl rfl, hpr.1, hpr.2⟩
          show RP (s0.oi ++ [newO false 0]) (N + 1)
          have h0 := HPF.out.rp
          rw [← HPF.out.oi] at h0
          refine ⟨fun x hx => ?_, fun x hx => ?_, h0.ends.more _ (by show 0 ≤ s0.oi.length; rw [HN.out.1]; omega), by rw [List.length_append, HN.out.1]; show n + 1 ≤ 12; omega⟩
          · rcases List.mem_append.1 hx with hx | hx
            · exact h0.ok x hx
            · rw [List.mem_singleton.1 hx]
              exact ⟨fun x hx => absurd hx List.not_mem_nil, List.Pairwise.nil, fun _ x hx => absurd hx List.not_mem_nil, fun _ => rfl, Nat.zero_le _⟩
          · rcases List.mem_append.1 hx with hx | hx
            · exact Nat.le_succ_of_le (h0.len x hx)
            · rw [List.mem_singleton.1 hx]
              exact Nat.zero_le _
        have HRM := Lib.hid hrm2
        clear hst hblk kp3 hrm hrm2 HMK y0 y1 y3 y4 lp hq0 lq
        go_wp2_with fail
        refine HRM.out.mono ?_
        rintro e W4 ⟨rfl, hE, f1, f2⟩
        have HE := Lib.hid hE
        have tn : (((n + 1 : Nat) : Int) == ((n + 1 : Nat) : Int)) = true := by simp
        have tp : (((0 : Int) : Int) == (0 : Int)) = true := by simp
        clear hE e4 lp3 HRM
        go_wp2_with fail
        go_ret
        exact ⟨rfl, HE.out⟩
      · have t2 : decide ((n : Int) < (pv : Int)) = false := by rw [decide_eq_false_iff_not]; omega
        have hmk := HPF.out.st.make (by rw [HN.out.1]; omega) false pv
        rw [show (Value.pointer (some ⟨s0.H, 0, none⟩)) = Value.pointer (some ⟨H, 0, none⟩) by rw [HPF.out.hH], HN.out.1, show (if false = true then (1 : Int) else 0) = 0 from rfl] at hmk
        have HMK := Lib.hid hmk
        clear hmk
        go_wp2_with fail
        refine HMK.out.mono ?_
        rintro e W3 ⟨b, T, rfl, hst, hblk⟩
        have kp3 := (HPF.out.boxes hst rfl).2.2
        have e4 : W3.cell? ⟨p, 4, none⟩ = some (.int .i64 fl) := by rw [kp3.cell]; rfl
        have lp3 := kp3.lt
        have hrm := hst.rmake (by show s0.od.length ≤ 1000; rw [HN.out.2]; omega) false pv
        have hrm2 : Calls Tryd.prog 58 #[.pointer (some ⟨Q, 0, none⟩), .bool false, .int .i64 (pv : Int)] W3 fun e w' => e = .returned (.int .i64 ((n + 1 : Nat) : Int)) ∧ PlayP w1 s N w' ∧ w'.cell? ⟨b, 1, none⟩ = some (.int .i64 (pv : Int)) ∧ b < w'.heap.size := by
          have h1 := hrm
          rw [show (Value.pointer (some ⟨({ s0 with oi := s0.oi ++ [newO false pv], bs := s0.bs ++ [(b, T)] } : RS).Q, 0, none⟩)) = Value.pointer (some ⟨Q, 0, none⟩) by rw [← HPF.out.hQ]] at h1
          refine h1.mono ?_
          rintro e W4 ⟨q, rfl, hst4, -⟩
          have hbn : s0.bs.length = n := by rw [HPF.out.st.nb, HN.out.1]
          have hat : (s0.oi ++ [newO false pv])[n]? = some (newO false pv) := by rw [← HN.out.1, List.getElem?_append_right (Nat.le_refl _), Nat.sub_self]; rfl
          have hbat : (s0.bs ++ [(b, T)])[n]? = some (b, T) := by rw [← hbn, List.getElem?_append_right (Nat.le_refl _), Nat.sub_self]; rfl
          have hpr := hst4.prI (i := n) (o := newO false pv) hat
          rw [bl_at (s := { s0 with oi := s0.oi ++ [newO false pv], bs := s0.bs ++ [(b, T)], od := s0.od ++ [newO false pv], qs := s0.qs ++ [q] }) hbat] at hpr
          refine ⟨by show Ending.returned (.int .i64 ((s0.od.length + 1 : Nat) : Int)) = _; rw [HN.out.2], HPF.out.fin hst4 (by show s0.od ++ _ = s0.oi ++ _; rw [HPF.out.od, HPF.out.oi]) ?_ rfl rfl, hpr.1, hpr.2⟩
          show RP (s0.oi ++ [newO false pv]) (N + 1)
          have h0 := HPF.out.rp
          rw [← HPF.out.oi] at h0
          refine ⟨fun x hx => ?_, fun x hx => ?_, h0.ends.more _ (by show pv ≤ s0.oi.length; rw [HN.out.1]; omega), by rw [List.length_append, HN.out.1]; show n + 1 ≤ 12; omega⟩
          · rcases List.mem_append.1 hx with hx | hx
            · exact h0.ok x hx
            · rw [List.mem_singleton.1 hx]
              exact ⟨fun x hx => absurd hx List.not_mem_nil, List.Pairwise.nil, fun _ x hx => absurd hx List.not_mem_nil, fun _ => rfl, Nat.zero_le _⟩
          · rcases List.mem_append.1 hx with hx | hx
            · exact Nat.le_succ_of_le (h0.len x hx)
            · rw [List.mem_singleton.1 hx]
              exact Nat.zero_le _
        have HRM := Lib.hid hrm2
        clear hst hblk kp3 hrm hrm2 HMK y0 y1 y3 y4 lp hq0 lq
        go_wp2_with fail
        refine HRM.out.mono ?_
        rintro e W4 ⟨rfl, hE, f1, f2⟩
        have HE := Lib.hid hE
        have tn : (((n + 1 : Nat) : Int) == ((n + 1 : Nat) : Int)) = true := by simp
        have tp : (((pv : Int) : Int) == (pv : Int)) = true := by simp
        clear hE e4 lp3 HRM
        go_wp2_with fail
        go_ret
        exact ⟨rfl, HE.out⟩
  by_cases hin : 1 ≤ j ∧ j ≤ s.oi.length
  rotate_left
  · have HJ : Hid ((j : Int) < 1 ∨ (s.oi.length : Int) < (j : Int)) := Lib.hid (by omega)
    have hj0 : (0 : Int) ≤ (j : Int) := by omega
    have hr : bits .and .i64 rr 15 = (j : Int) := HJR.out.1
    have hK1 : ((K : Int) == 0) = false := by simp; omega
    have hkd : (wrap64 (kd.tmod 8 + 8)).tmod 8 = (K : Int) := hkd0
    clear hkd0 HJR hin hK0
    as_aux_lemma =>
    have hr1 : s0.oi.length ≤ 1000 := by have := HPF.out.rp.le; rw [HPF.out.oi]; omega
    have hr2 : s0.od.length ≤ 1000 := by have := HPF.out.rp.le; rw [HPF.out.od]; omega
    have hc1 : ∀ W, Below wc.heap.size wc W → Calls Tryd.prog 11 #[.pointer (some ⟨H, 0, none⟩), .int .i64 (j : Int)] W fun e w' => e = .returned (.pointer none) ∧ Below W.heap.size W w' := fun W b => by
      have h1 := (HPF.out.st.below b).hobj hr1 (j : Int)
      rw [objB_out (by rw [HPF.out.st.nb, HPF.out.oi]; exact HJ.out), HPF.out.hH] at h1
      exact h1
    have hc2 : ∀ W, Below wc.heap.size wc W → Calls Tryd.prog 37 #[.pointer (some ⟨Q, 0, none⟩), .int .i64 (j : Int)] W fun e w' => e = .returned (.pointer none) ∧ Below W.heap.size W w' := fun W b => by
      have h1 := (HPF.out.st.below b).rob hr2 (j : Int)
      rw [robjV_out (by rw [HPF.out.st.nq, HPF.out.od]; exact HJ.out), HPF.out.hQ] at h1
      exact h1
    have HC := Lib.hid (And.intro hc1 hc2)
    clear hc1 hc2 hr1 hr2
    go_wp2_with fail
    refine (HC.out.1 wc (Below.refl _ _)).mono ?_
    rintro e W1 ⟨rfl, b1⟩
    have HB1 := Lib.hid b1
    clear y0 y1 lp b1 hkd
    go_wp2_with fail
    refine (HC.out.2 W1 HB1.out).mono ?_
    rintro e W2 ⟨rfl, b2⟩
    have HB2 := Lib.hid (HB1.out.trans (b2.mono HB1.out.size))
    clear b2 HB1
    obtain ⟨kg, kh, kp⟩ := HPF.out.boxes (HPF.out.st.below HB2.out) rfl
    have c0 : W2.cell? ⟨g, 0, none⟩ = some (.int .i64 k1) := by rw [kg.cell]; rfl
    have c1 : W2.cell? ⟨g, 1, none⟩ = some (.int .i64 k2) := by rw [kg.cell]; rfl
    have c2 : W2.cell? ⟨g, 2, none⟩ = some (.string k3) := by rw [kg.cell]; rfl
    have d0 : W2.cell? ⟨h, 0, none⟩ = some (.int .i64 3) := by rw [kh.cell]; rfl
    have d1 : W2.cell? ⟨h, 1, none⟩ = some (.int .i64 (vv : Int)) := by rw [kh.cell]; rfl
    have d2 : W2.cell? ⟨h, 2, none⟩ = some (.string ⟨#[]⟩) := by rw [kh.cell]; rfl
    have lg := kg.lt
    have lh := kh.lt
    clear kg kh kp
    have HP1 : Hid (Calls Tryd.prog 16 #[.pointer (some ⟨H, 0, none⟩), .int .i64 (j : Int), VS k1 k2 k3, VS 3 (vv : Int) ⟨#[]⟩] W2 fun e w' => e = .returned (.bool false) ∧ Below W2.heap.size W2 w') := Lib.hid (put_nil (k := (k1, k2, k3)) (v := (3, (vv : Int), ⟨#[]⟩)) (fun W b => HC.out.1 W (HB2.out.trans (b.mono HB2.out.size))))
    have HP2 : Hid (∀ W, Below wc.heap.size wc W → Calls Tryd.prog 59 #[.pointer (some ⟨Q, 0, none⟩), .int .i64 (j : Int), VS k1 k2 k3, VS 3 (vv : Int) ⟨#[]⟩] W fun e w' => e = .returned (.bool false) ∧ Below W.heap.size W w') := Lib.hid (fun W b => rput_nil (k := (k1, k2, k3)) (v := (3, (vv : Int), ⟨#[]⟩)) (fun W' b' => HC.out.2 W' (b.trans (b'.mono b.size))))
    go_wp2_with fail
    refine HP1.out.mono ?_
    rintro e W3 ⟨rfl, b3⟩
    have HB3 := Lib.hid (HB2.out.trans (b3.mono HB2.out.size))
    clear b3 c0 c1 c2 d0 d1 d2 lg lh
    obtain ⟨kg, kh, kp⟩ := HPF.out.boxes (HPF.out.st.below HB3.out) rfl
    have c0 : W3.cell? ⟨g, 0, none⟩ = some (.int .i64 k1) := by rw [kg.cell]; rfl
    have c1 : W3.cell? ⟨g, 1, none⟩ = some (.int .i64 k2) := by rw [kg.cell]; rfl
    have c2 : W3.cell? ⟨g, 2, none⟩ = some (.string k3) := by rw [kg.cell]; rfl
    have d0 : W3.cell? ⟨h, 0, none⟩ = some (.int .i64 3) := by rw [kh.cell]; rfl
    have d1 : W3.cell? ⟨h, 1, none⟩ = some (.int .i64 (vv : Int)) := by rw [kh.cell]; rfl
    have d2 : W3.cell? ⟨h, 2, none⟩ = some (.string ⟨#[]⟩) := by rw [kh.cell]; rfl
    have lg := kg.lt
    have lh := kh.lt
    clear kg kh kp HB2 HP1
    go_wp2_with fail
    refine (HP2.out W3 HB3.out).mono ?_
    rintro e W4 ⟨rfl, b4⟩
    have HE := Lib.hid (HPF.out.fin (HPF.out.st.below (HB3.out.trans (b4.mono HB3.out.size))) (by rw [HPF.out.od, HPF.out.oi]) (by rw [HPF.out.oi]; exact HPF.out.rp.mono) rfl rfl)
    clear b4 HB3 c0 c1 c2 d0 d1 d2 lg lh
    go_wp2_with fail
    go_ret
    exact ⟨rfl, HE.out⟩
  obtain ⟨i, rfl⟩ : ∃ i, j = i + 1 := ⟨j - 1, by omega⟩
  obtain ⟨o, ho⟩ : ∃ o, s.oi[i]? = some o := ⟨_, List.getElem?_eq_getElem (by omega)⟩
  have hr : bits .and .i64 rr 15 = (i : Int) + 1 := by rw [HJR.out.1]; omega
  have hKc : K = 1 ∨ K = 2 ∨ K = 3 ∨ K = 4 ∨ K = 5 ∨ K = 6 ∨ K = 7 := by have := HJR.out.2; omega
  clear HJR hin hK0
  rcases hKc with rfl | rfl | rfl | rfl | rfl | rfl | rfl
  · have hkd : (wrap64 (kd.tmod 8 + 8)).tmod 8 = 1 := hkd0
    clear hkd0
    as_aux_lemma =>
    obtain ⟨os, hos⟩ : ∃ os, s.oi = os := ⟨_, rfl⟩
    rw [hos] at ho
    have hoi : s0.oi[i]? = some o := by rw [HPF.out.oi, hos]; exact ho
    have hod : s0.od[i]? = some o := by rw [HPF.out.od, hos]; exact ho
    have hr1 : s0.oi.length ≤ 1000 := by have := HPF.out.rp.le; rw [HPF.out.oi]; omega
    have hr2 : s0.od.length ≤ 1000 := by have := HPF.out.rp.le; rw [HPF.out.od]; omega
    have hc1 := HPF.out.st.hobj hr1 ((i : Int) + 1)
    rw [objB_at (HPF.out.st.bAt hoi), HPF.out.hH] at hc1
    have hc2 : ∀ W, Below wc.heap.size wc W → Calls Tryd.prog 37 #[.pointer (some ⟨Q, 0, none⟩), .int .i64 ((i : Int) + 1)] W fun e w' => e = .returned (.pointer (some ⟨s0.ql i, 0, none⟩)) ∧ Below W.heap.size W w' := fun W b => by
      have h1 := (HPF.out.st.below b).rob hr2 ((i : Int) + 1)
      rw [robjV_at ((HPF.out.st.below b).qAt hod), HPF.out.hQ] at h1
      exact h1
    obtain ⟨bi, hbi⟩ : ∃ b, s0.bl i = b := ⟨_, rfl⟩
    obtain ⟨qi, hqi⟩ : ∃ q, s0.ql i = q := ⟨_, rfl⟩
    rw [hbi] at hc1
    simp only [hqi] at hc2
    have HC := Lib.hid (And.intro hc1 hc2)
    have HO := Lib.hid (And.intro ho (And.intro hoi (And.intro hod (And.intro hos (And.intro hbi hqi)))))
    clear hc1 hc2 ho hoi hod hos hbi hqi hr1 hr2
    go_wp2_with fail
    refine HC.out.1.mono ?_
    rintro e W1 ⟨rfl, b1⟩
    have HPF1 := Lib.hid (HPF.out.st.below b1)
    have HB1 := Lib.hid b1
    clear y0 y1 lp b1 hkd
    go_wp2_with fail
    refine (HC.out.2 W1 HB1.out).mono ?_
    rintro e W2 ⟨rfl, b2⟩
    have HR2 := Lib.hid (HPF1.out.below b2)
    clear b2 HPF1 HB1 HC
    obtain ⟨kg, kh, kp⟩ := HPF.out.boxes HR2.out rfl
    have c0 : W2.cell? ⟨g, 0, none⟩ = some (.int .i64 k1) := by rw [kg.cell]; rfl
    have c1 : W2.cell? ⟨g, 1, none⟩ = some (.int .i64 k2) := by rw [kg.cell]; rfl
    have c2 : W2.cell? ⟨g, 2, none⟩ = some (.string k3) := by rw [kg.cell]; rfl
    have d0 : W2.cell? ⟨h, 0, none⟩ = some (.int .i64 3) := by rw [kh.cell]; rfl
    have d1 : W2.cell? ⟨h, 1, none⟩ = some (.int .i64 (vv : Int)) := by rw [kh.cell]; rfl
    have d2 : W2.cell? ⟨h, 2, none⟩ = some (.string ⟨#[]⟩) := by rw [kh.cell]; rfl
    have e3 : W2.cell? ⟨p, 3, none⟩ = some (.int .i64 vl) := by rw [kp.cell]; rfl
    have e4 : W2.cell? ⟨p, 4, none⟩ = some (.int .i64 fl) := by rw [kp.cell]; rfl
    have lg := kg.lt
    have lh := kh.lt
    have lp := kp.lt
    clear kg kh kp
    obtain ⟨ff, hff9, hff0⟩ := and_to fl 15 (by decide)
    have hff : bits .and .i64 fl 15 = (ff : Int) := hff0
    have HFF := Lib.hid hff9
    clear hff0 hff9
    obtain ⟨B1, hB1⟩ : ∃ B, (o.def1 ((k1, k2, k3) : K3) ((3, (vv : Int), ⟨#[]⟩) : K3) (ff : Int)).1 = B := ⟨_, rfl⟩
    have HBB := Lib.hid hB1
    clear hB1
    have HCA : Hid (∀ (st : RS) (W : World), RSt w1 st W → st.oi = s0.oi → st.bl i = bi → Calls Tryd.prog 12 #[.pointer (some ⟨bi, 0, none⟩), VS k1 k2 k3, VS 3 (vv : Int) ⟨#[]⟩, .int .i64 (ff : Int)] W fun e w' => e = .returned (.bool B1) ∧ RSt w1 { st with oi := st.oi.set i (o.def1 ((k1, k2, k3) : K3) ((3, (vv : Int), ⟨#[]⟩) : K3) (ff : Int)).2 } w') := Lib.hid (fun st W hR e1 e3 => by
      have h1 := hR.def_ HPF.out.lg (by rw [e1, HPF.out.oi]; exact HPF.out.rp) HPF.out.nN (i := i) (o := o) (by rw [e1]; exact HO.out.2.1) (k := ((k1, k2, k3) : K3)) (v := ((3, (vv : Int), ⟨#[]⟩) : K3)) HPF.out.kk (ff : Int)
      rw [e3, HBB.out] at h1
      exact h1)
    have HCB : Hid (∀ (st : RS) (W : World), RSt w1 st W → st.od = s0.od → st.ql i = qi → Calls Tryd.prog 60 #[.pointer (some ⟨qi, 0, none⟩), VS k1 k2 k3, VS 3 (vv : Int) ⟨#[]⟩, .int .i64 (ff : Int)] W fun e w' => e = .returned (.bool B1) ∧ RSt w1 { st with od := st.od.set i (o.def1 ((k1, k2, k3) : K3) ((3, (vv : Int), ⟨#[]⟩) : K3) (ff : Int)).2 } w') := Lib.hid (fun st W hR e1 e3 => by
      have h1 := hR.rdef HPF.out.lg (by rw [e1, HPF.out.od]; exact HPF.out.rp) HPF.out.nN (i := i) (o := o) (by rw [e1]; exact HO.out.2.2.1) (k := ((k1, k2, k3) : K3)) (v := ((3, (vv : Int), ⟨#[]⟩) : K3)) HPF.out.kk (f := (ff : Int)) (by omega) (by have := HFF.out; omega)
      rw [e3, HBB.out] at h1
      exact h1)
    go_upto_region 22 with fail
    refine wp_var0 (fun KV HKV => ?_)
    have HR3 := Lib.hid (HR2.out.below (Below.refl W2.heap.size W2).drew)
    clear c0 c1 c2 d0 d1 d2 e3 e4 lg lh lp HR2
    refine wp_region_held_drew (S := (fun W => W.cell? ⟨g, 0, none⟩ = some (.int .i64 k1) ∧ W.cell? ⟨g, 1, none⟩ = some (.int .i64 k2) ∧ W.cell? ⟨g, 2, none⟩ = some (.string k3) ∧ W.cell? ⟨h, 0, none⟩ = some (.int .i64 3) ∧ W.cell? ⟨h, 1, none⟩ = some (.int .i64 (vv : Int)) ∧ W.cell? ⟨h, 2, none⟩ = some (.string ⟨#[]⟩) ∧ W.cell? ⟨p, 4, none⟩ = some (.int .i64 fl))) (by kernel_rfl) (by have zz := HPF.out.boxes HR3.out rfl; exact ⟨by rw [zz.1.cell]; rfl, by rw [zz.1.cell]; rfl, by rw [zz.1.cell]; rfl, by rw [zz.2.1.cell]; rfl, by rw [zz.2.1.cell]; rfl, by rw [zz.2.1.cell]; rfl, by rw [zz.2.2.cell]; rfl⟩) (fun hHeld => ?_)
    generalize W2.drew = D0 at *
    refine wpAnyH_take (i := 0) (oi := ?oo1700) (v := ?vv1700) ?hi1700 (by kernel_rfl) (by kernel_rfl) (by kernel_rfl) ?hq1700 ?hy1700 (by assumption) ?hh1700
    case hi1700 => (simp only [List.getElem?_toArray, List.getElem?_cons_succ, List.getElem?_cons_zero]; rfl)
    case hq1700 => exact fun _ _ _ h => h
    case hy1700 => exact Or.inl ⟨by rfl, by (intro W hSw; (try dsimp only at hSw); go_simp; (try with_reducible rfl))⟩
    (try simp only [Act.put, List.setIfInBounds_toArray, List.set_cons_zero, List.set_cons_succ])
    refine wpAnyH_take (i := 1) (oi := ?oo1701) (v := ?vv1701) ?hi1701 (by kernel_rfl) (by kernel_rfl) (by kernel_rfl) ?hq1701 ?hy1701 (by assumption) ?hh1701
    case hi1701 => (simp only [List.getElem?_toArray, List.getElem?_cons_succ, List.getElem?_cons_zero]; rfl)
    case hq1701 => exact fun _ _ _ h => h
    case hy1701 => exact Or.inl ⟨by rfl, by (intro W hSw; (try dsimp only at hSw); go_simp; (try with_reducible rfl))⟩
    (try simp only [Act.put, List.setIfInBounds_toArray, List.set_cons_zero, List.set_cons_succ])
    refine wpAnyH_take (i := 2) (oi := ?oo1702) (v := ?vv1702) ?hi1702 (by kernel_rfl) (by kernel_rfl) (by kernel_rfl) ?hq1702 ?hy1702 (by assumption) ?hh1702
    case hi1702 => (simp only [List.getElem?_toArray, List.getElem?_cons_succ, List.getElem?_cons_zero]; rfl)
    case hq1702 => exact fun _ _ _ h => h
    case hy1702 => exact Or.inl ⟨by rfl, by (intro W hSw; (try dsimp only at hSw); go_simp; (try with_reducible rfl))⟩
    (try simp only [Act.put, List.setIfInBounds_toArray, List.set_cons_zero, List.set_cons_succ])
    refine wpAnyH_take (i := 3) (oi := ?oo1703) (v := ?vv1703) ?hi1703 (by kernel_rfl) (by kernel_rfl) (by kernel_rfl) ?hq1703 ?hy1703 (by assumption) ?hh1703
    case hi1703 => (simp only [List.getElem?_toArray, List.getElem?_cons_succ, List.getElem?_cons_zero]; rfl)
    case hq1703 => exact fun _ _ _ h => h
    case hy1703 => exact Or.inl ⟨by rfl, by (intro W hSw; (try dsimp only at hSw); go_simp; (try with_reducible rfl))⟩
    (try simp only [Act.put, List.setIfInBounds_toArray, List.set_cons_zero, List.set_cons_succ])
    refine wpAnyH_take (i := 4) (oi := ?oo1704) (v := ?vv1704) ?hi1704 (by kernel_rfl) (by kernel_rfl) (by kernel_rfl) ?hq1704 ?hy1704 (by assumption) ?hh1704
    case hi1704 => (simp only [List.getElem?_toArray, List.getElem?_cons_succ, List.getElem?_cons_zero]; rfl)
    case hq1704 => exact fun _ _ _ h => h
    case hy1704 => exact Or.inl ⟨by rfl, by (intro W hSw; (try dsimp only at hSw); go_simp; (try with_reducible rfl))⟩
    (try simp only [Act.put, List.setIfInBounds_toArray, List.set_cons_zero, List.set_cons_succ])
    refine wpAnyH_take (i := 5) (oi := ?oo1705) (v := ?vv1705) ?hi1705 (by kernel_rfl) (by kernel_rfl) (by kernel_rfl) ?hq1705 ?hy1705 (by assumption) ?hh1705
    case hi1705 => (simp only [List.getElem?_toArray, List.getElem?_cons_succ, List.getElem?_cons_zero]; rfl)
    case hq1705 => exact fun _ _ _ h => h
    case hy1705 => exact Or.inl ⟨by rfl, by (intro W hSw; (try dsimp only at hSw); go_simp; (try with_reducible rfl))⟩
    (try simp only [Act.put, List.setIfInBounds_toArray, List.set_cons_zero, List.set_cons_succ])
    refine wpAnyH_take (i := 7) (oi := ?oo1706) (v := ?vv1706) ?hi1706 (by kernel_rfl) (by kernel_rfl) (by kernel_rfl) ?hq1706 ?hy1706 (by assumption) ?hh1706
    case hi1706 => (simp only [List.getElem?_toArray, List.getElem?_cons_succ, List.getElem?_cons_zero]; rfl)
    case hq1706 => exact fun _ _ _ h => h
    case hy1706 => exact Or.inl ⟨by rfl, by (intro W hSw; (try dsimp only at hSw); go_simp; (try with_reducible rfl))⟩
    (try simp only [Act.put, List.setIfInBounds_toArray, List.set_cons_zero, List.set_cons_succ])
    refine wpAnyH_take (i := 8) (oi := ?oo1707) (v := ?vv1707) ?hi1707 (by kernel_rfl) (by kernel_rfl) (by kernel_rfl) ?hq1707 ?hy1707 (by assumption) ?hh1707
    case hi1707 => (simp only [List.getElem?_toArray, List.getElem?_cons_succ, List.getElem?_cons_zero]; rfl)
    case hq1707 => exact fun _ _ _ h => h
    case hy1707 => exact Or.inl ⟨by rfl, by (intro W hSw; (try dsimp only at hSw); go_simp; (try with_reducible rfl))⟩
    (try simp only [Act.put, List.setIfInBounds_toArray, List.set_cons_zero, List.set_cons_succ])
    refine wpAnyH_take (i := 9) (oi := ?oo1708) (v := ?vv1708) ?hi1708 (by kernel_rfl) (by kernel_rfl) (by kernel_rfl) ?hq1708 ?hy1708 (by assumption) ?hh1708
    case hi1708 => (simp only [List.getElem?_toArray, List.getElem?_cons_succ, List.getElem?_cons_zero]; rfl)
    case hq1708 => exact fun _ _ _ h => h
    case hy1708 => exact Or.inl ⟨by rfl, by (intro W hSw; (try dsimp only at hSw); go_simp; (try with_reducible rfl))⟩
    (try simp only [Act.put, List.setIfInBounds_toArray, List.set_cons_zero, List.set_cons_succ])
    refine wpAnyH_take (i := 10) (oi := ?oo1709) (v := ?vv1709) ?hi1709 (by kernel_rfl) (by kernel_rfl) (by kernel_rfl) ?hq1709 ?hy1709 (by assumption) ?hh1709
    case hi1709 => (simp only [List.getElem?_toArray, List.getElem?_cons_succ, List.getElem?_cons_zero]; rfl)
    case hq1709 => exact fun _ _ _ h => h
    case hy1709 => exact Or.inl ⟨by rfl, by (intro W hSw; (try dsimp only at hSw); go_simp; (try with_reducible rfl))⟩
    (try simp only [Act.put, List.setIfInBounds_toArray, List.set_cons_zero, List.set_cons_succ])
    refine wpAnyH_take (i := 11) (oi := ?oo1710) (v := ?vv1710) ?hi1710 (by kernel_rfl) (by kernel_rfl) (by kernel_rfl) ?hq1710 ?hy1710 (by assumption) ?hh1710
    case hi1710 => (simp only [List.getElem?_toArray, List.getElem?_cons_succ, List.getElem?_cons_zero]; rfl)
    case hq1710 => exact fun _ _ _ h => h
    case hy1710 => exact Or.inl ⟨by rfl, by (intro W hSw; (try dsimp only at hSw); go_simp; (try with_reducible rfl))⟩
    (try simp only [Act.put, List.setIfInBounds_toArray, List.set_cons_zero, List.set_cons_succ])
    refine wpAnyH_take (i := 12) (oi := ?oo1711) (v := ?vv1711) ?hi1711 (by kernel_rfl) (by kernel_rfl) (by kernel_rfl) ?hq1711 ?hy1711 (by assumption) ?hh1711
    case hi1711 => (simp only [List.getElem?_toArray, List.getElem?_cons_succ, List.getElem?_cons_zero]; rfl)
    case hq1711 => exact fun _ _ _ h => h
    case hy1711 => exact Or.inl ⟨by rfl, by (intro W hSw; (try dsimp only at hSw); go_simp; (try with_reducible rfl))⟩
    (try simp only [Act.put, List.setIfInBounds_toArray, List.set_cons_zero, List.set_cons_succ])
    refine wpAnyH_ready (rs := [6]) (by kernel_rfl) (by simp) ?_
    refine AllReadyH.cons rfl (fun K hK => ?_) AllReadyH.nil
    go_simp
    refine (HCA.out _ _ HR3.out rfl HO.out.2.2.2.2.1).mono ?_
    rintro e V1 ⟨rfl, hV1⟩
    have HR4 := Lib.hid hV1
    clear hV1
    refine hK.out _ _ (by have zz := HPF.out.boxes HR4.out rfl; exact ⟨by rw [zz.1.cell]; rfl, by rw [zz.1.cell]; rfl, by rw [zz.1.cell]; rfl, by rw [zz.2.1.cell]; rfl, by rw [zz.2.1.cell]; rfl, by rw [zz.2.1.cell]; rfl, by rw [zz.2.2.cell]; rfl⟩) (fun hHeld => ?_)
    clear hK K
    (try simp only [Act.put, List.setIfInBounds_toArray, List.set_cons_zero, List.set_cons_succ])
    refine wpAnyH_ready (rs := [13]) (by kernel_rfl) (by simp) ?_
    refine AllReadyH.cons rfl (fun K hK => ?_) AllReadyH.nil
    go_simp
    refine (HCB.out _ _ HR4.out rfl HO.out.2.2.2.2.2).mono ?_
    rintro e V2 ⟨rfl, hV2⟩
    have HR5 := Lib.hid hV2
    clear hV2
    refine hK.out _ _ (by have zz := HPF.out.boxes HR5.out rfl; exact ⟨by rw [zz.1.cell]; rfl, by rw [zz.1.cell]; rfl, by rw [zz.1.cell]; rfl, by rw [zz.2.1.cell]; rfl, by rw [zz.2.1.cell]; rfl, by rw [zz.2.1.cell]; rfl, by rw [zz.2.2.cell]; rfl⟩) (fun hHeld => ?_)
    clear hK K
    (try simp only [Act.put, List.setIfInBounds_toArray, List.set_cons_zero, List.set_cons_succ])
    refine wpAnyH_take (i := 14) (oi := ?oo1800) (v := ?vv1800) ?hi1800 (by kernel_rfl) (by kernel_rfl) (by kernel_rfl) ?hq1800 ?hy1800 (by assumption) ?hh1800
    case hi1800 => (simp only [List.getElem?_toArray, List.getElem?_cons_succ, List.getElem?_cons_zero]; rfl)
    case hq1800 => exact fun _ _ _ h => h
    case hy1800 => exact Or.inl ⟨by rfl, by (intro W hSw; (try dsimp only at hSw); go_simp; (try with_reducible rfl))⟩
    (try simp only [Act.put, List.setIfInBounds_toArray, List.set_cons_zero, List.set_cons_succ])
    refine wpAnyH_take (i := 15) (oi := ?oo1801) (v := ?vv1801) ?hi1801 (by kernel_rfl) (by kernel_rfl) (by kernel_rfl) ?hq1801 ?hy1801 (by assumption) ?hh1801
    case hi1801 => (simp only [List.getElem?_toArray, List.getElem?_cons_succ, List.getElem?_cons_zero]; rfl)
    case hq1801 => exact fun _ _ _ h => h
    case hy1801 => exact Or.inl ⟨by rfl, by (intro W hSw; (try dsimp only at hSw); go_simp; (try with_reducible rfl))⟩
    (try simp only [Act.put, List.setIfInBounds_toArray, List.set_cons_zero, List.set_cons_succ])
    refine wpAnyH_done (by kernel_rfl) ?_ _
    refine HKV.out _ _ ?_
    clear hHeld
    have HE := Lib.hid (HPF.out.fin HR5.out (by show s0.od.set i _ = s0.oi.set i _; rw [HPF.out.od, HPF.out.oi]) (by show RP (s0.oi.set i _) _; rw [HPF.out.oi]; exact HPF.out.rp.def_ (by rw [HO.out.2.2.2.1]; exact HO.out.1) HPF.out.kk (by show (vv : Int) ≤ 40; have := HPF.out.v9; omega) (by omega) (by have := HFF.out; omega)) rfl rfl)
    clear HR5 HR4
    have tb : (B1 == B1) = true := by simp
    go_wp2_with fail
    go_ret
    exact ⟨rfl, HE.out⟩
  · have hkd : (wrap64 (kd.tmod 8 + 8)).tmod 8 = 2 := hkd0
    clear hkd0
    as_aux_lemma =>
    obtain ⟨os, hos⟩ : ∃ os, s.oi = os := ⟨_, rfl⟩
    rw [hos] at ho
    have hoi : s0.oi[i]? = some o := by rw [HPF.out.oi, hos]; exact ho
    have hod : s0.od[i]? = some o := by rw [HPF.out.od, hos]; exact ho
    have hr1 : s0.oi.length ≤ 1000 := by have := HPF.out.rp.le; rw [HPF.out.oi]; omega
    have hr2 : s0.od.length ≤ 1000 := by have := HPF.out.rp.le; rw [HPF.out.od]; omega
    have hc1 := HPF.out.st.hobj hr1 ((i : Int) + 1)
    rw [objB_at (HPF.out.st.bAt hoi), HPF.out.hH] at hc1
    have hc2 : ∀ W, Below wc.heap.size wc W → Calls Tryd.prog 37 #[.pointer (some ⟨Q, 0, none⟩), .int .i64 ((i : Int) + 1)] W fun e w' => e = .returned (.pointer (some ⟨s0.ql i, 0, none⟩)) ∧ Below W.heap.size W w' := fun W b => by
      have h1 := (HPF.out.st.below b).rob hr2 ((i : Int) + 1)
      rw [robjV_at ((HPF.out.st.below b).qAt hod), HPF.out.hQ] at h1
      exact h1
    obtain ⟨bi, hbi⟩ : ∃ b, s0.bl i = b := ⟨_, rfl⟩
    obtain ⟨qi, hqi⟩ : ∃ q, s0.ql i = q := ⟨_, rfl⟩
    rw [hbi] at hc1
    simp only [hqi] at hc2
    have HC := Lib.hid (And.intro hc1 hc2)
    have HO := Lib.hid (And.intro ho (And.intro hoi (And.intro hod (And.intro hos (And.intro hbi hqi)))))
    clear hc1 hc2 ho hoi hod hos hbi hqi hr1 hr2
    go_wp2_with fail
    refine HC.out.1.mono ?_
    rintro e W1 ⟨rfl, b1⟩
    have HPF1 := Lib.hid (HPF.out.st.below b1)
    have HB1 := Lib.hid b1
    clear y0 y1 lp b1 hkd
    go_wp2_with fail
    refine (HC.out.2 W1 HB1.out).mono ?_
    rintro e W2 ⟨rfl, b2⟩
    have HR2 := Lib.hid (HPF1.out.below b2)
    clear b2 HPF1 HB1 HC
    obtain ⟨kg, kh, kp⟩ := HPF.out.boxes HR2.out rfl
    have c0 : W2.cell? ⟨g, 0, none⟩ = some (.int .i64 k1) := by rw [kg.cell]; rfl
    have c1 : W2.cell? ⟨g, 1, none⟩ = some (.int .i64 k2) := by rw [kg.cell]; rfl
    have c2 : W2.cell? ⟨g, 2, none⟩ = some (.string k3) := by rw [kg.cell]; rfl
    have d0 : W2.cell? ⟨h, 0, none⟩ = some (.int .i64 3) := by rw [kh.cell]; rfl
    have d1 : W2.cell? ⟨h, 1, none⟩ = some (.int .i64 (vv : Int)) := by rw [kh.cell]; rfl
    have d2 : W2.cell? ⟨h, 2, none⟩ = some (.string ⟨#[]⟩) := by rw [kh.cell]; rfl
    have e3 : W2.cell? ⟨p, 3, none⟩ = some (.int .i64 vl) := by rw [kp.cell]; rfl
    have e4 : W2.cell? ⟨p, 4, none⟩ = some (.int .i64 fl) := by rw [kp.cell]; rfl
    have lg := kg.lt
    have lh := kh.lt
    have lp := kp.lt
    clear kg kh kp
    obtain ⟨l, hl⟩ : ∃ l, Chn s0.oi o.pr l := by
      obtain ⟨l, hl⟩ := HPF.out.rp.ends (i + 1) (by have := (List.getElem?_eq_some_iff.1 HO.out.1).1; rw [HO.out.2.2.2.1]; omega)
      rw [← HPF.out.oi] at hl
      cases l with
      | nil => exact absurd (show i + 1 = 0 from hl) (by omega)
      | cons j l =>
        obtain ⟨hj, o2, ho2, hl2⟩ := hl
        obtain rfl : i = j := by omega
        rw [HO.out.2.1] at ho2
        cases ho2
        exact ⟨l, hl2⟩
    have HL := Lib.hid hl
    clear hl
    obtain ⟨B1, hB1⟩ : ∃ B, (putO s0.oi o l ((k1, k2, k3) : K3) ((3, (vv : Int), ⟨#[]⟩) : K3)).1 = B := ⟨_, rfl⟩
    have HBB := Lib.hid hB1
    clear hB1
    have HCA : Hid (∀ (st : RS) (W : World), RSt w1 st W → st.oi = s0.oi → st.H = s0.H → Calls Tryd.prog 16 #[.pointer (some ⟨H, 0, none⟩), .int .i64 ((i : Int) + 1), VS k1 k2 k3, VS 3 (vv : Int) ⟨#[]⟩] W fun e w' => e = .returned (.bool B1) ∧ RSt w1 { st with oi := st.oi.set i (putO s0.oi o l ((k1, k2, k3) : K3) ((3, (vv : Int), ⟨#[]⟩) : K3)).2 } w') := Lib.hid (fun st W hR e1 e3 => by
      have h1 := hR.put HPF.out.lg (by rw [e1, HPF.out.oi]; exact HPF.out.rp) HPF.out.nN (i := i) (o := o) (by rw [e1]; exact HO.out.2.1) (l := l) (by rw [e1]; exact HL.out) (k := ((k1, k2, k3) : K3)) (v := ((3, (vv : Int), ⟨#[]⟩) : K3)) HPF.out.kk
      rw [show (Value.pointer (some ⟨st.H, 0, none⟩)) = Value.pointer (some ⟨H, 0, none⟩) by rw [e3, HPF.out.hH], e1, HBB.out] at h1
      rw [e1]
      exact h1)
    have HCB : Hid (∀ (st : RS) (W : World), RSt w1 st W → st.od = s0.od → st.Q = s0.Q → Calls Tryd.prog 59 #[.pointer (some ⟨Q, 0, none⟩), .int .i64 ((i : Int) + 1), VS k1 k2 k3, VS 3 (vv : Int) ⟨#[]⟩] W fun e w' => e = .returned (.bool B1) ∧ RSt w1 { st with od := st.od.set i (putO s0.oi o l ((k1, k2, k3) : K3) ((3, (vv : Int), ⟨#[]⟩) : K3)).2 } w') := Lib.hid (fun st W hR e1 e3 => by
      have e2 : st.od = s0.oi := by rw [e1, HPF.out.od, HPF.out.oi]
      have h1 := hR.rput HPF.out.lg (by rw [e1, HPF.out.od]; exact HPF.out.rp) HPF.out.nN (i := i) (o := o) (by rw [e1]; exact HO.out.2.2.1) (l := l) (by rw [e2]; exact HL.out) (k := ((k1, k2, k3) : K3)) (v := ((3, (vv : Int), ⟨#[]⟩) : K3)) HPF.out.kk
      rw [show (Value.pointer (some ⟨st.Q, 0, none⟩)) = Value.pointer (some ⟨Q, 0, none⟩) by rw [e3, HPF.out.hQ], e2, HBB.out] at h1
      rw [e2]
      exact h1)
    go_upto_region 24 with fail
    refine wp_var0 (fun KV HKV => ?_)
    have HR3 := Lib.hid (HR2.out.below (Below.refl W2.heap.size W2).drew)
    clear c0 c1 c2 d0 d1 d2 e3 e4 lg lh lp HR2
    refine wp_region_held_drew (S := (fun W => W.cell? ⟨g, 0, none⟩ = some (.int .i64 k1) ∧ W.cell? ⟨g, 1, none⟩ = some (.int .i64 k2) ∧ W.cell? ⟨g, 2, none⟩ = some (.string k3) ∧ W.cell? ⟨h, 0, none⟩ = some (.int .i64 3) ∧ W.cell? ⟨h, 1, none⟩ = some (.int .i64 (vv : Int)) ∧ W.cell? ⟨h, 2, none⟩ = some (.string ⟨#[]⟩) ∧ W.cell? ⟨p, 4, none⟩ = some (.int .i64 fl))) (by kernel_rfl) (by have zz := HPF.out.boxes HR3.out rfl; exact ⟨by rw [zz.1.cell]; rfl, by rw [zz.1.cell]; rfl, by rw [zz.1.cell]; rfl, by rw [zz.2.1.cell]; rfl, by rw [zz.2.1.cell]; rfl, by rw [zz.2.1.cell]; rfl, by rw [zz.2.2.cell]; rfl⟩) (fun hHeld => ?_)
    generalize W2.drew = D0 at *
    refine wpAnyH_take (i := 0) (oi := ?oo2700) (v := ?vv2700) ?hi2700 (by kernel_rfl) (by kernel_rfl) (by kernel_rfl) ?hq2700 ?hy2700 (by assumption) ?hh2700
    case hi2700 => (simp only [List.getElem?_toArray, List.getElem?_cons_succ, List.getElem?_cons_zero]; rfl)
    case hq2700 => exact fun _ _ _ h => h
    case hy2700 => exact Or.inl ⟨by rfl, by (intro W hSw; (try dsimp only at hSw); go_simp; (try with_reducible rfl))⟩
    (try simp only [Act.put, List.setIfInBounds_toArray, List.set_cons_zero, List.set_cons_succ])
    refine wpAnyH_take (i := 1) (oi := ?oo2701) (v := ?vv2701) ?hi2701 (by kernel_rfl) (by kernel_rfl) (by kernel_rfl) ?hq2701 ?hy2701 (by assumption) ?hh2701
    case hi2701 => (simp only [List.getElem?_toArray, List.getElem?_cons_succ, List.getElem?_cons_zero]; rfl)
    case hq2701 => exact fun _ _ _ h => h
    case hy2701 => exact Or.inl ⟨by rfl, by (intro W hSw; (try dsimp only at hSw); go_simp; (try with_reducible rfl))⟩
    (try simp only [Act.put, List.setIfInBounds_toArray, List.set_cons_zero, List.set_cons_succ])
    refine wpAnyH_take (i := 2) (oi := ?oo2702) (v := ?vv2702) ?hi2702 (by kernel_rfl) (by kernel_rfl) (by kernel_rfl) ?hq2702 ?hy2702 (by assumption) ?hh2702
    case hi2702 => (simp only [List.getElem?_toArray, List.getElem?_cons_succ, List.getElem?_cons_zero]; rfl)
    case hq2702 => exact fun _ _ _ h => h
    case hy2702 => exact Or.inl ⟨by rfl, by (intro W hSw; (try dsimp only at hSw); go_simp; (try with_reducible rfl))⟩
    (try simp only [Act.put, List.setIfInBounds_toArray, List.set_cons_zero, List.set_cons_succ])
    refine wpAnyH_take (i := 3) (oi := ?oo2703) (v := ?vv2703) ?hi2703 (by kernel_rfl) (by kernel_rfl) (by kernel_rfl) ?hq2703 ?hy2703 (by assumption) ?hh2703
    case hi2703 => (simp only [List.getElem?_toArray, List.getElem?_cons_succ, List.getElem?_cons_zero]; rfl)
    case hq2703 => exact fun _ _ _ h => h
    case hy2703 => exact Or.inl ⟨by rfl, by (intro W hSw; (try dsimp only at hSw); go_simp; (try with_reducible rfl))⟩
    (try simp only [Act.put, List.setIfInBounds_toArray, List.set_cons_zero, List.set_cons_succ])
    refine wpAnyH_take (i := 5) (oi := ?oo2704) (v := ?vv2704) ?hi2704 (by kernel_rfl) (by kernel_rfl) (by kernel_rfl) ?hq2704 ?hy2704 (by assumption) ?hh2704
    case hi2704 => (simp only [List.getElem?_toArray, List.getElem?_cons_succ, List.getElem?_cons_zero]; rfl)
    case hq2704 => exact fun _ _ _ h => h
    case hy2704 => exact Or.inl ⟨by rfl, by (intro W hSw; (try dsimp only at hSw); go_simp; (try with_reducible rfl))⟩
    (try simp only [Act.put, List.setIfInBounds_toArray, List.set_cons_zero, List.set_cons_succ])
    refine wpAnyH_take (i := 6) (oi := ?oo2705) (v := ?vv2705) ?hi2705 (by kernel_rfl) (by kernel_rfl) (by kernel_rfl) ?hq2705 ?hy2705 (by assumption) ?hh2705
    case hi2705 => (simp only [List.getElem?_toArray, List.getElem?_cons_succ, List.getElem?_cons_zero]; rfl)
    case hq2705 => exact fun _ _ _ h => h
    case hy2705 => exact Or.inl ⟨by rfl, by (intro W hSw; (try dsimp only at hSw); go_simp; (try with_reducible rfl))⟩
    (try simp only [Act.put, List.setIfInBounds_toArray, List.set_cons_zero, List.set_cons_succ])
    refine wpAnyH_take (i := 7) (oi := ?oo2706) (v := ?vv2706) ?hi2706 (by kernel_rfl) (by kernel_rfl) (by kernel_rfl) ?hq2706 ?hy2706 (by assumption) ?hh2706
    case hi2706 => (simp only [List.getElem?_toArray, List.getElem?_cons_succ, List.getElem?_cons_zero]; rfl)
    case hq2706 => exact fun _ _ _ h => h
    case hy2706 => exact Or.inl ⟨by rfl, by (intro W hSw; (try dsimp only at hSw); go_simp; (try with_reducible rfl))⟩
    (try simp only [Act.put, List.setIfInBounds_toArray, List.set_cons_zero, List.set_cons_succ])
    refine wpAnyH_take (i := 8) (oi := ?oo2707) (v := ?vv2707) ?hi2707 (by kernel_rfl) (by kernel_rfl) (by kernel_rfl) ?hq2707 ?hy2707 (by assumption) ?hh2707
    case hi2707 => (simp only [List.getElem?_toArray, List.getElem?_cons_succ, List.getElem?_cons_zero]; rfl)
    case hq2707 => exact fun _ _ _ h => h
    case hy2707 => exact Or.inl ⟨by rfl, by (intro W hSw; (try dsimp only at hSw); go_simp; (try with_reducible rfl))⟩
    (try simp only [Act.put, List.setIfInBounds_toArray, List.set_cons_zero, List.set_cons_succ])
    refine wpAnyH_ready (rs := [4]) (by kernel_rfl) (by simp) ?_
    refine AllReadyH.cons rfl (fun K hK => ?_) AllReadyH.nil
    go_simp
    refine (HCA.out _ _ HR3.out rfl rfl).mono ?_
    rintro e V1 ⟨rfl, hV1⟩
    have HR4 := Lib.hid hV1
    clear hV1
    refine hK.out _ _ (by have zz := HPF.out.boxes HR4.out rfl; exact ⟨by rw [zz.1.cell]; rfl, by rw [zz.1.cell]; rfl, by rw [zz.1.cell]; rfl, by rw [zz.2.1.cell]; rfl, by rw [zz.2.1.cell]; rfl, by rw [zz.2.1.cell]; rfl, by rw [zz.2.2.cell]; rfl⟩) (fun hHeld => ?_)
    clear hK K
    (try simp only [Act.put, List.setIfInBounds_toArray, List.set_cons_zero, List.set_cons_succ])
    refine wpAnyH_ready (rs := [9]) (by kernel_rfl) (by simp) ?_
    refine AllReadyH.cons rfl (fun K hK => ?_) AllReadyH.nil
    go_simp
    refine (HCB.out _ _ HR4.out rfl rfl).mono ?_
    rintro e V2 ⟨rfl, hV2⟩
    have HR5 := Lib.hid hV2
    clear hV2
    refine hK.out _ _ (by have zz := HPF.out.boxes HR5.out rfl; exact ⟨by rw [zz.1.cell]; rfl, by rw [zz.1.cell]; rfl, by rw [zz.1.cell]; rfl, by rw [zz.2.1.cell]; rfl, by rw [zz.2.1.cell]; rfl, by rw [zz.2.1.cell]; rfl, by rw [zz.2.2.cell]; rfl⟩) (fun hHeld => ?_)
    clear hK K
    (try simp only [Act.put, List.setIfInBounds_toArray, List.set_cons_zero, List.set_cons_succ])
    refine wpAnyH_take (i := 10) (oi := ?oo2800) (v := ?vv2800) ?hi2800 (by kernel_rfl) (by kernel_rfl) (by kernel_rfl) ?hq2800 ?hy2800 (by assumption) ?hh2800
    case hi2800 => (simp only [List.getElem?_toArray, List.getElem?_cons_succ, List.getElem?_cons_zero]; rfl)
    case hq2800 => exact fun _ _ _ h => h
    case hy2800 => exact Or.inl ⟨by rfl, by (intro W hSw; (try dsimp only at hSw); go_simp; (try with_reducible rfl))⟩
    (try simp only [Act.put, List.setIfInBounds_toArray, List.set_cons_zero, List.set_cons_succ])
    refine wpAnyH_take (i := 11) (oi := ?oo2801) (v := ?vv2801) ?hi2801 (by kernel_rfl) (by kernel_rfl) (by kernel_rfl) ?hq2801 ?hy2801 (by assumption) ?hh2801
    case hi2801 => (simp only [List.getElem?_toArray, List.getElem?_cons_succ, List.getElem?_cons_zero]; rfl)
    case hq2801 => exact fun _ _ _ h => h
    case hy2801 => exact Or.inl ⟨by rfl, by (intro W hSw; (try dsimp only at hSw); go_simp; (try with_reducible rfl))⟩
    (try simp only [Act.put, List.setIfInBounds_toArray, List.set_cons_zero, List.set_cons_succ])
    refine wpAnyH_done (by kernel_rfl) ?_ _
    refine HKV.out _ _ ?_
    clear hHeld
    have HE := Lib.hid (HPF.out.fin HR5.out (by show s0.od.set i _ = s0.oi.set i _; rw [HPF.out.od, HPF.out.oi]) (by show RP (s0.oi.set i _) _; rw [HPF.out.oi]; have h9 := HPF.out.rp.put (l := l) (k := ((k1, k2, k3) : K3)) (v := ((3, (vv : Int), ⟨#[]⟩) : K3)) (by rw [HO.out.2.2.2.1]; exact HO.out.1) HPF.out.kk (by show (vv : Int) ≤ 40; have := HPF.out.v9; omega); exact h9) rfl rfl)
    clear HR5 HR4
    have tb : (B1 == B1) = true := by simp
    go_wp2_with fail
    go_ret
    exact ⟨rfl, HE.out⟩
  · have hkd : (wrap64 (kd.tmod 8 + 8)).tmod 8 = 3 := hkd0
    clear hkd0
    as_aux_lemma =>
    obtain ⟨os, hos⟩ : ∃ os, s.oi = os := ⟨_, rfl⟩
    rw [hos] at ho
    have hoi : s0.oi[i]? = some o := by rw [HPF.out.oi, hos]; exact ho
    have hod : s0.od[i]? = some o := by rw [HPF.out.od, hos]; exact ho
    have hr1 : s0.oi.length ≤ 1000 := by have := HPF.out.rp.le; rw [HPF.out.oi]; omega
    have hr2 : s0.od.length ≤ 1000 := by have := HPF.out.rp.le; rw [HPF.out.od]; omega
    have hc1 := HPF.out.st.hobj hr1 ((i : Int) + 1)
    rw [objB_at (HPF.out.st.bAt hoi), HPF.out.hH] at hc1
    have hc2 : ∀ W, Below wc.heap.size wc W → Calls Tryd.prog 37 #[.pointer (some ⟨Q, 0, none⟩), .int .i64 ((i : Int) + 1)] W fun e w' => e = .returned (.pointer (some ⟨s0.ql i, 0, none⟩)) ∧ Below W.heap.size W w' := fun W b => by
      have h1 := (HPF.out.st.below b).rob hr2 ((i : Int) + 1)
      rw [robjV_at ((HPF.out.st.below b).qAt hod), HPF.out.hQ] at h1
      exact h1
    obtain ⟨bi, hbi⟩ : ∃ b, s0.bl i = b := ⟨_, rfl⟩
    obtain ⟨qi, hqi⟩ : ∃ q, s0.ql i = q := ⟨_, rfl⟩
    rw [hbi] at hc1
    simp only [hqi] at hc2
    have HC := Lib.hid (And.intro hc1 hc2)
    have HO := Lib.hid (And.intro ho (And.intro hoi (And.intro hod (And.intro hos (And.intro hbi hqi)))))
    clear hc1 hc2 ho hoi hod hos hbi hqi hr1 hr2
    go_wp2_with fail
    refine HC.out.1.mono ?_
    rintro e W1 ⟨rfl, b1⟩
    have HPF1 := Lib.hid (HPF.out.st.below b1)
    have HB1 := Lib.hid b1
    clear y0 y1 lp b1 hkd
    go_wp2_with fail
    refine (HC.out.2 W1 HB1.out).mono ?_
    rintro e W2 ⟨rfl, b2⟩
    have HR2 := Lib.hid (HPF1.out.below b2)
    clear b2 HPF1 HB1 HC
    obtain ⟨kg, kh, kp⟩ := HPF.out.boxes HR2.out rfl
    have c0 : W2.cell? ⟨g, 0, none⟩ = some (.int .i64 k1) := by rw [kg.cell]; rfl
    have c1 : W2.cell? ⟨g, 1, none⟩ = some (.int .i64 k2) := by rw [kg.cell]; rfl
    have c2 : W2.cell? ⟨g, 2, none⟩ = some (.string k3) := by rw [kg.cell]; rfl
    have d0 : W2.cell? ⟨h, 0, none⟩ = some (.int .i64 3) := by rw [kh.cell]; rfl
    have d1 : W2.cell? ⟨h, 1, none⟩ = some (.int .i64 (vv : Int)) := by rw [kh.cell]; rfl
    have d2 : W2.cell? ⟨h, 2, none⟩ = some (.string ⟨#[]⟩) := by rw [kh.cell]; rfl
    have e3 : W2.cell? ⟨p, 3, none⟩ = some (.int .i64 vl) := by rw [kp.cell]; rfl
    have e4 : W2.cell? ⟨p, 4, none⟩ = some (.int .i64 fl) := by rw [kp.cell]; rfl
    have lg := kg.lt
    have lh := kh.lt
    have lp := kp.lt
    clear kg kh kp
    obtain ⟨B1, hB1⟩ : ∃ B, (o.del1 ((k1, k2, k3) : K3)).1 = B := ⟨_, rfl⟩
    have HBB := Lib.hid hB1
    clear hB1
    have HCA : Hid (∀ (st : RS) (W : World), RSt w1 st W → st.oi = s0.oi → st.bl i = bi → Calls Tryd.prog 19 #[.pointer (some ⟨bi, 0, none⟩), VS k1 k2 k3] W fun e w' => e = .returned (.bool B1) ∧ RSt w1 { st with oi := st.oi.set i (o.del1 ((k1, k2, k3) : K3)).2 } w') := Lib.hid (fun st W hR e1 e3 => by
      have h1 := hR.del HPF.out.lg (by rw [e1, HPF.out.oi]; exact HPF.out.rp) HPF.out.nN (i := i) (o := o) (by rw [e1]; exact HO.out.2.1) (k := ((k1, k2, k3) : K3)) HPF.out.kk
      rw [e3, HBB.out] at h1
      exact h1)
    have HCB : Hid (∀ (st : RS) (W : World), RSt w1 st W → st.od = s0.od → st.ql i = qi → Calls Tryd.prog 61 #[.pointer (some ⟨qi, 0, none⟩), VS k1 k2 k3] W fun e w' => e = .returned (.bool B1) ∧ RSt w1 { st with od := st.od.set i (o.del1 ((k1, k2, k3) : K3)).2 } w') := Lib.hid (fun st W hR e1 e3 => by
      have h1 := hR.rdel HPF.out.lg (by rw [e1, HPF.out.od]; exact HPF.out.rp) HPF.out.nN (i := i) (o := o) (by rw [e1]; exact HO.out.2.2.1) (k := ((k1, k2, k3) : K3)) HPF.out.kk
      rw [e3, HBB.out] at h1
      exact h1)
    go_upto_region 26 with fail
    refine wp_var0 (fun KV HKV => ?_)
    have HR3 := Lib.hid (HR2.out.below (Below.refl W2.heap.size W2).drew)
    clear c0 c1 c2 d0 d1 d2 e3 e4 lg lh lp HR2
    refine wp_region_held_drew (S := (fun W => W.cell? ⟨g, 0, none⟩ = some (.int .i64 k1) ∧ W.cell? ⟨g, 1, none⟩ = some (.int .i64 k2) ∧ W.cell? ⟨g, 2, none⟩ = some (.string k3) ∧ W.cell? ⟨h, 0, none⟩ = some (.int .i64 3) ∧ W.cell? ⟨h, 1, none⟩ = some (.int .i64 (vv : Int)) ∧ W.cell? ⟨h, 2, none⟩ = some (.string ⟨#[]⟩) ∧ W.cell? ⟨p, 4, none⟩ = some (.int .i64 fl))) (by kernel_rfl) (by have zz := HPF.out.boxes HR3.out rfl; exact ⟨by rw [zz.1.cell]; rfl, by rw [zz.1.cell]; rfl, by rw [zz.1.cell]; rfl, by rw [zz.2.1.cell]; rfl, by rw [zz.2.1.cell]; rfl, by rw [zz.2.1.cell]; rfl, by rw [zz.2.2.cell]; rfl⟩) (fun hHeld => ?_)
    generalize W2.drew = D0 at *
    refine wpAnyH_take (i := 0) (oi := ?oo3700) (v := ?vv3700) ?hi3700 (by kernel_rfl) (by kernel_rfl) (by kernel_rfl) ?hq3700 ?hy3700 (by assumption) ?hh3700
    case hi3700 => (simp only [List.getElem?_toArray, List.getElem?_cons_succ, List.getElem?_cons_zero]; rfl)
    case hq3700 => exact fun _ _ _ h => h
    case hy3700 => exact Or.inl ⟨by rfl, by (intro W hSw; (try dsimp only at hSw); go_simp; (try with_reducible rfl))⟩
    (try simp only [Act.put, List.setIfInBounds_toArray, List.set_cons_zero, List.set_cons_succ])
    refine wpAnyH_take (i := 1) (oi := ?oo3701) (v := ?vv3701) ?hi3701 (by kernel_rfl) (by kernel_rfl) (by kernel_rfl) ?hq3701 ?hy3701 (by assumption) ?hh3701
    case hi3701 => (simp only [List.getElem?_toArray, List.getElem?_cons_succ, List.getElem?_cons_zero]; rfl)
    case hq3701 => exact fun _ _ _ h => h
    case hy3701 => exact Or.inl ⟨by rfl, by (intro W hSw; (try dsimp only at hSw); go_simp; (try with_reducible rfl))⟩
    (try simp only [Act.put, List.setIfInBounds_toArray, List.set_cons_zero, List.set_cons_succ])
    refine wpAnyH_take (i := 3) (oi := ?oo3702) (v := ?vv3702) ?hi3702 (by kernel_rfl) (by kernel_rfl) (by kernel_rfl) ?hq3702 ?hy3702 (by assumption) ?hh3702
    case hi3702 => (simp only [List.getElem?_toArray, List.getElem?_cons_succ, List.getElem?_cons_zero]; rfl)
    case hq3702 => exact fun _ _ _ h => h
    case hy3702 => exact Or.inl ⟨by rfl, by (intro W hSw; (try dsimp only at hSw); go_simp; (try with_reducible rfl))⟩
    (try simp only [Act.put, List.setIfInBounds_toArray, List.set_cons_zero, List.set_cons_succ])
    refine wpAnyH_take (i := 4) (oi := ?oo3703) (v := ?vv3703) ?hi3703 (by kernel_rfl) (by kernel_rfl) (by kernel_rfl) ?hq3703 ?hy3703 (by assumption) ?hh3703
    case hi3703 => (simp only [List.getElem?_toArray, List.getElem?_cons_succ, List.getElem?_cons_zero]; rfl)
    case hq3703 => exact fun _ _ _ h => h
    case hy3703 => exact Or.inl ⟨by rfl, by (intro W hSw; (try dsimp only at hSw); go_simp; (try with_reducible rfl))⟩
    (try simp only [Act.put, List.setIfInBounds_toArray, List.set_cons_zero, List.set_cons_succ])
    refine wpAnyH_ready (rs := [2]) (by kernel_rfl) (by simp) ?_
    refine AllReadyH.cons rfl (fun K hK => ?_) AllReadyH.nil
    go_simp
    refine (HCA.out _ _ HR3.out rfl HO.out.2.2.2.2.1).mono ?_
    rintro e V1 ⟨rfl, hV1⟩
    have HR4 := Lib.hid hV1
    clear hV1
    refine hK.out _ _ (by have zz := HPF.out.boxes HR4.out rfl; exact ⟨by rw [zz.1.cell]; rfl, by rw [zz.1.cell]; rfl, by rw [zz.1.cell]; rfl, by rw [zz.2.1.cell]; rfl, by rw [zz.2.1.cell]; rfl, by rw [zz.2.1.cell]; rfl, by rw [zz.2.2.cell]; rfl⟩) (fun hHeld => ?_)
    clear hK K
    (try simp only [Act.put, List.setIfInBounds_toArray, List.set_cons_zero, List.set_cons_succ])
    refine wpAnyH_ready (rs := [5]) (by kernel_rfl) (by simp) ?_
    refine AllReadyH.cons rfl (fun K hK => ?_) AllReadyH.nil
    go_simp
    refine (HCB.out _ _ HR4.out rfl HO.out.2.2.2.2.2).mono ?_
    rintro e V2 ⟨rfl, hV2⟩
    have HR5 := Lib.hid hV2
    clear hV2
    refine hK.out _ _ (by have zz := HPF.out.boxes HR5.out rfl; exact ⟨by rw [zz.1.cell]; rfl, by rw [zz.1.cell]; rfl, by rw [zz.1.cell]; rfl, by rw [zz.2.1.cell]; rfl, by rw [zz.2.1.cell]; rfl, by rw [zz.2.1.cell]; rfl, by rw [zz.2.2.cell]; rfl⟩) (fun hHeld => ?_)
    clear hK K
    (try simp only [Act.put, List.setIfInBounds_toArray, List.set_cons_zero, List.set_cons_succ])
    refine wpAnyH_take (i := 6) (oi := ?oo3800) (v := ?vv3800) ?hi3800 (by kernel_rfl) (by kernel_rfl) (by kernel_rfl) ?hq3800 ?hy3800 (by assumption) ?hh3800
    case hi3800 => (simp only [List.getElem?_toArray, List.getElem?_cons_succ, List.getElem?_cons_zero]; rfl)
    case hq3800 => exact fun _ _ _ h => h
    case hy3800 => exact Or.inl ⟨by rfl, by (intro W hSw; (try dsimp only at hSw); go_simp; (try with_reducible rfl))⟩
    (try simp only [Act.put, List.setIfInBounds_toArray, List.set_cons_zero, List.set_cons_succ])
    refine wpAnyH_take (i := 7) (oi := ?oo3801) (v := ?vv3801) ?hi3801 (by kernel_rfl) (by kernel_rfl) (by kernel_rfl) ?hq3801 ?hy3801 (by assumption) ?hh3801
    case hi3801 => (simp only [List.getElem?_toArray, List.getElem?_cons_succ, List.getElem?_cons_zero]; rfl)
    case hq3801 => exact fun _ _ _ h => h
    case hy3801 => exact Or.inl ⟨by rfl, by (intro W hSw; (try dsimp only at hSw); go_simp; (try with_reducible rfl))⟩
    (try simp only [Act.put, List.setIfInBounds_toArray, List.set_cons_zero, List.set_cons_succ])
    refine wpAnyH_done (by kernel_rfl) ?_ _
    refine HKV.out _ _ ?_
    clear hHeld
    have HE := Lib.hid (HPF.out.fin HR5.out (by show s0.od.set i _ = s0.oi.set i _; rw [HPF.out.od, HPF.out.oi]) (by show RP (s0.oi.set i _) _; rw [HPF.out.oi]; exact HPF.out.rp.del (by rw [HO.out.2.2.2.1]; exact HO.out.1) HPF.out.kk) rfl rfl)
    clear HR5 HR4
    have tb : (B1 == B1) = true := by simp
    go_wp2_with fail
    go_ret
    exact ⟨rfl, HE.out⟩
  · have hkd : (wrap64 (kd.tmod 8 + 8)).tmod 8 = 4 := hkd0
    clear hkd0
    as_aux_lemma =>
    obtain ⟨os, hos⟩ : ∃ os, s.oi = os := ⟨_, rfl⟩
    rw [hos] at ho
    have hoi : s0.oi[i]? = some o := by rw [HPF.out.oi, hos]; exact ho
    have hod : s0.od[i]? = some o := by rw [HPF.out.od, hos]; exact ho
    have hr1 : s0.oi.length ≤ 1000 := by have := HPF.out.rp.le; rw [HPF.out.oi]; omega
    have hr2 : s0.od.length ≤ 1000 := by have := HPF.out.rp.le; rw [HPF.out.od]; omega
    have hc1 := HPF.out.st.hobj hr1 ((i : Int) + 1)
    rw [objB_at (HPF.out.st.bAt hoi), HPF.out.hH] at hc1
    have hc2 : ∀ W, Below wc.heap.size wc W → Calls Tryd.prog 37 #[.pointer (some ⟨Q, 0, none⟩), .int .i64 ((i : Int) + 1)] W fun e w' => e = .returned (.pointer (some ⟨s0.ql i, 0, none⟩)) ∧ Below W.heap.size W w' := fun W b => by
      have h1 := (HPF.out.st.below b).rob hr2 ((i : Int) + 1)
      rw [robjV_at ((HPF.out.st.below b).qAt hod), HPF.out.hQ] at h1
      exact h1
    obtain ⟨bi, hbi⟩ : ∃ b, s0.bl i = b := ⟨_, rfl⟩
    obtain ⟨qi, hqi⟩ : ∃ q, s0.ql i = q := ⟨_, rfl⟩
    rw [hbi] at hc1
    simp only [hqi] at hc2
    have HC := Lib.hid (And.intro hc1 hc2)
    have HO := Lib.hid (And.intro ho (And.intro hoi (And.intro hod (And.intro hos (And.intro hbi hqi)))))
    clear hc1 hc2 ho hoi hod hos hbi hqi hr1 hr2
    go_wp2_with fail
    refine HC.out.1.mono ?_
    rintro e W1 ⟨rfl, b1⟩
    have HPF1 := Lib.hid (HPF.out.st.below b1)
    have HB1 := Lib.hid b1
    clear y0 y1 lp b1 hkd
    go_wp2_with fail
    refine (HC.out.2 W1 HB1.out).mono ?_
    rintro e W2 ⟨rfl, b2⟩
    have HR2 := Lib.hid (HPF1.out.below b2)
    clear b2 HPF1 HB1 HC
    obtain ⟨kg, kh, kp⟩ := HPF.out.boxes HR2.out rfl
    have c0 : W2.cell? ⟨g, 0, none⟩ = some (.int .i64 k1) := by rw [kg.cell]; rfl
    have c1 : W2.cell? ⟨g, 1, none⟩ = some (.int .i64 k2) := by rw [kg.cell]; rfl
    have c2 : W2.cell? ⟨g, 2, none⟩ = some (.string k3) := by rw [kg.cell]; rfl
    have d0 : W2.cell? ⟨h, 0, none⟩ = some (.int .i64 3) := by rw [kh.cell]; rfl
    have d1 : W2.cell? ⟨h, 1, none⟩ = some (.int .i64 (vv : Int)) := by rw [kh.cell]; rfl
    have d2 : W2.cell? ⟨h, 2, none⟩ = some (.string ⟨#[]⟩) := by rw [kh.cell]; rfl
    have e3 : W2.cell? ⟨p, 3, none⟩ = some (.int .i64 vl) := by rw [kp.cell]; rfl
    have e4 : W2.cell? ⟨p, 4, none⟩ = some (.int .i64 fl) := by rw [kp.cell]; rfl
    have lg := kg.lt
    have lh := kh.lt
    have lp := kp.lt
    clear kg kh kp
    obtain ⟨l, hl⟩ : ∃ l, Chn s0.oi o.pr l := by
      obtain ⟨l, hl⟩ := HPF.out.rp.ends (i + 1) (by have := (List.getElem?_eq_some_iff.1 HO.out.1).1; rw [HO.out.2.2.2.1]; omega)
      rw [← HPF.out.oi] at hl
      cases l with
      | nil => exact absurd (show i + 1 = 0 from hl) (by omega)
      | cons j l =>
        obtain ⟨hj, o2, ho2, hl2⟩ := hl
        obtain rfl : i = j := by omega
        rw [HO.out.2.1] at ho2
        cases ho2
        exact ⟨l, hl2⟩
    have HL := Lib.hid hl
    clear hl
    obtain ⟨l4, hl4⟩ : ∃ l4, Chn s0.oi (i + 1) l4 := HPF.out.rp.ends (i + 1) (by have := (List.getElem?_eq_some_iff.1 HO.out.1).1; rw [HO.out.2.2.2.1]; omega) |>.imp (fun l h => by rw [HPF.out.oi]; exact h)
    have HL4 := Lib.hid hl4
    clear hl4 HL
    obtain ⟨gt, hgt⟩ : ∃ gt, o.own ((k1, k2, k3) : K3) = gt := ⟨_, rfl⟩
    obtain ⟨⟨x1, x2, x3⟩, xf, xb⟩ := gt
    obtain ⟨ft, hft⟩ : ∃ ft, findC s0.oi ((k1, k2, k3) : K3) l4 = ft := ⟨_, rfl⟩
    obtain ⟨⟨z1, z2, z3⟩, zf, zb⟩ := ft
    obtain ⟨⟨r1, r2, r3⟩, hrk⟩ : ∃ r, rkey o ((k1, k2, k3) : K3) = r := ⟨_, rfl⟩
    obtain ⟨⟨t1, t2, t3⟩, htk⟩ : ∃ r, findK s0.oi ((k1, k2, k3) : K3) l4 = r := ⟨_, rfl⟩
    have HG := Lib.hid (And.intro hgt (And.intro hft (And.intro hrk htk)))
    clear hgt hft hrk htk
    have HC1 : Hid (∀ W, Below W2.heap.size W2 W → Calls Tryd.prog 18 #[.pointer (some ⟨bi, 0, none⟩), VS k1 k2 k3] W fun e w' => e = .returned (.tuple #[VS x1 x2 x3, .int .i64 xf, .bool xb]) ∧ Below W.heap.size W w') := Lib.hid (fun W b => by
      have h1 := (HR2.out.below b).own HPF.out.lg (by rw [HPF.out.oi]; exact HPF.out.rp) (i := i) (o := o) HO.out.2.1 (k := ((k1, k2, k3) : K3)) HPF.out.kk
      rw [HO.out.2.2.2.2.1, HG.out.1] at h1
      exact h1)
    have HC2 : Hid (∀ W, Below W2.heap.size W2 W → Calls Tryd.prog 62 #[.pointer (some ⟨qi, 0, none⟩), VS k1 k2 k3] W fun e w' => e = .returned (.tuple #[PV (r1, r2, r3) (x1, x2, x3) xf, .bool xb]) ∧ Below W.heap.size W w') := Lib.hid (fun W b => by
      have h1 := (HR2.out.below b).rown HPF.out.lg (by rw [HPF.out.od]; exact HPF.out.rp) HPF.out.nN (i := i) (o := o) HO.out.2.2.1 (k := ((k1, k2, k3) : K3)) HPF.out.kk
      rw [HO.out.2.2.2.2.2, HG.out.1, HG.out.2.2.1] at h1
      exact h1)
    have HC3 : Hid (∀ W, Below W2.heap.size W2 W → Calls Tryd.prog 14 #[.pointer (some ⟨H, 0, none⟩), .int .i64 ((i : Int) + 1), VS k1 k2 k3] W fun e w' => e = .returned (.tuple #[VS z1 z2 z3, .int .i64 zf, .bool zb]) ∧ Below W.heap.size W w') := Lib.hid (fun W b => by
      have h1 := (HR2.out.below b).find HPF.out.lg (by rw [HPF.out.oi]; exact HPF.out.rp) (r := i + 1) (l := l4) HL4.out (k := ((k1, k2, k3) : K3)) HPF.out.kk
      rw [HPF.out.hH, HG.out.2.1, Int.natCast_add] at h1
      exact h1)
    have HC4 : Hid (∀ W, Below W2.heap.size W2 W → Calls Tryd.prog 63 #[.pointer (some ⟨Q, 0, none⟩), .int .i64 ((i : Int) + 1), VS k1 k2 k3] W fun e w' => e = .returned (.tuple #[PV (t1, t2, t3) (z1, z2, z3) zf, .bool zb]) ∧ Below W.heap.size W w') := Lib.hid (fun W b => by
      have e2 : s0.od = s0.oi := by rw [HPF.out.od, HPF.out.oi]
      have h1 := (HR2.out.below b).rfnd HPF.out.lg (by rw [HPF.out.od]; exact HPF.out.rp) HPF.out.nN (r := i + 1) (l := l4) (by rw [e2]; exact HL4.out) (k := ((k1, k2, k3) : K3)) HPF.out.kk
      rw [HPF.out.hQ, e2, HG.out.2.1, HG.out.2.2.2, Int.natCast_add] at h1
      exact h1)
    have HKG := Lib.hid (HPF.out.boxes HR2.out rfl).1
    go_upto_region 28 with fail
    go_wp2_with fail
    refine (HC1.out W2 (Below.refl _ _)).mono ?_
    rintro e W3 ⟨rfl, b3⟩
    have b4 := b3.alloc b3.size (.cells #[.int .i64 x1, .int .i64 x2, .string x3] 34)
    have HB4 := Lib.hid (And.intro b4 (Blk.new W3 34 #[.int .i64 x1, .int .i64 x2, .string x3]))
    clear b3 b4 c0 c1 c2 d0 d1 d2 e3 e4 lg lh lp
    go_upto_region 29 with fail
    generalize (W3.alloc (.cells #[.int .i64 x1, .int .i64 x2, .string x3] 34)) = W4 at *
    generalize W3.heap.size = q3 at *
    have kg4 := HKG.out.below HB4.out.1 HKG.out.lt
    have c0 : W4.cell? ⟨g, 0, none⟩ = some (.int .i64 k1) := by rw [kg4.cell]; rfl
    have c1 : W4.cell? ⟨g, 1, none⟩ = some (.int .i64 k2) := by rw [kg4.cell]; rfl
    have c2 : W4.cell? ⟨g, 2, none⟩ = some (.string k3) := by rw [kg4.cell]; rfl
    clear kg4
    go_wp2_with fail
    refine (HC2.out W4 HB4.out.1).mono ?_
    rintro e W5 ⟨rfl, b5⟩
    have b6 := b5.alloc b5.size (.cells #[.int .i64 r1, .int .i64 r2, .string r3, .int .i64 x1, .int .i64 x2, .string x3, .int .i64 xf] 127)
    have HB6 := Lib.hid (And.intro (HB4.out.1.trans (b6.mono HB4.out.1.size)) (And.intro (HB4.out.2.below b6 HB4.out.2.lt) (Blk.new W5 127 #[.int .i64 r1, .int .i64 r2, .string r3, .int .i64 x1, .int .i64 x2, .string x3, .int .i64 xf])))
    clear b5 b6 c0 c1 c2 HB4
    go_upto_region 30 with fail
    generalize (W5.alloc (.cells #[.int .i64 r1, .int .i64 r2, .string r3, .int .i64 x1, .int .i64 x2, .string x3, .int .i64 xf] 127)) = W6 at *
    generalize W5.heap.size = q5 at *
    have kg6 := HKG.out.below HB6.out.1 HKG.out.lt
    have c0 : W6.cell? ⟨g, 0, none⟩ = some (.int .i64 k1) := by rw [kg6.cell]; rfl
    have c1 : W6.cell? ⟨g, 1, none⟩ = some (.int .i64 k2) := by rw [kg6.cell]; rfl
    have c2 : W6.cell? ⟨g, 2, none⟩ = some (.string k3) := by rw [kg6.cell]; rfl
    clear kg6
    go_wp2_with fail
    refine (HC3.out W6 HB6.out.1).mono ?_
    rintro e W7 ⟨rfl, b7⟩
    have b8 := b7.alloc b7.size (.cells #[.int .i64 z1, .int .i64 z2, .string z3] 34)
    have HB8 := Lib.hid (And.intro (HB6.out.1.trans (b8.mono HB6.out.1.size)) (And.intro (HB6.out.2.1.below b8 HB6.out.2.1.lt) (And.intro (HB6.out.2.2.below b8 HB6.out.2.2.lt) (Blk.new W7 34 #[.int .i64 z1, .int .i64 z2, .string z3]))))
    clear b7 b8 c0 c1 c2 HB6
    go_upto_region 31 with fail
    generalize (W7.alloc (.cells #[.int .i64 z1, .int .i64 z2, .string z3] 34)) = W8 at *
    generalize W7.heap.size = q7 at *
    have kg8 := HKG.out.below HB8.out.1 HKG.out.lt
    have c0 : W8.cell? ⟨g, 0, none⟩ = some (.int .i64 k1) := by rw [kg8.cell]; rfl
    have c1 : W8.cell? ⟨g, 1, none⟩ = some (.int .i64 k2) := by rw [kg8.cell]; rfl
    have c2 : W8.cell? ⟨g, 2, none⟩ = some (.string k3) := by rw [kg8.cell]; rfl
    clear kg8
    go_wp2_with fail
    refine (HC4.out W8 HB8.out.1).mono ?_
    rintro e W9 ⟨rfl, b9⟩
    have ba := b9.alloc b9.size (.cells #[.int .i64 t1, .int .i64 t2, .string t3, .int .i64 z1, .int .i64 z2, .string z3, .int .i64 zf] 127)
    have HBa := Lib.hid (And.intro (HB8.out.1.trans (ba.mono HB8.out.1.size)) (And.intro (HB8.out.2.1.below ba HB8.out.2.1.lt) (And.intro (HB8.out.2.2.1.below ba HB8.out.2.2.1.lt) (And.intro (HB8.out.2.2.2.below ba HB8.out.2.2.2.lt) (Blk.new W9 127 #[.int .i64 t1, .int .i64 t2, .string t3, .int .i64 z1, .int .i64 z2, .string z3, .int .i64 zf])))))
    clear b9 ba c0 c1 c2 HB8 HC1 HC2 HC3 HC4 HKG
    go_upto_region 32 with fail
    generalize (W9.alloc (.cells #[.int .i64 t1, .int .i64 t2, .string t3, .int .i64 z1, .int .i64 z2, .string z3, .int .i64 zf] 127)) = Wa at *
    generalize W9.heap.size = q9 at *
    obtain ⟨ba, ka3, ka5, ka7, ka9⟩ := HBa.out
    have f0 : Wa.cell? ⟨q3, 0, none⟩ = some (.int .i64 x1) := by rw [ka3.cell]; rfl
    have f1 : Wa.cell? ⟨q3, 1, none⟩ = some (.int .i64 x2) := by rw [ka3.cell]; rfl
    have f2 : Wa.cell? ⟨q3, 2, none⟩ = some (.string x3) := by rw [ka3.cell]; rfl
    have g3 : Wa.cell? ⟨q5, 3, none⟩ = some (.int .i64 x1) := by rw [ka5.cell]; rfl
    have g4 : Wa.cell? ⟨q5, 4, none⟩ = some (.int .i64 x2) := by rw [ka5.cell]; rfl
    have g5 : Wa.cell? ⟨q5, 5, none⟩ = some (.string x3) := by rw [ka5.cell]; rfl
    have g6 : Wa.cell? ⟨q5, 6, none⟩ = some (.int .i64 xf) := by rw [ka5.cell]; rfl
    have m0 : Wa.cell? ⟨q7, 0, none⟩ = some (.int .i64 z1) := by rw [ka7.cell]; rfl
    have m1 : Wa.cell? ⟨q7, 1, none⟩ = some (.int .i64 z2) := by rw [ka7.cell]; rfl
    have m2 : Wa.cell? ⟨q7, 2, none⟩ = some (.string z3) := by rw [ka7.cell]; rfl
    have n3 : Wa.cell? ⟨q9, 3, none⟩ = some (.int .i64 z1) := by rw [ka9.cell]; rfl
    have n4 : Wa.cell? ⟨q9, 4, none⟩ = some (.int .i64 z2) := by rw [ka9.cell]; rfl
    have n5 : Wa.cell? ⟨q9, 5, none⟩ = some (.string z3) := by rw [ka9.cell]; rfl
    have n6 : Wa.cell? ⟨q9, 6, none⟩ = some (.int .i64 zf) := by rw [ka9.cell]; rfl
    have l3 := ka3.lt
    have l5 := ka5.lt
    have l7 := ka7.lt
    have l9 := ka9.lt
    have HE := Lib.hid (HPF.out.fin (HR2.out.below ba) (by rw [HPF.out.od, HPF.out.oi]) (by rw [HPF.out.oi]; exact HPF.out.rp.mono) rfl rfl)
    have s1 : (x1 == x1) = true := by simp
    have s2 : (x2 == x2) = true := by simp
    have s3 : (x3.toList == x3.toList) = true := by simp
    have s4 : (xf == xf) = true := by simp
    have s5 : (z1 == z1) = true := by simp
    have s6 : (z2 == z2) = true := by simp
    have s7 : (z3.toList == z3.toList) = true := by simp
    have s8 : (zf == zf) = true := by simp
    clear ba ka3 ka5 ka7 ka9 HBa HR2
    cases xb <;> cases zb
    · go_wp2_with fail
      go_ret
      exact ⟨rfl, HE.out⟩
    · go_wp2_with fail
      go_ret
      exact ⟨rfl, HE.out⟩
    · go_wp2_with fail
      go_ret
      exact ⟨rfl, HE.out⟩
    · go_wp2_with fail
      go_ret
      exact ⟨rfl, HE.out⟩
  · have hkd : (wrap64 (kd.tmod 8 + 8)).tmod 8 = 5 := hkd0
    clear hkd0
    as_aux_lemma =>
    obtain ⟨os, hos⟩ : ∃ os, s.oi = os := ⟨_, rfl⟩
    rw [hos] at ho
    have hoi : s0.oi[i]? = some o := by rw [HPF.out.oi, hos]; exact ho
    have hod : s0.od[i]? = some o := by rw [HPF.out.od, hos]; exact ho
    have hr1 : s0.oi.length ≤ 1000 := by have := HPF.out.rp.le; rw [HPF.out.oi]; omega
    have hr2 : s0.od.length ≤ 1000 := by have := HPF.out.rp.le; rw [HPF.out.od]; omega
    have hc1 := HPF.out.st.hobj hr1 ((i : Int) + 1)
    rw [objB_at (HPF.out.st.bAt hoi), HPF.out.hH] at hc1
    have hc2 : ∀ W, Below wc.heap.size wc W → Calls Tryd.prog 37 #[.pointer (some ⟨Q, 0, none⟩), .int .i64 ((i : Int) + 1)] W fun e w' => e = .returned (.pointer (some ⟨s0.ql i, 0, none⟩)) ∧ Below W.heap.size W w' := fun W b => by
      have h1 := (HPF.out.st.below b).rob hr2 ((i : Int) + 1)
      rw [robjV_at ((HPF.out.st.below b).qAt hod), HPF.out.hQ] at h1
      exact h1
    obtain ⟨bi, hbi⟩ : ∃ b, s0.bl i = b := ⟨_, rfl⟩
    obtain ⟨qi, hqi⟩ : ∃ q, s0.ql i = q := ⟨_, rfl⟩
    rw [hbi] at hc1
    simp only [hqi] at hc2
    have HC := Lib.hid (And.intro hc1 hc2)
    have HO := Lib.hid (And.intro ho (And.intro hoi (And.intro hod (And.intro hos (And.intro hbi hqi)))))
    clear hc1 hc2 ho hoi hod hos hbi hqi hr1 hr2
    go_wp2_with fail
    refine HC.out.1.mono ?_
    rintro e W1 ⟨rfl, b1⟩
    have HPF1 := Lib.hid (HPF.out.st.below b1)
    have HB1 := Lib.hid b1
    clear y0 y1 lp b1 hkd
    go_wp2_with fail
    refine (HC.out.2 W1 HB1.out).mono ?_
    rintro e W2 ⟨rfl, b2⟩
    have HR2 := Lib.hid (HPF1.out.below b2)
    clear b2 HPF1 HB1 HC
    obtain ⟨kg, kh, kp⟩ := HPF.out.boxes HR2.out rfl
    have c0 : W2.cell? ⟨g, 0, none⟩ = some (.int .i64 k1) := by rw [kg.cell]; rfl
    have c1 : W2.cell? ⟨g, 1, none⟩ = some (.int .i64 k2) := by rw [kg.cell]; rfl
    have c2 : W2.cell? ⟨g, 2, none⟩ = some (.string k3) := by rw [kg.cell]; rfl
    have d0 : W2.cell? ⟨h, 0, none⟩ = some (.int .i64 3) := by rw [kh.cell]; rfl
    have d1 : W2.cell? ⟨h, 1, none⟩ = some (.int .i64 (vv : Int)) := by rw [kh.cell]; rfl
    have d2 : W2.cell? ⟨h, 2, none⟩ = some (.string ⟨#[]⟩) := by rw [kh.cell]; rfl
    have e3 : W2.cell? ⟨p, 3, none⟩ = some (.int .i64 vl) := by rw [kp.cell]; rfl
    have e4 : W2.cell? ⟨p, 4, none⟩ = some (.int .i64 fl) := by rw [kp.cell]; rfl
    have lg := kg.lt
    have lh := kh.lt
    have lp := kp.lt
    clear kg kh kp
    have hk1 := HR2.out.keys HPF.out.lg (by rw [HPF.out.oi]; exact HPF.out.rp) HPF.out.nN (i := i) (o := o) HO.out.2.1
    rw [HO.out.2.2.2.2.1] at hk1
    have HK1 := Lib.hid hk1
    clear hk1 c0 c1 c2 d0 d1 d2 e3 e4 lg lh lp
    go_upto_region 34 with fail
    go_wp2_with fail
    refine HK1.out.mono ?_
    rintro e W3 ⟨rv, rfl, hrow, hst⟩
    have hk2 := hst.rkeys HPF.out.lg HPF.out.pg (by rw [HPF.out.od]; exact HPF.out.rp) HPF.out.nN (i := i) (o := o) HO.out.2.2.1
    rw [HO.out.2.2.2.2.2] at hk2
    have HK2 := Lib.hid (And.intro hk2 (And.intro hrow hst))
    clear hk2 hrow hst HK1
    go_wp2_with fail
    refine HK2.out.1.mono ?_
    rintro e W4 ⟨rv2, rfl, hrow2, b4⟩
    have hrow1 := (Upd.of_below_all (M := fun _ => False) b4).own HK2.out.2.1 (fun _ _ e => e)
    have hle : o.keys.length ≤ 1000000 := Nat.le_trans (keys_len (HPF.out.rp.ok o (by rw [HO.out.2.2.2.1]; exact List.mem_of_getElem? HO.out.1)) (Nat.le_trans (HPF.out.rp.len o (by rw [HO.out.2.2.2.1]; exact List.mem_of_getElem? HO.out.1)) HPF.out.nN)) (by decide)
    have HS := Lib.hid (And.intro (same_keys hrow1 hrow2 hle) (HK2.out.2.2.below b4))
    clear hrow1 hrow2 b4 hle HK2
    go_wp2_with fail
    refine HS.out.1.mono ?_
    rintro e W5 ⟨rfl, b5⟩
    have HE := Lib.hid (HPF.out.fin (HS.out.2.below b5) (by rw [HPF.out.od, HPF.out.oi]) (by rw [HPF.out.oi]; exact HPF.out.rp.mono) rfl rfl)
    clear b5 HS
    go_wp2_with fail
    go_ret
    exact ⟨rfl, HE.out⟩
  · have hkd : (wrap64 (kd.tmod 8 + 8)).tmod 8 = 6 := hkd0
    clear hkd0
    as_aux_lemma =>
    obtain ⟨os, hos⟩ : ∃ os, s.oi = os := ⟨_, rfl⟩
    rw [hos] at ho
    have hoi : s0.oi[i]? = some o := by rw [HPF.out.oi, hos]; exact ho
    have hod : s0.od[i]? = some o := by rw [HPF.out.od, hos]; exact ho
    have hr1 : s0.oi.length ≤ 1000 := by have := HPF.out.rp.le; rw [HPF.out.oi]; omega
    have hr2 : s0.od.length ≤ 1000 := by have := HPF.out.rp.le; rw [HPF.out.od]; omega
    have hc1 := HPF.out.st.hobj hr1 ((i : Int) + 1)
    rw [objB_at (HPF.out.st.bAt hoi), HPF.out.hH] at hc1
    have hc2 : ∀ W, Below wc.heap.size wc W → Calls Tryd.prog 37 #[.pointer (some ⟨Q, 0, none⟩), .int .i64 ((i : Int) + 1)] W fun e w' => e = .returned (.pointer (some ⟨s0.ql i, 0, none⟩)) ∧ Below W.heap.size W w' := fun W b => by
      have h1 := (HPF.out.st.below b).rob hr2 ((i : Int) + 1)
      rw [robjV_at ((HPF.out.st.below b).qAt hod), HPF.out.hQ] at h1
      exact h1
    obtain ⟨bi, hbi⟩ : ∃ b, s0.bl i = b := ⟨_, rfl⟩
    obtain ⟨qi, hqi⟩ : ∃ q, s0.ql i = q := ⟨_, rfl⟩
    rw [hbi] at hc1
    simp only [hqi] at hc2
    have HC := Lib.hid (And.intro hc1 hc2)
    have HO := Lib.hid (And.intro ho (And.intro hoi (And.intro hod (And.intro hos (And.intro hbi hqi)))))
    clear hc1 hc2 ho hoi hod hos hbi hqi hr1 hr2
    go_wp2_with fail
    refine HC.out.1.mono ?_
    rintro e W1 ⟨rfl, b1⟩
    have HPF1 := Lib.hid (HPF.out.st.below b1)
    have HB1 := Lib.hid b1
    clear y0 y1 lp b1 hkd
    go_wp2_with fail
    refine (HC.out.2 W1 HB1.out).mono ?_
    rintro e W2 ⟨rfl, b2⟩
    have HR2 := Lib.hid (HPF1.out.below b2)
    clear b2 HPF1 HB1 HC
    obtain ⟨kg, kh, kp⟩ := HPF.out.boxes HR2.out rfl
    have c0 : W2.cell? ⟨g, 0, none⟩ = some (.int .i64 k1) := by rw [kg.cell]; rfl
    have c1 : W2.cell? ⟨g, 1, none⟩ = some (.int .i64 k2) := by rw [kg.cell]; rfl
    have c2 : W2.cell? ⟨g, 2, none⟩ = some (.string k3) := by rw [kg.cell]; rfl
    have d0 : W2.cell? ⟨h, 0, none⟩ = some (.int .i64 3) := by rw [kh.cell]; rfl
    have d1 : W2.cell? ⟨h, 1, none⟩ = some (.int .i64 (vv : Int)) := by rw [kh.cell]; rfl
    have d2 : W2.cell? ⟨h, 2, none⟩ = some (.string ⟨#[]⟩) := by rw [kh.cell]; rfl
    have e3 : W2.cell? ⟨p, 3, none⟩ = some (.int .i64 vl) := by rw [kp.cell]; rfl
    have e4 : W2.cell? ⟨p, 4, none⟩ = some (.int .i64 fl) := by rw [kp.cell]; rfl
    have lg := kg.lt
    have lh := kh.lt
    have lp := kp.lt
    clear kg kh kp
    have hk1 := HR2.out.frz HPF.out.lg (by rw [HPF.out.oi]; exact HPF.out.rp) HPF.out.nN (i := i) (o := o) HO.out.2.1
    rw [HO.out.2.2.2.2.1] at hk1
    have HK1 := Lib.hid hk1
    clear hk1 c0 c1 c2 d0 d1 d2 e3 e4 lg lh lp
    go_upto_region 36 with fail
    go_wp2_with fail
    refine HK1.out.mono ?_
    rintro e W3 ⟨⟨v3, rfl⟩, hst⟩
    have hk2 := hst.rfrz (by show RP s0.od N; rw [HPF.out.od]; exact HPF.out.rp) HPF.out.nN (i := i) (o := o) HO.out.2.2.1
    have hk3 : Calls Tryd.prog 65 #[.pointer (some ⟨qi, 0, none⟩)] W3 fun e w' => (∃ v, e = .returned v) ∧ RSt w1 { s0 with oi := s0.oi.set i o.freeze, od := s0.od.set i o.freeze } w' := by
      rw [← HO.out.2.2.2.2.2]
      exact hk2
    have HK2 := Lib.hid hk3
    clear hk2 hk3 hst HK1
    go_wp2_with fail
    refine HK2.out.mono ?_
    rintro e W4 ⟨⟨v4, rfl⟩, hst⟩
    have HE := Lib.hid (HPF.out.fin hst (by show s0.od.set i _ = s0.oi.set i _; rw [HPF.out.od, HPF.out.oi]) (by show RP (s0.oi.set i _) _; rw [HPF.out.oi]; exact HPF.out.rp.frz (by rw [HO.out.2.2.2.1]; exact HO.out.1)) rfl rfl)
    clear hst HK2
    go_wp2_with fail
    go_ret
    exact ⟨rfl, HE.out⟩
  · have hkd : (wrap64 (kd.tmod 8 + 8)).tmod 8 = 7 := hkd0
    clear hkd0
    as_aux_lemma =>
    obtain ⟨os, hos⟩ : ∃ os, s.oi = os := ⟨_, rfl⟩
    rw [hos] at ho
    have hoi : s0.oi[i]? = some o := by rw [HPF.out.oi, hos]; exact ho
    have hod : s0.od[i]? = some o := by rw [HPF.out.od, hos]; exact ho
    have hr1 : s0.oi.length ≤ 1000 := by have := HPF.out.rp.le; rw [HPF.out.oi]; omega
    have hr2 : s0.od.length ≤ 1000 := by have := HPF.out.rp.le; rw [HPF.out.od]; omega
    have hc1 := HPF.out.st.hobj hr1 ((i : Int) + 1)
    rw [objB_at (HPF.out.st.bAt hoi), HPF.out.hH] at hc1
    have hc2 : ∀ W, Below wc.heap.size wc W → Calls Tryd.prog 37 #[.pointer (some ⟨Q, 0, none⟩), .int .i64 ((i : Int) + 1)] W fun e w' => e = .returned (.pointer (some ⟨s0.ql i, 0, none⟩)) ∧ Below W.heap.size W w' := fun W b => by
      have h1 := (HPF.out.st.below b).rob hr2 ((i : Int) + 1)
      rw [robjV_at ((HPF.out.st.below b).qAt hod), HPF.out.hQ] at h1
      exact h1
    obtain ⟨bi, hbi⟩ : ∃ b, s0.bl i = b := ⟨_, rfl⟩
    obtain ⟨qi, hqi⟩ : ∃ q, s0.ql i = q := ⟨_, rfl⟩
    rw [hbi] at hc1
    simp only [hqi] at hc2
    have HC := Lib.hid (And.intro hc1 hc2)
    have HO := Lib.hid (And.intro ho (And.intro hoi (And.intro hod (And.intro hos (And.intro hbi hqi)))))
    clear hc1 hc2 ho hoi hod hos hbi hqi hr1 hr2
    go_wp2_with fail
    refine HC.out.1.mono ?_
    rintro e W1 ⟨rfl, b1⟩
    have HPF1 := Lib.hid (HPF.out.st.below b1)
    have HB1 := Lib.hid b1
    clear y0 y1 lp b1 hkd
    go_wp2_with fail
    refine (HC.out.2 W1 HB1.out).mono ?_
    rintro e W2 ⟨rfl, b2⟩
    have HR2 := Lib.hid (HPF1.out.below b2)
    clear b2 HPF1 HB1 HC
    obtain ⟨kg, kh, kp⟩ := HPF.out.boxes HR2.out rfl
    have c0 : W2.cell? ⟨g, 0, none⟩ = some (.int .i64 k1) := by rw [kg.cell]; rfl
    have c1 : W2.cell? ⟨g, 1, none⟩ = some (.int .i64 k2) := by rw [kg.cell]; rfl
    have c2 : W2.cell? ⟨g, 2, none⟩ = some (.string k3) := by rw [kg.cell]; rfl
    have d0 : W2.cell? ⟨h, 0, none⟩ = some (.int .i64 3) := by rw [kh.cell]; rfl
    have d1 : W2.cell? ⟨h, 1, none⟩ = some (.int .i64 (vv : Int)) := by rw [kh.cell]; rfl
    have d2 : W2.cell? ⟨h, 2, none⟩ = some (.string ⟨#[]⟩) := by rw [kh.cell]; rfl
    have e3 : W2.cell? ⟨p, 3, none⟩ = some (.int .i64 vl) := by rw [kp.cell]; rfl
    have e4 : W2.cell? ⟨p, 4, none⟩ = some (.int .i64 fl) := by rw [kp.cell]; rfl
    have lg := kg.lt
    have lh := kh.lt
    have lp := kp.lt
    clear kg kh kp
    obtain ⟨pv, hpv9, hpv0⟩ := and_to vl 15 (by decide)
    have hpv : bits .and .i64 vl 15 = (pv : Int) := hpv0
    clear hpv9 hpv0
    obtain ⟨n, hn⟩ : ∃ n, s0.oi.length = n := ⟨_, rfl⟩
    have hnd : s0.od.length = n := by rw [HPF.out.od, ← HPF.out.oi, hn]
    obtain ⟨la, lcap, hq0, lq⟩ : ∃ la lcap, W2.cell? ⟨Q, 0, none⟩ = some (.slice la n lcap) ∧ Q < W2.heap.size := by
      obtain ⟨lv, hx⟩ := HR2.out.rhp
      have hr := hx.row
      rw [HR2.out.nq, hnd] at hr
      obtain ⟨la, lcap, e, -⟩ := own_shape hr
      have hb := hx.hb
      rw [HPF.out.hQ, e] at hb
      exact ⟨la, lcap, by rw [hb.cell]; rfl, hb.lt⟩
    have HN := Lib.hid (And.intro hn hnd)
    clear hn hnd
    by_cases hlt : n < pv
    · have t1 : decide ((n : Int) < (pv : Int)) = true := by rw [decide_eq_true_eq]; omega
      have hch := HR2.out.chnOut (by rw [HPF.out.oi]; exact HPF.out.rp) (p := (pv : Int)) (by omega) (by rw [HN.out.1]; omega) ((i : Int) + 1)
      rw [HPF.out.hH] at hch
      have HCH := Lib.hid hch
      clear hch
      go_wp2_with fail
      refine HCH.out.mono ?_
      rintro e W3 ⟨rfl, b3⟩
      have HE := Lib.hid (HPF.out.fin (HR2.out.below b3) (by rw [HPF.out.od, HPF.out.oi]) (by rw [HPF.out.oi]; exact HPF.out.rp.mono) rfl rfl)
      clear b3 HCH c0 c1 c2 d0 d1 d2 e3 e4 lg lh lp hq0 lq
      go_wp2_with fail
      go_ret
      exact ⟨rfl, HE.out⟩
    have t1 : decide ((n : Int) < (pv : Int)) = false := by rw [decide_eq_false_iff_not]; omega
    obtain ⟨l7, hl7⟩ : ∃ l, Chn s0.oi pv l := by
      have := HPF.out.rp.ends
      rw [← HPF.out.oi] at this
      exact this pv (by rw [HN.out.1]; omega)
    have hch := HR2.out.chn (by rw [HPF.out.oi]; exact HPF.out.rp) hl7 ((i : Int) + 1)
    rw [HPF.out.hH] at hch
    obtain ⟨B, hB⟩ : ∃ B, chnOk ((i : Int) + 1) l7 = B := ⟨_, rfl⟩
    have hchW : ∀ W, Below W2.heap.size W2 W → Calls Tryd.prog 15 #[.pointer (some ⟨H, 0, none⟩), .int .i64 ((i : Int) + 1), .int .i64 (pv : Int)] W fun e w' => e = .returned (.bool B) ∧ Below W.heap.size W w' := fun W b => by
      have h1 := (HR2.out.below b).chn (by rw [HPF.out.oi]; exact HPF.out.rp) hl7 ((i : Int) + 1)
      rw [HPF.out.hH, hB] at h1
      exact h1
    have HCH := Lib.hid (And.intro hchW (And.intro hl7 hB))
    clear hch hchW c0 c1 c2 d0 d1 d2 e4 lg lh
    go_wp2_with fail
    go_loopw [28, 29] (fun c x wr => ∃ (r : Nat) (m : List Nat) (cb : Bool), c = .bool cb ∧ x = .int .i64 (r : Int) ∧ Hid (Chn s0.oi r m ∧ (cb || !chnOk ((i : Int) + 1) m) = !B) ∧ Hid (Below W2.heap.size W2 wr)) (fun _ x _ => chLen s0.oi (intOf x).toNat)
    case atStart => exact ⟨pv, l7, false, rfl, rfl, Lib.hid ⟨HCH.out.2.1, by rw [HCH.out.2.2]; rfl⟩, Lib.hid (Below.refl _ _)⟩
    case round =>
    obtain ⟨r, m, cb, rfl, rfl, HC7, HB7⟩ := hrel
    clear e3 lp hq0 lq
    by_cases hr0 : r = 0
    · subst hr0
      have hm0 : m = [] := by
        cases m with
        | nil => rfl
        | cons a m => exact absurd HC7.out.1.1 (by omega)
      have hcb : cb = !B := by
        have h1 := HC7.out.2
        rw [hm0] at h1
        rw [← h1]
        show cb = (cb || !true)
        cases cb <;> rfl
      have t2 : (((0 : Nat) : Int) != 0) = false := by decide
      clear hm0 HC7
      have HCW := Lib.hid (HCH.out.1 wr HB7.out)
      cases B with
      | false =>
        obtain rfl : cb = true := hcb
        have tc : (false == true) = false := rfl
        go_wp2_with fail
        refine HCW.out.mono ?_
        rintro e W3 ⟨rfl, b3⟩
        have HE := Lib.hid (HPF.out.fin (HR2.out.below (HB7.out.trans (b3.mono HB7.out.size))) (by rw [HPF.out.od, HPF.out.oi]) (by rw [HPF.out.oi]; exact HPF.out.rp.mono) rfl rfl)
        clear b3 HCW
        go_wp2_with fail
        go_ret
        exact ⟨rfl, HE.out⟩
      | true =>
        obtain rfl : cb = false := hcb
        have tc : (true == false) = false := rfl
        go_wp2_with fail
        refine HCW.out.mono ?_
        rintro e W3 ⟨rfl, b3⟩
        have hst := HR2.out.below (HB7.out.trans (b3.mono HB7.out.size))
        obtain ⟨b, T, lv, Ot, hb1, hio, -, hcl⟩ := hst.obj HO.out.2.1
        have hbe : b = bi := by rw [← HO.out.2.2.2.2.1, bl_at hb1]
        subst hbe
        have hl1 : Left o b T lv Ot W3 { o with pr := pv } (W3.setCell ⟨b, 1, none⟩ (.int .i64 (pv : Int))) := by
          have u : Upd W3 (W3.setCell ⟨b, 1, none⟩ (.int .i64 (pv : Int))) (fun k => k = b) := (Upd.refl W3 _).set b 1 _ rfl
          exact ⟨u.mono fun k _ e => .inl e, lv, Ot, ⟨hio.ob.set_ 1 _, u.own hio.row (fun k hk e => by subst e; exact hio.far hk), hio.tab.upd u (fun k hk e => by subst e; exact hio.nb hk), hio.nb, hio.nl, fun k hk => Nat.lt_of_lt_of_le (hio.lt k hk) u.size⟩, fun k hk => .inl hk⟩
        have hst2 := hcl _ _ hl1
        obtain ⟨q, pw, ew, hq1, hro, -, hcl2⟩ := hst2.robj (i := i) (o := o) HO.out.2.2.1
        have hqe : q = qi := by rw [← HO.out.2.2.2.2.2]; exact (ql_at (s := s0) hq1).symm
        subst hqe
        have hl2 : LeftR o q pw ew (W3.setCell ⟨b, 1, none⟩ (.int .i64 (pv : Int))) { o with pr := pv } ((W3.setCell ⟨b, 1, none⟩ (.int .i64 (pv : Int))).setCell ⟨q, 3, none⟩ (.int .i64 (pv : Int))) := by
          have u : Upd (W3.setCell ⟨b, 1, none⟩ (.int .i64 (pv : Int))) ((W3.setCell ⟨b, 1, none⟩ (.int .i64 (pv : Int))).setCell ⟨q, 3, none⟩ (.int .i64 (pv : Int))) (fun k => k = q) := (Upd.refl _ _).set q 3 _ rfl
          exact ⟨u.mono fun k _ e => .inl e, pw, ew, ⟨hro.ob.set_ 3 _, u.own hro.rp (fun k hk e => by subst e; exact hro.np hk), u.own hro.re (fun k hk e => by subst e; exact hro.ne hk), hro.sep⟩, fun k hk => .inl hk⟩
        have hst3 := hcl2 _ _ hl2
        have hni : i ∉ l7 := fun hi => by
          have h1 := HCH.out.2.2
          unfold chnOk at h1
          rw [List.all_eq_true] at h1
          have := h1 i hi
          simp at this
        have hrp : RP (s0.oi.set i { o with pr := pv }) (N + 1) := by
          have h0 := HPF.out.rp
          rw [← HPF.out.oi] at h0
          refine ⟨fun x hx => ?_, fun x hx => ?_, h0.ends.proto HO.out.2.1 (x := { o with pr := pv }) HCH.out.2.1 hni, by rw [List.length_set]; exact h0.le⟩
          · rcases List.mem_or_eq_of_mem_set hx with e | e
            · exact h0.ok x e
            · have h1 := h0.ok o (List.mem_of_getElem? HO.out.2.1)
              rw [e]
              exact ⟨h1.ks, h1.nd, h1.ar, h1.pl, h1.le⟩
          · rcases List.mem_or_eq_of_mem_set hx with e | e
            · exact Nat.le_succ_of_le (h0.len x e)
            · rw [e]
              exact Nat.le_succ_of_le (h0.len o (List.mem_of_getElem? HO.out.2.1))
        have HE := Lib.hid (HPF.out.fin hst3 (by show s0.od.set i _ = s0.oi.set i _; rw [HPF.out.od, HPF.out.oi]) hrp rfl rfl)
        have x1 : W3.cell? ⟨b, 1, none⟩ = some (.int .i64 (o.pr : Int)) := by rw [hio.ob.cell]; rfl
        have x2 := hio.ob.frozen 1
        have x3 : (W3.setCell ⟨b, 1, none⟩ (.int .i64 (pv : Int))).cell? ⟨q, 3, none⟩ = some (.int .i64 (o.pr : Int)) := by rw [hro.ob.cell]; rfl
        have x4 := hro.ob.frozen 3
        have x5 := hio.ob.lt
        have x6 := hro.ob.lt
        generalize (o.pr : Int) = op at x1 x3
        clear hst hb1 hio hcl hl1 hst2 hq1 hro hcl2 hl2 hst3 hni hrp b3 HCW
        go_wp2_with fail
        go_ret
        exact ⟨rfl, HE.out⟩
    · obtain ⟨j, m2, rfl, hrj, o2, ho2, hm2⟩ : ∃ j m2, m = j :: m2 ∧ r = j + 1 ∧ ∃ o2, s0.oi[j]? = some o2 ∧ Chn s0.oi o2.pr m2 := by
        have h1 := HC7.out.1
        cases m with
        | nil => exact absurd h1 hr0
        | cons j m2 => exact ⟨j, m2, rfl, h1.1, h1.2⟩
      have hod2 : s0.od[j]? = some o2 := by rw [HPF.out.od, ← HPF.out.oi]; exact ho2
      have hst := HR2.out.below HB7.out
      have hob := hst.rob (by rw [HN.out.2]; have := HPF.out.rp.le; rw [← HPF.out.oi, HN.out.1] at this; omega) (r : Int)
      rw [show (r : Int) = (j : Int) + 1 by omega, robjV_at (hst.qAt hod2), HPF.out.hQ, show (j : Int) + 1 = (r : Int) by omega] at hob
      have hprd := (hst.prD hod2)
      obtain ⟨qj, hqj⟩ : ∃ q, s0.ql j = q := ⟨_, rfl⟩
      rw [hqj] at hob hprd
      obtain ⟨tb, htb⟩ : ∃ tb, ((r : Int) == (i : Int) + 1) = tb := ⟨_, rfl⟩
      have hinv : ((cb || tb) || !chnOk ((i : Int) + 1) m2) = !B := by
        rw [← HC7.out.2, ← htb]
        unfold chnOk
        rw [List.all_cons]
        by_cases e : (r : Int) = (i : Int) + 1
        · have e1 : (decide (((j : Int) + 1) ≠ (i : Int) + 1)) = false := by rw [decide_eq_false_iff_not]; omega
          have e2 : ((r : Int) == (i : Int) + 1) = true := by simpa using e
          rw [e1, e2]
          cases cb <;> rfl
        · have e1 : (decide (((j : Int) + 1) ≠ (i : Int) + 1)) = true := by rw [decide_eq_true_eq]; omega
          have e2 : ((r : Int) == (i : Int) + 1) = false := by simpa using e
          rw [e1, e2]
          cases cb <;> rfl
      have hlen1 : chLen s0.oi r = (j :: m2).length := chLen_at HC7.out.1
      have hlen2 : chLen s0.oi o2.pr = m2.length := chLen_at hm2
      have t2 : ((r : Int) != 0) = true := by simp; omega
      have HM := Lib.hid (And.intro hm2 (And.intro hinv (And.intro hlen1 hlen2)))
      have HOB := Lib.hid hob
      have HPD := Lib.hid hprd
      obtain ⟨pr2, hpr2⟩ : ∃ p, o2.pr = p := ⟨_, rfl⟩
      rw [hpr2] at HM HPD
      clear hob hprd hinv hlen1 hlen2 hm2 ho2 hod2 hst HC7 hrj hr0 hpr2 HCH
      cases cb with
      | true =>
        go_wp2_with fail
        refine HOB.out.mono ?_
        rintro e W3 ⟨rfl, b3⟩
        have y3 : W3.cell? ⟨qj, 3, none⟩ = some (.int .i64 (pr2 : Int)) := (b3.cell (World.block_lt_of_cell? wr _ HPD.out.1)).trans HPD.out.1
        have lqj : qj < W3.heap.size := Nat.lt_of_lt_of_le HPD.out.2 b3.size
        have HB8 := Lib.hid (HB7.out.trans (b3.mono HB7.out.size))
        clear b3
        go_wp2_with fail
        go_roundw
        case rel => exact ⟨pr2, m2, true, rfl, rfl, Lib.hid ⟨HM.out.1, HM.out.2.1⟩, HB8⟩
        case measure =>
          simp only [intOf]
          rw [show ((r : Int)).toNat = r by omega, show ((pr2 : Int)).toNat = pr2 by omega, HM.out.2.2.1, HM.out.2.2.2, List.length_cons]
          exact Nat.lt_succ_self _
      | false =>
        cases tb <;>
        (go_wp2_with fail
         refine HOB.out.mono ?_
         rintro e W3 ⟨rfl, b3⟩
         have y3 : W3.cell? ⟨qj, 3, none⟩ = some (.int .i64 (pr2 : Int)) := (b3.cell (World.block_lt_of_cell? wr _ HPD.out.1)).trans HPD.out.1
         have lqj : qj < W3.heap.size := Nat.lt_of_lt_of_le HPD.out.2 b3.size
         have HB8 := Lib.hid (HB7.out.trans (b3.mono HB7.out.size))
         clear b3
         go_wp2_with fail
         go_roundw
         · exact ⟨pr2, m2, _, rfl, rfl, Lib.hid ⟨HM.out.1, HM.out.2.1⟩, HB8⟩
         · (simp only [intOf]
            rw [show ((r : Int)).toNat = r by omega, show ((pr2 : Int)).toNat = pr2 by omega, HM.out.2.2.1, HM.out.2.2.2, List.length_cons]
            exact Nat.lt_succ_self _))
end Go.Proofs.YtmimnaaofpkndaaDoor.Hp
