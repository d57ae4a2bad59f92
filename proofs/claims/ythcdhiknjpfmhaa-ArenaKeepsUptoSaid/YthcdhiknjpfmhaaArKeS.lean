/- ArenaKeeps: same. -/
import Derived.Test.YthcdhiknjpfmhaaArKeE
import Derived.Deep.QuietTactic
import Derived.BigQuiet
set_option linter.unusedVariables false
set_option linter.unusedSimpArgs false
namespace Go.Proofs.Ythcdhiknjpfmhaa
open Go.RowKit
attribute [local go_sem] pr_equal pr_guard
theorem getV_at (ps : List Pa) (i : Nat) (hi : i < ps.length) : getV (csOf ps) ((i : Int) + 1) = .iface 27 (.pointer (some ⟨ps[i].x, 0, none⟩)) := by
  have hl : (csOf ps).length = ps.length := List.length_map ..
  unfold getV
  rw [if_pos ⟨by omega, by rw [hl]; omega⟩, show ((i : Int) + 1 - 1).toNat = i by omega, List.getD_eq_getElem?_getD, List.getElem?_eq_getElem (by rw [hl]; exact hi)]
  simp [csOf, bodyV]
theorem lpCells_at (ps : List Pa) (i : Nat) (hi : i < ps.length) : (lpCells (ps.map Pa.y))[i + 1]? = some (.pointer (some ⟨ps[i].y, 0, none⟩)) := by
  simp [lpCells, hi]
theorem own_below2 {w W : World} {B s n : Nat} {t : TypeId} {v : Value} {xs : List Value} (h : w.ownsRow B t s v n xs) (b : Below w.heap.size w W) : W.ownsRow B t s v n xs := (Upd.of_below_all (M := fun _ => False) b).own h (fun _ _ h => h)
theorem below_drewN {B : Nat} {w wr : World} (b : Below B w wr) (q : Nat) : Below B w (wr.drewN q) := ⟨b.os, b.tape, b.output, b.size, b.block⟩
set_option maxHeartbeats 4000000 in
set_option maxRecDepth 100000 in
theorem same_any {w : World} {A K M : Nat} {cv lv Lv : Value} {ps : List Pa} {nd : Nat → Nod} (h : Bo w A K M cv lv Lv ps nd) (h0 : ps ≠ []) (hl : ps.length ≤ 1000) (hsz : ∀ p ∈ ps, p.to_.length ≤ 2000 ∧ p.tab.length ≤ 2000 ∧ p.fa.length ≤ 2000) : Calls Try.prog 35 #[.pointer (some ⟨K, 0, none⟩)] w fun e w' => (∃ b, e = .returned (.bool b)) ∧ Below w.heap.size w w' := by
  have hLr : w.ownsRow A 78 1 Lv (ps.length + 1) (lpCells (ps.map Pa.y)) := by
    rcases h.LL with ⟨e, _⟩ | ⟨_, q⟩
    · exact absurd (List.map_eq_nil_iff.1 e) h0
    · rwa [List.length_map] at q
  obtain ⟨n, hn⟩ : ∃ n, ps.length = n := ⟨_, rfl⟩
  have hn1 : 1 ≤ n := by have := List.length_pos_iff.2 h0; omega
  have hlr := h.lr
  have hkb := h.kb
  have hkm := h.km
  rw [hn] at hLr hlr hl
  obtain ⟨La, Lc, rfl, hLa⟩ := own_shape hLr
  obtain ⟨Lg, rfl⟩ := hLa (by omega)
  obtain ⟨la, lc, rfl, hla⟩ := own_shape hlr
  obtain ⟨lg, rfl⟩ := hla (by omega)
  have x0 : w.cell? ⟨K, 0, none⟩ = some (.pointer (some ⟨A, 0, none⟩)) := by rw [hkb.cell]; rfl
  have x1 : w.cell? ⟨K, 1, none⟩ = some (.pointer (some ⟨M, 0, none⟩)) := by rw [hkb.cell]; rfl
  have x2 : w.cell? ⟨K, 2, none⟩ = some (.slice (some ⟨lg, 0, none⟩) n lc) := by rw [hkb.cell]; rfl
  have y0 : w.cell? ⟨M, 0, none⟩ = some (.slice (some ⟨Lg, 0, none⟩) (n + 1) Lc) := by rw [hkm.cell]; rfl
  have y2 : w.cell? ⟨M, 2, none⟩ = some (.slice none 0 0) := by rw [hkm.cell]; rfl
  have kl := hkb.lt
  have ml := hkm.lt
  have HX := Lib.hid (And.intro x0 (And.intro x1 (And.intro x2 (And.intro y0 (And.intro y2 (And.intro kl ml))))))
  have H := Lib.hid (And.intro h (And.intro hsz (And.intro hLr (And.intro hlr hn))))
  clear hLa hla h hsz hLr hlr hkb hkm h0
  go_enter Try.func35, Try.ntmps35
  go_wp2_with fail
  go_loopw [3, 4] (fun c v wr => ∃ i : Nat, i ≤ n ∧ v = .int .i64 ((i : Int) + 1) ∧ c = .int .i64 i ∧ Below w.heap.size w wr) (fun _ v _ => n + 1 - (intOf v).toNat)
  case atStart => exact ⟨0, by omega, rfl, rfl, Below.refl _ _⟩
  case round =>
    obtain ⟨i, hin, rfl, rfl, bw⟩ := hrel
    have x0' := (bw.cell (p := ⟨K, 0, none⟩) kl).trans x0
    have x1' := (bw.cell (p := ⟨K, 1, none⟩) kl).trans x1
    have x2' := (bw.cell (p := ⟨K, 2, none⟩) kl).trans x2
    have y0' := (bw.cell (p := ⟨M, 0, none⟩) ml).trans y0
    have y2' := (bw.cell (p := ⟨M, 2, none⟩) ml).trans y2
    by_cases hlt : i < n
    · have L1 : decide ((i : Int) + 1 < ((n : Int) + 1)) = true := by rw [decide_eq_true_eq]; omega
      have hil : i < ps.length := by rw [H.out.2.2.2.2]; exact hlt
      have c0 := (bw.cell (p := ⟨Lg, i + 1, none⟩) (H.out.2.2.1.lt Lg rfl).2).trans ((H.out.2.2.1.cellAt (i + 1) (by omega)).trans (lpCells_at ps i hil))
      have hge := fun q => get_any (w := wr.drewN q) ((i : Int) + 1) (H.out.1.ar.ar.below (below_drewN bw q)) (by rw [show (csOf ps).length = ps.length from List.length_map .., H.out.2.2.2.2]; omega)
      rw [getV_at ps i hil] at hge
      generalize ps[i].y = py at c0
      generalize ps[i].x = px at hge
      have z0 : (0 : Int) ≤ (i : Int) + 1 := by omega
      have z1 : (i : Int) + 1 < (n : Int) + 1 := by omega
      have z2 : ((i : Int) + 1).toNat = i + 1 := by omega
      have a1 : IntKind.i64.wrap ((i : Int) + 1) = (i : Int) + 1 := IntWalk.i64_in _ (by omega)
      have a2 : IntKind.i64.wrap ((i : Int) + 1 + 1) = (i : Int) + 1 + 1 := IntWalk.i64_in _ (by omega)
      have HG := Lib.hid hge
      clear x0 x1 x2 y0 y2 hge hil
      go_wp2_with fail
      go_quiet ((go_at_call 19; exact Calls.quiet_of (HG.out _)))
      go_wp2_with fail
      go_roundw
      case rel => exact ⟨i + 1, by omega, by first | rfl | rw [Int.natCast_add], by first | rfl | rw [Int.natCast_add], below_drewN bw _⟩
      case measure => simp only [intOf]; omega
    · obtain rfl : n = i := by omega
      have L1 : decide ((n : Int) + 1 < ((n : Int) + 1)) = false := by simp
      clear x0 x1 x2 y0 y2 hin L1
      go_wp2_with fail
      go_loopw [57] (fun v wr2 => ∃ j : Nat, j ≤ n ∧ v = .int .i64 j ∧ Below w.heap.size w wr2) (fun v _ => n - (intOf v).toNat)
      case atStart => exact ⟨0, by omega, rfl, bw⟩
      case round =>
        clear x0' x1' x2' y0' y2' bw
        obtain ⟨j, hjn, rfl, bw⟩ := hrel
        by_cases hlt : j < n
        · have L1 : decide ((j : Int) < (n : Int)) = true := by rw [decide_eq_true_eq]; omega
          have hjl : j < ps.length := by rw [H.out.2.2.2.2]; exact hlt
          have hg3 := paCells_get ps j hjl
          have hlg := (H.out.2.2.2.1.lt lg rfl).2
          have c0 := (bw.cell (p := ⟨lg, j * 3, none⟩) hlg).trans ((H.out.2.2.2.1.cellAt (j * 3) (by omega)).trans hg3.1)
          have c1 := (bw.cell (p := ⟨lg, j * 3 + 1, none⟩) hlg).trans ((H.out.2.2.2.1.cellAt (j * 3 + 1) (by omega)).trans hg3.2.1)
          have c2 := (bw.cell (p := ⟨lg, j * 3 + 2, none⟩) hlg).trans ((H.out.2.2.2.1.cellAt (j * 3 + 2) (by omega)).trans hg3.2.2)
          have hmem : ps[j] ∈ ps := List.getElem_mem _
          have hsz := H.out.2.1 _ hmem
          have hxs := H.out.1.xs _ hmem
          have hys := H.out.1.ys _ hmem
          have hnx := H.out.1.ar.nodes ps[j].x (by rw [bodies_csOf]; exact List.mem_map.2 ⟨_, hmem, rfl⟩)
          generalize ps[j] = p at *
          obtain ⟨k1, k2, k3, k4⟩ := hnx
          obtain ⟨e1, e2, e3, e4⟩ := hxs
          rw [e4] at k1
          rw [e1] at k2
          rw [e2] at k3
          rw [e3] at k4
          generalize (nd p.x).tv = tv at *
          generalize (nd p.x).bv = bv at *
          generalize (nd p.x).fv = fv at *
          obtain ⟨tv2, bv2, fv2, l1, l2, l3, l4⟩ := hys
          obtain ⟨ba, bc, rfl, hba⟩ := own_shape k3
          obtain ⟨ba2, bc2, rfl, hba2⟩ := own_shape l3
          obtain ⟨px, hpx⟩ : ∃ px, p.x = px := ⟨_, rfl⟩
          obtain ⟨py, hpy⟩ : ∃ py, p.y = py := ⟨_, rfl⟩
          obtain ⟨pr, hpr⟩ : ∃ pr, p.r = pr := ⟨_, rfl⟩
          obtain ⟨m, hm⟩ : ∃ m, p.tab.length = m := ⟨_, rfl⟩
          rw [hpx] at k1 c1
          rw [hpy] at l1 c2
          rw [hpr] at c0
          rw [hm] at k3 l3 k1 l1 hsz
          have bW : Below w.heap.size w (wr.alloc (.cells #[.int .i64 pr, .pointer (some ⟨px, 0, none⟩), .pointer (some ⟨py, 0, none⟩)] 81)) := bw.alloc bw.size _
          have kP := Blk.new wr 81 #[.int .i64 pr, .pointer (some ⟨px, 0, none⟩), .pointer (some ⟨py, 0, none⟩)]
          obtain ⟨P, hPq⟩ : ∃ P, wr.heap.size = P := ⟨_, rfl⟩
          rw [hPq] at kP
          have HK := Lib.hid (And.intro k1 (And.intro k2 (And.intro k3 (And.intro k4 (And.intro l1 (And.intro l2 (And.intro l3 (And.intro l4 (And.intro hsz (And.intro hba hba2))))))))))
          have HP := Lib.hid (And.intro bW kP)
          have z0 : (0 : Int) ≤ j := by omega
          have z1 : (j : Int) < n := by omega
          have z2 : (j : Int).toNat = j := by omega
          have a1 : IntKind.i64.wrap ((j : Int) + 1) = ((j + 1 : Nat) : Int) := by rw [IntWalk.i64_in _ (by omega)]; rfl
          clear k1 k2 k3 k4 l1 l2 l3 l4 e1 e2 e3 e4 hg3 hmem hpx hpy hpr bW kP hjl hlg hba hba2 hm hsz
          go_wp2_with fail
          generalize wr.alloc (.cells #[.int .i64 pr, .pointer (some ⟨px, 0, none⟩), .pointer (some ⟨py, 0, none⟩)] 81) = W at *
          clear c0 c1 c2 bw hPq L1
          obtain ⟨HK1, HK2, HK3, HK4, HL1, HL2, HL3, HL4, Hsz, Hba, Hba2⟩ := HK.out
          have p1 : W.cell? ⟨P, 1, none⟩ = some (.pointer (some ⟨px, 0, none⟩)) := by rw [HP.out.2.cell]; rfl
          have p2 : W.cell? ⟨P, 2, none⟩ = some (.pointer (some ⟨py, 0, none⟩)) := by rw [HP.out.2.cell]; rfl
          have n0 : W.cell? ⟨px, 0, none⟩ = some tv := (HP.out.1.cell (p := ⟨px, 0, none⟩) HK1.lt).trans (by rw [HK1.cell]; rfl)
          have n1 : W.cell? ⟨px, 1, none⟩ = some (.slice ba m bc) := (HP.out.1.cell (p := ⟨px, 1, none⟩) HK1.lt).trans (by rw [HK1.cell]; rfl)
          have n2 : W.cell? ⟨px, 2, none⟩ = some fv := (HP.out.1.cell (p := ⟨px, 2, none⟩) HK1.lt).trans (by rw [HK1.cell]; rfl)
          have n3 : W.cell? ⟨px, 3, none⟩ = some (.int .i64 0) := (HP.out.1.cell (p := ⟨px, 3, none⟩) HK1.lt).trans (by rw [HK1.cell]; rfl)
          have m0 : W.cell? ⟨py, 0, none⟩ = some tv2 := (HP.out.1.cell (p := ⟨py, 0, none⟩) HL1.lt).trans (by rw [HL1.cell]; rfl)
          have m1 : W.cell? ⟨py, 1, none⟩ = some (.slice ba2 m bc2) := (HP.out.1.cell (p := ⟨py, 1, none⟩) HL1.lt).trans (by rw [HL1.cell]; rfl)
          have m2 : W.cell? ⟨py, 2, none⟩ = some fv2 := (HP.out.1.cell (p := ⟨py, 2, none⟩) HL1.lt).trans (by rw [HL1.cell]; rfl)
          have m3 : W.cell? ⟨py, 3, none⟩ = some (.int .i64 0) := (HP.out.1.cell (p := ⟨py, 3, none⟩) HL1.lt).trans (by rw [HL1.cell]; rfl)
          have HT := Lib.hid (fun q => Calls.quiet_of (n := q) (nums_same (w := W.drewN q) p.to_ (NumR.of (own_below2 HK2 (below_drewN HP.out.1 q))) (NumR.of (own_below2 HL2 (below_drewN HP.out.1 q))) (by omega)))
          have HF := Lib.hid (fun q => Calls.quiet_of (n := q) (nums_same (w := W.drewN q) p.fa (NumR.of (own_below2 HK4 (below_drewN HP.out.1 q))) (NumR.of (own_below2 HL4 (below_drewN HP.out.1 q))) (by omega)))
          have e0 : ((m : Int) != (m : Int)) = false := by simp
          have H3 := Lib.hid (And.intro HK3 (And.intro HL3 (And.intro Hba Hba2)))
          have Hm : m ≤ 2000 := Hsz.2.1
          clear HK HK1 HK2 HK3 HK4 HL1 HL2 HL3 HL4 Hsz Hba Hba2
          go_quiet ((go_at_call 14; first | with_reducible exact HT.out _ | with_reducible exact HF.out _))
          go_wp2_with fail
          clear HT HF e0 n0 n2 n3 m0 m2 m3
          go_loopw [121] (fun v wr3 => ∃ k : Nat, k ≤ m ∧ v = .int .i64 k ∧ ∃ q, wr3 = W.drewN q) (fun v _ => m - (intOf v).toNat)
          case atStart => exact ⟨0, by omega, rfl, _, rfl⟩
          case round =>
            obtain ⟨k, hkm, rfl, q, rfl⟩ := hrel
            by_cases hlt2 : k < m
            · have L2 : decide ((k : Int) < (m : Int)) = true := by rw [decide_eq_true_eq]; omega
              obtain ⟨H31, H32, H33, H34⟩ := H3.out
              have hml : p.tab.length = m := by
                have := H31.1; rw [prCells_len] at this; omega
              obtain ⟨g1, rfl⟩ := H33 (by omega)
              obtain ⟨g2, rfl⟩ := H34 (by omega)
              have hg := prCells_get p.tab k (by omega)
              have b0 := (HP.out.1.cell (p := ⟨g1, k * 2, none⟩) (H31.lt g1 rfl).2).trans ((H31.cellAt (k * 2) (by omega)).trans hg.1)
              have b1 := (HP.out.1.cell (p := ⟨g1, k * 2 + 1, none⟩) (H31.lt g1 rfl).2).trans ((H31.cellAt (k * 2 + 1) (by omega)).trans hg.2)
              have b2 := (HP.out.1.cell (p := ⟨g2, k * 2, none⟩) (H32.lt g2 rfl).2).trans ((H32.cellAt (k * 2) (by omega)).trans hg.1)
              have b3 := (HP.out.1.cell (p := ⟨g2, k * 2 + 1, none⟩) (H32.lt g2 rfl).2).trans ((H32.cellAt (k * 2 + 1) (by omega)).trans hg.2)
              generalize (p.tab.getD k (0, 0)).1 = u1 at *
              generalize (p.tab.getD k (0, 0)).2 = u2 at *
              have y0 : (0 : Int) ≤ k := by omega
              have y1 : (k : Int) < m := by omega
              have y2 : (k : Int).toNat = k := by omega
              have d1 : IntKind.i64.wrap ((k : Int) + 1) = ((k + 1 : Nat) : Int) := by rw [IntWalk.i64_in _ (by omega)]; rfl
              have e1 : (u1 == u1) = true := by simp
              have e2 : (u2 == u2) = true := by simp
              clear H31 H32 H33 H34 hg hml
              go_wp2_with fail
              go_quiet (fail)
              go_wp2_with fail
              go_roundw
              case rel => exact ⟨k + 1, by omega, by first | rfl | rw [Int.natCast_add], _, rfl⟩
              case measure => simp only [intOf]; omega
            · obtain rfl : m = k := by omega
              have L2 : decide ((m : Int) < (m : Int)) = false := by simp
              go_wp2_with fail
              go_roundw
              case rel => exact ⟨j + 1, by omega, by first | rfl | rw [Int.natCast_add], below_drewN HP.out.1 _⟩
              case measure => simp only [intOf]; omega
        · obtain rfl : n = j := by omega
          have L1 : decide ((n : Int) < (n : Int)) = false := by simp
          have x0' := (bw.cell (p := ⟨K, 0, none⟩) kl).trans HX.out.1
          have x1' := (bw.cell (p := ⟨K, 1, none⟩) kl).trans HX.out.2.1
          have y0' := (bw.cell (p := ⟨M, 0, none⟩) ml).trans HX.out.2.2.2.1
          have y2' := (bw.cell (p := ⟨M, 2, none⟩) ml).trans HX.out.2.2.2.2.1
          have hAr := fun q => H.out.1.ar.ar.below (below_drewN bw q)
          have hcl : (csOf ps).length = n := (List.length_map ..).trans hn
          have HC := Lib.hid (fun q => (count_any (hAr q)).mono (fun e w' h => (⟨h.1, q, h.2.symm⟩ : e = .returned (.int .i64 ps.length) ∧ ∃ q, w' = wr.drewN q)))
          have HD := Lib.hid (fun q => (depth_any (hAr q)).mono (fun e w' h => (⟨h.1, q, h.2.symm⟩ : e = .returned (.int .i64 (([] : List Int).length : Nat)) ∧ ∃ q, w' = wr.drewN q)))
          have HG0 := Lib.hid (fun q => Calls.quiet_of (n := q) (get_any (w := wr.drewN q) 0 (hAr q) (by omega)))
          have HG1 := Lib.hid (fun q => Calls.quiet_of (n := q) (get_any (w := wr.drewN q) ((n : Int) + 1) (hAr q) (by omega)))
          rw [show getV (csOf ps) 0 = .nilIface from if_neg (by omega)] at HG0
          rw [show getV (csOf ps) ((n : Int) + 1) = .nilIface from if_neg (by omega)] at HG1
          rw [hn] at HC
          have e0 : ((n : Int) == (n : Int)) = true := by simp
          have hbw := Lib.hid bw
          clear hAr hcl bw
          go_wp2_with fail
          go_quiet ((first | (go_at_call 13; with_reducible exact HC.out _) | (go_at_call 20; with_reducible exact HD.out _) | (go_at_call 19; first | with_reducible exact HG0.out _ | with_reducible exact HG1.out _)))
          go_wp2_with fail
          go_ret
          exact ⟨⟨_, rfl⟩, below_drewN hbw.out _⟩
end Go.Proofs.Ythcdhiknjpfmhaa
