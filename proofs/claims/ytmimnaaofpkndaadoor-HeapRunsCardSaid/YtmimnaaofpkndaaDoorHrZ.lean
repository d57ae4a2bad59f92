/- HeapRuns: Put of a property that is not the object's own, of both heaps. -/
import Derived.Test.YtmimnaaofpkndaaDoorHsS
set_option linter.unusedVariables false
set_option linter.unusedSimpArgs false
namespace Go.Proofs.YtmimnaaofpkndaaDoor.Hp
open Go.RowKit Go.Proofs.YtmimnaaofpkndaaDoor Go.Shelf Go.Sort
attribute [local go_sem] Oper.semAt_some
set_option maxRecDepth 100000 in
set_option maxHeartbeats 8000000 in
theorem hput_new {H b : Nat} {r pr : Int} {k v gv fv : K3} {gf ff : Int} {fb : Bool} {w : World} (R : Bool) (Post : World → Prop)
    (hobj : ∀ W, Below w.heap.size w W → Calls Tryd.prog 11 #[.pointer (some ⟨H, 0, none⟩), .int .i64 r] W fun e w' => e = .returned (.pointer (some ⟨b, 0, none⟩)) ∧ Below W.heap.size W w')
    (hown : ∀ W, Below w.heap.size w W → Calls Tryd.prog 18 #[.pointer (some ⟨b, 0, none⟩), VK k] W fun e w' => e = .returned (.tuple #[VK gv, .int .i64 gf, .bool false]) ∧ Below W.heap.size W w')
    (hpr : ∀ W, Below w.heap.size w W → W.cell? ⟨b, 1, none⟩ = some (.int .i64 pr) ∧ b < W.heap.size)
    (hfind : ∀ W, Below w.heap.size w W → Calls Tryd.prog 14 #[.pointer (some ⟨H, 0, none⟩), .int .i64 pr, VK k] W fun e w' => e = .returned (.tuple #[VK fv, .int .i64 ff, .bool fb]) ∧ Below W.heap.size W w')
    (hdef : ∀ W, Below w.heap.size w W → Calls Tryd.prog 12 #[.pointer (some ⟨b, 0, none⟩), VK k, VK v, .int .i64 7] W fun e w' => e = .returned (.bool R) ∧ Post w') :
    Calls Tryd.prog 16 #[.pointer (some ⟨H, 0, none⟩), .int .i64 r, VK k, VK v] w fun e w' => ((fb && ((bits .and .i64 ff 1 == 0) || (bits .and .i64 ff 8 != 0))) = false ∧ e = .returned (.bool R) ∧ Post w') ∨ ((fb && ((bits .and .i64 ff 1 == 0) || (bits .and .i64 ff 8 != 0))) = true ∧ e = .returned (.bool false) ∧ Below w.heap.size w w') := by
  have HH := Lib.hid (And.intro hobj (And.intro hown (And.intro hdef (And.intro hpr hfind))))
  obtain ⟨c1, hc1⟩ : ∃ c, (bits .and .i64 ff 1 == 0) = c := ⟨_, rfl⟩
  obtain ⟨c2, hc2⟩ : ∃ c, (bits .and .i64 ff 8 != 0) = c := ⟨_, rfl⟩
  rw [hc1, hc2]
  obtain ⟨k1, k2, k3⟩ := k
  obtain ⟨v1, v2, v3⟩ := v
  obtain ⟨g1, g2, g3⟩ := gv
  obtain ⟨f1, f2, f3⟩ := fv
  have HB := Lib.hid (two_boxes w k1 k2 k3 v1 v2 v3)
  clear hobj hown hdef hpr hfind
  obtain ⟨C, hC⟩ : ∃ C, (fb && (c1 || c2)) = C := ⟨_, rfl⟩
  rw [hC]
  have HC := Lib.hid hC
  clear hC
  go_enter Tryd.func16, Tryd.ntmps16
  go_wp2_with fail
  refine (HH.out.1 _ HB.out.1).mono ?_
  rintro e w2 ⟨rfl, b2⟩
  have HB2 := Lib.hid (And.intro (HB.out.1.trans (b2.mono HB.out.1.size)) (And.intro (HB.out.2.1.below b2 HB.out.2.1.lt) (HB.out.2.2.below b2 HB.out.2.2.lt)))
  clear b2 HB
  have p0 : w2.cell? ⟨w.heap.size, 0, none⟩ = some (.int .i64 k1) := by rw [HB2.out.2.1.cell]; rfl
  have p1 : w2.cell? ⟨w.heap.size, 1, none⟩ = some (.int .i64 k2) := by rw [HB2.out.2.1.cell]; rfl
  have p2 : w2.cell? ⟨w.heap.size, 2, none⟩ = some (.string k3) := by rw [HB2.out.2.1.cell]; rfl
  go_upto_region 2 with fail
  go_wp2_with fail
  refine (HH.out.2.1 w2 HB2.out.1).mono ?_
  rintro e w3 ⟨rfl, b3⟩
  have b34 := b3.alloc b3.size (.cells #[.int .i64 g1, .int .i64 g2, .string g3] 34)
  have HB4 := Lib.hid (And.intro (HB2.out.1.trans (b34.mono HB2.out.1.size)) (And.intro (HB2.out.2.1.below b34 HB2.out.2.1.lt) (HB2.out.2.2.below b34 HB2.out.2.2.lt)))
  clear b3 b34 p0 p1 p2 HB2
  go_upto_region 7 with fail
  generalize (w3.alloc (.cells #[.int .i64 g1, .int .i64 g2, .string g3] 34)) = w4 at *
  generalize w3.heap.size = q3 at *
  have p0 : w4.cell? ⟨w.heap.size, 0, none⟩ = some (.int .i64 k1) := by rw [HB4.out.2.1.cell]; rfl
  have p1 : w4.cell? ⟨w.heap.size, 1, none⟩ = some (.int .i64 k2) := by rw [HB4.out.2.1.cell]; rfl
  have p2 : w4.cell? ⟨w.heap.size, 2, none⟩ = some (.string k3) := by rw [HB4.out.2.1.cell]; rfl
  obtain ⟨o1, lbb⟩ := HH.out.2.2.2.1 w4 HB4.out.1
  have HFC : Hid (∀ W, Below w4.heap.size w4 W → Calls Tryd.prog 14 #[.pointer (some ⟨H, 0, none⟩), .int .i64 pr, VS k1 k2 k3] W fun e w' => e = .returned (.tuple #[VS f1 f2 f3, .int .i64 ff, .bool fb]) ∧ Below W.heap.size W w') := Lib.hid (fun W b => HH.out.2.2.2.2 W (HB4.out.1.trans (b.mono HB4.out.1.size)))
  go_cut [13, 14, 15] from 44 to 54 (fun s1 s2 s3 wx => ∃ gp, s1 = .pointer (some ⟨gp, 0, none⟩) ∧ s2 = .int .i64 ff ∧ s3 = .bool fb ∧ Hid (Below w4.heap.size w4 wx))
  case first =>
    refine wp_var0 (fun KV HKV => ?_)
    refine wp_region_till (m := 6) (S := (fun W => W.cell? ⟨b, 1, none⟩ = some (.int .i64 pr) ∧ W.cell? ⟨w.heap.size, 0, none⟩ = some (.int .i64 k1) ∧ W.cell? ⟨w.heap.size, 1, none⟩ = some (.int .i64 k2) ∧ W.cell? ⟨w.heap.size, 2, none⟩ = some (.string k3))) (by kernel_rfl) ?_
    have e4 : w4.drew = w4.drewN 1 := rfl
    rw [e4]
    have S0 : (w4.drewN 1).cell? ⟨b, 1, none⟩ = some (.int .i64 pr) ∧ (w4.drewN 1).cell? ⟨w.heap.size, 0, none⟩ = some (.int .i64 k1) ∧ (w4.drewN 1).cell? ⟨w.heap.size, 1, none⟩ = some (.int .i64 k2) ∧ (w4.drewN 1).cell? ⟨w.heap.size, 2, none⟩ = some (.string k3) := ⟨o1, p0, p1, p2⟩
    have HBD := Lib.hid (below_drw (Below.refl w4.heap.size w4) 1)
    clear e4 o1 p0 p1 p2
    generalize w4.drewN 1 = E at *
    change tillH _ _ _ _ _ _ 15 #[false, false, false, false, false, false, false, false, false, false, false, false, false, false, false] _ _
    refine tillH_takeAny (i := 0) (oi := ?oo1) (v := ?vv1) ?hi1 (by kernel_rfl) (by kernel_rfl) (by kernel_rfl) ?hq1 (by kernel_rfl) ?hy1 (fun _ => S0) ?hh1
    case hi1 => (simp only [List.getElem?_toArray, List.getElem?_cons_succ, List.getElem?_cons_zero]; rfl)
    case hq1 => exact fun _ _ _ h => h
    case hy1 => exact Or.inl ⟨by rfl, by (intro W; go_simp; (try with_reducible rfl))⟩
    (try simp only [Act.put, List.setIfInBounds_toArray, List.set_cons_zero, List.set_cons_succ])
    refine tillH_takeAny (i := 1) (oi := ?oo2) (v := ?vv2) ?hi2 (by kernel_rfl) (by kernel_rfl) (by kernel_rfl) ?hq2 (by kernel_rfl) ?hy2 (fun _ => S0) ?hh2
    case hi2 => (simp only [List.getElem?_toArray, List.getElem?_cons_succ, List.getElem?_cons_zero]; rfl)
    case hq2 => exact fun _ _ _ h => h
    case hy2 => exact Or.inl ⟨by rfl, by (intro W; go_simp; (try with_reducible rfl))⟩
    (try simp only [Act.put, List.setIfInBounds_toArray, List.set_cons_zero, List.set_cons_succ])
    refine tillH_takeAny (i := 2) (oi := ?oo3) (v := ?vv3) ?hi3 (by kernel_rfl) (by kernel_rfl) (by kernel_rfl) ?hq3 (by kernel_rfl) ?hy3 (fun _ => S0) ?hh3
    case hi3 => (simp only [List.getElem?_toArray, List.getElem?_cons_succ, List.getElem?_cons_zero]; rfl)
    case hq3 => exact fun _ _ _ h => h
    case hy3 => exact Or.inl ⟨by rfl, by (intro W; go_simp; (try with_reducible rfl))⟩
    (try simp only [Act.put, List.setIfInBounds_toArray, List.set_cons_zero, List.set_cons_succ])
    refine tillH_takeAny (i := 3) (oi := ?oo4) (v := ?vv4) ?hi4 (by kernel_rfl) (by kernel_rfl) (by kernel_rfl) ?hq4 (by kernel_rfl) ?hy4 (fun _ => S0) ?hh4
    case hi4 => (simp only [List.getElem?_toArray, List.getElem?_cons_succ, List.getElem?_cons_zero]; rfl)
    case hq4 => exact fun _ _ _ h => h
    case hy4 => exact Or.inl ⟨by rfl, by (intro W; go_simp; (try with_reducible rfl))⟩
    (try simp only [Act.put, List.setIfInBounds_toArray, List.set_cons_zero, List.set_cons_succ])
    refine tillH_take (i := 4) (oi := ?oo5) (v := ?vv5) ?hi5 (by kernel_rfl) (by kernel_rfl) (by kernel_rfl) ?hq5 (by kernel_rfl) (by kernel_rfl) (by kernel_rfl) ?hy5 S0 ?hh5
    case hi5 => (simp only [List.getElem?_toArray, List.getElem?_cons_succ, List.getElem?_cons_zero]; rfl)
    case hq5 => exact fun _ _ _ h => h
    case hy5 => exact Or.inl ⟨by rfl, by (intro W hSw; (try obtain ⟨s0, s1, s2, s3⟩ := hSw); go_simp; (try with_reducible rfl))⟩
    (try simp only [Act.put, List.setIfInBounds_toArray, List.set_cons_zero, List.set_cons_succ])
    refine tillH_take (i := 5) (oi := ?oo6) (v := ?vv6) ?hi6 (by kernel_rfl) (by kernel_rfl) (by kernel_rfl) ?hq6 (by kernel_rfl) (by kernel_rfl) (by kernel_rfl) ?hy6 S0 ?hh6
    case hi6 => (simp only [List.getElem?_toArray, List.getElem?_cons_succ, List.getElem?_cons_zero]; rfl)
    case hq6 => exact fun _ _ _ h => h
    case hy6 => exact Or.inl ⟨by rfl, by (intro W hSw; (try obtain ⟨s0, s1, s2, s3⟩ := hSw); go_simp; (try with_reducible rfl))⟩
    (try simp only [Act.put, List.setIfInBounds_toArray, List.set_cons_zero, List.set_cons_succ])
    refine tillH_next (rs := [6, 11]) (by kernel_rfl) (by simp) ?_
    refine NextH.cons rfl (fun K hK => ?_) (NextH.cons rfl (fun K hK => ?_) NextH.nil)
    · go_simp
      refine (HFC.out _ HBD.out).mono ?_
      rintro e E16 ⟨rfl, b6⟩
      have HBD16 := Lib.hid (HBD.out.trans (b6.mono HBD.out.size))
      refine hK.out _ _ (fun h => absurd h (by simp)) ?_
      clear hK K
      (try simp only [Act.put, List.setIfInBounds_toArray, List.set_cons_zero, List.set_cons_succ])
      clear b6
      refine tillH_takeAny (i := 7) (oi := ?oo7) (v := ?vv7) ?hi7 (by kernel_rfl) (by kernel_rfl) (by kernel_rfl) ?hq7 (by kernel_rfl) ?hy7 (fun h => absurd h (by simp)) ?hh7
      case hi7 => (simp only [List.getElem?_toArray, List.getElem?_cons_succ, List.getElem?_cons_zero]; rfl)
      case hq7 => exact fun _ _ _ h => h
      case hy7 => exact Or.inl ⟨by rfl, by (intro W; go_simp; (try with_reducible rfl))⟩
      (try simp only [Act.put, List.setIfInBounds_toArray, List.set_cons_zero, List.set_cons_succ])
      refine tillH_takeAny (i := 8) (oi := ?oo8) (v := ?vv8) ?hi8 (by kernel_rfl) (by kernel_rfl) (by kernel_rfl) ?hq8 (by kernel_rfl) ?hy8 (fun h => absurd h (by simp)) ?hh8
      case hi8 => (simp only [List.getElem?_toArray, List.getElem?_cons_succ, List.getElem?_cons_zero]; rfl)
      case hq8 => exact fun _ _ _ h => h
      case hy8 => exact Or.inl ⟨by rfl, by (intro W; go_simp; (try with_reducible rfl))⟩
      (try simp only [Act.put, List.setIfInBounds_toArray, List.set_cons_zero, List.set_cons_succ])
      refine tillH_takeAny (i := 9) (oi := ?oo9) (v := ?vv9) ?hi9 (by kernel_rfl) (by kernel_rfl) (by kernel_rfl) ?hq9 (by kernel_rfl) ?hy9 (fun h => absurd h (by simp)) ?hh9
      case hi9 => (simp only [List.getElem?_toArray, List.getElem?_cons_succ, List.getElem?_cons_zero]; rfl)
      case hq9 => exact fun _ _ _ h => h
      case hy9 => exact Or.inl ⟨by rfl, by (intro W; go_simp; (try with_reducible rfl))⟩
      (try simp only [Act.put, List.setIfInBounds_toArray, List.set_cons_zero, List.set_cons_succ])
      refine tillH_takeAny (i := 10) (oi := ?oo10) (v := ?vv10) ?hi10 (by kernel_rfl) (by kernel_rfl) (by kernel_rfl) ?hq10 (by kernel_rfl) ?hy10 (fun h => absurd h (by simp)) ?hh10
      case hi10 => (simp only [List.getElem?_toArray, List.getElem?_cons_succ, List.getElem?_cons_zero]; rfl)
      case hq10 => exact fun _ _ _ h => h
      case hy10 => exact Or.inl ⟨by rfl, by (intro W; go_simp; (try with_reducible rfl))⟩
      (try simp only [Act.put, List.setIfInBounds_toArray, List.set_cons_zero, List.set_cons_succ])
      refine tillH_next (rs := [11]) (by kernel_rfl) (by simp) ?_
      refine NextH.cons rfl (fun K hK => ?_) NextH.nil
      go_simp
      have ba := (Below.refl E16.heap.size E16).alloc (Nat.le_refl _) (.cells #[.int .i64 0, .int .i64 0, .string ⟨#[]⟩] 34)
      have HBD1111 := Lib.hid (And.intro (HBD16.out.trans (ba.mono HBD16.out.size)) (And.intro (Blk.new E16 34 #[.int .i64 0, .int .i64 0, .string ⟨#[]⟩]) HBD16.out.size))
      refine hK.out _ _ (fun h => absurd h (by simp)) ?_
      clear hK K
      (try simp only [Act.put, List.setIfInBounds_toArray, List.set_cons_zero, List.set_cons_succ])
      generalize E16.alloc (.cells #[.int .i64 0, .int .i64 0, .string ⟨#[]⟩] 34) = E1111 at *
      generalize E16.heap.size = rr at *
      clear ba
      have rb := HBD1111.out.2.1
      have z0 := rb.frozen 0
      have z1 := rb.frozen 1
      have z2 := rb.frozen 2
      have y0 : E1111.cell? ⟨rr, 0, none⟩ = some (.int .i64 0) := by rw [rb.cell]; rfl
      have y1 : E1111.cell? ⟨rr, 1, none⟩ = some (.int .i64 0) := by rw [rb.cell]; rfl
      have y2 : E1111.cell? ⟨rr, 2, none⟩ = some (.string ⟨#[]⟩) := by rw [rb.cell]; rfl
      have lr := rb.lt
      have hbl : Blk (((E1111.setCell ⟨rr, 0, none⟩ (.int .i64 f1)).setCell ⟨rr, 1, none⟩ (.int .i64 f2)).setCell ⟨rr, 2, none⟩ (.string f3)) rr 34 #[.int .i64 f1, .int .i64 f2, .string f3] := (((rb.set_ 0 _).set_ 1 _).set_ 2 _)
      have hbe : Below w4.heap.size w4 (((E1111.setCell ⟨rr, 0, none⟩ (.int .i64 f1)).setCell ⟨rr, 1, none⟩ (.int .i64 f2)).setCell ⟨rr, 2, none⟩ (.string f3)) := (((HBD1111.out.1.setCell (p := ⟨rr, 0, none⟩) (by show w4.heap.size ≤ rr; exact HBD1111.out.2.2) _).setCell (p := ⟨rr, 1, none⟩) (by show w4.heap.size ≤ rr; exact HBD1111.out.2.2) _).setCell (p := ⟨rr, 2, none⟩) (by show w4.heap.size ≤ rr; exact HBD1111.out.2.2) _)
      have HF := Lib.hid (And.intro hbe (And.intro hbl HBD1111.out.2.2))
      clear rb hbl hbe
      refine tillH_next (rs := [12]) (by kernel_rfl) (by simp) ?_
      refine NextH.cons rfl (fun K hK => ?_) NextH.nil
      go_simp
      refine hK.out _ _ (fun h => absurd h (by simp)) ?_
      clear hK K
      (try simp only [Act.put, List.setIfInBounds_toArray, List.set_cons_zero, List.set_cons_succ])
      refine tillH_takeAny (i := 13) (oi := ?oo11) (v := ?vv11) ?hi11 (by kernel_rfl) (by kernel_rfl) (by kernel_rfl) ?hq11 (by kernel_rfl) ?hy11 (fun h => absurd h (by simp)) ?hh11
      case hi11 => (simp only [List.getElem?_toArray, List.getElem?_cons_succ, List.getElem?_cons_zero]; rfl)
      case hq11 => exact fun _ _ _ h => h
      case hy11 => exact Or.inl ⟨by rfl, by (intro W; go_simp; (try with_reducible rfl))⟩
      (try simp only [Act.put, List.setIfInBounds_toArray, List.set_cons_zero, List.set_cons_succ])
      refine tillH_takeAny (i := 14) (oi := ?oo12) (v := ?vv12) ?hi12 (by kernel_rfl) (by kernel_rfl) (by kernel_rfl) ?hq12 (by kernel_rfl) ?hy12 (fun h => absurd h (by simp)) ?hh12
      case hi12 => (simp only [List.getElem?_toArray, List.getElem?_cons_succ, List.getElem?_cons_zero]; rfl)
      case hq12 => exact fun _ _ _ h => h
      case hy12 => exact Or.inl ⟨by rfl, by (intro W; go_simp; (try with_reducible rfl))⟩
      (try simp only [Act.put, List.setIfInBounds_toArray, List.set_cons_zero, List.set_cons_succ])
      refine tillH_done (by kernel_rfl) ?_ _
      refine HKV.out _ _ ?_
      go_wp2_with (fail)
      go_meet
      exact ⟨rr, rfl, rfl, rfl, Lib.hid HF.out.1⟩
    · go_simp
      have ba := (Below.refl E.heap.size E).alloc (Nat.le_refl _) (.cells #[.int .i64 0, .int .i64 0, .string ⟨#[]⟩] 34)
      have HBD111 := Lib.hid (And.intro (HBD.out.trans (ba.mono HBD.out.size)) (And.intro (Blk.new E 34 #[.int .i64 0, .int .i64 0, .string ⟨#[]⟩]) HBD.out.size))
      have S2 : (E.alloc (.cells #[.int .i64 0, .int .i64 0, .string ⟨#[]⟩] 34)).cell? ⟨b, 1, none⟩ = some (.int .i64 pr) ∧ (E.alloc (.cells #[.int .i64 0, .int .i64 0, .string ⟨#[]⟩] 34)).cell? ⟨w.heap.size, 0, none⟩ = some (.int .i64 k1) ∧ (E.alloc (.cells #[.int .i64 0, .int .i64 0, .string ⟨#[]⟩] 34)).cell? ⟨w.heap.size, 1, none⟩ = some (.int .i64 k2) ∧ (E.alloc (.cells #[.int .i64 0, .int .i64 0, .string ⟨#[]⟩] 34)).cell? ⟨w.heap.size, 2, none⟩ = some (.string k3) := by
        obtain ⟨s0, s1, s2, s3⟩ := S0
        exact ⟨(ba.cell (World.block_lt_of_cell? E _ s0)).trans s0, (ba.cell (World.block_lt_of_cell? E _ s1)).trans s1, (ba.cell (World.block_lt_of_cell? E _ s2)).trans s2, (ba.cell (World.block_lt_of_cell? E _ s3)).trans s3⟩
      refine hK.out _ _ (fun _ => S2) ?_
      clear hK K
      (try simp only [Act.put, List.setIfInBounds_toArray, List.set_cons_zero, List.set_cons_succ])
      generalize E.alloc (.cells #[.int .i64 0, .int .i64 0, .string ⟨#[]⟩] 34) = E111 at *
      generalize E.heap.size = rr at *
      clear ba
      refine tillH_next (rs := [6]) (by kernel_rfl) (by simp) ?_
      refine NextH.cons rfl (fun K hK => ?_) NextH.nil
      go_simp
      refine (HFC.out _ HBD111.out.1).mono ?_
      rintro e E126 ⟨rfl, b6⟩
      have HBD126 := Lib.hid (And.intro (HBD111.out.1.trans (b6.mono HBD111.out.1.size)) (And.intro (HBD111.out.2.1.below b6 HBD111.out.2.1.lt) HBD111.out.2.2))
      refine hK.out _ _ (fun h => absurd h (by simp)) ?_
      clear hK K
      (try simp only [Act.put, List.setIfInBounds_toArray, List.set_cons_zero, List.set_cons_succ])
      clear b6
      refine tillH_takeAny (i := 7) (oi := ?oo13) (v := ?vv13) ?hi13 (by kernel_rfl) (by kernel_rfl) (by kernel_rfl) ?hq13 (by kernel_rfl) ?hy13 (fun h => absurd h (by simp)) ?hh13
      case hi13 => (simp only [List.getElem?_toArray, List.getElem?_cons_succ, List.getElem?_cons_zero]; rfl)
      case hq13 => exact fun _ _ _ h => h
      case hy13 => exact Or.inl ⟨by rfl, by (intro W; go_simp; (try with_reducible rfl))⟩
      (try simp only [Act.put, List.setIfInBounds_toArray, List.set_cons_zero, List.set_cons_succ])
      refine tillH_takeAny (i := 8) (oi := ?oo14) (v := ?vv14) ?hi14 (by kernel_rfl) (by kernel_rfl) (by kernel_rfl) ?hq14 (by kernel_rfl) ?hy14 (fun h => absurd h (by simp)) ?hh14
      case hi14 => (simp only [List.getElem?_toArray, List.getElem?_cons_succ, List.getElem?_cons_zero]; rfl)
      case hq14 => exact fun _ _ _ h => h
      case hy14 => exact Or.inl ⟨by rfl, by (intro W; go_simp; (try with_reducible rfl))⟩
      (try simp only [Act.put, List.setIfInBounds_toArray, List.set_cons_zero, List.set_cons_succ])
      refine tillH_takeAny (i := 9) (oi := ?oo15) (v := ?vv15) ?hi15 (by kernel_rfl) (by kernel_rfl) (by kernel_rfl) ?hq15 (by kernel_rfl) ?hy15 (fun h => absurd h (by simp)) ?hh15
      case hi15 => (simp only [List.getElem?_toArray, List.getElem?_cons_succ, List.getElem?_cons_zero]; rfl)
      case hq15 => exact fun _ _ _ h => h
      case hy15 => exact Or.inl ⟨by rfl, by (intro W; go_simp; (try with_reducible rfl))⟩
      (try simp only [Act.put, List.setIfInBounds_toArray, List.set_cons_zero, List.set_cons_succ])
      refine tillH_takeAny (i := 10) (oi := ?oo16) (v := ?vv16) ?hi16 (by kernel_rfl) (by kernel_rfl) (by kernel_rfl) ?hq16 (by kernel_rfl) ?hy16 (fun h => absurd h (by simp)) ?hh16
      case hi16 => (simp only [List.getElem?_toArray, List.getElem?_cons_succ, List.getElem?_cons_zero]; rfl)
      case hq16 => exact fun _ _ _ h => h
      case hy16 => exact Or.inl ⟨by rfl, by (intro W; go_simp; (try with_reducible rfl))⟩
      (try simp only [Act.put, List.setIfInBounds_toArray, List.set_cons_zero, List.set_cons_succ])
      have rb := HBD126.out.2.1
      have z0 := rb.frozen 0
      have z1 := rb.frozen 1
      have z2 := rb.frozen 2
      have y0 : E126.cell? ⟨rr, 0, none⟩ = some (.int .i64 0) := by rw [rb.cell]; rfl
      have y1 : E126.cell? ⟨rr, 1, none⟩ = some (.int .i64 0) := by rw [rb.cell]; rfl
      have y2 : E126.cell? ⟨rr, 2, none⟩ = some (.string ⟨#[]⟩) := by rw [rb.cell]; rfl
      have lr := rb.lt
      have hbl : Blk (((E126.setCell ⟨rr, 0, none⟩ (.int .i64 f1)).setCell ⟨rr, 1, none⟩ (.int .i64 f2)).setCell ⟨rr, 2, none⟩ (.string f3)) rr 34 #[.int .i64 f1, .int .i64 f2, .string f3] := (((rb.set_ 0 _).set_ 1 _).set_ 2 _)
      have hbe : Below w4.heap.size w4 (((E126.setCell ⟨rr, 0, none⟩ (.int .i64 f1)).setCell ⟨rr, 1, none⟩ (.int .i64 f2)).setCell ⟨rr, 2, none⟩ (.string f3)) := (((HBD126.out.1.setCell (p := ⟨rr, 0, none⟩) (by show w4.heap.size ≤ rr; exact HBD126.out.2.2) _).setCell (p := ⟨rr, 1, none⟩) (by show w4.heap.size ≤ rr; exact HBD126.out.2.2) _).setCell (p := ⟨rr, 2, none⟩) (by show w4.heap.size ≤ rr; exact HBD126.out.2.2) _)
      have HF := Lib.hid (And.intro hbe (And.intro hbl HBD126.out.2.2))
      clear rb hbl hbe
      refine tillH_next (rs := [12]) (by kernel_rfl) (by simp) ?_
      refine NextH.cons rfl (fun K hK => ?_) NextH.nil
      go_simp
      refine hK.out _ _ (fun h => absurd h (by simp)) ?_
      clear hK K
      (try simp only [Act.put, List.setIfInBounds_toArray, List.set_cons_zero, List.set_cons_succ])
      refine tillH_takeAny (i := 13) (oi := ?oo17) (v := ?vv17) ?hi17 (by kernel_rfl) (by kernel_rfl) (by kernel_rfl) ?hq17 (by kernel_rfl) ?hy17 (fun h => absurd h (by simp)) ?hh17
      case hi17 => (simp only [List.getElem?_toArray, List.getElem?_cons_succ, List.getElem?_cons_zero]; rfl)
      case hq17 => exact fun _ _ _ h => h
      case hy17 => exact Or.inl ⟨by rfl, by (intro W; go_simp; (try with_reducible rfl))⟩
      (try simp only [Act.put, List.setIfInBounds_toArray, List.set_cons_zero, List.set_cons_succ])
      refine tillH_takeAny (i := 14) (oi := ?oo18) (v := ?vv18) ?hi18 (by kernel_rfl) (by kernel_rfl) (by kernel_rfl) ?hq18 (by kernel_rfl) ?hy18 (fun h => absurd h (by simp)) ?hh18
      case hi18 => (simp only [List.getElem?_toArray, List.getElem?_cons_succ, List.getElem?_cons_zero]; rfl)
      case hq18 => exact fun _ _ _ h => h
      case hy18 => exact Or.inl ⟨by rfl, by (intro W; go_simp; (try with_reducible rfl))⟩
      (try simp only [Act.put, List.setIfInBounds_toArray, List.set_cons_zero, List.set_cons_succ])
      refine tillH_done (by kernel_rfl) ?_ _
      refine HKV.out _ _ ?_
      go_wp2_with (fail)
      go_meet
      exact ⟨rr, rfl, rfl, rfl, Lib.hid HF.out.1⟩
  case rest =>
  obtain ⟨gp, rfl, rfl, rfl, HR⟩ := hcut
  have HB5 := Lib.hid (And.intro (HB4.out.1.trans (HR.out.mono HB4.out.1.size)) (And.intro (HB4.out.2.1.below HR.out HB4.out.2.1.lt) (HB4.out.2.2.below HR.out HB4.out.2.2.lt)))
  clear HR HB4 HFC p0 p1 p2 o1 lbb
  have p0 : wc.cell? ⟨w.heap.size, 0, none⟩ = some (.int .i64 k1) := by rw [HB5.out.2.1.cell]; rfl
  have p1 : wc.cell? ⟨w.heap.size, 1, none⟩ = some (.int .i64 k2) := by rw [HB5.out.2.1.cell]; rfl
  have p2 : wc.cell? ⟨w.heap.size, 2, none⟩ = some (.string k3) := by rw [HB5.out.2.1.cell]; rfl
  have q0 : wc.cell? ⟨w.heap.size + 1, 0, none⟩ = some (.int .i64 v1) := by rw [HB5.out.2.2.cell]; rfl
  have q1 : wc.cell? ⟨w.heap.size + 1, 1, none⟩ = some (.int .i64 v2) := by rw [HB5.out.2.2.cell]; rfl
  have q2 : wc.cell? ⟨w.heap.size + 1, 2, none⟩ = some (.string v3) := by rw [HB5.out.2.2.cell]; rfl
  cases fb with
  | false =>
    obtain rfl : false = C := HC.out
    go_wp2_with fail
    refine (HH.out.2.2.1 wc HB5.out.1).mono ?_
    rintro e w6 ⟨rfl, hp⟩
    have HP := Lib.hid hp
    clear hp
    cases R
    · go_wp2
      go_ret
      exact ⟨rfl, HP.out⟩
    · go_wp2
      go_ret
      exact ⟨rfl, HP.out⟩
  | true =>
    cases c1 with
    | true =>
      obtain rfl : true = C := HC.out
      go_wp2
      go_ret
      exact ⟨rfl, HB5.out.1⟩
    | false =>
      cases c2 with
      | true =>
        obtain rfl : true = C := HC.out
        go_wp2
        go_ret
        exact ⟨rfl, HB5.out.1⟩
      | false =>
        obtain rfl : false = C := HC.out
        go_wp2_with fail
        refine (HH.out.2.2.1 wc HB5.out.1).mono ?_
        rintro e w6 ⟨rfl, hp⟩
        have HP := Lib.hid hp
        clear hp
        cases R
        · go_wp2
          go_ret
          exact ⟨rfl, HP.out⟩
        · go_wp2
          go_ret
          exact ⟨rfl, HP.out⟩
set_option maxRecDepth 100000 in
set_option maxHeartbeats 8000000 in
theorem rput_new {H b : Nat} {r pr : Int} {k v gv rk fk fv : K3} {gf ff : Int} {fb : Bool} {w : World} (R : Bool) (Post : World → Prop)
    (hobj : ∀ W, Below w.heap.size w W → Calls Tryd.prog 37 #[.pointer (some ⟨H, 0, none⟩), .int .i64 r] W fun e w' => e = .returned (.pointer (some ⟨b, 0, none⟩)) ∧ Below W.heap.size W w')
    (hown : ∀ W, Below w.heap.size w W → Calls Tryd.prog 62 #[.pointer (some ⟨b, 0, none⟩), VK k] W fun e w' => e = .returned (.tuple #[PV rk gv gf, .bool false]) ∧ Below W.heap.size W w')
    (hpr : ∀ W, Below w.heap.size w W → W.cell? ⟨b, 3, none⟩ = some (.int .i64 pr) ∧ b < W.heap.size)
    (hfind : ∀ W, Below w.heap.size w W → Calls Tryd.prog 63 #[.pointer (some ⟨H, 0, none⟩), .int .i64 pr, VK k] W fun e w' => e = .returned (.tuple #[PV fk fv ff, .bool fb]) ∧ Below W.heap.size W w')
    (hdef : ∀ W, Below w.heap.size w W → Calls Tryd.prog 60 #[.pointer (some ⟨b, 0, none⟩), VK k, VK v, .int .i64 7] W fun e w' => e = .returned (.bool R) ∧ Post w') :
    Calls Tryd.prog 59 #[.pointer (some ⟨H, 0, none⟩), .int .i64 r, VK k, VK v] w fun e w' => ((fb && ((bits .and .i64 ff 1 == 0) || (bits .and .i64 ff 8 != 0))) = false ∧ e = .returned (.bool R) ∧ Post w') ∨ ((fb && ((bits .and .i64 ff 1 == 0) || (bits .and .i64 ff 8 != 0))) = true ∧ e = .returned (.bool false) ∧ Below w.heap.size w w') := by
  have HH := Lib.hid (And.intro hobj (And.intro hown (And.intro hdef (And.intro hpr hfind))))
  obtain ⟨c1, hc1⟩ : ∃ c, (bits .and .i64 ff 1 == 0) = c := ⟨_, rfl⟩
  obtain ⟨c2, hc2⟩ : ∃ c, (bits .and .i64 ff 8 != 0) = c := ⟨_, rfl⟩
  rw [hc1, hc2]
  obtain ⟨k1, k2, k3⟩ := k
  obtain ⟨v1, v2, v3⟩ := v
  obtain ⟨g1, g2, g3⟩ := gv
  obtain ⟨r1, r2, r3⟩ := rk
  obtain ⟨f1, f2, f3⟩ := fv
  obtain ⟨n1, n2, n3⟩ := fk
  have HB := Lib.hid (two_boxes w k1 k2 k3 v1 v2 v3)
  clear hobj hown hdef hpr hfind
  obtain ⟨C, hC⟩ : ∃ C, (fb && (c1 || c2)) = C := ⟨_, rfl⟩
  rw [hC]
  have HC := Lib.hid hC
  clear hC
  go_enter Tryd.func59, Tryd.ntmps59
  go_wp2_with fail
  refine (HH.out.1 _ HB.out.1).mono ?_
  rintro e w2 ⟨rfl, b2⟩
  have HB2 := Lib.hid (And.intro (HB.out.1.trans (b2.mono HB.out.1.size)) (And.intro (HB.out.2.1.below b2 HB.out.2.1.lt) (HB.out.2.2.below b2 HB.out.2.2.lt)))
  clear b2 HB
  have p0 : w2.cell? ⟨w.heap.size, 0, none⟩ = some (.int .i64 k1) := by rw [HB2.out.2.1.cell]; rfl
  have p1 : w2.cell? ⟨w.heap.size, 1, none⟩ = some (.int .i64 k2) := by rw [HB2.out.2.1.cell]; rfl
  have p2 : w2.cell? ⟨w.heap.size, 2, none⟩ = some (.string k3) := by rw [HB2.out.2.1.cell]; rfl
  go_upto_region 2 with fail
  go_wp2_with fail
  refine (HH.out.2.1 w2 HB2.out.1).mono ?_
  rintro e w3 ⟨rfl, b3⟩
  have hz3 : w.heap.size ≤ w3.heap.size := (HB2.out.1.trans (b3.mono HB2.out.1.size)).size
  have b34 := b3.alloc b3.size (.cells #[.int .i64 r1, .int .i64 r2, .string r3, .int .i64 g1, .int .i64 g2, .string g3, .int .i64 gf] 127)
  have HB4 := Lib.hid (And.intro (HB2.out.1.trans (b34.mono HB2.out.1.size)) (And.intro (HB2.out.2.1.below b34 HB2.out.2.1.lt) (And.intro (HB2.out.2.2.below b34 HB2.out.2.2.lt) (Blk.new w3 127 #[.int .i64 r1, .int .i64 r2, .string r3, .int .i64 g1, .int .i64 g2, .string g3, .int .i64 gf]))))
  clear b3 b34 p0 p1 p2 HB2
  go_upto_region 9 with fail
  generalize (w3.alloc (.cells #[.int .i64 r1, .int .i64 r2, .string r3, .int .i64 g1, .int .i64 g2, .string g3, .int .i64 gf] 127)) = w4 at *
  generalize w3.heap.size = q3 at *
  have p0 : w4.cell? ⟨w.heap.size, 0, none⟩ = some (.int .i64 k1) := by rw [HB4.out.2.1.cell]; rfl
  have p1 : w4.cell? ⟨w.heap.size, 1, none⟩ = some (.int .i64 k2) := by rw [HB4.out.2.1.cell]; rfl
  have p2 : w4.cell? ⟨w.heap.size, 2, none⟩ = some (.string k3) := by rw [HB4.out.2.1.cell]; rfl
  obtain ⟨o1, lbb⟩ := HH.out.2.2.2.1 w4 HB4.out.1
  refine wp_var0 (fun KV HKV => ?_)
  refine wp_region_till (m := 6) (S := (fun W => W.cell? ⟨b, 3, none⟩ = some (.int .i64 pr) ∧ W.cell? ⟨w.heap.size, 0, none⟩ = some (.int .i64 k1) ∧ W.cell? ⟨w.heap.size, 1, none⟩ = some (.int .i64 k2) ∧ W.cell? ⟨w.heap.size, 2, none⟩ = some (.string k3))) (by kernel_rfl) ?_
  have e4 : w4.drew = w4.drewN 1 := rfl
  rw [e4]
  have S0 : (w4.drewN 1).cell? ⟨b, 3, none⟩ = some (.int .i64 pr) ∧ (w4.drewN 1).cell? ⟨w.heap.size, 0, none⟩ = some (.int .i64 k1) ∧ (w4.drewN 1).cell? ⟨w.heap.size, 1, none⟩ = some (.int .i64 k2) ∧ (w4.drewN 1).cell? ⟨w.heap.size, 2, none⟩ = some (.string k3) := ⟨o1, p0, p1, p2⟩
  have HB5 := Lib.hid (And.intro (below_drw HB4.out.1 1) (And.intro (HB4.out.2.1.drewN 1) (And.intro (HB4.out.2.2.1.drewN 1) (HB4.out.2.2.2.drewN 1))))
  clear e4 o1 p0 p1 p2 HB4 lbb
  generalize w4.drewN 1 = E at *
  change tillH _ _ _ _ _ _ 12 #[false, false, false, false, false, false, false, false, false, false, false, false] _ _
  refine tillH_takeAny (i := 0) (oi := ?oo19) (v := ?vv19) ?hi19 (by kernel_rfl) (by kernel_rfl) (by kernel_rfl) ?hq19 (by kernel_rfl) ?hy19 (fun _ => S0) ?hh19
  case hi19 => (simp only [List.getElem?_toArray, List.getElem?_cons_succ, List.getElem?_cons_zero]; rfl)
  case hq19 => exact fun _ _ _ h => h
  case hy19 => exact Or.inl ⟨by rfl, by (intro W; go_simp; (try with_reducible rfl))⟩
  (try simp only [Act.put, List.setIfInBounds_toArray, List.set_cons_zero, List.set_cons_succ])
  refine tillH_takeAny (i := 1) (oi := ?oo20) (v := ?vv20) ?hi20 (by kernel_rfl) (by kernel_rfl) (by kernel_rfl) ?hq20 (by kernel_rfl) ?hy20 (fun _ => S0) ?hh20
  case hi20 => (simp only [List.getElem?_toArray, List.getElem?_cons_succ, List.getElem?_cons_zero]; rfl)
  case hq20 => exact fun _ _ _ h => h
  case hy20 => exact Or.inl ⟨by rfl, by (intro W; go_simp; (try with_reducible rfl))⟩
  (try simp only [Act.put, List.setIfInBounds_toArray, List.set_cons_zero, List.set_cons_succ])
  refine tillH_takeAny (i := 2) (oi := ?oo21) (v := ?vv21) ?hi21 (by kernel_rfl) (by kernel_rfl) (by kernel_rfl) ?hq21 (by kernel_rfl) ?hy21 (fun _ => S0) ?hh21
  case hi21 => (simp only [List.getElem?_toArray, List.getElem?_cons_succ, List.getElem?_cons_zero]; rfl)
  case hq21 => exact fun _ _ _ h => h
  case hy21 => exact Or.inl ⟨by rfl, by (intro W; go_simp; (try with_reducible rfl))⟩
  (try simp only [Act.put, List.setIfInBounds_toArray, List.set_cons_zero, List.set_cons_succ])
  refine tillH_takeAny (i := 3) (oi := ?oo22) (v := ?vv22) ?hi22 (by kernel_rfl) (by kernel_rfl) (by kernel_rfl) ?hq22 (by kernel_rfl) ?hy22 (fun _ => S0) ?hh22
  case hi22 => (simp only [List.getElem?_toArray, List.getElem?_cons_succ, List.getElem?_cons_zero]; rfl)
  case hq22 => exact fun _ _ _ h => h
  case hy22 => exact Or.inl ⟨by rfl, by (intro W; go_simp; (try with_reducible rfl))⟩
  (try simp only [Act.put, List.setIfInBounds_toArray, List.set_cons_zero, List.set_cons_succ])
  refine tillH_take (i := 4) (oi := ?oo23) (v := ?vv23) ?hi23 (by kernel_rfl) (by kernel_rfl) (by kernel_rfl) ?hq23 (by kernel_rfl) (by kernel_rfl) (by kernel_rfl) ?hy23 S0 ?hh23
  case hi23 => (simp only [List.getElem?_toArray, List.getElem?_cons_succ, List.getElem?_cons_zero]; rfl)
  case hq23 => exact fun _ _ _ h => h
  case hy23 => exact Or.inl ⟨by rfl, by (intro W hSw; (try obtain ⟨s0, s1, s2, s3⟩ := hSw); go_simp; (try with_reducible rfl))⟩
  (try simp only [Act.put, List.setIfInBounds_toArray, List.set_cons_zero, List.set_cons_succ])
  refine tillH_take (i := 5) (oi := ?oo24) (v := ?vv24) ?hi24 (by kernel_rfl) (by kernel_rfl) (by kernel_rfl) ?hq24 (by kernel_rfl) (by kernel_rfl) (by kernel_rfl) ?hy24 S0 ?hh24
  case hi24 => (simp only [List.getElem?_toArray, List.getElem?_cons_succ, List.getElem?_cons_zero]; rfl)
  case hq24 => exact fun _ _ _ h => h
  case hy24 => exact Or.inl ⟨by rfl, by (intro W hSw; (try obtain ⟨s0, s1, s2, s3⟩ := hSw); go_simp; (try with_reducible rfl))⟩
  (try simp only [Act.put, List.setIfInBounds_toArray, List.set_cons_zero, List.set_cons_succ])
  refine tillH_next (rs := [6]) (by kernel_rfl) (by simp) ?_
  refine NextH.cons rfl (fun K hK => ?_) NextH.nil
  go_simp
  refine (HH.out.2.2.2.2 E HB5.out.1).mono ?_
  rintro e E6 ⟨rfl, b6⟩
  have HB6 := Lib.hid (And.intro (HB5.out.1.trans (b6.mono HB5.out.1.size)) (And.intro (HB5.out.2.1.below b6 HB5.out.2.1.lt) (And.intro (HB5.out.2.2.1.below b6 HB5.out.2.2.1.lt) (HB5.out.2.2.2.below b6 HB5.out.2.2.2.lt))))
  refine hK.out _ _ (fun h => absurd h (by simp)) ?_
  clear hK K
  (try simp only [Act.put, List.setIfInBounds_toArray, List.set_cons_zero, List.set_cons_succ])
  clear b6 S0 HB5
  refine tillH_takeAny (i := 7) (oi := ?oo25) (v := ?vv25) ?hi25 (by kernel_rfl) (by kernel_rfl) (by kernel_rfl) ?hq25 (by kernel_rfl) ?hy25 (fun h => absurd h (by simp)) ?hh25
  case hi25 => (simp only [List.getElem?_toArray, List.getElem?_cons_succ, List.getElem?_cons_zero]; rfl)
  case hq25 => exact fun _ _ _ h => h
  case hy25 => exact Or.inl ⟨by rfl, by (intro W; go_simp; (try with_reducible rfl))⟩
  (try simp only [Act.put, List.setIfInBounds_toArray, List.set_cons_zero, List.set_cons_succ])
  refine tillH_takeAny (i := 8) (oi := ?oo26) (v := ?vv26) ?hi26 (by kernel_rfl) (by kernel_rfl) (by kernel_rfl) ?hq26 (by kernel_rfl) ?hy26 (fun h => absurd h (by simp)) ?hh26
  case hi26 => (simp only [List.getElem?_toArray, List.getElem?_cons_succ, List.getElem?_cons_zero]; rfl)
  case hq26 => exact fun _ _ _ h => h
  case hy26 => exact Or.inl ⟨by rfl, by (intro W; go_simp; (try with_reducible rfl))⟩
  (try simp only [Act.put, List.setIfInBounds_toArray, List.set_cons_zero, List.set_cons_succ])
  refine tillH_takeAny (i := 9) (oi := ?oo27) (v := ?vv27) ?hi27 (by kernel_rfl) (by kernel_rfl) (by kernel_rfl) ?hq27 (by kernel_rfl) ?hy27 (fun h => absurd h (by simp)) ?hh27
  case hi27 => (simp only [List.getElem?_toArray, List.getElem?_cons_succ, List.getElem?_cons_zero]; rfl)
  case hq27 => exact fun _ _ _ h => h
  case hy27 => exact Or.inl ⟨by rfl, by (intro W; go_simp; (try with_reducible rfl))⟩
  (try simp only [Act.put, List.setIfInBounds_toArray, List.set_cons_zero, List.set_cons_succ])
  have rb := HB6.out.2.2.2
  have z0 := rb.frozen 0
  have z1 := rb.frozen 1
  have z2 := rb.frozen 2
  have z3 := rb.frozen 3
  have z4 := rb.frozen 4
  have z5 := rb.frozen 5
  have z6 := rb.frozen 6
  have y0 : E6.cell? ⟨q3, 0, none⟩ = some (.int .i64 r1) := by rw [rb.cell]; rfl
  have y1 : E6.cell? ⟨q3, 1, none⟩ = some (.int .i64 r2) := by rw [rb.cell]; rfl
  have y2 : E6.cell? ⟨q3, 2, none⟩ = some (.string r3) := by rw [rb.cell]; rfl
  have y3 : E6.cell? ⟨q3, 3, none⟩ = some (.int .i64 g1) := by rw [rb.cell]; rfl
  have y4 : E6.cell? ⟨q3, 4, none⟩ = some (.int .i64 g2) := by rw [rb.cell]; rfl
  have y5 : E6.cell? ⟨q3, 5, none⟩ = some (.string g3) := by rw [rb.cell]; rfl
  have y6 : E6.cell? ⟨q3, 6, none⟩ = some (.int .i64 gf) := by rw [rb.cell]; rfl
  have lr := rb.lt
  have hbl : Blk (((((((E6.setCell ⟨q3, 0, none⟩ (.int .i64 n1)).setCell ⟨q3, 1, none⟩ (.int .i64 n2)).setCell ⟨q3, 2, none⟩ (.string n3)).setCell ⟨q3, 3, none⟩ (.int .i64 f1)).setCell ⟨q3, 4, none⟩ (.int .i64 f2)).setCell ⟨q3, 5, none⟩ (.string f3)).setCell ⟨q3, 6, none⟩ (.int .i64 ff)) q3 127 #[.int .i64 n1, .int .i64 n2, .string n3, .int .i64 f1, .int .i64 f2, .string f3, .int .i64 ff] := (((((((rb.set_ 0 _).set_ 1 _).set_ 2 _).set_ 3 _).set_ 4 _).set_ 5 _).set_ 6 _)
  have hbe : Below w.heap.size w (((((((E6.setCell ⟨q3, 0, none⟩ (.int .i64 n1)).setCell ⟨q3, 1, none⟩ (.int .i64 n2)).setCell ⟨q3, 2, none⟩ (.string n3)).setCell ⟨q3, 3, none⟩ (.int .i64 f1)).setCell ⟨q3, 4, none⟩ (.int .i64 f2)).setCell ⟨q3, 5, none⟩ (.string f3)).setCell ⟨q3, 6, none⟩ (.int .i64 ff)) := store7 HB6.out.1 hz3 _ _ _ _ _ _ _
  have ne0 : w.heap.size ≠ q3 := fun e => (HB6.out.2.1.ne_ rb (by decide)) e
  have ne1 : w.heap.size + 1 ≠ q3 := fun e => (HB6.out.2.2.1.ne_ rb (by decide)) e
  have k9 : Blk (((((((E6.setCell ⟨q3, 0, none⟩ (.int .i64 n1)).setCell ⟨q3, 1, none⟩ (.int .i64 n2)).setCell ⟨q3, 2, none⟩ (.string n3)).setCell ⟨q3, 3, none⟩ (.int .i64 f1)).setCell ⟨q3, 4, none⟩ (.int .i64 f2)).setCell ⟨q3, 5, none⟩ (.string f3)).setCell ⟨q3, 6, none⟩ (.int .i64 ff)) w.heap.size 34 #[.int .i64 k1, .int .i64 k2, .string k3] := (((((((HB6.out.2.1.far ne0 _).far ne0 _).far ne0 _).far ne0 _).far ne0 _).far ne0 _).far ne0 _)
  have v9 : Blk (((((((E6.setCell ⟨q3, 0, none⟩ (.int .i64 n1)).setCell ⟨q3, 1, none⟩ (.int .i64 n2)).setCell ⟨q3, 2, none⟩ (.string n3)).setCell ⟨q3, 3, none⟩ (.int .i64 f1)).setCell ⟨q3, 4, none⟩ (.int .i64 f2)).setCell ⟨q3, 5, none⟩ (.string f3)).setCell ⟨q3, 6, none⟩ (.int .i64 ff)) (w.heap.size + 1) 34 #[.int .i64 v1, .int .i64 v2, .string v3] := (((((((HB6.out.2.2.1.far ne1 _).far ne1 _).far ne1 _).far ne1 _).far ne1 _).far ne1 _).far ne1 _)
  have HB7 := Lib.hid (And.intro hbe (And.intro k9 (And.intro v9 hbl)))
  clear rb hbl hbe ne0 ne1 k9 v9 HB6
  refine tillH_next (rs := [10]) (by kernel_rfl) (by simp) ?_
  refine NextH.cons rfl (fun K hK => ?_) NextH.nil
  go_simp
  refine hK.out _ _ (fun h => absurd h (by simp)) ?_
  clear hK K
  (try simp only [Act.put, List.setIfInBounds_toArray, List.set_cons_zero, List.set_cons_succ])
  refine tillH_takeAny (i := 11) (oi := ?oo28) (v := ?vv28) ?hi28 (by kernel_rfl) (by kernel_rfl) (by kernel_rfl) ?hq28 (by kernel_rfl) ?hy28 (fun h => absurd h (by simp)) ?hh28
  case hi28 => (simp only [List.getElem?_toArray, List.getElem?_cons_succ, List.getElem?_cons_zero]; rfl)
  case hq28 => exact fun _ _ _ h => h
  case hy28 => exact Or.inl ⟨by rfl, by (intro W; go_simp; (try with_reducible rfl))⟩
  (try simp only [Act.put, List.setIfInBounds_toArray, List.set_cons_zero, List.set_cons_succ])
  refine tillH_done (by kernel_rfl) ?_ _
  refine HKV.out _ _ ?_
  clear z0 z1 z2 z3 z4 z5 z6 y0 y1 y2 y3 y4 y5 y6 lr HKV KV
  generalize (((((((E6.setCell ⟨q3, 0, none⟩ (.int .i64 n1)).setCell ⟨q3, 1, none⟩ (.int .i64 n2)).setCell ⟨q3, 2, none⟩ (.string n3)).setCell ⟨q3, 3, none⟩ (.int .i64 f1)).setCell ⟨q3, 4, none⟩ (.int .i64 f2)).setCell ⟨q3, 5, none⟩ (.string f3)).setCell ⟨q3, 6, none⟩ (.int .i64 ff)) = wc at *
  have HB5 := HB7
  clear HB7
  have p0 : wc.cell? ⟨w.heap.size, 0, none⟩ = some (.int .i64 k1) := by rw [HB5.out.2.1.cell]; rfl
  have p1 : wc.cell? ⟨w.heap.size, 1, none⟩ = some (.int .i64 k2) := by rw [HB5.out.2.1.cell]; rfl
  have p2 : wc.cell? ⟨w.heap.size, 2, none⟩ = some (.string k3) := by rw [HB5.out.2.1.cell]; rfl
  have q0 : wc.cell? ⟨w.heap.size + 1, 0, none⟩ = some (.int .i64 v1) := by rw [HB5.out.2.2.1.cell]; rfl
  have q1 : wc.cell? ⟨w.heap.size + 1, 1, none⟩ = some (.int .i64 v2) := by rw [HB5.out.2.2.1.cell]; rfl
  have q2 : wc.cell? ⟨w.heap.size + 1, 2, none⟩ = some (.string v3) := by rw [HB5.out.2.2.1.cell]; rfl
  have cf : wc.cell? ⟨q3, 6, none⟩ = some (.int .i64 ff) := by rw [HB5.out.2.2.2.cell]; rfl
  have lf := HB5.out.2.2.2.lt
  cases fb with
  | false =>
    obtain rfl : false = C := HC.out
    go_wp2_with fail
    refine (HH.out.2.2.1 wc HB5.out.1).mono ?_
    rintro e w6 ⟨rfl, hp⟩
    have HP := Lib.hid hp
    clear hp
    cases R
    · go_wp2
      go_ret
      exact ⟨rfl, HP.out⟩
    · go_wp2
      go_ret
      exact ⟨rfl, HP.out⟩
  | true =>
    cases c1 with
    | true =>
      obtain rfl : true = C := HC.out
      go_wp2
      go_ret
      exact ⟨rfl, HB5.out.1⟩
    | false =>
      cases c2 with
      | true =>
        obtain rfl : true = C := HC.out
        go_wp2
        go_ret
        exact ⟨rfl, HB5.out.1⟩
      | false =>
        obtain rfl : false = C := HC.out
        go_wp2_with fail
        refine (HH.out.2.2.1 wc HB5.out.1).mono ?_
        rintro e w6 ⟨rfl, hp⟩
        have HP := Lib.hid hp
        clear hp
        cases R
        · go_wp2
          go_ret
          exact ⟨rfl, HP.out⟩
        · go_wp2
          go_ret
          exact ⟨rfl, HP.out⟩
end Go.Proofs.YtmimnaaofpkndaaDoor.Hp
