/- HsS: several texts in one. -/
import Derived.Test.YtmimnaaofpkndaaDoorHrS
import Derived.Test.YtmimnaaofpkndaaDoorHsR
/- HeapRuns: Put on a cell that is no object's, of both heaps. -/
set_option linter.unusedVariables false
set_option linter.unusedSimpArgs false
namespace Go.Proofs.YtmimnaaofpkndaaDoor.Hp
open Go.RowKit Go.Proofs.YtmimnaaofpkndaaDoor Go.Shelf Go.Sort
attribute [local go_sem] Oper.semAt_some
set_option maxRecDepth 100000 in
set_option maxHeartbeats 4000000 in
theorem put_nil {H : Nat} {r : Int} {k v : K3} {w : World} (hobj : ∀ W, Below w.heap.size w W → Calls Tryd.prog 11 #[.pointer (some ⟨H, 0, none⟩), .int .i64 r] W fun e w' => e = .returned (.pointer none) ∧ Below W.heap.size W w') :
    Calls Tryd.prog 16 #[.pointer (some ⟨H, 0, none⟩), .int .i64 r, VK k, VK v] w fun e w' => e = .returned (.bool false) ∧ Below w.heap.size w w' := by
  have HO := Lib.hid hobj
  obtain ⟨k1, k2, k3⟩ := k
  obtain ⟨v1, v2, v3⟩ := v
  have HB := Lib.hid (two_boxes w k1 k2 k3 v1 v2 v3)
  clear hobj
  go_enter Tryd.func16, Tryd.ntmps16
  go_wp2_with fail
  refine (HO.out _ HB.out.1).mono ?_
  rintro e w2 ⟨rfl, b2⟩
  have HB2 := Lib.hid (HB.out.1.trans (b2.mono HB.out.1.size))
  clear b2 HB HO
  go_upto_region 2 with fail
  go_wp2
  go_ret
  exact ⟨rfl, HB2.out⟩
set_option maxRecDepth 100000 in
set_option maxHeartbeats 4000000 in
theorem rput_nil {H : Nat} {r : Int} {k v : K3} {w : World} (hobj : ∀ W, Below w.heap.size w W → Calls Tryd.prog 37 #[.pointer (some ⟨H, 0, none⟩), .int .i64 r] W fun e w' => e = .returned (.pointer none) ∧ Below W.heap.size W w') :
    Calls Tryd.prog 59 #[.pointer (some ⟨H, 0, none⟩), .int .i64 r, VK k, VK v] w fun e w' => e = .returned (.bool false) ∧ Below w.heap.size w w' := by
  have HO := Lib.hid hobj
  obtain ⟨k1, k2, k3⟩ := k
  obtain ⟨v1, v2, v3⟩ := v
  have HB := Lib.hid (two_boxes w k1 k2 k3 v1 v2 v3)
  clear hobj
  go_enter Tryd.func59, Tryd.ntmps59
  go_wp2_with fail
  refine (HO.out _ HB.out.1).mono ?_
  rintro e w2 ⟨rfl, b2⟩
  have HB2 := Lib.hid (HB.out.1.trans (b2.mono HB.out.1.size))
  clear b2 HB HO
  go_upto_region 2 with fail
  go_wp2
  go_ret
  exact ⟨rfl, HB2.out⟩
end Go.Proofs.YtmimnaaofpkndaaDoor.Hp

/- HeapRuns: the heap's Put, of a property that is the object's own. -/
set_option linter.unusedVariables false
set_option linter.unusedSimpArgs false
namespace Go.Proofs.YtmimnaaofpkndaaDoor.Hp
open Go.RowKit Go.Proofs.YtmimnaaofpkndaaDoor Go.Shelf Go.Sort
attribute [local go_sem] Oper.semAt_some
set_option maxRecDepth 100000 in
set_option maxHeartbeats 8000000 in
theorem hput_own {H b : Nat} {r : Int} {k v gv : K3} {gf : Int} {w : World} (R : Bool) (Post : World → Prop)
    (hobj : ∀ W, Below w.heap.size w W → Calls Tryd.prog 11 #[.pointer (some ⟨H, 0, none⟩), .int .i64 r] W fun e w' => e = .returned (.pointer (some ⟨b, 0, none⟩)) ∧ Below W.heap.size W w')
    (hown : ∀ W, Below w.heap.size w W → Calls Tryd.prog 18 #[.pointer (some ⟨b, 0, none⟩), VK k] W fun e w' => e = .returned (.tuple #[VK gv, .int .i64 gf, .bool true]) ∧ Below W.heap.size W w')
    (hdef : ∀ W, Below w.heap.size w W → Calls Tryd.prog 12 #[.pointer (some ⟨b, 0, none⟩), VK k, VK v, .int .i64 gf] W fun e w' => e = .returned (.bool R) ∧ Post w') :
    Calls Tryd.prog 16 #[.pointer (some ⟨H, 0, none⟩), .int .i64 r, VK k, VK v] w fun e w' => (((bits .and .i64 gf 1 != 0) && (bits .and .i64 gf 8 == 0)) = true ∧ e = .returned (.bool R) ∧ Post w') ∨ (((bits .and .i64 gf 1 != 0) && (bits .and .i64 gf 8 == 0)) = false ∧ e = .returned (.bool false) ∧ Below w.heap.size w w') := by
  have HH := Lib.hid (And.intro hobj (And.intro hown hdef))
  obtain ⟨c1, hc1⟩ : ∃ c, (bits .and .i64 gf 1 != 0) = c := ⟨_, rfl⟩
  obtain ⟨c2, hc2⟩ : ∃ c, (bits .and .i64 gf 8 == 0) = c := ⟨_, rfl⟩
  rw [hc1, hc2]
  obtain ⟨k1, k2, k3⟩ := k
  obtain ⟨v1, v2, v3⟩ := v
  obtain ⟨g1, g2, g3⟩ := gv
  have HB := Lib.hid (two_boxes w k1 k2 k3 v1 v2 v3)
  clear hobj hown hdef
  obtain ⟨C, hC⟩ : ∃ C, (c1 && c2) = C := ⟨_, rfl⟩
  rw [hC]
  have HC := Lib.hid hC
  clear hC
  go_enter Tryd.func16, Tryd.ntmps16
  go_wp2_with fail
  refine (HH.out.1 _ HB.out.1).mono ?_
  rintro e w2 ⟨rfl, b2⟩
  have HB2 := Lib.hid (And.intro (HB.out.1.trans (b2.mono HB.out.1.size)) (And.intro (HB.out.2.1.below b2 HB.out.2.1.lt) (HB.out.2.2.below b2 HB.out.2.2.lt)))
  clear b2 HB
  have p0 : w2.cell? ⟨w.heap.size, 0, none⟩ = some (.int .i64 k1) := by rw [HB2.out.2.1.cell]; rfl
  have p1 : w2.cell? ⟨w.heap.size, 1, none⟩ = some (.int .i64 k2) := by rw [HB2.out.2.1.cell]; rfl
  have p2 : w2.cell? ⟨w.heap.size, 2, none⟩ = some (.string k3) := by rw [HB2.out.2.1.cell]; rfl
  go_upto_region 2 with fail
  go_wp2_with fail
  refine (HH.out.2.1 w2 HB2.out.1).mono ?_
  rintro e w3 ⟨rfl, b3⟩
  have b34 := b3.alloc b3.size (.cells #[.int .i64 g1, .int .i64 g2, .string g3] 34)
  have HB4 := Lib.hid (And.intro (HB2.out.1.trans (b34.mono HB2.out.1.size)) (And.intro (HB2.out.2.1.below b34 HB2.out.2.1.lt) (HB2.out.2.2.below b34 HB2.out.2.2.lt)))
  clear b3 b34 p0 p1 p2 HB2
  go_upto_region 5 with fail
  generalize (w3.alloc (.cells #[.int .i64 g1, .int .i64 g2, .string g3] 34)) = w4 at *
  generalize w3.heap.size = q3 at *
  have p0 : w4.cell? ⟨w.heap.size, 0, none⟩ = some (.int .i64 k1) := by rw [HB4.out.2.1.cell]; rfl
  have p1 : w4.cell? ⟨w.heap.size, 1, none⟩ = some (.int .i64 k2) := by rw [HB4.out.2.1.cell]; rfl
  have p2 : w4.cell? ⟨w.heap.size, 2, none⟩ = some (.string k3) := by rw [HB4.out.2.1.cell]; rfl
  have q0 : w4.cell? ⟨w.heap.size + 1, 0, none⟩ = some (.int .i64 v1) := by rw [HB4.out.2.2.cell]; rfl
  have q1 : w4.cell? ⟨w.heap.size + 1, 1, none⟩ = some (.int .i64 v2) := by rw [HB4.out.2.2.cell]; rfl
  have q2 : w4.cell? ⟨w.heap.size + 1, 2, none⟩ = some (.string v3) := by rw [HB4.out.2.2.cell]; rfl
  cases c1 with
  | false =>
    obtain rfl : false = C := HC.out
    clear hc2
    go_wp2
    go_ret
    exact ⟨rfl, HB4.out.1⟩
  | true =>
    cases c2 with
    | false =>
      obtain rfl : false = C := HC.out
      go_wp2
      go_ret
      exact ⟨rfl, HB4.out.1⟩
    | true =>
      obtain rfl : true = C := HC.out
      go_wp2_with fail
      refine (HH.out.2.2 w4 HB4.out.1).mono ?_
      rintro e w5 ⟨rfl, hp⟩
      have HP := Lib.hid hp
      clear hp
      cases R
      · go_wp2
        go_ret
        exact ⟨rfl, HP.out⟩
      · go_wp2
        go_ret
        exact ⟨rfl, HP.out⟩
end Go.Proofs.YtmimnaaofpkndaaDoor.Hp

/- HeapRuns: the document's Put, of a property that is the object's own. -/
set_option linter.unusedVariables false
set_option linter.unusedSimpArgs false
namespace Go.Proofs.YtmimnaaofpkndaaDoor.Hp
open Go.RowKit Go.Proofs.YtmimnaaofpkndaaDoor Go.Shelf Go.Sort
attribute [local go_sem] Oper.semAt_some
set_option maxRecDepth 100000 in
set_option maxHeartbeats 8000000 in
theorem rput_own {H b : Nat} {r : Int} {k v gv rk : K3} {gf : Int} {w : World} (R : Bool) (Post : World → Prop)
    (hobj : ∀ W, Below w.heap.size w W → Calls Tryd.prog 37 #[.pointer (some ⟨H, 0, none⟩), .int .i64 r] W fun e w' => e = .returned (.pointer (some ⟨b, 0, none⟩)) ∧ Below W.heap.size W w')
    (hown : ∀ W, Below w.heap.size w W → Calls Tryd.prog 62 #[.pointer (some ⟨b, 0, none⟩), VK k] W fun e w' => e = .returned (.tuple #[PV rk gv gf, .bool true]) ∧ Below W.heap.size W w')
    (hdef : ∀ W, Below w.heap.size w W → Calls Tryd.prog 60 #[.pointer (some ⟨b, 0, none⟩), VK k, VK v, .int .i64 gf] W fun e w' => e = .returned (.bool R) ∧ Post w') :
    Calls Tryd.prog 59 #[.pointer (some ⟨H, 0, none⟩), .int .i64 r, VK k, VK v] w fun e w' => (((bits .and .i64 gf 1 == 0) || (bits .and .i64 gf 8 != 0)) = false ∧ e = .returned (.bool R) ∧ Post w') ∨ (((bits .and .i64 gf 1 == 0) || (bits .and .i64 gf 8 != 0)) = true ∧ e = .returned (.bool false) ∧ Below w.heap.size w w') := by
  have HH := Lib.hid (And.intro hobj (And.intro hown hdef))
  obtain ⟨c1, hc1⟩ : ∃ c, (bits .and .i64 gf 1 == 0) = c := ⟨_, rfl⟩
  obtain ⟨c2, hc2⟩ : ∃ c, (bits .and .i64 gf 8 != 0) = c := ⟨_, rfl⟩
  rw [hc1, hc2]
  obtain ⟨k1, k2, k3⟩ := k
  obtain ⟨v1, v2, v3⟩ := v
  obtain ⟨g1, g2, g3⟩ := gv
  obtain ⟨r1, r2, r3⟩ := rk
  have HB := Lib.hid (two_boxes w k1 k2 k3 v1 v2 v3)
  clear hobj hown hdef
  obtain ⟨C, hC⟩ : ∃ C, (c1 || c2) = C := ⟨_, rfl⟩
  rw [hC]
  have HC := Lib.hid hC
  clear hC
  go_enter Tryd.func59, Tryd.ntmps59
  go_wp2_with fail
  refine (HH.out.1 _ HB.out.1).mono ?_
  rintro e w2 ⟨rfl, b2⟩
  have HB2 := Lib.hid (And.intro (HB.out.1.trans (b2.mono HB.out.1.size)) (And.intro (HB.out.2.1.below b2 HB.out.2.1.lt) (HB.out.2.2.below b2 HB.out.2.2.lt)))
  clear b2 HB
  have p0 : w2.cell? ⟨w.heap.size, 0, none⟩ = some (.int .i64 k1) := by rw [HB2.out.2.1.cell]; rfl
  have p1 : w2.cell? ⟨w.heap.size, 1, none⟩ = some (.int .i64 k2) := by rw [HB2.out.2.1.cell]; rfl
  have p2 : w2.cell? ⟨w.heap.size, 2, none⟩ = some (.string k3) := by rw [HB2.out.2.1.cell]; rfl
  go_upto_region 2 with fail
  go_wp2_with fail
  refine (HH.out.2.1 w2 HB2.out.1).mono ?_
  rintro e w3 ⟨rfl, b3⟩
  have b34 := b3.alloc b3.size (.cells #[.int .i64 r1, .int .i64 r2, .string r3, .int .i64 g1, .int .i64 g2, .string g3, .int .i64 gf] 127)
  have HB4 := Lib.hid (And.intro (HB2.out.1.trans (b34.mono HB2.out.1.size)) (And.intro (HB2.out.2.1.below b34 HB2.out.2.1.lt) (And.intro (HB2.out.2.2.below b34 HB2.out.2.2.lt) (Blk.new w3 127 #[.int .i64 r1, .int .i64 r2, .string r3, .int .i64 g1, .int .i64 g2, .string g3, .int .i64 gf]))))
  clear b3 b34 p0 p1 p2 HB2
  go_upto_region 5 with fail
  generalize (w3.alloc (.cells #[.int .i64 r1, .int .i64 r2, .string r3, .int .i64 g1, .int .i64 g2, .string g3, .int .i64 gf] 127)) = w4 at *
  generalize w3.heap.size = q3 at *
  have p0 : w4.cell? ⟨w.heap.size, 0, none⟩ = some (.int .i64 k1) := by rw [HB4.out.2.1.cell]; rfl
  have p1 : w4.cell? ⟨w.heap.size, 1, none⟩ = some (.int .i64 k2) := by rw [HB4.out.2.1.cell]; rfl
  have p2 : w4.cell? ⟨w.heap.size, 2, none⟩ = some (.string k3) := by rw [HB4.out.2.1.cell]; rfl
  have q0 : w4.cell? ⟨w.heap.size + 1, 0, none⟩ = some (.int .i64 v1) := by rw [HB4.out.2.2.1.cell]; rfl
  have q1 : w4.cell? ⟨w.heap.size + 1, 1, none⟩ = some (.int .i64 v2) := by rw [HB4.out.2.2.1.cell]; rfl
  have q2 : w4.cell? ⟨w.heap.size + 1, 2, none⟩ = some (.string v3) := by rw [HB4.out.2.2.1.cell]; rfl
  have cf : w4.cell? ⟨q3, 6, none⟩ = some (.int .i64 gf) := by rw [HB4.out.2.2.2.cell]; rfl
  have lf := HB4.out.2.2.2.lt
  cases c1 with
  | true =>
    obtain rfl : true = C := HC.out
    clear hc2
    go_wp2
    go_ret
    exact ⟨rfl, HB4.out.1⟩
  | false =>
    cases c2 with
    | true =>
      obtain rfl : true = C := HC.out
      go_wp2
      go_ret
      exact ⟨rfl, HB4.out.1⟩
    | false =>
      obtain rfl : false = C := HC.out
      go_wp2_with fail
      refine (HH.out.2.2 w4 HB4.out.1).mono ?_
      rintro e w5 ⟨rfl, hp⟩
      have HP := Lib.hid hp
      clear hp
      cases R
      · go_wp2
        go_ret
        exact ⟨rfl, HP.out⟩
      · go_wp2
        go_ret
        exact ⟨rfl, HP.out⟩
end Go.Proofs.YtmimnaaofpkndaaDoor.Hp
