/- Contracts of the reference's truth and reckon (layer 3). -/
import Derived.Test.YtjkboelcpihphaaDoorValK
import Derived.Deep.DeepCutAuto
import Derived.Deep.RegionHeld3
import Derived.Outline
set_option linter.unusedVariables false
set_option linter.unusedSimpArgs false
namespace Go.Proofs.YtjkboelcpihphaaDoor
open Go.RowKit

set_option maxHeartbeats 400000 in
theorem rtruth_any (b : Bool) (w : World) : Calls Tryd.prog 45 #[.bool b] w (Ret (VS 2 (tN b) ⟨#[]⟩) w) := by
  cases b
  · go_enter Tryd.func45, Tryd.ntmps45
    go_wp2
    exact bodyPost_ret (v := VS 2 0 ⟨#[]⟩) (by simp [results, Tryd.results45, go_sem]) rfl ⟨rfl, by first | exact (Below.refl _ _).alloc (Nat.le_refl _) _ | exact ((Below.refl _ _).alloc (Nat.le_refl _) _).alloc (by simp) _⟩
  · go_enter Tryd.func45, Tryd.ntmps45
    go_wp2
    exact bodyPost_ret (v := VS 2 1 ⟨#[]⟩) (by simp [results, Tryd.results45, go_sem]) rfl ⟨rfl, by first | exact (Below.refl _ _).alloc (Nat.le_refl _) _ | exact ((Below.refl _ _).alloc (Nat.le_refl _) _).alloc (by simp) _⟩
theorem c30 {W : World} {g : Nat} {t : TypeId} {a b c : Value} (h : Blk W g t #[a, b, c]) : W.cell? ⟨g, 0, none⟩ = some a := by rw [h.cell]; rfl
theorem c31 {W : World} {g : Nat} {t : TypeId} {a b c : Value} (h : Blk W g t #[a, b, c]) : W.cell? ⟨g, 1, none⟩ = some b := by rw [h.cell]; rfl
theorem c32 {W : World} {g : Nat} {t : TypeId} {a b c : Value} (h : Blk W g t #[a, b, c]) : W.cell? ⟨g, 2, none⟩ = some c := by rw [h.cell]; rfl
theorem Blk.lset3 {W : World} {g : Nat} {t : TypeId} {a b c : Value} (h : Blk W g t #[a, b, c]) (x y z : Value) : Blk (((W.setCell ⟨g, 0, none⟩ x).setCell ⟨g, 1, none⟩ y).setCell ⟨g, 2, none⟩ z) g t #[x, y, z] := ((h.set_ 0 x).set_ 1 y).set_ 2 z
theorem Blk.lfar3 {W : World} {g : Nat} {t : TypeId} {cs : Array Value} (h : Blk W g t cs) (f : Nat) (hne : g ≠ f) (x y z : Value) : Blk (((W.setCell ⟨f, 0, none⟩ x).setCell ⟨f, 1, none⟩ y).setCell ⟨f, 2, none⟩ z) g t cs := ((h.far (p := ⟨f, 0, none⟩) hne x).far (p := ⟨f, 1, none⟩) hne y).far (p := ⟨f, 2, none⟩) hne z
theorem lbelow3 {B : Nat} {w W : World} (h : Below B w W) (f : Nat) (hf : B ≤ f) (x y z : Value) : Below B w (((W.setCell ⟨f, 0, none⟩ x).setCell ⟨f, 1, none⟩ y).setCell ⟨f, 2, none⟩ z) := ((h.setCell (p := ⟨f, 0, none⟩) hf x).setCell (p := ⟨f, 1, none⟩) hf y).setCell (p := ⟨f, 2, none⟩) hf z
theorem lcells {W : World} {g : Nat} {t : TypeId} {a b c : Value} (h : Blk W g t #[a, b, c]) : W.cell? ⟨g, 0, none⟩ = some a ∧ W.cell? ⟨g, 1, none⟩ = some b ∧ W.cell? ⟨g, 2, none⟩ = some c := ⟨c30 h, c31 h, c32 h⟩
theorem lcells6 {W : World} {g g' : Nat} {t t' : TypeId} {a b c a' b' c' : Value} (h : Blk W g t #[a, b, c]) (h' : Blk W g' t' #[a', b', c']) : W.cell? ⟨g, 0, none⟩ = some a ∧ W.cell? ⟨g, 1, none⟩ = some b ∧ W.cell? ⟨g, 2, none⟩ = some c ∧ W.cell? ⟨g', 0, none⟩ = some a' ∧ W.cell? ⟨g', 1, none⟩ = some b' ∧ W.cell? ⟨g', 2, none⟩ = some c' := ⟨c30 h, c31 h, c32 h, c30 h', c31 h', c32 h'⟩
structure Rk (w W : World) (g : Nat) (d : Int) (m : Bool) (z : Int) : Prop where
  bel : Below w.heap.size w W
  kg : Blk W g 58 #[.int .u8 d, .bool m, .int .i64 z]
  kr : Blk W (w.heap.size + 2) 27 #[.int .i64 0, .int .i64 0, .string ⟨#[]⟩]

set_option maxHeartbeats 4000000 in
set_option maxRecDepth 100000 in
theorem rreck_add_true (d1 : Int) (m1 : Bool) (z1 d2 : Int) (m2 : Bool) (z2 d : Int) (m : Bool) (z : Int) (pk pn : Int) (w : World)
    (CD : ∀ W, Calls Tryd.prog 67 #[.int .u8 43, RV d1 m1 z1, RV d2 m2 z2] W (Ret (.tuple #[RV d m z, .bool true]) W)) (CV : ∀ W, Calls Tryd.prog 66 #[RV d m z] W (Ret (VN pk pn) W)) :
    Calls Tryd.prog 48 #[.string ⟨#[43]⟩, RV d1 m1 z1, RV d2 m2 z2] w (Ret (.tuple #[VN pk pn, .int .i64 0]) w) := by
  have HD := Lib.hid CD
  clear CD
  have HV := Lib.hid CV
  clear CV
  go_enter Tryd.func48, Tryd.ntmps48
  go_upto_region 5 with fail
  have k_a := ((Blk.new w 58 #[.int .u8 d1, .bool m1, .int .i64 z1]).alloc (.cells #[.int .u8 d2, .bool m2, .int .i64 z2] 58)).alloc (.cells #[.int .i64 0, .int .i64 0, .string ⟨#[]⟩] 27)
  have k_b := (Blk.new (w.alloc (.cells #[.int .u8 d1, .bool m1, .int .i64 z1] 58)) 58 #[.int .u8 d2, .bool m2, .int .i64 z2]).alloc (.cells #[.int .i64 0, .int .i64 0, .string ⟨#[]⟩] 27)
  rw [World.size_alloc] at k_b
  have k_r := Blk.new ((w.alloc (.cells #[.int .u8 d1, .bool m1, .int .i64 z1] 58)).alloc (.cells #[.int .u8 d2, .bool m2, .int .i64 z2] 58)) 27 #[.int .i64 0, .int .i64 0, .string ⟨#[]⟩]
  rw [World.size_alloc, World.size_alloc] at k_r
  have bb : Below w.heap.size w _ := ((((Below.refl _ _).alloc (Nat.le_refl _) (.cells #[.int .u8 d1, .bool m1, .int .i64 z1] 58)).alloc (by simp) (.cells #[.int .u8 d2, .bool m2, .int .i64 z2] 58)).alloc (by simp; omega) (.cells #[.int .i64 0, .int .i64 0, .string ⟨#[]⟩] 27))
  generalize (((w.alloc (.cells #[.int .u8 d1, .bool m1, .int .i64 z1] 58)).alloc (.cells #[.int .u8 d2, .bool m2, .int .i64 z2] 58)).alloc (.cells #[.int .i64 0, .int .i64 0, .string ⟨#[]⟩] 27)) = W0 at *
  go_cut [8, 9] (fun s8 s9 wx => ∃ g, s8 = .pointer (some ⟨g, 0, none⟩) ∧ s9 = .bool true ∧ Rk w wx g d m z)
  case first =>
    have k_a := k_a.drew
    have k_b := k_b.drew
    have k_r := k_r.drew
    have bb := bb.drew
    refine wp_region_held_drew (S := (fun W => W.cell? ⟨w.heap.size, 0, none⟩ = some (.int .u8 d1) ∧ W.cell? ⟨w.heap.size, 1, none⟩ = some (.bool m1) ∧ W.cell? ⟨w.heap.size, 2, none⟩ = some (.int .i64 z1) ∧ W.cell? ⟨w.heap.size + 1, 0, none⟩ = some (.int .u8 d2) ∧ W.cell? ⟨w.heap.size + 1, 1, none⟩ = some (.bool m2) ∧ W.cell? ⟨w.heap.size + 1, 2, none⟩ = some (.int .i64 z2))) (by kernel_rfl) (lcells6 k_a k_b) (fun hHeld => ?_)
    generalize W0.drew = D0 at *
    refine wpAnyH_take (i := 0) (oi := ?oo701) (v := ?vv701) ?hi701 (by kernel_rfl) (by kernel_rfl) (by kernel_rfl) ?hq701 ?hy701 (by assumption) ?hh701
    case hi701 => (simp only [List.getElem?_toArray, List.getElem?_cons_succ, List.getElem?_cons_zero]; rfl)
    case hq701 => exact fun _ _ _ h => h
    case hy701 => exact Or.inl ⟨by rfl, by (intro W hSw; (try dsimp only at hSw); go_simp; (try with_reducible rfl))⟩
    (try simp only [Act.put, List.setIfInBounds_toArray, List.set_cons_zero, List.set_cons_succ])
    refine wpAnyH_take (i := 1) (oi := ?oo702) (v := ?vv702) ?hi702 (by kernel_rfl) (by kernel_rfl) (by kernel_rfl) ?hq702 ?hy702 (by assumption) ?hh702
    case hi702 => (simp only [List.getElem?_toArray, List.getElem?_cons_succ, List.getElem?_cons_zero]; rfl)
    case hq702 => exact fun _ _ _ h => h
    case hy702 => exact Or.inl ⟨by rfl, by (intro W hSw; (try dsimp only at hSw); go_simp; (try with_reducible rfl))⟩
    (try simp only [Act.put, List.setIfInBounds_toArray, List.set_cons_zero, List.set_cons_succ])
    refine wpAnyH_take (i := 2) (oi := ?oo703) (v := ?vv703) ?hi703 (by kernel_rfl) (by kernel_rfl) (by kernel_rfl) ?hq703 ?hy703 (by assumption) ?hh703
    case hi703 => (simp only [List.getElem?_toArray, List.getElem?_cons_succ, List.getElem?_cons_zero]; rfl)
    case hq703 => exact fun _ _ _ h => h
    case hy703 => exact Or.inl ⟨by rfl, by (intro W hSw; (try dsimp only at hSw); go_simp; (try with_reducible rfl))⟩
    (try simp only [Act.put, List.setIfInBounds_toArray, List.set_cons_zero, List.set_cons_succ])
    refine wpAnyH_take (i := 3) (oi := ?oo704) (v := ?vv704) ?hi704 (by kernel_rfl) (by kernel_rfl) (by kernel_rfl) ?hq704 ?hy704 (by assumption) ?hh704
    case hi704 => (simp only [List.getElem?_toArray, List.getElem?_cons_succ, List.getElem?_cons_zero]; rfl)
    case hq704 => exact fun _ _ _ h => h
    case hy704 => exact Or.inl ⟨by rfl, by (intro W hSw; (try dsimp only at hSw); go_simp; (try with_reducible rfl))⟩
    (try simp only [Act.put, List.setIfInBounds_toArray, List.set_cons_zero, List.set_cons_succ])
    refine wpAnyH_ready (rs := [4, 8]) (by kernel_rfl) (by simp) ?_
    refine AllReadyH.cons rfl (fun K hK => ?_) (AllReadyH.cons rfl (fun K hK => ?_) AllReadyH.nil)
    · skip
      go_simp
      go_at_call 67
      refine (HD.out _).mono ?_
      rintro e U1 ⟨rfl, bq⟩
      have k_a := k_a.below bq k_a.lt
      have k_b := k_b.below bq k_b.lt
      have k_r := k_r.below bq k_r.lt
      have bb := bb.trans (bq.mono bb.size)
      clear bq
      refine hK.out _ _ (lcells6 k_a k_b) (fun hHeld => ?_)
      clear hK K
      (try simp only [Act.put, List.setIfInBounds_toArray, List.set_cons_zero, List.set_cons_succ])
      refine wpAnyH_take (i := 5) (oi := ?oo705) (v := ?vv705) ?hi705 (by kernel_rfl) (by kernel_rfl) (by kernel_rfl) ?hq705 ?hy705 (by assumption) ?hh705
      case hi705 => (simp only [List.getElem?_toArray, List.getElem?_cons_succ, List.getElem?_cons_zero]; rfl)
      case hq705 => exact fun _ _ _ h => h
      case hy705 => exact Or.inl ⟨by rfl, by (intro W hSw; (try dsimp only at hSw); go_simp; (try with_reducible rfl))⟩
      (try simp only [Act.put, List.setIfInBounds_toArray, List.set_cons_zero, List.set_cons_succ])
      refine wpAnyH_take (i := 6) (oi := ?oo706) (v := ?vv706) ?hi706 (by kernel_rfl) (by kernel_rfl) (by kernel_rfl) ?hq706 ?hy706 (by assumption) ?hh706
      case hi706 => (simp only [List.getElem?_toArray, List.getElem?_cons_succ, List.getElem?_cons_zero]; rfl)
      case hq706 => exact fun _ _ _ h => h
      case hy706 => exact Or.inl ⟨by rfl, by (intro W hSw; (try dsimp only at hSw); go_simp; (try with_reducible rfl))⟩
      (try simp only [Act.put, List.setIfInBounds_toArray, List.set_cons_zero, List.set_cons_succ])
      refine wpAnyH_take (i := 7) (oi := ?oo707) (v := ?vv707) ?hi707 (by kernel_rfl) (by kernel_rfl) (by kernel_rfl) ?hq707 ?hy707 (by assumption) ?hh707
      case hi707 => (simp only [List.getElem?_toArray, List.getElem?_cons_succ, List.getElem?_cons_zero]; rfl)
      case hq707 => exact fun _ _ _ h => h
      case hy707 => exact Or.inl ⟨by rfl, by (intro W hSw; (try dsimp only at hSw); go_simp; (try with_reducible rfl))⟩
      (try simp only [Act.put, List.setIfInBounds_toArray, List.set_cons_zero, List.set_cons_succ])
      refine wpAnyH_ready (rs := [8]) (by kernel_rfl) (by simp) ?_
      refine AllReadyH.cons rfl (fun K hK => ?_) AllReadyH.nil
      go_simp
      have n_q := k_r.lt
      have k_a := k_a.alloc (.cells #[.int .u8 0, .bool false, .int .i64 0] 58)
      have k_b := k_b.alloc (.cells #[.int .u8 0, .bool false, .int .i64 0] 58)
      have k_r := k_r.alloc (.cells #[.int .u8 0, .bool false, .int .i64 0] 58)
      have k_g := Blk.new U1 58 #[.int .u8 0, .bool false, .int .i64 0]
      have bb := bb.alloc bb.size (.cells #[.int .u8 0, .bool false, .int .i64 0] 58)
      refine hK.out _ _ (lcells6 k_a k_b) (fun hHeld => ?_)
      clear hK K
      generalize U1.alloc (.cells #[.int .u8 0, .bool false, .int .i64 0] 58) = U2 at *
      generalize U1.heap.size = g at *
      (try simp only [Act.put, List.setIfInBounds_toArray, List.set_cons_zero, List.set_cons_succ])
      obtain ⟨x_g0, x_g1, x_g2⟩ := lcells k_g
      have z_g0 := k_g.frozen 0
      have z_g1 := k_g.frozen 1
      have z_g2 := k_g.frozen 2
      have l_g := k_g.lt
      refine wpAnyH_ready (rs := [9]) (by kernel_rfl) (by simp) ?_
      refine AllReadyH.cons rfl (fun K hK => ?_) AllReadyH.nil
      go_simp
      clear x_g0 x_g1 x_g2 z_g0 z_g1 z_g2 l_g
      have k_g := k_g.lset3 (.int .u8 d) (.bool m) (.int .i64 z)
      have k_a := k_a.lfar3 g (by omega) (.int .u8 d) (.bool m) (.int .i64 z)
      have k_b := k_b.lfar3 g (by omega) (.int .u8 d) (.bool m) (.int .i64 z)
      have k_r := k_r.lfar3 g (by omega) (.int .u8 d) (.bool m) (.int .i64 z)
      have bb := lbelow3 bb g (by omega) (.int .u8 d) (.bool m) (.int .i64 z)
      refine hK.out _ _ (lcells6 k_a k_b) (fun hHeld => ?_)
      clear hK K
      generalize (((U2.setCell ⟨g, 0, none⟩ (.int .u8 d)).setCell ⟨g, 1, none⟩ (.bool m)).setCell ⟨g, 2, none⟩ (.int .i64 z)) = U3 at *
      (try simp only [Act.put, List.setIfInBounds_toArray, List.set_cons_zero, List.set_cons_succ])
      refine wpAnyH_take (i := 10) (oi := ?oo708) (v := ?vv708) ?hi708 (by kernel_rfl) (by kernel_rfl) (by kernel_rfl) ?hq708 ?hy708 (by assumption) ?hh708
      case hi708 => (simp only [List.getElem?_toArray, List.getElem?_cons_succ, List.getElem?_cons_zero]; rfl)
      case hq708 => exact fun _ _ _ h => h
      case hy708 => exact Or.inl ⟨by rfl, by (intro W hSw; (try dsimp only at hSw); go_simp; (try with_reducible rfl))⟩
      (try simp only [Act.put, List.setIfInBounds_toArray, List.set_cons_zero, List.set_cons_succ])
      refine wpAnyH_done (by kernel_rfl) ?_ _
      go_wp2_with fail
      go_meet
      exact ⟨g, rfl, rfl, ⟨bb, k_g, k_r⟩⟩
    · skip
      go_simp
      have n_q := k_r.lt
      have k_a := k_a.alloc (.cells #[.int .u8 0, .bool false, .int .i64 0] 58)
      have k_b := k_b.alloc (.cells #[.int .u8 0, .bool false, .int .i64 0] 58)
      have k_r := k_r.alloc (.cells #[.int .u8 0, .bool false, .int .i64 0] 58)
      have k_g := Blk.new D0 58 #[.int .u8 0, .bool false, .int .i64 0]
      have bb := bb.alloc bb.size (.cells #[.int .u8 0, .bool false, .int .i64 0] 58)
      refine hK.out _ _ (lcells6 k_a k_b) (fun hHeld => ?_)
      clear hK K
      generalize D0.alloc (.cells #[.int .u8 0, .bool false, .int .i64 0] 58) = U1 at *
      generalize D0.heap.size = g at *
      (try simp only [Act.put, List.setIfInBounds_toArray, List.set_cons_zero, List.set_cons_succ])
      refine wpAnyH_ready (rs := [4]) (by kernel_rfl) (by simp) ?_
      refine AllReadyH.cons rfl (fun K hK => ?_) AllReadyH.nil
      go_simp
      go_at_call 67
      refine (HD.out _).mono ?_
      rintro e U2 ⟨rfl, bq⟩
      have k_a := k_a.below bq k_a.lt
      have k_b := k_b.below bq k_b.lt
      have k_r := k_r.below bq k_r.lt
      have k_g := k_g.below bq k_g.lt
      have bb := bb.trans (bq.mono bb.size)
      clear bq
      refine hK.out _ _ (lcells6 k_a k_b) (fun hHeld => ?_)
      clear hK K
      (try simp only [Act.put, List.setIfInBounds_toArray, List.set_cons_zero, List.set_cons_succ])
      refine wpAnyH_take (i := 5) (oi := ?oo709) (v := ?vv709) ?hi709 (by kernel_rfl) (by kernel_rfl) (by kernel_rfl) ?hq709 ?hy709 (by assumption) ?hh709
      case hi709 => (simp only [List.getElem?_toArray, List.getElem?_cons_succ, List.getElem?_cons_zero]; rfl)
      case hq709 => exact fun _ _ _ h => h
      case hy709 => exact Or.inl ⟨by rfl, by (intro W hSw; (try dsimp only at hSw); go_simp; (try with_reducible rfl))⟩
      (try simp only [Act.put, List.setIfInBounds_toArray, List.set_cons_zero, List.set_cons_succ])
      refine wpAnyH_take (i := 6) (oi := ?oo710) (v := ?vv710) ?hi710 (by kernel_rfl) (by kernel_rfl) (by kernel_rfl) ?hq710 ?hy710 (by assumption) ?hh710
      case hi710 => (simp only [List.getElem?_toArray, List.getElem?_cons_succ, List.getElem?_cons_zero]; rfl)
      case hq710 => exact fun _ _ _ h => h
      case hy710 => exact Or.inl ⟨by rfl, by (intro W hSw; (try dsimp only at hSw); go_simp; (try with_reducible rfl))⟩
      (try simp only [Act.put, List.setIfInBounds_toArray, List.set_cons_zero, List.set_cons_succ])
      refine wpAnyH_take (i := 7) (oi := ?oo711) (v := ?vv711) ?hi711 (by kernel_rfl) (by kernel_rfl) (by kernel_rfl) ?hq711 ?hy711 (by assumption) ?hh711
      case hi711 => (simp only [List.getElem?_toArray, List.getElem?_cons_succ, List.getElem?_cons_zero]; rfl)
      case hq711 => exact fun _ _ _ h => h
      case hy711 => exact Or.inl ⟨by rfl, by (intro W hSw; (try dsimp only at hSw); go_simp; (try with_reducible rfl))⟩
      (try simp only [Act.put, List.setIfInBounds_toArray, List.set_cons_zero, List.set_cons_succ])
      obtain ⟨x_g0, x_g1, x_g2⟩ := lcells k_g
      have z_g0 := k_g.frozen 0
      have z_g1 := k_g.frozen 1
      have z_g2 := k_g.frozen 2
      have l_g := k_g.lt
      refine wpAnyH_ready (rs := [9]) (by kernel_rfl) (by simp) ?_
      refine AllReadyH.cons rfl (fun K hK => ?_) AllReadyH.nil
      go_simp
      clear x_g0 x_g1 x_g2 z_g0 z_g1 z_g2 l_g
      have k_g := k_g.lset3 (.int .u8 d) (.bool m) (.int .i64 z)
      have k_a := k_a.lfar3 g (by omega) (.int .u8 d) (.bool m) (.int .i64 z)
      have k_b := k_b.lfar3 g (by omega) (.int .u8 d) (.bool m) (.int .i64 z)
      have k_r := k_r.lfar3 g (by omega) (.int .u8 d) (.bool m) (.int .i64 z)
      have bb := lbelow3 bb g (by omega) (.int .u8 d) (.bool m) (.int .i64 z)
      refine hK.out _ _ (lcells6 k_a k_b) (fun hHeld => ?_)
      clear hK K
      generalize (((U2.setCell ⟨g, 0, none⟩ (.int .u8 d)).setCell ⟨g, 1, none⟩ (.bool m)).setCell ⟨g, 2, none⟩ (.int .i64 z)) = U3 at *
      (try simp only [Act.put, List.setIfInBounds_toArray, List.set_cons_zero, List.set_cons_succ])
      refine wpAnyH_take (i := 10) (oi := ?oo712) (v := ?vv712) ?hi712 (by kernel_rfl) (by kernel_rfl) (by kernel_rfl) ?hq712 ?hy712 (by assumption) ?hh712
      case hi712 => (simp only [List.getElem?_toArray, List.getElem?_cons_succ, List.getElem?_cons_zero]; rfl)
      case hq712 => exact fun _ _ _ h => h
      case hy712 => exact Or.inl ⟨by rfl, by (intro W hSw; (try dsimp only at hSw); go_simp; (try with_reducible rfl))⟩
      (try simp only [Act.put, List.setIfInBounds_toArray, List.set_cons_zero, List.set_cons_succ])
      refine wpAnyH_done (by kernel_rfl) ?_ _
      go_wp2_with fail
      go_meet
      exact ⟨g, rfl, rfl, ⟨bb, k_g, k_r⟩⟩
  case rest =>
  obtain ⟨g, rfl, rfl, ⟨bb, k_g, k_r⟩⟩ := hcut
  have x_g0 := c30 k_g
  have x_g1 := c31 k_g
  have x_g2 := c32 k_g
  have l_g := k_g.lt
  have x_r0 := c30 k_r
  have x_r1 := c31 k_r
  have x_r2 := c32 k_r
  have l_r := k_r.lt
  go_wp2_with fail
  refine (HV.out _).mono ?_
  rintro e w1 ⟨rfl, b1⟩
  clear x_g0 x_g1 x_g2 l_g x_r0 x_r1 x_r2 l_r
  have k_g := k_g.below b1 k_g.lt
  have k_r := k_r.below b1 k_r.lt
  have bb := bb.trans (b1.mono bb.size)
  have x_g0 : w1.cell? ⟨g, 0, none⟩ = some (.int .u8 d) := by rw [k_g.cell]; rfl
  have x_g1 : w1.cell? ⟨g, 1, none⟩ = some (.bool m) := by rw [k_g.cell]; rfl
  have x_g2 : w1.cell? ⟨g, 2, none⟩ = some (.int .i64 z) := by rw [k_g.cell]; rfl
  have l_g := k_g.lt
  have x_r0 : w1.cell? ⟨w.heap.size + 2, 0, none⟩ = some (.int .i64 0) := by rw [k_r.cell]; rfl
  have x_r1 : w1.cell? ⟨w.heap.size + 2, 1, none⟩ = some (.int .i64 0) := by rw [k_r.cell]; rfl
  have x_r2 : w1.cell? ⟨w.heap.size + 2, 2, none⟩ = some (.string ⟨#[]⟩) := by rw [k_r.cell]; rfl
  have l_r := k_r.lt
  have z_r0 := k_r.frozen 0
  have z_r1 := k_r.frozen 1
  have z_r2 := k_r.frozen 2
  go_wp2
  exact bodyPost_ret (v := (.tuple #[VN pk pn, .int .i64 0])) (by simp [results, Tryd.results48, go_sem, x_r0, x_r1, x_r2, l_r]) rfl ⟨rfl, (((bb).setCell (p := ⟨w.heap.size + 2, 0, none⟩) (by first | exact Nat.le_refl _ | (simp; done) | (simp; omega) | omega) _).setCell (p := ⟨w.heap.size + 2, 1, none⟩) (by first | exact Nat.le_refl _ | (simp; done) | (simp; omega) | omega) _).setCell (p := ⟨w.heap.size + 2, 2, none⟩) (by first | exact Nat.le_refl _ | (simp; done) | (simp; omega) | omega) _⟩
set_option maxHeartbeats 4000000 in
set_option maxRecDepth 100000 in
theorem rreck_add_false (d1 : Int) (m1 : Bool) (z1 d2 : Int) (m2 : Bool) (z2 d : Int) (m : Bool) (z : Int) (w : World)
    (CD : ∀ W, Calls Tryd.prog 67 #[.int .u8 43, RV d1 m1 z1, RV d2 m2 z2] W (Ret (.tuple #[RV d m z, .bool false]) W)) :
    Calls Tryd.prog 48 #[.string ⟨#[43]⟩, RV d1 m1 z1, RV d2 m2 z2] w (Ret (.tuple #[VS 0 0 ⟨#[]⟩, .int .i64 2]) w) := by
  have HD := Lib.hid CD
  clear CD
  go_enter Tryd.func48, Tryd.ntmps48
  go_upto_region 5 with fail
  have k_a := ((Blk.new w 58 #[.int .u8 d1, .bool m1, .int .i64 z1]).alloc (.cells #[.int .u8 d2, .bool m2, .int .i64 z2] 58)).alloc (.cells #[.int .i64 0, .int .i64 0, .string ⟨#[]⟩] 27)
  have k_b := (Blk.new (w.alloc (.cells #[.int .u8 d1, .bool m1, .int .i64 z1] 58)) 58 #[.int .u8 d2, .bool m2, .int .i64 z2]).alloc (.cells #[.int .i64 0, .int .i64 0, .string ⟨#[]⟩] 27)
  rw [World.size_alloc] at k_b
  have k_r := Blk.new ((w.alloc (.cells #[.int .u8 d1, .bool m1, .int .i64 z1] 58)).alloc (.cells #[.int .u8 d2, .bool m2, .int .i64 z2] 58)) 27 #[.int .i64 0, .int .i64 0, .string ⟨#[]⟩]
  rw [World.size_alloc, World.size_alloc] at k_r
  have bb : Below w.heap.size w _ := ((((Below.refl _ _).alloc (Nat.le_refl _) (.cells #[.int .u8 d1, .bool m1, .int .i64 z1] 58)).alloc (by simp) (.cells #[.int .u8 d2, .bool m2, .int .i64 z2] 58)).alloc (by simp; omega) (.cells #[.int .i64 0, .int .i64 0, .string ⟨#[]⟩] 27))
  generalize (((w.alloc (.cells #[.int .u8 d1, .bool m1, .int .i64 z1] 58)).alloc (.cells #[.int .u8 d2, .bool m2, .int .i64 z2] 58)).alloc (.cells #[.int .i64 0, .int .i64 0, .string ⟨#[]⟩] 27)) = W0 at *
  go_cut [8, 9] (fun s8 s9 wx => ∃ g, s8 = .pointer (some ⟨g, 0, none⟩) ∧ s9 = .bool false ∧ Rk w wx g d m z)
  case first =>
    have k_a := k_a.drew
    have k_b := k_b.drew
    have k_r := k_r.drew
    have bb := bb.drew
    refine wp_region_held_drew (S := (fun W => W.cell? ⟨w.heap.size, 0, none⟩ = some (.int .u8 d1) ∧ W.cell? ⟨w.heap.size, 1, none⟩ = some (.bool m1) ∧ W.cell? ⟨w.heap.size, 2, none⟩ = some (.int .i64 z1) ∧ W.cell? ⟨w.heap.size + 1, 0, none⟩ = some (.int .u8 d2) ∧ W.cell? ⟨w.heap.size + 1, 1, none⟩ = some (.bool m2) ∧ W.cell? ⟨w.heap.size + 1, 2, none⟩ = some (.int .i64 z2))) (by kernel_rfl) (lcells6 k_a k_b) (fun hHeld => ?_)
    generalize W0.drew = D0 at *
    refine wpAnyH_take (i := 0) (oi := ?oo713) (v := ?vv713) ?hi713 (by kernel_rfl) (by kernel_rfl) (by kernel_rfl) ?hq713 ?hy713 (by assumption) ?hh713
    case hi713 => (simp only [List.getElem?_toArray, List.getElem?_cons_succ, List.getElem?_cons_zero]; rfl)
    case hq713 => exact fun _ _ _ h => h
    case hy713 => exact Or.inl ⟨by rfl, by (intro W hSw; (try dsimp only at hSw); go_simp; (try with_reducible rfl))⟩
    (try simp only [Act.put, List.setIfInBounds_toArray, List.set_cons_zero, List.set_cons_succ])
    refine wpAnyH_take (i := 1) (oi := ?oo714) (v := ?vv714) ?hi714 (by kernel_rfl) (by kernel_rfl) (by kernel_rfl) ?hq714 ?hy714 (by assumption) ?hh714
    case hi714 => (simp only [List.getElem?_toArray, List.getElem?_cons_succ, List.getElem?_cons_zero]; rfl)
    case hq714 => exact fun _ _ _ h => h
    case hy714 => exact Or.inl ⟨by rfl, by (intro W hSw; (try dsimp only at hSw); go_simp; (try with_reducible rfl))⟩
    (try simp only [Act.put, List.setIfInBounds_toArray, List.set_cons_zero, List.set_cons_succ])
    refine wpAnyH_take (i := 2) (oi := ?oo715) (v := ?vv715) ?hi715 (by kernel_rfl) (by kernel_rfl) (by kernel_rfl) ?hq715 ?hy715 (by assumption) ?hh715
    case hi715 => (simp only [List.getElem?_toArray, List.getElem?_cons_succ, List.getElem?_cons_zero]; rfl)
    case hq715 => exact fun _ _ _ h => h
    case hy715 => exact Or.inl ⟨by rfl, by (intro W hSw; (try dsimp only at hSw); go_simp; (try with_reducible rfl))⟩
    (try simp only [Act.put, List.setIfInBounds_toArray, List.set_cons_zero, List.set_cons_succ])
    refine wpAnyH_take (i := 3) (oi := ?oo716) (v := ?vv716) ?hi716 (by kernel_rfl) (by kernel_rfl) (by kernel_rfl) ?hq716 ?hy716 (by assumption) ?hh716
    case hi716 => (simp only [List.getElem?_toArray, List.getElem?_cons_succ, List.getElem?_cons_zero]; rfl)
    case hq716 => exact fun _ _ _ h => h
    case hy716 => exact Or.inl ⟨by rfl, by (intro W hSw; (try dsimp only at hSw); go_simp; (try with_reducible rfl))⟩
    (try simp only [Act.put, List.setIfInBounds_toArray, List.set_cons_zero, List.set_cons_succ])
    refine wpAnyH_ready (rs := [4, 8]) (by kernel_rfl) (by simp) ?_
    refine AllReadyH.cons rfl (fun K hK => ?_) (AllReadyH.cons rfl (fun K hK => ?_) AllReadyH.nil)
    · skip
      go_simp
      go_at_call 67
      refine (HD.out _).mono ?_
      rintro e U1 ⟨rfl, bq⟩
      have k_a := k_a.below bq k_a.lt
      have k_b := k_b.below bq k_b.lt
      have k_r := k_r.below bq k_r.lt
      have bb := bb.trans (bq.mono bb.size)
      clear bq
      refine hK.out _ _ (lcells6 k_a k_b) (fun hHeld => ?_)
      clear hK K
      (try simp only [Act.put, List.setIfInBounds_toArray, List.set_cons_zero, List.set_cons_succ])
      refine wpAnyH_take (i := 5) (oi := ?oo717) (v := ?vv717) ?hi717 (by kernel_rfl) (by kernel_rfl) (by kernel_rfl) ?hq717 ?hy717 (by assumption) ?hh717
      case hi717 => (simp only [List.getElem?_toArray, List.getElem?_cons_succ, List.getElem?_cons_zero]; rfl)
      case hq717 => exact fun _ _ _ h => h
      case hy717 => exact Or.inl ⟨by rfl, by (intro W hSw; (try dsimp only at hSw); go_simp; (try with_reducible rfl))⟩
      (try simp only [Act.put, List.setIfInBounds_toArray, List.set_cons_zero, List.set_cons_succ])
      refine wpAnyH_take (i := 6) (oi := ?oo718) (v := ?vv718) ?hi718 (by kernel_rfl) (by kernel_rfl) (by kernel_rfl) ?hq718 ?hy718 (by assumption) ?hh718
      case hi718 => (simp only [List.getElem?_toArray, List.getElem?_cons_succ, List.getElem?_cons_zero]; rfl)
      case hq718 => exact fun _ _ _ h => h
      case hy718 => exact Or.inl ⟨by rfl, by (intro W hSw; (try dsimp only at hSw); go_simp; (try with_reducible rfl))⟩
      (try simp only [Act.put, List.setIfInBounds_toArray, List.set_cons_zero, List.set_cons_succ])
      refine wpAnyH_take (i := 7) (oi := ?oo719) (v := ?vv719) ?hi719 (by kernel_rfl) (by kernel_rfl) (by kernel_rfl) ?hq719 ?hy719 (by assumption) ?hh719
      case hi719 => (simp only [List.getElem?_toArray, List.getElem?_cons_succ, List.getElem?_cons_zero]; rfl)
      case hq719 => exact fun _ _ _ h => h
      case hy719 => exact Or.inl ⟨by rfl, by (intro W hSw; (try dsimp only at hSw); go_simp; (try with_reducible rfl))⟩
      (try simp only [Act.put, List.setIfInBounds_toArray, List.set_cons_zero, List.set_cons_succ])
      refine wpAnyH_ready (rs := [8]) (by kernel_rfl) (by simp) ?_
      refine AllReadyH.cons rfl (fun K hK => ?_) AllReadyH.nil
      go_simp
      have n_q := k_r.lt
      have k_a := k_a.alloc (.cells #[.int .u8 0, .bool false, .int .i64 0] 58)
      have k_b := k_b.alloc (.cells #[.int .u8 0, .bool false, .int .i64 0] 58)
      have k_r := k_r.alloc (.cells #[.int .u8 0, .bool false, .int .i64 0] 58)
      have k_g := Blk.new U1 58 #[.int .u8 0, .bool false, .int .i64 0]
      have bb := bb.alloc bb.size (.cells #[.int .u8 0, .bool false, .int .i64 0] 58)
      refine hK.out _ _ (lcells6 k_a k_b) (fun hHeld => ?_)
      clear hK K
      generalize U1.alloc (.cells #[.int .u8 0, .bool false, .int .i64 0] 58) = U2 at *
      generalize U1.heap.size = g at *
      (try simp only [Act.put, List.setIfInBounds_toArray, List.set_cons_zero, List.set_cons_succ])
      obtain ⟨x_g0, x_g1, x_g2⟩ := lcells k_g
      have z_g0 := k_g.frozen 0
      have z_g1 := k_g.frozen 1
      have z_g2 := k_g.frozen 2
      have l_g := k_g.lt
      refine wpAnyH_ready (rs := [9]) (by kernel_rfl) (by simp) ?_
      refine AllReadyH.cons rfl (fun K hK => ?_) AllReadyH.nil
      go_simp
      clear x_g0 x_g1 x_g2 z_g0 z_g1 z_g2 l_g
      have k_g := k_g.lset3 (.int .u8 d) (.bool m) (.int .i64 z)
      have k_a := k_a.lfar3 g (by omega) (.int .u8 d) (.bool m) (.int .i64 z)
      have k_b := k_b.lfar3 g (by omega) (.int .u8 d) (.bool m) (.int .i64 z)
      have k_r := k_r.lfar3 g (by omega) (.int .u8 d) (.bool m) (.int .i64 z)
      have bb := lbelow3 bb g (by omega) (.int .u8 d) (.bool m) (.int .i64 z)
      refine hK.out _ _ (lcells6 k_a k_b) (fun hHeld => ?_)
      clear hK K
      generalize (((U2.setCell ⟨g, 0, none⟩ (.int .u8 d)).setCell ⟨g, 1, none⟩ (.bool m)).setCell ⟨g, 2, none⟩ (.int .i64 z)) = U3 at *
      (try simp only [Act.put, List.setIfInBounds_toArray, List.set_cons_zero, List.set_cons_succ])
      refine wpAnyH_take (i := 10) (oi := ?oo720) (v := ?vv720) ?hi720 (by kernel_rfl) (by kernel_rfl) (by kernel_rfl) ?hq720 ?hy720 (by assumption) ?hh720
      case hi720 => (simp only [List.getElem?_toArray, List.getElem?_cons_succ, List.getElem?_cons_zero]; rfl)
      case hq720 => exact fun _ _ _ h => h
      case hy720 => exact Or.inl ⟨by rfl, by (intro W hSw; (try dsimp only at hSw); go_simp; (try with_reducible rfl))⟩
      (try simp only [Act.put, List.setIfInBounds_toArray, List.set_cons_zero, List.set_cons_succ])
      refine wpAnyH_done (by kernel_rfl) ?_ _
      go_wp2_with fail
      go_meet
      exact ⟨g, rfl, rfl, ⟨bb, k_g, k_r⟩⟩
    · skip
      go_simp
      have n_q := k_r.lt
      have k_a := k_a.alloc (.cells #[.int .u8 0, .bool false, .int .i64 0] 58)
      have k_b := k_b.alloc (.cells #[.int .u8 0, .bool false, .int .i64 0] 58)
      have k_r := k_r.alloc (.cells #[.int .u8 0, .bool false, .int .i64 0] 58)
      have k_g := Blk.new D0 58 #[.int .u8 0, .bool false, .int .i64 0]
      have bb := bb.alloc bb.size (.cells #[.int .u8 0, .bool false, .int .i64 0] 58)
      refine hK.out _ _ (lcells6 k_a k_b) (fun hHeld => ?_)
      clear hK K
      generalize D0.alloc (.cells #[.int .u8 0, .bool false, .int .i64 0] 58) = U1 at *
      generalize D0.heap.size = g at *
      (try simp only [Act.put, List.setIfInBounds_toArray, List.set_cons_zero, List.set_cons_succ])
      refine wpAnyH_ready (rs := [4]) (by kernel_rfl) (by simp) ?_
      refine AllReadyH.cons rfl (fun K hK => ?_) AllReadyH.nil
      go_simp
      go_at_call 67
      refine (HD.out _).mono ?_
      rintro e U2 ⟨rfl, bq⟩
      have k_a := k_a.below bq k_a.lt
      have k_b := k_b.below bq k_b.lt
      have k_r := k_r.below bq k_r.lt
      have k_g := k_g.below bq k_g.lt
      have bb := bb.trans (bq.mono bb.size)
      clear bq
      refine hK.out _ _ (lcells6 k_a k_b) (fun hHeld => ?_)
      clear hK K
      (try simp only [Act.put, List.setIfInBounds_toArray, List.set_cons_zero, List.set_cons_succ])
      refine wpAnyH_take (i := 5) (oi := ?oo721) (v := ?vv721) ?hi721 (by kernel_rfl) (by kernel_rfl) (by kernel_rfl) ?hq721 ?hy721 (by assumption) ?hh721
      case hi721 => (simp only [List.getElem?_toArray, List.getElem?_cons_succ, List.getElem?_cons_zero]; rfl)
      case hq721 => exact fun _ _ _ h => h
      case hy721 => exact Or.inl ⟨by rfl, by (intro W hSw; (try dsimp only at hSw); go_simp; (try with_reducible rfl))⟩
      (try simp only [Act.put, List.setIfInBounds_toArray, List.set_cons_zero, List.set_cons_succ])
      refine wpAnyH_take (i := 6) (oi := ?oo722) (v := ?vv722) ?hi722 (by kernel_rfl) (by kernel_rfl) (by kernel_rfl) ?hq722 ?hy722 (by assumption) ?hh722
      case hi722 => (simp only [List.getElem?_toArray, List.getElem?_cons_succ, List.getElem?_cons_zero]; rfl)
      case hq722 => exact fun _ _ _ h => h
      case hy722 => exact Or.inl ⟨by rfl, by (intro W hSw; (try dsimp only at hSw); go_simp; (try with_reducible rfl))⟩
      (try simp only [Act.put, List.setIfInBounds_toArray, List.set_cons_zero, List.set_cons_succ])
      refine wpAnyH_take (i := 7) (oi := ?oo723) (v := ?vv723) ?hi723 (by kernel_rfl) (by kernel_rfl) (by kernel_rfl) ?hq723 ?hy723 (by assumption) ?hh723
      case hi723 => (simp only [List.getElem?_toArray, List.getElem?_cons_succ, List.getElem?_cons_zero]; rfl)
      case hq723 => exact fun _ _ _ h => h
      case hy723 => exact Or.inl ⟨by rfl, by (intro W hSw; (try dsimp only at hSw); go_simp; (try with_reducible rfl))⟩
      (try simp only [Act.put, List.setIfInBounds_toArray, List.set_cons_zero, List.set_cons_succ])
      obtain ⟨x_g0, x_g1, x_g2⟩ := lcells k_g
      have z_g0 := k_g.frozen 0
      have z_g1 := k_g.frozen 1
      have z_g2 := k_g.frozen 2
      have l_g := k_g.lt
      refine wpAnyH_ready (rs := [9]) (by kernel_rfl) (by simp) ?_
      refine AllReadyH.cons rfl (fun K hK => ?_) AllReadyH.nil
      go_simp
      clear x_g0 x_g1 x_g2 z_g0 z_g1 z_g2 l_g
      have k_g := k_g.lset3 (.int .u8 d) (.bool m) (.int .i64 z)
      have k_a := k_a.lfar3 g (by omega) (.int .u8 d) (.bool m) (.int .i64 z)
      have k_b := k_b.lfar3 g (by omega) (.int .u8 d) (.bool m) (.int .i64 z)
      have k_r := k_r.lfar3 g (by omega) (.int .u8 d) (.bool m) (.int .i64 z)
      have bb := lbelow3 bb g (by omega) (.int .u8 d) (.bool m) (.int .i64 z)
      refine hK.out _ _ (lcells6 k_a k_b) (fun hHeld => ?_)
      clear hK K
      generalize (((U2.setCell ⟨g, 0, none⟩ (.int .u8 d)).setCell ⟨g, 1, none⟩ (.bool m)).setCell ⟨g, 2, none⟩ (.int .i64 z)) = U3 at *
      (try simp only [Act.put, List.setIfInBounds_toArray, List.set_cons_zero, List.set_cons_succ])
      refine wpAnyH_take (i := 10) (oi := ?oo724) (v := ?vv724) ?hi724 (by kernel_rfl) (by kernel_rfl) (by kernel_rfl) ?hq724 ?hy724 (by assumption) ?hh724
      case hi724 => (simp only [List.getElem?_toArray, List.getElem?_cons_succ, List.getElem?_cons_zero]; rfl)
      case hq724 => exact fun _ _ _ h => h
      case hy724 => exact Or.inl ⟨by rfl, by (intro W hSw; (try dsimp only at hSw); go_simp; (try with_reducible rfl))⟩
      (try simp only [Act.put, List.setIfInBounds_toArray, List.set_cons_zero, List.set_cons_succ])
      refine wpAnyH_done (by kernel_rfl) ?_ _
      go_wp2_with fail
      go_meet
      exact ⟨g, rfl, rfl, ⟨bb, k_g, k_r⟩⟩
  case rest =>
  obtain ⟨g, rfl, rfl, ⟨bb, k_g, k_r⟩⟩ := hcut
  have x_g0 := c30 k_g
  have x_g1 := c31 k_g
  have x_g2 := c32 k_g
  have l_g := k_g.lt
  have x_r0 := c30 k_r
  have x_r1 := c31 k_r
  have x_r2 := c32 k_r
  have l_r := k_r.lt
  have z_r0 := k_r.frozen 0
  have z_r1 := k_r.frozen 1
  have z_r2 := k_r.frozen 2
  go_wp2
  exact bodyPost_ret (v := (.tuple #[VS 0 0 ⟨#[]⟩, .int .i64 2])) (by simp [results, Tryd.results48, go_sem, x_r0, x_r1, x_r2, l_r]) rfl ⟨rfl, (((bb).setCell (p := ⟨w.heap.size + 2, 0, none⟩) (by first | exact Nat.le_refl _ | (simp; done) | (simp; omega) | omega) _).setCell (p := ⟨w.heap.size + 2, 1, none⟩) (by first | exact Nat.le_refl _ | (simp; done) | (simp; omega) | omega) _).setCell (p := ⟨w.heap.size + 2, 2, none⟩) (by first | exact Nat.le_refl _ | (simp; done) | (simp; omega) | omega) _⟩
set_option maxHeartbeats 4000000 in
set_option maxRecDepth 100000 in
theorem rreck_sub_true (d1 : Int) (m1 : Bool) (z1 d2 : Int) (m2 : Bool) (z2 d : Int) (m : Bool) (z : Int) (pk pn : Int) (w : World)
    (CD : ∀ W, Calls Tryd.prog 67 #[.int .u8 45, RV d1 m1 z1, RV d2 m2 z2] W (Ret (.tuple #[RV d m z, .bool true]) W)) (CV : ∀ W, Calls Tryd.prog 66 #[RV d m z] W (Ret (VN pk pn) W)) :
    Calls Tryd.prog 48 #[.string ⟨#[45]⟩, RV d1 m1 z1, RV d2 m2 z2] w (Ret (.tuple #[VN pk pn, .int .i64 0]) w) := by
  have HD := Lib.hid CD
  clear CD
  have HV := Lib.hid CV
  clear CV
  go_enter Tryd.func48, Tryd.ntmps48
  go_upto_region 5 with fail
  have k_a := ((Blk.new w 58 #[.int .u8 d1, .bool m1, .int .i64 z1]).alloc (.cells #[.int .u8 d2, .bool m2, .int .i64 z2] 58)).alloc (.cells #[.int .i64 0, .int .i64 0, .string ⟨#[]⟩] 27)
  have k_b := (Blk.new (w.alloc (.cells #[.int .u8 d1, .bool m1, .int .i64 z1] 58)) 58 #[.int .u8 d2, .bool m2, .int .i64 z2]).alloc (.cells #[.int .i64 0, .int .i64 0, .string ⟨#[]⟩] 27)
  rw [World.size_alloc] at k_b
  have k_r := Blk.new ((w.alloc (.cells #[.int .u8 d1, .bool m1, .int .i64 z1] 58)).alloc (.cells #[.int .u8 d2, .bool m2, .int .i64 z2] 58)) 27 #[.int .i64 0, .int .i64 0, .string ⟨#[]⟩]
  rw [World.size_alloc, World.size_alloc] at k_r
  have bb : Below w.heap.size w _ := ((((Below.refl _ _).alloc (Nat.le_refl _) (.cells #[.int .u8 d1, .bool m1, .int .i64 z1] 58)).alloc (by simp) (.cells #[.int .u8 d2, .bool m2, .int .i64 z2] 58)).alloc (by simp; omega) (.cells #[.int .i64 0, .int .i64 0, .string ⟨#[]⟩] 27))
  generalize (((w.alloc (.cells #[.int .u8 d1, .bool m1, .int .i64 z1] 58)).alloc (.cells #[.int .u8 d2, .bool m2, .int .i64 z2] 58)).alloc (.cells #[.int .i64 0, .int .i64 0, .string ⟨#[]⟩] 27)) = W0 at *
  go_cut [8, 9] (fun s8 s9 wx => ∃ g, s8 = .pointer (some ⟨g, 0, none⟩) ∧ s9 = .bool true ∧ Rk w wx g d m z)
  case first =>
    have k_a := k_a.drew
    have k_b := k_b.drew
    have k_r := k_r.drew
    have bb := bb.drew
    refine wp_region_held_drew (S := (fun W => W.cell? ⟨w.heap.size, 0, none⟩ = some (.int .u8 d1) ∧ W.cell? ⟨w.heap.size, 1, none⟩ = some (.bool m1) ∧ W.cell? ⟨w.heap.size, 2, none⟩ = some (.int .i64 z1) ∧ W.cell? ⟨w.heap.size + 1, 0, none⟩ = some (.int .u8 d2) ∧ W.cell? ⟨w.heap.size + 1, 1, none⟩ = some (.bool m2) ∧ W.cell? ⟨w.heap.size + 1, 2, none⟩ = some (.int .i64 z2))) (by kernel_rfl) (lcells6 k_a k_b) (fun hHeld => ?_)
    generalize W0.drew = D0 at *
    refine wpAnyH_take (i := 0) (oi := ?oo725) (v := ?vv725) ?hi725 (by kernel_rfl) (by kernel_rfl) (by kernel_rfl) ?hq725 ?hy725 (by assumption) ?hh725
    case hi725 => (simp only [List.getElem?_toArray, List.getElem?_cons_succ, List.getElem?_cons_zero]; rfl)
    case hq725 => exact fun _ _ _ h => h
    case hy725 => exact Or.inl ⟨by rfl, by (intro W hSw; (try dsimp only at hSw); go_simp; (try with_reducible rfl))⟩
    (try simp only [Act.put, List.setIfInBounds_toArray, List.set_cons_zero, List.set_cons_succ])
    refine wpAnyH_take (i := 1) (oi := ?oo726) (v := ?vv726) ?hi726 (by kernel_rfl) (by kernel_rfl) (by kernel_rfl) ?hq726 ?hy726 (by assumption) ?hh726
    case hi726 => (simp only [List.getElem?_toArray, List.getElem?_cons_succ, List.getElem?_cons_zero]; rfl)
    case hq726 => exact fun _ _ _ h => h
    case hy726 => exact Or.inl ⟨by rfl, by (intro W hSw; (try dsimp only at hSw); go_simp; (try with_reducible rfl))⟩
    (try simp only [Act.put, List.setIfInBounds_toArray, List.set_cons_zero, List.set_cons_succ])
    refine wpAnyH_take (i := 2) (oi := ?oo727) (v := ?vv727) ?hi727 (by kernel_rfl) (by kernel_rfl) (by kernel_rfl) ?hq727 ?hy727 (by assumption) ?hh727
    case hi727 => (simp only [List.getElem?_toArray, List.getElem?_cons_succ, List.getElem?_cons_zero]; rfl)
    case hq727 => exact fun _ _ _ h => h
    case hy727 => exact Or.inl ⟨by rfl, by (intro W hSw; (try dsimp only at hSw); go_simp; (try with_reducible rfl))⟩
    (try simp only [Act.put, List.setIfInBounds_toArray, List.set_cons_zero, List.set_cons_succ])
    refine wpAnyH_take (i := 3) (oi := ?oo728) (v := ?vv728) ?hi728 (by kernel_rfl) (by kernel_rfl) (by kernel_rfl) ?hq728 ?hy728 (by assumption) ?hh728
    case hi728 => (simp only [List.getElem?_toArray, List.getElem?_cons_succ, List.getElem?_cons_zero]; rfl)
    case hq728 => exact fun _ _ _ h => h
    case hy728 => exact Or.inl ⟨by rfl, by (intro W hSw; (try dsimp only at hSw); go_simp; (try with_reducible rfl))⟩
    (try simp only [Act.put, List.setIfInBounds_toArray, List.set_cons_zero, List.set_cons_succ])
    refine wpAnyH_ready (rs := [4, 8]) (by kernel_rfl) (by simp) ?_
    refine AllReadyH.cons rfl (fun K hK => ?_) (AllReadyH.cons rfl (fun K hK => ?_) AllReadyH.nil)
    · skip
      go_simp
      go_at_call 67
      refine (HD.out _).mono ?_
      rintro e U1 ⟨rfl, bq⟩
      have k_a := k_a.below bq k_a.lt
      have k_b := k_b.below bq k_b.lt
      have k_r := k_r.below bq k_r.lt
      have bb := bb.trans (bq.mono bb.size)
      clear bq
      refine hK.out _ _ (lcells6 k_a k_b) (fun hHeld => ?_)
      clear hK K
      (try simp only [Act.put, List.setIfInBounds_toArray, List.set_cons_zero, List.set_cons_succ])
      refine wpAnyH_take (i := 5) (oi := ?oo729) (v := ?vv729) ?hi729 (by kernel_rfl) (by kernel_rfl) (by kernel_rfl) ?hq729 ?hy729 (by assumption) ?hh729
      case hi729 => (simp only [List.getElem?_toArray, List.getElem?_cons_succ, List.getElem?_cons_zero]; rfl)
      case hq729 => exact fun _ _ _ h => h
      case hy729 => exact Or.inl ⟨by rfl, by (intro W hSw; (try dsimp only at hSw); go_simp; (try with_reducible rfl))⟩
      (try simp only [Act.put, List.setIfInBounds_toArray, List.set_cons_zero, List.set_cons_succ])
      refine wpAnyH_take (i := 6) (oi := ?oo730) (v := ?vv730) ?hi730 (by kernel_rfl) (by kernel_rfl) (by kernel_rfl) ?hq730 ?hy730 (by assumption) ?hh730
      case hi730 => (simp only [List.getElem?_toArray, List.getElem?_cons_succ, List.getElem?_cons_zero]; rfl)
      case hq730 => exact fun _ _ _ h => h
      case hy730 => exact Or.inl ⟨by rfl, by (intro W hSw; (try dsimp only at hSw); go_simp; (try with_reducible rfl))⟩
      (try simp only [Act.put, List.setIfInBounds_toArray, List.set_cons_zero, List.set_cons_succ])
      refine wpAnyH_take (i := 7) (oi := ?oo731) (v := ?vv731) ?hi731 (by kernel_rfl) (by kernel_rfl) (by kernel_rfl) ?hq731 ?hy731 (by assumption) ?hh731
      case hi731 => (simp only [List.getElem?_toArray, List.getElem?_cons_succ, List.getElem?_cons_zero]; rfl)
      case hq731 => exact fun _ _ _ h => h
      case hy731 => exact Or.inl ⟨by rfl, by (intro W hSw; (try dsimp only at hSw); go_simp; (try with_reducible rfl))⟩
      (try simp only [Act.put, List.setIfInBounds_toArray, List.set_cons_zero, List.set_cons_succ])
      refine wpAnyH_ready (rs := [8]) (by kernel_rfl) (by simp) ?_
      refine AllReadyH.cons rfl (fun K hK => ?_) AllReadyH.nil
      go_simp
      have n_q := k_r.lt
      have k_a := k_a.alloc (.cells #[.int .u8 0, .bool false, .int .i64 0] 58)
      have k_b := k_b.alloc (.cells #[.int .u8 0, .bool false, .int .i64 0] 58)
      have k_r := k_r.alloc (.cells #[.int .u8 0, .bool false, .int .i64 0] 58)
      have k_g := Blk.new U1 58 #[.int .u8 0, .bool false, .int .i64 0]
      have bb := bb.alloc bb.size (.cells #[.int .u8 0, .bool false, .int .i64 0] 58)
      refine hK.out _ _ (lcells6 k_a k_b) (fun hHeld => ?_)
      clear hK K
      generalize U1.alloc (.cells #[.int .u8 0, .bool false, .int .i64 0] 58) = U2 at *
      generalize U1.heap.size = g at *
      (try simp only [Act.put, List.setIfInBounds_toArray, List.set_cons_zero, List.set_cons_succ])
      obtain ⟨x_g0, x_g1, x_g2⟩ := lcells k_g
      have z_g0 := k_g.frozen 0
      have z_g1 := k_g.frozen 1
      have z_g2 := k_g.frozen 2
      have l_g := k_g.lt
      refine wpAnyH_ready (rs := [9]) (by kernel_rfl) (by simp) ?_
      refine AllReadyH.cons rfl (fun K hK => ?_) AllReadyH.nil
      go_simp
      clear x_g0 x_g1 x_g2 z_g0 z_g1 z_g2 l_g
      have k_g := k_g.lset3 (.int .u8 d) (.bool m) (.int .i64 z)
      have k_a := k_a.lfar3 g (by omega) (.int .u8 d) (.bool m) (.int .i64 z)
      have k_b := k_b.lfar3 g (by omega) (.int .u8 d) (.bool m) (.int .i64 z)
      have k_r := k_r.lfar3 g (by omega) (.int .u8 d) (.bool m) (.int .i64 z)
      have bb := lbelow3 bb g (by omega) (.int .u8 d) (.bool m) (.int .i64 z)
      refine hK.out _ _ (lcells6 k_a k_b) (fun hHeld => ?_)
      clear hK K
      generalize (((U2.setCell ⟨g, 0, none⟩ (.int .u8 d)).setCell ⟨g, 1, none⟩ (.bool m)).setCell ⟨g, 2, none⟩ (.int .i64 z)) = U3 at *
      (try simp only [Act.put, List.setIfInBounds_toArray, List.set_cons_zero, List.set_cons_succ])
      refine wpAnyH_take (i := 10) (oi := ?oo732) (v := ?vv732) ?hi732 (by kernel_rfl) (by kernel_rfl) (by kernel_rfl) ?hq732 ?hy732 (by assumption) ?hh732
      case hi732 => (simp only [List.getElem?_toArray, List.getElem?_cons_succ, List.getElem?_cons_zero]; rfl)
      case hq732 => exact fun _ _ _ h => h
      case hy732 => exact Or.inl ⟨by rfl, by (intro W hSw; (try dsimp only at hSw); go_simp; (try with_reducible rfl))⟩
      (try simp only [Act.put, List.setIfInBounds_toArray, List.set_cons_zero, List.set_cons_succ])
      refine wpAnyH_done (by kernel_rfl) ?_ _
      go_wp2_with fail
      go_meet
      exact ⟨g, rfl, rfl, ⟨bb, k_g, k_r⟩⟩
    · skip
      go_simp
      have n_q := k_r.lt
      have k_a := k_a.alloc (.cells #[.int .u8 0, .bool false, .int .i64 0] 58)
      have k_b := k_b.alloc (.cells #[.int .u8 0, .bool false, .int .i64 0] 58)
      have k_r := k_r.alloc (.cells #[.int .u8 0, .bool false, .int .i64 0] 58)
      have k_g := Blk.new D0 58 #[.int .u8 0, .bool false, .int .i64 0]
      have bb := bb.alloc bb.size (.cells #[.int .u8 0, .bool false, .int .i64 0] 58)
      refine hK.out _ _ (lcells6 k_a k_b) (fun hHeld => ?_)
      clear hK K
      generalize D0.alloc (.cells #[.int .u8 0, .bool false, .int .i64 0] 58) = U1 at *
      generalize D0.heap.size = g at *
      (try simp only [Act.put, List.setIfInBounds_toArray, List.set_cons_zero, List.set_cons_succ])
      refine wpAnyH_ready (rs := [4]) (by kernel_rfl) (by simp) ?_
      refine AllReadyH.cons rfl (fun K hK => ?_) AllReadyH.nil
      go_simp
      go_at_call 67
      refine (HD.out _).mono ?_
      rintro e U2 ⟨rfl, bq⟩
      have k_a := k_a.below bq k_a.lt
      have k_b := k_b.below bq k_b.lt
      have k_r := k_r.below bq k_r.lt
      have k_g := k_g.below bq k_g.lt
      have bb := bb.trans (bq.mono bb.size)
      clear bq
      refine hK.out _ _ (lcells6 k_a k_b) (fun hHeld => ?_)
      clear hK K
      (try simp only [Act.put, List.setIfInBounds_toArray, List.set_cons_zero, List.set_cons_succ])
      refine wpAnyH_take (i := 5) (oi := ?oo733) (v := ?vv733) ?hi733 (by kernel_rfl) (by kernel_rfl) (by kernel_rfl) ?hq733 ?hy733 (by assumption) ?hh733
      case hi733 => (simp only [List.getElem?_toArray, List.getElem?_cons_succ, List.getElem?_cons_zero]; rfl)
      case hq733 => exact fun _ _ _ h => h
      case hy733 => exact Or.inl ⟨by rfl, by (intro W hSw; (try dsimp only at hSw); go_simp; (try with_reducible rfl))⟩
      (try simp only [Act.put, List.setIfInBounds_toArray, List.set_cons_zero, List.set_cons_succ])
      refine wpAnyH_take (i := 6) (oi := ?oo734) (v := ?vv734) ?hi734 (by kernel_rfl) (by kernel_rfl) (by kernel_rfl) ?hq734 ?hy734 (by assumption) ?hh734
      case hi734 => (simp only [List.getElem?_toArray, List.getElem?_cons_succ, List.getElem?_cons_zero]; rfl)
      case hq734 => exact fun _ _ _ h => h
      case hy734 => exact Or.inl ⟨by rfl, by (intro W hSw; (try dsimp only at hSw); go_simp; (try with_reducible rfl))⟩
      (try simp only [Act.put, List.setIfInBounds_toArray, List.set_cons_zero, List.set_cons_succ])
      refine wpAnyH_take (i := 7) (oi := ?oo735) (v := ?vv735) ?hi735 (by kernel_rfl) (by kernel_rfl) (by kernel_rfl) ?hq735 ?hy735 (by assumption) ?hh735
      case hi735 => (simp only [List.getElem?_toArray, List.getElem?_cons_succ, List.getElem?_cons_zero]; rfl)
      case hq735 => exact fun _ _ _ h => h
      case hy735 => exact Or.inl ⟨by rfl, by (intro W hSw; (try dsimp only at hSw); go_simp; (try with_reducible rfl))⟩
      (try simp only [Act.put, List.setIfInBounds_toArray, List.set_cons_zero, List.set_cons_succ])
      obtain ⟨x_g0, x_g1, x_g2⟩ := lcells k_g
      have z_g0 := k_g.frozen 0
      have z_g1 := k_g.frozen 1
      have z_g2 := k_g.frozen 2
      have l_g := k_g.lt
      refine wpAnyH_ready (rs := [9]) (by kernel_rfl) (by simp) ?_
      refine AllReadyH.cons rfl (fun K hK => ?_) AllReadyH.nil
      go_simp
      clear x_g0 x_g1 x_g2 z_g0 z_g1 z_g2 l_g
      have k_g := k_g.lset3 (.int .u8 d) (.bool m) (.int .i64 z)
      have k_a := k_a.lfar3 g (by omega) (.int .u8 d) (.bool m) (.int .i64 z)
      have k_b := k_b.lfar3 g (by omega) (.int .u8 d) (.bool m) (.int .i64 z)
      have k_r := k_r.lfar3 g (by omega) (.int .u8 d) (.bool m) (.int .i64 z)
      have bb := lbelow3 bb g (by omega) (.int .u8 d) (.bool m) (.int .i64 z)
      refine hK.out _ _ (lcells6 k_a k_b) (fun hHeld => ?_)
      clear hK K
      generalize (((U2.setCell ⟨g, 0, none⟩ (.int .u8 d)).setCell ⟨g, 1, none⟩ (.bool m)).setCell ⟨g, 2, none⟩ (.int .i64 z)) = U3 at *
      (try simp only [Act.put, List.setIfInBounds_toArray, List.set_cons_zero, List.set_cons_succ])
      refine wpAnyH_take (i := 10) (oi := ?oo736) (v := ?vv736) ?hi736 (by kernel_rfl) (by kernel_rfl) (by kernel_rfl) ?hq736 ?hy736 (by assumption) ?hh736
      case hi736 => (simp only [List.getElem?_toArray, List.getElem?_cons_succ, List.getElem?_cons_zero]; rfl)
      case hq736 => exact fun _ _ _ h => h
      case hy736 => exact Or.inl ⟨by rfl, by (intro W hSw; (try dsimp only at hSw); go_simp; (try with_reducible rfl))⟩
      (try simp only [Act.put, List.setIfInBounds_toArray, List.set_cons_zero, List.set_cons_succ])
      refine wpAnyH_done (by kernel_rfl) ?_ _
      go_wp2_with fail
      go_meet
      exact ⟨g, rfl, rfl, ⟨bb, k_g, k_r⟩⟩
  case rest =>
  obtain ⟨g, rfl, rfl, ⟨bb, k_g, k_r⟩⟩ := hcut
  have x_g0 := c30 k_g
  have x_g1 := c31 k_g
  have x_g2 := c32 k_g
  have l_g := k_g.lt
  have x_r0 := c30 k_r
  have x_r1 := c31 k_r
  have x_r2 := c32 k_r
  have l_r := k_r.lt
  go_wp2_with fail
  refine (HV.out _).mono ?_
  rintro e w1 ⟨rfl, b1⟩
  clear x_g0 x_g1 x_g2 l_g x_r0 x_r1 x_r2 l_r
  have k_g := k_g.below b1 k_g.lt
  have k_r := k_r.below b1 k_r.lt
  have bb := bb.trans (b1.mono bb.size)
  have x_g0 : w1.cell? ⟨g, 0, none⟩ = some (.int .u8 d) := by rw [k_g.cell]; rfl
  have x_g1 : w1.cell? ⟨g, 1, none⟩ = some (.bool m) := by rw [k_g.cell]; rfl
  have x_g2 : w1.cell? ⟨g, 2, none⟩ = some (.int .i64 z) := by rw [k_g.cell]; rfl
  have l_g := k_g.lt
  have x_r0 : w1.cell? ⟨w.heap.size + 2, 0, none⟩ = some (.int .i64 0) := by rw [k_r.cell]; rfl
  have x_r1 : w1.cell? ⟨w.heap.size + 2, 1, none⟩ = some (.int .i64 0) := by rw [k_r.cell]; rfl
  have x_r2 : w1.cell? ⟨w.heap.size + 2, 2, none⟩ = some (.string ⟨#[]⟩) := by rw [k_r.cell]; rfl
  have l_r := k_r.lt
  have z_r0 := k_r.frozen 0
  have z_r1 := k_r.frozen 1
  have z_r2 := k_r.frozen 2
  go_wp2
  exact bodyPost_ret (v := (.tuple #[VN pk pn, .int .i64 0])) (by simp [results, Tryd.results48, go_sem, x_r0, x_r1, x_r2, l_r]) rfl ⟨rfl, (((bb).setCell (p := ⟨w.heap.size + 2, 0, none⟩) (by first | exact Nat.le_refl _ | (simp; done) | (simp; omega) | omega) _).setCell (p := ⟨w.heap.size + 2, 1, none⟩) (by first | exact Nat.le_refl _ | (simp; done) | (simp; omega) | omega) _).setCell (p := ⟨w.heap.size + 2, 2, none⟩) (by first | exact Nat.le_refl _ | (simp; done) | (simp; omega) | omega) _⟩
set_option maxHeartbeats 4000000 in
set_option maxRecDepth 100000 in
theorem rreck_sub_false (d1 : Int) (m1 : Bool) (z1 d2 : Int) (m2 : Bool) (z2 d : Int) (m : Bool) (z : Int) (w : World)
    (CD : ∀ W, Calls Tryd.prog 67 #[.int .u8 45, RV d1 m1 z1, RV d2 m2 z2] W (Ret (.tuple #[RV d m z, .bool false]) W)) :
    Calls Tryd.prog 48 #[.string ⟨#[45]⟩, RV d1 m1 z1, RV d2 m2 z2] w (Ret (.tuple #[VS 0 0 ⟨#[]⟩, .int .i64 2]) w) := by
  have HD := Lib.hid CD
  clear CD
  go_enter Tryd.func48, Tryd.ntmps48
  go_upto_region 5 with fail
  have k_a := ((Blk.new w 58 #[.int .u8 d1, .bool m1, .int .i64 z1]).alloc (.cells #[.int .u8 d2, .bool m2, .int .i64 z2] 58)).alloc (.cells #[.int .i64 0, .int .i64 0, .string ⟨#[]⟩] 27)
  have k_b := (Blk.new (w.alloc (.cells #[.int .u8 d1, .bool m1, .int .i64 z1] 58)) 58 #[.int .u8 d2, .bool m2, .int .i64 z2]).alloc (.cells #[.int .i64 0, .int .i64 0, .string ⟨#[]⟩] 27)
  rw [World.size_alloc] at k_b
  have k_r := Blk.new ((w.alloc (.cells #[.int .u8 d1, .bool m1, .int .i64 z1] 58)).alloc (.cells #[.int .u8 d2, .bool m2, .int .i64 z2] 58)) 27 #[.int .i64 0, .int .i64 0, .string ⟨#[]⟩]
  rw [World.size_alloc, World.size_alloc] at k_r
  have bb : Below w.heap.size w _ := ((((Below.refl _ _).alloc (Nat.le_refl _) (.cells #[.int .u8 d1, .bool m1, .int .i64 z1] 58)).alloc (by simp) (.cells #[.int .u8 d2, .bool m2, .int .i64 z2] 58)).alloc (by simp; omega) (.cells #[.int .i64 0, .int .i64 0, .string ⟨#[]⟩] 27))
  generalize (((w.alloc (.cells #[.int .u8 d1, .bool m1, .int .i64 z1] 58)).alloc (.cells #[.int .u8 d2, .bool m2, .int .i64 z2] 58)).alloc (.cells #[.int .i64 0, .int .i64 0, .string ⟨#[]⟩] 27)) = W0 at *
  go_cut [8, 9] (fun s8 s9 wx => ∃ g, s8 = .pointer (some ⟨g, 0, none⟩) ∧ s9 = .bool false ∧ Rk w wx g d m z)
  case first =>
    have k_a := k_a.drew
    have k_b := k_b.drew
    have k_r := k_r.drew
    have bb := bb.drew
    refine wp_region_held_drew (S := (fun W => W.cell? ⟨w.heap.size, 0, none⟩ = some (.int .u8 d1) ∧ W.cell? ⟨w.heap.size, 1, none⟩ = some (.bool m1) ∧ W.cell? ⟨w.heap.size, 2, none⟩ = some (.int .i64 z1) ∧ W.cell? ⟨w.heap.size + 1, 0, none⟩ = some (.int .u8 d2) ∧ W.cell? ⟨w.heap.size + 1, 1, none⟩ = some (.bool m2) ∧ W.cell? ⟨w.heap.size + 1, 2, none⟩ = some (.int .i64 z2))) (by kernel_rfl) (lcells6 k_a k_b) (fun hHeld => ?_)
    generalize W0.drew = D0 at *
    refine wpAnyH_take (i := 0) (oi := ?oo737) (v := ?vv737) ?hi737 (by kernel_rfl) (by kernel_rfl) (by kernel_rfl) ?hq737 ?hy737 (by assumption) ?hh737
    case hi737 => (simp only [List.getElem?_toArray, List.getElem?_cons_succ, List.getElem?_cons_zero]; rfl)
    case hq737 => exact fun _ _ _ h => h
    case hy737 => exact Or.inl ⟨by rfl, by (intro W hSw; (try dsimp only at hSw); go_simp; (try with_reducible rfl))⟩
    (try simp only [Act.put, List.setIfInBounds_toArray, List.set_cons_zero, List.set_cons_succ])
    refine wpAnyH_take (i := 1) (oi := ?oo738) (v := ?vv738) ?hi738 (by kernel_rfl) (by kernel_rfl) (by kernel_rfl) ?hq738 ?hy738 (by assumption) ?hh738
    case hi738 => (simp only [List.getElem?_toArray, List.getElem?_cons_succ, List.getElem?_cons_zero]; rfl)
    case hq738 => exact fun _ _ _ h => h
    case hy738 => exact Or.inl ⟨by rfl, by (intro W hSw; (try dsimp only at hSw); go_simp; (try with_reducible rfl))⟩
    (try simp only [Act.put, List.setIfInBounds_toArray, List.set_cons_zero, List.set_cons_succ])
    refine wpAnyH_take (i := 2) (oi := ?oo739) (v := ?vv739) ?hi739 (by kernel_rfl) (by kernel_rfl) (by kernel_rfl) ?hq739 ?hy739 (by assumption) ?hh739
    case hi739 => (simp only [List.getElem?_toArray, List.getElem?_cons_succ, List.getElem?_cons_zero]; rfl)
    case hq739 => exact fun _ _ _ h => h
    case hy739 => exact Or.inl ⟨by rfl, by (intro W hSw; (try dsimp only at hSw); go_simp; (try with_reducible rfl))⟩
    (try simp only [Act.put, List.setIfInBounds_toArray, List.set_cons_zero, List.set_cons_succ])
    refine wpAnyH_take (i := 3) (oi := ?oo740) (v := ?vv740) ?hi740 (by kernel_rfl) (by kernel_rfl) (by kernel_rfl) ?hq740 ?hy740 (by assumption) ?hh740
    case hi740 => (simp only [List.getElem?_toArray, List.getElem?_cons_succ, List.getElem?_cons_zero]; rfl)
    case hq740 => exact fun _ _ _ h => h
    case hy740 => exact Or.inl ⟨by rfl, by (intro W hSw; (try dsimp only at hSw); go_simp; (try with_reducible rfl))⟩
    (try simp only [Act.put, List.setIfInBounds_toArray, List.set_cons_zero, List.set_cons_succ])
    refine wpAnyH_ready (rs := [4, 8]) (by kernel_rfl) (by simp) ?_
    refine AllReadyH.cons rfl (fun K hK => ?_) (AllReadyH.cons rfl (fun K hK => ?_) AllReadyH.nil)
    · skip
      go_simp
      go_at_call 67
      refine (HD.out _).mono ?_
      rintro e U1 ⟨rfl, bq⟩
      have k_a := k_a.below bq k_a.lt
      have k_b := k_b.below bq k_b.lt
      have k_r := k_r.below bq k_r.lt
      have bb := bb.trans (bq.mono bb.size)
      clear bq
      refine hK.out _ _ (lcells6 k_a k_b) (fun hHeld => ?_)
      clear hK K
      (try simp only [Act.put, List.setIfInBounds_toArray, List.set_cons_zero, List.set_cons_succ])
      refine wpAnyH_take (i := 5) (oi := ?oo741) (v := ?vv741) ?hi741 (by kernel_rfl) (by kernel_rfl) (by kernel_rfl) ?hq741 ?hy741 (by assumption) ?hh741
      case hi741 => (simp only [List.getElem?_toArray, List.getElem?_cons_succ, List.getElem?_cons_zero]; rfl)
      case hq741 => exact fun _ _ _ h => h
      case hy741 => exact Or.inl ⟨by rfl, by (intro W hSw; (try dsimp only at hSw); go_simp; (try with_reducible rfl))⟩
      (try simp only [Act.put, List.setIfInBounds_toArray, List.set_cons_zero, List.set_cons_succ])
      refine wpAnyH_take (i := 6) (oi := ?oo742) (v := ?vv742) ?hi742 (by kernel_rfl) (by kernel_rfl) (by kernel_rfl) ?hq742 ?hy742 (by assumption) ?hh742
      case hi742 => (simp only [List.getElem?_toArray, List.getElem?_cons_succ, List.getElem?_cons_zero]; rfl)
      case hq742 => exact fun _ _ _ h => h
      case hy742 => exact Or.inl ⟨by rfl, by (intro W hSw; (try dsimp only at hSw); go_simp; (try with_reducible rfl))⟩
      (try simp only [Act.put, List.setIfInBounds_toArray, List.set_cons_zero, List.set_cons_succ])
      refine wpAnyH_take (i := 7) (oi := ?oo743) (v := ?vv743) ?hi743 (by kernel_rfl) (by kernel_rfl) (by kernel_rfl) ?hq743 ?hy743 (by assumption) ?hh743
      case hi743 => (simp only [List.getElem?_toArray, List.getElem?_cons_succ, List.getElem?_cons_zero]; rfl)
      case hq743 => exact fun _ _ _ h => h
      case hy743 => exact Or.inl ⟨by rfl, by (intro W hSw; (try dsimp only at hSw); go_simp; (try with_reducible rfl))⟩
      (try simp only [Act.put, List.setIfInBounds_toArray, List.set_cons_zero, List.set_cons_succ])
      refine wpAnyH_ready (rs := [8]) (by kernel_rfl) (by simp) ?_
      refine AllReadyH.cons rfl (fun K hK => ?_) AllReadyH.nil
      go_simp
      have n_q := k_r.lt
      have k_a := k_a.alloc (.cells #[.int .u8 0, .bool false, .int .i64 0] 58)
      have k_b := k_b.alloc (.cells #[.int .u8 0, .bool false, .int .i64 0] 58)
      have k_r := k_r.alloc (.cells #[.int .u8 0, .bool false, .int .i64 0] 58)
      have k_g := Blk.new U1 58 #[.int .u8 0, .bool false, .int .i64 0]
      have bb := bb.alloc bb.size (.cells #[.int .u8 0, .bool false, .int .i64 0] 58)
      refine hK.out _ _ (lcells6 k_a k_b) (fun hHeld => ?_)
      clear hK K
      generalize U1.alloc (.cells #[.int .u8 0, .bool false, .int .i64 0] 58) = U2 at *
      generalize U1.heap.size = g at *
      (try simp only [Act.put, List.setIfInBounds_toArray, List.set_cons_zero, List.set_cons_succ])
      obtain ⟨x_g0, x_g1, x_g2⟩ := lcells k_g
      have z_g0 := k_g.frozen 0
      have z_g1 := k_g.frozen 1
      have z_g2 := k_g.frozen 2
      have l_g := k_g.lt
      refine wpAnyH_ready (rs := [9]) (by kernel_rfl) (by simp) ?_
      refine AllReadyH.cons rfl (fun K hK => ?_) AllReadyH.nil
      go_simp
      clear x_g0 x_g1 x_g2 z_g0 z_g1 z_g2 l_g
      have k_g := k_g.lset3 (.int .u8 d) (.bool m) (.int .i64 z)
      have k_a := k_a.lfar3 g (by omega) (.int .u8 d) (.bool m) (.int .i64 z)
      have k_b := k_b.lfar3 g (by omega) (.int .u8 d) (.bool m) (.int .i64 z)
      have k_r := k_r.lfar3 g (by omega) (.int .u8 d) (.bool m) (.int .i64 z)
      have bb := lbelow3 bb g (by omega) (.int .u8 d) (.bool m) (.int .i64 z)
      refine hK.out _ _ (lcells6 k_a k_b) (fun hHeld => ?_)
      clear hK K
      generalize (((U2.setCell ⟨g, 0, none⟩ (.int .u8 d)).setCell ⟨g, 1, none⟩ (.bool m)).setCell ⟨g, 2, none⟩ (.int .i64 z)) = U3 at *
      (try simp only [Act.put, List.setIfInBounds_toArray, List.set_cons_zero, List.set_cons_succ])
      refine wpAnyH_take (i := 10) (oi := ?oo744) (v := ?vv744) ?hi744 (by kernel_rfl) (by kernel_rfl) (by kernel_rfl) ?hq744 ?hy744 (by assumption) ?hh744
      case hi744 => (simp only [List.getElem?_toArray, List.getElem?_cons_succ, List.getElem?_cons_zero]; rfl)
      case hq744 => exact fun _ _ _ h => h
      case hy744 => exact Or.inl ⟨by rfl, by (intro W hSw; (try dsimp only at hSw); go_simp; (try with_reducible rfl))⟩
      (try simp only [Act.put, List.setIfInBounds_toArray, List.set_cons_zero, List.set_cons_succ])
      refine wpAnyH_done (by kernel_rfl) ?_ _
      go_wp2_with fail
      go_meet
      exact ⟨g, rfl, rfl, ⟨bb, k_g, k_r⟩⟩
    · skip
      go_simp
      have n_q := k_r.lt
      have k_a := k_a.alloc (.cells #[.int .u8 0, .bool false, .int .i64 0] 58)
      have k_b := k_b.alloc (.cells #[.int .u8 0, .bool false, .int .i64 0] 58)
      have k_r := k_r.alloc (.cells #[.int .u8 0, .bool false, .int .i64 0] 58)
      have k_g := Blk.new D0 58 #[.int .u8 0, .bool false, .int .i64 0]
      have bb := bb.alloc bb.size (.cells #[.int .u8 0, .bool false, .int .i64 0] 58)
      refine hK.out _ _ (lcells6 k_a k_b) (fun hHeld => ?_)
      clear hK K
      generalize D0.alloc (.cells #[.int .u8 0, .bool false, .int .i64 0] 58) = U1 at *
      generalize D0.heap.size = g at *
      (try simp only [Act.put, List.setIfInBounds_toArray, List.set_cons_zero, List.set_cons_succ])
      refine wpAnyH_ready (rs := [4]) (by kernel_rfl) (by simp) ?_
      refine AllReadyH.cons rfl (fun K hK => ?_) AllReadyH.nil
      go_simp
      go_at_call 67
      refine (HD.out _).mono ?_
      rintro e U2 ⟨rfl, bq⟩
      have k_a := k_a.below bq k_a.lt
      have k_b := k_b.below bq k_b.lt
      have k_r := k_r.below bq k_r.lt
      have k_g := k_g.below bq k_g.lt
      have bb := bb.trans (bq.mono bb.size)
      clear bq
      refine hK.out _ _ (lcells6 k_a k_b) (fun hHeld => ?_)
      clear hK K
      (try simp only [Act.put, List.setIfInBounds_toArray, List.set_cons_zero, List.set_cons_succ])
      refine wpAnyH_take (i := 5) (oi := ?oo745) (v := ?vv745) ?hi745 (by kernel_rfl) (by kernel_rfl) (by kernel_rfl) ?hq745 ?hy745 (by assumption) ?hh745
      case hi745 => (simp only [List.getElem?_toArray, List.getElem?_cons_succ, List.getElem?_cons_zero]; rfl)
      case hq745 => exact fun _ _ _ h => h
      case hy745 => exact Or.inl ⟨by rfl, by (intro W hSw; (try dsimp only at hSw); go_simp; (try with_reducible rfl))⟩
      (try simp only [Act.put, List.setIfInBounds_toArray, List.set_cons_zero, List.set_cons_succ])
      refine wpAnyH_take (i := 6) (oi := ?oo746) (v := ?vv746) ?hi746 (by kernel_rfl) (by kernel_rfl) (by kernel_rfl) ?hq746 ?hy746 (by assumption) ?hh746
      case hi746 => (simp only [List.getElem?_toArray, List.getElem?_cons_succ, List.getElem?_cons_zero]; rfl)
      case hq746 => exact fun _ _ _ h => h
      case hy746 => exact Or.inl ⟨by rfl, by (intro W hSw; (try dsimp only at hSw); go_simp; (try with_reducible rfl))⟩
      (try simp only [Act.put, List.setIfInBounds_toArray, List.set_cons_zero, List.set_cons_succ])
      refine wpAnyH_take (i := 7) (oi := ?oo747) (v := ?vv747) ?hi747 (by kernel_rfl) (by kernel_rfl) (by kernel_rfl) ?hq747 ?hy747 (by assumption) ?hh747
      case hi747 => (simp only [List.getElem?_toArray, List.getElem?_cons_succ, List.getElem?_cons_zero]; rfl)
      case hq747 => exact fun _ _ _ h => h
      case hy747 => exact Or.inl ⟨by rfl, by (intro W hSw; (try dsimp only at hSw); go_simp; (try with_reducible rfl))⟩
      (try simp only [Act.put, List.setIfInBounds_toArray, List.set_cons_zero, List.set_cons_succ])
      obtain ⟨x_g0, x_g1, x_g2⟩ := lcells k_g
      have z_g0 := k_g.frozen 0
      have z_g1 := k_g.frozen 1
      have z_g2 := k_g.frozen 2
      have l_g := k_g.lt
      refine wpAnyH_ready (rs := [9]) (by kernel_rfl) (by simp) ?_
      refine AllReadyH.cons rfl (fun K hK => ?_) AllReadyH.nil
      go_simp
      clear x_g0 x_g1 x_g2 z_g0 z_g1 z_g2 l_g
      have k_g := k_g.lset3 (.int .u8 d) (.bool m) (.int .i64 z)
      have k_a := k_a.lfar3 g (by omega) (.int .u8 d) (.bool m) (.int .i64 z)
      have k_b := k_b.lfar3 g (by omega) (.int .u8 d) (.bool m) (.int .i64 z)
      have k_r := k_r.lfar3 g (by omega) (.int .u8 d) (.bool m) (.int .i64 z)
      have bb := lbelow3 bb g (by omega) (.int .u8 d) (.bool m) (.int .i64 z)
      refine hK.out _ _ (lcells6 k_a k_b) (fun hHeld => ?_)
      clear hK K
      generalize (((U2.setCell ⟨g, 0, none⟩ (.int .u8 d)).setCell ⟨g, 1, none⟩ (.bool m)).setCell ⟨g, 2, none⟩ (.int .i64 z)) = U3 at *
      (try simp only [Act.put, List.setIfInBounds_toArray, List.set_cons_zero, List.set_cons_succ])
      refine wpAnyH_take (i := 10) (oi := ?oo748) (v := ?vv748) ?hi748 (by kernel_rfl) (by kernel_rfl) (by kernel_rfl) ?hq748 ?hy748 (by assumption) ?hh748
      case hi748 => (simp only [List.getElem?_toArray, List.getElem?_cons_succ, List.getElem?_cons_zero]; rfl)
      case hq748 => exact fun _ _ _ h => h
      case hy748 => exact Or.inl ⟨by rfl, by (intro W hSw; (try dsimp only at hSw); go_simp; (try with_reducible rfl))⟩
      (try simp only [Act.put, List.setIfInBounds_toArray, List.set_cons_zero, List.set_cons_succ])
      refine wpAnyH_done (by kernel_rfl) ?_ _
      go_wp2_with fail
      go_meet
      exact ⟨g, rfl, rfl, ⟨bb, k_g, k_r⟩⟩
  case rest =>
  obtain ⟨g, rfl, rfl, ⟨bb, k_g, k_r⟩⟩ := hcut
  have x_g0 := c30 k_g
  have x_g1 := c31 k_g
  have x_g2 := c32 k_g
  have l_g := k_g.lt
  have x_r0 := c30 k_r
  have x_r1 := c31 k_r
  have x_r2 := c32 k_r
  have l_r := k_r.lt
  have z_r0 := k_r.frozen 0
  have z_r1 := k_r.frozen 1
  have z_r2 := k_r.frozen 2
  go_wp2
  exact bodyPost_ret (v := (.tuple #[VS 0 0 ⟨#[]⟩, .int .i64 2])) (by simp [results, Tryd.results48, go_sem, x_r0, x_r1, x_r2, l_r]) rfl ⟨rfl, (((bb).setCell (p := ⟨w.heap.size + 2, 0, none⟩) (by first | exact Nat.le_refl _ | (simp; done) | (simp; omega) | omega) _).setCell (p := ⟨w.heap.size + 2, 1, none⟩) (by first | exact Nat.le_refl _ | (simp; done) | (simp; omega) | omega) _).setCell (p := ⟨w.heap.size + 2, 2, none⟩) (by first | exact Nat.le_refl _ | (simp; done) | (simp; omega) | omega) _⟩
set_option maxHeartbeats 4000000 in
set_option maxRecDepth 100000 in
theorem rreck_mul_true (d1 : Int) (m1 : Bool) (z1 d2 : Int) (m2 : Bool) (z2 d : Int) (m : Bool) (z : Int) (pk pn : Int) (w : World)
    (CD : ∀ W, Calls Tryd.prog 67 #[.int .u8 42, RV d1 m1 z1, RV d2 m2 z2] W (Ret (.tuple #[RV d m z, .bool true]) W)) (CV : ∀ W, Calls Tryd.prog 66 #[RV d m z] W (Ret (VN pk pn) W)) :
    Calls Tryd.prog 48 #[.string ⟨#[42]⟩, RV d1 m1 z1, RV d2 m2 z2] w (Ret (.tuple #[VN pk pn, .int .i64 0]) w) := by
  have HD := Lib.hid CD
  clear CD
  have HV := Lib.hid CV
  clear CV
  go_enter Tryd.func48, Tryd.ntmps48
  go_upto_region 5 with fail
  have k_a := ((Blk.new w 58 #[.int .u8 d1, .bool m1, .int .i64 z1]).alloc (.cells #[.int .u8 d2, .bool m2, .int .i64 z2] 58)).alloc (.cells #[.int .i64 0, .int .i64 0, .string ⟨#[]⟩] 27)
  have k_b := (Blk.new (w.alloc (.cells #[.int .u8 d1, .bool m1, .int .i64 z1] 58)) 58 #[.int .u8 d2, .bool m2, .int .i64 z2]).alloc (.cells #[.int .i64 0, .int .i64 0, .string ⟨#[]⟩] 27)
  rw [World.size_alloc] at k_b
  have k_r := Blk.new ((w.alloc (.cells #[.int .u8 d1, .bool m1, .int .i64 z1] 58)).alloc (.cells #[.int .u8 d2, .bool m2, .int .i64 z2] 58)) 27 #[.int .i64 0, .int .i64 0, .string ⟨#[]⟩]
  rw [World.size_alloc, World.size_alloc] at k_r
  have bb : Below w.heap.size w _ := ((((Below.refl _ _).alloc (Nat.le_refl _) (.cells #[.int .u8 d1, .bool m1, .int .i64 z1] 58)).alloc (by simp) (.cells #[.int .u8 d2, .bool m2, .int .i64 z2] 58)).alloc (by simp; omega) (.cells #[.int .i64 0, .int .i64 0, .string ⟨#[]⟩] 27))
  generalize (((w.alloc (.cells #[.int .u8 d1, .bool m1, .int .i64 z1] 58)).alloc (.cells #[.int .u8 d2, .bool m2, .int .i64 z2] 58)).alloc (.cells #[.int .i64 0, .int .i64 0, .string ⟨#[]⟩] 27)) = W0 at *
  go_cut [8, 9] (fun s8 s9 wx => ∃ g, s8 = .pointer (some ⟨g, 0, none⟩) ∧ s9 = .bool true ∧ Rk w wx g d m z)
  case first =>
    have k_a := k_a.drew
    have k_b := k_b.drew
    have k_r := k_r.drew
    have bb := bb.drew
    refine wp_region_held_drew (S := (fun W => W.cell? ⟨w.heap.size, 0, none⟩ = some (.int .u8 d1) ∧ W.cell? ⟨w.heap.size, 1, none⟩ = some (.bool m1) ∧ W.cell? ⟨w.heap.size, 2, none⟩ = some (.int .i64 z1) ∧ W.cell? ⟨w.heap.size + 1, 0, none⟩ = some (.int .u8 d2) ∧ W.cell? ⟨w.heap.size + 1, 1, none⟩ = some (.bool m2) ∧ W.cell? ⟨w.heap.size + 1, 2, none⟩ = some (.int .i64 z2))) (by kernel_rfl) (lcells6 k_a k_b) (fun hHeld => ?_)
    generalize W0.drew = D0 at *
    refine wpAnyH_take (i := 0) (oi := ?oo749) (v := ?vv749) ?hi749 (by kernel_rfl) (by kernel_rfl) (by kernel_rfl) ?hq749 ?hy749 (by assumption) ?hh749
    case hi749 => (simp only [List.getElem?_toArray, List.getElem?_cons_succ, List.getElem?_cons_zero]; rfl)
    case hq749 => exact fun _ _ _ h => h
    case hy749 => exact Or.inl ⟨by rfl, by (intro W hSw; (try dsimp only at hSw); go_simp; (try with_reducible rfl))⟩
    (try simp only [Act.put, List.setIfInBounds_toArray, List.set_cons_zero, List.set_cons_succ])
    refine wpAnyH_take (i := 1) (oi := ?oo750) (v := ?vv750) ?hi750 (by kernel_rfl) (by kernel_rfl) (by kernel_rfl) ?hq750 ?hy750 (by assumption) ?hh750
    case hi750 => (simp only [List.getElem?_toArray, List.getElem?_cons_succ, List.getElem?_cons_zero]; rfl)
    case hq750 => exact fun _ _ _ h => h
    case hy750 => exact Or.inl ⟨by rfl, by (intro W hSw; (try dsimp only at hSw); go_simp; (try with_reducible rfl))⟩
    (try simp only [Act.put, List.setIfInBounds_toArray, List.set_cons_zero, List.set_cons_succ])
    refine wpAnyH_take (i := 2) (oi := ?oo751) (v := ?vv751) ?hi751 (by kernel_rfl) (by kernel_rfl) (by kernel_rfl) ?hq751 ?hy751 (by assumption) ?hh751
    case hi751 => (simp only [List.getElem?_toArray, List.getElem?_cons_succ, List.getElem?_cons_zero]; rfl)
    case hq751 => exact fun _ _ _ h => h
    case hy751 => exact Or.inl ⟨by rfl, by (intro W hSw; (try dsimp only at hSw); go_simp; (try with_reducible rfl))⟩
    (try simp only [Act.put, List.setIfInBounds_toArray, List.set_cons_zero, List.set_cons_succ])
    refine wpAnyH_take (i := 3) (oi := ?oo752) (v := ?vv752) ?hi752 (by kernel_rfl) (by kernel_rfl) (by kernel_rfl) ?hq752 ?hy752 (by assumption) ?hh752
    case hi752 => (simp only [List.getElem?_toArray, List.getElem?_cons_succ, List.getElem?_cons_zero]; rfl)
    case hq752 => exact fun _ _ _ h => h
    case hy752 => exact Or.inl ⟨by rfl, by (intro W hSw; (try dsimp only at hSw); go_simp; (try with_reducible rfl))⟩
    (try simp only [Act.put, List.setIfInBounds_toArray, List.set_cons_zero, List.set_cons_succ])
    refine wpAnyH_ready (rs := [4, 8]) (by kernel_rfl) (by simp) ?_
    refine AllReadyH.cons rfl (fun K hK => ?_) (AllReadyH.cons rfl (fun K hK => ?_) AllReadyH.nil)
    · skip
      go_simp
      go_at_call 67
      refine (HD.out _).mono ?_
      rintro e U1 ⟨rfl, bq⟩
      have k_a := k_a.below bq k_a.lt
      have k_b := k_b.below bq k_b.lt
      have k_r := k_r.below bq k_r.lt
      have bb := bb.trans (bq.mono bb.size)
      clear bq
      refine hK.out _ _ (lcells6 k_a k_b) (fun hHeld => ?_)
      clear hK K
      (try simp only [Act.put, List.setIfInBounds_toArray, List.set_cons_zero, List.set_cons_succ])
      refine wpAnyH_take (i := 5) (oi := ?oo753) (v := ?vv753) ?hi753 (by kernel_rfl) (by kernel_rfl) (by kernel_rfl) ?hq753 ?hy753 (by assumption) ?hh753
      case hi753 => (simp only [List.getElem?_toArray, List.getElem?_cons_succ, List.getElem?_cons_zero]; rfl)
      case hq753 => exact fun _ _ _ h => h
      case hy753 => exact Or.inl ⟨by rfl, by (intro W hSw; (try dsimp only at hSw); go_simp; (try with_reducible rfl))⟩
      (try simp only [Act.put, List.setIfInBounds_toArray, List.set_cons_zero, List.set_cons_succ])
      refine wpAnyH_take (i := 6) (oi := ?oo754) (v := ?vv754) ?hi754 (by kernel_rfl) (by kernel_rfl) (by kernel_rfl) ?hq754 ?hy754 (by assumption) ?hh754
      case hi754 => (simp only [List.getElem?_toArray, List.getElem?_cons_succ, List.getElem?_cons_zero]; rfl)
      case hq754 => exact fun _ _ _ h => h
      case hy754 => exact Or.inl ⟨by rfl, by (intro W hSw; (try dsimp only at hSw); go_simp; (try with_reducible rfl))⟩
      (try simp only [Act.put, List.setIfInBounds_toArray, List.set_cons_zero, List.set_cons_succ])
      refine wpAnyH_take (i := 7) (oi := ?oo755) (v := ?vv755) ?hi755 (by kernel_rfl) (by kernel_rfl) (by kernel_rfl) ?hq755 ?hy755 (by assumption) ?hh755
      case hi755 => (simp only [List.getElem?_toArray, List.getElem?_cons_succ, List.getElem?_cons_zero]; rfl)
      case hq755 => exact fun _ _ _ h => h
      case hy755 => exact Or.inl ⟨by rfl, by (intro W hSw; (try dsimp only at hSw); go_simp; (try with_reducible rfl))⟩
      (try simp only [Act.put, List.setIfInBounds_toArray, List.set_cons_zero, List.set_cons_succ])
      refine wpAnyH_ready (rs := [8]) (by kernel_rfl) (by simp) ?_
      refine AllReadyH.cons rfl (fun K hK => ?_) AllReadyH.nil
      go_simp
      have n_q := k_r.lt
      have k_a := k_a.alloc (.cells #[.int .u8 0, .bool false, .int .i64 0] 58)
      have k_b := k_b.alloc (.cells #[.int .u8 0, .bool false, .int .i64 0] 58)
      have k_r := k_r.alloc (.cells #[.int .u8 0, .bool false, .int .i64 0] 58)
      have k_g := Blk.new U1 58 #[.int .u8 0, .bool false, .int .i64 0]
      have bb := bb.alloc bb.size (.cells #[.int .u8 0, .bool false, .int .i64 0] 58)
      refine hK.out _ _ (lcells6 k_a k_b) (fun hHeld => ?_)
      clear hK K
      generalize U1.alloc (.cells #[.int .u8 0, .bool false, .int .i64 0] 58) = U2 at *
      generalize U1.heap.size = g at *
      (try simp only [Act.put, List.setIfInBounds_toArray, List.set_cons_zero, List.set_cons_succ])
      obtain ⟨x_g0, x_g1, x_g2⟩ := lcells k_g
      have z_g0 := k_g.frozen 0
      have z_g1 := k_g.frozen 1
      have z_g2 := k_g.frozen 2
      have l_g := k_g.lt
      refine wpAnyH_ready (rs := [9]) (by kernel_rfl) (by simp) ?_
      refine AllReadyH.cons rfl (fun K hK => ?_) AllReadyH.nil
      go_simp
      clear x_g0 x_g1 x_g2 z_g0 z_g1 z_g2 l_g
      have k_g := k_g.lset3 (.int .u8 d) (.bool m) (.int .i64 z)
      have k_a := k_a.lfar3 g (by omega) (.int .u8 d) (.bool m) (.int .i64 z)
      have k_b := k_b.lfar3 g (by omega) (.int .u8 d) (.bool m) (.int .i64 z)
      have k_r := k_r.lfar3 g (by omega) (.int .u8 d) (.bool m) (.int .i64 z)
      have bb := lbelow3 bb g (by omega) (.int .u8 d) (.bool m) (.int .i64 z)
      refine hK.out _ _ (lcells6 k_a k_b) (fun hHeld => ?_)
      clear hK K
      generalize (((U2.setCell ⟨g, 0, none⟩ (.int .u8 d)).setCell ⟨g, 1, none⟩ (.bool m)).setCell ⟨g, 2, none⟩ (.int .i64 z)) = U3 at *
      (try simp only [Act.put, List.setIfInBounds_toArray, List.set_cons_zero, List.set_cons_succ])
      refine wpAnyH_take (i := 10) (oi := ?oo756) (v := ?vv756) ?hi756 (by kernel_rfl) (by kernel_rfl) (by kernel_rfl) ?hq756 ?hy756 (by assumption) ?hh756
      case hi756 => (simp only [List.getElem?_toArray, List.getElem?_cons_succ, List.getElem?_cons_zero]; rfl)
      case hq756 => exact fun _ _ _ h => h
      case hy756 => exact Or.inl ⟨by rfl, by (intro W hSw; (try dsimp only at hSw); go_simp; (try with_reducible rfl))⟩
      (try simp only [Act.put, List.setIfInBounds_toArray, List.set_cons_zero, List.set_cons_succ])
      refine wpAnyH_done (by kernel_rfl) ?_ _
      go_wp2_with fail
      go_meet
      exact ⟨g, rfl, rfl, ⟨bb, k_g, k_r⟩⟩
    · skip
      go_simp
      have n_q := k_r.lt
      have k_a := k_a.alloc (.cells #[.int .u8 0, .bool false, .int .i64 0] 58)
      have k_b := k_b.alloc (.cells #[.int .u8 0, .bool false, .int .i64 0] 58)
      have k_r := k_r.alloc (.cells #[.int .u8 0, .bool false, .int .i64 0] 58)
      have k_g := Blk.new D0 58 #[.int .u8 0, .bool false, .int .i64 0]
      have bb := bb.alloc bb.size (.cells #[.int .u8 0, .bool false, .int .i64 0] 58)
      refine hK.out _ _ (lcells6 k_a k_b) (fun hHeld => ?_)
      clear hK K
      generalize D0.alloc (.cells #[.int .u8 0, .bool false, .int .i64 0] 58) = U1 at *
      generalize D0.heap.size = g at *
      (try simp only [Act.put, List.setIfInBounds_toArray, List.set_cons_zero, List.set_cons_succ])
      refine wpAnyH_ready (rs := [4]) (by kernel_rfl) (by simp) ?_
      refine AllReadyH.cons rfl (fun K hK => ?_) AllReadyH.nil
      go_simp
      go_at_call 67
      refine (HD.out _).mono ?_
      rintro e U2 ⟨rfl, bq⟩
      have k_a := k_a.below bq k_a.lt
      have k_b := k_b.below bq k_b.lt
      have k_r := k_r.below bq k_r.lt
      have k_g := k_g.below bq k_g.lt
      have bb := bb.trans (bq.mono bb.size)
      clear bq
      refine hK.out _ _ (lcells6 k_a k_b) (fun hHeld => ?_)
      clear hK K
      (try simp only [Act.put, List.setIfInBounds_toArray, List.set_cons_zero, List.set_cons_succ])
      refine wpAnyH_take (i := 5) (oi := ?oo757) (v := ?vv757) ?hi757 (by kernel_rfl) (by kernel_rfl) (by kernel_rfl) ?hq757 ?hy757 (by assumption) ?hh757
      case hi757 => (simp only [List.getElem?_toArray, List.getElem?_cons_succ, List.getElem?_cons_zero]; rfl)
      case hq757 => exact fun _ _ _ h => h
      case hy757 => exact Or.inl ⟨by rfl, by (intro W hSw; (try dsimp only at hSw); go_simp; (try with_reducible rfl))⟩
      (try simp only [Act.put, List.setIfInBounds_toArray, List.set_cons_zero, List.set_cons_succ])
      refine wpAnyH_take (i := 6) (oi := ?oo758) (v := ?vv758) ?hi758 (by kernel_rfl) (by kernel_rfl) (by kernel_rfl) ?hq758 ?hy758 (by assumption) ?hh758
      case hi758 => (simp only [List.getElem?_toArray, List.getElem?_cons_succ, List.getElem?_cons_zero]; rfl)
      case hq758 => exact fun _ _ _ h => h
      case hy758 => exact Or.inl ⟨by rfl, by (intro W hSw; (try dsimp only at hSw); go_simp; (try with_reducible rfl))⟩
      (try simp only [Act.put, List.setIfInBounds_toArray, List.set_cons_zero, List.set_cons_succ])
      refine wpAnyH_take (i := 7) (oi := ?oo759) (v := ?vv759) ?hi759 (by kernel_rfl) (by kernel_rfl) (by kernel_rfl) ?hq759 ?hy759 (by assumption) ?hh759
      case hi759 => (simp only [List.getElem?_toArray, List.getElem?_cons_succ, List.getElem?_cons_zero]; rfl)
      case hq759 => exact fun _ _ _ h => h
      case hy759 => exact Or.inl ⟨by rfl, by (intro W hSw; (try dsimp only at hSw); go_simp; (try with_reducible rfl))⟩
      (try simp only [Act.put, List.setIfInBounds_toArray, List.set_cons_zero, List.set_cons_succ])
      obtain ⟨x_g0, x_g1, x_g2⟩ := lcells k_g
      have z_g0 := k_g.frozen 0
      have z_g1 := k_g.frozen 1
      have z_g2 := k_g.frozen 2
      have l_g := k_g.lt
      refine wpAnyH_ready (rs := [9]) (by kernel_rfl) (by simp) ?_
      refine AllReadyH.cons rfl (fun K hK => ?_) AllReadyH.nil
      go_simp
      clear x_g0 x_g1 x_g2 z_g0 z_g1 z_g2 l_g
      have k_g := k_g.lset3 (.int .u8 d) (.bool m) (.int .i64 z)
      have k_a := k_a.lfar3 g (by omega) (.int .u8 d) (.bool m) (.int .i64 z)
      have k_b := k_b.lfar3 g (by omega) (.int .u8 d) (.bool m) (.int .i64 z)
      have k_r := k_r.lfar3 g (by omega) (.int .u8 d) (.bool m) (.int .i64 z)
      have bb := lbelow3 bb g (by omega) (.int .u8 d) (.bool m) (.int .i64 z)
      refine hK.out _ _ (lcells6 k_a k_b) (fun hHeld => ?_)
      clear hK K
      generalize (((U2.setCell ⟨g, 0, none⟩ (.int .u8 d)).setCell ⟨g, 1, none⟩ (.bool m)).setCell ⟨g, 2, none⟩ (.int .i64 z)) = U3 at *
      (try simp only [Act.put, List.setIfInBounds_toArray, List.set_cons_zero, List.set_cons_succ])
      refine wpAnyH_take (i := 10) (oi := ?oo760) (v := ?vv760) ?hi760 (by kernel_rfl) (by kernel_rfl) (by kernel_rfl) ?hq760 ?hy760 (by assumption) ?hh760
      case hi760 => (simp only [List.getElem?_toArray, List.getElem?_cons_succ, List.getElem?_cons_zero]; rfl)
      case hq760 => exact fun _ _ _ h => h
      case hy760 => exact Or.inl ⟨by rfl, by (intro W hSw; (try dsimp only at hSw); go_simp; (try with_reducible rfl))⟩
      (try simp only [Act.put, List.setIfInBounds_toArray, List.set_cons_zero, List.set_cons_succ])
      refine wpAnyH_done (by kernel_rfl) ?_ _
      go_wp2_with fail
      go_meet
      exact ⟨g, rfl, rfl, ⟨bb, k_g, k_r⟩⟩
  case rest =>
  obtain ⟨g, rfl, rfl, ⟨bb, k_g, k_r⟩⟩ := hcut
  have x_g0 := c30 k_g
  have x_g1 := c31 k_g
  have x_g2 := c32 k_g
  have l_g := k_g.lt
  have x_r0 := c30 k_r
  have x_r1 := c31 k_r
  have x_r2 := c32 k_r
  have l_r := k_r.lt
  go_wp2_with fail
  refine (HV.out _).mono ?_
  rintro e w1 ⟨rfl, b1⟩
  clear x_g0 x_g1 x_g2 l_g x_r0 x_r1 x_r2 l_r
  have k_g := k_g.below b1 k_g.lt
  have k_r := k_r.below b1 k_r.lt
  have bb := bb.trans (b1.mono bb.size)
  have x_g0 : w1.cell? ⟨g, 0, none⟩ = some (.int .u8 d) := by rw [k_g.cell]; rfl
  have x_g1 : w1.cell? ⟨g, 1, none⟩ = some (.bool m) := by rw [k_g.cell]; rfl
  have x_g2 : w1.cell? ⟨g, 2, none⟩ = some (.int .i64 z) := by rw [k_g.cell]; rfl
  have l_g := k_g.lt
  have x_r0 : w1.cell? ⟨w.heap.size + 2, 0, none⟩ = some (.int .i64 0) := by rw [k_r.cell]; rfl
  have x_r1 : w1.cell? ⟨w.heap.size + 2, 1, none⟩ = some (.int .i64 0) := by rw [k_r.cell]; rfl
  have x_r2 : w1.cell? ⟨w.heap.size + 2, 2, none⟩ = some (.string ⟨#[]⟩) := by rw [k_r.cell]; rfl
  have l_r := k_r.lt
  have z_r0 := k_r.frozen 0
  have z_r1 := k_r.frozen 1
  have z_r2 := k_r.frozen 2
  go_wp2
  exact bodyPost_ret (v := (.tuple #[VN pk pn, .int .i64 0])) (by simp [results, Tryd.results48, go_sem, x_r0, x_r1, x_r2, l_r]) rfl ⟨rfl, (((bb).setCell (p := ⟨w.heap.size + 2, 0, none⟩) (by first | exact Nat.le_refl _ | (simp; done) | (simp; omega) | omega) _).setCell (p := ⟨w.heap.size + 2, 1, none⟩) (by first | exact Nat.le_refl _ | (simp; done) | (simp; omega) | omega) _).setCell (p := ⟨w.heap.size + 2, 2, none⟩) (by first | exact Nat.le_refl _ | (simp; done) | (simp; omega) | omega) _⟩
set_option maxHeartbeats 4000000 in
set_option maxRecDepth 100000 in
theorem rreck_mul_false (d1 : Int) (m1 : Bool) (z1 d2 : Int) (m2 : Bool) (z2 d : Int) (m : Bool) (z : Int) (w : World)
    (CD : ∀ W, Calls Tryd.prog 67 #[.int .u8 42, RV d1 m1 z1, RV d2 m2 z2] W (Ret (.tuple #[RV d m z, .bool false]) W)) :
    Calls Tryd.prog 48 #[.string ⟨#[42]⟩, RV d1 m1 z1, RV d2 m2 z2] w (Ret (.tuple #[VS 0 0 ⟨#[]⟩, .int .i64 2]) w) := by
  have HD := Lib.hid CD
  clear CD
  go_enter Tryd.func48, Tryd.ntmps48
  go_upto_region 5 with fail
  have k_a := ((Blk.new w 58 #[.int .u8 d1, .bool m1, .int .i64 z1]).alloc (.cells #[.int .u8 d2, .bool m2, .int .i64 z2] 58)).alloc (.cells #[.int .i64 0, .int .i64 0, .string ⟨#[]⟩] 27)
  have k_b := (Blk.new (w.alloc (.cells #[.int .u8 d1, .bool m1, .int .i64 z1] 58)) 58 #[.int .u8 d2, .bool m2, .int .i64 z2]).alloc (.cells #[.int .i64 0, .int .i64 0, .string ⟨#[]⟩] 27)
  rw [World.size_alloc] at k_b
  have k_r := Blk.new ((w.alloc (.cells #[.int .u8 d1, .bool m1, .int .i64 z1] 58)).alloc (.cells #[.int .u8 d2, .bool m2, .int .i64 z2] 58)) 27 #[.int .i64 0, .int .i64 0, .string ⟨#[]⟩]
  rw [World.size_alloc, World.size_alloc] at k_r
  have bb : Below w.heap.size w _ := ((((Below.refl _ _).alloc (Nat.le_refl _) (.cells #[.int .u8 d1, .bool m1, .int .i64 z1] 58)).alloc (by simp) (.cells #[.int .u8 d2, .bool m2, .int .i64 z2] 58)).alloc (by simp; omega) (.cells #[.int .i64 0, .int .i64 0, .string ⟨#[]⟩] 27))
  generalize (((w.alloc (.cells #[.int .u8 d1, .bool m1, .int .i64 z1] 58)).alloc (.cells #[.int .u8 d2, .bool m2, .int .i64 z2] 58)).alloc (.cells #[.int .i64 0, .int .i64 0, .string ⟨#[]⟩] 27)) = W0 at *
  go_cut [8, 9] (fun s8 s9 wx => ∃ g, s8 = .pointer (some ⟨g, 0, none⟩) ∧ s9 = .bool false ∧ Rk w wx g d m z)
  case first =>
    have k_a := k_a.drew
    have k_b := k_b.drew
    have k_r := k_r.drew
    have bb := bb.drew
    refine wp_region_held_drew (S := (fun W => W.cell? ⟨w.heap.size, 0, none⟩ = some (.int .u8 d1) ∧ W.cell? ⟨w.heap.size, 1, none⟩ = some (.bool m1) ∧ W.cell? ⟨w.heap.size, 2, none⟩ = some (.int .i64 z1) ∧ W.cell? ⟨w.heap.size + 1, 0, none⟩ = some (.int .u8 d2) ∧ W.cell? ⟨w.heap.size + 1, 1, none⟩ = some (.bool m2) ∧ W.cell? ⟨w.heap.size + 1, 2, none⟩ = some (.int .i64 z2))) (by kernel_rfl) (lcells6 k_a k_b) (fun hHeld => ?_)
    generalize W0.drew = D0 at *
    refine wpAnyH_take (i := 0) (oi := ?oo761) (v := ?vv761) ?hi761 (by kernel_rfl) (by kernel_rfl) (by kernel_rfl) ?hq761 ?hy761 (by assumption) ?hh761
    case hi761 => (simp only [List.getElem?_toArray, List.getElem?_cons_succ, List.getElem?_cons_zero]; rfl)
    case hq761 => exact fun _ _ _ h => h
    case hy761 => exact Or.inl ⟨by rfl, by (intro W hSw; (try dsimp only at hSw); go_simp; (try with_reducible rfl))⟩
    (try simp only [Act.put, List.setIfInBounds_toArray, List.set_cons_zero, List.set_cons_succ])
    refine wpAnyH_take (i := 1) (oi := ?oo762) (v := ?vv762) ?hi762 (by kernel_rfl) (by kernel_rfl) (by kernel_rfl) ?hq762 ?hy762 (by assumption) ?hh762
    case hi762 => (simp only [List.getElem?_toArray, List.getElem?_cons_succ, List.getElem?_cons_zero]; rfl)
    case hq762 => exact fun _ _ _ h => h
    case hy762 => exact Or.inl ⟨by rfl, by (intro W hSw; (try dsimp only at hSw); go_simp; (try with_reducible rfl))⟩
    (try simp only [Act.put, List.setIfInBounds_toArray, List.set_cons_zero, List.set_cons_succ])
    refine wpAnyH_take (i := 2) (oi := ?oo763) (v := ?vv763) ?hi763 (by kernel_rfl) (by kernel_rfl) (by kernel_rfl) ?hq763 ?hy763 (by assumption) ?hh763
    case hi763 => (simp only [List.getElem?_toArray, List.getElem?_cons_succ, List.getElem?_cons_zero]; rfl)
    case hq763 => exact fun _ _ _ h => h
    case hy763 => exact Or.inl ⟨by rfl, by (intro W hSw; (try dsimp only at hSw); go_simp; (try with_reducible rfl))⟩
    (try simp only [Act.put, List.setIfInBounds_toArray, List.set_cons_zero, List.set_cons_succ])
    refine wpAnyH_take (i := 3) (oi := ?oo764) (v := ?vv764) ?hi764 (by kernel_rfl) (by kernel_rfl) (by kernel_rfl) ?hq764 ?hy764 (by assumption) ?hh764
    case hi764 => (simp only [List.getElem?_toArray, List.getElem?_cons_succ, List.getElem?_cons_zero]; rfl)
    case hq764 => exact fun _ _ _ h => h
    case hy764 => exact Or.inl ⟨by rfl, by (intro W hSw; (try dsimp only at hSw); go_simp; (try with_reducible rfl))⟩
    (try simp only [Act.put, List.setIfInBounds_toArray, List.set_cons_zero, List.set_cons_succ])
    refine wpAnyH_ready (rs := [4, 8]) (by kernel_rfl) (by simp) ?_
    refine AllReadyH.cons rfl (fun K hK => ?_) (AllReadyH.cons rfl (fun K hK => ?_) AllReadyH.nil)
    · skip
      go_simp
      go_at_call 67
      refine (HD.out _).mono ?_
      rintro e U1 ⟨rfl, bq⟩
      have k_a := k_a.below bq k_a.lt
      have k_b := k_b.below bq k_b.lt
      have k_r := k_r.below bq k_r.lt
      have bb := bb.trans (bq.mono bb.size)
      clear bq
      refine hK.out _ _ (lcells6 k_a k_b) (fun hHeld => ?_)
      clear hK K
      (try simp only [Act.put, List.setIfInBounds_toArray, List.set_cons_zero, List.set_cons_succ])
      refine wpAnyH_take (i := 5) (oi := ?oo765) (v := ?vv765) ?hi765 (by kernel_rfl) (by kernel_rfl) (by kernel_rfl) ?hq765 ?hy765 (by assumption) ?hh765
      case hi765 => (simp only [List.getElem?_toArray, List.getElem?_cons_succ, List.getElem?_cons_zero]; rfl)
      case hq765 => exact fun _ _ _ h => h
      case hy765 => exact Or.inl ⟨by rfl, by (intro W hSw; (try dsimp only at hSw); go_simp; (try with_reducible rfl))⟩
      (try simp only [Act.put, List.setIfInBounds_toArray, List.set_cons_zero, List.set_cons_succ])
      refine wpAnyH_take (i := 6) (oi := ?oo766) (v := ?vv766) ?hi766 (by kernel_rfl) (by kernel_rfl) (by kernel_rfl) ?hq766 ?hy766 (by assumption) ?hh766
      case hi766 => (simp only [List.getElem?_toArray, List.getElem?_cons_succ, List.getElem?_cons_zero]; rfl)
      case hq766 => exact fun _ _ _ h => h
      case hy766 => exact Or.inl ⟨by rfl, by (intro W hSw; (try dsimp only at hSw); go_simp; (try with_reducible rfl))⟩
      (try simp only [Act.put, List.setIfInBounds_toArray, List.set_cons_zero, List.set_cons_succ])
      refine wpAnyH_take (i := 7) (oi := ?oo767) (v := ?vv767) ?hi767 (by kernel_rfl) (by kernel_rfl) (by kernel_rfl) ?hq767 ?hy767 (by assumption) ?hh767
      case hi767 => (simp only [List.getElem?_toArray, List.getElem?_cons_succ, List.getElem?_cons_zero]; rfl)
      case hq767 => exact fun _ _ _ h => h
      case hy767 => exact Or.inl ⟨by rfl, by (intro W hSw; (try dsimp only at hSw); go_simp; (try with_reducible rfl))⟩
      (try simp only [Act.put, List.setIfInBounds_toArray, List.set_cons_zero, List.set_cons_succ])
      refine wpAnyH_ready (rs := [8]) (by kernel_rfl) (by simp) ?_
      refine AllReadyH.cons rfl (fun K hK => ?_) AllReadyH.nil
      go_simp
      have n_q := k_r.lt
      have k_a := k_a.alloc (.cells #[.int .u8 0, .bool false, .int .i64 0] 58)
      have k_b := k_b.alloc (.cells #[.int .u8 0, .bool false, .int .i64 0] 58)
      have k_r := k_r.alloc (.cells #[.int .u8 0, .bool false, .int .i64 0] 58)
      have k_g := Blk.new U1 58 #[.int .u8 0, .bool false, .int .i64 0]
      have bb := bb.alloc bb.size (.cells #[.int .u8 0, .bool false, .int .i64 0] 58)
      refine hK.out _ _ (lcells6 k_a k_b) (fun hHeld => ?_)
      clear hK K
      generalize U1.alloc (.cells #[.int .u8 0, .bool false, .int .i64 0] 58) = U2 at *
      generalize U1.heap.size = g at *
      (try simp only [Act.put, List.setIfInBounds_toArray, List.set_cons_zero, List.set_cons_succ])
      obtain ⟨x_g0, x_g1, x_g2⟩ := lcells k_g
      have z_g0 := k_g.frozen 0
      have z_g1 := k_g.frozen 1
      have z_g2 := k_g.frozen 2
      have l_g := k_g.lt
      refine wpAnyH_ready (rs := [9]) (by kernel_rfl) (by simp) ?_
      refine AllReadyH.cons rfl (fun K hK => ?_) AllReadyH.nil
      go_simp
      clear x_g0 x_g1 x_g2 z_g0 z_g1 z_g2 l_g
      have k_g := k_g.lset3 (.int .u8 d) (.bool m) (.int .i64 z)
      have k_a := k_a.lfar3 g (by omega) (.int .u8 d) (.bool m) (.int .i64 z)
      have k_b := k_b.lfar3 g (by omega) (.int .u8 d) (.bool m) (.int .i64 z)
      have k_r := k_r.lfar3 g (by omega) (.int .u8 d) (.bool m) (.int .i64 z)
      have bb := lbelow3 bb g (by omega) (.int .u8 d) (.bool m) (.int .i64 z)
      refine hK.out _ _ (lcells6 k_a k_b) (fun hHeld => ?_)
      clear hK K
      generalize (((U2.setCell ⟨g, 0, none⟩ (.int .u8 d)).setCell ⟨g, 1, none⟩ (.bool m)).setCell ⟨g, 2, none⟩ (.int .i64 z)) = U3 at *
      (try simp only [Act.put, List.setIfInBounds_toArray, List.set_cons_zero, List.set_cons_succ])
      refine wpAnyH_take (i := 10) (oi := ?oo768) (v := ?vv768) ?hi768 (by kernel_rfl) (by kernel_rfl) (by kernel_rfl) ?hq768 ?hy768 (by assumption) ?hh768
      case hi768 => (simp only [List.getElem?_toArray, List.getElem?_cons_succ, List.getElem?_cons_zero]; rfl)
      case hq768 => exact fun _ _ _ h => h
      case hy768 => exact Or.inl ⟨by rfl, by (intro W hSw; (try dsimp only at hSw); go_simp; (try with_reducible rfl))⟩
      (try simp only [Act.put, List.setIfInBounds_toArray, List.set_cons_zero, List.set_cons_succ])
      refine wpAnyH_done (by kernel_rfl) ?_ _
      go_wp2_with fail
      go_meet
      exact ⟨g, rfl, rfl, ⟨bb, k_g, k_r⟩⟩
    · skip
      go_simp
      have n_q := k_r.lt
      have k_a := k_a.alloc (.cells #[.int .u8 0, .bool false, .int .i64 0] 58)
      have k_b := k_b.alloc (.cells #[.int .u8 0, .bool false, .int .i64 0] 58)
      have k_r := k_r.alloc (.cells #[.int .u8 0, .bool false, .int .i64 0] 58)
      have k_g := Blk.new D0 58 #[.int .u8 0, .bool false, .int .i64 0]
      have bb := bb.alloc bb.size (.cells #[.int .u8 0, .bool false, .int .i64 0] 58)
      refine hK.out _ _ (lcells6 k_a k_b) (fun hHeld => ?_)
      clear hK K
      generalize D0.alloc (.cells #[.int .u8 0, .bool false, .int .i64 0] 58) = U1 at *
      generalize D0.heap.size = g at *
      (try simp only [Act.put, List.setIfInBounds_toArray, List.set_cons_zero, List.set_cons_succ])
      refine wpAnyH_ready (rs := [4]) (by kernel_rfl) (by simp) ?_
      refine AllReadyH.cons rfl (fun K hK => ?_) AllReadyH.nil
      go_simp
      go_at_call 67
      refine (HD.out _).mono ?_
      rintro e U2 ⟨rfl, bq⟩
      have k_a := k_a.below bq k_a.lt
      have k_b := k_b.below bq k_b.lt
      have k_r := k_r.below bq k_r.lt
      have k_g := k_g.below bq k_g.lt
      have bb := bb.trans (bq.mono bb.size)
      clear bq
      refine hK.out _ _ (lcells6 k_a k_b) (fun hHeld => ?_)
      clear hK K
      (try simp only [Act.put, List.setIfInBounds_toArray, List.set_cons_zero, List.set_cons_succ])
      refine wpAnyH_take (i := 5) (oi := ?oo769) (v := ?vv769) ?hi769 (by kernel_rfl) (by kernel_rfl) (by kernel_rfl) ?hq769 ?hy769 (by assumption) ?hh769
      case hi769 => (simp only [List.getElem?_toArray, List.getElem?_cons_succ, List.getElem?_cons_zero]; rfl)
      case hq769 => exact fun _ _ _ h => h
      case hy769 => exact Or.inl ⟨by rfl, by (intro W hSw; (try dsimp only at hSw); go_simp; (try with_reducible rfl))⟩
      (try simp only [Act.put, List.setIfInBounds_toArray, List.set_cons_zero, List.set_cons_succ])
      refine wpAnyH_take (i := 6) (oi := ?oo770) (v := ?vv770) ?hi770 (by kernel_rfl) (by kernel_rfl) (by kernel_rfl) ?hq770 ?hy770 (by assumption) ?hh770
      case hi770 => (simp only [List.getElem?_toArray, List.getElem?_cons_succ, List.getElem?_cons_zero]; rfl)
      case hq770 => exact fun _ _ _ h => h
      case hy770 => exact Or.inl ⟨by rfl, by (intro W hSw; (try dsimp only at hSw); go_simp; (try with_reducible rfl))⟩
      (try simp only [Act.put, List.setIfInBounds_toArray, List.set_cons_zero, List.set_cons_succ])
      refine wpAnyH_take (i := 7) (oi := ?oo771) (v := ?vv771) ?hi771 (by kernel_rfl) (by kernel_rfl) (by kernel_rfl) ?hq771 ?hy771 (by assumption) ?hh771
      case hi771 => (simp only [List.getElem?_toArray, List.getElem?_cons_succ, List.getElem?_cons_zero]; rfl)
      case hq771 => exact fun _ _ _ h => h
      case hy771 => exact Or.inl ⟨by rfl, by (intro W hSw; (try dsimp only at hSw); go_simp; (try with_reducible rfl))⟩
      (try simp only [Act.put, List.setIfInBounds_toArray, List.set_cons_zero, List.set_cons_succ])
      obtain ⟨x_g0, x_g1, x_g2⟩ := lcells k_g
      have z_g0 := k_g.frozen 0
      have z_g1 := k_g.frozen 1
      have z_g2 := k_g.frozen 2
      have l_g := k_g.lt
      refine wpAnyH_ready (rs := [9]) (by kernel_rfl) (by simp) ?_
      refine AllReadyH.cons rfl (fun K hK => ?_) AllReadyH.nil
      go_simp
      clear x_g0 x_g1 x_g2 z_g0 z_g1 z_g2 l_g
      have k_g := k_g.lset3 (.int .u8 d) (.bool m) (.int .i64 z)
      have k_a := k_a.lfar3 g (by omega) (.int .u8 d) (.bool m) (.int .i64 z)
      have k_b := k_b.lfar3 g (by omega) (.int .u8 d) (.bool m) (.int .i64 z)
      have k_r := k_r.lfar3 g (by omega) (.int .u8 d) (.bool m) (.int .i64 z)
      have bb := lbelow3 bb g (by omega) (.int .u8 d) (.bool m) (.int .i64 z)
      refine hK.out _ _ (lcells6 k_a k_b) (fun hHeld => ?_)
      clear hK K
      generalize (((U2.setCell ⟨g, 0, none⟩ (.int .u8 d)).setCell ⟨g, 1, none⟩ (.bool m)).setCell ⟨g, 2, none⟩ (.int .i64 z)) = U3 at *
      (try simp only [Act.put, List.setIfInBounds_toArray, List.set_cons_zero, List.set_cons_succ])
      refine wpAnyH_take (i := 10) (oi := ?oo772) (v := ?vv772) ?hi772 (by kernel_rfl) (by kernel_rfl) (by kernel_rfl) ?hq772 ?hy772 (by assumption) ?hh772
      case hi772 => (simp only [List.getElem?_toArray, List.getElem?_cons_succ, List.getElem?_cons_zero]; rfl)
      case hq772 => exact fun _ _ _ h => h
      case hy772 => exact Or.inl ⟨by rfl, by (intro W hSw; (try dsimp only at hSw); go_simp; (try with_reducible rfl))⟩
      (try simp only [Act.put, List.setIfInBounds_toArray, List.set_cons_zero, List.set_cons_succ])
      refine wpAnyH_done (by kernel_rfl) ?_ _
      go_wp2_with fail
      go_meet
      exact ⟨g, rfl, rfl, ⟨bb, k_g, k_r⟩⟩
  case rest =>
  obtain ⟨g, rfl, rfl, ⟨bb, k_g, k_r⟩⟩ := hcut
  have x_g0 := c30 k_g
  have x_g1 := c31 k_g
  have x_g2 := c32 k_g
  have l_g := k_g.lt
  have x_r0 := c30 k_r
  have x_r1 := c31 k_r
  have x_r2 := c32 k_r
  have l_r := k_r.lt
  have z_r0 := k_r.frozen 0
  have z_r1 := k_r.frozen 1
  have z_r2 := k_r.frozen 2
  go_wp2
  exact bodyPost_ret (v := (.tuple #[VS 0 0 ⟨#[]⟩, .int .i64 2])) (by simp [results, Tryd.results48, go_sem, x_r0, x_r1, x_r2, l_r]) rfl ⟨rfl, (((bb).setCell (p := ⟨w.heap.size + 2, 0, none⟩) (by first | exact Nat.le_refl _ | (simp; done) | (simp; omega) | omega) _).setCell (p := ⟨w.heap.size + 2, 1, none⟩) (by first | exact Nat.le_refl _ | (simp; done) | (simp; omega) | omega) _).setCell (p := ⟨w.heap.size + 2, 2, none⟩) (by first | exact Nat.le_refl _ | (simp; done) | (simp; omega) | omega) _⟩
set_option maxHeartbeats 4000000 in
set_option maxRecDepth 100000 in
theorem rreck_div_true (d1 : Int) (m1 : Bool) (z1 d2 : Int) (m2 : Bool) (z2 d : Int) (m : Bool) (z : Int) (pk pn : Int) (w : World)
    (CD : ∀ W, Calls Tryd.prog 67 #[.int .u8 47, RV d1 m1 z1, RV d2 m2 z2] W (Ret (.tuple #[RV d m z, .bool true]) W)) (CV : ∀ W, Calls Tryd.prog 66 #[RV d m z] W (Ret (VN pk pn) W)) :
    Calls Tryd.prog 48 #[.string ⟨#[47]⟩, RV d1 m1 z1, RV d2 m2 z2] w (Ret (.tuple #[VN pk pn, .int .i64 0]) w) := by
  have HD := Lib.hid CD
  clear CD
  have HV := Lib.hid CV
  clear CV
  go_enter Tryd.func48, Tryd.ntmps48
  go_upto_region 5 with fail
  have k_a := ((Blk.new w 58 #[.int .u8 d1, .bool m1, .int .i64 z1]).alloc (.cells #[.int .u8 d2, .bool m2, .int .i64 z2] 58)).alloc (.cells #[.int .i64 0, .int .i64 0, .string ⟨#[]⟩] 27)
  have k_b := (Blk.new (w.alloc (.cells #[.int .u8 d1, .bool m1, .int .i64 z1] 58)) 58 #[.int .u8 d2, .bool m2, .int .i64 z2]).alloc (.cells #[.int .i64 0, .int .i64 0, .string ⟨#[]⟩] 27)
  rw [World.size_alloc] at k_b
  have k_r := Blk.new ((w.alloc (.cells #[.int .u8 d1, .bool m1, .int .i64 z1] 58)).alloc (.cells #[.int .u8 d2, .bool m2, .int .i64 z2] 58)) 27 #[.int .i64 0, .int .i64 0, .string ⟨#[]⟩]
  rw [World.size_alloc, World.size_alloc] at k_r
  have bb : Below w.heap.size w _ := ((((Below.refl _ _).alloc (Nat.le_refl _) (.cells #[.int .u8 d1, .bool m1, .int .i64 z1] 58)).alloc (by simp) (.cells #[.int .u8 d2, .bool m2, .int .i64 z2] 58)).alloc (by simp; omega) (.cells #[.int .i64 0, .int .i64 0, .string ⟨#[]⟩] 27))
  generalize (((w.alloc (.cells #[.int .u8 d1, .bool m1, .int .i64 z1] 58)).alloc (.cells #[.int .u8 d2, .bool m2, .int .i64 z2] 58)).alloc (.cells #[.int .i64 0, .int .i64 0, .string ⟨#[]⟩] 27)) = W0 at *
  go_cut [8, 9] (fun s8 s9 wx => ∃ g, s8 = .pointer (some ⟨g, 0, none⟩) ∧ s9 = .bool true ∧ Rk w wx g d m z)
  case first =>
    have k_a := k_a.drew
    have k_b := k_b.drew
    have k_r := k_r.drew
    have bb := bb.drew
    refine wp_region_held_drew (S := (fun W => W.cell? ⟨w.heap.size, 0, none⟩ = some (.int .u8 d1) ∧ W.cell? ⟨w.heap.size, 1, none⟩ = some (.bool m1) ∧ W.cell? ⟨w.heap.size, 2, none⟩ = some (.int .i64 z1) ∧ W.cell? ⟨w.heap.size + 1, 0, none⟩ = some (.int .u8 d2) ∧ W.cell? ⟨w.heap.size + 1, 1, none⟩ = some (.bool m2) ∧ W.cell? ⟨w.heap.size + 1, 2, none⟩ = some (.int .i64 z2))) (by kernel_rfl) (lcells6 k_a k_b) (fun hHeld => ?_)
    generalize W0.drew = D0 at *
    refine wpAnyH_take (i := 0) (oi := ?oo773) (v := ?vv773) ?hi773 (by kernel_rfl) (by kernel_rfl) (by kernel_rfl) ?hq773 ?hy773 (by assumption) ?hh773
    case hi773 => (simp only [List.getElem?_toArray, List.getElem?_cons_succ, List.getElem?_cons_zero]; rfl)
    case hq773 => exact fun _ _ _ h => h
    case hy773 => exact Or.inl ⟨by rfl, by (intro W hSw; (try dsimp only at hSw); go_simp; (try with_reducible rfl))⟩
    (try simp only [Act.put, List.setIfInBounds_toArray, List.set_cons_zero, List.set_cons_succ])
    refine wpAnyH_take (i := 1) (oi := ?oo774) (v := ?vv774) ?hi774 (by kernel_rfl) (by kernel_rfl) (by kernel_rfl) ?hq774 ?hy774 (by assumption) ?hh774
    case hi774 => (simp only [List.getElem?_toArray, List.getElem?_cons_succ, List.getElem?_cons_zero]; rfl)
    case hq774 => exact fun _ _ _ h => h
    case hy774 => exact Or.inl ⟨by rfl, by (intro W hSw; (try dsimp only at hSw); go_simp; (try with_reducible rfl))⟩
    (try simp only [Act.put, List.setIfInBounds_toArray, List.set_cons_zero, List.set_cons_succ])
    refine wpAnyH_take (i := 2) (oi := ?oo775) (v := ?vv775) ?hi775 (by kernel_rfl) (by kernel_rfl) (by kernel_rfl) ?hq775 ?hy775 (by assumption) ?hh775
    case hi775 => (simp only [List.getElem?_toArray, List.getElem?_cons_succ, List.getElem?_cons_zero]; rfl)
    case hq775 => exact fun _ _ _ h => h
    case hy775 => exact Or.inl ⟨by rfl, by (intro W hSw; (try dsimp only at hSw); go_simp; (try with_reducible rfl))⟩
    (try simp only [Act.put, List.setIfInBounds_toArray, List.set_cons_zero, List.set_cons_succ])
    refine wpAnyH_take (i := 3) (oi := ?oo776) (v := ?vv776) ?hi776 (by kernel_rfl) (by kernel_rfl) (by kernel_rfl) ?hq776 ?hy776 (by assumption) ?hh776
    case hi776 => (simp only [List.getElem?_toArray, List.getElem?_cons_succ, List.getElem?_cons_zero]; rfl)
    case hq776 => exact fun _ _ _ h => h
    case hy776 => exact Or.inl ⟨by rfl, by (intro W hSw; (try dsimp only at hSw); go_simp; (try with_reducible rfl))⟩
    (try simp only [Act.put, List.setIfInBounds_toArray, List.set_cons_zero, List.set_cons_succ])
    refine wpAnyH_ready (rs := [4, 8]) (by kernel_rfl) (by simp) ?_
    refine AllReadyH.cons rfl (fun K hK => ?_) (AllReadyH.cons rfl (fun K hK => ?_) AllReadyH.nil)
    · skip
      go_simp
      go_at_call 67
      refine (HD.out _).mono ?_
      rintro e U1 ⟨rfl, bq⟩
      have k_a := k_a.below bq k_a.lt
      have k_b := k_b.below bq k_b.lt
      have k_r := k_r.below bq k_r.lt
      have bb := bb.trans (bq.mono bb.size)
      clear bq
      refine hK.out _ _ (lcells6 k_a k_b) (fun hHeld => ?_)
      clear hK K
      (try simp only [Act.put, List.setIfInBounds_toArray, List.set_cons_zero, List.set_cons_succ])
      refine wpAnyH_take (i := 5) (oi := ?oo777) (v := ?vv777) ?hi777 (by kernel_rfl) (by kernel_rfl) (by kernel_rfl) ?hq777 ?hy777 (by assumption) ?hh777
      case hi777 => (simp only [List.getElem?_toArray, List.getElem?_cons_succ, List.getElem?_cons_zero]; rfl)
      case hq777 => exact fun _ _ _ h => h
      case hy777 => exact Or.inl ⟨by rfl, by (intro W hSw; (try dsimp only at hSw); go_simp; (try with_reducible rfl))⟩
      (try simp only [Act.put, List.setIfInBounds_toArray, List.set_cons_zero, List.set_cons_succ])
      refine wpAnyH_take (i := 6) (oi := ?oo778) (v := ?vv778) ?hi778 (by kernel_rfl) (by kernel_rfl) (by kernel_rfl) ?hq778 ?hy778 (by assumption) ?hh778
      case hi778 => (simp only [List.getElem?_toArray, List.getElem?_cons_succ, List.getElem?_cons_zero]; rfl)
      case hq778 => exact fun _ _ _ h => h
      case hy778 => exact Or.inl ⟨by rfl, by (intro W hSw; (try dsimp only at hSw); go_simp; (try with_reducible rfl))⟩
      (try simp only [Act.put, List.setIfInBounds_toArray, List.set_cons_zero, List.set_cons_succ])
      refine wpAnyH_take (i := 7) (oi := ?oo779) (v := ?vv779) ?hi779 (by kernel_rfl) (by kernel_rfl) (by kernel_rfl) ?hq779 ?hy779 (by assumption) ?hh779
      case hi779 => (simp only [List.getElem?_toArray, List.getElem?_cons_succ, List.getElem?_cons_zero]; rfl)
      case hq779 => exact fun _ _ _ h => h
      case hy779 => exact Or.inl ⟨by rfl, by (intro W hSw; (try dsimp only at hSw); go_simp; (try with_reducible rfl))⟩
      (try simp only [Act.put, List.setIfInBounds_toArray, List.set_cons_zero, List.set_cons_succ])
      refine wpAnyH_ready (rs := [8]) (by kernel_rfl) (by simp) ?_
      refine AllReadyH.cons rfl (fun K hK => ?_) AllReadyH.nil
      go_simp
      have n_q := k_r.lt
      have k_a := k_a.alloc (.cells #[.int .u8 0, .bool false, .int .i64 0] 58)
      have k_b := k_b.alloc (.cells #[.int .u8 0, .bool false, .int .i64 0] 58)
      have k_r := k_r.alloc (.cells #[.int .u8 0, .bool false, .int .i64 0] 58)
      have k_g := Blk.new U1 58 #[.int .u8 0, .bool false, .int .i64 0]
      have bb := bb.alloc bb.size (.cells #[.int .u8 0, .bool false, .int .i64 0] 58)
      refine hK.out _ _ (lcells6 k_a k_b) (fun hHeld => ?_)
      clear hK K
      generalize U1.alloc (.cells #[.int .u8 0, .bool false, .int .i64 0] 58) = U2 at *
      generalize U1.heap.size = g at *
      (try simp only [Act.put, List.setIfInBounds_toArray, List.set_cons_zero, List.set_cons_succ])
      obtain ⟨x_g0, x_g1, x_g2⟩ := lcells k_g
      have z_g0 := k_g.frozen 0
      have z_g1 := k_g.frozen 1
      have z_g2 := k_g.frozen 2
      have l_g := k_g.lt
      refine wpAnyH_ready (rs := [9]) (by kernel_rfl) (by simp) ?_
      refine AllReadyH.cons rfl (fun K hK => ?_) AllReadyH.nil
      go_simp
      clear x_g0 x_g1 x_g2 z_g0 z_g1 z_g2 l_g
      have k_g := k_g.lset3 (.int .u8 d) (.bool m) (.int .i64 z)
      have k_a := k_a.lfar3 g (by omega) (.int .u8 d) (.bool m) (.int .i64 z)
      have k_b := k_b.lfar3 g (by omega) (.int .u8 d) (.bool m) (.int .i64 z)
      have k_r := k_r.lfar3 g (by omega) (.int .u8 d) (.bool m) (.int .i64 z)
      have bb := lbelow3 bb g (by omega) (.int .u8 d) (.bool m) (.int .i64 z)
      refine hK.out _ _ (lcells6 k_a k_b) (fun hHeld => ?_)
      clear hK K
      generalize (((U2.setCell ⟨g, 0, none⟩ (.int .u8 d)).setCell ⟨g, 1, none⟩ (.bool m)).setCell ⟨g, 2, none⟩ (.int .i64 z)) = U3 at *
      (try simp only [Act.put, List.setIfInBounds_toArray, List.set_cons_zero, List.set_cons_succ])
      refine wpAnyH_take (i := 10) (oi := ?oo780) (v := ?vv780) ?hi780 (by kernel_rfl) (by kernel_rfl) (by kernel_rfl) ?hq780 ?hy780 (by assumption) ?hh780
      case hi780 => (simp only [List.getElem?_toArray, List.getElem?_cons_succ, List.getElem?_cons_zero]; rfl)
      case hq780 => exact fun _ _ _ h => h
      case hy780 => exact Or.inl ⟨by rfl, by (intro W hSw; (try dsimp only at hSw); go_simp; (try with_reducible rfl))⟩
      (try simp only [Act.put, List.setIfInBounds_toArray, List.set_cons_zero, List.set_cons_succ])
      refine wpAnyH_done (by kernel_rfl) ?_ _
      go_wp2_with fail
      go_meet
      exact ⟨g, rfl, rfl, ⟨bb, k_g, k_r⟩⟩
    · skip
      go_simp
      have n_q := k_r.lt
      have k_a := k_a.alloc (.cells #[.int .u8 0, .bool false, .int .i64 0] 58)
      have k_b := k_b.alloc (.cells #[.int .u8 0, .bool false, .int .i64 0] 58)
      have k_r := k_r.alloc (.cells #[.int .u8 0, .bool false, .int .i64 0] 58)
      have k_g := Blk.new D0 58 #[.int .u8 0, .bool false, .int .i64 0]
      have bb := bb.alloc bb.size (.cells #[.int .u8 0, .bool false, .int .i64 0] 58)
      refine hK.out _ _ (lcells6 k_a k_b) (fun hHeld => ?_)
      clear hK K
      generalize D0.alloc (.cells #[.int .u8 0, .bool false, .int .i64 0] 58) = U1 at *
      generalize D0.heap.size = g at *
      (try simp only [Act.put, List.setIfInBounds_toArray, List.set_cons_zero, List.set_cons_succ])
      refine wpAnyH_ready (rs := [4]) (by kernel_rfl) (by simp) ?_
      refine AllReadyH.cons rfl (fun K hK => ?_) AllReadyH.nil
      go_simp
      go_at_call 67
      refine (HD.out _).mono ?_
      rintro e U2 ⟨rfl, bq⟩
      have k_a := k_a.below bq k_a.lt
      have k_b := k_b.below bq k_b.lt
      have k_r := k_r.below bq k_r.lt
      have k_g := k_g.below bq k_g.lt
      have bb := bb.trans (bq.mono bb.size)
      clear bq
      refine hK.out _ _ (lcells6 k_a k_b) (fun hHeld => ?_)
      clear hK K
      (try simp only [Act.put, List.setIfInBounds_toArray, List.set_cons_zero, List.set_cons_succ])
      refine wpAnyH_take (i := 5) (oi := ?oo781) (v := ?vv781) ?hi781 (by kernel_rfl) (by kernel_rfl) (by kernel_rfl) ?hq781 ?hy781 (by assumption) ?hh781
      case hi781 => (simp only [List.getElem?_toArray, List.getElem?_cons_succ, List.getElem?_cons_zero]; rfl)
      case hq781 => exact fun _ _ _ h => h
      case hy781 => exact Or.inl ⟨by rfl, by (intro W hSw; (try dsimp only at hSw); go_simp; (try with_reducible rfl))⟩
      (try simp only [Act.put, List.setIfInBounds_toArray, List.set_cons_zero, List.set_cons_succ])
      refine wpAnyH_take (i := 6) (oi := ?oo782) (v := ?vv782) ?hi782 (by kernel_rfl) (by kernel_rfl) (by kernel_rfl) ?hq782 ?hy782 (by assumption) ?hh782
      case hi782 => (simp only [List.getElem?_toArray, List.getElem?_cons_succ, List.getElem?_cons_zero]; rfl)
      case hq782 => exact fun _ _ _ h => h
      case hy782 => exact Or.inl ⟨by rfl, by (intro W hSw; (try dsimp only at hSw); go_simp; (try with_reducible rfl))⟩
      (try simp only [Act.put, List.setIfInBounds_toArray, List.set_cons_zero, List.set_cons_succ])
      refine wpAnyH_take (i := 7) (oi := ?oo783) (v := ?vv783) ?hi783 (by kernel_rfl) (by kernel_rfl) (by kernel_rfl) ?hq783 ?hy783 (by assumption) ?hh783
      case hi783 => (simp only [List.getElem?_toArray, List.getElem?_cons_succ, List.getElem?_cons_zero]; rfl)
      case hq783 => exact fun _ _ _ h => h
      case hy783 => exact Or.inl ⟨by rfl, by (intro W hSw; (try dsimp only at hSw); go_simp; (try with_reducible rfl))⟩
      (try simp only [Act.put, List.setIfInBounds_toArray, List.set_cons_zero, List.set_cons_succ])
      obtain ⟨x_g0, x_g1, x_g2⟩ := lcells k_g
      have z_g0 := k_g.frozen 0
      have z_g1 := k_g.frozen 1
      have z_g2 := k_g.frozen 2
      have l_g := k_g.lt
      refine wpAnyH_ready (rs := [9]) (by kernel_rfl) (by simp) ?_
      refine AllReadyH.cons rfl (fun K hK => ?_) AllReadyH.nil
      go_simp
      clear x_g0 x_g1 x_g2 z_g0 z_g1 z_g2 l_g
      have k_g := k_g.lset3 (.int .u8 d) (.bool m) (.int .i64 z)
      have k_a := k_a.lfar3 g (by omega) (.int .u8 d) (.bool m) (.int .i64 z)
      have k_b := k_b.lfar3 g (by omega) (.int .u8 d) (.bool m) (.int .i64 z)
      have k_r := k_r.lfar3 g (by omega) (.int .u8 d) (.bool m) (.int .i64 z)
      have bb := lbelow3 bb g (by omega) (.int .u8 d) (.bool m) (.int .i64 z)
      refine hK.out _ _ (lcells6 k_a k_b) (fun hHeld => ?_)
      clear hK K
      generalize (((U2.setCell ⟨g, 0, none⟩ (.int .u8 d)).setCell ⟨g, 1, none⟩ (.bool m)).setCell ⟨g, 2, none⟩ (.int .i64 z)) = U3 at *
      (try simp only [Act.put, List.setIfInBounds_toArray, List.set_cons_zero, List.set_cons_succ])
      refine wpAnyH_take (i := 10) (oi := ?oo784) (v := ?vv784) ?hi784 (by kernel_rfl) (by kernel_rfl) (by kernel_rfl) ?hq784 ?hy784 (by assumption) ?hh784
      case hi784 => (simp only [List.getElem?_toArray, List.getElem?_cons_succ, List.getElem?_cons_zero]; rfl)
      case hq784 => exact fun _ _ _ h => h
      case hy784 => exact Or.inl ⟨by rfl, by (intro W hSw; (try dsimp only at hSw); go_simp; (try with_reducible rfl))⟩
      (try simp only [Act.put, List.setIfInBounds_toArray, List.set_cons_zero, List.set_cons_succ])
      refine wpAnyH_done (by kernel_rfl) ?_ _
      go_wp2_with fail
      go_meet
      exact ⟨g, rfl, rfl, ⟨bb, k_g, k_r⟩⟩
  case rest =>
  obtain ⟨g, rfl, rfl, ⟨bb, k_g, k_r⟩⟩ := hcut
  have x_g0 := c30 k_g
  have x_g1 := c31 k_g
  have x_g2 := c32 k_g
  have l_g := k_g.lt
  have x_r0 := c30 k_r
  have x_r1 := c31 k_r
  have x_r2 := c32 k_r
  have l_r := k_r.lt
  go_wp2_with fail
  refine (HV.out _).mono ?_
  rintro e w1 ⟨rfl, b1⟩
  clear x_g0 x_g1 x_g2 l_g x_r0 x_r1 x_r2 l_r
  have k_g := k_g.below b1 k_g.lt
  have k_r := k_r.below b1 k_r.lt
  have bb := bb.trans (b1.mono bb.size)
  have x_g0 : w1.cell? ⟨g, 0, none⟩ = some (.int .u8 d) := by rw [k_g.cell]; rfl
  have x_g1 : w1.cell? ⟨g, 1, none⟩ = some (.bool m) := by rw [k_g.cell]; rfl
  have x_g2 : w1.cell? ⟨g, 2, none⟩ = some (.int .i64 z) := by rw [k_g.cell]; rfl
  have l_g := k_g.lt
  have x_r0 : w1.cell? ⟨w.heap.size + 2, 0, none⟩ = some (.int .i64 0) := by rw [k_r.cell]; rfl
  have x_r1 : w1.cell? ⟨w.heap.size + 2, 1, none⟩ = some (.int .i64 0) := by rw [k_r.cell]; rfl
  have x_r2 : w1.cell? ⟨w.heap.size + 2, 2, none⟩ = some (.string ⟨#[]⟩) := by rw [k_r.cell]; rfl
  have l_r := k_r.lt
  have z_r0 := k_r.frozen 0
  have z_r1 := k_r.frozen 1
  have z_r2 := k_r.frozen 2
  go_wp2
  exact bodyPost_ret (v := (.tuple #[VN pk pn, .int .i64 0])) (by simp [results, Tryd.results48, go_sem, x_r0, x_r1, x_r2, l_r]) rfl ⟨rfl, (((bb).setCell (p := ⟨w.heap.size + 2, 0, none⟩) (by first | exact Nat.le_refl _ | (simp; done) | (simp; omega) | omega) _).setCell (p := ⟨w.heap.size + 2, 1, none⟩) (by first | exact Nat.le_refl _ | (simp; done) | (simp; omega) | omega) _).setCell (p := ⟨w.heap.size + 2, 2, none⟩) (by first | exact Nat.le_refl _ | (simp; done) | (simp; omega) | omega) _⟩
set_option maxHeartbeats 4000000 in
set_option maxRecDepth 100000 in
theorem rreck_div_false (d1 : Int) (m1 : Bool) (z1 d2 : Int) (m2 : Bool) (z2 d : Int) (m : Bool) (z : Int) (w : World)
    (CD : ∀ W, Calls Tryd.prog 67 #[.int .u8 47, RV d1 m1 z1, RV d2 m2 z2] W (Ret (.tuple #[RV d m z, .bool false]) W)) :
    Calls Tryd.prog 48 #[.string ⟨#[47]⟩, RV d1 m1 z1, RV d2 m2 z2] w (Ret (.tuple #[VS 0 0 ⟨#[]⟩, .int .i64 2]) w) := by
  have HD := Lib.hid CD
  clear CD
  go_enter Tryd.func48, Tryd.ntmps48
  go_upto_region 5 with fail
  have k_a := ((Blk.new w 58 #[.int .u8 d1, .bool m1, .int .i64 z1]).alloc (.cells #[.int .u8 d2, .bool m2, .int .i64 z2] 58)).alloc (.cells #[.int .i64 0, .int .i64 0, .string ⟨#[]⟩] 27)
  have k_b := (Blk.new (w.alloc (.cells #[.int .u8 d1, .bool m1, .int .i64 z1] 58)) 58 #[.int .u8 d2, .bool m2, .int .i64 z2]).alloc (.cells #[.int .i64 0, .int .i64 0, .string ⟨#[]⟩] 27)
  rw [World.size_alloc] at k_b
  have k_r := Blk.new ((w.alloc (.cells #[.int .u8 d1, .bool m1, .int .i64 z1] 58)).alloc (.cells #[.int .u8 d2, .bool m2, .int .i64 z2] 58)) 27 #[.int .i64 0, .int .i64 0, .string ⟨#[]⟩]
  rw [World.size_alloc, World.size_alloc] at k_r
  have bb : Below w.heap.size w _ := ((((Below.refl _ _).alloc (Nat.le_refl _) (.cells #[.int .u8 d1, .bool m1, .int .i64 z1] 58)).alloc (by simp) (.cells #[.int .u8 d2, .bool m2, .int .i64 z2] 58)).alloc (by simp; omega) (.cells #[.int .i64 0, .int .i64 0, .string ⟨#[]⟩] 27))
  generalize (((w.alloc (.cells #[.int .u8 d1, .bool m1, .int .i64 z1] 58)).alloc (.cells #[.int .u8 d2, .bool m2, .int .i64 z2] 58)).alloc (.cells #[.int .i64 0, .int .i64 0, .string ⟨#[]⟩] 27)) = W0 at *
  go_cut [8, 9] (fun s8 s9 wx => ∃ g, s8 = .pointer (some ⟨g, 0, none⟩) ∧ s9 = .bool false ∧ Rk w wx g d m z)
  case first =>
    have k_a := k_a.drew
    have k_b := k_b.drew
    have k_r := k_r.drew
    have bb := bb.drew
    refine wp_region_held_drew (S := (fun W => W.cell? ⟨w.heap.size, 0, none⟩ = some (.int .u8 d1) ∧ W.cell? ⟨w.heap.size, 1, none⟩ = some (.bool m1) ∧ W.cell? ⟨w.heap.size, 2, none⟩ = some (.int .i64 z1) ∧ W.cell? ⟨w.heap.size + 1, 0, none⟩ = some (.int .u8 d2) ∧ W.cell? ⟨w.heap.size + 1, 1, none⟩ = some (.bool m2) ∧ W.cell? ⟨w.heap.size + 1, 2, none⟩ = some (.int .i64 z2))) (by kernel_rfl) (lcells6 k_a k_b) (fun hHeld => ?_)
    generalize W0.drew = D0 at *
    refine wpAnyH_take (i := 0) (oi := ?oo785) (v := ?vv785) ?hi785 (by kernel_rfl) (by kernel_rfl) (by kernel_rfl) ?hq785 ?hy785 (by assumption) ?hh785
    case hi785 => (simp only [List.getElem?_toArray, List.getElem?_cons_succ, List.getElem?_cons_zero]; rfl)
    case hq785 => exact fun _ _ _ h => h
    case hy785 => exact Or.inl ⟨by rfl, by (intro W hSw; (try dsimp only at hSw); go_simp; (try with_reducible rfl))⟩
    (try simp only [Act.put, List.setIfInBounds_toArray, List.set_cons_zero, List.set_cons_succ])
    refine wpAnyH_take (i := 1) (oi := ?oo786) (v := ?vv786) ?hi786 (by kernel_rfl) (by kernel_rfl) (by kernel_rfl) ?hq786 ?hy786 (by assumption) ?hh786
    case hi786 => (simp only [List.getElem?_toArray, List.getElem?_cons_succ, List.getElem?_cons_zero]; rfl)
    case hq786 => exact fun _ _ _ h => h
    case hy786 => exact Or.inl ⟨by rfl, by (intro W hSw; (try dsimp only at hSw); go_simp; (try with_reducible rfl))⟩
    (try simp only [Act.put, List.setIfInBounds_toArray, List.set_cons_zero, List.set_cons_succ])
    refine wpAnyH_take (i := 2) (oi := ?oo787) (v := ?vv787) ?hi787 (by kernel_rfl) (by kernel_rfl) (by kernel_rfl) ?hq787 ?hy787 (by assumption) ?hh787
    case hi787 => (simp only [List.getElem?_toArray, List.getElem?_cons_succ, List.getElem?_cons_zero]; rfl)
    case hq787 => exact fun _ _ _ h => h
    case hy787 => exact Or.inl ⟨by rfl, by (intro W hSw; (try dsimp only at hSw); go_simp; (try with_reducible rfl))⟩
    (try simp only [Act.put, List.setIfInBounds_toArray, List.set_cons_zero, List.set_cons_succ])
    refine wpAnyH_take (i := 3) (oi := ?oo788) (v := ?vv788) ?hi788 (by kernel_rfl) (by kernel_rfl) (by kernel_rfl) ?hq788 ?hy788 (by assumption) ?hh788
    case hi788 => (simp only [List.getElem?_toArray, List.getElem?_cons_succ, List.getElem?_cons_zero]; rfl)
    case hq788 => exact fun _ _ _ h => h
    case hy788 => exact Or.inl ⟨by rfl, by (intro W hSw; (try dsimp only at hSw); go_simp; (try with_reducible rfl))⟩
    (try simp only [Act.put, List.setIfInBounds_toArray, List.set_cons_zero, List.set_cons_succ])
    refine wpAnyH_ready (rs := [4, 8]) (by kernel_rfl) (by simp) ?_
    refine AllReadyH.cons rfl (fun K hK => ?_) (AllReadyH.cons rfl (fun K hK => ?_) AllReadyH.nil)
    · skip
      go_simp
      go_at_call 67
      refine (HD.out _).mono ?_
      rintro e U1 ⟨rfl, bq⟩
      have k_a := k_a.below bq k_a.lt
      have k_b := k_b.below bq k_b.lt
      have k_r := k_r.below bq k_r.lt
      have bb := bb.trans (bq.mono bb.size)
      clear bq
      refine hK.out _ _ (lcells6 k_a k_b) (fun hHeld => ?_)
      clear hK K
      (try simp only [Act.put, List.setIfInBounds_toArray, List.set_cons_zero, List.set_cons_succ])
      refine wpAnyH_take (i := 5) (oi := ?oo789) (v := ?vv789) ?hi789 (by kernel_rfl) (by kernel_rfl) (by kernel_rfl) ?hq789 ?hy789 (by assumption) ?hh789
      case hi789 => (simp only [List.getElem?_toArray, List.getElem?_cons_succ, List.getElem?_cons_zero]; rfl)
      case hq789 => exact fun _ _ _ h => h
      case hy789 => exact Or.inl ⟨by rfl, by (intro W hSw; (try dsimp only at hSw); go_simp; (try with_reducible rfl))⟩
      (try simp only [Act.put, List.setIfInBounds_toArray, List.set_cons_zero, List.set_cons_succ])
      refine wpAnyH_take (i := 6) (oi := ?oo790) (v := ?vv790) ?hi790 (by kernel_rfl) (by kernel_rfl) (by kernel_rfl) ?hq790 ?hy790 (by assumption) ?hh790
      case hi790 => (simp only [List.getElem?_toArray, List.getElem?_cons_succ, List.getElem?_cons_zero]; rfl)
      case hq790 => exact fun _ _ _ h => h
      case hy790 => exact Or.inl ⟨by rfl, by (intro W hSw; (try dsimp only at hSw); go_simp; (try with_reducible rfl))⟩
      (try simp only [Act.put, List.setIfInBounds_toArray, List.set_cons_zero, List.set_cons_succ])
      refine wpAnyH_take (i := 7) (oi := ?oo791) (v := ?vv791) ?hi791 (by kernel_rfl) (by kernel_rfl) (by kernel_rfl) ?hq791 ?hy791 (by assumption) ?hh791
      case hi791 => (simp only [List.getElem?_toArray, List.getElem?_cons_succ, List.getElem?_cons_zero]; rfl)
      case hq791 => exact fun _ _ _ h => h
      case hy791 => exact Or.inl ⟨by rfl, by (intro W hSw; (try dsimp only at hSw); go_simp; (try with_reducible rfl))⟩
      (try simp only [Act.put, List.setIfInBounds_toArray, List.set_cons_zero, List.set_cons_succ])
      refine wpAnyH_ready (rs := [8]) (by kernel_rfl) (by simp) ?_
      refine AllReadyH.cons rfl (fun K hK => ?_) AllReadyH.nil
      go_simp
      have n_q := k_r.lt
      have k_a := k_a.alloc (.cells #[.int .u8 0, .bool false, .int .i64 0] 58)
      have k_b := k_b.alloc (.cells #[.int .u8 0, .bool false, .int .i64 0] 58)
      have k_r := k_r.alloc (.cells #[.int .u8 0, .bool false, .int .i64 0] 58)
      have k_g := Blk.new U1 58 #[.int .u8 0, .bool false, .int .i64 0]
      have bb := bb.alloc bb.size (.cells #[.int .u8 0, .bool false, .int .i64 0] 58)
      refine hK.out _ _ (lcells6 k_a k_b) (fun hHeld => ?_)
      clear hK K
      generalize U1.alloc (.cells #[.int .u8 0, .bool false, .int .i64 0] 58) = U2 at *
      generalize U1.heap.size = g at *
      (try simp only [Act.put, List.setIfInBounds_toArray, List.set_cons_zero, List.set_cons_succ])
      obtain ⟨x_g0, x_g1, x_g2⟩ := lcells k_g
      have z_g0 := k_g.frozen 0
      have z_g1 := k_g.frozen 1
      have z_g2 := k_g.frozen 2
      have l_g := k_g.lt
      refine wpAnyH_ready (rs := [9]) (by kernel_rfl) (by simp) ?_
      refine AllReadyH.cons rfl (fun K hK => ?_) AllReadyH.nil
      go_simp
      clear x_g0 x_g1 x_g2 z_g0 z_g1 z_g2 l_g
      have k_g := k_g.lset3 (.int .u8 d) (.bool m) (.int .i64 z)
      have k_a := k_a.lfar3 g (by omega) (.int .u8 d) (.bool m) (.int .i64 z)
      have k_b := k_b.lfar3 g (by omega) (.int .u8 d) (.bool m) (.int .i64 z)
      have k_r := k_r.lfar3 g (by omega) (.int .u8 d) (.bool m) (.int .i64 z)
      have bb := lbelow3 bb g (by omega) (.int .u8 d) (.bool m) (.int .i64 z)
      refine hK.out _ _ (lcells6 k_a k_b) (fun hHeld => ?_)
      clear hK K
      generalize (((U2.setCell ⟨g, 0, none⟩ (.int .u8 d)).setCell ⟨g, 1, none⟩ (.bool m)).setCell ⟨g, 2, none⟩ (.int .i64 z)) = U3 at *
      (try simp only [Act.put, List.setIfInBounds_toArray, List.set_cons_zero, List.set_cons_succ])
      refine wpAnyH_take (i := 10) (oi := ?oo792) (v := ?vv792) ?hi792 (by kernel_rfl) (by kernel_rfl) (by kernel_rfl) ?hq792 ?hy792 (by assumption) ?hh792
      case hi792 => (simp only [List.getElem?_toArray, List.getElem?_cons_succ, List.getElem?_cons_zero]; rfl)
      case hq792 => exact fun _ _ _ h => h
      case hy792 => exact Or.inl ⟨by rfl, by (intro W hSw; (try dsimp only at hSw); go_simp; (try with_reducible rfl))⟩
      (try simp only [Act.put, List.setIfInBounds_toArray, List.set_cons_zero, List.set_cons_succ])
      refine wpAnyH_done (by kernel_rfl) ?_ _
      go_wp2_with fail
      go_meet
      exact ⟨g, rfl, rfl, ⟨bb, k_g, k_r⟩⟩
    · skip
      go_simp
      have n_q := k_r.lt
      have k_a := k_a.alloc (.cells #[.int .u8 0, .bool false, .int .i64 0] 58)
      have k_b := k_b.alloc (.cells #[.int .u8 0, .bool false, .int .i64 0] 58)
      have k_r := k_r.alloc (.cells #[.int .u8 0, .bool false, .int .i64 0] 58)
      have k_g := Blk.new D0 58 #[.int .u8 0, .bool false, .int .i64 0]
      have bb := bb.alloc bb.size (.cells #[.int .u8 0, .bool false, .int .i64 0] 58)
      refine hK.out _ _ (lcells6 k_a k_b) (fun hHeld => ?_)
      clear hK K
      generalize D0.alloc (.cells #[.int .u8 0, .bool false, .int .i64 0] 58) = U1 at *
      generalize D0.heap.size = g at *
      (try simp only [Act.put, List.setIfInBounds_toArray, List.set_cons_zero, List.set_cons_succ])
      refine wpAnyH_ready (rs := [4]) (by kernel_rfl) (by simp) ?_
      refine AllReadyH.cons rfl (fun K hK => ?_) AllReadyH.nil
      go_simp
      go_at_call 67
      refine (HD.out _).mono ?_
      rintro e U2 ⟨rfl, bq⟩
      have k_a := k_a.below bq k_a.lt
      have k_b := k_b.below bq k_b.lt
      have k_r := k_r.below bq k_r.lt
      have k_g := k_g.below bq k_g.lt
      have bb := bb.trans (bq.mono bb.size)
      clear bq
      refine hK.out _ _ (lcells6 k_a k_b) (fun hHeld => ?_)
      clear hK K
      (try simp only [Act.put, List.setIfInBounds_toArray, List.set_cons_zero, List.set_cons_succ])
      refine wpAnyH_take (i := 5) (oi := ?oo793) (v := ?vv793) ?hi793 (by kernel_rfl) (by kernel_rfl) (by kernel_rfl) ?hq793 ?hy793 (by assumption) ?hh793
      case hi793 => (simp only [List.getElem?_toArray, List.getElem?_cons_succ, List.getElem?_cons_zero]; rfl)
      case hq793 => exact fun _ _ _ h => h
      case hy793 => exact Or.inl ⟨by rfl, by (intro W hSw; (try dsimp only at hSw); go_simp; (try with_reducible rfl))⟩
      (try simp only [Act.put, List.setIfInBounds_toArray, List.set_cons_zero, List.set_cons_succ])
      refine wpAnyH_take (i := 6) (oi := ?oo794) (v := ?vv794) ?hi794 (by kernel_rfl) (by kernel_rfl) (by kernel_rfl) ?hq794 ?hy794 (by assumption) ?hh794
      case hi794 => (simp only [List.getElem?_toArray, List.getElem?_cons_succ, List.getElem?_cons_zero]; rfl)
      case hq794 => exact fun _ _ _ h => h
      case hy794 => exact Or.inl ⟨by rfl, by (intro W hSw; (try dsimp only at hSw); go_simp; (try with_reducible rfl))⟩
      (try simp only [Act.put, List.setIfInBounds_toArray, List.set_cons_zero, List.set_cons_succ])
      refine wpAnyH_take (i := 7) (oi := ?oo795) (v := ?vv795) ?hi795 (by kernel_rfl) (by kernel_rfl) (by kernel_rfl) ?hq795 ?hy795 (by assumption) ?hh795
      case hi795 => (simp only [List.getElem?_toArray, List.getElem?_cons_succ, List.getElem?_cons_zero]; rfl)
      case hq795 => exact fun _ _ _ h => h
      case hy795 => exact Or.inl ⟨by rfl, by (intro W hSw; (try dsimp only at hSw); go_simp; (try with_reducible rfl))⟩
      (try simp only [Act.put, List.setIfInBounds_toArray, List.set_cons_zero, List.set_cons_succ])
      obtain ⟨x_g0, x_g1, x_g2⟩ := lcells k_g
      have z_g0 := k_g.frozen 0
      have z_g1 := k_g.frozen 1
      have z_g2 := k_g.frozen 2
      have l_g := k_g.lt
      refine wpAnyH_ready (rs := [9]) (by kernel_rfl) (by simp) ?_
      refine AllReadyH.cons rfl (fun K hK => ?_) AllReadyH.nil
      go_simp
      clear x_g0 x_g1 x_g2 z_g0 z_g1 z_g2 l_g
      have k_g := k_g.lset3 (.int .u8 d) (.bool m) (.int .i64 z)
      have k_a := k_a.lfar3 g (by omega) (.int .u8 d) (.bool m) (.int .i64 z)
      have k_b := k_b.lfar3 g (by omega) (.int .u8 d) (.bool m) (.int .i64 z)
      have k_r := k_r.lfar3 g (by omega) (.int .u8 d) (.bool m) (.int .i64 z)
      have bb := lbelow3 bb g (by omega) (.int .u8 d) (.bool m) (.int .i64 z)
      refine hK.out _ _ (lcells6 k_a k_b) (fun hHeld => ?_)
      clear hK K
      generalize (((U2.setCell ⟨g, 0, none⟩ (.int .u8 d)).setCell ⟨g, 1, none⟩ (.bool m)).setCell ⟨g, 2, none⟩ (.int .i64 z)) = U3 at *
      (try simp only [Act.put, List.setIfInBounds_toArray, List.set_cons_zero, List.set_cons_succ])
      refine wpAnyH_take (i := 10) (oi := ?oo796) (v := ?vv796) ?hi796 (by kernel_rfl) (by kernel_rfl) (by kernel_rfl) ?hq796 ?hy796 (by assumption) ?hh796
      case hi796 => (simp only [List.getElem?_toArray, List.getElem?_cons_succ, List.getElem?_cons_zero]; rfl)
      case hq796 => exact fun _ _ _ h => h
      case hy796 => exact Or.inl ⟨by rfl, by (intro W hSw; (try dsimp only at hSw); go_simp; (try with_reducible rfl))⟩
      (try simp only [Act.put, List.setIfInBounds_toArray, List.set_cons_zero, List.set_cons_succ])
      refine wpAnyH_done (by kernel_rfl) ?_ _
      go_wp2_with fail
      go_meet
      exact ⟨g, rfl, rfl, ⟨bb, k_g, k_r⟩⟩
  case rest =>
  obtain ⟨g, rfl, rfl, ⟨bb, k_g, k_r⟩⟩ := hcut
  have x_g0 := c30 k_g
  have x_g1 := c31 k_g
  have x_g2 := c32 k_g
  have l_g := k_g.lt
  have x_r0 := c30 k_r
  have x_r1 := c31 k_r
  have x_r2 := c32 k_r
  have l_r := k_r.lt
  have z_r0 := k_r.frozen 0
  have z_r1 := k_r.frozen 1
  have z_r2 := k_r.frozen 2
  go_wp2
  exact bodyPost_ret (v := (.tuple #[VS 0 0 ⟨#[]⟩, .int .i64 2])) (by simp [results, Tryd.results48, go_sem, x_r0, x_r1, x_r2, l_r]) rfl ⟨rfl, (((bb).setCell (p := ⟨w.heap.size + 2, 0, none⟩) (by first | exact Nat.le_refl _ | (simp; done) | (simp; omega) | omega) _).setCell (p := ⟨w.heap.size + 2, 1, none⟩) (by first | exact Nat.le_refl _ | (simp; done) | (simp; omega) | omega) _).setCell (p := ⟨w.heap.size + 2, 2, none⟩) (by first | exact Nat.le_refl _ | (simp; done) | (simp; omega) | omega) _⟩
end Go.Proofs.YtjkboelcpihphaaDoor
