/- The walk of the law's play. -/
import Derived.Test.YtlgnjbdkkpjjaaaOtAllH
import Derived.Deep.RegionHeld3
import Derived.Outline
set_option linter.unusedVariables false
set_option linter.unusedSimpArgs false
namespace Go.Proofs.Ytlgnjbdkkpjjaaa
open Go.RowKit Go.Sort

set_option maxHeartbeats 32000000 in
set_option maxRecDepth 100000 in
theorem play_2x {w0 : World} {B T M : Nat} {A : List Ent} {D : List (Nat × Nat)} {O : Nat → Prop} {L : List Ent} {cl : Nat} {R : Nat → Prop} {lv cv dv : Value} {X : List Cu} (w : World) (c : CallV) (k : K3) (j kd : Nat) (hm : Mem w0 w B T M A D O L cl R lv cv dv X) (hr : Rel A D L cl X) (hL : L.length ≤ j) (hcl : cl ≤ j) (hj : j ≤ 400) (xm : Nat) (hX : X.length ≤ xm) (hxm : xm ≤ 40)
    (hkd : (wrap64 (c.kind.tmod 7 + 7)).tmod 7 = (kd : Int)) (hc7 : kd = 2) (hk : k.2.2.size ≤ 4000)
    (CA : ∀ W, Below w.heap.size w W → Calls Try.prog 19 #[SeedV c.K c.N c.a c.n c.cap] W (Ret (VK k) W)) :
    Calls Try.prog 22 #[.pointer (some ⟨B, 0, none⟩), CallA c] w (PlayX w0 B T M xm (j + 1)) := by
  have HCA := Lib.hid CA
  have HM := Lib.hid hm
  have HR := Lib.hid hr
  obtain ⟨vn, hvn⟩ : ∃ vn, bits .and .i64 c.val 65535 = vn := ⟨_, rfl⟩
  obtain ⟨fl, hfl⟩ : ∃ fl, bits .and .i64 c.m 15 = fl := ⟨_, rfl⟩
  have bb : Below w.heap.size w (w.alloc (.cells (CallC c) 59)) := (Below.refl _ _).alloc (Nat.le_refl _) _
  have k_c := Blk.new w 59 (CallC c)
  have HUL := Lib.hid (show ∀ x, UU O R x → x < w.heap.size from fun x hx => by
    rcases hx with hx | hx
    · exact hm.st.tab.lt x hx
    · exact hm.rt.oLt x hx)
  clear CA hm hr
  go_enter Try.func22, Try.ntmps22
  go_upto_region 1 with fail
  generalize w.alloc (.cells (CallC c) 59) = w1 at *
  go_cut [5, 6] from 18 to 24 (fun s5 s6 wx => ∃ g h, s5 = .pointer (some ⟨g, 0, none⟩) ∧ s6 = .pointer (some ⟨h, 0, none⟩) ∧ PB w wx g h k vn c)
  case first =>
    have k_c := k_c.drew
    have bb := bb.drew
    refine wp_region_held_drew (S := (fun W => W.cell? ⟨w.heap.size, 1, none⟩ = some (.int .i64 c.K) ∧ W.cell? ⟨w.heap.size, 2, none⟩ = some (.int .i64 c.N) ∧ W.cell? ⟨w.heap.size, 3, none⟩ = some (.slice c.a c.n c.cap) ∧ W.cell? ⟨w.heap.size, 4, none⟩ = some (.int .i64 c.val))) (by kernel_rfl) ⟨by rw [k_c.cell]; rfl, by rw [k_c.cell]; rfl, by rw [k_c.cell]; rfl, by rw [k_c.cell]; rfl⟩ (fun hHeld => ?_)
    generalize w1.drew = D0 at *
    change wpAnyH _ _ _ _ _ 11 #[false, false, false, false, false, false, false, false, false, false, false] _ _
    refine wpAnyH_take (i := 0) (oi := ?oo900) (v := ?vv900) ?hi900 (by kernel_rfl) (by kernel_rfl) (by kernel_rfl) ?hq900 ?hy900 (by assumption) ?hh900
    case hi900 => (simp only [List.getElem?_toArray, List.getElem?_cons_succ, List.getElem?_cons_zero]; rfl)
    case hq900 => exact fun _ _ _ h => h
    case hy900 => exact Or.inl ⟨by rfl, by (intro W hSw; (try dsimp only at hSw); go_simp; (try with_reducible rfl))⟩
    (try simp only [Act.put, List.setIfInBounds_toArray, List.set_cons_zero, List.set_cons_succ])
    refine wpAnyH_take (i := 1) (oi := ?oo901) (v := ?vv901) ?hi901 (by kernel_rfl) (by kernel_rfl) (by kernel_rfl) ?hq901 ?hy901 (by assumption) ?hh901
    case hi901 => (simp only [List.getElem?_toArray, List.getElem?_cons_succ, List.getElem?_cons_zero]; rfl)
    case hq901 => exact fun _ _ _ h => h
    case hy901 => exact Or.inl ⟨by rfl, by (intro W hSw; (try dsimp only at hSw); go_simp; (try with_reducible rfl))⟩
    (try simp only [Act.put, List.setIfInBounds_toArray, List.set_cons_zero, List.set_cons_succ])
    refine wpAnyH_take (i := 3) (oi := ?oo902) (v := ?vv902) ?hi902 (by kernel_rfl) (by kernel_rfl) (by kernel_rfl) ?hq902 ?hy902 (by assumption) ?hh902
    case hi902 => (simp only [List.getElem?_toArray, List.getElem?_cons_succ, List.getElem?_cons_zero]; rfl)
    case hq902 => exact fun _ _ _ h => h
    case hy902 => exact Or.inl ⟨by rfl, by (intro W hSw; (try dsimp only at hSw); go_simp; (try with_reducible rfl))⟩
    (try simp only [Act.put, List.setIfInBounds_toArray, List.set_cons_zero, List.set_cons_succ])
    refine wpAnyH_take (i := 4) (oi := ?oo903) (v := ?vv903) ?hi903 (by kernel_rfl) (by kernel_rfl) (by kernel_rfl) ?hq903 ?hy903 (by assumption) ?hh903
    case hi903 => (simp only [List.getElem?_toArray, List.getElem?_cons_succ, List.getElem?_cons_zero]; rfl)
    case hq903 => exact fun _ _ _ h => h
    case hy903 => exact Or.inl ⟨by rfl, by (intro W hSw; (try dsimp only at hSw); go_simp; (try with_reducible rfl))⟩
    (try simp only [Act.put, List.setIfInBounds_toArray, List.set_cons_zero, List.set_cons_succ])
    refine wpAnyH_take (i := 5) (oi := ?oo904) (v := ?vv904) ?hi904 (by kernel_rfl) (by kernel_rfl) (by kernel_rfl) ?hq904 ?hy904 (by assumption) ?hh904
    case hi904 => (simp only [List.getElem?_toArray, List.getElem?_cons_succ, List.getElem?_cons_zero]; rfl)
    case hq904 => exact fun _ _ _ h => h
    case hy904 => exact Or.inl ⟨by rfl, by (intro W hSw; (try dsimp only at hSw); go_simp; (try with_reducible rfl))⟩
    (try simp only [Act.put, List.setIfInBounds_toArray, List.set_cons_zero, List.set_cons_succ])
    refine wpAnyH_take (i := 6) (oi := ?oo905) (v := ?vv905) ?hi905 (by kernel_rfl) (by kernel_rfl) (by kernel_rfl) ?hq905 ?hy905 (by assumption) ?hh905
    case hi905 => (simp only [List.getElem?_toArray, List.getElem?_cons_succ, List.getElem?_cons_zero]; rfl)
    case hq905 => exact fun _ _ _ h => h
    case hy905 => exact Or.inl ⟨by rfl, by (intro W hSw; (try dsimp only at hSw); go_simp; (try with_reducible rfl))⟩
    (try simp only [Act.put, List.setIfInBounds_toArray, List.set_cons_zero, List.set_cons_succ])
    refine wpAnyH_ready (rs := [2, 7, 8]) (by kernel_rfl) (by simp) ?_
    refine AllReadyH.cons rfl (fun K hK => ?_) (AllReadyH.cons rfl (fun K hK => ?_) (AllReadyH.cons rfl (fun K hK => ?_) AllReadyH.nil))
    · go_simp
      go_at_call 19
      (with_reducible refine (HCA.out _ bb).mono ?_)
      rintro e U1 ⟨rfl, bq⟩
      have k_c := k_c.below bq k_c.lt
      have bb := bb.trans (bq.mono bb.size)
      clear bq
      refine hK.out _ _ ⟨by rw [k_c.cell]; rfl, by rw [k_c.cell]; rfl, by rw [k_c.cell]; rfl, by rw [k_c.cell]; rfl⟩ (fun hHeld => ?_)
      clear hK K
      (try simp only [Act.put, List.setIfInBounds_toArray, List.set_cons_zero, List.set_cons_succ])
      refine wpAnyH_ready (rs := [7, 8]) (by kernel_rfl) (by simp) ?_
      refine AllReadyH.cons rfl (fun K hK => ?_) (AllReadyH.cons rfl (fun K hK => ?_) AllReadyH.nil)
      · go_simp
        have n_q := k_c.lt
        have k_c := k_c.alloc (.cells #[.int .i64 0, .int .i64 0, .string ⟨#[]⟩] 27)
        have k_g := Blk.new U1 27 #[.int .i64 0, .int .i64 0, .string ⟨#[]⟩]
        have bb := bb.alloc bb.size (.cells #[.int .i64 0, .int .i64 0, .string ⟨#[]⟩] 27)
        refine hK.out _ _ ⟨by rw [k_c.cell]; rfl, by rw [k_c.cell]; rfl, by rw [k_c.cell]; rfl, by rw [k_c.cell]; rfl⟩ (fun hHeld => ?_)
        clear hK K
        generalize U1.alloc (.cells #[.int .i64 0, .int .i64 0, .string ⟨#[]⟩] 27) = U2 at *
        generalize U1.heap.size = g at *
        have n_gq := n_q
        clear n_q
        (try simp only [Act.put, List.setIfInBounds_toArray, List.set_cons_zero, List.set_cons_succ])
        refine wpAnyH_ready (rs := [8]) (by kernel_rfl) (by simp) ?_
        refine AllReadyH.cons rfl (fun K hK => ?_) AllReadyH.nil
        · go_simp
          have n_q := k_c.lt
          have n_l := k_g.lt
          have k_c := k_c.alloc (.cells #[.int .i64 0, .int .i64 0, .string ⟨#[]⟩] 27)
          have k_g := k_g.alloc (.cells #[.int .i64 0, .int .i64 0, .string ⟨#[]⟩] 27)
          have k_h := Blk.new U2 27 #[.int .i64 0, .int .i64 0, .string ⟨#[]⟩]
          have bb := bb.alloc bb.size (.cells #[.int .i64 0, .int .i64 0, .string ⟨#[]⟩] 27)
          refine hK.out _ _ ⟨by rw [k_c.cell]; rfl, by rw [k_c.cell]; rfl, by rw [k_c.cell]; rfl, by rw [k_c.cell]; rfl⟩ (fun hHeld => ?_)
          clear hK K
          generalize U2.alloc (.cells #[.int .i64 0, .int .i64 0, .string ⟨#[]⟩] 27) = U3 at *
          generalize U2.heap.size = h at *
          have n_hg : g ≠ h := by omega
          have n_gh : h ≠ g := by omega
          clear n_l
          have n_hq := n_q
          clear n_q
          (try simp only [Act.put, List.setIfInBounds_toArray, List.set_cons_zero, List.set_cons_succ])
          have x_g0 : U3.cell? ⟨g, 0, none⟩ = some (.int .i64 0) := by rw [k_g.cell]; rfl
          have z_g0 := k_g.frozen 0
          have x_g1 : U3.cell? ⟨g, 1, none⟩ = some (.int .i64 0) := by rw [k_g.cell]; rfl
          have z_g1 := k_g.frozen 1
          have x_g2 : U3.cell? ⟨g, 2, none⟩ = some (.string ⟨#[]⟩) := by rw [k_g.cell]; rfl
          have z_g2 := k_g.frozen 2
          have l_g := k_g.lt
          refine wpAnyH_ready (rs := [9]) (by kernel_rfl) (by simp) ?_
          refine AllReadyH.cons rfl (fun K hK => ?_) AllReadyH.nil
          go_simp
          clear x_g0 x_g1 x_g2 z_g0 z_g1 z_g2 l_g
          have k_g : Blk (((U3.setCell ⟨g, 0, none⟩ (.int .i64 k.1)).setCell ⟨g, 1, none⟩ (.int .i64 k.2.1)).setCell ⟨g, 2, none⟩ (.string k.2.2)) g 27 #[.int .i64 k.1, .int .i64 k.2.1, .string k.2.2] := ((k_g.set_ 0 _).set_ 1 _).set_ 2 _
          have k_h : Blk (((U3.setCell ⟨g, 0, none⟩ (.int .i64 k.1)).setCell ⟨g, 1, none⟩ (.int .i64 k.2.1)).setCell ⟨g, 2, none⟩ (.string k.2.2)) _ _ _ := ((k_h.far (p := ⟨g, 0, none⟩) n_gh _).far (p := ⟨g, 1, none⟩) n_gh _).far (p := ⟨g, 2, none⟩) n_gh _
          have k_c : Blk (((U3.setCell ⟨g, 0, none⟩ (.int .i64 k.1)).setCell ⟨g, 1, none⟩ (.int .i64 k.2.1)).setCell ⟨g, 2, none⟩ (.string k.2.2)) _ _ _ := ((k_c.far (p := ⟨g, 0, none⟩) (by show w.heap.size ≠ g; omega) _).far (p := ⟨g, 1, none⟩) (by show w.heap.size ≠ g; omega) _).far (p := ⟨g, 2, none⟩) (by show w.heap.size ≠ g; omega) _
          have bb : Below w.heap.size w (((U3.setCell ⟨g, 0, none⟩ (.int .i64 k.1)).setCell ⟨g, 1, none⟩ (.int .i64 k.2.1)).setCell ⟨g, 2, none⟩ (.string k.2.2)) := ((bb.setCell (p := ⟨g, 0, none⟩) (by show _ ≤ g; omega) _).setCell (p := ⟨g, 1, none⟩) (by show _ ≤ g; omega) _).setCell (p := ⟨g, 2, none⟩) (by show _ ≤ g; omega) _
          refine hK.out _ _ ⟨by rw [k_c.cell]; rfl, by rw [k_c.cell]; rfl, by rw [k_c.cell]; rfl, by rw [k_c.cell]; rfl⟩ (fun hHeld => ?_)
          clear hK K
          generalize (((U3.setCell ⟨g, 0, none⟩ (.int .i64 k.1)).setCell ⟨g, 1, none⟩ (.int .i64 k.2.1)).setCell ⟨g, 2, none⟩ (.string k.2.2)) = U4 at *
          (try simp only [Act.put, List.setIfInBounds_toArray, List.set_cons_zero, List.set_cons_succ])
          have x_h0 : U4.cell? ⟨h, 0, none⟩ = some (.int .i64 0) := by rw [k_h.cell]; rfl
          have z_h0 := k_h.frozen 0
          have x_h1 : U4.cell? ⟨h, 1, none⟩ = some (.int .i64 0) := by rw [k_h.cell]; rfl
          have z_h1 := k_h.frozen 1
          have x_h2 : U4.cell? ⟨h, 2, none⟩ = some (.string ⟨#[]⟩) := by rw [k_h.cell]; rfl
          have z_h2 := k_h.frozen 2
          have l_h := k_h.lt
          refine wpAnyH_ready (rs := [10]) (by kernel_rfl) (by simp) ?_
          refine AllReadyH.cons rfl (fun K hK => ?_) AllReadyH.nil
          go_simp
          clear x_h0 x_h1 x_h2 z_h0 z_h1 z_h2 l_h
          have k_h : Blk (((U4.setCell ⟨h, 0, none⟩ (.int .i64 3)).setCell ⟨h, 1, none⟩ (.int .i64 vn)).setCell ⟨h, 2, none⟩ (.string ⟨#[]⟩)) h 27 #[.int .i64 3, .int .i64 vn, .string ⟨#[]⟩] := ((k_h.set_ 0 _).set_ 1 _).set_ 2 _
          have k_g : Blk (((U4.setCell ⟨h, 0, none⟩ (.int .i64 3)).setCell ⟨h, 1, none⟩ (.int .i64 vn)).setCell ⟨h, 2, none⟩ (.string ⟨#[]⟩)) _ _ _ := ((k_g.far (p := ⟨h, 0, none⟩) n_hg _).far (p := ⟨h, 1, none⟩) n_hg _).far (p := ⟨h, 2, none⟩) n_hg _
          have k_c : Blk (((U4.setCell ⟨h, 0, none⟩ (.int .i64 3)).setCell ⟨h, 1, none⟩ (.int .i64 vn)).setCell ⟨h, 2, none⟩ (.string ⟨#[]⟩)) _ _ _ := ((k_c.far (p := ⟨h, 0, none⟩) (by show w.heap.size ≠ h; omega) _).far (p := ⟨h, 1, none⟩) (by show w.heap.size ≠ h; omega) _).far (p := ⟨h, 2, none⟩) (by show w.heap.size ≠ h; omega) _
          have bb : Below w.heap.size w (((U4.setCell ⟨h, 0, none⟩ (.int .i64 3)).setCell ⟨h, 1, none⟩ (.int .i64 vn)).setCell ⟨h, 2, none⟩ (.string ⟨#[]⟩)) := ((bb.setCell (p := ⟨h, 0, none⟩) (by show _ ≤ h; omega) _).setCell (p := ⟨h, 1, none⟩) (by show _ ≤ h; omega) _).setCell (p := ⟨h, 2, none⟩) (by show _ ≤ h; omega) _
          refine hK.out _ _ ⟨by rw [k_c.cell]; rfl, by rw [k_c.cell]; rfl, by rw [k_c.cell]; rfl, by rw [k_c.cell]; rfl⟩ (fun hHeld => ?_)
          clear hK K
          generalize (((U4.setCell ⟨h, 0, none⟩ (.int .i64 3)).setCell ⟨h, 1, none⟩ (.int .i64 vn)).setCell ⟨h, 2, none⟩ (.string ⟨#[]⟩)) = U5 at *
          (try simp only [Act.put, List.setIfInBounds_toArray, List.set_cons_zero, List.set_cons_succ])
          refine wpAnyH_done (by kernel_rfl) ?_ _
          go_wp2_with fail
          go_meet
          exact ⟨g, h, rfl, rfl, ⟨bb, k_g, k_h, k_c, by omega, by omega⟩⟩
      · go_simp
        have n_q := k_c.lt
        have k_c := k_c.alloc (.cells #[.int .i64 0, .int .i64 0, .string ⟨#[]⟩] 27)
        have k_h := Blk.new U1 27 #[.int .i64 0, .int .i64 0, .string ⟨#[]⟩]
        have bb := bb.alloc bb.size (.cells #[.int .i64 0, .int .i64 0, .string ⟨#[]⟩] 27)
        refine hK.out _ _ ⟨by rw [k_c.cell]; rfl, by rw [k_c.cell]; rfl, by rw [k_c.cell]; rfl, by rw [k_c.cell]; rfl⟩ (fun hHeld => ?_)
        clear hK K
        generalize U1.alloc (.cells #[.int .i64 0, .int .i64 0, .string ⟨#[]⟩] 27) = U6 at *
        generalize U1.heap.size = h at *
        have n_hq := n_q
        clear n_q
        (try simp only [Act.put, List.setIfInBounds_toArray, List.set_cons_zero, List.set_cons_succ])
        refine wpAnyH_ready (rs := [7]) (by kernel_rfl) (by simp) ?_
        refine AllReadyH.cons rfl (fun K hK => ?_) AllReadyH.nil
        · go_simp
          have n_q := k_c.lt
          have n_l := k_h.lt
          have k_c := k_c.alloc (.cells #[.int .i64 0, .int .i64 0, .string ⟨#[]⟩] 27)
          have k_h := k_h.alloc (.cells #[.int .i64 0, .int .i64 0, .string ⟨#[]⟩] 27)
          have k_g := Blk.new U6 27 #[.int .i64 0, .int .i64 0, .string ⟨#[]⟩]
          have bb := bb.alloc bb.size (.cells #[.int .i64 0, .int .i64 0, .string ⟨#[]⟩] 27)
          refine hK.out _ _ ⟨by rw [k_c.cell]; rfl, by rw [k_c.cell]; rfl, by rw [k_c.cell]; rfl, by rw [k_c.cell]; rfl⟩ (fun hHeld => ?_)
          clear hK K
          generalize U6.alloc (.cells #[.int .i64 0, .int .i64 0, .string ⟨#[]⟩] 27) = U7 at *
          generalize U6.heap.size = g at *
          have n_gh : h ≠ g := by omega
          have n_hg : g ≠ h := by omega
          clear n_l
          have n_gq := n_q
          clear n_q
          (try simp only [Act.put, List.setIfInBounds_toArray, List.set_cons_zero, List.set_cons_succ])
          have x_g0 : U7.cell? ⟨g, 0, none⟩ = some (.int .i64 0) := by rw [k_g.cell]; rfl
          have z_g0 := k_g.frozen 0
          have x_g1 : U7.cell? ⟨g, 1, none⟩ = some (.int .i64 0) := by rw [k_g.cell]; rfl
          have z_g1 := k_g.frozen 1
          have x_g2 : U7.cell? ⟨g, 2, none⟩ = some (.string ⟨#[]⟩) := by rw [k_g.cell]; rfl
          have z_g2 := k_g.frozen 2
          have l_g := k_g.lt
          refine wpAnyH_ready (rs := [9]) (by kernel_rfl) (by simp) ?_
          refine AllReadyH.cons rfl (fun K hK => ?_) AllReadyH.nil
          go_simp
          clear x_g0 x_g1 x_g2 z_g0 z_g1 z_g2 l_g
          have k_g : Blk (((U7.setCell ⟨g, 0, none⟩ (.int .i64 k.1)).setCell ⟨g, 1, none⟩ (.int .i64 k.2.1)).setCell ⟨g, 2, none⟩ (.string k.2.2)) g 27 #[.int .i64 k.1, .int .i64 k.2.1, .string k.2.2] := ((k_g.set_ 0 _).set_ 1 _).set_ 2 _
          have k_h : Blk (((U7.setCell ⟨g, 0, none⟩ (.int .i64 k.1)).setCell ⟨g, 1, none⟩ (.int .i64 k.2.1)).setCell ⟨g, 2, none⟩ (.string k.2.2)) _ _ _ := ((k_h.far (p := ⟨g, 0, none⟩) n_gh _).far (p := ⟨g, 1, none⟩) n_gh _).far (p := ⟨g, 2, none⟩) n_gh _
          have k_c : Blk (((U7.setCell ⟨g, 0, none⟩ (.int .i64 k.1)).setCell ⟨g, 1, none⟩ (.int .i64 k.2.1)).setCell ⟨g, 2, none⟩ (.string k.2.2)) _ _ _ := ((k_c.far (p := ⟨g, 0, none⟩) (by show w.heap.size ≠ g; omega) _).far (p := ⟨g, 1, none⟩) (by show w.heap.size ≠ g; omega) _).far (p := ⟨g, 2, none⟩) (by show w.heap.size ≠ g; omega) _
          have bb : Below w.heap.size w (((U7.setCell ⟨g, 0, none⟩ (.int .i64 k.1)).setCell ⟨g, 1, none⟩ (.int .i64 k.2.1)).setCell ⟨g, 2, none⟩ (.string k.2.2)) := ((bb.setCell (p := ⟨g, 0, none⟩) (by show _ ≤ g; omega) _).setCell (p := ⟨g, 1, none⟩) (by show _ ≤ g; omega) _).setCell (p := ⟨g, 2, none⟩) (by show _ ≤ g; omega) _
          refine hK.out _ _ ⟨by rw [k_c.cell]; rfl, by rw [k_c.cell]; rfl, by rw [k_c.cell]; rfl, by rw [k_c.cell]; rfl⟩ (fun hHeld => ?_)
          clear hK K
          generalize (((U7.setCell ⟨g, 0, none⟩ (.int .i64 k.1)).setCell ⟨g, 1, none⟩ (.int .i64 k.2.1)).setCell ⟨g, 2, none⟩ (.string k.2.2)) = U8 at *
          (try simp only [Act.put, List.setIfInBounds_toArray, List.set_cons_zero, List.set_cons_succ])
          have x_h0 : U8.cell? ⟨h, 0, none⟩ = some (.int .i64 0) := by rw [k_h.cell]; rfl
          have z_h0 := k_h.frozen 0
          have x_h1 : U8.cell? ⟨h, 1, none⟩ = some (.int .i64 0) := by rw [k_h.cell]; rfl
          have z_h1 := k_h.frozen 1
          have x_h2 : U8.cell? ⟨h, 2, none⟩ = some (.string ⟨#[]⟩) := by rw [k_h.cell]; rfl
          have z_h2 := k_h.frozen 2
          have l_h := k_h.lt
          refine wpAnyH_ready (rs := [10]) (by kernel_rfl) (by simp) ?_
          refine AllReadyH.cons rfl (fun K hK => ?_) AllReadyH.nil
          go_simp
          clear x_h0 x_h1 x_h2 z_h0 z_h1 z_h2 l_h
          have k_h : Blk (((U8.setCell ⟨h, 0, none⟩ (.int .i64 3)).setCell ⟨h, 1, none⟩ (.int .i64 vn)).setCell ⟨h, 2, none⟩ (.string ⟨#[]⟩)) h 27 #[.int .i64 3, .int .i64 vn, .string ⟨#[]⟩] := ((k_h.set_ 0 _).set_ 1 _).set_ 2 _
          have k_g : Blk (((U8.setCell ⟨h, 0, none⟩ (.int .i64 3)).setCell ⟨h, 1, none⟩ (.int .i64 vn)).setCell ⟨h, 2, none⟩ (.string ⟨#[]⟩)) _ _ _ := ((k_g.far (p := ⟨h, 0, none⟩) n_hg _).far (p := ⟨h, 1, none⟩) n_hg _).far (p := ⟨h, 2, none⟩) n_hg _
          have k_c : Blk (((U8.setCell ⟨h, 0, none⟩ (.int .i64 3)).setCell ⟨h, 1, none⟩ (.int .i64 vn)).setCell ⟨h, 2, none⟩ (.string ⟨#[]⟩)) _ _ _ := ((k_c.far (p := ⟨h, 0, none⟩) (by show w.heap.size ≠ h; omega) _).far (p := ⟨h, 1, none⟩) (by show w.heap.size ≠ h; omega) _).far (p := ⟨h, 2, none⟩) (by show w.heap.size ≠ h; omega) _
          have bb : Below w.heap.size w (((U8.setCell ⟨h, 0, none⟩ (.int .i64 3)).setCell ⟨h, 1, none⟩ (.int .i64 vn)).setCell ⟨h, 2, none⟩ (.string ⟨#[]⟩)) := ((bb.setCell (p := ⟨h, 0, none⟩) (by show _ ≤ h; omega) _).setCell (p := ⟨h, 1, none⟩) (by show _ ≤ h; omega) _).setCell (p := ⟨h, 2, none⟩) (by show _ ≤ h; omega) _
          refine hK.out _ _ ⟨by rw [k_c.cell]; rfl, by rw [k_c.cell]; rfl, by rw [k_c.cell]; rfl, by rw [k_c.cell]; rfl⟩ (fun hHeld => ?_)
          clear hK K
          generalize (((U8.setCell ⟨h, 0, none⟩ (.int .i64 3)).setCell ⟨h, 1, none⟩ (.int .i64 vn)).setCell ⟨h, 2, none⟩ (.string ⟨#[]⟩)) = U9 at *
          (try simp only [Act.put, List.setIfInBounds_toArray, List.set_cons_zero, List.set_cons_succ])
          refine wpAnyH_done (by kernel_rfl) ?_ _
          go_wp2_with fail
          go_meet
          exact ⟨g, h, rfl, rfl, ⟨bb, k_g, k_h, k_c, by omega, by omega⟩⟩
    · go_simp
      have n_q := k_c.lt
      have k_c := k_c.alloc (.cells #[.int .i64 0, .int .i64 0, .string ⟨#[]⟩] 27)
      have k_g := Blk.new D0 27 #[.int .i64 0, .int .i64 0, .string ⟨#[]⟩]
      have bb := bb.alloc bb.size (.cells #[.int .i64 0, .int .i64 0, .string ⟨#[]⟩] 27)
      refine hK.out _ _ ⟨by rw [k_c.cell]; rfl, by rw [k_c.cell]; rfl, by rw [k_c.cell]; rfl, by rw [k_c.cell]; rfl⟩ (fun hHeld => ?_)
      clear hK K
      generalize D0.alloc (.cells #[.int .i64 0, .int .i64 0, .string ⟨#[]⟩] 27) = U10 at *
      generalize D0.heap.size = g at *
      have n_gq := n_q
      clear n_q
      (try simp only [Act.put, List.setIfInBounds_toArray, List.set_cons_zero, List.set_cons_succ])
      refine wpAnyH_ready (rs := [2, 8]) (by kernel_rfl) (by simp) ?_
      refine AllReadyH.cons rfl (fun K hK => ?_) (AllReadyH.cons rfl (fun K hK => ?_) AllReadyH.nil)
      · go_simp
        go_at_call 19
        (with_reducible refine (HCA.out _ bb).mono ?_)
        rintro e U11 ⟨rfl, bq⟩
        have k_c := k_c.below bq k_c.lt
        have k_g := k_g.below bq k_g.lt
        have bb := bb.trans (bq.mono bb.size)
        clear bq
        refine hK.out _ _ ⟨by rw [k_c.cell]; rfl, by rw [k_c.cell]; rfl, by rw [k_c.cell]; rfl, by rw [k_c.cell]; rfl⟩ (fun hHeld => ?_)
        clear hK K
        (try simp only [Act.put, List.setIfInBounds_toArray, List.set_cons_zero, List.set_cons_succ])
        refine wpAnyH_ready (rs := [8]) (by kernel_rfl) (by simp) ?_
        refine AllReadyH.cons rfl (fun K hK => ?_) AllReadyH.nil
        · go_simp
          have n_q := k_c.lt
          have n_l := k_g.lt
          have k_c := k_c.alloc (.cells #[.int .i64 0, .int .i64 0, .string ⟨#[]⟩] 27)
          have k_g := k_g.alloc (.cells #[.int .i64 0, .int .i64 0, .string ⟨#[]⟩] 27)
          have k_h := Blk.new U11 27 #[.int .i64 0, .int .i64 0, .string ⟨#[]⟩]
          have bb := bb.alloc bb.size (.cells #[.int .i64 0, .int .i64 0, .string ⟨#[]⟩] 27)
          refine hK.out _ _ ⟨by rw [k_c.cell]; rfl, by rw [k_c.cell]; rfl, by rw [k_c.cell]; rfl, by rw [k_c.cell]; rfl⟩ (fun hHeld => ?_)
          clear hK K
          generalize U11.alloc (.cells #[.int .i64 0, .int .i64 0, .string ⟨#[]⟩] 27) = U12 at *
          generalize U11.heap.size = h at *
          have n_hg : g ≠ h := by omega
          have n_gh : h ≠ g := by omega
          clear n_l
          have n_hq := n_q
          clear n_q
          (try simp only [Act.put, List.setIfInBounds_toArray, List.set_cons_zero, List.set_cons_succ])
          have x_g0 : U12.cell? ⟨g, 0, none⟩ = some (.int .i64 0) := by rw [k_g.cell]; rfl
          have z_g0 := k_g.frozen 0
          have x_g1 : U12.cell? ⟨g, 1, none⟩ = some (.int .i64 0) := by rw [k_g.cell]; rfl
          have z_g1 := k_g.frozen 1
          have x_g2 : U12.cell? ⟨g, 2, none⟩ = some (.string ⟨#[]⟩) := by rw [k_g.cell]; rfl
          have z_g2 := k_g.frozen 2
          have l_g := k_g.lt
          refine wpAnyH_ready (rs := [9]) (by kernel_rfl) (by simp) ?_
          refine AllReadyH.cons rfl (fun K hK => ?_) AllReadyH.nil
          go_simp
          clear x_g0 x_g1 x_g2 z_g0 z_g1 z_g2 l_g
          have k_g : Blk (((U12.setCell ⟨g, 0, none⟩ (.int .i64 k.1)).setCell ⟨g, 1, none⟩ (.int .i64 k.2.1)).setCell ⟨g, 2, none⟩ (.string k.2.2)) g 27 #[.int .i64 k.1, .int .i64 k.2.1, .string k.2.2] := ((k_g.set_ 0 _).set_ 1 _).set_ 2 _
          have k_h : Blk (((U12.setCell ⟨g, 0, none⟩ (.int .i64 k.1)).setCell ⟨g, 1, none⟩ (.int .i64 k.2.1)).setCell ⟨g, 2, none⟩ (.string k.2.2)) _ _ _ := ((k_h.far (p := ⟨g, 0, none⟩) n_gh _).far (p := ⟨g, 1, none⟩) n_gh _).far (p := ⟨g, 2, none⟩) n_gh _
          have k_c : Blk (((U12.setCell ⟨g, 0, none⟩ (.int .i64 k.1)).setCell ⟨g, 1, none⟩ (.int .i64 k.2.1)).setCell ⟨g, 2, none⟩ (.string k.2.2)) _ _ _ := ((k_c.far (p := ⟨g, 0, none⟩) (by show w.heap.size ≠ g; omega) _).far (p := ⟨g, 1, none⟩) (by show w.heap.size ≠ g; omega) _).far (p := ⟨g, 2, none⟩) (by show w.heap.size ≠ g; omega) _
          have bb : Below w.heap.size w (((U12.setCell ⟨g, 0, none⟩ (.int .i64 k.1)).setCell ⟨g, 1, none⟩ (.int .i64 k.2.1)).setCell ⟨g, 2, none⟩ (.string k.2.2)) := ((bb.setCell (p := ⟨g, 0, none⟩) (by show _ ≤ g; omega) _).setCell (p := ⟨g, 1, none⟩) (by show _ ≤ g; omega) _).setCell (p := ⟨g, 2, none⟩) (by show _ ≤ g; omega) _
          refine hK.out _ _ ⟨by rw [k_c.cell]; rfl, by rw [k_c.cell]; rfl, by rw [k_c.cell]; rfl, by rw [k_c.cell]; rfl⟩ (fun hHeld => ?_)
          clear hK K
          generalize (((U12.setCell ⟨g, 0, none⟩ (.int .i64 k.1)).setCell ⟨g, 1, none⟩ (.int .i64 k.2.1)).setCell ⟨g, 2, none⟩ (.string k.2.2)) = U13 at *
          (try simp only [Act.put, List.setIfInBounds_toArray, List.set_cons_zero, List.set_cons_succ])
          have x_h0 : U13.cell? ⟨h, 0, none⟩ = some (.int .i64 0) := by rw [k_h.cell]; rfl
          have z_h0 := k_h.frozen 0
          have x_h1 : U13.cell? ⟨h, 1, none⟩ = some (.int .i64 0) := by rw [k_h.cell]; rfl
          have z_h1 := k_h.frozen 1
          have x_h2 : U13.cell? ⟨h, 2, none⟩ = some (.string ⟨#[]⟩) := by rw [k_h.cell]; rfl
          have z_h2 := k_h.frozen 2
          have l_h := k_h.lt
          refine wpAnyH_ready (rs := [10]) (by kernel_rfl) (by simp) ?_
          refine AllReadyH.cons rfl (fun K hK => ?_) AllReadyH.nil
          go_simp
          clear x_h0 x_h1 x_h2 z_h0 z_h1 z_h2 l_h
          have k_h : Blk (((U13.setCell ⟨h, 0, none⟩ (.int .i64 3)).setCell ⟨h, 1, none⟩ (.int .i64 vn)).setCell ⟨h, 2, none⟩ (.string ⟨#[]⟩)) h 27 #[.int .i64 3, .int .i64 vn, .string ⟨#[]⟩] := ((k_h.set_ 0 _).set_ 1 _).set_ 2 _
          have k_g : Blk (((U13.setCell ⟨h, 0, none⟩ (.int .i64 3)).setCell ⟨h, 1, none⟩ (.int .i64 vn)).setCell ⟨h, 2, none⟩ (.string ⟨#[]⟩)) _ _ _ := ((k_g.far (p := ⟨h, 0, none⟩) n_hg _).far (p := ⟨h, 1, none⟩) n_hg _).far (p := ⟨h, 2, none⟩) n_hg _
          have k_c : Blk (((U13.setCell ⟨h, 0, none⟩ (.int .i64 3)).setCell ⟨h, 1, none⟩ (.int .i64 vn)).setCell ⟨h, 2, none⟩ (.string ⟨#[]⟩)) _ _ _ := ((k_c.far (p := ⟨h, 0, none⟩) (by show w.heap.size ≠ h; omega) _).far (p := ⟨h, 1, none⟩) (by show w.heap.size ≠ h; omega) _).far (p := ⟨h, 2, none⟩) (by show w.heap.size ≠ h; omega) _
          have bb : Below w.heap.size w (((U13.setCell ⟨h, 0, none⟩ (.int .i64 3)).setCell ⟨h, 1, none⟩ (.int .i64 vn)).setCell ⟨h, 2, none⟩ (.string ⟨#[]⟩)) := ((bb.setCell (p := ⟨h, 0, none⟩) (by show _ ≤ h; omega) _).setCell (p := ⟨h, 1, none⟩) (by show _ ≤ h; omega) _).setCell (p := ⟨h, 2, none⟩) (by show _ ≤ h; omega) _
          refine hK.out _ _ ⟨by rw [k_c.cell]; rfl, by rw [k_c.cell]; rfl, by rw [k_c.cell]; rfl, by rw [k_c.cell]; rfl⟩ (fun hHeld => ?_)
          clear hK K
          generalize (((U13.setCell ⟨h, 0, none⟩ (.int .i64 3)).setCell ⟨h, 1, none⟩ (.int .i64 vn)).setCell ⟨h, 2, none⟩ (.string ⟨#[]⟩)) = U14 at *
          (try simp only [Act.put, List.setIfInBounds_toArray, List.set_cons_zero, List.set_cons_succ])
          refine wpAnyH_done (by kernel_rfl) ?_ _
          go_wp2_with fail
          go_meet
          exact ⟨g, h, rfl, rfl, ⟨bb, k_g, k_h, k_c, by omega, by omega⟩⟩
      · go_simp
        have n_q := k_c.lt
        have n_l := k_g.lt
        have k_c := k_c.alloc (.cells #[.int .i64 0, .int .i64 0, .string ⟨#[]⟩] 27)
        have k_g := k_g.alloc (.cells #[.int .i64 0, .int .i64 0, .string ⟨#[]⟩] 27)
        have k_h := Blk.new U10 27 #[.int .i64 0, .int .i64 0, .string ⟨#[]⟩]
        have bb := bb.alloc bb.size (.cells #[.int .i64 0, .int .i64 0, .string ⟨#[]⟩] 27)
        refine hK.out _ _ ⟨by rw [k_c.cell]; rfl, by rw [k_c.cell]; rfl, by rw [k_c.cell]; rfl, by rw [k_c.cell]; rfl⟩ (fun hHeld => ?_)
        clear hK K
        generalize U10.alloc (.cells #[.int .i64 0, .int .i64 0, .string ⟨#[]⟩] 27) = U15 at *
        generalize U10.heap.size = h at *
        have n_hg : g ≠ h := by omega
        have n_gh : h ≠ g := by omega
        clear n_l
        have n_hq := n_q
        clear n_q
        (try simp only [Act.put, List.setIfInBounds_toArray, List.set_cons_zero, List.set_cons_succ])
        refine wpAnyH_ready (rs := [2]) (by kernel_rfl) (by simp) ?_
        refine AllReadyH.cons rfl (fun K hK => ?_) AllReadyH.nil
        · go_simp
          go_at_call 19
          (with_reducible refine (HCA.out _ bb).mono ?_)
          rintro e U16 ⟨rfl, bq⟩
          have k_c := k_c.below bq k_c.lt
          have k_g := k_g.below bq k_g.lt
          have k_h := k_h.below bq k_h.lt
          have bb := bb.trans (bq.mono bb.size)
          clear bq
          refine hK.out _ _ ⟨by rw [k_c.cell]; rfl, by rw [k_c.cell]; rfl, by rw [k_c.cell]; rfl, by rw [k_c.cell]; rfl⟩ (fun hHeld => ?_)
          clear hK K
          (try simp only [Act.put, List.setIfInBounds_toArray, List.set_cons_zero, List.set_cons_succ])
          have x_g0 : U16.cell? ⟨g, 0, none⟩ = some (.int .i64 0) := by rw [k_g.cell]; rfl
          have z_g0 := k_g.frozen 0
          have x_g1 : U16.cell? ⟨g, 1, none⟩ = some (.int .i64 0) := by rw [k_g.cell]; rfl
          have z_g1 := k_g.frozen 1
          have x_g2 : U16.cell? ⟨g, 2, none⟩ = some (.string ⟨#[]⟩) := by rw [k_g.cell]; rfl
          have z_g2 := k_g.frozen 2
          have l_g := k_g.lt
          refine wpAnyH_ready (rs := [9]) (by kernel_rfl) (by simp) ?_
          refine AllReadyH.cons rfl (fun K hK => ?_) AllReadyH.nil
          go_simp
          clear x_g0 x_g1 x_g2 z_g0 z_g1 z_g2 l_g
          have k_g : Blk (((U16.setCell ⟨g, 0, none⟩ (.int .i64 k.1)).setCell ⟨g, 1, none⟩ (.int .i64 k.2.1)).setCell ⟨g, 2, none⟩ (.string k.2.2)) g 27 #[.int .i64 k.1, .int .i64 k.2.1, .string k.2.2] := ((k_g.set_ 0 _).set_ 1 _).set_ 2 _
          have k_h : Blk (((U16.setCell ⟨g, 0, none⟩ (.int .i64 k.1)).setCell ⟨g, 1, none⟩ (.int .i64 k.2.1)).setCell ⟨g, 2, none⟩ (.string k.2.2)) _ _ _ := ((k_h.far (p := ⟨g, 0, none⟩) n_gh _).far (p := ⟨g, 1, none⟩) n_gh _).far (p := ⟨g, 2, none⟩) n_gh _
          have k_c : Blk (((U16.setCell ⟨g, 0, none⟩ (.int .i64 k.1)).setCell ⟨g, 1, none⟩ (.int .i64 k.2.1)).setCell ⟨g, 2, none⟩ (.string k.2.2)) _ _ _ := ((k_c.far (p := ⟨g, 0, none⟩) (by show w.heap.size ≠ g; omega) _).far (p := ⟨g, 1, none⟩) (by show w.heap.size ≠ g; omega) _).far (p := ⟨g, 2, none⟩) (by show w.heap.size ≠ g; omega) _
          have bb : Below w.heap.size w (((U16.setCell ⟨g, 0, none⟩ (.int .i64 k.1)).setCell ⟨g, 1, none⟩ (.int .i64 k.2.1)).setCell ⟨g, 2, none⟩ (.string k.2.2)) := ((bb.setCell (p := ⟨g, 0, none⟩) (by show _ ≤ g; omega) _).setCell (p := ⟨g, 1, none⟩) (by show _ ≤ g; omega) _).setCell (p := ⟨g, 2, none⟩) (by show _ ≤ g; omega) _
          refine hK.out _ _ ⟨by rw [k_c.cell]; rfl, by rw [k_c.cell]; rfl, by rw [k_c.cell]; rfl, by rw [k_c.cell]; rfl⟩ (fun hHeld => ?_)
          clear hK K
          generalize (((U16.setCell ⟨g, 0, none⟩ (.int .i64 k.1)).setCell ⟨g, 1, none⟩ (.int .i64 k.2.1)).setCell ⟨g, 2, none⟩ (.string k.2.2)) = U17 at *
          (try simp only [Act.put, List.setIfInBounds_toArray, List.set_cons_zero, List.set_cons_succ])
          have x_h0 : U17.cell? ⟨h, 0, none⟩ = some (.int .i64 0) := by rw [k_h.cell]; rfl
          have z_h0 := k_h.frozen 0
          have x_h1 : U17.cell? ⟨h, 1, none⟩ = some (.int .i64 0) := by rw [k_h.cell]; rfl
          have z_h1 := k_h.frozen 1
          have x_h2 : U17.cell? ⟨h, 2, none⟩ = some (.string ⟨#[]⟩) := by rw [k_h.cell]; rfl
          have z_h2 := k_h.frozen 2
          have l_h := k_h.lt
          refine wpAnyH_ready (rs := [10]) (by kernel_rfl) (by simp) ?_
          refine AllReadyH.cons rfl (fun K hK => ?_) AllReadyH.nil
          go_simp
          clear x_h0 x_h1 x_h2 z_h0 z_h1 z_h2 l_h
          have k_h : Blk (((U17.setCell ⟨h, 0, none⟩ (.int .i64 3)).setCell ⟨h, 1, none⟩ (.int .i64 vn)).setCell ⟨h, 2, none⟩ (.string ⟨#[]⟩)) h 27 #[.int .i64 3, .int .i64 vn, .string ⟨#[]⟩] := ((k_h.set_ 0 _).set_ 1 _).set_ 2 _
          have k_g : Blk (((U17.setCell ⟨h, 0, none⟩ (.int .i64 3)).setCell ⟨h, 1, none⟩ (.int .i64 vn)).setCell ⟨h, 2, none⟩ (.string ⟨#[]⟩)) _ _ _ := ((k_g.far (p := ⟨h, 0, none⟩) n_hg _).far (p := ⟨h, 1, none⟩) n_hg _).far (p := ⟨h, 2, none⟩) n_hg _
          have k_c : Blk (((U17.setCell ⟨h, 0, none⟩ (.int .i64 3)).setCell ⟨h, 1, none⟩ (.int .i64 vn)).setCell ⟨h, 2, none⟩ (.string ⟨#[]⟩)) _ _ _ := ((k_c.far (p := ⟨h, 0, none⟩) (by show w.heap.size ≠ h; omega) _).far (p := ⟨h, 1, none⟩) (by show w.heap.size ≠ h; omega) _).far (p := ⟨h, 2, none⟩) (by show w.heap.size ≠ h; omega) _
          have bb : Below w.heap.size w (((U17.setCell ⟨h, 0, none⟩ (.int .i64 3)).setCell ⟨h, 1, none⟩ (.int .i64 vn)).setCell ⟨h, 2, none⟩ (.string ⟨#[]⟩)) := ((bb.setCell (p := ⟨h, 0, none⟩) (by show _ ≤ h; omega) _).setCell (p := ⟨h, 1, none⟩) (by show _ ≤ h; omega) _).setCell (p := ⟨h, 2, none⟩) (by show _ ≤ h; omega) _
          refine hK.out _ _ ⟨by rw [k_c.cell]; rfl, by rw [k_c.cell]; rfl, by rw [k_c.cell]; rfl, by rw [k_c.cell]; rfl⟩ (fun hHeld => ?_)
          clear hK K
          generalize (((U17.setCell ⟨h, 0, none⟩ (.int .i64 3)).setCell ⟨h, 1, none⟩ (.int .i64 vn)).setCell ⟨h, 2, none⟩ (.string ⟨#[]⟩)) = U18 at *
          (try simp only [Act.put, List.setIfInBounds_toArray, List.set_cons_zero, List.set_cons_succ])
          refine wpAnyH_done (by kernel_rfl) ?_ _
          go_wp2_with fail
          go_meet
          exact ⟨g, h, rfl, rfl, ⟨bb, k_g, k_h, k_c, by omega, by omega⟩⟩
    · go_simp
      have n_q := k_c.lt
      have k_c := k_c.alloc (.cells #[.int .i64 0, .int .i64 0, .string ⟨#[]⟩] 27)
      have k_h := Blk.new D0 27 #[.int .i64 0, .int .i64 0, .string ⟨#[]⟩]
      have bb := bb.alloc bb.size (.cells #[.int .i64 0, .int .i64 0, .string ⟨#[]⟩] 27)
      refine hK.out _ _ ⟨by rw [k_c.cell]; rfl, by rw [k_c.cell]; rfl, by rw [k_c.cell]; rfl, by rw [k_c.cell]; rfl⟩ (fun hHeld => ?_)
      clear hK K
      generalize D0.alloc (.cells #[.int .i64 0, .int .i64 0, .string ⟨#[]⟩] 27) = U19 at *
      generalize D0.heap.size = h at *
      have n_hq := n_q
      clear n_q
      (try simp only [Act.put, List.setIfInBounds_toArray, List.set_cons_zero, List.set_cons_succ])
      refine wpAnyH_ready (rs := [2, 7]) (by kernel_rfl) (by simp) ?_
      refine AllReadyH.cons rfl (fun K hK => ?_) (AllReadyH.cons rfl (fun K hK => ?_) AllReadyH.nil)
      · go_simp
        go_at_call 19
        (with_reducible refine (HCA.out _ bb).mono ?_)
        rintro e U20 ⟨rfl, bq⟩
        have k_c := k_c.below bq k_c.lt
        have k_h := k_h.below bq k_h.lt
        have bb := bb.trans (bq.mono bb.size)
        clear bq
        refine hK.out _ _ ⟨by rw [k_c.cell]; rfl, by rw [k_c.cell]; rfl, by rw [k_c.cell]; rfl, by rw [k_c.cell]; rfl⟩ (fun hHeld => ?_)
        clear hK K
        (try simp only [Act.put, List.setIfInBounds_toArray, List.set_cons_zero, List.set_cons_succ])
        refine wpAnyH_ready (rs := [7]) (by kernel_rfl) (by simp) ?_
        refine AllReadyH.cons rfl (fun K hK => ?_) AllReadyH.nil
        · go_simp
          have n_q := k_c.lt
          have n_l := k_h.lt
          have k_c := k_c.alloc (.cells #[.int .i64 0, .int .i64 0, .string ⟨#[]⟩] 27)
          have k_h := k_h.alloc (.cells #[.int .i64 0, .int .i64 0, .string ⟨#[]⟩] 27)
          have k_g := Blk.new U20 27 #[.int .i64 0, .int .i64 0, .string ⟨#[]⟩]
          have bb := bb.alloc bb.size (.cells #[.int .i64 0, .int .i64 0, .string ⟨#[]⟩] 27)
          refine hK.out _ _ ⟨by rw [k_c.cell]; rfl, by rw [k_c.cell]; rfl, by rw [k_c.cell]; rfl, by rw [k_c.cell]; rfl⟩ (fun hHeld => ?_)
          clear hK K
          generalize U20.alloc (.cells #[.int .i64 0, .int .i64 0, .string ⟨#[]⟩] 27) = U21 at *
          generalize U20.heap.size = g at *
          have n_gh : h ≠ g := by omega
          have n_hg : g ≠ h := by omega
          clear n_l
          have n_gq := n_q
          clear n_q
          (try simp only [Act.put, List.setIfInBounds_toArray, List.set_cons_zero, List.set_cons_succ])
          have x_g0 : U21.cell? ⟨g, 0, none⟩ = some (.int .i64 0) := by rw [k_g.cell]; rfl
          have z_g0 := k_g.frozen 0
          have x_g1 : U21.cell? ⟨g, 1, none⟩ = some (.int .i64 0) := by rw [k_g.cell]; rfl
          have z_g1 := k_g.frozen 1
          have x_g2 : U21.cell? ⟨g, 2, none⟩ = some (.string ⟨#[]⟩) := by rw [k_g.cell]; rfl
          have z_g2 := k_g.frozen 2
          have l_g := k_g.lt
          refine wpAnyH_ready (rs := [9]) (by kernel_rfl) (by simp) ?_
          refine AllReadyH.cons rfl (fun K hK => ?_) AllReadyH.nil
          go_simp
          clear x_g0 x_g1 x_g2 z_g0 z_g1 z_g2 l_g
          have k_g : Blk (((U21.setCell ⟨g, 0, none⟩ (.int .i64 k.1)).setCell ⟨g, 1, none⟩ (.int .i64 k.2.1)).setCell ⟨g, 2, none⟩ (.string k.2.2)) g 27 #[.int .i64 k.1, .int .i64 k.2.1, .string k.2.2] := ((k_g.set_ 0 _).set_ 1 _).set_ 2 _
          have k_h : Blk (((U21.setCell ⟨g, 0, none⟩ (.int .i64 k.1)).setCell ⟨g, 1, none⟩ (.int .i64 k.2.1)).setCell ⟨g, 2, none⟩ (.string k.2.2)) _ _ _ := ((k_h.far (p := ⟨g, 0, none⟩) n_gh _).far (p := ⟨g, 1, none⟩) n_gh _).far (p := ⟨g, 2, none⟩) n_gh _
          have k_c : Blk (((U21.setCell ⟨g, 0, none⟩ (.int .i64 k.1)).setCell ⟨g, 1, none⟩ (.int .i64 k.2.1)).setCell ⟨g, 2, none⟩ (.string k.2.2)) _ _ _ := ((k_c.far (p := ⟨g, 0, none⟩) (by show w.heap.size ≠ g; omega) _).far (p := ⟨g, 1, none⟩) (by show w.heap.size ≠ g; omega) _).far (p := ⟨g, 2, none⟩) (by show w.heap.size ≠ g; omega) _
          have bb : Below w.heap.size w (((U21.setCell ⟨g, 0, none⟩ (.int .i64 k.1)).setCell ⟨g, 1, none⟩ (.int .i64 k.2.1)).setCell ⟨g, 2, none⟩ (.string k.2.2)) := ((bb.setCell (p := ⟨g, 0, none⟩) (by show _ ≤ g; omega) _).setCell (p := ⟨g, 1, none⟩) (by show _ ≤ g; omega) _).setCell (p := ⟨g, 2, none⟩) (by show _ ≤ g; omega) _
          refine hK.out _ _ ⟨by rw [k_c.cell]; rfl, by rw [k_c.cell]; rfl, by rw [k_c.cell]; rfl, by rw [k_c.cell]; rfl⟩ (fun hHeld => ?_)
          clear hK K
          generalize (((U21.setCell ⟨g, 0, none⟩ (.int .i64 k.1)).setCell ⟨g, 1, none⟩ (.int .i64 k.2.1)).setCell ⟨g, 2, none⟩ (.string k.2.2)) = U22 at *
          (try simp only [Act.put, List.setIfInBounds_toArray, List.set_cons_zero, List.set_cons_succ])
          have x_h0 : U22.cell? ⟨h, 0, none⟩ = some (.int .i64 0) := by rw [k_h.cell]; rfl
          have z_h0 := k_h.frozen 0
          have x_h1 : U22.cell? ⟨h, 1, none⟩ = some (.int .i64 0) := by rw [k_h.cell]; rfl
          have z_h1 := k_h.frozen 1
          have x_h2 : U22.cell? ⟨h, 2, none⟩ = some (.string ⟨#[]⟩) := by rw [k_h.cell]; rfl
          have z_h2 := k_h.frozen 2
          have l_h := k_h.lt
          refine wpAnyH_ready (rs := [10]) (by kernel_rfl) (by simp) ?_
          refine AllReadyH.cons rfl (fun K hK => ?_) AllReadyH.nil
          go_simp
          clear x_h0 x_h1 x_h2 z_h0 z_h1 z_h2 l_h
          have k_h : Blk (((U22.setCell ⟨h, 0, none⟩ (.int .i64 3)).setCell ⟨h, 1, none⟩ (.int .i64 vn)).setCell ⟨h, 2, none⟩ (.string ⟨#[]⟩)) h 27 #[.int .i64 3, .int .i64 vn, .string ⟨#[]⟩] := ((k_h.set_ 0 _).set_ 1 _).set_ 2 _
          have k_g : Blk (((U22.setCell ⟨h, 0, none⟩ (.int .i64 3)).setCell ⟨h, 1, none⟩ (.int .i64 vn)).setCell ⟨h, 2, none⟩ (.string ⟨#[]⟩)) _ _ _ := ((k_g.far (p := ⟨h, 0, none⟩) n_hg _).far (p := ⟨h, 1, none⟩) n_hg _).far (p := ⟨h, 2, none⟩) n_hg _
          have k_c : Blk (((U22.setCell ⟨h, 0, none⟩ (.int .i64 3)).setCell ⟨h, 1, none⟩ (.int .i64 vn)).setCell ⟨h, 2, none⟩ (.string ⟨#[]⟩)) _ _ _ := ((k_c.far (p := ⟨h, 0, none⟩) (by show w.heap.size ≠ h; omega) _).far (p := ⟨h, 1, none⟩) (by show w.heap.size ≠ h; omega) _).far (p := ⟨h, 2, none⟩) (by show w.heap.size ≠ h; omega) _
          have bb : Below w.heap.size w (((U22.setCell ⟨h, 0, none⟩ (.int .i64 3)).setCell ⟨h, 1, none⟩ (.int .i64 vn)).setCell ⟨h, 2, none⟩ (.string ⟨#[]⟩)) := ((bb.setCell (p := ⟨h, 0, none⟩) (by show _ ≤ h; omega) _).setCell (p := ⟨h, 1, none⟩) (by show _ ≤ h; omega) _).setCell (p := ⟨h, 2, none⟩) (by show _ ≤ h; omega) _
          refine hK.out _ _ ⟨by rw [k_c.cell]; rfl, by rw [k_c.cell]; rfl, by rw [k_c.cell]; rfl, by rw [k_c.cell]; rfl⟩ (fun hHeld => ?_)
          clear hK K
          generalize (((U22.setCell ⟨h, 0, none⟩ (.int .i64 3)).setCell ⟨h, 1, none⟩ (.int .i64 vn)).setCell ⟨h, 2, none⟩ (.string ⟨#[]⟩)) = U23 at *
          (try simp only [Act.put, List.setIfInBounds_toArray, List.set_cons_zero, List.set_cons_succ])
          refine wpAnyH_done (by kernel_rfl) ?_ _
          go_wp2_with fail
          go_meet
          exact ⟨g, h, rfl, rfl, ⟨bb, k_g, k_h, k_c, by omega, by omega⟩⟩
      · go_simp
        have n_q := k_c.lt
        have n_l := k_h.lt
        have k_c := k_c.alloc (.cells #[.int .i64 0, .int .i64 0, .string ⟨#[]⟩] 27)
        have k_h := k_h.alloc (.cells #[.int .i64 0, .int .i64 0, .string ⟨#[]⟩] 27)
        have k_g := Blk.new U19 27 #[.int .i64 0, .int .i64 0, .string ⟨#[]⟩]
        have bb := bb.alloc bb.size (.cells #[.int .i64 0, .int .i64 0, .string ⟨#[]⟩] 27)
        refine hK.out _ _ ⟨by rw [k_c.cell]; rfl, by rw [k_c.cell]; rfl, by rw [k_c.cell]; rfl, by rw [k_c.cell]; rfl⟩ (fun hHeld => ?_)
        clear hK K
        generalize U19.alloc (.cells #[.int .i64 0, .int .i64 0, .string ⟨#[]⟩] 27) = U24 at *
        generalize U19.heap.size = g at *
        have n_gh : h ≠ g := by omega
        have n_hg : g ≠ h := by omega
        clear n_l
        have n_gq := n_q
        clear n_q
        (try simp only [Act.put, List.setIfInBounds_toArray, List.set_cons_zero, List.set_cons_succ])
        refine wpAnyH_ready (rs := [2]) (by kernel_rfl) (by simp) ?_
        refine AllReadyH.cons rfl (fun K hK => ?_) AllReadyH.nil
        · go_simp
          go_at_call 19
          (with_reducible refine (HCA.out _ bb).mono ?_)
          rintro e U25 ⟨rfl, bq⟩
          have k_c := k_c.below bq k_c.lt
          have k_g := k_g.below bq k_g.lt
          have k_h := k_h.below bq k_h.lt
          have bb := bb.trans (bq.mono bb.size)
          clear bq
          refine hK.out _ _ ⟨by rw [k_c.cell]; rfl, by rw [k_c.cell]; rfl, by rw [k_c.cell]; rfl, by rw [k_c.cell]; rfl⟩ (fun hHeld => ?_)
          clear hK K
          (try simp only [Act.put, List.setIfInBounds_toArray, List.set_cons_zero, List.set_cons_succ])
          have x_g0 : U25.cell? ⟨g, 0, none⟩ = some (.int .i64 0) := by rw [k_g.cell]; rfl
          have z_g0 := k_g.frozen 0
          have x_g1 : U25.cell? ⟨g, 1, none⟩ = some (.int .i64 0) := by rw [k_g.cell]; rfl
          have z_g1 := k_g.frozen 1
          have x_g2 : U25.cell? ⟨g, 2, none⟩ = some (.string ⟨#[]⟩) := by rw [k_g.cell]; rfl
          have z_g2 := k_g.frozen 2
          have l_g := k_g.lt
          refine wpAnyH_ready (rs := [9]) (by kernel_rfl) (by simp) ?_
          refine AllReadyH.cons rfl (fun K hK => ?_) AllReadyH.nil
          go_simp
          clear x_g0 x_g1 x_g2 z_g0 z_g1 z_g2 l_g
          have k_g : Blk (((U25.setCell ⟨g, 0, none⟩ (.int .i64 k.1)).setCell ⟨g, 1, none⟩ (.int .i64 k.2.1)).setCell ⟨g, 2, none⟩ (.string k.2.2)) g 27 #[.int .i64 k.1, .int .i64 k.2.1, .string k.2.2] := ((k_g.set_ 0 _).set_ 1 _).set_ 2 _
          have k_h : Blk (((U25.setCell ⟨g, 0, none⟩ (.int .i64 k.1)).setCell ⟨g, 1, none⟩ (.int .i64 k.2.1)).setCell ⟨g, 2, none⟩ (.string k.2.2)) _ _ _ := ((k_h.far (p := ⟨g, 0, none⟩) n_gh _).far (p := ⟨g, 1, none⟩) n_gh _).far (p := ⟨g, 2, none⟩) n_gh _
          have k_c : Blk (((U25.setCell ⟨g, 0, none⟩ (.int .i64 k.1)).setCell ⟨g, 1, none⟩ (.int .i64 k.2.1)).setCell ⟨g, 2, none⟩ (.string k.2.2)) _ _ _ := ((k_c.far (p := ⟨g, 0, none⟩) (by show w.heap.size ≠ g; omega) _).far (p := ⟨g, 1, none⟩) (by show w.heap.size ≠ g; omega) _).far (p := ⟨g, 2, none⟩) (by show w.heap.size ≠ g; omega) _
          have bb : Below w.heap.size w (((U25.setCell ⟨g, 0, none⟩ (.int .i64 k.1)).setCell ⟨g, 1, none⟩ (.int .i64 k.2.1)).setCell ⟨g, 2, none⟩ (.string k.2.2)) := ((bb.setCell (p := ⟨g, 0, none⟩) (by show _ ≤ g; omega) _).setCell (p := ⟨g, 1, none⟩) (by show _ ≤ g; omega) _).setCell (p := ⟨g, 2, none⟩) (by show _ ≤ g; omega) _
          refine hK.out _ _ ⟨by rw [k_c.cell]; rfl, by rw [k_c.cell]; rfl, by rw [k_c.cell]; rfl, by rw [k_c.cell]; rfl⟩ (fun hHeld => ?_)
          clear hK K
          generalize (((U25.setCell ⟨g, 0, none⟩ (.int .i64 k.1)).setCell ⟨g, 1, none⟩ (.int .i64 k.2.1)).setCell ⟨g, 2, none⟩ (.string k.2.2)) = U26 at *
          (try simp only [Act.put, List.setIfInBounds_toArray, List.set_cons_zero, List.set_cons_succ])
          have x_h0 : U26.cell? ⟨h, 0, none⟩ = some (.int .i64 0) := by rw [k_h.cell]; rfl
          have z_h0 := k_h.frozen 0
          have x_h1 : U26.cell? ⟨h, 1, none⟩ = some (.int .i64 0) := by rw [k_h.cell]; rfl
          have z_h1 := k_h.frozen 1
          have x_h2 : U26.cell? ⟨h, 2, none⟩ = some (.string ⟨#[]⟩) := by rw [k_h.cell]; rfl
          have z_h2 := k_h.frozen 2
          have l_h := k_h.lt
          refine wpAnyH_ready (rs := [10]) (by kernel_rfl) (by simp) ?_
          refine AllReadyH.cons rfl (fun K hK => ?_) AllReadyH.nil
          go_simp
          clear x_h0 x_h1 x_h2 z_h0 z_h1 z_h2 l_h
          have k_h : Blk (((U26.setCell ⟨h, 0, none⟩ (.int .i64 3)).setCell ⟨h, 1, none⟩ (.int .i64 vn)).setCell ⟨h, 2, none⟩ (.string ⟨#[]⟩)) h 27 #[.int .i64 3, .int .i64 vn, .string ⟨#[]⟩] := ((k_h.set_ 0 _).set_ 1 _).set_ 2 _
          have k_g : Blk (((U26.setCell ⟨h, 0, none⟩ (.int .i64 3)).setCell ⟨h, 1, none⟩ (.int .i64 vn)).setCell ⟨h, 2, none⟩ (.string ⟨#[]⟩)) _ _ _ := ((k_g.far (p := ⟨h, 0, none⟩) n_hg _).far (p := ⟨h, 1, none⟩) n_hg _).far (p := ⟨h, 2, none⟩) n_hg _
          have k_c : Blk (((U26.setCell ⟨h, 0, none⟩ (.int .i64 3)).setCell ⟨h, 1, none⟩ (.int .i64 vn)).setCell ⟨h, 2, none⟩ (.string ⟨#[]⟩)) _ _ _ := ((k_c.far (p := ⟨h, 0, none⟩) (by show w.heap.size ≠ h; omega) _).far (p := ⟨h, 1, none⟩) (by show w.heap.size ≠ h; omega) _).far (p := ⟨h, 2, none⟩) (by show w.heap.size ≠ h; omega) _
          have bb : Below w.heap.size w (((U26.setCell ⟨h, 0, none⟩ (.int .i64 3)).setCell ⟨h, 1, none⟩ (.int .i64 vn)).setCell ⟨h, 2, none⟩ (.string ⟨#[]⟩)) := ((bb.setCell (p := ⟨h, 0, none⟩) (by show _ ≤ h; omega) _).setCell (p := ⟨h, 1, none⟩) (by show _ ≤ h; omega) _).setCell (p := ⟨h, 2, none⟩) (by show _ ≤ h; omega) _
          refine hK.out _ _ ⟨by rw [k_c.cell]; rfl, by rw [k_c.cell]; rfl, by rw [k_c.cell]; rfl, by rw [k_c.cell]; rfl⟩ (fun hHeld => ?_)
          clear hK K
          generalize (((U26.setCell ⟨h, 0, none⟩ (.int .i64 3)).setCell ⟨h, 1, none⟩ (.int .i64 vn)).setCell ⟨h, 2, none⟩ (.string ⟨#[]⟩)) = U27 at *
          (try simp only [Act.put, List.setIfInBounds_toArray, List.set_cons_zero, List.set_cons_succ])
          refine wpAnyH_done (by kernel_rfl) ?_ _
          go_wp2_with fail
          go_meet
          exact ⟨g, h, rfl, rfl, ⟨bb, k_g, k_h, k_c, by omega, by omega⟩⟩
  case rest =>
    obtain ⟨wA, hwA⟩ : ∃ x, x = wc := ⟨_, rfl⟩
    subst hwA
    obtain ⟨g, h, rfl, rfl, ⟨bb, kg, kh, kc, hg, hh⟩⟩ := hcut
    have HM := Lib.hid (HM.out.below bb)
    have k_B := HM.out.bb
    have k_k : Bx wA (UU O R) g _ _ := ⟨kg, fun hx => by have := HUL.out _ hx; omega⟩
    have k_v : Bx wA (UU O R) h _ _ := ⟨kh, fun hx => by have := HUL.out _ hx; omega⟩
    have k_c : Bx wA (UU O R) w.heap.size _ _ := ⟨kc, fun hx => by have := HUL.out _ hx; omega⟩
    have hAL := HR.out.AL
    have hDL := HR.out.DL
    clear kg kh kc bb hg hh HUL HCA
    have c_c0 : wA.cell? ⟨w.heap.size, 0, none⟩ = some (.int .i64 c.kind) := by rw [k_c.blk.cell]; rfl
    rcases hc7 with rfl
    · go_upto_region 10 with fail
      clear c_c0
      go_cut [7, 8, 9] from 69 to 78 (fun s7 s8 s9 wx => ∃ q gv gf gb, s7 = .pointer (some ⟨q, 0, none⟩) ∧ s8 = .int .i64 gf ∧ s9 = .bool gb ∧ GetR A k gv gf gb ∧ Below wA.heap.size wA wx ∧ Blk wx q 27 #[.int .i64 gv.1, .int .i64 gv.2.1, .string gv.2.2] ∧ wA.heap.size ≤ q)
      case first =>
        have k0_B := k_B
        have k0_k := k_k
        have k0_v := k_v
        have k0_c := k_c
        have bw : Below wA.heap.size wA wA.drew := ⟨rfl, rfl, rfl, Nat.le_refl _, fun _ _ => rfl⟩
        have k_B := k_B.drew'
        have k_k := k_k.drew'
        have k_v := k_v.drew'
        have k_c := k_c.drew'
        have HM := Lib.hid HM.out.drew'
        refine wp_region_held_drew (S := (fun W => W.cell? ⟨B, 0, none⟩ = some (.pointer (some ⟨T, 0, none⟩)) ∧ W.cell? ⟨B, 1, none⟩ = some (.pointer (some ⟨M, 0, none⟩)) ∧ W.cell? ⟨g, 0, none⟩ = some (.int .i64 k.1) ∧ W.cell? ⟨g, 1, none⟩ = some (.int .i64 k.2.1) ∧ W.cell? ⟨g, 2, none⟩ = some (.string k.2.2))) (by kernel_rfl) ⟨by rw [k_B.blk.cell]; rfl, by rw [k_B.blk.cell]; rfl, by rw [k_k.blk.cell]; rfl, by rw [k_k.blk.cell]; rfl, by rw [k_k.blk.cell]; rfl⟩ (fun hHeld => ?_)
        generalize wA.drew = U28 at *
        change wpAnyH _ _ _ _ _ 14 #[false, false, false, false, false, false, false, false, false, false, false, false, false, false] _ _
        refine wpAnyH_take (i := 0) (oi := ?oo1001) (v := ?vv1001) ?hi1001 (by kernel_rfl) (by kernel_rfl) (by kernel_rfl) ?hq1001 ?hy1001 (by assumption) ?hh1001
        case hi1001 => (simp only [List.getElem?_toArray, List.getElem?_cons_succ, List.getElem?_cons_zero]; rfl)
        case hq1001 => exact fun _ _ _ h => h
        case hy1001 => exact Or.inl ⟨by rfl, by (intro W hSw; (try dsimp only at hSw); go_simp; (try with_reducible rfl))⟩
        (try simp only [Act.put, List.setIfInBounds_toArray, List.set_cons_zero, List.set_cons_succ])
        refine wpAnyH_take (i := 1) (oi := ?oo1002) (v := ?vv1002) ?hi1002 (by kernel_rfl) (by kernel_rfl) (by kernel_rfl) ?hq1002 ?hy1002 (by assumption) ?hh1002
        case hi1002 => (simp only [List.getElem?_toArray, List.getElem?_cons_succ, List.getElem?_cons_zero]; rfl)
        case hq1002 => exact fun _ _ _ h => h
        case hy1002 => exact Or.inl ⟨by rfl, by (intro W hSw; (try dsimp only at hSw); go_simp; (try with_reducible rfl))⟩
        (try simp only [Act.put, List.setIfInBounds_toArray, List.set_cons_zero, List.set_cons_succ])
        refine wpAnyH_take (i := 2) (oi := ?oo1003) (v := ?vv1003) ?hi1003 (by kernel_rfl) (by kernel_rfl) (by kernel_rfl) ?hq1003 ?hy1003 (by assumption) ?hh1003
        case hi1003 => (simp only [List.getElem?_toArray, List.getElem?_cons_succ, List.getElem?_cons_zero]; rfl)
        case hq1003 => exact fun _ _ _ h => h
        case hy1003 => exact Or.inl ⟨by rfl, by (intro W hSw; (try dsimp only at hSw); go_simp; (try with_reducible rfl))⟩
        (try simp only [Act.put, List.setIfInBounds_toArray, List.set_cons_zero, List.set_cons_succ])
        refine wpAnyH_take (i := 3) (oi := ?oo1004) (v := ?vv1004) ?hi1004 (by kernel_rfl) (by kernel_rfl) (by kernel_rfl) ?hq1004 ?hy1004 (by assumption) ?hh1004
        case hi1004 => (simp only [List.getElem?_toArray, List.getElem?_cons_succ, List.getElem?_cons_zero]; rfl)
        case hq1004 => exact fun _ _ _ h => h
        case hy1004 => exact Or.inl ⟨by rfl, by (intro W hSw; (try dsimp only at hSw); go_simp; (try with_reducible rfl))⟩
        (try simp only [Act.put, List.setIfInBounds_toArray, List.set_cons_zero, List.set_cons_succ])
        refine wpAnyH_take (i := 4) (oi := ?oo1005) (v := ?vv1005) ?hi1005 (by kernel_rfl) (by kernel_rfl) (by kernel_rfl) ?hq1005 ?hy1005 (by assumption) ?hh1005
        case hi1005 => (simp only [List.getElem?_toArray, List.getElem?_cons_succ, List.getElem?_cons_zero]; rfl)
        case hq1005 => exact fun _ _ _ h => h
        case hy1005 => exact Or.inl ⟨by rfl, by (intro W hSw; (try dsimp only at hSw); go_simp; (try with_reducible rfl))⟩
        (try simp only [Act.put, List.setIfInBounds_toArray, List.set_cons_zero, List.set_cons_succ])
        refine wpAnyH_ready (rs := [5, 10]) (by kernel_rfl) (by simp) ?_
        refine AllReadyH.cons rfl (fun K hK => ?_) (AllReadyH.cons rfl (fun K hK => ?_) AllReadyH.nil)
        · go_simp
          refine (get_st T A D O k _ HM.out.st.tab hk).mono ?_
          rintro e U29 ⟨gv, gf, gb, rfl, hG, bg⟩
          have k_B := k_B.below bg
          have k_k := k_k.below bg
          have k_v := k_v.below bg
          have k_c := k_c.below bg
          have HM := Lib.hid (HM.out.below bg)
          have bw := bw.trans (bg.mono bw.size)
          clear bg
          refine hK.out _ _ ⟨by rw [k_B.blk.cell]; rfl, by rw [k_B.blk.cell]; rfl, by rw [k_k.blk.cell]; rfl, by rw [k_k.blk.cell]; rfl, by rw [k_k.blk.cell]; rfl⟩ (fun hHeld => ?_)
          clear hK K
          (try simp only [Act.put, List.setIfInBounds_toArray, List.set_cons_zero, List.set_cons_succ])
          refine wpAnyH_take (i := 6) (oi := ?oo1006) (v := ?vv1006) ?hi1006 (by kernel_rfl) (by kernel_rfl) (by kernel_rfl) ?hq1006 ?hy1006 (by assumption) ?hh1006
          case hi1006 => (simp only [List.getElem?_toArray, List.getElem?_cons_succ, List.getElem?_cons_zero]; rfl)
          case hq1006 => exact fun _ _ _ h => h
          case hy1006 => exact Or.inl ⟨by rfl, by (intro W hSw; (try dsimp only at hSw); go_simp; (try with_reducible rfl))⟩
          (try simp only [Act.put, List.setIfInBounds_toArray, List.set_cons_zero, List.set_cons_succ])
          refine wpAnyH_take (i := 7) (oi := ?oo1007) (v := ?vv1007) ?hi1007 (by kernel_rfl) (by kernel_rfl) (by kernel_rfl) ?hq1007 ?hy1007 (by assumption) ?hh1007
          case hi1007 => (simp only [List.getElem?_toArray, List.getElem?_cons_succ, List.getElem?_cons_zero]; rfl)
          case hq1007 => exact fun _ _ _ h => h
          case hy1007 => exact Or.inl ⟨by rfl, by (intro W hSw; (try dsimp only at hSw); go_simp; (try with_reducible rfl))⟩
          (try simp only [Act.put, List.setIfInBounds_toArray, List.set_cons_zero, List.set_cons_succ])
          refine wpAnyH_take (i := 8) (oi := ?oo1008) (v := ?vv1008) ?hi1008 (by kernel_rfl) (by kernel_rfl) (by kernel_rfl) ?hq1008 ?hy1008 (by assumption) ?hh1008
          case hi1008 => (simp only [List.getElem?_toArray, List.getElem?_cons_succ, List.getElem?_cons_zero]; rfl)
          case hq1008 => exact fun _ _ _ h => h
          case hy1008 => exact Or.inl ⟨by rfl, by (intro W hSw; (try dsimp only at hSw); go_simp; (try with_reducible rfl))⟩
          (try simp only [Act.put, List.setIfInBounds_toArray, List.set_cons_zero, List.set_cons_succ])
          refine wpAnyH_take (i := 9) (oi := ?oo1009) (v := ?vv1009) ?hi1009 (by kernel_rfl) (by kernel_rfl) (by kernel_rfl) ?hq1009 ?hy1009 (by assumption) ?hh1009
          case hi1009 => (simp only [List.getElem?_toArray, List.getElem?_cons_succ, List.getElem?_cons_zero]; rfl)
          case hq1009 => exact fun _ _ _ h => h
          case hy1009 => exact Or.inl ⟨by rfl, by (intro W hSw; (try dsimp only at hSw); go_simp; (try with_reducible rfl))⟩
          (try simp only [Act.put, List.setIfInBounds_toArray, List.set_cons_zero, List.set_cons_succ])
          refine wpAnyH_ready (rs := [10]) (by kernel_rfl) (by simp) ?_
          refine AllReadyH.cons rfl (fun K hK => ?_) AllReadyH.nil
          go_simp
          have ba : Below U29.heap.size U29 (U29.alloc (.cells #[.int .i64 0, .int .i64 0, .string ⟨#[]⟩] 27)) := (Below.refl _ _).alloc (Nat.le_refl _) _
          have hq := bw.size
          have k_q := Blk.new U29 27 #[.int .i64 0, .int .i64 0, .string ⟨#[]⟩]
          have k_B := k_B.below ba
          have k_k := k_k.below ba
          have k_v := k_v.below ba
          have k_c := k_c.below ba
          have HM := Lib.hid (HM.out.below ba)
          have bw := bw.trans (ba.mono bw.size)
          clear ba
          refine hK.out _ _ ⟨by rw [k_B.blk.cell]; rfl, by rw [k_B.blk.cell]; rfl, by rw [k_k.blk.cell]; rfl, by rw [k_k.blk.cell]; rfl, by rw [k_k.blk.cell]; rfl⟩ (fun hHeld => ?_)
          clear hK K
          (try simp only [Act.put, List.setIfInBounds_toArray, List.set_cons_zero, List.set_cons_succ])
          generalize U29.alloc (.cells #[.int .i64 0, .int .i64 0, .string ⟨#[]⟩] 27) = U30 at *
          generalize U29.heap.size = q at *
          have x_q0 : U30.cell? ⟨q, 0, none⟩ = some (.int .i64 0) := by rw [k_q.cell]; rfl
          have z_q0 := k_q.frozen 0
          have x_q1 : U30.cell? ⟨q, 1, none⟩ = some (.int .i64 0) := by rw [k_q.cell]; rfl
          have z_q1 := k_q.frozen 1
          have x_q2 : U30.cell? ⟨q, 2, none⟩ = some (.string ⟨#[]⟩) := by rw [k_q.cell]; rfl
          have z_q2 := k_q.frozen 2
          have l_q := k_q.lt
          refine wpAnyH_ready (rs := [11]) (by kernel_rfl) (by simp) ?_
          refine AllReadyH.cons rfl (fun K hK => ?_) AllReadyH.nil
          go_simp
          clear x_q0 x_q1 x_q2 z_q0 z_q1 z_q2 l_q
          have bw : Below wA.heap.size wA (((U30.setCell ⟨q, 0, none⟩ (.int .i64 gv.1)).setCell ⟨q, 1, none⟩ (.int .i64 gv.2.1)).setCell ⟨q, 2, none⟩ (.string gv.2.2)) := ((bw.setCell (p := ⟨q, 0, none⟩) (by show _ ≤ q; omega) _).setCell (p := ⟨q, 1, none⟩) (by show _ ≤ q; omega) _).setCell (p := ⟨q, 2, none⟩) (by show _ ≤ q; omega) _
          have k_q : Blk (((U30.setCell ⟨q, 0, none⟩ (.int .i64 gv.1)).setCell ⟨q, 1, none⟩ (.int .i64 gv.2.1)).setCell ⟨q, 2, none⟩ (.string gv.2.2)) q 27 #[.int .i64 gv.1, .int .i64 gv.2.1, .string gv.2.2] := ((k_q.set_ 0 _).set_ 1 _).set_ 2 _
          have k_B := k0_B.below bw
          have k_k := k0_k.below bw
          have k_v := k0_v.below bw
          have k_c := k0_c.below bw
          refine hK.out _ _ ⟨by rw [k_B.blk.cell]; rfl, by rw [k_B.blk.cell]; rfl, by rw [k_k.blk.cell]; rfl, by rw [k_k.blk.cell]; rfl, by rw [k_k.blk.cell]; rfl⟩ (fun hHeld => ?_)
          clear hK K
          (try simp only [Act.put, List.setIfInBounds_toArray, List.set_cons_zero, List.set_cons_succ])
          generalize (((U30.setCell ⟨q, 0, none⟩ (.int .i64 gv.1)).setCell ⟨q, 1, none⟩ (.int .i64 gv.2.1)).setCell ⟨q, 2, none⟩ (.string gv.2.2)) = U31 at *
          refine wpAnyH_ready (rs := [12]) (by kernel_rfl) (by simp) ?_
          refine AllReadyH.cons rfl (fun K hK => ?_) AllReadyH.nil
          go_simp
          refine hK.out _ _ ⟨by rw [k_B.blk.cell]; rfl, by rw [k_B.blk.cell]; rfl, by rw [k_k.blk.cell]; rfl, by rw [k_k.blk.cell]; rfl, by rw [k_k.blk.cell]; rfl⟩ (fun hHeld => ?_)
          clear hK K
          (try simp only [Act.put, List.setIfInBounds_toArray, List.set_cons_zero, List.set_cons_succ])
          refine wpAnyH_ready (rs := [13]) (by kernel_rfl) (by simp) ?_
          refine AllReadyH.cons rfl (fun K hK => ?_) AllReadyH.nil
          go_simp
          refine hK.out _ _ ⟨by rw [k_B.blk.cell]; rfl, by rw [k_B.blk.cell]; rfl, by rw [k_k.blk.cell]; rfl, by rw [k_k.blk.cell]; rfl, by rw [k_k.blk.cell]; rfl⟩ (fun hHeld => ?_)
          clear hK K
          (try simp only [Act.put, List.setIfInBounds_toArray, List.set_cons_zero, List.set_cons_succ])
          refine wpAnyH_done (by kernel_rfl) ?_ _
          go_wp2_with fail
          go_meet
          exact ⟨q, gv, gf, gb, rfl, rfl, rfl, hG, bw, k_q, hq⟩
        · go_simp
          have ba : Below U28.heap.size U28 (U28.alloc (.cells #[.int .i64 0, .int .i64 0, .string ⟨#[]⟩] 27)) := (Below.refl _ _).alloc (Nat.le_refl _) _
          have hq := bw.size
          have k_q := Blk.new U28 27 #[.int .i64 0, .int .i64 0, .string ⟨#[]⟩]
          have k_B := k_B.below ba
          have k_k := k_k.below ba
          have k_v := k_v.below ba
          have k_c := k_c.below ba
          have HM := Lib.hid (HM.out.below ba)
          have bw := bw.trans (ba.mono bw.size)
          clear ba
          refine hK.out _ _ ⟨by rw [k_B.blk.cell]; rfl, by rw [k_B.blk.cell]; rfl, by rw [k_k.blk.cell]; rfl, by rw [k_k.blk.cell]; rfl, by rw [k_k.blk.cell]; rfl⟩ (fun hHeld => ?_)
          clear hK K
          (try simp only [Act.put, List.setIfInBounds_toArray, List.set_cons_zero, List.set_cons_succ])
          generalize U28.alloc (.cells #[.int .i64 0, .int .i64 0, .string ⟨#[]⟩] 27) = U32 at *
          generalize U28.heap.size = q at *
          refine wpAnyH_ready (rs := [5]) (by kernel_rfl) (by simp) ?_
          refine AllReadyH.cons rfl (fun K hK => ?_) AllReadyH.nil
          go_simp
          refine (get_st T A D O k _ HM.out.st.tab hk).mono ?_
          rintro e U33 ⟨gv, gf, gb, rfl, hG, bg⟩
          have k_B := k_B.below bg
          have k_k := k_k.below bg
          have k_v := k_v.below bg
          have k_c := k_c.below bg
          have HM := Lib.hid (HM.out.below bg)
          have bw := bw.trans (bg.mono bw.size)
          have k_q := k_q.below bg k_q.lt
          clear bg
          refine hK.out _ _ ⟨by rw [k_B.blk.cell]; rfl, by rw [k_B.blk.cell]; rfl, by rw [k_k.blk.cell]; rfl, by rw [k_k.blk.cell]; rfl, by rw [k_k.blk.cell]; rfl⟩ (fun hHeld => ?_)
          clear hK K
          (try simp only [Act.put, List.setIfInBounds_toArray, List.set_cons_zero, List.set_cons_succ])
          refine wpAnyH_take (i := 6) (oi := ?oo1010) (v := ?vv1010) ?hi1010 (by kernel_rfl) (by kernel_rfl) (by kernel_rfl) ?hq1010 ?hy1010 (by assumption) ?hh1010
          case hi1010 => (simp only [List.getElem?_toArray, List.getElem?_cons_succ, List.getElem?_cons_zero]; rfl)
          case hq1010 => exact fun _ _ _ h => h
          case hy1010 => exact Or.inl ⟨by rfl, by (intro W hSw; (try dsimp only at hSw); go_simp; (try with_reducible rfl))⟩
          (try simp only [Act.put, List.setIfInBounds_toArray, List.set_cons_zero, List.set_cons_succ])
          refine wpAnyH_take (i := 7) (oi := ?oo1011) (v := ?vv1011) ?hi1011 (by kernel_rfl) (by kernel_rfl) (by kernel_rfl) ?hq1011 ?hy1011 (by assumption) ?hh1011
          case hi1011 => (simp only [List.getElem?_toArray, List.getElem?_cons_succ, List.getElem?_cons_zero]; rfl)
          case hq1011 => exact fun _ _ _ h => h
          case hy1011 => exact Or.inl ⟨by rfl, by (intro W hSw; (try dsimp only at hSw); go_simp; (try with_reducible rfl))⟩
          (try simp only [Act.put, List.setIfInBounds_toArray, List.set_cons_zero, List.set_cons_succ])
          refine wpAnyH_take (i := 8) (oi := ?oo1012) (v := ?vv1012) ?hi1012 (by kernel_rfl) (by kernel_rfl) (by kernel_rfl) ?hq1012 ?hy1012 (by assumption) ?hh1012
          case hi1012 => (simp only [List.getElem?_toArray, List.getElem?_cons_succ, List.getElem?_cons_zero]; rfl)
          case hq1012 => exact fun _ _ _ h => h
          case hy1012 => exact Or.inl ⟨by rfl, by (intro W hSw; (try dsimp only at hSw); go_simp; (try with_reducible rfl))⟩
          (try simp only [Act.put, List.setIfInBounds_toArray, List.set_cons_zero, List.set_cons_succ])
          refine wpAnyH_take (i := 9) (oi := ?oo1013) (v := ?vv1013) ?hi1013 (by kernel_rfl) (by kernel_rfl) (by kernel_rfl) ?hq1013 ?hy1013 (by assumption) ?hh1013
          case hi1013 => (simp only [List.getElem?_toArray, List.getElem?_cons_succ, List.getElem?_cons_zero]; rfl)
          case hq1013 => exact fun _ _ _ h => h
          case hy1013 => exact Or.inl ⟨by rfl, by (intro W hSw; (try dsimp only at hSw); go_simp; (try with_reducible rfl))⟩
          (try simp only [Act.put, List.setIfInBounds_toArray, List.set_cons_zero, List.set_cons_succ])
          have x_q0 : U33.cell? ⟨q, 0, none⟩ = some (.int .i64 0) := by rw [k_q.cell]; rfl
          have z_q0 := k_q.frozen 0
          have x_q1 : U33.cell? ⟨q, 1, none⟩ = some (.int .i64 0) := by rw [k_q.cell]; rfl
          have z_q1 := k_q.frozen 1
          have x_q2 : U33.cell? ⟨q, 2, none⟩ = some (.string ⟨#[]⟩) := by rw [k_q.cell]; rfl
          have z_q2 := k_q.frozen 2
          have l_q := k_q.lt
          refine wpAnyH_ready (rs := [11]) (by kernel_rfl) (by simp) ?_
          refine AllReadyH.cons rfl (fun K hK => ?_) AllReadyH.nil
          go_simp
          clear x_q0 x_q1 x_q2 z_q0 z_q1 z_q2 l_q
          have bw : Below wA.heap.size wA (((U33.setCell ⟨q, 0, none⟩ (.int .i64 gv.1)).setCell ⟨q, 1, none⟩ (.int .i64 gv.2.1)).setCell ⟨q, 2, none⟩ (.string gv.2.2)) := ((bw.setCell (p := ⟨q, 0, none⟩) (by show _ ≤ q; omega) _).setCell (p := ⟨q, 1, none⟩) (by show _ ≤ q; omega) _).setCell (p := ⟨q, 2, none⟩) (by show _ ≤ q; omega) _
          have k_q : Blk (((U33.setCell ⟨q, 0, none⟩ (.int .i64 gv.1)).setCell ⟨q, 1, none⟩ (.int .i64 gv.2.1)).setCell ⟨q, 2, none⟩ (.string gv.2.2)) q 27 #[.int .i64 gv.1, .int .i64 gv.2.1, .string gv.2.2] := ((k_q.set_ 0 _).set_ 1 _).set_ 2 _
          have k_B := k0_B.below bw
          have k_k := k0_k.below bw
          have k_v := k0_v.below bw
          have k_c := k0_c.below bw
          refine hK.out _ _ ⟨by rw [k_B.blk.cell]; rfl, by rw [k_B.blk.cell]; rfl, by rw [k_k.blk.cell]; rfl, by rw [k_k.blk.cell]; rfl, by rw [k_k.blk.cell]; rfl⟩ (fun hHeld => ?_)
          clear hK K
          (try simp only [Act.put, List.setIfInBounds_toArray, List.set_cons_zero, List.set_cons_succ])
          generalize (((U33.setCell ⟨q, 0, none⟩ (.int .i64 gv.1)).setCell ⟨q, 1, none⟩ (.int .i64 gv.2.1)).setCell ⟨q, 2, none⟩ (.string gv.2.2)) = U34 at *
          refine wpAnyH_ready (rs := [12]) (by kernel_rfl) (by simp) ?_
          refine AllReadyH.cons rfl (fun K hK => ?_) AllReadyH.nil
          go_simp
          refine hK.out _ _ ⟨by rw [k_B.blk.cell]; rfl, by rw [k_B.blk.cell]; rfl, by rw [k_k.blk.cell]; rfl, by rw [k_k.blk.cell]; rfl, by rw [k_k.blk.cell]; rfl⟩ (fun hHeld => ?_)
          clear hK K
          (try simp only [Act.put, List.setIfInBounds_toArray, List.set_cons_zero, List.set_cons_succ])
          refine wpAnyH_ready (rs := [13]) (by kernel_rfl) (by simp) ?_
          refine AllReadyH.cons rfl (fun K hK => ?_) AllReadyH.nil
          go_simp
          refine hK.out _ _ ⟨by rw [k_B.blk.cell]; rfl, by rw [k_B.blk.cell]; rfl, by rw [k_k.blk.cell]; rfl, by rw [k_k.blk.cell]; rfl, by rw [k_k.blk.cell]; rfl⟩ (fun hHeld => ?_)
          clear hK K
          (try simp only [Act.put, List.setIfInBounds_toArray, List.set_cons_zero, List.set_cons_succ])
          refine wpAnyH_done (by kernel_rfl) ?_ _
          go_wp2_with fail
          go_meet
          exact ⟨q, gv, gf, gb, rfl, rfl, rfl, hG, bw, k_q, hq⟩
      case rest =>
      obtain ⟨q, gv, gf, gb, rfl, rfl, rfl, hG, bw, kq, hq⟩ := hcut
      have k_B := k_B.below bw
      have k_k := k_k.below bw
      have k_v := k_v.below bw
      have k_c := k_c.below bw
      have k_q : Bx wc (UU O R) q _ _ := ⟨kq, fun hx => by
        rcases hx with hx | hx
        · have := HM.out.st.tab.lt _ hx; omega
        · have := HM.out.rt.oLt _ hx; omega⟩
      have HM := Lib.hid (HM.out.below bw)
      have HG := Lib.hid hG
      clear kq hq bw hG
      go_upto_region 11 with fail
      have k_B := k_B.drew'
      have k_k := k_k.drew'
      have k_v := k_v.drew'
      have k_c := k_c.drew'
      have k_q := k_q.drew'
      have HM := Lib.hid HM.out.drew'
      refine wp_region_held_drew (S := (fun W => W.cell? ⟨B, 1, none⟩ = some (.pointer (some ⟨M, 0, none⟩)) ∧ W.cell? ⟨g, 0, none⟩ = some (.int .i64 k.1) ∧ W.cell? ⟨g, 1, none⟩ = some (.int .i64 k.2.1) ∧ W.cell? ⟨g, 2, none⟩ = some (.string k.2.2))) (by kernel_rfl) ⟨by rw [k_B.blk.cell]; rfl, by rw [k_k.blk.cell]; rfl, by rw [k_k.blk.cell]; rfl, by rw [k_k.blk.cell]; rfl⟩ (fun hHeld => ?_)
      generalize wc.drew = U35 at *
      change wpAnyH _ _ _ _ _ 7 #[false, false, false, false, false, false, false] _ _
      refine wpAnyH_take (i := 0) (oi := ?oo1014) (v := ?vv1014) ?hi1014 (by kernel_rfl) (by kernel_rfl) (by kernel_rfl) ?hq1014 ?hy1014 (by assumption) ?hh1014
      case hi1014 => (simp only [List.getElem?_toArray, List.getElem?_cons_succ, List.getElem?_cons_zero]; rfl)
      case hq1014 => exact fun _ _ _ h => h
      case hy1014 => exact Or.inl ⟨by rfl, by (intro W hSw; (try dsimp only at hSw); go_simp; (try with_reducible rfl))⟩
      (try simp only [Act.put, List.setIfInBounds_toArray, List.set_cons_zero, List.set_cons_succ])
      refine wpAnyH_take (i := 1) (oi := ?oo1015) (v := ?vv1015) ?hi1015 (by kernel_rfl) (by kernel_rfl) (by kernel_rfl) ?hq1015 ?hy1015 (by assumption) ?hh1015
      case hi1015 => (simp only [List.getElem?_toArray, List.getElem?_cons_succ, List.getElem?_cons_zero]; rfl)
      case hq1015 => exact fun _ _ _ h => h
      case hy1015 => exact Or.inl ⟨by rfl, by (intro W hSw; (try dsimp only at hSw); go_simp; (try with_reducible rfl))⟩
      (try simp only [Act.put, List.setIfInBounds_toArray, List.set_cons_zero, List.set_cons_succ])
      refine wpAnyH_take (i := 2) (oi := ?oo1016) (v := ?vv1016) ?hi1016 (by kernel_rfl) (by kernel_rfl) (by kernel_rfl) ?hq1016 ?hy1016 (by assumption) ?hh1016
      case hi1016 => (simp only [List.getElem?_toArray, List.getElem?_cons_succ, List.getElem?_cons_zero]; rfl)
      case hq1016 => exact fun _ _ _ h => h
      case hy1016 => exact Or.inl ⟨by rfl, by (intro W hSw; (try dsimp only at hSw); go_simp; (try with_reducible rfl))⟩
      (try simp only [Act.put, List.setIfInBounds_toArray, List.set_cons_zero, List.set_cons_succ])
      refine wpAnyH_take (i := 3) (oi := ?oo1017) (v := ?vv1017) ?hi1017 (by kernel_rfl) (by kernel_rfl) (by kernel_rfl) ?hq1017 ?hy1017 (by assumption) ?hh1017
      case hi1017 => (simp only [List.getElem?_toArray, List.getElem?_cons_succ, List.getElem?_cons_zero]; rfl)
      case hq1017 => exact fun _ _ _ h => h
      case hy1017 => exact Or.inl ⟨by rfl, by (intro W hSw; (try dsimp only at hSw); go_simp; (try with_reducible rfl))⟩
      (try simp only [Act.put, List.setIfInBounds_toArray, List.set_cons_zero, List.set_cons_succ])
      refine wpAnyH_take (i := 4) (oi := ?oo1018) (v := ?vv1018) ?hi1018 (by kernel_rfl) (by kernel_rfl) (by kernel_rfl) ?hq1018 ?hy1018 (by assumption) ?hh1018
      case hi1018 => (simp only [List.getElem?_toArray, List.getElem?_cons_succ, List.getElem?_cons_zero]; rfl)
      case hq1018 => exact fun _ _ _ h => h
      case hy1018 => exact Or.inl ⟨by rfl, by (intro W hSw; (try dsimp only at hSw); go_simp; (try with_reducible rfl))⟩
      (try simp only [Act.put, List.setIfInBounds_toArray, List.set_cons_zero, List.set_cons_succ])
      refine wpAnyH_ready (rs := [5]) (by kernel_rfl) (by simp) ?_
      refine AllReadyH.cons rfl (fun K hK => ?_) AllReadyH.nil
      go_simp
      refine (rfind_any M lv L cl R k _ HM.out.rt (by omega) HR.out.kn).mono ?_
      rintro e U36 ⟨i, rfl, hF, bf⟩
      have k_B := k_B.below bf
      have k_k := k_k.below bf
      have k_v := k_v.below bf
      have k_c := k_c.below bf
      have k_q := k_q.below bf
      have HM := Lib.hid (HM.out.below bf)
      clear bf
      refine hK.out _ _ ⟨by rw [k_B.blk.cell]; rfl, by rw [k_k.blk.cell]; rfl, by rw [k_k.blk.cell]; rfl, by rw [k_k.blk.cell]; rfl⟩ (fun hHeld => ?_)
      clear hK K
      (try simp only [Act.put, List.setIfInBounds_toArray, List.set_cons_zero, List.set_cons_succ])
      refine wpAnyH_ready (rs := [6]) (by kernel_rfl) (by simp) ?_
      refine AllReadyH.cons rfl (fun K hK => ?_) AllReadyH.nil
      go_simp
      refine hK.out _ _ ⟨by rw [k_B.blk.cell]; rfl, by rw [k_k.blk.cell]; rfl, by rw [k_k.blk.cell]; rfl, by rw [k_k.blk.cell]; rfl⟩ (fun hHeld => ?_)
      clear hK K
      (try simp only [Act.put, List.setIfInBounds_toArray, List.set_cons_zero, List.set_cons_succ])
      refine wpAnyH_done (by kernel_rfl) ?_ _
      have hlike := GetR.like HR.out HG.out hF
      have HR2 := HR
      clear hF HG
      rcases hlike with ⟨rfl, rfl⟩ | ⟨je, e, rfl, rfl, hje, rfl, rfl⟩
      · go_upto_region 12 with fail
        go_quiet (fail)
        have k_B := k_B.below (below_drewN (Below.refl _ U36) nq)
        have k_k := k_k.below (below_drewN (Below.refl _ U36) nq)
        have k_v := k_v.below (below_drewN (Below.refl _ U36) nq)
        have k_c := k_c.below (below_drewN (Below.refl _ U36) nq)
        have k_q := k_q.below (below_drewN (Below.refl _ U36) nq)
        have HM := Lib.hid (HM.out.below (below_drewN (Below.refl _ U36) nq))
        generalize U36.drewN nq = W9 at *
        go_upto_region 32 with fail
        have HSAME := same_any _ HM.out HR2.out (by omega) (by first | omega | assumption)
        go_wp2_with fail
        refine HSAME.mono ?_
        rintro e U37 ⟨rfl, bq⟩
        have HM := Lib.hid (HM.out.below bq)
        have HF := Lib.hid (show PlayX w0 B T M xm (j + 1) (.returned (.bool true)) _ from ⟨rfl, _, _, _, _, _, _, _, _, _, _, HM.out, HR2.out, by omega, by omega, (by first | omega | assumption)⟩)
        clear HSAME bq HM HR2
        go_wp2
        go_ret
        exact HF.out
      · obtain ⟨AL, capL, hlv, hAL⟩ := own_shape HM.out.rt.ents
        obtain ⟨nL, hnL⟩ : ∃ n, L.length = n := ⟨_, rfl⟩
        have hjl := (List.getElem?_eq_some_iff.1 hje).1
        obtain ⟨gL, rfl⟩ := hAL (by omega)
        have hrt := HM.out.rt
        rw [hlv] at hrt
        have m0 : U36.cell? ⟨M, 0, none⟩ = some (.slice (some ⟨gL, 0, none⟩) nL capL) := by rw [hrt.blk.cell, ← hnL]; rfl
        have e3 : U36.cell? ⟨gL, je * 8 + 3, none⟩ = some (.int .i64 e.val.1) := hrt.ent je e hje 3 (by decide)
        have e4 : U36.cell? ⟨gL, je * 8 + 4, none⟩ = some (.int .i64 e.val.2.1) := hrt.ent je e hje 4 (by decide)
        have e5 : U36.cell? ⟨gL, je * 8 + 5, none⟩ = some (.string e.val.2.2) := hrt.ent je e hje 5 (by decide)
        have e6 : U36.cell? ⟨gL, je * 8 + 6, none⟩ = some (.int .i64 e.flags) := hrt.ent je e hje 6 (by decide)
        have c_B1 : U36.cell? ⟨B, 1, none⟩ = some (.pointer (some ⟨M, 0, none⟩)) := by rw [k_B.blk.cell]; rfl
        have c_q0 : U36.cell? ⟨q, 0, none⟩ = some (.int .i64 e.val.1) := by rw [k_q.blk.cell]; rfl
        have c_q1 : U36.cell? ⟨q, 1, none⟩ = some (.int .i64 e.val.2.1) := by rw [k_q.blk.cell]; rfl
        have c_q2 : U36.cell? ⟨q, 2, none⟩ = some (.string e.val.2.2) := by rw [k_q.blk.cell]; rfl
        rw [hnL] at hjl
        have j0 : (0 : Int) ≤ (je : Int) := by omega
        have j1 : (je : Int) < (nL : Int) := by omega
        have t1 : decide ((0 : Int) ≤ (je : Int)) = true := decide_eq_true j0
        have HHL := Lib.hid (And.intro hlv hnL)
        clear hrt hje hAL hlv hnL
        go_upto_region 12 with fail
        go_quiet (fail)
        clear c_B1 c_q0 c_q1 c_q2
        clear m0 e3 e4 e5 e6 j0 j1 t1 hjl
        have k_B := k_B.below (below_drewN (Below.refl _ U36) nq)
        have k_k := k_k.below (below_drewN (Below.refl _ U36) nq)
        have k_v := k_v.below (below_drewN (Below.refl _ U36) nq)
        have k_c := k_c.below (below_drewN (Below.refl _ U36) nq)
        have k_q := k_q.below (below_drewN (Below.refl _ U36) nq)
        have HM := Lib.hid (HM.out.below (below_drewN (Below.refl _ U36) nq))
        generalize U36.drewN nq = W9 at *
        go_upto_region 32 with fail
        have HSAME := same_any _ HM.out HR2.out (by omega) (by first | omega | assumption)
        go_wp2_with fail
        refine HSAME.mono ?_
        rintro e U38 ⟨rfl, bq⟩
        have HM := Lib.hid (HM.out.below bq)
        have HF := Lib.hid (show PlayX w0 B T M xm (j + 1) (.returned (.bool true)) _ from ⟨rfl, _, _, _, _, _, _, _, _, _, _, HM.out, HR2.out, by omega, by omega, (by first | omega | assumption)⟩)
        clear HSAME bq HM HR2
        go_wp2
        go_ret
        exact HF.out
end Go.Proofs.Ytlgnjbdkkpjjaaa
