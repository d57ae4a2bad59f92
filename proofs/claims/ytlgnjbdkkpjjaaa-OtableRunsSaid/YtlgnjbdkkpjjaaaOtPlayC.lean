/- The walk of the law's play. -/
import Derived.Test.YtlgnjbdkkpjjaaaOtW
import Derived.Deep.RegionHeld3
import Derived.Outline
set_option linter.unusedVariables false
set_option linter.unusedSimpArgs false
namespace Go.Proofs.Ytlgnjbdkkpjjaaa
open Go.RowKit Go.Sort

set_option maxHeartbeats 32000000 in
set_option maxRecDepth 100000 in
theorem play_4 {w0 : World} {B T M : Nat} {A : List Ent} {D : List (Nat × Nat)} {O : Nat → Prop} {L : List Ent} {cl : Nat} {R : Nat → Prop} {lv cv dv : Value} {X : List Cu} (w : World) (c : CallV) (k : K3) (j kd : Nat) (hm : Mem w0 w B T M A D O L cl R lv cv dv X) (hr : Rel A D L cl X) (hL : L.length ≤ j) (hcl : cl ≤ j) (hj : j ≤ 400) (hX : X.length ≤ 40)
    (hkd : (wrap64 (c.kind.tmod 7 + 7)).tmod 7 = (kd : Int)) (hc7 : kd = 4) (hk : k.2.2.size ≤ 4000)
    (CA : ∀ W, Below w.heap.size w W → Calls Try.prog 19 #[SeedV c.K c.N c.a c.n c.cap] W (Ret (VK k) W)) :
    Calls Try.prog 22 #[.pointer (some ⟨B, 0, none⟩), CallA c] w (PlayP w0 B T M (j + 1)) := by
  have HCA := Lib.hid CA
  have HM := Lib.hid hm
  have HR := Lib.hid hr
  obtain ⟨vn, hvn⟩ : ∃ vn, bits .and .i64 c.val 65535 = vn := ⟨_, rfl⟩
  obtain ⟨fl, hfl⟩ : ∃ fl, bits .and .i64 c.m 15 = fl := ⟨_, rfl⟩
  have bb : Below w.heap.size w (w.alloc (.cells (CallC c) 59)) := (Below.refl _ _).alloc (Nat.le_refl _) _
  have k_c := Blk.new w 59 (CallC c)
  have HUL := Lib.hid (show ∀ x, UU O R x → x < w.heap.size from fun x hx => by
    rcases hx with hx | hx
    · exact hm.st.tab.lt x hx
    · exact hm.rt.oLt x hx)
  clear CA hm hr
  go_enter Try.func22, Try.ntmps22
  go_upto_region 1 with fail
  generalize w.alloc (.cells (CallC c) 59) = w1 at *
  go_cut [5, 6] from 18 to 24 (fun s5 s6 wx => ∃ g h, s5 = .pointer (some ⟨g, 0, none⟩) ∧ s6 = .pointer (some ⟨h, 0, none⟩) ∧ PB w wx g h k vn c)
  case first =>
    have k_c := k_c.drew
    have bb := bb.drew
    refine wp_region_held_drew (S := (fun W => W.cell? ⟨w.heap.size, 1, none⟩ = some (.int .i64 c.K) ∧ W.cell? ⟨w.heap.size, 2, none⟩ = some (.int .i64 c.N) ∧ W.cell? ⟨w.heap.size, 3, none⟩ = some (.slice c.a c.n c.cap) ∧ W.cell? ⟨w.heap.size, 4, none⟩ = some (.int .i64 c.val))) (by kernel_rfl) ⟨by rw [k_c.cell]; rfl, by rw [k_c.cell]; rfl, by rw [k_c.cell]; rfl, by rw [k_c.cell]; rfl⟩ (fun hHeld => ?_)
    generalize w1.drew = D0 at *
    change wpAnyH _ _ _ _ _ 11 #[false, false, false, false, false, false, false, false, false, false, false] _ _
    refine wpAnyH_take (i := 0) (oi := ?oo900) (v := ?vv900) ?hi900 (by kernel_rfl) (by kernel_rfl) (by kernel_rfl) ?hq900 ?hy900 (by assumption) ?hh900
    case hi900 => (simp only [List.getElem?_toArray, List.getElem?_cons_succ, List.getElem?_cons_zero]; rfl)
    case hq900 => exact fun _ _ _ h => h
    case hy900 => exact Or.inl ⟨by rfl, by (intro W hSw; (try dsimp only at hSw); go_simp; (try with_reducible rfl))⟩
    (try simp only [Act.put, List.setIfInBounds_toArray, List.set_cons_zero, List.set_cons_succ])
    refine wpAnyH_take (i := 1) (oi := ?oo901) (v := ?vv901) ?hi901 (by kernel_rfl) (by kernel_rfl) (by kernel_rfl) ?hq901 ?hy901 (by assumption) ?hh901
    case hi901 => (simp only [List.getElem?_toArray, List.getElem?_cons_succ, List.getElem?_cons_zero]; rfl)
    case hq901 => exact fun _ _ _ h => h
    case hy901 => exact Or.inl ⟨by rfl, by (intro W hSw; (try dsimp only at hSw); go_simp; (try with_reducible rfl))⟩
    (try simp only [Act.put, List.setIfInBounds_toArray, List.set_cons_zero, List.set_cons_succ])
    refine wpAnyH_take (i := 3) (oi := ?oo902) (v := ?vv902) ?hi902 (by kernel_rfl) (by kernel_rfl) (by kernel_rfl) ?hq902 ?hy902 (by assumption) ?hh902
    case hi902 => (simp only [List.getElem?_toArray, List.getElem?_cons_succ, List.getElem?_cons_zero]; rfl)
    case hq902 => exact fun _ _ _ h => h
    case hy902 => exact Or.inl ⟨by rfl, by (intro W hSw; (try dsimp only at hSw); go_simp; (try with_reducible rfl))⟩
    (try simp only [Act.put, List.setIfInBounds_toArray, List.set_cons_zero, List.set_cons_succ])
    refine wpAnyH_take (i := 4) (oi := ?oo903) (v := ?vv903) ?hi903 (by kernel_rfl) (by kernel_rfl) (by kernel_rfl) ?hq903 ?hy903 (by assumption) ?hh903
    case hi903 => (simp only [List.getElem?_toArray, List.getElem?_cons_succ, List.getElem?_cons_zero]; rfl)
    case hq903 => exact fun _ _ _ h => h
    case hy903 => exact Or.inl ⟨by rfl, by (intro W hSw; (try dsimp only at hSw); go_simp; (try with_reducible rfl))⟩
    (try simp only [Act.put, List.setIfInBounds_toArray, List.set_cons_zero, List.set_cons_succ])
    refine wpAnyH_take (i := 5) (oi := ?oo904) (v := ?vv904) ?hi904 (by kernel_rfl) (by kernel_rfl) (by kernel_rfl) ?hq904 ?hy904 (by assumption) ?hh904
    case hi904 => (simp only [List.getElem?_toArray, List.getElem?_cons_succ, List.getElem?_cons_zero]; rfl)
    case hq904 => exact fun _ _ _ h => h
    case hy904 => exact Or.inl ⟨by rfl, by (intro W hSw; (try dsimp only at hSw); go_simp; (try with_reducible rfl))⟩
    (try simp only [Act.put, List.setIfInBounds_toArray, List.set_cons_zero, List.set_cons_succ])
    refine wpAnyH_take (i := 6) (oi := ?oo905) (v := ?vv905) ?hi905 (by kernel_rfl) (by kernel_rfl) (by kernel_rfl) ?hq905 ?hy905 (by assumption) ?hh905
    case hi905 => (simp only [List.getElem?_toArray, List.getElem?_cons_succ, List.getElem?_cons_zero]; rfl)
    case hq905 => exact fun _ _ _ h => h
    case hy905 => exact Or.inl ⟨by rfl, by (intro W hSw; (try dsimp only at hSw); go_simp; (try with_reducible rfl))⟩
    (try simp only [Act.put, List.setIfInBounds_toArray, List.set_cons_zero, List.set_cons_succ])
    refine wpAnyH_ready (rs := [2, 7, 8]) (by kernel_rfl) (by simp) ?_
    refine AllReadyH.cons rfl (fun K hK => ?_) (AllReadyH.cons rfl (fun K hK => ?_) (AllReadyH.cons rfl (fun K hK => ?_) AllReadyH.nil))
    · go_simp
      go_at_call 19
      (with_reducible refine (HCA.out _ bb).mono ?_)
      rintro e U1 ⟨rfl, bq⟩
      have k_c := k_c.below bq k_c.lt
      have bb := bb.trans (bq.mono bb.size)
      clear bq
      refine hK.out _ _ ⟨by rw [k_c.cell]; rfl, by rw [k_c.cell]; rfl, by rw [k_c.cell]; rfl, by rw [k_c.cell]; rfl⟩ (fun hHeld => ?_)
      clear hK K
      (try simp only [Act.put, List.setIfInBounds_toArray, List.set_cons_zero, List.set_cons_succ])
      refine wpAnyH_ready (rs := [7, 8]) (by kernel_rfl) (by simp) ?_
      refine AllReadyH.cons rfl (fun K hK => ?_) (AllReadyH.cons rfl (fun K hK => ?_) AllReadyH.nil)
      · go_simp
        have n_q := k_c.lt
        have k_c := k_c.alloc (.cells #[.int .i64 0, .int .i64 0, .string ⟨#[]⟩] 27)
        have k_g := Blk.new U1 27 #[.int .i64 0, .int .i64 0, .string ⟨#[]⟩]
        have bb := bb.alloc bb.size (.cells #[.int .i64 0, .int .i64 0, .string ⟨#[]⟩] 27)
        refine hK.out _ _ ⟨by rw [k_c.cell]; rfl, by rw [k_c.cell]; rfl, by rw [k_c.cell]; rfl, by rw [k_c.cell]; rfl⟩ (fun hHeld => ?_)
        clear hK K
        generalize U1.alloc (.cells #[.int .i64 0, .int .i64 0, .string ⟨#[]⟩] 27) = U2 at *
        generalize U1.heap.size = g at *
        have n_gq := n_q
        clear n_q
        (try simp only [Act.put, List.setIfInBounds_toArray, List.set_cons_zero, List.set_cons_succ])
        refine wpAnyH_ready (rs := [8]) (by kernel_rfl) (by simp) ?_
        refine AllReadyH.cons rfl (fun K hK => ?_) AllReadyH.nil
        · go_simp
          have n_q := k_c.lt
          have n_l := k_g.lt
          have k_c := k_c.alloc (.cells #[.int .i64 0, .int .i64 0, .string ⟨#[]⟩] 27)
          have k_g := k_g.alloc (.cells #[.int .i64 0, .int .i64 0, .string ⟨#[]⟩] 27)
          have k_h := Blk.new U2 27 #[.int .i64 0, .int .i64 0, .string ⟨#[]⟩]
          have bb := bb.alloc bb.size (.cells #[.int .i64 0, .int .i64 0, .string ⟨#[]⟩] 27)
          refine hK.out _ _ ⟨by rw [k_c.cell]; rfl, by rw [k_c.cell]; rfl, by rw [k_c.cell]; rfl, by rw [k_c.cell]; rfl⟩ (fun hHeld => ?_)
          clear hK K
          generalize U2.alloc (.cells #[.int .i64 0, .int .i64 0, .string ⟨#[]⟩] 27) = U3 at *
          generalize U2.heap.size = h at *
          have n_hg : g ≠ h := by omega
          have n_gh : h ≠ g := by omega
          clear n_l
          have n_hq := n_q
          clear n_q
          (try simp only [Act.put, List.setIfInBounds_toArray, List.set_cons_zero, List.set_cons_succ])
          have x_g0 : U3.cell? ⟨g, 0, none⟩ = some (.int .i64 0) := by rw [k_g.cell]; rfl
          have z_g0 := k_g.frozen 0
          have x_g1 : U3.cell? ⟨g, 1, none⟩ = some (.int .i64 0) := by rw [k_g.cell]; rfl
          have z_g1 := k_g.frozen 1
          have x_g2 : U3.cell? ⟨g, 2, none⟩ = some (.string ⟨#[]⟩) := by rw [k_g.cell]; rfl
          have z_g2 := k_g.frozen 2
          have l_g := k_g.lt
          refine wpAnyH_ready (rs := [9]) (by kernel_rfl) (by simp) ?_
          refine AllReadyH.cons rfl (fun K hK => ?_) AllReadyH.nil
          go_simp
          clear x_g0 x_g1 x_g2 z_g0 z_g1 z_g2 l_g
          have k_g : Blk (((U3.setCell ⟨g, 0, none⟩ (.int .i64 k.1)).setCell ⟨g, 1, none⟩ (.int .i64 k.2.1)).setCell ⟨g, 2, none⟩ (.string k.2.2)) g 27 #[.int .i64 k.1, .int .i64 k.2.1, .string k.2.2] := ((k_g.set_ 0 _).set_ 1 _).set_ 2 _
          have k_h : Blk (((U3.setCell ⟨g, 0, none⟩ (.int .i64 k.1)).setCell ⟨g, 1, none⟩ (.int .i64 k.2.1)).setCell ⟨g, 2, none⟩ (.string k.2.2)) _ _ _ := ((k_h.far (p := ⟨g, 0, none⟩) n_gh _).far (p := ⟨g, 1, none⟩) n_gh _).far (p := ⟨g, 2, none⟩) n_gh _
          have k_c : Blk (((U3.setCell ⟨g, 0, none⟩ (.int .i64 k.1)).setCell ⟨g, 1, none⟩ (.int .i64 k.2.1)).setCell ⟨g, 2, none⟩ (.string k.2.2)) _ _ _ := ((k_c.far (p := ⟨g, 0, none⟩) (by show w.heap.size ≠ g; omega) _).far (p := ⟨g, 1, none⟩) (by show w.heap.size ≠ g; omega) _).far (p := ⟨g, 2, none⟩) (by show w.heap.size ≠ g; omega) _
          have bb : Below w.heap.size w (((U3.setCell ⟨g, 0, none⟩ (.int .i64 k.1)).setCell ⟨g, 1, none⟩ (.int .i64 k.2.1)).setCell ⟨g, 2, none⟩ (.string k.2.2)) := ((bb.setCell (p := ⟨g, 0, none⟩) (by show _ ≤ g; omega) _).setCell (p := ⟨g, 1, none⟩) (by show _ ≤ g; omega) _).setCell (p := ⟨g, 2, none⟩) (by show _ ≤ g; omega) _
          refine hK.out _ _ ⟨by rw [k_c.cell]; rfl, by rw [k_c.cell]; rfl, by rw [k_c.cell]; rfl, by rw [k_c.cell]; rfl⟩ (fun hHeld => ?_)
          clear hK K
          generalize (((U3.setCell ⟨g, 0, none⟩ (.int .i64 k.1)).setCell ⟨g, 1, none⟩ (.int .i64 k.2.1)).setCell ⟨g, 2, none⟩ (.string k.2.2)) = U4 at *
          (try simp only [Act.put, List.setIfInBounds_toArray, List.set_cons_zero, List.set_cons_succ])
          have x_h0 : U4.cell? ⟨h, 0, none⟩ = some (.int .i64 0) := by rw [k_h.cell]; rfl
          have z_h0 := k_h.frozen 0
          have x_h1 : U4.cell? ⟨h, 1, none⟩ = some (.int .i64 0) := by rw [k_h.cell]; rfl
          have z_h1 := k_h.frozen 1
          have x_h2 : U4.cell? ⟨h, 2, none⟩ = some (.string ⟨#[]⟩) := by rw [k_h.cell]; rfl
          have z_h2 := k_h.frozen 2
          have l_h := k_h.lt
          refine wpAnyH_ready (rs := [10]) (by kernel_rfl) (by simp) ?_
          refine AllReadyH.cons rfl (fun K hK => ?_) AllReadyH.nil
          go_simp
          clear x_h0 x_h1 x_h2 z_h0 z_h1 z_h2 l_h
          have k_h : Blk (((U4.setCell ⟨h, 0, none⟩ (.int .i64 3)).setCell ⟨h, 1, none⟩ (.int .i64 vn)).setCell ⟨h, 2, none⟩ (.string ⟨#[]⟩)) h 27 #[.int .i64 3, .int .i64 vn, .string ⟨#[]⟩] := ((k_h.set_ 0 _).set_ 1 _).set_ 2 _
          have k_g : Blk (((U4.setCell ⟨h, 0, none⟩ (.int .i64 3)).setCell ⟨h, 1, none⟩ (.int .i64 vn)).setCell ⟨h, 2, none⟩ (.string ⟨#[]⟩)) _ _ _ := ((k_g.far (p := ⟨h, 0, none⟩) n_hg _).far (p := ⟨h, 1, none⟩) n_hg _).far (p := ⟨h, 2, none⟩) n_hg _
          have k_c : Blk (((U4.setCell ⟨h, 0, none⟩ (.int .i64 3)).setCell ⟨h, 1, none⟩ (.int .i64 vn)).setCell ⟨h, 2, none⟩ (.string ⟨#[]⟩)) _ _ _ := ((k_c.far (p := ⟨h, 0, none⟩) (by show w.heap.size ≠ h; omega) _).far (p := ⟨h, 1, none⟩) (by show w.heap.size ≠ h; omega) _).far (p := ⟨h, 2, none⟩) (by show w.heap.size ≠ h; omega) _
          have bb : Below w.heap.size w (((U4.setCell ⟨h, 0, none⟩ (.int .i64 3)).setCell ⟨h, 1, none⟩ (.int .i64 vn)).setCell ⟨h, 2, none⟩ (.string ⟨#[]⟩)) := ((bb.setCell (p := ⟨h, 0, none⟩) (by show _ ≤ h; omega) _).setCell (p := ⟨h, 1, none⟩) (by show _ ≤ h; omega) _).setCell (p := ⟨h, 2, none⟩) (by show _ ≤ h; omega) _
          refine hK.out _ _ ⟨by rw [k_c.cell]; rfl, by rw [k_c.cell]; rfl, by rw [k_c.cell]; rfl, by rw [k_c.cell]; rfl⟩ (fun hHeld => ?_)
          clear hK K
          generalize (((U4.setCell ⟨h, 0, none⟩ (.int .i64 3)).setCell ⟨h, 1, none⟩ (.int .i64 vn)).setCell ⟨h, 2, none⟩ (.string ⟨#[]⟩)) = U5 at *
          (try simp only [Act.put, List.setIfInBounds_toArray, List.set_cons_zero, List.set_cons_succ])
          refine wpAnyH_done (by kernel_rfl) ?_ _
          go_wp2_with fail
          go_meet
          exact ⟨g, h, rfl, rfl, ⟨bb, k_g, k_h, k_c, by omega, by omega⟩⟩
      · go_simp
        have n_q := k_c.lt
        have k_c := k_c.alloc (.cells #[.int .i64 0, .int .i64 0, .string ⟨#[]⟩] 27)
        have k_h := Blk.new U1 27 #[.int .i64 0, .int .i64 0, .string ⟨#[]⟩]
        have bb := bb.alloc bb.size (.cells #[.int .i64 0, .int .i64 0, .string ⟨#[]⟩] 27)
        refine hK.out _ _ ⟨by rw [k_c.cell]; rfl, by rw [k_c.cell]; rfl, by rw [k_c.cell]; rfl, by rw [k_c.cell]; rfl⟩ (fun hHeld => ?_)
        clear hK K
        generalize U1.alloc (.cells #[.int .i64 0, .int .i64 0, .string ⟨#[]⟩] 27) = U6 at *
        generalize U1.heap.size = h at *
        have n_hq := n_q
        clear n_q
        (try simp only [Act.put, List.setIfInBounds_toArray, List.set_cons_zero, List.set_cons_succ])
        refine wpAnyH_ready (rs := [7]) (by kernel_rfl) (by simp) ?_
        refine AllReadyH.cons rfl (fun K hK => ?_) AllReadyH.nil
        · go_simp
          have n_q := k_c.lt
          have n_l := k_h.lt
          have k_c := k_c.alloc (.cells #[.int .i64 0, .int .i64 0, .string ⟨#[]⟩] 27)
          have k_h := k_h.alloc (.cells #[.int .i64 0, .int .i64 0, .string ⟨#[]⟩] 27)
          have k_g := Blk.new U6 27 #[.int .i64 0, .int .i64 0, .string ⟨#[]⟩]
          have bb := bb.alloc bb.size (.cells #[.int .i64 0, .int .i64 0, .string ⟨#[]⟩] 27)
          refine hK.out _ _ ⟨by rw [k_c.cell]; rfl, by rw [k_c.cell]; rfl, by rw [k_c.cell]; rfl, by rw [k_c.cell]; rfl⟩ (fun hHeld => ?_)
          clear hK K
          generalize U6.alloc (.cells #[.int .i64 0, .int .i64 0, .string ⟨#[]⟩] 27) = U7 at *
          generalize U6.heap.size = g at *
          have n_gh : h ≠ g := by omega
          have n_hg : g ≠ h := by omega
          clear n_l
          have n_gq := n_q
          clear n_q
          (try simp only [Act.put, List.setIfInBounds_toArray, List.set_cons_zero, List.set_cons_succ])
          have x_g0 : U7.cell? ⟨g, 0, none⟩ = some (.int .i64 0) := by rw [k_g.cell]; rfl
          have z_g0 := k_g.frozen 0
          have x_g1 : U7.cell? ⟨g, 1, none⟩ = some (.int .i64 0) := by rw [k_g.cell]; rfl
          have z_g1 := k_g.frozen 1
          have x_g2 : U7.cell? ⟨g, 2, none⟩ = some (.string ⟨#[]⟩) := by rw [k_g.cell]; rfl
          have z_g2 := k_g.frozen 2
          have l_g := k_g.lt
          refine wpAnyH_ready (rs := [9]) (by kernel_rfl) (by simp) ?_
          refine AllReadyH.cons rfl (fun K hK => ?_) AllReadyH.nil
          go_simp
          clear x_g0 x_g1 x_g2 z_g0 z_g1 z_g2 l_g
          have k_g : Blk (((U7.setCell ⟨g, 0, none⟩ (.int .i64 k.1)).setCell ⟨g, 1, none⟩ (.int .i64 k.2.1)).setCell ⟨g, 2, none⟩ (.string k.2.2)) g 27 #[.int .i64 k.1, .int .i64 k.2.1, .string k.2.2] := ((k_g.set_ 0 _).set_ 1 _).set_ 2 _
          have k_h : Blk (((U7.setCell ⟨g, 0, none⟩ (.int .i64 k.1)).setCell ⟨g, 1, none⟩ (.int .i64 k.2.1)).setCell ⟨g, 2, none⟩ (.string k.2.2)) _ _ _ := ((k_h.far (p := ⟨g, 0, none⟩) n_gh _).far (p := ⟨g, 1, none⟩) n_gh _).far (p := ⟨g, 2, none⟩) n_gh _
          have k_c : Blk (((U7.setCell ⟨g, 0, none⟩ (.int .i64 k.1)).setCell ⟨g, 1, none⟩ (.int .i64 k.2.1)).setCell ⟨g, 2, none⟩ (.string k.2.2)) _ _ _ := ((k_c.far (p := ⟨g, 0, none⟩) (by show w.heap.size ≠ g; omega) _).far (p := ⟨g, 1, none⟩) (by show w.heap.size ≠ g; omega) _).far (p := ⟨g, 2, none⟩) (by show w.heap.size ≠ g; omega) _
          have bb : Below w.heap.size w (((U7.setCell ⟨g, 0, none⟩ (.int .i64 k.1)).setCell ⟨g, 1, none⟩ (.int .i64 k.2.1)).setCell ⟨g, 2, none⟩ (.string k.2.2)) := ((bb.setCell (p := ⟨g, 0, none⟩) (by show _ ≤ g; omega) _).setCell (p := ⟨g, 1, none⟩) (by show _ ≤ g; omega) _).setCell (p := ⟨g, 2, none⟩) (by show _ ≤ g; omega) _
          refine hK.out _ _ ⟨by rw [k_c.cell]; rfl, by rw [k_c.cell]; rfl, by rw [k_c.cell]; rfl, by rw [k_c.cell]; rfl⟩ (fun hHeld => ?_)
          clear hK K
          generalize (((U7.setCell ⟨g, 0, none⟩ (.int .i64 k.1)).setCell ⟨g, 1, none⟩ (.int .i64 k.2.1)).setCell ⟨g, 2, none⟩ (.string k.2.2)) = U8 at *
          (try simp only [Act.put, List.setIfInBounds_toArray, List.set_cons_zero, List.set_cons_succ])
          have x_h0 : U8.cell? ⟨h, 0, none⟩ = some (.int .i64 0) := by rw [k_h.cell]; rfl
          have z_h0 := k_h.frozen 0
          have x_h1 : U8.cell? ⟨h, 1, none⟩ = some (.int .i64 0) := by rw [k_h.cell]; rfl
          have z_h1 := k_h.frozen 1
          have x_h2 : U8.cell? ⟨h, 2, none⟩ = some (.string ⟨#[]⟩) := by rw [k_h.cell]; rfl
          have z_h2 := k_h.frozen 2
          have l_h := k_h.lt
          refine wpAnyH_ready (rs := [10]) (by kernel_rfl) (by simp) ?_
          refine AllReadyH.cons rfl (fun K hK => ?_) AllReadyH.nil
          go_simp
          clear x_h0 x_h1 x_h2 z_h0 z_h1 z_h2 l_h
          have k_h : Blk (((U8.setCell ⟨h, 0, none⟩ (.int .i64 3)).setCell ⟨h, 1, none⟩ (.int .i64 vn)).setCell ⟨h, 2, none⟩ (.string ⟨#[]⟩)) h 27 #[.int .i64 3, .int .i64 vn, .string ⟨#[]⟩] := ((k_h.set_ 0 _).set_ 1 _).set_ 2 _
          have k_g : Blk (((U8.setCell ⟨h, 0, none⟩ (.int .i64 3)).setCell ⟨h, 1, none⟩ (.int .i64 vn)).setCell ⟨h, 2, none⟩ (.string ⟨#[]⟩)) _ _ _ := ((k_g.far (p := ⟨h, 0, none⟩) n_hg _).far (p := ⟨h, 1, none⟩) n_hg _).far (p := ⟨h, 2, none⟩) n_hg _
          have k_c : Blk (((U8.setCell ⟨h, 0, none⟩ (.int .i64 3)).setCell ⟨h, 1, none⟩ (.int .i64 vn)).setCell ⟨h, 2, none⟩ (.string ⟨#[]⟩)) _ _ _ := ((k_c.far (p := ⟨h, 0, none⟩) (by show w.heap.size ≠ h; omega) _).far (p := ⟨h, 1, none⟩) (by show w.heap.size ≠ h; omega) _).far (p := ⟨h, 2, none⟩) (by show w.heap.size ≠ h; omega) _
          have bb : Below w.heap.size w (((U8.setCell ⟨h, 0, none⟩ (.int .i64 3)).setCell ⟨h, 1, none⟩ (.int .i64 vn)).setCell ⟨h, 2, none⟩ (.string ⟨#[]⟩)) := ((bb.setCell (p := ⟨h, 0, none⟩) (by show _ ≤ h; omega) _).setCell (p := ⟨h, 1, none⟩) (by show _ ≤ h; omega) _).setCell (p := ⟨h, 2, none⟩) (by show _ ≤ h; omega) _
          refine hK.out _ _ ⟨by rw [k_c.cell]; rfl, by rw [k_c.cell]; rfl, by rw [k_c.cell]; rfl, by rw [k_c.cell]; rfl⟩ (fun hHeld => ?_)
          clear hK K
          generalize (((U8.setCell ⟨h, 0, none⟩ (.int .i64 3)).setCell ⟨h, 1, none⟩ (.int .i64 vn)).setCell ⟨h, 2, none⟩ (.string ⟨#[]⟩)) = U9 at *
          (try simp only [Act.put, List.setIfInBounds_toArray, List.set_cons_zero, List.set_cons_succ])
          refine wpAnyH_done (by kernel_rfl) ?_ _
          go_wp2_with fail
          go_meet
          exact ⟨g, h, rfl, rfl, ⟨bb, k_g, k_h, k_c, by omega, by omega⟩⟩
    · go_simp
      have n_q := k_c.lt
      have k_c := k_c.alloc (.cells #[.int .i64 0, .int .i64 0, .string ⟨#[]⟩] 27)
      have k_g := Blk.new D0 27 #[.int .i64 0, .int .i64 0, .string ⟨#[]⟩]
      have bb := bb.alloc bb.size (.cells #[.int .i64 0, .int .i64 0, .string ⟨#[]⟩] 27)
      refine hK.out _ _ ⟨by rw [k_c.cell]; rfl, by rw [k_c.cell]; rfl, by rw [k_c.cell]; rfl, by rw [k_c.cell]; rfl⟩ (fun hHeld => ?_)
      clear hK K
      generalize D0.alloc (.cells #[.int .i64 0, .int .i64 0, .string ⟨#[]⟩] 27) = U10 at *
      generalize D0.heap.size = g at *
      have n_gq := n_q
      clear n_q
      (try simp only [Act.put, List.setIfInBounds_toArray, List.set_cons_zero, List.set_cons_succ])
      refine wpAnyH_ready (rs := [2, 8]) (by kernel_rfl) (by simp) ?_
      refine AllReadyH.cons rfl (fun K hK => ?_) (AllReadyH.cons rfl (fun K hK => ?_) AllReadyH.nil)
      · go_simp
        go_at_call 19
        (with_reducible refine (HCA.out _ bb).mono ?_)
        rintro e U11 ⟨rfl, bq⟩
        have k_c := k_c.below bq k_c.lt
        have k_g := k_g.below bq k_g.lt
        have bb := bb.trans (bq.mono bb.size)
        clear bq
        refine hK.out _ _ ⟨by rw [k_c.cell]; rfl, by rw [k_c.cell]; rfl, by rw [k_c.cell]; rfl, by rw [k_c.cell]; rfl⟩ (fun hHeld => ?_)
        clear hK K
        (try simp only [Act.put, List.setIfInBounds_toArray, List.set_cons_zero, List.set_cons_succ])
        refine wpAnyH_ready (rs := [8]) (by kernel_rfl) (by simp) ?_
        refine AllReadyH.cons rfl (fun K hK => ?_) AllReadyH.nil
        · go_simp
          have n_q := k_c.lt
          have n_l := k_g.lt
          have k_c := k_c.alloc (.cells #[.int .i64 0, .int .i64 0, .string ⟨#[]⟩] 27)
          have k_g := k_g.alloc (.cells #[.int .i64 0, .int .i64 0, .string ⟨#[]⟩] 27)
          have k_h := Blk.new U11 27 #[.int .i64 0, .int .i64 0, .string ⟨#[]⟩]
          have bb := bb.alloc bb.size (.cells #[.int .i64 0, .int .i64 0, .string ⟨#[]⟩] 27)
          refine hK.out _ _ ⟨by rw [k_c.cell]; rfl, by rw [k_c.cell]; rfl, by rw [k_c.cell]; rfl, by rw [k_c.cell]; rfl⟩ (fun hHeld => ?_)
          clear hK K
          generalize U11.alloc (.cells #[.int .i64 0, .int .i64 0, .string ⟨#[]⟩] 27) = U12 at *
          generalize U11.heap.size = h at *
          have n_hg : g ≠ h := by omega
          have n_gh : h ≠ g := by omega
          clear n_l
          have n_hq := n_q
          clear n_q
          (try simp only [Act.put, List.setIfInBounds_toArray, List.set_cons_zero, List.set_cons_succ])
          have x_g0 : U12.cell? ⟨g, 0, none⟩ = some (.int .i64 0) := by rw [k_g.cell]; rfl
          have z_g0 := k_g.frozen 0
          have x_g1 : U12.cell? ⟨g, 1, none⟩ = some (.int .i64 0) := by rw [k_g.cell]; rfl
          have z_g1 := k_g.frozen 1
          have x_g2 : U12.cell? ⟨g, 2, none⟩ = some (.string ⟨#[]⟩) := by rw [k_g.cell]; rfl
          have z_g2 := k_g.frozen 2
          have l_g := k_g.lt
          refine wpAnyH_ready (rs := [9]) (by kernel_rfl) (by simp) ?_
          refine AllReadyH.cons rfl (fun K hK => ?_) AllReadyH.nil
          go_simp
          clear x_g0 x_g1 x_g2 z_g0 z_g1 z_g2 l_g
          have k_g : Blk (((U12.setCell ⟨g, 0, none⟩ (.int .i64 k.1)).setCell ⟨g, 1, none⟩ (.int .i64 k.2.1)).setCell ⟨g, 2, none⟩ (.string k.2.2)) g 27 #[.int .i64 k.1, .int .i64 k.2.1, .string k.2.2] := ((k_g.set_ 0 _).set_ 1 _).set_ 2 _
          have k_h : Blk (((U12.setCell ⟨g, 0, none⟩ (.int .i64 k.1)).setCell ⟨g, 1, none⟩ (.int .i64 k.2.1)).setCell ⟨g, 2, none⟩ (.string k.2.2)) _ _ _ := ((k_h.far (p := ⟨g, 0, none⟩) n_gh _).far (p := ⟨g, 1, none⟩) n_gh _).far (p := ⟨g, 2, none⟩) n_gh _
          have k_c : Blk (((U12.setCell ⟨g, 0, none⟩ (.int .i64 k.1)).setCell ⟨g, 1, none⟩ (.int .i64 k.2.1)).setCell ⟨g, 2, none⟩ (.string k.2.2)) _ _ _ := ((k_c.far (p := ⟨g, 0, none⟩) (by show w.heap.size ≠ g; omega) _).far (p := ⟨g, 1, none⟩) (by show w.heap.size ≠ g; omega) _).far (p := ⟨g, 2, none⟩) (by show w.heap.size ≠ g; omega) _
          have bb : Below w.heap.size w (((U12.setCell ⟨g, 0, none⟩ (.int .i64 k.1)).setCell ⟨g, 1, none⟩ (.int .i64 k.2.1)).setCell ⟨g, 2, none⟩ (.string k.2.2)) := ((bb.setCell (p := ⟨g, 0, none⟩) (by show _ ≤ g; omega) _).setCell (p := ⟨g, 1, none⟩) (by show _ ≤ g; omega) _).setCell (p := ⟨g, 2, none⟩) (by show _ ≤ g; omega) _
          refine hK.out _ _ ⟨by rw [k_c.cell]; rfl, by rw [k_c.cell]; rfl, by rw [k_c.cell]; rfl, by rw [k_c.cell]; rfl⟩ (fun hHeld => ?_)
          clear hK K
          generalize (((U12.setCell ⟨g, 0, none⟩ (.int .i64 k.1)).setCell ⟨g, 1, none⟩ (.int .i64 k.2.1)).setCell ⟨g, 2, none⟩ (.string k.2.2)) = U13 at *
          (try simp only [Act.put, List.setIfInBounds_toArray, List.set_cons_zero, List.set_cons_succ])
          have x_h0 : U13.cell? ⟨h, 0, none⟩ = some (.int .i64 0) := by rw [k_h.cell]; rfl
          have z_h0 := k_h.frozen 0
          have x_h1 : U13.cell? ⟨h, 1, none⟩ = some (.int .i64 0) := by rw [k_h.cell]; rfl
          have z_h1 := k_h.frozen 1
          have x_h2 : U13.cell? ⟨h, 2, none⟩ = some (.string ⟨#[]⟩) := by rw [k_h.cell]; rfl
          have z_h2 := k_h.frozen 2
          have l_h := k_h.lt
          refine wpAnyH_ready (rs := [10]) (by kernel_rfl) (by simp) ?_
          refine AllReadyH.cons rfl (fun K hK => ?_) AllReadyH.nil
          go_simp
          clear x_h0 x_h1 x_h2 z_h0 z_h1 z_h2 l_h
          have k_h : Blk (((U13.setCell ⟨h, 0, none⟩ (.int .i64 3)).setCell ⟨h, 1, none⟩ (.int .i64 vn)).setCell ⟨h, 2, none⟩ (.string ⟨#[]⟩)) h 27 #[.int .i64 3, .int .i64 vn, .string ⟨#[]⟩] := ((k_h.set_ 0 _).set_ 1 _).set_ 2 _
          have k_g : Blk (((U13.setCell ⟨h, 0, none⟩ (.int .i64 3)).setCell ⟨h, 1, none⟩ (.int .i64 vn)).setCell ⟨h, 2, none⟩ (.string ⟨#[]⟩)) _ _ _ := ((k_g.far (p := ⟨h, 0, none⟩) n_hg _).far (p := ⟨h, 1, none⟩) n_hg _).far (p := ⟨h, 2, none⟩) n_hg _
          have k_c : Blk (((U13.setCell ⟨h, 0, none⟩ (.int .i64 3)).setCell ⟨h, 1, none⟩ (.int .i64 vn)).setCell ⟨h, 2, none⟩ (.string ⟨#[]⟩)) _ _ _ := ((k_c.far (p := ⟨h, 0, none⟩) (by show w.heap.size ≠ h; omega) _).far (p := ⟨h, 1, none⟩) (by show w.heap.size ≠ h; omega) _).far (p := ⟨h, 2, none⟩) (by show w.heap.size ≠ h; omega) _
          have bb : Below w.heap.size w (((U13.setCell ⟨h, 0, none⟩ (.int .i64 3)).setCell ⟨h, 1, none⟩ (.int .i64 vn)).setCell ⟨h, 2, none⟩ (.string ⟨#[]⟩)) := ((bb.setCell (p := ⟨h, 0, none⟩) (by show _ ≤ h; omega) _).setCell (p := ⟨h, 1, none⟩) (by show _ ≤ h; omega) _).setCell (p := ⟨h, 2, none⟩) (by show _ ≤ h; omega) _
          refine hK.out _ _ ⟨by rw [k_c.cell]; rfl, by rw [k_c.cell]; rfl, by rw [k_c.cell]; rfl, by rw [k_c.cell]; rfl⟩ (fun hHeld => ?_)
          clear hK K
          generalize (((U13.setCell ⟨h, 0, none⟩ (.int .i64 3)).setCell ⟨h, 1, none⟩ (.int .i64 vn)).setCell ⟨h, 2, none⟩ (.string ⟨#[]⟩)) = U14 at *
          (try simp only [Act.put, List.setIfInBounds_toArray, List.set_cons_zero, List.set_cons_succ])
          refine wpAnyH_done (by kernel_rfl) ?_ _
          go_wp2_with fail
          go_meet
          exact ⟨g, h, rfl, rfl, ⟨bb, k_g, k_h, k_c, by omega, by omega⟩⟩
      · go_simp
        have n_q := k_c.lt
        have n_l := k_g.lt
        have k_c := k_c.alloc (.cells #[.int .i64 0, .int .i64 0, .string ⟨#[]⟩] 27)
        have k_g := k_g.alloc (.cells #[.int .i64 0, .int .i64 0, .string ⟨#[]⟩] 27)
        have k_h := Blk.new U10 27 #[.int .i64 0, .int .i64 0, .string ⟨#[]⟩]
        have bb := bb.alloc bb.size (.cells #[.int .i64 0, .int .i64 0, .string ⟨#[]⟩] 27)
        refine hK.out _ _ ⟨by rw [k_c.cell]; rfl, by rw [k_c.cell]; rfl, by rw [k_c.cell]; rfl, by rw [k_c.cell]; rfl⟩ (fun hHeld => ?_)
        clear hK K
        generalize U10.alloc (.cells #[.int .i64 0, .int .i64 0, .string ⟨#[]⟩] 27) = U15 at *
        generalize U10.heap.size = h at *
        have n_hg : g ≠ h := by omega
        have n_gh : h ≠ g := by omega
        clear n_l
        have n_hq := n_q
        clear n_q
        (try simp only [Act.put, List.setIfInBounds_toArray, List.set_cons_zero, List.set_cons_succ])
        refine wpAnyH_ready (rs := [2]) (by kernel_rfl) (by simp) ?_
        refine AllReadyH.cons rfl (fun K hK => ?_) AllReadyH.nil
        · go_simp
          go_at_call 19
          (with_reducible refine (HCA.out _ bb).mono ?_)
          rintro e U16 ⟨rfl, bq⟩
          have k_c := k_c.below bq k_c.lt
          have k_g := k_g.below bq k_g.lt
          have k_h := k_h.below bq k_h.lt
          have bb := bb.trans (bq.mono bb.size)
          clear bq
          refine hK.out _ _ ⟨by rw [k_c.cell]; rfl, by rw [k_c.cell]; rfl, by rw [k_c.cell]; rfl, by rw [k_c.cell]; rfl⟩ (fun hHeld => ?_)
          clear hK K
          (try simp only [Act.put, List.setIfInBounds_toArray, List.set_cons_zero, List.set_cons_succ])
          have x_g0 : U16.cell? ⟨g, 0, none⟩ = some (.int .i64 0) := by rw [k_g.cell]; rfl
          have z_g0 := k_g.frozen 0
          have x_g1 : U16.cell? ⟨g, 1, none⟩ = some (.int .i64 0) := by rw [k_g.cell]; rfl
          have z_g1 := k_g.frozen 1
          have x_g2 : U16.cell? ⟨g, 2, none⟩ = some (.string ⟨#[]⟩) := by rw [k_g.cell]; rfl
          have z_g2 := k_g.frozen 2
          have l_g := k_g.lt
          refine wpAnyH_ready (rs := [9]) (by kernel_rfl) (by simp) ?_
          refine AllReadyH.cons rfl (fun K hK => ?_) AllReadyH.nil
          go_simp
          clear x_g0 x_g1 x_g2 z_g0 z_g1 z_g2 l_g
          have k_g : Blk (((U16.setCell ⟨g, 0, none⟩ (.int .i64 k.1)).setCell ⟨g, 1, none⟩ (.int .i64 k.2.1)).setCell ⟨g, 2, none⟩ (.string k.2.2)) g 27 #[.int .i64 k.1, .int .i64 k.2.1, .string k.2.2] := ((k_g.set_ 0 _).set_ 1 _).set_ 2 _
          have k_h : Blk (((U16.setCell ⟨g, 0, none⟩ (.int .i64 k.1)).setCell ⟨g, 1, none⟩ (.int .i64 k.2.1)).setCell ⟨g, 2, none⟩ (.string k.2.2)) _ _ _ := ((k_h.far (p := ⟨g, 0, none⟩) n_gh _).far (p := ⟨g, 1, none⟩) n_gh _).far (p := ⟨g, 2, none⟩) n_gh _
          have k_c : Blk (((U16.setCell ⟨g, 0, none⟩ (.int .i64 k.1)).setCell ⟨g, 1, none⟩ (.int .i64 k.2.1)).setCell ⟨g, 2, none⟩ (.string k.2.2)) _ _ _ := ((k_c.far (p := ⟨g, 0, none⟩) (by show w.heap.size ≠ g; omega) _).far (p := ⟨g, 1, none⟩) (by show w.heap.size ≠ g; omega) _).far (p := ⟨g, 2, none⟩) (by show w.heap.size ≠ g; omega) _
          have bb : Below w.heap.size w (((U16.setCell ⟨g, 0, none⟩ (.int .i64 k.1)).setCell ⟨g, 1, none⟩ (.int .i64 k.2.1)).setCell ⟨g, 2, none⟩ (.string k.2.2)) := ((bb.setCell (p := ⟨g, 0, none⟩) (by show _ ≤ g; omega) _).setCell (p := ⟨g, 1, none⟩) (by show _ ≤ g; omega) _).setCell (p := ⟨g, 2, none⟩) (by show _ ≤ g; omega) _
          refine hK.out _ _ ⟨by rw [k_c.cell]; rfl, by rw [k_c.cell]; rfl, by rw [k_c.cell]; rfl, by rw [k_c.cell]; rfl⟩ (fun hHeld => ?_)
          clear hK K
          generalize (((U16.setCell ⟨g, 0, none⟩ (.int .i64 k.1)).setCell ⟨g, 1, none⟩ (.int .i64 k.2.1)).setCell ⟨g, 2, none⟩ (.string k.2.2)) = U17 at *
          (try simp only [Act.put, List.setIfInBounds_toArray, List.set_cons_zero, List.set_cons_succ])
          have x_h0 : U17.cell? ⟨h, 0, none⟩ = some (.int .i64 0) := by rw [k_h.cell]; rfl
          have z_h0 := k_h.frozen 0
          have x_h1 : U17.cell? ⟨h, 1, none⟩ = some (.int .i64 0) := by rw [k_h.cell]; rfl
          have z_h1 := k_h.frozen 1
          have x_h2 : U17.cell? ⟨h, 2, none⟩ = some (.string ⟨#[]⟩) := by rw [k_h.cell]; rfl
          have z_h2 := k_h.frozen 2
          have l_h := k_h.lt
          refine wpAnyH_ready (rs := [10]) (by kernel_rfl) (by simp) ?_
          refine AllReadyH.cons rfl (fun K hK => ?_) AllReadyH.nil
          go_simp
          clear x_h0 x_h1 x_h2 z_h0 z_h1 z_h2 l_h
          have k_h : Blk (((U17.setCell ⟨h, 0, none⟩ (.int .i64 3)).setCell ⟨h, 1, none⟩ (.int .i64 vn)).setCell ⟨h, 2, none⟩ (.string ⟨#[]⟩)) h 27 #[.int .i64 3, .int .i64 vn, .string ⟨#[]⟩] := ((k_h.set_ 0 _).set_ 1 _).set_ 2 _
          have k_g : Blk (((U17.setCell ⟨h, 0, none⟩ (.int .i64 3)).setCell ⟨h, 1, none⟩ (.int .i64 vn)).setCell ⟨h, 2, none⟩ (.string ⟨#[]⟩)) _ _ _ := ((k_g.far (p := ⟨h, 0, none⟩) n_hg _).far (p := ⟨h, 1, none⟩) n_hg _).far (p := ⟨h, 2, none⟩) n_hg _
          have k_c : Blk (((U17.setCell ⟨h, 0, none⟩ (.int .i64 3)).setCell ⟨h, 1, none⟩ (.int .i64 vn)).setCell ⟨h, 2, none⟩ (.string ⟨#[]⟩)) _ _ _ := ((k_c.far (p := ⟨h, 0, none⟩) (by show w.heap.size ≠ h; omega) _).far (p := ⟨h, 1, none⟩) (by show w.heap.size ≠ h; omega) _).far (p := ⟨h, 2, none⟩) (by show w.heap.size ≠ h; omega) _
          have bb : Below w.heap.size w (((U17.setCell ⟨h, 0, none⟩ (.int .i64 3)).setCell ⟨h, 1, none⟩ (.int .i64 vn)).setCell ⟨h, 2, none⟩ (.string ⟨#[]⟩)) := ((bb.setCell (p := ⟨h, 0, none⟩) (by show _ ≤ h; omega) _).setCell (p := ⟨h, 1, none⟩) (by show _ ≤ h; omega) _).setCell (p := ⟨h, 2, none⟩) (by show _ ≤ h; omega) _
          refine hK.out _ _ ⟨by rw [k_c.cell]; rfl, by rw [k_c.cell]; rfl, by rw [k_c.cell]; rfl, by rw [k_c.cell]; rfl⟩ (fun hHeld => ?_)
          clear hK K
          generalize (((U17.setCell ⟨h, 0, none⟩ (.int .i64 3)).setCell ⟨h, 1, none⟩ (.int .i64 vn)).setCell ⟨h, 2, none⟩ (.string ⟨#[]⟩)) = U18 at *
          (try simp only [Act.put, List.setIfInBounds_toArray, List.set_cons_zero, List.set_cons_succ])
          refine wpAnyH_done (by kernel_rfl) ?_ _
          go_wp2_with fail
          go_meet
          exact ⟨g, h, rfl, rfl, ⟨bb, k_g, k_h, k_c, by omega, by omega⟩⟩
    · go_simp
      have n_q := k_c.lt
      have k_c := k_c.alloc (.cells #[.int .i64 0, .int .i64 0, .string ⟨#[]⟩] 27)
      have k_h := Blk.new D0 27 #[.int .i64 0, .int .i64 0, .string ⟨#[]⟩]
      have bb := bb.alloc bb.size (.cells #[.int .i64 0, .int .i64 0, .string ⟨#[]⟩] 27)
      refine hK.out _ _ ⟨by rw [k_c.cell]; rfl, by rw [k_c.cell]; rfl, by rw [k_c.cell]; rfl, by rw [k_c.cell]; rfl⟩ (fun hHeld => ?_)
      clear hK K
      generalize D0.alloc (.cells #[.int .i64 0, .int .i64 0, .string ⟨#[]⟩] 27) = U19 at *
      generalize D0.heap.size = h at *
      have n_hq := n_q
      clear n_q
      (try simp only [Act.put, List.setIfInBounds_toArray, List.set_cons_zero, List.set_cons_succ])
      refine wpAnyH_ready (rs := [2, 7]) (by kernel_rfl) (by simp) ?_
      refine AllReadyH.cons rfl (fun K hK => ?_) (AllReadyH.cons rfl (fun K hK => ?_) AllReadyH.nil)
      · go_simp
        go_at_call 19
        (with_reducible refine (HCA.out _ bb).mono ?_)
        rintro e U20 ⟨rfl, bq⟩
        have k_c := k_c.below bq k_c.lt
        have k_h := k_h.below bq k_h.lt
        have bb := bb.trans (bq.mono bb.size)
        clear bq
        refine hK.out _ _ ⟨by rw [k_c.cell]; rfl, by rw [k_c.cell]; rfl, by rw [k_c.cell]; rfl, by rw [k_c.cell]; rfl⟩ (fun hHeld => ?_)
        clear hK K
        (try simp only [Act.put, List.setIfInBounds_toArray, List.set_cons_zero, List.set_cons_succ])
        refine wpAnyH_ready (rs := [7]) (by kernel_rfl) (by simp) ?_
        refine AllReadyH.cons rfl (fun K hK => ?_) AllReadyH.nil
        · go_simp
          have n_q := k_c.lt
          have n_l := k_h.lt
          have k_c := k_c.alloc (.cells #[.int .i64 0, .int .i64 0, .string ⟨#[]⟩] 27)
          have k_h := k_h.alloc (.cells #[.int .i64 0, .int .i64 0, .string ⟨#[]⟩] 27)
          have k_g := Blk.new U20 27 #[.int .i64 0, .int .i64 0, .string ⟨#[]⟩]
          have bb := bb.alloc bb.size (.cells #[.int .i64 0, .int .i64 0, .string ⟨#[]⟩] 27)
          refine hK.out _ _ ⟨by rw [k_c.cell]; rfl, by rw [k_c.cell]; rfl, by rw [k_c.cell]; rfl, by rw [k_c.cell]; rfl⟩ (fun hHeld => ?_)
          clear hK K
          generalize U20.alloc (.cells #[.int .i64 0, .int .i64 0, .string ⟨#[]⟩] 27) = U21 at *
          generalize U20.heap.size = g at *
          have n_gh : h ≠ g := by omega
          have n_hg : g ≠ h := by omega
          clear n_l
          have n_gq := n_q
          clear n_q
          (try simp only [Act.put, List.setIfInBounds_toArray, List.set_cons_zero, List.set_cons_succ])
          have x_g0 : U21.cell? ⟨g, 0, none⟩ = some (.int .i64 0) := by rw [k_g.cell]; rfl
          have z_g0 := k_g.frozen 0
          have x_g1 : U21.cell? ⟨g, 1, none⟩ = some (.int .i64 0) := by rw [k_g.cell]; rfl
          have z_g1 := k_g.frozen 1
          have x_g2 : U21.cell? ⟨g, 2, none⟩ = some (.string ⟨#[]⟩) := by rw [k_g.cell]; rfl
          have z_g2 := k_g.frozen 2
          have l_g := k_g.lt
          refine wpAnyH_ready (rs := [9]) (by kernel_rfl) (by simp) ?_
          refine AllReadyH.cons rfl (fun K hK => ?_) AllReadyH.nil
          go_simp
          clear x_g0 x_g1 x_g2 z_g0 z_g1 z_g2 l_g
          have k_g : Blk (((U21.setCell ⟨g, 0, none⟩ (.int .i64 k.1)).setCell ⟨g, 1, none⟩ (.int .i64 k.2.1)).setCell ⟨g, 2, none⟩ (.string k.2.2)) g 27 #[.int .i64 k.1, .int .i64 k.2.1, .string k.2.2] := ((k_g.set_ 0 _).set_ 1 _).set_ 2 _
          have k_h : Blk (((U21.setCell ⟨g, 0, none⟩ (.int .i64 k.1)).setCell ⟨g, 1, none⟩ (.int .i64 k.2.1)).setCell ⟨g, 2, none⟩ (.string k.2.2)) _ _ _ := ((k_h.far (p := ⟨g, 0, none⟩) n_gh _).far (p := ⟨g, 1, none⟩) n_gh _).far (p := ⟨g, 2, none⟩) n_gh _
          have k_c : Blk (((U21.setCell ⟨g, 0, none⟩ (.int .i64 k.1)).setCell ⟨g, 1, none⟩ (.int .i64 k.2.1)).setCell ⟨g, 2, none⟩ (.string k.2.2)) _ _ _ := ((k_c.far (p := ⟨g, 0, none⟩) (by show w.heap.size ≠ g; omega) _).far (p := ⟨g, 1, none⟩) (by show w.heap.size ≠ g; omega) _).far (p := ⟨g, 2, none⟩) (by show w.heap.size ≠ g; omega) _
          have bb : Below w.heap.size w (((U21.setCell ⟨g, 0, none⟩ (.int .i64 k.1)).setCell ⟨g, 1, none⟩ (.int .i64 k.2.1)).setCell ⟨g, 2, none⟩ (.string k.2.2)) := ((bb.setCell (p := ⟨g, 0, none⟩) (by show _ ≤ g; omega) _).setCell (p := ⟨g, 1, none⟩) (by show _ ≤ g; omega) _).setCell (p := ⟨g, 2, none⟩) (by show _ ≤ g; omega) _
          refine hK.out _ _ ⟨by rw [k_c.cell]; rfl, by rw [k_c.cell]; rfl, by rw [k_c.cell]; rfl, by rw [k_c.cell]; rfl⟩ (fun hHeld => ?_)
          clear hK K
          generalize (((U21.setCell ⟨g, 0, none⟩ (.int .i64 k.1)).setCell ⟨g, 1, none⟩ (.int .i64 k.2.1)).setCell ⟨g, 2, none⟩ (.string k.2.2)) = U22 at *
          (try simp only [Act.put, List.setIfInBounds_toArray, List.set_cons_zero, List.set_cons_succ])
          have x_h0 : U22.cell? ⟨h, 0, none⟩ = some (.int .i64 0) := by rw [k_h.cell]; rfl
          have z_h0 := k_h.frozen 0
          have x_h1 : U22.cell? ⟨h, 1, none⟩ = some (.int .i64 0) := by rw [k_h.cell]; rfl
          have z_h1 := k_h.frozen 1
          have x_h2 : U22.cell? ⟨h, 2, none⟩ = some (.string ⟨#[]⟩) := by rw [k_h.cell]; rfl
          have z_h2 := k_h.frozen 2
          have l_h := k_h.lt
          refine wpAnyH_ready (rs := [10]) (by kernel_rfl) (by simp) ?_
          refine AllReadyH.cons rfl (fun K hK => ?_) AllReadyH.nil
          go_simp
          clear x_h0 x_h1 x_h2 z_h0 z_h1 z_h2 l_h
          have k_h : Blk (((U22.setCell ⟨h, 0, none⟩ (.int .i64 3)).setCell ⟨h, 1, none⟩ (.int .i64 vn)).setCell ⟨h, 2, none⟩ (.string ⟨#[]⟩)) h 27 #[.int .i64 3, .int .i64 vn, .string ⟨#[]⟩] := ((k_h.set_ 0 _).set_ 1 _).set_ 2 _
          have k_g : Blk (((U22.setCell ⟨h, 0, none⟩ (.int .i64 3)).setCell ⟨h, 1, none⟩ (.int .i64 vn)).setCell ⟨h, 2, none⟩ (.string ⟨#[]⟩)) _ _ _ := ((k_g.far (p := ⟨h, 0, none⟩) n_hg _).far (p := ⟨h, 1, none⟩) n_hg _).far (p := ⟨h, 2, none⟩) n_hg _
          have k_c : Blk (((U22.setCell ⟨h, 0, none⟩ (.int .i64 3)).setCell ⟨h, 1, none⟩ (.int .i64 vn)).setCell ⟨h, 2, none⟩ (.string ⟨#[]⟩)) _ _ _ := ((k_c.far (p := ⟨h, 0, none⟩) (by show w.heap.size ≠ h; omega) _).far (p := ⟨h, 1, none⟩) (by show w.heap.size ≠ h; omega) _).far (p := ⟨h, 2, none⟩) (by show w.heap.size ≠ h; omega) _
          have bb : Below w.heap.size w (((U22.setCell ⟨h, 0, none⟩ (.int .i64 3)).setCell ⟨h, 1, none⟩ (.int .i64 vn)).setCell ⟨h, 2, none⟩ (.string ⟨#[]⟩)) := ((bb.setCell (p := ⟨h, 0, none⟩) (by show _ ≤ h; omega) _).setCell (p := ⟨h, 1, none⟩) (by show _ ≤ h; omega) _).setCell (p := ⟨h, 2, none⟩) (by show _ ≤ h; omega) _
          refine hK.out _ _ ⟨by rw [k_c.cell]; rfl, by rw [k_c.cell]; rfl, by rw [k_c.cell]; rfl, by rw [k_c.cell]; rfl⟩ (fun hHeld => ?_)
          clear hK K
          generalize (((U22.setCell ⟨h, 0, none⟩ (.int .i64 3)).setCell ⟨h, 1, none⟩ (.int .i64 vn)).setCell ⟨h, 2, none⟩ (.string ⟨#[]⟩)) = U23 at *
          (try simp only [Act.put, List.setIfInBounds_toArray, List.set_cons_zero, List.set_cons_succ])
          refine wpAnyH_done (by kernel_rfl) ?_ _
          go_wp2_with fail
          go_meet
          exact ⟨g, h, rfl, rfl, ⟨bb, k_g, k_h, k_c, by omega, by omega⟩⟩
      · go_simp
        have n_q := k_c.lt
        have n_l := k_h.lt
        have k_c := k_c.alloc (.cells #[.int .i64 0, .int .i64 0, .string ⟨#[]⟩] 27)
        have k_h := k_h.alloc (.cells #[.int .i64 0, .int .i64 0, .string ⟨#[]⟩] 27)
        have k_g := Blk.new U19 27 #[.int .i64 0, .int .i64 0, .string ⟨#[]⟩]
        have bb := bb.alloc bb.size (.cells #[.int .i64 0, .int .i64 0, .string ⟨#[]⟩] 27)
        refine hK.out _ _ ⟨by rw [k_c.cell]; rfl, by rw [k_c.cell]; rfl, by rw [k_c.cell]; rfl, by rw [k_c.cell]; rfl⟩ (fun hHeld => ?_)
        clear hK K
        generalize U19.alloc (.cells #[.int .i64 0, .int .i64 0, .string ⟨#[]⟩] 27) = U24 at *
        generalize U19.heap.size = g at *
        have n_gh : h ≠ g := by omega
        have n_hg : g ≠ h := by omega
        clear n_l
        have n_gq := n_q
        clear n_q
        (try simp only [Act.put, List.setIfInBounds_toArray, List.set_cons_zero, List.set_cons_succ])
        refine wpAnyH_ready (rs := [2]) (by kernel_rfl) (by simp) ?_
        refine AllReadyH.cons rfl (fun K hK => ?_) AllReadyH.nil
        · go_simp
          go_at_call 19
          (with_reducible refine (HCA.out _ bb).mono ?_)
          rintro e U25 ⟨rfl, bq⟩
          have k_c := k_c.below bq k_c.lt
          have k_g := k_g.below bq k_g.lt
          have k_h := k_h.below bq k_h.lt
          have bb := bb.trans (bq.mono bb.size)
          clear bq
          refine hK.out _ _ ⟨by rw [k_c.cell]; rfl, by rw [k_c.cell]; rfl, by rw [k_c.cell]; rfl, by rw [k_c.cell]; rfl⟩ (fun hHeld => ?_)
          clear hK K
          (try simp only [Act.put, List.setIfInBounds_toArray, List.set_cons_zero, List.set_cons_succ])
          have x_g0 : U25.cell? ⟨g, 0, none⟩ = some (.int .i64 0) := by rw [k_g.cell]; rfl
          have z_g0 := k_g.frozen 0
          have x_g1 : U25.cell? ⟨g, 1, none⟩ = some (.int .i64 0) := by rw [k_g.cell]; rfl
          have z_g1 := k_g.frozen 1
          have x_g2 : U25.cell? ⟨g, 2, none⟩ = some (.string ⟨#[]⟩) := by rw [k_g.cell]; rfl
          have z_g2 := k_g.frozen 2
          have l_g := k_g.lt
          refine wpAnyH_ready (rs := [9]) (by kernel_rfl) (by simp) ?_
          refine AllReadyH.cons rfl (fun K hK => ?_) AllReadyH.nil
          go_simp
          clear x_g0 x_g1 x_g2 z_g0 z_g1 z_g2 l_g
          have k_g : Blk (((U25.setCell ⟨g, 0, none⟩ (.int .i64 k.1)).setCell ⟨g, 1, none⟩ (.int .i64 k.2.1)).setCell ⟨g, 2, none⟩ (.string k.2.2)) g 27 #[.int .i64 k.1, .int .i64 k.2.1, .string k.2.2] := ((k_g.set_ 0 _).set_ 1 _).set_ 2 _
          have k_h : Blk (((U25.setCell ⟨g, 0, none⟩ (.int .i64 k.1)).setCell ⟨g, 1, none⟩ (.int .i64 k.2.1)).setCell ⟨g, 2, none⟩ (.string k.2.2)) _ _ _ := ((k_h.far (p := ⟨g, 0, none⟩) n_gh _).far (p := ⟨g, 1, none⟩) n_gh _).far (p := ⟨g, 2, none⟩) n_gh _
          have k_c : Blk (((U25.setCell ⟨g, 0, none⟩ (.int .i64 k.1)).setCell ⟨g, 1, none⟩ (.int .i64 k.2.1)).setCell ⟨g, 2, none⟩ (.string k.2.2)) _ _ _ := ((k_c.far (p := ⟨g, 0, none⟩) (by show w.heap.size ≠ g; omega) _).far (p := ⟨g, 1, none⟩) (by show w.heap.size ≠ g; omega) _).far (p := ⟨g, 2, none⟩) (by show w.heap.size ≠ g; omega) _
          have bb : Below w.heap.size w (((U25.setCell ⟨g, 0, none⟩ (.int .i64 k.1)).setCell ⟨g, 1, none⟩ (.int .i64 k.2.1)).setCell ⟨g, 2, none⟩ (.string k.2.2)) := ((bb.setCell (p := ⟨g, 0, none⟩) (by show _ ≤ g; omega) _).setCell (p := ⟨g, 1, none⟩) (by show _ ≤ g; omega) _).setCell (p := ⟨g, 2, none⟩) (by show _ ≤ g; omega) _
          refine hK.out _ _ ⟨by rw [k_c.cell]; rfl, by rw [k_c.cell]; rfl, by rw [k_c.cell]; rfl, by rw [k_c.cell]; rfl⟩ (fun hHeld => ?_)
          clear hK K
          generalize (((U25.setCell ⟨g, 0, none⟩ (.int .i64 k.1)).setCell ⟨g, 1, none⟩ (.int .i64 k.2.1)).setCell ⟨g, 2, none⟩ (.string k.2.2)) = U26 at *
          (try simp only [Act.put, List.setIfInBounds_toArray, List.set_cons_zero, List.set_cons_succ])
          have x_h0 : U26.cell? ⟨h, 0, none⟩ = some (.int .i64 0) := by rw [k_h.cell]; rfl
          have z_h0 := k_h.frozen 0
          have x_h1 : U26.cell? ⟨h, 1, none⟩ = some (.int .i64 0) := by rw [k_h.cell]; rfl
          have z_h1 := k_h.frozen 1
          have x_h2 : U26.cell? ⟨h, 2, none⟩ = some (.string ⟨#[]⟩) := by rw [k_h.cell]; rfl
          have z_h2 := k_h.frozen 2
          have l_h := k_h.lt
          refine wpAnyH_ready (rs := [10]) (by kernel_rfl) (by simp) ?_
          refine AllReadyH.cons rfl (fun K hK => ?_) AllReadyH.nil
          go_simp
          clear x_h0 x_h1 x_h2 z_h0 z_h1 z_h2 l_h
          have k_h : Blk (((U26.setCell ⟨h, 0, none⟩ (.int .i64 3)).setCell ⟨h, 1, none⟩ (.int .i64 vn)).setCell ⟨h, 2, none⟩ (.string ⟨#[]⟩)) h 27 #[.int .i64 3, .int .i64 vn, .string ⟨#[]⟩] := ((k_h.set_ 0 _).set_ 1 _).set_ 2 _
          have k_g : Blk (((U26.setCell ⟨h, 0, none⟩ (.int .i64 3)).setCell ⟨h, 1, none⟩ (.int .i64 vn)).setCell ⟨h, 2, none⟩ (.string ⟨#[]⟩)) _ _ _ := ((k_g.far (p := ⟨h, 0, none⟩) n_hg _).far (p := ⟨h, 1, none⟩) n_hg _).far (p := ⟨h, 2, none⟩) n_hg _
          have k_c : Blk (((U26.setCell ⟨h, 0, none⟩ (.int .i64 3)).setCell ⟨h, 1, none⟩ (.int .i64 vn)).setCell ⟨h, 2, none⟩ (.string ⟨#[]⟩)) _ _ _ := ((k_c.far (p := ⟨h, 0, none⟩) (by show w.heap.size ≠ h; omega) _).far (p := ⟨h, 1, none⟩) (by show w.heap.size ≠ h; omega) _).far (p := ⟨h, 2, none⟩) (by show w.heap.size ≠ h; omega) _
          have bb : Below w.heap.size w (((U26.setCell ⟨h, 0, none⟩ (.int .i64 3)).setCell ⟨h, 1, none⟩ (.int .i64 vn)).setCell ⟨h, 2, none⟩ (.string ⟨#[]⟩)) := ((bb.setCell (p := ⟨h, 0, none⟩) (by show _ ≤ h; omega) _).setCell (p := ⟨h, 1, none⟩) (by show _ ≤ h; omega) _).setCell (p := ⟨h, 2, none⟩) (by show _ ≤ h; omega) _
          refine hK.out _ _ ⟨by rw [k_c.cell]; rfl, by rw [k_c.cell]; rfl, by rw [k_c.cell]; rfl, by rw [k_c.cell]; rfl⟩ (fun hHeld => ?_)
          clear hK K
          generalize (((U26.setCell ⟨h, 0, none⟩ (.int .i64 3)).setCell ⟨h, 1, none⟩ (.int .i64 vn)).setCell ⟨h, 2, none⟩ (.string ⟨#[]⟩)) = U27 at *
          (try simp only [Act.put, List.setIfInBounds_toArray, List.set_cons_zero, List.set_cons_succ])
          refine wpAnyH_done (by kernel_rfl) ?_ _
          go_wp2_with fail
          go_meet
          exact ⟨g, h, rfl, rfl, ⟨bb, k_g, k_h, k_c, by omega, by omega⟩⟩
  case rest =>
    obtain ⟨wA, hwA⟩ : ∃ x, x = wc := ⟨_, rfl⟩
    subst hwA
    obtain ⟨g, h, rfl, rfl, ⟨bb, kg, kh, kc, hg, hh⟩⟩ := hcut
    have HM := Lib.hid (HM.out.below bb)
    have k_B := HM.out.bb
    have k_k : Bx wA (UU O R) g _ _ := ⟨kg, fun hx => by have := HUL.out _ hx; omega⟩
    have k_v : Bx wA (UU O R) h _ _ := ⟨kh, fun hx => by have := HUL.out _ hx; omega⟩
    have k_c : Bx wA (UU O R) w.heap.size _ _ := ⟨kc, fun hx => by have := HUL.out _ hx; omega⟩
    have hAL := HR.out.AL
    have hDL := HR.out.DL
    clear kg kh kc bb hg hh HUL HCA
    have c_c0 : wA.cell? ⟨w.heap.size, 0, none⟩ = some (.int .i64 c.kind) := by rw [k_c.blk.cell]; rfl
    rcases hc7 with rfl
    · obtain ⟨AC, capC, hcv, hAC⟩ := own_shape HM.out.rc.own
      obtain ⟨m, hXm⟩ : ∃ m, X.length = m := ⟨_, rfl⟩
      rw [hXm] at hX hDL hcv hAC
      subst hcv
      have c_B2 : wA.cell? ⟨B, 2, none⟩ = some (.slice AC m capC) := by rw [k_B.blk.cell]; rfl
      by_cases hlt : m < 40
      · have t1 : decide ((m : Int) < 40) = true := decide_eq_true (by omega)
        have HR2 := HR
        go_upto_region 19 with fail
        clear c_c0 c_B2 t1
        obtain ⟨iP, pi, pz0, pz1, pz2⟩ := info_parts infoPC
        obtain ⟨iR, ri, rz0, rz1, rz2⟩ := info_parts infoRP
        have HCL := Lib.hid (And.intro (HM.out.c_lt HR.out) HM.out.d_lt)
        have hw0 := HM.out.st.bel.size
        have HM := Lib.hid HM.out.drew'
        have k_rc := HM.out.rc
        have k_rd := HM.out.rd
        rw [hXm] at k_rc k_rd
        have HM := Lib.hid HM.out.two
        have hz : wA.heap.size ≤ wA.drew.heap.size := Nat.le_refl _
        clear k_B k_k k_v k_c
        refine wp_region_till (m := 30) (S := (fun W => W.cell? ⟨B, 0, none⟩ = some (.pointer (some ⟨T, 0, none⟩)) ∧ W.cell? ⟨B, 1, none⟩ = some (.pointer (some ⟨M, 0, none⟩)) ∧ W.cell? ⟨B, 2, none⟩ = some (.slice AC m capC) ∧ W.cell? ⟨B, 3, none⟩ = some (dv) ∧ W.cell? ⟨M, 1, none⟩ = some (.int .i64 (cl : Int)))) (by kernel_rfl) ?_
        generalize wA.drew = D9 at *
        change tillH _ _ _ _ _ _ 34 #[false, false, false, false, false, false, false, false, false, false, false, false, false, false, false, false, false, false, false, false, false, false, false, false, false, false, false, false, false, false, false, false, false, false] _ _
        refine tillH_takeAny (i := 0) (oi := ?oo1001) (v := ?vv1001) ?hi1001 (by kernel_rfl) (by kernel_rfl) (by kernel_rfl) ?hq1001 (by kernel_rfl) ?hy1001 (fun _ => ⟨by rw [HM.out.bb.blk.cell]; rfl, by rw [HM.out.bb.blk.cell]; rfl, by rw [HM.out.bb.blk.cell]; rfl, by rw [HM.out.bb.blk.cell]; rfl, by rw [HM.out.rt.blk.cell]; rfl⟩) ?hh1001
        case hi1001 => (simp only [List.getElem?_toArray, List.getElem?_cons_succ, List.getElem?_cons_zero]; rfl)
        case hq1001 => exact fun _ _ _ h => h
        case hy1001 => exact Or.inl ⟨by rfl, by (intro W; go_simp; (try with_reducible rfl))⟩
        (try simp only [Act.put, List.setIfInBounds_toArray, List.set_cons_zero, List.set_cons_succ])
        refine tillH_takeAny (i := 1) (oi := ?oo1002) (v := ?vv1002) ?hi1002 (by kernel_rfl) (by kernel_rfl) (by kernel_rfl) ?hq1002 (by kernel_rfl) ?hy1002 (fun _ => ⟨by rw [HM.out.bb.blk.cell]; rfl, by rw [HM.out.bb.blk.cell]; rfl, by rw [HM.out.bb.blk.cell]; rfl, by rw [HM.out.bb.blk.cell]; rfl, by rw [HM.out.rt.blk.cell]; rfl⟩) ?hh1002
        case hi1002 => (simp only [List.getElem?_toArray, List.getElem?_cons_succ, List.getElem?_cons_zero]; rfl)
        case hq1002 => exact fun _ _ _ h => h
        case hy1002 => exact Or.inl ⟨by rfl, by (intro W; go_simp; (try with_reducible rfl))⟩
        (try simp only [Act.put, List.setIfInBounds_toArray, List.set_cons_zero, List.set_cons_succ])
        refine tillH_takeAny (i := 2) (oi := ?oo1003) (v := ?vv1003) ?hi1003 (by kernel_rfl) (by kernel_rfl) (by kernel_rfl) ?hq1003 (by kernel_rfl) ?hy1003 (fun _ => ⟨by rw [HM.out.bb.blk.cell]; rfl, by rw [HM.out.bb.blk.cell]; rfl, by rw [HM.out.bb.blk.cell]; rfl, by rw [HM.out.bb.blk.cell]; rfl, by rw [HM.out.rt.blk.cell]; rfl⟩) ?hh1003
        case hi1003 => (simp only [List.getElem?_toArray, List.getElem?_cons_succ, List.getElem?_cons_zero]; rfl)
        case hq1003 => exact fun _ _ _ h => h
        case hy1003 => exact Or.inl ⟨by rfl, by (intro W; go_simp; (try with_reducible rfl))⟩
        (try simp only [Act.put, List.setIfInBounds_toArray, List.set_cons_zero, List.set_cons_succ])
        refine tillH_takeAny (i := 3) (oi := ?oo1004) (v := ?vv1004) ?hi1004 (by kernel_rfl) (by kernel_rfl) (by kernel_rfl) ?hq1004 (by kernel_rfl) ?hy1004 (fun _ => ⟨by rw [HM.out.bb.blk.cell]; rfl, by rw [HM.out.bb.blk.cell]; rfl, by rw [HM.out.bb.blk.cell]; rfl, by rw [HM.out.bb.blk.cell]; rfl, by rw [HM.out.rt.blk.cell]; rfl⟩) ?hh1004
        case hi1004 => (simp only [List.getElem?_toArray, List.getElem?_cons_succ, List.getElem?_cons_zero]; rfl)
        case hq1004 => exact fun _ _ _ h => h
        case hy1004 => exact Or.inl ⟨by rfl, by (intro W; go_simp; (try with_reducible rfl))⟩
        (try simp only [Act.put, List.setIfInBounds_toArray, List.set_cons_zero, List.set_cons_succ])
        refine tillH_takeAny (i := 4) (oi := ?oo1005) (v := ?vv1005) ?hi1005 (by kernel_rfl) (by kernel_rfl) (by kernel_rfl) ?hq1005 (by kernel_rfl) ?hy1005 (fun _ => ⟨by rw [HM.out.bb.blk.cell]; rfl, by rw [HM.out.bb.blk.cell]; rfl, by rw [HM.out.bb.blk.cell]; rfl, by rw [HM.out.bb.blk.cell]; rfl, by rw [HM.out.rt.blk.cell]; rfl⟩) ?hh1005
        case hi1005 => (simp only [List.getElem?_toArray, List.getElem?_cons_succ, List.getElem?_cons_zero]; rfl)
        case hq1005 => exact fun _ _ _ h => h
        case hy1005 => exact Or.inl ⟨by rfl, by (intro W; go_simp; (try with_reducible rfl))⟩
        (try simp only [Act.put, List.setIfInBounds_toArray, List.set_cons_zero, List.set_cons_succ])
        refine tillH_take (i := 5) (oi := ?oo1006) (v := ?vv1006) ?hi1006 (by kernel_rfl) (by kernel_rfl) (by kernel_rfl) ?hq1006 (by kernel_rfl) (by kernel_rfl) (by kernel_rfl) ?hy1006 ⟨by rw [HM.out.bb.blk.cell]; rfl, by rw [HM.out.bb.blk.cell]; rfl, by rw [HM.out.bb.blk.cell]; rfl, by rw [HM.out.bb.blk.cell]; rfl, by rw [HM.out.rt.blk.cell]; rfl⟩ ?hh1006
        case hi1006 => (simp only [List.getElem?_toArray, List.getElem?_cons_succ, List.getElem?_cons_zero]; rfl)
        case hq1006 => exact fun _ _ _ h => h
        case hy1006 => exact Or.inl ⟨by rfl, by (intro W hSw; (try dsimp only at hSw); go_simp; (try with_reducible rfl))⟩
        (try simp only [Act.put, List.setIfInBounds_toArray, List.set_cons_zero, List.set_cons_succ])
        refine tillH_takeAny (i := 6) (oi := ?oo1007) (v := ?vv1007) ?hi1007 (by kernel_rfl) (by kernel_rfl) (by kernel_rfl) ?hq1007 (by kernel_rfl) ?hy1007 (fun _ => ⟨by rw [HM.out.bb.blk.cell]; rfl, by rw [HM.out.bb.blk.cell]; rfl, by rw [HM.out.bb.blk.cell]; rfl, by rw [HM.out.bb.blk.cell]; rfl, by rw [HM.out.rt.blk.cell]; rfl⟩) ?hh1007
        case hi1007 => (simp only [List.getElem?_toArray, List.getElem?_cons_succ, List.getElem?_cons_zero]; rfl)
        case hq1007 => exact fun _ _ _ h => h
        case hy1007 => exact Or.inl ⟨by rfl, by (intro W; go_simp; (try with_reducible rfl))⟩
        (try simp only [Act.put, List.setIfInBounds_toArray, List.set_cons_zero, List.set_cons_succ])
        refine tillH_takeAny (i := 7) (oi := ?oo1008) (v := ?vv1008) ?hi1008 (by kernel_rfl) (by kernel_rfl) (by kernel_rfl) ?hq1008 (by kernel_rfl) ?hy1008 (fun _ => ⟨by rw [HM.out.bb.blk.cell]; rfl, by rw [HM.out.bb.blk.cell]; rfl, by rw [HM.out.bb.blk.cell]; rfl, by rw [HM.out.bb.blk.cell]; rfl, by rw [HM.out.rt.blk.cell]; rfl⟩) ?hh1008
        case hi1008 => (simp only [List.getElem?_toArray, List.getElem?_cons_succ, List.getElem?_cons_zero]; rfl)
        case hq1008 => exact fun _ _ _ h => h
        case hy1008 => exact Or.inl ⟨by rfl, by (intro W; go_simp; (try with_reducible rfl))⟩
        (try simp only [Act.put, List.setIfInBounds_toArray, List.set_cons_zero, List.set_cons_succ])
        refine tillH_takeAny (i := 8) (oi := ?oo1009) (v := ?vv1009) ?hi1009 (by kernel_rfl) (by kernel_rfl) (by kernel_rfl) ?hq1009 (by kernel_rfl) ?hy1009 (fun _ => ⟨by rw [HM.out.bb.blk.cell]; rfl, by rw [HM.out.bb.blk.cell]; rfl, by rw [HM.out.bb.blk.cell]; rfl, by rw [HM.out.bb.blk.cell]; rfl, by rw [HM.out.rt.blk.cell]; rfl⟩) ?hh1009
        case hi1009 => (simp only [List.getElem?_toArray, List.getElem?_cons_succ, List.getElem?_cons_zero]; rfl)
        case hq1009 => exact fun _ _ _ h => h
        case hy1009 => exact Or.inl ⟨by rfl, by (intro W; go_simp; (try with_reducible rfl))⟩
        (try simp only [Act.put, List.setIfInBounds_toArray, List.set_cons_zero, List.set_cons_succ])
        refine tillH_take (i := 9) (oi := ?oo1010) (v := ?vv1010) ?hi1010 (by kernel_rfl) (by kernel_rfl) (by kernel_rfl) ?hq1010 (by kernel_rfl) (by kernel_rfl) (by kernel_rfl) ?hy1010 ⟨by rw [HM.out.bb.blk.cell]; rfl, by rw [HM.out.bb.blk.cell]; rfl, by rw [HM.out.bb.blk.cell]; rfl, by rw [HM.out.bb.blk.cell]; rfl, by rw [HM.out.rt.blk.cell]; rfl⟩ ?hh1010
        case hi1010 => (simp only [List.getElem?_toArray, List.getElem?_cons_succ, List.getElem?_cons_zero]; rfl)
        case hq1010 => exact fun _ _ _ h => h
        case hy1010 => exact Or.inl ⟨by rfl, by (intro W hSw; (try dsimp only at hSw); go_simp; (try with_reducible rfl))⟩
        (try simp only [Act.put, List.setIfInBounds_toArray, List.set_cons_zero, List.set_cons_succ])
        refine tillH_takeAny (i := 13) (oi := ?oo1011) (v := ?vv1011) ?hi1011 (by kernel_rfl) (by kernel_rfl) (by kernel_rfl) ?hq1011 (by kernel_rfl) ?hy1011 (fun _ => ⟨by rw [HM.out.bb.blk.cell]; rfl, by rw [HM.out.bb.blk.cell]; rfl, by rw [HM.out.bb.blk.cell]; rfl, by rw [HM.out.bb.blk.cell]; rfl, by rw [HM.out.rt.blk.cell]; rfl⟩) ?hh1011
        case hi1011 => (simp only [List.getElem?_toArray, List.getElem?_cons_succ, List.getElem?_cons_zero]; rfl)
        case hq1011 => exact fun _ _ _ h => h
        case hy1011 => exact Or.inl ⟨by rfl, by (intro W; go_simp; (try with_reducible rfl))⟩
        (try simp only [Act.put, List.setIfInBounds_toArray, List.set_cons_zero, List.set_cons_succ])
        refine tillH_takeAny (i := 14) (oi := ?oo1012) (v := ?vv1012) ?hi1012 (by kernel_rfl) (by kernel_rfl) (by kernel_rfl) ?hq1012 (by kernel_rfl) ?hy1012 (fun _ => ⟨by rw [HM.out.bb.blk.cell]; rfl, by rw [HM.out.bb.blk.cell]; rfl, by rw [HM.out.bb.blk.cell]; rfl, by rw [HM.out.bb.blk.cell]; rfl, by rw [HM.out.rt.blk.cell]; rfl⟩) ?hh1012
        case hi1012 => (simp only [List.getElem?_toArray, List.getElem?_cons_succ, List.getElem?_cons_zero]; rfl)
        case hq1012 => exact fun _ _ _ h => h
        case hy1012 => exact Or.inl ⟨by rfl, by (intro W; go_simp; (try with_reducible rfl))⟩
        (try simp only [Act.put, List.setIfInBounds_toArray, List.set_cons_zero, List.set_cons_succ])
        refine tillH_takeAny (i := 15) (oi := ?oo1013) (v := ?vv1013) ?hi1013 (by kernel_rfl) (by kernel_rfl) (by kernel_rfl) ?hq1013 (by kernel_rfl) ?hy1013 (fun _ => ⟨by rw [HM.out.bb.blk.cell]; rfl, by rw [HM.out.bb.blk.cell]; rfl, by rw [HM.out.bb.blk.cell]; rfl, by rw [HM.out.bb.blk.cell]; rfl, by rw [HM.out.rt.blk.cell]; rfl⟩) ?hh1013
        case hi1013 => (simp only [List.getElem?_toArray, List.getElem?_cons_succ, List.getElem?_cons_zero]; rfl)
        case hq1013 => exact fun _ _ _ h => h
        case hy1013 => exact Or.inl ⟨by rfl, by (intro W; go_simp; (try with_reducible rfl))⟩
        (try simp only [Act.put, List.setIfInBounds_toArray, List.set_cons_zero, List.set_cons_succ])
        refine tillH_take (i := 16) (oi := ?oo1014) (v := ?vv1014) ?hi1014 (by kernel_rfl) (by kernel_rfl) (by kernel_rfl) ?hq1014 (by kernel_rfl) (by kernel_rfl) (by kernel_rfl) ?hy1014 ⟨by rw [HM.out.bb.blk.cell]; rfl, by rw [HM.out.bb.blk.cell]; rfl, by rw [HM.out.bb.blk.cell]; rfl, by rw [HM.out.bb.blk.cell]; rfl, by rw [HM.out.rt.blk.cell]; rfl⟩ ?hh1014
        case hi1014 => (simp only [List.getElem?_toArray, List.getElem?_cons_succ, List.getElem?_cons_zero]; rfl)
        case hq1014 => exact fun _ _ _ h => h
        case hy1014 => exact Or.inl ⟨by rfl, by (intro W hSw; (try dsimp only at hSw); go_simp; (try with_reducible rfl))⟩
        (try simp only [Act.put, List.setIfInBounds_toArray, List.set_cons_zero, List.set_cons_succ])
        refine tillH_takeAny (i := 17) (oi := ?oo1015) (v := ?vv1015) ?hi1015 (by kernel_rfl) (by kernel_rfl) (by kernel_rfl) ?hq1015 (by kernel_rfl) ?hy1015 (fun _ => ⟨by rw [HM.out.bb.blk.cell]; rfl, by rw [HM.out.bb.blk.cell]; rfl, by rw [HM.out.bb.blk.cell]; rfl, by rw [HM.out.bb.blk.cell]; rfl, by rw [HM.out.rt.blk.cell]; rfl⟩) ?hh1015
        case hi1015 => (simp only [List.getElem?_toArray, List.getElem?_cons_succ, List.getElem?_cons_zero]; rfl)
        case hq1015 => exact fun _ _ _ h => h
        case hy1015 => exact Or.inl ⟨by rfl, by (intro W; go_simp; (try with_reducible rfl))⟩
        (try simp only [Act.put, List.setIfInBounds_toArray, List.set_cons_zero, List.set_cons_succ])
        refine tillH_takeAny (i := 18) (oi := ?oo1016) (v := ?vv1016) ?hi1016 (by kernel_rfl) (by kernel_rfl) (by kernel_rfl) ?hq1016 (by kernel_rfl) ?hy1016 (fun _ => ⟨by rw [HM.out.bb.blk.cell]; rfl, by rw [HM.out.bb.blk.cell]; rfl, by rw [HM.out.bb.blk.cell]; rfl, by rw [HM.out.bb.blk.cell]; rfl, by rw [HM.out.rt.blk.cell]; rfl⟩) ?hh1016
        case hi1016 => (simp only [List.getElem?_toArray, List.getElem?_cons_succ, List.getElem?_cons_zero]; rfl)
        case hq1016 => exact fun _ _ _ h => h
        case hy1016 => exact Or.inl ⟨by rfl, by (intro W; go_simp; (try with_reducible rfl))⟩
        (try simp only [Act.put, List.setIfInBounds_toArray, List.set_cons_zero, List.set_cons_succ])
        refine tillH_takeAny (i := 19) (oi := ?oo1017) (v := ?vv1017) ?hi1017 (by kernel_rfl) (by kernel_rfl) (by kernel_rfl) ?hq1017 (by kernel_rfl) ?hy1017 (fun _ => ⟨by rw [HM.out.bb.blk.cell]; rfl, by rw [HM.out.bb.blk.cell]; rfl, by rw [HM.out.bb.blk.cell]; rfl, by rw [HM.out.bb.blk.cell]; rfl, by rw [HM.out.rt.blk.cell]; rfl⟩) ?hh1017
        case hi1017 => (simp only [List.getElem?_toArray, List.getElem?_cons_succ, List.getElem?_cons_zero]; rfl)
        case hq1017 => exact fun _ _ _ h => h
        case hy1017 => exact Or.inl ⟨by rfl, by (intro W; go_simp; (try with_reducible rfl))⟩
        (try simp only [Act.put, List.setIfInBounds_toArray, List.set_cons_zero, List.set_cons_succ])
        refine tillH_take (i := 20) (oi := ?oo1018) (v := ?vv1018) ?hi1018 (by kernel_rfl) (by kernel_rfl) (by kernel_rfl) ?hq1018 (by kernel_rfl) (by kernel_rfl) (by kernel_rfl) ?hy1018 ⟨by rw [HM.out.bb.blk.cell]; rfl, by rw [HM.out.bb.blk.cell]; rfl, by rw [HM.out.bb.blk.cell]; rfl, by rw [HM.out.bb.blk.cell]; rfl, by rw [HM.out.rt.blk.cell]; rfl⟩ ?hh1018
        case hi1018 => (simp only [List.getElem?_toArray, List.getElem?_cons_succ, List.getElem?_cons_zero]; rfl)
        case hq1018 => exact fun _ _ _ h => h
        case hy1018 => exact Or.inl ⟨by rfl, by (intro W hSw; (try dsimp only at hSw); go_simp; (try with_reducible rfl))⟩
        (try simp only [Act.put, List.setIfInBounds_toArray, List.set_cons_zero, List.set_cons_succ])
        refine tillH_takeAny (i := 21) (oi := ?oo1019) (v := ?vv1019) ?hi1019 (by kernel_rfl) (by kernel_rfl) (by kernel_rfl) ?hq1019 (by kernel_rfl) ?hy1019 (fun _ => ⟨by rw [HM.out.bb.blk.cell]; rfl, by rw [HM.out.bb.blk.cell]; rfl, by rw [HM.out.bb.blk.cell]; rfl, by rw [HM.out.bb.blk.cell]; rfl, by rw [HM.out.rt.blk.cell]; rfl⟩) ?hh1019
        case hi1019 => (simp only [List.getElem?_toArray, List.getElem?_cons_succ, List.getElem?_cons_zero]; rfl)
        case hq1019 => exact fun _ _ _ h => h
        case hy1019 => exact Or.inl ⟨by rfl, by (intro W; go_simp; (try with_reducible rfl))⟩
        (try simp only [Act.put, List.setIfInBounds_toArray, List.set_cons_zero, List.set_cons_succ])
        refine tillH_takeAny (i := 22) (oi := ?oo1020) (v := ?vv1020) ?hi1020 (by kernel_rfl) (by kernel_rfl) (by kernel_rfl) ?hq1020 (by kernel_rfl) ?hy1020 (fun _ => ⟨by rw [HM.out.bb.blk.cell]; rfl, by rw [HM.out.bb.blk.cell]; rfl, by rw [HM.out.bb.blk.cell]; rfl, by rw [HM.out.bb.blk.cell]; rfl, by rw [HM.out.rt.blk.cell]; rfl⟩) ?hh1020
        case hi1020 => (simp only [List.getElem?_toArray, List.getElem?_cons_succ, List.getElem?_cons_zero]; rfl)
        case hq1020 => exact fun _ _ _ h => h
        case hy1020 => exact Or.inl ⟨by rfl, by (intro W; go_simp; (try with_reducible rfl))⟩
        (try simp only [Act.put, List.setIfInBounds_toArray, List.set_cons_zero, List.set_cons_succ])
        refine tillH_take (i := 23) (oi := ?oo1021) (v := ?vv1021) ?hi1021 (by kernel_rfl) (by kernel_rfl) (by kernel_rfl) ?hq1021 (by kernel_rfl) (by kernel_rfl) (by kernel_rfl) ?hy1021 ⟨by rw [HM.out.bb.blk.cell]; rfl, by rw [HM.out.bb.blk.cell]; rfl, by rw [HM.out.bb.blk.cell]; rfl, by rw [HM.out.bb.blk.cell]; rfl, by rw [HM.out.rt.blk.cell]; rfl⟩ ?hh1021
        case hi1021 => (simp only [List.getElem?_toArray, List.getElem?_cons_succ, List.getElem?_cons_zero]; rfl)
        case hq1021 => exact fun _ _ _ h => h
        case hy1021 => exact Or.inl ⟨by rfl, by (intro W hSw; (try dsimp only at hSw); go_simp; (try with_reducible rfl))⟩
        (try simp only [Act.put, List.setIfInBounds_toArray, List.set_cons_zero, List.set_cons_succ])
        refine tillH_takeAny (i := 24) (oi := ?oo1022) (v := ?vv1022) ?hi1022 (by kernel_rfl) (by kernel_rfl) (by kernel_rfl) ?hq1022 (by kernel_rfl) ?hy1022 (fun _ => ⟨by rw [HM.out.bb.blk.cell]; rfl, by rw [HM.out.bb.blk.cell]; rfl, by rw [HM.out.bb.blk.cell]; rfl, by rw [HM.out.bb.blk.cell]; rfl, by rw [HM.out.rt.blk.cell]; rfl⟩) ?hh1022
        case hi1022 => (simp only [List.getElem?_toArray, List.getElem?_cons_succ, List.getElem?_cons_zero]; rfl)
        case hq1022 => exact fun _ _ _ h => h
        case hy1022 => exact Or.inl ⟨by rfl, by (intro W; go_simp; (try with_reducible rfl))⟩
        (try simp only [Act.put, List.setIfInBounds_toArray, List.set_cons_zero, List.set_cons_succ])
        refine tillH_next (rs := [10, 25]) (by kernel_rfl) (by simp) ?_
        refine NextH.cons rfl (fun K hK => ?_) (NextH.cons rfl (fun K hK => ?_) NextH.nil)
        · skip
          go_simp
          refine (cursor_st T A D O w0 _ HM.out.st (by omega)).mono ?_
          rintro e U28 ⟨rfl, O2, S2, P2⟩
          have s2 := stp_l (R := R) P2 HM.out.rt.oLt
          have hc0 := hz
          replace hz := Nat.le_trans hz P2.upd.size
          replace k_rc := k_rc.stp s2
          replace k_rd := k_rd.stp s2
          replace HM := Lib.hid (HM.out.table S2 P2)
          clear s2 S2 P2
          refine hK.out _ _ (fun _ => ⟨by rw [HM.out.bb.blk.cell]; rfl, by rw [HM.out.bb.blk.cell]; rfl, by rw [HM.out.bb.blk.cell]; rfl, by rw [HM.out.bb.blk.cell]; rfl, by rw [HM.out.rt.blk.cell]; rfl⟩) ?_
          clear hK K
          (try simp only [Act.put, List.setIfInBounds_toArray, List.set_cons_zero, List.set_cons_succ])
          generalize D9.heap.size = c0 at *
          refine tillH_next (rs := [11, 25]) (by kernel_rfl) (by simp) ?_
          refine NextH.cons rfl (fun K hK => ?_) (NextH.cons rfl (fun K hK => ?_) NextH.nil)
          · skip
            go_simp
            have ba : Below U28.heap.size U28 (U28.alloc (.cells #[.pointer (some ⟨c0, 0, none⟩)] 31)) := (Below.refl _ _).alloc (Nat.le_refl _) _
            have k_p1 := HM.out.box 31 #[.pointer (some ⟨c0, 0, none⟩)]
            replace k_rc := k_rc.below ba
            replace k_rd := k_rd.below ba
            replace HM := Lib.hid (HM.out.below ba)
            replace hz := Nat.le_trans hz ba.size
            clear ba
            refine hK.out _ _ (fun _ => ⟨by rw [HM.out.bb.blk.cell]; rfl, by rw [HM.out.bb.blk.cell]; rfl, by rw [HM.out.bb.blk.cell]; rfl, by rw [HM.out.bb.blk.cell]; rfl, by rw [HM.out.rt.blk.cell]; rfl⟩) ?_
            clear hK K
            (try simp only [Act.put, List.setIfInBounds_toArray, List.set_cons_zero, List.set_cons_succ])
            generalize U28.alloc (.cells #[.pointer (some ⟨c0, 0, none⟩)] 31) = U29 at *
            generalize U28.heap.size = p1 at *
            refine tillH_next (rs := [12, 25]) (by kernel_rfl) (by simp) ?_
            refine NextH.cons rfl (fun K hK => ?_) (NextH.cons rfl (fun K hK => ?_) NextH.nil)
            · skip
              refine step_append_lies _ (by rfl) _ _ _ (by rfl) w0.heap.size 31 iP _ 1 8 Try.underlying30 pi pz0 pz1 pz2 rfl (by decide) _ m _ (by rfl) k_rc.own ⟨p1, 0, none⟩ 1 1 [.pointer (some ⟨c0, 0, none⟩)] (by rfl) rfl (World.news_of_block (cs := #[.pointer (some ⟨c0, 0, none⟩)]) k_p1.blk) (by simp [Value.oneCell']) (by decide) (by unfold maxLen; omega) (by omega) (by have := HM.out.st.bel.size; omega) _ rfl ?_
              intro g12 cap12 U30 hown hgrow hat hgl
              replace k_rd := k_rd.push k_rc (by decide) hgrow
              have hUlt := HM.out.lt
              replace HM := Lib.hid (HM.out.push k_rc (by decide) (by decide) (by decide) hgrow)
              replace k_rc := k_rc.grown hUlt hown hat
              replace hz := Nat.le_trans hz hgrow.size
              clear hown hgrow hat hgl hUlt
              refine hK.out _ _ (fun _ => ⟨by rw [HM.out.bb.blk.cell]; rfl, by rw [HM.out.bb.blk.cell]; rfl, by rw [HM.out.bb.blk.cell]; rfl, by rw [HM.out.bb.blk.cell]; rfl, by rw [HM.out.rt.blk.cell]; rfl⟩) ?_
              clear hK K
              (try simp only [Act.put, List.setIfInBounds_toArray, List.set_cons_zero, List.set_cons_succ])
              refine tillH_next (rs := [25]) (by kernel_rfl) (by simp) ?_
              refine NextH.cons rfl (fun K hK => ?_) NextH.nil
              · skip
                go_simp
                have ba : Below U30.heap.size U30 (U30.alloc (.cells #[.int .i64 0, .int .i64 (cl : Int), .bool false] 83)) := (Below.refl _ _).alloc (Nat.le_refl _) _
                have k_d := HM.out.box 83 #[.int .i64 0, .int .i64 (cl : Int), .bool false]
                have hd0 := hz
                replace k_rc := k_rc.below ba
                replace k_rd := k_rd.below ba
                replace HM := Lib.hid (HM.out.below ba)
                replace hz := Nat.le_trans hz ba.size
                clear ba
                refine hK.out _ _ (fun _ => ⟨by rw [HM.out.bb.blk.cell]; rfl, by rw [HM.out.bb.blk.cell]; rfl, by rw [HM.out.bb.blk.cell]; rfl, by rw [HM.out.bb.blk.cell]; rfl, by rw [HM.out.rt.blk.cell]; rfl⟩) ?_
                clear hK K
                (try simp only [Act.put, List.setIfInBounds_toArray, List.set_cons_zero, List.set_cons_succ])
                generalize U30.alloc (.cells #[.int .i64 0, .int .i64 (cl : Int), .bool false] 83) = U31 at *
                generalize U30.heap.size = d0 at *
                refine tillH_next (rs := [26]) (by kernel_rfl) (by simp) ?_
                refine NextH.cons rfl (fun K hK => ?_) NextH.nil
                · skip
                  go_simp
                  have ba : Below U31.heap.size U31 (U31.alloc (.cells #[.pointer (some ⟨d0, 0, none⟩)] 81)) := (Below.refl _ _).alloc (Nat.le_refl _) _
                  have k_p2 := HM.out.box 81 #[.pointer (some ⟨d0, 0, none⟩)]
                  replace k_rc := k_rc.below ba
                  replace k_rd := k_rd.below ba
                  replace k_d := k_d.below ba
                  replace HM := Lib.hid (HM.out.below ba)
                  replace hz := Nat.le_trans hz ba.size
                  clear ba
                  refine hK.out _ _ (fun _ => ⟨by rw [HM.out.bb.blk.cell]; rfl, by rw [HM.out.bb.blk.cell]; rfl, by rw [HM.out.bb.blk.cell]; rfl, by rw [HM.out.bb.blk.cell]; rfl, by rw [HM.out.rt.blk.cell]; rfl⟩) ?_
                  clear hK K
                  (try simp only [Act.put, List.setIfInBounds_toArray, List.set_cons_zero, List.set_cons_succ])
                  generalize U31.alloc (.cells #[.pointer (some ⟨d0, 0, none⟩)] 81) = U32 at *
                  generalize U31.heap.size = p2 at *
                  refine tillH_next (rs := [27]) (by kernel_rfl) (by simp) ?_
                  refine NextH.cons rfl (fun K hK => ?_) NextH.nil
                  · skip
                    refine step_append_lies _ (by rfl) _ _ _ (by rfl) w0.heap.size 81 iR _ 1 8 Try.underlying55 ri rz0 rz1 rz2 rfl (by decide) _ m _ (by rfl) k_rd.own ⟨p2, 0, none⟩ 1 1 [.pointer (some ⟨d0, 0, none⟩)] (by rfl) rfl (World.news_of_block (cs := #[.pointer (some ⟨d0, 0, none⟩)]) k_p2.blk) (by simp [Value.oneCell']) (by decide) (by unfold maxLen; omega) (by omega) (by have := HM.out.st.bel.size; omega) _ rfl ?_
                    intro g27 cap27 U33 hown hgrow hat hgl
                    replace k_rc := k_rc.push k_rd (by decide) hgrow
                    replace k_d := k_d.push k_rd (by decide) hgrow
                    have hUlt := HM.out.lt
                    replace HM := Lib.hid (HM.out.push k_rd (by decide) (by decide) (by decide) hgrow)
                    replace k_rd := k_rd.grown hUlt hown hat
                    replace hz := Nat.le_trans hz hgrow.size
                    clear hown hgrow hat hgl hUlt
                    refine hK.out _ _ (fun _ => ⟨by rw [HM.out.bb.blk.cell]; rfl, by rw [HM.out.bb.blk.cell]; rfl, by rw [HM.out.bb.blk.cell]; rfl, by rw [HM.out.bb.blk.cell]; rfl, by rw [HM.out.rt.blk.cell]; rfl⟩) ?_
                    clear hK K
                    (try simp only [Act.put, List.setIfInBounds_toArray, List.set_cons_zero, List.set_cons_succ])
                    refine tillH_takeAny (i := 28) (oi := ?oo1023) (v := ?vv1023) ?hi1023 (by kernel_rfl) (by kernel_rfl) (by kernel_rfl) ?hq1023 (by kernel_rfl) ?hy1023 (fun _ => ⟨by rw [HM.out.bb.blk.cell]; rfl, by rw [HM.out.bb.blk.cell]; rfl, by rw [HM.out.bb.blk.cell]; rfl, by rw [HM.out.bb.blk.cell]; rfl, by rw [HM.out.rt.blk.cell]; rfl⟩) ?hh1023
                    case hi1023 => (simp only [List.getElem?_toArray, List.getElem?_cons_succ, List.getElem?_cons_zero]; rfl)
                    case hq1023 => exact fun _ _ _ h => h
                    case hy1023 => exact Or.inl ⟨by rfl, by (intro W; go_simp; (try with_reducible rfl))⟩
                    (try simp only [Act.put, List.setIfInBounds_toArray, List.set_cons_zero, List.set_cons_succ])
                    refine tillH_takeAny (i := 29) (oi := ?oo1024) (v := ?vv1024) ?hi1024 (by kernel_rfl) (by kernel_rfl) (by kernel_rfl) ?hq1024 (by kernel_rfl) ?hy1024 (fun _ => ⟨by rw [HM.out.bb.blk.cell]; rfl, by rw [HM.out.bb.blk.cell]; rfl, by rw [HM.out.bb.blk.cell]; rfl, by rw [HM.out.bb.blk.cell]; rfl, by rw [HM.out.rt.blk.cell]; rfl⟩) ?hh1024
                    case hi1024 => (simp only [List.getElem?_toArray, List.getElem?_cons_succ, List.getElem?_cons_zero]; rfl)
                    case hq1024 => exact fun _ _ _ h => h
                    case hy1024 => exact Or.inl ⟨by rfl, by (intro W; go_simp; (try with_reducible rfl))⟩
                    (try simp only [Act.put, List.setIfInBounds_toArray, List.set_cons_zero, List.set_cons_succ])
                    refine tillH_next (rs := [30]) (by kernel_rfl) (by simp) ?_
                    refine NextH.cons rfl (fun K hK => ?_) NextH.nil
                    have x_B : U33.cell? ⟨B, 2, none⟩ = some (.slice AC m capC) := by rw [HM.out.bb.blk.cell]; rfl
                    have z_B := HM.out.bb.blk.frozen 2
                    have l_B := HM.out.bb.blk.lt
                    go_simp
                    clear x_B z_B l_B
                    replace k_rc := k_rc.setB (u' := (.slice (some ⟨g12, 0, none⟩) (m + 1) cap12)) (i := 2) HM.out.bb.blk (by decide)
                    replace k_rd := k_rd.setB (u' := (.slice (some ⟨g12, 0, none⟩) (m + 1) cap12)) (i := 2) HM.out.bb.blk (by decide)
                    replace k_d := k_d.setB (u' := (.slice (some ⟨g12, 0, none⟩) (m + 1) cap12)) (i := 2) HM.out.bb.blk (by decide)
                    replace HM := Lib.hid (HM.out.setC (cv' := (.slice (some ⟨g12, 0, none⟩) (m + 1) cap12)))
                    refine hK.out _ _ (fun h => absurd h (by simp)) ?_
                    clear hK K
                    generalize U33.setCell ⟨B, 2, none⟩ (.slice (some ⟨g12, 0, none⟩) (m + 1) cap12) = U34 at *
                    (try simp only [Act.put, List.setIfInBounds_toArray, List.set_cons_zero, List.set_cons_succ])
                    refine tillH_takeAny (i := 31) (oi := ?oo1025) (v := ?vv1025) ?hi1025 (by kernel_rfl) (by kernel_rfl) (by kernel_rfl) ?hq1025 (by kernel_rfl) ?hy1025 (fun h => absurd h (by simp)) ?hh1025
                    case hi1025 => (simp only [List.getElem?_toArray, List.getElem?_cons_succ, List.getElem?_cons_zero]; rfl)
                    case hq1025 => exact fun _ _ _ h => h
                    case hy1025 => exact Or.inl ⟨by rfl, by (intro W; go_simp; (try with_reducible rfl))⟩
                    (try simp only [Act.put, List.setIfInBounds_toArray, List.set_cons_zero, List.set_cons_succ])
                    refine tillH_takeAny (i := 32) (oi := ?oo1026) (v := ?vv1026) ?hi1026 (by kernel_rfl) (by kernel_rfl) (by kernel_rfl) ?hq1026 (by kernel_rfl) ?hy1026 (fun h => absurd h (by simp)) ?hh1026
                    case hi1026 => (simp only [List.getElem?_toArray, List.getElem?_cons_succ, List.getElem?_cons_zero]; rfl)
                    case hq1026 => exact fun _ _ _ h => h
                    case hy1026 => exact Or.inl ⟨by rfl, by (intro W; go_simp; (try with_reducible rfl))⟩
                    (try simp only [Act.put, List.setIfInBounds_toArray, List.set_cons_zero, List.set_cons_succ])
                    refine tillH_next (rs := [33]) (by kernel_rfl) (by simp) ?_
                    refine NextH.cons rfl (fun K hK => ?_) NextH.nil
                    have x_B : U34.cell? ⟨B, 3, none⟩ = some (dv) := by rw [HM.out.bb.blk.cell]; rfl
                    have z_B := HM.out.bb.blk.frozen 3
                    have l_B := HM.out.bb.blk.lt
                    go_simp
                    clear x_B z_B l_B
                    replace k_rc := k_rc.setB (u' := (.slice (some ⟨g27, 0, none⟩) (m + 1) cap27)) (i := 3) HM.out.bb.blk (by decide)
                    replace k_rd := k_rd.setB (u' := (.slice (some ⟨g27, 0, none⟩) (m + 1) cap27)) (i := 3) HM.out.bb.blk (by decide)
                    replace k_d := k_d.setB (u' := (.slice (some ⟨g27, 0, none⟩) (m + 1) cap27)) (i := 3) HM.out.bb.blk (by decide)
                    replace HM := Lib.hid (HM.out.setD (dv' := (.slice (some ⟨g27, 0, none⟩) (m + 1) cap27)))
                    refine hK.out _ _ (fun h => absurd h (by simp)) ?_
                    clear hK K
                    generalize U34.setCell ⟨B, 3, none⟩ (.slice (some ⟨g27, 0, none⟩) (m + 1) cap27) = U35 at *
                    (try simp only [Act.put, List.setIfInBounds_toArray, List.set_cons_zero, List.set_cons_succ])
                    refine tillH_done (by kernel_rfl) ?_ _
                    have hXl : (X ++ [⟨c0, d0, 0, cl, false⟩] : List Cu).length = m + 1 := by simp [hXm]
                    have HF := Lib.hid ((HM.out.more k_d (Nat.le_trans hw0 hd0)).mem (by rw [hXl, List.map_append]; exact k_rc) (by rw [hXl, List.map_append]; exact k_rd))
                    have HG := Lib.hid (HR.out.cursor c0 d0 (fun x hx => by have := HCL.out.1 x hx; omega) (fun x hx => by have := HCL.out.2 x hx; omega))
                    have HM := HF
                    have HR2 := HG
                    have hX9 : (X ++ [⟨c0, d0, 0, cl, false⟩] : List Cu).length ≤ 40 := by omega
                    clear k_rc k_rd k_d HF HG HCL HR
                    go_upto_region 32 with fail
                    have HSAME := same_any _ HM.out HR2.out (by omega) (by first | omega | assumption)
                    go_wp2_with fail
                    refine HSAME.mono ?_
                    rintro e U36 ⟨rfl, bq⟩
                    have HM := Lib.hid (HM.out.below bq)
                    have HF := Lib.hid (show PlayP w0 B T M (j + 1) (.returned (.bool true)) _ from ⟨rfl, _, _, _, _, _, _, _, _, _, _, HM.out, HR2.out, by omega, by omega, (by first | omega | assumption)⟩)
                    clear HSAME bq HM HR2
                    go_wp2
                    go_ret
                    exact HF.out
            · skip
              go_simp
              have ba : Below U29.heap.size U29 (U29.alloc (.cells #[.int .i64 0, .int .i64 (cl : Int), .bool false] 83)) := (Below.refl _ _).alloc (Nat.le_refl _) _
              have k_d := HM.out.box 83 #[.int .i64 0, .int .i64 (cl : Int), .bool false]
              have hd0 := hz
              replace k_rc := k_rc.below ba
              replace k_rd := k_rd.below ba
              replace k_p1 := k_p1.below ba
              replace HM := Lib.hid (HM.out.below ba)
              replace hz := Nat.le_trans hz ba.size
              clear ba
              refine hK.out _ _ (fun _ => ⟨by rw [HM.out.bb.blk.cell]; rfl, by rw [HM.out.bb.blk.cell]; rfl, by rw [HM.out.bb.blk.cell]; rfl, by rw [HM.out.bb.blk.cell]; rfl, by rw [HM.out.rt.blk.cell]; rfl⟩) ?_
              clear hK K
              (try simp only [Act.put, List.setIfInBounds_toArray, List.set_cons_zero, List.set_cons_succ])
              generalize U29.alloc (.cells #[.int .i64 0, .int .i64 (cl : Int), .bool false] 83) = U37 at *
              generalize U29.heap.size = d0 at *
              refine tillH_next (rs := [12, 26]) (by kernel_rfl) (by simp) ?_
              refine NextH.cons rfl (fun K hK => ?_) (NextH.cons rfl (fun K hK => ?_) NextH.nil)
              · skip
                refine step_append_lies _ (by rfl) _ _ _ (by rfl) w0.heap.size 31 iP _ 1 8 Try.underlying30 pi pz0 pz1 pz2 rfl (by decide) _ m _ (by rfl) k_rc.own ⟨p1, 0, none⟩ 1 1 [.pointer (some ⟨c0, 0, none⟩)] (by rfl) rfl (World.news_of_block (cs := #[.pointer (some ⟨c0, 0, none⟩)]) k_p1.blk) (by simp [Value.oneCell']) (by decide) (by unfold maxLen; omega) (by omega) (by have := HM.out.st.bel.size; omega) _ rfl ?_
                intro g12 cap12 U38 hown hgrow hat hgl
                replace k_rd := k_rd.push k_rc (by decide) hgrow
                replace k_d := k_d.push k_rc (by decide) hgrow
                have hUlt := HM.out.lt
                replace HM := Lib.hid (HM.out.push k_rc (by decide) (by decide) (by decide) hgrow)
                replace k_rc := k_rc.grown hUlt hown hat
                replace hz := Nat.le_trans hz hgrow.size
                clear hown hgrow hat hgl hUlt
                refine hK.out _ _ (fun _ => ⟨by rw [HM.out.bb.blk.cell]; rfl, by rw [HM.out.bb.blk.cell]; rfl, by rw [HM.out.bb.blk.cell]; rfl, by rw [HM.out.bb.blk.cell]; rfl, by rw [HM.out.rt.blk.cell]; rfl⟩) ?_
                clear hK K
                (try simp only [Act.put, List.setIfInBounds_toArray, List.set_cons_zero, List.set_cons_succ])
                refine tillH_next (rs := [26]) (by kernel_rfl) (by simp) ?_
                refine NextH.cons rfl (fun K hK => ?_) NextH.nil
                · skip
                  go_simp
                  have ba : Below U38.heap.size U38 (U38.alloc (.cells #[.pointer (some ⟨d0, 0, none⟩)] 81)) := (Below.refl _ _).alloc (Nat.le_refl _) _
                  have k_p2 := HM.out.box 81 #[.pointer (some ⟨d0, 0, none⟩)]
                  replace k_rc := k_rc.below ba
                  replace k_rd := k_rd.below ba
                  replace k_d := k_d.below ba
                  replace HM := Lib.hid (HM.out.below ba)
                  replace hz := Nat.le_trans hz ba.size
                  clear ba
                  refine hK.out _ _ (fun _ => ⟨by rw [HM.out.bb.blk.cell]; rfl, by rw [HM.out.bb.blk.cell]; rfl, by rw [HM.out.bb.blk.cell]; rfl, by rw [HM.out.bb.blk.cell]; rfl, by rw [HM.out.rt.blk.cell]; rfl⟩) ?_
                  clear hK K
                  (try simp only [Act.put, List.setIfInBounds_toArray, List.set_cons_zero, List.set_cons_succ])
                  generalize U38.alloc (.cells #[.pointer (some ⟨d0, 0, none⟩)] 81) = U39 at *
                  generalize U38.heap.size = p2 at *
                  refine tillH_next (rs := [27]) (by kernel_rfl) (by simp) ?_
                  refine NextH.cons rfl (fun K hK => ?_) NextH.nil
                  · skip
                    refine step_append_lies _ (by rfl) _ _ _ (by rfl) w0.heap.size 81 iR _ 1 8 Try.underlying55 ri rz0 rz1 rz2 rfl (by decide) _ m _ (by rfl) k_rd.own ⟨p2, 0, none⟩ 1 1 [.pointer (some ⟨d0, 0, none⟩)] (by rfl) rfl (World.news_of_block (cs := #[.pointer (some ⟨d0, 0, none⟩)]) k_p2.blk) (by simp [Value.oneCell']) (by decide) (by unfold maxLen; omega) (by omega) (by have := HM.out.st.bel.size; omega) _ rfl ?_
                    intro g27 cap27 U40 hown hgrow hat hgl
                    replace k_rc := k_rc.push k_rd (by decide) hgrow
                    replace k_d := k_d.push k_rd (by decide) hgrow
                    have hUlt := HM.out.lt
                    replace HM := Lib.hid (HM.out.push k_rd (by decide) (by decide) (by decide) hgrow)
                    replace k_rd := k_rd.grown hUlt hown hat
                    replace hz := Nat.le_trans hz hgrow.size
                    clear hown hgrow hat hgl hUlt
                    refine hK.out _ _ (fun _ => ⟨by rw [HM.out.bb.blk.cell]; rfl, by rw [HM.out.bb.blk.cell]; rfl, by rw [HM.out.bb.blk.cell]; rfl, by rw [HM.out.bb.blk.cell]; rfl, by rw [HM.out.rt.blk.cell]; rfl⟩) ?_
                    clear hK K
                    (try simp only [Act.put, List.setIfInBounds_toArray, List.set_cons_zero, List.set_cons_succ])
                    refine tillH_takeAny (i := 28) (oi := ?oo1027) (v := ?vv1027) ?hi1027 (by kernel_rfl) (by kernel_rfl) (by kernel_rfl) ?hq1027 (by kernel_rfl) ?hy1027 (fun _ => ⟨by rw [HM.out.bb.blk.cell]; rfl, by rw [HM.out.bb.blk.cell]; rfl, by rw [HM.out.bb.blk.cell]; rfl, by rw [HM.out.bb.blk.cell]; rfl, by rw [HM.out.rt.blk.cell]; rfl⟩) ?hh1027
                    case hi1027 => (simp only [List.getElem?_toArray, List.getElem?_cons_succ, List.getElem?_cons_zero]; rfl)
                    case hq1027 => exact fun _ _ _ h => h
                    case hy1027 => exact Or.inl ⟨by rfl, by (intro W; go_simp; (try with_reducible rfl))⟩
                    (try simp only [Act.put, List.setIfInBounds_toArray, List.set_cons_zero, List.set_cons_succ])
                    refine tillH_takeAny (i := 29) (oi := ?oo1028) (v := ?vv1028) ?hi1028 (by kernel_rfl) (by kernel_rfl) (by kernel_rfl) ?hq1028 (by kernel_rfl) ?hy1028 (fun _ => ⟨by rw [HM.out.bb.blk.cell]; rfl, by rw [HM.out.bb.blk.cell]; rfl, by rw [HM.out.bb.blk.cell]; rfl, by rw [HM.out.bb.blk.cell]; rfl, by rw [HM.out.rt.blk.cell]; rfl⟩) ?hh1028
                    case hi1028 => (simp only [List.getElem?_toArray, List.getElem?_cons_succ, List.getElem?_cons_zero]; rfl)
                    case hq1028 => exact fun _ _ _ h => h
                    case hy1028 => exact Or.inl ⟨by rfl, by (intro W; go_simp; (try with_reducible rfl))⟩
                    (try simp only [Act.put, List.setIfInBounds_toArray, List.set_cons_zero, List.set_cons_succ])
                    refine tillH_next (rs := [30]) (by kernel_rfl) (by simp) ?_
                    refine NextH.cons rfl (fun K hK => ?_) NextH.nil
                    have x_B : U40.cell? ⟨B, 2, none⟩ = some (.slice AC m capC) := by rw [HM.out.bb.blk.cell]; rfl
                    have z_B := HM.out.bb.blk.frozen 2
                    have l_B := HM.out.bb.blk.lt
                    go_simp
                    clear x_B z_B l_B
                    replace k_rc := k_rc.setB (u' := (.slice (some ⟨g12, 0, none⟩) (m + 1) cap12)) (i := 2) HM.out.bb.blk (by decide)
                    replace k_rd := k_rd.setB (u' := (.slice (some ⟨g12, 0, none⟩) (m + 1) cap12)) (i := 2) HM.out.bb.blk (by decide)
                    replace k_d := k_d.setB (u' := (.slice (some ⟨g12, 0, none⟩) (m + 1) cap12)) (i := 2) HM.out.bb.blk (by decide)
                    replace HM := Lib.hid (HM.out.setC (cv' := (.slice (some ⟨g12, 0, none⟩) (m + 1) cap12)))
                    refine hK.out _ _ (fun h => absurd h (by simp)) ?_
                    clear hK K
                    generalize U40.setCell ⟨B, 2, none⟩ (.slice (some ⟨g12, 0, none⟩) (m + 1) cap12) = U41 at *
                    (try simp only [Act.put, List.setIfInBounds_toArray, List.set_cons_zero, List.set_cons_succ])
                    refine tillH_takeAny (i := 31) (oi := ?oo1029) (v := ?vv1029) ?hi1029 (by kernel_rfl) (by kernel_rfl) (by kernel_rfl) ?hq1029 (by kernel_rfl) ?hy1029 (fun h => absurd h (by simp)) ?hh1029
                    case hi1029 => (simp only [List.getElem?_toArray, List.getElem?_cons_succ, List.getElem?_cons_zero]; rfl)
                    case hq1029 => exact fun _ _ _ h => h
                    case hy1029 => exact Or.inl ⟨by rfl, by (intro W; go_simp; (try with_reducible rfl))⟩
                    (try simp only [Act.put, List.setIfInBounds_toArray, List.set_cons_zero, List.set_cons_succ])
                    refine tillH_takeAny (i := 32) (oi := ?oo1030) (v := ?vv1030) ?hi1030 (by kernel_rfl) (by kernel_rfl) (by kernel_rfl) ?hq1030 (by kernel_rfl) ?hy1030 (fun h => absurd h (by simp)) ?hh1030
                    case hi1030 => (simp only [List.getElem?_toArray, List.getElem?_cons_succ, List.getElem?_cons_zero]; rfl)
                    case hq1030 => exact fun _ _ _ h => h
                    case hy1030 => exact Or.inl ⟨by rfl, by (intro W; go_simp; (try with_reducible rfl))⟩
                    (try simp only [Act.put, List.setIfInBounds_toArray, List.set_cons_zero, List.set_cons_succ])
                    refine tillH_next (rs := [33]) (by kernel_rfl) (by simp) ?_
                    refine NextH.cons rfl (fun K hK => ?_) NextH.nil
                    have x_B : U41.cell? ⟨B, 3, none⟩ = some (dv) := by rw [HM.out.bb.blk.cell]; rfl
                    have z_B := HM.out.bb.blk.frozen 3
                    have l_B := HM.out.bb.blk.lt
                    go_simp
                    clear x_B z_B l_B
                    replace k_rc := k_rc.setB (u' := (.slice (some ⟨g27, 0, none⟩) (m + 1) cap27)) (i := 3) HM.out.bb.blk (by decide)
                    replace k_rd := k_rd.setB (u' := (.slice (some ⟨g27, 0, none⟩) (m + 1) cap27)) (i := 3) HM.out.bb.blk (by decide)
                    replace k_d := k_d.setB (u' := (.slice (some ⟨g27, 0, none⟩) (m + 1) cap27)) (i := 3) HM.out.bb.blk (by decide)
                    replace HM := Lib.hid (HM.out.setD (dv' := (.slice (some ⟨g27, 0, none⟩) (m + 1) cap27)))
                    refine hK.out _ _ (fun h => absurd h (by simp)) ?_
                    clear hK K
                    generalize U41.setCell ⟨B, 3, none⟩ (.slice (some ⟨g27, 0, none⟩) (m + 1) cap27) = U42 at *
                    (try simp only [Act.put, List.setIfInBounds_toArray, List.set_cons_zero, List.set_cons_succ])
                    refine tillH_done (by kernel_rfl) ?_ _
                    have hXl : (X ++ [⟨c0, d0, 0, cl, false⟩] : List Cu).length = m + 1 := by simp [hXm]
                    have HF := Lib.hid ((HM.out.more k_d (Nat.le_trans hw0 hd0)).mem (by rw [hXl, List.map_append]; exact k_rc) (by rw [hXl, List.map_append]; exact k_rd))
                    have HG := Lib.hid (HR.out.cursor c0 d0 (fun x hx => by have := HCL.out.1 x hx; omega) (fun x hx => by have := HCL.out.2 x hx; omega))
                    have HM := HF
                    have HR2 := HG
                    have hX9 : (X ++ [⟨c0, d0, 0, cl, false⟩] : List Cu).length ≤ 40 := by omega
                    clear k_rc k_rd k_d HF HG HCL HR
                    go_upto_region 32 with fail
                    have HSAME := same_any _ HM.out HR2.out (by omega) (by first | omega | assumption)
                    go_wp2_with fail
                    refine HSAME.mono ?_
                    rintro e U43 ⟨rfl, bq⟩
                    have HM := Lib.hid (HM.out.below bq)
                    have HF := Lib.hid (show PlayP w0 B T M (j + 1) (.returned (.bool true)) _ from ⟨rfl, _, _, _, _, _, _, _, _, _, _, HM.out, HR2.out, by omega, by omega, (by first | omega | assumption)⟩)
                    clear HSAME bq HM HR2
                    go_wp2
                    go_ret
                    exact HF.out
              · skip
                go_simp
                have ba : Below U37.heap.size U37 (U37.alloc (.cells #[.pointer (some ⟨d0, 0, none⟩)] 81)) := (Below.refl _ _).alloc (Nat.le_refl _) _
                have k_p2 := HM.out.box 81 #[.pointer (some ⟨d0, 0, none⟩)]
                replace k_rc := k_rc.below ba
                replace k_rd := k_rd.below ba
                replace k_p1 := k_p1.below ba
                replace k_d := k_d.below ba
                replace HM := Lib.hid (HM.out.below ba)
                replace hz := Nat.le_trans hz ba.size
                clear ba
                refine hK.out _ _ (fun _ => ⟨by rw [HM.out.bb.blk.cell]; rfl, by rw [HM.out.bb.blk.cell]; rfl, by rw [HM.out.bb.blk.cell]; rfl, by rw [HM.out.bb.blk.cell]; rfl, by rw [HM.out.rt.blk.cell]; rfl⟩) ?_
                clear hK K
                (try simp only [Act.put, List.setIfInBounds_toArray, List.set_cons_zero, List.set_cons_succ])
                generalize U37.alloc (.cells #[.pointer (some ⟨d0, 0, none⟩)] 81) = U44 at *
                generalize U37.heap.size = p2 at *
                refine tillH_next (rs := [12]) (by kernel_rfl) (by simp) ?_
                refine NextH.cons rfl (fun K hK => ?_) NextH.nil
                · skip
                  refine step_append_lies _ (by rfl) _ _ _ (by rfl) w0.heap.size 31 iP _ 1 8 Try.underlying30 pi pz0 pz1 pz2 rfl (by decide) _ m _ (by rfl) k_rc.own ⟨p1, 0, none⟩ 1 1 [.pointer (some ⟨c0, 0, none⟩)] (by rfl) rfl (World.news_of_block (cs := #[.pointer (some ⟨c0, 0, none⟩)]) k_p1.blk) (by simp [Value.oneCell']) (by decide) (by unfold maxLen; omega) (by omega) (by have := HM.out.st.bel.size; omega) _ rfl ?_
                  intro g12 cap12 U45 hown hgrow hat hgl
                  replace k_rd := k_rd.push k_rc (by decide) hgrow
                  replace k_d := k_d.push k_rc (by decide) hgrow
                  replace k_p2 := k_p2.push k_rc (by decide) hgrow
                  have hUlt := HM.out.lt
                  replace HM := Lib.hid (HM.out.push k_rc (by decide) (by decide) (by decide) hgrow)
                  replace k_rc := k_rc.grown hUlt hown hat
                  replace hz := Nat.le_trans hz hgrow.size
                  clear hown hgrow hat hgl hUlt
                  refine hK.out _ _ (fun _ => ⟨by rw [HM.out.bb.blk.cell]; rfl, by rw [HM.out.bb.blk.cell]; rfl, by rw [HM.out.bb.blk.cell]; rfl, by rw [HM.out.bb.blk.cell]; rfl, by rw [HM.out.rt.blk.cell]; rfl⟩) ?_
                  clear hK K
                  (try simp only [Act.put, List.setIfInBounds_toArray, List.set_cons_zero, List.set_cons_succ])
                  refine tillH_next (rs := [27]) (by kernel_rfl) (by simp) ?_
                  refine NextH.cons rfl (fun K hK => ?_) NextH.nil
                  · skip
                    refine step_append_lies _ (by rfl) _ _ _ (by rfl) w0.heap.size 81 iR _ 1 8 Try.underlying55 ri rz0 rz1 rz2 rfl (by decide) _ m _ (by rfl) k_rd.own ⟨p2, 0, none⟩ 1 1 [.pointer (some ⟨d0, 0, none⟩)] (by rfl) rfl (World.news_of_block (cs := #[.pointer (some ⟨d0, 0, none⟩)]) k_p2.blk) (by simp [Value.oneCell']) (by decide) (by unfold maxLen; omega) (by omega) (by have := HM.out.st.bel.size; omega) _ rfl ?_
                    intro g27 cap27 U46 hown hgrow hat hgl
                    replace k_rc := k_rc.push k_rd (by decide) hgrow
                    replace k_d := k_d.push k_rd (by decide) hgrow
                    have hUlt := HM.out.lt
                    replace HM := Lib.hid (HM.out.push k_rd (by decide) (by decide) (by decide) hgrow)
                    replace k_rd := k_rd.grown hUlt hown hat
                    replace hz := Nat.le_trans hz hgrow.size
                    clear hown hgrow hat hgl hUlt
                    refine hK.out _ _ (fun _ => ⟨by rw [HM.out.bb.blk.cell]; rfl, by rw [HM.out.bb.blk.cell]; rfl, by rw [HM.out.bb.blk.cell]; rfl, by rw [HM.out.bb.blk.cell]; rfl, by rw [HM.out.rt.blk.cell]; rfl⟩) ?_
                    clear hK K
                    (try simp only [Act.put, List.setIfInBounds_toArray, List.set_cons_zero, List.set_cons_succ])
                    refine tillH_takeAny (i := 28) (oi := ?oo1031) (v := ?vv1031) ?hi1031 (by kernel_rfl) (by kernel_rfl) (by kernel_rfl) ?hq1031 (by kernel_rfl) ?hy1031 (fun _ => ⟨by rw [HM.out.bb.blk.cell]; rfl, by rw [HM.out.bb.blk.cell]; rfl, by rw [HM.out.bb.blk.cell]; rfl, by rw [HM.out.bb.blk.cell]; rfl, by rw [HM.out.rt.blk.cell]; rfl⟩) ?hh1031
                    case hi1031 => (simp only [List.getElem?_toArray, List.getElem?_cons_succ, List.getElem?_cons_zero]; rfl)
                    case hq1031 => exact fun _ _ _ h => h
                    case hy1031 => exact Or.inl ⟨by rfl, by (intro W; go_simp; (try with_reducible rfl))⟩
                    (try simp only [Act.put, List.setIfInBounds_toArray, List.set_cons_zero, List.set_cons_succ])
                    refine tillH_takeAny (i := 29) (oi := ?oo1032) (v := ?vv1032) ?hi1032 (by kernel_rfl) (by kernel_rfl) (by kernel_rfl) ?hq1032 (by kernel_rfl) ?hy1032 (fun _ => ⟨by rw [HM.out.bb.blk.cell]; rfl, by rw [HM.out.bb.blk.cell]; rfl, by rw [HM.out.bb.blk.cell]; rfl, by rw [HM.out.bb.blk.cell]; rfl, by rw [HM.out.rt.blk.cell]; rfl⟩) ?hh1032
                    case hi1032 => (simp only [List.getElem?_toArray, List.getElem?_cons_succ, List.getElem?_cons_zero]; rfl)
                    case hq1032 => exact fun _ _ _ h => h
                    case hy1032 => exact Or.inl ⟨by rfl, by (intro W; go_simp; (try with_reducible rfl))⟩
                    (try simp only [Act.put, List.setIfInBounds_toArray, List.set_cons_zero, List.set_cons_succ])
                    refine tillH_next (rs := [30]) (by kernel_rfl) (by simp) ?_
                    refine NextH.cons rfl (fun K hK => ?_) NextH.nil
                    have x_B : U46.cell? ⟨B, 2, none⟩ = some (.slice AC m capC) := by rw [HM.out.bb.blk.cell]; rfl
                    have z_B := HM.out.bb.blk.frozen 2
                    have l_B := HM.out.bb.blk.lt
                    go_simp
                    clear x_B z_B l_B
                    replace k_rc := k_rc.setB (u' := (.slice (some ⟨g12, 0, none⟩) (m + 1) cap12)) (i := 2) HM.out.bb.blk (by decide)
                    replace k_rd := k_rd.setB (u' := (.slice (some ⟨g12, 0, none⟩) (m + 1) cap12)) (i := 2) HM.out.bb.blk (by decide)
                    replace k_d := k_d.setB (u' := (.slice (some ⟨g12, 0, none⟩) (m + 1) cap12)) (i := 2) HM.out.bb.blk (by decide)
                    replace HM := Lib.hid (HM.out.setC (cv' := (.slice (some ⟨g12, 0, none⟩) (m + 1) cap12)))
                    refine hK.out _ _ (fun h => absurd h (by simp)) ?_
                    clear hK K
                    generalize U46.setCell ⟨B, 2, none⟩ (.slice (some ⟨g12, 0, none⟩) (m + 1) cap12) = U47 at *
                    (try simp only [Act.put, List.setIfInBounds_toArray, List.set_cons_zero, List.set_cons_succ])
                    refine tillH_takeAny (i := 31) (oi := ?oo1033) (v := ?vv1033) ?hi1033 (by kernel_rfl) (by kernel_rfl) (by kernel_rfl) ?hq1033 (by kernel_rfl) ?hy1033 (fun h => absurd h (by simp)) ?hh1033
                    case hi1033 => (simp only [List.getElem?_toArray, List.getElem?_cons_succ, List.getElem?_cons_zero]; rfl)
                    case hq1033 => exact fun _ _ _ h => h
                    case hy1033 => exact Or.inl ⟨by rfl, by (intro W; go_simp; (try with_reducible rfl))⟩
                    (try simp only [Act.put, List.setIfInBounds_toArray, List.set_cons_zero, List.set_cons_succ])
                    refine tillH_takeAny (i := 32) (oi := ?oo1034) (v := ?vv1034) ?hi1034 (by kernel_rfl) (by kernel_rfl) (by kernel_rfl) ?hq1034 (by kernel_rfl) ?hy1034 (fun h => absurd h (by simp)) ?hh1034
                    case hi1034 => (simp only [List.getElem?_toArray, List.getElem?_cons_succ, List.getElem?_cons_zero]; rfl)
                    case hq1034 => exact fun _ _ _ h => h
                    case hy1034 => exact Or.inl ⟨by rfl, by (intro W; go_simp; (try with_reducible rfl))⟩
                    (try simp only [Act.put, List.setIfInBounds_toArray, List.set_cons_zero, List.set_cons_succ])
                    refine tillH_next (rs := [33]) (by kernel_rfl) (by simp) ?_
                    refine NextH.cons rfl (fun K hK => ?_) NextH.nil
                    have x_B : U47.cell? ⟨B, 3, none⟩ = some (dv) := by rw [HM.out.bb.blk.cell]; rfl
                    have z_B := HM.out.bb.blk.frozen 3
                    have l_B := HM.out.bb.blk.lt
                    go_simp
                    clear x_B z_B l_B
                    replace k_rc := k_rc.setB (u' := (.slice (some ⟨g27, 0, none⟩) (m + 1) cap27)) (i := 3) HM.out.bb.blk (by decide)
                    replace k_rd := k_rd.setB (u' := (.slice (some ⟨g27, 0, none⟩) (m + 1) cap27)) (i := 3) HM.out.bb.blk (by decide)
                    replace k_d := k_d.setB (u' := (.slice (some ⟨g27, 0, none⟩) (m + 1) cap27)) (i := 3) HM.out.bb.blk (by decide)
                    replace HM := Lib.hid (HM.out.setD (dv' := (.slice (some ⟨g27, 0, none⟩) (m + 1) cap27)))
                    refine hK.out _ _ (fun h => absurd h (by simp)) ?_
                    clear hK K
                    generalize U47.setCell ⟨B, 3, none⟩ (.slice (some ⟨g27, 0, none⟩) (m + 1) cap27) = U48 at *
                    (try simp only [Act.put, List.setIfInBounds_toArray, List.set_cons_zero, List.set_cons_succ])
                    refine tillH_done (by kernel_rfl) ?_ _
                    have hXl : (X ++ [⟨c0, d0, 0, cl, false⟩] : List Cu).length = m + 1 := by simp [hXm]
                    have HF := Lib.hid ((HM.out.more k_d (Nat.le_trans hw0 hd0)).mem (by rw [hXl, List.map_append]; exact k_rc) (by rw [hXl, List.map_append]; exact k_rd))
                    have HG := Lib.hid (HR.out.cursor c0 d0 (fun x hx => by have := HCL.out.1 x hx; omega) (fun x hx => by have := HCL.out.2 x hx; omega))
                    have HM := HF
                    have HR2 := HG
                    have hX9 : (X ++ [⟨c0, d0, 0, cl, false⟩] : List Cu).length ≤ 40 := by omega
                    clear k_rc k_rd k_d HF HG HCL HR
                    go_upto_region 32 with fail
                    have HSAME := same_any _ HM.out HR2.out (by omega) (by first | omega | assumption)
                    go_wp2_with fail
                    refine HSAME.mono ?_
                    rintro e U49 ⟨rfl, bq⟩
                    have HM := Lib.hid (HM.out.below bq)
                    have HF := Lib.hid (show PlayP w0 B T M (j + 1) (.returned (.bool true)) _ from ⟨rfl, _, _, _, _, _, _, _, _, _, _, HM.out, HR2.out, by omega, by omega, (by first | omega | assumption)⟩)
                    clear HSAME bq HM HR2
                    go_wp2
                    go_ret
                    exact HF.out
          · skip
            go_simp
            have ba : Below U28.heap.size U28 (U28.alloc (.cells #[.int .i64 0, .int .i64 (cl : Int), .bool false] 83)) := (Below.refl _ _).alloc (Nat.le_refl _) _
            have k_d := HM.out.box 83 #[.int .i64 0, .int .i64 (cl : Int), .bool false]
            have hd0 := hz
            replace k_rc := k_rc.below ba
            replace k_rd := k_rd.below ba
            replace HM := Lib.hid (HM.out.below ba)
            replace hz := Nat.le_trans hz ba.size
            clear ba
            refine hK.out _ _ (fun _ => ⟨by rw [HM.out.bb.blk.cell]; rfl, by rw [HM.out.bb.blk.cell]; rfl, by rw [HM.out.bb.blk.cell]; rfl, by rw [HM.out.bb.blk.cell]; rfl, by rw [HM.out.rt.blk.cell]; rfl⟩) ?_
            clear hK K
            (try simp only [Act.put, List.setIfInBounds_toArray, List.set_cons_zero, List.set_cons_succ])
            generalize U28.alloc (.cells #[.int .i64 0, .int .i64 (cl : Int), .bool false] 83) = U50 at *
            generalize U28.heap.size = d0 at *
            refine tillH_next (rs := [11, 26]) (by kernel_rfl) (by simp) ?_
            refine NextH.cons rfl (fun K hK => ?_) (NextH.cons rfl (fun K hK => ?_) NextH.nil)
            · skip
              go_simp
              have ba : Below U50.heap.size U50 (U50.alloc (.cells #[.pointer (some ⟨c0, 0, none⟩)] 31)) := (Below.refl _ _).alloc (Nat.le_refl _) _
              have k_p1 := HM.out.box 31 #[.pointer (some ⟨c0, 0, none⟩)]
              replace k_rc := k_rc.below ba
              replace k_rd := k_rd.below ba
              replace k_d := k_d.below ba
              replace HM := Lib.hid (HM.out.below ba)
              replace hz := Nat.le_trans hz ba.size
              clear ba
              refine hK.out _ _ (fun _ => ⟨by rw [HM.out.bb.blk.cell]; rfl, by rw [HM.out.bb.blk.cell]; rfl, by rw [HM.out.bb.blk.cell]; rfl, by rw [HM.out.bb.blk.cell]; rfl, by rw [HM.out.rt.blk.cell]; rfl⟩) ?_
              clear hK K
              (try simp only [Act.put, List.setIfInBounds_toArray, List.set_cons_zero, List.set_cons_succ])
              generalize U50.alloc (.cells #[.pointer (some ⟨c0, 0, none⟩)] 31) = U51 at *
              generalize U50.heap.size = p1 at *
              refine tillH_next (rs := [12, 26]) (by kernel_rfl) (by simp) ?_
              refine NextH.cons rfl (fun K hK => ?_) (NextH.cons rfl (fun K hK => ?_) NextH.nil)
              · skip
                refine step_append_lies _ (by rfl) _ _ _ (by rfl) w0.heap.size 31 iP _ 1 8 Try.underlying30 pi pz0 pz1 pz2 rfl (by decide) _ m _ (by rfl) k_rc.own ⟨p1, 0, none⟩ 1 1 [.pointer (some ⟨c0, 0, none⟩)] (by rfl) rfl (World.news_of_block (cs := #[.pointer (some ⟨c0, 0, none⟩)]) k_p1.blk) (by simp [Value.oneCell']) (by decide) (by unfold maxLen; omega) (by omega) (by have := HM.out.st.bel.size; omega) _ rfl ?_
                intro g12 cap12 U52 hown hgrow hat hgl
                replace k_rd := k_rd.push k_rc (by decide) hgrow
                replace k_d := k_d.push k_rc (by decide) hgrow
                have hUlt := HM.out.lt
                replace HM := Lib.hid (HM.out.push k_rc (by decide) (by decide) (by decide) hgrow)
                replace k_rc := k_rc.grown hUlt hown hat
                replace hz := Nat.le_trans hz hgrow.size
                clear hown hgrow hat hgl hUlt
                refine hK.out _ _ (fun _ => ⟨by rw [HM.out.bb.blk.cell]; rfl, by rw [HM.out.bb.blk.cell]; rfl, by rw [HM.out.bb.blk.cell]; rfl, by rw [HM.out.bb.blk.cell]; rfl, by rw [HM.out.rt.blk.cell]; rfl⟩) ?_
                clear hK K
                (try simp only [Act.put, List.setIfInBounds_toArray, List.set_cons_zero, List.set_cons_succ])
                refine tillH_next (rs := [26]) (by kernel_rfl) (by simp) ?_
                refine NextH.cons rfl (fun K hK => ?_) NextH.nil
                · skip
                  go_simp
                  have ba : Below U52.heap.size U52 (U52.alloc (.cells #[.pointer (some ⟨d0, 0, none⟩)] 81)) := (Below.refl _ _).alloc (Nat.le_refl _) _
                  have k_p2 := HM.out.box 81 #[.pointer (some ⟨d0, 0, none⟩)]
                  replace k_rc := k_rc.below ba
                  replace k_rd := k_rd.below ba
                  replace k_d := k_d.below ba
                  replace HM := Lib.hid (HM.out.below ba)
                  replace hz := Nat.le_trans hz ba.size
                  clear ba
                  refine hK.out _ _ (fun _ => ⟨by rw [HM.out.bb.blk.cell]; rfl, by rw [HM.out.bb.blk.cell]; rfl, by rw [HM.out.bb.blk.cell]; rfl, by rw [HM.out.bb.blk.cell]; rfl, by rw [HM.out.rt.blk.cell]; rfl⟩) ?_
                  clear hK K
                  (try simp only [Act.put, List.setIfInBounds_toArray, List.set_cons_zero, List.set_cons_succ])
                  generalize U52.alloc (.cells #[.pointer (some ⟨d0, 0, none⟩)] 81) = U53 at *
                  generalize U52.heap.size = p2 at *
                  refine tillH_next (rs := [27]) (by kernel_rfl) (by simp) ?_
                  refine NextH.cons rfl (fun K hK => ?_) NextH.nil
                  · skip
                    refine step_append_lies _ (by rfl) _ _ _ (by rfl) w0.heap.size 81 iR _ 1 8 Try.underlying55 ri rz0 rz1 rz2 rfl (by decide) _ m _ (by rfl) k_rd.own ⟨p2, 0, none⟩ 1 1 [.pointer (some ⟨d0, 0, none⟩)] (by rfl) rfl (World.news_of_block (cs := #[.pointer (some ⟨d0, 0, none⟩)]) k_p2.blk) (by simp [Value.oneCell']) (by decide) (by unfold maxLen; omega) (by omega) (by have := HM.out.st.bel.size; omega) _ rfl ?_
                    intro g27 cap27 U54 hown hgrow hat hgl
                    replace k_rc := k_rc.push k_rd (by decide) hgrow
                    replace k_d := k_d.push k_rd (by decide) hgrow
                    have hUlt := HM.out.lt
                    replace HM := Lib.hid (HM.out.push k_rd (by decide) (by decide) (by decide) hgrow)
                    replace k_rd := k_rd.grown hUlt hown hat
                    replace hz := Nat.le_trans hz hgrow.size
                    clear hown hgrow hat hgl hUlt
                    refine hK.out _ _ (fun _ => ⟨by rw [HM.out.bb.blk.cell]; rfl, by rw [HM.out.bb.blk.cell]; rfl, by rw [HM.out.bb.blk.cell]; rfl, by rw [HM.out.bb.blk.cell]; rfl, by rw [HM.out.rt.blk.cell]; rfl⟩) ?_
                    clear hK K
                    (try simp only [Act.put, List.setIfInBounds_toArray, List.set_cons_zero, List.set_cons_succ])
                    refine tillH_takeAny (i := 28) (oi := ?oo1035) (v := ?vv1035) ?hi1035 (by kernel_rfl) (by kernel_rfl) (by kernel_rfl) ?hq1035 (by kernel_rfl) ?hy1035 (fun _ => ⟨by rw [HM.out.bb.blk.cell]; rfl, by rw [HM.out.bb.blk.cell]; rfl, by rw [HM.out.bb.blk.cell]; rfl, by rw [HM.out.bb.blk.cell]; rfl, by rw [HM.out.rt.blk.cell]; rfl⟩) ?hh1035
                    case hi1035 => (simp only [List.getElem?_toArray, List.getElem?_cons_succ, List.getElem?_cons_zero]; rfl)
                    case hq1035 => exact fun _ _ _ h => h
                    case hy1035 => exact Or.inl ⟨by rfl, by (intro W; go_simp; (try with_reducible rfl))⟩
                    (try simp only [Act.put, List.setIfInBounds_toArray, List.set_cons_zero, List.set_cons_succ])
                    refine tillH_takeAny (i := 29) (oi := ?oo1036) (v := ?vv1036) ?hi1036 (by kernel_rfl) (by kernel_rfl) (by kernel_rfl) ?hq1036 (by kernel_rfl) ?hy1036 (fun _ => ⟨by rw [HM.out.bb.blk.cell]; rfl, by rw [HM.out.bb.blk.cell]; rfl, by rw [HM.out.bb.blk.cell]; rfl, by rw [HM.out.bb.blk.cell]; rfl, by rw [HM.out.rt.blk.cell]; rfl⟩) ?hh1036
                    case hi1036 => (simp only [List.getElem?_toArray, List.getElem?_cons_succ, List.getElem?_cons_zero]; rfl)
                    case hq1036 => exact fun _ _ _ h => h
                    case hy1036 => exact Or.inl ⟨by rfl, by (intro W; go_simp; (try with_reducible rfl))⟩
                    (try simp only [Act.put, List.setIfInBounds_toArray, List.set_cons_zero, List.set_cons_succ])
                    refine tillH_next (rs := [30]) (by kernel_rfl) (by simp) ?_
                    refine NextH.cons rfl (fun K hK => ?_) NextH.nil
                    have x_B : U54.cell? ⟨B, 2, none⟩ = some (.slice AC m capC) := by rw [HM.out.bb.blk.cell]; rfl
                    have z_B := HM.out.bb.blk.frozen 2
                    have l_B := HM.out.bb.blk.lt
                    go_simp
                    clear x_B z_B l_B
                    replace k_rc := k_rc.setB (u' := (.slice (some ⟨g12, 0, none⟩) (m + 1) cap12)) (i := 2) HM.out.bb.blk (by decide)
                    replace k_rd := k_rd.setB (u' := (.slice (some ⟨g12, 0, none⟩) (m + 1) cap12)) (i := 2) HM.out.bb.blk (by decide)
                    replace k_d := k_d.setB (u' := (.slice (some ⟨g12, 0, none⟩) (m + 1) cap12)) (i := 2) HM.out.bb.blk (by decide)
                    replace HM := Lib.hid (HM.out.setC (cv' := (.slice (some ⟨g12, 0, none⟩) (m + 1) cap12)))
                    refine hK.out _ _ (fun h => absurd h (by simp)) ?_
                    clear hK K
                    generalize U54.setCell ⟨B, 2, none⟩ (.slice (some ⟨g12, 0, none⟩) (m + 1) cap12) = U55 at *
                    (try simp only [Act.put, List.setIfInBounds_toArray, List.set_cons_zero, List.set_cons_succ])
                    refine tillH_takeAny (i := 31) (oi := ?oo1037) (v := ?vv1037) ?hi1037 (by kernel_rfl) (by kernel_rfl) (by kernel_rfl) ?hq1037 (by kernel_rfl) ?hy1037 (fun h => absurd h (by simp)) ?hh1037
                    case hi1037 => (simp only [List.getElem?_toArray, List.getElem?_cons_succ, List.getElem?_cons_zero]; rfl)
                    case hq1037 => exact fun _ _ _ h => h
                    case hy1037 => exact Or.inl ⟨by rfl, by (intro W; go_simp; (try with_reducible rfl))⟩
                    (try simp only [Act.put, List.setIfInBounds_toArray, List.set_cons_zero, List.set_cons_succ])
                    refine tillH_takeAny (i := 32) (oi := ?oo1038) (v := ?vv1038) ?hi1038 (by kernel_rfl) (by kernel_rfl) (by kernel_rfl) ?hq1038 (by kernel_rfl) ?hy1038 (fun h => absurd h (by simp)) ?hh1038
                    case hi1038 => (simp only [List.getElem?_toArray, List.getElem?_cons_succ, List.getElem?_cons_zero]; rfl)
                    case hq1038 => exact fun _ _ _ h => h
                    case hy1038 => exact Or.inl ⟨by rfl, by (intro W; go_simp; (try with_reducible rfl))⟩
                    (try simp only [Act.put, List.setIfInBounds_toArray, List.set_cons_zero, List.set_cons_succ])
                    refine tillH_next (rs := [33]) (by kernel_rfl) (by simp) ?_
                    refine NextH.cons rfl (fun K hK => ?_) NextH.nil
                    have x_B : U55.cell? ⟨B, 3, none⟩ = some (dv) := by rw [HM.out.bb.blk.cell]; rfl
                    have z_B := HM.out.bb.blk.frozen 3
                    have l_B := HM.out.bb.blk.lt
                    go_simp
                    clear x_B z_B l_B
                    replace k_rc := k_rc.setB (u' := (.slice (some ⟨g27, 0, none⟩) (m + 1) cap27)) (i := 3) HM.out.bb.blk (by decide)
                    replace k_rd := k_rd.setB (u' := (.slice (some ⟨g27, 0, none⟩) (m + 1) cap27)) (i := 3) HM.out.bb.blk (by decide)
                    replace k_d := k_d.setB (u' := (.slice (some ⟨g27, 0, none⟩) (m + 1) cap27)) (i := 3) HM.out.bb.blk (by decide)
                    replace HM := Lib.hid (HM.out.setD (dv' := (.slice (some ⟨g27, 0, none⟩) (m + 1) cap27)))
                    refine hK.out _ _ (fun h => absurd h (by simp)) ?_
                    clear hK K
                    generalize U55.setCell ⟨B, 3, none⟩ (.slice (some ⟨g27, 0, none⟩) (m + 1) cap27) = U56 at *
                    (try simp only [Act.put, List.setIfInBounds_toArray, List.set_cons_zero, List.set_cons_succ])
                    refine tillH_done (by kernel_rfl) ?_ _
                    have hXl : (X ++ [⟨c0, d0, 0, cl, false⟩] : List Cu).length = m + 1 := by simp [hXm]
                    have HF := Lib.hid ((HM.out.more k_d (Nat.le_trans hw0 hd0)).mem (by rw [hXl, List.map_append]; exact k_rc) (by rw [hXl, List.map_append]; exact k_rd))
                    have HG := Lib.hid (HR.out.cursor c0 d0 (fun x hx => by have := HCL.out.1 x hx; omega) (fun x hx => by have := HCL.out.2 x hx; omega))
                    have HM := HF
                    have HR2 := HG
                    have hX9 : (X ++ [⟨c0, d0, 0, cl, false⟩] : List Cu).length ≤ 40 := by omega
                    clear k_rc k_rd k_d HF HG HCL HR
                    go_upto_region 32 with fail
                    have HSAME := same_any _ HM.out HR2.out (by omega) (by first | omega | assumption)
                    go_wp2_with fail
                    refine HSAME.mono ?_
                    rintro e U57 ⟨rfl, bq⟩
                    have HM := Lib.hid (HM.out.below bq)
                    have HF := Lib.hid (show PlayP w0 B T M (j + 1) (.returned (.bool true)) _ from ⟨rfl, _, _, _, _, _, _, _, _, _, _, HM.out, HR2.out, by omega, by omega, (by first | omega | assumption)⟩)
                    clear HSAME bq HM HR2
                    go_wp2
                    go_ret
                    exact HF.out
              · skip
                go_simp
                have ba : Below U51.heap.size U51 (U51.alloc (.cells #[.pointer (some ⟨d0, 0, none⟩)] 81)) := (Below.refl _ _).alloc (Nat.le_refl _) _
                have k_p2 := HM.out.box 81 #[.pointer (some ⟨d0, 0, none⟩)]
                replace k_rc := k_rc.below ba
                replace k_rd := k_rd.below ba
                replace k_p1 := k_p1.below ba
                replace k_d := k_d.below ba
                replace HM := Lib.hid (HM.out.below ba)
                replace hz := Nat.le_trans hz ba.size
                clear ba
                refine hK.out _ _ (fun _ => ⟨by rw [HM.out.bb.blk.cell]; rfl, by rw [HM.out.bb.blk.cell]; rfl, by rw [HM.out.bb.blk.cell]; rfl, by rw [HM.out.bb.blk.cell]; rfl, by rw [HM.out.rt.blk.cell]; rfl⟩) ?_
                clear hK K
                (try simp only [Act.put, List.setIfInBounds_toArray, List.set_cons_zero, List.set_cons_succ])
                generalize U51.alloc (.cells #[.pointer (some ⟨d0, 0, none⟩)] 81) = U58 at *
                generalize U51.heap.size = p2 at *
                refine tillH_next (rs := [12]) (by kernel_rfl) (by simp) ?_
                refine NextH.cons rfl (fun K hK => ?_) NextH.nil
                · skip
                  refine step_append_lies _ (by rfl) _ _ _ (by rfl) w0.heap.size 31 iP _ 1 8 Try.underlying30 pi pz0 pz1 pz2 rfl (by decide) _ m _ (by rfl) k_rc.own ⟨p1, 0, none⟩ 1 1 [.pointer (some ⟨c0, 0, none⟩)] (by rfl) rfl (World.news_of_block (cs := #[.pointer (some ⟨c0, 0, none⟩)]) k_p1.blk) (by simp [Value.oneCell']) (by decide) (by unfold maxLen; omega) (by omega) (by have := HM.out.st.bel.size; omega) _ rfl ?_
                  intro g12 cap12 U59 hown hgrow hat hgl
                  replace k_rd := k_rd.push k_rc (by decide) hgrow
                  replace k_d := k_d.push k_rc (by decide) hgrow
                  replace k_p2 := k_p2.push k_rc (by decide) hgrow
                  have hUlt := HM.out.lt
                  replace HM := Lib.hid (HM.out.push k_rc (by decide) (by decide) (by decide) hgrow)
                  replace k_rc := k_rc.grown hUlt hown hat
                  replace hz := Nat.le_trans hz hgrow.size
                  clear hown hgrow hat hgl hUlt
                  refine hK.out _ _ (fun _ => ⟨by rw [HM.out.bb.blk.cell]; rfl, by rw [HM.out.bb.blk.cell]; rfl, by rw [HM.out.bb.blk.cell]; rfl, by rw [HM.out.bb.blk.cell]; rfl, by rw [HM.out.rt.blk.cell]; rfl⟩) ?_
                  clear hK K
                  (try simp only [Act.put, List.setIfInBounds_toArray, List.set_cons_zero, List.set_cons_succ])
                  refine tillH_next (rs := [27]) (by kernel_rfl) (by simp) ?_
                  refine NextH.cons rfl (fun K hK => ?_) NextH.nil
                  · skip
                    refine step_append_lies _ (by rfl) _ _ _ (by rfl) w0.heap.size 81 iR _ 1 8 Try.underlying55 ri rz0 rz1 rz2 rfl (by decide) _ m _ (by rfl) k_rd.own ⟨p2, 0, none⟩ 1 1 [.pointer (some ⟨d0, 0, none⟩)] (by rfl) rfl (World.news_of_block (cs := #[.pointer (some ⟨d0, 0, none⟩)]) k_p2.blk) (by simp [Value.oneCell']) (by decide) (by unfold maxLen; omega) (by omega) (by have := HM.out.st.bel.size; omega) _ rfl ?_
                    intro g27 cap27 U60 hown hgrow hat hgl
                    replace k_rc := k_rc.push k_rd (by decide) hgrow
                    replace k_d := k_d.push k_rd (by decide) hgrow
                    have hUlt := HM.out.lt
                    replace HM := Lib.hid (HM.out.push k_rd (by decide) (by decide) (by decide) hgrow)
                    replace k_rd := k_rd.grown hUlt hown hat
                    replace hz := Nat.le_trans hz hgrow.size
                    clear hown hgrow hat hgl hUlt
                    refine hK.out _ _ (fun _ => ⟨by rw [HM.out.bb.blk.cell]; rfl, by rw [HM.out.bb.blk.cell]; rfl, by rw [HM.out.bb.blk.cell]; rfl, by rw [HM.out.bb.blk.cell]; rfl, by rw [HM.out.rt.blk.cell]; rfl⟩) ?_
                    clear hK K
                    (try simp only [Act.put, List.setIfInBounds_toArray, List.set_cons_zero, List.set_cons_succ])
                    refine tillH_takeAny (i := 28) (oi := ?oo1039) (v := ?vv1039) ?hi1039 (by kernel_rfl) (by kernel_rfl) (by kernel_rfl) ?hq1039 (by kernel_rfl) ?hy1039 (fun _ => ⟨by rw [HM.out.bb.blk.cell]; rfl, by rw [HM.out.bb.blk.cell]; rfl, by rw [HM.out.bb.blk.cell]; rfl, by rw [HM.out.bb.blk.cell]; rfl, by rw [HM.out.rt.blk.cell]; rfl⟩) ?hh1039
                    case hi1039 => (simp only [List.getElem?_toArray, List.getElem?_cons_succ, List.getElem?_cons_zero]; rfl)
                    case hq1039 => exact fun _ _ _ h => h
                    case hy1039 => exact Or.inl ⟨by rfl, by (intro W; go_simp; (try with_reducible rfl))⟩
                    (try simp only [Act.put, List.setIfInBounds_toArray, List.set_cons_zero, List.set_cons_succ])
                    refine tillH_takeAny (i := 29) (oi := ?oo1040) (v := ?vv1040) ?hi1040 (by kernel_rfl) (by kernel_rfl) (by kernel_rfl) ?hq1040 (by kernel_rfl) ?hy1040 (fun _ => ⟨by rw [HM.out.bb.blk.cell]; rfl, by rw [HM.out.bb.blk.cell]; rfl, by rw [HM.out.bb.blk.cell]; rfl, by rw [HM.out.bb.blk.cell]; rfl, by rw [HM.out.rt.blk.cell]; rfl⟩) ?hh1040
                    case hi1040 => (simp only [List.getElem?_toArray, List.getElem?_cons_succ, List.getElem?_cons_zero]; rfl)
                    case hq1040 => exact fun _ _ _ h => h
                    case hy1040 => exact Or.inl ⟨by rfl, by (intro W; go_simp; (try with_reducible rfl))⟩
                    (try simp only [Act.put, List.setIfInBounds_toArray, List.set_cons_zero, List.set_cons_succ])
                    refine tillH_next (rs := [30]) (by kernel_rfl) (by simp) ?_
                    refine NextH.cons rfl (fun K hK => ?_) NextH.nil
                    have x_B : U60.cell? ⟨B, 2, none⟩ = some (.slice AC m capC) := by rw [HM.out.bb.blk.cell]; rfl
                    have z_B := HM.out.bb.blk.frozen 2
                    have l_B := HM.out.bb.blk.lt
                    go_simp
                    clear x_B z_B l_B
                    replace k_rc := k_rc.setB (u' := (.slice (some ⟨g12, 0, none⟩) (m + 1) cap12)) (i := 2) HM.out.bb.blk (by decide)
                    replace k_rd := k_rd.setB (u' := (.slice (some ⟨g12, 0, none⟩) (m + 1) cap12)) (i := 2) HM.out.bb.blk (by decide)
                    replace k_d := k_d.setB (u' := (.slice (some ⟨g12, 0, none⟩) (m + 1) cap12)) (i := 2) HM.out.bb.blk (by decide)
                    replace HM := Lib.hid (HM.out.setC (cv' := (.slice (some ⟨g12, 0, none⟩) (m + 1) cap12)))
                    refine hK.out _ _ (fun h => absurd h (by simp)) ?_
                    clear hK K
                    generalize U60.setCell ⟨B, 2, none⟩ (.slice (some ⟨g12, 0, none⟩) (m + 1) cap12) = U61 at *
                    (try simp only [Act.put, List.setIfInBounds_toArray, List.set_cons_zero, List.set_cons_succ])
                    refine tillH_takeAny (i := 31) (oi := ?oo1041) (v := ?vv1041) ?hi1041 (by kernel_rfl) (by kernel_rfl) (by kernel_rfl) ?hq1041 (by kernel_rfl) ?hy1041 (fun h => absurd h (by simp)) ?hh1041
                    case hi1041 => (simp only [List.getElem?_toArray, List.getElem?_cons_succ, List.getElem?_cons_zero]; rfl)
                    case hq1041 => exact fun _ _ _ h => h
                    case hy1041 => exact Or.inl ⟨by rfl, by (intro W; go_simp; (try with_reducible rfl))⟩
                    (try simp only [Act.put, List.setIfInBounds_toArray, List.set_cons_zero, List.set_cons_succ])
                    refine tillH_takeAny (i := 32) (oi := ?oo1042) (v := ?vv1042) ?hi1042 (by kernel_rfl) (by kernel_rfl) (by kernel_rfl) ?hq1042 (by kernel_rfl) ?hy1042 (fun h => absurd h (by simp)) ?hh1042
                    case hi1042 => (simp only [List.getElem?_toArray, List.getElem?_cons_succ, List.getElem?_cons_zero]; rfl)
                    case hq1042 => exact fun _ _ _ h => h
                    case hy1042 => exact Or.inl ⟨by rfl, by (intro W; go_simp; (try with_reducible rfl))⟩
                    (try simp only [Act.put, List.setIfInBounds_toArray, List.set_cons_zero, List.set_cons_succ])
                    refine tillH_next (rs := [33]) (by kernel_rfl) (by simp) ?_
                    refine NextH.cons rfl (fun K hK => ?_) NextH.nil
                    have x_B : U61.cell? ⟨B, 3, none⟩ = some (dv) := by rw [HM.out.bb.blk.cell]; rfl
                    have z_B := HM.out.bb.blk.frozen 3
                    have l_B := HM.out.bb.blk.lt
                    go_simp
                    clear x_B z_B l_B
                    replace k_rc := k_rc.setB (u' := (.slice (some ⟨g27, 0, none⟩) (m + 1) cap27)) (i := 3) HM.out.bb.blk (by decide)
                    replace k_rd := k_rd.setB (u' := (.slice (some ⟨g27, 0, none⟩) (m + 1) cap27)) (i := 3) HM.out.bb.blk (by decide)
                    replace k_d := k_d.setB (u' := (.slice (some ⟨g27, 0, none⟩) (m + 1) cap27)) (i := 3) HM.out.bb.blk (by decide)
                    replace HM := Lib.hid (HM.out.setD (dv' := (.slice (some ⟨g27, 0, none⟩) (m + 1) cap27)))
                    refine hK.out _ _ (fun h => absurd h (by simp)) ?_
                    clear hK K
                    generalize U61.setCell ⟨B, 3, none⟩ (.slice (some ⟨g27, 0, none⟩) (m + 1) cap27) = U62 at *
                    (try simp only [Act.put, List.setIfInBounds_toArray, List.set_cons_zero, List.set_cons_succ])
                    refine tillH_done (by kernel_rfl) ?_ _
                    have hXl : (X ++ [⟨c0, d0, 0, cl, false⟩] : List Cu).length = m + 1 := by simp [hXm]
                    have HF := Lib.hid ((HM.out.more k_d (Nat.le_trans hw0 hd0)).mem (by rw [hXl, List.map_append]; exact k_rc) (by rw [hXl, List.map_append]; exact k_rd))
                    have HG := Lib.hid (HR.out.cursor c0 d0 (fun x hx => by have := HCL.out.1 x hx; omega) (fun x hx => by have := HCL.out.2 x hx; omega))
                    have HM := HF
                    have HR2 := HG
                    have hX9 : (X ++ [⟨c0, d0, 0, cl, false⟩] : List Cu).length ≤ 40 := by omega
                    clear k_rc k_rd k_d HF HG HCL HR
                    go_upto_region 32 with fail
                    have HSAME := same_any _ HM.out HR2.out (by omega) (by first | omega | assumption)
                    go_wp2_with fail
                    refine HSAME.mono ?_
                    rintro e U63 ⟨rfl, bq⟩
                    have HM := Lib.hid (HM.out.below bq)
                    have HF := Lib.hid (show PlayP w0 B T M (j + 1) (.returned (.bool true)) _ from ⟨rfl, _, _, _, _, _, _, _, _, _, _, HM.out, HR2.out, by omega, by omega, (by first | omega | assumption)⟩)
                    clear HSAME bq HM HR2
                    go_wp2
                    go_ret
                    exact HF.out
            · skip
              go_simp
              have ba : Below U50.heap.size U50 (U50.alloc (.cells #[.pointer (some ⟨d0, 0, none⟩)] 81)) := (Below.refl _ _).alloc (Nat.le_refl _) _
              have k_p2 := HM.out.box 81 #[.pointer (some ⟨d0, 0, none⟩)]
              replace k_rc := k_rc.below ba
              replace k_rd := k_rd.below ba
              replace k_d := k_d.below ba
              replace HM := Lib.hid (HM.out.below ba)
              replace hz := Nat.le_trans hz ba.size
              clear ba
              refine hK.out _ _ (fun _ => ⟨by rw [HM.out.bb.blk.cell]; rfl, by rw [HM.out.bb.blk.cell]; rfl, by rw [HM.out.bb.blk.cell]; rfl, by rw [HM.out.bb.blk.cell]; rfl, by rw [HM.out.rt.blk.cell]; rfl⟩) ?_
              clear hK K
              (try simp only [Act.put, List.setIfInBounds_toArray, List.set_cons_zero, List.set_cons_succ])
              generalize U50.alloc (.cells #[.pointer (some ⟨d0, 0, none⟩)] 81) = U64 at *
              generalize U50.heap.size = p2 at *
              refine tillH_next (rs := [11]) (by kernel_rfl) (by simp) ?_
              refine NextH.cons rfl (fun K hK => ?_) NextH.nil
              · skip
                go_simp
                have ba : Below U64.heap.size U64 (U64.alloc (.cells #[.pointer (some ⟨c0, 0, none⟩)] 31)) := (Below.refl _ _).alloc (Nat.le_refl _) _
                have k_p1 := HM.out.box 31 #[.pointer (some ⟨c0, 0, none⟩)]
                replace k_rc := k_rc.below ba
                replace k_rd := k_rd.below ba
                replace k_d := k_d.below ba
                replace k_p2 := k_p2.below ba
                replace HM := Lib.hid (HM.out.below ba)
                replace hz := Nat.le_trans hz ba.size
                clear ba
                refine hK.out _ _ (fun _ => ⟨by rw [HM.out.bb.blk.cell]; rfl, by rw [HM.out.bb.blk.cell]; rfl, by rw [HM.out.bb.blk.cell]; rfl, by rw [HM.out.bb.blk.cell]; rfl, by rw [HM.out.rt.blk.cell]; rfl⟩) ?_
                clear hK K
                (try simp only [Act.put, List.setIfInBounds_toArray, List.set_cons_zero, List.set_cons_succ])
                generalize U64.alloc (.cells #[.pointer (some ⟨c0, 0, none⟩)] 31) = U65 at *
                generalize U64.heap.size = p1 at *
                refine tillH_next (rs := [12]) (by kernel_rfl) (by simp) ?_
                refine NextH.cons rfl (fun K hK => ?_) NextH.nil
                · skip
                  refine step_append_lies _ (by rfl) _ _ _ (by rfl) w0.heap.size 31 iP _ 1 8 Try.underlying30 pi pz0 pz1 pz2 rfl (by decide) _ m _ (by rfl) k_rc.own ⟨p1, 0, none⟩ 1 1 [.pointer (some ⟨c0, 0, none⟩)] (by rfl) rfl (World.news_of_block (cs := #[.pointer (some ⟨c0, 0, none⟩)]) k_p1.blk) (by simp [Value.oneCell']) (by decide) (by unfold maxLen; omega) (by omega) (by have := HM.out.st.bel.size; omega) _ rfl ?_
                  intro g12 cap12 U66 hown hgrow hat hgl
                  replace k_rd := k_rd.push k_rc (by decide) hgrow
                  replace k_d := k_d.push k_rc (by decide) hgrow
                  replace k_p2 := k_p2.push k_rc (by decide) hgrow
                  have hUlt := HM.out.lt
                  replace HM := Lib.hid (HM.out.push k_rc (by decide) (by decide) (by decide) hgrow)
                  replace k_rc := k_rc.grown hUlt hown hat
                  replace hz := Nat.le_trans hz hgrow.size
                  clear hown hgrow hat hgl hUlt
                  refine hK.out _ _ (fun _ => ⟨by rw [HM.out.bb.blk.cell]; rfl, by rw [HM.out.bb.blk.cell]; rfl, by rw [HM.out.bb.blk.cell]; rfl, by rw [HM.out.bb.blk.cell]; rfl, by rw [HM.out.rt.blk.cell]; rfl⟩) ?_
                  clear hK K
                  (try simp only [Act.put, List.setIfInBounds_toArray, List.set_cons_zero, List.set_cons_succ])
                  refine tillH_next (rs := [27]) (by kernel_rfl) (by simp) ?_
                  refine NextH.cons rfl (fun K hK => ?_) NextH.nil
                  · skip
                    refine step_append_lies _ (by rfl) _ _ _ (by rfl) w0.heap.size 81 iR _ 1 8 Try.underlying55 ri rz0 rz1 rz2 rfl (by decide) _ m _ (by rfl) k_rd.own ⟨p2, 0, none⟩ 1 1 [.pointer (some ⟨d0, 0, none⟩)] (by rfl) rfl (World.news_of_block (cs := #[.pointer (some ⟨d0, 0, none⟩)]) k_p2.blk) (by simp [Value.oneCell']) (by decide) (by unfold maxLen; omega) (by omega) (by have := HM.out.st.bel.size; omega) _ rfl ?_
                    intro g27 cap27 U67 hown hgrow hat hgl
                    replace k_rc := k_rc.push k_rd (by decide) hgrow
                    replace k_d := k_d.push k_rd (by decide) hgrow
                    have hUlt := HM.out.lt
                    replace HM := Lib.hid (HM.out.push k_rd (by decide) (by decide) (by decide) hgrow)
                    replace k_rd := k_rd.grown hUlt hown hat
                    replace hz := Nat.le_trans hz hgrow.size
                    clear hown hgrow hat hgl hUlt
                    refine hK.out _ _ (fun _ => ⟨by rw [HM.out.bb.blk.cell]; rfl, by rw [HM.out.bb.blk.cell]; rfl, by rw [HM.out.bb.blk.cell]; rfl, by rw [HM.out.bb.blk.cell]; rfl, by rw [HM.out.rt.blk.cell]; rfl⟩) ?_
                    clear hK K
                    (try simp only [Act.put, List.setIfInBounds_toArray, List.set_cons_zero, List.set_cons_succ])
                    refine tillH_takeAny (i := 28) (oi := ?oo1043) (v := ?vv1043) ?hi1043 (by kernel_rfl) (by kernel_rfl) (by kernel_rfl) ?hq1043 (by kernel_rfl) ?hy1043 (fun _ => ⟨by rw [HM.out.bb.blk.cell]; rfl, by rw [HM.out.bb.blk.cell]; rfl, by rw [HM.out.bb.blk.cell]; rfl, by rw [HM.out.bb.blk.cell]; rfl, by rw [HM.out.rt.blk.cell]; rfl⟩) ?hh1043
                    case hi1043 => (simp only [List.getElem?_toArray, List.getElem?_cons_succ, List.getElem?_cons_zero]; rfl)
                    case hq1043 => exact fun _ _ _ h => h
                    case hy1043 => exact Or.inl ⟨by rfl, by (intro W; go_simp; (try with_reducible rfl))⟩
                    (try simp only [Act.put, List.setIfInBounds_toArray, List.set_cons_zero, List.set_cons_succ])
                    refine tillH_takeAny (i := 29) (oi := ?oo1044) (v := ?vv1044) ?hi1044 (by kernel_rfl) (by kernel_rfl) (by kernel_rfl) ?hq1044 (by kernel_rfl) ?hy1044 (fun _ => ⟨by rw [HM.out.bb.blk.cell]; rfl, by rw [HM.out.bb.blk.cell]; rfl, by rw [HM.out.bb.blk.cell]; rfl, by rw [HM.out.bb.blk.cell]; rfl, by rw [HM.out.rt.blk.cell]; rfl⟩) ?hh1044
                    case hi1044 => (simp only [List.getElem?_toArray, List.getElem?_cons_succ, List.getElem?_cons_zero]; rfl)
                    case hq1044 => exact fun _ _ _ h => h
                    case hy1044 => exact Or.inl ⟨by rfl, by (intro W; go_simp; (try with_reducible rfl))⟩
                    (try simp only [Act.put, List.setIfInBounds_toArray, List.set_cons_zero, List.set_cons_succ])
                    refine tillH_next (rs := [30]) (by kernel_rfl) (by simp) ?_
                    refine NextH.cons rfl (fun K hK => ?_) NextH.nil
                    have x_B : U67.cell? ⟨B, 2, none⟩ = some (.slice AC m capC) := by rw [HM.out.bb.blk.cell]; rfl
                    have z_B := HM.out.bb.blk.frozen 2
                    have l_B := HM.out.bb.blk.lt
                    go_simp
                    clear x_B z_B l_B
                    replace k_rc := k_rc.setB (u' := (.slice (some ⟨g12, 0, none⟩) (m + 1) cap12)) (i := 2) HM.out.bb.blk (by decide)
                    replace k_rd := k_rd.setB (u' := (.slice (some ⟨g12, 0, none⟩) (m + 1) cap12)) (i := 2) HM.out.bb.blk (by decide)
                    replace k_d := k_d.setB (u' := (.slice (some ⟨g12, 0, none⟩) (m + 1) cap12)) (i := 2) HM.out.bb.blk (by decide)
                    replace HM := Lib.hid (HM.out.setC (cv' := (.slice (some ⟨g12, 0, none⟩) (m + 1) cap12)))
                    refine hK.out _ _ (fun h => absurd h (by simp)) ?_
                    clear hK K
                    generalize U67.setCell ⟨B, 2, none⟩ (.slice (some ⟨g12, 0, none⟩) (m + 1) cap12) = U68 at *
                    (try simp only [Act.put, List.setIfInBounds_toArray, List.set_cons_zero, List.set_cons_succ])
                    refine tillH_takeAny (i := 31) (oi := ?oo1045) (v := ?vv1045) ?hi1045 (by kernel_rfl) (by kernel_rfl) (by kernel_rfl) ?hq1045 (by kernel_rfl) ?hy1045 (fun h => absurd h (by simp)) ?hh1045
                    case hi1045 => (simp only [List.getElem?_toArray, List.getElem?_cons_succ, List.getElem?_cons_zero]; rfl)
                    case hq1045 => exact fun _ _ _ h => h
                    case hy1045 => exact Or.inl ⟨by rfl, by (intro W; go_simp; (try with_reducible rfl))⟩
                    (try simp only [Act.put, List.setIfInBounds_toArray, List.set_cons_zero, List.set_cons_succ])
                    refine tillH_takeAny (i := 32) (oi := ?oo1046) (v := ?vv1046) ?hi1046 (by kernel_rfl) (by kernel_rfl) (by kernel_rfl) ?hq1046 (by kernel_rfl) ?hy1046 (fun h => absurd h (by simp)) ?hh1046
                    case hi1046 => (simp only [List.getElem?_toArray, List.getElem?_cons_succ, List.getElem?_cons_zero]; rfl)
                    case hq1046 => exact fun _ _ _ h => h
                    case hy1046 => exact Or.inl ⟨by rfl, by (intro W; go_simp; (try with_reducible rfl))⟩
                    (try simp only [Act.put, List.setIfInBounds_toArray, List.set_cons_zero, List.set_cons_succ])
                    refine tillH_next (rs := [33]) (by kernel_rfl) (by simp) ?_
                    refine NextH.cons rfl (fun K hK => ?_) NextH.nil
                    have x_B : U68.cell? ⟨B, 3, none⟩ = some (dv) := by rw [HM.out.bb.blk.cell]; rfl
                    have z_B := HM.out.bb.blk.frozen 3
                    have l_B := HM.out.bb.blk.lt
                    go_simp
                    clear x_B z_B l_B
                    replace k_rc := k_rc.setB (u' := (.slice (some ⟨g27, 0, none⟩) (m + 1) cap27)) (i := 3) HM.out.bb.blk (by decide)
                    replace k_rd := k_rd.setB (u' := (.slice (some ⟨g27, 0, none⟩) (m + 1) cap27)) (i := 3) HM.out.bb.blk (by decide)
                    replace k_d := k_d.setB (u' := (.slice (some ⟨g27, 0, none⟩) (m + 1) cap27)) (i := 3) HM.out.bb.blk (by decide)
                    replace HM := Lib.hid (HM.out.setD (dv' := (.slice (some ⟨g27, 0, none⟩) (m + 1) cap27)))
                    refine hK.out _ _ (fun h => absurd h (by simp)) ?_
                    clear hK K
                    generalize U68.setCell ⟨B, 3, none⟩ (.slice (some ⟨g27, 0, none⟩) (m + 1) cap27) = U69 at *
                    (try simp only [Act.put, List.setIfInBounds_toArray, List.set_cons_zero, List.set_cons_succ])
                    refine tillH_done (by kernel_rfl) ?_ _
                    have hXl : (X ++ [⟨c0, d0, 0, cl, false⟩] : List Cu).length = m + 1 := by simp [hXm]
                    have HF := Lib.hid ((HM.out.more k_d (Nat.le_trans hw0 hd0)).mem (by rw [hXl, List.map_append]; exact k_rc) (by rw [hXl, List.map_append]; exact k_rd))
                    have HG := Lib.hid (HR.out.cursor c0 d0 (fun x hx => by have := HCL.out.1 x hx; omega) (fun x hx => by have := HCL.out.2 x hx; omega))
                    have HM := HF
                    have HR2 := HG
                    have hX9 : (X ++ [⟨c0, d0, 0, cl, false⟩] : List Cu).length ≤ 40 := by omega
                    clear k_rc k_rd k_d HF HG HCL HR
                    go_upto_region 32 with fail
                    have HSAME := same_any _ HM.out HR2.out (by omega) (by first | omega | assumption)
                    go_wp2_with fail
                    refine HSAME.mono ?_
                    rintro e U70 ⟨rfl, bq⟩
                    have HM := Lib.hid (HM.out.below bq)
                    have HF := Lib.hid (show PlayP w0 B T M (j + 1) (.returned (.bool true)) _ from ⟨rfl, _, _, _, _, _, _, _, _, _, _, HM.out, HR2.out, by omega, by omega, (by first | omega | assumption)⟩)
                    clear HSAME bq HM HR2
                    go_wp2
                    go_ret
                    exact HF.out
        · skip
          go_simp
          have ba : Below D9.heap.size D9 (D9.alloc (.cells #[.int .i64 0, .int .i64 (cl : Int), .bool false] 83)) := (Below.refl _ _).alloc (Nat.le_refl _) _
          have k_d := HM.out.box 83 #[.int .i64 0, .int .i64 (cl : Int), .bool false]
          have hd0 := hz
          replace k_rc := k_rc.below ba
          replace k_rd := k_rd.below ba
          replace HM := Lib.hid (HM.out.below ba)
          replace hz := Nat.le_trans hz ba.size
          clear ba
          refine hK.out _ _ (fun _ => ⟨by rw [HM.out.bb.blk.cell]; rfl, by rw [HM.out.bb.blk.cell]; rfl, by rw [HM.out.bb.blk.cell]; rfl, by rw [HM.out.bb.blk.cell]; rfl, by rw [HM.out.rt.blk.cell]; rfl⟩) ?_
          clear hK K
          (try simp only [Act.put, List.setIfInBounds_toArray, List.set_cons_zero, List.set_cons_succ])
          generalize D9.alloc (.cells #[.int .i64 0, .int .i64 (cl : Int), .bool false] 83) = U71 at *
          generalize D9.heap.size = d0 at *
          refine tillH_next (rs := [10, 26]) (by kernel_rfl) (by simp) ?_
          refine NextH.cons rfl (fun K hK => ?_) (NextH.cons rfl (fun K hK => ?_) NextH.nil)
          · skip
            go_simp
            refine (cursor_st T A D O w0 _ HM.out.st (by omega)).mono ?_
            rintro e U72 ⟨rfl, O2, S2, P2⟩
            have s2 := stp_l (R := R) P2 HM.out.rt.oLt
            have hc0 := hz
            replace hz := Nat.le_trans hz P2.upd.size
            replace k_rc := k_rc.stp s2
            replace k_rd := k_rd.stp s2
            replace k_d := k_d.stp s2
            replace HM := Lib.hid (HM.out.table S2 P2)
            clear s2 S2 P2
            refine hK.out _ _ (fun _ => ⟨by rw [HM.out.bb.blk.cell]; rfl, by rw [HM.out.bb.blk.cell]; rfl, by rw [HM.out.bb.blk.cell]; rfl, by rw [HM.out.bb.blk.cell]; rfl, by rw [HM.out.rt.blk.cell]; rfl⟩) ?_
            clear hK K
            (try simp only [Act.put, List.setIfInBounds_toArray, List.set_cons_zero, List.set_cons_succ])
            generalize U71.heap.size = c0 at *
            refine tillH_next (rs := [11, 26]) (by kernel_rfl) (by simp) ?_
            refine NextH.cons rfl (fun K hK => ?_) (NextH.cons rfl (fun K hK => ?_) NextH.nil)
            · skip
              go_simp
              have ba : Below U72.heap.size U72 (U72.alloc (.cells #[.pointer (some ⟨c0, 0, none⟩)] 31)) := (Below.refl _ _).alloc (Nat.le_refl _) _
              have k_p1 := HM.out.box 31 #[.pointer (some ⟨c0, 0, none⟩)]
              replace k_rc := k_rc.below ba
              replace k_rd := k_rd.below ba
              replace k_d := k_d.below ba
              replace HM := Lib.hid (HM.out.below ba)
              replace hz := Nat.le_trans hz ba.size
              clear ba
              refine hK.out _ _ (fun _ => ⟨by rw [HM.out.bb.blk.cell]; rfl, by rw [HM.out.bb.blk.cell]; rfl, by rw [HM.out.bb.blk.cell]; rfl, by rw [HM.out.bb.blk.cell]; rfl, by rw [HM.out.rt.blk.cell]; rfl⟩) ?_
              clear hK K
              (try simp only [Act.put, List.setIfInBounds_toArray, List.set_cons_zero, List.set_cons_succ])
              generalize U72.alloc (.cells #[.pointer (some ⟨c0, 0, none⟩)] 31) = U73 at *
              generalize U72.heap.size = p1 at *
              refine tillH_next (rs := [12, 26]) (by kernel_rfl) (by simp) ?_
              refine NextH.cons rfl (fun K hK => ?_) (NextH.cons rfl (fun K hK => ?_) NextH.nil)
              · skip
                refine step_append_lies _ (by rfl) _ _ _ (by rfl) w0.heap.size 31 iP _ 1 8 Try.underlying30 pi pz0 pz1 pz2 rfl (by decide) _ m _ (by rfl) k_rc.own ⟨p1, 0, none⟩ 1 1 [.pointer (some ⟨c0, 0, none⟩)] (by rfl) rfl (World.news_of_block (cs := #[.pointer (some ⟨c0, 0, none⟩)]) k_p1.blk) (by simp [Value.oneCell']) (by decide) (by unfold maxLen; omega) (by omega) (by have := HM.out.st.bel.size; omega) _ rfl ?_
                intro g12 cap12 U74 hown hgrow hat hgl
                replace k_rd := k_rd.push k_rc (by decide) hgrow
                replace k_d := k_d.push k_rc (by decide) hgrow
                have hUlt := HM.out.lt
                replace HM := Lib.hid (HM.out.push k_rc (by decide) (by decide) (by decide) hgrow)
                replace k_rc := k_rc.grown hUlt hown hat
                replace hz := Nat.le_trans hz hgrow.size
                clear hown hgrow hat hgl hUlt
                refine hK.out _ _ (fun _ => ⟨by rw [HM.out.bb.blk.cell]; rfl, by rw [HM.out.bb.blk.cell]; rfl, by rw [HM.out.bb.blk.cell]; rfl, by rw [HM.out.bb.blk.cell]; rfl, by rw [HM.out.rt.blk.cell]; rfl⟩) ?_
                clear hK K
                (try simp only [Act.put, List.setIfInBounds_toArray, List.set_cons_zero, List.set_cons_succ])
                refine tillH_next (rs := [26]) (by kernel_rfl) (by simp) ?_
                refine NextH.cons rfl (fun K hK => ?_) NextH.nil
                · skip
                  go_simp
                  have ba : Below U74.heap.size U74 (U74.alloc (.cells #[.pointer (some ⟨d0, 0, none⟩)] 81)) := (Below.refl _ _).alloc (Nat.le_refl _) _
                  have k_p2 := HM.out.box 81 #[.pointer (some ⟨d0, 0, none⟩)]
                  replace k_rc := k_rc.below ba
                  replace k_rd := k_rd.below ba
                  replace k_d := k_d.below ba
                  replace HM := Lib.hid (HM.out.below ba)
                  replace hz := Nat.le_trans hz ba.size
                  clear ba
                  refine hK.out _ _ (fun _ => ⟨by rw [HM.out.bb.blk.cell]; rfl, by rw [HM.out.bb.blk.cell]; rfl, by rw [HM.out.bb.blk.cell]; rfl, by rw [HM.out.bb.blk.cell]; rfl, by rw [HM.out.rt.blk.cell]; rfl⟩) ?_
                  clear hK K
                  (try simp only [Act.put, List.setIfInBounds_toArray, List.set_cons_zero, List.set_cons_succ])
                  generalize U74.alloc (.cells #[.pointer (some ⟨d0, 0, none⟩)] 81) = U75 at *
                  generalize U74.heap.size = p2 at *
                  refine tillH_next (rs := [27]) (by kernel_rfl) (by simp) ?_
                  refine NextH.cons rfl (fun K hK => ?_) NextH.nil
                  · skip
                    refine step_append_lies _ (by rfl) _ _ _ (by rfl) w0.heap.size 81 iR _ 1 8 Try.underlying55 ri rz0 rz1 rz2 rfl (by decide) _ m _ (by rfl) k_rd.own ⟨p2, 0, none⟩ 1 1 [.pointer (some ⟨d0, 0, none⟩)] (by rfl) rfl (World.news_of_block (cs := #[.pointer (some ⟨d0, 0, none⟩)]) k_p2.blk) (by simp [Value.oneCell']) (by decide) (by unfold maxLen; omega) (by omega) (by have := HM.out.st.bel.size; omega) _ rfl ?_
                    intro g27 cap27 U76 hown hgrow hat hgl
                    replace k_rc := k_rc.push k_rd (by decide) hgrow
                    replace k_d := k_d.push k_rd (by decide) hgrow
                    have hUlt := HM.out.lt
                    replace HM := Lib.hid (HM.out.push k_rd (by decide) (by decide) (by decide) hgrow)
                    replace k_rd := k_rd.grown hUlt hown hat
                    replace hz := Nat.le_trans hz hgrow.size
                    clear hown hgrow hat hgl hUlt
                    refine hK.out _ _ (fun _ => ⟨by rw [HM.out.bb.blk.cell]; rfl, by rw [HM.out.bb.blk.cell]; rfl, by rw [HM.out.bb.blk.cell]; rfl, by rw [HM.out.bb.blk.cell]; rfl, by rw [HM.out.rt.blk.cell]; rfl⟩) ?_
                    clear hK K
                    (try simp only [Act.put, List.setIfInBounds_toArray, List.set_cons_zero, List.set_cons_succ])
                    refine tillH_takeAny (i := 28) (oi := ?oo1047) (v := ?vv1047) ?hi1047 (by kernel_rfl) (by kernel_rfl) (by kernel_rfl) ?hq1047 (by kernel_rfl) ?hy1047 (fun _ => ⟨by rw [HM.out.bb.blk.cell]; rfl, by rw [HM.out.bb.blk.cell]; rfl, by rw [HM.out.bb.blk.cell]; rfl, by rw [HM.out.bb.blk.cell]; rfl, by rw [HM.out.rt.blk.cell]; rfl⟩) ?hh1047
                    case hi1047 => (simp only [List.getElem?_toArray, List.getElem?_cons_succ, List.getElem?_cons_zero]; rfl)
                    case hq1047 => exact fun _ _ _ h => h
                    case hy1047 => exact Or.inl ⟨by rfl, by (intro W; go_simp; (try with_reducible rfl))⟩
                    (try simp only [Act.put, List.setIfInBounds_toArray, List.set_cons_zero, List.set_cons_succ])
                    refine tillH_takeAny (i := 29) (oi := ?oo1048) (v := ?vv1048) ?hi1048 (by kernel_rfl) (by kernel_rfl) (by kernel_rfl) ?hq1048 (by kernel_rfl) ?hy1048 (fun _ => ⟨by rw [HM.out.bb.blk.cell]; rfl, by rw [HM.out.bb.blk.cell]; rfl, by rw [HM.out.bb.blk.cell]; rfl, by rw [HM.out.bb.blk.cell]; rfl, by rw [HM.out.rt.blk.cell]; rfl⟩) ?hh1048
                    case hi1048 => (simp only [List.getElem?_toArray, List.getElem?_cons_succ, List.getElem?_cons_zero]; rfl)
                    case hq1048 => exact fun _ _ _ h => h
                    case hy1048 => exact Or.inl ⟨by rfl, by (intro W; go_simp; (try with_reducible rfl))⟩
                    (try simp only [Act.put, List.setIfInBounds_toArray, List.set_cons_zero, List.set_cons_succ])
                    refine tillH_next (rs := [30]) (by kernel_rfl) (by simp) ?_
                    refine NextH.cons rfl (fun K hK => ?_) NextH.nil
                    have x_B : U76.cell? ⟨B, 2, none⟩ = some (.slice AC m capC) := by rw [HM.out.bb.blk.cell]; rfl
                    have z_B := HM.out.bb.blk.frozen 2
                    have l_B := HM.out.bb.blk.lt
                    go_simp
                    clear x_B z_B l_B
                    replace k_rc := k_rc.setB (u' := (.slice (some ⟨g12, 0, none⟩) (m + 1) cap12)) (i := 2) HM.out.bb.blk (by decide)
                    replace k_rd := k_rd.setB (u' := (.slice (some ⟨g12, 0, none⟩) (m + 1) cap12)) (i := 2) HM.out.bb.blk (by decide)
                    replace k_d := k_d.setB (u' := (.slice (some ⟨g12, 0, none⟩) (m + 1) cap12)) (i := 2) HM.out.bb.blk (by decide)
                    replace HM := Lib.hid (HM.out.setC (cv' := (.slice (some ⟨g12, 0, none⟩) (m + 1) cap12)))
                    refine hK.out _ _ (fun h => absurd h (by simp)) ?_
                    clear hK K
                    generalize U76.setCell ⟨B, 2, none⟩ (.slice (some ⟨g12, 0, none⟩) (m + 1) cap12) = U77 at *
                    (try simp only [Act.put, List.setIfInBounds_toArray, List.set_cons_zero, List.set_cons_succ])
                    refine tillH_takeAny (i := 31) (oi := ?oo1049) (v := ?vv1049) ?hi1049 (by kernel_rfl) (by kernel_rfl) (by kernel_rfl) ?hq1049 (by kernel_rfl) ?hy1049 (fun h => absurd h (by simp)) ?hh1049
                    case hi1049 => (simp only [List.getElem?_toArray, List.getElem?_cons_succ, List.getElem?_cons_zero]; rfl)
                    case hq1049 => exact fun _ _ _ h => h
                    case hy1049 => exact Or.inl ⟨by rfl, by (intro W; go_simp; (try with_reducible rfl))⟩
                    (try simp only [Act.put, List.setIfInBounds_toArray, List.set_cons_zero, List.set_cons_succ])
                    refine tillH_takeAny (i := 32) (oi := ?oo1050) (v := ?vv1050) ?hi1050 (by kernel_rfl) (by kernel_rfl) (by kernel_rfl) ?hq1050 (by kernel_rfl) ?hy1050 (fun h => absurd h (by simp)) ?hh1050
                    case hi1050 => (simp only [List.getElem?_toArray, List.getElem?_cons_succ, List.getElem?_cons_zero]; rfl)
                    case hq1050 => exact fun _ _ _ h => h
                    case hy1050 => exact Or.inl ⟨by rfl, by (intro W; go_simp; (try with_reducible rfl))⟩
                    (try simp only [Act.put, List.setIfInBounds_toArray, List.set_cons_zero, List.set_cons_succ])
                    refine tillH_next (rs := [33]) (by kernel_rfl) (by simp) ?_
                    refine NextH.cons rfl (fun K hK => ?_) NextH.nil
                    have x_B : U77.cell? ⟨B, 3, none⟩ = some (dv) := by rw [HM.out.bb.blk.cell]; rfl
                    have z_B := HM.out.bb.blk.frozen 3
                    have l_B := HM.out.bb.blk.lt
                    go_simp
                    clear x_B z_B l_B
                    replace k_rc := k_rc.setB (u' := (.slice (some ⟨g27, 0, none⟩) (m + 1) cap27)) (i := 3) HM.out.bb.blk (by decide)
                    replace k_rd := k_rd.setB (u' := (.slice (some ⟨g27, 0, none⟩) (m + 1) cap27)) (i := 3) HM.out.bb.blk (by decide)
                    replace k_d := k_d.setB (u' := (.slice (some ⟨g27, 0, none⟩) (m + 1) cap27)) (i := 3) HM.out.bb.blk (by decide)
                    replace HM := Lib.hid (HM.out.setD (dv' := (.slice (some ⟨g27, 0, none⟩) (m + 1) cap27)))
                    refine hK.out _ _ (fun h => absurd h (by simp)) ?_
                    clear hK K
                    generalize U77.setCell ⟨B, 3, none⟩ (.slice (some ⟨g27, 0, none⟩) (m + 1) cap27) = U78 at *
                    (try simp only [Act.put, List.setIfInBounds_toArray, List.set_cons_zero, List.set_cons_succ])
                    refine tillH_done (by kernel_rfl) ?_ _
                    have hXl : (X ++ [⟨c0, d0, 0, cl, false⟩] : List Cu).length = m + 1 := by simp [hXm]
                    have HF := Lib.hid ((HM.out.more k_d (Nat.le_trans hw0 hd0)).mem (by rw [hXl, List.map_append]; exact k_rc) (by rw [hXl, List.map_append]; exact k_rd))
                    have HG := Lib.hid (HR.out.cursor c0 d0 (fun x hx => by have := HCL.out.1 x hx; omega) (fun x hx => by have := HCL.out.2 x hx; omega))
                    have HM := HF
                    have HR2 := HG
                    have hX9 : (X ++ [⟨c0, d0, 0, cl, false⟩] : List Cu).length ≤ 40 := by omega
                    clear k_rc k_rd k_d HF HG HCL HR
                    go_upto_region 32 with fail
                    have HSAME := same_any _ HM.out HR2.out (by omega) (by first | omega | assumption)
                    go_wp2_with fail
                    refine HSAME.mono ?_
                    rintro e U79 ⟨rfl, bq⟩
                    have HM := Lib.hid (HM.out.below bq)
                    have HF := Lib.hid (show PlayP w0 B T M (j + 1) (.returned (.bool true)) _ from ⟨rfl, _, _, _, _, _, _, _, _, _, _, HM.out, HR2.out, by omega, by omega, (by first | omega | assumption)⟩)
                    clear HSAME bq HM HR2
                    go_wp2
                    go_ret
                    exact HF.out
              · skip
                go_simp
                have ba : Below U73.heap.size U73 (U73.alloc (.cells #[.pointer (some ⟨d0, 0, none⟩)] 81)) := (Below.refl _ _).alloc (Nat.le_refl _) _
                have k_p2 := HM.out.box 81 #[.pointer (some ⟨d0, 0, none⟩)]
                replace k_rc := k_rc.below ba
                replace k_rd := k_rd.below ba
                replace k_p1 := k_p1.below ba
                replace k_d := k_d.below ba
                replace HM := Lib.hid (HM.out.below ba)
                replace hz := Nat.le_trans hz ba.size
                clear ba
                refine hK.out _ _ (fun _ => ⟨by rw [HM.out.bb.blk.cell]; rfl, by rw [HM.out.bb.blk.cell]; rfl, by rw [HM.out.bb.blk.cell]; rfl, by rw [HM.out.bb.blk.cell]; rfl, by rw [HM.out.rt.blk.cell]; rfl⟩) ?_
                clear hK K
                (try simp only [Act.put, List.setIfInBounds_toArray, List.set_cons_zero, List.set_cons_succ])
                generalize U73.alloc (.cells #[.pointer (some ⟨d0, 0, none⟩)] 81) = U80 at *
                generalize U73.heap.size = p2 at *
                refine tillH_next (rs := [12]) (by kernel_rfl) (by simp) ?_
                refine NextH.cons rfl (fun K hK => ?_) NextH.nil
                · skip
                  refine step_append_lies _ (by rfl) _ _ _ (by rfl) w0.heap.size 31 iP _ 1 8 Try.underlying30 pi pz0 pz1 pz2 rfl (by decide) _ m _ (by rfl) k_rc.own ⟨p1, 0, none⟩ 1 1 [.pointer (some ⟨c0, 0, none⟩)] (by rfl) rfl (World.news_of_block (cs := #[.pointer (some ⟨c0, 0, none⟩)]) k_p1.blk) (by simp [Value.oneCell']) (by decide) (by unfold maxLen; omega) (by omega) (by have := HM.out.st.bel.size; omega) _ rfl ?_
                  intro g12 cap12 U81 hown hgrow hat hgl
                  replace k_rd := k_rd.push k_rc (by decide) hgrow
                  replace k_d := k_d.push k_rc (by decide) hgrow
                  replace k_p2 := k_p2.push k_rc (by decide) hgrow
                  have hUlt := HM.out.lt
                  replace HM := Lib.hid (HM.out.push k_rc (by decide) (by decide) (by decide) hgrow)
                  replace k_rc := k_rc.grown hUlt hown hat
                  replace hz := Nat.le_trans hz hgrow.size
                  clear hown hgrow hat hgl hUlt
                  refine hK.out _ _ (fun _ => ⟨by rw [HM.out.bb.blk.cell]; rfl, by rw [HM.out.bb.blk.cell]; rfl, by rw [HM.out.bb.blk.cell]; rfl, by rw [HM.out.bb.blk.cell]; rfl, by rw [HM.out.rt.blk.cell]; rfl⟩) ?_
                  clear hK K
                  (try simp only [Act.put, List.setIfInBounds_toArray, List.set_cons_zero, List.set_cons_succ])
                  refine tillH_next (rs := [27]) (by kernel_rfl) (by simp) ?_
                  refine NextH.cons rfl (fun K hK => ?_) NextH.nil
                  · skip
                    refine step_append_lies _ (by rfl) _ _ _ (by rfl) w0.heap.size 81 iR _ 1 8 Try.underlying55 ri rz0 rz1 rz2 rfl (by decide) _ m _ (by rfl) k_rd.own ⟨p2, 0, none⟩ 1 1 [.pointer (some ⟨d0, 0, none⟩)] (by rfl) rfl (World.news_of_block (cs := #[.pointer (some ⟨d0, 0, none⟩)]) k_p2.blk) (by simp [Value.oneCell']) (by decide) (by unfold maxLen; omega) (by omega) (by have := HM.out.st.bel.size; omega) _ rfl ?_
                    intro g27 cap27 U82 hown hgrow hat hgl
                    replace k_rc := k_rc.push k_rd (by decide) hgrow
                    replace k_d := k_d.push k_rd (by decide) hgrow
                    have hUlt := HM.out.lt
                    replace HM := Lib.hid (HM.out.push k_rd (by decide) (by decide) (by decide) hgrow)
                    replace k_rd := k_rd.grown hUlt hown hat
                    replace hz := Nat.le_trans hz hgrow.size
                    clear hown hgrow hat hgl hUlt
                    refine hK.out _ _ (fun _ => ⟨by rw [HM.out.bb.blk.cell]; rfl, by rw [HM.out.bb.blk.cell]; rfl, by rw [HM.out.bb.blk.cell]; rfl, by rw [HM.out.bb.blk.cell]; rfl, by rw [HM.out.rt.blk.cell]; rfl⟩) ?_
                    clear hK K
                    (try simp only [Act.put, List.setIfInBounds_toArray, List.set_cons_zero, List.set_cons_succ])
                    refine tillH_takeAny (i := 28) (oi := ?oo1051) (v := ?vv1051) ?hi1051 (by kernel_rfl) (by kernel_rfl) (by kernel_rfl) ?hq1051 (by kernel_rfl) ?hy1051 (fun _ => ⟨by rw [HM.out.bb.blk.cell]; rfl, by rw [HM.out.bb.blk.cell]; rfl, by rw [HM.out.bb.blk.cell]; rfl, by rw [HM.out.bb.blk.cell]; rfl, by rw [HM.out.rt.blk.cell]; rfl⟩) ?hh1051
                    case hi1051 => (simp only [List.getElem?_toArray, List.getElem?_cons_succ, List.getElem?_cons_zero]; rfl)
                    case hq1051 => exact fun _ _ _ h => h
                    case hy1051 => exact Or.inl ⟨by rfl, by (intro W; go_simp; (try with_reducible rfl))⟩
                    (try simp only [Act.put, List.setIfInBounds_toArray, List.set_cons_zero, List.set_cons_succ])
                    refine tillH_takeAny (i := 29) (oi := ?oo1052) (v := ?vv1052) ?hi1052 (by kernel_rfl) (by kernel_rfl) (by kernel_rfl) ?hq1052 (by kernel_rfl) ?hy1052 (fun _ => ⟨by rw [HM.out.bb.blk.cell]; rfl, by rw [HM.out.bb.blk.cell]; rfl, by rw [HM.out.bb.blk.cell]; rfl, by rw [HM.out.bb.blk.cell]; rfl, by rw [HM.out.rt.blk.cell]; rfl⟩) ?hh1052
                    case hi1052 => (simp only [List.getElem?_toArray, List.getElem?_cons_succ, List.getElem?_cons_zero]; rfl)
                    case hq1052 => exact fun _ _ _ h => h
                    case hy1052 => exact Or.inl ⟨by rfl, by (intro W; go_simp; (try with_reducible rfl))⟩
                    (try simp only [Act.put, List.setIfInBounds_toArray, List.set_cons_zero, List.set_cons_succ])
                    refine tillH_next (rs := [30]) (by kernel_rfl) (by simp) ?_
                    refine NextH.cons rfl (fun K hK => ?_) NextH.nil
                    have x_B : U82.cell? ⟨B, 2, none⟩ = some (.slice AC m capC) := by rw [HM.out.bb.blk.cell]; rfl
                    have z_B := HM.out.bb.blk.frozen 2
                    have l_B := HM.out.bb.blk.lt
                    go_simp
                    clear x_B z_B l_B
                    replace k_rc := k_rc.setB (u' := (.slice (some ⟨g12, 0, none⟩) (m + 1) cap12)) (i := 2) HM.out.bb.blk (by decide)
                    replace k_rd := k_rd.setB (u' := (.slice (some ⟨g12, 0, none⟩) (m + 1) cap12)) (i := 2) HM.out.bb.blk (by decide)
                    replace k_d := k_d.setB (u' := (.slice (some ⟨g12, 0, none⟩) (m + 1) cap12)) (i := 2) HM.out.bb.blk (by decide)
                    replace HM := Lib.hid (HM.out.setC (cv' := (.slice (some ⟨g12, 0, none⟩) (m + 1) cap12)))
                    refine hK.out _ _ (fun h => absurd h (by simp)) ?_
                    clear hK K
                    generalize U82.setCell ⟨B, 2, none⟩ (.slice (some ⟨g12, 0, none⟩) (m + 1) cap12) = U83 at *
                    (try simp only [Act.put, List.setIfInBounds_toArray, List.set_cons_zero, List.set_cons_succ])
                    refine tillH_takeAny (i := 31) (oi := ?oo1053) (v := ?vv1053) ?hi1053 (by kernel_rfl) (by kernel_rfl) (by kernel_rfl) ?hq1053 (by kernel_rfl) ?hy1053 (fun h => absurd h (by simp)) ?hh1053
                    case hi1053 => (simp only [List.getElem?_toArray, List.getElem?_cons_succ, List.getElem?_cons_zero]; rfl)
                    case hq1053 => exact fun _ _ _ h => h
                    case hy1053 => exact Or.inl ⟨by rfl, by (intro W; go_simp; (try with_reducible rfl))⟩
                    (try simp only [Act.put, List.setIfInBounds_toArray, List.set_cons_zero, List.set_cons_succ])
                    refine tillH_takeAny (i := 32) (oi := ?oo1054) (v := ?vv1054) ?hi1054 (by kernel_rfl) (by kernel_rfl) (by kernel_rfl) ?hq1054 (by kernel_rfl) ?hy1054 (fun h => absurd h (by simp)) ?hh1054
                    case hi1054 => (simp only [List.getElem?_toArray, List.getElem?_cons_succ, List.getElem?_cons_zero]; rfl)
                    case hq1054 => exact fun _ _ _ h => h
                    case hy1054 => exact Or.inl ⟨by rfl, by (intro W; go_simp; (try with_reducible rfl))⟩
                    (try simp only [Act.put, List.setIfInBounds_toArray, List.set_cons_zero, List.set_cons_succ])
                    refine tillH_next (rs := [33]) (by kernel_rfl) (by simp) ?_
                    refine NextH.cons rfl (fun K hK => ?_) NextH.nil
                    have x_B : U83.cell? ⟨B, 3, none⟩ = some (dv) := by rw [HM.out.bb.blk.cell]; rfl
                    have z_B := HM.out.bb.blk.frozen 3
                    have l_B := HM.out.bb.blk.lt
                    go_simp
                    clear x_B z_B l_B
                    replace k_rc := k_rc.setB (u' := (.slice (some ⟨g27, 0, none⟩) (m + 1) cap27)) (i := 3) HM.out.bb.blk (by decide)
                    replace k_rd := k_rd.setB (u' := (.slice (some ⟨g27, 0, none⟩) (m + 1) cap27)) (i := 3) HM.out.bb.blk (by decide)
                    replace k_d := k_d.setB (u' := (.slice (some ⟨g27, 0, none⟩) (m + 1) cap27)) (i := 3) HM.out.bb.blk (by decide)
                    replace HM := Lib.hid (HM.out.setD (dv' := (.slice (some ⟨g27, 0, none⟩) (m + 1) cap27)))
                    refine hK.out _ _ (fun h => absurd h (by simp)) ?_
                    clear hK K
                    generalize U83.setCell ⟨B, 3, none⟩ (.slice (some ⟨g27, 0, none⟩) (m + 1) cap27) = U84 at *
                    (try simp only [Act.put, List.setIfInBounds_toArray, List.set_cons_zero, List.set_cons_succ])
                    refine tillH_done (by kernel_rfl) ?_ _
                    have hXl : (X ++ [⟨c0, d0, 0, cl, false⟩] : List Cu).length = m + 1 := by simp [hXm]
                    have HF := Lib.hid ((HM.out.more k_d (Nat.le_trans hw0 hd0)).mem (by rw [hXl, List.map_append]; exact k_rc) (by rw [hXl, List.map_append]; exact k_rd))
                    have HG := Lib.hid (HR.out.cursor c0 d0 (fun x hx => by have := HCL.out.1 x hx; omega) (fun x hx => by have := HCL.out.2 x hx; omega))
                    have HM := HF
                    have HR2 := HG
                    have hX9 : (X ++ [⟨c0, d0, 0, cl, false⟩] : List Cu).length ≤ 40 := by omega
                    clear k_rc k_rd k_d HF HG HCL HR
                    go_upto_region 32 with fail
                    have HSAME := same_any _ HM.out HR2.out (by omega) (by first | omega | assumption)
                    go_wp2_with fail
                    refine HSAME.mono ?_
                    rintro e U85 ⟨rfl, bq⟩
                    have HM := Lib.hid (HM.out.below bq)
                    have HF := Lib.hid (show PlayP w0 B T M (j + 1) (.returned (.bool true)) _ from ⟨rfl, _, _, _, _, _, _, _, _, _, _, HM.out, HR2.out, by omega, by omega, (by first | omega | assumption)⟩)
                    clear HSAME bq HM HR2
                    go_wp2
                    go_ret
                    exact HF.out
            · skip
              go_simp
              have ba : Below U72.heap.size U72 (U72.alloc (.cells #[.pointer (some ⟨d0, 0, none⟩)] 81)) := (Below.refl _ _).alloc (Nat.le_refl _) _
              have k_p2 := HM.out.box 81 #[.pointer (some ⟨d0, 0, none⟩)]
              replace k_rc := k_rc.below ba
              replace k_rd := k_rd.below ba
              replace k_d := k_d.below ba
              replace HM := Lib.hid (HM.out.below ba)
              replace hz := Nat.le_trans hz ba.size
              clear ba
              refine hK.out _ _ (fun _ => ⟨by rw [HM.out.bb.blk.cell]; rfl, by rw [HM.out.bb.blk.cell]; rfl, by rw [HM.out.bb.blk.cell]; rfl, by rw [HM.out.bb.blk.cell]; rfl, by rw [HM.out.rt.blk.cell]; rfl⟩) ?_
              clear hK K
              (try simp only [Act.put, List.setIfInBounds_toArray, List.set_cons_zero, List.set_cons_succ])
              generalize U72.alloc (.cells #[.pointer (some ⟨d0, 0, none⟩)] 81) = U86 at *
              generalize U72.heap.size = p2 at *
              refine tillH_next (rs := [11]) (by kernel_rfl) (by simp) ?_
              refine NextH.cons rfl (fun K hK => ?_) NextH.nil
              · skip
                go_simp
                have ba : Below U86.heap.size U86 (U86.alloc (.cells #[.pointer (some ⟨c0, 0, none⟩)] 31)) := (Below.refl _ _).alloc (Nat.le_refl _) _
                have k_p1 := HM.out.box 31 #[.pointer (some ⟨c0, 0, none⟩)]
                replace k_rc := k_rc.below ba
                replace k_rd := k_rd.below ba
                replace k_d := k_d.below ba
                replace k_p2 := k_p2.below ba
                replace HM := Lib.hid (HM.out.below ba)
                replace hz := Nat.le_trans hz ba.size
                clear ba
                refine hK.out _ _ (fun _ => ⟨by rw [HM.out.bb.blk.cell]; rfl, by rw [HM.out.bb.blk.cell]; rfl, by rw [HM.out.bb.blk.cell]; rfl, by rw [HM.out.bb.blk.cell]; rfl, by rw [HM.out.rt.blk.cell]; rfl⟩) ?_
                clear hK K
                (try simp only [Act.put, List.setIfInBounds_toArray, List.set_cons_zero, List.set_cons_succ])
                generalize U86.alloc (.cells #[.pointer (some ⟨c0, 0, none⟩)] 31) = U87 at *
                generalize U86.heap.size = p1 at *
                refine tillH_next (rs := [12]) (by kernel_rfl) (by simp) ?_
                refine NextH.cons rfl (fun K hK => ?_) NextH.nil
                · skip
                  refine step_append_lies _ (by rfl) _ _ _ (by rfl) w0.heap.size 31 iP _ 1 8 Try.underlying30 pi pz0 pz1 pz2 rfl (by decide) _ m _ (by rfl) k_rc.own ⟨p1, 0, none⟩ 1 1 [.pointer (some ⟨c0, 0, none⟩)] (by rfl) rfl (World.news_of_block (cs := #[.pointer (some ⟨c0, 0, none⟩)]) k_p1.blk) (by simp [Value.oneCell']) (by decide) (by unfold maxLen; omega) (by omega) (by have := HM.out.st.bel.size; omega) _ rfl ?_
                  intro g12 cap12 U88 hown hgrow hat hgl
                  replace k_rd := k_rd.push k_rc (by decide) hgrow
                  replace k_d := k_d.push k_rc (by decide) hgrow
                  replace k_p2 := k_p2.push k_rc (by decide) hgrow
                  have hUlt := HM.out.lt
                  replace HM := Lib.hid (HM.out.push k_rc (by decide) (by decide) (by decide) hgrow)
                  replace k_rc := k_rc.grown hUlt hown hat
                  replace hz := Nat.le_trans hz hgrow.size
                  clear hown hgrow hat hgl hUlt
                  refine hK.out _ _ (fun _ => ⟨by rw [HM.out.bb.blk.cell]; rfl, by rw [HM.out.bb.blk.cell]; rfl, by rw [HM.out.bb.blk.cell]; rfl, by rw [HM.out.bb.blk.cell]; rfl, by rw [HM.out.rt.blk.cell]; rfl⟩) ?_
                  clear hK K
                  (try simp only [Act.put, List.setIfInBounds_toArray, List.set_cons_zero, List.set_cons_succ])
                  refine tillH_next (rs := [27]) (by kernel_rfl) (by simp) ?_
                  refine NextH.cons rfl (fun K hK => ?_) NextH.nil
                  · skip
                    refine step_append_lies _ (by rfl) _ _ _ (by rfl) w0.heap.size 81 iR _ 1 8 Try.underlying55 ri rz0 rz1 rz2 rfl (by decide) _ m _ (by rfl) k_rd.own ⟨p2, 0, none⟩ 1 1 [.pointer (some ⟨d0, 0, none⟩)] (by rfl) rfl (World.news_of_block (cs := #[.pointer (some ⟨d0, 0, none⟩)]) k_p2.blk) (by simp [Value.oneCell']) (by decide) (by unfold maxLen; omega) (by omega) (by have := HM.out.st.bel.size; omega) _ rfl ?_
                    intro g27 cap27 U89 hown hgrow hat hgl
                    replace k_rc := k_rc.push k_rd (by decide) hgrow
                    replace k_d := k_d.push k_rd (by decide) hgrow
                    have hUlt := HM.out.lt
                    replace HM := Lib.hid (HM.out.push k_rd (by decide) (by decide) (by decide) hgrow)
                    replace k_rd := k_rd.grown hUlt hown hat
                    replace hz := Nat.le_trans hz hgrow.size
                    clear hown hgrow hat hgl hUlt
                    refine hK.out _ _ (fun _ => ⟨by rw [HM.out.bb.blk.cell]; rfl, by rw [HM.out.bb.blk.cell]; rfl, by rw [HM.out.bb.blk.cell]; rfl, by rw [HM.out.bb.blk.cell]; rfl, by rw [HM.out.rt.blk.cell]; rfl⟩) ?_
                    clear hK K
                    (try simp only [Act.put, List.setIfInBounds_toArray, List.set_cons_zero, List.set_cons_succ])
                    refine tillH_takeAny (i := 28) (oi := ?oo1055) (v := ?vv1055) ?hi1055 (by kernel_rfl) (by kernel_rfl) (by kernel_rfl) ?hq1055 (by kernel_rfl) ?hy1055 (fun _ => ⟨by rw [HM.out.bb.blk.cell]; rfl, by rw [HM.out.bb.blk.cell]; rfl, by rw [HM.out.bb.blk.cell]; rfl, by rw [HM.out.bb.blk.cell]; rfl, by rw [HM.out.rt.blk.cell]; rfl⟩) ?hh1055
                    case hi1055 => (simp only [List.getElem?_toArray, List.getElem?_cons_succ, List.getElem?_cons_zero]; rfl)
                    case hq1055 => exact fun _ _ _ h => h
                    case hy1055 => exact Or.inl ⟨by rfl, by (intro W; go_simp; (try with_reducible rfl))⟩
                    (try simp only [Act.put, List.setIfInBounds_toArray, List.set_cons_zero, List.set_cons_succ])
                    refine tillH_takeAny (i := 29) (oi := ?oo1056) (v := ?vv1056) ?hi1056 (by kernel_rfl) (by kernel_rfl) (by kernel_rfl) ?hq1056 (by kernel_rfl) ?hy1056 (fun _ => ⟨by rw [HM.out.bb.blk.cell]; rfl, by rw [HM.out.bb.blk.cell]; rfl, by rw [HM.out.bb.blk.cell]; rfl, by rw [HM.out.bb.blk.cell]; rfl, by rw [HM.out.rt.blk.cell]; rfl⟩) ?hh1056
                    case hi1056 => (simp only [List.getElem?_toArray, List.getElem?_cons_succ, List.getElem?_cons_zero]; rfl)
                    case hq1056 => exact fun _ _ _ h => h
                    case hy1056 => exact Or.inl ⟨by rfl, by (intro W; go_simp; (try with_reducible rfl))⟩
                    (try simp only [Act.put, List.setIfInBounds_toArray, List.set_cons_zero, List.set_cons_succ])
                    refine tillH_next (rs := [30]) (by kernel_rfl) (by simp) ?_
                    refine NextH.cons rfl (fun K hK => ?_) NextH.nil
                    have x_B : U89.cell? ⟨B, 2, none⟩ = some (.slice AC m capC) := by rw [HM.out.bb.blk.cell]; rfl
                    have z_B := HM.out.bb.blk.frozen 2
                    have l_B := HM.out.bb.blk.lt
                    go_simp
                    clear x_B z_B l_B
                    replace k_rc := k_rc.setB (u' := (.slice (some ⟨g12, 0, none⟩) (m + 1) cap12)) (i := 2) HM.out.bb.blk (by decide)
                    replace k_rd := k_rd.setB (u' := (.slice (some ⟨g12, 0, none⟩) (m + 1) cap12)) (i := 2) HM.out.bb.blk (by decide)
                    replace k_d := k_d.setB (u' := (.slice (some ⟨g12, 0, none⟩) (m + 1) cap12)) (i := 2) HM.out.bb.blk (by decide)
                    replace HM := Lib.hid (HM.out.setC (cv' := (.slice (some ⟨g12, 0, none⟩) (m + 1) cap12)))
                    refine hK.out _ _ (fun h => absurd h (by simp)) ?_
                    clear hK K
                    generalize U89.setCell ⟨B, 2, none⟩ (.slice (some ⟨g12, 0, none⟩) (m + 1) cap12) = U90 at *
                    (try simp only [Act.put, List.setIfInBounds_toArray, List.set_cons_zero, List.set_cons_succ])
                    refine tillH_takeAny (i := 31) (oi := ?oo1057) (v := ?vv1057) ?hi1057 (by kernel_rfl) (by kernel_rfl) (by kernel_rfl) ?hq1057 (by kernel_rfl) ?hy1057 (fun h => absurd h (by simp)) ?hh1057
                    case hi1057 => (simp only [List.getElem?_toArray, List.getElem?_cons_succ, List.getElem?_cons_zero]; rfl)
                    case hq1057 => exact fun _ _ _ h => h
                    case hy1057 => exact Or.inl ⟨by rfl, by (intro W; go_simp; (try with_reducible rfl))⟩
                    (try simp only [Act.put, List.setIfInBounds_toArray, List.set_cons_zero, List.set_cons_succ])
                    refine tillH_takeAny (i := 32) (oi := ?oo1058) (v := ?vv1058) ?hi1058 (by kernel_rfl) (by kernel_rfl) (by kernel_rfl) ?hq1058 (by kernel_rfl) ?hy1058 (fun h => absurd h (by simp)) ?hh1058
                    case hi1058 => (simp only [List.getElem?_toArray, List.getElem?_cons_succ, List.getElem?_cons_zero]; rfl)
                    case hq1058 => exact fun _ _ _ h => h
                    case hy1058 => exact Or.inl ⟨by rfl, by (intro W; go_simp; (try with_reducible rfl))⟩
                    (try simp only [Act.put, List.setIfInBounds_toArray, List.set_cons_zero, List.set_cons_succ])
                    refine tillH_next (rs := [33]) (by kernel_rfl) (by simp) ?_
                    refine NextH.cons rfl (fun K hK => ?_) NextH.nil
                    have x_B : U90.cell? ⟨B, 3, none⟩ = some (dv) := by rw [HM.out.bb.blk.cell]; rfl
                    have z_B := HM.out.bb.blk.frozen 3
                    have l_B := HM.out.bb.blk.lt
                    go_simp
                    clear x_B z_B l_B
                    replace k_rc := k_rc.setB (u' := (.slice (some ⟨g27, 0, none⟩) (m + 1) cap27)) (i := 3) HM.out.bb.blk (by decide)
                    replace k_rd := k_rd.setB (u' := (.slice (some ⟨g27, 0, none⟩) (m + 1) cap27)) (i := 3) HM.out.bb.blk (by decide)
                    replace k_d := k_d.setB (u' := (.slice (some ⟨g27, 0, none⟩) (m + 1) cap27)) (i := 3) HM.out.bb.blk (by decide)
                    replace HM := Lib.hid (HM.out.setD (dv' := (.slice (some ⟨g27, 0, none⟩) (m + 1) cap27)))
                    refine hK.out _ _ (fun h => absurd h (by simp)) ?_
                    clear hK K
                    generalize U90.setCell ⟨B, 3, none⟩ (.slice (some ⟨g27, 0, none⟩) (m + 1) cap27) = U91 at *
                    (try simp only [Act.put, List.setIfInBounds_toArray, List.set_cons_zero, List.set_cons_succ])
                    refine tillH_done (by kernel_rfl) ?_ _
                    have hXl : (X ++ [⟨c0, d0, 0, cl, false⟩] : List Cu).length = m + 1 := by simp [hXm]
                    have HF := Lib.hid ((HM.out.more k_d (Nat.le_trans hw0 hd0)).mem (by rw [hXl, List.map_append]; exact k_rc) (by rw [hXl, List.map_append]; exact k_rd))
                    have HG := Lib.hid (HR.out.cursor c0 d0 (fun x hx => by have := HCL.out.1 x hx; omega) (fun x hx => by have := HCL.out.2 x hx; omega))
                    have HM := HF
                    have HR2 := HG
                    have hX9 : (X ++ [⟨c0, d0, 0, cl, false⟩] : List Cu).length ≤ 40 := by omega
                    clear k_rc k_rd k_d HF HG HCL HR
                    go_upto_region 32 with fail
                    have HSAME := same_any _ HM.out HR2.out (by omega) (by first | omega | assumption)
                    go_wp2_with fail
                    refine HSAME.mono ?_
                    rintro e U92 ⟨rfl, bq⟩
                    have HM := Lib.hid (HM.out.below bq)
                    have HF := Lib.hid (show PlayP w0 B T M (j + 1) (.returned (.bool true)) _ from ⟨rfl, _, _, _, _, _, _, _, _, _, _, HM.out, HR2.out, by omega, by omega, (by first | omega | assumption)⟩)
                    clear HSAME bq HM HR2
                    go_wp2
                    go_ret
                    exact HF.out
          · skip
            go_simp
            have ba : Below U71.heap.size U71 (U71.alloc (.cells #[.pointer (some ⟨d0, 0, none⟩)] 81)) := (Below.refl _ _).alloc (Nat.le_refl _) _
            have k_p2 := HM.out.box 81 #[.pointer (some ⟨d0, 0, none⟩)]
            replace k_rc := k_rc.below ba
            replace k_rd := k_rd.below ba
            replace k_d := k_d.below ba
            replace HM := Lib.hid (HM.out.below ba)
            replace hz := Nat.le_trans hz ba.size
            clear ba
            refine hK.out _ _ (fun _ => ⟨by rw [HM.out.bb.blk.cell]; rfl, by rw [HM.out.bb.blk.cell]; rfl, by rw [HM.out.bb.blk.cell]; rfl, by rw [HM.out.bb.blk.cell]; rfl, by rw [HM.out.rt.blk.cell]; rfl⟩) ?_
            clear hK K
            (try simp only [Act.put, List.setIfInBounds_toArray, List.set_cons_zero, List.set_cons_succ])
            generalize U71.alloc (.cells #[.pointer (some ⟨d0, 0, none⟩)] 81) = U93 at *
            generalize U71.heap.size = p2 at *
            refine tillH_next (rs := [10]) (by kernel_rfl) (by simp) ?_
            refine NextH.cons rfl (fun K hK => ?_) NextH.nil
            · skip
              go_simp
              refine (cursor_st T A D O w0 _ HM.out.st (by omega)).mono ?_
              rintro e U94 ⟨rfl, O2, S2, P2⟩
              have s2 := stp_l (R := R) P2 HM.out.rt.oLt
              have hc0 := hz
              replace hz := Nat.le_trans hz P2.upd.size
              replace k_rc := k_rc.stp s2
              replace k_rd := k_rd.stp s2
              replace k_d := k_d.stp s2
              replace k_p2 := k_p2.stp s2
              replace HM := Lib.hid (HM.out.table S2 P2)
              clear s2 S2 P2
              refine hK.out _ _ (fun _ => ⟨by rw [HM.out.bb.blk.cell]; rfl, by rw [HM.out.bb.blk.cell]; rfl, by rw [HM.out.bb.blk.cell]; rfl, by rw [HM.out.bb.blk.cell]; rfl, by rw [HM.out.rt.blk.cell]; rfl⟩) ?_
              clear hK K
              (try simp only [Act.put, List.setIfInBounds_toArray, List.set_cons_zero, List.set_cons_succ])
              generalize U93.heap.size = c0 at *
              refine tillH_next (rs := [11]) (by kernel_rfl) (by simp) ?_
              refine NextH.cons rfl (fun K hK => ?_) NextH.nil
              · skip
                go_simp
                have ba : Below U94.heap.size U94 (U94.alloc (.cells #[.pointer (some ⟨c0, 0, none⟩)] 31)) := (Below.refl _ _).alloc (Nat.le_refl _) _
                have k_p1 := HM.out.box 31 #[.pointer (some ⟨c0, 0, none⟩)]
                replace k_rc := k_rc.below ba
                replace k_rd := k_rd.below ba
                replace k_d := k_d.below ba
                replace k_p2 := k_p2.below ba
                replace HM := Lib.hid (HM.out.below ba)
                replace hz := Nat.le_trans hz ba.size
                clear ba
                refine hK.out _ _ (fun _ => ⟨by rw [HM.out.bb.blk.cell]; rfl, by rw [HM.out.bb.blk.cell]; rfl, by rw [HM.out.bb.blk.cell]; rfl, by rw [HM.out.bb.blk.cell]; rfl, by rw [HM.out.rt.blk.cell]; rfl⟩) ?_
                clear hK K
                (try simp only [Act.put, List.setIfInBounds_toArray, List.set_cons_zero, List.set_cons_succ])
                generalize U94.alloc (.cells #[.pointer (some ⟨c0, 0, none⟩)] 31) = U95 at *
                generalize U94.heap.size = p1 at *
                refine tillH_next (rs := [12]) (by kernel_rfl) (by simp) ?_
                refine NextH.cons rfl (fun K hK => ?_) NextH.nil
                · skip
                  refine step_append_lies _ (by rfl) _ _ _ (by rfl) w0.heap.size 31 iP _ 1 8 Try.underlying30 pi pz0 pz1 pz2 rfl (by decide) _ m _ (by rfl) k_rc.own ⟨p1, 0, none⟩ 1 1 [.pointer (some ⟨c0, 0, none⟩)] (by rfl) rfl (World.news_of_block (cs := #[.pointer (some ⟨c0, 0, none⟩)]) k_p1.blk) (by simp [Value.oneCell']) (by decide) (by unfold maxLen; omega) (by omega) (by have := HM.out.st.bel.size; omega) _ rfl ?_
                  intro g12 cap12 U96 hown hgrow hat hgl
                  replace k_rd := k_rd.push k_rc (by decide) hgrow
                  replace k_d := k_d.push k_rc (by decide) hgrow
                  replace k_p2 := k_p2.push k_rc (by decide) hgrow
                  have hUlt := HM.out.lt
                  replace HM := Lib.hid (HM.out.push k_rc (by decide) (by decide) (by decide) hgrow)
                  replace k_rc := k_rc.grown hUlt hown hat
                  replace hz := Nat.le_trans hz hgrow.size
                  clear hown hgrow hat hgl hUlt
                  refine hK.out _ _ (fun _ => ⟨by rw [HM.out.bb.blk.cell]; rfl, by rw [HM.out.bb.blk.cell]; rfl, by rw [HM.out.bb.blk.cell]; rfl, by rw [HM.out.bb.blk.cell]; rfl, by rw [HM.out.rt.blk.cell]; rfl⟩) ?_
                  clear hK K
                  (try simp only [Act.put, List.setIfInBounds_toArray, List.set_cons_zero, List.set_cons_succ])
                  refine tillH_next (rs := [27]) (by kernel_rfl) (by simp) ?_
                  refine NextH.cons rfl (fun K hK => ?_) NextH.nil
                  · skip
                    refine step_append_lies _ (by rfl) _ _ _ (by rfl) w0.heap.size 81 iR _ 1 8 Try.underlying55 ri rz0 rz1 rz2 rfl (by decide) _ m _ (by rfl) k_rd.own ⟨p2, 0, none⟩ 1 1 [.pointer (some ⟨d0, 0, none⟩)] (by rfl) rfl (World.news_of_block (cs := #[.pointer (some ⟨d0, 0, none⟩)]) k_p2.blk) (by simp [Value.oneCell']) (by decide) (by unfold maxLen; omega) (by omega) (by have := HM.out.st.bel.size; omega) _ rfl ?_
                    intro g27 cap27 U97 hown hgrow hat hgl
                    replace k_rc := k_rc.push k_rd (by decide) hgrow
                    replace k_d := k_d.push k_rd (by decide) hgrow
                    have hUlt := HM.out.lt
                    replace HM := Lib.hid (HM.out.push k_rd (by decide) (by decide) (by decide) hgrow)
                    replace k_rd := k_rd.grown hUlt hown hat
                    replace hz := Nat.le_trans hz hgrow.size
                    clear hown hgrow hat hgl hUlt
                    refine hK.out _ _ (fun _ => ⟨by rw [HM.out.bb.blk.cell]; rfl, by rw [HM.out.bb.blk.cell]; rfl, by rw [HM.out.bb.blk.cell]; rfl, by rw [HM.out.bb.blk.cell]; rfl, by rw [HM.out.rt.blk.cell]; rfl⟩) ?_
                    clear hK K
                    (try simp only [Act.put, List.setIfInBounds_toArray, List.set_cons_zero, List.set_cons_succ])
                    refine tillH_takeAny (i := 28) (oi := ?oo1059) (v := ?vv1059) ?hi1059 (by kernel_rfl) (by kernel_rfl) (by kernel_rfl) ?hq1059 (by kernel_rfl) ?hy1059 (fun _ => ⟨by rw [HM.out.bb.blk.cell]; rfl, by rw [HM.out.bb.blk.cell]; rfl, by rw [HM.out.bb.blk.cell]; rfl, by rw [HM.out.bb.blk.cell]; rfl, by rw [HM.out.rt.blk.cell]; rfl⟩) ?hh1059
                    case hi1059 => (simp only [List.getElem?_toArray, List.getElem?_cons_succ, List.getElem?_cons_zero]; rfl)
                    case hq1059 => exact fun _ _ _ h => h
                    case hy1059 => exact Or.inl ⟨by rfl, by (intro W; go_simp; (try with_reducible rfl))⟩
                    (try simp only [Act.put, List.setIfInBounds_toArray, List.set_cons_zero, List.set_cons_succ])
                    refine tillH_takeAny (i := 29) (oi := ?oo1060) (v := ?vv1060) ?hi1060 (by kernel_rfl) (by kernel_rfl) (by kernel_rfl) ?hq1060 (by kernel_rfl) ?hy1060 (fun _ => ⟨by rw [HM.out.bb.blk.cell]; rfl, by rw [HM.out.bb.blk.cell]; rfl, by rw [HM.out.bb.blk.cell]; rfl, by rw [HM.out.bb.blk.cell]; rfl, by rw [HM.out.rt.blk.cell]; rfl⟩) ?hh1060
                    case hi1060 => (simp only [List.getElem?_toArray, List.getElem?_cons_succ, List.getElem?_cons_zero]; rfl)
                    case hq1060 => exact fun _ _ _ h => h
                    case hy1060 => exact Or.inl ⟨by rfl, by (intro W; go_simp; (try with_reducible rfl))⟩
                    (try simp only [Act.put, List.setIfInBounds_toArray, List.set_cons_zero, List.set_cons_succ])
                    refine tillH_next (rs := [30]) (by kernel_rfl) (by simp) ?_
                    refine NextH.cons rfl (fun K hK => ?_) NextH.nil
                    have x_B : U97.cell? ⟨B, 2, none⟩ = some (.slice AC m capC) := by rw [HM.out.bb.blk.cell]; rfl
                    have z_B := HM.out.bb.blk.frozen 2
                    have l_B := HM.out.bb.blk.lt
                    go_simp
                    clear x_B z_B l_B
                    replace k_rc := k_rc.setB (u' := (.slice (some ⟨g12, 0, none⟩) (m + 1) cap12)) (i := 2) HM.out.bb.blk (by decide)
                    replace k_rd := k_rd.setB (u' := (.slice (some ⟨g12, 0, none⟩) (m + 1) cap12)) (i := 2) HM.out.bb.blk (by decide)
                    replace k_d := k_d.setB (u' := (.slice (some ⟨g12, 0, none⟩) (m + 1) cap12)) (i := 2) HM.out.bb.blk (by decide)
                    replace HM := Lib.hid (HM.out.setC (cv' := (.slice (some ⟨g12, 0, none⟩) (m + 1) cap12)))
                    refine hK.out _ _ (fun h => absurd h (by simp)) ?_
                    clear hK K
                    generalize U97.setCell ⟨B, 2, none⟩ (.slice (some ⟨g12, 0, none⟩) (m + 1) cap12) = U98 at *
                    (try simp only [Act.put, List.setIfInBounds_toArray, List.set_cons_zero, List.set_cons_succ])
                    refine tillH_takeAny (i := 31) (oi := ?oo1061) (v := ?vv1061) ?hi1061 (by kernel_rfl) (by kernel_rfl) (by kernel_rfl) ?hq1061 (by kernel_rfl) ?hy1061 (fun h => absurd h (by simp)) ?hh1061
                    case hi1061 => (simp only [List.getElem?_toArray, List.getElem?_cons_succ, List.getElem?_cons_zero]; rfl)
                    case hq1061 => exact fun _ _ _ h => h
                    case hy1061 => exact Or.inl ⟨by rfl, by (intro W; go_simp; (try with_reducible rfl))⟩
                    (try simp only [Act.put, List.setIfInBounds_toArray, List.set_cons_zero, List.set_cons_succ])
                    refine tillH_takeAny (i := 32) (oi := ?oo1062) (v := ?vv1062) ?hi1062 (by kernel_rfl) (by kernel_rfl) (by kernel_rfl) ?hq1062 (by kernel_rfl) ?hy1062 (fun h => absurd h (by simp)) ?hh1062
                    case hi1062 => (simp only [List.getElem?_toArray, List.getElem?_cons_succ, List.getElem?_cons_zero]; rfl)
                    case hq1062 => exact fun _ _ _ h => h
                    case hy1062 => exact Or.inl ⟨by rfl, by (intro W; go_simp; (try with_reducible rfl))⟩
                    (try simp only [Act.put, List.setIfInBounds_toArray, List.set_cons_zero, List.set_cons_succ])
                    refine tillH_next (rs := [33]) (by kernel_rfl) (by simp) ?_
                    refine NextH.cons rfl (fun K hK => ?_) NextH.nil
                    have x_B : U98.cell? ⟨B, 3, none⟩ = some (dv) := by rw [HM.out.bb.blk.cell]; rfl
                    have z_B := HM.out.bb.blk.frozen 3
                    have l_B := HM.out.bb.blk.lt
                    go_simp
                    clear x_B z_B l_B
                    replace k_rc := k_rc.setB (u' := (.slice (some ⟨g27, 0, none⟩) (m + 1) cap27)) (i := 3) HM.out.bb.blk (by decide)
                    replace k_rd := k_rd.setB (u' := (.slice (some ⟨g27, 0, none⟩) (m + 1) cap27)) (i := 3) HM.out.bb.blk (by decide)
                    replace k_d := k_d.setB (u' := (.slice (some ⟨g27, 0, none⟩) (m + 1) cap27)) (i := 3) HM.out.bb.blk (by decide)
                    replace HM := Lib.hid (HM.out.setD (dv' := (.slice (some ⟨g27, 0, none⟩) (m + 1) cap27)))
                    refine hK.out _ _ (fun h => absurd h (by simp)) ?_
                    clear hK K
                    generalize U98.setCell ⟨B, 3, none⟩ (.slice (some ⟨g27, 0, none⟩) (m + 1) cap27) = U99 at *
                    (try simp only [Act.put, List.setIfInBounds_toArray, List.set_cons_zero, List.set_cons_succ])
                    refine tillH_done (by kernel_rfl) ?_ _
                    have hXl : (X ++ [⟨c0, d0, 0, cl, false⟩] : List Cu).length = m + 1 := by simp [hXm]
                    have HF := Lib.hid ((HM.out.more k_d (Nat.le_trans hw0 hd0)).mem (by rw [hXl, List.map_append]; exact k_rc) (by rw [hXl, List.map_append]; exact k_rd))
                    have HG := Lib.hid (HR.out.cursor c0 d0 (fun x hx => by have := HCL.out.1 x hx; omega) (fun x hx => by have := HCL.out.2 x hx; omega))
                    have HM := HF
                    have HR2 := HG
                    have hX9 : (X ++ [⟨c0, d0, 0, cl, false⟩] : List Cu).length ≤ 40 := by omega
                    clear k_rc k_rd k_d HF HG HCL HR
                    go_upto_region 32 with fail
                    have HSAME := same_any _ HM.out HR2.out (by omega) (by first | omega | assumption)
                    go_wp2_with fail
                    refine HSAME.mono ?_
                    rintro e U100 ⟨rfl, bq⟩
                    have HM := Lib.hid (HM.out.below bq)
                    have HF := Lib.hid (show PlayP w0 B T M (j + 1) (.returned (.bool true)) _ from ⟨rfl, _, _, _, _, _, _, _, _, _, _, HM.out, HR2.out, by omega, by omega, (by first | omega | assumption)⟩)
                    clear HSAME bq HM HR2
                    go_wp2
                    go_ret
                    exact HF.out
      · have t1 : decide ((m : Int) < 40) = false := decide_eq_false (by omega)
        have HR2 := HR
        go_upto_region 32 with fail
        have HSAME := same_any _ HM.out HR2.out (by omega) (by first | omega | assumption)
        go_wp2_with fail
        refine HSAME.mono ?_
        rintro e U101 ⟨rfl, bq⟩
        have HM := Lib.hid (HM.out.below bq)
        have HF := Lib.hid (show PlayP w0 B T M (j + 1) (.returned (.bool true)) _ from ⟨rfl, _, _, _, _, _, _, _, _, _, _, HM.out, HR2.out, by omega, by omega, (by first | omega | assumption)⟩)
        clear HSAME bq HM HR2
        go_wp2
        go_ret
        exact HF.out
end Go.Proofs.Ytlgnjbdkkpjjaaa
