/- The walk of the law's play. -/
import Derived.Test.YtlgnjbdkkpjjaaaOtW
import Derived.Deep.RegionHeld3
import Derived.Outline
set_option linter.unusedVariables false
set_option linter.unusedSimpArgs false
namespace Go.Proofs.Ytlgnjbdkkpjjaaa
open Go.RowKit Go.Sort

set_option maxHeartbeats 32000000 in
set_option maxRecDepth 100000 in
theorem play_56 {w0 : World} {B T M : Nat} {A : List Ent} {D : List (Nat × Nat)} {O : Nat → Prop} {L : List Ent} {cl : Nat} {R : Nat → Prop} {lv cv dv : Value} {X : List Cu} (w : World) (c : CallV) (k : K3) (j kd : Nat) (hm : Mem w0 w B T M A D O L cl R lv cv dv X) (hr : Rel A D L cl X) (hL : L.length ≤ j) (hcl : cl ≤ j) (hj : j ≤ 400) (hX : X.length ≤ 40)
    (hkd : (wrap64 (c.kind.tmod 7 + 7)).tmod 7 = (kd : Int)) (hc7 : kd = 5 ∨ kd = 6) (hk : k.2.2.size ≤ 4000)
    (CA : ∀ W, Below w.heap.size w W → Calls Try.prog 19 #[SeedV c.K c.N c.a c.n c.cap] W (Ret (VK k) W)) :
    Calls Try.prog 22 #[.pointer (some ⟨B, 0, none⟩), CallA c] w (PlayP w0 B T M (j + 1)) := by
  have HCA := Lib.hid CA
  have HM := Lib.hid hm
  have HR := Lib.hid hr
  obtain ⟨vn, hvn⟩ : ∃ vn, bits .and .i64 c.val 65535 = vn := ⟨_, rfl⟩
  obtain ⟨fl, hfl⟩ : ∃ fl, bits .and .i64 c.m 15 = fl := ⟨_, rfl⟩
  have bb : Below w.heap.size w (w.alloc (.cells (CallC c) 59)) := (Below.refl _ _).alloc (Nat.le_refl _) _
  have k_c := Blk.new w 59 (CallC c)
  have HUL := Lib.hid (show ∀ x, UU O R x → x < w.heap.size from fun x hx => by
    rcases hx with hx | hx
    · exact hm.st.tab.lt x hx
    · exact hm.rt.oLt x hx)
  clear CA hm hr
  go_enter Try.func22, Try.ntmps22
  go_upto_region 1 with fail
  generalize w.alloc (.cells (CallC c) 59) = w1 at *
  go_cut [5, 6] from 18 to 24 (fun s5 s6 wx => ∃ g h, s5 = .pointer (some ⟨g, 0, none⟩) ∧ s6 = .pointer (some ⟨h, 0, none⟩) ∧ PB w wx g h k vn c)
  case first =>
    have k_c := k_c.drew
    have bb := bb.drew
    refine wp_region_held_drew (S := (fun W => W.cell? ⟨w.heap.size, 1, none⟩ = some (.int .i64 c.K) ∧ W.cell? ⟨w.heap.size, 2, none⟩ = some (.int .i64 c.N) ∧ W.cell? ⟨w.heap.size, 3, none⟩ = some (.slice c.a c.n c.cap) ∧ W.cell? ⟨w.heap.size, 4, none⟩ = some (.int .i64 c.val))) (by kernel_rfl) ⟨by rw [k_c.cell]; rfl, by rw [k_c.cell]; rfl, by rw [k_c.cell]; rfl, by rw [k_c.cell]; rfl⟩ (fun hHeld => ?_)
    generalize w1.drew = D0 at *
    change wpAnyH _ _ _ _ _ 11 #[false, false, false, false, false, false, false, false, false, false, false] _ _
    refine wpAnyH_take (i := 0) (oi := ?oo900) (v := ?vv900) ?hi900 (by kernel_rfl) (by kernel_rfl) (by kernel_rfl) ?hq900 ?hy900 (by assumption) ?hh900
    case hi900 => (simp only [List.getElem?_toArray, List.getElem?_cons_succ, List.getElem?_cons_zero]; rfl)
    case hq900 => exact fun _ _ _ h => h
    case hy900 => exact Or.inl ⟨by rfl, by (intro W hSw; (try dsimp only at hSw); go_simp; (try with_reducible rfl))⟩
    (try simp only [Act.put, List.setIfInBounds_toArray, List.set_cons_zero, List.set_cons_succ])
    refine wpAnyH_take (i := 1) (oi := ?oo901) (v := ?vv901) ?hi901 (by kernel_rfl) (by kernel_rfl) (by kernel_rfl) ?hq901 ?hy901 (by assumption) ?hh901
    case hi901 => (simp only [List.getElem?_toArray, List.getElem?_cons_succ, List.getElem?_cons_zero]; rfl)
    case hq901 => exact fun _ _ _ h => h
    case hy901 => exact Or.inl ⟨by rfl, by (intro W hSw; (try dsimp only at hSw); go_simp; (try with_reducible rfl))⟩
    (try simp only [Act.put, List.setIfInBounds_toArray, List.set_cons_zero, List.set_cons_succ])
    refine wpAnyH_take (i := 3) (oi := ?oo902) (v := ?vv902) ?hi902 (by kernel_rfl) (by kernel_rfl) (by kernel_rfl) ?hq902 ?hy902 (by assumption) ?hh902
    case hi902 => (simp only [List.getElem?_toArray, List.getElem?_cons_succ, List.getElem?_cons_zero]; rfl)
    case hq902 => exact fun _ _ _ h => h
    case hy902 => exact Or.inl ⟨by rfl, by (intro W hSw; (try dsimp only at hSw); go_simp; (try with_reducible rfl))⟩
    (try simp only [Act.put, List.setIfInBounds_toArray, List.set_cons_zero, List.set_cons_succ])
    refine wpAnyH_take (i := 4) (oi := ?oo903) (v := ?vv903) ?hi903 (by kernel_rfl) (by kernel_rfl) (by kernel_rfl) ?hq903 ?hy903 (by assumption) ?hh903
    case hi903 => (simp only [List.getElem?_toArray, List.getElem?_cons_succ, List.getElem?_cons_zero]; rfl)
    case hq903 => exact fun _ _ _ h => h
    case hy903 => exact Or.inl ⟨by rfl, by (intro W hSw; (try dsimp only at hSw); go_simp; (try with_reducible rfl))⟩
    (try simp only [Act.put, List.setIfInBounds_toArray, List.set_cons_zero, List.set_cons_succ])
    refine wpAnyH_take (i := 5) (oi := ?oo904) (v := ?vv904) ?hi904 (by kernel_rfl) (by kernel_rfl) (by kernel_rfl) ?hq904 ?hy904 (by assumption) ?hh904
    case hi904 => (simp only [List.getElem?_toArray, List.getElem?_cons_succ, List.getElem?_cons_zero]; rfl)
    case hq904 => exact fun _ _ _ h => h
    case hy904 => exact Or.inl ⟨by rfl, by (intro W hSw; (try dsimp only at hSw); go_simp; (try with_reducible rfl))⟩
    (try simp only [Act.put, List.setIfInBounds_toArray, List.set_cons_zero, List.set_cons_succ])
    refine wpAnyH_take (i := 6) (oi := ?oo905) (v := ?vv905) ?hi905 (by kernel_rfl) (by kernel_rfl) (by kernel_rfl) ?hq905 ?hy905 (by assumption) ?hh905
    case hi905 => (simp only [List.getElem?_toArray, List.getElem?_cons_succ, List.getElem?_cons_zero]; rfl)
    case hq905 => exact fun _ _ _ h => h
    case hy905 => exact Or.inl ⟨by rfl, by (intro W hSw; (try dsimp only at hSw); go_simp; (try with_reducible rfl))⟩
    (try simp only [Act.put, List.setIfInBounds_toArray, List.set_cons_zero, List.set_cons_succ])
    refine wpAnyH_ready (rs := [2, 7, 8]) (by kernel_rfl) (by simp) ?_
    refine AllReadyH.cons rfl (fun K hK => ?_) (AllReadyH.cons rfl (fun K hK => ?_) (AllReadyH.cons rfl (fun K hK => ?_) AllReadyH.nil))
    · go_simp
      go_at_call 19
      (with_reducible refine (HCA.out _ bb).mono ?_)
      rintro e U1 ⟨rfl, bq⟩
      have k_c := k_c.below bq k_c.lt
      have bb := bb.trans (bq.mono bb.size)
      clear bq
      refine hK.out _ _ ⟨by rw [k_c.cell]; rfl, by rw [k_c.cell]; rfl, by rw [k_c.cell]; rfl, by rw [k_c.cell]; rfl⟩ (fun hHeld => ?_)
      clear hK K
      (try simp only [Act.put, List.setIfInBounds_toArray, List.set_cons_zero, List.set_cons_succ])
      refine wpAnyH_ready (rs := [7, 8]) (by kernel_rfl) (by simp) ?_
      refine AllReadyH.cons rfl (fun K hK => ?_) (AllReadyH.cons rfl (fun K hK => ?_) AllReadyH.nil)
      · go_simp
        have n_q := k_c.lt
        have k_c := k_c.alloc (.cells #[.int .i64 0, .int .i64 0, .string ⟨#[]⟩] 27)
        have k_g := Blk.new U1 27 #[.int .i64 0, .int .i64 0, .string ⟨#[]⟩]
        have bb := bb.alloc bb.size (.cells #[.int .i64 0, .int .i64 0, .string ⟨#[]⟩] 27)
        refine hK.out _ _ ⟨by rw [k_c.cell]; rfl, by rw [k_c.cell]; rfl, by rw [k_c.cell]; rfl, by rw [k_c.cell]; rfl⟩ (fun hHeld => ?_)
        clear hK K
        generalize U1.alloc (.cells #[.int .i64 0, .int .i64 0, .string ⟨#[]⟩] 27) = U2 at *
        generalize U1.heap.size = g at *
        have n_gq := n_q
        clear n_q
        (try simp only [Act.put, List.setIfInBounds_toArray, List.set_cons_zero, List.set_cons_succ])
        refine wpAnyH_ready (rs := [8]) (by kernel_rfl) (by simp) ?_
        refine AllReadyH.cons rfl (fun K hK => ?_) AllReadyH.nil
        · go_simp
          have n_q := k_c.lt
          have n_l := k_g.lt
          have k_c := k_c.alloc (.cells #[.int .i64 0, .int .i64 0, .string ⟨#[]⟩] 27)
          have k_g := k_g.alloc (.cells #[.int .i64 0, .int .i64 0, .string ⟨#[]⟩] 27)
          have k_h := Blk.new U2 27 #[.int .i64 0, .int .i64 0, .string ⟨#[]⟩]
          have bb := bb.alloc bb.size (.cells #[.int .i64 0, .int .i64 0, .string ⟨#[]⟩] 27)
          refine hK.out _ _ ⟨by rw [k_c.cell]; rfl, by rw [k_c.cell]; rfl, by rw [k_c.cell]; rfl, by rw [k_c.cell]; rfl⟩ (fun hHeld => ?_)
          clear hK K
          generalize U2.alloc (.cells #[.int .i64 0, .int .i64 0, .string ⟨#[]⟩] 27) = U3 at *
          generalize U2.heap.size = h at *
          have n_hg : g ≠ h := by omega
          have n_gh : h ≠ g := by omega
          clear n_l
          have n_hq := n_q
          clear n_q
          (try simp only [Act.put, List.setIfInBounds_toArray, List.set_cons_zero, List.set_cons_succ])
          have x_g0 : U3.cell? ⟨g, 0, none⟩ = some (.int .i64 0) := by rw [k_g.cell]; rfl
          have z_g0 := k_g.frozen 0
          have x_g1 : U3.cell? ⟨g, 1, none⟩ = some (.int .i64 0) := by rw [k_g.cell]; rfl
          have z_g1 := k_g.frozen 1
          have x_g2 : U3.cell? ⟨g, 2, none⟩ = some (.string ⟨#[]⟩) := by rw [k_g.cell]; rfl
          have z_g2 := k_g.frozen 2
          have l_g := k_g.lt
          refine wpAnyH_ready (rs := [9]) (by kernel_rfl) (by simp) ?_
          refine AllReadyH.cons rfl (fun K hK => ?_) AllReadyH.nil
          go_simp
          clear x_g0 x_g1 x_g2 z_g0 z_g1 z_g2 l_g
          have k_g : Blk (((U3.setCell ⟨g, 0, none⟩ (.int .i64 k.1)).setCell ⟨g, 1, none⟩ (.int .i64 k.2.1)).setCell ⟨g, 2, none⟩ (.string k.2.2)) g 27 #[.int .i64 k.1, .int .i64 k.2.1, .string k.2.2] := ((k_g.set_ 0 _).set_ 1 _).set_ 2 _
          have k_h : Blk (((U3.setCell ⟨g, 0, none⟩ (.int .i64 k.1)).setCell ⟨g, 1, none⟩ (.int .i64 k.2.1)).setCell ⟨g, 2, none⟩ (.string k.2.2)) _ _ _ := ((k_h.far (p := ⟨g, 0, none⟩) n_gh _).far (p := ⟨g, 1, none⟩) n_gh _).far (p := ⟨g, 2, none⟩) n_gh _
          have k_c : Blk (((U3.setCell ⟨g, 0, none⟩ (.int .i64 k.1)).setCell ⟨g, 1, none⟩ (.int .i64 k.2.1)).setCell ⟨g, 2, none⟩ (.string k.2.2)) _ _ _ := ((k_c.far (p := ⟨g, 0, none⟩) (by show w.heap.size ≠ g; omega) _).far (p := ⟨g, 1, none⟩) (by show w.heap.size ≠ g; omega) _).far (p := ⟨g, 2, none⟩) (by show w.heap.size ≠ g; omega) _
          have bb : Below w.heap.size w (((U3.setCell ⟨g, 0, none⟩ (.int .i64 k.1)).setCell ⟨g, 1, none⟩ (.int .i64 k.2.1)).setCell ⟨g, 2, none⟩ (.string k.2.2)) := ((bb.setCell (p := ⟨g, 0, none⟩) (by show _ ≤ g; omega) _).setCell (p := ⟨g, 1, none⟩) (by show _ ≤ g; omega) _).setCell (p := ⟨g, 2, none⟩) (by show _ ≤ g; omega) _
          refine hK.out _ _ ⟨by rw [k_c.cell]; rfl, by rw [k_c.cell]; rfl, by rw [k_c.cell]; rfl, by rw [k_c.cell]; rfl⟩ (fun hHeld => ?_)
          clear hK K
          generalize (((U3.setCell ⟨g, 0, none⟩ (.int .i64 k.1)).setCell ⟨g, 1, none⟩ (.int .i64 k.2.1)).setCell ⟨g, 2, none⟩ (.string k.2.2)) = U4 at *
          (try simp only [Act.put, List.setIfInBounds_toArray, List.set_cons_zero, List.set_cons_succ])
          have x_h0 : U4.cell? ⟨h, 0, none⟩ = some (.int .i64 0) := by rw [k_h.cell]; rfl
          have z_h0 := k_h.frozen 0
          have x_h1 : U4.cell? ⟨h, 1, none⟩ = some (.int .i64 0) := by rw [k_h.cell]; rfl
          have z_h1 := k_h.frozen 1
          have x_h2 : U4.cell? ⟨h, 2, none⟩ = some (.string ⟨#[]⟩) := by rw [k_h.cell]; rfl
          have z_h2 := k_h.frozen 2
          have l_h := k_h.lt
          refine wpAnyH_ready (rs := [10]) (by kernel_rfl) (by simp) ?_
          refine AllReadyH.cons rfl (fun K hK => ?_) AllReadyH.nil
          go_simp
          clear x_h0 x_h1 x_h2 z_h0 z_h1 z_h2 l_h
          have k_h : Blk (((U4.setCell ⟨h, 0, none⟩ (.int .i64 3)).setCell ⟨h, 1, none⟩ (.int .i64 vn)).setCell ⟨h, 2, none⟩ (.string ⟨#[]⟩)) h 27 #[.int .i64 3, .int .i64 vn, .string ⟨#[]⟩] := ((k_h.set_ 0 _).set_ 1 _).set_ 2 _
          have k_g : Blk (((U4.setCell ⟨h, 0, none⟩ (.int .i64 3)).setCell ⟨h, 1, none⟩ (.int .i64 vn)).setCell ⟨h, 2, none⟩ (.string ⟨#[]⟩)) _ _ _ := ((k_g.far (p := ⟨h, 0, none⟩) n_hg _).far (p := ⟨h, 1, none⟩) n_hg _).far (p := ⟨h, 2, none⟩) n_hg _
          have k_c : Blk (((U4.setCell ⟨h, 0, none⟩ (.int .i64 3)).setCell ⟨h, 1, none⟩ (.int .i64 vn)).setCell ⟨h, 2, none⟩ (.string ⟨#[]⟩)) _ _ _ := ((k_c.far (p := ⟨h, 0, none⟩) (by show w.heap.size ≠ h; omega) _).far (p := ⟨h, 1, none⟩) (by show w.heap.size ≠ h; omega) _).far (p := ⟨h, 2, none⟩) (by show w.heap.size ≠ h; omega) _
          have bb : Below w.heap.size w (((U4.setCell ⟨h, 0, none⟩ (.int .i64 3)).setCell ⟨h, 1, none⟩ (.int .i64 vn)).setCell ⟨h, 2, none⟩ (.string ⟨#[]⟩)) := ((bb.setCell (p := ⟨h, 0, none⟩) (by show _ ≤ h; omega) _).setCell (p := ⟨h, 1, none⟩) (by show _ ≤ h; omega) _).setCell (p := ⟨h, 2, none⟩) (by show _ ≤ h; omega) _
          refine hK.out _ _ ⟨by rw [k_c.cell]; rfl, by rw [k_c.cell]; rfl, by rw [k_c.cell]; rfl, by rw [k_c.cell]; rfl⟩ (fun hHeld => ?_)
          clear hK K
          generalize (((U4.setCell ⟨h, 0, none⟩ (.int .i64 3)).setCell ⟨h, 1, none⟩ (.int .i64 vn)).setCell ⟨h, 2, none⟩ (.string ⟨#[]⟩)) = U5 at *
          (try simp only [Act.put, List.setIfInBounds_toArray, List.set_cons_zero, List.set_cons_succ])
          refine wpAnyH_done (by kernel_rfl) ?_ _
          go_wp2_with fail
          go_meet
          exact ⟨g, h, rfl, rfl, ⟨bb, k_g, k_h, k_c, by omega, by omega⟩⟩
      · go_simp
        have n_q := k_c.lt
        have k_c := k_c.alloc (.cells #[.int .i64 0, .int .i64 0, .string ⟨#[]⟩] 27)
        have k_h := Blk.new U1 27 #[.int .i64 0, .int .i64 0, .string ⟨#[]⟩]
        have bb := bb.alloc bb.size (.cells #[.int .i64 0, .int .i64 0, .string ⟨#[]⟩] 27)
        refine hK.out _ _ ⟨by rw [k_c.cell]; rfl, by rw [k_c.cell]; rfl, by rw [k_c.cell]; rfl, by rw [k_c.cell]; rfl⟩ (fun hHeld => ?_)
        clear hK K
        generalize U1.alloc (.cells #[.int .i64 0, .int .i64 0, .string ⟨#[]⟩] 27) = U6 at *
        generalize U1.heap.size = h at *
        have n_hq := n_q
        clear n_q
        (try simp only [Act.put, List.setIfInBounds_toArray, List.set_cons_zero, List.set_cons_succ])
        refine wpAnyH_ready (rs := [7]) (by kernel_rfl) (by simp) ?_
        refine AllReadyH.cons rfl (fun K hK => ?_) AllReadyH.nil
        · go_simp
          have n_q := k_c.lt
          have n_l := k_h.lt
          have k_c := k_c.alloc (.cells #[.int .i64 0, .int .i64 0, .string ⟨#[]⟩] 27)
          have k_h := k_h.alloc (.cells #[.int .i64 0, .int .i64 0, .string ⟨#[]⟩] 27)
          have k_g := Blk.new U6 27 #[.int .i64 0, .int .i64 0, .string ⟨#[]⟩]
          have bb := bb.alloc bb.size (.cells #[.int .i64 0, .int .i64 0, .string ⟨#[]⟩] 27)
          refine hK.out _ _ ⟨by rw [k_c.cell]; rfl, by rw [k_c.cell]; rfl, by rw [k_c.cell]; rfl, by rw [k_c.cell]; rfl⟩ (fun hHeld => ?_)
          clear hK K
          generalize U6.alloc (.cells #[.int .i64 0, .int .i64 0, .string ⟨#[]⟩] 27) = U7 at *
          generalize U6.heap.size = g at *
          have n_gh : h ≠ g := by omega
          have n_hg : g ≠ h := by omega
          clear n_l
          have n_gq := n_q
          clear n_q
          (try simp only [Act.put, List.setIfInBounds_toArray, List.set_cons_zero, List.set_cons_succ])
          have x_g0 : U7.cell? ⟨g, 0, none⟩ = some (.int .i64 0) := by rw [k_g.cell]; rfl
          have z_g0 := k_g.frozen 0
          have x_g1 : U7.cell? ⟨g, 1, none⟩ = some (.int .i64 0) := by rw [k_g.cell]; rfl
          have z_g1 := k_g.frozen 1
          have x_g2 : U7.cell? ⟨g, 2, none⟩ = some (.string ⟨#[]⟩) := by rw [k_g.cell]; rfl
          have z_g2 := k_g.frozen 2
          have l_g := k_g.lt
          refine wpAnyH_ready (rs := [9]) (by kernel_rfl) (by simp) ?_
          refine AllReadyH.cons rfl (fun K hK => ?_) AllReadyH.nil
          go_simp
          clear x_g0 x_g1 x_g2 z_g0 z_g1 z_g2 l_g
          have k_g : Blk (((U7.setCell ⟨g, 0, none⟩ (.int .i64 k.1)).setCell ⟨g, 1, none⟩ (.int .i64 k.2.1)).setCell ⟨g, 2, none⟩ (.string k.2.2)) g 27 #[.int .i64 k.1, .int .i64 k.2.1, .string k.2.2] := ((k_g.set_ 0 _).set_ 1 _).set_ 2 _
          have k_h : Blk (((U7.setCell ⟨g, 0, none⟩ (.int .i64 k.1)).setCell ⟨g, 1, none⟩ (.int .i64 k.2.1)).setCell ⟨g, 2, none⟩ (.string k.2.2)) _ _ _ := ((k_h.far (p := ⟨g, 0, none⟩) n_gh _).far (p := ⟨g, 1, none⟩) n_gh _).far (p := ⟨g, 2, none⟩) n_gh _
          have k_c : Blk (((U7.setCell ⟨g, 0, none⟩ (.int .i64 k.1)).setCell ⟨g, 1, none⟩ (.int .i64 k.2.1)).setCell ⟨g, 2, none⟩ (.string k.2.2)) _ _ _ := ((k_c.far (p := ⟨g, 0, none⟩) (by show w.heap.size ≠ g; omega) _).far (p := ⟨g, 1, none⟩) (by show w.heap.size ≠ g; omega) _).far (p := ⟨g, 2, none⟩) (by show w.heap.size ≠ g; omega) _
          have bb : Below w.heap.size w (((U7.setCell ⟨g, 0, none⟩ (.int .i64 k.1)).setCell ⟨g, 1, none⟩ (.int .i64 k.2.1)).setCell ⟨g, 2, none⟩ (.string k.2.2)) := ((bb.setCell (p := ⟨g, 0, none⟩) (by show _ ≤ g; omega) _).setCell (p := ⟨g, 1, none⟩) (by show _ ≤ g; omega) _).setCell (p := ⟨g, 2, none⟩) (by show _ ≤ g; omega) _
          refine hK.out _ _ ⟨by rw [k_c.cell]; rfl, by rw [k_c.cell]; rfl, by rw [k_c.cell]; rfl, by rw [k_c.cell]; rfl⟩ (fun hHeld => ?_)
          clear hK K
          generalize (((U7.setCell ⟨g, 0, none⟩ (.int .i64 k.1)).setCell ⟨g, 1, none⟩ (.int .i64 k.2.1)).setCell ⟨g, 2, none⟩ (.string k.2.2)) = U8 at *
          (try simp only [Act.put, List.setIfInBounds_toArray, List.set_cons_zero, List.set_cons_succ])
          have x_h0 : U8.cell? ⟨h, 0, none⟩ = some (.int .i64 0) := by rw [k_h.cell]; rfl
          have z_h0 := k_h.frozen 0
          have x_h1 : U8.cell? ⟨h, 1, none⟩ = some (.int .i64 0) := by rw [k_h.cell]; rfl
          have z_h1 := k_h.frozen 1
          have x_h2 : U8.cell? ⟨h, 2, none⟩ = some (.string ⟨#[]⟩) := by rw [k_h.cell]; rfl
          have z_h2 := k_h.frozen 2
          have l_h := k_h.lt
          refine wpAnyH_ready (rs := [10]) (by kernel_rfl) (by simp) ?_
          refine AllReadyH.cons rfl (fun K hK => ?_) AllReadyH.nil
          go_simp
          clear x_h0 x_h1 x_h2 z_h0 z_h1 z_h2 l_h
          have k_h : Blk (((U8.setCell ⟨h, 0, none⟩ (.int .i64 3)).setCell ⟨h, 1, none⟩ (.int .i64 vn)).setCell ⟨h, 2, none⟩ (.string ⟨#[]⟩)) h 27 #[.int .i64 3, .int .i64 vn, .string ⟨#[]⟩] := ((k_h.set_ 0 _).set_ 1 _).set_ 2 _
          have k_g : Blk (((U8.setCell ⟨h, 0, none⟩ (.int .i64 3)).setCell ⟨h, 1, none⟩ (.int .i64 vn)).setCell ⟨h, 2, none⟩ (.string ⟨#[]⟩)) _ _ _ := ((k_g.far (p := ⟨h, 0, none⟩) n_hg _).far (p := ⟨h, 1, none⟩) n_hg _).far (p := ⟨h, 2, none⟩) n_hg _
          have k_c : Blk (((U8.setCell ⟨h, 0, none⟩ (.int .i64 3)).setCell ⟨h, 1, none⟩ (.int .i64 vn)).setCell ⟨h, 2, none⟩ (.string ⟨#[]⟩)) _ _ _ := ((k_c.far (p := ⟨h, 0, none⟩) (by show w.heap.size ≠ h; omega) _).far (p := ⟨h, 1, none⟩) (by show w.heap.size ≠ h; omega) _).far (p := ⟨h, 2, none⟩) (by show w.heap.size ≠ h; omega) _
          have bb : Below w.heap.size w (((U8.setCell ⟨h, 0, none⟩ (.int .i64 3)).setCell ⟨h, 1, none⟩ (.int .i64 vn)).setCell ⟨h, 2, none⟩ (.string ⟨#[]⟩)) := ((bb.setCell (p := ⟨h, 0, none⟩) (by show _ ≤ h; omega) _).setCell (p := ⟨h, 1, none⟩) (by show _ ≤ h; omega) _).setCell (p := ⟨h, 2, none⟩) (by show _ ≤ h; omega) _
          refine hK.out _ _ ⟨by rw [k_c.cell]; rfl, by rw [k_c.cell]; rfl, by rw [k_c.cell]; rfl, by rw [k_c.cell]; rfl⟩ (fun hHeld => ?_)
          clear hK K
          generalize (((U8.setCell ⟨h, 0, none⟩ (.int .i64 3)).setCell ⟨h, 1, none⟩ (.int .i64 vn)).setCell ⟨h, 2, none⟩ (.string ⟨#[]⟩)) = U9 at *
          (try simp only [Act.put, List.setIfInBounds_toArray, List.set_cons_zero, List.set_cons_succ])
          refine wpAnyH_done (by kernel_rfl) ?_ _
          go_wp2_with fail
          go_meet
          exact ⟨g, h, rfl, rfl, ⟨bb, k_g, k_h, k_c, by omega, by omega⟩⟩
    · go_simp
      have n_q := k_c.lt
      have k_c := k_c.alloc (.cells #[.int .i64 0, .int .i64 0, .string ⟨#[]⟩] 27)
      have k_g := Blk.new D0 27 #[.int .i64 0, .int .i64 0, .string ⟨#[]⟩]
      have bb := bb.alloc bb.size (.cells #[.int .i64 0, .int .i64 0, .string ⟨#[]⟩] 27)
      refine hK.out _ _ ⟨by rw [k_c.cell]; rfl, by rw [k_c.cell]; rfl, by rw [k_c.cell]; rfl, by rw [k_c.cell]; rfl⟩ (fun hHeld => ?_)
      clear hK K
      generalize D0.alloc (.cells #[.int .i64 0, .int .i64 0, .string ⟨#[]⟩] 27) = U10 at *
      generalize D0.heap.size = g at *
      have n_gq := n_q
      clear n_q
      (try simp only [Act.put, List.setIfInBounds_toArray, List.set_cons_zero, List.set_cons_succ])
      refine wpAnyH_ready (rs := [2, 8]) (by kernel_rfl) (by simp) ?_
      refine AllReadyH.cons rfl (fun K hK => ?_) (AllReadyH.cons rfl (fun K hK => ?_) AllReadyH.nil)
      · go_simp
        go_at_call 19
        (with_reducible refine (HCA.out _ bb).mono ?_)
        rintro e U11 ⟨rfl, bq⟩
        have k_c := k_c.below bq k_c.lt
        have k_g := k_g.below bq k_g.lt
        have bb := bb.trans (bq.mono bb.size)
        clear bq
        refine hK.out _ _ ⟨by rw [k_c.cell]; rfl, by rw [k_c.cell]; rfl, by rw [k_c.cell]; rfl, by rw [k_c.cell]; rfl⟩ (fun hHeld => ?_)
        clear hK K
        (try simp only [Act.put, List.setIfInBounds_toArray, List.set_cons_zero, List.set_cons_succ])
        refine wpAnyH_ready (rs := [8]) (by kernel_rfl) (by simp) ?_
        refine AllReadyH.cons rfl (fun K hK => ?_) AllReadyH.nil
        · go_simp
          have n_q := k_c.lt
          have n_l := k_g.lt
          have k_c := k_c.alloc (.cells #[.int .i64 0, .int .i64 0, .string ⟨#[]⟩] 27)
          have k_g := k_g.alloc (.cells #[.int .i64 0, .int .i64 0, .string ⟨#[]⟩] 27)
          have k_h := Blk.new U11 27 #[.int .i64 0, .int .i64 0, .string ⟨#[]⟩]
          have bb := bb.alloc bb.size (.cells #[.int .i64 0, .int .i64 0, .string ⟨#[]⟩] 27)
          refine hK.out _ _ ⟨by rw [k_c.cell]; rfl, by rw [k_c.cell]; rfl, by rw [k_c.cell]; rfl, by rw [k_c.cell]; rfl⟩ (fun hHeld => ?_)
          clear hK K
          generalize U11.alloc (.cells #[.int .i64 0, .int .i64 0, .string ⟨#[]⟩] 27) = U12 at *
          generalize U11.heap.size = h at *
          have n_hg : g ≠ h := by omega
          have n_gh : h ≠ g := by omega
          clear n_l
          have n_hq := n_q
          clear n_q
          (try simp only [Act.put, List.setIfInBounds_toArray, List.set_cons_zero, List.set_cons_succ])
          have x_g0 : U12.cell? ⟨g, 0, none⟩ = some (.int .i64 0) := by rw [k_g.cell]; rfl
          have z_g0 := k_g.frozen 0
          have x_g1 : U12.cell? ⟨g, 1, none⟩ = some (.int .i64 0) := by rw [k_g.cell]; rfl
          have z_g1 := k_g.frozen 1
          have x_g2 : U12.cell? ⟨g, 2, none⟩ = some (.string ⟨#[]⟩) := by rw [k_g.cell]; rfl
          have z_g2 := k_g.frozen 2
          have l_g := k_g.lt
          refine wpAnyH_ready (rs := [9]) (by kernel_rfl) (by simp) ?_
          refine AllReadyH.cons rfl (fun K hK => ?_) AllReadyH.nil
          go_simp
          clear x_g0 x_g1 x_g2 z_g0 z_g1 z_g2 l_g
          have k_g : Blk (((U12.setCell ⟨g, 0, none⟩ (.int .i64 k.1)).setCell ⟨g, 1, none⟩ (.int .i64 k.2.1)).setCell ⟨g, 2, none⟩ (.string k.2.2)) g 27 #[.int .i64 k.1, .int .i64 k.2.1, .string k.2.2] := ((k_g.set_ 0 _).set_ 1 _).set_ 2 _
          have k_h : Blk (((U12.setCell ⟨g, 0, none⟩ (.int .i64 k.1)).setCell ⟨g, 1, none⟩ (.int .i64 k.2.1)).setCell ⟨g, 2, none⟩ (.string k.2.2)) _ _ _ := ((k_h.far (p := ⟨g, 0, none⟩) n_gh _).far (p := ⟨g, 1, none⟩) n_gh _).far (p := ⟨g, 2, none⟩) n_gh _
          have k_c : Blk (((U12.setCell ⟨g, 0, none⟩ (.int .i64 k.1)).setCell ⟨g, 1, none⟩ (.int .i64 k.2.1)).setCell ⟨g, 2, none⟩ (.string k.2.2)) _ _ _ := ((k_c.far (p := ⟨g, 0, none⟩) (by show w.heap.size ≠ g; omega) _).far (p := ⟨g, 1, none⟩) (by show w.heap.size ≠ g; omega) _).far (p := ⟨g, 2, none⟩) (by show w.heap.size ≠ g; omega) _
          have bb : Below w.heap.size w (((U12.setCell ⟨g, 0, none⟩ (.int .i64 k.1)).setCell ⟨g, 1, none⟩ (.int .i64 k.2.1)).setCell ⟨g, 2, none⟩ (.string k.2.2)) := ((bb.setCell (p := ⟨g, 0, none⟩) (by show _ ≤ g; omega) _).setCell (p := ⟨g, 1, none⟩) (by show _ ≤ g; omega) _).setCell (p := ⟨g, 2, none⟩) (by show _ ≤ g; omega) _
          refine hK.out _ _ ⟨by rw [k_c.cell]; rfl, by rw [k_c.cell]; rfl, by rw [k_c.cell]; rfl, by rw [k_c.cell]; rfl⟩ (fun hHeld => ?_)
          clear hK K
          generalize (((U12.setCell ⟨g, 0, none⟩ (.int .i64 k.1)).setCell ⟨g, 1, none⟩ (.int .i64 k.2.1)).setCell ⟨g, 2, none⟩ (.string k.2.2)) = U13 at *
          (try simp only [Act.put, List.setIfInBounds_toArray, List.set_cons_zero, List.set_cons_succ])
          have x_h0 : U13.cell? ⟨h, 0, none⟩ = some (.int .i64 0) := by rw [k_h.cell]; rfl
          have z_h0 := k_h.frozen 0
          have x_h1 : U13.cell? ⟨h, 1, none⟩ = some (.int .i64 0) := by rw [k_h.cell]; rfl
          have z_h1 := k_h.frozen 1
          have x_h2 : U13.cell? ⟨h, 2, none⟩ = some (.string ⟨#[]⟩) := by rw [k_h.cell]; rfl
          have z_h2 := k_h.frozen 2
          have l_h := k_h.lt
          refine wpAnyH_ready (rs := [10]) (by kernel_rfl) (by simp) ?_
          refine AllReadyH.cons rfl (fun K hK => ?_) AllReadyH.nil
          go_simp
          clear x_h0 x_h1 x_h2 z_h0 z_h1 z_h2 l_h
          have k_h : Blk (((U13.setCell ⟨h, 0, none⟩ (.int .i64 3)).setCell ⟨h, 1, none⟩ (.int .i64 vn)).setCell ⟨h, 2, none⟩ (.string ⟨#[]⟩)) h 27 #[.int .i64 3, .int .i64 vn, .string ⟨#[]⟩] := ((k_h.set_ 0 _).set_ 1 _).set_ 2 _
          have k_g : Blk (((U13.setCell ⟨h, 0, none⟩ (.int .i64 3)).setCell ⟨h, 1, none⟩ (.int .i64 vn)).setCell ⟨h, 2, none⟩ (.string ⟨#[]⟩)) _ _ _ := ((k_g.far (p := ⟨h, 0, none⟩) n_hg _).far (p := ⟨h, 1, none⟩) n_hg _).far (p := ⟨h, 2, none⟩) n_hg _
          have k_c : Blk (((U13.setCell ⟨h, 0, none⟩ (.int .i64 3)).setCell ⟨h, 1, none⟩ (.int .i64 vn)).setCell ⟨h, 2, none⟩ (.string ⟨#[]⟩)) _ _ _ := ((k_c.far (p := ⟨h, 0, none⟩) (by show w.heap.size ≠ h; omega) _).far (p := ⟨h, 1, none⟩) (by show w.heap.size ≠ h; omega) _).far (p := ⟨h, 2, none⟩) (by show w.heap.size ≠ h; omega) _
          have bb : Below w.heap.size w (((U13.setCell ⟨h, 0, none⟩ (.int .i64 3)).setCell ⟨h, 1, none⟩ (.int .i64 vn)).setCell ⟨h, 2, none⟩ (.string ⟨#[]⟩)) := ((bb.setCell (p := ⟨h, 0, none⟩) (by show _ ≤ h; omega) _).setCell (p := ⟨h, 1, none⟩) (by show _ ≤ h; omega) _).setCell (p := ⟨h, 2, none⟩) (by show _ ≤ h; omega) _
          refine hK.out _ _ ⟨by rw [k_c.cell]; rfl, by rw [k_c.cell]; rfl, by rw [k_c.cell]; rfl, by rw [k_c.cell]; rfl⟩ (fun hHeld => ?_)
          clear hK K
          generalize (((U13.setCell ⟨h, 0, none⟩ (.int .i64 3)).setCell ⟨h, 1, none⟩ (.int .i64 vn)).setCell ⟨h, 2, none⟩ (.string ⟨#[]⟩)) = U14 at *
          (try simp only [Act.put, List.setIfInBounds_toArray, List.set_cons_zero, List.set_cons_succ])
          refine wpAnyH_done (by kernel_rfl) ?_ _
          go_wp2_with fail
          go_meet
          exact ⟨g, h, rfl, rfl, ⟨bb, k_g, k_h, k_c, by omega, by omega⟩⟩
      · go_simp
        have n_q := k_c.lt
        have n_l := k_g.lt
        have k_c := k_c.alloc (.cells #[.int .i64 0, .int .i64 0, .string ⟨#[]⟩] 27)
        have k_g := k_g.alloc (.cells #[.int .i64 0, .int .i64 0, .string ⟨#[]⟩] 27)
        have k_h := Blk.new U10 27 #[.int .i64 0, .int .i64 0, .string ⟨#[]⟩]
        have bb := bb.alloc bb.size (.cells #[.int .i64 0, .int .i64 0, .string ⟨#[]⟩] 27)
        refine hK.out _ _ ⟨by rw [k_c.cell]; rfl, by rw [k_c.cell]; rfl, by rw [k_c.cell]; rfl, by rw [k_c.cell]; rfl⟩ (fun hHeld => ?_)
        clear hK K
        generalize U10.alloc (.cells #[.int .i64 0, .int .i64 0, .string ⟨#[]⟩] 27) = U15 at *
        generalize U10.heap.size = h at *
        have n_hg : g ≠ h := by omega
        have n_gh : h ≠ g := by omega
        clear n_l
        have n_hq := n_q
        clear n_q
        (try simp only [Act.put, List.setIfInBounds_toArray, List.set_cons_zero, List.set_cons_succ])
        refine wpAnyH_ready (rs := [2]) (by kernel_rfl) (by simp) ?_
        refine AllReadyH.cons rfl (fun K hK => ?_) AllReadyH.nil
        · go_simp
          go_at_call 19
          (with_reducible refine (HCA.out _ bb).mono ?_)
          rintro e U16 ⟨rfl, bq⟩
          have k_c := k_c.below bq k_c.lt
          have k_g := k_g.below bq k_g.lt
          have k_h := k_h.below bq k_h.lt
          have bb := bb.trans (bq.mono bb.size)
          clear bq
          refine hK.out _ _ ⟨by rw [k_c.cell]; rfl, by rw [k_c.cell]; rfl, by rw [k_c.cell]; rfl, by rw [k_c.cell]; rfl⟩ (fun hHeld => ?_)
          clear hK K
          (try simp only [Act.put, List.setIfInBounds_toArray, List.set_cons_zero, List.set_cons_succ])
          have x_g0 : U16.cell? ⟨g, 0, none⟩ = some (.int .i64 0) := by rw [k_g.cell]; rfl
          have z_g0 := k_g.frozen 0
          have x_g1 : U16.cell? ⟨g, 1, none⟩ = some (.int .i64 0) := by rw [k_g.cell]; rfl
          have z_g1 := k_g.frozen 1
          have x_g2 : U16.cell? ⟨g, 2, none⟩ = some (.string ⟨#[]⟩) := by rw [k_g.cell]; rfl
          have z_g2 := k_g.frozen 2
          have l_g := k_g.lt
          refine wpAnyH_ready (rs := [9]) (by kernel_rfl) (by simp) ?_
          refine AllReadyH.cons rfl (fun K hK => ?_) AllReadyH.nil
          go_simp
          clear x_g0 x_g1 x_g2 z_g0 z_g1 z_g2 l_g
          have k_g : Blk (((U16.setCell ⟨g, 0, none⟩ (.int .i64 k.1)).setCell ⟨g, 1, none⟩ (.int .i64 k.2.1)).setCell ⟨g, 2, none⟩ (.string k.2.2)) g 27 #[.int .i64 k.1, .int .i64 k.2.1, .string k.2.2] := ((k_g.set_ 0 _).set_ 1 _).set_ 2 _
          have k_h : Blk (((U16.setCell ⟨g, 0, none⟩ (.int .i64 k.1)).setCell ⟨g, 1, none⟩ (.int .i64 k.2.1)).setCell ⟨g, 2, none⟩ (.string k.2.2)) _ _ _ := ((k_h.far (p := ⟨g, 0, none⟩) n_gh _).far (p := ⟨g, 1, none⟩) n_gh _).far (p := ⟨g, 2, none⟩) n_gh _
          have k_c : Blk (((U16.setCell ⟨g, 0, none⟩ (.int .i64 k.1)).setCell ⟨g, 1, none⟩ (.int .i64 k.2.1)).setCell ⟨g, 2, none⟩ (.string k.2.2)) _ _ _ := ((k_c.far (p := ⟨g, 0, none⟩) (by show w.heap.size ≠ g; omega) _).far (p := ⟨g, 1, none⟩) (by show w.heap.size ≠ g; omega) _).far (p := ⟨g, 2, none⟩) (by show w.heap.size ≠ g; omega) _
          have bb : Below w.heap.size w (((U16.setCell ⟨g, 0, none⟩ (.int .i64 k.1)).setCell ⟨g, 1, none⟩ (.int .i64 k.2.1)).setCell ⟨g, 2, none⟩ (.string k.2.2)) := ((bb.setCell (p := ⟨g, 0, none⟩) (by show _ ≤ g; omega) _).setCell (p := ⟨g, 1, none⟩) (by show _ ≤ g; omega) _).setCell (p := ⟨g, 2, none⟩) (by show _ ≤ g; omega) _
          refine hK.out _ _ ⟨by rw [k_c.cell]; rfl, by rw [k_c.cell]; rfl, by rw [k_c.cell]; rfl, by rw [k_c.cell]; rfl⟩ (fun hHeld => ?_)
          clear hK K
          generalize (((U16.setCell ⟨g, 0, none⟩ (.int .i64 k.1)).setCell ⟨g, 1, none⟩ (.int .i64 k.2.1)).setCell ⟨g, 2, none⟩ (.string k.2.2)) = U17 at *
          (try simp only [Act.put, List.setIfInBounds_toArray, List.set_cons_zero, List.set_cons_succ])
          have x_h0 : U17.cell? ⟨h, 0, none⟩ = some (.int .i64 0) := by rw [k_h.cell]; rfl
          have z_h0 := k_h.frozen 0
          have x_h1 : U17.cell? ⟨h, 1, none⟩ = some (.int .i64 0) := by rw [k_h.cell]; rfl
          have z_h1 := k_h.frozen 1
          have x_h2 : U17.cell? ⟨h, 2, none⟩ = some (.string ⟨#[]⟩) := by rw [k_h.cell]; rfl
          have z_h2 := k_h.frozen 2
          have l_h := k_h.lt
          refine wpAnyH_ready (rs := [10]) (by kernel_rfl) (by simp) ?_
          refine AllReadyH.cons rfl (fun K hK => ?_) AllReadyH.nil
          go_simp
          clear x_h0 x_h1 x_h2 z_h0 z_h1 z_h2 l_h
          have k_h : Blk (((U17.setCell ⟨h, 0, none⟩ (.int .i64 3)).setCell ⟨h, 1, none⟩ (.int .i64 vn)).setCell ⟨h, 2, none⟩ (.string ⟨#[]⟩)) h 27 #[.int .i64 3, .int .i64 vn, .string ⟨#[]⟩] := ((k_h.set_ 0 _).set_ 1 _).set_ 2 _
          have k_g : Blk (((U17.setCell ⟨h, 0, none⟩ (.int .i64 3)).setCell ⟨h, 1, none⟩ (.int .i64 vn)).setCell ⟨h, 2, none⟩ (.string ⟨#[]⟩)) _ _ _ := ((k_g.far (p := ⟨h, 0, none⟩) n_hg _).far (p := ⟨h, 1, none⟩) n_hg _).far (p := ⟨h, 2, none⟩) n_hg _
          have k_c : Blk (((U17.setCell ⟨h, 0, none⟩ (.int .i64 3)).setCell ⟨h, 1, none⟩ (.int .i64 vn)).setCell ⟨h, 2, none⟩ (.string ⟨#[]⟩)) _ _ _ := ((k_c.far (p := ⟨h, 0, none⟩) (by show w.heap.size ≠ h; omega) _).far (p := ⟨h, 1, none⟩) (by show w.heap.size ≠ h; omega) _).far (p := ⟨h, 2, none⟩) (by show w.heap.size ≠ h; omega) _
          have bb : Below w.heap.size w (((U17.setCell ⟨h, 0, none⟩ (.int .i64 3)).setCell ⟨h, 1, none⟩ (.int .i64 vn)).setCell ⟨h, 2, none⟩ (.string ⟨#[]⟩)) := ((bb.setCell (p := ⟨h, 0, none⟩) (by show _ ≤ h; omega) _).setCell (p := ⟨h, 1, none⟩) (by show _ ≤ h; omega) _).setCell (p := ⟨h, 2, none⟩) (by show _ ≤ h; omega) _
          refine hK.out _ _ ⟨by rw [k_c.cell]; rfl, by rw [k_c.cell]; rfl, by rw [k_c.cell]; rfl, by rw [k_c.cell]; rfl⟩ (fun hHeld => ?_)
          clear hK K
          generalize (((U17.setCell ⟨h, 0, none⟩ (.int .i64 3)).setCell ⟨h, 1, none⟩ (.int .i64 vn)).setCell ⟨h, 2, none⟩ (.string ⟨#[]⟩)) = U18 at *
          (try simp only [Act.put, List.setIfInBounds_toArray, List.set_cons_zero, List.set_cons_succ])
          refine wpAnyH_done (by kernel_rfl) ?_ _
          go_wp2_with fail
          go_meet
          exact ⟨g, h, rfl, rfl, ⟨bb, k_g, k_h, k_c, by omega, by omega⟩⟩
    · go_simp
      have n_q := k_c.lt
      have k_c := k_c.alloc (.cells #[.int .i64 0, .int .i64 0, .string ⟨#[]⟩] 27)
      have k_h := Blk.new D0 27 #[.int .i64 0, .int .i64 0, .string ⟨#[]⟩]
      have bb := bb.alloc bb.size (.cells #[.int .i64 0, .int .i64 0, .string ⟨#[]⟩] 27)
      refine hK.out _ _ ⟨by rw [k_c.cell]; rfl, by rw [k_c.cell]; rfl, by rw [k_c.cell]; rfl, by rw [k_c.cell]; rfl⟩ (fun hHeld => ?_)
      clear hK K
      generalize D0.alloc (.cells #[.int .i64 0, .int .i64 0, .string ⟨#[]⟩] 27) = U19 at *
      generalize D0.heap.size = h at *
      have n_hq := n_q
      clear n_q
      (try simp only [Act.put, List.setIfInBounds_toArray, List.set_cons_zero, List.set_cons_succ])
      refine wpAnyH_ready (rs := [2, 7]) (by kernel_rfl) (by simp) ?_
      refine AllReadyH.cons rfl (fun K hK => ?_) (AllReadyH.cons rfl (fun K hK => ?_) AllReadyH.nil)
      · go_simp
        go_at_call 19
        (with_reducible refine (HCA.out _ bb).mono ?_)
        rintro e U20 ⟨rfl, bq⟩
        have k_c := k_c.below bq k_c.lt
        have k_h := k_h.below bq k_h.lt
        have bb := bb.trans (bq.mono bb.size)
        clear bq
        refine hK.out _ _ ⟨by rw [k_c.cell]; rfl, by rw [k_c.cell]; rfl, by rw [k_c.cell]; rfl, by rw [k_c.cell]; rfl⟩ (fun hHeld => ?_)
        clear hK K
        (try simp only [Act.put, List.setIfInBounds_toArray, List.set_cons_zero, List.set_cons_succ])
        refine wpAnyH_ready (rs := [7]) (by kernel_rfl) (by simp) ?_
        refine AllReadyH.cons rfl (fun K hK => ?_) AllReadyH.nil
        · go_simp
          have n_q := k_c.lt
          have n_l := k_h.lt
          have k_c := k_c.alloc (.cells #[.int .i64 0, .int .i64 0, .string ⟨#[]⟩] 27)
          have k_h := k_h.alloc (.cells #[.int .i64 0, .int .i64 0, .string ⟨#[]⟩] 27)
          have k_g := Blk.new U20 27 #[.int .i64 0, .int .i64 0, .string ⟨#[]⟩]
          have bb := bb.alloc bb.size (.cells #[.int .i64 0, .int .i64 0, .string ⟨#[]⟩] 27)
          refine hK.out _ _ ⟨by rw [k_c.cell]; rfl, by rw [k_c.cell]; rfl, by rw [k_c.cell]; rfl, by rw [k_c.cell]; rfl⟩ (fun hHeld => ?_)
          clear hK K
          generalize U20.alloc (.cells #[.int .i64 0, .int .i64 0, .string ⟨#[]⟩] 27) = U21 at *
          generalize U20.heap.size = g at *
          have n_gh : h ≠ g := by omega
          have n_hg : g ≠ h := by omega
          clear n_l
          have n_gq := n_q
          clear n_q
          (try simp only [Act.put, List.setIfInBounds_toArray, List.set_cons_zero, List.set_cons_succ])
          have x_g0 : U21.cell? ⟨g, 0, none⟩ = some (.int .i64 0) := by rw [k_g.cell]; rfl
          have z_g0 := k_g.frozen 0
          have x_g1 : U21.cell? ⟨g, 1, none⟩ = some (.int .i64 0) := by rw [k_g.cell]; rfl
          have z_g1 := k_g.frozen 1
          have x_g2 : U21.cell? ⟨g, 2, none⟩ = some (.string ⟨#[]⟩) := by rw [k_g.cell]; rfl
          have z_g2 := k_g.frozen 2
          have l_g := k_g.lt
          refine wpAnyH_ready (rs := [9]) (by kernel_rfl) (by simp) ?_
          refine AllReadyH.cons rfl (fun K hK => ?_) AllReadyH.nil
          go_simp
          clear x_g0 x_g1 x_g2 z_g0 z_g1 z_g2 l_g
          have k_g : Blk (((U21.setCell ⟨g, 0, none⟩ (.int .i64 k.1)).setCell ⟨g, 1, none⟩ (.int .i64 k.2.1)).setCell ⟨g, 2, none⟩ (.string k.2.2)) g 27 #[.int .i64 k.1, .int .i64 k.2.1, .string k.2.2] := ((k_g.set_ 0 _).set_ 1 _).set_ 2 _
          have k_h : Blk (((U21.setCell ⟨g, 0, none⟩ (.int .i64 k.1)).setCell ⟨g, 1, none⟩ (.int .i64 k.2.1)).setCell ⟨g, 2, none⟩ (.string k.2.2)) _ _ _ := ((k_h.far (p := ⟨g, 0, none⟩) n_gh _).far (p := ⟨g, 1, none⟩) n_gh _).far (p := ⟨g, 2, none⟩) n_gh _
          have k_c : Blk (((U21.setCell ⟨g, 0, none⟩ (.int .i64 k.1)).setCell ⟨g, 1, none⟩ (.int .i64 k.2.1)).setCell ⟨g, 2, none⟩ (.string k.2.2)) _ _ _ := ((k_c.far (p := ⟨g, 0, none⟩) (by show w.heap.size ≠ g; omega) _).far (p := ⟨g, 1, none⟩) (by show w.heap.size ≠ g; omega) _).far (p := ⟨g, 2, none⟩) (by show w.heap.size ≠ g; omega) _
          have bb : Below w.heap.size w (((U21.setCell ⟨g, 0, none⟩ (.int .i64 k.1)).setCell ⟨g, 1, none⟩ (.int .i64 k.2.1)).setCell ⟨g, 2, none⟩ (.string k.2.2)) := ((bb.setCell (p := ⟨g, 0, none⟩) (by show _ ≤ g; omega) _).setCell (p := ⟨g, 1, none⟩) (by show _ ≤ g; omega) _).setCell (p := ⟨g, 2, none⟩) (by show _ ≤ g; omega) _
          refine hK.out _ _ ⟨by rw [k_c.cell]; rfl, by rw [k_c.cell]; rfl, by rw [k_c.cell]; rfl, by rw [k_c.cell]; rfl⟩ (fun hHeld => ?_)
          clear hK K
          generalize (((U21.setCell ⟨g, 0, none⟩ (.int .i64 k.1)).setCell ⟨g, 1, none⟩ (.int .i64 k.2.1)).setCell ⟨g, 2, none⟩ (.string k.2.2)) = U22 at *
          (try simp only [Act.put, List.setIfInBounds_toArray, List.set_cons_zero, List.set_cons_succ])
          have x_h0 : U22.cell? ⟨h, 0, none⟩ = some (.int .i64 0) := by rw [k_h.cell]; rfl
          have z_h0 := k_h.frozen 0
          have x_h1 : U22.cell? ⟨h, 1, none⟩ = some (.int .i64 0) := by rw [k_h.cell]; rfl
          have z_h1 := k_h.frozen 1
          have x_h2 : U22.cell? ⟨h, 2, none⟩ = some (.string ⟨#[]⟩) := by rw [k_h.cell]; rfl
          have z_h2 := k_h.frozen 2
          have l_h := k_h.lt
          refine wpAnyH_ready (rs := [10]) (by kernel_rfl) (by simp) ?_
          refine AllReadyH.cons rfl (fun K hK => ?_) AllReadyH.nil
          go_simp
          clear x_h0 x_h1 x_h2 z_h0 z_h1 z_h2 l_h
          have k_h : Blk (((U22.setCell ⟨h, 0, none⟩ (.int .i64 3)).setCell ⟨h, 1, none⟩ (.int .i64 vn)).setCell ⟨h, 2, none⟩ (.string ⟨#[]⟩)) h 27 #[.int .i64 3, .int .i64 vn, .string ⟨#[]⟩] := ((k_h.set_ 0 _).set_ 1 _).set_ 2 _
          have k_g : Blk (((U22.setCell ⟨h, 0, none⟩ (.int .i64 3)).setCell ⟨h, 1, none⟩ (.int .i64 vn)).setCell ⟨h, 2, none⟩ (.string ⟨#[]⟩)) _ _ _ := ((k_g.far (p := ⟨h, 0, none⟩) n_hg _).far (p := ⟨h, 1, none⟩) n_hg _).far (p := ⟨h, 2, none⟩) n_hg _
          have k_c : Blk (((U22.setCell ⟨h, 0, none⟩ (.int .i64 3)).setCell ⟨h, 1, none⟩ (.int .i64 vn)).setCell ⟨h, 2, none⟩ (.string ⟨#[]⟩)) _ _ _ := ((k_c.far (p := ⟨h, 0, none⟩) (by show w.heap.size ≠ h; omega) _).far (p := ⟨h, 1, none⟩) (by show w.heap.size ≠ h; omega) _).far (p := ⟨h, 2, none⟩) (by show w.heap.size ≠ h; omega) _
          have bb : Below w.heap.size w (((U22.setCell ⟨h, 0, none⟩ (.int .i64 3)).setCell ⟨h, 1, none⟩ (.int .i64 vn)).setCell ⟨h, 2, none⟩ (.string ⟨#[]⟩)) := ((bb.setCell (p := ⟨h, 0, none⟩) (by show _ ≤ h; omega) _).setCell (p := ⟨h, 1, none⟩) (by show _ ≤ h; omega) _).setCell (p := ⟨h, 2, none⟩) (by show _ ≤ h; omega) _
          refine hK.out _ _ ⟨by rw [k_c.cell]; rfl, by rw [k_c.cell]; rfl, by rw [k_c.cell]; rfl, by rw [k_c.cell]; rfl⟩ (fun hHeld => ?_)
          clear hK K
          generalize (((U22.setCell ⟨h, 0, none⟩ (.int .i64 3)).setCell ⟨h, 1, none⟩ (.int .i64 vn)).setCell ⟨h, 2, none⟩ (.string ⟨#[]⟩)) = U23 at *
          (try simp only [Act.put, List.setIfInBounds_toArray, List.set_cons_zero, List.set_cons_succ])
          refine wpAnyH_done (by kernel_rfl) ?_ _
          go_wp2_with fail
          go_meet
          exact ⟨g, h, rfl, rfl, ⟨bb, k_g, k_h, k_c, by omega, by omega⟩⟩
      · go_simp
        have n_q := k_c.lt
        have n_l := k_h.lt
        have k_c := k_c.alloc (.cells #[.int .i64 0, .int .i64 0, .string ⟨#[]⟩] 27)
        have k_h := k_h.alloc (.cells #[.int .i64 0, .int .i64 0, .string ⟨#[]⟩] 27)
        have k_g := Blk.new U19 27 #[.int .i64 0, .int .i64 0, .string ⟨#[]⟩]
        have bb := bb.alloc bb.size (.cells #[.int .i64 0, .int .i64 0, .string ⟨#[]⟩] 27)
        refine hK.out _ _ ⟨by rw [k_c.cell]; rfl, by rw [k_c.cell]; rfl, by rw [k_c.cell]; rfl, by rw [k_c.cell]; rfl⟩ (fun hHeld => ?_)
        clear hK K
        generalize U19.alloc (.cells #[.int .i64 0, .int .i64 0, .string ⟨#[]⟩] 27) = U24 at *
        generalize U19.heap.size = g at *
        have n_gh : h ≠ g := by omega
        have n_hg : g ≠ h := by omega
        clear n_l
        have n_gq := n_q
        clear n_q
        (try simp only [Act.put, List.setIfInBounds_toArray, List.set_cons_zero, List.set_cons_succ])
        refine wpAnyH_ready (rs := [2]) (by kernel_rfl) (by simp) ?_
        refine AllReadyH.cons rfl (fun K hK => ?_) AllReadyH.nil
        · go_simp
          go_at_call 19
          (with_reducible refine (HCA.out _ bb).mono ?_)
          rintro e U25 ⟨rfl, bq⟩
          have k_c := k_c.below bq k_c.lt
          have k_g := k_g.below bq k_g.lt
          have k_h := k_h.below bq k_h.lt
          have bb := bb.trans (bq.mono bb.size)
          clear bq
          refine hK.out _ _ ⟨by rw [k_c.cell]; rfl, by rw [k_c.cell]; rfl, by rw [k_c.cell]; rfl, by rw [k_c.cell]; rfl⟩ (fun hHeld => ?_)
          clear hK K
          (try simp only [Act.put, List.setIfInBounds_toArray, List.set_cons_zero, List.set_cons_succ])
          have x_g0 : U25.cell? ⟨g, 0, none⟩ = some (.int .i64 0) := by rw [k_g.cell]; rfl
          have z_g0 := k_g.frozen 0
          have x_g1 : U25.cell? ⟨g, 1, none⟩ = some (.int .i64 0) := by rw [k_g.cell]; rfl
          have z_g1 := k_g.frozen 1
          have x_g2 : U25.cell? ⟨g, 2, none⟩ = some (.string ⟨#[]⟩) := by rw [k_g.cell]; rfl
          have z_g2 := k_g.frozen 2
          have l_g := k_g.lt
          refine wpAnyH_ready (rs := [9]) (by kernel_rfl) (by simp) ?_
          refine AllReadyH.cons rfl (fun K hK => ?_) AllReadyH.nil
          go_simp
          clear x_g0 x_g1 x_g2 z_g0 z_g1 z_g2 l_g
          have k_g : Blk (((U25.setCell ⟨g, 0, none⟩ (.int .i64 k.1)).setCell ⟨g, 1, none⟩ (.int .i64 k.2.1)).setCell ⟨g, 2, none⟩ (.string k.2.2)) g 27 #[.int .i64 k.1, .int .i64 k.2.1, .string k.2.2] := ((k_g.set_ 0 _).set_ 1 _).set_ 2 _
          have k_h : Blk (((U25.setCell ⟨g, 0, none⟩ (.int .i64 k.1)).setCell ⟨g, 1, none⟩ (.int .i64 k.2.1)).setCell ⟨g, 2, none⟩ (.string k.2.2)) _ _ _ := ((k_h.far (p := ⟨g, 0, none⟩) n_gh _).far (p := ⟨g, 1, none⟩) n_gh _).far (p := ⟨g, 2, none⟩) n_gh _
          have k_c : Blk (((U25.setCell ⟨g, 0, none⟩ (.int .i64 k.1)).setCell ⟨g, 1, none⟩ (.int .i64 k.2.1)).setCell ⟨g, 2, none⟩ (.string k.2.2)) _ _ _ := ((k_c.far (p := ⟨g, 0, none⟩) (by show w.heap.size ≠ g; omega) _).far (p := ⟨g, 1, none⟩) (by show w.heap.size ≠ g; omega) _).far (p := ⟨g, 2, none⟩) (by show w.heap.size ≠ g; omega) _
          have bb : Below w.heap.size w (((U25.setCell ⟨g, 0, none⟩ (.int .i64 k.1)).setCell ⟨g, 1, none⟩ (.int .i64 k.2.1)).setCell ⟨g, 2, none⟩ (.string k.2.2)) := ((bb.setCell (p := ⟨g, 0, none⟩) (by show _ ≤ g; omega) _).setCell (p := ⟨g, 1, none⟩) (by show _ ≤ g; omega) _).setCell (p := ⟨g, 2, none⟩) (by show _ ≤ g; omega) _
          refine hK.out _ _ ⟨by rw [k_c.cell]; rfl, by rw [k_c.cell]; rfl, by rw [k_c.cell]; rfl, by rw [k_c.cell]; rfl⟩ (fun hHeld => ?_)
          clear hK K
          generalize (((U25.setCell ⟨g, 0, none⟩ (.int .i64 k.1)).setCell ⟨g, 1, none⟩ (.int .i64 k.2.1)).setCell ⟨g, 2, none⟩ (.string k.2.2)) = U26 at *
          (try simp only [Act.put, List.setIfInBounds_toArray, List.set_cons_zero, List.set_cons_succ])
          have x_h0 : U26.cell? ⟨h, 0, none⟩ = some (.int .i64 0) := by rw [k_h.cell]; rfl
          have z_h0 := k_h.frozen 0
          have x_h1 : U26.cell? ⟨h, 1, none⟩ = some (.int .i64 0) := by rw [k_h.cell]; rfl
          have z_h1 := k_h.frozen 1
          have x_h2 : U26.cell? ⟨h, 2, none⟩ = some (.string ⟨#[]⟩) := by rw [k_h.cell]; rfl
          have z_h2 := k_h.frozen 2
          have l_h := k_h.lt
          refine wpAnyH_ready (rs := [10]) (by kernel_rfl) (by simp) ?_
          refine AllReadyH.cons rfl (fun K hK => ?_) AllReadyH.nil
          go_simp
          clear x_h0 x_h1 x_h2 z_h0 z_h1 z_h2 l_h
          have k_h : Blk (((U26.setCell ⟨h, 0, none⟩ (.int .i64 3)).setCell ⟨h, 1, none⟩ (.int .i64 vn)).setCell ⟨h, 2, none⟩ (.string ⟨#[]⟩)) h 27 #[.int .i64 3, .int .i64 vn, .string ⟨#[]⟩] := ((k_h.set_ 0 _).set_ 1 _).set_ 2 _
          have k_g : Blk (((U26.setCell ⟨h, 0, none⟩ (.int .i64 3)).setCell ⟨h, 1, none⟩ (.int .i64 vn)).setCell ⟨h, 2, none⟩ (.string ⟨#[]⟩)) _ _ _ := ((k_g.far (p := ⟨h, 0, none⟩) n_hg _).far (p := ⟨h, 1, none⟩) n_hg _).far (p := ⟨h, 2, none⟩) n_hg _
          have k_c : Blk (((U26.setCell ⟨h, 0, none⟩ (.int .i64 3)).setCell ⟨h, 1, none⟩ (.int .i64 vn)).setCell ⟨h, 2, none⟩ (.string ⟨#[]⟩)) _ _ _ := ((k_c.far (p := ⟨h, 0, none⟩) (by show w.heap.size ≠ h; omega) _).far (p := ⟨h, 1, none⟩) (by show w.heap.size ≠ h; omega) _).far (p := ⟨h, 2, none⟩) (by show w.heap.size ≠ h; omega) _
          have bb : Below w.heap.size w (((U26.setCell ⟨h, 0, none⟩ (.int .i64 3)).setCell ⟨h, 1, none⟩ (.int .i64 vn)).setCell ⟨h, 2, none⟩ (.string ⟨#[]⟩)) := ((bb.setCell (p := ⟨h, 0, none⟩) (by show _ ≤ h; omega) _).setCell (p := ⟨h, 1, none⟩) (by show _ ≤ h; omega) _).setCell (p := ⟨h, 2, none⟩) (by show _ ≤ h; omega) _
          refine hK.out _ _ ⟨by rw [k_c.cell]; rfl, by rw [k_c.cell]; rfl, by rw [k_c.cell]; rfl, by rw [k_c.cell]; rfl⟩ (fun hHeld => ?_)
          clear hK K
          generalize (((U26.setCell ⟨h, 0, none⟩ (.int .i64 3)).setCell ⟨h, 1, none⟩ (.int .i64 vn)).setCell ⟨h, 2, none⟩ (.string ⟨#[]⟩)) = U27 at *
          (try simp only [Act.put, List.setIfInBounds_toArray, List.set_cons_zero, List.set_cons_succ])
          refine wpAnyH_done (by kernel_rfl) ?_ _
          go_wp2_with fail
          go_meet
          exact ⟨g, h, rfl, rfl, ⟨bb, k_g, k_h, k_c, by omega, by omega⟩⟩
  case rest =>
    obtain ⟨wA, hwA⟩ : ∃ x, x = wc := ⟨_, rfl⟩
    subst hwA
    obtain ⟨g, h, rfl, rfl, ⟨bb, kg, kh, kc, hg, hh⟩⟩ := hcut
    have HM := Lib.hid (HM.out.below bb)
    have k_B := HM.out.bb
    have k_k : Bx wA (UU O R) g _ _ := ⟨kg, fun hx => by have := HUL.out _ hx; omega⟩
    have k_v : Bx wA (UU O R) h _ _ := ⟨kh, fun hx => by have := HUL.out _ hx; omega⟩
    have k_c : Bx wA (UU O R) w.heap.size _ _ := ⟨kc, fun hx => by have := HUL.out _ hx; omega⟩
    have hAL := HR.out.AL
    have hDL := HR.out.DL
    clear kg kh kc bb hg hh HUL HCA
    have c_c0 : wA.cell? ⟨w.heap.size, 0, none⟩ = some (.int .i64 c.kind) := by rw [k_c.blk.cell]; rfl
    rcases hc7 with rfl | rfl
    · obtain ⟨AC, capC, hcv, hAC⟩ := own_shape HM.out.rc.own
      obtain ⟨AD, capD, hdv, hAD⟩ := own_shape HM.out.rd.own
      obtain ⟨m, hXm⟩ : ∃ m, X.length = m := ⟨_, rfl⟩
      rw [hXm] at hX hDL hcv hAC hdv hAD
      subst hcv hdv
      have c_B2 : wA.cell? ⟨B, 2, none⟩ = some (.slice AC m capC) := by rw [k_B.blk.cell]; rfl
      have c_B3 : wA.cell? ⟨B, 3, none⟩ = some (.slice AD m capD) := by rw [k_B.blk.cell]; rfl
      have c_c5 : wA.cell? ⟨w.heap.size, 5, none⟩ = some (.int .i64 c.m) := by rw [k_c.blk.cell]; rfl
      by_cases hm0 : m = 0
      · have t1 : ((m : Int) == 0) = true := by simp [hm0]
        have HF := Lib.hid (show PlayP w0 B T M (j + 1) (.returned (.bool true)) wA from ⟨rfl, _, _, _, _, _, _, _, _, _, _, HM.out, HR.out, by omega, by omega, by omega⟩)
        go_wp2
        go_ret
        exact HF.out
      · have t1 : ((m : Int) == 0) = false := by simp; omega
        have hm60 : 1 ≤ m ∧ m ≤ 60 := ⟨by omega, by omega⟩
        have mw := mdx_eq m c.m hm60
        have ml := mdx_lt m c.m hm60.1
        generalize mdx m c.m = i at mw ml
        have i0 : (0 : Int) ≤ (i : Int) := by omega
        have i1 : (i : Int) < (m : Int) := by omega
        obtain ⟨gC, rfl⟩ := hAC (by omega)
        obtain ⟨gD, rfl⟩ := hAD (by omega)
        obtain ⟨x, hx⟩ : ∃ x, X[i]? = some x := ⟨_, List.getElem?_eq_getElem (by omega)⟩
        have HX := Lib.hid hx
        clear hx hAC hAD
        go_upto_region 24 with fail
        go_quiet (fail)
        clear c_c0 c_B2 c_B3 c_c5 t1 mw
        have k_B := k_B.below (below_drewN (Below.refl _ wA) nq)
        have k_k := k_k.below (below_drewN (Below.refl _ wA) nq)
        have k_v := k_v.below (below_drewN (Below.refl _ wA) nq)
        have k_c := k_c.below (below_drewN (Below.refl _ wA) nq)
        have HM := Lib.hid (HM.out.below (below_drewN (Below.refl _ wA) nq))
        generalize wA.drewN nq = W9 at *
        have c_c0 : W9.cell? ⟨w.heap.size, 0, none⟩ = some (.int .i64 c.kind) := by rw [k_c.blk.cell]; rfl
        have c_B2 : W9.cell? ⟨B, 2, none⟩ = some (.slice (some ⟨gC, 0, none⟩) m capC) := by rw [k_B.blk.cell]; rfl
        have hrc := HM.out.rc
        rw [hXm] at hrc
        have c_x : W9.cell? ⟨gC, i, none⟩ = some (.pointer (some ⟨x.c, 0, none⟩)) := row_ptr hrc ml (by rw [List.getElem?_map, HX.out]; rfl)
        clear hrc
        have hnx := next_both HM.out HR.out HX.out (by omega) (by omega)
        obtain ⟨r, hr⟩ : ∃ r, nxt A L cl x = r := ⟨_, rfl⟩
        obtain ⟨rb, hrb⟩ : ∃ b, r.isSome = b := ⟨_, rfl⟩
        obtain ⟨fr, hfr⟩ : ∃ f, rf r = f := ⟨_, rfl⟩
        rw [hr, hrb, hfr] at hnx
        have HRB := Lib.hid hrb
        have HFR := Lib.hid hfr
        clear hrb hfr
        go_upto_region 28 with fail
        go_wp2_with fail
        refine hnx.mono ?_
        rintro e U28 ⟨rfl, D2, O2, hM2, s2, hN2⟩
        clear hnx c_c0 c_B2 c_x k_B k_k k_v k_c
        have b2 : Below U28.heap.size U28 ((U28.alloc (.cells #[.int .i64 (rk r).1, .int .i64 (rk r).2.1, .string (rk r).2.2] 27)).alloc (.cells #[.int .i64 (rv r).1, .int .i64 (rv r).2.1, .string (rv r).2.2] 27)) := ((Below.refl _ _).alloc (Nat.le_refl _) _).alloc (by simp) _
        have k_p : Blk ((U28.alloc (.cells #[.int .i64 (rk r).1, .int .i64 (rk r).2.1, .string (rk r).2.2] 27)).alloc (.cells #[.int .i64 (rv r).1, .int .i64 (rv r).2.1, .string (rv r).2.2] 27)) U28.heap.size _ _ := (Blk.new U28 27 #[.int .i64 (rk r).1, .int .i64 (rk r).2.1, .string (rk r).2.2]).alloc (.cells #[.int .i64 (rv r).1, .int .i64 (rv r).2.1, .string (rv r).2.2] 27)
        have k_q := Blk.new (U28.alloc (.cells #[.int .i64 (rk r).1, .int .i64 (rk r).2.1, .string (rk r).2.2] 27)) 27 #[.int .i64 (rv r).1, .int .i64 (rv r).2.1, .string (rv r).2.2]
        rw [World.size_alloc] at k_q
        replace HM := Lib.hid (hM2.below b2)
        have HN := Lib.hid (hN2.stp (w2 := ((U28.alloc (.cells #[.int .i64 (rk r).1, .int .i64 (rk r).2.1, .string (rk r).2.2] 27)).alloc (.cells #[.int .i64 (rv r).1, .int .i64 (rv r).2.1, .string (rv r).2.2] 27))) (O2 := O2) (R2 := R) (fun a h => h.below b2))
        clear hM2 s2 hN2 b2
        go_upto_region 29 with fail
        generalize U28.heap.size = pb at *
        generalize ((U28.alloc (.cells #[.int .i64 (rk r).1, .int .i64 (rk r).2.1, .string (rk r).2.2] 27)).alloc (.cells #[.int .i64 (rv r).1, .int .i64 (rv r).2.1, .string (rv r).2.2] 27)) = W7 at *
        have HRN := Lib.hid (fun (Wz : World) (hMz : Mem w0 Wz B T M A D2 O2 L cl R lv (.slice (some ⟨gC, 0, none⟩) m capC) (.slice (some ⟨gD, 0, none⟩) m capD) X) (hNz : Nx A D D2 O2 R L cl x Wz) => rnext_both hMz HR.out HX.out (by omega) hNz)
        go_cut [16, 17] from 239 to 253 (fun s16 s17 wx => ∃ q D3 y, s16 = .pointer (some ⟨q, 0, none⟩) ∧ s17 = .bool rb ∧ Mem w0 wx B T M A D2 O2 L cl R lv (.slice (some ⟨gC, 0, none⟩) m capC) (.slice (some ⟨gD, 0, none⟩) m capD) (X.set i y) ∧ Rel A D3 L cl (X.set i y) ∧ D3 = D2 ∧ y.c = x.c ∧ y.d = x.d ∧ y.sh = !rb ∧ Blk wx pb 27 #[.int .i64 (rk r).1, .int .i64 (rk r).2.1, .string (rk r).2.2] ∧ Blk wx (pb + 1) 27 #[.int .i64 (rv r).1, .int .i64 (rv r).2.1, .string (rv r).2.2] ∧ Blk wx q 63 (EC (re r)))
        case first =>
          replace HM := Lib.hid HM.out.drew'
          replace k_p := k_p.drew
          replace k_q := k_q.drew
          replace HN := Lib.hid (HN.out.stp (w2 := W7.drew) (O2 := O2) (R2 := R) (fun a h => h.drew'))
          refine wp_region_held_drew (S := (fun W => W.cell? ⟨B, 1, none⟩ = some (.pointer (some ⟨M, 0, none⟩)) ∧ W.cell? ⟨B, 3, none⟩ = some (.slice (some ⟨gD, 0, none⟩) m capD) ∧ W.cell? ⟨gD, i, none⟩ = some (.pointer (some ⟨x.d, 0, none⟩)))) (by kernel_rfl) ⟨by rw [HM.out.bb.blk.cell]; rfl, by rw [HM.out.bb.blk.cell]; rfl, row_at2 HM.out.rd hXm ml HX.out⟩ (fun hHeld => ?_)
          generalize W7.drew = D8 at *
          change wpAnyH _ _ _ _ _ 18 #[false, false, false, false, false, false, false, false, false, false, false, false, false, false, false, false, false, false] _ _
          refine wpAnyH_take (i := 0) (oi := ?oo1001) (v := ?vv1001) ?hi1001 (by kernel_rfl) (by kernel_rfl) (by kernel_rfl) ?hq1001 ?hy1001 (by assumption) ?hh1001
          case hi1001 => (simp only [List.getElem?_toArray, List.getElem?_cons_succ, List.getElem?_cons_zero]; rfl)
          case hq1001 => exact fun _ _ _ h => h
          case hy1001 => exact Or.inl ⟨by rfl, by (intro W hSw; (try dsimp only at hSw); go_simp; (try with_reducible rfl))⟩
          (try simp only [Act.put, List.setIfInBounds_toArray, List.set_cons_zero, List.set_cons_succ])
          refine wpAnyH_take (i := 1) (oi := ?oo1002) (v := ?vv1002) ?hi1002 (by kernel_rfl) (by kernel_rfl) (by kernel_rfl) ?hq1002 ?hy1002 (by assumption) ?hh1002
          case hi1002 => (simp only [List.getElem?_toArray, List.getElem?_cons_succ, List.getElem?_cons_zero]; rfl)
          case hq1002 => exact fun _ _ _ h => h
          case hy1002 => exact Or.inl ⟨by rfl, by (intro W hSw; (try dsimp only at hSw); go_simp; (try with_reducible rfl))⟩
          (try simp only [Act.put, List.setIfInBounds_toArray, List.set_cons_zero, List.set_cons_succ])
          refine wpAnyH_take (i := 2) (oi := ?oo1003) (v := ?vv1003) ?hi1003 (by kernel_rfl) (by kernel_rfl) (by kernel_rfl) ?hq1003 ?hy1003 (by assumption) ?hh1003
          case hi1003 => (simp only [List.getElem?_toArray, List.getElem?_cons_succ, List.getElem?_cons_zero]; rfl)
          case hq1003 => exact fun _ _ _ h => h
          case hy1003 => exact Or.inl ⟨by rfl, by (intro W hSw; (try dsimp only at hSw); go_simp; (try with_reducible rfl))⟩
          (try simp only [Act.put, List.setIfInBounds_toArray, List.set_cons_zero, List.set_cons_succ])
          refine wpAnyH_take (i := 3) (oi := ?oo1004) (v := ?vv1004) ?hi1004 (by kernel_rfl) (by kernel_rfl) (by kernel_rfl) ?hq1004 ?hy1004 (by assumption) ?hh1004
          case hi1004 => (simp only [List.getElem?_toArray, List.getElem?_cons_succ, List.getElem?_cons_zero]; rfl)
          case hq1004 => exact fun _ _ _ h => h
          case hy1004 => exact Or.inl ⟨by rfl, by (intro W hSw; (try dsimp only at hSw); go_simp; (try with_reducible rfl))⟩
          (try simp only [Act.put, List.setIfInBounds_toArray, List.set_cons_zero, List.set_cons_succ])
          refine wpAnyH_take (i := 4) (oi := ?oo1005) (v := ?vv1005) ?hi1005 (by kernel_rfl) (by kernel_rfl) (by kernel_rfl) ?hq1005 ?hy1005 (by assumption) ?hh1005
          case hi1005 => (simp only [List.getElem?_toArray, List.getElem?_cons_succ, List.getElem?_cons_zero]; rfl)
          case hq1005 => exact fun _ _ _ h => h
          case hy1005 => exact Or.inl ⟨by rfl, by (intro W hSw; (try dsimp only at hSw); go_simp; (try with_reducible rfl))⟩
          (try simp only [Act.put, List.setIfInBounds_toArray, List.set_cons_zero, List.set_cons_succ])
          refine wpAnyH_take (i := 5) (oi := ?oo1006) (v := ?vv1006) ?hi1006 (by kernel_rfl) (by kernel_rfl) (by kernel_rfl) ?hq1006 ?hy1006 (by assumption) ?hh1006
          case hi1006 => (simp only [List.getElem?_toArray, List.getElem?_cons_succ, List.getElem?_cons_zero]; rfl)
          case hq1006 => exact fun _ _ _ h => h
          case hy1006 => exact Or.inl ⟨by rfl, by (intro W hSw; (try dsimp only at hSw); go_simp; (try with_reducible rfl))⟩
          (try simp only [Act.put, List.setIfInBounds_toArray, List.set_cons_zero, List.set_cons_succ])
          refine wpAnyH_take (i := 6) (oi := ?oo1007) (v := ?vv1007) ?hi1007 (by kernel_rfl) (by kernel_rfl) (by kernel_rfl) ?hq1007 ?hy1007 (by assumption) ?hh1007
          case hi1007 => (simp only [List.getElem?_toArray, List.getElem?_cons_succ, List.getElem?_cons_zero]; rfl)
          case hq1007 => exact fun _ _ _ h => h
          case hy1007 => exact Or.inl ⟨by rfl, by (intro W hSw; (try dsimp only at hSw); go_simp; (try with_reducible rfl))⟩
          (try simp only [Act.put, List.setIfInBounds_toArray, List.set_cons_zero, List.set_cons_succ])
          refine wpAnyH_take (i := 7) (oi := ?oo1008) (v := ?vv1008) ?hi1008 (by kernel_rfl) (by kernel_rfl) (by kernel_rfl) ?hq1008 ?hy1008 (by assumption) ?hh1008
          case hi1008 => (simp only [List.getElem?_toArray, List.getElem?_cons_succ, List.getElem?_cons_zero]; rfl)
          case hq1008 => exact fun _ _ _ h => h
          case hy1008 => exact Or.inl ⟨by rfl, by (intro W hSw; (try dsimp only at hSw); go_simp; (try with_reducible rfl))⟩
          (try simp only [Act.put, List.setIfInBounds_toArray, List.set_cons_zero, List.set_cons_succ])
          refine wpAnyH_take (i := 8) (oi := ?oo1009) (v := ?vv1009) ?hi1009 (by kernel_rfl) (by kernel_rfl) (by kernel_rfl) ?hq1009 ?hy1009 (by assumption) ?hh1009
          case hi1009 => (simp only [List.getElem?_toArray, List.getElem?_cons_succ, List.getElem?_cons_zero]; rfl)
          case hq1009 => exact fun _ _ _ h => h
          case hy1009 => exact Or.inl ⟨by rfl, by (intro W hSw; (try dsimp only at hSw); go_simp; (try with_reducible rfl))⟩
          (try simp only [Act.put, List.setIfInBounds_toArray, List.set_cons_zero, List.set_cons_succ])
          refine wpAnyH_take (i := 9) (oi := ?oo1010) (v := ?vv1010) ?hi1010 (by kernel_rfl) (by kernel_rfl) (by kernel_rfl) ?hq1010 ?hy1010 (by assumption) ?hh1010
          case hi1010 => (simp only [List.getElem?_toArray, List.getElem?_cons_succ, List.getElem?_cons_zero]; rfl)
          case hq1010 => exact fun _ _ _ h => h
          case hy1010 => exact Or.inl ⟨by rfl, by (intro W hSw; (try dsimp only at hSw); go_simp; (try with_reducible rfl))⟩
          (try simp only [Act.put, List.setIfInBounds_toArray, List.set_cons_zero, List.set_cons_succ])
          refine wpAnyH_take (i := 10) (oi := ?oo1011) (v := ?vv1011) ?hi1011 (by kernel_rfl) (by kernel_rfl) (by kernel_rfl) ?hq1011 ?hy1011 (by assumption) ?hh1011
          case hi1011 => (simp only [List.getElem?_toArray, List.getElem?_cons_succ, List.getElem?_cons_zero]; rfl)
          case hq1011 => exact fun _ _ _ h => h
          case hy1011 => exact Or.inl ⟨by rfl, by (intro W hSw; (try dsimp only at hSw); go_simp; (try with_reducible rfl))⟩
          (try simp only [Act.put, List.setIfInBounds_toArray, List.set_cons_zero, List.set_cons_succ])
          refine wpAnyH_ready (rs := [11, 15]) (by kernel_rfl) (by simp) ?_
          refine AllReadyH.cons rfl (fun K hK => ?_) (AllReadyH.cons rfl (fun K hK => ?_) AllReadyH.nil)
          · go_simp
            have hrn := HRN.out _ HM.out HN.out
            rw [hr, HRB.out] at hrn
            refine hrn.mono ?_
            rintro e U29 ⟨rfl, u9, y, hM9, hR9, hy1, hy2, hy3⟩
            have hdb := (HM.out.db x (List.mem_of_getElem? HX.out)).1.blk
            replace k_p := u9.blk k_p (k_p.ne_ hdb (by decide))
            replace k_q := u9.blk k_q (k_q.ne_ hdb (by decide))
            replace HM := Lib.hid hM9
            have hu9 := u9.size
            clear hrn hM9 u9 hdb HN HRN
            refine hK.out _ _ ⟨by rw [HM.out.bb.blk.cell]; rfl, by rw [HM.out.bb.blk.cell]; rfl, row_at2' HM.out.rd hXm ml HX.out hy2⟩ (fun hHeld => ?_)
            clear hK K
            (try simp only [Act.put, List.setIfInBounds_toArray, List.set_cons_zero, List.set_cons_succ])
            refine wpAnyH_take (i := 12) (oi := ?oo1012) (v := ?vv1012) ?hi1012 (by kernel_rfl) (by kernel_rfl) (by kernel_rfl) ?hq1012 ?hy1012 (by assumption) ?hh1012
            case hi1012 => (simp only [List.getElem?_toArray, List.getElem?_cons_succ, List.getElem?_cons_zero]; rfl)
            case hq1012 => exact fun _ _ _ h => h
            case hy1012 => exact Or.inl ⟨by rfl, by (intro W hSw; (try dsimp only at hSw); go_simp; (try with_reducible rfl))⟩
            (try simp only [Act.put, List.setIfInBounds_toArray, List.set_cons_zero, List.set_cons_succ])
            refine wpAnyH_take (i := 13) (oi := ?oo1013) (v := ?vv1013) ?hi1013 (by kernel_rfl) (by kernel_rfl) (by kernel_rfl) ?hq1013 ?hy1013 (by assumption) ?hh1013
            case hi1013 => (simp only [List.getElem?_toArray, List.getElem?_cons_succ, List.getElem?_cons_zero]; rfl)
            case hq1013 => exact fun _ _ _ h => h
            case hy1013 => exact Or.inl ⟨by rfl, by (intro W hSw; (try dsimp only at hSw); go_simp; (try with_reducible rfl))⟩
            (try simp only [Act.put, List.setIfInBounds_toArray, List.set_cons_zero, List.set_cons_succ])
            refine wpAnyH_take (i := 14) (oi := ?oo1014) (v := ?vv1014) ?hi1014 (by kernel_rfl) (by kernel_rfl) (by kernel_rfl) ?hq1014 ?hy1014 (by assumption) ?hh1014
            case hi1014 => (simp only [List.getElem?_toArray, List.getElem?_cons_succ, List.getElem?_cons_zero]; rfl)
            case hq1014 => exact fun _ _ _ h => h
            case hy1014 => exact Or.inl ⟨by rfl, by (intro W hSw; (try dsimp only at hSw); go_simp; (try with_reducible rfl))⟩
            (try simp only [Act.put, List.setIfInBounds_toArray, List.set_cons_zero, List.set_cons_succ])
            refine wpAnyH_ready (rs := [15]) (by kernel_rfl) (by simp) ?_
            refine AllReadyH.cons rfl (fun K hK => ?_) AllReadyH.nil
            go_simp
            have ba : Below U29.heap.size U29 (U29.alloc (.cells #[.int .i64 0, .int .i64 0, .string ⟨#[]⟩, .int .i64 0, .int .i64 0, .string ⟨#[]⟩, .int .i64 0, .bool false] 63)) := (Below.refl _ _).alloc (Nat.le_refl _) _
            have k_z := Blk.new U29 63 (EC ent0)
            have hqU := (HM.out.box 63 (EC ent0)).no
            have hqw := HM.out.st.bel.size
            replace k_p := k_p.below ba k_p.lt
            replace k_q := k_q.below ba k_q.lt
            have hdz := (HM.out.db _ (List.mem_of_getElem? (set_self y HX.out))).1.blk.lt
            rw [hy2] at hdz
            replace HM := Lib.hid (HM.out.below ba)
            clear ba
            refine hK.out _ _ ⟨by rw [HM.out.bb.blk.cell]; rfl, by rw [HM.out.bb.blk.cell]; rfl, row_at2' HM.out.rd hXm ml HX.out hy2⟩ (fun hHeld => ?_)
            clear hK K
            generalize U29.alloc (.cells #[.int .i64 0, .int .i64 0, .string ⟨#[]⟩, .int .i64 0, .int .i64 0, .string ⟨#[]⟩, .int .i64 0, .bool false] 63) = U30 at *
            generalize U29.heap.size = q at *
            (try simp only [Act.put, List.setIfInBounds_toArray, List.set_cons_zero, List.set_cons_succ])
            have hq1 : x.d ≠ q := by omega
            have x_z0 : U30.cell? ⟨q, 0, none⟩ = some (.int .i64 0) := by rw [k_z.cell]; rfl
            have z_z0 := k_z.frozen 0
            have x_z1 : U30.cell? ⟨q, 1, none⟩ = some (.int .i64 0) := by rw [k_z.cell]; rfl
            have z_z1 := k_z.frozen 1
            have x_z2 : U30.cell? ⟨q, 2, none⟩ = some (.string ⟨#[]⟩) := by rw [k_z.cell]; rfl
            have z_z2 := k_z.frozen 2
            have x_z3 : U30.cell? ⟨q, 3, none⟩ = some (.int .i64 0) := by rw [k_z.cell]; rfl
            have z_z3 := k_z.frozen 3
            have x_z4 : U30.cell? ⟨q, 4, none⟩ = some (.int .i64 0) := by rw [k_z.cell]; rfl
            have z_z4 := k_z.frozen 4
            have x_z5 : U30.cell? ⟨q, 5, none⟩ = some (.string ⟨#[]⟩) := by rw [k_z.cell]; rfl
            have z_z5 := k_z.frozen 5
            have x_z6 : U30.cell? ⟨q, 6, none⟩ = some (.int .i64 0) := by rw [k_z.cell]; rfl
            have z_z6 := k_z.frozen 6
            have x_z7 : U30.cell? ⟨q, 7, none⟩ = some (.bool false) := by rw [k_z.cell]; rfl
            have z_z7 := k_z.frozen 7
            have l_z := k_z.lt
            refine wpAnyH_ready (rs := [16]) (by kernel_rfl) (by simp) ?_
            refine AllReadyH.cons rfl (fun K hK => ?_) AllReadyH.nil
            go_simp
            clear x_z0 z_z0 x_z1 z_z1 x_z2 z_z2 x_z3 z_z3 x_z4 z_z4 x_z5 z_z5 x_z6 z_z6 x_z7 z_z7 l_z
            have u8 := upd8 U30 q (.int .i64 (re r).key.1) (.int .i64 (re r).key.2.1) (.string (re r).key.2.2) (.int .i64 (re r).val.1) (.int .i64 (re r).val.2.1) (.string (re r).val.2.2) (.int .i64 (re r).flags) (.bool (re r).grave)
            have z8 : Blk ((((((((U30.setCell ⟨q, 0, none⟩ (.int .i64 (re r).key.1)).setCell ⟨q, 1, none⟩ (.int .i64 (re r).key.2.1)).setCell ⟨q, 2, none⟩ (.string (re r).key.2.2)).setCell ⟨q, 3, none⟩ (.int .i64 (re r).val.1)).setCell ⟨q, 4, none⟩ (.int .i64 (re r).val.2.1)).setCell ⟨q, 5, none⟩ (.string (re r).val.2.2)).setCell ⟨q, 6, none⟩ (.int .i64 (re r).flags)).setCell ⟨q, 7, none⟩ (.bool (re r).grave)) q 63 (EC (re r)) := blk8 k_z
            obtain ⟨hM8, k_p8, k_q8, k_z8⟩ := box_store HM.out k_p k_q k_z _ u8 z8 (by decide) hqU hqw
            replace HM := Lib.hid hM8
            clear k_p k_q k_z hM8 u8 z8
            refine hK.out _ _ ⟨by rw [HM.out.bb.blk.cell]; rfl, by rw [HM.out.bb.blk.cell]; rfl, row_at2' HM.out.rd hXm ml HX.out hy2⟩ (fun hHeld => ?_)
            clear hK K
            generalize ((((((((U30.setCell ⟨q, 0, none⟩ (.int .i64 (re r).key.1)).setCell ⟨q, 1, none⟩ (.int .i64 (re r).key.2.1)).setCell ⟨q, 2, none⟩ (.string (re r).key.2.2)).setCell ⟨q, 3, none⟩ (.int .i64 (re r).val.1)).setCell ⟨q, 4, none⟩ (.int .i64 (re r).val.2.1)).setCell ⟨q, 5, none⟩ (.string (re r).val.2.2)).setCell ⟨q, 6, none⟩ (.int .i64 (re r).flags)).setCell ⟨q, 7, none⟩ (.bool (re r).grave)) = U31 at *
            (try simp only [Act.put, List.setIfInBounds_toArray, List.set_cons_zero, List.set_cons_succ])
            refine wpAnyH_ready (rs := [17]) (by kernel_rfl) (by simp) ?_
            refine AllReadyH.cons rfl (fun K hK => ?_) AllReadyH.nil
            go_simp
            refine hK.out _ _ ⟨by rw [HM.out.bb.blk.cell]; rfl, by rw [HM.out.bb.blk.cell]; rfl, row_at2' HM.out.rd hXm ml HX.out hy2⟩ (fun hHeld => ?_)
            clear hK K
            (try simp only [Act.put, List.setIfInBounds_toArray, List.set_cons_zero, List.set_cons_succ])
            refine wpAnyH_done (by kernel_rfl) ?_ _
            go_wp2_with fail
            go_meet
            exact ⟨q, _, y, rfl, rfl, HM.out, hR9, rfl, hy1, hy2, hy3, k_p8, k_q8, k_z8⟩
          · go_simp
            have ba : Below D8.heap.size D8 (D8.alloc (.cells #[.int .i64 0, .int .i64 0, .string ⟨#[]⟩, .int .i64 0, .int .i64 0, .string ⟨#[]⟩, .int .i64 0, .bool false] 63)) := (Below.refl _ _).alloc (Nat.le_refl _) _
            have k_z := Blk.new D8 63 (EC ent0)
            have hqU := (HM.out.box 63 (EC ent0)).no
            have hqw := HM.out.st.bel.size
            replace k_p := k_p.below ba k_p.lt
            replace k_q := k_q.below ba k_q.lt
            have hdz := (HM.out.db _ (List.mem_of_getElem? HX.out)).1.blk.lt
            replace HM := Lib.hid (HM.out.below ba)
            replace HN := Lib.hid (HN.out.stp (w2 := D8.alloc (.cells #[.int .i64 0, .int .i64 0, .string ⟨#[]⟩, .int .i64 0, .int .i64 0, .string ⟨#[]⟩, .int .i64 0, .bool false] 63)) (O2 := O2) (R2 := R) (fun a h => h.below ba))
            clear ba
            refine hK.out _ _ ⟨by rw [HM.out.bb.blk.cell]; rfl, by rw [HM.out.bb.blk.cell]; rfl, row_at2 HM.out.rd hXm ml HX.out⟩ (fun hHeld => ?_)
            clear hK K
            generalize D8.alloc (.cells #[.int .i64 0, .int .i64 0, .string ⟨#[]⟩, .int .i64 0, .int .i64 0, .string ⟨#[]⟩, .int .i64 0, .bool false] 63) = U32 at *
            generalize D8.heap.size = q at *
            (try simp only [Act.put, List.setIfInBounds_toArray, List.set_cons_zero, List.set_cons_succ])
            have hq1 : x.d ≠ q := by omega
            refine wpAnyH_ready (rs := [11]) (by kernel_rfl) (by simp) ?_
            refine AllReadyH.cons rfl (fun K hK => ?_) AllReadyH.nil
            go_simp
            have hrn := HRN.out _ HM.out HN.out
            rw [hr, HRB.out] at hrn
            refine hrn.mono ?_
            rintro e U33 ⟨rfl, u9, y, hM9, hR9, hy1, hy2, hy3⟩
            have hdb := (HM.out.db x (List.mem_of_getElem? HX.out)).1.blk
            replace k_p := u9.blk k_p (k_p.ne_ hdb (by decide))
            replace k_q := u9.blk k_q (k_q.ne_ hdb (by decide))
            replace k_z := u9.blk k_z (by omega)
            replace HM := Lib.hid hM9
            have hu9 := u9.size
            clear hrn hM9 u9 hdb HN HRN
            refine hK.out _ _ ⟨by rw [HM.out.bb.blk.cell]; rfl, by rw [HM.out.bb.blk.cell]; rfl, row_at2' HM.out.rd hXm ml HX.out hy2⟩ (fun hHeld => ?_)
            clear hK K
            (try simp only [Act.put, List.setIfInBounds_toArray, List.set_cons_zero, List.set_cons_succ])
            refine wpAnyH_take (i := 12) (oi := ?oo1015) (v := ?vv1015) ?hi1015 (by kernel_rfl) (by kernel_rfl) (by kernel_rfl) ?hq1015 ?hy1015 (by assumption) ?hh1015
            case hi1015 => (simp only [List.getElem?_toArray, List.getElem?_cons_succ, List.getElem?_cons_zero]; rfl)
            case hq1015 => exact fun _ _ _ h => h
            case hy1015 => exact Or.inl ⟨by rfl, by (intro W hSw; (try dsimp only at hSw); go_simp; (try with_reducible rfl))⟩
            (try simp only [Act.put, List.setIfInBounds_toArray, List.set_cons_zero, List.set_cons_succ])
            refine wpAnyH_take (i := 13) (oi := ?oo1016) (v := ?vv1016) ?hi1016 (by kernel_rfl) (by kernel_rfl) (by kernel_rfl) ?hq1016 ?hy1016 (by assumption) ?hh1016
            case hi1016 => (simp only [List.getElem?_toArray, List.getElem?_cons_succ, List.getElem?_cons_zero]; rfl)
            case hq1016 => exact fun _ _ _ h => h
            case hy1016 => exact Or.inl ⟨by rfl, by (intro W hSw; (try dsimp only at hSw); go_simp; (try with_reducible rfl))⟩
            (try simp only [Act.put, List.setIfInBounds_toArray, List.set_cons_zero, List.set_cons_succ])
            refine wpAnyH_take (i := 14) (oi := ?oo1017) (v := ?vv1017) ?hi1017 (by kernel_rfl) (by kernel_rfl) (by kernel_rfl) ?hq1017 ?hy1017 (by assumption) ?hh1017
            case hi1017 => (simp only [List.getElem?_toArray, List.getElem?_cons_succ, List.getElem?_cons_zero]; rfl)
            case hq1017 => exact fun _ _ _ h => h
            case hy1017 => exact Or.inl ⟨by rfl, by (intro W hSw; (try dsimp only at hSw); go_simp; (try with_reducible rfl))⟩
            (try simp only [Act.put, List.setIfInBounds_toArray, List.set_cons_zero, List.set_cons_succ])
            have x_z0 : U33.cell? ⟨q, 0, none⟩ = some (.int .i64 0) := by rw [k_z.cell]; rfl
            have z_z0 := k_z.frozen 0
            have x_z1 : U33.cell? ⟨q, 1, none⟩ = some (.int .i64 0) := by rw [k_z.cell]; rfl
            have z_z1 := k_z.frozen 1
            have x_z2 : U33.cell? ⟨q, 2, none⟩ = some (.string ⟨#[]⟩) := by rw [k_z.cell]; rfl
            have z_z2 := k_z.frozen 2
            have x_z3 : U33.cell? ⟨q, 3, none⟩ = some (.int .i64 0) := by rw [k_z.cell]; rfl
            have z_z3 := k_z.frozen 3
            have x_z4 : U33.cell? ⟨q, 4, none⟩ = some (.int .i64 0) := by rw [k_z.cell]; rfl
            have z_z4 := k_z.frozen 4
            have x_z5 : U33.cell? ⟨q, 5, none⟩ = some (.string ⟨#[]⟩) := by rw [k_z.cell]; rfl
            have z_z5 := k_z.frozen 5
            have x_z6 : U33.cell? ⟨q, 6, none⟩ = some (.int .i64 0) := by rw [k_z.cell]; rfl
            have z_z6 := k_z.frozen 6
            have x_z7 : U33.cell? ⟨q, 7, none⟩ = some (.bool false) := by rw [k_z.cell]; rfl
            have z_z7 := k_z.frozen 7
            have l_z := k_z.lt
            refine wpAnyH_ready (rs := [16]) (by kernel_rfl) (by simp) ?_
            refine AllReadyH.cons rfl (fun K hK => ?_) AllReadyH.nil
            go_simp
            clear x_z0 z_z0 x_z1 z_z1 x_z2 z_z2 x_z3 z_z3 x_z4 z_z4 x_z5 z_z5 x_z6 z_z6 x_z7 z_z7 l_z
            have u8 := upd8 U33 q (.int .i64 (re r).key.1) (.int .i64 (re r).key.2.1) (.string (re r).key.2.2) (.int .i64 (re r).val.1) (.int .i64 (re r).val.2.1) (.string (re r).val.2.2) (.int .i64 (re r).flags) (.bool (re r).grave)
            have z8 : Blk ((((((((U33.setCell ⟨q, 0, none⟩ (.int .i64 (re r).key.1)).setCell ⟨q, 1, none⟩ (.int .i64 (re r).key.2.1)).setCell ⟨q, 2, none⟩ (.string (re r).key.2.2)).setCell ⟨q, 3, none⟩ (.int .i64 (re r).val.1)).setCell ⟨q, 4, none⟩ (.int .i64 (re r).val.2.1)).setCell ⟨q, 5, none⟩ (.string (re r).val.2.2)).setCell ⟨q, 6, none⟩ (.int .i64 (re r).flags)).setCell ⟨q, 7, none⟩ (.bool (re r).grave)) q 63 (EC (re r)) := blk8 k_z
            obtain ⟨hM8, k_p8, k_q8, k_z8⟩ := box_store HM.out k_p k_q k_z _ u8 z8 (by decide) hqU hqw
            replace HM := Lib.hid hM8
            clear k_p k_q k_z hM8 u8 z8
            refine hK.out _ _ ⟨by rw [HM.out.bb.blk.cell]; rfl, by rw [HM.out.bb.blk.cell]; rfl, row_at2' HM.out.rd hXm ml HX.out hy2⟩ (fun hHeld => ?_)
            clear hK K
            generalize ((((((((U33.setCell ⟨q, 0, none⟩ (.int .i64 (re r).key.1)).setCell ⟨q, 1, none⟩ (.int .i64 (re r).key.2.1)).setCell ⟨q, 2, none⟩ (.string (re r).key.2.2)).setCell ⟨q, 3, none⟩ (.int .i64 (re r).val.1)).setCell ⟨q, 4, none⟩ (.int .i64 (re r).val.2.1)).setCell ⟨q, 5, none⟩ (.string (re r).val.2.2)).setCell ⟨q, 6, none⟩ (.int .i64 (re r).flags)).setCell ⟨q, 7, none⟩ (.bool (re r).grave)) = U34 at *
            (try simp only [Act.put, List.setIfInBounds_toArray, List.set_cons_zero, List.set_cons_succ])
            refine wpAnyH_ready (rs := [17]) (by kernel_rfl) (by simp) ?_
            refine AllReadyH.cons rfl (fun K hK => ?_) AllReadyH.nil
            go_simp
            refine hK.out _ _ ⟨by rw [HM.out.bb.blk.cell]; rfl, by rw [HM.out.bb.blk.cell]; rfl, row_at2' HM.out.rd hXm ml HX.out hy2⟩ (fun hHeld => ?_)
            clear hK K
            (try simp only [Act.put, List.setIfInBounds_toArray, List.set_cons_zero, List.set_cons_succ])
            refine wpAnyH_done (by kernel_rfl) ?_ _
            go_wp2_with fail
            go_meet
            exact ⟨q, _, y, rfl, rfl, HM.out, hR9, rfl, hy1, hy2, hy3, k_p8, k_q8, k_z8⟩
        case rest =>
          obtain ⟨q, D3, y, rfl, rfl, hM9, hR9, rfl, hy1, hy2, hy3, k_p, k_q, k_z⟩ := hcut
          have HR2 := Lib.hid hR9
          have HM := Lib.hid hM9
          have hX9 : (X.set i y).length ≤ 40 := by rw [List.length_set]; omega
          have hys := set_self y HX.out
          have hdb := (hM9.db y (List.mem_of_getElem? hys)).1.blk
          rw [hy2] at hdb
          have f_B2 : wc.cell? ⟨B, 2, none⟩ = some (.slice (some ⟨gC, 0, none⟩) m capC) := by rw [hM9.bb.blk.cell]; rfl
          have Qf_B2 := fun d os => cell_regrown f_B2 d os
          clear f_B2
          have f_B3 : wc.cell? ⟨B, 3, none⟩ = some (.slice (some ⟨gD, 0, none⟩) m capD) := by rw [hM9.bb.blk.cell]; rfl
          have Qf_B3 := fun d os => cell_regrown f_B3 d os
          clear f_B3
          have f_c : wc.cell? ⟨gC, i, none⟩ = some (.pointer (some ⟨x.c, 0, none⟩)) := row_at3 hM9.rc hXm ml HX.out hy1
          have Qf_c := fun d os => cell_regrown f_c d os
          clear f_c
          have f_d : wc.cell? ⟨gD, i, none⟩ = some (.pointer (some ⟨x.d, 0, none⟩)) := row_at2' hM9.rd hXm ml HX.out hy2
          have Qf_d := fun d os => cell_regrown f_d d os
          clear f_d
          have up := fun d os => HM.out.below (below_regrown wc d os)
          rcases r with _ | e
          · obtain rfl : false = rb := HRB.out
            replace hy3 : y.sh = true := hy3
            obtain ⟨a0, ha0⟩ := hM9.cs y (List.mem_of_getElem? hys) hy3
            have f_s : wc.cell? ⟨x.d, 2, none⟩ = some (.bool true) := by rw [hdb.cell, ← hy3]; rfl
            have Qf_s := fun d os => cell_regrown f_s d os
            clear f_s
            rw [hy1] at ha0
            have D1 := fun d os => Calls.regrown_of (open_not ha0.blk d os)
            clear ha0 hM9 hR9 hdb k_p k_q k_z
            go_upto_region 30 with fail
            refine wp_region_quiet_below (by kernel_rfl) (by kernel_rfl) ?_
            repeat (first | go_big_quiet_step (with_reducible exact D1 _ _) | quiet_step (with_reducible exact D1 _ _))
            refine wpQuiet_nil ?_
            intro _ hw'
            obtain ⟨⟨dq, osq⟩, hw''⟩ := hw'
            subst hw''
            replace HM := Lib.hid (up dq osq)
            clear D1 up Qf_B2 Qf_B3 Qf_c Qf_d Qf_s
            generalize grow (redrawn wc dq) osq = W6 at *
            go_upto_region 32 with fail
            have HSAME := same_any _ HM.out HR2.out (by omega) (by first | omega | assumption)
            go_wp2_with fail
            refine HSAME.mono ?_
            rintro e U35 ⟨rfl, bq⟩
            have HM := Lib.hid (HM.out.below bq)
            have HF := Lib.hid (show PlayP w0 B T M (j + 1) (.returned (.bool true)) _ from ⟨rfl, _, _, _, _, _, _, _, _, _, _, HM.out, HR2.out, by omega, by omega, (by first | omega | assumption)⟩)
            clear HSAME bq HM HR2
            go_wp2
            go_ret
            exact HF.out
          · obtain rfl : true = rb := HRB.out
            replace hy3 : y.sh = false := hy3
            obtain rfl : e.flags = fr := HFR.out
            have hop := hR9.op y (List.mem_of_getElem? hys) hy3
            have f_s : wc.cell? ⟨x.d, 2, none⟩ = some (.bool false) := by rw [hdb.cell, ← hy3]; rfl
            have Qf_s := fun d os => cell_regrown f_s d os
            clear f_s
            rw [hy1] at hop
            obtain ⟨_, a0, ha0⟩ := hM9.st.tab.cur_blk hop
            have D1 := fun d os => Calls.regrown_of (open_yes ha0 d os)
            have p0 : wc.cell? ⟨pb, 0, none⟩ = some (.int .i64 e.key.1) := by rw [k_p.cell]; rfl
            have Qp0 := fun d os => cell_regrown p0 d os
            clear p0
            have z0 : wc.cell? ⟨q, 0, none⟩ = some (.int .i64 e.key.1) := by rw [k_z.cell]; rfl
            have Qz0 := fun d os => cell_regrown z0 d os
            clear z0
            have p1 : wc.cell? ⟨pb, 1, none⟩ = some (.int .i64 e.key.2.1) := by rw [k_p.cell]; rfl
            have Qp1 := fun d os => cell_regrown p1 d os
            clear p1
            have z1 : wc.cell? ⟨q, 1, none⟩ = some (.int .i64 e.key.2.1) := by rw [k_z.cell]; rfl
            have Qz1 := fun d os => cell_regrown z1 d os
            clear z1
            have p2 : wc.cell? ⟨pb, 2, none⟩ = some (.string e.key.2.2) := by rw [k_p.cell]; rfl
            have Qp2 := fun d os => cell_regrown p2 d os
            clear p2
            have z2 : wc.cell? ⟨q, 2, none⟩ = some (.string e.key.2.2) := by rw [k_z.cell]; rfl
            have Qz2 := fun d os => cell_regrown z2 d os
            clear z2
            have q0 : wc.cell? ⟨pb + 1, 0, none⟩ = some (.int .i64 e.val.1) := by rw [k_q.cell]; rfl
            have Qq0 := fun d os => cell_regrown q0 d os
            clear q0
            have z3 : wc.cell? ⟨q, 3, none⟩ = some (.int .i64 e.val.1) := by rw [k_z.cell]; rfl
            have Qz3 := fun d os => cell_regrown z3 d os
            clear z3
            have q1 : wc.cell? ⟨pb + 1, 1, none⟩ = some (.int .i64 e.val.2.1) := by rw [k_q.cell]; rfl
            have Qq1 := fun d os => cell_regrown q1 d os
            clear q1
            have z4 : wc.cell? ⟨q, 4, none⟩ = some (.int .i64 e.val.2.1) := by rw [k_z.cell]; rfl
            have Qz4 := fun d os => cell_regrown z4 d os
            clear z4
            have q2 : wc.cell? ⟨pb + 1, 2, none⟩ = some (.string e.val.2.2) := by rw [k_q.cell]; rfl
            have Qq2 := fun d os => cell_regrown q2 d os
            clear q2
            have z5 : wc.cell? ⟨q, 5, none⟩ = some (.string e.val.2.2) := by rw [k_z.cell]; rfl
            have Qz5 := fun d os => cell_regrown z5 d os
            clear z5
            have z6 : wc.cell? ⟨q, 6, none⟩ = some (.int .i64 e.flags) := by rw [k_z.cell]; rfl
            have Qz6 := fun d os => cell_regrown z6 d os
            clear z6
            clear ha0 hop hM9 hR9 hdb k_p k_q k_z
            go_upto_region 30 with fail
            refine wp_region_quiet_below (by kernel_rfl) (by kernel_rfl) ?_
            repeat (first | go_big_quiet_step (with_reducible exact D1 _ _) | quiet_step (with_reducible exact D1 _ _))
            refine wpQuiet_nil ?_
            intro _ hw'
            obtain ⟨⟨dq, osq⟩, hw''⟩ := hw'
            subst hw''
            replace HM := Lib.hid (up dq osq)
            clear D1 up Qf_B2 Qf_B3 Qf_c Qf_d Qf_s Qp0 Qz0 Qp1 Qz1 Qp2 Qz2 Qq0 Qz3 Qq1 Qz4 Qq2 Qz5 Qz6
            generalize grow (redrawn wc dq) osq = W6 at *
            go_upto_region 32 with fail
            have HSAME := same_any _ HM.out HR2.out (by omega) (by first | omega | assumption)
            go_wp2_with fail
            refine HSAME.mono ?_
            rintro e U36 ⟨rfl, bq⟩
            have HM := Lib.hid (HM.out.below bq)
            have HF := Lib.hid (show PlayP w0 B T M (j + 1) (.returned (.bool true)) _ from ⟨rfl, _, _, _, _, _, _, _, _, _, _, HM.out, HR2.out, by omega, by omega, (by first | omega | assumption)⟩)
            clear HSAME bq HM HR2
            go_wp2
            go_ret
            exact HF.out
    · obtain ⟨AC, capC, hcv, hAC⟩ := own_shape HM.out.rc.own
      obtain ⟨AD, capD, hdv, hAD⟩ := own_shape HM.out.rd.own
      obtain ⟨m, hXm⟩ : ∃ m, X.length = m := ⟨_, rfl⟩
      rw [hXm] at hX hDL hcv hAC hdv hAD
      subst hcv hdv
      have c_B2 : wA.cell? ⟨B, 2, none⟩ = some (.slice AC m capC) := by rw [k_B.blk.cell]; rfl
      have c_B3 : wA.cell? ⟨B, 3, none⟩ = some (.slice AD m capD) := by rw [k_B.blk.cell]; rfl
      have c_c5 : wA.cell? ⟨w.heap.size, 5, none⟩ = some (.int .i64 c.m) := by rw [k_c.blk.cell]; rfl
      by_cases hm0 : m = 0
      · have t1 : ((m : Int) == 0) = true := by simp [hm0]
        have HF := Lib.hid (show PlayP w0 B T M (j + 1) (.returned (.bool true)) wA from ⟨rfl, _, _, _, _, _, _, _, _, _, _, HM.out, HR.out, by omega, by omega, by omega⟩)
        go_wp2
        go_ret
        exact HF.out
      · have t1 : ((m : Int) == 0) = false := by simp; omega
        have hm60 : 1 ≤ m ∧ m ≤ 60 := ⟨by omega, by omega⟩
        have mw := mdx_eq m c.m hm60
        have ml := mdx_lt m c.m hm60.1
        generalize mdx m c.m = i at mw ml
        have i0 : (0 : Int) ≤ (i : Int) := by omega
        have i1 : (i : Int) < (m : Int) := by omega
        obtain ⟨gC, rfl⟩ := hAC (by omega)
        obtain ⟨gD, rfl⟩ := hAD (by omega)
        obtain ⟨x, hx⟩ : ∃ x, X[i]? = some x := ⟨_, List.getElem?_eq_getElem (by omega)⟩
        have HX := Lib.hid hx
        clear hx hAC hAD
        go_upto_region 24 with fail
        go_quiet (fail)
        clear c_c0 c_B2 c_B3 c_c5 t1 mw
        have k_B := k_B.below (below_drewN (Below.refl _ wA) nq)
        have k_k := k_k.below (below_drewN (Below.refl _ wA) nq)
        have k_v := k_v.below (below_drewN (Below.refl _ wA) nq)
        have k_c := k_c.below (below_drewN (Below.refl _ wA) nq)
        have HM := Lib.hid (HM.out.below (below_drewN (Below.refl _ wA) nq))
        generalize wA.drewN nq = W9 at *
        have c_c0 : W9.cell? ⟨w.heap.size, 0, none⟩ = some (.int .i64 c.kind) := by rw [k_c.blk.cell]; rfl
        have c_B2 : W9.cell? ⟨B, 2, none⟩ = some (.slice (some ⟨gC, 0, none⟩) m capC) := by rw [k_B.blk.cell]; rfl
        have hrc := HM.out.rc
        rw [hXm] at hrc
        have c_x : W9.cell? ⟨gC, i, none⟩ = some (.pointer (some ⟨x.c, 0, none⟩)) := row_ptr hrc ml (by rw [List.getElem?_map, HX.out]; rfl)
        clear hrc
        have hclo := close_both HM.out HR.out HX.out (by omega)
        go_wp2_with fail
        refine hclo.mono ?_
        rintro e U37 ⟨rfl, D2, O2, hM2, y, hy1, hy2, hy3, hy4, hR2, hcs⟩
        replace HM := Lib.hid hM2
        have HR2 := Lib.hid hR2
        clear hclo hM2 hR2 c_c0 c_B2 c_x k_B k_k k_v k_c
        have c_B3 : U37.cell? ⟨B, 3, none⟩ = some (.slice (some ⟨gD, 0, none⟩) m capD) := by rw [HM.out.bb.blk.cell]; rfl
        have hrd := HM.out.rd
        rw [hXm] at hrd
        have c_y : U37.cell? ⟨gD, i, none⟩ = some (.pointer (some ⟨x.d, 0, none⟩)) := row_ptr hrd ml (by rw [List.getElem?_map, HX.out]; rfl)
        clear hrd
        have hdb := (HM.out.db x (List.mem_of_getElem? HX.out)).1.blk
        have c_s : U37.cell? ⟨x.d, 2, none⟩ = some (.bool x.sh) := by rw [hdb.cell]; rfl
        have c_f := hdb.frozen 2
        have c_l := hdb.lt
        have hdb2 : Blk (U37.setCell ⟨x.d, 2, none⟩ (.bool true)) x.d 83 (CuC y) := by have h9 := hdb.set_ 2 (.bool true); unfold CuC; rw [hy3, hy4.1, hy4.2]; exact h9
        have hfin := HM.out.setX (y := y) HX.out HR.out.nd (((Upd.refl U37 (fun k => k = x.d)).set x.d 2 (.bool true) rfl)) hy1 hy2 hdb2 (fun _ => hcs)
        have HF := Lib.hid hfin
        have hX9 : (X.set i y).length ≤ 40 := by rw [List.length_set]; omega
        clear hfin hdb hdb2 hcs
        go_upto_region 32 with fail
        replace HM := HF
        generalize U37.setCell ⟨x.d, 2, none⟩ (.bool true) = W8 at *
        clear HF c_B3 c_y c_s c_f c_l
        have HSAME := same_any _ HM.out HR2.out (by omega) (by first | omega | assumption)
        go_wp2_with fail
        refine HSAME.mono ?_
        rintro e U38 ⟨rfl, bq⟩
        have HM := Lib.hid (HM.out.below bq)
        have HF := Lib.hid (show PlayP w0 B T M (j + 1) (.returned (.bool true)) _ from ⟨rfl, _, _, _, _, _, _, _, _, _, _, HM.out, HR2.out, by omega, by omega, (by first | omega | assumption)⟩)
        clear HSAME bq HM HR2
        go_wp2
        go_ret
        exact HF.out
end Go.Proofs.Ytlgnjbdkkpjjaaa
