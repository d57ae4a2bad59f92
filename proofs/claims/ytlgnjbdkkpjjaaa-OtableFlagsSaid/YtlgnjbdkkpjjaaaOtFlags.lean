/- The walk of the statement OtableFlags. -/
import Derived.Test.YtlgnjbdkkpjjaaaOtN
import Derived.Deep.RegionHeld3
import Derived.Outline
set_option linter.unusedVariables false
set_option linter.unusedSimpArgs false
namespace Go.Proofs.Ytlgnjbdkkpjjaaa
open Go.RowKit Go.Sort
/-- At blocks g and h lie two values of the call's own. -/
structure Two (w W : World) (g h : Nat) (x y : K3) : Prop where
  bel : Below w.heap.size w W
  kg : Blk W g 27 #[.int .i64 x.1, .int .i64 x.2.1, .string x.2.2]
  kh : Blk W h 27 #[.int .i64 y.1, .int .i64 y.2.1, .string y.2.2]

theorem seed_size (kk : Nat) (hk : kk ≤ 10) (u : List Nat) (h : u.length ≤ 2000) : (Tx.uS (seedU kk u)).size ≤ 4000 := by
  have h1 : (seedU kk u).length ≤ 2000 := by unfold seedU; split <;> simp [h]
  have h2 := Tx.uS_size (seedU kk u)
  omega
/-- The key that stays beside. -/
abbrev oK : K3 := (9, 999, ⟨#[]⟩)
theorem oK_key (x v : K3) (f : Int) (h : norm x ≠ oK) : isKey oK ⟨norm x, v, f, false⟩ = false := by
  unfold isKey
  rw [decide_eq_false (by rw [norm_norm]; exact h)]; rfl
theorem x_key (x v : K3) (f : Int) : isKey x ⟨norm x, v, f, false⟩ = true := by
  unfold isKey
  rw [decide_eq_true (norm_norm x)]; rfl
theorem x_oK (x v : K3) (f : Int) (h : norm x ≠ oK) : isKey x ⟨oK, v, f, false⟩ = false := by
  unfold isKey
  rw [decide_eq_false (fun e => h e.symm)]; rfl
theorem flags_1 (x y : K3) (f : Int) : putA x y f [] = [⟨norm x, y, f, false⟩] := rfl
theorem flags_2 (x y : K3) (f : Int) (h : norm x ≠ oK) : putA oK x 0 [⟨norm x, y, f, false⟩] = [⟨norm x, y, f, false⟩, ⟨oK, x, 0, false⟩] := by
  simp only [putA, List.any_cons, List.any_nil, oK_key x y f h, Bool.or_false, Bool.false_eq_true, if_false]; rfl
theorem flags_3 (x y : K3) (f g : Int) (h : norm x ≠ oK) : putA x x g [⟨norm x, y, f, false⟩, ⟨oK, x, 0, false⟩] = [⟨norm x, x, g, false⟩, ⟨oK, x, 0, false⟩] := by
  simp only [putA, List.any_cons, List.any_nil, x_key x y f, Bool.true_or, if_true, List.map_cons, List.map_nil, updE, x_oK x x 0 h, Bool.false_eq_true, if_false]
theorem flags_get (T : Nat) (D : List (Nat × Nat)) (O : Nat → Prop) (x : K3) (g : Int) (w : World) (ht : TabA w T [⟨norm x, x, g, false⟩, ⟨oK, x, 0, false⟩] D O) (hx : x.2.2.size ≤ 4000) (h : norm x ≠ oK) :
    Calls Try.prog 20 #[.pointer (some ⟨T, 0, none⟩), VK x] w (Ret (.tuple #[VK x, .int .i64 g, .bool true]) w) :=
  (get_any T _ D O x w ht hx).mono fun e w' ⟨b, hc⟩ => by
    rcases hc with ⟨z, hz, hk, he⟩ | ⟨hn, _⟩
    · rcases List.mem_cons.1 hz with rfl | hz
      · exact ⟨he, b⟩
      · obtain rfl := List.mem_singleton.1 hz
        rw [x_oK x x 0 h] at hk; cases hk
    · have := hn _ (List.mem_cons_self ..)
      rw [x_key] at this; cases this

set_option maxHeartbeats 16000000 in
set_option maxRecDepth 100000 in
theorem flags_core (K N : Int) (a : Option Addr) (na ca : Nat) (K' N' : Int) (b : Option Addr) (nb cb : Nat) (f1 f2 : Int) (x y : K3) (w : World) (hx : x.2.2.size ≤ 4000) (ho : norm x ≠ oK) (hna : na ≤ 100) (hnb : nb ≤ 100)
    (CA : ∀ W, Below w.heap.size w W → Calls Try.prog 19 #[SeedV K N a na ca] W (Ret (VK x) W))
    (CB : ∀ W, Below w.heap.size w W → Calls Try.prog 19 #[SeedV K' N' b nb cb] W (Ret (VK y) W)) :
    Calls Try.prog 5 #[SeedV K N a na ca, SeedV K' N' b nb cb, .agg #[.int .i64 f1, .int .i64 f2]] w (Ret (.bool true) w) := by
  have HCA := Lib.hid CA
  have HCB := Lib.hid CB
  clear CA CB
  have hn' : ¬ ((na : Int) > 100) := by omega
  have hm' : ¬ ((nb : Int) > 100) := by omega
  have k_q := ((Blk.new w 42 #[.int .i64 K, .int .i64 N, .slice a na ca]).alloc (.cells #[.int .i64 K', .int .i64 N', .slice b nb cb] 42)).alloc (.cells #[.int .i64 f1, .int .i64 f2] 43)
  have k_p := (Blk.new (w.alloc (.cells #[.int .i64 K, .int .i64 N, .slice a na ca] 42)) 42 #[.int .i64 K', .int .i64 N', .slice b nb cb]).alloc (.cells #[.int .i64 f1, .int .i64 f2] 43)
  have k_r := Blk.new ((w.alloc (.cells #[.int .i64 K, .int .i64 N, .slice a na ca] 42)).alloc (.cells #[.int .i64 K', .int .i64 N', .slice b nb cb] 42)) 43 #[.int .i64 f1, .int .i64 f2]
  have bb : Below w.heap.size w (((w.alloc (.cells #[.int .i64 K, .int .i64 N, .slice a na ca] 42)).alloc (.cells #[.int .i64 K', .int .i64 N', .slice b nb cb] 42)).alloc (.cells #[.int .i64 f1, .int .i64 f2] 43)) := (((Below.refl _ _).alloc (Nat.le_refl _) _).alloc (by simp) _).alloc (by simp; omega) _
  rw [World.size_alloc] at k_p k_r
  rw [World.size_alloc] at k_r
  go_enter Try.func5, Try.ntmps5
  go_wp2_with fail
  generalize hP2 : w.heap.size + 1 + 1 = P2 at *
  generalize hP1 : w.heap.size + 1 = P1 at *
  have hP : w.heap.size < P1 ∧ P1 < P2 := ⟨by omega, by omega⟩
  clear hP1 hP2
  generalize (((w.alloc (.cells #[.int .i64 K, .int .i64 N, .slice a na ca] 42)).alloc (.cells #[.int .i64 K', .int .i64 N', .slice b nb cb] 42)).alloc (.cells #[.int .i64 f1, .int .i64 f2] 43)) = w0 at *
  refine (fit_any w0).mono ?_
  rintro e w1 ⟨rfl, b⟩
  have k_q := k_q.below b k_q.lt
  have k_p := k_p.below b k_p.lt
  have k_r := k_r.below b k_r.lt
  have bb := bb.trans (b.mono bb.size)
  clear b
  have x2 : w1.cell? ⟨w.heap.size, 2, none⟩ = some (.slice a na ca) := by rw [k_q.cell]; rfl
  have x3 : w1.cell? ⟨P1, 2, none⟩ = some (.slice b nb cb) := by rw [k_p.cell]; rfl
  go_upto_region 5 with fail
  clear x2 x3
  go_cut [7, 8, 9, 10] (fun s7 s8 s9 s10 wx => ∃ g h, s7 = .pointer (some ⟨g, 0, none⟩) ∧ s8 = .pointer (some ⟨h, 0, none⟩) ∧ s9 = .int .i64 f1 ∧ s10 = .int .i64 f2 ∧ Two w wx g h x y)
  case first =>
    have k_q := k_q.drew
    have k_p := k_p.drew
    have k_r := k_r.drew
    have bb := bb.drew
    refine wp_region_held_drew (S := (fun W => W.cell? ⟨w.heap.size, 0, none⟩ = some (.int .i64 K) ∧ W.cell? ⟨w.heap.size, 1, none⟩ = some (.int .i64 N) ∧ W.cell? ⟨w.heap.size, 2, none⟩ = some (.slice a na ca) ∧ W.cell? ⟨P1, 0, none⟩ = some (.int .i64 K') ∧ W.cell? ⟨P1, 1, none⟩ = some (.int .i64 N') ∧ W.cell? ⟨P1, 2, none⟩ = some (.slice b nb cb) ∧ W.cell? ⟨P2, 0, none⟩ = some (.int .i64 f1) ∧ W.cell? ⟨P2, 1, none⟩ = some (.int .i64 f2))) (by kernel_rfl) ⟨by rw [k_q.cell]; rfl, by rw [k_q.cell]; rfl, by rw [k_q.cell]; rfl, by rw [k_p.cell]; rfl, by rw [k_p.cell]; rfl, by rw [k_p.cell]; rfl, by rw [k_r.cell]; rfl, by rw [k_r.cell]; rfl⟩ (fun hHeld => ?_)
    generalize w1.drew = D0 at *
    refine wpAnyH_take (i := 0) (oi := ?oo900) (v := ?vv900) ?hi900 (by kernel_rfl) (by kernel_rfl) (by kernel_rfl) ?hq900 ?hy900 (by assumption) ?hh900
    case hi900 => (simp only [List.getElem?_toArray, List.getElem?_cons_succ, List.getElem?_cons_zero]; rfl)
    case hq900 => exact fun _ _ _ h => h
    case hy900 => exact Or.inl ⟨by rfl, by (intro W hSw; (try dsimp only at hSw); go_simp; (try with_reducible rfl))⟩
    (try simp only [Act.put, List.setIfInBounds_toArray, List.set_cons_zero, List.set_cons_succ])
    refine wpAnyH_take (i := 2) (oi := ?oo901) (v := ?vv901) ?hi901 (by kernel_rfl) (by kernel_rfl) (by kernel_rfl) ?hq901 ?hy901 (by assumption) ?hh901
    case hi901 => (simp only [List.getElem?_toArray, List.getElem?_cons_succ, List.getElem?_cons_zero]; rfl)
    case hq901 => exact fun _ _ _ h => h
    case hy901 => exact Or.inl ⟨by rfl, by (intro W hSw; (try dsimp only at hSw); go_simp; (try with_reducible rfl))⟩
    (try simp only [Act.put, List.setIfInBounds_toArray, List.set_cons_zero, List.set_cons_succ])
    refine wpAnyH_take (i := 4) (oi := ?oo902) (v := ?vv902) ?hi902 (by kernel_rfl) (by kernel_rfl) (by kernel_rfl) ?hq902 ?hy902 (by assumption) ?hh902
    case hi902 => (simp only [List.getElem?_toArray, List.getElem?_cons_succ, List.getElem?_cons_zero]; rfl)
    case hq902 => exact fun _ _ _ h => h
    case hy902 => exact Or.inl ⟨by rfl, by (intro W hSw; (try dsimp only at hSw); go_simp; (try with_reducible rfl))⟩
    (try simp only [Act.put, List.setIfInBounds_toArray, List.set_cons_zero, List.set_cons_succ])
    refine wpAnyH_take (i := 5) (oi := ?oo903) (v := ?vv903) ?hi903 (by kernel_rfl) (by kernel_rfl) (by kernel_rfl) ?hq903 ?hy903 (by assumption) ?hh903
    case hi903 => (simp only [List.getElem?_toArray, List.getElem?_cons_succ, List.getElem?_cons_zero]; rfl)
    case hq903 => exact fun _ _ _ h => h
    case hy903 => exact Or.inl ⟨by rfl, by (intro W hSw; (try dsimp only at hSw); go_simp; (try with_reducible rfl))⟩
    (try simp only [Act.put, List.setIfInBounds_toArray, List.set_cons_zero, List.set_cons_succ])
    refine wpAnyH_take (i := 6) (oi := ?oo904) (v := ?vv904) ?hi904 (by kernel_rfl) (by kernel_rfl) (by kernel_rfl) ?hq904 ?hy904 (by assumption) ?hh904
    case hi904 => (simp only [List.getElem?_toArray, List.getElem?_cons_succ, List.getElem?_cons_zero]; rfl)
    case hq904 => exact fun _ _ _ h => h
    case hy904 => exact Or.inl ⟨by rfl, by (intro W hSw; (try dsimp only at hSw); go_simp; (try with_reducible rfl))⟩
    (try simp only [Act.put, List.setIfInBounds_toArray, List.set_cons_zero, List.set_cons_succ])
    refine wpAnyH_take (i := 7) (oi := ?oo905) (v := ?vv905) ?hi905 (by kernel_rfl) (by kernel_rfl) (by kernel_rfl) ?hq905 ?hy905 (by assumption) ?hh905
    case hi905 => (simp only [List.getElem?_toArray, List.getElem?_cons_succ, List.getElem?_cons_zero]; rfl)
    case hq905 => exact fun _ _ _ h => h
    case hy905 => exact Or.inl ⟨by rfl, by (intro W hSw; (try dsimp only at hSw); go_simp; (try with_reducible rfl))⟩
    (try simp only [Act.put, List.setIfInBounds_toArray, List.set_cons_zero, List.set_cons_succ])
    refine wpAnyH_ready (rs := [1, 8, 9]) (by kernel_rfl) (by simp) ?_
    refine AllReadyH.cons rfl (fun K hK => ?_) (AllReadyH.cons rfl (fun K hK => ?_) (AllReadyH.cons rfl (fun K hK => ?_) AllReadyH.nil))
    · go_simp
      go_at_call 19
      (with_reducible refine (HCA.out _ bb).mono ?_)
      rintro e U1 ⟨rfl, bq⟩
      have k_q := k_q.below bq k_q.lt
      have k_p := k_p.below bq k_p.lt
      have k_r := k_r.below bq k_r.lt
      have bb := bb.trans (bq.mono bb.size)
      clear bq
      refine hK.out _ _ ⟨by rw [k_q.cell]; rfl, by rw [k_q.cell]; rfl, by rw [k_q.cell]; rfl, by rw [k_p.cell]; rfl, by rw [k_p.cell]; rfl, by rw [k_p.cell]; rfl, by rw [k_r.cell]; rfl, by rw [k_r.cell]; rfl⟩ (fun hHeld => ?_)
      clear hK K
      (try simp only [Act.put, List.setIfInBounds_toArray, List.set_cons_zero, List.set_cons_succ])
      refine wpAnyH_ready (rs := [3, 8, 9]) (by kernel_rfl) (by simp) ?_
      refine AllReadyH.cons rfl (fun K hK => ?_) (AllReadyH.cons rfl (fun K hK => ?_) (AllReadyH.cons rfl (fun K hK => ?_) AllReadyH.nil))
      · go_simp
        go_at_call 19
        (with_reducible refine (HCB.out _ bb).mono ?_)
        rintro e U2 ⟨rfl, bq⟩
        have k_q := k_q.below bq k_q.lt
        have k_p := k_p.below bq k_p.lt
        have k_r := k_r.below bq k_r.lt
        have bb := bb.trans (bq.mono bb.size)
        clear bq
        refine hK.out _ _ ⟨by rw [k_q.cell]; rfl, by rw [k_q.cell]; rfl, by rw [k_q.cell]; rfl, by rw [k_p.cell]; rfl, by rw [k_p.cell]; rfl, by rw [k_p.cell]; rfl, by rw [k_r.cell]; rfl, by rw [k_r.cell]; rfl⟩ (fun hHeld => ?_)
        clear hK K
        (try simp only [Act.put, List.setIfInBounds_toArray, List.set_cons_zero, List.set_cons_succ])
        refine wpAnyH_ready (rs := [8, 9]) (by kernel_rfl) (by simp) ?_
        refine AllReadyH.cons rfl (fun K hK => ?_) (AllReadyH.cons rfl (fun K hK => ?_) AllReadyH.nil)
        · go_simp
          have n_q := k_r.lt
          have k_q := k_q.alloc (.cells #[.int .i64 0, .int .i64 0, .string ⟨#[]⟩] 27)
          have k_p := k_p.alloc (.cells #[.int .i64 0, .int .i64 0, .string ⟨#[]⟩] 27)
          have k_r := k_r.alloc (.cells #[.int .i64 0, .int .i64 0, .string ⟨#[]⟩] 27)
          have k_g := Blk.new U2 27 #[.int .i64 0, .int .i64 0, .string ⟨#[]⟩]
          have bb := bb.alloc bb.size (.cells #[.int .i64 0, .int .i64 0, .string ⟨#[]⟩] 27)
          refine hK.out _ _ ⟨by rw [k_q.cell]; rfl, by rw [k_q.cell]; rfl, by rw [k_q.cell]; rfl, by rw [k_p.cell]; rfl, by rw [k_p.cell]; rfl, by rw [k_p.cell]; rfl, by rw [k_r.cell]; rfl, by rw [k_r.cell]; rfl⟩ (fun hHeld => ?_)
          clear hK K
          generalize U2.alloc (.cells #[.int .i64 0, .int .i64 0, .string ⟨#[]⟩] 27) = U3 at *
          generalize U2.heap.size = g at *
          have n_gq := n_q
          clear n_q
          (try simp only [Act.put, List.setIfInBounds_toArray, List.set_cons_zero, List.set_cons_succ])
          refine wpAnyH_ready (rs := [9]) (by kernel_rfl) (by simp) ?_
          refine AllReadyH.cons rfl (fun K hK => ?_) AllReadyH.nil
          · go_simp
            have n_q := k_r.lt
            have n_l := k_g.lt
            have k_q := k_q.alloc (.cells #[.int .i64 0, .int .i64 0, .string ⟨#[]⟩] 27)
            have k_p := k_p.alloc (.cells #[.int .i64 0, .int .i64 0, .string ⟨#[]⟩] 27)
            have k_r := k_r.alloc (.cells #[.int .i64 0, .int .i64 0, .string ⟨#[]⟩] 27)
            have k_g := k_g.alloc (.cells #[.int .i64 0, .int .i64 0, .string ⟨#[]⟩] 27)
            have k_h := Blk.new U3 27 #[.int .i64 0, .int .i64 0, .string ⟨#[]⟩]
            have bb := bb.alloc bb.size (.cells #[.int .i64 0, .int .i64 0, .string ⟨#[]⟩] 27)
            refine hK.out _ _ ⟨by rw [k_q.cell]; rfl, by rw [k_q.cell]; rfl, by rw [k_q.cell]; rfl, by rw [k_p.cell]; rfl, by rw [k_p.cell]; rfl, by rw [k_p.cell]; rfl, by rw [k_r.cell]; rfl, by rw [k_r.cell]; rfl⟩ (fun hHeld => ?_)
            clear hK K
            generalize U3.alloc (.cells #[.int .i64 0, .int .i64 0, .string ⟨#[]⟩] 27) = U4 at *
            generalize U3.heap.size = h at *
            have n_hg : g ≠ h := by omega
            have n_gh : h ≠ g := by omega
            clear n_l
            have n_hq := n_q
            clear n_q
            (try simp only [Act.put, List.setIfInBounds_toArray, List.set_cons_zero, List.set_cons_succ])
            have x_g0 : U4.cell? ⟨g, 0, none⟩ = some (.int .i64 0) := by rw [k_g.cell]; rfl
            have z_g0 := k_g.frozen 0
            have x_g1 : U4.cell? ⟨g, 1, none⟩ = some (.int .i64 0) := by rw [k_g.cell]; rfl
            have z_g1 := k_g.frozen 1
            have x_g2 : U4.cell? ⟨g, 2, none⟩ = some (.string ⟨#[]⟩) := by rw [k_g.cell]; rfl
            have z_g2 := k_g.frozen 2
            have l_g := k_g.lt
            refine wpAnyH_ready (rs := [10]) (by kernel_rfl) (by simp) ?_
            refine AllReadyH.cons rfl (fun K hK => ?_) AllReadyH.nil
            go_simp
            clear x_g0 x_g1 x_g2 z_g0 z_g1 z_g2 l_g
            have k_g : Blk (((U4.setCell ⟨g, 0, none⟩ (.int .i64 x.1)).setCell ⟨g, 1, none⟩ (.int .i64 x.2.1)).setCell ⟨g, 2, none⟩ (.string x.2.2)) g 27 #[.int .i64 x.1, .int .i64 x.2.1, .string x.2.2] := ((k_g.set_ 0 _).set_ 1 _).set_ 2 _
            have k_h : Blk (((U4.setCell ⟨g, 0, none⟩ (.int .i64 x.1)).setCell ⟨g, 1, none⟩ (.int .i64 x.2.1)).setCell ⟨g, 2, none⟩ (.string x.2.2)) _ _ _ := ((k_h.far (p := ⟨g, 0, none⟩) n_gh _).far (p := ⟨g, 1, none⟩) n_gh _).far (p := ⟨g, 2, none⟩) n_gh _
            have k_q : Blk (((U4.setCell ⟨g, 0, none⟩ (.int .i64 x.1)).setCell ⟨g, 1, none⟩ (.int .i64 x.2.1)).setCell ⟨g, 2, none⟩ (.string x.2.2)) _ _ _ := ((k_q.far (p := ⟨g, 0, none⟩) (by show w.heap.size ≠ g; omega) _).far (p := ⟨g, 1, none⟩) (by show w.heap.size ≠ g; omega) _).far (p := ⟨g, 2, none⟩) (by show w.heap.size ≠ g; omega) _
            have k_p : Blk (((U4.setCell ⟨g, 0, none⟩ (.int .i64 x.1)).setCell ⟨g, 1, none⟩ (.int .i64 x.2.1)).setCell ⟨g, 2, none⟩ (.string x.2.2)) _ _ _ := ((k_p.far (p := ⟨g, 0, none⟩) (by show P1 ≠ g; omega) _).far (p := ⟨g, 1, none⟩) (by show P1 ≠ g; omega) _).far (p := ⟨g, 2, none⟩) (by show P1 ≠ g; omega) _
            have k_r : Blk (((U4.setCell ⟨g, 0, none⟩ (.int .i64 x.1)).setCell ⟨g, 1, none⟩ (.int .i64 x.2.1)).setCell ⟨g, 2, none⟩ (.string x.2.2)) _ _ _ := ((k_r.far (p := ⟨g, 0, none⟩) (by show P2 ≠ g; omega) _).far (p := ⟨g, 1, none⟩) (by show P2 ≠ g; omega) _).far (p := ⟨g, 2, none⟩) (by show P2 ≠ g; omega) _
            have bb : Below w.heap.size w (((U4.setCell ⟨g, 0, none⟩ (.int .i64 x.1)).setCell ⟨g, 1, none⟩ (.int .i64 x.2.1)).setCell ⟨g, 2, none⟩ (.string x.2.2)) := ((bb.setCell (p := ⟨g, 0, none⟩) (by show _ ≤ g; omega) _).setCell (p := ⟨g, 1, none⟩) (by show _ ≤ g; omega) _).setCell (p := ⟨g, 2, none⟩) (by show _ ≤ g; omega) _
            refine hK.out _ _ ⟨by rw [k_q.cell]; rfl, by rw [k_q.cell]; rfl, by rw [k_q.cell]; rfl, by rw [k_p.cell]; rfl, by rw [k_p.cell]; rfl, by rw [k_p.cell]; rfl, by rw [k_r.cell]; rfl, by rw [k_r.cell]; rfl⟩ (fun hHeld => ?_)
            clear hK K
            generalize (((U4.setCell ⟨g, 0, none⟩ (.int .i64 x.1)).setCell ⟨g, 1, none⟩ (.int .i64 x.2.1)).setCell ⟨g, 2, none⟩ (.string x.2.2)) = U5 at *
            (try simp only [Act.put, List.setIfInBounds_toArray, List.set_cons_zero, List.set_cons_succ])
            have x_h0 : U5.cell? ⟨h, 0, none⟩ = some (.int .i64 0) := by rw [k_h.cell]; rfl
            have z_h0 := k_h.frozen 0
            have x_h1 : U5.cell? ⟨h, 1, none⟩ = some (.int .i64 0) := by rw [k_h.cell]; rfl
            have z_h1 := k_h.frozen 1
            have x_h2 : U5.cell? ⟨h, 2, none⟩ = some (.string ⟨#[]⟩) := by rw [k_h.cell]; rfl
            have z_h2 := k_h.frozen 2
            have l_h := k_h.lt
            refine wpAnyH_ready (rs := [11]) (by kernel_rfl) (by simp) ?_
            refine AllReadyH.cons rfl (fun K hK => ?_) AllReadyH.nil
            go_simp
            clear x_h0 x_h1 x_h2 z_h0 z_h1 z_h2 l_h
            have k_h : Blk (((U5.setCell ⟨h, 0, none⟩ (.int .i64 y.1)).setCell ⟨h, 1, none⟩ (.int .i64 y.2.1)).setCell ⟨h, 2, none⟩ (.string y.2.2)) h 27 #[.int .i64 y.1, .int .i64 y.2.1, .string y.2.2] := ((k_h.set_ 0 _).set_ 1 _).set_ 2 _
            have k_g : Blk (((U5.setCell ⟨h, 0, none⟩ (.int .i64 y.1)).setCell ⟨h, 1, none⟩ (.int .i64 y.2.1)).setCell ⟨h, 2, none⟩ (.string y.2.2)) _ _ _ := ((k_g.far (p := ⟨h, 0, none⟩) n_hg _).far (p := ⟨h, 1, none⟩) n_hg _).far (p := ⟨h, 2, none⟩) n_hg _
            have k_q : Blk (((U5.setCell ⟨h, 0, none⟩ (.int .i64 y.1)).setCell ⟨h, 1, none⟩ (.int .i64 y.2.1)).setCell ⟨h, 2, none⟩ (.string y.2.2)) _ _ _ := ((k_q.far (p := ⟨h, 0, none⟩) (by show w.heap.size ≠ h; omega) _).far (p := ⟨h, 1, none⟩) (by show w.heap.size ≠ h; omega) _).far (p := ⟨h, 2, none⟩) (by show w.heap.size ≠ h; omega) _
            have k_p : Blk (((U5.setCell ⟨h, 0, none⟩ (.int .i64 y.1)).setCell ⟨h, 1, none⟩ (.int .i64 y.2.1)).setCell ⟨h, 2, none⟩ (.string y.2.2)) _ _ _ := ((k_p.far (p := ⟨h, 0, none⟩) (by show P1 ≠ h; omega) _).far (p := ⟨h, 1, none⟩) (by show P1 ≠ h; omega) _).far (p := ⟨h, 2, none⟩) (by show P1 ≠ h; omega) _
            have k_r : Blk (((U5.setCell ⟨h, 0, none⟩ (.int .i64 y.1)).setCell ⟨h, 1, none⟩ (.int .i64 y.2.1)).setCell ⟨h, 2, none⟩ (.string y.2.2)) _ _ _ := ((k_r.far (p := ⟨h, 0, none⟩) (by show P2 ≠ h; omega) _).far (p := ⟨h, 1, none⟩) (by show P2 ≠ h; omega) _).far (p := ⟨h, 2, none⟩) (by show P2 ≠ h; omega) _
            have bb : Below w.heap.size w (((U5.setCell ⟨h, 0, none⟩ (.int .i64 y.1)).setCell ⟨h, 1, none⟩ (.int .i64 y.2.1)).setCell ⟨h, 2, none⟩ (.string y.2.2)) := ((bb.setCell (p := ⟨h, 0, none⟩) (by show _ ≤ h; omega) _).setCell (p := ⟨h, 1, none⟩) (by show _ ≤ h; omega) _).setCell (p := ⟨h, 2, none⟩) (by show _ ≤ h; omega) _
            refine hK.out _ _ ⟨by rw [k_q.cell]; rfl, by rw [k_q.cell]; rfl, by rw [k_q.cell]; rfl, by rw [k_p.cell]; rfl, by rw [k_p.cell]; rfl, by rw [k_p.cell]; rfl, by rw [k_r.cell]; rfl, by rw [k_r.cell]; rfl⟩ (fun hHeld => ?_)
            clear hK K
            generalize (((U5.setCell ⟨h, 0, none⟩ (.int .i64 y.1)).setCell ⟨h, 1, none⟩ (.int .i64 y.2.1)).setCell ⟨h, 2, none⟩ (.string y.2.2)) = U6 at *
            (try simp only [Act.put, List.setIfInBounds_toArray, List.set_cons_zero, List.set_cons_succ])
            refine wpAnyH_ready (rs := [12]) (by kernel_rfl) (by simp) ?_
            refine AllReadyH.cons rfl (fun K hK => ?_) AllReadyH.nil
            go_simp
            refine hK.out _ _ ⟨by rw [k_q.cell]; rfl, by rw [k_q.cell]; rfl, by rw [k_q.cell]; rfl, by rw [k_p.cell]; rfl, by rw [k_p.cell]; rfl, by rw [k_p.cell]; rfl, by rw [k_r.cell]; rfl, by rw [k_r.cell]; rfl⟩ (fun hHeld => ?_)
            clear hK K
            (try simp only [Act.put, List.setIfInBounds_toArray, List.set_cons_zero, List.set_cons_succ])
            refine wpAnyH_ready (rs := [13]) (by kernel_rfl) (by simp) ?_
            refine AllReadyH.cons rfl (fun K hK => ?_) AllReadyH.nil
            go_simp
            refine hK.out _ _ ⟨by rw [k_q.cell]; rfl, by rw [k_q.cell]; rfl, by rw [k_q.cell]; rfl, by rw [k_p.cell]; rfl, by rw [k_p.cell]; rfl, by rw [k_p.cell]; rfl, by rw [k_r.cell]; rfl, by rw [k_r.cell]; rfl⟩ (fun hHeld => ?_)
            clear hK K
            (try simp only [Act.put, List.setIfInBounds_toArray, List.set_cons_zero, List.set_cons_succ])
            refine wpAnyH_done (by kernel_rfl) ?_ _
            go_wp2_with fail
            go_meet
            exact ⟨g, h, rfl, rfl, rfl, rfl, ⟨bb, k_g, k_h⟩⟩
        · go_simp
          have n_q := k_r.lt
          have k_q := k_q.alloc (.cells #[.int .i64 0, .int .i64 0, .string ⟨#[]⟩] 27)
          have k_p := k_p.alloc (.cells #[.int .i64 0, .int .i64 0, .string ⟨#[]⟩] 27)
          have k_r := k_r.alloc (.cells #[.int .i64 0, .int .i64 0, .string ⟨#[]⟩] 27)
          have k_h := Blk.new U2 27 #[.int .i64 0, .int .i64 0, .string ⟨#[]⟩]
          have bb := bb.alloc bb.size (.cells #[.int .i64 0, .int .i64 0, .string ⟨#[]⟩] 27)
          refine hK.out _ _ ⟨by rw [k_q.cell]; rfl, by rw [k_q.cell]; rfl, by rw [k_q.cell]; rfl, by rw [k_p.cell]; rfl, by rw [k_p.cell]; rfl, by rw [k_p.cell]; rfl, by rw [k_r.cell]; rfl, by rw [k_r.cell]; rfl⟩ (fun hHeld => ?_)
          clear hK K
          generalize U2.alloc (.cells #[.int .i64 0, .int .i64 0, .string ⟨#[]⟩] 27) = U7 at *
          generalize U2.heap.size = h at *
          have n_hq := n_q
          clear n_q
          (try simp only [Act.put, List.setIfInBounds_toArray, List.set_cons_zero, List.set_cons_succ])
          refine wpAnyH_ready (rs := [8]) (by kernel_rfl) (by simp) ?_
          refine AllReadyH.cons rfl (fun K hK => ?_) AllReadyH.nil
          · go_simp
            have n_q := k_r.lt
            have n_l := k_h.lt
            have k_q := k_q.alloc (.cells #[.int .i64 0, .int .i64 0, .string ⟨#[]⟩] 27)
            have k_p := k_p.alloc (.cells #[.int .i64 0, .int .i64 0, .string ⟨#[]⟩] 27)
            have k_r := k_r.alloc (.cells #[.int .i64 0, .int .i64 0, .string ⟨#[]⟩] 27)
            have k_h := k_h.alloc (.cells #[.int .i64 0, .int .i64 0, .string ⟨#[]⟩] 27)
            have k_g := Blk.new U7 27 #[.int .i64 0, .int .i64 0, .string ⟨#[]⟩]
            have bb := bb.alloc bb.size (.cells #[.int .i64 0, .int .i64 0, .string ⟨#[]⟩] 27)
            refine hK.out _ _ ⟨by rw [k_q.cell]; rfl, by rw [k_q.cell]; rfl, by rw [k_q.cell]; rfl, by rw [k_p.cell]; rfl, by rw [k_p.cell]; rfl, by rw [k_p.cell]; rfl, by rw [k_r.cell]; rfl, by rw [k_r.cell]; rfl⟩ (fun hHeld => ?_)
            clear hK K
            generalize U7.alloc (.cells #[.int .i64 0, .int .i64 0, .string ⟨#[]⟩] 27) = U8 at *
            generalize U7.heap.size = g at *
            have n_gh : h ≠ g := by omega
            have n_hg : g ≠ h := by omega
            clear n_l
            have n_gq := n_q
            clear n_q
            (try simp only [Act.put, List.setIfInBounds_toArray, List.set_cons_zero, List.set_cons_succ])
            have x_g0 : U8.cell? ⟨g, 0, none⟩ = some (.int .i64 0) := by rw [k_g.cell]; rfl
            have z_g0 := k_g.frozen 0
            have x_g1 : U8.cell? ⟨g, 1, none⟩ = some (.int .i64 0) := by rw [k_g.cell]; rfl
            have z_g1 := k_g.frozen 1
            have x_g2 : U8.cell? ⟨g, 2, none⟩ = some (.string ⟨#[]⟩) := by rw [k_g.cell]; rfl
            have z_g2 := k_g.frozen 2
            have l_g := k_g.lt
            refine wpAnyH_ready (rs := [10]) (by kernel_rfl) (by simp) ?_
            refine AllReadyH.cons rfl (fun K hK => ?_) AllReadyH.nil
            go_simp
            clear x_g0 x_g1 x_g2 z_g0 z_g1 z_g2 l_g
            have k_g : Blk (((U8.setCell ⟨g, 0, none⟩ (.int .i64 x.1)).setCell ⟨g, 1, none⟩ (.int .i64 x.2.1)).setCell ⟨g, 2, none⟩ (.string x.2.2)) g 27 #[.int .i64 x.1, .int .i64 x.2.1, .string x.2.2] := ((k_g.set_ 0 _).set_ 1 _).set_ 2 _
            have k_h : Blk (((U8.setCell ⟨g, 0, none⟩ (.int .i64 x.1)).setCell ⟨g, 1, none⟩ (.int .i64 x.2.1)).setCell ⟨g, 2, none⟩ (.string x.2.2)) _ _ _ := ((k_h.far (p := ⟨g, 0, none⟩) n_gh _).far (p := ⟨g, 1, none⟩) n_gh _).far (p := ⟨g, 2, none⟩) n_gh _
            have k_q : Blk (((U8.setCell ⟨g, 0, none⟩ (.int .i64 x.1)).setCell ⟨g, 1, none⟩ (.int .i64 x.2.1)).setCell ⟨g, 2, none⟩ (.string x.2.2)) _ _ _ := ((k_q.far (p := ⟨g, 0, none⟩) (by show w.heap.size ≠ g; omega) _).far (p := ⟨g, 1, none⟩) (by show w.heap.size ≠ g; omega) _).far (p := ⟨g, 2, none⟩) (by show w.heap.size ≠ g; omega) _
            have k_p : Blk (((U8.setCell ⟨g, 0, none⟩ (.int .i64 x.1)).setCell ⟨g, 1, none⟩ (.int .i64 x.2.1)).setCell ⟨g, 2, none⟩ (.string x.2.2)) _ _ _ := ((k_p.far (p := ⟨g, 0, none⟩) (by show P1 ≠ g; omega) _).far (p := ⟨g, 1, none⟩) (by show P1 ≠ g; omega) _).far (p := ⟨g, 2, none⟩) (by show P1 ≠ g; omega) _
            have k_r : Blk (((U8.setCell ⟨g, 0, none⟩ (.int .i64 x.1)).setCell ⟨g, 1, none⟩ (.int .i64 x.2.1)).setCell ⟨g, 2, none⟩ (.string x.2.2)) _ _ _ := ((k_r.far (p := ⟨g, 0, none⟩) (by show P2 ≠ g; omega) _).far (p := ⟨g, 1, none⟩) (by show P2 ≠ g; omega) _).far (p := ⟨g, 2, none⟩) (by show P2 ≠ g; omega) _
            have bb : Below w.heap.size w (((U8.setCell ⟨g, 0, none⟩ (.int .i64 x.1)).setCell ⟨g, 1, none⟩ (.int .i64 x.2.1)).setCell ⟨g, 2, none⟩ (.string x.2.2)) := ((bb.setCell (p := ⟨g, 0, none⟩) (by show _ ≤ g; omega) _).setCell (p := ⟨g, 1, none⟩) (by show _ ≤ g; omega) _).setCell (p := ⟨g, 2, none⟩) (by show _ ≤ g; omega) _
            refine hK.out _ _ ⟨by rw [k_q.cell]; rfl, by rw [k_q.cell]; rfl, by rw [k_q.cell]; rfl, by rw [k_p.cell]; rfl, by rw [k_p.cell]; rfl, by rw [k_p.cell]; rfl, by rw [k_r.cell]; rfl, by rw [k_r.cell]; rfl⟩ (fun hHeld => ?_)
            clear hK K
            generalize (((U8.setCell ⟨g, 0, none⟩ (.int .i64 x.1)).setCell ⟨g, 1, none⟩ (.int .i64 x.2.1)).setCell ⟨g, 2, none⟩ (.string x.2.2)) = U9 at *
            (try simp only [Act.put, List.setIfInBounds_toArray, List.set_cons_zero, List.set_cons_succ])
            have x_h0 : U9.cell? ⟨h, 0, none⟩ = some (.int .i64 0) := by rw [k_h.cell]; rfl
            have z_h0 := k_h.frozen 0
            have x_h1 : U9.cell? ⟨h, 1, none⟩ = some (.int .i64 0) := by rw [k_h.cell]; rfl
            have z_h1 := k_h.frozen 1
            have x_h2 : U9.cell? ⟨h, 2, none⟩ = some (.string ⟨#[]⟩) := by rw [k_h.cell]; rfl
            have z_h2 := k_h.frozen 2
            have l_h := k_h.lt
            refine wpAnyH_ready (rs := [11]) (by kernel_rfl) (by simp) ?_
            refine AllReadyH.cons rfl (fun K hK => ?_) AllReadyH.nil
            go_simp
            clear x_h0 x_h1 x_h2 z_h0 z_h1 z_h2 l_h
            have k_h : Blk (((U9.setCell ⟨h, 0, none⟩ (.int .i64 y.1)).setCell ⟨h, 1, none⟩ (.int .i64 y.2.1)).setCell ⟨h, 2, none⟩ (.string y.2.2)) h 27 #[.int .i64 y.1, .int .i64 y.2.1, .string y.2.2] := ((k_h.set_ 0 _).set_ 1 _).set_ 2 _
            have k_g : Blk (((U9.setCell ⟨h, 0, none⟩ (.int .i64 y.1)).setCell ⟨h, 1, none⟩ (.int .i64 y.2.1)).setCell ⟨h, 2, none⟩ (.string y.2.2)) _ _ _ := ((k_g.far (p := ⟨h, 0, none⟩) n_hg _).far (p := ⟨h, 1, none⟩) n_hg _).far (p := ⟨h, 2, none⟩) n_hg _
            have k_q : Blk (((U9.setCell ⟨h, 0, none⟩ (.int .i64 y.1)).setCell ⟨h, 1, none⟩ (.int .i64 y.2.1)).setCell ⟨h, 2, none⟩ (.string y.2.2)) _ _ _ := ((k_q.far (p := ⟨h, 0, none⟩) (by show w.heap.size ≠ h; omega) _).far (p := ⟨h, 1, none⟩) (by show w.heap.size ≠ h; omega) _).far (p := ⟨h, 2, none⟩) (by show w.heap.size ≠ h; omega) _
            have k_p : Blk (((U9.setCell ⟨h, 0, none⟩ (.int .i64 y.1)).setCell ⟨h, 1, none⟩ (.int .i64 y.2.1)).setCell ⟨h, 2, none⟩ (.string y.2.2)) _ _ _ := ((k_p.far (p := ⟨h, 0, none⟩) (by show P1 ≠ h; omega) _).far (p := ⟨h, 1, none⟩) (by show P1 ≠ h; omega) _).far (p := ⟨h, 2, none⟩) (by show P1 ≠ h; omega) _
            have k_r : Blk (((U9.setCell ⟨h, 0, none⟩ (.int .i64 y.1)).setCell ⟨h, 1, none⟩ (.int .i64 y.2.1)).setCell ⟨h, 2, none⟩ (.string y.2.2)) _ _ _ := ((k_r.far (p := ⟨h, 0, none⟩) (by show P2 ≠ h; omega) _).far (p := ⟨h, 1, none⟩) (by show P2 ≠ h; omega) _).far (p := ⟨h, 2, none⟩) (by show P2 ≠ h; omega) _
            have bb : Below w.heap.size w (((U9.setCell ⟨h, 0, none⟩ (.int .i64 y.1)).setCell ⟨h, 1, none⟩ (.int .i64 y.2.1)).setCell ⟨h, 2, none⟩ (.string y.2.2)) := ((bb.setCell (p := ⟨h, 0, none⟩) (by show _ ≤ h; omega) _).setCell (p := ⟨h, 1, none⟩) (by show _ ≤ h; omega) _).setCell (p := ⟨h, 2, none⟩) (by show _ ≤ h; omega) _
            refine hK.out _ _ ⟨by rw [k_q.cell]; rfl, by rw [k_q.cell]; rfl, by rw [k_q.cell]; rfl, by rw [k_p.cell]; rfl, by rw [k_p.cell]; rfl, by rw [k_p.cell]; rfl, by rw [k_r.cell]; rfl, by rw [k_r.cell]; rfl⟩ (fun hHeld => ?_)
            clear hK K
            generalize (((U9.setCell ⟨h, 0, none⟩ (.int .i64 y.1)).setCell ⟨h, 1, none⟩ (.int .i64 y.2.1)).setCell ⟨h, 2, none⟩ (.string y.2.2)) = U10 at *
            (try simp only [Act.put, List.setIfInBounds_toArray, List.set_cons_zero, List.set_cons_succ])
            refine wpAnyH_ready (rs := [12]) (by kernel_rfl) (by simp) ?_
            refine AllReadyH.cons rfl (fun K hK => ?_) AllReadyH.nil
            go_simp
            refine hK.out _ _ ⟨by rw [k_q.cell]; rfl, by rw [k_q.cell]; rfl, by rw [k_q.cell]; rfl, by rw [k_p.cell]; rfl, by rw [k_p.cell]; rfl, by rw [k_p.cell]; rfl, by rw [k_r.cell]; rfl, by rw [k_r.cell]; rfl⟩ (fun hHeld => ?_)
            clear hK K
            (try simp only [Act.put, List.setIfInBounds_toArray, List.set_cons_zero, List.set_cons_succ])
            refine wpAnyH_ready (rs := [13]) (by kernel_rfl) (by simp) ?_
            refine AllReadyH.cons rfl (fun K hK => ?_) AllReadyH.nil
            go_simp
            refine hK.out _ _ ⟨by rw [k_q.cell]; rfl, by rw [k_q.cell]; rfl, by rw [k_q.cell]; rfl, by rw [k_p.cell]; rfl, by rw [k_p.cell]; rfl, by rw [k_p.cell]; rfl, by rw [k_r.cell]; rfl, by rw [k_r.cell]; rfl⟩ (fun hHeld => ?_)
            clear hK K
            (try simp only [Act.put, List.setIfInBounds_toArray, List.set_cons_zero, List.set_cons_succ])
            refine wpAnyH_done (by kernel_rfl) ?_ _
            go_wp2_with fail
            go_meet
            exact ⟨g, h, rfl, rfl, rfl, rfl, ⟨bb, k_g, k_h⟩⟩
      · go_simp
        have n_q := k_r.lt
        have k_q := k_q.alloc (.cells #[.int .i64 0, .int .i64 0, .string ⟨#[]⟩] 27)
        have k_p := k_p.alloc (.cells #[.int .i64 0, .int .i64 0, .string ⟨#[]⟩] 27)
        have k_r := k_r.alloc (.cells #[.int .i64 0, .int .i64 0, .string ⟨#[]⟩] 27)
        have k_g := Blk.new U1 27 #[.int .i64 0, .int .i64 0, .string ⟨#[]⟩]
        have bb := bb.alloc bb.size (.cells #[.int .i64 0, .int .i64 0, .string ⟨#[]⟩] 27)
        refine hK.out _ _ ⟨by rw [k_q.cell]; rfl, by rw [k_q.cell]; rfl, by rw [k_q.cell]; rfl, by rw [k_p.cell]; rfl, by rw [k_p.cell]; rfl, by rw [k_p.cell]; rfl, by rw [k_r.cell]; rfl, by rw [k_r.cell]; rfl⟩ (fun hHeld => ?_)
        clear hK K
        generalize U1.alloc (.cells #[.int .i64 0, .int .i64 0, .string ⟨#[]⟩] 27) = U11 at *
        generalize U1.heap.size = g at *
        have n_gq := n_q
        clear n_q
        (try simp only [Act.put, List.setIfInBounds_toArray, List.set_cons_zero, List.set_cons_succ])
        refine wpAnyH_ready (rs := [3, 9]) (by kernel_rfl) (by simp) ?_
        refine AllReadyH.cons rfl (fun K hK => ?_) (AllReadyH.cons rfl (fun K hK => ?_) AllReadyH.nil)
        · go_simp
          go_at_call 19
          (with_reducible refine (HCB.out _ bb).mono ?_)
          rintro e U12 ⟨rfl, bq⟩
          have k_q := k_q.below bq k_q.lt
          have k_p := k_p.below bq k_p.lt
          have k_r := k_r.below bq k_r.lt
          have k_g := k_g.below bq k_g.lt
          have bb := bb.trans (bq.mono bb.size)
          clear bq
          refine hK.out _ _ ⟨by rw [k_q.cell]; rfl, by rw [k_q.cell]; rfl, by rw [k_q.cell]; rfl, by rw [k_p.cell]; rfl, by rw [k_p.cell]; rfl, by rw [k_p.cell]; rfl, by rw [k_r.cell]; rfl, by rw [k_r.cell]; rfl⟩ (fun hHeld => ?_)
          clear hK K
          (try simp only [Act.put, List.setIfInBounds_toArray, List.set_cons_zero, List.set_cons_succ])
          refine wpAnyH_ready (rs := [9]) (by kernel_rfl) (by simp) ?_
          refine AllReadyH.cons rfl (fun K hK => ?_) AllReadyH.nil
          · go_simp
            have n_q := k_r.lt
            have n_l := k_g.lt
            have k_q := k_q.alloc (.cells #[.int .i64 0, .int .i64 0, .string ⟨#[]⟩] 27)
            have k_p := k_p.alloc (.cells #[.int .i64 0, .int .i64 0, .string ⟨#[]⟩] 27)
            have k_r := k_r.alloc (.cells #[.int .i64 0, .int .i64 0, .string ⟨#[]⟩] 27)
            have k_g := k_g.alloc (.cells #[.int .i64 0, .int .i64 0, .string ⟨#[]⟩] 27)
            have k_h := Blk.new U12 27 #[.int .i64 0, .int .i64 0, .string ⟨#[]⟩]
            have bb := bb.alloc bb.size (.cells #[.int .i64 0, .int .i64 0, .string ⟨#[]⟩] 27)
            refine hK.out _ _ ⟨by rw [k_q.cell]; rfl, by rw [k_q.cell]; rfl, by rw [k_q.cell]; rfl, by rw [k_p.cell]; rfl, by rw [k_p.cell]; rfl, by rw [k_p.cell]; rfl, by rw [k_r.cell]; rfl, by rw [k_r.cell]; rfl⟩ (fun hHeld => ?_)
            clear hK K
            generalize U12.alloc (.cells #[.int .i64 0, .int .i64 0, .string ⟨#[]⟩] 27) = U13 at *
            generalize U12.heap.size = h at *
            have n_hg : g ≠ h := by omega
            have n_gh : h ≠ g := by omega
            clear n_l
            have n_hq := n_q
            clear n_q
            (try simp only [Act.put, List.setIfInBounds_toArray, List.set_cons_zero, List.set_cons_succ])
            have x_g0 : U13.cell? ⟨g, 0, none⟩ = some (.int .i64 0) := by rw [k_g.cell]; rfl
            have z_g0 := k_g.frozen 0
            have x_g1 : U13.cell? ⟨g, 1, none⟩ = some (.int .i64 0) := by rw [k_g.cell]; rfl
            have z_g1 := k_g.frozen 1
            have x_g2 : U13.cell? ⟨g, 2, none⟩ = some (.string ⟨#[]⟩) := by rw [k_g.cell]; rfl
            have z_g2 := k_g.frozen 2
            have l_g := k_g.lt
            refine wpAnyH_ready (rs := [10]) (by kernel_rfl) (by simp) ?_
            refine AllReadyH.cons rfl (fun K hK => ?_) AllReadyH.nil
            go_simp
            clear x_g0 x_g1 x_g2 z_g0 z_g1 z_g2 l_g
            have k_g : Blk (((U13.setCell ⟨g, 0, none⟩ (.int .i64 x.1)).setCell ⟨g, 1, none⟩ (.int .i64 x.2.1)).setCell ⟨g, 2, none⟩ (.string x.2.2)) g 27 #[.int .i64 x.1, .int .i64 x.2.1, .string x.2.2] := ((k_g.set_ 0 _).set_ 1 _).set_ 2 _
            have k_h : Blk (((U13.setCell ⟨g, 0, none⟩ (.int .i64 x.1)).setCell ⟨g, 1, none⟩ (.int .i64 x.2.1)).setCell ⟨g, 2, none⟩ (.string x.2.2)) _ _ _ := ((k_h.far (p := ⟨g, 0, none⟩) n_gh _).far (p := ⟨g, 1, none⟩) n_gh _).far (p := ⟨g, 2, none⟩) n_gh _
            have k_q : Blk (((U13.setCell ⟨g, 0, none⟩ (.int .i64 x.1)).setCell ⟨g, 1, none⟩ (.int .i64 x.2.1)).setCell ⟨g, 2, none⟩ (.string x.2.2)) _ _ _ := ((k_q.far (p := ⟨g, 0, none⟩) (by show w.heap.size ≠ g; omega) _).far (p := ⟨g, 1, none⟩) (by show w.heap.size ≠ g; omega) _).far (p := ⟨g, 2, none⟩) (by show w.heap.size ≠ g; omega) _
            have k_p : Blk (((U13.setCell ⟨g, 0, none⟩ (.int .i64 x.1)).setCell ⟨g, 1, none⟩ (.int .i64 x.2.1)).setCell ⟨g, 2, none⟩ (.string x.2.2)) _ _ _ := ((k_p.far (p := ⟨g, 0, none⟩) (by show P1 ≠ g; omega) _).far (p := ⟨g, 1, none⟩) (by show P1 ≠ g; omega) _).far (p := ⟨g, 2, none⟩) (by show P1 ≠ g; omega) _
            have k_r : Blk (((U13.setCell ⟨g, 0, none⟩ (.int .i64 x.1)).setCell ⟨g, 1, none⟩ (.int .i64 x.2.1)).setCell ⟨g, 2, none⟩ (.string x.2.2)) _ _ _ := ((k_r.far (p := ⟨g, 0, none⟩) (by show P2 ≠ g; omega) _).far (p := ⟨g, 1, none⟩) (by show P2 ≠ g; omega) _).far (p := ⟨g, 2, none⟩) (by show P2 ≠ g; omega) _
            have bb : Below w.heap.size w (((U13.setCell ⟨g, 0, none⟩ (.int .i64 x.1)).setCell ⟨g, 1, none⟩ (.int .i64 x.2.1)).setCell ⟨g, 2, none⟩ (.string x.2.2)) := ((bb.setCell (p := ⟨g, 0, none⟩) (by show _ ≤ g; omega) _).setCell (p := ⟨g, 1, none⟩) (by show _ ≤ g; omega) _).setCell (p := ⟨g, 2, none⟩) (by show _ ≤ g; omega) _
            refine hK.out _ _ ⟨by rw [k_q.cell]; rfl, by rw [k_q.cell]; rfl, by rw [k_q.cell]; rfl, by rw [k_p.cell]; rfl, by rw [k_p.cell]; rfl, by rw [k_p.cell]; rfl, by rw [k_r.cell]; rfl, by rw [k_r.cell]; rfl⟩ (fun hHeld => ?_)
            clear hK K
            generalize (((U13.setCell ⟨g, 0, none⟩ (.int .i64 x.1)).setCell ⟨g, 1, none⟩ (.int .i64 x.2.1)).setCell ⟨g, 2, none⟩ (.string x.2.2)) = U14 at *
            (try simp only [Act.put, List.setIfInBounds_toArray, List.set_cons_zero, List.set_cons_succ])
            have x_h0 : U14.cell? ⟨h, 0, none⟩ = some (.int .i64 0) := by rw [k_h.cell]; rfl
            have z_h0 := k_h.frozen 0
            have x_h1 : U14.cell? ⟨h, 1, none⟩ = some (.int .i64 0) := by rw [k_h.cell]; rfl
            have z_h1 := k_h.frozen 1
            have x_h2 : U14.cell? ⟨h, 2, none⟩ = some (.string ⟨#[]⟩) := by rw [k_h.cell]; rfl
            have z_h2 := k_h.frozen 2
            have l_h := k_h.lt
            refine wpAnyH_ready (rs := [11]) (by kernel_rfl) (by simp) ?_
            refine AllReadyH.cons rfl (fun K hK => ?_) AllReadyH.nil
            go_simp
            clear x_h0 x_h1 x_h2 z_h0 z_h1 z_h2 l_h
            have k_h : Blk (((U14.setCell ⟨h, 0, none⟩ (.int .i64 y.1)).setCell ⟨h, 1, none⟩ (.int .i64 y.2.1)).setCell ⟨h, 2, none⟩ (.string y.2.2)) h 27 #[.int .i64 y.1, .int .i64 y.2.1, .string y.2.2] := ((k_h.set_ 0 _).set_ 1 _).set_ 2 _
            have k_g : Blk (((U14.setCell ⟨h, 0, none⟩ (.int .i64 y.1)).setCell ⟨h, 1, none⟩ (.int .i64 y.2.1)).setCell ⟨h, 2, none⟩ (.string y.2.2)) _ _ _ := ((k_g.far (p := ⟨h, 0, none⟩) n_hg _).far (p := ⟨h, 1, none⟩) n_hg _).far (p := ⟨h, 2, none⟩) n_hg _
            have k_q : Blk (((U14.setCell ⟨h, 0, none⟩ (.int .i64 y.1)).setCell ⟨h, 1, none⟩ (.int .i64 y.2.1)).setCell ⟨h, 2, none⟩ (.string y.2.2)) _ _ _ := ((k_q.far (p := ⟨h, 0, none⟩) (by show w.heap.size ≠ h; omega) _).far (p := ⟨h, 1, none⟩) (by show w.heap.size ≠ h; omega) _).far (p := ⟨h, 2, none⟩) (by show w.heap.size ≠ h; omega) _
            have k_p : Blk (((U14.setCell ⟨h, 0, none⟩ (.int .i64 y.1)).setCell ⟨h, 1, none⟩ (.int .i64 y.2.1)).setCell ⟨h, 2, none⟩ (.string y.2.2)) _ _ _ := ((k_p.far (p := ⟨h, 0, none⟩) (by show P1 ≠ h; omega) _).far (p := ⟨h, 1, none⟩) (by show P1 ≠ h; omega) _).far (p := ⟨h, 2, none⟩) (by show P1 ≠ h; omega) _
            have k_r : Blk (((U14.setCell ⟨h, 0, none⟩ (.int .i64 y.1)).setCell ⟨h, 1, none⟩ (.int .i64 y.2.1)).setCell ⟨h, 2, none⟩ (.string y.2.2)) _ _ _ := ((k_r.far (p := ⟨h, 0, none⟩) (by show P2 ≠ h; omega) _).far (p := ⟨h, 1, none⟩) (by show P2 ≠ h; omega) _).far (p := ⟨h, 2, none⟩) (by show P2 ≠ h; omega) _
            have bb : Below w.heap.size w (((U14.setCell ⟨h, 0, none⟩ (.int .i64 y.1)).setCell ⟨h, 1, none⟩ (.int .i64 y.2.1)).setCell ⟨h, 2, none⟩ (.string y.2.2)) := ((bb.setCell (p := ⟨h, 0, none⟩) (by show _ ≤ h; omega) _).setCell (p := ⟨h, 1, none⟩) (by show _ ≤ h; omega) _).setCell (p := ⟨h, 2, none⟩) (by show _ ≤ h; omega) _
            refine hK.out _ _ ⟨by rw [k_q.cell]; rfl, by rw [k_q.cell]; rfl, by rw [k_q.cell]; rfl, by rw [k_p.cell]; rfl, by rw [k_p.cell]; rfl, by rw [k_p.cell]; rfl, by rw [k_r.cell]; rfl, by rw [k_r.cell]; rfl⟩ (fun hHeld => ?_)
            clear hK K
            generalize (((U14.setCell ⟨h, 0, none⟩ (.int .i64 y.1)).setCell ⟨h, 1, none⟩ (.int .i64 y.2.1)).setCell ⟨h, 2, none⟩ (.string y.2.2)) = U15 at *
            (try simp only [Act.put, List.setIfInBounds_toArray, List.set_cons_zero, List.set_cons_succ])
            refine wpAnyH_ready (rs := [12]) (by kernel_rfl) (by simp) ?_
            refine AllReadyH.cons rfl (fun K hK => ?_) AllReadyH.nil
            go_simp
            refine hK.out _ _ ⟨by rw [k_q.cell]; rfl, by rw [k_q.cell]; rfl, by rw [k_q.cell]; rfl, by rw [k_p.cell]; rfl, by rw [k_p.cell]; rfl, by rw [k_p.cell]; rfl, by rw [k_r.cell]; rfl, by rw [k_r.cell]; rfl⟩ (fun hHeld => ?_)
            clear hK K
            (try simp only [Act.put, List.setIfInBounds_toArray, List.set_cons_zero, List.set_cons_succ])
            refine wpAnyH_ready (rs := [13]) (by kernel_rfl) (by simp) ?_
            refine AllReadyH.cons rfl (fun K hK => ?_) AllReadyH.nil
            go_simp
            refine hK.out _ _ ⟨by rw [k_q.cell]; rfl, by rw [k_q.cell]; rfl, by rw [k_q.cell]; rfl, by rw [k_p.cell]; rfl, by rw [k_p.cell]; rfl, by rw [k_p.cell]; rfl, by rw [k_r.cell]; rfl, by rw [k_r.cell]; rfl⟩ (fun hHeld => ?_)
            clear hK K
            (try simp only [Act.put, List.setIfInBounds_toArray, List.set_cons_zero, List.set_cons_succ])
            refine wpAnyH_done (by kernel_rfl) ?_ _
            go_wp2_with fail
            go_meet
            exact ⟨g, h, rfl, rfl, rfl, rfl, ⟨bb, k_g, k_h⟩⟩
        · go_simp
          have n_q := k_r.lt
          have n_l := k_g.lt
          have k_q := k_q.alloc (.cells #[.int .i64 0, .int .i64 0, .string ⟨#[]⟩] 27)
          have k_p := k_p.alloc (.cells #[.int .i64 0, .int .i64 0, .string ⟨#[]⟩] 27)
          have k_r := k_r.alloc (.cells #[.int .i64 0, .int .i64 0, .string ⟨#[]⟩] 27)
          have k_g := k_g.alloc (.cells #[.int .i64 0, .int .i64 0, .string ⟨#[]⟩] 27)
          have k_h := Blk.new U11 27 #[.int .i64 0, .int .i64 0, .string ⟨#[]⟩]
          have bb := bb.alloc bb.size (.cells #[.int .i64 0, .int .i64 0, .string ⟨#[]⟩] 27)
          refine hK.out _ _ ⟨by rw [k_q.cell]; rfl, by rw [k_q.cell]; rfl, by rw [k_q.cell]; rfl, by rw [k_p.cell]; rfl, by rw [k_p.cell]; rfl, by rw [k_p.cell]; rfl, by rw [k_r.cell]; rfl, by rw [k_r.cell]; rfl⟩ (fun hHeld => ?_)
          clear hK K
          generalize U11.alloc (.cells #[.int .i64 0, .int .i64 0, .string ⟨#[]⟩] 27) = U16 at *
          generalize U11.heap.size = h at *
          have n_hg : g ≠ h := by omega
          have n_gh : h ≠ g := by omega
          clear n_l
          have n_hq := n_q
          clear n_q
          (try simp only [Act.put, List.setIfInBounds_toArray, List.set_cons_zero, List.set_cons_succ])
          refine wpAnyH_ready (rs := [3]) (by kernel_rfl) (by simp) ?_
          refine AllReadyH.cons rfl (fun K hK => ?_) AllReadyH.nil
          · go_simp
            go_at_call 19
            (with_reducible refine (HCB.out _ bb).mono ?_)
            rintro e U17 ⟨rfl, bq⟩
            have k_q := k_q.below bq k_q.lt
            have k_p := k_p.below bq k_p.lt
            have k_r := k_r.below bq k_r.lt
            have k_g := k_g.below bq k_g.lt
            have k_h := k_h.below bq k_h.lt
            have bb := bb.trans (bq.mono bb.size)
            clear bq
            refine hK.out _ _ ⟨by rw [k_q.cell]; rfl, by rw [k_q.cell]; rfl, by rw [k_q.cell]; rfl, by rw [k_p.cell]; rfl, by rw [k_p.cell]; rfl, by rw [k_p.cell]; rfl, by rw [k_r.cell]; rfl, by rw [k_r.cell]; rfl⟩ (fun hHeld => ?_)
            clear hK K
            (try simp only [Act.put, List.setIfInBounds_toArray, List.set_cons_zero, List.set_cons_succ])
            have x_g0 : U17.cell? ⟨g, 0, none⟩ = some (.int .i64 0) := by rw [k_g.cell]; rfl
            have z_g0 := k_g.frozen 0
            have x_g1 : U17.cell? ⟨g, 1, none⟩ = some (.int .i64 0) := by rw [k_g.cell]; rfl
            have z_g1 := k_g.frozen 1
            have x_g2 : U17.cell? ⟨g, 2, none⟩ = some (.string ⟨#[]⟩) := by rw [k_g.cell]; rfl
            have z_g2 := k_g.frozen 2
            have l_g := k_g.lt
            refine wpAnyH_ready (rs := [10]) (by kernel_rfl) (by simp) ?_
            refine AllReadyH.cons rfl (fun K hK => ?_) AllReadyH.nil
            go_simp
            clear x_g0 x_g1 x_g2 z_g0 z_g1 z_g2 l_g
            have k_g : Blk (((U17.setCell ⟨g, 0, none⟩ (.int .i64 x.1)).setCell ⟨g, 1, none⟩ (.int .i64 x.2.1)).setCell ⟨g, 2, none⟩ (.string x.2.2)) g 27 #[.int .i64 x.1, .int .i64 x.2.1, .string x.2.2] := ((k_g.set_ 0 _).set_ 1 _).set_ 2 _
            have k_h : Blk (((U17.setCell ⟨g, 0, none⟩ (.int .i64 x.1)).setCell ⟨g, 1, none⟩ (.int .i64 x.2.1)).setCell ⟨g, 2, none⟩ (.string x.2.2)) _ _ _ := ((k_h.far (p := ⟨g, 0, none⟩) n_gh _).far (p := ⟨g, 1, none⟩) n_gh _).far (p := ⟨g, 2, none⟩) n_gh _
            have k_q : Blk (((U17.setCell ⟨g, 0, none⟩ (.int .i64 x.1)).setCell ⟨g, 1, none⟩ (.int .i64 x.2.1)).setCell ⟨g, 2, none⟩ (.string x.2.2)) _ _ _ := ((k_q.far (p := ⟨g, 0, none⟩) (by show w.heap.size ≠ g; omega) _).far (p := ⟨g, 1, none⟩) (by show w.heap.size ≠ g; omega) _).far (p := ⟨g, 2, none⟩) (by show w.heap.size ≠ g; omega) _
            have k_p : Blk (((U17.setCell ⟨g, 0, none⟩ (.int .i64 x.1)).setCell ⟨g, 1, none⟩ (.int .i64 x.2.1)).setCell ⟨g, 2, none⟩ (.string x.2.2)) _ _ _ := ((k_p.far (p := ⟨g, 0, none⟩) (by show P1 ≠ g; omega) _).far (p := ⟨g, 1, none⟩) (by show P1 ≠ g; omega) _).far (p := ⟨g, 2, none⟩) (by show P1 ≠ g; omega) _
            have k_r : Blk (((U17.setCell ⟨g, 0, none⟩ (.int .i64 x.1)).setCell ⟨g, 1, none⟩ (.int .i64 x.2.1)).setCell ⟨g, 2, none⟩ (.string x.2.2)) _ _ _ := ((k_r.far (p := ⟨g, 0, none⟩) (by show P2 ≠ g; omega) _).far (p := ⟨g, 1, none⟩) (by show P2 ≠ g; omega) _).far (p := ⟨g, 2, none⟩) (by show P2 ≠ g; omega) _
            have bb : Below w.heap.size w (((U17.setCell ⟨g, 0, none⟩ (.int .i64 x.1)).setCell ⟨g, 1, none⟩ (.int .i64 x.2.1)).setCell ⟨g, 2, none⟩ (.string x.2.2)) := ((bb.setCell (p := ⟨g, 0, none⟩) (by show _ ≤ g; omega) _).setCell (p := ⟨g, 1, none⟩) (by show _ ≤ g; omega) _).setCell (p := ⟨g, 2, none⟩) (by show _ ≤ g; omega) _
            refine hK.out _ _ ⟨by rw [k_q.cell]; rfl, by rw [k_q.cell]; rfl, by rw [k_q.cell]; rfl, by rw [k_p.cell]; rfl, by rw [k_p.cell]; rfl, by rw [k_p.cell]; rfl, by rw [k_r.cell]; rfl, by rw [k_r.cell]; rfl⟩ (fun hHeld => ?_)
            clear hK K
            generalize (((U17.setCell ⟨g, 0, none⟩ (.int .i64 x.1)).setCell ⟨g, 1, none⟩ (.int .i64 x.2.1)).setCell ⟨g, 2, none⟩ (.string x.2.2)) = U18 at *
            (try simp only [Act.put, List.setIfInBounds_toArray, List.set_cons_zero, List.set_cons_succ])
            have x_h0 : U18.cell? ⟨h, 0, none⟩ = some (.int .i64 0) := by rw [k_h.cell]; rfl
            have z_h0 := k_h.frozen 0
            have x_h1 : U18.cell? ⟨h, 1, none⟩ = some (.int .i64 0) := by rw [k_h.cell]; rfl
            have z_h1 := k_h.frozen 1
            have x_h2 : U18.cell? ⟨h, 2, none⟩ = some (.string ⟨#[]⟩) := by rw [k_h.cell]; rfl
            have z_h2 := k_h.frozen 2
            have l_h := k_h.lt
            refine wpAnyH_ready (rs := [11]) (by kernel_rfl) (by simp) ?_
            refine AllReadyH.cons rfl (fun K hK => ?_) AllReadyH.nil
            go_simp
            clear x_h0 x_h1 x_h2 z_h0 z_h1 z_h2 l_h
            have k_h : Blk (((U18.setCell ⟨h, 0, none⟩ (.int .i64 y.1)).setCell ⟨h, 1, none⟩ (.int .i64 y.2.1)).setCell ⟨h, 2, none⟩ (.string y.2.2)) h 27 #[.int .i64 y.1, .int .i64 y.2.1, .string y.2.2] := ((k_h.set_ 0 _).set_ 1 _).set_ 2 _
            have k_g : Blk (((U18.setCell ⟨h, 0, none⟩ (.int .i64 y.1)).setCell ⟨h, 1, none⟩ (.int .i64 y.2.1)).setCell ⟨h, 2, none⟩ (.string y.2.2)) _ _ _ := ((k_g.far (p := ⟨h, 0, none⟩) n_hg _).far (p := ⟨h, 1, none⟩) n_hg _).far (p := ⟨h, 2, none⟩) n_hg _
            have k_q : Blk (((U18.setCell ⟨h, 0, none⟩ (.int .i64 y.1)).setCell ⟨h, 1, none⟩ (.int .i64 y.2.1)).setCell ⟨h, 2, none⟩ (.string y.2.2)) _ _ _ := ((k_q.far (p := ⟨h, 0, none⟩) (by show w.heap.size ≠ h; omega) _).far (p := ⟨h, 1, none⟩) (by show w.heap.size ≠ h; omega) _).far (p := ⟨h, 2, none⟩) (by show w.heap.size ≠ h; omega) _
            have k_p : Blk (((U18.setCell ⟨h, 0, none⟩ (.int .i64 y.1)).setCell ⟨h, 1, none⟩ (.int .i64 y.2.1)).setCell ⟨h, 2, none⟩ (.string y.2.2)) _ _ _ := ((k_p.far (p := ⟨h, 0, none⟩) (by show P1 ≠ h; omega) _).far (p := ⟨h, 1, none⟩) (by show P1 ≠ h; omega) _).far (p := ⟨h, 2, none⟩) (by show P1 ≠ h; omega) _
            have k_r : Blk (((U18.setCell ⟨h, 0, none⟩ (.int .i64 y.1)).setCell ⟨h, 1, none⟩ (.int .i64 y.2.1)).setCell ⟨h, 2, none⟩ (.string y.2.2)) _ _ _ := ((k_r.far (p := ⟨h, 0, none⟩) (by show P2 ≠ h; omega) _).far (p := ⟨h, 1, none⟩) (by show P2 ≠ h; omega) _).far (p := ⟨h, 2, none⟩) (by show P2 ≠ h; omega) _
            have bb : Below w.heap.size w (((U18.setCell ⟨h, 0, none⟩ (.int .i64 y.1)).setCell ⟨h, 1, none⟩ (.int .i64 y.2.1)).setCell ⟨h, 2, none⟩ (.string y.2.2)) := ((bb.setCell (p := ⟨h, 0, none⟩) (by show _ ≤ h; omega) _).setCell (p := ⟨h, 1, none⟩) (by show _ ≤ h; omega) _).setCell (p := ⟨h, 2, none⟩) (by show _ ≤ h; omega) _
            refine hK.out _ _ ⟨by rw [k_q.cell]; rfl, by rw [k_q.cell]; rfl, by rw [k_q.cell]; rfl, by rw [k_p.cell]; rfl, by rw [k_p.cell]; rfl, by rw [k_p.cell]; rfl, by rw [k_r.cell]; rfl, by rw [k_r.cell]; rfl⟩ (fun hHeld => ?_)
            clear hK K
            generalize (((U18.setCell ⟨h, 0, none⟩ (.int .i64 y.1)).setCell ⟨h, 1, none⟩ (.int .i64 y.2.1)).setCell ⟨h, 2, none⟩ (.string y.2.2)) = U19 at *
            (try simp only [Act.put, List.setIfInBounds_toArray, List.set_cons_zero, List.set_cons_succ])
            refine wpAnyH_ready (rs := [12]) (by kernel_rfl) (by simp) ?_
            refine AllReadyH.cons rfl (fun K hK => ?_) AllReadyH.nil
            go_simp
            refine hK.out _ _ ⟨by rw [k_q.cell]; rfl, by rw [k_q.cell]; rfl, by rw [k_q.cell]; rfl, by rw [k_p.cell]; rfl, by rw [k_p.cell]; rfl, by rw [k_p.cell]; rfl, by rw [k_r.cell]; rfl, by rw [k_r.cell]; rfl⟩ (fun hHeld => ?_)
            clear hK K
            (try simp only [Act.put, List.setIfInBounds_toArray, List.set_cons_zero, List.set_cons_succ])
            refine wpAnyH_ready (rs := [13]) (by kernel_rfl) (by simp) ?_
            refine AllReadyH.cons rfl (fun K hK => ?_) AllReadyH.nil
            go_simp
            refine hK.out _ _ ⟨by rw [k_q.cell]; rfl, by rw [k_q.cell]; rfl, by rw [k_q.cell]; rfl, by rw [k_p.cell]; rfl, by rw [k_p.cell]; rfl, by rw [k_p.cell]; rfl, by rw [k_r.cell]; rfl, by rw [k_r.cell]; rfl⟩ (fun hHeld => ?_)
            clear hK K
            (try simp only [Act.put, List.setIfInBounds_toArray, List.set_cons_zero, List.set_cons_succ])
            refine wpAnyH_done (by kernel_rfl) ?_ _
            go_wp2_with fail
            go_meet
            exact ⟨g, h, rfl, rfl, rfl, rfl, ⟨bb, k_g, k_h⟩⟩
      · go_simp
        have n_q := k_r.lt
        have k_q := k_q.alloc (.cells #[.int .i64 0, .int .i64 0, .string ⟨#[]⟩] 27)
        have k_p := k_p.alloc (.cells #[.int .i64 0, .int .i64 0, .string ⟨#[]⟩] 27)
        have k_r := k_r.alloc (.cells #[.int .i64 0, .int .i64 0, .string ⟨#[]⟩] 27)
        have k_h := Blk.new U1 27 #[.int .i64 0, .int .i64 0, .string ⟨#[]⟩]
        have bb := bb.alloc bb.size (.cells #[.int .i64 0, .int .i64 0, .string ⟨#[]⟩] 27)
        refine hK.out _ _ ⟨by rw [k_q.cell]; rfl, by rw [k_q.cell]; rfl, by rw [k_q.cell]; rfl, by rw [k_p.cell]; rfl, by rw [k_p.cell]; rfl, by rw [k_p.cell]; rfl, by rw [k_r.cell]; rfl, by rw [k_r.cell]; rfl⟩ (fun hHeld => ?_)
        clear hK K
        generalize U1.alloc (.cells #[.int .i64 0, .int .i64 0, .string ⟨#[]⟩] 27) = U20 at *
        generalize U1.heap.size = h at *
        have n_hq := n_q
        clear n_q
        (try simp only [Act.put, List.setIfInBounds_toArray, List.set_cons_zero, List.set_cons_succ])
        refine wpAnyH_ready (rs := [3, 8]) (by kernel_rfl) (by simp) ?_
        refine AllReadyH.cons rfl (fun K hK => ?_) (AllReadyH.cons rfl (fun K hK => ?_) AllReadyH.nil)
        · go_simp
          go_at_call 19
          (with_reducible refine (HCB.out _ bb).mono ?_)
          rintro e U21 ⟨rfl, bq⟩
          have k_q := k_q.below bq k_q.lt
          have k_p := k_p.below bq k_p.lt
          have k_r := k_r.below bq k_r.lt
          have k_h := k_h.below bq k_h.lt
          have bb := bb.trans (bq.mono bb.size)
          clear bq
          refine hK.out _ _ ⟨by rw [k_q.cell]; rfl, by rw [k_q.cell]; rfl, by rw [k_q.cell]; rfl, by rw [k_p.cell]; rfl, by rw [k_p.cell]; rfl, by rw [k_p.cell]; rfl, by rw [k_r.cell]; rfl, by rw [k_r.cell]; rfl⟩ (fun hHeld => ?_)
          clear hK K
          (try simp only [Act.put, List.setIfInBounds_toArray, List.set_cons_zero, List.set_cons_succ])
          refine wpAnyH_ready (rs := [8]) (by kernel_rfl) (by simp) ?_
          refine AllReadyH.cons rfl (fun K hK => ?_) AllReadyH.nil
          · go_simp
            have n_q := k_r.lt
            have n_l := k_h.lt
            have k_q := k_q.alloc (.cells #[.int .i64 0, .int .i64 0, .string ⟨#[]⟩] 27)
            have k_p := k_p.alloc (.cells #[.int .i64 0, .int .i64 0, .string ⟨#[]⟩] 27)
            have k_r := k_r.alloc (.cells #[.int .i64 0, .int .i64 0, .string ⟨#[]⟩] 27)
            have k_h := k_h.alloc (.cells #[.int .i64 0, .int .i64 0, .string ⟨#[]⟩] 27)
            have k_g := Blk.new U21 27 #[.int .i64 0, .int .i64 0, .string ⟨#[]⟩]
            have bb := bb.alloc bb.size (.cells #[.int .i64 0, .int .i64 0, .string ⟨#[]⟩] 27)
            refine hK.out _ _ ⟨by rw [k_q.cell]; rfl, by rw [k_q.cell]; rfl, by rw [k_q.cell]; rfl, by rw [k_p.cell]; rfl, by rw [k_p.cell]; rfl, by rw [k_p.cell]; rfl, by rw [k_r.cell]; rfl, by rw [k_r.cell]; rfl⟩ (fun hHeld => ?_)
            clear hK K
            generalize U21.alloc (.cells #[.int .i64 0, .int .i64 0, .string ⟨#[]⟩] 27) = U22 at *
            generalize U21.heap.size = g at *
            have n_gh : h ≠ g := by omega
            have n_hg : g ≠ h := by omega
            clear n_l
            have n_gq := n_q
            clear n_q
            (try simp only [Act.put, List.setIfInBounds_toArray, List.set_cons_zero, List.set_cons_succ])
            have x_g0 : U22.cell? ⟨g, 0, none⟩ = some (.int .i64 0) := by rw [k_g.cell]; rfl
            have z_g0 := k_g.frozen 0
            have x_g1 : U22.cell? ⟨g, 1, none⟩ = some (.int .i64 0) := by rw [k_g.cell]; rfl
            have z_g1 := k_g.frozen 1
            have x_g2 : U22.cell? ⟨g, 2, none⟩ = some (.string ⟨#[]⟩) := by rw [k_g.cell]; rfl
            have z_g2 := k_g.frozen 2
            have l_g := k_g.lt
            refine wpAnyH_ready (rs := [10]) (by kernel_rfl) (by simp) ?_
            refine AllReadyH.cons rfl (fun K hK => ?_) AllReadyH.nil
            go_simp
            clear x_g0 x_g1 x_g2 z_g0 z_g1 z_g2 l_g
            have k_g : Blk (((U22.setCell ⟨g, 0, none⟩ (.int .i64 x.1)).setCell ⟨g, 1, none⟩ (.int .i64 x.2.1)).setCell ⟨g, 2, none⟩ (.string x.2.2)) g 27 #[.int .i64 x.1, .int .i64 x.2.1, .string x.2.2] := ((k_g.set_ 0 _).set_ 1 _).set_ 2 _
            have k_h : Blk (((U22.setCell ⟨g, 0, none⟩ (.int .i64 x.1)).setCell ⟨g, 1, none⟩ (.int .i64 x.2.1)).setCell ⟨g, 2, none⟩ (.string x.2.2)) _ _ _ := ((k_h.far (p := ⟨g, 0, none⟩) n_gh _).far (p := ⟨g, 1, none⟩) n_gh _).far (p := ⟨g, 2, none⟩) n_gh _
            have k_q : Blk (((U22.setCell ⟨g, 0, none⟩ (.int .i64 x.1)).setCell ⟨g, 1, none⟩ (.int .i64 x.2.1)).setCell ⟨g, 2, none⟩ (.string x.2.2)) _ _ _ := ((k_q.far (p := ⟨g, 0, none⟩) (by show w.heap.size ≠ g; omega) _).far (p := ⟨g, 1, none⟩) (by show w.heap.size ≠ g; omega) _).far (p := ⟨g, 2, none⟩) (by show w.heap.size ≠ g; omega) _
            have k_p : Blk (((U22.setCell ⟨g, 0, none⟩ (.int .i64 x.1)).setCell ⟨g, 1, none⟩ (.int .i64 x.2.1)).setCell ⟨g, 2, none⟩ (.string x.2.2)) _ _ _ := ((k_p.far (p := ⟨g, 0, none⟩) (by show P1 ≠ g; omega) _).far (p := ⟨g, 1, none⟩) (by show P1 ≠ g; omega) _).far (p := ⟨g, 2, none⟩) (by show P1 ≠ g; omega) _
            have k_r : Blk (((U22.setCell ⟨g, 0, none⟩ (.int .i64 x.1)).setCell ⟨g, 1, none⟩ (.int .i64 x.2.1)).setCell ⟨g, 2, none⟩ (.string x.2.2)) _ _ _ := ((k_r.far (p := ⟨g, 0, none⟩) (by show P2 ≠ g; omega) _).far (p := ⟨g, 1, none⟩) (by show P2 ≠ g; omega) _).far (p := ⟨g, 2, none⟩) (by show P2 ≠ g; omega) _
            have bb : Below w.heap.size w (((U22.setCell ⟨g, 0, none⟩ (.int .i64 x.1)).setCell ⟨g, 1, none⟩ (.int .i64 x.2.1)).setCell ⟨g, 2, none⟩ (.string x.2.2)) := ((bb.setCell (p := ⟨g, 0, none⟩) (by show _ ≤ g; omega) _).setCell (p := ⟨g, 1, none⟩) (by show _ ≤ g; omega) _).setCell (p := ⟨g, 2, none⟩) (by show _ ≤ g; omega) _
            refine hK.out _ _ ⟨by rw [k_q.cell]; rfl, by rw [k_q.cell]; rfl, by rw [k_q.cell]; rfl, by rw [k_p.cell]; rfl, by rw [k_p.cell]; rfl, by rw [k_p.cell]; rfl, by rw [k_r.cell]; rfl, by rw [k_r.cell]; rfl⟩ (fun hHeld => ?_)
            clear hK K
            generalize (((U22.setCell ⟨g, 0, none⟩ (.int .i64 x.1)).setCell ⟨g, 1, none⟩ (.int .i64 x.2.1)).setCell ⟨g, 2, none⟩ (.string x.2.2)) = U23 at *
            (try simp only [Act.put, List.setIfInBounds_toArray, List.set_cons_zero, List.set_cons_succ])
            have x_h0 : U23.cell? ⟨h, 0, none⟩ = some (.int .i64 0) := by rw [k_h.cell]; rfl
            have z_h0 := k_h.frozen 0
            have x_h1 : U23.cell? ⟨h, 1, none⟩ = some (.int .i64 0) := by rw [k_h.cell]; rfl
            have z_h1 := k_h.frozen 1
            have x_h2 : U23.cell? ⟨h, 2, none⟩ = some (.string ⟨#[]⟩) := by rw [k_h.cell]; rfl
            have z_h2 := k_h.frozen 2
            have l_h := k_h.lt
            refine wpAnyH_ready (rs := [11]) (by kernel_rfl) (by simp) ?_
            refine AllReadyH.cons rfl (fun K hK => ?_) AllReadyH.nil
            go_simp
            clear x_h0 x_h1 x_h2 z_h0 z_h1 z_h2 l_h
            have k_h : Blk (((U23.setCell ⟨h, 0, none⟩ (.int .i64 y.1)).setCell ⟨h, 1, none⟩ (.int .i64 y.2.1)).setCell ⟨h, 2, none⟩ (.string y.2.2)) h 27 #[.int .i64 y.1, .int .i64 y.2.1, .string y.2.2] := ((k_h.set_ 0 _).set_ 1 _).set_ 2 _
            have k_g : Blk (((U23.setCell ⟨h, 0, none⟩ (.int .i64 y.1)).setCell ⟨h, 1, none⟩ (.int .i64 y.2.1)).setCell ⟨h, 2, none⟩ (.string y.2.2)) _ _ _ := ((k_g.far (p := ⟨h, 0, none⟩) n_hg _).far (p := ⟨h, 1, none⟩) n_hg _).far (p := ⟨h, 2, none⟩) n_hg _
            have k_q : Blk (((U23.setCell ⟨h, 0, none⟩ (.int .i64 y.1)).setCell ⟨h, 1, none⟩ (.int .i64 y.2.1)).setCell ⟨h, 2, none⟩ (.string y.2.2)) _ _ _ := ((k_q.far (p := ⟨h, 0, none⟩) (by show w.heap.size ≠ h; omega) _).far (p := ⟨h, 1, none⟩) (by show w.heap.size ≠ h; omega) _).far (p := ⟨h, 2, none⟩) (by show w.heap.size ≠ h; omega) _
            have k_p : Blk (((U23.setCell ⟨h, 0, none⟩ (.int .i64 y.1)).setCell ⟨h, 1, none⟩ (.int .i64 y.2.1)).setCell ⟨h, 2, none⟩ (.string y.2.2)) _ _ _ := ((k_p.far (p := ⟨h, 0, none⟩) (by show P1 ≠ h; omega) _).far (p := ⟨h, 1, none⟩) (by show P1 ≠ h; omega) _).far (p := ⟨h, 2, none⟩) (by show P1 ≠ h; omega) _
            have k_r : Blk (((U23.setCell ⟨h, 0, none⟩ (.int .i64 y.1)).setCell ⟨h, 1, none⟩ (.int .i64 y.2.1)).setCell ⟨h, 2, none⟩ (.string y.2.2)) _ _ _ := ((k_r.far (p := ⟨h, 0, none⟩) (by show P2 ≠ h; omega) _).far (p := ⟨h, 1, none⟩) (by show P2 ≠ h; omega) _).far (p := ⟨h, 2, none⟩) (by show P2 ≠ h; omega) _
            have bb : Below w.heap.size w (((U23.setCell ⟨h, 0, none⟩ (.int .i64 y.1)).setCell ⟨h, 1, none⟩ (.int .i64 y.2.1)).setCell ⟨h, 2, none⟩ (.string y.2.2)) := ((bb.setCell (p := ⟨h, 0, none⟩) (by show _ ≤ h; omega) _).setCell (p := ⟨h, 1, none⟩) (by show _ ≤ h; omega) _).setCell (p := ⟨h, 2, none⟩) (by show _ ≤ h; omega) _
            refine hK.out _ _ ⟨by rw [k_q.cell]; rfl, by rw [k_q.cell]; rfl, by rw [k_q.cell]; rfl, by rw [k_p.cell]; rfl, by rw [k_p.cell]; rfl, by rw [k_p.cell]; rfl, by rw [k_r.cell]; rfl, by rw [k_r.cell]; rfl⟩ (fun hHeld => ?_)
            clear hK K
            generalize (((U23.setCell ⟨h, 0, none⟩ (.int .i64 y.1)).setCell ⟨h, 1, none⟩ (.int .i64 y.2.1)).setCell ⟨h, 2, none⟩ (.string y.2.2)) = U24 at *
            (try simp only [Act.put, List.setIfInBounds_toArray, List.set_cons_zero, List.set_cons_succ])
            refine wpAnyH_ready (rs := [12]) (by kernel_rfl) (by simp) ?_
            refine AllReadyH.cons rfl (fun K hK => ?_) AllReadyH.nil
            go_simp
            refine hK.out _ _ ⟨by rw [k_q.cell]; rfl, by rw [k_q.cell]; rfl, by rw [k_q.cell]; rfl, by rw [k_p.cell]; rfl, by rw [k_p.cell]; rfl, by rw [k_p.cell]; rfl, by rw [k_r.cell]; rfl, by rw [k_r.cell]; rfl⟩ (fun hHeld => ?_)
            clear hK K
            (try simp only [Act.put, List.setIfInBounds_toArray, List.set_cons_zero, List.set_cons_succ])
            refine wpAnyH_ready (rs := [13]) (by kernel_rfl) (by simp) ?_
            refine AllReadyH.cons rfl (fun K hK => ?_) AllReadyH.nil
            go_simp
            refine hK.out _ _ ⟨by rw [k_q.cell]; rfl, by rw [k_q.cell]; rfl, by rw [k_q.cell]; rfl, by rw [k_p.cell]; rfl, by rw [k_p.cell]; rfl, by rw [k_p.cell]; rfl, by rw [k_r.cell]; rfl, by rw [k_r.cell]; rfl⟩ (fun hHeld => ?_)
            clear hK K
            (try simp only [Act.put, List.setIfInBounds_toArray, List.set_cons_zero, List.set_cons_succ])
            refine wpAnyH_done (by kernel_rfl) ?_ _
            go_wp2_with fail
            go_meet
            exact ⟨g, h, rfl, rfl, rfl, rfl, ⟨bb, k_g, k_h⟩⟩
        · go_simp
          have n_q := k_r.lt
          have n_l := k_h.lt
          have k_q := k_q.alloc (.cells #[.int .i64 0, .int .i64 0, .string ⟨#[]⟩] 27)
          have k_p := k_p.alloc (.cells #[.int .i64 0, .int .i64 0, .string ⟨#[]⟩] 27)
          have k_r := k_r.alloc (.cells #[.int .i64 0, .int .i64 0, .string ⟨#[]⟩] 27)
          have k_h := k_h.alloc (.cells #[.int .i64 0, .int .i64 0, .string ⟨#[]⟩] 27)
          have k_g := Blk.new U20 27 #[.int .i64 0, .int .i64 0, .string ⟨#[]⟩]
          have bb := bb.alloc bb.size (.cells #[.int .i64 0, .int .i64 0, .string ⟨#[]⟩] 27)
          refine hK.out _ _ ⟨by rw [k_q.cell]; rfl, by rw [k_q.cell]; rfl, by rw [k_q.cell]; rfl, by rw [k_p.cell]; rfl, by rw [k_p.cell]; rfl, by rw [k_p.cell]; rfl, by rw [k_r.cell]; rfl, by rw [k_r.cell]; rfl⟩ (fun hHeld => ?_)
          clear hK K
          generalize U20.alloc (.cells #[.int .i64 0, .int .i64 0, .string ⟨#[]⟩] 27) = U25 at *
          generalize U20.heap.size = g at *
          have n_gh : h ≠ g := by omega
          have n_hg : g ≠ h := by omega
          clear n_l
          have n_gq := n_q
          clear n_q
          (try simp only [Act.put, List.setIfInBounds_toArray, List.set_cons_zero, List.set_cons_succ])
          refine wpAnyH_ready (rs := [3]) (by kernel_rfl) (by simp) ?_
          refine AllReadyH.cons rfl (fun K hK => ?_) AllReadyH.nil
          · go_simp
            go_at_call 19
            (with_reducible refine (HCB.out _ bb).mono ?_)
            rintro e U26 ⟨rfl, bq⟩
            have k_q := k_q.below bq k_q.lt
            have k_p := k_p.below bq k_p.lt
            have k_r := k_r.below bq k_r.lt
            have k_g := k_g.below bq k_g.lt
            have k_h := k_h.below bq k_h.lt
            have bb := bb.trans (bq.mono bb.size)
            clear bq
            refine hK.out _ _ ⟨by rw [k_q.cell]; rfl, by rw [k_q.cell]; rfl, by rw [k_q.cell]; rfl, by rw [k_p.cell]; rfl, by rw [k_p.cell]; rfl, by rw [k_p.cell]; rfl, by rw [k_r.cell]; rfl, by rw [k_r.cell]; rfl⟩ (fun hHeld => ?_)
            clear hK K
            (try simp only [Act.put, List.setIfInBounds_toArray, List.set_cons_zero, List.set_cons_succ])
            have x_g0 : U26.cell? ⟨g, 0, none⟩ = some (.int .i64 0) := by rw [k_g.cell]; rfl
            have z_g0 := k_g.frozen 0
            have x_g1 : U26.cell? ⟨g, 1, none⟩ = some (.int .i64 0) := by rw [k_g.cell]; rfl
            have z_g1 := k_g.frozen 1
            have x_g2 : U26.cell? ⟨g, 2, none⟩ = some (.string ⟨#[]⟩) := by rw [k_g.cell]; rfl
            have z_g2 := k_g.frozen 2
            have l_g := k_g.lt
            refine wpAnyH_ready (rs := [10]) (by kernel_rfl) (by simp) ?_
            refine AllReadyH.cons rfl (fun K hK => ?_) AllReadyH.nil
            go_simp
            clear x_g0 x_g1 x_g2 z_g0 z_g1 z_g2 l_g
            have k_g : Blk (((U26.setCell ⟨g, 0, none⟩ (.int .i64 x.1)).setCell ⟨g, 1, none⟩ (.int .i64 x.2.1)).setCell ⟨g, 2, none⟩ (.string x.2.2)) g 27 #[.int .i64 x.1, .int .i64 x.2.1, .string x.2.2] := ((k_g.set_ 0 _).set_ 1 _).set_ 2 _
            have k_h : Blk (((U26.setCell ⟨g, 0, none⟩ (.int .i64 x.1)).setCell ⟨g, 1, none⟩ (.int .i64 x.2.1)).setCell ⟨g, 2, none⟩ (.string x.2.2)) _ _ _ := ((k_h.far (p := ⟨g, 0, none⟩) n_gh _).far (p := ⟨g, 1, none⟩) n_gh _).far (p := ⟨g, 2, none⟩) n_gh _
            have k_q : Blk (((U26.setCell ⟨g, 0, none⟩ (.int .i64 x.1)).setCell ⟨g, 1, none⟩ (.int .i64 x.2.1)).setCell ⟨g, 2, none⟩ (.string x.2.2)) _ _ _ := ((k_q.far (p := ⟨g, 0, none⟩) (by show w.heap.size ≠ g; omega) _).far (p := ⟨g, 1, none⟩) (by show w.heap.size ≠ g; omega) _).far (p := ⟨g, 2, none⟩) (by show w.heap.size ≠ g; omega) _
            have k_p : Blk (((U26.setCell ⟨g, 0, none⟩ (.int .i64 x.1)).setCell ⟨g, 1, none⟩ (.int .i64 x.2.1)).setCell ⟨g, 2, none⟩ (.string x.2.2)) _ _ _ := ((k_p.far (p := ⟨g, 0, none⟩) (by show P1 ≠ g; omega) _).far (p := ⟨g, 1, none⟩) (by show P1 ≠ g; omega) _).far (p := ⟨g, 2, none⟩) (by show P1 ≠ g; omega) _
            have k_r : Blk (((U26.setCell ⟨g, 0, none⟩ (.int .i64 x.1)).setCell ⟨g, 1, none⟩ (.int .i64 x.2.1)).setCell ⟨g, 2, none⟩ (.string x.2.2)) _ _ _ := ((k_r.far (p := ⟨g, 0, none⟩) (by show P2 ≠ g; omega) _).far (p := ⟨g, 1, none⟩) (by show P2 ≠ g; omega) _).far (p := ⟨g, 2, none⟩) (by show P2 ≠ g; omega) _
            have bb : Below w.heap.size w (((U26.setCell ⟨g, 0, none⟩ (.int .i64 x.1)).setCell ⟨g, 1, none⟩ (.int .i64 x.2.1)).setCell ⟨g, 2, none⟩ (.string x.2.2)) := ((bb.setCell (p := ⟨g, 0, none⟩) (by show _ ≤ g; omega) _).setCell (p := ⟨g, 1, none⟩) (by show _ ≤ g; omega) _).setCell (p := ⟨g, 2, none⟩) (by show _ ≤ g; omega) _
            refine hK.out _ _ ⟨by rw [k_q.cell]; rfl, by rw [k_q.cell]; rfl, by rw [k_q.cell]; rfl, by rw [k_p.cell]; rfl, by rw [k_p.cell]; rfl, by rw [k_p.cell]; rfl, by rw [k_r.cell]; rfl, by rw [k_r.cell]; rfl⟩ (fun hHeld => ?_)
            clear hK K
            generalize (((U26.setCell ⟨g, 0, none⟩ (.int .i64 x.1)).setCell ⟨g, 1, none⟩ (.int .i64 x.2.1)).setCell ⟨g, 2, none⟩ (.string x.2.2)) = U27 at *
            (try simp only [Act.put, List.setIfInBounds_toArray, List.set_cons_zero, List.set_cons_succ])
            have x_h0 : U27.cell? ⟨h, 0, none⟩ = some (.int .i64 0) := by rw [k_h.cell]; rfl
            have z_h0 := k_h.frozen 0
            have x_h1 : U27.cell? ⟨h, 1, none⟩ = some (.int .i64 0) := by rw [k_h.cell]; rfl
            have z_h1 := k_h.frozen 1
            have x_h2 : U27.cell? ⟨h, 2, none⟩ = some (.string ⟨#[]⟩) := by rw [k_h.cell]; rfl
            have z_h2 := k_h.frozen 2
            have l_h := k_h.lt
            refine wpAnyH_ready (rs := [11]) (by kernel_rfl) (by simp) ?_
            refine AllReadyH.cons rfl (fun K hK => ?_) AllReadyH.nil
            go_simp
            clear x_h0 x_h1 x_h2 z_h0 z_h1 z_h2 l_h
            have k_h : Blk (((U27.setCell ⟨h, 0, none⟩ (.int .i64 y.1)).setCell ⟨h, 1, none⟩ (.int .i64 y.2.1)).setCell ⟨h, 2, none⟩ (.string y.2.2)) h 27 #[.int .i64 y.1, .int .i64 y.2.1, .string y.2.2] := ((k_h.set_ 0 _).set_ 1 _).set_ 2 _
            have k_g : Blk (((U27.setCell ⟨h, 0, none⟩ (.int .i64 y.1)).setCell ⟨h, 1, none⟩ (.int .i64 y.2.1)).setCell ⟨h, 2, none⟩ (.string y.2.2)) _ _ _ := ((k_g.far (p := ⟨h, 0, none⟩) n_hg _).far (p := ⟨h, 1, none⟩) n_hg _).far (p := ⟨h, 2, none⟩) n_hg _
            have k_q : Blk (((U27.setCell ⟨h, 0, none⟩ (.int .i64 y.1)).setCell ⟨h, 1, none⟩ (.int .i64 y.2.1)).setCell ⟨h, 2, none⟩ (.string y.2.2)) _ _ _ := ((k_q.far (p := ⟨h, 0, none⟩) (by show w.heap.size ≠ h; omega) _).far (p := ⟨h, 1, none⟩) (by show w.heap.size ≠ h; omega) _).far (p := ⟨h, 2, none⟩) (by show w.heap.size ≠ h; omega) _
            have k_p : Blk (((U27.setCell ⟨h, 0, none⟩ (.int .i64 y.1)).setCell ⟨h, 1, none⟩ (.int .i64 y.2.1)).setCell ⟨h, 2, none⟩ (.string y.2.2)) _ _ _ := ((k_p.far (p := ⟨h, 0, none⟩) (by show P1 ≠ h; omega) _).far (p := ⟨h, 1, none⟩) (by show P1 ≠ h; omega) _).far (p := ⟨h, 2, none⟩) (by show P1 ≠ h; omega) _
            have k_r : Blk (((U27.setCell ⟨h, 0, none⟩ (.int .i64 y.1)).setCell ⟨h, 1, none⟩ (.int .i64 y.2.1)).setCell ⟨h, 2, none⟩ (.string y.2.2)) _ _ _ := ((k_r.far (p := ⟨h, 0, none⟩) (by show P2 ≠ h; omega) _).far (p := ⟨h, 1, none⟩) (by show P2 ≠ h; omega) _).far (p := ⟨h, 2, none⟩) (by show P2 ≠ h; omega) _
            have bb : Below w.heap.size w (((U27.setCell ⟨h, 0, none⟩ (.int .i64 y.1)).setCell ⟨h, 1, none⟩ (.int .i64 y.2.1)).setCell ⟨h, 2, none⟩ (.string y.2.2)) := ((bb.setCell (p := ⟨h, 0, none⟩) (by show _ ≤ h; omega) _).setCell (p := ⟨h, 1, none⟩) (by show _ ≤ h; omega) _).setCell (p := ⟨h, 2, none⟩) (by show _ ≤ h; omega) _
            refine hK.out _ _ ⟨by rw [k_q.cell]; rfl, by rw [k_q.cell]; rfl, by rw [k_q.cell]; rfl, by rw [k_p.cell]; rfl, by rw [k_p.cell]; rfl, by rw [k_p.cell]; rfl, by rw [k_r.cell]; rfl, by rw [k_r.cell]; rfl⟩ (fun hHeld => ?_)
            clear hK K
            generalize (((U27.setCell ⟨h, 0, none⟩ (.int .i64 y.1)).setCell ⟨h, 1, none⟩ (.int .i64 y.2.1)).setCell ⟨h, 2, none⟩ (.string y.2.2)) = U28 at *
            (try simp only [Act.put, List.setIfInBounds_toArray, List.set_cons_zero, List.set_cons_succ])
            refine wpAnyH_ready (rs := [12]) (by kernel_rfl) (by simp) ?_
            refine AllReadyH.cons rfl (fun K hK => ?_) AllReadyH.nil
            go_simp
            refine hK.out _ _ ⟨by rw [k_q.cell]; rfl, by rw [k_q.cell]; rfl, by rw [k_q.cell]; rfl, by rw [k_p.cell]; rfl, by rw [k_p.cell]; rfl, by rw [k_p.cell]; rfl, by rw [k_r.cell]; rfl, by rw [k_r.cell]; rfl⟩ (fun hHeld => ?_)
            clear hK K
            (try simp only [Act.put, List.setIfInBounds_toArray, List.set_cons_zero, List.set_cons_succ])
            refine wpAnyH_ready (rs := [13]) (by kernel_rfl) (by simp) ?_
            refine AllReadyH.cons rfl (fun K hK => ?_) AllReadyH.nil
            go_simp
            refine hK.out _ _ ⟨by rw [k_q.cell]; rfl, by rw [k_q.cell]; rfl, by rw [k_q.cell]; rfl, by rw [k_p.cell]; rfl, by rw [k_p.cell]; rfl, by rw [k_p.cell]; rfl, by rw [k_r.cell]; rfl, by rw [k_r.cell]; rfl⟩ (fun hHeld => ?_)
            clear hK K
            (try simp only [Act.put, List.setIfInBounds_toArray, List.set_cons_zero, List.set_cons_succ])
            refine wpAnyH_done (by kernel_rfl) ?_ _
            go_wp2_with fail
            go_meet
            exact ⟨g, h, rfl, rfl, rfl, rfl, ⟨bb, k_g, k_h⟩⟩
    · go_simp
      have n_q := k_r.lt
      have k_q := k_q.alloc (.cells #[.int .i64 0, .int .i64 0, .string ⟨#[]⟩] 27)
      have k_p := k_p.alloc (.cells #[.int .i64 0, .int .i64 0, .string ⟨#[]⟩] 27)
      have k_r := k_r.alloc (.cells #[.int .i64 0, .int .i64 0, .string ⟨#[]⟩] 27)
      have k_g := Blk.new D0 27 #[.int .i64 0, .int .i64 0, .string ⟨#[]⟩]
      have bb := bb.alloc bb.size (.cells #[.int .i64 0, .int .i64 0, .string ⟨#[]⟩] 27)
      refine hK.out _ _ ⟨by rw [k_q.cell]; rfl, by rw [k_q.cell]; rfl, by rw [k_q.cell]; rfl, by rw [k_p.cell]; rfl, by rw [k_p.cell]; rfl, by rw [k_p.cell]; rfl, by rw [k_r.cell]; rfl, by rw [k_r.cell]; rfl⟩ (fun hHeld => ?_)
      clear hK K
      generalize D0.alloc (.cells #[.int .i64 0, .int .i64 0, .string ⟨#[]⟩] 27) = U29 at *
      generalize D0.heap.size = g at *
      have n_gq := n_q
      clear n_q
      (try simp only [Act.put, List.setIfInBounds_toArray, List.set_cons_zero, List.set_cons_succ])
      refine wpAnyH_ready (rs := [1, 9]) (by kernel_rfl) (by simp) ?_
      refine AllReadyH.cons rfl (fun K hK => ?_) (AllReadyH.cons rfl (fun K hK => ?_) AllReadyH.nil)
      · go_simp
        go_at_call 19
        (with_reducible refine (HCA.out _ bb).mono ?_)
        rintro e U30 ⟨rfl, bq⟩
        have k_q := k_q.below bq k_q.lt
        have k_p := k_p.below bq k_p.lt
        have k_r := k_r.below bq k_r.lt
        have k_g := k_g.below bq k_g.lt
        have bb := bb.trans (bq.mono bb.size)
        clear bq
        refine hK.out _ _ ⟨by rw [k_q.cell]; rfl, by rw [k_q.cell]; rfl, by rw [k_q.cell]; rfl, by rw [k_p.cell]; rfl, by rw [k_p.cell]; rfl, by rw [k_p.cell]; rfl, by rw [k_r.cell]; rfl, by rw [k_r.cell]; rfl⟩ (fun hHeld => ?_)
        clear hK K
        (try simp only [Act.put, List.setIfInBounds_toArray, List.set_cons_zero, List.set_cons_succ])
        refine wpAnyH_ready (rs := [3, 9]) (by kernel_rfl) (by simp) ?_
        refine AllReadyH.cons rfl (fun K hK => ?_) (AllReadyH.cons rfl (fun K hK => ?_) AllReadyH.nil)
        · go_simp
          go_at_call 19
          (with_reducible refine (HCB.out _ bb).mono ?_)
          rintro e U31 ⟨rfl, bq⟩
          have k_q := k_q.below bq k_q.lt
          have k_p := k_p.below bq k_p.lt
          have k_r := k_r.below bq k_r.lt
          have k_g := k_g.below bq k_g.lt
          have bb := bb.trans (bq.mono bb.size)
          clear bq
          refine hK.out _ _ ⟨by rw [k_q.cell]; rfl, by rw [k_q.cell]; rfl, by rw [k_q.cell]; rfl, by rw [k_p.cell]; rfl, by rw [k_p.cell]; rfl, by rw [k_p.cell]; rfl, by rw [k_r.cell]; rfl, by rw [k_r.cell]; rfl⟩ (fun hHeld => ?_)
          clear hK K
          (try simp only [Act.put, List.setIfInBounds_toArray, List.set_cons_zero, List.set_cons_succ])
          refine wpAnyH_ready (rs := [9]) (by kernel_rfl) (by simp) ?_
          refine AllReadyH.cons rfl (fun K hK => ?_) AllReadyH.nil
          · go_simp
            have n_q := k_r.lt
            have n_l := k_g.lt
            have k_q := k_q.alloc (.cells #[.int .i64 0, .int .i64 0, .string ⟨#[]⟩] 27)
            have k_p := k_p.alloc (.cells #[.int .i64 0, .int .i64 0, .string ⟨#[]⟩] 27)
            have k_r := k_r.alloc (.cells #[.int .i64 0, .int .i64 0, .string ⟨#[]⟩] 27)
            have k_g := k_g.alloc (.cells #[.int .i64 0, .int .i64 0, .string ⟨#[]⟩] 27)
            have k_h := Blk.new U31 27 #[.int .i64 0, .int .i64 0, .string ⟨#[]⟩]
            have bb := bb.alloc bb.size (.cells #[.int .i64 0, .int .i64 0, .string ⟨#[]⟩] 27)
            refine hK.out _ _ ⟨by rw [k_q.cell]; rfl, by rw [k_q.cell]; rfl, by rw [k_q.cell]; rfl, by rw [k_p.cell]; rfl, by rw [k_p.cell]; rfl, by rw [k_p.cell]; rfl, by rw [k_r.cell]; rfl, by rw [k_r.cell]; rfl⟩ (fun hHeld => ?_)
            clear hK K
            generalize U31.alloc (.cells #[.int .i64 0, .int .i64 0, .string ⟨#[]⟩] 27) = U32 at *
            generalize U31.heap.size = h at *
            have n_hg : g ≠ h := by omega
            have n_gh : h ≠ g := by omega
            clear n_l
            have n_hq := n_q
            clear n_q
            (try simp only [Act.put, List.setIfInBounds_toArray, List.set_cons_zero, List.set_cons_succ])
            have x_g0 : U32.cell? ⟨g, 0, none⟩ = some (.int .i64 0) := by rw [k_g.cell]; rfl
            have z_g0 := k_g.frozen 0
            have x_g1 : U32.cell? ⟨g, 1, none⟩ = some (.int .i64 0) := by rw [k_g.cell]; rfl
            have z_g1 := k_g.frozen 1
            have x_g2 : U32.cell? ⟨g, 2, none⟩ = some (.string ⟨#[]⟩) := by rw [k_g.cell]; rfl
            have z_g2 := k_g.frozen 2
            have l_g := k_g.lt
            refine wpAnyH_ready (rs := [10]) (by kernel_rfl) (by simp) ?_
            refine AllReadyH.cons rfl (fun K hK => ?_) AllReadyH.nil
            go_simp
            clear x_g0 x_g1 x_g2 z_g0 z_g1 z_g2 l_g
            have k_g : Blk (((U32.setCell ⟨g, 0, none⟩ (.int .i64 x.1)).setCell ⟨g, 1, none⟩ (.int .i64 x.2.1)).setCell ⟨g, 2, none⟩ (.string x.2.2)) g 27 #[.int .i64 x.1, .int .i64 x.2.1, .string x.2.2] := ((k_g.set_ 0 _).set_ 1 _).set_ 2 _
            have k_h : Blk (((U32.setCell ⟨g, 0, none⟩ (.int .i64 x.1)).setCell ⟨g, 1, none⟩ (.int .i64 x.2.1)).setCell ⟨g, 2, none⟩ (.string x.2.2)) _ _ _ := ((k_h.far (p := ⟨g, 0, none⟩) n_gh _).far (p := ⟨g, 1, none⟩) n_gh _).far (p := ⟨g, 2, none⟩) n_gh _
            have k_q : Blk (((U32.setCell ⟨g, 0, none⟩ (.int .i64 x.1)).setCell ⟨g, 1, none⟩ (.int .i64 x.2.1)).setCell ⟨g, 2, none⟩ (.string x.2.2)) _ _ _ := ((k_q.far (p := ⟨g, 0, none⟩) (by show w.heap.size ≠ g; omega) _).far (p := ⟨g, 1, none⟩) (by show w.heap.size ≠ g; omega) _).far (p := ⟨g, 2, none⟩) (by show w.heap.size ≠ g; omega) _
            have k_p : Blk (((U32.setCell ⟨g, 0, none⟩ (.int .i64 x.1)).setCell ⟨g, 1, none⟩ (.int .i64 x.2.1)).setCell ⟨g, 2, none⟩ (.string x.2.2)) _ _ _ := ((k_p.far (p := ⟨g, 0, none⟩) (by show P1 ≠ g; omega) _).far (p := ⟨g, 1, none⟩) (by show P1 ≠ g; omega) _).far (p := ⟨g, 2, none⟩) (by show P1 ≠ g; omega) _
            have k_r : Blk (((U32.setCell ⟨g, 0, none⟩ (.int .i64 x.1)).setCell ⟨g, 1, none⟩ (.int .i64 x.2.1)).setCell ⟨g, 2, none⟩ (.string x.2.2)) _ _ _ := ((k_r.far (p := ⟨g, 0, none⟩) (by show P2 ≠ g; omega) _).far (p := ⟨g, 1, none⟩) (by show P2 ≠ g; omega) _).far (p := ⟨g, 2, none⟩) (by show P2 ≠ g; omega) _
            have bb : Below w.heap.size w (((U32.setCell ⟨g, 0, none⟩ (.int .i64 x.1)).setCell ⟨g, 1, none⟩ (.int .i64 x.2.1)).setCell ⟨g, 2, none⟩ (.string x.2.2)) := ((bb.setCell (p := ⟨g, 0, none⟩) (by show _ ≤ g; omega) _).setCell (p := ⟨g, 1, none⟩) (by show _ ≤ g; omega) _).setCell (p := ⟨g, 2, none⟩) (by show _ ≤ g; omega) _
            refine hK.out _ _ ⟨by rw [k_q.cell]; rfl, by rw [k_q.cell]; rfl, by rw [k_q.cell]; rfl, by rw [k_p.cell]; rfl, by rw [k_p.cell]; rfl, by rw [k_p.cell]; rfl, by rw [k_r.cell]; rfl, by rw [k_r.cell]; rfl⟩ (fun hHeld => ?_)
            clear hK K
            generalize (((U32.setCell ⟨g, 0, none⟩ (.int .i64 x.1)).setCell ⟨g, 1, none⟩ (.int .i64 x.2.1)).setCell ⟨g, 2, none⟩ (.string x.2.2)) = U33 at *
            (try simp only [Act.put, List.setIfInBounds_toArray, List.set_cons_zero, List.set_cons_succ])
            have x_h0 : U33.cell? ⟨h, 0, none⟩ = some (.int .i64 0) := by rw [k_h.cell]; rfl
            have z_h0 := k_h.frozen 0
            have x_h1 : U33.cell? ⟨h, 1, none⟩ = some (.int .i64 0) := by rw [k_h.cell]; rfl
            have z_h1 := k_h.frozen 1
            have x_h2 : U33.cell? ⟨h, 2, none⟩ = some (.string ⟨#[]⟩) := by rw [k_h.cell]; rfl
            have z_h2 := k_h.frozen 2
            have l_h := k_h.lt
            refine wpAnyH_ready (rs := [11]) (by kernel_rfl) (by simp) ?_
            refine AllReadyH.cons rfl (fun K hK => ?_) AllReadyH.nil
            go_simp
            clear x_h0 x_h1 x_h2 z_h0 z_h1 z_h2 l_h
            have k_h : Blk (((U33.setCell ⟨h, 0, none⟩ (.int .i64 y.1)).setCell ⟨h, 1, none⟩ (.int .i64 y.2.1)).setCell ⟨h, 2, none⟩ (.string y.2.2)) h 27 #[.int .i64 y.1, .int .i64 y.2.1, .string y.2.2] := ((k_h.set_ 0 _).set_ 1 _).set_ 2 _
            have k_g : Blk (((U33.setCell ⟨h, 0, none⟩ (.int .i64 y.1)).setCell ⟨h, 1, none⟩ (.int .i64 y.2.1)).setCell ⟨h, 2, none⟩ (.string y.2.2)) _ _ _ := ((k_g.far (p := ⟨h, 0, none⟩) n_hg _).far (p := ⟨h, 1, none⟩) n_hg _).far (p := ⟨h, 2, none⟩) n_hg _
            have k_q : Blk (((U33.setCell ⟨h, 0, none⟩ (.int .i64 y.1)).setCell ⟨h, 1, none⟩ (.int .i64 y.2.1)).setCell ⟨h, 2, none⟩ (.string y.2.2)) _ _ _ := ((k_q.far (p := ⟨h, 0, none⟩) (by show w.heap.size ≠ h; omega) _).far (p := ⟨h, 1, none⟩) (by show w.heap.size ≠ h; omega) _).far (p := ⟨h, 2, none⟩) (by show w.heap.size ≠ h; omega) _
            have k_p : Blk (((U33.setCell ⟨h, 0, none⟩ (.int .i64 y.1)).setCell ⟨h, 1, none⟩ (.int .i64 y.2.1)).setCell ⟨h, 2, none⟩ (.string y.2.2)) _ _ _ := ((k_p.far (p := ⟨h, 0, none⟩) (by show P1 ≠ h; omega) _).far (p := ⟨h, 1, none⟩) (by show P1 ≠ h; omega) _).far (p := ⟨h, 2, none⟩) (by show P1 ≠ h; omega) _
            have k_r : Blk (((U33.setCell ⟨h, 0, none⟩ (.int .i64 y.1)).setCell ⟨h, 1, none⟩ (.int .i64 y.2.1)).setCell ⟨h, 2, none⟩ (.string y.2.2)) _ _ _ := ((k_r.far (p := ⟨h, 0, none⟩) (by show P2 ≠ h; omega) _).far (p := ⟨h, 1, none⟩) (by show P2 ≠ h; omega) _).far (p := ⟨h, 2, none⟩) (by show P2 ≠ h; omega) _
            have bb : Below w.heap.size w (((U33.setCell ⟨h, 0, none⟩ (.int .i64 y.1)).setCell ⟨h, 1, none⟩ (.int .i64 y.2.1)).setCell ⟨h, 2, none⟩ (.string y.2.2)) := ((bb.setCell (p := ⟨h, 0, none⟩) (by show _ ≤ h; omega) _).setCell (p := ⟨h, 1, none⟩) (by show _ ≤ h; omega) _).setCell (p := ⟨h, 2, none⟩) (by show _ ≤ h; omega) _
            refine hK.out _ _ ⟨by rw [k_q.cell]; rfl, by rw [k_q.cell]; rfl, by rw [k_q.cell]; rfl, by rw [k_p.cell]; rfl, by rw [k_p.cell]; rfl, by rw [k_p.cell]; rfl, by rw [k_r.cell]; rfl, by rw [k_r.cell]; rfl⟩ (fun hHeld => ?_)
            clear hK K
            generalize (((U33.setCell ⟨h, 0, none⟩ (.int .i64 y.1)).setCell ⟨h, 1, none⟩ (.int .i64 y.2.1)).setCell ⟨h, 2, none⟩ (.string y.2.2)) = U34 at *
            (try simp only [Act.put, List.setIfInBounds_toArray, List.set_cons_zero, List.set_cons_succ])
            refine wpAnyH_ready (rs := [12]) (by kernel_rfl) (by simp) ?_
            refine AllReadyH.cons rfl (fun K hK => ?_) AllReadyH.nil
            go_simp
            refine hK.out _ _ ⟨by rw [k_q.cell]; rfl, by rw [k_q.cell]; rfl, by rw [k_q.cell]; rfl, by rw [k_p.cell]; rfl, by rw [k_p.cell]; rfl, by rw [k_p.cell]; rfl, by rw [k_r.cell]; rfl, by rw [k_r.cell]; rfl⟩ (fun hHeld => ?_)
            clear hK K
            (try simp only [Act.put, List.setIfInBounds_toArray, List.set_cons_zero, List.set_cons_succ])
            refine wpAnyH_ready (rs := [13]) (by kernel_rfl) (by simp) ?_
            refine AllReadyH.cons rfl (fun K hK => ?_) AllReadyH.nil
            go_simp
            refine hK.out _ _ ⟨by rw [k_q.cell]; rfl, by rw [k_q.cell]; rfl, by rw [k_q.cell]; rfl, by rw [k_p.cell]; rfl, by rw [k_p.cell]; rfl, by rw [k_p.cell]; rfl, by rw [k_r.cell]; rfl, by rw [k_r.cell]; rfl⟩ (fun hHeld => ?_)
            clear hK K
            (try simp only [Act.put, List.setIfInBounds_toArray, List.set_cons_zero, List.set_cons_succ])
            refine wpAnyH_done (by kernel_rfl) ?_ _
            go_wp2_with fail
            go_meet
            exact ⟨g, h, rfl, rfl, rfl, rfl, ⟨bb, k_g, k_h⟩⟩
        · go_simp
          have n_q := k_r.lt
          have n_l := k_g.lt
          have k_q := k_q.alloc (.cells #[.int .i64 0, .int .i64 0, .string ⟨#[]⟩] 27)
          have k_p := k_p.alloc (.cells #[.int .i64 0, .int .i64 0, .string ⟨#[]⟩] 27)
          have k_r := k_r.alloc (.cells #[.int .i64 0, .int .i64 0, .string ⟨#[]⟩] 27)
          have k_g := k_g.alloc (.cells #[.int .i64 0, .int .i64 0, .string ⟨#[]⟩] 27)
          have k_h := Blk.new U30 27 #[.int .i64 0, .int .i64 0, .string ⟨#[]⟩]
          have bb := bb.alloc bb.size (.cells #[.int .i64 0, .int .i64 0, .string ⟨#[]⟩] 27)
          refine hK.out _ _ ⟨by rw [k_q.cell]; rfl, by rw [k_q.cell]; rfl, by rw [k_q.cell]; rfl, by rw [k_p.cell]; rfl, by rw [k_p.cell]; rfl, by rw [k_p.cell]; rfl, by rw [k_r.cell]; rfl, by rw [k_r.cell]; rfl⟩ (fun hHeld => ?_)
          clear hK K
          generalize U30.alloc (.cells #[.int .i64 0, .int .i64 0, .string ⟨#[]⟩] 27) = U35 at *
          generalize U30.heap.size = h at *
          have n_hg : g ≠ h := by omega
          have n_gh : h ≠ g := by omega
          clear n_l
          have n_hq := n_q
          clear n_q
          (try simp only [Act.put, List.setIfInBounds_toArray, List.set_cons_zero, List.set_cons_succ])
          refine wpAnyH_ready (rs := [3]) (by kernel_rfl) (by simp) ?_
          refine AllReadyH.cons rfl (fun K hK => ?_) AllReadyH.nil
          · go_simp
            go_at_call 19
            (with_reducible refine (HCB.out _ bb).mono ?_)
            rintro e U36 ⟨rfl, bq⟩
            have k_q := k_q.below bq k_q.lt
            have k_p := k_p.below bq k_p.lt
            have k_r := k_r.below bq k_r.lt
            have k_g := k_g.below bq k_g.lt
            have k_h := k_h.below bq k_h.lt
            have bb := bb.trans (bq.mono bb.size)
            clear bq
            refine hK.out _ _ ⟨by rw [k_q.cell]; rfl, by rw [k_q.cell]; rfl, by rw [k_q.cell]; rfl, by rw [k_p.cell]; rfl, by rw [k_p.cell]; rfl, by rw [k_p.cell]; rfl, by rw [k_r.cell]; rfl, by rw [k_r.cell]; rfl⟩ (fun hHeld => ?_)
            clear hK K
            (try simp only [Act.put, List.setIfInBounds_toArray, List.set_cons_zero, List.set_cons_succ])
            have x_g0 : U36.cell? ⟨g, 0, none⟩ = some (.int .i64 0) := by rw [k_g.cell]; rfl
            have z_g0 := k_g.frozen 0
            have x_g1 : U36.cell? ⟨g, 1, none⟩ = some (.int .i64 0) := by rw [k_g.cell]; rfl
            have z_g1 := k_g.frozen 1
            have x_g2 : U36.cell? ⟨g, 2, none⟩ = some (.string ⟨#[]⟩) := by rw [k_g.cell]; rfl
            have z_g2 := k_g.frozen 2
            have l_g := k_g.lt
            refine wpAnyH_ready (rs := [10]) (by kernel_rfl) (by simp) ?_
            refine AllReadyH.cons rfl (fun K hK => ?_) AllReadyH.nil
            go_simp
            clear x_g0 x_g1 x_g2 z_g0 z_g1 z_g2 l_g
            have k_g : Blk (((U36.setCell ⟨g, 0, none⟩ (.int .i64 x.1)).setCell ⟨g, 1, none⟩ (.int .i64 x.2.1)).setCell ⟨g, 2, none⟩ (.string x.2.2)) g 27 #[.int .i64 x.1, .int .i64 x.2.1, .string x.2.2] := ((k_g.set_ 0 _).set_ 1 _).set_ 2 _
            have k_h : Blk (((U36.setCell ⟨g, 0, none⟩ (.int .i64 x.1)).setCell ⟨g, 1, none⟩ (.int .i64 x.2.1)).setCell ⟨g, 2, none⟩ (.string x.2.2)) _ _ _ := ((k_h.far (p := ⟨g, 0, none⟩) n_gh _).far (p := ⟨g, 1, none⟩) n_gh _).far (p := ⟨g, 2, none⟩) n_gh _
            have k_q : Blk (((U36.setCell ⟨g, 0, none⟩ (.int .i64 x.1)).setCell ⟨g, 1, none⟩ (.int .i64 x.2.1)).setCell ⟨g, 2, none⟩ (.string x.2.2)) _ _ _ := ((k_q.far (p := ⟨g, 0, none⟩) (by show w.heap.size ≠ g; omega) _).far (p := ⟨g, 1, none⟩) (by show w.heap.size ≠ g; omega) _).far (p := ⟨g, 2, none⟩) (by show w.heap.size ≠ g; omega) _
            have k_p : Blk (((U36.setCell ⟨g, 0, none⟩ (.int .i64 x.1)).setCell ⟨g, 1, none⟩ (.int .i64 x.2.1)).setCell ⟨g, 2, none⟩ (.string x.2.2)) _ _ _ := ((k_p.far (p := ⟨g, 0, none⟩) (by show P1 ≠ g; omega) _).far (p := ⟨g, 1, none⟩) (by show P1 ≠ g; omega) _).far (p := ⟨g, 2, none⟩) (by show P1 ≠ g; omega) _
            have k_r : Blk (((U36.setCell ⟨g, 0, none⟩ (.int .i64 x.1)).setCell ⟨g, 1, none⟩ (.int .i64 x.2.1)).setCell ⟨g, 2, none⟩ (.string x.2.2)) _ _ _ := ((k_r.far (p := ⟨g, 0, none⟩) (by show P2 ≠ g; omega) _).far (p := ⟨g, 1, none⟩) (by show P2 ≠ g; omega) _).far (p := ⟨g, 2, none⟩) (by show P2 ≠ g; omega) _
            have bb : Below w.heap.size w (((U36.setCell ⟨g, 0, none⟩ (.int .i64 x.1)).setCell ⟨g, 1, none⟩ (.int .i64 x.2.1)).setCell ⟨g, 2, none⟩ (.string x.2.2)) := ((bb.setCell (p := ⟨g, 0, none⟩) (by show _ ≤ g; omega) _).setCell (p := ⟨g, 1, none⟩) (by show _ ≤ g; omega) _).setCell (p := ⟨g, 2, none⟩) (by show _ ≤ g; omega) _
            refine hK.out _ _ ⟨by rw [k_q.cell]; rfl, by rw [k_q.cell]; rfl, by rw [k_q.cell]; rfl, by rw [k_p.cell]; rfl, by rw [k_p.cell]; rfl, by rw [k_p.cell]; rfl, by rw [k_r.cell]; rfl, by rw [k_r.cell]; rfl⟩ (fun hHeld => ?_)
            clear hK K
            generalize (((U36.setCell ⟨g, 0, none⟩ (.int .i64 x.1)).setCell ⟨g, 1, none⟩ (.int .i64 x.2.1)).setCell ⟨g, 2, none⟩ (.string x.2.2)) = U37 at *
            (try simp only [Act.put, List.setIfInBounds_toArray, List.set_cons_zero, List.set_cons_succ])
            have x_h0 : U37.cell? ⟨h, 0, none⟩ = some (.int .i64 0) := by rw [k_h.cell]; rfl
            have z_h0 := k_h.frozen 0
            have x_h1 : U37.cell? ⟨h, 1, none⟩ = some (.int .i64 0) := by rw [k_h.cell]; rfl
            have z_h1 := k_h.frozen 1
            have x_h2 : U37.cell? ⟨h, 2, none⟩ = some (.string ⟨#[]⟩) := by rw [k_h.cell]; rfl
            have z_h2 := k_h.frozen 2
            have l_h := k_h.lt
            refine wpAnyH_ready (rs := [11]) (by kernel_rfl) (by simp) ?_
            refine AllReadyH.cons rfl (fun K hK => ?_) AllReadyH.nil
            go_simp
            clear x_h0 x_h1 x_h2 z_h0 z_h1 z_h2 l_h
            have k_h : Blk (((U37.setCell ⟨h, 0, none⟩ (.int .i64 y.1)).setCell ⟨h, 1, none⟩ (.int .i64 y.2.1)).setCell ⟨h, 2, none⟩ (.string y.2.2)) h 27 #[.int .i64 y.1, .int .i64 y.2.1, .string y.2.2] := ((k_h.set_ 0 _).set_ 1 _).set_ 2 _
            have k_g : Blk (((U37.setCell ⟨h, 0, none⟩ (.int .i64 y.1)).setCell ⟨h, 1, none⟩ (.int .i64 y.2.1)).setCell ⟨h, 2, none⟩ (.string y.2.2)) _ _ _ := ((k_g.far (p := ⟨h, 0, none⟩) n_hg _).far (p := ⟨h, 1, none⟩) n_hg _).far (p := ⟨h, 2, none⟩) n_hg _
            have k_q : Blk (((U37.setCell ⟨h, 0, none⟩ (.int .i64 y.1)).setCell ⟨h, 1, none⟩ (.int .i64 y.2.1)).setCell ⟨h, 2, none⟩ (.string y.2.2)) _ _ _ := ((k_q.far (p := ⟨h, 0, none⟩) (by show w.heap.size ≠ h; omega) _).far (p := ⟨h, 1, none⟩) (by show w.heap.size ≠ h; omega) _).far (p := ⟨h, 2, none⟩) (by show w.heap.size ≠ h; omega) _
            have k_p : Blk (((U37.setCell ⟨h, 0, none⟩ (.int .i64 y.1)).setCell ⟨h, 1, none⟩ (.int .i64 y.2.1)).setCell ⟨h, 2, none⟩ (.string y.2.2)) _ _ _ := ((k_p.far (p := ⟨h, 0, none⟩) (by show P1 ≠ h; omega) _).far (p := ⟨h, 1, none⟩) (by show P1 ≠ h; omega) _).far (p := ⟨h, 2, none⟩) (by show P1 ≠ h; omega) _
            have k_r : Blk (((U37.setCell ⟨h, 0, none⟩ (.int .i64 y.1)).setCell ⟨h, 1, none⟩ (.int .i64 y.2.1)).setCell ⟨h, 2, none⟩ (.string y.2.2)) _ _ _ := ((k_r.far (p := ⟨h, 0, none⟩) (by show P2 ≠ h; omega) _).far (p := ⟨h, 1, none⟩) (by show P2 ≠ h; omega) _).far (p := ⟨h, 2, none⟩) (by show P2 ≠ h; omega) _
            have bb : Below w.heap.size w (((U37.setCell ⟨h, 0, none⟩ (.int .i64 y.1)).setCell ⟨h, 1, none⟩ (.int .i64 y.2.1)).setCell ⟨h, 2, none⟩ (.string y.2.2)) := ((bb.setCell (p := ⟨h, 0, none⟩) (by show _ ≤ h; omega) _).setCell (p := ⟨h, 1, none⟩) (by show _ ≤ h; omega) _).setCell (p := ⟨h, 2, none⟩) (by show _ ≤ h; omega) _
            refine hK.out _ _ ⟨by rw [k_q.cell]; rfl, by rw [k_q.cell]; rfl, by rw [k_q.cell]; rfl, by rw [k_p.cell]; rfl, by rw [k_p.cell]; rfl, by rw [k_p.cell]; rfl, by rw [k_r.cell]; rfl, by rw [k_r.cell]; rfl⟩ (fun hHeld => ?_)
            clear hK K
            generalize (((U37.setCell ⟨h, 0, none⟩ (.int .i64 y.1)).setCell ⟨h, 1, none⟩ (.int .i64 y.2.1)).setCell ⟨h, 2, none⟩ (.string y.2.2)) = U38 at *
            (try simp only [Act.put, List.setIfInBounds_toArray, List.set_cons_zero, List.set_cons_succ])
            refine wpAnyH_ready (rs := [12]) (by kernel_rfl) (by simp) ?_
            refine AllReadyH.cons rfl (fun K hK => ?_) AllReadyH.nil
            go_simp
            refine hK.out _ _ ⟨by rw [k_q.cell]; rfl, by rw [k_q.cell]; rfl, by rw [k_q.cell]; rfl, by rw [k_p.cell]; rfl, by rw [k_p.cell]; rfl, by rw [k_p.cell]; rfl, by rw [k_r.cell]; rfl, by rw [k_r.cell]; rfl⟩ (fun hHeld => ?_)
            clear hK K
            (try simp only [Act.put, List.setIfInBounds_toArray, List.set_cons_zero, List.set_cons_succ])
            refine wpAnyH_ready (rs := [13]) (by kernel_rfl) (by simp) ?_
            refine AllReadyH.cons rfl (fun K hK => ?_) AllReadyH.nil
            go_simp
            refine hK.out _ _ ⟨by rw [k_q.cell]; rfl, by rw [k_q.cell]; rfl, by rw [k_q.cell]; rfl, by rw [k_p.cell]; rfl, by rw [k_p.cell]; rfl, by rw [k_p.cell]; rfl, by rw [k_r.cell]; rfl, by rw [k_r.cell]; rfl⟩ (fun hHeld => ?_)
            clear hK K
            (try simp only [Act.put, List.setIfInBounds_toArray, List.set_cons_zero, List.set_cons_succ])
            refine wpAnyH_done (by kernel_rfl) ?_ _
            go_wp2_with fail
            go_meet
            exact ⟨g, h, rfl, rfl, rfl, rfl, ⟨bb, k_g, k_h⟩⟩
      · go_simp
        have n_q := k_r.lt
        have n_l := k_g.lt
        have k_q := k_q.alloc (.cells #[.int .i64 0, .int .i64 0, .string ⟨#[]⟩] 27)
        have k_p := k_p.alloc (.cells #[.int .i64 0, .int .i64 0, .string ⟨#[]⟩] 27)
        have k_r := k_r.alloc (.cells #[.int .i64 0, .int .i64 0, .string ⟨#[]⟩] 27)
        have k_g := k_g.alloc (.cells #[.int .i64 0, .int .i64 0, .string ⟨#[]⟩] 27)
        have k_h := Blk.new U29 27 #[.int .i64 0, .int .i64 0, .string ⟨#[]⟩]
        have bb := bb.alloc bb.size (.cells #[.int .i64 0, .int .i64 0, .string ⟨#[]⟩] 27)
        refine hK.out _ _ ⟨by rw [k_q.cell]; rfl, by rw [k_q.cell]; rfl, by rw [k_q.cell]; rfl, by rw [k_p.cell]; rfl, by rw [k_p.cell]; rfl, by rw [k_p.cell]; rfl, by rw [k_r.cell]; rfl, by rw [k_r.cell]; rfl⟩ (fun hHeld => ?_)
        clear hK K
        generalize U29.alloc (.cells #[.int .i64 0, .int .i64 0, .string ⟨#[]⟩] 27) = U39 at *
        generalize U29.heap.size = h at *
        have n_hg : g ≠ h := by omega
        have n_gh : h ≠ g := by omega
        clear n_l
        have n_hq := n_q
        clear n_q
        (try simp only [Act.put, List.setIfInBounds_toArray, List.set_cons_zero, List.set_cons_succ])
        refine wpAnyH_ready (rs := [1]) (by kernel_rfl) (by simp) ?_
        refine AllReadyH.cons rfl (fun K hK => ?_) AllReadyH.nil
        · go_simp
          go_at_call 19
          (with_reducible refine (HCA.out _ bb).mono ?_)
          rintro e U40 ⟨rfl, bq⟩
          have k_q := k_q.below bq k_q.lt
          have k_p := k_p.below bq k_p.lt
          have k_r := k_r.below bq k_r.lt
          have k_g := k_g.below bq k_g.lt
          have k_h := k_h.below bq k_h.lt
          have bb := bb.trans (bq.mono bb.size)
          clear bq
          refine hK.out _ _ ⟨by rw [k_q.cell]; rfl, by rw [k_q.cell]; rfl, by rw [k_q.cell]; rfl, by rw [k_p.cell]; rfl, by rw [k_p.cell]; rfl, by rw [k_p.cell]; rfl, by rw [k_r.cell]; rfl, by rw [k_r.cell]; rfl⟩ (fun hHeld => ?_)
          clear hK K
          (try simp only [Act.put, List.setIfInBounds_toArray, List.set_cons_zero, List.set_cons_succ])
          refine wpAnyH_ready (rs := [3]) (by kernel_rfl) (by simp) ?_
          refine AllReadyH.cons rfl (fun K hK => ?_) AllReadyH.nil
          · go_simp
            go_at_call 19
            (with_reducible refine (HCB.out _ bb).mono ?_)
            rintro e U41 ⟨rfl, bq⟩
            have k_q := k_q.below bq k_q.lt
            have k_p := k_p.below bq k_p.lt
            have k_r := k_r.below bq k_r.lt
            have k_g := k_g.below bq k_g.lt
            have k_h := k_h.below bq k_h.lt
            have bb := bb.trans (bq.mono bb.size)
            clear bq
            refine hK.out _ _ ⟨by rw [k_q.cell]; rfl, by rw [k_q.cell]; rfl, by rw [k_q.cell]; rfl, by rw [k_p.cell]; rfl, by rw [k_p.cell]; rfl, by rw [k_p.cell]; rfl, by rw [k_r.cell]; rfl, by rw [k_r.cell]; rfl⟩ (fun hHeld => ?_)
            clear hK K
            (try simp only [Act.put, List.setIfInBounds_toArray, List.set_cons_zero, List.set_cons_succ])
            have x_g0 : U41.cell? ⟨g, 0, none⟩ = some (.int .i64 0) := by rw [k_g.cell]; rfl
            have z_g0 := k_g.frozen 0
            have x_g1 : U41.cell? ⟨g, 1, none⟩ = some (.int .i64 0) := by rw [k_g.cell]; rfl
            have z_g1 := k_g.frozen 1
            have x_g2 : U41.cell? ⟨g, 2, none⟩ = some (.string ⟨#[]⟩) := by rw [k_g.cell]; rfl
            have z_g2 := k_g.frozen 2
            have l_g := k_g.lt
            refine wpAnyH_ready (rs := [10]) (by kernel_rfl) (by simp) ?_
            refine AllReadyH.cons rfl (fun K hK => ?_) AllReadyH.nil
            go_simp
            clear x_g0 x_g1 x_g2 z_g0 z_g1 z_g2 l_g
            have k_g : Blk (((U41.setCell ⟨g, 0, none⟩ (.int .i64 x.1)).setCell ⟨g, 1, none⟩ (.int .i64 x.2.1)).setCell ⟨g, 2, none⟩ (.string x.2.2)) g 27 #[.int .i64 x.1, .int .i64 x.2.1, .string x.2.2] := ((k_g.set_ 0 _).set_ 1 _).set_ 2 _
            have k_h : Blk (((U41.setCell ⟨g, 0, none⟩ (.int .i64 x.1)).setCell ⟨g, 1, none⟩ (.int .i64 x.2.1)).setCell ⟨g, 2, none⟩ (.string x.2.2)) _ _ _ := ((k_h.far (p := ⟨g, 0, none⟩) n_gh _).far (p := ⟨g, 1, none⟩) n_gh _).far (p := ⟨g, 2, none⟩) n_gh _
            have k_q : Blk (((U41.setCell ⟨g, 0, none⟩ (.int .i64 x.1)).setCell ⟨g, 1, none⟩ (.int .i64 x.2.1)).setCell ⟨g, 2, none⟩ (.string x.2.2)) _ _ _ := ((k_q.far (p := ⟨g, 0, none⟩) (by show w.heap.size ≠ g; omega) _).far (p := ⟨g, 1, none⟩) (by show w.heap.size ≠ g; omega) _).far (p := ⟨g, 2, none⟩) (by show w.heap.size ≠ g; omega) _
            have k_p : Blk (((U41.setCell ⟨g, 0, none⟩ (.int .i64 x.1)).setCell ⟨g, 1, none⟩ (.int .i64 x.2.1)).setCell ⟨g, 2, none⟩ (.string x.2.2)) _ _ _ := ((k_p.far (p := ⟨g, 0, none⟩) (by show P1 ≠ g; omega) _).far (p := ⟨g, 1, none⟩) (by show P1 ≠ g; omega) _).far (p := ⟨g, 2, none⟩) (by show P1 ≠ g; omega) _
            have k_r : Blk (((U41.setCell ⟨g, 0, none⟩ (.int .i64 x.1)).setCell ⟨g, 1, none⟩ (.int .i64 x.2.1)).setCell ⟨g, 2, none⟩ (.string x.2.2)) _ _ _ := ((k_r.far (p := ⟨g, 0, none⟩) (by show P2 ≠ g; omega) _).far (p := ⟨g, 1, none⟩) (by show P2 ≠ g; omega) _).far (p := ⟨g, 2, none⟩) (by show P2 ≠ g; omega) _
            have bb : Below w.heap.size w (((U41.setCell ⟨g, 0, none⟩ (.int .i64 x.1)).setCell ⟨g, 1, none⟩ (.int .i64 x.2.1)).setCell ⟨g, 2, none⟩ (.string x.2.2)) := ((bb.setCell (p := ⟨g, 0, none⟩) (by show _ ≤ g; omega) _).setCell (p := ⟨g, 1, none⟩) (by show _ ≤ g; omega) _).setCell (p := ⟨g, 2, none⟩) (by show _ ≤ g; omega) _
            refine hK.out _ _ ⟨by rw [k_q.cell]; rfl, by rw [k_q.cell]; rfl, by rw [k_q.cell]; rfl, by rw [k_p.cell]; rfl, by rw [k_p.cell]; rfl, by rw [k_p.cell]; rfl, by rw [k_r.cell]; rfl, by rw [k_r.cell]; rfl⟩ (fun hHeld => ?_)
            clear hK K
            generalize (((U41.setCell ⟨g, 0, none⟩ (.int .i64 x.1)).setCell ⟨g, 1, none⟩ (.int .i64 x.2.1)).setCell ⟨g, 2, none⟩ (.string x.2.2)) = U42 at *
            (try simp only [Act.put, List.setIfInBounds_toArray, List.set_cons_zero, List.set_cons_succ])
            have x_h0 : U42.cell? ⟨h, 0, none⟩ = some (.int .i64 0) := by rw [k_h.cell]; rfl
            have z_h0 := k_h.frozen 0
            have x_h1 : U42.cell? ⟨h, 1, none⟩ = some (.int .i64 0) := by rw [k_h.cell]; rfl
            have z_h1 := k_h.frozen 1
            have x_h2 : U42.cell? ⟨h, 2, none⟩ = some (.string ⟨#[]⟩) := by rw [k_h.cell]; rfl
            have z_h2 := k_h.frozen 2
            have l_h := k_h.lt
            refine wpAnyH_ready (rs := [11]) (by kernel_rfl) (by simp) ?_
            refine AllReadyH.cons rfl (fun K hK => ?_) AllReadyH.nil
            go_simp
            clear x_h0 x_h1 x_h2 z_h0 z_h1 z_h2 l_h
            have k_h : Blk (((U42.setCell ⟨h, 0, none⟩ (.int .i64 y.1)).setCell ⟨h, 1, none⟩ (.int .i64 y.2.1)).setCell ⟨h, 2, none⟩ (.string y.2.2)) h 27 #[.int .i64 y.1, .int .i64 y.2.1, .string y.2.2] := ((k_h.set_ 0 _).set_ 1 _).set_ 2 _
            have k_g : Blk (((U42.setCell ⟨h, 0, none⟩ (.int .i64 y.1)).setCell ⟨h, 1, none⟩ (.int .i64 y.2.1)).setCell ⟨h, 2, none⟩ (.string y.2.2)) _ _ _ := ((k_g.far (p := ⟨h, 0, none⟩) n_hg _).far (p := ⟨h, 1, none⟩) n_hg _).far (p := ⟨h, 2, none⟩) n_hg _
            have k_q : Blk (((U42.setCell ⟨h, 0, none⟩ (.int .i64 y.1)).setCell ⟨h, 1, none⟩ (.int .i64 y.2.1)).setCell ⟨h, 2, none⟩ (.string y.2.2)) _ _ _ := ((k_q.far (p := ⟨h, 0, none⟩) (by show w.heap.size ≠ h; omega) _).far (p := ⟨h, 1, none⟩) (by show w.heap.size ≠ h; omega) _).far (p := ⟨h, 2, none⟩) (by show w.heap.size ≠ h; omega) _
            have k_p : Blk (((U42.setCell ⟨h, 0, none⟩ (.int .i64 y.1)).setCell ⟨h, 1, none⟩ (.int .i64 y.2.1)).setCell ⟨h, 2, none⟩ (.string y.2.2)) _ _ _ := ((k_p.far (p := ⟨h, 0, none⟩) (by show P1 ≠ h; omega) _).far (p := ⟨h, 1, none⟩) (by show P1 ≠ h; omega) _).far (p := ⟨h, 2, none⟩) (by show P1 ≠ h; omega) _
            have k_r : Blk (((U42.setCell ⟨h, 0, none⟩ (.int .i64 y.1)).setCell ⟨h, 1, none⟩ (.int .i64 y.2.1)).setCell ⟨h, 2, none⟩ (.string y.2.2)) _ _ _ := ((k_r.far (p := ⟨h, 0, none⟩) (by show P2 ≠ h; omega) _).far (p := ⟨h, 1, none⟩) (by show P2 ≠ h; omega) _).far (p := ⟨h, 2, none⟩) (by show P2 ≠ h; omega) _
            have bb : Below w.heap.size w (((U42.setCell ⟨h, 0, none⟩ (.int .i64 y.1)).setCell ⟨h, 1, none⟩ (.int .i64 y.2.1)).setCell ⟨h, 2, none⟩ (.string y.2.2)) := ((bb.setCell (p := ⟨h, 0, none⟩) (by show _ ≤ h; omega) _).setCell (p := ⟨h, 1, none⟩) (by show _ ≤ h; omega) _).setCell (p := ⟨h, 2, none⟩) (by show _ ≤ h; omega) _
            refine hK.out _ _ ⟨by rw [k_q.cell]; rfl, by rw [k_q.cell]; rfl, by rw [k_q.cell]; rfl, by rw [k_p.cell]; rfl, by rw [k_p.cell]; rfl, by rw [k_p.cell]; rfl, by rw [k_r.cell]; rfl, by rw [k_r.cell]; rfl⟩ (fun hHeld => ?_)
            clear hK K
            generalize (((U42.setCell ⟨h, 0, none⟩ (.int .i64 y.1)).setCell ⟨h, 1, none⟩ (.int .i64 y.2.1)).setCell ⟨h, 2, none⟩ (.string y.2.2)) = U43 at *
            (try simp only [Act.put, List.setIfInBounds_toArray, List.set_cons_zero, List.set_cons_succ])
            refine wpAnyH_ready (rs := [12]) (by kernel_rfl) (by simp) ?_
            refine AllReadyH.cons rfl (fun K hK => ?_) AllReadyH.nil
            go_simp
            refine hK.out _ _ ⟨by rw [k_q.cell]; rfl, by rw [k_q.cell]; rfl, by rw [k_q.cell]; rfl, by rw [k_p.cell]; rfl, by rw [k_p.cell]; rfl, by rw [k_p.cell]; rfl, by rw [k_r.cell]; rfl, by rw [k_r.cell]; rfl⟩ (fun hHeld => ?_)
            clear hK K
            (try simp only [Act.put, List.setIfInBounds_toArray, List.set_cons_zero, List.set_cons_succ])
            refine wpAnyH_ready (rs := [13]) (by kernel_rfl) (by simp) ?_
            refine AllReadyH.cons rfl (fun K hK => ?_) AllReadyH.nil
            go_simp
            refine hK.out _ _ ⟨by rw [k_q.cell]; rfl, by rw [k_q.cell]; rfl, by rw [k_q.cell]; rfl, by rw [k_p.cell]; rfl, by rw [k_p.cell]; rfl, by rw [k_p.cell]; rfl, by rw [k_r.cell]; rfl, by rw [k_r.cell]; rfl⟩ (fun hHeld => ?_)
            clear hK K
            (try simp only [Act.put, List.setIfInBounds_toArray, List.set_cons_zero, List.set_cons_succ])
            refine wpAnyH_done (by kernel_rfl) ?_ _
            go_wp2_with fail
            go_meet
            exact ⟨g, h, rfl, rfl, rfl, rfl, ⟨bb, k_g, k_h⟩⟩
    · go_simp
      have n_q := k_r.lt
      have k_q := k_q.alloc (.cells #[.int .i64 0, .int .i64 0, .string ⟨#[]⟩] 27)
      have k_p := k_p.alloc (.cells #[.int .i64 0, .int .i64 0, .string ⟨#[]⟩] 27)
      have k_r := k_r.alloc (.cells #[.int .i64 0, .int .i64 0, .string ⟨#[]⟩] 27)
      have k_h := Blk.new D0 27 #[.int .i64 0, .int .i64 0, .string ⟨#[]⟩]
      have bb := bb.alloc bb.size (.cells #[.int .i64 0, .int .i64 0, .string ⟨#[]⟩] 27)
      refine hK.out _ _ ⟨by rw [k_q.cell]; rfl, by rw [k_q.cell]; rfl, by rw [k_q.cell]; rfl, by rw [k_p.cell]; rfl, by rw [k_p.cell]; rfl, by rw [k_p.cell]; rfl, by rw [k_r.cell]; rfl, by rw [k_r.cell]; rfl⟩ (fun hHeld => ?_)
      clear hK K
      generalize D0.alloc (.cells #[.int .i64 0, .int .i64 0, .string ⟨#[]⟩] 27) = U44 at *
      generalize D0.heap.size = h at *
      have n_hq := n_q
      clear n_q
      (try simp only [Act.put, List.setIfInBounds_toArray, List.set_cons_zero, List.set_cons_succ])
      refine wpAnyH_ready (rs := [1, 8]) (by kernel_rfl) (by simp) ?_
      refine AllReadyH.cons rfl (fun K hK => ?_) (AllReadyH.cons rfl (fun K hK => ?_) AllReadyH.nil)
      · go_simp
        go_at_call 19
        (with_reducible refine (HCA.out _ bb).mono ?_)
        rintro e U45 ⟨rfl, bq⟩
        have k_q := k_q.below bq k_q.lt
        have k_p := k_p.below bq k_p.lt
        have k_r := k_r.below bq k_r.lt
        have k_h := k_h.below bq k_h.lt
        have bb := bb.trans (bq.mono bb.size)
        clear bq
        refine hK.out _ _ ⟨by rw [k_q.cell]; rfl, by rw [k_q.cell]; rfl, by rw [k_q.cell]; rfl, by rw [k_p.cell]; rfl, by rw [k_p.cell]; rfl, by rw [k_p.cell]; rfl, by rw [k_r.cell]; rfl, by rw [k_r.cell]; rfl⟩ (fun hHeld => ?_)
        clear hK K
        (try simp only [Act.put, List.setIfInBounds_toArray, List.set_cons_zero, List.set_cons_succ])
        refine wpAnyH_ready (rs := [3, 8]) (by kernel_rfl) (by simp) ?_
        refine AllReadyH.cons rfl (fun K hK => ?_) (AllReadyH.cons rfl (fun K hK => ?_) AllReadyH.nil)
        · go_simp
          go_at_call 19
          (with_reducible refine (HCB.out _ bb).mono ?_)
          rintro e U46 ⟨rfl, bq⟩
          have k_q := k_q.below bq k_q.lt
          have k_p := k_p.below bq k_p.lt
          have k_r := k_r.below bq k_r.lt
          have k_h := k_h.below bq k_h.lt
          have bb := bb.trans (bq.mono bb.size)
          clear bq
          refine hK.out _ _ ⟨by rw [k_q.cell]; rfl, by rw [k_q.cell]; rfl, by rw [k_q.cell]; rfl, by rw [k_p.cell]; rfl, by rw [k_p.cell]; rfl, by rw [k_p.cell]; rfl, by rw [k_r.cell]; rfl, by rw [k_r.cell]; rfl⟩ (fun hHeld => ?_)
          clear hK K
          (try simp only [Act.put, List.setIfInBounds_toArray, List.set_cons_zero, List.set_cons_succ])
          refine wpAnyH_ready (rs := [8]) (by kernel_rfl) (by simp) ?_
          refine AllReadyH.cons rfl (fun K hK => ?_) AllReadyH.nil
          · go_simp
            have n_q := k_r.lt
            have n_l := k_h.lt
            have k_q := k_q.alloc (.cells #[.int .i64 0, .int .i64 0, .string ⟨#[]⟩] 27)
            have k_p := k_p.alloc (.cells #[.int .i64 0, .int .i64 0, .string ⟨#[]⟩] 27)
            have k_r := k_r.alloc (.cells #[.int .i64 0, .int .i64 0, .string ⟨#[]⟩] 27)
            have k_h := k_h.alloc (.cells #[.int .i64 0, .int .i64 0, .string ⟨#[]⟩] 27)
            have k_g := Blk.new U46 27 #[.int .i64 0, .int .i64 0, .string ⟨#[]⟩]
            have bb := bb.alloc bb.size (.cells #[.int .i64 0, .int .i64 0, .string ⟨#[]⟩] 27)
            refine hK.out _ _ ⟨by rw [k_q.cell]; rfl, by rw [k_q.cell]; rfl, by rw [k_q.cell]; rfl, by rw [k_p.cell]; rfl, by rw [k_p.cell]; rfl, by rw [k_p.cell]; rfl, by rw [k_r.cell]; rfl, by rw [k_r.cell]; rfl⟩ (fun hHeld => ?_)
            clear hK K
            generalize U46.alloc (.cells #[.int .i64 0, .int .i64 0, .string ⟨#[]⟩] 27) = U47 at *
            generalize U46.heap.size = g at *
            have n_gh : h ≠ g := by omega
            have n_hg : g ≠ h := by omega
            clear n_l
            have n_gq := n_q
            clear n_q
            (try simp only [Act.put, List.setIfInBounds_toArray, List.set_cons_zero, List.set_cons_succ])
            have x_g0 : U47.cell? ⟨g, 0, none⟩ = some (.int .i64 0) := by rw [k_g.cell]; rfl
            have z_g0 := k_g.frozen 0
            have x_g1 : U47.cell? ⟨g, 1, none⟩ = some (.int .i64 0) := by rw [k_g.cell]; rfl
            have z_g1 := k_g.frozen 1
            have x_g2 : U47.cell? ⟨g, 2, none⟩ = some (.string ⟨#[]⟩) := by rw [k_g.cell]; rfl
            have z_g2 := k_g.frozen 2
            have l_g := k_g.lt
            refine wpAnyH_ready (rs := [10]) (by kernel_rfl) (by simp) ?_
            refine AllReadyH.cons rfl (fun K hK => ?_) AllReadyH.nil
            go_simp
            clear x_g0 x_g1 x_g2 z_g0 z_g1 z_g2 l_g
            have k_g : Blk (((U47.setCell ⟨g, 0, none⟩ (.int .i64 x.1)).setCell ⟨g, 1, none⟩ (.int .i64 x.2.1)).setCell ⟨g, 2, none⟩ (.string x.2.2)) g 27 #[.int .i64 x.1, .int .i64 x.2.1, .string x.2.2] := ((k_g.set_ 0 _).set_ 1 _).set_ 2 _
            have k_h : Blk (((U47.setCell ⟨g, 0, none⟩ (.int .i64 x.1)).setCell ⟨g, 1, none⟩ (.int .i64 x.2.1)).setCell ⟨g, 2, none⟩ (.string x.2.2)) _ _ _ := ((k_h.far (p := ⟨g, 0, none⟩) n_gh _).far (p := ⟨g, 1, none⟩) n_gh _).far (p := ⟨g, 2, none⟩) n_gh _
            have k_q : Blk (((U47.setCell ⟨g, 0, none⟩ (.int .i64 x.1)).setCell ⟨g, 1, none⟩ (.int .i64 x.2.1)).setCell ⟨g, 2, none⟩ (.string x.2.2)) _ _ _ := ((k_q.far (p := ⟨g, 0, none⟩) (by show w.heap.size ≠ g; omega) _).far (p := ⟨g, 1, none⟩) (by show w.heap.size ≠ g; omega) _).far (p := ⟨g, 2, none⟩) (by show w.heap.size ≠ g; omega) _
            have k_p : Blk (((U47.setCell ⟨g, 0, none⟩ (.int .i64 x.1)).setCell ⟨g, 1, none⟩ (.int .i64 x.2.1)).setCell ⟨g, 2, none⟩ (.string x.2.2)) _ _ _ := ((k_p.far (p := ⟨g, 0, none⟩) (by show P1 ≠ g; omega) _).far (p := ⟨g, 1, none⟩) (by show P1 ≠ g; omega) _).far (p := ⟨g, 2, none⟩) (by show P1 ≠ g; omega) _
            have k_r : Blk (((U47.setCell ⟨g, 0, none⟩ (.int .i64 x.1)).setCell ⟨g, 1, none⟩ (.int .i64 x.2.1)).setCell ⟨g, 2, none⟩ (.string x.2.2)) _ _ _ := ((k_r.far (p := ⟨g, 0, none⟩) (by show P2 ≠ g; omega) _).far (p := ⟨g, 1, none⟩) (by show P2 ≠ g; omega) _).far (p := ⟨g, 2, none⟩) (by show P2 ≠ g; omega) _
            have bb : Below w.heap.size w (((U47.setCell ⟨g, 0, none⟩ (.int .i64 x.1)).setCell ⟨g, 1, none⟩ (.int .i64 x.2.1)).setCell ⟨g, 2, none⟩ (.string x.2.2)) := ((bb.setCell (p := ⟨g, 0, none⟩) (by show _ ≤ g; omega) _).setCell (p := ⟨g, 1, none⟩) (by show _ ≤ g; omega) _).setCell (p := ⟨g, 2, none⟩) (by show _ ≤ g; omega) _
            refine hK.out _ _ ⟨by rw [k_q.cell]; rfl, by rw [k_q.cell]; rfl, by rw [k_q.cell]; rfl, by rw [k_p.cell]; rfl, by rw [k_p.cell]; rfl, by rw [k_p.cell]; rfl, by rw [k_r.cell]; rfl, by rw [k_r.cell]; rfl⟩ (fun hHeld => ?_)
            clear hK K
            generalize (((U47.setCell ⟨g, 0, none⟩ (.int .i64 x.1)).setCell ⟨g, 1, none⟩ (.int .i64 x.2.1)).setCell ⟨g, 2, none⟩ (.string x.2.2)) = U48 at *
            (try simp only [Act.put, List.setIfInBounds_toArray, List.set_cons_zero, List.set_cons_succ])
            have x_h0 : U48.cell? ⟨h, 0, none⟩ = some (.int .i64 0) := by rw [k_h.cell]; rfl
            have z_h0 := k_h.frozen 0
            have x_h1 : U48.cell? ⟨h, 1, none⟩ = some (.int .i64 0) := by rw [k_h.cell]; rfl
            have z_h1 := k_h.frozen 1
            have x_h2 : U48.cell? ⟨h, 2, none⟩ = some (.string ⟨#[]⟩) := by rw [k_h.cell]; rfl
            have z_h2 := k_h.frozen 2
            have l_h := k_h.lt
            refine wpAnyH_ready (rs := [11]) (by kernel_rfl) (by simp) ?_
            refine AllReadyH.cons rfl (fun K hK => ?_) AllReadyH.nil
            go_simp
            clear x_h0 x_h1 x_h2 z_h0 z_h1 z_h2 l_h
            have k_h : Blk (((U48.setCell ⟨h, 0, none⟩ (.int .i64 y.1)).setCell ⟨h, 1, none⟩ (.int .i64 y.2.1)).setCell ⟨h, 2, none⟩ (.string y.2.2)) h 27 #[.int .i64 y.1, .int .i64 y.2.1, .string y.2.2] := ((k_h.set_ 0 _).set_ 1 _).set_ 2 _
            have k_g : Blk (((U48.setCell ⟨h, 0, none⟩ (.int .i64 y.1)).setCell ⟨h, 1, none⟩ (.int .i64 y.2.1)).setCell ⟨h, 2, none⟩ (.string y.2.2)) _ _ _ := ((k_g.far (p := ⟨h, 0, none⟩) n_hg _).far (p := ⟨h, 1, none⟩) n_hg _).far (p := ⟨h, 2, none⟩) n_hg _
            have k_q : Blk (((U48.setCell ⟨h, 0, none⟩ (.int .i64 y.1)).setCell ⟨h, 1, none⟩ (.int .i64 y.2.1)).setCell ⟨h, 2, none⟩ (.string y.2.2)) _ _ _ := ((k_q.far (p := ⟨h, 0, none⟩) (by show w.heap.size ≠ h; omega) _).far (p := ⟨h, 1, none⟩) (by show w.heap.size ≠ h; omega) _).far (p := ⟨h, 2, none⟩) (by show w.heap.size ≠ h; omega) _
            have k_p : Blk (((U48.setCell ⟨h, 0, none⟩ (.int .i64 y.1)).setCell ⟨h, 1, none⟩ (.int .i64 y.2.1)).setCell ⟨h, 2, none⟩ (.string y.2.2)) _ _ _ := ((k_p.far (p := ⟨h, 0, none⟩) (by show P1 ≠ h; omega) _).far (p := ⟨h, 1, none⟩) (by show P1 ≠ h; omega) _).far (p := ⟨h, 2, none⟩) (by show P1 ≠ h; omega) _
            have k_r : Blk (((U48.setCell ⟨h, 0, none⟩ (.int .i64 y.1)).setCell ⟨h, 1, none⟩ (.int .i64 y.2.1)).setCell ⟨h, 2, none⟩ (.string y.2.2)) _ _ _ := ((k_r.far (p := ⟨h, 0, none⟩) (by show P2 ≠ h; omega) _).far (p := ⟨h, 1, none⟩) (by show P2 ≠ h; omega) _).far (p := ⟨h, 2, none⟩) (by show P2 ≠ h; omega) _
            have bb : Below w.heap.size w (((U48.setCell ⟨h, 0, none⟩ (.int .i64 y.1)).setCell ⟨h, 1, none⟩ (.int .i64 y.2.1)).setCell ⟨h, 2, none⟩ (.string y.2.2)) := ((bb.setCell (p := ⟨h, 0, none⟩) (by show _ ≤ h; omega) _).setCell (p := ⟨h, 1, none⟩) (by show _ ≤ h; omega) _).setCell (p := ⟨h, 2, none⟩) (by show _ ≤ h; omega) _
            refine hK.out _ _ ⟨by rw [k_q.cell]; rfl, by rw [k_q.cell]; rfl, by rw [k_q.cell]; rfl, by rw [k_p.cell]; rfl, by rw [k_p.cell]; rfl, by rw [k_p.cell]; rfl, by rw [k_r.cell]; rfl, by rw [k_r.cell]; rfl⟩ (fun hHeld => ?_)
            clear hK K
            generalize (((U48.setCell ⟨h, 0, none⟩ (.int .i64 y.1)).setCell ⟨h, 1, none⟩ (.int .i64 y.2.1)).setCell ⟨h, 2, none⟩ (.string y.2.2)) = U49 at *
            (try simp only [Act.put, List.setIfInBounds_toArray, List.set_cons_zero, List.set_cons_succ])
            refine wpAnyH_ready (rs := [12]) (by kernel_rfl) (by simp) ?_
            refine AllReadyH.cons rfl (fun K hK => ?_) AllReadyH.nil
            go_simp
            refine hK.out _ _ ⟨by rw [k_q.cell]; rfl, by rw [k_q.cell]; rfl, by rw [k_q.cell]; rfl, by rw [k_p.cell]; rfl, by rw [k_p.cell]; rfl, by rw [k_p.cell]; rfl, by rw [k_r.cell]; rfl, by rw [k_r.cell]; rfl⟩ (fun hHeld => ?_)
            clear hK K
            (try simp only [Act.put, List.setIfInBounds_toArray, List.set_cons_zero, List.set_cons_succ])
            refine wpAnyH_ready (rs := [13]) (by kernel_rfl) (by simp) ?_
            refine AllReadyH.cons rfl (fun K hK => ?_) AllReadyH.nil
            go_simp
            refine hK.out _ _ ⟨by rw [k_q.cell]; rfl, by rw [k_q.cell]; rfl, by rw [k_q.cell]; rfl, by rw [k_p.cell]; rfl, by rw [k_p.cell]; rfl, by rw [k_p.cell]; rfl, by rw [k_r.cell]; rfl, by rw [k_r.cell]; rfl⟩ (fun hHeld => ?_)
            clear hK K
            (try simp only [Act.put, List.setIfInBounds_toArray, List.set_cons_zero, List.set_cons_succ])
            refine wpAnyH_done (by kernel_rfl) ?_ _
            go_wp2_with fail
            go_meet
            exact ⟨g, h, rfl, rfl, rfl, rfl, ⟨bb, k_g, k_h⟩⟩
        · go_simp
          have n_q := k_r.lt
          have n_l := k_h.lt
          have k_q := k_q.alloc (.cells #[.int .i64 0, .int .i64 0, .string ⟨#[]⟩] 27)
          have k_p := k_p.alloc (.cells #[.int .i64 0, .int .i64 0, .string ⟨#[]⟩] 27)
          have k_r := k_r.alloc (.cells #[.int .i64 0, .int .i64 0, .string ⟨#[]⟩] 27)
          have k_h := k_h.alloc (.cells #[.int .i64 0, .int .i64 0, .string ⟨#[]⟩] 27)
          have k_g := Blk.new U45 27 #[.int .i64 0, .int .i64 0, .string ⟨#[]⟩]
          have bb := bb.alloc bb.size (.cells #[.int .i64 0, .int .i64 0, .string ⟨#[]⟩] 27)
          refine hK.out _ _ ⟨by rw [k_q.cell]; rfl, by rw [k_q.cell]; rfl, by rw [k_q.cell]; rfl, by rw [k_p.cell]; rfl, by rw [k_p.cell]; rfl, by rw [k_p.cell]; rfl, by rw [k_r.cell]; rfl, by rw [k_r.cell]; rfl⟩ (fun hHeld => ?_)
          clear hK K
          generalize U45.alloc (.cells #[.int .i64 0, .int .i64 0, .string ⟨#[]⟩] 27) = U50 at *
          generalize U45.heap.size = g at *
          have n_gh : h ≠ g := by omega
          have n_hg : g ≠ h := by omega
          clear n_l
          have n_gq := n_q
          clear n_q
          (try simp only [Act.put, List.setIfInBounds_toArray, List.set_cons_zero, List.set_cons_succ])
          refine wpAnyH_ready (rs := [3]) (by kernel_rfl) (by simp) ?_
          refine AllReadyH.cons rfl (fun K hK => ?_) AllReadyH.nil
          · go_simp
            go_at_call 19
            (with_reducible refine (HCB.out _ bb).mono ?_)
            rintro e U51 ⟨rfl, bq⟩
            have k_q := k_q.below bq k_q.lt
            have k_p := k_p.below bq k_p.lt
            have k_r := k_r.below bq k_r.lt
            have k_g := k_g.below bq k_g.lt
            have k_h := k_h.below bq k_h.lt
            have bb := bb.trans (bq.mono bb.size)
            clear bq
            refine hK.out _ _ ⟨by rw [k_q.cell]; rfl, by rw [k_q.cell]; rfl, by rw [k_q.cell]; rfl, by rw [k_p.cell]; rfl, by rw [k_p.cell]; rfl, by rw [k_p.cell]; rfl, by rw [k_r.cell]; rfl, by rw [k_r.cell]; rfl⟩ (fun hHeld => ?_)
            clear hK K
            (try simp only [Act.put, List.setIfInBounds_toArray, List.set_cons_zero, List.set_cons_succ])
            have x_g0 : U51.cell? ⟨g, 0, none⟩ = some (.int .i64 0) := by rw [k_g.cell]; rfl
            have z_g0 := k_g.frozen 0
            have x_g1 : U51.cell? ⟨g, 1, none⟩ = some (.int .i64 0) := by rw [k_g.cell]; rfl
            have z_g1 := k_g.frozen 1
            have x_g2 : U51.cell? ⟨g, 2, none⟩ = some (.string ⟨#[]⟩) := by rw [k_g.cell]; rfl
            have z_g2 := k_g.frozen 2
            have l_g := k_g.lt
            refine wpAnyH_ready (rs := [10]) (by kernel_rfl) (by simp) ?_
            refine AllReadyH.cons rfl (fun K hK => ?_) AllReadyH.nil
            go_simp
            clear x_g0 x_g1 x_g2 z_g0 z_g1 z_g2 l_g
            have k_g : Blk (((U51.setCell ⟨g, 0, none⟩ (.int .i64 x.1)).setCell ⟨g, 1, none⟩ (.int .i64 x.2.1)).setCell ⟨g, 2, none⟩ (.string x.2.2)) g 27 #[.int .i64 x.1, .int .i64 x.2.1, .string x.2.2] := ((k_g.set_ 0 _).set_ 1 _).set_ 2 _
            have k_h : Blk (((U51.setCell ⟨g, 0, none⟩ (.int .i64 x.1)).setCell ⟨g, 1, none⟩ (.int .i64 x.2.1)).setCell ⟨g, 2, none⟩ (.string x.2.2)) _ _ _ := ((k_h.far (p := ⟨g, 0, none⟩) n_gh _).far (p := ⟨g, 1, none⟩) n_gh _).far (p := ⟨g, 2, none⟩) n_gh _
            have k_q : Blk (((U51.setCell ⟨g, 0, none⟩ (.int .i64 x.1)).setCell ⟨g, 1, none⟩ (.int .i64 x.2.1)).setCell ⟨g, 2, none⟩ (.string x.2.2)) _ _ _ := ((k_q.far (p := ⟨g, 0, none⟩) (by show w.heap.size ≠ g; omega) _).far (p := ⟨g, 1, none⟩) (by show w.heap.size ≠ g; omega) _).far (p := ⟨g, 2, none⟩) (by show w.heap.size ≠ g; omega) _
            have k_p : Blk (((U51.setCell ⟨g, 0, none⟩ (.int .i64 x.1)).setCell ⟨g, 1, none⟩ (.int .i64 x.2.1)).setCell ⟨g, 2, none⟩ (.string x.2.2)) _ _ _ := ((k_p.far (p := ⟨g, 0, none⟩) (by show P1 ≠ g; omega) _).far (p := ⟨g, 1, none⟩) (by show P1 ≠ g; omega) _).far (p := ⟨g, 2, none⟩) (by show P1 ≠ g; omega) _
            have k_r : Blk (((U51.setCell ⟨g, 0, none⟩ (.int .i64 x.1)).setCell ⟨g, 1, none⟩ (.int .i64 x.2.1)).setCell ⟨g, 2, none⟩ (.string x.2.2)) _ _ _ := ((k_r.far (p := ⟨g, 0, none⟩) (by show P2 ≠ g; omega) _).far (p := ⟨g, 1, none⟩) (by show P2 ≠ g; omega) _).far (p := ⟨g, 2, none⟩) (by show P2 ≠ g; omega) _
            have bb : Below w.heap.size w (((U51.setCell ⟨g, 0, none⟩ (.int .i64 x.1)).setCell ⟨g, 1, none⟩ (.int .i64 x.2.1)).setCell ⟨g, 2, none⟩ (.string x.2.2)) := ((bb.setCell (p := ⟨g, 0, none⟩) (by show _ ≤ g; omega) _).setCell (p := ⟨g, 1, none⟩) (by show _ ≤ g; omega) _).setCell (p := ⟨g, 2, none⟩) (by show _ ≤ g; omega) _
            refine hK.out _ _ ⟨by rw [k_q.cell]; rfl, by rw [k_q.cell]; rfl, by rw [k_q.cell]; rfl, by rw [k_p.cell]; rfl, by rw [k_p.cell]; rfl, by rw [k_p.cell]; rfl, by rw [k_r.cell]; rfl, by rw [k_r.cell]; rfl⟩ (fun hHeld => ?_)
            clear hK K
            generalize (((U51.setCell ⟨g, 0, none⟩ (.int .i64 x.1)).setCell ⟨g, 1, none⟩ (.int .i64 x.2.1)).setCell ⟨g, 2, none⟩ (.string x.2.2)) = U52 at *
            (try simp only [Act.put, List.setIfInBounds_toArray, List.set_cons_zero, List.set_cons_succ])
            have x_h0 : U52.cell? ⟨h, 0, none⟩ = some (.int .i64 0) := by rw [k_h.cell]; rfl
            have z_h0 := k_h.frozen 0
            have x_h1 : U52.cell? ⟨h, 1, none⟩ = some (.int .i64 0) := by rw [k_h.cell]; rfl
            have z_h1 := k_h.frozen 1
            have x_h2 : U52.cell? ⟨h, 2, none⟩ = some (.string ⟨#[]⟩) := by rw [k_h.cell]; rfl
            have z_h2 := k_h.frozen 2
            have l_h := k_h.lt
            refine wpAnyH_ready (rs := [11]) (by kernel_rfl) (by simp) ?_
            refine AllReadyH.cons rfl (fun K hK => ?_) AllReadyH.nil
            go_simp
            clear x_h0 x_h1 x_h2 z_h0 z_h1 z_h2 l_h
            have k_h : Blk (((U52.setCell ⟨h, 0, none⟩ (.int .i64 y.1)).setCell ⟨h, 1, none⟩ (.int .i64 y.2.1)).setCell ⟨h, 2, none⟩ (.string y.2.2)) h 27 #[.int .i64 y.1, .int .i64 y.2.1, .string y.2.2] := ((k_h.set_ 0 _).set_ 1 _).set_ 2 _
            have k_g : Blk (((U52.setCell ⟨h, 0, none⟩ (.int .i64 y.1)).setCell ⟨h, 1, none⟩ (.int .i64 y.2.1)).setCell ⟨h, 2, none⟩ (.string y.2.2)) _ _ _ := ((k_g.far (p := ⟨h, 0, none⟩) n_hg _).far (p := ⟨h, 1, none⟩) n_hg _).far (p := ⟨h, 2, none⟩) n_hg _
            have k_q : Blk (((U52.setCell ⟨h, 0, none⟩ (.int .i64 y.1)).setCell ⟨h, 1, none⟩ (.int .i64 y.2.1)).setCell ⟨h, 2, none⟩ (.string y.2.2)) _ _ _ := ((k_q.far (p := ⟨h, 0, none⟩) (by show w.heap.size ≠ h; omega) _).far (p := ⟨h, 1, none⟩) (by show w.heap.size ≠ h; omega) _).far (p := ⟨h, 2, none⟩) (by show w.heap.size ≠ h; omega) _
            have k_p : Blk (((U52.setCell ⟨h, 0, none⟩ (.int .i64 y.1)).setCell ⟨h, 1, none⟩ (.int .i64 y.2.1)).setCell ⟨h, 2, none⟩ (.string y.2.2)) _ _ _ := ((k_p.far (p := ⟨h, 0, none⟩) (by show P1 ≠ h; omega) _).far (p := ⟨h, 1, none⟩) (by show P1 ≠ h; omega) _).far (p := ⟨h, 2, none⟩) (by show P1 ≠ h; omega) _
            have k_r : Blk (((U52.setCell ⟨h, 0, none⟩ (.int .i64 y.1)).setCell ⟨h, 1, none⟩ (.int .i64 y.2.1)).setCell ⟨h, 2, none⟩ (.string y.2.2)) _ _ _ := ((k_r.far (p := ⟨h, 0, none⟩) (by show P2 ≠ h; omega) _).far (p := ⟨h, 1, none⟩) (by show P2 ≠ h; omega) _).far (p := ⟨h, 2, none⟩) (by show P2 ≠ h; omega) _
            have bb : Below w.heap.size w (((U52.setCell ⟨h, 0, none⟩ (.int .i64 y.1)).setCell ⟨h, 1, none⟩ (.int .i64 y.2.1)).setCell ⟨h, 2, none⟩ (.string y.2.2)) := ((bb.setCell (p := ⟨h, 0, none⟩) (by show _ ≤ h; omega) _).setCell (p := ⟨h, 1, none⟩) (by show _ ≤ h; omega) _).setCell (p := ⟨h, 2, none⟩) (by show _ ≤ h; omega) _
            refine hK.out _ _ ⟨by rw [k_q.cell]; rfl, by rw [k_q.cell]; rfl, by rw [k_q.cell]; rfl, by rw [k_p.cell]; rfl, by rw [k_p.cell]; rfl, by rw [k_p.cell]; rfl, by rw [k_r.cell]; rfl, by rw [k_r.cell]; rfl⟩ (fun hHeld => ?_)
            clear hK K
            generalize (((U52.setCell ⟨h, 0, none⟩ (.int .i64 y.1)).setCell ⟨h, 1, none⟩ (.int .i64 y.2.1)).setCell ⟨h, 2, none⟩ (.string y.2.2)) = U53 at *
            (try simp only [Act.put, List.setIfInBounds_toArray, List.set_cons_zero, List.set_cons_succ])
            refine wpAnyH_ready (rs := [12]) (by kernel_rfl) (by simp) ?_
            refine AllReadyH.cons rfl (fun K hK => ?_) AllReadyH.nil
            go_simp
            refine hK.out _ _ ⟨by rw [k_q.cell]; rfl, by rw [k_q.cell]; rfl, by rw [k_q.cell]; rfl, by rw [k_p.cell]; rfl, by rw [k_p.cell]; rfl, by rw [k_p.cell]; rfl, by rw [k_r.cell]; rfl, by rw [k_r.cell]; rfl⟩ (fun hHeld => ?_)
            clear hK K
            (try simp only [Act.put, List.setIfInBounds_toArray, List.set_cons_zero, List.set_cons_succ])
            refine wpAnyH_ready (rs := [13]) (by kernel_rfl) (by simp) ?_
            refine AllReadyH.cons rfl (fun K hK => ?_) AllReadyH.nil
            go_simp
            refine hK.out _ _ ⟨by rw [k_q.cell]; rfl, by rw [k_q.cell]; rfl, by rw [k_q.cell]; rfl, by rw [k_p.cell]; rfl, by rw [k_p.cell]; rfl, by rw [k_p.cell]; rfl, by rw [k_r.cell]; rfl, by rw [k_r.cell]; rfl⟩ (fun hHeld => ?_)
            clear hK K
            (try simp only [Act.put, List.setIfInBounds_toArray, List.set_cons_zero, List.set_cons_succ])
            refine wpAnyH_done (by kernel_rfl) ?_ _
            go_wp2_with fail
            go_meet
            exact ⟨g, h, rfl, rfl, rfl, rfl, ⟨bb, k_g, k_h⟩⟩
      · go_simp
        have n_q := k_r.lt
        have n_l := k_h.lt
        have k_q := k_q.alloc (.cells #[.int .i64 0, .int .i64 0, .string ⟨#[]⟩] 27)
        have k_p := k_p.alloc (.cells #[.int .i64 0, .int .i64 0, .string ⟨#[]⟩] 27)
        have k_r := k_r.alloc (.cells #[.int .i64 0, .int .i64 0, .string ⟨#[]⟩] 27)
        have k_h := k_h.alloc (.cells #[.int .i64 0, .int .i64 0, .string ⟨#[]⟩] 27)
        have k_g := Blk.new U44 27 #[.int .i64 0, .int .i64 0, .string ⟨#[]⟩]
        have bb := bb.alloc bb.size (.cells #[.int .i64 0, .int .i64 0, .string ⟨#[]⟩] 27)
        refine hK.out _ _ ⟨by rw [k_q.cell]; rfl, by rw [k_q.cell]; rfl, by rw [k_q.cell]; rfl, by rw [k_p.cell]; rfl, by rw [k_p.cell]; rfl, by rw [k_p.cell]; rfl, by rw [k_r.cell]; rfl, by rw [k_r.cell]; rfl⟩ (fun hHeld => ?_)
        clear hK K
        generalize U44.alloc (.cells #[.int .i64 0, .int .i64 0, .string ⟨#[]⟩] 27) = U54 at *
        generalize U44.heap.size = g at *
        have n_gh : h ≠ g := by omega
        have n_hg : g ≠ h := by omega
        clear n_l
        have n_gq := n_q
        clear n_q
        (try simp only [Act.put, List.setIfInBounds_toArray, List.set_cons_zero, List.set_cons_succ])
        refine wpAnyH_ready (rs := [1]) (by kernel_rfl) (by simp) ?_
        refine AllReadyH.cons rfl (fun K hK => ?_) AllReadyH.nil
        · go_simp
          go_at_call 19
          (with_reducible refine (HCA.out _ bb).mono ?_)
          rintro e U55 ⟨rfl, bq⟩
          have k_q := k_q.below bq k_q.lt
          have k_p := k_p.below bq k_p.lt
          have k_r := k_r.below bq k_r.lt
          have k_g := k_g.below bq k_g.lt
          have k_h := k_h.below bq k_h.lt
          have bb := bb.trans (bq.mono bb.size)
          clear bq
          refine hK.out _ _ ⟨by rw [k_q.cell]; rfl, by rw [k_q.cell]; rfl, by rw [k_q.cell]; rfl, by rw [k_p.cell]; rfl, by rw [k_p.cell]; rfl, by rw [k_p.cell]; rfl, by rw [k_r.cell]; rfl, by rw [k_r.cell]; rfl⟩ (fun hHeld => ?_)
          clear hK K
          (try simp only [Act.put, List.setIfInBounds_toArray, List.set_cons_zero, List.set_cons_succ])
          refine wpAnyH_ready (rs := [3]) (by kernel_rfl) (by simp) ?_
          refine AllReadyH.cons rfl (fun K hK => ?_) AllReadyH.nil
          · go_simp
            go_at_call 19
            (with_reducible refine (HCB.out _ bb).mono ?_)
            rintro e U56 ⟨rfl, bq⟩
            have k_q := k_q.below bq k_q.lt
            have k_p := k_p.below bq k_p.lt
            have k_r := k_r.below bq k_r.lt
            have k_g := k_g.below bq k_g.lt
            have k_h := k_h.below bq k_h.lt
            have bb := bb.trans (bq.mono bb.size)
            clear bq
            refine hK.out _ _ ⟨by rw [k_q.cell]; rfl, by rw [k_q.cell]; rfl, by rw [k_q.cell]; rfl, by rw [k_p.cell]; rfl, by rw [k_p.cell]; rfl, by rw [k_p.cell]; rfl, by rw [k_r.cell]; rfl, by rw [k_r.cell]; rfl⟩ (fun hHeld => ?_)
            clear hK K
            (try simp only [Act.put, List.setIfInBounds_toArray, List.set_cons_zero, List.set_cons_succ])
            have x_g0 : U56.cell? ⟨g, 0, none⟩ = some (.int .i64 0) := by rw [k_g.cell]; rfl
            have z_g0 := k_g.frozen 0
            have x_g1 : U56.cell? ⟨g, 1, none⟩ = some (.int .i64 0) := by rw [k_g.cell]; rfl
            have z_g1 := k_g.frozen 1
            have x_g2 : U56.cell? ⟨g, 2, none⟩ = some (.string ⟨#[]⟩) := by rw [k_g.cell]; rfl
            have z_g2 := k_g.frozen 2
            have l_g := k_g.lt
            refine wpAnyH_ready (rs := [10]) (by kernel_rfl) (by simp) ?_
            refine AllReadyH.cons rfl (fun K hK => ?_) AllReadyH.nil
            go_simp
            clear x_g0 x_g1 x_g2 z_g0 z_g1 z_g2 l_g
            have k_g : Blk (((U56.setCell ⟨g, 0, none⟩ (.int .i64 x.1)).setCell ⟨g, 1, none⟩ (.int .i64 x.2.1)).setCell ⟨g, 2, none⟩ (.string x.2.2)) g 27 #[.int .i64 x.1, .int .i64 x.2.1, .string x.2.2] := ((k_g.set_ 0 _).set_ 1 _).set_ 2 _
            have k_h : Blk (((U56.setCell ⟨g, 0, none⟩ (.int .i64 x.1)).setCell ⟨g, 1, none⟩ (.int .i64 x.2.1)).setCell ⟨g, 2, none⟩ (.string x.2.2)) _ _ _ := ((k_h.far (p := ⟨g, 0, none⟩) n_gh _).far (p := ⟨g, 1, none⟩) n_gh _).far (p := ⟨g, 2, none⟩) n_gh _
            have k_q : Blk (((U56.setCell ⟨g, 0, none⟩ (.int .i64 x.1)).setCell ⟨g, 1, none⟩ (.int .i64 x.2.1)).setCell ⟨g, 2, none⟩ (.string x.2.2)) _ _ _ := ((k_q.far (p := ⟨g, 0, none⟩) (by show w.heap.size ≠ g; omega) _).far (p := ⟨g, 1, none⟩) (by show w.heap.size ≠ g; omega) _).far (p := ⟨g, 2, none⟩) (by show w.heap.size ≠ g; omega) _
            have k_p : Blk (((U56.setCell ⟨g, 0, none⟩ (.int .i64 x.1)).setCell ⟨g, 1, none⟩ (.int .i64 x.2.1)).setCell ⟨g, 2, none⟩ (.string x.2.2)) _ _ _ := ((k_p.far (p := ⟨g, 0, none⟩) (by show P1 ≠ g; omega) _).far (p := ⟨g, 1, none⟩) (by show P1 ≠ g; omega) _).far (p := ⟨g, 2, none⟩) (by show P1 ≠ g; omega) _
            have k_r : Blk (((U56.setCell ⟨g, 0, none⟩ (.int .i64 x.1)).setCell ⟨g, 1, none⟩ (.int .i64 x.2.1)).setCell ⟨g, 2, none⟩ (.string x.2.2)) _ _ _ := ((k_r.far (p := ⟨g, 0, none⟩) (by show P2 ≠ g; omega) _).far (p := ⟨g, 1, none⟩) (by show P2 ≠ g; omega) _).far (p := ⟨g, 2, none⟩) (by show P2 ≠ g; omega) _
            have bb : Below w.heap.size w (((U56.setCell ⟨g, 0, none⟩ (.int .i64 x.1)).setCell ⟨g, 1, none⟩ (.int .i64 x.2.1)).setCell ⟨g, 2, none⟩ (.string x.2.2)) := ((bb.setCell (p := ⟨g, 0, none⟩) (by show _ ≤ g; omega) _).setCell (p := ⟨g, 1, none⟩) (by show _ ≤ g; omega) _).setCell (p := ⟨g, 2, none⟩) (by show _ ≤ g; omega) _
            refine hK.out _ _ ⟨by rw [k_q.cell]; rfl, by rw [k_q.cell]; rfl, by rw [k_q.cell]; rfl, by rw [k_p.cell]; rfl, by rw [k_p.cell]; rfl, by rw [k_p.cell]; rfl, by rw [k_r.cell]; rfl, by rw [k_r.cell]; rfl⟩ (fun hHeld => ?_)
            clear hK K
            generalize (((U56.setCell ⟨g, 0, none⟩ (.int .i64 x.1)).setCell ⟨g, 1, none⟩ (.int .i64 x.2.1)).setCell ⟨g, 2, none⟩ (.string x.2.2)) = U57 at *
            (try simp only [Act.put, List.setIfInBounds_toArray, List.set_cons_zero, List.set_cons_succ])
            have x_h0 : U57.cell? ⟨h, 0, none⟩ = some (.int .i64 0) := by rw [k_h.cell]; rfl
            have z_h0 := k_h.frozen 0
            have x_h1 : U57.cell? ⟨h, 1, none⟩ = some (.int .i64 0) := by rw [k_h.cell]; rfl
            have z_h1 := k_h.frozen 1
            have x_h2 : U57.cell? ⟨h, 2, none⟩ = some (.string ⟨#[]⟩) := by rw [k_h.cell]; rfl
            have z_h2 := k_h.frozen 2
            have l_h := k_h.lt
            refine wpAnyH_ready (rs := [11]) (by kernel_rfl) (by simp) ?_
            refine AllReadyH.cons rfl (fun K hK => ?_) AllReadyH.nil
            go_simp
            clear x_h0 x_h1 x_h2 z_h0 z_h1 z_h2 l_h
            have k_h : Blk (((U57.setCell ⟨h, 0, none⟩ (.int .i64 y.1)).setCell ⟨h, 1, none⟩ (.int .i64 y.2.1)).setCell ⟨h, 2, none⟩ (.string y.2.2)) h 27 #[.int .i64 y.1, .int .i64 y.2.1, .string y.2.2] := ((k_h.set_ 0 _).set_ 1 _).set_ 2 _
            have k_g : Blk (((U57.setCell ⟨h, 0, none⟩ (.int .i64 y.1)).setCell ⟨h, 1, none⟩ (.int .i64 y.2.1)).setCell ⟨h, 2, none⟩ (.string y.2.2)) _ _ _ := ((k_g.far (p := ⟨h, 0, none⟩) n_hg _).far (p := ⟨h, 1, none⟩) n_hg _).far (p := ⟨h, 2, none⟩) n_hg _
            have k_q : Blk (((U57.setCell ⟨h, 0, none⟩ (.int .i64 y.1)).setCell ⟨h, 1, none⟩ (.int .i64 y.2.1)).setCell ⟨h, 2, none⟩ (.string y.2.2)) _ _ _ := ((k_q.far (p := ⟨h, 0, none⟩) (by show w.heap.size ≠ h; omega) _).far (p := ⟨h, 1, none⟩) (by show w.heap.size ≠ h; omega) _).far (p := ⟨h, 2, none⟩) (by show w.heap.size ≠ h; omega) _
            have k_p : Blk (((U57.setCell ⟨h, 0, none⟩ (.int .i64 y.1)).setCell ⟨h, 1, none⟩ (.int .i64 y.2.1)).setCell ⟨h, 2, none⟩ (.string y.2.2)) _ _ _ := ((k_p.far (p := ⟨h, 0, none⟩) (by show P1 ≠ h; omega) _).far (p := ⟨h, 1, none⟩) (by show P1 ≠ h; omega) _).far (p := ⟨h, 2, none⟩) (by show P1 ≠ h; omega) _
            have k_r : Blk (((U57.setCell ⟨h, 0, none⟩ (.int .i64 y.1)).setCell ⟨h, 1, none⟩ (.int .i64 y.2.1)).setCell ⟨h, 2, none⟩ (.string y.2.2)) _ _ _ := ((k_r.far (p := ⟨h, 0, none⟩) (by show P2 ≠ h; omega) _).far (p := ⟨h, 1, none⟩) (by show P2 ≠ h; omega) _).far (p := ⟨h, 2, none⟩) (by show P2 ≠ h; omega) _
            have bb : Below w.heap.size w (((U57.setCell ⟨h, 0, none⟩ (.int .i64 y.1)).setCell ⟨h, 1, none⟩ (.int .i64 y.2.1)).setCell ⟨h, 2, none⟩ (.string y.2.2)) := ((bb.setCell (p := ⟨h, 0, none⟩) (by show _ ≤ h; omega) _).setCell (p := ⟨h, 1, none⟩) (by show _ ≤ h; omega) _).setCell (p := ⟨h, 2, none⟩) (by show _ ≤ h; omega) _
            refine hK.out _ _ ⟨by rw [k_q.cell]; rfl, by rw [k_q.cell]; rfl, by rw [k_q.cell]; rfl, by rw [k_p.cell]; rfl, by rw [k_p.cell]; rfl, by rw [k_p.cell]; rfl, by rw [k_r.cell]; rfl, by rw [k_r.cell]; rfl⟩ (fun hHeld => ?_)
            clear hK K
            generalize (((U57.setCell ⟨h, 0, none⟩ (.int .i64 y.1)).setCell ⟨h, 1, none⟩ (.int .i64 y.2.1)).setCell ⟨h, 2, none⟩ (.string y.2.2)) = U58 at *
            (try simp only [Act.put, List.setIfInBounds_toArray, List.set_cons_zero, List.set_cons_succ])
            refine wpAnyH_ready (rs := [12]) (by kernel_rfl) (by simp) ?_
            refine AllReadyH.cons rfl (fun K hK => ?_) AllReadyH.nil
            go_simp
            refine hK.out _ _ ⟨by rw [k_q.cell]; rfl, by rw [k_q.cell]; rfl, by rw [k_q.cell]; rfl, by rw [k_p.cell]; rfl, by rw [k_p.cell]; rfl, by rw [k_p.cell]; rfl, by rw [k_r.cell]; rfl, by rw [k_r.cell]; rfl⟩ (fun hHeld => ?_)
            clear hK K
            (try simp only [Act.put, List.setIfInBounds_toArray, List.set_cons_zero, List.set_cons_succ])
            refine wpAnyH_ready (rs := [13]) (by kernel_rfl) (by simp) ?_
            refine AllReadyH.cons rfl (fun K hK => ?_) AllReadyH.nil
            go_simp
            refine hK.out _ _ ⟨by rw [k_q.cell]; rfl, by rw [k_q.cell]; rfl, by rw [k_q.cell]; rfl, by rw [k_p.cell]; rfl, by rw [k_p.cell]; rfl, by rw [k_p.cell]; rfl, by rw [k_r.cell]; rfl, by rw [k_r.cell]; rfl⟩ (fun hHeld => ?_)
            clear hK K
            (try simp only [Act.put, List.setIfInBounds_toArray, List.set_cons_zero, List.set_cons_succ])
            refine wpAnyH_done (by kernel_rfl) ?_ _
            go_wp2_with fail
            go_meet
            exact ⟨g, h, rfl, rfl, rfl, rfl, ⟨bb, k_g, k_h⟩⟩
  case rest =>
    obtain ⟨g, h, rfl, rfl, rfl, rfl, ⟨bb, k_x, k_y⟩⟩ := hcut
    clear k_q k_p k_r
    go_wp2_with fail
    refine (new_st w wc bb).mono ?_
    rintro e w2 ⟨rfl, O1, S1, b, hO⟩
    have BX : Bx w2 O1 g _ _ := ⟨k_x.below b k_x.lt, fun hk => by have := hO _ hk; have := k_x.lt; omega⟩
    have BY : Bx w2 O1 h _ _ := ⟨k_y.below b k_y.lt, fun hk => by have := hO _ hk; have := k_y.lt; omega⟩
    clear b hO k_x k_y bb
    generalize wc.heap.size = T at *
    have x0 : w2.cell? ⟨g, 0, none⟩ = some (.int .i64 x.1) := by rw [BX.blk.cell]; rfl
    have x1 : w2.cell? ⟨g, 1, none⟩ = some (.int .i64 x.2.1) := by rw [BX.blk.cell]; rfl
    have x2 : w2.cell? ⟨g, 2, none⟩ = some (.string x.2.2) := by rw [BX.blk.cell]; rfl
    have y0 : w2.cell? ⟨h, 0, none⟩ = some (.int .i64 y.1) := by rw [BY.blk.cell]; rfl
    have y1 : w2.cell? ⟨h, 1, none⟩ = some (.int .i64 y.2.1) := by rw [BY.blk.cell]; rfl
    have y2 : w2.cell? ⟨h, 2, none⟩ = some (.string y.2.2) := by rw [BY.blk.cell]; rfl
    go_wp2_with fail
    refine (put_st T _ [] O1 x y f1 w w2 S1 hx (by simp) (by simp)).mono ?_
    rintro e w3 ⟨rfl, O2, S2, P⟩
    rw [flags_1] at S2
    have BX := BX.stp P
    have BY := BY.stp P
    clear P S1
    clear x0 x1 x2 y0 y1 y2
    have x0 : w3.cell? ⟨g, 0, none⟩ = some (.int .i64 x.1) := by rw [BX.blk.cell]; rfl
    have x1 : w3.cell? ⟨g, 1, none⟩ = some (.int .i64 x.2.1) := by rw [BX.blk.cell]; rfl
    have x2 : w3.cell? ⟨g, 2, none⟩ = some (.string x.2.2) := by rw [BX.blk.cell]; rfl
    go_wp2_with fail
    refine (put_st T _ [] O2 oK x 0 w w3 S2 (by decide) (by simp) (by simp)).mono ?_
    rintro e w4 ⟨rfl, O3, S3, P⟩
    rw [flags_2 _ _ _ ho] at S3
    have BX := BX.stp P
    have BY := BY.stp P
    clear P S2
    clear x0 x1 x2
    have x0 : w4.cell? ⟨g, 0, none⟩ = some (.int .i64 x.1) := by rw [BX.blk.cell]; rfl
    have x1 : w4.cell? ⟨g, 1, none⟩ = some (.int .i64 x.2.1) := by rw [BX.blk.cell]; rfl
    have x2 : w4.cell? ⟨g, 2, none⟩ = some (.string x.2.2) := by rw [BX.blk.cell]; rfl
    go_wp2_with fail
    refine (put_st T _ [] O3 x x f2 w w4 S3 hx (by simp) (by simp)).mono ?_
    rintro e w5 ⟨rfl, O4, S4, P⟩
    rw [flags_3 _ _ _ _ ho] at S4
    have BX := BX.stp P
    have BY := BY.stp P
    clear P S3
    clear x0 x1 x2 BY
    have x0 : w5.cell? ⟨g, 0, none⟩ = some (.int .i64 x.1) := by rw [BX.blk.cell]; rfl
    have x1 : w5.cell? ⟨g, 1, none⟩ = some (.int .i64 x.2.1) := by rw [BX.blk.cell]; rfl
    have x2 : w5.cell? ⟨g, 2, none⟩ = some (.string x.2.2) := by rw [BX.blk.cell]; rfl
    go_wp2_with fail
    refine (flags_get T _ O4 x f2 w5 S4.tab hx ho).mono ?_
    rintro e w6 ⟨rfl, b⟩
    have S5 := S4.below b
    have BX := BX.below b
    clear S4 b x0 x1 x2
    have b : Below w6.heap.size w6 (w6.alloc (SC x.1 x.2.1 x.2.2)) := (Below.refl _ _).alloc (Nat.le_refl _) _
    have S6 := S5.below b
    have BX := BX.below b
    have BV := Bx.new S5 27 #[.int .i64 x.1, .int .i64 x.2.1, .string x.2.2]
    clear S5 b
    go_upto_region 11 with fail
    generalize w6.heap.size = v at *
    generalize (w6.alloc (SC x.1 x.2.1 x.2.2)) = w7 at *
    go_wp2_with fail
    refine (cursor_st T _ _ O4 w w7 S6 (by decide)).mono ?_
    rintro e w8 ⟨rfl, O8, S8, P⟩
    rw [List.nil_append] at S8
    have BX := BX.stp P
    have BV := BV.stp P
    clear S6 P
    generalize w7.heap.size = c at *
    go_wp2_with fail
    refine (next_st c T 0 _ _ O8 w w8 S8 (by simp) (by simp) (by simp) ⟨norm x, x, f2, false⟩ rfl).mono ?_
    rintro e w9 ⟨rfl, O9, S9, P⟩
    rw [bump_1] at S9
    have BX := BX.stp P
    have BV := BV.stp P
    obtain ⟨S10, P2, BK⟩ := two_bx S9 (SC (norm x).1 (norm x).2.1 (norm x).2.2) (SC x.1 x.2.1 x.2.2)
    have BK := BK _ _ rfl
    have BX := BX.stp P2
    have BV := BV.stp P2
    clear S8 S9 P P2
    go_upto_region 13 with fail
    generalize w9.heap.size = kb at *
    generalize ((w9.alloc (SC (norm x).1 (norm x).2.1 (norm x).2.2)).alloc (SC x.1 x.2.1 x.2.2)) = w10 at *
    have x0 : w10.cell? ⟨g, 0, none⟩ = some (.int .i64 x.1) := by rw [BX.blk.cell]; rfl
    have x1 : w10.cell? ⟨g, 1, none⟩ = some (.int .i64 x.2.1) := by rw [BX.blk.cell]; rfl
    have x2 : w10.cell? ⟨g, 2, none⟩ = some (.string x.2.2) := by rw [BX.blk.cell]; rfl
    have v0 : w10.cell? ⟨v, 0, none⟩ = some (.int .i64 x.1) := by rw [BV.blk.cell]; rfl
    have v1 : w10.cell? ⟨v, 1, none⟩ = some (.int .i64 x.2.1) := by rw [BV.blk.cell]; rfl
    have v2 : w10.cell? ⟨v, 2, none⟩ = some (.string x.2.2) := by rw [BV.blk.cell]; rfl
    have k0 : w10.cell? ⟨kb, 0, none⟩ = some (.int .i64 (norm x).1) := by rw [BK.blk.cell]; rfl
    have k1 : w10.cell? ⟨kb, 1, none⟩ = some (.int .i64 (norm x).2.1) := by rw [BK.blk.cell]; rfl
    have k2 : w10.cell? ⟨kb, 2, none⟩ = some (.string (norm x).2.2) := by rw [BK.blk.cell]; rfl
    have HT := tlen_any T _ _ O9 w10 S10.tab
    have be := S10.bel
    rw [show (([⟨norm x, x, f2, false⟩, ⟨oK, x, 0, false⟩] : List Ent).length : Int) = 2 from rfl] at HT
    clear S10 BX BV BK
    by_cases h6 : x.1 = 6
    · have hz : norm x = (3, 0, ⟨#[]⟩) := by unfold norm kK kN kS; simp [h6]
      rw [hz] at k0 k1 k2
      rw [h6] at x0
      go_upto_region 14 with fail
      go_wp2_with fail
      refine HT.mono ?_
      rintro e w11 ⟨rfl, rfl⟩
      go_wp2
      go_ret
      exact ⟨by simp, be⟩
    · have hz : norm x = x := by unfold norm kK kN kS; simp [h6]
      rw [hz] at k0 k1 k2
      go_upto_region 14 with fail
      go_wp2_with fail
      refine HT.mono ?_
      rintro e w11 ⟨rfl, rfl⟩
      go_wp2
      go_ret
      exact ⟨by simp, be⟩
set_option maxHeartbeats 2000000 in
set_option maxRecDepth 100000 in
theorem flags_big (K N : Int) (a : Option Addr) (na ca : Nat) (K' N' : Int) (b : Option Addr) (nb cb : Nat) (f1 f2 : Int) (w : World) (hn : 100 < na ∨ (na ≤ 100 ∧ 100 < nb)) :
    Calls Try.prog 5 #[SeedV K N a na ca, SeedV K' N' b nb cb, .agg #[.int .i64 f1, .int .i64 f2]] w (Ret (.bool true) w) := by
  have k_q := ((Blk.new w 42 #[.int .i64 K, .int .i64 N, .slice a na ca]).alloc (.cells #[.int .i64 K', .int .i64 N', .slice b nb cb] 42)).alloc (.cells #[.int .i64 f1, .int .i64 f2] 43)
  have k_p := (Blk.new (w.alloc (.cells #[.int .i64 K, .int .i64 N, .slice a na ca] 42)) 42 #[.int .i64 K', .int .i64 N', .slice b nb cb]).alloc (.cells #[.int .i64 f1, .int .i64 f2] 43)
  have bb : Below w.heap.size w (((w.alloc (.cells #[.int .i64 K, .int .i64 N, .slice a na ca] 42)).alloc (.cells #[.int .i64 K', .int .i64 N', .slice b nb cb] 42)).alloc (.cells #[.int .i64 f1, .int .i64 f2] 43)) := (((Below.refl _ _).alloc (Nat.le_refl _) _).alloc (by simp) _).alloc (by simp; omega) _
  rw [World.size_alloc] at k_p
  go_enter Try.func5, Try.ntmps5
  go_wp2_with fail
  generalize w.heap.size + 1 + 1 = P2 at *
  generalize w.heap.size + 1 = P1 at *
  generalize (((w.alloc (.cells #[.int .i64 K, .int .i64 N, .slice a na ca] 42)).alloc (.cells #[.int .i64 K', .int .i64 N', .slice b nb cb] 42)).alloc (.cells #[.int .i64 f1, .int .i64 f2] 43)) = w0 at *
  refine (fit_any w0).mono ?_
  rintro e w1 ⟨rfl, b⟩
  have k_q := k_q.below b k_q.lt
  have k_p := k_p.below b k_p.lt
  have bb := bb.trans (b.mono bb.size)
  clear b
  have x2 : w1.cell? ⟨w.heap.size, 2, none⟩ = some (.slice a na ca) := by rw [k_q.cell]; rfl
  have x3 : w1.cell? ⟨P1, 2, none⟩ = some (.slice b nb cb) := by rw [k_p.cell]; rfl
  rcases hn with hn | ⟨hn, hm⟩
  · have hn' : (na : Int) > 100 := by omega
    go_wp2
    go_ret
    exact ⟨by simp, bb⟩
  · have hn' : ¬ ((na : Int) > 100) := by omega
    have hm' : (nb : Int) > 100 := by omega
    go_wp2
    go_ret
    exact ⟨by simp, bb⟩
theorem lowBits_63 (N : Int) : (lowBits N 63 : Int) + 1 ≠ 999 := by have := lowBits_le N 63; omega
theorem flags_said (K N : Int) (a : Option Addr) (na ca : Nat) (zs : List Int) (K' N' : Int) (b : Option Addr) (nb cb : Nat) (zt : List Int) (f1 f2 : Int) (w : World) (wK : (Lit.int .i64 K).wf = true) (wN : (Lit.int .i64 N).wf = true) (h : Tx.IsRow .u16 w a na ca zs) (wK' : (Lit.int .i64 K').wf = true) (wN' : (Lit.int .i64 N').wf = true) (h' : Tx.IsRow .u16 w b nb cb zt) :
    Calls Try.prog 5 #[SeedV K N a na ca, SeedV K' N' b nb cb, .agg #[.int .i64 f1, .int .i64 f2]] w fun e w' => e = .returned (.bool true) ∧ Below w.heap.size w w' := by
  by_cases h1 : 100 < na
  · exact flags_big K N a na ca K' N' b nb cb f1 f2 w (.inl h1)
  by_cases h2 : 100 < nb
  · exact flags_big K N a na ca K' N' b nb cb f1 f2 w (.inr ⟨by omega, h2⟩)
  obtain ⟨u, hS, hf, hlu⟩ := Tx.units_in h
  obtain ⟨l, hS', hf', hll⟩ := Tx.units_in h'
  obtain ⟨kk, hk, hK⟩ := seed_kk K
  obtain ⟨kk', hk', hK'⟩ := seed_kk K'
  refine flags_core K N a na ca K' N' b nb cb f1 f2 (kk, seedN kk N, Tx.uS (seedU kk u)) (kk', seedN kk' N', Tx.uS (seedU kk' l)) w ?_ ?_ (by omega) (by omega)
    (fun W hW => seed_any K N a na ca u kk W (Lib.hid hK) hk (hS.below hW) hf (by omega)) (fun W hW => seed_any K' N' b nb cb l kk' W (Lib.hid hK') hk' (hS'.below hW) hf' (by omega))
  · exact seed_size kk hk u (by omega)
  · intro e
    have e1 : kK (kk : Int) = 9 := congrArg Prod.fst e
    have e2 : kN (kk : Int) (seedN kk N) = 999 := congrArg (fun z => z.2.1) e
    have h9 : kk = 9 := by
      unfold kK at e1
      split at e1 <;> omega
    subst h9
    exact lowBits_63 N e2
end Go.Proofs.Ytlgnjbdkkpjjaaa
