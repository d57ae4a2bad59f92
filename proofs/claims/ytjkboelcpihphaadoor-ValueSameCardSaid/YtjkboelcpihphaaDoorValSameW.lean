/- The walk of the statement ValueSame. -/
import Derived.Test.YtjkboelcpihphaaDoorValJ
import Derived.Deep.DeepCutAuto
import Derived.Deep.RegionHeld3
import Derived.Outline
import Derived.Lib.QuietBelow
set_option linter.unusedVariables false
set_option linter.unusedSimpArgs false
namespace Go.Proofs.YtjkboelcpihphaaDoor
open Go.RowKit Go.Sort

theorem c30 {W : World} {g : Nat} {t : TypeId} {a b c : Value} (h : Blk W g t #[a, b, c]) : W.cell? ⟨g, 0, none⟩ = some a := by rw [h.cell]; rfl
theorem c31 {W : World} {g : Nat} {t : TypeId} {a b c : Value} (h : Blk W g t #[a, b, c]) : W.cell? ⟨g, 1, none⟩ = some b := by rw [h.cell]; rfl
theorem c32 {W : World} {g : Nat} {t : TypeId} {a b c : Value} (h : Blk W g t #[a, b, c]) : W.cell? ⟨g, 2, none⟩ = some c := by rw [h.cell]; rfl
/-- At blocks g and h lie two values of the call's own. -/
structure Two (w W : World) (g h : Nat) (k n : Int) (s : ByteArray) (k' n' : Int) (s' : ByteArray) : Prop where
  bel : Below w.heap.size w W
  kg : Blk W g 27 #[.int .i64 k, .int .i64 n, .string s]
  kh : Blk W h 27 #[.int .i64 k', .int .i64 n', .string s']

theorem field_k (p q : Int) (r : ByteArray) (W : World) : Sem.run Tryd.prog (Instr.field 27 (.agg #[.int .i64 p, .int .i64 q, .string r]) 0) W = .ok (.int .i64 p) W := by
  kernel_rfl
def isZ (k n : Int) : Bool := (k == 6) || ((k == 3) && (n == 0))
set_option maxHeartbeats 2000000 in
theorem szero_any (k n : Int) (s : ByteArray) (w : World) : Calls Tryd.prog 21 #[VS k n s] w (Ret (.bool (isZ k n)) w) := by
  unfold isZ
  obtain ⟨g1, hg1⟩ : ∃ b, (k == 6) = b := ⟨_, rfl⟩
  obtain ⟨g2, hg2⟩ : ∃ b, (k == 3) = b := ⟨_, rfl⟩
  obtain ⟨g3, hg3⟩ : ∃ b, (n == 0) = b := ⟨_, rfl⟩
  rw [hg1, hg2, hg3]
  cases g1 <;> cases g2
  all_goals
    go_enter Tryd.func21, Tryd.ntmps21
    go_wp2_with fail
    go_ret
    exact ⟨by simp [hg3], (Below.refl _ _).alloc (Nat.le_refl _) _⟩

set_option maxHeartbeats 8000000 in
set_option maxRecDepth 100000 in
theorem same_two (K N : Int) (a : Option Addr) (na ca : Nat) (K' N' : Int) (b : Option Addr) (nb cb : Nat) (k n : Int) (s : ByteArray) (k' n' : Int) (s' : ByteArray) (sm zx zy sz st : Bool) (p q : Int) (r : ByteArray) (p' q' : Int) (r' : ByteArray) (hx hy : Int) (w : World) (hna : na ≤ 2000) (hnb : nb ≤ 2000)
    (CF : ∀ W, Below w.heap.size w W → Calls Tryd.prog 9 #[] W (Ret (.bool true) W))
    (CA : ∀ W, Below w.heap.size w W → Calls Tryd.prog 10 #[SeedV K N a na ca] W (Ret (VS k n s) W))
    (CB : ∀ W, Below w.heap.size w W → Calls Tryd.prog 10 #[SeedV K' N' b nb cb] W (Ret (VS k' n' s') W))
    (CZ : ∀ W, Calls Tryd.prog 21 #[VS k n s] W (Ret (.bool zx) W)) (CZ' : ∀ W, Calls Tryd.prog 21 #[VS k' n' s'] W (Ret (.bool zy) W))
    (C1 : ∀ W, Calls Tryd.prog 22 #[VS k n s, VS k' n' s'] W (Ret (.bool st) W))
    (C2 : ∀ W, Calls Tryd.prog 23 #[VS k n s, VS k' n' s'] W (Ret (.bool st) W))
    (C3 : ∀ W, Calls Tryd.prog 24 #[VS k n s, VS k' n' s'] W (Ret (.bool sm) W))
    (C4 : ∀ W, Calls Tryd.prog 25 #[VS k n s, VS k' n' s'] W (Ret (.bool sz) W))
    (C5 : ∀ W, Calls Tryd.prog 26 #[VS k n s] W (Ret (.int .u32 hx) W)) (C6 : ∀ W, Calls Tryd.prog 26 #[VS k' n' s'] W (Ret (.int .u32 hy) W))
    (C7 : ∀ W, Calls Tryd.prog 27 #[VS k n s] W (Ret (VS p q r) W)) (C8 : ∀ W, Calls Tryd.prog 27 #[VS k' n' s'] W (Ret (VS p' q' r') W))
    (hsm : Hid (((k == k') && ((n == n') && (s.toList == s'.toList))) = sm)) (hsz : Hid (sz = (sm || (zx && zy)))) (hp : (p == 6) = false)
    (hK : Hid (sz = true → p' = p ∧ q' = q ∧ r' = r ∧ hy = hx)) :
    Calls Tryd.prog 6 #[SeedV K N a na ca, SeedV K' N' b nb cb] w fun e w' => e = .returned (.bool true) ∧ Below w.heap.size w w' := by
  have HCF := Lib.hid CF
  have HCA := Lib.hid CA
  have HCB := Lib.hid CB
  have HZ := Lib.hid CZ
  have HZ' := Lib.hid CZ'
  have H1 := Lib.hid C1
  have H2 := Lib.hid C2
  have H3 := Lib.hid C3
  have H4 := Lib.hid C4
  have H5 := Lib.hid C5
  have H6 := Lib.hid C6
  have H7 := Lib.hid C7
  have H8 := Lib.hid C8
  have HP := Lib.hid hp
  clear CF CA CB CZ CZ' C1 C2 C3 C4 C5 C6 C7 C8 hp
  have s1 : decide ((2000 : Int) < (na : Int)) = false := by simp; omega
  have s2 : decide ((2000 : Int) < (nb : Int)) = false := by simp; omega
  go_enter Tryd.func6, Tryd.ntmps6
  go_wp2_with fail
  have k_q := (Blk.new w 24 #[.int .i64 K, .int .i64 N, .slice a na ca]).alloc (.cells #[.int .i64 K', .int .i64 N', .slice b nb cb] 24)
  have k_p := Blk.new (w.alloc (.cells #[.int .i64 K, .int .i64 N, .slice a na ca] 24)) 24 #[.int .i64 K', .int .i64 N', .slice b nb cb]
  rw [World.size_alloc] at k_p
  have bb : Below w.heap.size w _ := (((Below.refl _ _).alloc (Nat.le_refl _) (.cells #[.int .i64 K, .int .i64 N, .slice a na ca] 24)).alloc (by simp) (.cells #[.int .i64 K', .int .i64 N', .slice b nb cb] 24))
  generalize ((w.alloc (.cells #[.int .i64 K, .int .i64 N, .slice a na ca] 24)).alloc (.cells #[.int .i64 K', .int .i64 N', .slice b nb cb] 24)) = W0 at *
  refine (HCF.out _ bb).mono ?_
  rintro e w1 ⟨rfl, b1⟩
  have k_q := k_q.below b1 k_q.lt
  have k_p := k_p.below b1 k_p.lt
  have bb := bb.trans (b1.mono bb.size)
  have x_q0 : w1.cell? ⟨w.heap.size, 0, none⟩ = some (.int .i64 K) := by rw [k_q.cell]; rfl
  have x_q1 : w1.cell? ⟨w.heap.size, 1, none⟩ = some (.int .i64 N) := by rw [k_q.cell]; rfl
  have x_q2 : w1.cell? ⟨w.heap.size, 2, none⟩ = some (.slice a na ca) := by rw [k_q.cell]; rfl
  have l_q := k_q.lt
  have x_p0 : w1.cell? ⟨w.heap.size + 1, 0, none⟩ = some (.int .i64 K') := by rw [k_p.cell]; rfl
  have x_p1 : w1.cell? ⟨w.heap.size + 1, 1, none⟩ = some (.int .i64 N') := by rw [k_p.cell]; rfl
  have x_p2 : w1.cell? ⟨w.heap.size + 1, 2, none⟩ = some (.slice b nb cb) := by rw [k_p.cell]; rfl
  have l_p := k_p.lt
  go_upto_region 5 with fail
  go_cut [5, 6] (fun s5 s6 wx => ∃ g h, s5 = .pointer (some ⟨g, 0, none⟩) ∧ s6 = .pointer (some ⟨h, 0, none⟩) ∧ Two w wx g h k n s k' n' s')
  case first =>
    have k_q := k_q.drew
    have k_p := k_p.drew
    have bb := bb.drew
    refine wp_region_held_drew (S := (fun W => W.cell? ⟨w.heap.size, 0, none⟩ = some (.int .i64 K) ∧ W.cell? ⟨w.heap.size, 1, none⟩ = some (.int .i64 N) ∧ W.cell? ⟨w.heap.size, 2, none⟩ = some (.slice a na ca) ∧ W.cell? ⟨w.heap.size + 1, 0, none⟩ = some (.int .i64 K') ∧ W.cell? ⟨w.heap.size + 1, 1, none⟩ = some (.int .i64 N') ∧ W.cell? ⟨w.heap.size + 1, 2, none⟩ = some (.slice b nb cb))) (by kernel_rfl) ⟨by rw [k_q.cell]; rfl, by rw [k_q.cell]; rfl, by rw [k_q.cell]; rfl, by rw [k_p.cell]; rfl, by rw [k_p.cell]; rfl, by rw [k_p.cell]; rfl⟩ (fun hHeld => ?_)
    generalize w1.drew = D0 at *
    refine wpAnyH_take (i := 0) (oi := ?oo900) (v := ?vv900) ?hi900 (by kernel_rfl) (by kernel_rfl) (by kernel_rfl) ?hq900 ?hy900 (by assumption) ?hh900
    case hi900 => (simp only [List.getElem?_toArray, List.getElem?_cons_succ, List.getElem?_cons_zero]; rfl)
    case hq900 => exact fun _ _ _ h => h
    case hy900 => exact Or.inl ⟨by rfl, by (intro W hSw; (try dsimp only at hSw); go_simp; (try with_reducible rfl))⟩
    (try simp only [Act.put, List.setIfInBounds_toArray, List.set_cons_zero, List.set_cons_succ])
    refine wpAnyH_take (i := 2) (oi := ?oo901) (v := ?vv901) ?hi901 (by kernel_rfl) (by kernel_rfl) (by kernel_rfl) ?hq901 ?hy901 (by assumption) ?hh901
    case hi901 => (simp only [List.getElem?_toArray, List.getElem?_cons_succ, List.getElem?_cons_zero]; rfl)
    case hq901 => exact fun _ _ _ h => h
    case hy901 => exact Or.inl ⟨by rfl, by (intro W hSw; (try dsimp only at hSw); go_simp; (try with_reducible rfl))⟩
    (try simp only [Act.put, List.setIfInBounds_toArray, List.set_cons_zero, List.set_cons_succ])
    refine wpAnyH_ready (rs := [1, 4, 5]) (by kernel_rfl) (by simp) ?_
    refine AllReadyH.cons rfl (fun K hK => ?_) (AllReadyH.cons rfl (fun K hK => ?_) (AllReadyH.cons rfl (fun K hK => ?_) AllReadyH.nil))
    · go_simp
      go_at_call 10
      (with_reducible refine (HCA.out _ bb).mono ?_)
      rintro e U1 ⟨rfl, bq⟩
      have k_q := k_q.below bq k_q.lt
      have k_p := k_p.below bq k_p.lt
      have bb := bb.trans (bq.mono bb.size)
      clear bq
      refine hK.out _ _ ⟨by rw [k_q.cell]; rfl, by rw [k_q.cell]; rfl, by rw [k_q.cell]; rfl, by rw [k_p.cell]; rfl, by rw [k_p.cell]; rfl, by rw [k_p.cell]; rfl⟩ (fun hHeld => ?_)
      clear hK K
      (try simp only [Act.put, List.setIfInBounds_toArray, List.set_cons_zero, List.set_cons_succ])
      refine wpAnyH_ready (rs := [3, 4, 5]) (by kernel_rfl) (by simp) ?_
      refine AllReadyH.cons rfl (fun K hK => ?_) (AllReadyH.cons rfl (fun K hK => ?_) (AllReadyH.cons rfl (fun K hK => ?_) AllReadyH.nil))
      · go_simp
        go_at_call 10
        (with_reducible refine (HCB.out _ bb).mono ?_)
        rintro e U2 ⟨rfl, bq⟩
        have k_q := k_q.below bq k_q.lt
        have k_p := k_p.below bq k_p.lt
        have bb := bb.trans (bq.mono bb.size)
        clear bq
        refine hK.out _ _ ⟨by rw [k_q.cell]; rfl, by rw [k_q.cell]; rfl, by rw [k_q.cell]; rfl, by rw [k_p.cell]; rfl, by rw [k_p.cell]; rfl, by rw [k_p.cell]; rfl⟩ (fun hHeld => ?_)
        clear hK K
        (try simp only [Act.put, List.setIfInBounds_toArray, List.set_cons_zero, List.set_cons_succ])
        refine wpAnyH_ready (rs := [4, 5]) (by kernel_rfl) (by simp) ?_
        refine AllReadyH.cons rfl (fun K hK => ?_) (AllReadyH.cons rfl (fun K hK => ?_) AllReadyH.nil)
        · go_simp
          have n_q := k_p.lt
          have k_q := k_q.alloc (.cells #[.int .i64 0, .int .i64 0, .string ⟨#[]⟩] 27)
          have k_p := k_p.alloc (.cells #[.int .i64 0, .int .i64 0, .string ⟨#[]⟩] 27)
          have k_g := Blk.new U2 27 #[.int .i64 0, .int .i64 0, .string ⟨#[]⟩]
          have bb := bb.alloc bb.size (.cells #[.int .i64 0, .int .i64 0, .string ⟨#[]⟩] 27)
          refine hK.out _ _ ⟨by rw [k_q.cell]; rfl, by rw [k_q.cell]; rfl, by rw [k_q.cell]; rfl, by rw [k_p.cell]; rfl, by rw [k_p.cell]; rfl, by rw [k_p.cell]; rfl⟩ (fun hHeld => ?_)
          clear hK K
          generalize U2.alloc (.cells #[.int .i64 0, .int .i64 0, .string ⟨#[]⟩] 27) = U3 at *
          generalize U2.heap.size = g at *
          have n_gq := n_q
          clear n_q
          (try simp only [Act.put, List.setIfInBounds_toArray, List.set_cons_zero, List.set_cons_succ])
          refine wpAnyH_ready (rs := [5]) (by kernel_rfl) (by simp) ?_
          refine AllReadyH.cons rfl (fun K hK => ?_) AllReadyH.nil
          · go_simp
            have n_q := k_p.lt
            have n_l := k_g.lt
            have k_q := k_q.alloc (.cells #[.int .i64 0, .int .i64 0, .string ⟨#[]⟩] 27)
            have k_p := k_p.alloc (.cells #[.int .i64 0, .int .i64 0, .string ⟨#[]⟩] 27)
            have k_g := k_g.alloc (.cells #[.int .i64 0, .int .i64 0, .string ⟨#[]⟩] 27)
            have k_h := Blk.new U3 27 #[.int .i64 0, .int .i64 0, .string ⟨#[]⟩]
            have bb := bb.alloc bb.size (.cells #[.int .i64 0, .int .i64 0, .string ⟨#[]⟩] 27)
            refine hK.out _ _ ⟨by rw [k_q.cell]; rfl, by rw [k_q.cell]; rfl, by rw [k_q.cell]; rfl, by rw [k_p.cell]; rfl, by rw [k_p.cell]; rfl, by rw [k_p.cell]; rfl⟩ (fun hHeld => ?_)
            clear hK K
            generalize U3.alloc (.cells #[.int .i64 0, .int .i64 0, .string ⟨#[]⟩] 27) = U4 at *
            generalize U3.heap.size = h at *
            have n_hg : g ≠ h := by omega
            have n_gh : h ≠ g := by omega
            clear n_l
            have n_hq := n_q
            clear n_q
            (try simp only [Act.put, List.setIfInBounds_toArray, List.set_cons_zero, List.set_cons_succ])
            have x_g0 : U4.cell? ⟨g, 0, none⟩ = some (.int .i64 0) := by rw [k_g.cell]; rfl
            have z_g0 := k_g.frozen 0
            have x_g1 : U4.cell? ⟨g, 1, none⟩ = some (.int .i64 0) := by rw [k_g.cell]; rfl
            have z_g1 := k_g.frozen 1
            have x_g2 : U4.cell? ⟨g, 2, none⟩ = some (.string ⟨#[]⟩) := by rw [k_g.cell]; rfl
            have z_g2 := k_g.frozen 2
            have l_g := k_g.lt
            refine wpAnyH_ready (rs := [6]) (by kernel_rfl) (by simp) ?_
            refine AllReadyH.cons rfl (fun K hK => ?_) AllReadyH.nil
            go_simp
            clear x_g0 x_g1 x_g2 z_g0 z_g1 z_g2 l_g
            have k_g : Blk (((U4.setCell ⟨g, 0, none⟩ (.int .i64 k)).setCell ⟨g, 1, none⟩ (.int .i64 n)).setCell ⟨g, 2, none⟩ (.string s)) g 27 #[.int .i64 k, .int .i64 n, .string s] := ((k_g.set_ 0 _).set_ 1 _).set_ 2 _
            have k_h : Blk (((U4.setCell ⟨g, 0, none⟩ (.int .i64 k)).setCell ⟨g, 1, none⟩ (.int .i64 n)).setCell ⟨g, 2, none⟩ (.string s)) _ _ _ := ((k_h.far (p := ⟨g, 0, none⟩) n_gh _).far (p := ⟨g, 1, none⟩) n_gh _).far (p := ⟨g, 2, none⟩) n_gh _
            have k_q : Blk (((U4.setCell ⟨g, 0, none⟩ (.int .i64 k)).setCell ⟨g, 1, none⟩ (.int .i64 n)).setCell ⟨g, 2, none⟩ (.string s)) _ _ _ := ((k_q.far (p := ⟨g, 0, none⟩) (by show w.heap.size ≠ g; omega) _).far (p := ⟨g, 1, none⟩) (by show w.heap.size ≠ g; omega) _).far (p := ⟨g, 2, none⟩) (by show w.heap.size ≠ g; omega) _
            have k_p : Blk (((U4.setCell ⟨g, 0, none⟩ (.int .i64 k)).setCell ⟨g, 1, none⟩ (.int .i64 n)).setCell ⟨g, 2, none⟩ (.string s)) _ _ _ := ((k_p.far (p := ⟨g, 0, none⟩) (by show w.heap.size + 1 ≠ g; omega) _).far (p := ⟨g, 1, none⟩) (by show w.heap.size + 1 ≠ g; omega) _).far (p := ⟨g, 2, none⟩) (by show w.heap.size + 1 ≠ g; omega) _
            have bb : Below w.heap.size w (((U4.setCell ⟨g, 0, none⟩ (.int .i64 k)).setCell ⟨g, 1, none⟩ (.int .i64 n)).setCell ⟨g, 2, none⟩ (.string s)) := ((bb.setCell (p := ⟨g, 0, none⟩) (by show _ ≤ g; omega) _).setCell (p := ⟨g, 1, none⟩) (by show _ ≤ g; omega) _).setCell (p := ⟨g, 2, none⟩) (by show _ ≤ g; omega) _
            refine hK.out _ _ ⟨by rw [k_q.cell]; rfl, by rw [k_q.cell]; rfl, by rw [k_q.cell]; rfl, by rw [k_p.cell]; rfl, by rw [k_p.cell]; rfl, by rw [k_p.cell]; rfl⟩ (fun hHeld => ?_)
            clear hK K
            generalize (((U4.setCell ⟨g, 0, none⟩ (.int .i64 k)).setCell ⟨g, 1, none⟩ (.int .i64 n)).setCell ⟨g, 2, none⟩ (.string s)) = U5 at *
            (try simp only [Act.put, List.setIfInBounds_toArray, List.set_cons_zero, List.set_cons_succ])
            have x_h0 : U5.cell? ⟨h, 0, none⟩ = some (.int .i64 0) := by rw [k_h.cell]; rfl
            have z_h0 := k_h.frozen 0
            have x_h1 : U5.cell? ⟨h, 1, none⟩ = some (.int .i64 0) := by rw [k_h.cell]; rfl
            have z_h1 := k_h.frozen 1
            have x_h2 : U5.cell? ⟨h, 2, none⟩ = some (.string ⟨#[]⟩) := by rw [k_h.cell]; rfl
            have z_h2 := k_h.frozen 2
            have l_h := k_h.lt
            refine wpAnyH_ready (rs := [7]) (by kernel_rfl) (by simp) ?_
            refine AllReadyH.cons rfl (fun K hK => ?_) AllReadyH.nil
            go_simp
            clear x_h0 x_h1 x_h2 z_h0 z_h1 z_h2 l_h
            have k_h : Blk (((U5.setCell ⟨h, 0, none⟩ (.int .i64 k')).setCell ⟨h, 1, none⟩ (.int .i64 n')).setCell ⟨h, 2, none⟩ (.string s')) h 27 #[.int .i64 k', .int .i64 n', .string s'] := ((k_h.set_ 0 _).set_ 1 _).set_ 2 _
            have k_g : Blk (((U5.setCell ⟨h, 0, none⟩ (.int .i64 k')).setCell ⟨h, 1, none⟩ (.int .i64 n')).setCell ⟨h, 2, none⟩ (.string s')) _ _ _ := ((k_g.far (p := ⟨h, 0, none⟩) n_hg _).far (p := ⟨h, 1, none⟩) n_hg _).far (p := ⟨h, 2, none⟩) n_hg _
            have k_q : Blk (((U5.setCell ⟨h, 0, none⟩ (.int .i64 k')).setCell ⟨h, 1, none⟩ (.int .i64 n')).setCell ⟨h, 2, none⟩ (.string s')) _ _ _ := ((k_q.far (p := ⟨h, 0, none⟩) (by show w.heap.size ≠ h; omega) _).far (p := ⟨h, 1, none⟩) (by show w.heap.size ≠ h; omega) _).far (p := ⟨h, 2, none⟩) (by show w.heap.size ≠ h; omega) _
            have k_p : Blk (((U5.setCell ⟨h, 0, none⟩ (.int .i64 k')).setCell ⟨h, 1, none⟩ (.int .i64 n')).setCell ⟨h, 2, none⟩ (.string s')) _ _ _ := ((k_p.far (p := ⟨h, 0, none⟩) (by show w.heap.size + 1 ≠ h; omega) _).far (p := ⟨h, 1, none⟩) (by show w.heap.size + 1 ≠ h; omega) _).far (p := ⟨h, 2, none⟩) (by show w.heap.size + 1 ≠ h; omega) _
            have bb : Below w.heap.size w (((U5.setCell ⟨h, 0, none⟩ (.int .i64 k')).setCell ⟨h, 1, none⟩ (.int .i64 n')).setCell ⟨h, 2, none⟩ (.string s')) := ((bb.setCell (p := ⟨h, 0, none⟩) (by show _ ≤ h; omega) _).setCell (p := ⟨h, 1, none⟩) (by show _ ≤ h; omega) _).setCell (p := ⟨h, 2, none⟩) (by show _ ≤ h; omega) _
            refine hK.out _ _ ⟨by rw [k_q.cell]; rfl, by rw [k_q.cell]; rfl, by rw [k_q.cell]; rfl, by rw [k_p.cell]; rfl, by rw [k_p.cell]; rfl, by rw [k_p.cell]; rfl⟩ (fun hHeld => ?_)
            clear hK K
            generalize (((U5.setCell ⟨h, 0, none⟩ (.int .i64 k')).setCell ⟨h, 1, none⟩ (.int .i64 n')).setCell ⟨h, 2, none⟩ (.string s')) = U6 at *
            (try simp only [Act.put, List.setIfInBounds_toArray, List.set_cons_zero, List.set_cons_succ])
            refine wpAnyH_done (by kernel_rfl) ?_ _
            go_wp2_with fail
            go_meet
            exact ⟨g, h, rfl, rfl, ⟨bb, k_g, k_h⟩⟩
        · go_simp
          have n_q := k_p.lt
          have k_q := k_q.alloc (.cells #[.int .i64 0, .int .i64 0, .string ⟨#[]⟩] 27)
          have k_p := k_p.alloc (.cells #[.int .i64 0, .int .i64 0, .string ⟨#[]⟩] 27)
          have k_h := Blk.new U2 27 #[.int .i64 0, .int .i64 0, .string ⟨#[]⟩]
          have bb := bb.alloc bb.size (.cells #[.int .i64 0, .int .i64 0, .string ⟨#[]⟩] 27)
          refine hK.out _ _ ⟨by rw [k_q.cell]; rfl, by rw [k_q.cell]; rfl, by rw [k_q.cell]; rfl, by rw [k_p.cell]; rfl, by rw [k_p.cell]; rfl, by rw [k_p.cell]; rfl⟩ (fun hHeld => ?_)
          clear hK K
          generalize U2.alloc (.cells #[.int .i64 0, .int .i64 0, .string ⟨#[]⟩] 27) = U7 at *
          generalize U2.heap.size = h at *
          have n_hq := n_q
          clear n_q
          (try simp only [Act.put, List.setIfInBounds_toArray, List.set_cons_zero, List.set_cons_succ])
          refine wpAnyH_ready (rs := [4]) (by kernel_rfl) (by simp) ?_
          refine AllReadyH.cons rfl (fun K hK => ?_) AllReadyH.nil
          · go_simp
            have n_q := k_p.lt
            have n_l := k_h.lt
            have k_q := k_q.alloc (.cells #[.int .i64 0, .int .i64 0, .string ⟨#[]⟩] 27)
            have k_p := k_p.alloc (.cells #[.int .i64 0, .int .i64 0, .string ⟨#[]⟩] 27)
            have k_h := k_h.alloc (.cells #[.int .i64 0, .int .i64 0, .string ⟨#[]⟩] 27)
            have k_g := Blk.new U7 27 #[.int .i64 0, .int .i64 0, .string ⟨#[]⟩]
            have bb := bb.alloc bb.size (.cells #[.int .i64 0, .int .i64 0, .string ⟨#[]⟩] 27)
            refine hK.out _ _ ⟨by rw [k_q.cell]; rfl, by rw [k_q.cell]; rfl, by rw [k_q.cell]; rfl, by rw [k_p.cell]; rfl, by rw [k_p.cell]; rfl, by rw [k_p.cell]; rfl⟩ (fun hHeld => ?_)
            clear hK K
            generalize U7.alloc (.cells #[.int .i64 0, .int .i64 0, .string ⟨#[]⟩] 27) = U8 at *
            generalize U7.heap.size = g at *
            have n_gh : h ≠ g := by omega
            have n_hg : g ≠ h := by omega
            clear n_l
            have n_gq := n_q
            clear n_q
            (try simp only [Act.put, List.setIfInBounds_toArray, List.set_cons_zero, List.set_cons_succ])
            have x_g0 : U8.cell? ⟨g, 0, none⟩ = some (.int .i64 0) := by rw [k_g.cell]; rfl
            have z_g0 := k_g.frozen 0
            have x_g1 : U8.cell? ⟨g, 1, none⟩ = some (.int .i64 0) := by rw [k_g.cell]; rfl
            have z_g1 := k_g.frozen 1
            have x_g2 : U8.cell? ⟨g, 2, none⟩ = some (.string ⟨#[]⟩) := by rw [k_g.cell]; rfl
            have z_g2 := k_g.frozen 2
            have l_g := k_g.lt
            refine wpAnyH_ready (rs := [6]) (by kernel_rfl) (by simp) ?_
            refine AllReadyH.cons rfl (fun K hK => ?_) AllReadyH.nil
            go_simp
            clear x_g0 x_g1 x_g2 z_g0 z_g1 z_g2 l_g
            have k_g : Blk (((U8.setCell ⟨g, 0, none⟩ (.int .i64 k)).setCell ⟨g, 1, none⟩ (.int .i64 n)).setCell ⟨g, 2, none⟩ (.string s)) g 27 #[.int .i64 k, .int .i64 n, .string s] := ((k_g.set_ 0 _).set_ 1 _).set_ 2 _
            have k_h : Blk (((U8.setCell ⟨g, 0, none⟩ (.int .i64 k)).setCell ⟨g, 1, none⟩ (.int .i64 n)).setCell ⟨g, 2, none⟩ (.string s)) _ _ _ := ((k_h.far (p := ⟨g, 0, none⟩) n_gh _).far (p := ⟨g, 1, none⟩) n_gh _).far (p := ⟨g, 2, none⟩) n_gh _
            have k_q : Blk (((U8.setCell ⟨g, 0, none⟩ (.int .i64 k)).setCell ⟨g, 1, none⟩ (.int .i64 n)).setCell ⟨g, 2, none⟩ (.string s)) _ _ _ := ((k_q.far (p := ⟨g, 0, none⟩) (by show w.heap.size ≠ g; omega) _).far (p := ⟨g, 1, none⟩) (by show w.heap.size ≠ g; omega) _).far (p := ⟨g, 2, none⟩) (by show w.heap.size ≠ g; omega) _
            have k_p : Blk (((U8.setCell ⟨g, 0, none⟩ (.int .i64 k)).setCell ⟨g, 1, none⟩ (.int .i64 n)).setCell ⟨g, 2, none⟩ (.string s)) _ _ _ := ((k_p.far (p := ⟨g, 0, none⟩) (by show w.heap.size + 1 ≠ g; omega) _).far (p := ⟨g, 1, none⟩) (by show w.heap.size + 1 ≠ g; omega) _).far (p := ⟨g, 2, none⟩) (by show w.heap.size + 1 ≠ g; omega) _
            have bb : Below w.heap.size w (((U8.setCell ⟨g, 0, none⟩ (.int .i64 k)).setCell ⟨g, 1, none⟩ (.int .i64 n)).setCell ⟨g, 2, none⟩ (.string s)) := ((bb.setCell (p := ⟨g, 0, none⟩) (by show _ ≤ g; omega) _).setCell (p := ⟨g, 1, none⟩) (by show _ ≤ g; omega) _).setCell (p := ⟨g, 2, none⟩) (by show _ ≤ g; omega) _
            refine hK.out _ _ ⟨by rw [k_q.cell]; rfl, by rw [k_q.cell]; rfl, by rw [k_q.cell]; rfl, by rw [k_p.cell]; rfl, by rw [k_p.cell]; rfl, by rw [k_p.cell]; rfl⟩ (fun hHeld => ?_)
            clear hK K
            generalize (((U8.setCell ⟨g, 0, none⟩ (.int .i64 k)).setCell ⟨g, 1, none⟩ (.int .i64 n)).setCell ⟨g, 2, none⟩ (.string s)) = U9 at *
            (try simp only [Act.put, List.setIfInBounds_toArray, List.set_cons_zero, List.set_cons_succ])
            have x_h0 : U9.cell? ⟨h, 0, none⟩ = some (.int .i64 0) := by rw [k_h.cell]; rfl
            have z_h0 := k_h.frozen 0
            have x_h1 : U9.cell? ⟨h, 1, none⟩ = some (.int .i64 0) := by rw [k_h.cell]; rfl
            have z_h1 := k_h.frozen 1
            have x_h2 : U9.cell? ⟨h, 2, none⟩ = some (.string ⟨#[]⟩) := by rw [k_h.cell]; rfl
            have z_h2 := k_h.frozen 2
            have l_h := k_h.lt
            refine wpAnyH_ready (rs := [7]) (by kernel_rfl) (by simp) ?_
            refine AllReadyH.cons rfl (fun K hK => ?_) AllReadyH.nil
            go_simp
            clear x_h0 x_h1 x_h2 z_h0 z_h1 z_h2 l_h
            have k_h : Blk (((U9.setCell ⟨h, 0, none⟩ (.int .i64 k')).setCell ⟨h, 1, none⟩ (.int .i64 n')).setCell ⟨h, 2, none⟩ (.string s')) h 27 #[.int .i64 k', .int .i64 n', .string s'] := ((k_h.set_ 0 _).set_ 1 _).set_ 2 _
            have k_g : Blk (((U9.setCell ⟨h, 0, none⟩ (.int .i64 k')).setCell ⟨h, 1, none⟩ (.int .i64 n')).setCell ⟨h, 2, none⟩ (.string s')) _ _ _ := ((k_g.far (p := ⟨h, 0, none⟩) n_hg _).far (p := ⟨h, 1, none⟩) n_hg _).far (p := ⟨h, 2, none⟩) n_hg _
            have k_q : Blk (((U9.setCell ⟨h, 0, none⟩ (.int .i64 k')).setCell ⟨h, 1, none⟩ (.int .i64 n')).setCell ⟨h, 2, none⟩ (.string s')) _ _ _ := ((k_q.far (p := ⟨h, 0, none⟩) (by show w.heap.size ≠ h; omega) _).far (p := ⟨h, 1, none⟩) (by show w.heap.size ≠ h; omega) _).far (p := ⟨h, 2, none⟩) (by show w.heap.size ≠ h; omega) _
            have k_p : Blk (((U9.setCell ⟨h, 0, none⟩ (.int .i64 k')).setCell ⟨h, 1, none⟩ (.int .i64 n')).setCell ⟨h, 2, none⟩ (.string s')) _ _ _ := ((k_p.far (p := ⟨h, 0, none⟩) (by show w.heap.size + 1 ≠ h; omega) _).far (p := ⟨h, 1, none⟩) (by show w.heap.size + 1 ≠ h; omega) _).far (p := ⟨h, 2, none⟩) (by show w.heap.size + 1 ≠ h; omega) _
            have bb : Below w.heap.size w (((U9.setCell ⟨h, 0, none⟩ (.int .i64 k')).setCell ⟨h, 1, none⟩ (.int .i64 n')).setCell ⟨h, 2, none⟩ (.string s')) := ((bb.setCell (p := ⟨h, 0, none⟩) (by show _ ≤ h; omega) _).setCell (p := ⟨h, 1, none⟩) (by show _ ≤ h; omega) _).setCell (p := ⟨h, 2, none⟩) (by show _ ≤ h; omega) _
            refine hK.out _ _ ⟨by rw [k_q.cell]; rfl, by rw [k_q.cell]; rfl, by rw [k_q.cell]; rfl, by rw [k_p.cell]; rfl, by rw [k_p.cell]; rfl, by rw [k_p.cell]; rfl⟩ (fun hHeld => ?_)
            clear hK K
            generalize (((U9.setCell ⟨h, 0, none⟩ (.int .i64 k')).setCell ⟨h, 1, none⟩ (.int .i64 n')).setCell ⟨h, 2, none⟩ (.string s')) = U10 at *
            (try simp only [Act.put, List.setIfInBounds_toArray, List.set_cons_zero, List.set_cons_succ])
            refine wpAnyH_done (by kernel_rfl) ?_ _
            go_wp2_with fail
            go_meet
            exact ⟨g, h, rfl, rfl, ⟨bb, k_g, k_h⟩⟩
      · go_simp
        have n_q := k_p.lt
        have k_q := k_q.alloc (.cells #[.int .i64 0, .int .i64 0, .string ⟨#[]⟩] 27)
        have k_p := k_p.alloc (.cells #[.int .i64 0, .int .i64 0, .string ⟨#[]⟩] 27)
        have k_g := Blk.new U1 27 #[.int .i64 0, .int .i64 0, .string ⟨#[]⟩]
        have bb := bb.alloc bb.size (.cells #[.int .i64 0, .int .i64 0, .string ⟨#[]⟩] 27)
        refine hK.out _ _ ⟨by rw [k_q.cell]; rfl, by rw [k_q.cell]; rfl, by rw [k_q.cell]; rfl, by rw [k_p.cell]; rfl, by rw [k_p.cell]; rfl, by rw [k_p.cell]; rfl⟩ (fun hHeld => ?_)
        clear hK K
        generalize U1.alloc (.cells #[.int .i64 0, .int .i64 0, .string ⟨#[]⟩] 27) = U11 at *
        generalize U1.heap.size = g at *
        have n_gq := n_q
        clear n_q
        (try simp only [Act.put, List.setIfInBounds_toArray, List.set_cons_zero, List.set_cons_succ])
        refine wpAnyH_ready (rs := [3, 5]) (by kernel_rfl) (by simp) ?_
        refine AllReadyH.cons rfl (fun K hK => ?_) (AllReadyH.cons rfl (fun K hK => ?_) AllReadyH.nil)
        · go_simp
          go_at_call 10
          (with_reducible refine (HCB.out _ bb).mono ?_)
          rintro e U12 ⟨rfl, bq⟩
          have k_q := k_q.below bq k_q.lt
          have k_p := k_p.below bq k_p.lt
          have k_g := k_g.below bq k_g.lt
          have bb := bb.trans (bq.mono bb.size)
          clear bq
          refine hK.out _ _ ⟨by rw [k_q.cell]; rfl, by rw [k_q.cell]; rfl, by rw [k_q.cell]; rfl, by rw [k_p.cell]; rfl, by rw [k_p.cell]; rfl, by rw [k_p.cell]; rfl⟩ (fun hHeld => ?_)
          clear hK K
          (try simp only [Act.put, List.setIfInBounds_toArray, List.set_cons_zero, List.set_cons_succ])
          refine wpAnyH_ready (rs := [5]) (by kernel_rfl) (by simp) ?_
          refine AllReadyH.cons rfl (fun K hK => ?_) AllReadyH.nil
          · go_simp
            have n_q := k_p.lt
            have n_l := k_g.lt
            have k_q := k_q.alloc (.cells #[.int .i64 0, .int .i64 0, .string ⟨#[]⟩] 27)
            have k_p := k_p.alloc (.cells #[.int .i64 0, .int .i64 0, .string ⟨#[]⟩] 27)
            have k_g := k_g.alloc (.cells #[.int .i64 0, .int .i64 0, .string ⟨#[]⟩] 27)
            have k_h := Blk.new U12 27 #[.int .i64 0, .int .i64 0, .string ⟨#[]⟩]
            have bb := bb.alloc bb.size (.cells #[.int .i64 0, .int .i64 0, .string ⟨#[]⟩] 27)
            refine hK.out _ _ ⟨by rw [k_q.cell]; rfl, by rw [k_q.cell]; rfl, by rw [k_q.cell]; rfl, by rw [k_p.cell]; rfl, by rw [k_p.cell]; rfl, by rw [k_p.cell]; rfl⟩ (fun hHeld => ?_)
            clear hK K
            generalize U12.alloc (.cells #[.int .i64 0, .int .i64 0, .string ⟨#[]⟩] 27) = U13 at *
            generalize U12.heap.size = h at *
            have n_hg : g ≠ h := by omega
            have n_gh : h ≠ g := by omega
            clear n_l
            have n_hq := n_q
            clear n_q
            (try simp only [Act.put, List.setIfInBounds_toArray, List.set_cons_zero, List.set_cons_succ])
            have x_g0 : U13.cell? ⟨g, 0, none⟩ = some (.int .i64 0) := by rw [k_g.cell]; rfl
            have z_g0 := k_g.frozen 0
            have x_g1 : U13.cell? ⟨g, 1, none⟩ = some (.int .i64 0) := by rw [k_g.cell]; rfl
            have z_g1 := k_g.frozen 1
            have x_g2 : U13.cell? ⟨g, 2, none⟩ = some (.string ⟨#[]⟩) := by rw [k_g.cell]; rfl
            have z_g2 := k_g.frozen 2
            have l_g := k_g.lt
            refine wpAnyH_ready (rs := [6]) (by kernel_rfl) (by simp) ?_
            refine AllReadyH.cons rfl (fun K hK => ?_) AllReadyH.nil
            go_simp
            clear x_g0 x_g1 x_g2 z_g0 z_g1 z_g2 l_g
            have k_g : Blk (((U13.setCell ⟨g, 0, none⟩ (.int .i64 k)).setCell ⟨g, 1, none⟩ (.int .i64 n)).setCell ⟨g, 2, none⟩ (.string s)) g 27 #[.int .i64 k, .int .i64 n, .string s] := ((k_g.set_ 0 _).set_ 1 _).set_ 2 _
            have k_h : Blk (((U13.setCell ⟨g, 0, none⟩ (.int .i64 k)).setCell ⟨g, 1, none⟩ (.int .i64 n)).setCell ⟨g, 2, none⟩ (.string s)) _ _ _ := ((k_h.far (p := ⟨g, 0, none⟩) n_gh _).far (p := ⟨g, 1, none⟩) n_gh _).far (p := ⟨g, 2, none⟩) n_gh _
            have k_q : Blk (((U13.setCell ⟨g, 0, none⟩ (.int .i64 k)).setCell ⟨g, 1, none⟩ (.int .i64 n)).setCell ⟨g, 2, none⟩ (.string s)) _ _ _ := ((k_q.far (p := ⟨g, 0, none⟩) (by show w.heap.size ≠ g; omega) _).far (p := ⟨g, 1, none⟩) (by show w.heap.size ≠ g; omega) _).far (p := ⟨g, 2, none⟩) (by show w.heap.size ≠ g; omega) _
            have k_p : Blk (((U13.setCell ⟨g, 0, none⟩ (.int .i64 k)).setCell ⟨g, 1, none⟩ (.int .i64 n)).setCell ⟨g, 2, none⟩ (.string s)) _ _ _ := ((k_p.far (p := ⟨g, 0, none⟩) (by show w.heap.size + 1 ≠ g; omega) _).far (p := ⟨g, 1, none⟩) (by show w.heap.size + 1 ≠ g; omega) _).far (p := ⟨g, 2, none⟩) (by show w.heap.size + 1 ≠ g; omega) _
            have bb : Below w.heap.size w (((U13.setCell ⟨g, 0, none⟩ (.int .i64 k)).setCell ⟨g, 1, none⟩ (.int .i64 n)).setCell ⟨g, 2, none⟩ (.string s)) := ((bb.setCell (p := ⟨g, 0, none⟩) (by show _ ≤ g; omega) _).setCell (p := ⟨g, 1, none⟩) (by show _ ≤ g; omega) _).setCell (p := ⟨g, 2, none⟩) (by show _ ≤ g; omega) _
            refine hK.out _ _ ⟨by rw [k_q.cell]; rfl, by rw [k_q.cell]; rfl, by rw [k_q.cell]; rfl, by rw [k_p.cell]; rfl, by rw [k_p.cell]; rfl, by rw [k_p.cell]; rfl⟩ (fun hHeld => ?_)
            clear hK K
            generalize (((U13.setCell ⟨g, 0, none⟩ (.int .i64 k)).setCell ⟨g, 1, none⟩ (.int .i64 n)).setCell ⟨g, 2, none⟩ (.string s)) = U14 at *
            (try simp only [Act.put, List.setIfInBounds_toArray, List.set_cons_zero, List.set_cons_succ])
            have x_h0 : U14.cell? ⟨h, 0, none⟩ = some (.int .i64 0) := by rw [k_h.cell]; rfl
            have z_h0 := k_h.frozen 0
            have x_h1 : U14.cell? ⟨h, 1, none⟩ = some (.int .i64 0) := by rw [k_h.cell]; rfl
            have z_h1 := k_h.frozen 1
            have x_h2 : U14.cell? ⟨h, 2, none⟩ = some (.string ⟨#[]⟩) := by rw [k_h.cell]; rfl
            have z_h2 := k_h.frozen 2
            have l_h := k_h.lt
            refine wpAnyH_ready (rs := [7]) (by kernel_rfl) (by simp) ?_
            refine AllReadyH.cons rfl (fun K hK => ?_) AllReadyH.nil
            go_simp
            clear x_h0 x_h1 x_h2 z_h0 z_h1 z_h2 l_h
            have k_h : Blk (((U14.setCell ⟨h, 0, none⟩ (.int .i64 k')).setCell ⟨h, 1, none⟩ (.int .i64 n')).setCell ⟨h, 2, none⟩ (.string s')) h 27 #[.int .i64 k', .int .i64 n', .string s'] := ((k_h.set_ 0 _).set_ 1 _).set_ 2 _
            have k_g : Blk (((U14.setCell ⟨h, 0, none⟩ (.int .i64 k')).setCell ⟨h, 1, none⟩ (.int .i64 n')).setCell ⟨h, 2, none⟩ (.string s')) _ _ _ := ((k_g.far (p := ⟨h, 0, none⟩) n_hg _).far (p := ⟨h, 1, none⟩) n_hg _).far (p := ⟨h, 2, none⟩) n_hg _
            have k_q : Blk (((U14.setCell ⟨h, 0, none⟩ (.int .i64 k')).setCell ⟨h, 1, none⟩ (.int .i64 n')).setCell ⟨h, 2, none⟩ (.string s')) _ _ _ := ((k_q.far (p := ⟨h, 0, none⟩) (by show w.heap.size ≠ h; omega) _).far (p := ⟨h, 1, none⟩) (by show w.heap.size ≠ h; omega) _).far (p := ⟨h, 2, none⟩) (by show w.heap.size ≠ h; omega) _
            have k_p : Blk (((U14.setCell ⟨h, 0, none⟩ (.int .i64 k')).setCell ⟨h, 1, none⟩ (.int .i64 n')).setCell ⟨h, 2, none⟩ (.string s')) _ _ _ := ((k_p.far (p := ⟨h, 0, none⟩) (by show w.heap.size + 1 ≠ h; omega) _).far (p := ⟨h, 1, none⟩) (by show w.heap.size + 1 ≠ h; omega) _).far (p := ⟨h, 2, none⟩) (by show w.heap.size + 1 ≠ h; omega) _
            have bb : Below w.heap.size w (((U14.setCell ⟨h, 0, none⟩ (.int .i64 k')).setCell ⟨h, 1, none⟩ (.int .i64 n')).setCell ⟨h, 2, none⟩ (.string s')) := ((bb.setCell (p := ⟨h, 0, none⟩) (by show _ ≤ h; omega) _).setCell (p := ⟨h, 1, none⟩) (by show _ ≤ h; omega) _).setCell (p := ⟨h, 2, none⟩) (by show _ ≤ h; omega) _
            refine hK.out _ _ ⟨by rw [k_q.cell]; rfl, by rw [k_q.cell]; rfl, by rw [k_q.cell]; rfl, by rw [k_p.cell]; rfl, by rw [k_p.cell]; rfl, by rw [k_p.cell]; rfl⟩ (fun hHeld => ?_)
            clear hK K
            generalize (((U14.setCell ⟨h, 0, none⟩ (.int .i64 k')).setCell ⟨h, 1, none⟩ (.int .i64 n')).setCell ⟨h, 2, none⟩ (.string s')) = U15 at *
            (try simp only [Act.put, List.setIfInBounds_toArray, List.set_cons_zero, List.set_cons_succ])
            refine wpAnyH_done (by kernel_rfl) ?_ _
            go_wp2_with fail
            go_meet
            exact ⟨g, h, rfl, rfl, ⟨bb, k_g, k_h⟩⟩
        · go_simp
          have n_q := k_p.lt
          have n_l := k_g.lt
          have k_q := k_q.alloc (.cells #[.int .i64 0, .int .i64 0, .string ⟨#[]⟩] 27)
          have k_p := k_p.alloc (.cells #[.int .i64 0, .int .i64 0, .string ⟨#[]⟩] 27)
          have k_g := k_g.alloc (.cells #[.int .i64 0, .int .i64 0, .string ⟨#[]⟩] 27)
          have k_h := Blk.new U11 27 #[.int .i64 0, .int .i64 0, .string ⟨#[]⟩]
          have bb := bb.alloc bb.size (.cells #[.int .i64 0, .int .i64 0, .string ⟨#[]⟩] 27)
          refine hK.out _ _ ⟨by rw [k_q.cell]; rfl, by rw [k_q.cell]; rfl, by rw [k_q.cell]; rfl, by rw [k_p.cell]; rfl, by rw [k_p.cell]; rfl, by rw [k_p.cell]; rfl⟩ (fun hHeld => ?_)
          clear hK K
          generalize U11.alloc (.cells #[.int .i64 0, .int .i64 0, .string ⟨#[]⟩] 27) = U16 at *
          generalize U11.heap.size = h at *
          have n_hg : g ≠ h := by omega
          have n_gh : h ≠ g := by omega
          clear n_l
          have n_hq := n_q
          clear n_q
          (try simp only [Act.put, List.setIfInBounds_toArray, List.set_cons_zero, List.set_cons_succ])
          refine wpAnyH_ready (rs := [3]) (by kernel_rfl) (by simp) ?_
          refine AllReadyH.cons rfl (fun K hK => ?_) AllReadyH.nil
          · go_simp
            go_at_call 10
            (with_reducible refine (HCB.out _ bb).mono ?_)
            rintro e U17 ⟨rfl, bq⟩
            have k_q := k_q.below bq k_q.lt
            have k_p := k_p.below bq k_p.lt
            have k_g := k_g.below bq k_g.lt
            have k_h := k_h.below bq k_h.lt
            have bb := bb.trans (bq.mono bb.size)
            clear bq
            refine hK.out _ _ ⟨by rw [k_q.cell]; rfl, by rw [k_q.cell]; rfl, by rw [k_q.cell]; rfl, by rw [k_p.cell]; rfl, by rw [k_p.cell]; rfl, by rw [k_p.cell]; rfl⟩ (fun hHeld => ?_)
            clear hK K
            (try simp only [Act.put, List.setIfInBounds_toArray, List.set_cons_zero, List.set_cons_succ])
            have x_g0 : U17.cell? ⟨g, 0, none⟩ = some (.int .i64 0) := by rw [k_g.cell]; rfl
            have z_g0 := k_g.frozen 0
            have x_g1 : U17.cell? ⟨g, 1, none⟩ = some (.int .i64 0) := by rw [k_g.cell]; rfl
            have z_g1 := k_g.frozen 1
            have x_g2 : U17.cell? ⟨g, 2, none⟩ = some (.string ⟨#[]⟩) := by rw [k_g.cell]; rfl
            have z_g2 := k_g.frozen 2
            have l_g := k_g.lt
            refine wpAnyH_ready (rs := [6]) (by kernel_rfl) (by simp) ?_
            refine AllReadyH.cons rfl (fun K hK => ?_) AllReadyH.nil
            go_simp
            clear x_g0 x_g1 x_g2 z_g0 z_g1 z_g2 l_g
            have k_g : Blk (((U17.setCell ⟨g, 0, none⟩ (.int .i64 k)).setCell ⟨g, 1, none⟩ (.int .i64 n)).setCell ⟨g, 2, none⟩ (.string s)) g 27 #[.int .i64 k, .int .i64 n, .string s] := ((k_g.set_ 0 _).set_ 1 _).set_ 2 _
            have k_h : Blk (((U17.setCell ⟨g, 0, none⟩ (.int .i64 k)).setCell ⟨g, 1, none⟩ (.int .i64 n)).setCell ⟨g, 2, none⟩ (.string s)) _ _ _ := ((k_h.far (p := ⟨g, 0, none⟩) n_gh _).far (p := ⟨g, 1, none⟩) n_gh _).far (p := ⟨g, 2, none⟩) n_gh _
            have k_q : Blk (((U17.setCell ⟨g, 0, none⟩ (.int .i64 k)).setCell ⟨g, 1, none⟩ (.int .i64 n)).setCell ⟨g, 2, none⟩ (.string s)) _ _ _ := ((k_q.far (p := ⟨g, 0, none⟩) (by show w.heap.size ≠ g; omega) _).far (p := ⟨g, 1, none⟩) (by show w.heap.size ≠ g; omega) _).far (p := ⟨g, 2, none⟩) (by show w.heap.size ≠ g; omega) _
            have k_p : Blk (((U17.setCell ⟨g, 0, none⟩ (.int .i64 k)).setCell ⟨g, 1, none⟩ (.int .i64 n)).setCell ⟨g, 2, none⟩ (.string s)) _ _ _ := ((k_p.far (p := ⟨g, 0, none⟩) (by show w.heap.size + 1 ≠ g; omega) _).far (p := ⟨g, 1, none⟩) (by show w.heap.size + 1 ≠ g; omega) _).far (p := ⟨g, 2, none⟩) (by show w.heap.size + 1 ≠ g; omega) _
            have bb : Below w.heap.size w (((U17.setCell ⟨g, 0, none⟩ (.int .i64 k)).setCell ⟨g, 1, none⟩ (.int .i64 n)).setCell ⟨g, 2, none⟩ (.string s)) := ((bb.setCell (p := ⟨g, 0, none⟩) (by show _ ≤ g; omega) _).setCell (p := ⟨g, 1, none⟩) (by show _ ≤ g; omega) _).setCell (p := ⟨g, 2, none⟩) (by show _ ≤ g; omega) _
            refine hK.out _ _ ⟨by rw [k_q.cell]; rfl, by rw [k_q.cell]; rfl, by rw [k_q.cell]; rfl, by rw [k_p.cell]; rfl, by rw [k_p.cell]; rfl, by rw [k_p.cell]; rfl⟩ (fun hHeld => ?_)
            clear hK K
            generalize (((U17.setCell ⟨g, 0, none⟩ (.int .i64 k)).setCell ⟨g, 1, none⟩ (.int .i64 n)).setCell ⟨g, 2, none⟩ (.string s)) = U18 at *
            (try simp only [Act.put, List.setIfInBounds_toArray, List.set_cons_zero, List.set_cons_succ])
            have x_h0 : U18.cell? ⟨h, 0, none⟩ = some (.int .i64 0) := by rw [k_h.cell]; rfl
            have z_h0 := k_h.frozen 0
            have x_h1 : U18.cell? ⟨h, 1, none⟩ = some (.int .i64 0) := by rw [k_h.cell]; rfl
            have z_h1 := k_h.frozen 1
            have x_h2 : U18.cell? ⟨h, 2, none⟩ = some (.string ⟨#[]⟩) := by rw [k_h.cell]; rfl
            have z_h2 := k_h.frozen 2
            have l_h := k_h.lt
            refine wpAnyH_ready (rs := [7]) (by kernel_rfl) (by simp) ?_
            refine AllReadyH.cons rfl (fun K hK => ?_) AllReadyH.nil
            go_simp
            clear x_h0 x_h1 x_h2 z_h0 z_h1 z_h2 l_h
            have k_h : Blk (((U18.setCell ⟨h, 0, none⟩ (.int .i64 k')).setCell ⟨h, 1, none⟩ (.int .i64 n')).setCell ⟨h, 2, none⟩ (.string s')) h 27 #[.int .i64 k', .int .i64 n', .string s'] := ((k_h.set_ 0 _).set_ 1 _).set_ 2 _
            have k_g : Blk (((U18.setCell ⟨h, 0, none⟩ (.int .i64 k')).setCell ⟨h, 1, none⟩ (.int .i64 n')).setCell ⟨h, 2, none⟩ (.string s')) _ _ _ := ((k_g.far (p := ⟨h, 0, none⟩) n_hg _).far (p := ⟨h, 1, none⟩) n_hg _).far (p := ⟨h, 2, none⟩) n_hg _
            have k_q : Blk (((U18.setCell ⟨h, 0, none⟩ (.int .i64 k')).setCell ⟨h, 1, none⟩ (.int .i64 n')).setCell ⟨h, 2, none⟩ (.string s')) _ _ _ := ((k_q.far (p := ⟨h, 0, none⟩) (by show w.heap.size ≠ h; omega) _).far (p := ⟨h, 1, none⟩) (by show w.heap.size ≠ h; omega) _).far (p := ⟨h, 2, none⟩) (by show w.heap.size ≠ h; omega) _
            have k_p : Blk (((U18.setCell ⟨h, 0, none⟩ (.int .i64 k')).setCell ⟨h, 1, none⟩ (.int .i64 n')).setCell ⟨h, 2, none⟩ (.string s')) _ _ _ := ((k_p.far (p := ⟨h, 0, none⟩) (by show w.heap.size + 1 ≠ h; omega) _).far (p := ⟨h, 1, none⟩) (by show w.heap.size + 1 ≠ h; omega) _).far (p := ⟨h, 2, none⟩) (by show w.heap.size + 1 ≠ h; omega) _
            have bb : Below w.heap.size w (((U18.setCell ⟨h, 0, none⟩ (.int .i64 k')).setCell ⟨h, 1, none⟩ (.int .i64 n')).setCell ⟨h, 2, none⟩ (.string s')) := ((bb.setCell (p := ⟨h, 0, none⟩) (by show _ ≤ h; omega) _).setCell (p := ⟨h, 1, none⟩) (by show _ ≤ h; omega) _).setCell (p := ⟨h, 2, none⟩) (by show _ ≤ h; omega) _
            refine hK.out _ _ ⟨by rw [k_q.cell]; rfl, by rw [k_q.cell]; rfl, by rw [k_q.cell]; rfl, by rw [k_p.cell]; rfl, by rw [k_p.cell]; rfl, by rw [k_p.cell]; rfl⟩ (fun hHeld => ?_)
            clear hK K
            generalize (((U18.setCell ⟨h, 0, none⟩ (.int .i64 k')).setCell ⟨h, 1, none⟩ (.int .i64 n')).setCell ⟨h, 2, none⟩ (.string s')) = U19 at *
            (try simp only [Act.put, List.setIfInBounds_toArray, List.set_cons_zero, List.set_cons_succ])
            refine wpAnyH_done (by kernel_rfl) ?_ _
            go_wp2_with fail
            go_meet
            exact ⟨g, h, rfl, rfl, ⟨bb, k_g, k_h⟩⟩
      · go_simp
        have n_q := k_p.lt
        have k_q := k_q.alloc (.cells #[.int .i64 0, .int .i64 0, .string ⟨#[]⟩] 27)
        have k_p := k_p.alloc (.cells #[.int .i64 0, .int .i64 0, .string ⟨#[]⟩] 27)
        have k_h := Blk.new U1 27 #[.int .i64 0, .int .i64 0, .string ⟨#[]⟩]
        have bb := bb.alloc bb.size (.cells #[.int .i64 0, .int .i64 0, .string ⟨#[]⟩] 27)
        refine hK.out _ _ ⟨by rw [k_q.cell]; rfl, by rw [k_q.cell]; rfl, by rw [k_q.cell]; rfl, by rw [k_p.cell]; rfl, by rw [k_p.cell]; rfl, by rw [k_p.cell]; rfl⟩ (fun hHeld => ?_)
        clear hK K
        generalize U1.alloc (.cells #[.int .i64 0, .int .i64 0, .string ⟨#[]⟩] 27) = U20 at *
        generalize U1.heap.size = h at *
        have n_hq := n_q
        clear n_q
        (try simp only [Act.put, List.setIfInBounds_toArray, List.set_cons_zero, List.set_cons_succ])
        refine wpAnyH_ready (rs := [3, 4]) (by kernel_rfl) (by simp) ?_
        refine AllReadyH.cons rfl (fun K hK => ?_) (AllReadyH.cons rfl (fun K hK => ?_) AllReadyH.nil)
        · go_simp
          go_at_call 10
          (with_reducible refine (HCB.out _ bb).mono ?_)
          rintro e U21 ⟨rfl, bq⟩
          have k_q := k_q.below bq k_q.lt
          have k_p := k_p.below bq k_p.lt
          have k_h := k_h.below bq k_h.lt
          have bb := bb.trans (bq.mono bb.size)
          clear bq
          refine hK.out _ _ ⟨by rw [k_q.cell]; rfl, by rw [k_q.cell]; rfl, by rw [k_q.cell]; rfl, by rw [k_p.cell]; rfl, by rw [k_p.cell]; rfl, by rw [k_p.cell]; rfl⟩ (fun hHeld => ?_)
          clear hK K
          (try simp only [Act.put, List.setIfInBounds_toArray, List.set_cons_zero, List.set_cons_succ])
          refine wpAnyH_ready (rs := [4]) (by kernel_rfl) (by simp) ?_
          refine AllReadyH.cons rfl (fun K hK => ?_) AllReadyH.nil
          · go_simp
            have n_q := k_p.lt
            have n_l := k_h.lt
            have k_q := k_q.alloc (.cells #[.int .i64 0, .int .i64 0, .string ⟨#[]⟩] 27)
            have k_p := k_p.alloc (.cells #[.int .i64 0, .int .i64 0, .string ⟨#[]⟩] 27)
            have k_h := k_h.alloc (.cells #[.int .i64 0, .int .i64 0, .string ⟨#[]⟩] 27)
            have k_g := Blk.new U21 27 #[.int .i64 0, .int .i64 0, .string ⟨#[]⟩]
            have bb := bb.alloc bb.size (.cells #[.int .i64 0, .int .i64 0, .string ⟨#[]⟩] 27)
            refine hK.out _ _ ⟨by rw [k_q.cell]; rfl, by rw [k_q.cell]; rfl, by rw [k_q.cell]; rfl, by rw [k_p.cell]; rfl, by rw [k_p.cell]; rfl, by rw [k_p.cell]; rfl⟩ (fun hHeld => ?_)
            clear hK K
            generalize U21.alloc (.cells #[.int .i64 0, .int .i64 0, .string ⟨#[]⟩] 27) = U22 at *
            generalize U21.heap.size = g at *
            have n_gh : h ≠ g := by omega
            have n_hg : g ≠ h := by omega
            clear n_l
            have n_gq := n_q
            clear n_q
            (try simp only [Act.put, List.setIfInBounds_toArray, List.set_cons_zero, List.set_cons_succ])
            have x_g0 : U22.cell? ⟨g, 0, none⟩ = some (.int .i64 0) := by rw [k_g.cell]; rfl
            have z_g0 := k_g.frozen 0
            have x_g1 : U22.cell? ⟨g, 1, none⟩ = some (.int .i64 0) := by rw [k_g.cell]; rfl
            have z_g1 := k_g.frozen 1
            have x_g2 : U22.cell? ⟨g, 2, none⟩ = some (.string ⟨#[]⟩) := by rw [k_g.cell]; rfl
            have z_g2 := k_g.frozen 2
            have l_g := k_g.lt
            refine wpAnyH_ready (rs := [6]) (by kernel_rfl) (by simp) ?_
            refine AllReadyH.cons rfl (fun K hK => ?_) AllReadyH.nil
            go_simp
            clear x_g0 x_g1 x_g2 z_g0 z_g1 z_g2 l_g
            have k_g : Blk (((U22.setCell ⟨g, 0, none⟩ (.int .i64 k)).setCell ⟨g, 1, none⟩ (.int .i64 n)).setCell ⟨g, 2, none⟩ (.string s)) g 27 #[.int .i64 k, .int .i64 n, .string s] := ((k_g.set_ 0 _).set_ 1 _).set_ 2 _
            have k_h : Blk (((U22.setCell ⟨g, 0, none⟩ (.int .i64 k)).setCell ⟨g, 1, none⟩ (.int .i64 n)).setCell ⟨g, 2, none⟩ (.string s)) _ _ _ := ((k_h.far (p := ⟨g, 0, none⟩) n_gh _).far (p := ⟨g, 1, none⟩) n_gh _).far (p := ⟨g, 2, none⟩) n_gh _
            have k_q : Blk (((U22.setCell ⟨g, 0, none⟩ (.int .i64 k)).setCell ⟨g, 1, none⟩ (.int .i64 n)).setCell ⟨g, 2, none⟩ (.string s)) _ _ _ := ((k_q.far (p := ⟨g, 0, none⟩) (by show w.heap.size ≠ g; omega) _).far (p := ⟨g, 1, none⟩) (by show w.heap.size ≠ g; omega) _).far (p := ⟨g, 2, none⟩) (by show w.heap.size ≠ g; omega) _
            have k_p : Blk (((U22.setCell ⟨g, 0, none⟩ (.int .i64 k)).setCell ⟨g, 1, none⟩ (.int .i64 n)).setCell ⟨g, 2, none⟩ (.string s)) _ _ _ := ((k_p.far (p := ⟨g, 0, none⟩) (by show w.heap.size + 1 ≠ g; omega) _).far (p := ⟨g, 1, none⟩) (by show w.heap.size + 1 ≠ g; omega) _).far (p := ⟨g, 2, none⟩) (by show w.heap.size + 1 ≠ g; omega) _
            have bb : Below w.heap.size w (((U22.setCell ⟨g, 0, none⟩ (.int .i64 k)).setCell ⟨g, 1, none⟩ (.int .i64 n)).setCell ⟨g, 2, none⟩ (.string s)) := ((bb.setCell (p := ⟨g, 0, none⟩) (by show _ ≤ g; omega) _).setCell (p := ⟨g, 1, none⟩) (by show _ ≤ g; omega) _).setCell (p := ⟨g, 2, none⟩) (by show _ ≤ g; omega) _
            refine hK.out _ _ ⟨by rw [k_q.cell]; rfl, by rw [k_q.cell]; rfl, by rw [k_q.cell]; rfl, by rw [k_p.cell]; rfl, by rw [k_p.cell]; rfl, by rw [k_p.cell]; rfl⟩ (fun hHeld => ?_)
            clear hK K
            generalize (((U22.setCell ⟨g, 0, none⟩ (.int .i64 k)).setCell ⟨g, 1, none⟩ (.int .i64 n)).setCell ⟨g, 2, none⟩ (.string s)) = U23 at *
            (try simp only [Act.put, List.setIfInBounds_toArray, List.set_cons_zero, List.set_cons_succ])
            have x_h0 : U23.cell? ⟨h, 0, none⟩ = some (.int .i64 0) := by rw [k_h.cell]; rfl
            have z_h0 := k_h.frozen 0
            have x_h1 : U23.cell? ⟨h, 1, none⟩ = some (.int .i64 0) := by rw [k_h.cell]; rfl
            have z_h1 := k_h.frozen 1
            have x_h2 : U23.cell? ⟨h, 2, none⟩ = some (.string ⟨#[]⟩) := by rw [k_h.cell]; rfl
            have z_h2 := k_h.frozen 2
            have l_h := k_h.lt
            refine wpAnyH_ready (rs := [7]) (by kernel_rfl) (by simp) ?_
            refine AllReadyH.cons rfl (fun K hK => ?_) AllReadyH.nil
            go_simp
            clear x_h0 x_h1 x_h2 z_h0 z_h1 z_h2 l_h
            have k_h : Blk (((U23.setCell ⟨h, 0, none⟩ (.int .i64 k')).setCell ⟨h, 1, none⟩ (.int .i64 n')).setCell ⟨h, 2, none⟩ (.string s')) h 27 #[.int .i64 k', .int .i64 n', .string s'] := ((k_h.set_ 0 _).set_ 1 _).set_ 2 _
            have k_g : Blk (((U23.setCell ⟨h, 0, none⟩ (.int .i64 k')).setCell ⟨h, 1, none⟩ (.int .i64 n')).setCell ⟨h, 2, none⟩ (.string s')) _ _ _ := ((k_g.far (p := ⟨h, 0, none⟩) n_hg _).far (p := ⟨h, 1, none⟩) n_hg _).far (p := ⟨h, 2, none⟩) n_hg _
            have k_q : Blk (((U23.setCell ⟨h, 0, none⟩ (.int .i64 k')).setCell ⟨h, 1, none⟩ (.int .i64 n')).setCell ⟨h, 2, none⟩ (.string s')) _ _ _ := ((k_q.far (p := ⟨h, 0, none⟩) (by show w.heap.size ≠ h; omega) _).far (p := ⟨h, 1, none⟩) (by show w.heap.size ≠ h; omega) _).far (p := ⟨h, 2, none⟩) (by show w.heap.size ≠ h; omega) _
            have k_p : Blk (((U23.setCell ⟨h, 0, none⟩ (.int .i64 k')).setCell ⟨h, 1, none⟩ (.int .i64 n')).setCell ⟨h, 2, none⟩ (.string s')) _ _ _ := ((k_p.far (p := ⟨h, 0, none⟩) (by show w.heap.size + 1 ≠ h; omega) _).far (p := ⟨h, 1, none⟩) (by show w.heap.size + 1 ≠ h; omega) _).far (p := ⟨h, 2, none⟩) (by show w.heap.size + 1 ≠ h; omega) _
            have bb : Below w.heap.size w (((U23.setCell ⟨h, 0, none⟩ (.int .i64 k')).setCell ⟨h, 1, none⟩ (.int .i64 n')).setCell ⟨h, 2, none⟩ (.string s')) := ((bb.setCell (p := ⟨h, 0, none⟩) (by show _ ≤ h; omega) _).setCell (p := ⟨h, 1, none⟩) (by show _ ≤ h; omega) _).setCell (p := ⟨h, 2, none⟩) (by show _ ≤ h; omega) _
            refine hK.out _ _ ⟨by rw [k_q.cell]; rfl, by rw [k_q.cell]; rfl, by rw [k_q.cell]; rfl, by rw [k_p.cell]; rfl, by rw [k_p.cell]; rfl, by rw [k_p.cell]; rfl⟩ (fun hHeld => ?_)
            clear hK K
            generalize (((U23.setCell ⟨h, 0, none⟩ (.int .i64 k')).setCell ⟨h, 1, none⟩ (.int .i64 n')).setCell ⟨h, 2, none⟩ (.string s')) = U24 at *
            (try simp only [Act.put, List.setIfInBounds_toArray, List.set_cons_zero, List.set_cons_succ])
            refine wpAnyH_done (by kernel_rfl) ?_ _
            go_wp2_with fail
            go_meet
            exact ⟨g, h, rfl, rfl, ⟨bb, k_g, k_h⟩⟩
        · go_simp
          have n_q := k_p.lt
          have n_l := k_h.lt
          have k_q := k_q.alloc (.cells #[.int .i64 0, .int .i64 0, .string ⟨#[]⟩] 27)
          have k_p := k_p.alloc (.cells #[.int .i64 0, .int .i64 0, .string ⟨#[]⟩] 27)
          have k_h := k_h.alloc (.cells #[.int .i64 0, .int .i64 0, .string ⟨#[]⟩] 27)
          have k_g := Blk.new U20 27 #[.int .i64 0, .int .i64 0, .string ⟨#[]⟩]
          have bb := bb.alloc bb.size (.cells #[.int .i64 0, .int .i64 0, .string ⟨#[]⟩] 27)
          refine hK.out _ _ ⟨by rw [k_q.cell]; rfl, by rw [k_q.cell]; rfl, by rw [k_q.cell]; rfl, by rw [k_p.cell]; rfl, by rw [k_p.cell]; rfl, by rw [k_p.cell]; rfl⟩ (fun hHeld => ?_)
          clear hK K
          generalize U20.alloc (.cells #[.int .i64 0, .int .i64 0, .string ⟨#[]⟩] 27) = U25 at *
          generalize U20.heap.size = g at *
          have n_gh : h ≠ g := by omega
          have n_hg : g ≠ h := by omega
          clear n_l
          have n_gq := n_q
          clear n_q
          (try simp only [Act.put, List.setIfInBounds_toArray, List.set_cons_zero, List.set_cons_succ])
          refine wpAnyH_ready (rs := [3]) (by kernel_rfl) (by simp) ?_
          refine AllReadyH.cons rfl (fun K hK => ?_) AllReadyH.nil
          · go_simp
            go_at_call 10
            (with_reducible refine (HCB.out _ bb).mono ?_)
            rintro e U26 ⟨rfl, bq⟩
            have k_q := k_q.below bq k_q.lt
            have k_p := k_p.below bq k_p.lt
            have k_g := k_g.below bq k_g.lt
            have k_h := k_h.below bq k_h.lt
            have bb := bb.trans (bq.mono bb.size)
            clear bq
            refine hK.out _ _ ⟨by rw [k_q.cell]; rfl, by rw [k_q.cell]; rfl, by rw [k_q.cell]; rfl, by rw [k_p.cell]; rfl, by rw [k_p.cell]; rfl, by rw [k_p.cell]; rfl⟩ (fun hHeld => ?_)
            clear hK K
            (try simp only [Act.put, List.setIfInBounds_toArray, List.set_cons_zero, List.set_cons_succ])
            have x_g0 : U26.cell? ⟨g, 0, none⟩ = some (.int .i64 0) := by rw [k_g.cell]; rfl
            have z_g0 := k_g.frozen 0
            have x_g1 : U26.cell? ⟨g, 1, none⟩ = some (.int .i64 0) := by rw [k_g.cell]; rfl
            have z_g1 := k_g.frozen 1
            have x_g2 : U26.cell? ⟨g, 2, none⟩ = some (.string ⟨#[]⟩) := by rw [k_g.cell]; rfl
            have z_g2 := k_g.frozen 2
            have l_g := k_g.lt
            refine wpAnyH_ready (rs := [6]) (by kernel_rfl) (by simp) ?_
            refine AllReadyH.cons rfl (fun K hK => ?_) AllReadyH.nil
            go_simp
            clear x_g0 x_g1 x_g2 z_g0 z_g1 z_g2 l_g
            have k_g : Blk (((U26.setCell ⟨g, 0, none⟩ (.int .i64 k)).setCell ⟨g, 1, none⟩ (.int .i64 n)).setCell ⟨g, 2, none⟩ (.string s)) g 27 #[.int .i64 k, .int .i64 n, .string s] := ((k_g.set_ 0 _).set_ 1 _).set_ 2 _
            have k_h : Blk (((U26.setCell ⟨g, 0, none⟩ (.int .i64 k)).setCell ⟨g, 1, none⟩ (.int .i64 n)).setCell ⟨g, 2, none⟩ (.string s)) _ _ _ := ((k_h.far (p := ⟨g, 0, none⟩) n_gh _).far (p := ⟨g, 1, none⟩) n_gh _).far (p := ⟨g, 2, none⟩) n_gh _
            have k_q : Blk (((U26.setCell ⟨g, 0, none⟩ (.int .i64 k)).setCell ⟨g, 1, none⟩ (.int .i64 n)).setCell ⟨g, 2, none⟩ (.string s)) _ _ _ := ((k_q.far (p := ⟨g, 0, none⟩) (by show w.heap.size ≠ g; omega) _).far (p := ⟨g, 1, none⟩) (by show w.heap.size ≠ g; omega) _).far (p := ⟨g, 2, none⟩) (by show w.heap.size ≠ g; omega) _
            have k_p : Blk (((U26.setCell ⟨g, 0, none⟩ (.int .i64 k)).setCell ⟨g, 1, none⟩ (.int .i64 n)).setCell ⟨g, 2, none⟩ (.string s)) _ _ _ := ((k_p.far (p := ⟨g, 0, none⟩) (by show w.heap.size + 1 ≠ g; omega) _).far (p := ⟨g, 1, none⟩) (by show w.heap.size + 1 ≠ g; omega) _).far (p := ⟨g, 2, none⟩) (by show w.heap.size + 1 ≠ g; omega) _
            have bb : Below w.heap.size w (((U26.setCell ⟨g, 0, none⟩ (.int .i64 k)).setCell ⟨g, 1, none⟩ (.int .i64 n)).setCell ⟨g, 2, none⟩ (.string s)) := ((bb.setCell (p := ⟨g, 0, none⟩) (by show _ ≤ g; omega) _).setCell (p := ⟨g, 1, none⟩) (by show _ ≤ g; omega) _).setCell (p := ⟨g, 2, none⟩) (by show _ ≤ g; omega) _
            refine hK.out _ _ ⟨by rw [k_q.cell]; rfl, by rw [k_q.cell]; rfl, by rw [k_q.cell]; rfl, by rw [k_p.cell]; rfl, by rw [k_p.cell]; rfl, by rw [k_p.cell]; rfl⟩ (fun hHeld => ?_)
            clear hK K
            generalize (((U26.setCell ⟨g, 0, none⟩ (.int .i64 k)).setCell ⟨g, 1, none⟩ (.int .i64 n)).setCell ⟨g, 2, none⟩ (.string s)) = U27 at *
            (try simp only [Act.put, List.setIfInBounds_toArray, List.set_cons_zero, List.set_cons_succ])
            have x_h0 : U27.cell? ⟨h, 0, none⟩ = some (.int .i64 0) := by rw [k_h.cell]; rfl
            have z_h0 := k_h.frozen 0
            have x_h1 : U27.cell? ⟨h, 1, none⟩ = some (.int .i64 0) := by rw [k_h.cell]; rfl
            have z_h1 := k_h.frozen 1
            have x_h2 : U27.cell? ⟨h, 2, none⟩ = some (.string ⟨#[]⟩) := by rw [k_h.cell]; rfl
            have z_h2 := k_h.frozen 2
            have l_h := k_h.lt
            refine wpAnyH_ready (rs := [7]) (by kernel_rfl) (by simp) ?_
            refine AllReadyH.cons rfl (fun K hK => ?_) AllReadyH.nil
            go_simp
            clear x_h0 x_h1 x_h2 z_h0 z_h1 z_h2 l_h
            have k_h : Blk (((U27.setCell ⟨h, 0, none⟩ (.int .i64 k')).setCell ⟨h, 1, none⟩ (.int .i64 n')).setCell ⟨h, 2, none⟩ (.string s')) h 27 #[.int .i64 k', .int .i64 n', .string s'] := ((k_h.set_ 0 _).set_ 1 _).set_ 2 _
            have k_g : Blk (((U27.setCell ⟨h, 0, none⟩ (.int .i64 k')).setCell ⟨h, 1, none⟩ (.int .i64 n')).setCell ⟨h, 2, none⟩ (.string s')) _ _ _ := ((k_g.far (p := ⟨h, 0, none⟩) n_hg _).far (p := ⟨h, 1, none⟩) n_hg _).far (p := ⟨h, 2, none⟩) n_hg _
            have k_q : Blk (((U27.setCell ⟨h, 0, none⟩ (.int .i64 k')).setCell ⟨h, 1, none⟩ (.int .i64 n')).setCell ⟨h, 2, none⟩ (.string s')) _ _ _ := ((k_q.far (p := ⟨h, 0, none⟩) (by show w.heap.size ≠ h; omega) _).far (p := ⟨h, 1, none⟩) (by show w.heap.size ≠ h; omega) _).far (p := ⟨h, 2, none⟩) (by show w.heap.size ≠ h; omega) _
            have k_p : Blk (((U27.setCell ⟨h, 0, none⟩ (.int .i64 k')).setCell ⟨h, 1, none⟩ (.int .i64 n')).setCell ⟨h, 2, none⟩ (.string s')) _ _ _ := ((k_p.far (p := ⟨h, 0, none⟩) (by show w.heap.size + 1 ≠ h; omega) _).far (p := ⟨h, 1, none⟩) (by show w.heap.size + 1 ≠ h; omega) _).far (p := ⟨h, 2, none⟩) (by show w.heap.size + 1 ≠ h; omega) _
            have bb : Below w.heap.size w (((U27.setCell ⟨h, 0, none⟩ (.int .i64 k')).setCell ⟨h, 1, none⟩ (.int .i64 n')).setCell ⟨h, 2, none⟩ (.string s')) := ((bb.setCell (p := ⟨h, 0, none⟩) (by show _ ≤ h; omega) _).setCell (p := ⟨h, 1, none⟩) (by show _ ≤ h; omega) _).setCell (p := ⟨h, 2, none⟩) (by show _ ≤ h; omega) _
            refine hK.out _ _ ⟨by rw [k_q.cell]; rfl, by rw [k_q.cell]; rfl, by rw [k_q.cell]; rfl, by rw [k_p.cell]; rfl, by rw [k_p.cell]; rfl, by rw [k_p.cell]; rfl⟩ (fun hHeld => ?_)
            clear hK K
            generalize (((U27.setCell ⟨h, 0, none⟩ (.int .i64 k')).setCell ⟨h, 1, none⟩ (.int .i64 n')).setCell ⟨h, 2, none⟩ (.string s')) = U28 at *
            (try simp only [Act.put, List.setIfInBounds_toArray, List.set_cons_zero, List.set_cons_succ])
            refine wpAnyH_done (by kernel_rfl) ?_ _
            go_wp2_with fail
            go_meet
            exact ⟨g, h, rfl, rfl, ⟨bb, k_g, k_h⟩⟩
    · go_simp
      have n_q := k_p.lt
      have k_q := k_q.alloc (.cells #[.int .i64 0, .int .i64 0, .string ⟨#[]⟩] 27)
      have k_p := k_p.alloc (.cells #[.int .i64 0, .int .i64 0, .string ⟨#[]⟩] 27)
      have k_g := Blk.new D0 27 #[.int .i64 0, .int .i64 0, .string ⟨#[]⟩]
      have bb := bb.alloc bb.size (.cells #[.int .i64 0, .int .i64 0, .string ⟨#[]⟩] 27)
      refine hK.out _ _ ⟨by rw [k_q.cell]; rfl, by rw [k_q.cell]; rfl, by rw [k_q.cell]; rfl, by rw [k_p.cell]; rfl, by rw [k_p.cell]; rfl, by rw [k_p.cell]; rfl⟩ (fun hHeld => ?_)
      clear hK K
      generalize D0.alloc (.cells #[.int .i64 0, .int .i64 0, .string ⟨#[]⟩] 27) = U29 at *
      generalize D0.heap.size = g at *
      have n_gq := n_q
      clear n_q
      (try simp only [Act.put, List.setIfInBounds_toArray, List.set_cons_zero, List.set_cons_succ])
      refine wpAnyH_ready (rs := [1, 5]) (by kernel_rfl) (by simp) ?_
      refine AllReadyH.cons rfl (fun K hK => ?_) (AllReadyH.cons rfl (fun K hK => ?_) AllReadyH.nil)
      · go_simp
        go_at_call 10
        (with_reducible refine (HCA.out _ bb).mono ?_)
        rintro e U30 ⟨rfl, bq⟩
        have k_q := k_q.below bq k_q.lt
        have k_p := k_p.below bq k_p.lt
        have k_g := k_g.below bq k_g.lt
        have bb := bb.trans (bq.mono bb.size)
        clear bq
        refine hK.out _ _ ⟨by rw [k_q.cell]; rfl, by rw [k_q.cell]; rfl, by rw [k_q.cell]; rfl, by rw [k_p.cell]; rfl, by rw [k_p.cell]; rfl, by rw [k_p.cell]; rfl⟩ (fun hHeld => ?_)
        clear hK K
        (try simp only [Act.put, List.setIfInBounds_toArray, List.set_cons_zero, List.set_cons_succ])
        refine wpAnyH_ready (rs := [3, 5]) (by kernel_rfl) (by simp) ?_
        refine AllReadyH.cons rfl (fun K hK => ?_) (AllReadyH.cons rfl (fun K hK => ?_) AllReadyH.nil)
        · go_simp
          go_at_call 10
          (with_reducible refine (HCB.out _ bb).mono ?_)
          rintro e U31 ⟨rfl, bq⟩
          have k_q := k_q.below bq k_q.lt
          have k_p := k_p.below bq k_p.lt
          have k_g := k_g.below bq k_g.lt
          have bb := bb.trans (bq.mono bb.size)
          clear bq
          refine hK.out _ _ ⟨by rw [k_q.cell]; rfl, by rw [k_q.cell]; rfl, by rw [k_q.cell]; rfl, by rw [k_p.cell]; rfl, by rw [k_p.cell]; rfl, by rw [k_p.cell]; rfl⟩ (fun hHeld => ?_)
          clear hK K
          (try simp only [Act.put, List.setIfInBounds_toArray, List.set_cons_zero, List.set_cons_succ])
          refine wpAnyH_ready (rs := [5]) (by kernel_rfl) (by simp) ?_
          refine AllReadyH.cons rfl (fun K hK => ?_) AllReadyH.nil
          · go_simp
            have n_q := k_p.lt
            have n_l := k_g.lt
            have k_q := k_q.alloc (.cells #[.int .i64 0, .int .i64 0, .string ⟨#[]⟩] 27)
            have k_p := k_p.alloc (.cells #[.int .i64 0, .int .i64 0, .string ⟨#[]⟩] 27)
            have k_g := k_g.alloc (.cells #[.int .i64 0, .int .i64 0, .string ⟨#[]⟩] 27)
            have k_h := Blk.new U31 27 #[.int .i64 0, .int .i64 0, .string ⟨#[]⟩]
            have bb := bb.alloc bb.size (.cells #[.int .i64 0, .int .i64 0, .string ⟨#[]⟩] 27)
            refine hK.out _ _ ⟨by rw [k_q.cell]; rfl, by rw [k_q.cell]; rfl, by rw [k_q.cell]; rfl, by rw [k_p.cell]; rfl, by rw [k_p.cell]; rfl, by rw [k_p.cell]; rfl⟩ (fun hHeld => ?_)
            clear hK K
            generalize U31.alloc (.cells #[.int .i64 0, .int .i64 0, .string ⟨#[]⟩] 27) = U32 at *
            generalize U31.heap.size = h at *
            have n_hg : g ≠ h := by omega
            have n_gh : h ≠ g := by omega
            clear n_l
            have n_hq := n_q
            clear n_q
            (try simp only [Act.put, List.setIfInBounds_toArray, List.set_cons_zero, List.set_cons_succ])
            have x_g0 : U32.cell? ⟨g, 0, none⟩ = some (.int .i64 0) := by rw [k_g.cell]; rfl
            have z_g0 := k_g.frozen 0
            have x_g1 : U32.cell? ⟨g, 1, none⟩ = some (.int .i64 0) := by rw [k_g.cell]; rfl
            have z_g1 := k_g.frozen 1
            have x_g2 : U32.cell? ⟨g, 2, none⟩ = some (.string ⟨#[]⟩) := by rw [k_g.cell]; rfl
            have z_g2 := k_g.frozen 2
            have l_g := k_g.lt
            refine wpAnyH_ready (rs := [6]) (by kernel_rfl) (by simp) ?_
            refine AllReadyH.cons rfl (fun K hK => ?_) AllReadyH.nil
            go_simp
            clear x_g0 x_g1 x_g2 z_g0 z_g1 z_g2 l_g
            have k_g : Blk (((U32.setCell ⟨g, 0, none⟩ (.int .i64 k)).setCell ⟨g, 1, none⟩ (.int .i64 n)).setCell ⟨g, 2, none⟩ (.string s)) g 27 #[.int .i64 k, .int .i64 n, .string s] := ((k_g.set_ 0 _).set_ 1 _).set_ 2 _
            have k_h : Blk (((U32.setCell ⟨g, 0, none⟩ (.int .i64 k)).setCell ⟨g, 1, none⟩ (.int .i64 n)).setCell ⟨g, 2, none⟩ (.string s)) _ _ _ := ((k_h.far (p := ⟨g, 0, none⟩) n_gh _).far (p := ⟨g, 1, none⟩) n_gh _).far (p := ⟨g, 2, none⟩) n_gh _
            have k_q : Blk (((U32.setCell ⟨g, 0, none⟩ (.int .i64 k)).setCell ⟨g, 1, none⟩ (.int .i64 n)).setCell ⟨g, 2, none⟩ (.string s)) _ _ _ := ((k_q.far (p := ⟨g, 0, none⟩) (by show w.heap.size ≠ g; omega) _).far (p := ⟨g, 1, none⟩) (by show w.heap.size ≠ g; omega) _).far (p := ⟨g, 2, none⟩) (by show w.heap.size ≠ g; omega) _
            have k_p : Blk (((U32.setCell ⟨g, 0, none⟩ (.int .i64 k)).setCell ⟨g, 1, none⟩ (.int .i64 n)).setCell ⟨g, 2, none⟩ (.string s)) _ _ _ := ((k_p.far (p := ⟨g, 0, none⟩) (by show w.heap.size + 1 ≠ g; omega) _).far (p := ⟨g, 1, none⟩) (by show w.heap.size + 1 ≠ g; omega) _).far (p := ⟨g, 2, none⟩) (by show w.heap.size + 1 ≠ g; omega) _
            have bb : Below w.heap.size w (((U32.setCell ⟨g, 0, none⟩ (.int .i64 k)).setCell ⟨g, 1, none⟩ (.int .i64 n)).setCell ⟨g, 2, none⟩ (.string s)) := ((bb.setCell (p := ⟨g, 0, none⟩) (by show _ ≤ g; omega) _).setCell (p := ⟨g, 1, none⟩) (by show _ ≤ g; omega) _).setCell (p := ⟨g, 2, none⟩) (by show _ ≤ g; omega) _
            refine hK.out _ _ ⟨by rw [k_q.cell]; rfl, by rw [k_q.cell]; rfl, by rw [k_q.cell]; rfl, by rw [k_p.cell]; rfl, by rw [k_p.cell]; rfl, by rw [k_p.cell]; rfl⟩ (fun hHeld => ?_)
            clear hK K
            generalize (((U32.setCell ⟨g, 0, none⟩ (.int .i64 k)).setCell ⟨g, 1, none⟩ (.int .i64 n)).setCell ⟨g, 2, none⟩ (.string s)) = U33 at *
            (try simp only [Act.put, List.setIfInBounds_toArray, List.set_cons_zero, List.set_cons_succ])
            have x_h0 : U33.cell? ⟨h, 0, none⟩ = some (.int .i64 0) := by rw [k_h.cell]; rfl
            have z_h0 := k_h.frozen 0
            have x_h1 : U33.cell? ⟨h, 1, none⟩ = some (.int .i64 0) := by rw [k_h.cell]; rfl
            have z_h1 := k_h.frozen 1
            have x_h2 : U33.cell? ⟨h, 2, none⟩ = some (.string ⟨#[]⟩) := by rw [k_h.cell]; rfl
            have z_h2 := k_h.frozen 2
            have l_h := k_h.lt
            refine wpAnyH_ready (rs := [7]) (by kernel_rfl) (by simp) ?_
            refine AllReadyH.cons rfl (fun K hK => ?_) AllReadyH.nil
            go_simp
            clear x_h0 x_h1 x_h2 z_h0 z_h1 z_h2 l_h
            have k_h : Blk (((U33.setCell ⟨h, 0, none⟩ (.int .i64 k')).setCell ⟨h, 1, none⟩ (.int .i64 n')).setCell ⟨h, 2, none⟩ (.string s')) h 27 #[.int .i64 k', .int .i64 n', .string s'] := ((k_h.set_ 0 _).set_ 1 _).set_ 2 _
            have k_g : Blk (((U33.setCell ⟨h, 0, none⟩ (.int .i64 k')).setCell ⟨h, 1, none⟩ (.int .i64 n')).setCell ⟨h, 2, none⟩ (.string s')) _ _ _ := ((k_g.far (p := ⟨h, 0, none⟩) n_hg _).far (p := ⟨h, 1, none⟩) n_hg _).far (p := ⟨h, 2, none⟩) n_hg _
            have k_q : Blk (((U33.setCell ⟨h, 0, none⟩ (.int .i64 k')).setCell ⟨h, 1, none⟩ (.int .i64 n')).setCell ⟨h, 2, none⟩ (.string s')) _ _ _ := ((k_q.far (p := ⟨h, 0, none⟩) (by show w.heap.size ≠ h; omega) _).far (p := ⟨h, 1, none⟩) (by show w.heap.size ≠ h; omega) _).far (p := ⟨h, 2, none⟩) (by show w.heap.size ≠ h; omega) _
            have k_p : Blk (((U33.setCell ⟨h, 0, none⟩ (.int .i64 k')).setCell ⟨h, 1, none⟩ (.int .i64 n')).setCell ⟨h, 2, none⟩ (.string s')) _ _ _ := ((k_p.far (p := ⟨h, 0, none⟩) (by show w.heap.size + 1 ≠ h; omega) _).far (p := ⟨h, 1, none⟩) (by show w.heap.size + 1 ≠ h; omega) _).far (p := ⟨h, 2, none⟩) (by show w.heap.size + 1 ≠ h; omega) _
            have bb : Below w.heap.size w (((U33.setCell ⟨h, 0, none⟩ (.int .i64 k')).setCell ⟨h, 1, none⟩ (.int .i64 n')).setCell ⟨h, 2, none⟩ (.string s')) := ((bb.setCell (p := ⟨h, 0, none⟩) (by show _ ≤ h; omega) _).setCell (p := ⟨h, 1, none⟩) (by show _ ≤ h; omega) _).setCell (p := ⟨h, 2, none⟩) (by show _ ≤ h; omega) _
            refine hK.out _ _ ⟨by rw [k_q.cell]; rfl, by rw [k_q.cell]; rfl, by rw [k_q.cell]; rfl, by rw [k_p.cell]; rfl, by rw [k_p.cell]; rfl, by rw [k_p.cell]; rfl⟩ (fun hHeld => ?_)
            clear hK K
            generalize (((U33.setCell ⟨h, 0, none⟩ (.int .i64 k')).setCell ⟨h, 1, none⟩ (.int .i64 n')).setCell ⟨h, 2, none⟩ (.string s')) = U34 at *
            (try simp only [Act.put, List.setIfInBounds_toArray, List.set_cons_zero, List.set_cons_succ])
            refine wpAnyH_done (by kernel_rfl) ?_ _
            go_wp2_with fail
            go_meet
            exact ⟨g, h, rfl, rfl, ⟨bb, k_g, k_h⟩⟩
        · go_simp
          have n_q := k_p.lt
          have n_l := k_g.lt
          have k_q := k_q.alloc (.cells #[.int .i64 0, .int .i64 0, .string ⟨#[]⟩] 27)
          have k_p := k_p.alloc (.cells #[.int .i64 0, .int .i64 0, .string ⟨#[]⟩] 27)
          have k_g := k_g.alloc (.cells #[.int .i64 0, .int .i64 0, .string ⟨#[]⟩] 27)
          have k_h := Blk.new U30 27 #[.int .i64 0, .int .i64 0, .string ⟨#[]⟩]
          have bb := bb.alloc bb.size (.cells #[.int .i64 0, .int .i64 0, .string ⟨#[]⟩] 27)
          refine hK.out _ _ ⟨by rw [k_q.cell]; rfl, by rw [k_q.cell]; rfl, by rw [k_q.cell]; rfl, by rw [k_p.cell]; rfl, by rw [k_p.cell]; rfl, by rw [k_p.cell]; rfl⟩ (fun hHeld => ?_)
          clear hK K
          generalize U30.alloc (.cells #[.int .i64 0, .int .i64 0, .string ⟨#[]⟩] 27) = U35 at *
          generalize U30.heap.size = h at *
          have n_hg : g ≠ h := by omega
          have n_gh : h ≠ g := by omega
          clear n_l
          have n_hq := n_q
          clear n_q
          (try simp only [Act.put, List.setIfInBounds_toArray, List.set_cons_zero, List.set_cons_succ])
          refine wpAnyH_ready (rs := [3]) (by kernel_rfl) (by simp) ?_
          refine AllReadyH.cons rfl (fun K hK => ?_) AllReadyH.nil
          · go_simp
            go_at_call 10
            (with_reducible refine (HCB.out _ bb).mono ?_)
            rintro e U36 ⟨rfl, bq⟩
            have k_q := k_q.below bq k_q.lt
            have k_p := k_p.below bq k_p.lt
            have k_g := k_g.below bq k_g.lt
            have k_h := k_h.below bq k_h.lt
            have bb := bb.trans (bq.mono bb.size)
            clear bq
            refine hK.out _ _ ⟨by rw [k_q.cell]; rfl, by rw [k_q.cell]; rfl, by rw [k_q.cell]; rfl, by rw [k_p.cell]; rfl, by rw [k_p.cell]; rfl, by rw [k_p.cell]; rfl⟩ (fun hHeld => ?_)
            clear hK K
            (try simp only [Act.put, List.setIfInBounds_toArray, List.set_cons_zero, List.set_cons_succ])
            have x_g0 : U36.cell? ⟨g, 0, none⟩ = some (.int .i64 0) := by rw [k_g.cell]; rfl
            have z_g0 := k_g.frozen 0
            have x_g1 : U36.cell? ⟨g, 1, none⟩ = some (.int .i64 0) := by rw [k_g.cell]; rfl
            have z_g1 := k_g.frozen 1
            have x_g2 : U36.cell? ⟨g, 2, none⟩ = some (.string ⟨#[]⟩) := by rw [k_g.cell]; rfl
            have z_g2 := k_g.frozen 2
            have l_g := k_g.lt
            refine wpAnyH_ready (rs := [6]) (by kernel_rfl) (by simp) ?_
            refine AllReadyH.cons rfl (fun K hK => ?_) AllReadyH.nil
            go_simp
            clear x_g0 x_g1 x_g2 z_g0 z_g1 z_g2 l_g
            have k_g : Blk (((U36.setCell ⟨g, 0, none⟩ (.int .i64 k)).setCell ⟨g, 1, none⟩ (.int .i64 n)).setCell ⟨g, 2, none⟩ (.string s)) g 27 #[.int .i64 k, .int .i64 n, .string s] := ((k_g.set_ 0 _).set_ 1 _).set_ 2 _
            have k_h : Blk (((U36.setCell ⟨g, 0, none⟩ (.int .i64 k)).setCell ⟨g, 1, none⟩ (.int .i64 n)).setCell ⟨g, 2, none⟩ (.string s)) _ _ _ := ((k_h.far (p := ⟨g, 0, none⟩) n_gh _).far (p := ⟨g, 1, none⟩) n_gh _).far (p := ⟨g, 2, none⟩) n_gh _
            have k_q : Blk (((U36.setCell ⟨g, 0, none⟩ (.int .i64 k)).setCell ⟨g, 1, none⟩ (.int .i64 n)).setCell ⟨g, 2, none⟩ (.string s)) _ _ _ := ((k_q.far (p := ⟨g, 0, none⟩) (by show w.heap.size ≠ g; omega) _).far (p := ⟨g, 1, none⟩) (by show w.heap.size ≠ g; omega) _).far (p := ⟨g, 2, none⟩) (by show w.heap.size ≠ g; omega) _
            have k_p : Blk (((U36.setCell ⟨g, 0, none⟩ (.int .i64 k)).setCell ⟨g, 1, none⟩ (.int .i64 n)).setCell ⟨g, 2, none⟩ (.string s)) _ _ _ := ((k_p.far (p := ⟨g, 0, none⟩) (by show w.heap.size + 1 ≠ g; omega) _).far (p := ⟨g, 1, none⟩) (by show w.heap.size + 1 ≠ g; omega) _).far (p := ⟨g, 2, none⟩) (by show w.heap.size + 1 ≠ g; omega) _
            have bb : Below w.heap.size w (((U36.setCell ⟨g, 0, none⟩ (.int .i64 k)).setCell ⟨g, 1, none⟩ (.int .i64 n)).setCell ⟨g, 2, none⟩ (.string s)) := ((bb.setCell (p := ⟨g, 0, none⟩) (by show _ ≤ g; omega) _).setCell (p := ⟨g, 1, none⟩) (by show _ ≤ g; omega) _).setCell (p := ⟨g, 2, none⟩) (by show _ ≤ g; omega) _
            refine hK.out _ _ ⟨by rw [k_q.cell]; rfl, by rw [k_q.cell]; rfl, by rw [k_q.cell]; rfl, by rw [k_p.cell]; rfl, by rw [k_p.cell]; rfl, by rw [k_p.cell]; rfl⟩ (fun hHeld => ?_)
            clear hK K
            generalize (((U36.setCell ⟨g, 0, none⟩ (.int .i64 k)).setCell ⟨g, 1, none⟩ (.int .i64 n)).setCell ⟨g, 2, none⟩ (.string s)) = U37 at *
            (try simp only [Act.put, List.setIfInBounds_toArray, List.set_cons_zero, List.set_cons_succ])
            have x_h0 : U37.cell? ⟨h, 0, none⟩ = some (.int .i64 0) := by rw [k_h.cell]; rfl
            have z_h0 := k_h.frozen 0
            have x_h1 : U37.cell? ⟨h, 1, none⟩ = some (.int .i64 0) := by rw [k_h.cell]; rfl
            have z_h1 := k_h.frozen 1
            have x_h2 : U37.cell? ⟨h, 2, none⟩ = some (.string ⟨#[]⟩) := by rw [k_h.cell]; rfl
            have z_h2 := k_h.frozen 2
            have l_h := k_h.lt
            refine wpAnyH_ready (rs := [7]) (by kernel_rfl) (by simp) ?_
            refine AllReadyH.cons rfl (fun K hK => ?_) AllReadyH.nil
            go_simp
            clear x_h0 x_h1 x_h2 z_h0 z_h1 z_h2 l_h
            have k_h : Blk (((U37.setCell ⟨h, 0, none⟩ (.int .i64 k')).setCell ⟨h, 1, none⟩ (.int .i64 n')).setCell ⟨h, 2, none⟩ (.string s')) h 27 #[.int .i64 k', .int .i64 n', .string s'] := ((k_h.set_ 0 _).set_ 1 _).set_ 2 _
            have k_g : Blk (((U37.setCell ⟨h, 0, none⟩ (.int .i64 k')).setCell ⟨h, 1, none⟩ (.int .i64 n')).setCell ⟨h, 2, none⟩ (.string s')) _ _ _ := ((k_g.far (p := ⟨h, 0, none⟩) n_hg _).far (p := ⟨h, 1, none⟩) n_hg _).far (p := ⟨h, 2, none⟩) n_hg _
            have k_q : Blk (((U37.setCell ⟨h, 0, none⟩ (.int .i64 k')).setCell ⟨h, 1, none⟩ (.int .i64 n')).setCell ⟨h, 2, none⟩ (.string s')) _ _ _ := ((k_q.far (p := ⟨h, 0, none⟩) (by show w.heap.size ≠ h; omega) _).far (p := ⟨h, 1, none⟩) (by show w.heap.size ≠ h; omega) _).far (p := ⟨h, 2, none⟩) (by show w.heap.size ≠ h; omega) _
            have k_p : Blk (((U37.setCell ⟨h, 0, none⟩ (.int .i64 k')).setCell ⟨h, 1, none⟩ (.int .i64 n')).setCell ⟨h, 2, none⟩ (.string s')) _ _ _ := ((k_p.far (p := ⟨h, 0, none⟩) (by show w.heap.size + 1 ≠ h; omega) _).far (p := ⟨h, 1, none⟩) (by show w.heap.size + 1 ≠ h; omega) _).far (p := ⟨h, 2, none⟩) (by show w.heap.size + 1 ≠ h; omega) _
            have bb : Below w.heap.size w (((U37.setCell ⟨h, 0, none⟩ (.int .i64 k')).setCell ⟨h, 1, none⟩ (.int .i64 n')).setCell ⟨h, 2, none⟩ (.string s')) := ((bb.setCell (p := ⟨h, 0, none⟩) (by show _ ≤ h; omega) _).setCell (p := ⟨h, 1, none⟩) (by show _ ≤ h; omega) _).setCell (p := ⟨h, 2, none⟩) (by show _ ≤ h; omega) _
            refine hK.out _ _ ⟨by rw [k_q.cell]; rfl, by rw [k_q.cell]; rfl, by rw [k_q.cell]; rfl, by rw [k_p.cell]; rfl, by rw [k_p.cell]; rfl, by rw [k_p.cell]; rfl⟩ (fun hHeld => ?_)
            clear hK K
            generalize (((U37.setCell ⟨h, 0, none⟩ (.int .i64 k')).setCell ⟨h, 1, none⟩ (.int .i64 n')).setCell ⟨h, 2, none⟩ (.string s')) = U38 at *
            (try simp only [Act.put, List.setIfInBounds_toArray, List.set_cons_zero, List.set_cons_succ])
            refine wpAnyH_done (by kernel_rfl) ?_ _
            go_wp2_with fail
            go_meet
            exact ⟨g, h, rfl, rfl, ⟨bb, k_g, k_h⟩⟩
      · go_simp
        have n_q := k_p.lt
        have n_l := k_g.lt
        have k_q := k_q.alloc (.cells #[.int .i64 0, .int .i64 0, .string ⟨#[]⟩] 27)
        have k_p := k_p.alloc (.cells #[.int .i64 0, .int .i64 0, .string ⟨#[]⟩] 27)
        have k_g := k_g.alloc (.cells #[.int .i64 0, .int .i64 0, .string ⟨#[]⟩] 27)
        have k_h := Blk.new U29 27 #[.int .i64 0, .int .i64 0, .string ⟨#[]⟩]
        have bb := bb.alloc bb.size (.cells #[.int .i64 0, .int .i64 0, .string ⟨#[]⟩] 27)
        refine hK.out _ _ ⟨by rw [k_q.cell]; rfl, by rw [k_q.cell]; rfl, by rw [k_q.cell]; rfl, by rw [k_p.cell]; rfl, by rw [k_p.cell]; rfl, by rw [k_p.cell]; rfl⟩ (fun hHeld => ?_)
        clear hK K
        generalize U29.alloc (.cells #[.int .i64 0, .int .i64 0, .string ⟨#[]⟩] 27) = U39 at *
        generalize U29.heap.size = h at *
        have n_hg : g ≠ h := by omega
        have n_gh : h ≠ g := by omega
        clear n_l
        have n_hq := n_q
        clear n_q
        (try simp only [Act.put, List.setIfInBounds_toArray, List.set_cons_zero, List.set_cons_succ])
        refine wpAnyH_ready (rs := [1]) (by kernel_rfl) (by simp) ?_
        refine AllReadyH.cons rfl (fun K hK => ?_) AllReadyH.nil
        · go_simp
          go_at_call 10
          (with_reducible refine (HCA.out _ bb).mono ?_)
          rintro e U40 ⟨rfl, bq⟩
          have k_q := k_q.below bq k_q.lt
          have k_p := k_p.below bq k_p.lt
          have k_g := k_g.below bq k_g.lt
          have k_h := k_h.below bq k_h.lt
          have bb := bb.trans (bq.mono bb.size)
          clear bq
          refine hK.out _ _ ⟨by rw [k_q.cell]; rfl, by rw [k_q.cell]; rfl, by rw [k_q.cell]; rfl, by rw [k_p.cell]; rfl, by rw [k_p.cell]; rfl, by rw [k_p.cell]; rfl⟩ (fun hHeld => ?_)
          clear hK K
          (try simp only [Act.put, List.setIfInBounds_toArray, List.set_cons_zero, List.set_cons_succ])
          refine wpAnyH_ready (rs := [3]) (by kernel_rfl) (by simp) ?_
          refine AllReadyH.cons rfl (fun K hK => ?_) AllReadyH.nil
          · go_simp
            go_at_call 10
            (with_reducible refine (HCB.out _ bb).mono ?_)
            rintro e U41 ⟨rfl, bq⟩
            have k_q := k_q.below bq k_q.lt
            have k_p := k_p.below bq k_p.lt
            have k_g := k_g.below bq k_g.lt
            have k_h := k_h.below bq k_h.lt
            have bb := bb.trans (bq.mono bb.size)
            clear bq
            refine hK.out _ _ ⟨by rw [k_q.cell]; rfl, by rw [k_q.cell]; rfl, by rw [k_q.cell]; rfl, by rw [k_p.cell]; rfl, by rw [k_p.cell]; rfl, by rw [k_p.cell]; rfl⟩ (fun hHeld => ?_)
            clear hK K
            (try simp only [Act.put, List.setIfInBounds_toArray, List.set_cons_zero, List.set_cons_succ])
            have x_g0 : U41.cell? ⟨g, 0, none⟩ = some (.int .i64 0) := by rw [k_g.cell]; rfl
            have z_g0 := k_g.frozen 0
            have x_g1 : U41.cell? ⟨g, 1, none⟩ = some (.int .i64 0) := by rw [k_g.cell]; rfl
            have z_g1 := k_g.frozen 1
            have x_g2 : U41.cell? ⟨g, 2, none⟩ = some (.string ⟨#[]⟩) := by rw [k_g.cell]; rfl
            have z_g2 := k_g.frozen 2
            have l_g := k_g.lt
            refine wpAnyH_ready (rs := [6]) (by kernel_rfl) (by simp) ?_
            refine AllReadyH.cons rfl (fun K hK => ?_) AllReadyH.nil
            go_simp
            clear x_g0 x_g1 x_g2 z_g0 z_g1 z_g2 l_g
            have k_g : Blk (((U41.setCell ⟨g, 0, none⟩ (.int .i64 k)).setCell ⟨g, 1, none⟩ (.int .i64 n)).setCell ⟨g, 2, none⟩ (.string s)) g 27 #[.int .i64 k, .int .i64 n, .string s] := ((k_g.set_ 0 _).set_ 1 _).set_ 2 _
            have k_h : Blk (((U41.setCell ⟨g, 0, none⟩ (.int .i64 k)).setCell ⟨g, 1, none⟩ (.int .i64 n)).setCell ⟨g, 2, none⟩ (.string s)) _ _ _ := ((k_h.far (p := ⟨g, 0, none⟩) n_gh _).far (p := ⟨g, 1, none⟩) n_gh _).far (p := ⟨g, 2, none⟩) n_gh _
            have k_q : Blk (((U41.setCell ⟨g, 0, none⟩ (.int .i64 k)).setCell ⟨g, 1, none⟩ (.int .i64 n)).setCell ⟨g, 2, none⟩ (.string s)) _ _ _ := ((k_q.far (p := ⟨g, 0, none⟩) (by show w.heap.size ≠ g; omega) _).far (p := ⟨g, 1, none⟩) (by show w.heap.size ≠ g; omega) _).far (p := ⟨g, 2, none⟩) (by show w.heap.size ≠ g; omega) _
            have k_p : Blk (((U41.setCell ⟨g, 0, none⟩ (.int .i64 k)).setCell ⟨g, 1, none⟩ (.int .i64 n)).setCell ⟨g, 2, none⟩ (.string s)) _ _ _ := ((k_p.far (p := ⟨g, 0, none⟩) (by show w.heap.size + 1 ≠ g; omega) _).far (p := ⟨g, 1, none⟩) (by show w.heap.size + 1 ≠ g; omega) _).far (p := ⟨g, 2, none⟩) (by show w.heap.size + 1 ≠ g; omega) _
            have bb : Below w.heap.size w (((U41.setCell ⟨g, 0, none⟩ (.int .i64 k)).setCell ⟨g, 1, none⟩ (.int .i64 n)).setCell ⟨g, 2, none⟩ (.string s)) := ((bb.setCell (p := ⟨g, 0, none⟩) (by show _ ≤ g; omega) _).setCell (p := ⟨g, 1, none⟩) (by show _ ≤ g; omega) _).setCell (p := ⟨g, 2, none⟩) (by show _ ≤ g; omega) _
            refine hK.out _ _ ⟨by rw [k_q.cell]; rfl, by rw [k_q.cell]; rfl, by rw [k_q.cell]; rfl, by rw [k_p.cell]; rfl, by rw [k_p.cell]; rfl, by rw [k_p.cell]; rfl⟩ (fun hHeld => ?_)
            clear hK K
            generalize (((U41.setCell ⟨g, 0, none⟩ (.int .i64 k)).setCell ⟨g, 1, none⟩ (.int .i64 n)).setCell ⟨g, 2, none⟩ (.string s)) = U42 at *
            (try simp only [Act.put, List.setIfInBounds_toArray, List.set_cons_zero, List.set_cons_succ])
            have x_h0 : U42.cell? ⟨h, 0, none⟩ = some (.int .i64 0) := by rw [k_h.cell]; rfl
            have z_h0 := k_h.frozen 0
            have x_h1 : U42.cell? ⟨h, 1, none⟩ = some (.int .i64 0) := by rw [k_h.cell]; rfl
            have z_h1 := k_h.frozen 1
            have x_h2 : U42.cell? ⟨h, 2, none⟩ = some (.string ⟨#[]⟩) := by rw [k_h.cell]; rfl
            have z_h2 := k_h.frozen 2
            have l_h := k_h.lt
            refine wpAnyH_ready (rs := [7]) (by kernel_rfl) (by simp) ?_
            refine AllReadyH.cons rfl (fun K hK => ?_) AllReadyH.nil
            go_simp
            clear x_h0 x_h1 x_h2 z_h0 z_h1 z_h2 l_h
            have k_h : Blk (((U42.setCell ⟨h, 0, none⟩ (.int .i64 k')).setCell ⟨h, 1, none⟩ (.int .i64 n')).setCell ⟨h, 2, none⟩ (.string s')) h 27 #[.int .i64 k', .int .i64 n', .string s'] := ((k_h.set_ 0 _).set_ 1 _).set_ 2 _
            have k_g : Blk (((U42.setCell ⟨h, 0, none⟩ (.int .i64 k')).setCell ⟨h, 1, none⟩ (.int .i64 n')).setCell ⟨h, 2, none⟩ (.string s')) _ _ _ := ((k_g.far (p := ⟨h, 0, none⟩) n_hg _).far (p := ⟨h, 1, none⟩) n_hg _).far (p := ⟨h, 2, none⟩) n_hg _
            have k_q : Blk (((U42.setCell ⟨h, 0, none⟩ (.int .i64 k')).setCell ⟨h, 1, none⟩ (.int .i64 n')).setCell ⟨h, 2, none⟩ (.string s')) _ _ _ := ((k_q.far (p := ⟨h, 0, none⟩) (by show w.heap.size ≠ h; omega) _).far (p := ⟨h, 1, none⟩) (by show w.heap.size ≠ h; omega) _).far (p := ⟨h, 2, none⟩) (by show w.heap.size ≠ h; omega) _
            have k_p : Blk (((U42.setCell ⟨h, 0, none⟩ (.int .i64 k')).setCell ⟨h, 1, none⟩ (.int .i64 n')).setCell ⟨h, 2, none⟩ (.string s')) _ _ _ := ((k_p.far (p := ⟨h, 0, none⟩) (by show w.heap.size + 1 ≠ h; omega) _).far (p := ⟨h, 1, none⟩) (by show w.heap.size + 1 ≠ h; omega) _).far (p := ⟨h, 2, none⟩) (by show w.heap.size + 1 ≠ h; omega) _
            have bb : Below w.heap.size w (((U42.setCell ⟨h, 0, none⟩ (.int .i64 k')).setCell ⟨h, 1, none⟩ (.int .i64 n')).setCell ⟨h, 2, none⟩ (.string s')) := ((bb.setCell (p := ⟨h, 0, none⟩) (by show _ ≤ h; omega) _).setCell (p := ⟨h, 1, none⟩) (by show _ ≤ h; omega) _).setCell (p := ⟨h, 2, none⟩) (by show _ ≤ h; omega) _
            refine hK.out _ _ ⟨by rw [k_q.cell]; rfl, by rw [k_q.cell]; rfl, by rw [k_q.cell]; rfl, by rw [k_p.cell]; rfl, by rw [k_p.cell]; rfl, by rw [k_p.cell]; rfl⟩ (fun hHeld => ?_)
            clear hK K
            generalize (((U42.setCell ⟨h, 0, none⟩ (.int .i64 k')).setCell ⟨h, 1, none⟩ (.int .i64 n')).setCell ⟨h, 2, none⟩ (.string s')) = U43 at *
            (try simp only [Act.put, List.setIfInBounds_toArray, List.set_cons_zero, List.set_cons_succ])
            refine wpAnyH_done (by kernel_rfl) ?_ _
            go_wp2_with fail
            go_meet
            exact ⟨g, h, rfl, rfl, ⟨bb, k_g, k_h⟩⟩
    · go_simp
      have n_q := k_p.lt
      have k_q := k_q.alloc (.cells #[.int .i64 0, .int .i64 0, .string ⟨#[]⟩] 27)
      have k_p := k_p.alloc (.cells #[.int .i64 0, .int .i64 0, .string ⟨#[]⟩] 27)
      have k_h := Blk.new D0 27 #[.int .i64 0, .int .i64 0, .string ⟨#[]⟩]
      have bb := bb.alloc bb.size (.cells #[.int .i64 0, .int .i64 0, .string ⟨#[]⟩] 27)
      refine hK.out _ _ ⟨by rw [k_q.cell]; rfl, by rw [k_q.cell]; rfl, by rw [k_q.cell]; rfl, by rw [k_p.cell]; rfl, by rw [k_p.cell]; rfl, by rw [k_p.cell]; rfl⟩ (fun hHeld => ?_)
      clear hK K
      generalize D0.alloc (.cells #[.int .i64 0, .int .i64 0, .string ⟨#[]⟩] 27) = U44 at *
      generalize D0.heap.size = h at *
      have n_hq := n_q
      clear n_q
      (try simp only [Act.put, List.setIfInBounds_toArray, List.set_cons_zero, List.set_cons_succ])
      refine wpAnyH_ready (rs := [1, 4]) (by kernel_rfl) (by simp) ?_
      refine AllReadyH.cons rfl (fun K hK => ?_) (AllReadyH.cons rfl (fun K hK => ?_) AllReadyH.nil)
      · go_simp
        go_at_call 10
        (with_reducible refine (HCA.out _ bb).mono ?_)
        rintro e U45 ⟨rfl, bq⟩
        have k_q := k_q.below bq k_q.lt
        have k_p := k_p.below bq k_p.lt
        have k_h := k_h.below bq k_h.lt
        have bb := bb.trans (bq.mono bb.size)
        clear bq
        refine hK.out _ _ ⟨by rw [k_q.cell]; rfl, by rw [k_q.cell]; rfl, by rw [k_q.cell]; rfl, by rw [k_p.cell]; rfl, by rw [k_p.cell]; rfl, by rw [k_p.cell]; rfl⟩ (fun hHeld => ?_)
        clear hK K
        (try simp only [Act.put, List.setIfInBounds_toArray, List.set_cons_zero, List.set_cons_succ])
        refine wpAnyH_ready (rs := [3, 4]) (by kernel_rfl) (by simp) ?_
        refine AllReadyH.cons rfl (fun K hK => ?_) (AllReadyH.cons rfl (fun K hK => ?_) AllReadyH.nil)
        · go_simp
          go_at_call 10
          (with_reducible refine (HCB.out _ bb).mono ?_)
          rintro e U46 ⟨rfl, bq⟩
          have k_q := k_q.below bq k_q.lt
          have k_p := k_p.below bq k_p.lt
          have k_h := k_h.below bq k_h.lt
          have bb := bb.trans (bq.mono bb.size)
          clear bq
          refine hK.out _ _ ⟨by rw [k_q.cell]; rfl, by rw [k_q.cell]; rfl, by rw [k_q.cell]; rfl, by rw [k_p.cell]; rfl, by rw [k_p.cell]; rfl, by rw [k_p.cell]; rfl⟩ (fun hHeld => ?_)
          clear hK K
          (try simp only [Act.put, List.setIfInBounds_toArray, List.set_cons_zero, List.set_cons_succ])
          refine wpAnyH_ready (rs := [4]) (by kernel_rfl) (by simp) ?_
          refine AllReadyH.cons rfl (fun K hK => ?_) AllReadyH.nil
          · go_simp
            have n_q := k_p.lt
            have n_l := k_h.lt
            have k_q := k_q.alloc (.cells #[.int .i64 0, .int .i64 0, .string ⟨#[]⟩] 27)
            have k_p := k_p.alloc (.cells #[.int .i64 0, .int .i64 0, .string ⟨#[]⟩] 27)
            have k_h := k_h.alloc (.cells #[.int .i64 0, .int .i64 0, .string ⟨#[]⟩] 27)
            have k_g := Blk.new U46 27 #[.int .i64 0, .int .i64 0, .string ⟨#[]⟩]
            have bb := bb.alloc bb.size (.cells #[.int .i64 0, .int .i64 0, .string ⟨#[]⟩] 27)
            refine hK.out _ _ ⟨by rw [k_q.cell]; rfl, by rw [k_q.cell]; rfl, by rw [k_q.cell]; rfl, by rw [k_p.cell]; rfl, by rw [k_p.cell]; rfl, by rw [k_p.cell]; rfl⟩ (fun hHeld => ?_)
            clear hK K
            generalize U46.alloc (.cells #[.int .i64 0, .int .i64 0, .string ⟨#[]⟩] 27) = U47 at *
            generalize U46.heap.size = g at *
            have n_gh : h ≠ g := by omega
            have n_hg : g ≠ h := by omega
            clear n_l
            have n_gq := n_q
            clear n_q
            (try simp only [Act.put, List.setIfInBounds_toArray, List.set_cons_zero, List.set_cons_succ])
            have x_g0 : U47.cell? ⟨g, 0, none⟩ = some (.int .i64 0) := by rw [k_g.cell]; rfl
            have z_g0 := k_g.frozen 0
            have x_g1 : U47.cell? ⟨g, 1, none⟩ = some (.int .i64 0) := by rw [k_g.cell]; rfl
            have z_g1 := k_g.frozen 1
            have x_g2 : U47.cell? ⟨g, 2, none⟩ = some (.string ⟨#[]⟩) := by rw [k_g.cell]; rfl
            have z_g2 := k_g.frozen 2
            have l_g := k_g.lt
            refine wpAnyH_ready (rs := [6]) (by kernel_rfl) (by simp) ?_
            refine AllReadyH.cons rfl (fun K hK => ?_) AllReadyH.nil
            go_simp
            clear x_g0 x_g1 x_g2 z_g0 z_g1 z_g2 l_g
            have k_g : Blk (((U47.setCell ⟨g, 0, none⟩ (.int .i64 k)).setCell ⟨g, 1, none⟩ (.int .i64 n)).setCell ⟨g, 2, none⟩ (.string s)) g 27 #[.int .i64 k, .int .i64 n, .string s] := ((k_g.set_ 0 _).set_ 1 _).set_ 2 _
            have k_h : Blk (((U47.setCell ⟨g, 0, none⟩ (.int .i64 k)).setCell ⟨g, 1, none⟩ (.int .i64 n)).setCell ⟨g, 2, none⟩ (.string s)) _ _ _ := ((k_h.far (p := ⟨g, 0, none⟩) n_gh _).far (p := ⟨g, 1, none⟩) n_gh _).far (p := ⟨g, 2, none⟩) n_gh _
            have k_q : Blk (((U47.setCell ⟨g, 0, none⟩ (.int .i64 k)).setCell ⟨g, 1, none⟩ (.int .i64 n)).setCell ⟨g, 2, none⟩ (.string s)) _ _ _ := ((k_q.far (p := ⟨g, 0, none⟩) (by show w.heap.size ≠ g; omega) _).far (p := ⟨g, 1, none⟩) (by show w.heap.size ≠ g; omega) _).far (p := ⟨g, 2, none⟩) (by show w.heap.size ≠ g; omega) _
            have k_p : Blk (((U47.setCell ⟨g, 0, none⟩ (.int .i64 k)).setCell ⟨g, 1, none⟩ (.int .i64 n)).setCell ⟨g, 2, none⟩ (.string s)) _ _ _ := ((k_p.far (p := ⟨g, 0, none⟩) (by show w.heap.size + 1 ≠ g; omega) _).far (p := ⟨g, 1, none⟩) (by show w.heap.size + 1 ≠ g; omega) _).far (p := ⟨g, 2, none⟩) (by show w.heap.size + 1 ≠ g; omega) _
            have bb : Below w.heap.size w (((U47.setCell ⟨g, 0, none⟩ (.int .i64 k)).setCell ⟨g, 1, none⟩ (.int .i64 n)).setCell ⟨g, 2, none⟩ (.string s)) := ((bb.setCell (p := ⟨g, 0, none⟩) (by show _ ≤ g; omega) _).setCell (p := ⟨g, 1, none⟩) (by show _ ≤ g; omega) _).setCell (p := ⟨g, 2, none⟩) (by show _ ≤ g; omega) _
            refine hK.out _ _ ⟨by rw [k_q.cell]; rfl, by rw [k_q.cell]; rfl, by rw [k_q.cell]; rfl, by rw [k_p.cell]; rfl, by rw [k_p.cell]; rfl, by rw [k_p.cell]; rfl⟩ (fun hHeld => ?_)
            clear hK K
            generalize (((U47.setCell ⟨g, 0, none⟩ (.int .i64 k)).setCell ⟨g, 1, none⟩ (.int .i64 n)).setCell ⟨g, 2, none⟩ (.string s)) = U48 at *
            (try simp only [Act.put, List.setIfInBounds_toArray, List.set_cons_zero, List.set_cons_succ])
            have x_h0 : U48.cell? ⟨h, 0, none⟩ = some (.int .i64 0) := by rw [k_h.cell]; rfl
            have z_h0 := k_h.frozen 0
            have x_h1 : U48.cell? ⟨h, 1, none⟩ = some (.int .i64 0) := by rw [k_h.cell]; rfl
            have z_h1 := k_h.frozen 1
            have x_h2 : U48.cell? ⟨h, 2, none⟩ = some (.string ⟨#[]⟩) := by rw [k_h.cell]; rfl
            have z_h2 := k_h.frozen 2
            have l_h := k_h.lt
            refine wpAnyH_ready (rs := [7]) (by kernel_rfl) (by simp) ?_
            refine AllReadyH.cons rfl (fun K hK => ?_) AllReadyH.nil
            go_simp
            clear x_h0 x_h1 x_h2 z_h0 z_h1 z_h2 l_h
            have k_h : Blk (((U48.setCell ⟨h, 0, none⟩ (.int .i64 k')).setCell ⟨h, 1, none⟩ (.int .i64 n')).setCell ⟨h, 2, none⟩ (.string s')) h 27 #[.int .i64 k', .int .i64 n', .string s'] := ((k_h.set_ 0 _).set_ 1 _).set_ 2 _
            have k_g : Blk (((U48.setCell ⟨h, 0, none⟩ (.int .i64 k')).setCell ⟨h, 1, none⟩ (.int .i64 n')).setCell ⟨h, 2, none⟩ (.string s')) _ _ _ := ((k_g.far (p := ⟨h, 0, none⟩) n_hg _).far (p := ⟨h, 1, none⟩) n_hg _).far (p := ⟨h, 2, none⟩) n_hg _
            have k_q : Blk (((U48.setCell ⟨h, 0, none⟩ (.int .i64 k')).setCell ⟨h, 1, none⟩ (.int .i64 n')).setCell ⟨h, 2, none⟩ (.string s')) _ _ _ := ((k_q.far (p := ⟨h, 0, none⟩) (by show w.heap.size ≠ h; omega) _).far (p := ⟨h, 1, none⟩) (by show w.heap.size ≠ h; omega) _).far (p := ⟨h, 2, none⟩) (by show w.heap.size ≠ h; omega) _
            have k_p : Blk (((U48.setCell ⟨h, 0, none⟩ (.int .i64 k')).setCell ⟨h, 1, none⟩ (.int .i64 n')).setCell ⟨h, 2, none⟩ (.string s')) _ _ _ := ((k_p.far (p := ⟨h, 0, none⟩) (by show w.heap.size + 1 ≠ h; omega) _).far (p := ⟨h, 1, none⟩) (by show w.heap.size + 1 ≠ h; omega) _).far (p := ⟨h, 2, none⟩) (by show w.heap.size + 1 ≠ h; omega) _
            have bb : Below w.heap.size w (((U48.setCell ⟨h, 0, none⟩ (.int .i64 k')).setCell ⟨h, 1, none⟩ (.int .i64 n')).setCell ⟨h, 2, none⟩ (.string s')) := ((bb.setCell (p := ⟨h, 0, none⟩) (by show _ ≤ h; omega) _).setCell (p := ⟨h, 1, none⟩) (by show _ ≤ h; omega) _).setCell (p := ⟨h, 2, none⟩) (by show _ ≤ h; omega) _
            refine hK.out _ _ ⟨by rw [k_q.cell]; rfl, by rw [k_q.cell]; rfl, by rw [k_q.cell]; rfl, by rw [k_p.cell]; rfl, by rw [k_p.cell]; rfl, by rw [k_p.cell]; rfl⟩ (fun hHeld => ?_)
            clear hK K
            generalize (((U48.setCell ⟨h, 0, none⟩ (.int .i64 k')).setCell ⟨h, 1, none⟩ (.int .i64 n')).setCell ⟨h, 2, none⟩ (.string s')) = U49 at *
            (try simp only [Act.put, List.setIfInBounds_toArray, List.set_cons_zero, List.set_cons_succ])
            refine wpAnyH_done (by kernel_rfl) ?_ _
            go_wp2_with fail
            go_meet
            exact ⟨g, h, rfl, rfl, ⟨bb, k_g, k_h⟩⟩
        · go_simp
          have n_q := k_p.lt
          have n_l := k_h.lt
          have k_q := k_q.alloc (.cells #[.int .i64 0, .int .i64 0, .string ⟨#[]⟩] 27)
          have k_p := k_p.alloc (.cells #[.int .i64 0, .int .i64 0, .string ⟨#[]⟩] 27)
          have k_h := k_h.alloc (.cells #[.int .i64 0, .int .i64 0, .string ⟨#[]⟩] 27)
          have k_g := Blk.new U45 27 #[.int .i64 0, .int .i64 0, .string ⟨#[]⟩]
          have bb := bb.alloc bb.size (.cells #[.int .i64 0, .int .i64 0, .string ⟨#[]⟩] 27)
          refine hK.out _ _ ⟨by rw [k_q.cell]; rfl, by rw [k_q.cell]; rfl, by rw [k_q.cell]; rfl, by rw [k_p.cell]; rfl, by rw [k_p.cell]; rfl, by rw [k_p.cell]; rfl⟩ (fun hHeld => ?_)
          clear hK K
          generalize U45.alloc (.cells #[.int .i64 0, .int .i64 0, .string ⟨#[]⟩] 27) = U50 at *
          generalize U45.heap.size = g at *
          have n_gh : h ≠ g := by omega
          have n_hg : g ≠ h := by omega
          clear n_l
          have n_gq := n_q
          clear n_q
          (try simp only [Act.put, List.setIfInBounds_toArray, List.set_cons_zero, List.set_cons_succ])
          refine wpAnyH_ready (rs := [3]) (by kernel_rfl) (by simp) ?_
          refine AllReadyH.cons rfl (fun K hK => ?_) AllReadyH.nil
          · go_simp
            go_at_call 10
            (with_reducible refine (HCB.out _ bb).mono ?_)
            rintro e U51 ⟨rfl, bq⟩
            have k_q := k_q.below bq k_q.lt
            have k_p := k_p.below bq k_p.lt
            have k_g := k_g.below bq k_g.lt
            have k_h := k_h.below bq k_h.lt
            have bb := bb.trans (bq.mono bb.size)
            clear bq
            refine hK.out _ _ ⟨by rw [k_q.cell]; rfl, by rw [k_q.cell]; rfl, by rw [k_q.cell]; rfl, by rw [k_p.cell]; rfl, by rw [k_p.cell]; rfl, by rw [k_p.cell]; rfl⟩ (fun hHeld => ?_)
            clear hK K
            (try simp only [Act.put, List.setIfInBounds_toArray, List.set_cons_zero, List.set_cons_succ])
            have x_g0 : U51.cell? ⟨g, 0, none⟩ = some (.int .i64 0) := by rw [k_g.cell]; rfl
            have z_g0 := k_g.frozen 0
            have x_g1 : U51.cell? ⟨g, 1, none⟩ = some (.int .i64 0) := by rw [k_g.cell]; rfl
            have z_g1 := k_g.frozen 1
            have x_g2 : U51.cell? ⟨g, 2, none⟩ = some (.string ⟨#[]⟩) := by rw [k_g.cell]; rfl
            have z_g2 := k_g.frozen 2
            have l_g := k_g.lt
            refine wpAnyH_ready (rs := [6]) (by kernel_rfl) (by simp) ?_
            refine AllReadyH.cons rfl (fun K hK => ?_) AllReadyH.nil
            go_simp
            clear x_g0 x_g1 x_g2 z_g0 z_g1 z_g2 l_g
            have k_g : Blk (((U51.setCell ⟨g, 0, none⟩ (.int .i64 k)).setCell ⟨g, 1, none⟩ (.int .i64 n)).setCell ⟨g, 2, none⟩ (.string s)) g 27 #[.int .i64 k, .int .i64 n, .string s] := ((k_g.set_ 0 _).set_ 1 _).set_ 2 _
            have k_h : Blk (((U51.setCell ⟨g, 0, none⟩ (.int .i64 k)).setCell ⟨g, 1, none⟩ (.int .i64 n)).setCell ⟨g, 2, none⟩ (.string s)) _ _ _ := ((k_h.far (p := ⟨g, 0, none⟩) n_gh _).far (p := ⟨g, 1, none⟩) n_gh _).far (p := ⟨g, 2, none⟩) n_gh _
            have k_q : Blk (((U51.setCell ⟨g, 0, none⟩ (.int .i64 k)).setCell ⟨g, 1, none⟩ (.int .i64 n)).setCell ⟨g, 2, none⟩ (.string s)) _ _ _ := ((k_q.far (p := ⟨g, 0, none⟩) (by show w.heap.size ≠ g; omega) _).far (p := ⟨g, 1, none⟩) (by show w.heap.size ≠ g; omega) _).far (p := ⟨g, 2, none⟩) (by show w.heap.size ≠ g; omega) _
            have k_p : Blk (((U51.setCell ⟨g, 0, none⟩ (.int .i64 k)).setCell ⟨g, 1, none⟩ (.int .i64 n)).setCell ⟨g, 2, none⟩ (.string s)) _ _ _ := ((k_p.far (p := ⟨g, 0, none⟩) (by show w.heap.size + 1 ≠ g; omega) _).far (p := ⟨g, 1, none⟩) (by show w.heap.size + 1 ≠ g; omega) _).far (p := ⟨g, 2, none⟩) (by show w.heap.size + 1 ≠ g; omega) _
            have bb : Below w.heap.size w (((U51.setCell ⟨g, 0, none⟩ (.int .i64 k)).setCell ⟨g, 1, none⟩ (.int .i64 n)).setCell ⟨g, 2, none⟩ (.string s)) := ((bb.setCell (p := ⟨g, 0, none⟩) (by show _ ≤ g; omega) _).setCell (p := ⟨g, 1, none⟩) (by show _ ≤ g; omega) _).setCell (p := ⟨g, 2, none⟩) (by show _ ≤ g; omega) _
            refine hK.out _ _ ⟨by rw [k_q.cell]; rfl, by rw [k_q.cell]; rfl, by rw [k_q.cell]; rfl, by rw [k_p.cell]; rfl, by rw [k_p.cell]; rfl, by rw [k_p.cell]; rfl⟩ (fun hHeld => ?_)
            clear hK K
            generalize (((U51.setCell ⟨g, 0, none⟩ (.int .i64 k)).setCell ⟨g, 1, none⟩ (.int .i64 n)).setCell ⟨g, 2, none⟩ (.string s)) = U52 at *
            (try simp only [Act.put, List.setIfInBounds_toArray, List.set_cons_zero, List.set_cons_succ])
            have x_h0 : U52.cell? ⟨h, 0, none⟩ = some (.int .i64 0) := by rw [k_h.cell]; rfl
            have z_h0 := k_h.frozen 0
            have x_h1 : U52.cell? ⟨h, 1, none⟩ = some (.int .i64 0) := by rw [k_h.cell]; rfl
            have z_h1 := k_h.frozen 1
            have x_h2 : U52.cell? ⟨h, 2, none⟩ = some (.string ⟨#[]⟩) := by rw [k_h.cell]; rfl
            have z_h2 := k_h.frozen 2
            have l_h := k_h.lt
            refine wpAnyH_ready (rs := [7]) (by kernel_rfl) (by simp) ?_
            refine AllReadyH.cons rfl (fun K hK => ?_) AllReadyH.nil
            go_simp
            clear x_h0 x_h1 x_h2 z_h0 z_h1 z_h2 l_h
            have k_h : Blk (((U52.setCell ⟨h, 0, none⟩ (.int .i64 k')).setCell ⟨h, 1, none⟩ (.int .i64 n')).setCell ⟨h, 2, none⟩ (.string s')) h 27 #[.int .i64 k', .int .i64 n', .string s'] := ((k_h.set_ 0 _).set_ 1 _).set_ 2 _
            have k_g : Blk (((U52.setCell ⟨h, 0, none⟩ (.int .i64 k')).setCell ⟨h, 1, none⟩ (.int .i64 n')).setCell ⟨h, 2, none⟩ (.string s')) _ _ _ := ((k_g.far (p := ⟨h, 0, none⟩) n_hg _).far (p := ⟨h, 1, none⟩) n_hg _).far (p := ⟨h, 2, none⟩) n_hg _
            have k_q : Blk (((U52.setCell ⟨h, 0, none⟩ (.int .i64 k')).setCell ⟨h, 1, none⟩ (.int .i64 n')).setCell ⟨h, 2, none⟩ (.string s')) _ _ _ := ((k_q.far (p := ⟨h, 0, none⟩) (by show w.heap.size ≠ h; omega) _).far (p := ⟨h, 1, none⟩) (by show w.heap.size ≠ h; omega) _).far (p := ⟨h, 2, none⟩) (by show w.heap.size ≠ h; omega) _
            have k_p : Blk (((U52.setCell ⟨h, 0, none⟩ (.int .i64 k')).setCell ⟨h, 1, none⟩ (.int .i64 n')).setCell ⟨h, 2, none⟩ (.string s')) _ _ _ := ((k_p.far (p := ⟨h, 0, none⟩) (by show w.heap.size + 1 ≠ h; omega) _).far (p := ⟨h, 1, none⟩) (by show w.heap.size + 1 ≠ h; omega) _).far (p := ⟨h, 2, none⟩) (by show w.heap.size + 1 ≠ h; omega) _
            have bb : Below w.heap.size w (((U52.setCell ⟨h, 0, none⟩ (.int .i64 k')).setCell ⟨h, 1, none⟩ (.int .i64 n')).setCell ⟨h, 2, none⟩ (.string s')) := ((bb.setCell (p := ⟨h, 0, none⟩) (by show _ ≤ h; omega) _).setCell (p := ⟨h, 1, none⟩) (by show _ ≤ h; omega) _).setCell (p := ⟨h, 2, none⟩) (by show _ ≤ h; omega) _
            refine hK.out _ _ ⟨by rw [k_q.cell]; rfl, by rw [k_q.cell]; rfl, by rw [k_q.cell]; rfl, by rw [k_p.cell]; rfl, by rw [k_p.cell]; rfl, by rw [k_p.cell]; rfl⟩ (fun hHeld => ?_)
            clear hK K
            generalize (((U52.setCell ⟨h, 0, none⟩ (.int .i64 k')).setCell ⟨h, 1, none⟩ (.int .i64 n')).setCell ⟨h, 2, none⟩ (.string s')) = U53 at *
            (try simp only [Act.put, List.setIfInBounds_toArray, List.set_cons_zero, List.set_cons_succ])
            refine wpAnyH_done (by kernel_rfl) ?_ _
            go_wp2_with fail
            go_meet
            exact ⟨g, h, rfl, rfl, ⟨bb, k_g, k_h⟩⟩
      · go_simp
        have n_q := k_p.lt
        have n_l := k_h.lt
        have k_q := k_q.alloc (.cells #[.int .i64 0, .int .i64 0, .string ⟨#[]⟩] 27)
        have k_p := k_p.alloc (.cells #[.int .i64 0, .int .i64 0, .string ⟨#[]⟩] 27)
        have k_h := k_h.alloc (.cells #[.int .i64 0, .int .i64 0, .string ⟨#[]⟩] 27)
        have k_g := Blk.new U44 27 #[.int .i64 0, .int .i64 0, .string ⟨#[]⟩]
        have bb := bb.alloc bb.size (.cells #[.int .i64 0, .int .i64 0, .string ⟨#[]⟩] 27)
        refine hK.out _ _ ⟨by rw [k_q.cell]; rfl, by rw [k_q.cell]; rfl, by rw [k_q.cell]; rfl, by rw [k_p.cell]; rfl, by rw [k_p.cell]; rfl, by rw [k_p.cell]; rfl⟩ (fun hHeld => ?_)
        clear hK K
        generalize U44.alloc (.cells #[.int .i64 0, .int .i64 0, .string ⟨#[]⟩] 27) = U54 at *
        generalize U44.heap.size = g at *
        have n_gh : h ≠ g := by omega
        have n_hg : g ≠ h := by omega
        clear n_l
        have n_gq := n_q
        clear n_q
        (try simp only [Act.put, List.setIfInBounds_toArray, List.set_cons_zero, List.set_cons_succ])
        refine wpAnyH_ready (rs := [1]) (by kernel_rfl) (by simp) ?_
        refine AllReadyH.cons rfl (fun K hK => ?_) AllReadyH.nil
        · go_simp
          go_at_call 10
          (with_reducible refine (HCA.out _ bb).mono ?_)
          rintro e U55 ⟨rfl, bq⟩
          have k_q := k_q.below bq k_q.lt
          have k_p := k_p.below bq k_p.lt
          have k_g := k_g.below bq k_g.lt
          have k_h := k_h.below bq k_h.lt
          have bb := bb.trans (bq.mono bb.size)
          clear bq
          refine hK.out _ _ ⟨by rw [k_q.cell]; rfl, by rw [k_q.cell]; rfl, by rw [k_q.cell]; rfl, by rw [k_p.cell]; rfl, by rw [k_p.cell]; rfl, by rw [k_p.cell]; rfl⟩ (fun hHeld => ?_)
          clear hK K
          (try simp only [Act.put, List.setIfInBounds_toArray, List.set_cons_zero, List.set_cons_succ])
          refine wpAnyH_ready (rs := [3]) (by kernel_rfl) (by simp) ?_
          refine AllReadyH.cons rfl (fun K hK => ?_) AllReadyH.nil
          · go_simp
            go_at_call 10
            (with_reducible refine (HCB.out _ bb).mono ?_)
            rintro e U56 ⟨rfl, bq⟩
            have k_q := k_q.below bq k_q.lt
            have k_p := k_p.below bq k_p.lt
            have k_g := k_g.below bq k_g.lt
            have k_h := k_h.below bq k_h.lt
            have bb := bb.trans (bq.mono bb.size)
            clear bq
            refine hK.out _ _ ⟨by rw [k_q.cell]; rfl, by rw [k_q.cell]; rfl, by rw [k_q.cell]; rfl, by rw [k_p.cell]; rfl, by rw [k_p.cell]; rfl, by rw [k_p.cell]; rfl⟩ (fun hHeld => ?_)
            clear hK K
            (try simp only [Act.put, List.setIfInBounds_toArray, List.set_cons_zero, List.set_cons_succ])
            have x_g0 : U56.cell? ⟨g, 0, none⟩ = some (.int .i64 0) := by rw [k_g.cell]; rfl
            have z_g0 := k_g.frozen 0
            have x_g1 : U56.cell? ⟨g, 1, none⟩ = some (.int .i64 0) := by rw [k_g.cell]; rfl
            have z_g1 := k_g.frozen 1
            have x_g2 : U56.cell? ⟨g, 2, none⟩ = some (.string ⟨#[]⟩) := by rw [k_g.cell]; rfl
            have z_g2 := k_g.frozen 2
            have l_g := k_g.lt
            refine wpAnyH_ready (rs := [6]) (by kernel_rfl) (by simp) ?_
            refine AllReadyH.cons rfl (fun K hK => ?_) AllReadyH.nil
            go_simp
            clear x_g0 x_g1 x_g2 z_g0 z_g1 z_g2 l_g
            have k_g : Blk (((U56.setCell ⟨g, 0, none⟩ (.int .i64 k)).setCell ⟨g, 1, none⟩ (.int .i64 n)).setCell ⟨g, 2, none⟩ (.string s)) g 27 #[.int .i64 k, .int .i64 n, .string s] := ((k_g.set_ 0 _).set_ 1 _).set_ 2 _
            have k_h : Blk (((U56.setCell ⟨g, 0, none⟩ (.int .i64 k)).setCell ⟨g, 1, none⟩ (.int .i64 n)).setCell ⟨g, 2, none⟩ (.string s)) _ _ _ := ((k_h.far (p := ⟨g, 0, none⟩) n_gh _).far (p := ⟨g, 1, none⟩) n_gh _).far (p := ⟨g, 2, none⟩) n_gh _
            have k_q : Blk (((U56.setCell ⟨g, 0, none⟩ (.int .i64 k)).setCell ⟨g, 1, none⟩ (.int .i64 n)).setCell ⟨g, 2, none⟩ (.string s)) _ _ _ := ((k_q.far (p := ⟨g, 0, none⟩) (by show w.heap.size ≠ g; omega) _).far (p := ⟨g, 1, none⟩) (by show w.heap.size ≠ g; omega) _).far (p := ⟨g, 2, none⟩) (by show w.heap.size ≠ g; omega) _
            have k_p : Blk (((U56.setCell ⟨g, 0, none⟩ (.int .i64 k)).setCell ⟨g, 1, none⟩ (.int .i64 n)).setCell ⟨g, 2, none⟩ (.string s)) _ _ _ := ((k_p.far (p := ⟨g, 0, none⟩) (by show w.heap.size + 1 ≠ g; omega) _).far (p := ⟨g, 1, none⟩) (by show w.heap.size + 1 ≠ g; omega) _).far (p := ⟨g, 2, none⟩) (by show w.heap.size + 1 ≠ g; omega) _
            have bb : Below w.heap.size w (((U56.setCell ⟨g, 0, none⟩ (.int .i64 k)).setCell ⟨g, 1, none⟩ (.int .i64 n)).setCell ⟨g, 2, none⟩ (.string s)) := ((bb.setCell (p := ⟨g, 0, none⟩) (by show _ ≤ g; omega) _).setCell (p := ⟨g, 1, none⟩) (by show _ ≤ g; omega) _).setCell (p := ⟨g, 2, none⟩) (by show _ ≤ g; omega) _
            refine hK.out _ _ ⟨by rw [k_q.cell]; rfl, by rw [k_q.cell]; rfl, by rw [k_q.cell]; rfl, by rw [k_p.cell]; rfl, by rw [k_p.cell]; rfl, by rw [k_p.cell]; rfl⟩ (fun hHeld => ?_)
            clear hK K
            generalize (((U56.setCell ⟨g, 0, none⟩ (.int .i64 k)).setCell ⟨g, 1, none⟩ (.int .i64 n)).setCell ⟨g, 2, none⟩ (.string s)) = U57 at *
            (try simp only [Act.put, List.setIfInBounds_toArray, List.set_cons_zero, List.set_cons_succ])
            have x_h0 : U57.cell? ⟨h, 0, none⟩ = some (.int .i64 0) := by rw [k_h.cell]; rfl
            have z_h0 := k_h.frozen 0
            have x_h1 : U57.cell? ⟨h, 1, none⟩ = some (.int .i64 0) := by rw [k_h.cell]; rfl
            have z_h1 := k_h.frozen 1
            have x_h2 : U57.cell? ⟨h, 2, none⟩ = some (.string ⟨#[]⟩) := by rw [k_h.cell]; rfl
            have z_h2 := k_h.frozen 2
            have l_h := k_h.lt
            refine wpAnyH_ready (rs := [7]) (by kernel_rfl) (by simp) ?_
            refine AllReadyH.cons rfl (fun K hK => ?_) AllReadyH.nil
            go_simp
            clear x_h0 x_h1 x_h2 z_h0 z_h1 z_h2 l_h
            have k_h : Blk (((U57.setCell ⟨h, 0, none⟩ (.int .i64 k')).setCell ⟨h, 1, none⟩ (.int .i64 n')).setCell ⟨h, 2, none⟩ (.string s')) h 27 #[.int .i64 k', .int .i64 n', .string s'] := ((k_h.set_ 0 _).set_ 1 _).set_ 2 _
            have k_g : Blk (((U57.setCell ⟨h, 0, none⟩ (.int .i64 k')).setCell ⟨h, 1, none⟩ (.int .i64 n')).setCell ⟨h, 2, none⟩ (.string s')) _ _ _ := ((k_g.far (p := ⟨h, 0, none⟩) n_hg _).far (p := ⟨h, 1, none⟩) n_hg _).far (p := ⟨h, 2, none⟩) n_hg _
            have k_q : Blk (((U57.setCell ⟨h, 0, none⟩ (.int .i64 k')).setCell ⟨h, 1, none⟩ (.int .i64 n')).setCell ⟨h, 2, none⟩ (.string s')) _ _ _ := ((k_q.far (p := ⟨h, 0, none⟩) (by show w.heap.size ≠ h; omega) _).far (p := ⟨h, 1, none⟩) (by show w.heap.size ≠ h; omega) _).far (p := ⟨h, 2, none⟩) (by show w.heap.size ≠ h; omega) _
            have k_p : Blk (((U57.setCell ⟨h, 0, none⟩ (.int .i64 k')).setCell ⟨h, 1, none⟩ (.int .i64 n')).setCell ⟨h, 2, none⟩ (.string s')) _ _ _ := ((k_p.far (p := ⟨h, 0, none⟩) (by show w.heap.size + 1 ≠ h; omega) _).far (p := ⟨h, 1, none⟩) (by show w.heap.size + 1 ≠ h; omega) _).far (p := ⟨h, 2, none⟩) (by show w.heap.size + 1 ≠ h; omega) _
            have bb : Below w.heap.size w (((U57.setCell ⟨h, 0, none⟩ (.int .i64 k')).setCell ⟨h, 1, none⟩ (.int .i64 n')).setCell ⟨h, 2, none⟩ (.string s')) := ((bb.setCell (p := ⟨h, 0, none⟩) (by show _ ≤ h; omega) _).setCell (p := ⟨h, 1, none⟩) (by show _ ≤ h; omega) _).setCell (p := ⟨h, 2, none⟩) (by show _ ≤ h; omega) _
            refine hK.out _ _ ⟨by rw [k_q.cell]; rfl, by rw [k_q.cell]; rfl, by rw [k_q.cell]; rfl, by rw [k_p.cell]; rfl, by rw [k_p.cell]; rfl, by rw [k_p.cell]; rfl⟩ (fun hHeld => ?_)
            clear hK K
            generalize (((U57.setCell ⟨h, 0, none⟩ (.int .i64 k')).setCell ⟨h, 1, none⟩ (.int .i64 n')).setCell ⟨h, 2, none⟩ (.string s')) = U58 at *
            (try simp only [Act.put, List.setIfInBounds_toArray, List.set_cons_zero, List.set_cons_succ])
            refine wpAnyH_done (by kernel_rfl) ?_ _
            go_wp2_with fail
            go_meet
            exact ⟨g, h, rfl, rfl, ⟨bb, k_g, k_h⟩⟩
  case rest =>
  obtain ⟨g, h, rfl, rfl, hT2⟩ := hcut
  go_upto_region 7 with fail
  go_cut [8] (fun s8 wx => s8 = .bool sm ∧ Two w wx g h k n s k' n' s')
  case first =>
    obtain ⟨bb, k_x, k_y⟩ := hT2
    have hT2 : Two w _ g h k n s k' n' s' := ⟨bb, k_x, k_y⟩
    have x_x0 := c30 k_x
    have x_x1 := c31 k_x
    have x_x2 := c32 k_x
    have l_x := k_x.lt
    have x_y0 := c30 k_y
    have x_y1 := c31 k_y
    have x_y2 := c32 k_y
    have l_y := k_y.lt
    have hsm := hsm.out
    obtain ⟨g1, hg1⟩ : ∃ b, (k == k') = b := ⟨_, rfl⟩
    obtain ⟨g2, hg2⟩ : ∃ b, (n == n') = b := ⟨_, rfl⟩
    obtain ⟨g3, hg3⟩ : ∃ b, (s.toList == s'.toList) = b := ⟨_, rfl⟩
    rw [hg1, hg2, hg3] at hsm
    subst hsm
    cases g1 <;> cases g2 <;> cases g3
    all_goals
      go_wp2_with fail
      go_meet
      exact ⟨by simp, hT2⟩
  case rest =>
  obtain ⟨rfl, hT3⟩ := hcut
  clear hT2
  go_upto_region 8 with fail
  go_cut [9] (fun s9 wx => s9 = .bool sz ∧ Two w wx g h k n s k' n' s')
  case first =>
    have hsz := hsz.out
    subst hsz
    obtain ⟨bb, k_x, k_y⟩ := hT3
    have x_x0 := c30 k_x
    have x_x1 := c31 k_x
    have x_x2 := c32 k_x
    have l_x := k_x.lt
    have x_y0 := c30 k_y
    have x_y1 := c31 k_y
    have x_y2 := c32 k_y
    have l_y := k_y.lt
    cases sm
    · skip
      go_wp2_with fail
      refine (HZ.out _).mono ?_
      rintro e w2 ⟨rfl, b2⟩
      clear x_x0 x_x1 x_x2 l_x x_y0 x_y1 x_y2 l_y
      have k_x := k_x.below b2 k_x.lt
      have k_y := k_y.below b2 k_y.lt
      have bb := bb.trans (b2.mono bb.size)
      have x_x0 : w2.cell? ⟨g, 0, none⟩ = some (.int .i64 k) := by rw [k_x.cell]; rfl
      have x_x1 : w2.cell? ⟨g, 1, none⟩ = some (.int .i64 n) := by rw [k_x.cell]; rfl
      have x_x2 : w2.cell? ⟨g, 2, none⟩ = some (.string s) := by rw [k_x.cell]; rfl
      have l_x := k_x.lt
      have x_y0 : w2.cell? ⟨h, 0, none⟩ = some (.int .i64 k') := by rw [k_y.cell]; rfl
      have x_y1 : w2.cell? ⟨h, 1, none⟩ = some (.int .i64 n') := by rw [k_y.cell]; rfl
      have x_y2 : w2.cell? ⟨h, 2, none⟩ = some (.string s') := by rw [k_y.cell]; rfl
      have l_y := k_y.lt
      cases zx
      · skip
        go_wp2_with fail
        go_meet
        exact ⟨by simp, ⟨bb, k_x, k_y⟩⟩
      · skip
        go_wp2_with fail
        refine (HZ'.out _).mono ?_
        rintro e w3 ⟨rfl, b3⟩
        clear x_x0 x_x1 x_x2 l_x x_y0 x_y1 x_y2 l_y
        have k_x := k_x.below b3 k_x.lt
        have k_y := k_y.below b3 k_y.lt
        have bb := bb.trans (b3.mono bb.size)
        have x_x0 : w3.cell? ⟨g, 0, none⟩ = some (.int .i64 k) := by rw [k_x.cell]; rfl
        have x_x1 : w3.cell? ⟨g, 1, none⟩ = some (.int .i64 n) := by rw [k_x.cell]; rfl
        have x_x2 : w3.cell? ⟨g, 2, none⟩ = some (.string s) := by rw [k_x.cell]; rfl
        have l_x := k_x.lt
        have x_y0 : w3.cell? ⟨h, 0, none⟩ = some (.int .i64 k') := by rw [k_y.cell]; rfl
        have x_y1 : w3.cell? ⟨h, 1, none⟩ = some (.int .i64 n') := by rw [k_y.cell]; rfl
        have x_y2 : w3.cell? ⟨h, 2, none⟩ = some (.string s') := by rw [k_y.cell]; rfl
        have l_y := k_y.lt
        go_wp2_with fail
        go_meet
        exact ⟨by simp, ⟨bb, k_x, k_y⟩⟩
    · skip
      go_wp2_with fail
      go_meet
      exact ⟨by simp, ⟨bb, k_x, k_y⟩⟩
  case rest =>
  obtain ⟨rfl, ⟨bb, k_x, k_y⟩⟩ := hcut
  clear hT3
  go_upto_region 9 with fail
  have hp := HP.out
  have hp2 : (p != 6) = true := by simp [bne, hp]
  have q1 : (st == st) = true := by simp
  have q2 : (sm == sm) = true := by simp
  have hK := hK.out
  clear hsm hsz HZ HZ' HCA HCB HCF s1 s2
  have Q_x0 := fun d os => cell_regrown (c30 k_x) d os
  have Q_x1 := fun d os => cell_regrown (c31 k_x) d os
  have Q_x2 := fun d os => cell_regrown (c32 k_x) d os
  have Q_y0 := fun d os => cell_regrown (c30 k_y) d os
  have Q_y1 := fun d os => cell_regrown (c31 k_y) d os
  have Q_y2 := fun d os => cell_regrown (c32 k_y) d os
  have up := fun d os => bb.trans ((below_regrown _ d os).mono bb.size)
  have D1 := fun W d os => Calls.regrown_of (H1.out (grow (redrawn W d) os))
  have D2 := fun W d os => Calls.regrown_of (H2.out (grow (redrawn W d) os))
  have D3 := fun W d os => Calls.regrown_of (H3.out (grow (redrawn W d) os))
  have D4 := fun W d os => Calls.regrown_of (H4.out (grow (redrawn W d) os))
  have D5 := fun W d os => Calls.regrown_of (H5.out (grow (redrawn W d) os))
  have D6 := fun W d os => Calls.regrown_of (H6.out (grow (redrawn W d) os))
  have D7 := fun W d os => Calls.regrown_of (H7.out (grow (redrawn W d) os))
  have D8 := fun W d os => Calls.regrown_of (H8.out (grow (redrawn W d) os))
  have hfd := fun W => field_k p q r W
  cases sz
  · skip
    refine wp_region_quiet_below (by kernel_rfl) (by kernel_rfl) ?_
    repeat (first | go_big_quiet_step (first | with_reducible exact D1 _ _ _ | with_reducible exact D2 _ _ _ | with_reducible exact D3 _ _ _ | with_reducible exact D4 _ _ _ | with_reducible exact D5 _ _ _ | with_reducible exact D6 _ _ _ | with_reducible exact D7 _ _ _ | with_reducible exact D8 _ _ _) | quiet_step (first | with_reducible exact D1 _ _ _ | with_reducible exact D2 _ _ _ | with_reducible exact D3 _ _ _ | with_reducible exact D4 _ _ _ | with_reducible exact D5 _ _ _ | with_reducible exact D6 _ _ _ | with_reducible exact D7 _ _ _ | with_reducible exact D8 _ _ _))
    refine wpQuiet_nil ?_
    intro _ hw'
    obtain ⟨⟨dq, osq⟩, hw''⟩ := hw'
    subst hw''
    have be := up dq osq
    clear D1 D2 D3 D4 D5 D6 D7 D8 up Q_x0 Q_x1 Q_x2 Q_y0 Q_y1 Q_y2
    go_wp2
    go_ret
    exact ⟨by simp, be⟩
  · skip
    obtain ⟨rfl, rfl, rfl, rfl⟩ := hK rfl
    refine wp_region_quiet_below (by kernel_rfl) (by kernel_rfl) ?_
    repeat (first | go_big_quiet_step (first | with_reducible exact D1 _ _ _ | with_reducible exact D2 _ _ _ | with_reducible exact D3 _ _ _ | with_reducible exact D4 _ _ _ | with_reducible exact D5 _ _ _ | with_reducible exact D6 _ _ _ | with_reducible exact D7 _ _ _ | with_reducible exact D8 _ _ _) | quiet_step (first | with_reducible exact D1 _ _ _ | with_reducible exact D2 _ _ _ | with_reducible exact D3 _ _ _ | with_reducible exact D4 _ _ _ | with_reducible exact D5 _ _ _ | with_reducible exact D6 _ _ _ | with_reducible exact D7 _ _ _ | with_reducible exact D8 _ _ _))
    refine wpQuiet_nil ?_
    intro _ hw'
    obtain ⟨⟨dq, osq⟩, hw''⟩ := hw'
    subst hw''
    have be := up dq osq
    clear D1 D2 D3 D4 D5 D6 D7 D8 up Q_x0 Q_x1 Q_x2 Q_y0 Q_y1 Q_y2
    go_wp2
    go_ret
    exact ⟨by simp, be⟩
set_option maxHeartbeats 8000000 in
set_option maxRecDepth 100000 in
theorem same_big1 (K N : Int) (a : Option Addr) (na ca : Nat) (K' N' : Int) (b : Option Addr) (nb cb : Nat) (w : World) (hT : Tb w) (h1 : 2000 < na)  :
    Calls Tryd.prog 6 #[SeedV K N a na ca, SeedV K' N' b nb cb] w fun e w' => e = .returned (.bool true) ∧ Below w.heap.size w w' := by
  have HT := Lib.hid hT
  clear hT
  have s1 : decide ((2000 : Int) < (na : Int)) = true := by simp; omega
  go_enter Tryd.func6, Tryd.ntmps6
  go_wp2_with fail
  have k_q := (Blk.new w 24 #[.int .i64 K, .int .i64 N, .slice a na ca]).alloc (.cells #[.int .i64 K', .int .i64 N', .slice b nb cb] 24)
  have k_p := Blk.new (w.alloc (.cells #[.int .i64 K, .int .i64 N, .slice a na ca] 24)) 24 #[.int .i64 K', .int .i64 N', .slice b nb cb]
  rw [World.size_alloc] at k_p
  have bb : Below w.heap.size w _ := (((Below.refl _ _).alloc (Nat.le_refl _) (.cells #[.int .i64 K, .int .i64 N, .slice a na ca] 24)).alloc (by simp) (.cells #[.int .i64 K', .int .i64 N', .slice b nb cb] 24))
  generalize ((w.alloc (.cells #[.int .i64 K, .int .i64 N, .slice a na ca] 24)).alloc (.cells #[.int .i64 K', .int .i64 N', .slice b nb cb] 24)) = W0 at *
  refine (fit_any _ (HT.out.below bb)).mono ?_
  rintro e w1 ⟨rfl, b1⟩
  have k_q := k_q.below b1 k_q.lt
  have k_p := k_p.below b1 k_p.lt
  have bb := bb.trans (b1.mono bb.size)
  have x_q0 : w1.cell? ⟨w.heap.size, 0, none⟩ = some (.int .i64 K) := by rw [k_q.cell]; rfl
  have x_q1 : w1.cell? ⟨w.heap.size, 1, none⟩ = some (.int .i64 N) := by rw [k_q.cell]; rfl
  have x_q2 : w1.cell? ⟨w.heap.size, 2, none⟩ = some (.slice a na ca) := by rw [k_q.cell]; rfl
  have l_q := k_q.lt
  have x_p0 : w1.cell? ⟨w.heap.size + 1, 0, none⟩ = some (.int .i64 K') := by rw [k_p.cell]; rfl
  have x_p1 : w1.cell? ⟨w.heap.size + 1, 1, none⟩ = some (.int .i64 N') := by rw [k_p.cell]; rfl
  have x_p2 : w1.cell? ⟨w.heap.size + 1, 2, none⟩ = some (.slice b nb cb) := by rw [k_p.cell]; rfl
  have l_p := k_p.lt
  go_wp2_with fail
  go_ret
  exact ⟨by simp, bb⟩
set_option maxHeartbeats 8000000 in
set_option maxRecDepth 100000 in
theorem same_big2 (K N : Int) (a : Option Addr) (na ca : Nat) (K' N' : Int) (b : Option Addr) (nb cb : Nat) (w : World) (hT : Tb w) (h1 : na ≤ 2000) (h2 : 2000 < nb) :
    Calls Tryd.prog 6 #[SeedV K N a na ca, SeedV K' N' b nb cb] w fun e w' => e = .returned (.bool true) ∧ Below w.heap.size w w' := by
  have HT := Lib.hid hT
  clear hT
  have s1 : decide ((2000 : Int) < (na : Int)) = false := by simp; omega
  have s2 : decide ((2000 : Int) < (nb : Int)) = true := by simp; omega
  go_enter Tryd.func6, Tryd.ntmps6
  go_wp2_with fail
  have k_q := (Blk.new w 24 #[.int .i64 K, .int .i64 N, .slice a na ca]).alloc (.cells #[.int .i64 K', .int .i64 N', .slice b nb cb] 24)
  have k_p := Blk.new (w.alloc (.cells #[.int .i64 K, .int .i64 N, .slice a na ca] 24)) 24 #[.int .i64 K', .int .i64 N', .slice b nb cb]
  rw [World.size_alloc] at k_p
  have bb : Below w.heap.size w _ := (((Below.refl _ _).alloc (Nat.le_refl _) (.cells #[.int .i64 K, .int .i64 N, .slice a na ca] 24)).alloc (by simp) (.cells #[.int .i64 K', .int .i64 N', .slice b nb cb] 24))
  generalize ((w.alloc (.cells #[.int .i64 K, .int .i64 N, .slice a na ca] 24)).alloc (.cells #[.int .i64 K', .int .i64 N', .slice b nb cb] 24)) = W0 at *
  refine (fit_any _ (HT.out.below bb)).mono ?_
  rintro e w1 ⟨rfl, b1⟩
  have k_q := k_q.below b1 k_q.lt
  have k_p := k_p.below b1 k_p.lt
  have bb := bb.trans (b1.mono bb.size)
  have x_q0 : w1.cell? ⟨w.heap.size, 0, none⟩ = some (.int .i64 K) := by rw [k_q.cell]; rfl
  have x_q1 : w1.cell? ⟨w.heap.size, 1, none⟩ = some (.int .i64 N) := by rw [k_q.cell]; rfl
  have x_q2 : w1.cell? ⟨w.heap.size, 2, none⟩ = some (.slice a na ca) := by rw [k_q.cell]; rfl
  have l_q := k_q.lt
  have x_p0 : w1.cell? ⟨w.heap.size + 1, 0, none⟩ = some (.int .i64 K') := by rw [k_p.cell]; rfl
  have x_p1 : w1.cell? ⟨w.heap.size + 1, 1, none⟩ = some (.int .i64 N') := by rw [k_p.cell]; rfl
  have x_p2 : w1.cell? ⟨w.heap.size + 1, 2, none⟩ = some (.slice b nb cb) := by rw [k_p.cell]; rfl
  have l_p := k_p.lt
  go_wp2_with fail
  go_ret
  exact ⟨by simp, bb⟩
end Go.Proofs.YtjkboelcpihphaaDoor
