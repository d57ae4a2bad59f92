/- The walk of the statement ValueBinary. -/
import Derived.Test.YtjkboelcpihphaaDoorValL
import Derived.Deep.DeepCutAuto
import Derived.Deep.RegionHeld3
import Derived.Outline
set_option linter.unusedVariables false
set_option linter.unusedSimpArgs false
namespace Go.Proofs.YtjkboelcpihphaaDoor
open Go.RowKit

theorem Blk.wset3 {W : World} {g : Nat} {t : TypeId} {a b c : Value} (h : Blk W g t #[a, b, c]) (x y z : Value) : Blk (((W.setCell ⟨g, 0, none⟩ x).setCell ⟨g, 1, none⟩ y).setCell ⟨g, 2, none⟩ z) g t #[x, y, z] := ((h.set_ 0 x).set_ 1 y).set_ 2 z
theorem Blk.wfar3 {W : World} {g : Nat} {t : TypeId} {cs : Array Value} (h : Blk W g t cs) (f : Nat) (hne : g ≠ f) (x y z : Value) : Blk (((W.setCell ⟨f, 0, none⟩ x).setCell ⟨f, 1, none⟩ y).setCell ⟨f, 2, none⟩ z) g t cs := ((h.far (p := ⟨f, 0, none⟩) hne x).far (p := ⟨f, 1, none⟩) hne y).far (p := ⟨f, 2, none⟩) hne z
theorem wbelow3 {B : Nat} {w W : World} (h : Below B w W) (f : Nat) (hf : B ≤ f) (x y z : Value) : Below B w (((W.setCell ⟨f, 0, none⟩ x).setCell ⟨f, 1, none⟩ y).setCell ⟨f, 2, none⟩ z) := ((h.setCell (p := ⟨f, 0, none⟩) hf x).setCell (p := ⟨f, 1, none⟩) hf y).setCell (p := ⟨f, 2, none⟩) hf z
theorem wcells {W : World} {g : Nat} {t : TypeId} {a b c : Value} (h : Blk W g t #[a, b, c]) : W.cell? ⟨g, 0, none⟩ = some a ∧ W.cell? ⟨g, 1, none⟩ = some b ∧ W.cell? ⟨g, 2, none⟩ = some c := ⟨c30 h, c31 h, c32 h⟩
theorem wcells6 {W : World} {g g' : Nat} {t t' : TypeId} {a b c a' b' c' : Value} (h : Blk W g t #[a, b, c]) (h' : Blk W g' t' #[a', b', c']) : W.cell? ⟨g, 0, none⟩ = some a ∧ W.cell? ⟨g, 1, none⟩ = some b ∧ W.cell? ⟨g, 2, none⟩ = some c ∧ W.cell? ⟨g', 0, none⟩ = some a' ∧ W.cell? ⟨g', 1, none⟩ = some b' ∧ W.cell? ⟨g', 2, none⟩ = some c' := ⟨c30 h, c31 h, c32 h, c30 h', c31 h', c32 h'⟩
/-- At blocks g and h lie two values of the call's own. -/
structure Two (w W : World) (g h : Nat) (k n : Int) (s : ByteArray) (k' n' : Int) (s' : ByteArray) : Prop where
  bel : Below w.heap.size w W
  kg : Blk W g 27 #[.int .i64 k, .int .i64 n, .string s]
  kh : Blk W h 27 #[.int .i64 k', .int .i64 n', .string s']

set_option maxHeartbeats 8000000 in
set_option maxRecDepth 100000 in
theorem binary_two (K N : Int) (a : Option Addr) (na ca : Nat) (K' N' : Int) (b : Option Addr) (nb cb : Nat) (op : Int) (k n : Int) (s : ByteArray) (k' n' : Int) (s' : ByteArray) (ot : ByteArray) (r1 r2 e1 : Int) (r3 : ByteArray) (w : World) (hna : na ≤ 2000) (hnb : nb ≤ 2000)
    (CF : ∀ W, Below w.heap.size w W → Calls Tryd.prog 9 #[] W (Ret (.bool true) W))
    (CA : ∀ W, Below w.heap.size w W → Calls Tryd.prog 10 #[SeedV K N a na ca] W (Ret (VS k n s) W))
    (CB : ∀ W, Below w.heap.size w W → Calls Tryd.prog 10 #[SeedV K' N' b nb cb] W (Ret (VS k' n' s') W))
    (C1 : ∀ W, Below w.heap.size w W → Calls Tryd.prog 11 #[.string ot, VS k n s, VS k' n' s'] W (Ret (.tuple #[VS r1 r2 r3, .int .i64 e1]) W))
    (C2 : ∀ W, Below w.heap.size w W → Calls Tryd.prog 28 #[.string ot, VS k n s, VS k' n' s'] W (Ret (.tuple #[VS r1 r2 r3, .int .i64 e1]) W))
    (HO : Hid (((wrap64 (op.tmod 12 + 12)).tmod 12 = 0 ∧ ot = ⟨#[43]⟩) ∨ ((wrap64 (op.tmod 12 + 12)).tmod 12 = 1 ∧ ot = ⟨#[45]⟩) ∨ ((wrap64 (op.tmod 12 + 12)).tmod 12 = 2 ∧ ot = ⟨#[42]⟩) ∨ ((wrap64 (op.tmod 12 + 12)).tmod 12 = 3 ∧ ot = ⟨#[47]⟩) ∨ ((wrap64 (op.tmod 12 + 12)).tmod 12 = 4 ∧ ot = ⟨#[37]⟩) ∨ ((wrap64 (op.tmod 12 + 12)).tmod 12 = 5 ∧ ot = ⟨#[60]⟩) ∨ ((wrap64 (op.tmod 12 + 12)).tmod 12 = 6 ∧ ot = ⟨#[62]⟩) ∨ ((wrap64 (op.tmod 12 + 12)).tmod 12 = 7 ∧ ot = ⟨#[60, 61]⟩) ∨ ((wrap64 (op.tmod 12 + 12)).tmod 12 = 8 ∧ ot = ⟨#[62, 61]⟩) ∨ ((wrap64 (op.tmod 12 + 12)).tmod 12 = 9 ∧ ot = ⟨#[61, 61, 61]⟩) ∨ ((wrap64 (op.tmod 12 + 12)).tmod 12 = 10 ∧ ot = ⟨#[33, 61, 61]⟩) ∨ ((wrap64 (op.tmod 12 + 12)).tmod 12 = 11 ∧ ot = ⟨#[63]⟩))) :
    Calls Tryd.prog 7 #[SeedV K N a na ca, SeedV K' N' b nb cb, .int .i64 op] w fun e w' => e = .returned (.bool true) ∧ Below w.heap.size w w' := by
  have HCF := Lib.hid CF
  have HCA := Lib.hid CA
  have HCB := Lib.hid CB
  have H1 := Lib.hid C1
  have H2 := Lib.hid C2
  clear CF CA CB C1 C2
  have s1 : decide ((2000 : Int) < (na : Int)) = false := by simp; omega
  have s2 : decide ((2000 : Int) < (nb : Int)) = false := by simp; omega
  go_enter Tryd.func7, Tryd.ntmps7
  go_wp2_with fail
  have k_q := (Blk.new w 24 #[.int .i64 K, .int .i64 N, .slice a na ca]).alloc (.cells #[.int .i64 K', .int .i64 N', .slice b nb cb] 24)
  have k_p := Blk.new (w.alloc (.cells #[.int .i64 K, .int .i64 N, .slice a na ca] 24)) 24 #[.int .i64 K', .int .i64 N', .slice b nb cb]
  rw [World.size_alloc] at k_p
  have bb : Below w.heap.size w _ := (((Below.refl _ _).alloc (Nat.le_refl _) (.cells #[.int .i64 K, .int .i64 N, .slice a na ca] 24)).alloc (by simp) (.cells #[.int .i64 K', .int .i64 N', .slice b nb cb] 24))
  generalize ((w.alloc (.cells #[.int .i64 K, .int .i64 N, .slice a na ca] 24)).alloc (.cells #[.int .i64 K', .int .i64 N', .slice b nb cb] 24)) = W0 at *
  refine (HCF.out _ bb).mono ?_
  rintro e w1 ⟨rfl, b1⟩
  have k_q := k_q.below b1 k_q.lt
  have k_p := k_p.below b1 k_p.lt
  have bb := bb.trans (b1.mono bb.size)
  have x_q0 : w1.cell? ⟨w.heap.size, 0, none⟩ = some (.int .i64 K) := by rw [k_q.cell]; rfl
  have x_q1 : w1.cell? ⟨w.heap.size, 1, none⟩ = some (.int .i64 N) := by rw [k_q.cell]; rfl
  have x_q2 : w1.cell? ⟨w.heap.size, 2, none⟩ = some (.slice a na ca) := by rw [k_q.cell]; rfl
  have l_q := k_q.lt
  have x_p0 : w1.cell? ⟨w.heap.size + 1, 0, none⟩ = some (.int .i64 K') := by rw [k_p.cell]; rfl
  have x_p1 : w1.cell? ⟨w.heap.size + 1, 1, none⟩ = some (.int .i64 N') := by rw [k_p.cell]; rfl
  have x_p2 : w1.cell? ⟨w.heap.size + 1, 2, none⟩ = some (.slice b nb cb) := by rw [k_p.cell]; rfl
  have l_p := k_p.lt
  go_upto_region 5 with fail
  go_cut [7, 8] (fun s5 s6 wx => ∃ g h, s5 = .pointer (some ⟨g, 0, none⟩) ∧ s6 = .pointer (some ⟨h, 0, none⟩) ∧ Two w wx g h k n s k' n' s')
  case first =>
    have k_q := k_q.drew
    have k_p := k_p.drew
    have bb := bb.drew
    refine wp_region_held_drew (S := (fun W => W.cell? ⟨w.heap.size, 0, none⟩ = some (.int .i64 K) ∧ W.cell? ⟨w.heap.size, 1, none⟩ = some (.int .i64 N) ∧ W.cell? ⟨w.heap.size, 2, none⟩ = some (.slice a na ca) ∧ W.cell? ⟨w.heap.size + 1, 0, none⟩ = some (.int .i64 K') ∧ W.cell? ⟨w.heap.size + 1, 1, none⟩ = some (.int .i64 N') ∧ W.cell? ⟨w.heap.size + 1, 2, none⟩ = some (.slice b nb cb))) (by kernel_rfl) (wcells6 k_q k_p) (fun hHeld => ?_)
    generalize w1.drew = D0 at *
    refine wpAnyH_take (i := 0) (oi := ?oo900) (v := ?vv900) ?hi900 (by kernel_rfl) (by kernel_rfl) (by kernel_rfl) ?hq900 ?hy900 (by assumption) ?hh900
    case hi900 => (simp only [List.getElem?_toArray, List.getElem?_cons_succ, List.getElem?_cons_zero]; rfl)
    case hq900 => exact fun _ _ _ h => h
    case hy900 => exact Or.inl ⟨by rfl, by (intro W hSw; (try dsimp only at hSw); go_simp; (try with_reducible rfl))⟩
    (try simp only [Act.put, List.setIfInBounds_toArray, List.set_cons_zero, List.set_cons_succ])
    refine wpAnyH_take (i := 2) (oi := ?oo901) (v := ?vv901) ?hi901 (by kernel_rfl) (by kernel_rfl) (by kernel_rfl) ?hq901 ?hy901 (by assumption) ?hh901
    case hi901 => (simp only [List.getElem?_toArray, List.getElem?_cons_succ, List.getElem?_cons_zero]; rfl)
    case hq901 => exact fun _ _ _ h => h
    case hy901 => exact Or.inl ⟨by rfl, by (intro W hSw; (try dsimp only at hSw); go_simp; (try with_reducible rfl))⟩
    (try simp only [Act.put, List.setIfInBounds_toArray, List.set_cons_zero, List.set_cons_succ])
    refine wpAnyH_ready (rs := [1, 4, 5]) (by kernel_rfl) (by simp) ?_
    refine AllReadyH.cons rfl (fun K hK => ?_) (AllReadyH.cons rfl (fun K hK => ?_) (AllReadyH.cons rfl (fun K hK => ?_) AllReadyH.nil))
    · go_simp
      go_at_call 10
      (with_reducible refine (HCA.out _ bb).mono ?_)
      rintro e U1 ⟨rfl, bq⟩
      have k_q := k_q.below bq k_q.lt
      have k_p := k_p.below bq k_p.lt
      have bb := bb.trans (bq.mono bb.size)
      clear bq
      refine hK.out _ _ (wcells6 k_q k_p) (fun hHeld => ?_)
      clear hK K
      (try simp only [Act.put, List.setIfInBounds_toArray, List.set_cons_zero, List.set_cons_succ])
      refine wpAnyH_ready (rs := [3, 4, 5]) (by kernel_rfl) (by simp) ?_
      refine AllReadyH.cons rfl (fun K hK => ?_) (AllReadyH.cons rfl (fun K hK => ?_) (AllReadyH.cons rfl (fun K hK => ?_) AllReadyH.nil))
      · go_simp
        go_at_call 10
        (with_reducible refine (HCB.out _ bb).mono ?_)
        rintro e U2 ⟨rfl, bq⟩
        have k_q := k_q.below bq k_q.lt
        have k_p := k_p.below bq k_p.lt
        have bb := bb.trans (bq.mono bb.size)
        clear bq
        refine hK.out _ _ (wcells6 k_q k_p) (fun hHeld => ?_)
        clear hK K
        (try simp only [Act.put, List.setIfInBounds_toArray, List.set_cons_zero, List.set_cons_succ])
        refine wpAnyH_ready (rs := [4, 5]) (by kernel_rfl) (by simp) ?_
        refine AllReadyH.cons rfl (fun K hK => ?_) (AllReadyH.cons rfl (fun K hK => ?_) AllReadyH.nil)
        · go_simp
          have n_qg := k_q.lt
          have n_pg := k_p.lt
          have n_wg := bb.size
          have k_q := k_q.alloc (.cells #[.int .i64 0, .int .i64 0, .string ⟨#[]⟩] 27)
          have k_p := k_p.alloc (.cells #[.int .i64 0, .int .i64 0, .string ⟨#[]⟩] 27)
          have k_g := Blk.new U2 27 #[.int .i64 0, .int .i64 0, .string ⟨#[]⟩]
          have bb := bb.alloc bb.size (.cells #[.int .i64 0, .int .i64 0, .string ⟨#[]⟩] 27)
          refine hK.out _ _ (wcells6 k_q k_p) (fun hHeld => ?_)
          clear hK K
          generalize U2.alloc (.cells #[.int .i64 0, .int .i64 0, .string ⟨#[]⟩] 27) = U3 at *
          generalize U2.heap.size = g at *
          (try simp only [Act.put, List.setIfInBounds_toArray, List.set_cons_zero, List.set_cons_succ])
          refine wpAnyH_ready (rs := [5]) (by kernel_rfl) (by simp) ?_
          refine AllReadyH.cons rfl (fun K hK => ?_) AllReadyH.nil
          · go_simp
            have n_qh := k_q.lt
            have n_ph := k_p.lt
            have n_gh := k_g.lt
            have n_wh := bb.size
            have k_q := k_q.alloc (.cells #[.int .i64 0, .int .i64 0, .string ⟨#[]⟩] 27)
            have k_p := k_p.alloc (.cells #[.int .i64 0, .int .i64 0, .string ⟨#[]⟩] 27)
            have k_g := k_g.alloc (.cells #[.int .i64 0, .int .i64 0, .string ⟨#[]⟩] 27)
            have k_h := Blk.new U3 27 #[.int .i64 0, .int .i64 0, .string ⟨#[]⟩]
            have bb := bb.alloc bb.size (.cells #[.int .i64 0, .int .i64 0, .string ⟨#[]⟩] 27)
            refine hK.out _ _ (wcells6 k_q k_p) (fun hHeld => ?_)
            clear hK K
            generalize U3.alloc (.cells #[.int .i64 0, .int .i64 0, .string ⟨#[]⟩] 27) = U4 at *
            generalize U3.heap.size = h at *
            have n_hg : g ≠ h := by omega
            have n_gh : h ≠ g := by omega
            (try simp only [Act.put, List.setIfInBounds_toArray, List.set_cons_zero, List.set_cons_succ])
            obtain ⟨x0, x1, x2⟩ := wcells k_g
            have z0 := k_g.frozen 0
            have z1 := k_g.frozen 1
            have z2 := k_g.frozen 2
            have l0 := k_g.lt
            refine wpAnyH_ready (rs := [6]) (by kernel_rfl) (by simp) ?_
            refine AllReadyH.cons rfl (fun K hK => ?_) AllReadyH.nil
            go_simp
            clear x0 x1 x2 z0 z1 z2 l0
            have k_g := k_g.wset3 (.int .i64 k) (.int .i64 n) (.string s)
            have k_h := k_h.wfar3 g n_gh (.int .i64 k) (.int .i64 n) (.string s)
            have k_q := k_q.wfar3 g (by omega) (.int .i64 k) (.int .i64 n) (.string s)
            have k_p := k_p.wfar3 g (by omega) (.int .i64 k) (.int .i64 n) (.string s)
            have bb := wbelow3 bb g (by omega) (.int .i64 k) (.int .i64 n) (.string s)
            refine hK.out _ _ (wcells6 k_q k_p) (fun hHeld => ?_)
            clear hK K
            generalize (((U4.setCell ⟨g, 0, none⟩ (.int .i64 k)).setCell ⟨g, 1, none⟩ (.int .i64 n)).setCell ⟨g, 2, none⟩ (.string s)) = U5 at *
            (try simp only [Act.put, List.setIfInBounds_toArray, List.set_cons_zero, List.set_cons_succ])
            obtain ⟨x0, x1, x2⟩ := wcells k_h
            have z0 := k_h.frozen 0
            have z1 := k_h.frozen 1
            have z2 := k_h.frozen 2
            have l0 := k_h.lt
            refine wpAnyH_ready (rs := [7]) (by kernel_rfl) (by simp) ?_
            refine AllReadyH.cons rfl (fun K hK => ?_) AllReadyH.nil
            go_simp
            clear x0 x1 x2 z0 z1 z2 l0
            have k_h := k_h.wset3 (.int .i64 k') (.int .i64 n') (.string s')
            have k_g := k_g.wfar3 h n_hg (.int .i64 k') (.int .i64 n') (.string s')
            have k_q := k_q.wfar3 h (by omega) (.int .i64 k') (.int .i64 n') (.string s')
            have k_p := k_p.wfar3 h (by omega) (.int .i64 k') (.int .i64 n') (.string s')
            have bb := wbelow3 bb h (by omega) (.int .i64 k') (.int .i64 n') (.string s')
            refine hK.out _ _ (wcells6 k_q k_p) (fun hHeld => ?_)
            clear hK K
            generalize (((U5.setCell ⟨h, 0, none⟩ (.int .i64 k')).setCell ⟨h, 1, none⟩ (.int .i64 n')).setCell ⟨h, 2, none⟩ (.string s')) = U6 at *
            (try simp only [Act.put, List.setIfInBounds_toArray, List.set_cons_zero, List.set_cons_succ])
            refine wpAnyH_done (by kernel_rfl) ?_ _
            go_wp2_with fail
            go_meet
            exact ⟨g, h, rfl, rfl, ⟨bb, k_g, k_h⟩⟩
        · go_simp
          have n_qh := k_q.lt
          have n_ph := k_p.lt
          have n_wh := bb.size
          have k_q := k_q.alloc (.cells #[.int .i64 0, .int .i64 0, .string ⟨#[]⟩] 27)
          have k_p := k_p.alloc (.cells #[.int .i64 0, .int .i64 0, .string ⟨#[]⟩] 27)
          have k_h := Blk.new U2 27 #[.int .i64 0, .int .i64 0, .string ⟨#[]⟩]
          have bb := bb.alloc bb.size (.cells #[.int .i64 0, .int .i64 0, .string ⟨#[]⟩] 27)
          refine hK.out _ _ (wcells6 k_q k_p) (fun hHeld => ?_)
          clear hK K
          generalize U2.alloc (.cells #[.int .i64 0, .int .i64 0, .string ⟨#[]⟩] 27) = U7 at *
          generalize U2.heap.size = h at *
          (try simp only [Act.put, List.setIfInBounds_toArray, List.set_cons_zero, List.set_cons_succ])
          refine wpAnyH_ready (rs := [4]) (by kernel_rfl) (by simp) ?_
          refine AllReadyH.cons rfl (fun K hK => ?_) AllReadyH.nil
          · go_simp
            have n_qg := k_q.lt
            have n_pg := k_p.lt
            have n_hg := k_h.lt
            have n_wg := bb.size
            have k_q := k_q.alloc (.cells #[.int .i64 0, .int .i64 0, .string ⟨#[]⟩] 27)
            have k_p := k_p.alloc (.cells #[.int .i64 0, .int .i64 0, .string ⟨#[]⟩] 27)
            have k_h := k_h.alloc (.cells #[.int .i64 0, .int .i64 0, .string ⟨#[]⟩] 27)
            have k_g := Blk.new U7 27 #[.int .i64 0, .int .i64 0, .string ⟨#[]⟩]
            have bb := bb.alloc bb.size (.cells #[.int .i64 0, .int .i64 0, .string ⟨#[]⟩] 27)
            refine hK.out _ _ (wcells6 k_q k_p) (fun hHeld => ?_)
            clear hK K
            generalize U7.alloc (.cells #[.int .i64 0, .int .i64 0, .string ⟨#[]⟩] 27) = U8 at *
            generalize U7.heap.size = g at *
            have n_gh : h ≠ g := by omega
            have n_hg : g ≠ h := by omega
            (try simp only [Act.put, List.setIfInBounds_toArray, List.set_cons_zero, List.set_cons_succ])
            obtain ⟨x0, x1, x2⟩ := wcells k_g
            have z0 := k_g.frozen 0
            have z1 := k_g.frozen 1
            have z2 := k_g.frozen 2
            have l0 := k_g.lt
            refine wpAnyH_ready (rs := [6]) (by kernel_rfl) (by simp) ?_
            refine AllReadyH.cons rfl (fun K hK => ?_) AllReadyH.nil
            go_simp
            clear x0 x1 x2 z0 z1 z2 l0
            have k_g := k_g.wset3 (.int .i64 k) (.int .i64 n) (.string s)
            have k_h := k_h.wfar3 g n_gh (.int .i64 k) (.int .i64 n) (.string s)
            have k_q := k_q.wfar3 g (by omega) (.int .i64 k) (.int .i64 n) (.string s)
            have k_p := k_p.wfar3 g (by omega) (.int .i64 k) (.int .i64 n) (.string s)
            have bb := wbelow3 bb g (by omega) (.int .i64 k) (.int .i64 n) (.string s)
            refine hK.out _ _ (wcells6 k_q k_p) (fun hHeld => ?_)
            clear hK K
            generalize (((U8.setCell ⟨g, 0, none⟩ (.int .i64 k)).setCell ⟨g, 1, none⟩ (.int .i64 n)).setCell ⟨g, 2, none⟩ (.string s)) = U9 at *
            (try simp only [Act.put, List.setIfInBounds_toArray, List.set_cons_zero, List.set_cons_succ])
            obtain ⟨x0, x1, x2⟩ := wcells k_h
            have z0 := k_h.frozen 0
            have z1 := k_h.frozen 1
            have z2 := k_h.frozen 2
            have l0 := k_h.lt
            refine wpAnyH_ready (rs := [7]) (by kernel_rfl) (by simp) ?_
            refine AllReadyH.cons rfl (fun K hK => ?_) AllReadyH.nil
            go_simp
            clear x0 x1 x2 z0 z1 z2 l0
            have k_h := k_h.wset3 (.int .i64 k') (.int .i64 n') (.string s')
            have k_g := k_g.wfar3 h n_hg (.int .i64 k') (.int .i64 n') (.string s')
            have k_q := k_q.wfar3 h (by omega) (.int .i64 k') (.int .i64 n') (.string s')
            have k_p := k_p.wfar3 h (by omega) (.int .i64 k') (.int .i64 n') (.string s')
            have bb := wbelow3 bb h (by omega) (.int .i64 k') (.int .i64 n') (.string s')
            refine hK.out _ _ (wcells6 k_q k_p) (fun hHeld => ?_)
            clear hK K
            generalize (((U9.setCell ⟨h, 0, none⟩ (.int .i64 k')).setCell ⟨h, 1, none⟩ (.int .i64 n')).setCell ⟨h, 2, none⟩ (.string s')) = U10 at *
            (try simp only [Act.put, List.setIfInBounds_toArray, List.set_cons_zero, List.set_cons_succ])
            refine wpAnyH_done (by kernel_rfl) ?_ _
            go_wp2_with fail
            go_meet
            exact ⟨g, h, rfl, rfl, ⟨bb, k_g, k_h⟩⟩
      · go_simp
        have n_qg := k_q.lt
        have n_pg := k_p.lt
        have n_wg := bb.size
        have k_q := k_q.alloc (.cells #[.int .i64 0, .int .i64 0, .string ⟨#[]⟩] 27)
        have k_p := k_p.alloc (.cells #[.int .i64 0, .int .i64 0, .string ⟨#[]⟩] 27)
        have k_g := Blk.new U1 27 #[.int .i64 0, .int .i64 0, .string ⟨#[]⟩]
        have bb := bb.alloc bb.size (.cells #[.int .i64 0, .int .i64 0, .string ⟨#[]⟩] 27)
        refine hK.out _ _ (wcells6 k_q k_p) (fun hHeld => ?_)
        clear hK K
        generalize U1.alloc (.cells #[.int .i64 0, .int .i64 0, .string ⟨#[]⟩] 27) = U11 at *
        generalize U1.heap.size = g at *
        (try simp only [Act.put, List.setIfInBounds_toArray, List.set_cons_zero, List.set_cons_succ])
        refine wpAnyH_ready (rs := [3, 5]) (by kernel_rfl) (by simp) ?_
        refine AllReadyH.cons rfl (fun K hK => ?_) (AllReadyH.cons rfl (fun K hK => ?_) AllReadyH.nil)
        · go_simp
          go_at_call 10
          (with_reducible refine (HCB.out _ bb).mono ?_)
          rintro e U12 ⟨rfl, bq⟩
          have k_q := k_q.below bq k_q.lt
          have k_p := k_p.below bq k_p.lt
          have k_g := k_g.below bq k_g.lt
          have bb := bb.trans (bq.mono bb.size)
          clear bq
          refine hK.out _ _ (wcells6 k_q k_p) (fun hHeld => ?_)
          clear hK K
          (try simp only [Act.put, List.setIfInBounds_toArray, List.set_cons_zero, List.set_cons_succ])
          refine wpAnyH_ready (rs := [5]) (by kernel_rfl) (by simp) ?_
          refine AllReadyH.cons rfl (fun K hK => ?_) AllReadyH.nil
          · go_simp
            have n_qh := k_q.lt
            have n_ph := k_p.lt
            have n_gh := k_g.lt
            have n_wh := bb.size
            have k_q := k_q.alloc (.cells #[.int .i64 0, .int .i64 0, .string ⟨#[]⟩] 27)
            have k_p := k_p.alloc (.cells #[.int .i64 0, .int .i64 0, .string ⟨#[]⟩] 27)
            have k_g := k_g.alloc (.cells #[.int .i64 0, .int .i64 0, .string ⟨#[]⟩] 27)
            have k_h := Blk.new U12 27 #[.int .i64 0, .int .i64 0, .string ⟨#[]⟩]
            have bb := bb.alloc bb.size (.cells #[.int .i64 0, .int .i64 0, .string ⟨#[]⟩] 27)
            refine hK.out _ _ (wcells6 k_q k_p) (fun hHeld => ?_)
            clear hK K
            generalize U12.alloc (.cells #[.int .i64 0, .int .i64 0, .string ⟨#[]⟩] 27) = U13 at *
            generalize U12.heap.size = h at *
            have n_hg : g ≠ h := by omega
            have n_gh : h ≠ g := by omega
            (try simp only [Act.put, List.setIfInBounds_toArray, List.set_cons_zero, List.set_cons_succ])
            obtain ⟨x0, x1, x2⟩ := wcells k_g
            have z0 := k_g.frozen 0
            have z1 := k_g.frozen 1
            have z2 := k_g.frozen 2
            have l0 := k_g.lt
            refine wpAnyH_ready (rs := [6]) (by kernel_rfl) (by simp) ?_
            refine AllReadyH.cons rfl (fun K hK => ?_) AllReadyH.nil
            go_simp
            clear x0 x1 x2 z0 z1 z2 l0
            have k_g := k_g.wset3 (.int .i64 k) (.int .i64 n) (.string s)
            have k_h := k_h.wfar3 g n_gh (.int .i64 k) (.int .i64 n) (.string s)
            have k_q := k_q.wfar3 g (by omega) (.int .i64 k) (.int .i64 n) (.string s)
            have k_p := k_p.wfar3 g (by omega) (.int .i64 k) (.int .i64 n) (.string s)
            have bb := wbelow3 bb g (by omega) (.int .i64 k) (.int .i64 n) (.string s)
            refine hK.out _ _ (wcells6 k_q k_p) (fun hHeld => ?_)
            clear hK K
            generalize (((U13.setCell ⟨g, 0, none⟩ (.int .i64 k)).setCell ⟨g, 1, none⟩ (.int .i64 n)).setCell ⟨g, 2, none⟩ (.string s)) = U14 at *
            (try simp only [Act.put, List.setIfInBounds_toArray, List.set_cons_zero, List.set_cons_succ])
            obtain ⟨x0, x1, x2⟩ := wcells k_h
            have z0 := k_h.frozen 0
            have z1 := k_h.frozen 1
            have z2 := k_h.frozen 2
            have l0 := k_h.lt
            refine wpAnyH_ready (rs := [7]) (by kernel_rfl) (by simp) ?_
            refine AllReadyH.cons rfl (fun K hK => ?_) AllReadyH.nil
            go_simp
            clear x0 x1 x2 z0 z1 z2 l0
            have k_h := k_h.wset3 (.int .i64 k') (.int .i64 n') (.string s')
            have k_g := k_g.wfar3 h n_hg (.int .i64 k') (.int .i64 n') (.string s')
            have k_q := k_q.wfar3 h (by omega) (.int .i64 k') (.int .i64 n') (.string s')
            have k_p := k_p.wfar3 h (by omega) (.int .i64 k') (.int .i64 n') (.string s')
            have bb := wbelow3 bb h (by omega) (.int .i64 k') (.int .i64 n') (.string s')
            refine hK.out _ _ (wcells6 k_q k_p) (fun hHeld => ?_)
            clear hK K
            generalize (((U14.setCell ⟨h, 0, none⟩ (.int .i64 k')).setCell ⟨h, 1, none⟩ (.int .i64 n')).setCell ⟨h, 2, none⟩ (.string s')) = U15 at *
            (try simp only [Act.put, List.setIfInBounds_toArray, List.set_cons_zero, List.set_cons_succ])
            refine wpAnyH_done (by kernel_rfl) ?_ _
            go_wp2_with fail
            go_meet
            exact ⟨g, h, rfl, rfl, ⟨bb, k_g, k_h⟩⟩
        · go_simp
          have n_qh := k_q.lt
          have n_ph := k_p.lt
          have n_gh := k_g.lt
          have n_wh := bb.size
          have k_q := k_q.alloc (.cells #[.int .i64 0, .int .i64 0, .string ⟨#[]⟩] 27)
          have k_p := k_p.alloc (.cells #[.int .i64 0, .int .i64 0, .string ⟨#[]⟩] 27)
          have k_g := k_g.alloc (.cells #[.int .i64 0, .int .i64 0, .string ⟨#[]⟩] 27)
          have k_h := Blk.new U11 27 #[.int .i64 0, .int .i64 0, .string ⟨#[]⟩]
          have bb := bb.alloc bb.size (.cells #[.int .i64 0, .int .i64 0, .string ⟨#[]⟩] 27)
          refine hK.out _ _ (wcells6 k_q k_p) (fun hHeld => ?_)
          clear hK K
          generalize U11.alloc (.cells #[.int .i64 0, .int .i64 0, .string ⟨#[]⟩] 27) = U16 at *
          generalize U11.heap.size = h at *
          have n_hg : g ≠ h := by omega
          have n_gh : h ≠ g := by omega
          (try simp only [Act.put, List.setIfInBounds_toArray, List.set_cons_zero, List.set_cons_succ])
          refine wpAnyH_ready (rs := [3]) (by kernel_rfl) (by simp) ?_
          refine AllReadyH.cons rfl (fun K hK => ?_) AllReadyH.nil
          · go_simp
            go_at_call 10
            (with_reducible refine (HCB.out _ bb).mono ?_)
            rintro e U17 ⟨rfl, bq⟩
            have k_q := k_q.below bq k_q.lt
            have k_p := k_p.below bq k_p.lt
            have k_g := k_g.below bq k_g.lt
            have k_h := k_h.below bq k_h.lt
            have bb := bb.trans (bq.mono bb.size)
            clear bq
            refine hK.out _ _ (wcells6 k_q k_p) (fun hHeld => ?_)
            clear hK K
            (try simp only [Act.put, List.setIfInBounds_toArray, List.set_cons_zero, List.set_cons_succ])
            obtain ⟨x0, x1, x2⟩ := wcells k_g
            have z0 := k_g.frozen 0
            have z1 := k_g.frozen 1
            have z2 := k_g.frozen 2
            have l0 := k_g.lt
            refine wpAnyH_ready (rs := [6]) (by kernel_rfl) (by simp) ?_
            refine AllReadyH.cons rfl (fun K hK => ?_) AllReadyH.nil
            go_simp
            clear x0 x1 x2 z0 z1 z2 l0
            have k_g := k_g.wset3 (.int .i64 k) (.int .i64 n) (.string s)
            have k_h := k_h.wfar3 g n_gh (.int .i64 k) (.int .i64 n) (.string s)
            have k_q := k_q.wfar3 g (by omega) (.int .i64 k) (.int .i64 n) (.string s)
            have k_p := k_p.wfar3 g (by omega) (.int .i64 k) (.int .i64 n) (.string s)
            have bb := wbelow3 bb g (by omega) (.int .i64 k) (.int .i64 n) (.string s)
            refine hK.out _ _ (wcells6 k_q k_p) (fun hHeld => ?_)
            clear hK K
            generalize (((U17.setCell ⟨g, 0, none⟩ (.int .i64 k)).setCell ⟨g, 1, none⟩ (.int .i64 n)).setCell ⟨g, 2, none⟩ (.string s)) = U18 at *
            (try simp only [Act.put, List.setIfInBounds_toArray, List.set_cons_zero, List.set_cons_succ])
            obtain ⟨x0, x1, x2⟩ := wcells k_h
            have z0 := k_h.frozen 0
            have z1 := k_h.frozen 1
            have z2 := k_h.frozen 2
            have l0 := k_h.lt
            refine wpAnyH_ready (rs := [7]) (by kernel_rfl) (by simp) ?_
            refine AllReadyH.cons rfl (fun K hK => ?_) AllReadyH.nil
            go_simp
            clear x0 x1 x2 z0 z1 z2 l0
            have k_h := k_h.wset3 (.int .i64 k') (.int .i64 n') (.string s')
            have k_g := k_g.wfar3 h n_hg (.int .i64 k') (.int .i64 n') (.string s')
            have k_q := k_q.wfar3 h (by omega) (.int .i64 k') (.int .i64 n') (.string s')
            have k_p := k_p.wfar3 h (by omega) (.int .i64 k') (.int .i64 n') (.string s')
            have bb := wbelow3 bb h (by omega) (.int .i64 k') (.int .i64 n') (.string s')
            refine hK.out _ _ (wcells6 k_q k_p) (fun hHeld => ?_)
            clear hK K
            generalize (((U18.setCell ⟨h, 0, none⟩ (.int .i64 k')).setCell ⟨h, 1, none⟩ (.int .i64 n')).setCell ⟨h, 2, none⟩ (.string s')) = U19 at *
            (try simp only [Act.put, List.setIfInBounds_toArray, List.set_cons_zero, List.set_cons_succ])
            refine wpAnyH_done (by kernel_rfl) ?_ _
            go_wp2_with fail
            go_meet
            exact ⟨g, h, rfl, rfl, ⟨bb, k_g, k_h⟩⟩
      · go_simp
        have n_qh := k_q.lt
        have n_ph := k_p.lt
        have n_wh := bb.size
        have k_q := k_q.alloc (.cells #[.int .i64 0, .int .i64 0, .string ⟨#[]⟩] 27)
        have k_p := k_p.alloc (.cells #[.int .i64 0, .int .i64 0, .string ⟨#[]⟩] 27)
        have k_h := Blk.new U1 27 #[.int .i64 0, .int .i64 0, .string ⟨#[]⟩]
        have bb := bb.alloc bb.size (.cells #[.int .i64 0, .int .i64 0, .string ⟨#[]⟩] 27)
        refine hK.out _ _ (wcells6 k_q k_p) (fun hHeld => ?_)
        clear hK K
        generalize U1.alloc (.cells #[.int .i64 0, .int .i64 0, .string ⟨#[]⟩] 27) = U20 at *
        generalize U1.heap.size = h at *
        (try simp only [Act.put, List.setIfInBounds_toArray, List.set_cons_zero, List.set_cons_succ])
        refine wpAnyH_ready (rs := [3, 4]) (by kernel_rfl) (by simp) ?_
        refine AllReadyH.cons rfl (fun K hK => ?_) (AllReadyH.cons rfl (fun K hK => ?_) AllReadyH.nil)
        · go_simp
          go_at_call 10
          (with_reducible refine (HCB.out _ bb).mono ?_)
          rintro e U21 ⟨rfl, bq⟩
          have k_q := k_q.below bq k_q.lt
          have k_p := k_p.below bq k_p.lt
          have k_h := k_h.below bq k_h.lt
          have bb := bb.trans (bq.mono bb.size)
          clear bq
          refine hK.out _ _ (wcells6 k_q k_p) (fun hHeld => ?_)
          clear hK K
          (try simp only [Act.put, List.setIfInBounds_toArray, List.set_cons_zero, List.set_cons_succ])
          refine wpAnyH_ready (rs := [4]) (by kernel_rfl) (by simp) ?_
          refine AllReadyH.cons rfl (fun K hK => ?_) AllReadyH.nil
          · go_simp
            have n_qg := k_q.lt
            have n_pg := k_p.lt
            have n_hg := k_h.lt
            have n_wg := bb.size
            have k_q := k_q.alloc (.cells #[.int .i64 0, .int .i64 0, .string ⟨#[]⟩] 27)
            have k_p := k_p.alloc (.cells #[.int .i64 0, .int .i64 0, .string ⟨#[]⟩] 27)
            have k_h := k_h.alloc (.cells #[.int .i64 0, .int .i64 0, .string ⟨#[]⟩] 27)
            have k_g := Blk.new U21 27 #[.int .i64 0, .int .i64 0, .string ⟨#[]⟩]
            have bb := bb.alloc bb.size (.cells #[.int .i64 0, .int .i64 0, .string ⟨#[]⟩] 27)
            refine hK.out _ _ (wcells6 k_q k_p) (fun hHeld => ?_)
            clear hK K
            generalize U21.alloc (.cells #[.int .i64 0, .int .i64 0, .string ⟨#[]⟩] 27) = U22 at *
            generalize U21.heap.size = g at *
            have n_gh : h ≠ g := by omega
            have n_hg : g ≠ h := by omega
            (try simp only [Act.put, List.setIfInBounds_toArray, List.set_cons_zero, List.set_cons_succ])
            obtain ⟨x0, x1, x2⟩ := wcells k_g
            have z0 := k_g.frozen 0
            have z1 := k_g.frozen 1
            have z2 := k_g.frozen 2
            have l0 := k_g.lt
            refine wpAnyH_ready (rs := [6]) (by kernel_rfl) (by simp) ?_
            refine AllReadyH.cons rfl (fun K hK => ?_) AllReadyH.nil
            go_simp
            clear x0 x1 x2 z0 z1 z2 l0
            have k_g := k_g.wset3 (.int .i64 k) (.int .i64 n) (.string s)
            have k_h := k_h.wfar3 g n_gh (.int .i64 k) (.int .i64 n) (.string s)
            have k_q := k_q.wfar3 g (by omega) (.int .i64 k) (.int .i64 n) (.string s)
            have k_p := k_p.wfar3 g (by omega) (.int .i64 k) (.int .i64 n) (.string s)
            have bb := wbelow3 bb g (by omega) (.int .i64 k) (.int .i64 n) (.string s)
            refine hK.out _ _ (wcells6 k_q k_p) (fun hHeld => ?_)
            clear hK K
            generalize (((U22.setCell ⟨g, 0, none⟩ (.int .i64 k)).setCell ⟨g, 1, none⟩ (.int .i64 n)).setCell ⟨g, 2, none⟩ (.string s)) = U23 at *
            (try simp only [Act.put, List.setIfInBounds_toArray, List.set_cons_zero, List.set_cons_succ])
            obtain ⟨x0, x1, x2⟩ := wcells k_h
            have z0 := k_h.frozen 0
            have z1 := k_h.frozen 1
            have z2 := k_h.frozen 2
            have l0 := k_h.lt
            refine wpAnyH_ready (rs := [7]) (by kernel_rfl) (by simp) ?_
            refine AllReadyH.cons rfl (fun K hK => ?_) AllReadyH.nil
            go_simp
            clear x0 x1 x2 z0 z1 z2 l0
            have k_h := k_h.wset3 (.int .i64 k') (.int .i64 n') (.string s')
            have k_g := k_g.wfar3 h n_hg (.int .i64 k') (.int .i64 n') (.string s')
            have k_q := k_q.wfar3 h (by omega) (.int .i64 k') (.int .i64 n') (.string s')
            have k_p := k_p.wfar3 h (by omega) (.int .i64 k') (.int .i64 n') (.string s')
            have bb := wbelow3 bb h (by omega) (.int .i64 k') (.int .i64 n') (.string s')
            refine hK.out _ _ (wcells6 k_q k_p) (fun hHeld => ?_)
            clear hK K
            generalize (((U23.setCell ⟨h, 0, none⟩ (.int .i64 k')).setCell ⟨h, 1, none⟩ (.int .i64 n')).setCell ⟨h, 2, none⟩ (.string s')) = U24 at *
            (try simp only [Act.put, List.setIfInBounds_toArray, List.set_cons_zero, List.set_cons_succ])
            refine wpAnyH_done (by kernel_rfl) ?_ _
            go_wp2_with fail
            go_meet
            exact ⟨g, h, rfl, rfl, ⟨bb, k_g, k_h⟩⟩
        · go_simp
          have n_qg := k_q.lt
          have n_pg := k_p.lt
          have n_hg := k_h.lt
          have n_wg := bb.size
          have k_q := k_q.alloc (.cells #[.int .i64 0, .int .i64 0, .string ⟨#[]⟩] 27)
          have k_p := k_p.alloc (.cells #[.int .i64 0, .int .i64 0, .string ⟨#[]⟩] 27)
          have k_h := k_h.alloc (.cells #[.int .i64 0, .int .i64 0, .string ⟨#[]⟩] 27)
          have k_g := Blk.new U20 27 #[.int .i64 0, .int .i64 0, .string ⟨#[]⟩]
          have bb := bb.alloc bb.size (.cells #[.int .i64 0, .int .i64 0, .string ⟨#[]⟩] 27)
          refine hK.out _ _ (wcells6 k_q k_p) (fun hHeld => ?_)
          clear hK K
          generalize U20.alloc (.cells #[.int .i64 0, .int .i64 0, .string ⟨#[]⟩] 27) = U25 at *
          generalize U20.heap.size = g at *
          have n_gh : h ≠ g := by omega
          have n_hg : g ≠ h := by omega
          (try simp only [Act.put, List.setIfInBounds_toArray, List.set_cons_zero, List.set_cons_succ])
          refine wpAnyH_ready (rs := [3]) (by kernel_rfl) (by simp) ?_
          refine AllReadyH.cons rfl (fun K hK => ?_) AllReadyH.nil
          · go_simp
            go_at_call 10
            (with_reducible refine (HCB.out _ bb).mono ?_)
            rintro e U26 ⟨rfl, bq⟩
            have k_q := k_q.below bq k_q.lt
            have k_p := k_p.below bq k_p.lt
            have k_g := k_g.below bq k_g.lt
            have k_h := k_h.below bq k_h.lt
            have bb := bb.trans (bq.mono bb.size)
            clear bq
            refine hK.out _ _ (wcells6 k_q k_p) (fun hHeld => ?_)
            clear hK K
            (try simp only [Act.put, List.setIfInBounds_toArray, List.set_cons_zero, List.set_cons_succ])
            obtain ⟨x0, x1, x2⟩ := wcells k_g
            have z0 := k_g.frozen 0
            have z1 := k_g.frozen 1
            have z2 := k_g.frozen 2
            have l0 := k_g.lt
            refine wpAnyH_ready (rs := [6]) (by kernel_rfl) (by simp) ?_
            refine AllReadyH.cons rfl (fun K hK => ?_) AllReadyH.nil
            go_simp
            clear x0 x1 x2 z0 z1 z2 l0
            have k_g := k_g.wset3 (.int .i64 k) (.int .i64 n) (.string s)
            have k_h := k_h.wfar3 g n_gh (.int .i64 k) (.int .i64 n) (.string s)
            have k_q := k_q.wfar3 g (by omega) (.int .i64 k) (.int .i64 n) (.string s)
            have k_p := k_p.wfar3 g (by omega) (.int .i64 k) (.int .i64 n) (.string s)
            have bb := wbelow3 bb g (by omega) (.int .i64 k) (.int .i64 n) (.string s)
            refine hK.out _ _ (wcells6 k_q k_p) (fun hHeld => ?_)
            clear hK K
            generalize (((U26.setCell ⟨g, 0, none⟩ (.int .i64 k)).setCell ⟨g, 1, none⟩ (.int .i64 n)).setCell ⟨g, 2, none⟩ (.string s)) = U27 at *
            (try simp only [Act.put, List.setIfInBounds_toArray, List.set_cons_zero, List.set_cons_succ])
            obtain ⟨x0, x1, x2⟩ := wcells k_h
            have z0 := k_h.frozen 0
            have z1 := k_h.frozen 1
            have z2 := k_h.frozen 2
            have l0 := k_h.lt
            refine wpAnyH_ready (rs := [7]) (by kernel_rfl) (by simp) ?_
            refine AllReadyH.cons rfl (fun K hK => ?_) AllReadyH.nil
            go_simp
            clear x0 x1 x2 z0 z1 z2 l0
            have k_h := k_h.wset3 (.int .i64 k') (.int .i64 n') (.string s')
            have k_g := k_g.wfar3 h n_hg (.int .i64 k') (.int .i64 n') (.string s')
            have k_q := k_q.wfar3 h (by omega) (.int .i64 k') (.int .i64 n') (.string s')
            have k_p := k_p.wfar3 h (by omega) (.int .i64 k') (.int .i64 n') (.string s')
            have bb := wbelow3 bb h (by omega) (.int .i64 k') (.int .i64 n') (.string s')
            refine hK.out _ _ (wcells6 k_q k_p) (fun hHeld => ?_)
            clear hK K
            generalize (((U27.setCell ⟨h, 0, none⟩ (.int .i64 k')).setCell ⟨h, 1, none⟩ (.int .i64 n')).setCell ⟨h, 2, none⟩ (.string s')) = U28 at *
            (try simp only [Act.put, List.setIfInBounds_toArray, List.set_cons_zero, List.set_cons_succ])
            refine wpAnyH_done (by kernel_rfl) ?_ _
            go_wp2_with fail
            go_meet
            exact ⟨g, h, rfl, rfl, ⟨bb, k_g, k_h⟩⟩
    · go_simp
      have n_qg := k_q.lt
      have n_pg := k_p.lt
      have n_wg := bb.size
      have k_q := k_q.alloc (.cells #[.int .i64 0, .int .i64 0, .string ⟨#[]⟩] 27)
      have k_p := k_p.alloc (.cells #[.int .i64 0, .int .i64 0, .string ⟨#[]⟩] 27)
      have k_g := Blk.new D0 27 #[.int .i64 0, .int .i64 0, .string ⟨#[]⟩]
      have bb := bb.alloc bb.size (.cells #[.int .i64 0, .int .i64 0, .string ⟨#[]⟩] 27)
      refine hK.out _ _ (wcells6 k_q k_p) (fun hHeld => ?_)
      clear hK K
      generalize D0.alloc (.cells #[.int .i64 0, .int .i64 0, .string ⟨#[]⟩] 27) = U29 at *
      generalize D0.heap.size = g at *
      (try simp only [Act.put, List.setIfInBounds_toArray, List.set_cons_zero, List.set_cons_succ])
      refine wpAnyH_ready (rs := [1, 5]) (by kernel_rfl) (by simp) ?_
      refine AllReadyH.cons rfl (fun K hK => ?_) (AllReadyH.cons rfl (fun K hK => ?_) AllReadyH.nil)
      · go_simp
        go_at_call 10
        (with_reducible refine (HCA.out _ bb).mono ?_)
        rintro e U30 ⟨rfl, bq⟩
        have k_q := k_q.below bq k_q.lt
        have k_p := k_p.below bq k_p.lt
        have k_g := k_g.below bq k_g.lt
        have bb := bb.trans (bq.mono bb.size)
        clear bq
        refine hK.out _ _ (wcells6 k_q k_p) (fun hHeld => ?_)
        clear hK K
        (try simp only [Act.put, List.setIfInBounds_toArray, List.set_cons_zero, List.set_cons_succ])
        refine wpAnyH_ready (rs := [3, 5]) (by kernel_rfl) (by simp) ?_
        refine AllReadyH.cons rfl (fun K hK => ?_) (AllReadyH.cons rfl (fun K hK => ?_) AllReadyH.nil)
        · go_simp
          go_at_call 10
          (with_reducible refine (HCB.out _ bb).mono ?_)
          rintro e U31 ⟨rfl, bq⟩
          have k_q := k_q.below bq k_q.lt
          have k_p := k_p.below bq k_p.lt
          have k_g := k_g.below bq k_g.lt
          have bb := bb.trans (bq.mono bb.size)
          clear bq
          refine hK.out _ _ (wcells6 k_q k_p) (fun hHeld => ?_)
          clear hK K
          (try simp only [Act.put, List.setIfInBounds_toArray, List.set_cons_zero, List.set_cons_succ])
          refine wpAnyH_ready (rs := [5]) (by kernel_rfl) (by simp) ?_
          refine AllReadyH.cons rfl (fun K hK => ?_) AllReadyH.nil
          · go_simp
            have n_qh := k_q.lt
            have n_ph := k_p.lt
            have n_gh := k_g.lt
            have n_wh := bb.size
            have k_q := k_q.alloc (.cells #[.int .i64 0, .int .i64 0, .string ⟨#[]⟩] 27)
            have k_p := k_p.alloc (.cells #[.int .i64 0, .int .i64 0, .string ⟨#[]⟩] 27)
            have k_g := k_g.alloc (.cells #[.int .i64 0, .int .i64 0, .string ⟨#[]⟩] 27)
            have k_h := Blk.new U31 27 #[.int .i64 0, .int .i64 0, .string ⟨#[]⟩]
            have bb := bb.alloc bb.size (.cells #[.int .i64 0, .int .i64 0, .string ⟨#[]⟩] 27)
            refine hK.out _ _ (wcells6 k_q k_p) (fun hHeld => ?_)
            clear hK K
            generalize U31.alloc (.cells #[.int .i64 0, .int .i64 0, .string ⟨#[]⟩] 27) = U32 at *
            generalize U31.heap.size = h at *
            have n_hg : g ≠ h := by omega
            have n_gh : h ≠ g := by omega
            (try simp only [Act.put, List.setIfInBounds_toArray, List.set_cons_zero, List.set_cons_succ])
            obtain ⟨x0, x1, x2⟩ := wcells k_g
            have z0 := k_g.frozen 0
            have z1 := k_g.frozen 1
            have z2 := k_g.frozen 2
            have l0 := k_g.lt
            refine wpAnyH_ready (rs := [6]) (by kernel_rfl) (by simp) ?_
            refine AllReadyH.cons rfl (fun K hK => ?_) AllReadyH.nil
            go_simp
            clear x0 x1 x2 z0 z1 z2 l0
            have k_g := k_g.wset3 (.int .i64 k) (.int .i64 n) (.string s)
            have k_h := k_h.wfar3 g n_gh (.int .i64 k) (.int .i64 n) (.string s)
            have k_q := k_q.wfar3 g (by omega) (.int .i64 k) (.int .i64 n) (.string s)
            have k_p := k_p.wfar3 g (by omega) (.int .i64 k) (.int .i64 n) (.string s)
            have bb := wbelow3 bb g (by omega) (.int .i64 k) (.int .i64 n) (.string s)
            refine hK.out _ _ (wcells6 k_q k_p) (fun hHeld => ?_)
            clear hK K
            generalize (((U32.setCell ⟨g, 0, none⟩ (.int .i64 k)).setCell ⟨g, 1, none⟩ (.int .i64 n)).setCell ⟨g, 2, none⟩ (.string s)) = U33 at *
            (try simp only [Act.put, List.setIfInBounds_toArray, List.set_cons_zero, List.set_cons_succ])
            obtain ⟨x0, x1, x2⟩ := wcells k_h
            have z0 := k_h.frozen 0
            have z1 := k_h.frozen 1
            have z2 := k_h.frozen 2
            have l0 := k_h.lt
            refine wpAnyH_ready (rs := [7]) (by kernel_rfl) (by simp) ?_
            refine AllReadyH.cons rfl (fun K hK => ?_) AllReadyH.nil
            go_simp
            clear x0 x1 x2 z0 z1 z2 l0
            have k_h := k_h.wset3 (.int .i64 k') (.int .i64 n') (.string s')
            have k_g := k_g.wfar3 h n_hg (.int .i64 k') (.int .i64 n') (.string s')
            have k_q := k_q.wfar3 h (by omega) (.int .i64 k') (.int .i64 n') (.string s')
            have k_p := k_p.wfar3 h (by omega) (.int .i64 k') (.int .i64 n') (.string s')
            have bb := wbelow3 bb h (by omega) (.int .i64 k') (.int .i64 n') (.string s')
            refine hK.out _ _ (wcells6 k_q k_p) (fun hHeld => ?_)
            clear hK K
            generalize (((U33.setCell ⟨h, 0, none⟩ (.int .i64 k')).setCell ⟨h, 1, none⟩ (.int .i64 n')).setCell ⟨h, 2, none⟩ (.string s')) = U34 at *
            (try simp only [Act.put, List.setIfInBounds_toArray, List.set_cons_zero, List.set_cons_succ])
            refine wpAnyH_done (by kernel_rfl) ?_ _
            go_wp2_with fail
            go_meet
            exact ⟨g, h, rfl, rfl, ⟨bb, k_g, k_h⟩⟩
        · go_simp
          have n_qh := k_q.lt
          have n_ph := k_p.lt
          have n_gh := k_g.lt
          have n_wh := bb.size
          have k_q := k_q.alloc (.cells #[.int .i64 0, .int .i64 0, .string ⟨#[]⟩] 27)
          have k_p := k_p.alloc (.cells #[.int .i64 0, .int .i64 0, .string ⟨#[]⟩] 27)
          have k_g := k_g.alloc (.cells #[.int .i64 0, .int .i64 0, .string ⟨#[]⟩] 27)
          have k_h := Blk.new U30 27 #[.int .i64 0, .int .i64 0, .string ⟨#[]⟩]
          have bb := bb.alloc bb.size (.cells #[.int .i64 0, .int .i64 0, .string ⟨#[]⟩] 27)
          refine hK.out _ _ (wcells6 k_q k_p) (fun hHeld => ?_)
          clear hK K
          generalize U30.alloc (.cells #[.int .i64 0, .int .i64 0, .string ⟨#[]⟩] 27) = U35 at *
          generalize U30.heap.size = h at *
          have n_hg : g ≠ h := by omega
          have n_gh : h ≠ g := by omega
          (try simp only [Act.put, List.setIfInBounds_toArray, List.set_cons_zero, List.set_cons_succ])
          refine wpAnyH_ready (rs := [3]) (by kernel_rfl) (by simp) ?_
          refine AllReadyH.cons rfl (fun K hK => ?_) AllReadyH.nil
          · go_simp
            go_at_call 10
            (with_reducible refine (HCB.out _ bb).mono ?_)
            rintro e U36 ⟨rfl, bq⟩
            have k_q := k_q.below bq k_q.lt
            have k_p := k_p.below bq k_p.lt
            have k_g := k_g.below bq k_g.lt
            have k_h := k_h.below bq k_h.lt
            have bb := bb.trans (bq.mono bb.size)
            clear bq
            refine hK.out _ _ (wcells6 k_q k_p) (fun hHeld => ?_)
            clear hK K
            (try simp only [Act.put, List.setIfInBounds_toArray, List.set_cons_zero, List.set_cons_succ])
            obtain ⟨x0, x1, x2⟩ := wcells k_g
            have z0 := k_g.frozen 0
            have z1 := k_g.frozen 1
            have z2 := k_g.frozen 2
            have l0 := k_g.lt
            refine wpAnyH_ready (rs := [6]) (by kernel_rfl) (by simp) ?_
            refine AllReadyH.cons rfl (fun K hK => ?_) AllReadyH.nil
            go_simp
            clear x0 x1 x2 z0 z1 z2 l0
            have k_g := k_g.wset3 (.int .i64 k) (.int .i64 n) (.string s)
            have k_h := k_h.wfar3 g n_gh (.int .i64 k) (.int .i64 n) (.string s)
            have k_q := k_q.wfar3 g (by omega) (.int .i64 k) (.int .i64 n) (.string s)
            have k_p := k_p.wfar3 g (by omega) (.int .i64 k) (.int .i64 n) (.string s)
            have bb := wbelow3 bb g (by omega) (.int .i64 k) (.int .i64 n) (.string s)
            refine hK.out _ _ (wcells6 k_q k_p) (fun hHeld => ?_)
            clear hK K
            generalize (((U36.setCell ⟨g, 0, none⟩ (.int .i64 k)).setCell ⟨g, 1, none⟩ (.int .i64 n)).setCell ⟨g, 2, none⟩ (.string s)) = U37 at *
            (try simp only [Act.put, List.setIfInBounds_toArray, List.set_cons_zero, List.set_cons_succ])
            obtain ⟨x0, x1, x2⟩ := wcells k_h
            have z0 := k_h.frozen 0
            have z1 := k_h.frozen 1
            have z2 := k_h.frozen 2
            have l0 := k_h.lt
            refine wpAnyH_ready (rs := [7]) (by kernel_rfl) (by simp) ?_
            refine AllReadyH.cons rfl (fun K hK => ?_) AllReadyH.nil
            go_simp
            clear x0 x1 x2 z0 z1 z2 l0
            have k_h := k_h.wset3 (.int .i64 k') (.int .i64 n') (.string s')
            have k_g := k_g.wfar3 h n_hg (.int .i64 k') (.int .i64 n') (.string s')
            have k_q := k_q.wfar3 h (by omega) (.int .i64 k') (.int .i64 n') (.string s')
            have k_p := k_p.wfar3 h (by omega) (.int .i64 k') (.int .i64 n') (.string s')
            have bb := wbelow3 bb h (by omega) (.int .i64 k') (.int .i64 n') (.string s')
            refine hK.out _ _ (wcells6 k_q k_p) (fun hHeld => ?_)
            clear hK K
            generalize (((U37.setCell ⟨h, 0, none⟩ (.int .i64 k')).setCell ⟨h, 1, none⟩ (.int .i64 n')).setCell ⟨h, 2, none⟩ (.string s')) = U38 at *
            (try simp only [Act.put, List.setIfInBounds_toArray, List.set_cons_zero, List.set_cons_succ])
            refine wpAnyH_done (by kernel_rfl) ?_ _
            go_wp2_with fail
            go_meet
            exact ⟨g, h, rfl, rfl, ⟨bb, k_g, k_h⟩⟩
      · go_simp
        have n_qh := k_q.lt
        have n_ph := k_p.lt
        have n_gh := k_g.lt
        have n_wh := bb.size
        have k_q := k_q.alloc (.cells #[.int .i64 0, .int .i64 0, .string ⟨#[]⟩] 27)
        have k_p := k_p.alloc (.cells #[.int .i64 0, .int .i64 0, .string ⟨#[]⟩] 27)
        have k_g := k_g.alloc (.cells #[.int .i64 0, .int .i64 0, .string ⟨#[]⟩] 27)
        have k_h := Blk.new U29 27 #[.int .i64 0, .int .i64 0, .string ⟨#[]⟩]
        have bb := bb.alloc bb.size (.cells #[.int .i64 0, .int .i64 0, .string ⟨#[]⟩] 27)
        refine hK.out _ _ (wcells6 k_q k_p) (fun hHeld => ?_)
        clear hK K
        generalize U29.alloc (.cells #[.int .i64 0, .int .i64 0, .string ⟨#[]⟩] 27) = U39 at *
        generalize U29.heap.size = h at *
        have n_hg : g ≠ h := by omega
        have n_gh : h ≠ g := by omega
        (try simp only [Act.put, List.setIfInBounds_toArray, List.set_cons_zero, List.set_cons_succ])
        refine wpAnyH_ready (rs := [1]) (by kernel_rfl) (by simp) ?_
        refine AllReadyH.cons rfl (fun K hK => ?_) AllReadyH.nil
        · go_simp
          go_at_call 10
          (with_reducible refine (HCA.out _ bb).mono ?_)
          rintro e U40 ⟨rfl, bq⟩
          have k_q := k_q.below bq k_q.lt
          have k_p := k_p.below bq k_p.lt
          have k_g := k_g.below bq k_g.lt
          have k_h := k_h.below bq k_h.lt
          have bb := bb.trans (bq.mono bb.size)
          clear bq
          refine hK.out _ _ (wcells6 k_q k_p) (fun hHeld => ?_)
          clear hK K
          (try simp only [Act.put, List.setIfInBounds_toArray, List.set_cons_zero, List.set_cons_succ])
          refine wpAnyH_ready (rs := [3]) (by kernel_rfl) (by simp) ?_
          refine AllReadyH.cons rfl (fun K hK => ?_) AllReadyH.nil
          · go_simp
            go_at_call 10
            (with_reducible refine (HCB.out _ bb).mono ?_)
            rintro e U41 ⟨rfl, bq⟩
            have k_q := k_q.below bq k_q.lt
            have k_p := k_p.below bq k_p.lt
            have k_g := k_g.below bq k_g.lt
            have k_h := k_h.below bq k_h.lt
            have bb := bb.trans (bq.mono bb.size)
            clear bq
            refine hK.out _ _ (wcells6 k_q k_p) (fun hHeld => ?_)
            clear hK K
            (try simp only [Act.put, List.setIfInBounds_toArray, List.set_cons_zero, List.set_cons_succ])
            obtain ⟨x0, x1, x2⟩ := wcells k_g
            have z0 := k_g.frozen 0
            have z1 := k_g.frozen 1
            have z2 := k_g.frozen 2
            have l0 := k_g.lt
            refine wpAnyH_ready (rs := [6]) (by kernel_rfl) (by simp) ?_
            refine AllReadyH.cons rfl (fun K hK => ?_) AllReadyH.nil
            go_simp
            clear x0 x1 x2 z0 z1 z2 l0
            have k_g := k_g.wset3 (.int .i64 k) (.int .i64 n) (.string s)
            have k_h := k_h.wfar3 g n_gh (.int .i64 k) (.int .i64 n) (.string s)
            have k_q := k_q.wfar3 g (by omega) (.int .i64 k) (.int .i64 n) (.string s)
            have k_p := k_p.wfar3 g (by omega) (.int .i64 k) (.int .i64 n) (.string s)
            have bb := wbelow3 bb g (by omega) (.int .i64 k) (.int .i64 n) (.string s)
            refine hK.out _ _ (wcells6 k_q k_p) (fun hHeld => ?_)
            clear hK K
            generalize (((U41.setCell ⟨g, 0, none⟩ (.int .i64 k)).setCell ⟨g, 1, none⟩ (.int .i64 n)).setCell ⟨g, 2, none⟩ (.string s)) = U42 at *
            (try simp only [Act.put, List.setIfInBounds_toArray, List.set_cons_zero, List.set_cons_succ])
            obtain ⟨x0, x1, x2⟩ := wcells k_h
            have z0 := k_h.frozen 0
            have z1 := k_h.frozen 1
            have z2 := k_h.frozen 2
            have l0 := k_h.lt
            refine wpAnyH_ready (rs := [7]) (by kernel_rfl) (by simp) ?_
            refine AllReadyH.cons rfl (fun K hK => ?_) AllReadyH.nil
            go_simp
            clear x0 x1 x2 z0 z1 z2 l0
            have k_h := k_h.wset3 (.int .i64 k') (.int .i64 n') (.string s')
            have k_g := k_g.wfar3 h n_hg (.int .i64 k') (.int .i64 n') (.string s')
            have k_q := k_q.wfar3 h (by omega) (.int .i64 k') (.int .i64 n') (.string s')
            have k_p := k_p.wfar3 h (by omega) (.int .i64 k') (.int .i64 n') (.string s')
            have bb := wbelow3 bb h (by omega) (.int .i64 k') (.int .i64 n') (.string s')
            refine hK.out _ _ (wcells6 k_q k_p) (fun hHeld => ?_)
            clear hK K
            generalize (((U42.setCell ⟨h, 0, none⟩ (.int .i64 k')).setCell ⟨h, 1, none⟩ (.int .i64 n')).setCell ⟨h, 2, none⟩ (.string s')) = U43 at *
            (try simp only [Act.put, List.setIfInBounds_toArray, List.set_cons_zero, List.set_cons_succ])
            refine wpAnyH_done (by kernel_rfl) ?_ _
            go_wp2_with fail
            go_meet
            exact ⟨g, h, rfl, rfl, ⟨bb, k_g, k_h⟩⟩
    · go_simp
      have n_qh := k_q.lt
      have n_ph := k_p.lt
      have n_wh := bb.size
      have k_q := k_q.alloc (.cells #[.int .i64 0, .int .i64 0, .string ⟨#[]⟩] 27)
      have k_p := k_p.alloc (.cells #[.int .i64 0, .int .i64 0, .string ⟨#[]⟩] 27)
      have k_h := Blk.new D0 27 #[.int .i64 0, .int .i64 0, .string ⟨#[]⟩]
      have bb := bb.alloc bb.size (.cells #[.int .i64 0, .int .i64 0, .string ⟨#[]⟩] 27)
      refine hK.out _ _ (wcells6 k_q k_p) (fun hHeld => ?_)
      clear hK K
      generalize D0.alloc (.cells #[.int .i64 0, .int .i64 0, .string ⟨#[]⟩] 27) = U44 at *
      generalize D0.heap.size = h at *
      (try simp only [Act.put, List.setIfInBounds_toArray, List.set_cons_zero, List.set_cons_succ])
      refine wpAnyH_ready (rs := [1, 4]) (by kernel_rfl) (by simp) ?_
      refine AllReadyH.cons rfl (fun K hK => ?_) (AllReadyH.cons rfl (fun K hK => ?_) AllReadyH.nil)
      · go_simp
        go_at_call 10
        (with_reducible refine (HCA.out _ bb).mono ?_)
        rintro e U45 ⟨rfl, bq⟩
        have k_q := k_q.below bq k_q.lt
        have k_p := k_p.below bq k_p.lt
        have k_h := k_h.below bq k_h.lt
        have bb := bb.trans (bq.mono bb.size)
        clear bq
        refine hK.out _ _ (wcells6 k_q k_p) (fun hHeld => ?_)
        clear hK K
        (try simp only [Act.put, List.setIfInBounds_toArray, List.set_cons_zero, List.set_cons_succ])
        refine wpAnyH_ready (rs := [3, 4]) (by kernel_rfl) (by simp) ?_
        refine AllReadyH.cons rfl (fun K hK => ?_) (AllReadyH.cons rfl (fun K hK => ?_) AllReadyH.nil)
        · go_simp
          go_at_call 10
          (with_reducible refine (HCB.out _ bb).mono ?_)
          rintro e U46 ⟨rfl, bq⟩
          have k_q := k_q.below bq k_q.lt
          have k_p := k_p.below bq k_p.lt
          have k_h := k_h.below bq k_h.lt
          have bb := bb.trans (bq.mono bb.size)
          clear bq
          refine hK.out _ _ (wcells6 k_q k_p) (fun hHeld => ?_)
          clear hK K
          (try simp only [Act.put, List.setIfInBounds_toArray, List.set_cons_zero, List.set_cons_succ])
          refine wpAnyH_ready (rs := [4]) (by kernel_rfl) (by simp) ?_
          refine AllReadyH.cons rfl (fun K hK => ?_) AllReadyH.nil
          · go_simp
            have n_qg := k_q.lt
            have n_pg := k_p.lt
            have n_hg := k_h.lt
            have n_wg := bb.size
            have k_q := k_q.alloc (.cells #[.int .i64 0, .int .i64 0, .string ⟨#[]⟩] 27)
            have k_p := k_p.alloc (.cells #[.int .i64 0, .int .i64 0, .string ⟨#[]⟩] 27)
            have k_h := k_h.alloc (.cells #[.int .i64 0, .int .i64 0, .string ⟨#[]⟩] 27)
            have k_g := Blk.new U46 27 #[.int .i64 0, .int .i64 0, .string ⟨#[]⟩]
            have bb := bb.alloc bb.size (.cells #[.int .i64 0, .int .i64 0, .string ⟨#[]⟩] 27)
            refine hK.out _ _ (wcells6 k_q k_p) (fun hHeld => ?_)
            clear hK K
            generalize U46.alloc (.cells #[.int .i64 0, .int .i64 0, .string ⟨#[]⟩] 27) = U47 at *
            generalize U46.heap.size = g at *
            have n_gh : h ≠ g := by omega
            have n_hg : g ≠ h := by omega
            (try simp only [Act.put, List.setIfInBounds_toArray, List.set_cons_zero, List.set_cons_succ])
            obtain ⟨x0, x1, x2⟩ := wcells k_g
            have z0 := k_g.frozen 0
            have z1 := k_g.frozen 1
            have z2 := k_g.frozen 2
            have l0 := k_g.lt
            refine wpAnyH_ready (rs := [6]) (by kernel_rfl) (by simp) ?_
            refine AllReadyH.cons rfl (fun K hK => ?_) AllReadyH.nil
            go_simp
            clear x0 x1 x2 z0 z1 z2 l0
            have k_g := k_g.wset3 (.int .i64 k) (.int .i64 n) (.string s)
            have k_h := k_h.wfar3 g n_gh (.int .i64 k) (.int .i64 n) (.string s)
            have k_q := k_q.wfar3 g (by omega) (.int .i64 k) (.int .i64 n) (.string s)
            have k_p := k_p.wfar3 g (by omega) (.int .i64 k) (.int .i64 n) (.string s)
            have bb := wbelow3 bb g (by omega) (.int .i64 k) (.int .i64 n) (.string s)
            refine hK.out _ _ (wcells6 k_q k_p) (fun hHeld => ?_)
            clear hK K
            generalize (((U47.setCell ⟨g, 0, none⟩ (.int .i64 k)).setCell ⟨g, 1, none⟩ (.int .i64 n)).setCell ⟨g, 2, none⟩ (.string s)) = U48 at *
            (try simp only [Act.put, List.setIfInBounds_toArray, List.set_cons_zero, List.set_cons_succ])
            obtain ⟨x0, x1, x2⟩ := wcells k_h
            have z0 := k_h.frozen 0
            have z1 := k_h.frozen 1
            have z2 := k_h.frozen 2
            have l0 := k_h.lt
            refine wpAnyH_ready (rs := [7]) (by kernel_rfl) (by simp) ?_
            refine AllReadyH.cons rfl (fun K hK => ?_) AllReadyH.nil
            go_simp
            clear x0 x1 x2 z0 z1 z2 l0
            have k_h := k_h.wset3 (.int .i64 k') (.int .i64 n') (.string s')
            have k_g := k_g.wfar3 h n_hg (.int .i64 k') (.int .i64 n') (.string s')
            have k_q := k_q.wfar3 h (by omega) (.int .i64 k') (.int .i64 n') (.string s')
            have k_p := k_p.wfar3 h (by omega) (.int .i64 k') (.int .i64 n') (.string s')
            have bb := wbelow3 bb h (by omega) (.int .i64 k') (.int .i64 n') (.string s')
            refine hK.out _ _ (wcells6 k_q k_p) (fun hHeld => ?_)
            clear hK K
            generalize (((U48.setCell ⟨h, 0, none⟩ (.int .i64 k')).setCell ⟨h, 1, none⟩ (.int .i64 n')).setCell ⟨h, 2, none⟩ (.string s')) = U49 at *
            (try simp only [Act.put, List.setIfInBounds_toArray, List.set_cons_zero, List.set_cons_succ])
            refine wpAnyH_done (by kernel_rfl) ?_ _
            go_wp2_with fail
            go_meet
            exact ⟨g, h, rfl, rfl, ⟨bb, k_g, k_h⟩⟩
        · go_simp
          have n_qg := k_q.lt
          have n_pg := k_p.lt
          have n_hg := k_h.lt
          have n_wg := bb.size
          have k_q := k_q.alloc (.cells #[.int .i64 0, .int .i64 0, .string ⟨#[]⟩] 27)
          have k_p := k_p.alloc (.cells #[.int .i64 0, .int .i64 0, .string ⟨#[]⟩] 27)
          have k_h := k_h.alloc (.cells #[.int .i64 0, .int .i64 0, .string ⟨#[]⟩] 27)
          have k_g := Blk.new U45 27 #[.int .i64 0, .int .i64 0, .string ⟨#[]⟩]
          have bb := bb.alloc bb.size (.cells #[.int .i64 0, .int .i64 0, .string ⟨#[]⟩] 27)
          refine hK.out _ _ (wcells6 k_q k_p) (fun hHeld => ?_)
          clear hK K
          generalize U45.alloc (.cells #[.int .i64 0, .int .i64 0, .string ⟨#[]⟩] 27) = U50 at *
          generalize U45.heap.size = g at *
          have n_gh : h ≠ g := by omega
          have n_hg : g ≠ h := by omega
          (try simp only [Act.put, List.setIfInBounds_toArray, List.set_cons_zero, List.set_cons_succ])
          refine wpAnyH_ready (rs := [3]) (by kernel_rfl) (by simp) ?_
          refine AllReadyH.cons rfl (fun K hK => ?_) AllReadyH.nil
          · go_simp
            go_at_call 10
            (with_reducible refine (HCB.out _ bb).mono ?_)
            rintro e U51 ⟨rfl, bq⟩
            have k_q := k_q.below bq k_q.lt
            have k_p := k_p.below bq k_p.lt
            have k_g := k_g.below bq k_g.lt
            have k_h := k_h.below bq k_h.lt
            have bb := bb.trans (bq.mono bb.size)
            clear bq
            refine hK.out _ _ (wcells6 k_q k_p) (fun hHeld => ?_)
            clear hK K
            (try simp only [Act.put, List.setIfInBounds_toArray, List.set_cons_zero, List.set_cons_succ])
            obtain ⟨x0, x1, x2⟩ := wcells k_g
            have z0 := k_g.frozen 0
            have z1 := k_g.frozen 1
            have z2 := k_g.frozen 2
            have l0 := k_g.lt
            refine wpAnyH_ready (rs := [6]) (by kernel_rfl) (by simp) ?_
            refine AllReadyH.cons rfl (fun K hK => ?_) AllReadyH.nil
            go_simp
            clear x0 x1 x2 z0 z1 z2 l0
            have k_g := k_g.wset3 (.int .i64 k) (.int .i64 n) (.string s)
            have k_h := k_h.wfar3 g n_gh (.int .i64 k) (.int .i64 n) (.string s)
            have k_q := k_q.wfar3 g (by omega) (.int .i64 k) (.int .i64 n) (.string s)
            have k_p := k_p.wfar3 g (by omega) (.int .i64 k) (.int .i64 n) (.string s)
            have bb := wbelow3 bb g (by omega) (.int .i64 k) (.int .i64 n) (.string s)
            refine hK.out _ _ (wcells6 k_q k_p) (fun hHeld => ?_)
            clear hK K
            generalize (((U51.setCell ⟨g, 0, none⟩ (.int .i64 k)).setCell ⟨g, 1, none⟩ (.int .i64 n)).setCell ⟨g, 2, none⟩ (.string s)) = U52 at *
            (try simp only [Act.put, List.setIfInBounds_toArray, List.set_cons_zero, List.set_cons_succ])
            obtain ⟨x0, x1, x2⟩ := wcells k_h
            have z0 := k_h.frozen 0
            have z1 := k_h.frozen 1
            have z2 := k_h.frozen 2
            have l0 := k_h.lt
            refine wpAnyH_ready (rs := [7]) (by kernel_rfl) (by simp) ?_
            refine AllReadyH.cons rfl (fun K hK => ?_) AllReadyH.nil
            go_simp
            clear x0 x1 x2 z0 z1 z2 l0
            have k_h := k_h.wset3 (.int .i64 k') (.int .i64 n') (.string s')
            have k_g := k_g.wfar3 h n_hg (.int .i64 k') (.int .i64 n') (.string s')
            have k_q := k_q.wfar3 h (by omega) (.int .i64 k') (.int .i64 n') (.string s')
            have k_p := k_p.wfar3 h (by omega) (.int .i64 k') (.int .i64 n') (.string s')
            have bb := wbelow3 bb h (by omega) (.int .i64 k') (.int .i64 n') (.string s')
            refine hK.out _ _ (wcells6 k_q k_p) (fun hHeld => ?_)
            clear hK K
            generalize (((U52.setCell ⟨h, 0, none⟩ (.int .i64 k')).setCell ⟨h, 1, none⟩ (.int .i64 n')).setCell ⟨h, 2, none⟩ (.string s')) = U53 at *
            (try simp only [Act.put, List.setIfInBounds_toArray, List.set_cons_zero, List.set_cons_succ])
            refine wpAnyH_done (by kernel_rfl) ?_ _
            go_wp2_with fail
            go_meet
            exact ⟨g, h, rfl, rfl, ⟨bb, k_g, k_h⟩⟩
      · go_simp
        have n_qg := k_q.lt
        have n_pg := k_p.lt
        have n_hg := k_h.lt
        have n_wg := bb.size
        have k_q := k_q.alloc (.cells #[.int .i64 0, .int .i64 0, .string ⟨#[]⟩] 27)
        have k_p := k_p.alloc (.cells #[.int .i64 0, .int .i64 0, .string ⟨#[]⟩] 27)
        have k_h := k_h.alloc (.cells #[.int .i64 0, .int .i64 0, .string ⟨#[]⟩] 27)
        have k_g := Blk.new U44 27 #[.int .i64 0, .int .i64 0, .string ⟨#[]⟩]
        have bb := bb.alloc bb.size (.cells #[.int .i64 0, .int .i64 0, .string ⟨#[]⟩] 27)
        refine hK.out _ _ (wcells6 k_q k_p) (fun hHeld => ?_)
        clear hK K
        generalize U44.alloc (.cells #[.int .i64 0, .int .i64 0, .string ⟨#[]⟩] 27) = U54 at *
        generalize U44.heap.size = g at *
        have n_gh : h ≠ g := by omega
        have n_hg : g ≠ h := by omega
        (try simp only [Act.put, List.setIfInBounds_toArray, List.set_cons_zero, List.set_cons_succ])
        refine wpAnyH_ready (rs := [1]) (by kernel_rfl) (by simp) ?_
        refine AllReadyH.cons rfl (fun K hK => ?_) AllReadyH.nil
        · go_simp
          go_at_call 10
          (with_reducible refine (HCA.out _ bb).mono ?_)
          rintro e U55 ⟨rfl, bq⟩
          have k_q := k_q.below bq k_q.lt
          have k_p := k_p.below bq k_p.lt
          have k_g := k_g.below bq k_g.lt
          have k_h := k_h.below bq k_h.lt
          have bb := bb.trans (bq.mono bb.size)
          clear bq
          refine hK.out _ _ (wcells6 k_q k_p) (fun hHeld => ?_)
          clear hK K
          (try simp only [Act.put, List.setIfInBounds_toArray, List.set_cons_zero, List.set_cons_succ])
          refine wpAnyH_ready (rs := [3]) (by kernel_rfl) (by simp) ?_
          refine AllReadyH.cons rfl (fun K hK => ?_) AllReadyH.nil
          · go_simp
            go_at_call 10
            (with_reducible refine (HCB.out _ bb).mono ?_)
            rintro e U56 ⟨rfl, bq⟩
            have k_q := k_q.below bq k_q.lt
            have k_p := k_p.below bq k_p.lt
            have k_g := k_g.below bq k_g.lt
            have k_h := k_h.below bq k_h.lt
            have bb := bb.trans (bq.mono bb.size)
            clear bq
            refine hK.out _ _ (wcells6 k_q k_p) (fun hHeld => ?_)
            clear hK K
            (try simp only [Act.put, List.setIfInBounds_toArray, List.set_cons_zero, List.set_cons_succ])
            obtain ⟨x0, x1, x2⟩ := wcells k_g
            have z0 := k_g.frozen 0
            have z1 := k_g.frozen 1
            have z2 := k_g.frozen 2
            have l0 := k_g.lt
            refine wpAnyH_ready (rs := [6]) (by kernel_rfl) (by simp) ?_
            refine AllReadyH.cons rfl (fun K hK => ?_) AllReadyH.nil
            go_simp
            clear x0 x1 x2 z0 z1 z2 l0
            have k_g := k_g.wset3 (.int .i64 k) (.int .i64 n) (.string s)
            have k_h := k_h.wfar3 g n_gh (.int .i64 k) (.int .i64 n) (.string s)
            have k_q := k_q.wfar3 g (by omega) (.int .i64 k) (.int .i64 n) (.string s)
            have k_p := k_p.wfar3 g (by omega) (.int .i64 k) (.int .i64 n) (.string s)
            have bb := wbelow3 bb g (by omega) (.int .i64 k) (.int .i64 n) (.string s)
            refine hK.out _ _ (wcells6 k_q k_p) (fun hHeld => ?_)
            clear hK K
            generalize (((U56.setCell ⟨g, 0, none⟩ (.int .i64 k)).setCell ⟨g, 1, none⟩ (.int .i64 n)).setCell ⟨g, 2, none⟩ (.string s)) = U57 at *
            (try simp only [Act.put, List.setIfInBounds_toArray, List.set_cons_zero, List.set_cons_succ])
            obtain ⟨x0, x1, x2⟩ := wcells k_h
            have z0 := k_h.frozen 0
            have z1 := k_h.frozen 1
            have z2 := k_h.frozen 2
            have l0 := k_h.lt
            refine wpAnyH_ready (rs := [7]) (by kernel_rfl) (by simp) ?_
            refine AllReadyH.cons rfl (fun K hK => ?_) AllReadyH.nil
            go_simp
            clear x0 x1 x2 z0 z1 z2 l0
            have k_h := k_h.wset3 (.int .i64 k') (.int .i64 n') (.string s')
            have k_g := k_g.wfar3 h n_hg (.int .i64 k') (.int .i64 n') (.string s')
            have k_q := k_q.wfar3 h (by omega) (.int .i64 k') (.int .i64 n') (.string s')
            have k_p := k_p.wfar3 h (by omega) (.int .i64 k') (.int .i64 n') (.string s')
            have bb := wbelow3 bb h (by omega) (.int .i64 k') (.int .i64 n') (.string s')
            refine hK.out _ _ (wcells6 k_q k_p) (fun hHeld => ?_)
            clear hK K
            generalize (((U57.setCell ⟨h, 0, none⟩ (.int .i64 k')).setCell ⟨h, 1, none⟩ (.int .i64 n')).setCell ⟨h, 2, none⟩ (.string s')) = U58 at *
            (try simp only [Act.put, List.setIfInBounds_toArray, List.set_cons_zero, List.set_cons_succ])
            refine wpAnyH_done (by kernel_rfl) ?_ _
            go_wp2_with fail
            go_meet
            exact ⟨g, h, rfl, rfl, ⟨bb, k_g, k_h⟩⟩
  case rest =>
  obtain ⟨g, h, rfl, rfl, ⟨bb, k_x, k_y⟩⟩ := hcut
  go_upto_region 6 with fail
  go_cut [9] (fun s9 wx => s9 = .string ot ∧ Two w wx g h k n s k' n' s')
  case first =>
    rcases HO.out with ⟨hi, rfl⟩ | ⟨hi, rfl⟩ | ⟨hi, rfl⟩ | ⟨hi, rfl⟩ | ⟨hi, rfl⟩ | ⟨hi, rfl⟩ | ⟨hi, rfl⟩ | ⟨hi, rfl⟩ | ⟨hi, rfl⟩ | ⟨hi, rfl⟩ | ⟨hi, rfl⟩ | ⟨hi, rfl⟩
    all_goals
      go_wp2_with fail
      go_meet
      exact ⟨rfl, ⟨bb.alloc bb.size _, k_x.alloc _, k_y.alloc _⟩⟩
  case rest =>
  clear bb k_x k_y HO
  obtain ⟨rfl, ⟨bb, k_x, k_y⟩⟩ := hcut
  have x_x0 := c30 k_x
  have x_x1 := c31 k_x
  have x_x2 := c32 k_x
  have l_x := k_x.lt
  have x_y0 := c30 k_y
  have x_y1 := c31 k_y
  have x_y2 := c32 k_y
  have l_y := k_y.lt
  go_wp2_with fail
  refine (H1.out _ bb).mono ?_
  rintro e w2 ⟨rfl, b2⟩
  clear x_x0 x_x1 x_x2 l_x x_y0 x_y1 x_y2 l_y
  have k_x := k_x.below b2 k_x.lt
  have k_y := k_y.below b2 k_y.lt
  have bb := bb.trans (b2.mono bb.size)
  have x_x0 : w2.cell? ⟨g, 0, none⟩ = some (.int .i64 k) := by rw [k_x.cell]; rfl
  have x_x1 : w2.cell? ⟨g, 1, none⟩ = some (.int .i64 n) := by rw [k_x.cell]; rfl
  have x_x2 : w2.cell? ⟨g, 2, none⟩ = some (.string s) := by rw [k_x.cell]; rfl
  have l_x := k_x.lt
  have x_y0 : w2.cell? ⟨h, 0, none⟩ = some (.int .i64 k') := by rw [k_y.cell]; rfl
  have x_y1 : w2.cell? ⟨h, 1, none⟩ = some (.int .i64 n') := by rw [k_y.cell]; rfl
  have x_y2 : w2.cell? ⟨h, 2, none⟩ = some (.string s') := by rw [k_y.cell]; rfl
  have l_y := k_y.lt
  go_wp2_with fail
  have k_x := k_x.alloc (.cells #[.int .i64 r1, .int .i64 r2, .string r3] 27)
  have k_y := k_y.alloc (.cells #[.int .i64 r1, .int .i64 r2, .string r3] 27)
  have k_v := Blk.new w2 27 #[.int .i64 r1, .int .i64 r2, .string r3]
  have bb := bb.alloc bb.size (.cells #[.int .i64 r1, .int .i64 r2, .string r3] 27)
  clear x_x0 x_x1 x_x2 l_x x_y0 x_y1 x_y2 l_y
  generalize w2.alloc (.cells #[.int .i64 r1, .int .i64 r2, .string r3] 27) = V1 at *
  have x_x0 : V1.cell? ⟨g, 0, none⟩ = some (.int .i64 k) := by rw [k_x.cell]; rfl
  have x_x1 : V1.cell? ⟨g, 1, none⟩ = some (.int .i64 n) := by rw [k_x.cell]; rfl
  have x_x2 : V1.cell? ⟨g, 2, none⟩ = some (.string s) := by rw [k_x.cell]; rfl
  have l_x := k_x.lt
  have x_y0 : V1.cell? ⟨h, 0, none⟩ = some (.int .i64 k') := by rw [k_y.cell]; rfl
  have x_y1 : V1.cell? ⟨h, 1, none⟩ = some (.int .i64 n') := by rw [k_y.cell]; rfl
  have x_y2 : V1.cell? ⟨h, 2, none⟩ = some (.string s') := by rw [k_y.cell]; rfl
  have l_y := k_y.lt
  have x_v0 : V1.cell? ⟨w2.heap.size, 0, none⟩ = some (.int .i64 r1) := by rw [k_v.cell]; rfl
  have x_v1 : V1.cell? ⟨w2.heap.size, 1, none⟩ = some (.int .i64 r2) := by rw [k_v.cell]; rfl
  have x_v2 : V1.cell? ⟨w2.heap.size, 2, none⟩ = some (.string r3) := by rw [k_v.cell]; rfl
  have l_v := k_v.lt
  refine (H2.out _ bb).mono ?_
  rintro e w3 ⟨rfl, b3⟩
  clear x_x0 x_x1 x_x2 l_x x_y0 x_y1 x_y2 l_y x_v0 x_v1 x_v2 l_v
  have k_x := k_x.below b3 k_x.lt
  have k_y := k_y.below b3 k_y.lt
  have k_v := k_v.below b3 k_v.lt
  have bb := bb.trans (b3.mono bb.size)
  have x_x0 : w3.cell? ⟨g, 0, none⟩ = some (.int .i64 k) := by rw [k_x.cell]; rfl
  have x_x1 : w3.cell? ⟨g, 1, none⟩ = some (.int .i64 n) := by rw [k_x.cell]; rfl
  have x_x2 : w3.cell? ⟨g, 2, none⟩ = some (.string s) := by rw [k_x.cell]; rfl
  have l_x := k_x.lt
  have x_y0 : w3.cell? ⟨h, 0, none⟩ = some (.int .i64 k') := by rw [k_y.cell]; rfl
  have x_y1 : w3.cell? ⟨h, 1, none⟩ = some (.int .i64 n') := by rw [k_y.cell]; rfl
  have x_y2 : w3.cell? ⟨h, 2, none⟩ = some (.string s') := by rw [k_y.cell]; rfl
  have l_y := k_y.lt
  have x_v0 : w3.cell? ⟨w2.heap.size, 0, none⟩ = some (.int .i64 r1) := by rw [k_v.cell]; rfl
  have x_v1 : w3.cell? ⟨w2.heap.size, 1, none⟩ = some (.int .i64 r2) := by rw [k_v.cell]; rfl
  have x_v2 : w3.cell? ⟨w2.heap.size, 2, none⟩ = some (.string r3) := by rw [k_v.cell]; rfl
  have l_v := k_v.lt
  have q1 : (e1 == e1) = true := by simp
  have q2 : (r1 == r1) = true := by simp
  have q3 : (r2 == r2) = true := by simp
  have q4 : (r3.toList == r3.toList) = true := by simp
  by_cases he : e1 = 0
  · subst he
    go_wp2_with fail
    go_ret
    exact ⟨by simp, bb.alloc bb.size _⟩
  · have q5 : (e1 != 0) = true := by simpa using he
    go_wp2_with fail
    go_ret
    exact ⟨by simp, bb.alloc bb.size _⟩
set_option maxHeartbeats 8000000 in
set_option maxRecDepth 100000 in
theorem binary_big1 (K N : Int) (a : Option Addr) (na ca : Nat) (K' N' : Int) (b : Option Addr) (nb cb : Nat) (op : Int) (w : World) (hT : Tb w) (h1 : 2000 < na)  :
    Calls Tryd.prog 7 #[SeedV K N a na ca, SeedV K' N' b nb cb, .int .i64 op] w fun e w' => e = .returned (.bool true) ∧ Below w.heap.size w w' := by
  have HT := Lib.hid hT
  clear hT
  have s1 : decide ((2000 : Int) < (na : Int)) = true := by simp; omega
  go_enter Tryd.func7, Tryd.ntmps7
  go_wp2_with fail
  have k_q := (Blk.new w 24 #[.int .i64 K, .int .i64 N, .slice a na ca]).alloc (.cells #[.int .i64 K', .int .i64 N', .slice b nb cb] 24)
  have k_p := Blk.new (w.alloc (.cells #[.int .i64 K, .int .i64 N, .slice a na ca] 24)) 24 #[.int .i64 K', .int .i64 N', .slice b nb cb]
  rw [World.size_alloc] at k_p
  have bb : Below w.heap.size w _ := (((Below.refl _ _).alloc (Nat.le_refl _) (.cells #[.int .i64 K, .int .i64 N, .slice a na ca] 24)).alloc (by simp) (.cells #[.int .i64 K', .int .i64 N', .slice b nb cb] 24))
  generalize ((w.alloc (.cells #[.int .i64 K, .int .i64 N, .slice a na ca] 24)).alloc (.cells #[.int .i64 K', .int .i64 N', .slice b nb cb] 24)) = W0 at *
  refine (fit_any _ (HT.out.below bb)).mono ?_
  rintro e w1 ⟨rfl, b1⟩
  have k_q := k_q.below b1 k_q.lt
  have k_p := k_p.below b1 k_p.lt
  have bb := bb.trans (b1.mono bb.size)
  have x_q0 : w1.cell? ⟨w.heap.size, 0, none⟩ = some (.int .i64 K) := by rw [k_q.cell]; rfl
  have x_q1 : w1.cell? ⟨w.heap.size, 1, none⟩ = some (.int .i64 N) := by rw [k_q.cell]; rfl
  have x_q2 : w1.cell? ⟨w.heap.size, 2, none⟩ = some (.slice a na ca) := by rw [k_q.cell]; rfl
  have l_q := k_q.lt
  have x_p0 : w1.cell? ⟨w.heap.size + 1, 0, none⟩ = some (.int .i64 K') := by rw [k_p.cell]; rfl
  have x_p1 : w1.cell? ⟨w.heap.size + 1, 1, none⟩ = some (.int .i64 N') := by rw [k_p.cell]; rfl
  have x_p2 : w1.cell? ⟨w.heap.size + 1, 2, none⟩ = some (.slice b nb cb) := by rw [k_p.cell]; rfl
  have l_p := k_p.lt
  go_wp2_with fail
  go_ret
  exact ⟨by simp, bb⟩
set_option maxHeartbeats 8000000 in
set_option maxRecDepth 100000 in
theorem binary_big2 (K N : Int) (a : Option Addr) (na ca : Nat) (K' N' : Int) (b : Option Addr) (nb cb : Nat) (op : Int) (w : World) (hT : Tb w) (h1 : na ≤ 2000) (h2 : 2000 < nb) :
    Calls Tryd.prog 7 #[SeedV K N a na ca, SeedV K' N' b nb cb, .int .i64 op] w fun e w' => e = .returned (.bool true) ∧ Below w.heap.size w w' := by
  have HT := Lib.hid hT
  clear hT
  have s1 : decide ((2000 : Int) < (na : Int)) = false := by simp; omega
  have s2 : decide ((2000 : Int) < (nb : Int)) = true := by simp; omega
  go_enter Tryd.func7, Tryd.ntmps7
  go_wp2_with fail
  have k_q := (Blk.new w 24 #[.int .i64 K, .int .i64 N, .slice a na ca]).alloc (.cells #[.int .i64 K', .int .i64 N', .slice b nb cb] 24)
  have k_p := Blk.new (w.alloc (.cells #[.int .i64 K, .int .i64 N, .slice a na ca] 24)) 24 #[.int .i64 K', .int .i64 N', .slice b nb cb]
  rw [World.size_alloc] at k_p
  have bb : Below w.heap.size w _ := (((Below.refl _ _).alloc (Nat.le_refl _) (.cells #[.int .i64 K, .int .i64 N, .slice a na ca] 24)).alloc (by simp) (.cells #[.int .i64 K', .int .i64 N', .slice b nb cb] 24))
  generalize ((w.alloc (.cells #[.int .i64 K, .int .i64 N, .slice a na ca] 24)).alloc (.cells #[.int .i64 K', .int .i64 N', .slice b nb cb] 24)) = W0 at *
  refine (fit_any _ (HT.out.below bb)).mono ?_
  rintro e w1 ⟨rfl, b1⟩
  have k_q := k_q.below b1 k_q.lt
  have k_p := k_p.below b1 k_p.lt
  have bb := bb.trans (b1.mono bb.size)
  have x_q0 : w1.cell? ⟨w.heap.size, 0, none⟩ = some (.int .i64 K) := by rw [k_q.cell]; rfl
  have x_q1 : w1.cell? ⟨w.heap.size, 1, none⟩ = some (.int .i64 N) := by rw [k_q.cell]; rfl
  have x_q2 : w1.cell? ⟨w.heap.size, 2, none⟩ = some (.slice a na ca) := by rw [k_q.cell]; rfl
  have l_q := k_q.lt
  have x_p0 : w1.cell? ⟨w.heap.size + 1, 0, none⟩ = some (.int .i64 K') := by rw [k_p.cell]; rfl
  have x_p1 : w1.cell? ⟨w.heap.size + 1, 1, none⟩ = some (.int .i64 N') := by rw [k_p.cell]; rfl
  have x_p2 : w1.cell? ⟨w.heap.size + 1, 2, none⟩ = some (.slice b nb cb) := by rw [k_p.cell]; rfl
  have l_p := k_p.lt
  go_wp2_with fail
  go_ret
  exact ⟨by simp, bb⟩
end Go.Proofs.YtjkboelcpihphaaDoor
