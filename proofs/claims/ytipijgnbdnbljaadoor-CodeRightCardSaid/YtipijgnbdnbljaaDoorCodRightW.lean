/- The walk of the statement CodeRight. -/
import Derived.Test.YtipijgnbdnbljaaDoorCodRightP
import Derived.Test.YtipijgnbdnbljaaDoorOpen3
import Derived.Lib.QuietBelow
import Derived.Deep.DeepCutAuto
import Derived.Deep.CutBlock
import Derived.OwnWalk
import Derived.Outline
set_option linter.unusedVariables false
set_option linter.unusedSimpArgs false
namespace Go.Proofs.YtipijgnbdnbljaaDoor
open Go.RowKit

theorem norm_mod (n m : Int) (hm : 0 < m) (h9 : m < 1000000000) : ∃ N : Nat, (wrap64 (n.tmod m + m)).tmod m = (N : Int) ∧ (N : Int) < m := by
  have h1 := Int.tmod_lt_of_pos n hm
  have h2 := Int.lt_tmod_of_pos n hm
  rw [IntWalk.wrap64_in _ (by omega)]
  rw [Int.tmod_eq_emod_of_nonneg (by omega)]
  have h3 := Int.emod_nonneg (n.tmod m + m) (by omega : m ≠ 0)
  have h4 := Int.emod_lt_of_pos (n.tmod m + m) hm
  exact ⟨((n.tmod m + m) % m).toNat, by omega, by omega⟩
theorem infoVal : (Tryd.prog.info? 41).map (fun i => (i.zero, i.size, i.bytes)) = some (some (.agg #[.int .i64 0, .int .i64 0, .string ⟨#[]⟩]), 3, 32) := by kernel_rfl
theorem infoFp : (Tryd.prog.info? 34).map (fun i => (i.zero, i.size, i.bytes)) = some (some (.pointer none), 1, 8) := by kernel_rfl
theorem infoIns : (Tryd.prog.info? 36).map (fun i => (i.zero, i.size, i.bytes)) = some (some (.agg #[.int .i64 0, .int .i64 0, .int .i64 0]), 3, 24) := by kernel_rfl
theorem R1.mid {w wr w1 : World} {g : Nat} {c v : Value} {ps : List Nat} (h : R1 w g c v wr ps) (hg : (R1mid wr).grownBy w1 v.ownBlock) : Blk w1 g 33 (FB nilS c v) := by
  have u0 : Upd wr (R1mid wr) (fun _ => False) := (((Upd.refl wr _).alloc _).alloc _).alloc _
  have own3 := u0.own h.own (fun _ _ h => h)
  have kb := u0.blk h.blk (fun h => h)
  exact (Upd.of_grown (M := fun k => v.ownBlock = some k) hg fun k e => e).blk kb (fun e => own_blk_ne own3 kb (by decide) e)
theorem R2.mid {w wo wr w1 : World} {g : Nat} {c fv v : Value} {l : List (Int × Int × Int)} {op x y : Int} {T : TypeId} (h : R2 w wo g c fv v wr l) (hg : (R2mid wr op x y T).grownBy w1 v.ownBlock) (hT : T ≠ 36) :
    Blk w1 g 33 (FB v c fv) ∧ Blk w1 wr.heap.size T #[.int .i64 op, .int .i64 x, .int .i64 y] ∧ g ≠ wr.heap.size := by
  have u0 : Upd wr (R2mid wr op x y T) (fun _ => False) := ((Upd.refl wr _).alloc _).alloc _
  have own3 := u0.own h.own (fun _ _ h => h)
  have kb := u0.blk h.blk (fun h => h)
  have u1 := Upd.of_grown (M := fun k => v.ownBlock = some k) hg fun k e => e
  have kx : Blk (R2mid wr op x y T) wr.heap.size T #[.int .i64 op, .int .i64 x, .int .i64 y] := (Blk.new wr T _).alloc _
  exact ⟨u1.blk kb (fun e => own_blk_ne own3 kb (by decide) e), u1.blk kx (fun e => own_blk_ne own3 kx (Ne.symm hT) e), Nat.ne_of_lt h.blk.lt⟩
theorem R1mid_news (wr : World) : ∀ j u, [Value.pointer (some ⟨wr.heap.size + 1, 0, none⟩)][j]? = some u → (R1mid wr).cell? ((⟨wr.heap.size + 1 + 1, 0, none⟩ : Addr).add j) = some u := by
  have := Blk.new ((wr.alloc (.cells #[.int .i64 61, .int .i64 0, .int .i64 0] 36)).alloc (.cells (FB (.slice (some ⟨wr.heap.size, 0, none⟩) 1 1) nilS nilS) 33)) 34 #[.pointer (some ⟨wr.heap.size + 1, 0, none⟩)]
  rw [World.size_alloc, World.size_alloc] at this
  exact World.news_of_block this
theorem R2mid_news (wr : World) (op x y : Int) (T : TypeId) : ∀ j u, [Value.int .i64 op, Value.int .i64 x, Value.int .i64 y][j]? = some u → (R2mid wr op x y T).cell? ((⟨wr.heap.size + 1, 0, none⟩ : Addr).add j) = some u := by
  have := Blk.new (wr.alloc (.cells #[.int .i64 op, .int .i64 x, .int .i64 y] T)) 36 #[.int .i64 op, .int .i64 x, .int .i64 y]
  rw [World.size_alloc] at this
  exact World.news_of_block this
def inB (n : Nat) (x : Int) : Bool := decide (-1 ≤ x) && decide (x < (n : Int))
def in0 (n : Nat) (x : Int) : Bool := decide (0 ≤ x) && decide (x < (n : Int))
def clsB (n C F : Nat) (op x y : Int) : Bool := (!pA op || inB n x) && (!pB op || inB n y) && (!isConst op || in0 C x) && (!(op == 50) || in0 F x)
theorem inB_eq (n : Nat) (x : Int) : (!decide (x < -1) && !decide ((n : Int) ≤ x)) = inB n x := by
  unfold inB; rw [Bool.eq_iff_iff]; simp
theorem in0_eq (n : Nat) (x : Int) : (!decide (x < 0) && !decide ((n : Int) ≤ x)) = in0 n x := by
  unfold in0; rw [Bool.eq_iff_iff]; simp
theorem insOK_cls (n C F : Nat) (op x y : Int) : insOK n C F (op, x, y) = (clsB n C F op x y && decide (1 ≤ op) && decide (op ≤ 88)) := by
  unfold insOK clsB
  rw [inB_eq, inB_eq, in0_eq, in0_eq]
  rw [show (!(decide (op < 1) || decide (88 < op))) = (decide (1 ≤ op) && decide (op ≤ 88)) by rw [Bool.eq_iff_iff]; simp]
  cases decide (1 ≤ op) <;> cases decide (op ≤ 88) <;> simp

set_option maxHeartbeats 16000000 in
set_option maxRecDepth 100000 in
theorem right_walk (a : Option Addr) (len cap : Nat) (L : List (Int × Int × Int)) (c f : Int) (w : World) (h : Tb w) (hl : TripR w a len L) (hlen : len ≤ 200) :
    Calls Tryd.prog 4 #[.slice a len cap, .int .i64 c, .int .i64 f] w fun e w' => e = .returned (.bool true) ∧ Below w.heap.size w w' := by
  have HT := Lib.hid h
  have HLL := Lib.hid hl.1
  have HL := Lib.hid hl
  clear h hl
  obtain ⟨C, hC, hC2⟩ := norm_mod c 4 (by decide) (by decide)
  obtain ⟨F, hF, hF2⟩ := norm_mod f 3 (by decide) (by decide)
  have HCC := Lib.hid hC
  have HFF := Lib.hid hF
  clear hC hF
  have t200 : decide ((200 : Int) < (len : Int)) = false := by simp; omega
  go_enter Tryd.func4, Tryd.ntmps4
  go_wp2_with fail
  refine (fit_any _ HT.out).mono ?_
  rintro e w1 ⟨rfl, b1⟩
  go_upto_region 6 with fail
  rw [HCC.out, HFF.out]
  go_cut [7] (fun s7 wx => ∃ g cv, s7 = .pointer (some ⟨g, 0, none⟩) ∧ R1 w g (.slice cv C C) nilS wx [])
  case first =>
    have hz := b1.size
    clear HCC HFF
    obtain ⟨i0, hi, hz0, hz1, hz2⟩ := info_parts infoVal
    go_wp2_with (at_make; refine wpList_make_full _ rfl _ _ 29 rfl w1.heap.size 41 i0 _ 3 Tryd.underlying29 hi hz0 hz1 .i64 .i64 _ _ C rfl rfl rfl rfl (by rw [hz2]; omega) (by unfold maxLen; omega) (Nat.le_refl _) ?_)
    intro w2 hown2 hg2
    have b2 := b1.grown hg2 hz (fun k hk => by cases hk)
    clear hown2 hg2
    go_wp2_with fail
    go_meet
    exact ⟨_, _, rfl, World.ownsRow_nil _ _ _ _, (fun p hp => by cases hp), Blk.new _ _ _, b2.alloc b2.size _, b2.size⟩
  case rest =>
  obtain ⟨g, cv, rfl, hR⟩ := hcut
  clear HCC HFF b1
  go_wp2_with fail
  go_loopw [31] (fun i wr => ∃ (ps : List Nat) (v : Value), ps.length ≤ F ∧ i = .int .i64 ps.length ∧ R1 w g (.slice cv C C) v wr ps) (fun i _ => F - (intOf i).toNat)
  case atStart => exact ⟨[], nilS, Nat.zero_le _, rfl, hR⟩
  case round =>
    obtain ⟨ps, v, hps, rfl, hR⟩ := hrel
    have hgl := hR.blk.lt
    by_cases hlt : ps.length < F
    · have t1 : decide ((ps.length : Int) < (F : Int)) = true := by simp; omega
      obtain ⟨k, hk⟩ : ∃ k, ps.length = k := ⟨_, rfl⟩
      have HK := Lib.hid hk
      have hps2 : k ≤ F := by omega
      have hlt2 : k < F := by omega
      rw [hk] at t1 ⊢
      clear hk hps hlt
      have c10 : wr.cell? ⟨g, 10, none⟩ = some v := by rw [hR.blk.cell]; rfl
      have own3 : (R1mid wr).ownsRow (g + 1) 34 1 v k (ptrs ps) := by
        have := (((Upd.refl wr (fun _ => False)).alloc (.cells #[.int .i64 61, .int .i64 0, .int .i64 0] 36)).alloc (.cells (FB (.slice (some ⟨wr.heap.size, 0, none⟩) 1 1) nilS nilS) 33)).alloc (.cells #[.pointer (some ⟨wr.heap.size + 1, 0, none⟩)] 34)
        have := this.own hR.own (fun _ _ h => h)
        rwa [HK.out] at this
      obtain ⟨i0, hi, hz0, hz1, hz2⟩ := info_parts infoFp
      go_wp2_with (at_builtin; refine wpList_append_lies _ rfl _ _ 31 rfl (g + 1) 34 i0 (.pointer none) 1 8 Tryd.underlying31 hi hz0 hz1 hz2 rfl (by decide) _ _ _ rfl own3 ⟨wr.heap.size + 1 + 1, 0, none⟩ 1 1 [.pointer (some ⟨wr.heap.size + 1, 0, none⟩)] rfl rfl (R1mid_news wr) (by simp [Value.oneCell']) (by decide) (by unfold maxLen; omega) (by omega) (by simp; omega) _ rfl ?_)
      intro gq capq w2 hown1 hgrow _ _
      have kb := hR.mid hgrow
      have d10 : w2.cell? ⟨g, 10, none⟩ = some v := by rw [kb.cell]; rfl
      have f10 := kb.frozen 10
      have hR2 := hR.step hgrow (by rw [HK.out]; exact hown1)
      clear own3 hown1 hgrow c10 kb hR
      go_wp2
      go_roundw
      case rel => exact ⟨_, _, by rw [List.length_append, HK.out]; simp; omega, by rw [List.length_append, HK.out]; simp, hR2⟩
      case measure => simp [intOf]; omega
    · have hpe : ps.length = F := by omega
      have t1 : decide ((ps.length : Int) < (F : Int)) = false := by simp; omega
      rw [hpe] at t1 ⊢
      have HPE := Lib.hid hpe
      clear hpe hps hlt
      obtain ⟨wo, rfl⟩ : ∃ wo : World, wo = wr := ⟨_, rfl⟩
      go_upto_region 12 with fail
      have hbw := hR.bel
      have hLw := HL.out.below hbw
      go_cut [8, 9] (fun s8 s9 wx => wo = wx ∧ s8 = .int .i64 len ∧ s9 = .bool (wantB L C F 0))
      case first =>
        by_cases h0 : len = 0
        · subst h0
          have HX := Lib.hid (show wantB L C F 0 = false by unfold wantB; rw [HLL.out]; rfl)
          go_wp2_with fail
          go_meet
          exact ⟨rfl, rfl, by rw [HX.out]⟩
        · obtain ⟨b, off, rfl, hbl, hcells⟩ := hLw.2 (by omega)
          have cl := (hcells (len - 1) (by omega)).1
          have y0 : 0 ≤ (len : Int) - 1 := by omega
          have y1 : (len : Int) - 1 < (len : Int) := by omega
          have y2 : ((len : Int) - 1).toNat = len - 1 := by omega
          have y3 : decide ((0 : Int) < (len : Int)) = true := by simp; omega
          obtain ⟨lo, hlo⟩ : ∃ lo, (L.getD (len - 1) (0, 0, 0)).1 = lo := ⟨_, rfl⟩
          rw [hlo] at cl
          have HX := Lib.hid (show wantB L C F 0 = (lo == 61) by unfold wantB; rw [HLL.out, hlo]; simp; omega)
          clear hcells hLw hlo
          go_wp2_with fail
          go_meet
          exact ⟨rfl, rfl, by rw [HX.out]⟩
      case rest =>
      obtain ⟨rfl, rfl, rfl⟩ := hcut
      go_wp2_with fail
      go_loopw [9, 58] (fun wa i wr => ∃ (k : Nat) (v2 : Value), k ≤ len ∧ i = .int .i64 k ∧ wa = .bool (wantB L C F k) ∧ R2 w wo g (.slice cv C C) v v2 wr (L.take k)) (fun _ i _ => len - (intOf i).toNat)
      case atStart => exact ⟨0, nilS, Nat.zero_le _, rfl, rfl, World.ownsRow_nil _ _ _ _, hR.blk, Upd.refl _ _, hR.bel, hR.lo, hR.blk.lt⟩
      case round =>
        obtain ⟨k, v2, hk, rfl, rfl, hR2⟩ := hrel
        by_cases hlt : k < len
        · have t1 : decide ((k : Int) < (len : Int)) = true := by simp; omega
          obtain ⟨b, off, rfl, hbl, hcells⟩ := (HL.out.below hR2.bel).2 (by omega)
          obtain ⟨c0, c1, c2⟩ := hcells k hlt
          obtain ⟨it, hit⟩ : ∃ x, L.getD k (0, 0, 0) = x := ⟨_, rfl⟩
          rw [hit] at c0 c1 c2
          obtain ⟨op, x, y⟩ := it
          simp only at c0 c1 c2
          have HIT := Lib.hid hit
          obtain ⟨wb, hwb⟩ : ∃ wb, wantB L C F k = wb := ⟨_, rfl⟩
          have HWB := Lib.hid hwb
          rw [hwb]
          have z1 : (0 : Int) ≤ (k : Int) := by omega
          have z2 : (k : Int) < (len : Int) := by omega
          have q8 : wr.cell? ⟨g, 8, none⟩ = some v2 := by rw [hR2.blk.cell]; rfl
          have hlk : (L.take k).length = k := by rw [List.length_take, HLL.out]; omega
          have HLK := Lib.hid hlk
          have hgl2 := hR2.blk.lt
          clear hcells hit hwb hlk hk hlt

          obtain ⟨i0, hi, hz0, hz1, hz2⟩ := info_parts infoIns
          have own3 : (R2mid wr op x y 37).ownsRow wo.heap.size 36 3 v2 k (insCells (L.take k)) := by
            have := ((Upd.refl wr (fun _ => False)).alloc (.cells #[.int .i64 op, .int .i64 x, .int .i64 y] 37)).alloc (.cells #[.int .i64 op, .int .i64 x, .int .i64 y] 36)
            have := this.own hR2.own (fun _ _ h => h)
            rwa [HLK.out] at this
          have hwo := hR2.upd.size
          go_upto_region 16 with fail
          go_cut [11] (fun s11 wx => ∃ xb v3, s11 = .pointer (some ⟨xb, 0, none⟩) ∧ R2 w wo g (.slice cv C C) v v3 wx (L.take (k + 1)) ∧ Blk wx xb 37 #[.int .i64 op, .int .i64 x, .int .i64 y])
          case first =>
            go_wp2_with (at_builtin; refine wpList_append_lies _ rfl _ _ 30 rfl wo.heap.size 36 i0 _ 3 24 Tryd.underlying30 hi hz0 hz1 hz2 rfl (by decide) _ _ _ rfl own3 ⟨wr.heap.size + 1, 0, none⟩ 1 1 [.int .i64 op, .int .i64 x, .int .i64 y] rfl rfl (R2mid_news wr op x y _) (by simp [Value.oneCell']) (by decide) (by unfold maxLen; omega) (by omega) (by simp; omega) _ rfl ?_)
            intro gq capq w2 hown1 hgrow _ _
            obtain ⟨kb, kx, hgx⟩ := R2.mid hR2 hgrow (by decide)
            have d8 : w2.cell? ⟨g, 8, none⟩ = some v2 := (by rw [kb.cell]; rfl)
            have f8 := kb.frozen 8
            have hR3 := hR2.step hgrow (by rw [HLK.out]; exact hown1)
            go_wp2_with fail
            go_meet
            have e1 : L.take k ++ [(op, x, y)] = L.take (k + 1) := by
              have hk2 : k < L.length := by rw [HLL.out]; omega
              rw [List.take_succ_eq_append_getElem hk2]
              have := HIT.out
              rw [List.getD_eq_getElem?_getD, List.getElem?_eq_getElem hk2] at this
              simp only [Option.getD_some] at this
              rw [this]
            rw [e1] at hR3
            exact ⟨_, _, rfl, hR3, kx.far (p := ⟨g, 8, none⟩) (Ne.symm hgx) _⟩
          case rest =>
          obtain ⟨xb, v3, rfl, hR3, kx⟩ := hcut
          clear hR2 own3 c0 c1 c2 q8 hwo hgl2
          have x0 : wc.cell? ⟨xb, 0, none⟩ = some (.int .i64 op) := by rw [kx.cell]; rfl
          have x1 : wc.cell? ⟨xb, 1, none⟩ = some (.int .i64 x) := by rw [kx.cell]; rfl
          have x2 : wc.cell? ⟨xb, 2, none⟩ = some (.int .i64 y) := by rw [kx.cell]; rfl
          clear kx
          go_upto_region 17 with fail
          go_cut [12] (fun s12 wx => wc = wx ∧ s12 = .bool (inB len x))
          case first =>
            by_cases h1 : -1 ≤ x
            · have u1 : decide (-1 ≤ x) = true := by simpa using h1
              by_cases h2 : x < (len : Int)
              · have u2 : decide (x < (len : Int)) = true := by simpa using h2
                have HX := Lib.hid (show inB len x = true by unfold inB; rw [u1, u2]; rfl)
                go_wp2_with fail
                go_meet
                exact ⟨rfl, by rw [HX.out]⟩
              · have u2 : decide (x < (len : Int)) = false := by simpa using h2
                have HX := Lib.hid (show inB len x = false by unfold inB; rw [u1, u2]; rfl)
                go_wp2_with fail
                go_meet
                exact ⟨rfl, by rw [HX.out]⟩
            · have u1 : decide (-1 ≤ x) = false := by simpa using h1
              have HX := Lib.hid (show inB len x = false by unfold inB; rw [u1]; rfl)
              go_wp2_with fail
              go_meet
              exact ⟨rfl, by rw [HX.out]⟩
          case rest =>
          obtain ⟨rfl, rfl⟩ := hcut
          obtain ⟨q, hq⟩ : ∃ q, inB len x = q := ⟨_, rfl⟩
          have HQ := Lib.hid hq
          rw [hq]
          clear hq
          go_upto_block 4 with fail
          go_cut [9] (fun s9 wx => wc = wx ∧ s9 = .bool (wb && clsB len C F op x y))
          case first =>
            clear HWB HIT
            by_cases hj : isJump op = true
            · obtain ⟨jc, j50, j68⟩ := jump_not hj
              rcases isJump_true hj with rfl | rfl | rfl | rfl | rfl | rfl | rfl | rfl | rfl
              all_goals
                cases wb <;> cases q
                all_goals
                  clear jc j50 j68 hj
                  as_aux_lemma =>
                    go_wp2_with fail
                    go_meet
                    exact ⟨rfl, by first | rfl | (congr 1; unfold clsB; rw [HQ.out]; first | (simp [pA, pB, inB, in0, *]; done) | (simp [pA, pB, isJump, isConst, inB, in0, *]; done))⟩
            have hj : isJump op = false := by simpa using hj
            obtain ⟨j1, j2, j3, j4, j5, j6, j7, j8, j9⟩ := isJump_false hj
            by_cases h68 : op = 68
            · subst h68
              clear j1 j2 j3 j4 j5 j6 j7 j8 j9 hj
              cases wb
              case false =>
                as_aux_lemma =>
                  go_wp2_with fail
                  go_meet
                  exact ⟨rfl, by first | rfl | (congr 1; unfold clsB; rw [HQ.out]; first | (simp [pA, pB, inB, in0, *]; done) | (simp [pA, pB, isJump, isConst, inB, in0, *]; done))⟩
              case true =>
                cases q
                case false =>
                  as_aux_lemma =>
                    go_wp2_with fail
                    go_meet
                    exact ⟨rfl, by first | rfl | (congr 1; unfold clsB; rw [HQ.out]; first | (simp [pA, pB, inB, in0, *]; done) | (simp [pA, pB, isJump, isConst, inB, in0, *]; done))⟩
                case true =>
                  by_cases v1 : -1 ≤ y
                  case neg =>
                    have va : decide (-1 ≤ y) = false := by simpa using v1
                    clear v1
                    as_aux_lemma =>
                      go_wp2_with fail
                      go_meet
                      exact ⟨rfl, by first | rfl | (congr 1; unfold clsB; rw [HQ.out]; first | (simp [pA, pB, inB, in0, *]; done) | (simp [pA, pB, isJump, isConst, inB, in0, *]; done))⟩
                  case pos =>
                    have va : decide (-1 ≤ y) = true := by simpa using v1
                    clear v1
                    by_cases v2 : y < (len : Int)
                    case neg =>
                      have vb : decide (y < (len : Int)) = false := by simpa using v2
                      clear v2
                      as_aux_lemma =>
                        go_wp2_with fail
                        go_meet
                        exact ⟨rfl, by first | rfl | (congr 1; unfold clsB; rw [HQ.out]; first | (simp [pA, pB, inB, in0, *]; done) | (simp [pA, pB, isJump, isConst, inB, in0, *]; done))⟩
                    case pos =>
                      have vb : decide (y < (len : Int)) = true := by simpa using v2
                      clear v2
                      as_aux_lemma =>
                        go_wp2_with fail
                        go_meet
                        exact ⟨rfl, by first | rfl | (congr 1; unfold clsB; rw [HQ.out]; first | (simp [pA, pB, inB, in0, *]; done) | (simp [pA, pB, isJump, isConst, inB, in0, *]; done))⟩
            have j68 : (op == 68) = false := by simpa using h68
            clear h68
            by_cases hc : isConst op = true
            · clear j1 j2 j3 j4 j5 j6 j7 j8 j9
              rcases isConst_true hc with rfl | rfl | rfl | rfl | rfl | rfl | rfl | rfl
              all_goals
                clear hc hj j68
                cases wb
                case false =>
                  as_aux_lemma =>
                    go_wp2_with fail
                    go_meet
                    exact ⟨rfl, by first | rfl | (congr 1; unfold clsB; rw [HQ.out]; first | (simp [pA, pB, inB, in0, *]; done) | (simp [pA, pB, isJump, isConst, inB, in0, *]; done))⟩
                case true =>
                  by_cases u1 : 0 ≤ x
                  case neg =>
                    have ua : decide (0 ≤ x) = false := by simpa using u1
                    clear u1
                    as_aux_lemma =>
                      go_wp2_with fail
                      go_meet
                      exact ⟨rfl, by first | rfl | (congr 1; unfold clsB; rw [HQ.out]; first | (simp [pA, pB, inB, in0, *]; done) | (simp [pA, pB, isJump, isConst, inB, in0, *]; done))⟩
                  case pos =>
                    have ua : decide (0 ≤ x) = true := by simpa using u1
                    clear u1
                    by_cases u2 : x < (C : Int)
                    case neg =>
                      have ub : decide (x < (C : Int)) = false := by simpa using u2
                      clear u2
                      as_aux_lemma =>
                        go_wp2_with fail
                        go_meet
                        exact ⟨rfl, by first | rfl | (congr 1; unfold clsB; rw [HQ.out]; first | (simp [pA, pB, inB, in0, *]; done) | (simp [pA, pB, isJump, isConst, inB, in0, *]; done))⟩
                    case pos =>
                      have ub : decide (x < (C : Int)) = true := by simpa using u2
                      clear u2
                      as_aux_lemma =>
                        go_wp2_with fail
                        go_meet
                        exact ⟨rfl, by first | rfl | (congr 1; unfold clsB; rw [HQ.out]; first | (simp [pA, pB, inB, in0, *]; done) | (simp [pA, pB, isJump, isConst, inB, in0, *]; done))⟩
            have hc : isConst op = false := by simpa using hc
            by_cases h50 : op = 50
            · subst h50
              clear j1 j2 j3 j4 j5 j6 j7 j8 j9 hj hc j68
              cases wb
              case false =>
                as_aux_lemma =>
                  go_wp2_with fail
                  go_meet
                  exact ⟨rfl, by first | rfl | (congr 1; unfold clsB; rw [HQ.out]; first | (simp [pA, pB, inB, in0, *]; done) | (simp [pA, pB, isJump, isConst, inB, in0, *]; done))⟩
              case true =>
                by_cases u1 : 0 ≤ x
                case neg =>
                  have ua : decide (0 ≤ x) = false := by simpa using u1
                  clear u1
                  as_aux_lemma =>
                    go_wp2_with fail
                    go_meet
                    exact ⟨rfl, by first | rfl | (congr 1; unfold clsB; rw [HQ.out]; first | (simp [pA, pB, inB, in0, *]; done) | (simp [pA, pB, isJump, isConst, inB, in0, *]; done))⟩
                case pos =>
                  have ua : decide (0 ≤ x) = true := by simpa using u1
                  clear u1
                  by_cases u2 : x < (F : Int)
                  case neg =>
                    have ub : decide (x < (F : Int)) = false := by simpa using u2
                    clear u2
                    as_aux_lemma =>
                      go_wp2_with fail
                      go_meet
                      exact ⟨rfl, by first | rfl | (congr 1; unfold clsB; rw [HQ.out]; first | (simp [pA, pB, inB, in0, *]; done) | (simp [pA, pB, isJump, isConst, inB, in0, *]; done))⟩
                  case pos =>
                    have ub : decide (x < (F : Int)) = true := by simpa using u2
                    clear u2
                    as_aux_lemma =>
                      go_wp2_with fail
                      go_meet
                      exact ⟨rfl, by first | rfl | (congr 1; unfold clsB; rw [HQ.out]; first | (simp [pA, pB, inB, in0, *]; done) | (simp [pA, pB, isJump, isConst, inB, in0, *]; done))⟩
            have j50 : (op == 50) = false := by simpa using h50
            obtain ⟨i1, i2, i3, i4, i5, i6, i7, i8⟩ := isConst_false hc
            clear h50
            cases wb
            all_goals
              as_aux_lemma =>
                go_wp2_with fail
                go_meet
                exact ⟨rfl, by first | rfl | (congr 1; unfold clsB; rw [HQ.out]; first | (simp [pA, pB, inB, in0, *]; done) | (simp [pA, pB, isJump, isConst, inB, in0, *]; done))⟩
          case rest =>
          obtain ⟨rfl, rfl⟩ := hcut
          have hstep := wantB_succ L C F k (by rw [HLL.out]; omega)
          rw [HWB.out, HLL.out, HIT.out, insOK_cls, ← Bool.and_assoc, ← Bool.and_assoc] at hstep
          generalize (wb && clsB len C F op x y) = r at *
          have HS := Lib.hid hstep
          clear hstep HQ HWB HIT
          cases r
          · have HX := Lib.hid (show wantB L C F (k + 1) = false by rw [HS.out]; rfl)
            go_wp2_with fail
            go_roundw
            case rel => exact ⟨k + 1, v3, by omega, by go_num, by rw [HX.out], hR3⟩
            case measure => simp [intOf]; omega
          · by_cases h1 : 1 ≤ op
            · have r1 : decide (1 ≤ op) = true := by simpa using h1
              by_cases h2 : op ≤ 88
              · have r2 : decide (op ≤ 88) = true := by simpa using h2
                have HX := Lib.hid (show wantB L C F (k + 1) = true by rw [HS.out, r1, r2]; rfl)
                go_wp2_with fail
                go_roundw
                case rel => exact ⟨k + 1, v3, by omega, by go_num, by rw [HX.out], hR3⟩
                case measure => simp [intOf]; omega
              · have r2 : decide (op ≤ 88) = false := by simpa using h2
                have HX := Lib.hid (show wantB L C F (k + 1) = false by rw [HS.out, r1, r2]; rfl)
                go_wp2_with fail
                go_roundw
                case rel => exact ⟨k + 1, v3, by omega, by go_num, by rw [HX.out], hR3⟩
                case measure => simp [intOf]; omega
            · have r1 : decide (1 ≤ op) = false := by simpa using h1
              have HX := Lib.hid (show wantB L C F (k + 1) = false by rw [HS.out, r1]; rfl)
              go_wp2_with fail
              go_roundw
              case rel => exact ⟨k + 1, v3, by omega, by go_num, by rw [HX.out], hR3⟩
              case measure => simp [intOf]; omega
        · have hke : k = len := by omega
          subst hke
          have t1 : decide ((k : Int) < (k : Int)) = false := by simp
          rw [List.take_of_length_le (by rw [HLL.out]; omega)] at hR2
          have hfin := wantB_end L C F
          rw [HLL.out] at hfin
          obtain ⟨hok, hleaf⟩ := built hR hR2 (by omega) (by rw [HPE.out]; omega) (by rw [HLL.out]; omega)
          have CF : ∀ W, Below wr.heap.size wr W → Calls Tryd.prog 11 #[.pointer (some ⟨g, 0, none⟩)] W (Ret (.bool (rightR L C (List.replicate F true))) W) := by
            intro W hW
            refine right_of (hok.below hW) (by rw [List.length_replicate, HPE.out]) (fun k2 hk2 V hV => ?_)
            have hV2 := hW.trans (hV.mono hW.size)
            have hm : ps.getD k2 0 ∈ ps := by
              rw [List.getD_eq_getElem?_getD, List.getElem?_eq_getElem hk2]; exact List.getElem_mem _
            have := (hleaf _ hm).right V hV2
            rwa [show (List.replicate F true).getD k2 false = true by
              rw [List.getD_eq_getElem?_getD, List.getElem?_eq_getElem (by rw [List.length_replicate, ← HPE.out]; exact hk2)]; simp]
          have CF := Lib.hid CF
          have bel := hR2.bel
          have hgl := hR2.blk.lt
          clear hok hleaf hR2 hR
          generalize rightR L C (List.replicate F true) = r at *
          rw [hfin]
          clear hfin
          go_wp2_with fail
          refine (CF.out _ (Below.refl _ _)).mono ?_
          rintro e w3 ⟨rfl, b3⟩
          have hbw := bel.trans (b3.mono bel.size)
          have DF := Lib.hid (fun V hV => CF.out V (b3.trans (Below.mono hV b3.size)))
          have hz3 := b3.size
          cases r
          all_goals
            go_wp2_with fail
            refine (top_right (Below.refl _ w3) DF.out).mono ?_
            rintro e w4 ⟨rfl, b4⟩
            go_wp2_with fail
            go_ret
            refine ⟨rfl, hbw.trans (((((Below.refl _ _).alloc (Nat.le_refl _) _).alloc (by simp) _).alloc (by simp; omega) _).trans (b4.mono ?_) |>.mono hbw.size)⟩
            show w3.heap.size ≤ (topW w3 g).heap.size
            unfold topW; simp; omega
end Go.Proofs.YtipijgnbdnbljaaDoor
