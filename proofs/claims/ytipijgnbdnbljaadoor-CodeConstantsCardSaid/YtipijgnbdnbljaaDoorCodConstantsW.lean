/- The walk of the statement CodeConstants. -/
import Derived.Test.YtipijgnbdnbljaaDoorCodConstantsP
import Derived.Test.YtipijgnbdnbljaaDoorOpen3
import Derived.Test.YtipijgnbdnbljaaDoorSlc
import Derived.Lib.QuietBelow
import Derived.Deep.DeepCutAuto
import Derived.Deep.CutBlock
import Derived.Deep.RegionLaw
import Derived.Deep.RegionHeld3
import Derived.OwnWalk
import Derived.Outline
set_option linter.unusedVariables false
set_option linter.unusedSimpArgs false
namespace Go.Proofs.YtipijgnbdnbljaaDoor
open Go.RowKit Go.Sort

set_option maxHeartbeats 16000000 in
set_option maxRecDepth 100000 in
theorem constants_walk (a b : Option Addr) (na ca nb cb : Nat) (zs : List Int) (L : List (Int × Int × Int)) (w : World) (h : Tb w) (hz : SliceR .i64 w a na ca zs) (hl : TripR w b nb L) (ha : na ≤ 200) (hb : nb ≤ 200) :
    Calls Tryd.prog 5 #[.slice a na ca, .slice b nb cb] w fun e w' => e = .returned (.bool true) ∧ Below w.heap.size w w' := by
  have HT := Lib.hid h
  have HZ := Lib.hid hz
  have HL := Lib.hid hl
  have HZL := Lib.hid hz.1
  have HLL := Lib.hid hl.1
  clear h hz hl
  have s1 : decide ((200 : Int) < (na : Int)) = false := by simp; omega
  have s2 : decide ((200 : Int) < (nb : Int)) = false := by simp; omega
  go_enter Tryd.func5, Tryd.ntmps5
  go_wp2_with fail
  refine (fit_any _ HT.out).mono ?_
  rintro e w1 ⟨rfl, b1⟩
  go_wp2_with fail
  have hS : SC w w1.heap.size nilS nilS [] (w1.alloc (.cells (FB nilS nilS nilS) 33)) := ⟨World.ownsRow_nil _ _ _ _, World.ownsRow_nil _ _ _ _, Blk.new _ _ _, (fun q h => by cases h), (fun i j hi => absurd hi (Nat.not_lt_zero _)), b1.alloc b1.size _, b1.size⟩
  obtain ⟨g, hg⟩ : ∃ g, w1.heap.size = g := ⟨_, rfl⟩
  rw [hg] at hS ⊢
  clear hg
  go_loopw [6, 27] (fun sv i wr => ∃ (k : Nat) (vs : List V) (cv : Value), k ≤ na ∧ i = .int .i64 k ∧ vs.length ≤ k ∧ SC w g sv cv vs wr) (fun _ i _ => na - (intOf i).toNat)
  case atStart => exact ⟨0, [], nilS, Nat.zero_le _, rfl, Nat.le_refl _, hS⟩
  case round =>
    obtain ⟨k, vs, cv, hk, rfl, hvk, hS⟩ := hrel
    by_cases hlt : k < na
    · have t1 : decide ((k : Int) < (na : Int)) = true := by simp; omega
      have z1 : (0 : Int) ≤ (k : Int) := by omega
      have z2 : (k : Int) < (na : Int) := by omega
      obtain ⟨bb, off, rfl, hbl, hcells⟩ := (HZ.out.below hS.bel).2.2.2.2 (by omega)
      have ck := hcells k hlt
      obtain ⟨n, hn⟩ : ∃ n, zs.getD k 0 = n := ⟨_, rfl⟩
      rw [hn] at ck
      clear hcells hn hlt hk
      have hgl := hS.blk.lt
      go_upto_if 35 with fail
      have HB : Below wr.heap.size wr (wr.alloc (.cells #[.int .i64 3, .int .i64 n, .string ⟨#[]⟩] 41)) := (Below.refl _ _).alloc (Nat.le_refl _) _
      go_cut [] (fun wx => ∃ x : V, Blk wx wr.heap.size 41 #[.int .i64 x.1, .int .i64 x.2.1, .string x.2.2] ∧ Below wr.heap.size wr wx)
      case first =>
        cases hbit : (bits BinOp.and IntKind.i64 n 1 == 1) with
        | false =>
          go_wp2_with fail
          go_meet
          exact ⟨(3, n, ⟨#[]⟩), Blk.new _ _ _, HB⟩
        | true =>
          clear hbit
          obtain ⟨c, hc, hcb⟩ := and15 (n / 2)
          have e1 : IntKind.u8.wrap (97 + (c : Int)) = 97 + (c : Int) := IntWalk.u8_in _ (by omega)
          have hcv := conv_byte (wr.alloc (.cells #[.int .i64 3, .int .i64 n, .string ⟨#[]⟩] 41)) c hc
          rw [World.size_alloc] at hcv
          have hlt128 : (UInt8.ofNat (97 + c)).toNat < 128 := by simp [UInt8.toNat_ofNat']; omega
          generalize UInt8.ofNat (97 + c) = ch at *
          go_wp2_with fail
          refine (val_byte ch hlt128 _).mono ?_
          rintro e w3 ⟨rfl, b3⟩
          have k1 : Blk w3 wr.heap.size 41 #[.int .i64 3, .int .i64 n, .string ⟨#[]⟩] := ((Blk.new wr _ _).alloc _).below b3 (by simp; omega)
          have x0 : w3.cell? ⟨wr.heap.size, 0, none⟩ = some (.int .i64 3) := by rw [k1.cell]; rfl
          have x1 : w3.cell? ⟨wr.heap.size, 1, none⟩ = some (.int .i64 n) := by rw [k1.cell]; rfl
          have x2 : w3.cell? ⟨wr.heap.size, 2, none⟩ = some (.string ⟨#[]⟩) := by rw [k1.cell]; rfl
          have y0 := k1.frozen 0
          have y1 := k1.frozen 1
          have y2 := k1.frozen 2
          have hz3 := k1.lt
          have B3 : Below wr.heap.size wr w3 := (HB.alloc (by simp) (.cells #[.int .u8 (97 + (c : Int))] 5)).trans (b3.mono (by simp; omega))
          clear hcv
          go_wp2_with fail
          go_meet
          exact ⟨(7, 0, ⟨#[0, ch]⟩), ((k1.set_ 0 _).set_ 1 _).set_ 2 _, ((B3.setCell (p := ⟨wr.heap.size, 0, none⟩) (Nat.le_refl _) _).setCell (p := ⟨wr.heap.size, 1, none⟩) (Nat.le_refl _) _).setCell (p := ⟨wr.heap.size, 2, none⟩) (Nat.le_refl _) _⟩
      case rest =>
      obtain ⟨x, hx, hbx⟩ := hcut
      obtain ⟨xk, xn, xs⟩ := x
      simp only at hx
      clear HB ck
      have hS2 := hS.below hbx
      obtain ⟨m, hm⟩ : ∃ m, vs.length = m := ⟨_, rfl⟩
      have HM := Lib.hid hm
      obtain ⟨aseen, caps, rfl, hcs⟩ := own_vals hS2.own1
      rw [hm]
      have HCS := Lib.hid hcs
      clear hcs hm
      have hm2 : m ≤ 1000 := by have := HM.out; omega
      go_wp2_with fail
      obtain ⟨wo, rfl⟩ : ∃ wo : World, wo = wc := ⟨_, rfl⟩
      obtain ⟨wu, rfl⟩ : ∃ wu : World, wu = wr := ⟨_, rfl⟩
      go_loopw [10, 46] (fun at_ j w2 => ∃ i : Nat, i ≤ m ∧ j = .int .i64 i ∧ at_ = .int .i64 (lastIx vs (xk, xn, xs) i) ∧ Below wo.heap.size wo w2) (fun _ j _ => m - (intOf j).toNat)
      case atStart => exact ⟨0, Nat.zero_le _, rfl, rfl, Below.refl _ _⟩
      case round =>
        obtain ⟨i, hi, rfl, rfl, hbw⟩ := hrel
        have hx2 := hx.below hbw hx.lt
        have hxl := hx2.lt
        have x0 : wr.cell? ⟨wu.heap.size, 0, none⟩ = some (.int .i64 xk) := by rw [hx2.cell]; rfl
        have x1 : wr.cell? ⟨wu.heap.size, 1, none⟩ = some (.int .i64 xn) := by rw [hx2.cell]; rfl
        have x2 : wr.cell? ⟨wu.heap.size, 2, none⟩ = some (.string xs) := by rw [hx2.cell]; rfl
        clear hx2
        by_cases hlt : i < m
        · have t2 : decide ((i : Int) < (m : Int)) = true := by simp; omega
          have z3 : (0 : Int) ≤ (i : Int) := by omega
          have z4 : (i : Int) < (m : Int) := by omega
          obtain ⟨sb, rfl, hsb, hcell⟩ := HCS.out (by have := HM.out; omega)
          obtain ⟨c0, c1, c2⟩ := hcell i (by have := HM.out; omega)
          obtain ⟨el, hel⟩ : ∃ x, vs.getD i v0 = x := ⟨_, rfl⟩
          rw [hel] at c0 c1 c2
          obtain ⟨ek, en, es⟩ := el
          simp only at c0 c1 c2
          have d0 := (hbw.cell (p := ⟨sb, i * 3, none⟩) hsb).trans c0
          have d1 := (hbw.cell (p := ⟨sb, i * 3 + 1, none⟩) hsb).trans c1
          have d2 := (hbw.cell (p := ⟨sb, i * 3 + 2, none⟩) hsb).trans c2
          have hb2 := hbw.alloc hbw.size (.cells #[.int .i64 ek, .int .i64 en, .string es] 41)
          obtain ⟨li, hli⟩ : ∃ li, lastIx vs (xk, xn, xs) i = li := ⟨_, rfl⟩
          have HLI := Lib.hid hli
          rw [hli]
          clear hli c0 c1 c2 hcell hbw
          by_cases hek : ek = xk
          case neg =>
            have q0 : (ek == xk) = false := by simpa using hek
            have hne : vs.getD i v0 ≠ (xk, xn, xs) := by rw [hel]; exact fun e => hek (congrArg (·.1) e)
            have HX := Lib.hid (show lastIx vs _ (i + 1) = li by rw [lastIx, if_neg hne]; exact HLI.out)
            clear hne hel
            go_wp2_with fail
            go_roundw
            case rel => exact ⟨i + 1, by omega, by go_num, by rw [HX.out], hb2⟩
            case measure => simp [intOf]; omega
          case pos =>
            subst hek
            by_cases hen : en = xn
            case neg =>
              have q0 : (en == xn) = false := by simpa using hen
              have hne : vs.getD i v0 ≠ (ek, xn, xs) := by rw [hel]; exact fun e => hen (congrArg (·.2.1) e)
              have HX := Lib.hid (show lastIx vs _ (i + 1) = li by rw [lastIx, if_neg hne]; exact HLI.out)
              clear hne hel
              go_wp2_with fail
              go_roundw
              case rel => exact ⟨i + 1, by omega, by go_num, by rw [HX.out], hb2⟩
              case measure => simp [intOf]; omega
            case pos =>
              subst hen
              by_cases hes : es.toList = xs.toList
              case neg =>
                have q0 : (es.toList == xs.toList) = false := by simpa using hes
                have hne : vs.getD i v0 ≠ (ek, en, xs) := by rw [hel]; exact fun e => hes (by have := congrArg (·.2.2) e; simp only at this; rw [this])
                have HX := Lib.hid (show lastIx vs _ (i + 1) = li by rw [lastIx, if_neg hne]; exact HLI.out)
                clear hne hel
                go_wp2_with fail
                go_roundw
                case rel => exact ⟨i + 1, by omega, by go_num, by rw [HX.out], hb2⟩
                case measure => simp [intOf]; omega
              case pos =>
                have q0 : (es.toList == xs.toList) = true := by simpa using hes
                have hne : vs.getD i v0 = (ek, en, xs) := by rw [hel, ba_ext hes]
                have HX := Lib.hid (show lastIx vs _ (i + 1) = (i : Int) by rw [lastIx, if_pos hne])
                clear hne hel
                go_wp2_with fail
                go_roundw
                case rel => exact ⟨i + 1, by omega, by go_num, by rw [HX.out], hb2⟩
                case measure => simp [intOf]; omega
        · obtain rfl : i = m := by omega
          have t2 : decide ((i : Int) < (i : Int)) = false := by simp
          have hS3 := hS2.below hbw
          rcases there_or_not vs (xk, xn, xs) with ⟨j, hj, hjv, hjn⟩ | hnone
          · have hjm : j < i := by have := HM.out; omega
            have HX := Lib.hid (show lastIx vs (xk, xn, xs) i = j from lastIx_at vs _ j i hjm hjv (fun q hq e => hS.once q j (by have := HM.out; omega) hj (e.trans hjv.symm)))
            rw [HX.out]
            have t3 : decide ((j : Int) < 0) = false := by simp
            have C := Lib.hid (fun (W : World) (hW : SC w g (.slice aseen vs.length caps) cv vs W) => constant_old g (g + 1) j nilS cv nilS vs xk xn xs W hW.blk hW.own2 (by omega) hj hjv hjn)
            go_upto_region 23 with fail
            obtain ⟨ac, capc, rfl, hcc⟩ := own_vals hS3.own2
            obtain ⟨cb2, rfl, hcb, hccell⟩ := hcc (by omega)
            obtain ⟨k0, k1, k2⟩ := hccell j hj
            rw [hjv] at k0 k1 k2
            simp only at k0 k1 k2
            have f9 : wr.cell? ⟨g, 9, none⟩ = some (.slice (some ⟨cb2, 0, none⟩) i capc) := by rw [hS3.blk.cell, ← HM.out]; rfl
            have Q0 := fun d os => cell_regrown x0 d os
            have Q1 := fun d os => cell_regrown x1 d os
            have Q2 := fun d os => cell_regrown x2 d os
            have Q3 := fun d os => cell_regrown k0 d os
            have Q4 := fun d os => cell_regrown k1 d os
            have Q5 := fun d os => cell_regrown k2 d os
            have Q6 := fun d os => cell_regrown f9 d os
            have D := fun d os => Calls.regrown_of (C.out (grow (redrawn wr d) os) (hS3.below (below_regrown wr d os)))
            have e1 : ((j : Int) == (j : Int)) = true := by simp
            have e2 : ((i : Int) == (i : Int)) = true := by simp
            have z3 : (0 : Int) ≤ (j : Int) := by omega
            have z4 : (j : Int) < (i : Int) := by omega
            have HS3 := Lib.hid hS3
            have HSV := Lib.hid hvk
            clear x0 x1 x2 k0 k1 k2 f9 hcc hccell hjv hjn hj hS3 hS2 hS hx hbx hbw hvk
            go_cut [84] (fun s84 wx => s84 = .bool false ∧ Below wr.heap.size wr wx)
            case first =>
              refine wp_region_quiet_below (by kernel_rfl) (by kernel_rfl) ?_
              repeat (first | go_big_quiet_step (with_reducible exact D _ _) | quiet_step (with_reducible exact D _ _))
              refine wpQuiet_nil ?_
              intro _ hw'
              obtain ⟨⟨dq, osq⟩, hw''⟩ := hw'
              subst hw''
              go_wp2_with fail
              go_meet
              exact ⟨rfl, below_regrown wr dq osq⟩
            case rest =>
            obtain ⟨rfl, hbq⟩ := hcut
            have hS4 := HS3.out.below hbq
            clear D Q0 Q1 Q2 Q3 Q4 Q5 Q6 hbq C HS3
            go_wp2_with fail
            go_roundw
            case rel => exact ⟨k + 1, vs, _, by omega, by go_num, by have := HSV.out; omega, by rw [← HM.out]; exact hS4⟩
            case measure => simp [intOf]; omega
          · have HX := Lib.hid (show lastIx vs (xk, xn, xs) i = -1 from lastIx_none vs _ i (fun q hq => hnone q (by have := HM.out; omega)))
            rw [HX.out]
            obtain ⟨i0, hi, hz0, hz1, hz2⟩ := info_parts infoVal
            have own1 : wr.ownsRow (g + 1) 41 3 (.slice aseen i caps) i (vCells vs) := by have := hS3.own1; rwa [HM.out] at this
            have hgw := hS3.blk.lt
            have hxw := hx.below hbw hx.lt
            have HOWN := Lib.hid own1
            go_upto_region 22 with fail
            go_cut [6] (fun s6 wx => ∃ gq capq, s6 = .slice (some ⟨gq, 0, none⟩) (i + 1) capq ∧ TC w g wu.heap.size (.slice (some ⟨gq, 0, none⟩) (vs.length + 1) capq) cv vs (xk, xn, xs) wx)
            case first =>
              go_wp2_with (at_builtin; refine wpList_append_lies _ rfl _ _ 29 rfl (g + 1) 41 i0 _ 3 32 Tryd.underlying29 hi hz0 hz1 hz2 rfl (by decide) _ _ _ rfl (HOWN.out.alloc _) ⟨wr.heap.size, 0, none⟩ 1 1 [.int .i64 xk, .int .i64 xn, .string xs] rfl rfl (World.news_of_block (cs := #[.int .i64 xk, .int .i64 xn, .string xs]) (t := 41) (fr := (0, 0)) (heap_alloc_new wr _)) (by simp [Value.oneCell']) (by decide) (by unfold maxLen; omega) (by omega) (by simp; omega) _ rfl ?_)
              intro gq capq w4 hown4 hgrow4 hat4 _
              go_wp2_with fail
              go_meet
              rw [← HM.out] at hown4 hgrow4
              exact ⟨gq, capq, rfl, TC.mk2 (x := (xk, xn, xs)) hS (hbx.trans (hbw.mono hbx.size)) hxw (Nat.le_refl _) hgrow4 hown4 (by simpa [HM.out] using hat4)⟩
            case rest =>
            obtain ⟨gq, capq, rfl, hT⟩ := hcut
            have kx := hT.box
            have x0' : wc.cell? ⟨wu.heap.size, 0, none⟩ = some (.int .i64 xk) := by rw [kx.cell]; rfl
            have x1' : wc.cell? ⟨wu.heap.size, 1, none⟩ = some (.int .i64 xn) := by rw [kx.cell]; rfl
            have x2' : wc.cell? ⟨wu.heap.size, 2, none⟩ = some (.string xs) := by rw [kx.cell]; rfl
            have hxl := kx.lt
            have hgl2 := hT.blk.lt
            have C : ∀ W, W.heap = wc.heap → W.os = wc.os → W.tape = wc.tape → W.output = wc.output → Calls Tryd.prog 13 #[.pointer (some ⟨g, 0, none⟩), .agg #[.int .i64 xk, .int .i64 xn, .string xs]] W fun e w' => e = .returned (.int .i64 i) ∧
                ∃ gp capp, SC w g (.slice (some ⟨gq, 0, none⟩) (vs.length + 1) capq) (.slice (some ⟨gp, 0, none⟩) (i + 1) capp) (vs ++ [(xk, xn, xs)]) w' ∧
                  w'.cell? ⟨g, 9, none⟩ = some (.slice (some ⟨gp, 0, none⟩) (i + 1) capp) ∧ w'.cell? ⟨gp, i * 3, none⟩ = some (.int .i64 xk) ∧ w'.cell? ⟨gp, i * 3 + 1, none⟩ = some (.int .i64 xn) ∧ w'.cell? ⟨gp, i * 3 + 2, none⟩ = some (.string xs) ∧
                  w'.cell? ⟨wu.heap.size, 0, none⟩ = some (.int .i64 xk) ∧ w'.cell? ⟨wu.heap.size, 1, none⟩ = some (.int .i64 xn) ∧ w'.cell? ⟨wu.heap.size, 2, none⟩ = some (.string xs) := by
              intro W e1 e2 e3 e4
              have := (hT.heq e1 e2 e3 e4).call hnone (by have := HM.out; omega)
              rw [HM.out] at this
              rw [HM.out]
              exact this
            have HC := Lib.hid C
            have HSV := Lib.hid hvk
            clear C kx hx hbx hbw hxw x0 x1 x2 hS hS2 hS3 hnone own1 hvk HOWN HCS
            go_upto_region 23 with fail
            go_cut [84] (fun s84 wx => s84 = .bool false ∧ ∃ gp capp, SC w g (.slice (some ⟨gq, 0, none⟩) (vs.length + 1) capq) (.slice (some ⟨gp, 0, none⟩) (i + 1) capp) (vs ++ [(xk, xn, xs)]) wx)
            case first =>
              have z3 : (0 : Int) ≤ (i : Int) := by omega
              have z4 : (i : Int) < (i : Int) + 1 := by omega
              go_region_with ((go_at_call 13; refine (HC.out _ (by rfl) (by rfl) (by rfl) (by rfl)).mono ?_; rintro e w5 ⟨rfl, gp, capp, hS5, f9, k0, k1, k2, y0, y1, y2⟩))
              all_goals
                go_wp2_with fail
                go_meet
                exact ⟨rfl, gp, capp, hS5⟩
            case rest =>
            obtain ⟨rfl, gp, capp, hS5⟩ := hcut
            go_wp2_with fail
            go_roundw
            case rel => exact ⟨k + 1, vs ++ [(xk, xn, xs)], _, by omega, by go_num, by rw [List.length_append]; have := HSV.out; simp; omega, by rw [← HM.out]; exact hS5⟩
            case measure => simp [intOf]; omega
    · have t1 : decide ((k : Int) < (na : Int)) = false := by simp; omega
      have hE : EC w g nilS cv [] wr := ⟨World.ownsRow_nil _ _ _ _, hS.blk, hS.bel, hS.lo⟩
      clear hS hvk hk
      obtain ⟨wo, rfl⟩ : ∃ wo : World, wo = wr := ⟨_, rfl⟩
      go_wp2_with fail
      go_loopw [88] (fun i wr => ∃ (k : Nat) (iv : Value), k ≤ nb ∧ i = .int .i64 k ∧ EC w g iv cv (L.take k) wr) (fun i _ => nb - (intOf i).toNat)
      case atStart => exact ⟨0, nilS, Nat.zero_le _, rfl, hE⟩
      case round =>
        obtain ⟨i, iv, hi, rfl, hE⟩ := hrel
        have hgl := hE.blk.lt
        have hll : (L.take i).length = i := by rw [List.length_take, HLL.out]; omega
        have HLI := Lib.hid hll
        clear hll
        by_cases hlt : i < nb
        · have t2 : decide ((i : Int) < (nb : Int)) = true := by simp; omega
          have z1 : (0 : Int) ≤ (i : Int) := by omega
          have z2 : (i : Int) < (nb : Int) := by omega
          obtain ⟨bb, off, rfl, hbl, hcells⟩ := (HL.out.below hE.bel).2 (by omega)
          obtain ⟨c0, c1, c2⟩ := hcells i hlt
          obtain ⟨it, hit⟩ : ∃ x, L.getD i (0, 0, 0) = x := ⟨_, rfl⟩
          rw [hit] at c0 c1 c2
          obtain ⟨op, x, y⟩ := it
          simp only at c0 c1 c2
          have HIT := Lib.hid hit
          clear hcells hit
          have hz := hE.bel.size
          go_upto_region 29 with fail
          have hE2 := hE.below ((Below.refl wr.heap.size wr).alloc (Nat.le_refl _) (.cells #[.int .i64 op, .int .i64 x, .int .i64 y] 37))
          have kb := Blk.new wr 37 #[.int .i64 op, .int .i64 x, .int .i64 y]
          generalize wr.alloc (.cells #[.int .i64 op, .int .i64 x, .int .i64 y] 37) = W at *
          have x0 : W.cell? ⟨wr.heap.size, 0, none⟩ = some (.int .i64 op) := by rw [kb.cell]; rfl
          have x1 : W.cell? ⟨wr.heap.size, 1, none⟩ = some (.int .i64 x) := by rw [kb.cell]; rfl
          have x2 : W.cell? ⟨wr.heap.size, 2, none⟩ = some (.int .i64 y) := by rw [kb.cell]; rfl
          have hkl := kb.lt
          have C : ∀ V, V.heap = W.heap → V.os = W.os → V.tape = W.tape → V.output = W.output → Calls Tryd.prog 14 #[.pointer (some ⟨g, 0, none⟩), .int .i64 op, .int .i64 x, .int .i64 y] V fun e w' => e = .returned (.int .i64 i) ∧
              ∃ gp capp, EC w g (.slice (some ⟨gp, 0, none⟩) (i + 1) capp) cv (L.take (i + 1)) w' ∧
                w'.cell? ⟨g, 8, none⟩ = some (.slice (some ⟨gp, 0, none⟩) (i + 1) capp) ∧ w'.cell? ⟨gp, i * 3, none⟩ = some (.int .i64 op) ∧ w'.cell? ⟨gp, i * 3 + 1, none⟩ = some (.int .i64 x) ∧ w'.cell? ⟨gp, i * 3 + 2, none⟩ = some (.int .i64 y) ∧
                w'.cell? ⟨wr.heap.size, 0, none⟩ = some (.int .i64 op) ∧ w'.cell? ⟨wr.heap.size, 1, none⟩ = some (.int .i64 x) ∧ w'.cell? ⟨wr.heap.size, 2, none⟩ = some (.int .i64 y) := by
            intro V e1 e2 e3 e4
            have := (hE2.heq e1 e2 e3 e4).call (op := op) (x := x) (y := y) (by rw [HLI.out]; omega) (show Blk V wr.heap.size 37 _ by unfold Blk; rw [e1]; exact kb)
            rw [HLI.out] at this
            have e5 : L.take i ++ [(op, x, y)] = L.take (i + 1) := by
              have hk2 : i < L.length := by rw [HLL.out]; omega
              rw [List.take_succ_eq_append_getElem hk2]
              have := HIT.out
              rw [List.getD_eq_getElem?_getD, List.getElem?_eq_getElem hk2] at this
              simp only [Option.getD_some] at this
              rw [this]
            rw [e5] at this
            exact this
          have HC := Lib.hid C
          clear C hE hE2 kb c0 c1 c2
          go_cut [116] (fun s116 wx => s116 = .bool false ∧ ∃ gp capp, EC w g (.slice (some ⟨gp, 0, none⟩) (i + 1) capp) cv (L.take (i + 1)) wx)
          case first =>
            have z4 : (i : Int) < (i : Int) + 1 := by omega

            refine wp_region_held_drew (S := (fun W => W.cell? ⟨wr.heap.size, 0, none⟩ = some (.int .i64 op) ∧ W.cell? ⟨wr.heap.size, 1, none⟩ = some (.int .i64 x) ∧ W.cell? ⟨wr.heap.size, 2, none⟩ = some (.int .i64 y))) (by kernel_rfl) (⟨x0, x1, x2⟩) (fun hHeld => ?_)
            refine wpAnyH_take (i := 0) (oi := ?oo501) (v := ?vv501) ?hi501 (by kernel_rfl) (by kernel_rfl) (by kernel_rfl) ?hq501 ?hy501 (by assumption) ?hh501
            case hi501 => (simp only [List.getElem?_toArray, List.getElem?_cons_succ, List.getElem?_cons_zero]; rfl)
            case hq501 => exact fun _ _ _ h => h
            case hy501 => exact Or.inl ⟨by rfl, by (intro W hSw; (try dsimp only at hSw); go_simp; (try with_reducible rfl))⟩
            (try simp only [Act.put, List.setIfInBounds_toArray, List.set_cons_zero, List.set_cons_succ])
            refine wpAnyH_take (i := 1) (oi := ?oo502) (v := ?vv502) ?hi502 (by kernel_rfl) (by kernel_rfl) (by kernel_rfl) ?hq502 ?hy502 (by assumption) ?hh502
            case hi502 => (simp only [List.getElem?_toArray, List.getElem?_cons_succ, List.getElem?_cons_zero]; rfl)
            case hq502 => exact fun _ _ _ h => h
            case hy502 => exact Or.inl ⟨by rfl, by (intro W hSw; (try dsimp only at hSw); go_simp; (try with_reducible rfl))⟩
            (try simp only [Act.put, List.setIfInBounds_toArray, List.set_cons_zero, List.set_cons_succ])
            refine wpAnyH_take (i := 2) (oi := ?oo503) (v := ?vv503) ?hi503 (by kernel_rfl) (by kernel_rfl) (by kernel_rfl) ?hq503 ?hy503 (by assumption) ?hh503
            case hi503 => (simp only [List.getElem?_toArray, List.getElem?_cons_succ, List.getElem?_cons_zero]; rfl)
            case hq503 => exact fun _ _ _ h => h
            case hy503 => exact Or.inl ⟨by rfl, by (intro W hSw; (try dsimp only at hSw); go_simp; (try with_reducible rfl))⟩
            (try simp only [Act.put, List.setIfInBounds_toArray, List.set_cons_zero, List.set_cons_succ])
            refine wpAnyH_take (i := 3) (oi := ?oo504) (v := ?vv504) ?hi504 (by kernel_rfl) (by kernel_rfl) (by kernel_rfl) ?hq504 ?hy504 (by assumption) ?hh504
            case hi504 => (simp only [List.getElem?_toArray, List.getElem?_cons_succ, List.getElem?_cons_zero]; rfl)
            case hq504 => exact fun _ _ _ h => h
            case hy504 => exact Or.inl ⟨by rfl, by (intro W hSw; (try dsimp only at hSw); go_simp; (try with_reducible rfl))⟩
            (try simp only [Act.put, List.setIfInBounds_toArray, List.set_cons_zero, List.set_cons_succ])
            refine wpAnyH_take (i := 4) (oi := ?oo505) (v := ?vv505) ?hi505 (by kernel_rfl) (by kernel_rfl) (by kernel_rfl) ?hq505 ?hy505 (by assumption) ?hh505
            case hi505 => (simp only [List.getElem?_toArray, List.getElem?_cons_succ, List.getElem?_cons_zero]; rfl)
            case hq505 => exact fun _ _ _ h => h
            case hy505 => exact Or.inl ⟨by rfl, by (intro W hSw; (try dsimp only at hSw); go_simp; (try with_reducible rfl))⟩
            (try simp only [Act.put, List.setIfInBounds_toArray, List.set_cons_zero, List.set_cons_succ])
            refine wpAnyH_take (i := 5) (oi := ?oo506) (v := ?vv506) ?hi506 (by kernel_rfl) (by kernel_rfl) (by kernel_rfl) ?hq506 ?hy506 (by assumption) ?hh506
            case hi506 => (simp only [List.getElem?_toArray, List.getElem?_cons_succ, List.getElem?_cons_zero]; rfl)
            case hq506 => exact fun _ _ _ h => h
            case hy506 => exact Or.inl ⟨by rfl, by (intro W hSw; (try dsimp only at hSw); go_simp; (try with_reducible rfl))⟩
            (try simp only [Act.put, List.setIfInBounds_toArray, List.set_cons_zero, List.set_cons_succ])
            refine wpAnyH_take (i := 7) (oi := ?oo507) (v := ?vv507) ?hi507 (by kernel_rfl) (by kernel_rfl) (by kernel_rfl) ?hq507 ?hy507 (by assumption) ?hh507
            case hi507 => (simp only [List.getElem?_toArray, List.getElem?_cons_succ, List.getElem?_cons_zero]; rfl)
            case hq507 => exact fun _ _ _ h => h
            case hy507 => exact Or.inl ⟨by rfl, by (intro W hSw; (try dsimp only at hSw); go_simp; (try with_reducible rfl))⟩
            (try simp only [Act.put, List.setIfInBounds_toArray, List.set_cons_zero, List.set_cons_succ])
            refine wpAnyH_ready (rs := [6]) (by kernel_rfl) (by simp) ?_
            refine AllReadyH.cons rfl (fun K hK => ?_) AllReadyH.nil
            go_simp
            go_at_call 14
            (with_reducible refine (HC.out _ (sameH W) (sameO W) (sameT W) (sameP W)).mono ?_)
            rintro e w5 ⟨rfl, gp, capp, hE5, f8, k0, k1, k2, y0, y1, y2⟩
            refine hK.out _ _ (⟨y0, y1, y2⟩) (fun hHeld => ?_)
            clear hK K
            (try simp only [Act.put, List.setIfInBounds_toArray, List.set_cons_zero, List.set_cons_succ])
            refine wpAnyH_take (i := 8) (oi := ?oo508) (v := ?vv508) ?hi508 (by kernel_rfl) (by kernel_rfl) (by kernel_rfl) ?hq508 ?hy508 (by assumption) ?hh508
            case hi508 => (simp only [List.getElem?_toArray, List.getElem?_cons_succ, List.getElem?_cons_zero]; rfl)
            case hq508 => exact fun _ _ _ h => h
            case hy508 => exact Or.inl ⟨by rfl, by (intro W hSw; (try dsimp only at hSw); go_simp; (try with_reducible rfl))⟩
            (try simp only [Act.put, List.setIfInBounds_toArray, List.set_cons_zero, List.set_cons_succ])
            refine wpAnyH_take (i := 9) (oi := ?oo509) (v := ?vv509) ?hi509 (by kernel_rfl) (by kernel_rfl) (by kernel_rfl) ?hq509 ?hy509 (by assumption) ?hh509
            case hi509 => (simp only [List.getElem?_toArray, List.getElem?_cons_succ, List.getElem?_cons_zero]; rfl)
            case hq509 => exact fun _ _ _ h => h
            case hy509 => exact Or.inl ⟨by rfl, by (intro W hSw; (try dsimp only at hSw); go_simp; (try with_reducible rfl))⟩
            (try simp only [Act.put, List.setIfInBounds_toArray, List.set_cons_zero, List.set_cons_succ])
            refine wpAnyH_take (i := 10) (oi := ?oo510) (v := ?vv510) ?hi510 (by kernel_rfl) (by kernel_rfl) (by kernel_rfl) ?hq510 ?hy510 (by assumption) ?hh510
            case hi510 => (simp only [List.getElem?_toArray, List.getElem?_cons_succ, List.getElem?_cons_zero]; rfl)
            case hq510 => exact fun _ _ _ h => h
            case hy510 => exact Or.inl ⟨by rfl, by (intro W hSw; (try dsimp only at hSw); go_simp; (try with_reducible rfl))⟩
            (try simp only [Act.put, List.setIfInBounds_toArray, List.set_cons_zero, List.set_cons_succ])
            refine wpAnyH_take (i := 12) (oi := ?oo511) (v := ?vv511) ?hi511 (by kernel_rfl) (by kernel_rfl) (by kernel_rfl) ?hq511 ?hy511 (by assumption) ?hh511
            case hi511 => (simp only [List.getElem?_toArray, List.getElem?_cons_succ, List.getElem?_cons_zero]; rfl)
            case hq511 => exact fun _ _ _ h => h
            case hy511 => exact Or.inl ⟨by rfl, by (intro W hSw; (try dsimp only at hSw); go_simp; (try with_reducible rfl))⟩
            (try simp only [Act.put, List.setIfInBounds_toArray, List.set_cons_zero, List.set_cons_succ])
            refine wpAnyH_take (i := 15) (oi := ?oo512) (v := ?vv512) ?hi512 (by kernel_rfl) (by kernel_rfl) (by kernel_rfl) ?hq512 ?hy512 (by assumption) ?hh512
            case hi512 => (simp only [List.getElem?_toArray, List.getElem?_cons_succ, List.getElem?_cons_zero]; rfl)
            case hq512 => exact fun _ _ _ h => h
            case hy512 => exact Or.inl ⟨by rfl, by (intro W hSw; (try dsimp only at hSw); go_simp; (try with_reducible rfl))⟩
            (try simp only [Act.put, List.setIfInBounds_toArray, List.set_cons_zero, List.set_cons_succ])
            refine wpAnyH_take (i := 16) (oi := ?oo513) (v := ?vv513) ?hi513 (by kernel_rfl) (by kernel_rfl) (by kernel_rfl) ?hq513 ?hy513 (by assumption) ?hh513
            case hi513 => (simp only [List.getElem?_toArray, List.getElem?_cons_succ, List.getElem?_cons_zero]; rfl)
            case hq513 => exact fun _ _ _ h => h
            case hy513 => exact Or.inl ⟨by rfl, by (intro W hSw; (try dsimp only at hSw); go_simp; (try with_reducible rfl))⟩
            (try simp only [Act.put, List.setIfInBounds_toArray, List.set_cons_zero, List.set_cons_succ])
            refine wpAnyH_take (i := 17) (oi := ?oo514) (v := ?vv514) ?hi514 (by kernel_rfl) (by kernel_rfl) (by kernel_rfl) ?hq514 ?hy514 (by assumption) ?hh514
            case hi514 => (simp only [List.getElem?_toArray, List.getElem?_cons_succ, List.getElem?_cons_zero]; rfl)
            case hq514 => exact fun _ _ _ h => h
            case hy514 => exact Or.inl ⟨by rfl, by (intro W hSw; (try dsimp only at hSw); go_simp; (try with_reducible rfl))⟩
            (try simp only [Act.put, List.setIfInBounds_toArray, List.set_cons_zero, List.set_cons_succ])
            refine wpAnyH_take (i := 18) (oi := ?oo515) (v := ?vv515) ?hi515 (by kernel_rfl) (by kernel_rfl) (by kernel_rfl) ?hq515 ?hy515 (by assumption) ?hh515
            case hi515 => (simp only [List.getElem?_toArray, List.getElem?_cons_succ, List.getElem?_cons_zero]; rfl)
            case hq515 => exact fun _ _ _ h => h
            case hy515 => exact Or.inl ⟨by rfl, by (intro W hSw; (try dsimp only at hSw); go_simp; (try with_reducible rfl))⟩
            (try simp only [Act.put, List.setIfInBounds_toArray, List.set_cons_zero, List.set_cons_succ])
            refine wpAnyH_take (i := 19) (oi := ?oo516) (v := ?vv516) ?hi516 (by kernel_rfl) (by kernel_rfl) (by kernel_rfl) ?hq516 ?hy516 (by assumption) ?hh516
            case hi516 => (simp only [List.getElem?_toArray, List.getElem?_cons_succ, List.getElem?_cons_zero]; rfl)
            case hq516 => exact fun _ _ _ h => h
            case hy516 => exact Or.inl ⟨by rfl, by (intro W hSw; (try dsimp only at hSw); go_simp; (try with_reducible rfl))⟩
            (try simp only [Act.put, List.setIfInBounds_toArray, List.set_cons_zero, List.set_cons_succ])
            refine wpAnyH_take (i := 20) (oi := ?oo517) (v := ?vv517) ?hi517 (by kernel_rfl) (by kernel_rfl) (by kernel_rfl) ?hq517 ?hy517 (by assumption) ?hh517
            case hi517 => (simp only [List.getElem?_toArray, List.getElem?_cons_succ, List.getElem?_cons_zero]; rfl)
            case hq517 => exact fun _ _ _ h => h
            case hy517 => exact Or.inl ⟨by rfl, by (intro W hSw; (try dsimp only at hSw); go_simp; (try with_reducible rfl))⟩
            (try simp only [Act.put, List.setIfInBounds_toArray, List.set_cons_zero, List.set_cons_succ])
            refine wpAnyH_take (i := 21) (oi := ?oo518) (v := ?vv518) ?hi518 (by kernel_rfl) (by kernel_rfl) (by kernel_rfl) ?hq518 ?hy518 (by assumption) ?hh518
            case hi518 => (simp only [List.getElem?_toArray, List.getElem?_cons_succ, List.getElem?_cons_zero]; rfl)
            case hq518 => exact fun _ _ _ h => h
            case hy518 => exact Or.inl ⟨by rfl, by (intro W hSw; (try dsimp only at hSw); go_simp; (try with_reducible rfl))⟩
            (try simp only [Act.put, List.setIfInBounds_toArray, List.set_cons_zero, List.set_cons_succ])
            refine wpAnyH_ready (rs := [11]) (by kernel_rfl) (by simp) ?_
            refine AllReadyH.cons rfl (fun K hK => ?_) AllReadyH.nil
            go_simp
            refine hK.out _ _ (by assumption) (fun hHeld => ?_)
            clear hK K
            (try simp only [Act.put, List.setIfInBounds_toArray, List.set_cons_zero, List.set_cons_succ])
            refine wpAnyH_take (i := 13) (oi := ?oo519) (v := ?vv519) ?hi519 (by kernel_rfl) (by kernel_rfl) (by kernel_rfl) ?hq519 ?hy519 (by assumption) ?hh519
            case hi519 => (simp only [List.getElem?_toArray, List.getElem?_cons_succ, List.getElem?_cons_zero]; rfl)
            case hq519 => exact fun _ _ _ h => h
            case hy519 => exact Or.inl ⟨by rfl, by (intro W hSw; (try dsimp only at hSw); go_simp; (try with_reducible rfl))⟩
            (try simp only [Act.put, List.setIfInBounds_toArray, List.set_cons_zero, List.set_cons_succ])
            refine wpAnyH_ready (rs := [14]) (by kernel_rfl) (by simp) ?_
            refine AllReadyH.cons rfl (fun K hK => ?_) AllReadyH.nil
            go_simp
            refine hK.out _ _ (by assumption) (fun hHeld => ?_)
            clear hK K
            (try simp only [Act.put, List.setIfInBounds_toArray, List.set_cons_zero, List.set_cons_succ])
            refine wpAnyH_take (i := 22) (oi := ?oo520) (v := ?vv520) ?hi520 (by kernel_rfl) (by kernel_rfl) (by kernel_rfl) ?hq520 ?hy520 (by assumption) ?hh520
            case hi520 => (simp only [List.getElem?_toArray, List.getElem?_cons_succ, List.getElem?_cons_zero]; rfl)
            case hq520 => exact fun _ _ _ h => h
            case hy520 => exact Or.inl ⟨by rfl, by (intro W hSw; (try dsimp only at hSw); go_simp; (try with_reducible rfl))⟩
            (try simp only [Act.put, List.setIfInBounds_toArray, List.set_cons_zero, List.set_cons_succ])
            refine wpAnyH_take (i := 23) (oi := ?oo521) (v := ?vv521) ?hi521 (by kernel_rfl) (by kernel_rfl) (by kernel_rfl) ?hq521 ?hy521 (by assumption) ?hh521
            case hi521 => (simp only [List.getElem?_toArray, List.getElem?_cons_succ, List.getElem?_cons_zero]; rfl)
            case hq521 => exact fun _ _ _ h => h
            case hy521 => exact Or.inl ⟨by rfl, by (intro W hSw; (try dsimp only at hSw); go_simp; (try with_reducible rfl))⟩
            (try simp only [Act.put, List.setIfInBounds_toArray, List.set_cons_zero, List.set_cons_succ])
            refine wpAnyH_done (by kernel_rfl) ?_ _
            go_wp2_with fail
            go_meet
            exact ⟨rfl, gp, capp, hE5⟩
          case rest =>
          obtain ⟨rfl, gp, capp, hE5⟩ := hcut
          go_wp2_with fail
          go_roundw
          case rel => exact ⟨i + 1, _, by omega, by go_num, hE5⟩
          case measure => simp [intOf]; omega
        · have hie : i = nb := by omega
          subst hie
          have t2 : decide ((i : Int) < (i : Int)) = false := by simp
          have f8 : ∃ ai ci, iv = .slice ai i ci := by
            rcases hE.own.2 with ⟨rfl, hn⟩ | ⟨q, cq, cur, rfl, _⟩
            · exact ⟨none, 0, by rw [← HLI.out, hn]⟩
            · exact ⟨_, cq, by rw [HLI.out]⟩
          obtain ⟨ai, ci, rfl⟩ := f8
          have f8 : wr.cell? ⟨g, 8, none⟩ = some (.slice ai i ci) := by rw [hE.blk.cell]; rfl
          have hb := hE.bel
          clear hE
          go_wp2_with fail
          go_ret
          exact ⟨by simp, hb⟩
end Go.Proofs.YtipijgnbdnbljaaDoor
