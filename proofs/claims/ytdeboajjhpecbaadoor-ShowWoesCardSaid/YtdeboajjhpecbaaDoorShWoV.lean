/- ShWoV: several texts in one. -/
import Derived.Test.YtdeboajjhpecbaaDoorShY
import Derived.Test.YtdeboajjhpecbaaDoorShJ
import Derived.Test.YtdeboajjhpecbaaDoorShV
/- Show: the walk of ShowWoes. -/
set_option linter.unusedVariables false
set_option linter.unusedSimpArgs false
namespace Go.Proofs.YtdeboajjhpecbaaDoor.Hp
open Go.RowKit Go.Proofs.YtdeboajjhpecbaaDoor Go.Shelf
set_option maxRecDepth 100000 in
set_option maxHeartbeats 8000000 in
theorem woes_long (a0 a1 a2 : Option Addr) (n0 n1 n2 c0 c1 c2 : Nat) (l0 l1 l2 : List Nat) (how : Int) (w : World) (hR : Tx.SliceR .u16 w a0 n0 c0 (Tx.ints l0) ∧ Tx.SliceR .u16 w a1 n1 c1 (Tx.ints l1) ∧ Tx.SliceR .u16 w a2 n2 c2 (Tx.ints l2)) (hf : Tx.Fits l0 ∧ Tx.Fits l1 ∧ Tx.Fits l2) (hl : l0.length = n0 ∧ l1.length = n1 ∧ l2.length = n2) (hT : Vx.Tb w) (hn : 200 < n0 ∨ 200 < n1 ∨ 200 < n2) : Calls Tryd.prog 4 #[.agg #[.slice a0 n0 c0, .slice a1 n1 c1, .slice a2 n2 c2], .int .i64 how] w (Ret (.bool true) w) := by
  have HT := Lib.hid hT
  clear hT hR hf hl
  go_enter Tryd.func4, Tryd.ntmps4
  go_wp2_with (fail)
  have bn := (Below.refl w.heap.size w).alloc (Nat.le_refl _) (.cells #[.slice a0 n0 c0, .slice a1 n1 c1, .slice a2 n2 c2] 56)
  have kb := Blk.new w 56 #[.slice a0 n0 c0, .slice a1 n1 c1, .slice a2 n2 c2]
  refine (fit_any _ (HT.out.below bn)).mono ?_
  rintro e w0 ⟨rfl, b0⟩
  have HB := Lib.hid (bn.trans (b0.mono bn.size))
  have kb0 := kb.below b0 kb.lt
  have x0 : w0.cell? ⟨w.heap.size, 0, none⟩ = some (.slice a0 n0 c0) := by rw [kb0.cell]; rfl
  have x1 : w0.cell? ⟨w.heap.size, 1, none⟩ = some (.slice a1 n1 c1) := by rw [kb0.cell]; rfl
  have x2 : w0.cell? ⟨w.heap.size, 2, none⟩ = some (.slice a2 n2 c2) := by rw [kb0.cell]; rfl
  clear bn kb b0 kb0
  go_wp2_with (fail)
  go_quiet (fail)
  have HB2 := Lib.hid (below_drw HB.out nq)
  clear HB x0 x1 x2
  generalize w0.drewN nq = w1 at *
  by_cases h0 : 200 < n0
  · have t0 : decide ((n0 : Int) > 200) = true := by simp; omega
    clear hn h0
    go_wp2
    go_ret
    exact ⟨rfl, HB2.out⟩
  · have t0 : decide ((n0 : Int) > 200) = false := by simp; omega
    by_cases h1 : 200 < n1
    · have t1 : decide ((n1 : Int) > 200) = true := by simp; omega
      clear hn h0 h1
      go_wp2
      go_ret
      exact ⟨rfl, HB2.out⟩
    · have t1 : decide ((n1 : Int) > 200) = false := by simp; omega
      have t2 : decide ((n2 : Int) > 200) = true := by simp; omega
      clear hn h0 h1
      go_wp2
      go_ret
      exact ⟨rfl, HB2.out⟩
set_option maxRecDepth 100000 in
set_option maxHeartbeats 16000000 in
theorem woes_short (a0 a1 a2 : Option Addr) (n0 n1 n2 c0 c1 c2 : Nat) (l0 l1 l2 : List Nat) (how : Int) (w : World) (hR : Tx.SliceR .u16 w a0 n0 c0 (Tx.ints l0) ∧ Tx.SliceR .u16 w a1 n1 c1 (Tx.ints l1) ∧ Tx.SliceR .u16 w a2 n2 c2 (Tx.ints l2)) (hf : Tx.Fits l0 ∧ Tx.Fits l1 ∧ Tx.Fits l2) (hl : l0.length = n0 ∧ l1.length = n1 ∧ l2.length = n2) (hT : Vx.Tb w) (hn0 : n0 ≤ 200) (hn1 : n1 ≤ 200) (hn2 : n2 ≤ 200) : Calls Tryd.prog 4 #[.agg #[.slice a0 n0 c0, .slice a1 n1 c1, .slice a2 n2 c2], .int .i64 how] w (Ret (.bool true) w) := by
  have HT := Lib.hid hT
  have HR := Lib.hid (And.intro hR (And.intro hf hl))
  have t0 : decide ((n0 : Int) > 200) = false := by simp; omega
  have t1 : decide ((n1 : Int) > 200) = false := by simp; omega
  have t2 : decide ((n2 : Int) > 200) = false := by simp; omega
  obtain ⟨hm, hhm⟩ : ∃ h, (bits .and .i64 how 1 == 1) = h := ⟨_, rfl⟩
  obtain ⟨hn, hhn⟩ : ∃ h, (bits .and .i64 how 2 == 2) = h := ⟨_, rfl⟩
  have HHM := Lib.hid (And.intro hhm hhn)
  clear hT hR hf hl hhm hhn
  go_enter Tryd.func4, Tryd.ntmps4
  go_wp2_with (fail)
  have bn := (Below.refl w.heap.size w).alloc (Nat.le_refl _) (.cells #[.slice a0 n0 c0, .slice a1 n1 c1, .slice a2 n2 c2] 56)
  have kb := Blk.new w 56 #[.slice a0 n0 c0, .slice a1 n1 c1, .slice a2 n2 c2]
  refine (fit_any _ (HT.out.below bn)).mono ?_
  rintro e w0 ⟨rfl, b0⟩
  have HB := Lib.hid (bn.trans (b0.mono bn.size))
  have kb0 := kb.below b0 kb.lt
  have x0 : w0.cell? ⟨w.heap.size, 0, none⟩ = some (.slice a0 n0 c0) := by rw [kb0.cell]; rfl
  have x1 : w0.cell? ⟨w.heap.size, 1, none⟩ = some (.slice a1 n1 c1) := by rw [kb0.cell]; rfl
  have x2 : w0.cell? ⟨w.heap.size, 2, none⟩ = some (.slice a2 n2 c2) := by rw [kb0.cell]; rfl
  clear bn kb b0 kb0
  go_wp2_with (fail)
  go_quiet (fail)
  have HB2 := Lib.hid (below_drw HB.out nq)
  clear HB x0 x1 x2
  generalize w0.drewN nq = w1 at *
  go_wp2_with (fail)
  refine (machine_any _).mono ?_
  rintro e w2 ⟨m, H, A, B, cv, cs, ps, rfl, hM, hc, b1⟩
  have HM := Lib.hid (And.intro hM (And.intro hc (And.intro (HB2.out.trans (b1.mono HB2.out.size)) (And.intro b1.size HB2.out.size))))
  have x0 : w2.cell? ⟨m, 0, none⟩ = some (.pointer (some ⟨H, 0, none⟩)) := by rw [hM.mb.cell]; rfl
  clear hM hc b1 HB2 t0 t1 t2
  go_wp2_with (fail)
  refine (HM.out.1.make2 0 0 (by have := HM.out.2.1; omega) HM.out.2.2.2.1).mono ?_
  rintro e w3 ⟨b, T, cv2, rfl, hM2, hB, hT, h3, h4, hK, b6, hU, hO⟩
  have hP : P1 w w1.heap.size m H A B cv2 (cs ++ [(some (tObj, b), false)]) ps (cs.length + 1) b T [] (fun k => k = T) w3 := by
    obtain ⟨tc, htc⟩ := tabA_blk hT
    have hm := HM.out.1.mb.lt
    have hH := HM.out.1.hx.hb.lt
    have hA := HM.out.1.hx.ar.blk.lt
    refine ⟨hM2, by have := HM.out.2.1; simp; omega, objP_last cs b, hB, hT, ?_, HM.out.2.2.2.2, HM.out.2.2.1.trans (b6.mono HM.out.2.2.2.2)⟩
    rintro x rfl
    exact ⟨by omega, by omega, by omega, fun e => own_blk_ne hM2.hx.ar.cells htc (by decide) e, by omega, Nat.le_trans HM.out.2.2.1.size h3⟩
  have hl3 : (cs ++ [(some (tObj, b), false)]).length ≤ 50 := by have := HM.out.2.1; simp; omega
  obtain ⟨r, hr⟩ : ∃ r : Nat, cs.length + 1 = r := ⟨_, rfl⟩
  rw [hr] at hP ⊢
  have HP := Lib.hid (And.intro hP hl3)
  have hri : ((cs.length : Nat) : Int) + 1 = (r : Int) := by rw [← hr]; rfl
  clear hP hl3 hM2 hB hT h3 h4 hK b6 hU hO HM x0
  generalize cs ++ [(some (tObj, b), false)] = cs2 at *
  go_wp2_with (fail)
  refine (Tx.str14_any a0 n0 c0 l0 w3 (HR.out.1.1.below HP.out.1.bel) HR.out.2.1.1 (by omega)).mono ?_
  rintro e w4 ⟨rfl, b6⟩
  have HP := Lib.hid (And.intro (HP.out.1.below b6) HP.out.2)
  clear b6
  go_wp2_with (fail)
  refine (vmown_any _ b T ⟨#[110, 97, 109, 101]⟩ (7, 0, Tx.uS l0) 5 [] [] _ w4 (by rw [HP.out.1.ob.cell]; rfl) HP.out.1.tab (by decide) nameK_size (by simp) (by simp)).mono ?_
  rintro e w5 ⟨rfl, ⟨O1, hp1, hp3⟩, hp2⟩
  rw [put_p1] at hp1
  have HP := Lib.hid (And.intro (HP.out.1.turn hp1 hp3 hp2) HP.out.2)
  clear hp1 hp2 hp3
  go_wp2_with (fail)
  refine (Tx.str14_any a1 n1 c1 l1 w5 (HR.out.1.2.1.below HP.out.1.bel) HR.out.2.1.2.1 (by omega)).mono ?_
  rintro e w6 ⟨rfl, b6⟩
  have HP := Lib.hid (And.intro (HP.out.1.below b6) HP.out.2)
  clear b6
  go_wp2_with (fail)
  refine (vmown_any _ b T ⟨#[109, 101, 115, 115, 97, 103, 101]⟩ (7, 0, Tx.uS l1) 5 [⟨nameK3, (7, 0, Tx.uS l0), 5, false⟩] [] O1 w6 (by rw [HP.out.1.ob.cell]; rfl) HP.out.1.tab (by decide) msgK_size (by simp) (by simp)).mono ?_
  rintro e w7 ⟨rfl, ⟨O2, hp1, hp3⟩, hp2⟩
  rw [put_p2] at hp1
  have HP := Lib.hid (And.intro (HP.out.1.turn hp1 hp3 hp2) HP.out.2)
  clear hp1 hp2 hp3
  have x0 : w7.cell? ⟨m, 0, none⟩ = some (.pointer (some ⟨H, 0, none⟩)) := by rw [HP.out.1.ms.mb.cell]; rfl
  go_wp2_with (fail)
  refine (HP.out.1.make (by have := HP.out.2; omega)).mono ?_
  rintro e w8 ⟨c, U, cv3, V0, rfl, hQ⟩
  obtain ⟨Q, hQQ⟩ : ∃ x : Nat, cs2.length + 1 = x := ⟨_, rfl⟩
  rw [hQQ] at hQ ⊢
  have hqi : ((cs2.length : Nat) : Int) + 1 = (Q : Int) := by rw [← hQQ]; rfl
  have HQ : Hid (∃ V, P2 w w1.heap.size m H A B cv3 (cs2 ++ [(some (tObj, c), false)]) ps r b T (pEnts (7, 0, Tx.uS l0) (7, 0, Tx.uS l1)) O2 Q c U (eEnts false false (7, 0, Tx.uS l2)) V w8) := Lib.hid ⟨V0, hQ⟩
  clear hQ hQQ hri x0 HP
  generalize cs2 ++ [(some (tObj, c), false)] = cs3 at *
  have e1 := HHM.out.1
  go_upto_if 70 with fail
  go_cut [13] from 13 to 77 (fun s13 wx => (∃ aL nL cL lL, s13 = .slice aL nL cL ∧ Hid (Tx.SliceR .u16 w aL nL cL (Tx.ints lL) ∧ Tx.Fits lL ∧ lL.length = nL ∧ nL ≤ 200 ∧ lL = pickL hm l2 l1)) ∧ Hid (∃ V, P2 w w1.heap.size m H A B cv3 cs3 ps r b T (pEnts (7, 0, Tx.uS l0) (7, 0, Tx.uS l1)) O2 Q c U (eEnts hm false (7, 0, Tx.uS l2)) V wx))
  case first =>
    cases hm with
    | true =>
      go_wp2_with (fail)
      obtain ⟨V, hV⟩ := HQ.out
      have HQ := Lib.hid hV
      clear hV
      refine (Tx.str14_any a2 n2 c2 l2 w8 (HR.out.1.2.2.below HQ.out.p1.bel) HR.out.2.1.2.2 (by omega)).mono ?_
      rintro e w9 ⟨rfl, b6⟩
      have HQ := Lib.hid (HQ.out.below b6)
      clear b6
      go_wp2_with (fail)
      refine (vmown_any _ c U ⟨#[109, 101, 115, 115, 97, 103, 101]⟩ (7, 0, Tx.uS l2) 5 (eEnts false false (7, 0, Tx.uS l2)) [] V w9 (by rw [HQ.out.ob.cell]; rfl) HQ.out.tab (by decide) msgK_size (by simp [eEnts]) (by simp)).mono ?_
      rintro e w10 ⟨rfl, ⟨V2, hp1, hp3⟩, hp2⟩
      rw [put_e1] at hp1
      have HQ : Hid (∃ V, P2 w w1.heap.size m H A B cv3 cs3 ps r b T (pEnts (7, 0, Tx.uS l0) (7, 0, Tx.uS l1)) O2 Q c U (eEnts true false (7, 0, Tx.uS l2)) V w10) := Lib.hid ⟨V2, HQ.out.turn hp1 hp3 hp2⟩
      clear hp1 hp2 hp3
      go_wp2_with (fail)
      go_meet
      exact ⟨⟨a2, n2, c2, l2, rfl, Lib.hid ⟨HR.out.1.2.2, HR.out.2.1.2.2, HR.out.2.2.2.2, hn2, rfl⟩⟩, HQ⟩
    | false =>
      go_wp2_with (fail)
      go_meet
      exact ⟨⟨a1, n1, c1, l1, rfl, Lib.hid ⟨HR.out.1.2.1, HR.out.2.1.2.1, HR.out.2.2.2.1, hn1, rfl⟩⟩, HQ⟩
  case rest =>
  obtain ⟨⟨aM, nM, cM, lM, rfl, HLM⟩, HQ⟩ := hcut
  clear e1 hqi hr
  have e2 := HHM.out.2
  go_upto_if 81 with fail
  go_cut [14] from 14 to 88 (fun s14 wx => (∃ aL nL cL lL, s14 = .slice aL nL cL ∧ Hid (Tx.SliceR .u16 w aL nL cL (Tx.ints lL) ∧ Tx.Fits lL ∧ lL.length = nL ∧ nL ≤ 200 ∧ lL = pickL hn l2 l0)) ∧ Hid (∃ V, P2 w w1.heap.size m H A B cv3 cs3 ps r b T (pEnts (7, 0, Tx.uS l0) (7, 0, Tx.uS l1)) O2 Q c U (eEnts hm hn (7, 0, Tx.uS l2)) V wx))
  case first =>
    cases hn with
    | true =>
      go_wp2_with (fail)
      obtain ⟨V, hV⟩ := HQ.out
      have HQ := Lib.hid hV
      clear hV
      refine (Tx.str14_any a2 n2 c2 l2 wc (HR.out.1.2.2.below HQ.out.p1.bel) HR.out.2.1.2.2 (by omega)).mono ?_
      rintro e w9 ⟨rfl, b6⟩
      have HQ := Lib.hid (HQ.out.below b6)
      clear b6
      go_wp2_with (fail)
      refine (vmown_any _ c U ⟨#[110, 97, 109, 101]⟩ (7, 0, Tx.uS l2) 5 (eEnts hm false (7, 0, Tx.uS l2)) [] V w9 (by rw [HQ.out.ob.cell]; rfl) HQ.out.tab (by decide) nameK_size (by first | decide | (cases hm <;> simp [eEnts])) (by simp)).mono ?_
      rintro e w10 ⟨rfl, ⟨V2, hp1, hp3⟩, hp2⟩
      rw [put_e2] at hp1
      have HQ : Hid (∃ V, P2 w w1.heap.size m H A B cv3 cs3 ps r b T (pEnts (7, 0, Tx.uS l0) (7, 0, Tx.uS l1)) O2 Q c U (eEnts hm true (7, 0, Tx.uS l2)) V w10) := Lib.hid ⟨V2, HQ.out.turn hp1 hp3 hp2⟩
      clear hp1 hp2 hp3
      go_wp2_with (fail)
      go_meet
      exact ⟨⟨a2, n2, c2, l2, rfl, Lib.hid ⟨HR.out.1.2.2, HR.out.2.1.2.2, HR.out.2.2.2.2, hn2, rfl⟩⟩, HQ⟩
    | false =>
      go_wp2_with (fail)
      go_meet
      exact ⟨⟨a0, n0, c0, l0, rfl, Lib.hid ⟨HR.out.1.1, HR.out.2.1.1, HR.out.2.2.1, hn0, rfl⟩⟩, HQ⟩
  case rest =>
  obtain ⟨⟨aN, nN, cN, lN, rfl, HLN⟩, ⟨V, hV⟩⟩ := hcut
  have HQ := Lib.hid hV
  clear e2 hV
  clear HR
  have hwl := wantL_len lM.isEmpty lN lM (by have := HLN.out; omega) (by have := HLM.out; omega)
  have HWL := Lib.hid (And.intro hwl (And.intro (goL_len lN (by have := HLN.out; omega)) (goL_len lM (by have := HLM.out; omega))))
  clear hwl
  go_wp2_with (fail)
  refine (Tx.str14_any aN nN cN lN wc (HLN.out.1.below HQ.out.p1.bel) HLN.out.2.1 (by have := HLN.out; omega)).mono ?_
  rintro e w9 ⟨rfl, b6⟩
  have HQ := Lib.hid (HQ.out.below b6)
  clear b6
  go_wp2_with (fail)
  refine (Tx.go_uS lN HLN.out.2.1 w9 (by have := HLN.out; omega)).mono ?_
  rintro e w10 ⟨rfl, b6⟩
  have HQ := Lib.hid (HQ.out.below b6)
  clear b6
  obtain ⟨gN, hgN⟩ : ∃ g, Tx.goB (Tx.signs lN) = g := ⟨_, rfl⟩
  rw [hgN]
  have HGN := Lib.hid hgN
  clear hgN
  go_upto_if 94 with fail
  obtain ⟨res, hres⟩ : ∃ r, wantL lM.isEmpty lN lM = r := ⟨_, rfl⟩
  have HRES := Lib.hid hres
  rw [hres] at HWL
  clear hres
  go_cut [15] from 15 to 100 (fun s15 wx => s15 = .string ⟨res.toArray⟩ ∧ Hid (P2 w w1.heap.size m H A B cv3 cs3 ps r b T (pEnts (7, 0, Tx.uS l0) (7, 0, Tx.uS l1)) O2 Q c U (eEnts hm hn (7, 0, Tx.uS l2)) V wx))
  case first =>
    by_cases hz : 0 < nM
    · have t4 : decide ((nM : Int) > 0) = true := by simp; omega
      have hB : lM.isEmpty = false := by have h5 := HLM.out.2.2.1; cases lM with | nil => (simp at h5; omega) | cons x y => rfl
      have HBB := Lib.hid hB
      clear hB
      go_wp2_with (fail)
      refine (Tx.str14_any aM nM cM lM w10 (HLM.out.1.below HQ.out.p1.bel) HLM.out.2.1 (by have := HLM.out; omega)).mono ?_
      rintro e w11 ⟨rfl, b6⟩
      have HQ := Lib.hid (HQ.out.below b6)
      clear b6
      go_wp2_with (fail)
      refine (Tx.go_uS lM HLM.out.2.1 w11 (by have := HLM.out; omega)).mono ?_
      rintro e w12 ⟨rfl, b6⟩
      have HQ := Lib.hid (HQ.out.below b6)
      clear b6 t4
      obtain ⟨gM, hgM⟩ : ∃ g, Tx.goB (Tx.signs lM) = g := ⟨_, rfl⟩
      rw [hgM]
      have HGM := Lib.hid hgM
      have hl1 : gN.length ≤ 1200 := by rw [← HGN.out]; exact HWL.out.2.1
      have hl2 : gM.length ≤ 1200 := by rw [← hgM]; exact HWL.out.2.2
      clear hgM
      have t5 : ¬ 9223372036854775807 < 2 + gM.length := by omega
      have t6 : ¬ 9223372036854775807 < gM.length + 1 + 1 := by omega
      have t7 : ¬ 9223372036854775807 < gN.length + (2 + gM.length) := by omega
      have t8 : ¬ 9223372036854775807 < gN.length + (gM.length + 1 + 1) := by omega
      go_wp2_with (fail)
      go_meet
      exact ⟨by rw [← HRES.out, HBB.out]; exact congrArg Value.string (ByteArray.ext (by rw [wantL]; simp only [goL, HGN.out, HGM.out]; first | rfl | (apply Array.ext'; simp [ByteArray.data_append]))), HQ⟩
    · have t4 : decide ((nM : Int) > 0) = false := by simp; omega
      have hB : lM.isEmpty = true := by have h5 := HLM.out.2.2.1; cases lM with | nil => rfl | cons x y => (simp at h5; omega)
      have HBB := Lib.hid hB
      clear hB
      go_wp2_with (fail)
      go_meet
      exact ⟨by rw [← HRES.out, HBB.out, ← HGN.out]; rfl, HQ⟩
  case rest =>
  obtain ⟨rfl, HQ⟩ := hcut
  clear HGN
  go_wp2_with (fail)
  refine (vobject_any _ _).mono ?_
  rintro e w13 ⟨rfl, b6⟩
  have HQ := Lib.hid (HQ.out.below b6)
  clear b6
  go_wp2_with (fail)
  have hTT : ∀ W, Below w13.heap.size w13 W → Vx.Tb W := fun W hW => HT.out.below (HQ.out.p1.bel.trans (hW.mono HQ.out.p1.bel.size))
  have hwo := HQ.out.woe hTT ⟨#[]⟩ lN lM HLN.out.2.2.2.2 HLM.out.2.2.2.2 HLN.out.2.1 HLM.out.2.1 (by have := HLN.out; omega) (by have := HLM.out; omega) w13 (Below.refl _ _)
  rw [HRES.out] at hwo
  refine hwo.mono ?_
  rintro e w14 ⟨rfl, b6⟩
  have HQ := Lib.hid (HQ.out.below b6)
  clear b6 hwo hTT
  go_wp2_with (fail)
  refine (vobject_any _ _).mono ?_
  rintro e w15 ⟨rfl, b6⟩
  have HQ := Lib.hid (HQ.out.below b6)
  clear b6
  go_wp2_with (fail)
  have hTT : ∀ W, Below w15.heap.size w15 W → Vx.Tb W := fun W hW => HT.out.below (HQ.out.p1.bel.trans (hW.mono HQ.out.p1.bel.size))
  have hsh := HQ.out.shs hTT ⟨#[]⟩ lN lM HLN.out.2.2.2.2 HLM.out.2.2.2.2 HLN.out.2.1 HLM.out.2.1 (by have := HLN.out; omega) (by have := HLM.out; omega)
  rw [HRES.out] at hsh
  refine (Show_any m 9 (Q : Int) ⟨#[]⟩ ⟨res.toArray⟩ (by have := HWL.out.1; show res.toArray.size ≤ _; rw [List.size_toArray]; omega) _ (fun W hW => shs_show HQ.out.p1.ms (by have := HQ.out.p1.len; omega) hTT hsh W hW)).mono ?_
  rintro e w16 ⟨rfl, b6⟩
  have HB := Lib.hid (HQ.out.p1.bel.trans (b6.mono HQ.out.p1.bel.size))
  clear b6 hsh hTT
  go_wp2
  go_ret
  exact ⟨rfl, HB.out⟩
theorem woes_walk (a0 a1 a2 : Option Addr) (n0 n1 n2 c0 c1 c2 : Nat) (l0 l1 l2 : List Nat) (how : Int) (w : World) (hR : Tx.SliceR .u16 w a0 n0 c0 (Tx.ints l0) ∧ Tx.SliceR .u16 w a1 n1 c1 (Tx.ints l1) ∧ Tx.SliceR .u16 w a2 n2 c2 (Tx.ints l2)) (hf : Tx.Fits l0 ∧ Tx.Fits l1 ∧ Tx.Fits l2) (hl : l0.length = n0 ∧ l1.length = n1 ∧ l2.length = n2) (hT : Vx.Tb w) : Calls Tryd.prog 4 #[.agg #[.slice a0 n0 c0, .slice a1 n1 c1, .slice a2 n2 c2], .int .i64 how] w (Ret (.bool true) w) := by
  by_cases h : 200 < n0 ∨ 200 < n1 ∨ 200 < n2
  · exact woes_long a0 a1 a2 n0 n1 n2 c0 c1 c2 l0 l1 l2 how w hR hf hl hT h
  · exact woes_short a0 a1 a2 n0 n1 n2 c0 c1 c2 l0 l1 l2 how w hR hf hl hT (by omega) (by omega) (by omega)
end Go.Proofs.YtdeboajjhpecbaaDoor.Hp

/- The statement ShowWoes, from its walk. -/
set_option linter.unusedVariables false
set_option linter.unusedSimpArgs false
namespace Go.Proofs.YtdeboajjhpecbaaDoor
open Go.RowKit
theorem woes_said (a0 a1 a2 : Option Addr) (n0 n1 n2 c0 c1 c2 : Nat) (z0 z1 z2 : List Int) (how : Int) (w : World) (r0 : Tx.IsRow .u16 w a0 n0 c0 z0) (r1 : Tx.IsRow .u16 w a1 n1 c1 z1) (r2 : Tx.IsRow .u16 w a2 n2 c2 z2) (wn : (Lit.int .i64 how).wf = true) (hL : laidMetH Tryd.prog Rows.showWoesRow.laid w) :
    Calls Tryd.prog 4 #[.agg #[.slice a0 n0 c0, .slice a1 n1 c1, .slice a2 n2 c2], .int .i64 how] w fun e w' => e = .returned (.bool true) ∧ Below w.heap.size w w' := by
  rw [Go.MakeChecks.laidMetH_plain _ _ _ (by kernel_rfl)] at hL
  obtain ⟨l0, h0, f0, e0⟩ := Tx.units_in r0
  obtain ⟨l1, h1, f1, e1⟩ := Tx.units_in r1
  obtain ⟨l2, h2, f2, e2⟩ := Tx.units_in r2
  exact Hp.woes_walk a0 a1 a2 n0 n1 n2 c0 c1 c2 l0 l1 l2 how w ⟨h0, h1, h2⟩ ⟨f0, f1, f2⟩ ⟨e0, e1, e2⟩ (tb_of w (Lib.laidMet.reads hL (.tail _ (.tail _ (.head _)))))
end Go.Proofs.YtdeboajjhpecbaaDoor
