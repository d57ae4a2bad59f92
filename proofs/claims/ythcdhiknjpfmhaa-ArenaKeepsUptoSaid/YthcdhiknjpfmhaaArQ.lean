/- The arena: Collect, no function being given. -/
import Derived.Test.YthcdhiknjpfmhaaArT
set_option linter.unusedVariables false
set_option linter.unusedSimpArgs false
namespace Go.Proofs.Ythcdhiknjpfmhaa
open Go.RowKit Go.Shelf
attribute [local go_sem] Oper.semAt_some

theorem methodDrop (a : Addr) (w : World) : (method 207 27 (.pointer (some a)) "Drop").run Try.prog w = .ok (21, .pointer (some a)) w := by kernel_rfl
theorem methodClear (a : Addr) (w : World) : (method 207 27 (.pointer (some a)) "Clear").run Try.prog w = .ok (23, .pointer (some a)) w := by kernel_rfl
theorem isWeak (v : Value) (w : World) : (Instr.typeAssert (.iface 27 v) 57 75 true).run Try.prog w = .ok (.tuple #[.iface 27 v, .bool true]) w := run_typeAssert_hasB Try.underlying75 (by kernel_rfl) v 57 w
set_option maxHeartbeats 4000000 in
set_option maxRecDepth 100000 in
theorem collect_any {w : World} {A B : Nat} {cv fv rv : Value} {cs : List Cell} {fr ro : List Int} {live : Int} (nd : Nat → Nod) (h : ArN w A B cv fv rv cs fr ro live nd) (hl : cs.length ≤ 100000) (hfl : fr.length ≤ 100000) (hro : ro.length ≤ 100000) (hum : ∀ c ∈ cs, c.2 = false) (hlv : 0 ≤ live ∧ live ≤ 1000000000) (hB : B ≤ w.heap.size)
    (hsm : ∀ N ∈ bodies cs, (nd N).to_.length ≤ 100000 ∧ (nd N).tab.length ≤ 100000 ∧ (nd N).fa.length ≤ 100000) :
    Calls Try.prog 12 #[.pointer (some ⟨A, 0, none⟩), .nilFunc] w (CoP w A B cv fv rv cs fr ro live nd (markP (ndsOf nd).to_ (ndsOf nd).tab cs ro)) := by
  obtain ⟨ra, rcap, rfl, hra⟩ := own_shape h.ar.roots
  have x2 : w.cell? ⟨A, 2, none⟩ = some (.slice ra ro.length rcap) := by rw [h.ar.blk.cell]; rfl
  have hAl := h.ar.blk.lt
  obtain ⟨nr, hnr⟩ : ∃ nr, ro.length = nr := ⟨_, rfl⟩
  rw [hnr] at x2 hra hro
  have HR := Lib.hid hnr
  have HH := Lib.hid h
  have qf := neq_nil_func
  have q1 := methodDrop
  have q2 := methodClear
  have q3 := isPairs
  have q4 := isWeak
  have hst := Lib.hid (mark_start h.ar)
  clear h hnr
  go_enter Try.func12, Try.ntmps12
  go_wp2_with fail
  go_loopw [24] (fun v wr => ∃ k : Nat, k ≤ nr ∧ v = .int .i64 k ∧ DrI w w A B w.heap.size w.heap.size (w.heap.size + 1) cv fv (.slice ra ro.length rcap) fr ro live [] ((ro.take k).foldl reachP (cs, [])).1 ((ro.take k).foldl reachP (cs, [])).2 [] wr) (fun v _ => nr - (intOf v).toNat)
  case atStart => exact ⟨0, by omega, rfl, hst.out⟩
  case round =>
    obtain ⟨k, hk, rfl, hI⟩ := hrel
    have y1 := hI.fb
    have hmk := foldl_mk _ reachP_mk (ro.take k) (cs, [])
    by_cases hlt : k < nr
    · have L1 : decide ((k : Int) < (nr : Int)) = true := by rw [decide_eq_true_eq]; omega
      obtain ⟨rg, rfl⟩ := hra (by omega)
      have z0 : (0 : Int) ≤ k := by omega
      have z1 : (k : Int) < nr := by omega
      have z2 : (k : Int).toNat = k := by omega
      have a1 : IntKind.i64.wrap ((k : Int) + 1) = ((k + 1 : Nat) : Int) := by rw [IntWalk.i64_in _ (by omega)]; rfl
      obtain ⟨wv, pv, hm⟩ := hI.mks
      have hkx : k < ro.length := by rw [HR.out]; exact hlt
      have c0 := (hm.ar.roots.cellAt k (show k < ro.length * 1 by omega)).trans (numCells_get ro k hkx)
      have htk : ro.take (k + 1) = ro.take k ++ [ro.getD k 0] := by rw [List.take_succ_eq_append_getElem hkx, List.getD_eq_getElem?_getD, List.getElem?_eq_getElem hkx]; rfl
      generalize ro.getD k 0 = x at *
      have hsn : (ro.take (k + 1)).foldl reachP (cs, []) = reachP ((ro.take k).foldl reachP (cs, [])) x := by rw [htk, List.foldl_append]; rfl
      have hle := mc_le ((ro.take k).foldl reachP (cs, [])).1
      have hrc := reach_any hm x (by rw [hmk.len]; dsimp only; omega) (by have := hmk.cnt; have := hmk.len; simp only [List.length_nil] at *; omega) (Nat.le_refl _) hI.ko.size
      have HI := Lib.hid (And.intro hI (And.intro hm hsn))
      clear hI hm hmk hsn htk hle
      go_wp2_with fail
      refine hrc.mono ?_
      rintro e W6 ⟨rfl, wv6, hm6, hU6, hK6⟩
      have hI6 := HI.out.1.turn ⟨_, _, hm6⟩ hU6 (fun k e => ?e1) (fun g' xs' hb' e => ?e2) hK6
      case e1 =>
        rcases e with e | rfl | e
        · exact .inl e
        · exact .inr (Nat.le_refl _)
        · exact .inr (HI.out.2.1.work.lt _ e).1
      case e2 =>
        rcases e with e | e | e
        · exact own_blk HI.out.2.1.ar.cells hb' (by decide) e
        · exact HI.out.2.1.mkb.ne_ hb' (by decide) e.symm
        · exact own_blk HI.out.2.1.work hb' (by decide) e
      have H6 := Lib.hid hI6
      clear hI6 hm6 hU6 hK6 hrc
      go_wp2_with fail
      go_roundw
      case rel => exact ⟨k + 1, by omega, by first | rfl | rw [Int.natCast_add], by rw [HI.out.2.2]; exact H6.out⟩
      case measure => simp only [intOf]; omega
    · obtain rfl : k = nr := by omega
      have L1 : decide ((k : Int) < (k : Int)) = false := by simp
      rw [← HR.out, List.take_of_length_le (Nat.le_refl _)] at hI hmk
      obtain ⟨s0, hs0⟩ : ∃ s0, ro.foldl reachP (cs, []) = s0 := ⟨_, rfl⟩
      rw [hs0] at hI hmk
      obtain ⟨wv, pv, hm⟩ := hI.mks
      have hdr := drain_any (ndsOf nd) hm hI.upd (fun i N hi => HH.out.ndr hsm i N (by rw [← hmk.body i]; exact hi)) (hmk.ok (fun r hr => (List.not_mem_nil hr).elim)) (Nat.le_refl _) hI.ko.size (by rw [hmk.len]; dsimp only; omega) (by have := hmk.cnt; have := hmk.len; have := mc_le s0.1; simp only [List.length_nil] at *; omega) (by simp) (dfu s0) (Nat.le_refl _)
      have hd := drainP_dr (ndsOf nd).to_ (dfu s0) s0.1 s0.2 [] (hmk.ok (fun r hr => (List.not_mem_nil hr).elim)) (Nat.le_refl _)
      obtain ⟨d0, hd0⟩ : ∃ d0, drainP (ndsOf nd).to_ (dfu s0) s0.1 s0.2 [] = d0 := ⟨_, rfl⟩
      rw [hd0] at hdr hd
      have HI := Lib.hid (And.intro hI (And.intro hmk (And.intro hd (And.intro hs0 hd0))))
      clear hI hm hmk hd hs0 hd0
      go_wp2_with fail
      refine hdr.mono ?_
      rintro e W6 ⟨⟨v6, rfl⟩, wv6, pv6, hm6, hu6, hk6, hb6⟩
      have hI6 := HI.out.1.next hm6 hu6 hk6 hb6
      have y6 := hI6.fb
      have hlen6 : d0.1.length = cs.length := HI.out.2.2.1.len.trans HI.out.2.1.len
      have hse := settle_any (ndsOf nd) hm6 hu6 (fun i N hi => HH.out.ndr hsm i N (by rw [← HI.out.2.1.body i, ← HI.out.2.2.1.body i]; exact hi)) (HI.out.2.2.1.ok (fun N hN => (List.not_mem_nil hN).elim)) (Nat.le_refl _) hI6.ko.size (by omega) (by have h1 := HI.out.2.2.1.cnt; have h2 := HI.out.2.1.cnt; have h3 := mc_le d0.1; simp only [List.length_nil] at *; omega) (d0.1.length + 1) (by omega)
      obtain ⟨X, hX⟩ : ∃ X, settleP (ndsOf nd).to_ (ndsOf nd).tab (d0.1.length + 1) d0.1 d0.2 = X := ⟨_, rfl⟩
      rw [hX] at hse
      have H6 := Lib.hid (And.intro hI6 hX)
      clear hdr hm6 hu6 hk6 hb6 hI6 hlen6 y1
      go_wp2_with fail
      refine hse.mono ?_
      rintro e W7 ⟨⟨v7, rfl⟩, wv7, pv7, hm7, hu7, hk7, hb7⟩
      have hse3 := markP_se (ndsOf nd).to_ (ndsOf nd).tab cs ro
      have hMX : markP (ndsOf nd).to_ (ndsOf nd).tab cs ro = X.1 := by
        rw [← H6.out.2, ← HI.out.2.2.2.2, ← HI.out.2.2.2.1]; rfl
      have hsome : Somes X.1 := by
        rw [← hMX]
        refine hse3.some (fun i hi => ?_)
        exfalso
        by_cases hil : i < cs.length
        · rw [List.getD_eq_getElem?_getD, List.getElem?_eq_getElem hil] at hi
          have := hum _ (List.getElem_mem hil)
          simp only [Option.getD_some] at hi
          rw [this] at hi; cases hi
        · rw [List.getD_eq_getElem?_getD, List.getElem?_eq_none (by omega)] at hi
          cases hi
      rw [hMX] at hse3
      have hbod := bodies_ext hse3.len hse3.body
      have hlp := HH.out.loop hm7.ar hu7
      obtain ⟨csM, pX⟩ := X
      dsimp only at hm7 hse3 hsome hbod hlp hMX
      have HMX := Lib.hid hMX
      obtain ⟨ca, ccap, rfl, hca⟩ := own_shape hlp.ar.cells
      obtain ⟨nl, hnl⟩ : ∃ nl, csM.length = nl := ⟨_, rfl⟩
      have y0 : W7.cell? ⟨A, 0, none⟩ = some (.slice ca nl ccap) := by rw [hlp.ar.blk.cell, hnl]; rfl
      rw [hnl] at hca
      have hlM : nl ≤ 100000 := by rw [← hnl, hse3.len]; exact hl
      have H7 := Lib.hid (And.intro hlp (And.intro hsome (And.intro hbod hnl)))
      clear hm7 hu7 hk7 hb7 hse hse3 hsome hbod hlp hMX hnl H6 HI hst
      go_wp2_with fail
      go_loopw [48] (fun v wr => ∃ i : Nat, i ≤ nl ∧ v = .int .i64 i ∧ ∃ ndi, Lp w wr A B (.slice ca csM.length ccap) fv (.slice ra ro.length rcap) cs csM fr ro live nd ndi i) (fun v _ => nl - (intOf v).toNat)
      case atStart => exact ⟨0, by omega, rfl, nd, H7.out.1⟩
      case round =>
        obtain ⟨i, hin, rfl, ndi, hL⟩ := hrel
        by_cases hlt : i < nl
        · have L1 : decide ((i : Int) < (nl : Int)) = true := by rw [decide_eq_true_eq]; omega
          obtain ⟨gc, rfl⟩ := hca (by omega)
          have z0 : (0 : Int) ≤ i := by omega
          have z1 : (i : Int) < nl := by omega
          have z2 : (i : Int).toNat = i := by omega
          have a1 : IntKind.i64.wrap ((i : Int) + 1) = ((i + 1 : Nat) : Int) := by rw [IntWalk.i64_in _ (by omega)]; rfl
          have hil : i < csM.length := by rw [H7.out.2.2.2]; exact hlt
          have x0 : wr.cell? ⟨A, 0, none⟩ = some (.slice (some ⟨gc, 0, none⟩) nl ccap) := by rw [hL.ar.blk.cell, H7.out.2.2.2]; rfl
          have hg := clCells_get csM i hil
          have c0 := (hL.ar.cells.cellAt (i * 2) (show i * 2 < csM.length * 2 by omega)).trans hg.1
          have c1 := (hL.ar.cells.cellAt (i * 2 + 1) (show i * 2 + 1 < csM.length * 2 by omega)).trans hg.2
          obtain ⟨⟨ob, mk⟩, hc⟩ : ∃ c, csM.getD i (none, false) = c := ⟨_, rfl⟩
          rw [hc] at c0 c1
          dsimp only at c0 c1
          have HL := Lib.hid hL
          have HC := Lib.hid hc
          clear hg hL hc
          cases mk with
          | false =>
            go_wp2_with fail
            go_roundw
            case rel => exact ⟨i + 1, by omega, by first | rfl | rw [Int.natCast_add], ndi, HL.out.skip (by rw [HC.out])⟩
            case measure => simp only [intOf]; omega
          | true =>
            obtain ⟨N, hNb⟩ := H7.out.2.1 i (by rw [HC.out])
            rw [HC.out] at hNb
            dsimp only at hNb
            subst hNb
            simp only [bodyV] at c0
            have hNm : N ∈ bodies cs := by rw [← H7.out.2.2.1]; exact bodies_at (by rw [HC.out])
            have hNR := HL.out.nodes N hNm
            have hsN := HL.out.same N hNm
            have hsm1 := hsm N hNm
            have htb := HL.out.tabs i N HC.out
            rw [if_neg (by omega)] at htb
            have hdrop := drop_dead (deadP csM) N A (ndi N).tv (ndi N).bv (ndi N).fv (ndi N).ends (ndi N).tab wr hNR.blk (PrR.of hNR.tabR) (by rw [htb]; omega) (fun W' k b => dead_any (HL.out.ar.below b) k (by rw [H7.out.2.2.2]; omega))
            have HN := Lib.hid (And.intro hNR (And.intro hsN (And.intro hsm1 hNm)))
            clear hNR hsN htb
            go_wp2_with fail
            refine hdrop.mono ?_
            rintro e W8 ⟨⟨v8, rfl⟩, v', o8, k8, u8⟩
            have hne : ∀ {t : TypeId} {s n : Nat} {v : Value} {xs : List Value}, wr.ownsRow B t s v n xs → t ≠ 30 → ∀ g, v.ownBlock = some g → ¬ g = N := fun hv ht g hg e => own_blk hv HN.out.1.blk ht (by rw [hg, e])
            have ar8 := HL.out.ar.upd u8 (fun e => HL.out.ar.blk.ne_ HN.out.1.blk (by decide) e) (hne HL.out.ar.cells (by decide)) (hne HL.out.ar.free (by decide)) (hne HL.out.ar.roots (by decide))
            have fa8 := u8.own HN.out.1.faR (hne HN.out.1.faR (by decide))
            have x8 : W8.cell? ⟨A, 0, none⟩ = some (.slice (some ⟨gc, 0, none⟩) nl ccap) := by rw [ar8.blk.cell, H7.out.2.2.2]; rfl
            have c8 := (ar8.cells.cellAt (i * 2) (show i * 2 < csM.length * 2 by omega)).trans (clCells_get csM i hil).1
            rw [HC.out] at c8
            simp only [bodyV] at c8
            have hfa : ∀ s : Slot, s.ok (bodies cs) → s ≠ .fa N → ∀ g, lab fv (.slice ra ro.length rcap) nd s = some g → ¬ (ndi N).fv.ownBlock = some g := fun s hs hns g hg e => by
              rw [HN.out.2.1.2.1] at e
              exact hns (HH.out.sep s (.fa N) g hs HN.out.2.2.2 hg e)
            have hclear := clear_dead (deadP csM) N B A (ndi N).tv v' (ndi N).fv (ndi N).ends (ndi N).fa W8 k8 fa8 (by rw [HN.out.2.1.2.2.2.2]; omega) (fun W' k u => dead_any (ar8.upd u (fun e => own_blk fa8 ar8.blk (by decide) e) (fun g hg e => by
                rcases own_ne ar8.cells fa8 (by decide) with q | q
                · rw [q] at hg; cases hg
                · exact q (by rw [hg, e])) (fun g hg e => hfa .free trivial (by simp) g hg e) (fun g hg e => hfa .roots trivial (by simp) g hg e)) k (by rw [H7.out.2.2.2]; omega))
            have H8 := Lib.hid (And.intro o8 (And.intro k8 u8))
            clear o8 k8 u8 ar8 fa8 hdrop c0 c1 x0 hne hfa
            go_wp2_with fail
            refine hclear.mono ?_
            rintro e W9 ⟨⟨v9, rfl⟩, o9, u9⟩
            have hL9 := HL.out.step H7.out.2.2.1 HH.out.nodup HH.out.sep hB HC.out H8.out.1 H8.out.2.1 H8.out.2.2 o9 u9
            have H9 := Lib.hid hL9
            clear hL9 hclear o9 u9 c8 x8
            go_wp2_with fail
            go_roundw
            case rel => exact ⟨i + 1, by omega, by first | rfl | rw [Int.natCast_add], _, H9.out⟩
            case measure => simp only [intOf]; omega
        · obtain rfl : i = nl := by omega
          have L1 : decide ((i : Int) < (i : Int)) = false := by simp
          rw [← H7.out.2.2.2] at hL
          have hsw := sweep_any (vals ndi) hL.ar (fun N hN => (hL.nodes N (by rw [← H7.out.2.2.1]; exact hN)).blk) (by rw [H7.out.2.2.1]; exact HH.out.nodup) (fun N hN => by
              have hN2 : N ∈ bodies cs := by rw [← H7.out.2.2.1]; exact hN
              have := HH.out.ends N hN2
              show 0 ≤ (ndi N).ends ∧ (ndi N).ends ≤ 1000000000
              rw [(hL.same N hN2).2.2.2.1]; omega) (by rw [H7.out.2.2.2]; omega) (by omega) hlv (Nat.le_trans hB hL.upd.size)
          have HL := Lib.hid hL
          clear hL
          go_wp2_with fail
          refine hsw.mono ?_
          rintro e W9 hs
          have hc := col_end HH.out HL.out H7.out.2.2.1 hs
          obtain ⟨vg, fv', nd', rfl, hrest⟩ := hc
          have HX := Lib.hid hrest
          clear hs hrest
          go_wp2
          exact bodyPost_ret (v := vg) (by simp [results, Try.results12, go_sem]) rfl ⟨vg, fv', nd', rfl, by rw [HMX.out]; exact HX.out⟩
end Go.Proofs.Ythcdhiknjpfmhaa
