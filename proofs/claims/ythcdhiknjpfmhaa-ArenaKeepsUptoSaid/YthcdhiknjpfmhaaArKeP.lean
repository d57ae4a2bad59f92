/- ArenaKeeps: play, of kind 0. -/
import Derived.Test.YthcdhiknjpfmhaaArKeS
set_option linter.unusedVariables false
set_option linter.unusedSimpArgs false
namespace Go.Proofs.Ythcdhiknjpfmhaa
open Go.RowKit
set_option maxHeartbeats 4000000 in
set_option maxRecDepth 100000 in
theorem play_make {w0 w : World} {A J M : Nat} {cv lv Lv : Value} {ps : List Pa} {nd : Nat → Nod} (s : StepV) (hs : StepR w0 s) (b0 : Below w0.heap.size w0 w) (hz : s.tn ≤ 2000 ∧ s.bn ≤ 2000 ∧ s.fn ≤ 2000) (h : Bo w A J M cv lv Lv ps nd) (hl : ps.length ≤ 500) (hA : w0.heap.size ≤ A) (hk : s.kind.tmod 5 = 0) (hsz : ∀ p ∈ ps, p.to_.length ≤ 2000 ∧ p.tab.length ≤ 2000 ∧ p.fa.length ≤ 2000) :
    Calls Try.prog 18 #[.pointer (some ⟨J, 0, none⟩), .agg (stepC s).toArray] w fun e w' => (∃ b, e = .returned (.bool b)) ∧ ∃ cv' lv' Lv' nd' p, p.to_ = s.tl ∧ p.tab = s.bl ∧ p.fa = s.fl ∧ A ≤ p.x ∧ Bo w' A J M cv' lv' Lv' (ps ++ [p]) nd' ∧ Upd w w' (fun k => A ≤ k) := by
  obtain ⟨i0, hi, hz0, hz1, hz2⟩ := info_parts infoPa
  have kJl := h.kb.lt
  obtain ⟨Q, hQ⟩ : ∃ Q, w.heap.size = Q := ⟨_, rfl⟩
  have HQ := Lib.hid hQ
  have HS := Lib.hid (And.intro hs (And.intro b0 (And.intro h hsz)))
  clear hs b0 h hsz
  unfold stepC at *
  go_enter Try.func18, Try.ntmps18
  go_wp2_with fail
  have hs1 : (w.alloc (.cells #[.int .i64 s.kind, .slice s.ta s.tn s.tcap, .slice s.ba s.bn s.bcap, .slice s.fa s.fn s.fcap, .int .i64 s.n] 54)).heap.size = Q + 1 := by rw [World.size_alloc, HQ.out]
  have bw1 : Below w.heap.size w (w.alloc (.cells #[.int .i64 s.kind, .slice s.ta s.tn s.tcap, .slice s.ba s.bn s.bcap, .slice s.fa s.fn s.fcap, .int .i64 s.n] 54)) := (Below.refl _ _).alloc (Nat.le_refl _) _
  generalize w.alloc (.cells #[.int .i64 s.kind, .slice s.ta s.tn s.tcap, .slice s.ba s.bn s.bcap, .slice s.fa s.fn s.fcap, .int .i64 s.n] 54) = w1 at *
  have kN := ((Blk.new w1 30 #[nil0, nil0, nil0, .int .i64 0]).alloc (.cells #[nil0, nil0, nil0, .int .i64 0] 79)).alloc (.cells #[.int .i64 0, .pointer (some ⟨Q + 1, 0, none⟩), .pointer (some ⟨Q + 1 + 1, 0, none⟩)] 81)
  have kM := (Blk.new (w1.alloc (.cells #[nil0, nil0, nil0, .int .i64 0] 30)) 79 #[nil0, nil0, nil0, .int .i64 0]).alloc (.cells #[.int .i64 0, .pointer (some ⟨Q + 1, 0, none⟩), .pointer (some ⟨Q + 1 + 1, 0, none⟩)] 81)
  have kP := Blk.new ((w1.alloc (.cells #[nil0, nil0, nil0, .int .i64 0] 30)).alloc (.cells #[nil0, nil0, nil0, .int .i64 0] 79)) 81 #[.int .i64 0, .pointer (some ⟨Q + 1, 0, none⟩), .pointer (some ⟨Q + 1 + 1, 0, none⟩)]
  have bw : Below w.heap.size w (((w1.alloc (.cells #[nil0, nil0, nil0, .int .i64 0] 30)).alloc (.cells #[nil0, nil0, nil0, .int .i64 0] 79)).alloc (.cells #[.int .i64 0, .pointer (some ⟨Q + 1, 0, none⟩), .pointer (some ⟨Q + 1 + 1, 0, none⟩)] 81)) := ((bw1.alloc bw1.size _).alloc (by have := bw1.size; rw [World.size_alloc]; omega) _).alloc (by have := bw1.size; rw [World.size_alloc, World.size_alloc]; omega) _
  rw [hs1] at kN
  rw [World.size_alloc, hs1] at kM
  rw [World.size_alloc, World.size_alloc, hs1] at kP
  have hQ := HQ.out
  have hA1 : A < w.heap.size := HS.out.2.2.1.alt
  have hb00 := HS.out.2.1.size
  generalize ((w1.alloc (.cells #[nil0, nil0, nil0, .int .i64 0] 30)).alloc (.cells #[nil0, nil0, nil0, .int .i64 0] 79)).alloc (.cells #[.int .i64 0, .pointer (some ⟨Q + 1, 0, none⟩), .pointer (some ⟨Q + 1 + 1, 0, none⟩)] 81) = W4 at *
  have hW4 := bw.size
  refine (fill_any 0 A (Q + 1) (Q + 1 + 1) s 0 0 HS.out.1 (HS.out.2.1.trans (bw.mono hb00)) ⟨by omega, by omega, by omega⟩ (by omega) kN kM ⟨by omega, by omega⟩).mono ?_
  rintro e W5 ⟨⟨v, rfl⟩, tv, bv, fv, tv2, bv2, fv2, HF⟩
  have Hnew := Lib.hid (fun g hg => Nat.le_trans hW4 (HF.new g hg) : ∀ g, tv.ownBlock = some g ∨ fv.ownBlock = some g → w.heap.size ≤ g)
  have bw5 : Below w.heap.size w W5 := bw.trans (HF.upd.below hW4 (fun k e => by rcases e with e | e <;> omega))
  have hBo := HS.out.2.2.1.below bw5
  have kP5 := HF.upd.blk kP (by rintro (e | e) <;> omega)
  obtain ⟨P, hP⟩ : ∃ P, Q + 1 + 1 + 1 = P := ⟨_, rfl⟩
  obtain ⟨M2, hM2⟩ : ∃ M2, Q + 1 + 1 = M2 := ⟨_, rfl⟩
  obtain ⟨N, hN⟩ : ∃ N, Q + 1 = N := ⟨_, rfl⟩
  rw [hP, hM2, hN] at kP5
  rw [hM2, hN] at HF
  simp only [hP]
  simp only [hM2]
  simp only [hN]
  have HQ2 := Lib.hid (And.intro hP (And.intro hM2 hN))
  have H5 := Lib.hid (And.intro HF (And.intro hBo (And.intro kP5 bw5)))
  clear kN kM kP bw bw1 hs1 HF hBo kP5 bw5 hW4 hA1 hb00 hQ hP hM2 hN
  go_wp2_with fail

  refine wp_region_till (m := 9) (S := (fun W => W.cell? ⟨J, 0, none⟩ = some (.pointer (some ⟨A, 0, none⟩)) ∧ W.cell? ⟨P, 1, none⟩ = some (.pointer (some ⟨N, 0, none⟩)))) (by kernel_rfl) ?_
  have d0 : W5.drew.cell? ⟨J, 0, none⟩ = some (.pointer (some ⟨A, 0, none⟩)) := by rw [show W5.drew.cell? ⟨J, 0, none⟩ = W5.cell? ⟨J, 0, none⟩ from rfl, H5.out.2.1.kb.cell]; rfl
  have d1 : W5.drew.cell? ⟨P, 1, none⟩ = some (.pointer (some ⟨N, 0, none⟩)) := by rw [show W5.drew.cell? ⟨P, 1, none⟩ = W5.cell? ⟨P, 1, none⟩ from rfl, H5.out.2.2.1.cell]; rfl
  have hdr : Below W5.heap.size W5 W5.drew := ⟨rfl, rfl, rfl, Nat.le_refl _, fun _ _ => rfl⟩
  obtain ⟨r, hr⟩ : ∃ r : Int, (ps.length : Int) + 1 = r := ⟨_, rfl⟩
  have hmk := bo_make (w2 := W5.drew) ⟨r, N, M2, s.tl, s.bl, s.fl⟩ HS.out.2.2.1 (H5.out.2.2.2.trans (hdr.mono H5.out.2.2.2.size)) rfl (by show w.heap.size ≤ N; have := HQ2.out; have := HQ.out; omega) (Turn.blk (ts := []) (Turn.below hdr) H5.out.1.kN (by simp)) (Turn.own (ts := []) (Turn.below hdr) (HS.out.1.to_.1 ▸ H5.out.1.t1) (by simp)) (Turn.own (ts := []) (Turn.below hdr) (HS.out.1.tab.1 ▸ H5.out.1.b1) (by simp)) (Turn.own (ts := []) (Turn.below hdr) (HS.out.1.fnt.1 ▸ H5.out.1.f1) (by simp)) Hnew.out H5.out.1.apart (by omega)
  rw [hr] at hmk
  have hs5 : W5.drew.heap.size = W5.heap.size := rfl
  generalize W5.drew = D at *
  have HM := Lib.hid (And.intro hmk (And.intro hdr hr))
  clear hmk hdr hr
  change tillH _ _ _ _ _ _ 10 #[false, false, false, false, false, false, false, false, false, false] _ _
  refine tillH_takeAny (i := 0) (oi := ?oo1) (v := ?vv1) ?hi1 (by kernel_rfl) (by kernel_rfl) (by kernel_rfl) ?hq1 (by kernel_rfl) ?hy1 (fun _ => ⟨d0, d1⟩) ?hh1
  case hi1 => (simp only [List.getElem?_toArray, List.getElem?_cons_succ, List.getElem?_cons_zero]; rfl)
  case hq1 => exact fun _ _ _ h => h
  case hy1 => exact Or.inl ⟨by rfl, by (intro W; go_simp; (try with_reducible rfl))⟩
  (try simp only [Act.put, List.setIfInBounds_toArray, List.set_cons_zero, List.set_cons_succ])
  refine tillH_takeAny (i := 1) (oi := ?oo2) (v := ?vv2) ?hi2 (by kernel_rfl) (by kernel_rfl) (by kernel_rfl) ?hq2 (by kernel_rfl) ?hy2 (fun _ => ⟨d0, d1⟩) ?hh2
  case hi2 => (simp only [List.getElem?_toArray, List.getElem?_cons_succ, List.getElem?_cons_zero]; rfl)
  case hq2 => exact fun _ _ _ h => h
  case hy2 => exact Or.inl ⟨by rfl, by (intro W; go_simp; (try with_reducible rfl))⟩
  (try simp only [Act.put, List.setIfInBounds_toArray, List.set_cons_zero, List.set_cons_succ])
  refine tillH_takeAny (i := 2) (oi := ?oo3) (v := ?vv3) ?hi3 (by kernel_rfl) (by kernel_rfl) (by kernel_rfl) ?hq3 (by kernel_rfl) ?hy3 (fun _ => ⟨d0, d1⟩) ?hh3
  case hi3 => (simp only [List.getElem?_toArray, List.getElem?_cons_succ, List.getElem?_cons_zero]; rfl)
  case hq3 => exact fun _ _ _ h => h
  case hy3 => exact Or.inl ⟨by rfl, by (intro W; go_simp; (try with_reducible rfl))⟩
  (try simp only [Act.put, List.setIfInBounds_toArray, List.set_cons_zero, List.set_cons_succ])
  refine tillH_take (i := 3) (oi := ?oo4) (v := ?vv4) ?hi4 (by kernel_rfl) (by kernel_rfl) (by kernel_rfl) ?hq4 (by kernel_rfl) (by kernel_rfl) (by kernel_rfl) ?hy4 ⟨d0, d1⟩ ?hh4
  case hi4 => (simp only [List.getElem?_toArray, List.getElem?_cons_succ, List.getElem?_cons_zero]; rfl)
  case hq4 => exact fun _ _ _ h => h
  case hy4 => exact Or.inl ⟨by rfl, by (intro W hSw; (try obtain ⟨s0, s1⟩ := hSw); go_simp; (try with_reducible rfl))⟩
  (try simp only [Act.put, List.setIfInBounds_toArray, List.set_cons_zero, List.set_cons_succ])
  refine tillH_takeAny (i := 4) (oi := ?oo5) (v := ?vv5) ?hi5 (by kernel_rfl) (by kernel_rfl) (by kernel_rfl) ?hq5 (by kernel_rfl) ?hy5 (fun _ => ⟨d0, d1⟩) ?hh5
  case hi5 => (simp only [List.getElem?_toArray, List.getElem?_cons_succ, List.getElem?_cons_zero]; rfl)
  case hq5 => exact fun _ _ _ h => h
  case hy5 => exact Or.inl ⟨by rfl, by (intro W; go_simp; (try with_reducible rfl))⟩
  (try simp only [Act.put, List.setIfInBounds_toArray, List.set_cons_zero, List.set_cons_succ])
  refine tillH_take (i := 5) (oi := ?oo6) (v := ?vv6) ?hi6 (by kernel_rfl) (by kernel_rfl) (by kernel_rfl) ?hq6 (by kernel_rfl) (by kernel_rfl) (by kernel_rfl) ?hy6 ⟨d0, d1⟩ ?hh6
  case hi6 => (simp only [List.getElem?_toArray, List.getElem?_cons_succ, List.getElem?_cons_zero]; rfl)
  case hq6 => exact fun _ _ _ h => h
  case hy6 => exact Or.inl ⟨by rfl, by (intro W hSw; (try obtain ⟨s0, s1⟩ := hSw); go_simp; (try with_reducible rfl))⟩
  (try simp only [Act.put, List.setIfInBounds_toArray, List.set_cons_zero, List.set_cons_succ])
  refine tillH_takeAny (i := 6) (oi := ?oo7) (v := ?vv7) ?hi7 (by kernel_rfl) (by kernel_rfl) (by kernel_rfl) ?hq7 (by kernel_rfl) ?hy7 (fun _ => ⟨d0, d1⟩) ?hh7
  case hi7 => (simp only [List.getElem?_toArray, List.getElem?_cons_succ, List.getElem?_cons_zero]; rfl)
  case hq7 => exact fun _ _ _ h => h
  case hy7 => exact Or.inl ⟨by rfl, by (intro W; go_simp; (try with_reducible rfl))⟩
  (try simp only [Act.put, List.setIfInBounds_toArray, List.set_cons_zero, List.set_cons_succ])
  clear d0 d1
  refine tillH_next (rs := [7]) (by kernel_rfl) (by simp) ?_
  refine NextH.cons rfl (fun K hK => ?_) NextH.nil
  go_simp
  refine HM.out.1.mono ?_
  rintro e W6 ⟨rfl, cv6, nd6, t6, u6, ar6, xs6⟩
  have H6 := Lib.hid (And.intro t6 (And.intro u6 (And.intro ar6 xs6)))
  clear t6 u6 ar6 xs6
  have kP6 := H6.out.1.blk ((HM.out.2.1.mono (Nat.le_refl _)).block P H5.out.2.2.1.lt |>.trans H5.out.2.2.1 : Blk D P _ _) (by decide)
  have kJ6 := H6.out.1.blk ((HM.out.2.1.mono (Nat.le_refl _)).block J H5.out.2.1.kb.lt |>.trans H5.out.2.1.kb : Blk D J _ _) (by decide)
  have d0 : W6.cell? ⟨J, 0, none⟩ = some (.pointer (some ⟨A, 0, none⟩)) := by rw [kJ6.cell]; rfl
  have d1 : W6.cell? ⟨P, 1, none⟩ = some (.pointer (some ⟨N, 0, none⟩)) := by rw [kP6.cell]; rfl
  clear kJ6
  refine hK.out _ _ (fun _ => ⟨d0, d1⟩) ?_
  clear hK K
  (try simp only [Act.put, List.setIfInBounds_toArray, List.set_cons_zero, List.set_cons_succ])
  refine tillH_takeAny (i := 8) (oi := ?oo8) (v := ?vv8) ?hi8 (by kernel_rfl) (by kernel_rfl) (by kernel_rfl) ?hq8 (by kernel_rfl) ?hy8 (fun _ => ⟨d0, d1⟩) ?hh8
  case hi8 => (simp only [List.getElem?_toArray, List.getElem?_cons_succ, List.getElem?_cons_zero]; rfl)
  case hq8 => exact fun _ _ _ h => h
  case hy8 => exact Or.inl ⟨by rfl, by (intro W; go_simp; (try with_reducible rfl))⟩
  (try simp only [Act.put, List.setIfInBounds_toArray, List.set_cons_zero, List.set_cons_succ])
  have x0 : W6.cell? ⟨P, 0, none⟩ = some (.int .i64 0) := by rw [kP6.cell]; rfl
  have z0 := kP6.frozen 0
  have l0 := kP6.lt
  refine tillH_next (rs := [9]) (by kernel_rfl) (by simp) ?_
  refine NextH.cons rfl (fun K hK => ?_) NextH.nil
  go_simp
  have hMi : Mi (W6.setCell ⟨P, 0, none⟩ (.int .i64 r)) A J M P cv6 lv Lv ps ⟨r, N, M2, s.tl, s.bl, s.fl⟩ (ps.map Pa.y) nd6 := mi_make (W5 := D) ⟨r, N, M2, s.tl, s.bl, s.fl⟩ HS.out.2.2.1 (H5.out.2.2.2.trans (HM.out.2.1.mono H5.out.2.2.2.size)) ((HM.out.2.1.block P H5.out.2.2.1.lt).trans H5.out.2.2.1) (by have := HQ2.out; have := HQ.out; omega) ⟨tv2, bv2, fv2, Turn.blk (ts := []) (Turn.below HM.out.2.1) H5.out.1.kM (by simp), Turn.own (ts := []) (Turn.below HM.out.2.1) (HS.out.1.to_.1 ▸ H5.out.1.t2) (by simp), Turn.own (ts := []) (Turn.below HM.out.2.1) (HS.out.1.tab.1 ▸ H5.out.1.b2) (by simp), Turn.own (ts := []) (Turn.below HM.out.2.1) (HS.out.1.fnt.1 ▸ H5.out.1.f2) (by simp)⟩ H6.out.1 H6.out.2.2.1 H6.out.2.2.2
  have hA1 : A < w.heap.size := HS.out.2.2.1.alt
  have hU7 : Upd w (W6.setCell ⟨P, 0, none⟩ (.int .i64 r)) (fun k => A ≤ k) := ((Upd.of_below_all (H5.out.2.2.2.trans (HM.out.2.1.mono H5.out.2.2.2.size))).trans H6.out.2.1).set P 0 _ (by have := HQ2.out; have := HQ.out; omega)
  have H7 := Lib.hid (And.intro hMi hU7)
  clear hMi hU7 x0 z0 l0 kP6 hA1 H6
  refine hK.out _ _ (fun h => absurd h (by simp)) ?_
  clear hK K
  (try simp only [Act.put, List.setIfInBounds_toArray, List.set_cons_zero, List.set_cons_succ])
  have Hr := Lib.hid HM.out.2.2
  clear HM hs5
  refine tillH_done (by kernel_rfl) ?_ _
  generalize W6.setCell ⟨P, 0, none⟩ (.int .i64 r) = W7 at *
  go_wp2_with fail
  refine wp_region_till (m := 9) (S := (fun W => W.cell? ⟨P, 0, none⟩ = some (.int .i64 r) ∧ W.cell? ⟨J, 1, none⟩ = some (.pointer (some ⟨M, 0, none⟩)) ∧ W.cell? ⟨P, 2, none⟩ = some (.pointer (some ⟨M2, 0, none⟩)))) (by kernel_rfl) ?_
  have h8 := H7.out.1.below (w' := W7.drew) ⟨rfl, rfl, rfl, Nat.le_refl _, fun _ _ => rfl⟩
  have hU8 := H7.out.2.drew
  generalize W7.drew = D8 at *
  have d0 : D8.cell? ⟨P, 0, none⟩ = some (.int .i64 r) := by rw [h8.kp.cell]; rfl
  have d1 : D8.cell? ⟨J, 1, none⟩ = some (.pointer (some ⟨M, 0, none⟩)) := by rw [h8.kb.cell]; rfl
  have d2 : D8.cell? ⟨P, 2, none⟩ = some (.pointer (some ⟨M2, 0, none⟩)) := by rw [h8.kp.cell]; rfl
  have H8 := Lib.hid (And.intro h8 hU8)
  clear h8 hU8 H7
  change tillH _ _ _ _ _ _ 10 #[false, false, false, false, false, false, false, false, false, false] _ _
  refine tillH_takeAny (i := 0) (oi := ?oo9) (v := ?vv9) ?hi9 (by kernel_rfl) (by kernel_rfl) (by kernel_rfl) ?hq9 (by kernel_rfl) ?hy9 (fun _ => ⟨d0, d1, d2⟩) ?hh9
  case hi9 => (simp only [List.getElem?_toArray, List.getElem?_cons_succ, List.getElem?_cons_zero]; rfl)
  case hq9 => exact fun _ _ _ h => h
  case hy9 => exact Or.inl ⟨by rfl, by (intro W; go_simp; (try with_reducible rfl))⟩
  (try simp only [Act.put, List.setIfInBounds_toArray, List.set_cons_zero, List.set_cons_succ])
  refine tillH_take (i := 1) (oi := ?oo10) (v := ?vv10) ?hi10 (by kernel_rfl) (by kernel_rfl) (by kernel_rfl) ?hq10 (by kernel_rfl) (by kernel_rfl) (by kernel_rfl) ?hy10 ⟨d0, d1, d2⟩ ?hh10
  case hi10 => (simp only [List.getElem?_toArray, List.getElem?_cons_succ, List.getElem?_cons_zero]; rfl)
  case hq10 => exact fun _ _ _ h => h
  case hy10 => exact Or.inl ⟨by rfl, by (intro W hSw; (try obtain ⟨s0, s1, s2⟩ := hSw); go_simp; (try with_reducible rfl))⟩
  (try simp only [Act.put, List.setIfInBounds_toArray, List.set_cons_zero, List.set_cons_succ])
  refine tillH_takeAny (i := 2) (oi := ?oo11) (v := ?vv11) ?hi11 (by kernel_rfl) (by kernel_rfl) (by kernel_rfl) ?hq11 (by kernel_rfl) ?hy11 (fun _ => ⟨d0, d1, d2⟩) ?hh11
  case hi11 => (simp only [List.getElem?_toArray, List.getElem?_cons_succ, List.getElem?_cons_zero]; rfl)
  case hq11 => exact fun _ _ _ h => h
  case hy11 => exact Or.inl ⟨by rfl, by (intro W; go_simp; (try with_reducible rfl))⟩
  (try simp only [Act.put, List.setIfInBounds_toArray, List.set_cons_zero, List.set_cons_succ])
  refine tillH_takeAny (i := 3) (oi := ?oo12) (v := ?vv12) ?hi12 (by kernel_rfl) (by kernel_rfl) (by kernel_rfl) ?hq12 (by kernel_rfl) ?hy12 (fun _ => ⟨d0, d1, d2⟩) ?hh12
  case hi12 => (simp only [List.getElem?_toArray, List.getElem?_cons_succ, List.getElem?_cons_zero]; rfl)
  case hq12 => exact fun _ _ _ h => h
  case hy12 => exact Or.inl ⟨by rfl, by (intro W; go_simp; (try with_reducible rfl))⟩
  (try simp only [Act.put, List.setIfInBounds_toArray, List.set_cons_zero, List.set_cons_succ])
  refine tillH_takeAny (i := 4) (oi := ?oo13) (v := ?vv13) ?hi13 (by kernel_rfl) (by kernel_rfl) (by kernel_rfl) ?hq13 (by kernel_rfl) ?hy13 (fun _ => ⟨d0, d1, d2⟩) ?hh13
  case hi13 => (simp only [List.getElem?_toArray, List.getElem?_cons_succ, List.getElem?_cons_zero]; rfl)
  case hq13 => exact fun _ _ _ h => h
  case hy13 => exact Or.inl ⟨by rfl, by (intro W; go_simp; (try with_reducible rfl))⟩
  (try simp only [Act.put, List.setIfInBounds_toArray, List.set_cons_zero, List.set_cons_succ])
  refine tillH_take2 8 (i := 5) (oi := ?oo14) (v := ?vv14) ?hi14 (by kernel_rfl) (by kernel_rfl) (by kernel_rfl) ?hq14 (by kernel_rfl) (by kernel_rfl) (by kernel_rfl) ?hy14 ⟨d0, d1, d2⟩ ?hh14
  case hi14 => (simp only [List.getElem?_toArray, List.getElem?_cons_succ, List.getElem?_cons_zero]; rfl)
  case hq14 => exact fun _ _ _ h => h
  case hy14 => exact Or.inl ⟨by rfl, by (intro W hSw; (try obtain ⟨s0, s1, s2⟩ := hSw); go_simp; (try with_reducible rfl))⟩
  (try simp only [Act.put, List.setIfInBounds_toArray, List.set_cons_zero, List.set_cons_succ])
  refine tillH_takeAny (i := 6) (oi := ?oo15) (v := ?vv15) ?hi15 (by kernel_rfl) (by kernel_rfl) (by kernel_rfl) ?hq15 (by kernel_rfl) ?hy15 (fun _ => ⟨d0, d1, d2⟩) ?hh15
  case hi15 => (simp only [List.getElem?_toArray, List.getElem?_cons_succ, List.getElem?_cons_zero]; rfl)
  case hq15 => exact fun _ _ _ h => h
  case hy15 => exact Or.inl ⟨by rfl, by (intro W; go_simp; (try with_reducible rfl))⟩
  (try simp only [Act.put, List.setIfInBounds_toArray, List.set_cons_zero, List.set_cons_succ])
  refine tillH_take2 8 (i := 7) (oi := ?oo16) (v := ?vv16) ?hi16 (by kernel_rfl) (by kernel_rfl) (by kernel_rfl) ?hq16 (by kernel_rfl) (by kernel_rfl) (by kernel_rfl) ?hy16 ⟨d0, d1, d2⟩ ?hh16
  case hi16 => (simp only [List.getElem?_toArray, List.getElem?_cons_succ, List.getElem?_cons_zero]; rfl)
  case hq16 => exact fun _ _ _ h => h
  case hy16 => exact Or.inl ⟨by rfl, by (intro W hSw; (try obtain ⟨s0, s1, s2⟩ := hSw); go_simp; (try with_reducible rfl))⟩
  (try simp only [Act.put, List.setIfInBounds_toArray, List.set_cons_zero, List.set_cons_succ])
  clear d0 d1 d2
  refine tillH_next (rs := [8]) (by kernel_rfl) (by simp) ?_
  refine NextH.cons rfl (fun K hK => ?_) NextH.nil
  go_simp
  have hmk := ref_make nil0 M2 H8.out.1.LL H8.out.1.km (by rw [List.length_map]; omega) (Nat.le_of_lt H8.out.1.ar.ar.blk.lt)
  rw [List.length_map, Hr.out] at hmk
  refine hmk.mono ?_
  rintro e W9 ⟨rfl, Lv9, km9, LL9, u9, new9⟩
  have hMi := mi_ref H8.out.1 km9 LL9 u9
  have hU9 : Upd w W9 (fun k => A ≤ k) := H8.out.2.trans (u9.mono (fun k hk e => by
    rcases e with e | e
    · rw [e]; exact H8.out.1.hM
    · rcases H8.out.1.LL with ⟨_, q⟩ | ⟨_, q⟩
      · rw [q] at e; simp [Value.ownBlock] at e
      · exact (q.lt k e).1))
  have H9 := Lib.hid (And.intro hMi hU9)
  have d0 : W9.cell? ⟨P, 0, none⟩ = some (.int .i64 r) := by rw [hMi.kp.cell]; rfl
  have d1 : W9.cell? ⟨J, 1, none⟩ = some (.pointer (some ⟨M, 0, none⟩)) := by rw [hMi.kb.cell]; rfl
  have d2 : W9.cell? ⟨P, 2, none⟩ = some (.pointer (some ⟨M2, 0, none⟩)) := by rw [hMi.kp.cell]; rfl
  clear hMi hU9 km9 LL9 u9 new9 hmk H8
  refine hK.out _ _ (fun _ => ⟨d0, d1, d2⟩) ?_
  clear hK K
  (try simp only [Act.put, List.setIfInBounds_toArray, List.set_cons_zero, List.set_cons_succ])
  refine tillH_next (rs := [9]) (by kernel_rfl) (by simp) ?_
  refine NextH.cons rfl (fun K hK => ?_) NextH.nil
  go_simp
  refine hK.out _ _ (fun h => absurd h (by simp)) ?_
  clear hK K
  (try simp only [Act.put, List.setIfInBounds_toArray, List.set_cons_zero, List.set_cons_succ])
  clear d0 d1 d2
  refine tillH_done (by kernel_rfl) ?_ _
  go_wp2_with fail
  refine wp_region_till (m := 10) (S := (fun W => W.cell? ⟨J, 2, none⟩ = some lv ∧ W.cell? ⟨P, 0, none⟩ = some (.int .i64 r) ∧ W.cell? ⟨P, 1, none⟩ = some (.pointer (some ⟨N, 0, none⟩)) ∧ W.cell? ⟨P, 2, none⟩ = some (.pointer (some ⟨M2, 0, none⟩)))) (by kernel_rfl) ?_
  have h10 := H9.out.1.below (w' := W9.drew) ⟨rfl, rfl, rfl, Nat.le_refl _, fun _ _ => rfl⟩
  have hU10 := H9.out.2.drew
  generalize W9.drew = D10 at *
  have d0 : D10.cell? ⟨J, 2, none⟩ = some lv := by rw [h10.kb.cell]; rfl
  have d1 : D10.cell? ⟨P, 0, none⟩ = some (.int .i64 r) := by rw [h10.kp.cell]; rfl
  have d2 : D10.cell? ⟨P, 1, none⟩ = some (.pointer (some ⟨N, 0, none⟩)) := by rw [h10.kp.cell]; rfl
  have d3 : D10.cell? ⟨P, 2, none⟩ = some (.pointer (some ⟨M2, 0, none⟩)) := by rw [h10.kp.cell]; rfl
  have H10 := Lib.hid (And.intro h10 hU10)
  clear h10 hU10 H9
  change tillH _ _ _ _ _ _ 11 #[false, false, false, false, false, false, false, false, false, false, false] _ _
  refine tillH_takeAny (i := 0) (oi := ?oo17) (v := ?vv17) ?hi17 (by kernel_rfl) (by kernel_rfl) (by kernel_rfl) ?hq17 (by kernel_rfl) ?hy17 (fun _ => ⟨d0, d1, d2, d3⟩) ?hh17
  case hi17 => (simp only [List.getElem?_toArray, List.getElem?_cons_succ, List.getElem?_cons_zero]; rfl)
  case hq17 => exact fun _ _ _ h => h
  case hy17 => exact Or.inl ⟨by rfl, by (intro W; go_simp; (try with_reducible rfl))⟩
  (try simp only [Act.put, List.setIfInBounds_toArray, List.set_cons_zero, List.set_cons_succ])
  refine tillH_takeAny (i := 1) (oi := ?oo18) (v := ?vv18) ?hi18 (by kernel_rfl) (by kernel_rfl) (by kernel_rfl) ?hq18 (by kernel_rfl) ?hy18 (fun _ => ⟨d0, d1, d2, d3⟩) ?hh18
  case hi18 => (simp only [List.getElem?_toArray, List.getElem?_cons_succ, List.getElem?_cons_zero]; rfl)
  case hq18 => exact fun _ _ _ h => h
  case hy18 => exact Or.inl ⟨by rfl, by (intro W; go_simp; (try with_reducible rfl))⟩
  (try simp only [Act.put, List.setIfInBounds_toArray, List.set_cons_zero, List.set_cons_succ])
  refine tillH_takeAny (i := 2) (oi := ?oo19) (v := ?vv19) ?hi19 (by kernel_rfl) (by kernel_rfl) (by kernel_rfl) ?hq19 (by kernel_rfl) ?hy19 (fun _ => ⟨d0, d1, d2, d3⟩) ?hh19
  case hi19 => (simp only [List.getElem?_toArray, List.getElem?_cons_succ, List.getElem?_cons_zero]; rfl)
  case hq19 => exact fun _ _ _ h => h
  case hy19 => exact Or.inl ⟨by rfl, by (intro W; go_simp; (try with_reducible rfl))⟩
  (try simp only [Act.put, List.setIfInBounds_toArray, List.set_cons_zero, List.set_cons_succ])
  refine tillH_takeAny (i := 3) (oi := ?oo20) (v := ?vv20) ?hi20 (by kernel_rfl) (by kernel_rfl) (by kernel_rfl) ?hq20 (by kernel_rfl) ?hy20 (fun _ => ⟨d0, d1, d2, d3⟩) ?hh20
  case hi20 => (simp only [List.getElem?_toArray, List.getElem?_cons_succ, List.getElem?_cons_zero]; rfl)
  case hq20 => exact fun _ _ _ h => h
  case hy20 => exact Or.inl ⟨by rfl, by (intro W; go_simp; (try with_reducible rfl))⟩
  (try simp only [Act.put, List.setIfInBounds_toArray, List.set_cons_zero, List.set_cons_succ])
  refine tillH_take (i := 4) (oi := ?oo21) (v := ?vv21) ?hi21 (by kernel_rfl) (by kernel_rfl) (by kernel_rfl) ?hq21 (by kernel_rfl) (by kernel_rfl) (by kernel_rfl) ?hy21 ⟨d0, d1, d2, d3⟩ ?hh21
  case hi21 => (simp only [List.getElem?_toArray, List.getElem?_cons_succ, List.getElem?_cons_zero]; rfl)
  case hq21 => exact fun _ _ _ h => h
  case hy21 => exact Or.inl ⟨by rfl, by (intro W hSw; (try obtain ⟨s0, s1, s2, s3⟩ := hSw); go_simp; (try with_reducible rfl))⟩
  (try simp only [Act.put, List.setIfInBounds_toArray, List.set_cons_zero, List.set_cons_succ])
  refine tillH_take (i := 5) (oi := ?oo22) (v := ?vv22) ?hi22 (by kernel_rfl) (by kernel_rfl) (by kernel_rfl) ?hq22 (by kernel_rfl) (by kernel_rfl) (by kernel_rfl) ?hy22 ⟨d0, d1, d2, d3⟩ ?hh22
  case hi22 => (simp only [List.getElem?_toArray, List.getElem?_cons_succ, List.getElem?_cons_zero]; rfl)
  case hq22 => exact fun _ _ _ h => h
  case hy22 => exact Or.inl ⟨by rfl, by (intro W hSw; (try obtain ⟨s0, s1, s2, s3⟩ := hSw); go_simp; (try with_reducible rfl))⟩
  (try simp only [Act.put, List.setIfInBounds_toArray, List.set_cons_zero, List.set_cons_succ])
  refine tillH_next (rs := [6]) (by kernel_rfl) (by simp) ?_
  refine NextH.cons rfl (fun K hK => ?_) NextH.nil
  go_simp
  have h11 := H10.out.1.below ((Below.refl _ _).alloc (Nat.le_refl _) (.cells #[.int .i64 r, .pointer (some ⟨N, 0, none⟩), .pointer (some ⟨M2, 0, none⟩)] 81))
  have hU11 := H10.out.2.alloc (.cells #[.int .i64 r, .pointer (some ⟨N, 0, none⟩), .pointer (some ⟨M2, 0, none⟩)] 81)
  have hnews := World.news_of_block (cs := #[.int .i64 r, .pointer (some ⟨N, 0, none⟩), .pointer (some ⟨M2, 0, none⟩)]) (t := 81) (fr := (0, 0)) (heap_alloc_new D10 (.cells #[.int .i64 r, .pointer (some ⟨N, 0, none⟩), .pointer (some ⟨M2, 0, none⟩)] 81))
  have hs10 : w.heap.size ≤ D10.heap.size := H10.out.2.size
  obtain ⟨g10, hg10⟩ : ∃ g, D10.heap.size = g := ⟨_, rfl⟩
  rw [hg10] at hnews
  simp only [hg10]
  generalize D10.alloc (.cells #[.int .i64 r, .pointer (some ⟨N, 0, none⟩), .pointer (some ⟨M2, 0, none⟩)] 81) = W11 at *
  have H11 := Lib.hid (And.intro h11 hU11)
  have d0 : W11.cell? ⟨J, 2, none⟩ = some lv := by rw [H11.out.1.kb.cell]; rfl
  have d1 : W11.cell? ⟨P, 0, none⟩ = some (.int .i64 r) := by rw [H11.out.1.kp.cell]; rfl
  have d2 : W11.cell? ⟨P, 1, none⟩ = some (.pointer (some ⟨N, 0, none⟩)) := by rw [H11.out.1.kp.cell]; rfl
  have d3 : W11.cell? ⟨P, 2, none⟩ = some (.pointer (some ⟨M2, 0, none⟩)) := by rw [H11.out.1.kp.cell]; rfl
  clear h11 hU11 hs10 hg10 H10
  refine hK.out _ _ (fun _ => ⟨d0, d1, d2, d3⟩) ?_
  clear hK K
  (try simp only [Act.put, List.setIfInBounds_toArray, List.set_cons_zero, List.set_cons_succ])
  refine tillH_next (rs := [7]) (by kernel_rfl) (by simp) ?_
  refine NextH.cons rfl (fun K hK => ?_) NextH.nil
  have hAl := H11.out.1.ar.ar.blk.lt
  refine step_onto (by rfl) _ _ _ (by rfl) A 81 i0 (.agg #[.int .i64 0, .pointer none, .pointer none]) 3 24 Try.underlying50 hi hz0 hz1 hz2 rfl (by decide) lv ps.length (paCells ps) (by rfl) H11.out.1.lr (some ⟨g10, 0, none⟩) 1 1 (paC ⟨r, N, M2, s.tl, s.bl, s.fl⟩) (by rfl) (by rfl) (fun _ => ⟨_, rfl, hnews⟩) (by simp [paC, Value.oneCell']) (by unfold maxLen; omega) (by omega) (Nat.le_of_lt hAl) ?_
  intro lv' W12 own12 grow12 new12
  obtain ⟨la, lc, rfl, -⟩ := own_shape own12
  have u12 : Upd W11 W12 (fun k => lv.ownBlock = some k) := Upd.of_grown grow12 (fun k e => e)
  have hBo := mi_app H11.out.1 (by simp) u12 own12
  have kJ12 : Blk W12 J _ _ := H11.out.1.kb.grown grow12 (fun e => own_blk H11.out.1.lr H11.out.1.kb (by decide) e.symm)
  have x0 : W12.cell? ⟨J, 2, none⟩ = some lv := by rw [kJ12.cell]; rfl
  have z0 := kJ12.frozen 2
  have l0 := kJ12.lt
  have kP12 : Blk W12 P _ _ := H11.out.1.kp.grown grow12 (fun e => H11.out.1.hP P e.symm rfl)
  have d1 : W12.cell? ⟨P, 0, none⟩ = some (.int .i64 r) := by rw [kP12.cell]; rfl
  have d2 : W12.cell? ⟨P, 1, none⟩ = some (.pointer (some ⟨N, 0, none⟩)) := by rw [kP12.cell]; rfl
  have d3 : W12.cell? ⟨P, 2, none⟩ = some (.pointer (some ⟨M2, 0, none⟩)) := by rw [kP12.cell]; rfl
  have hU12 : Upd w (W12.setCell ⟨J, 2, none⟩ (.slice la (ps.length + 1) lc)) (fun k => A ≤ k) := (H11.out.2.trans (u12.mono (fun k _ e => (H11.out.1.lr.lt k e).1))).set J 2 _ H11.out.1.hK
  have H12 := Lib.hid (And.intro hBo hU12)
  clear hBo hU12 u12 own12 grow12 new12 kJ12 kP12 H11 hnews hAl
  refine hK.out _ _ (fun _ => ⟨x0, d1, d2, d3⟩) ?_
  clear hK K
  (try simp only [Act.put, List.setIfInBounds_toArray, List.set_cons_zero, List.set_cons_succ])
  refine tillH_takeAny (i := 8) (oi := ?oo23) (v := ?vv23) ?hi23 (by kernel_rfl) (by kernel_rfl) (by kernel_rfl) ?hq23 (by kernel_rfl) ?hy23 (fun _ => ⟨x0, d1, d2, d3⟩) ?hh23
  case hi23 => (simp only [List.getElem?_toArray, List.getElem?_cons_succ, List.getElem?_cons_zero]; rfl)
  case hq23 => exact fun _ _ _ h => h
  case hy23 => exact Or.inl ⟨by rfl, by (intro W; go_simp; (try with_reducible rfl))⟩
  (try simp only [Act.put, List.setIfInBounds_toArray, List.set_cons_zero, List.set_cons_succ])
  refine tillH_takeAny (i := 9) (oi := ?oo24) (v := ?vv24) ?hi24 (by kernel_rfl) (by kernel_rfl) (by kernel_rfl) ?hq24 (by kernel_rfl) ?hy24 (fun _ => ⟨x0, d1, d2, d3⟩) ?hh24
  case hi24 => (simp only [List.getElem?_toArray, List.getElem?_cons_succ, List.getElem?_cons_zero]; rfl)
  case hq24 => exact fun _ _ _ h => h
  case hy24 => exact Or.inl ⟨by rfl, by (intro W; go_simp; (try with_reducible rfl))⟩
  (try simp only [Act.put, List.setIfInBounds_toArray, List.set_cons_zero, List.set_cons_succ])
  refine tillH_next (rs := [10]) (by kernel_rfl) (by simp) ?_
  refine NextH.cons rfl (fun K hK => ?_) NextH.nil
  go_simp
  refine hK.out _ _ (fun h => absurd h (by simp)) ?_
  clear hK K
  (try simp only [Act.put, List.setIfInBounds_toArray, List.set_cons_zero, List.set_cons_succ])
  refine tillH_done (by kernel_rfl) ?_ _
  generalize W12.setCell ⟨J, 2, none⟩ (.slice la (ps.length + 1) lc) = W13 at *
  clear x0 z0 l0 d1 d2 d3
  go_wp2_with fail
  refine (same_any H12.out.1 (by simp) (by rw [List.length_append]; simp; omega) (fun q hq => ?_)).mono ?_
  · rcases List.mem_append.1 hq with hq | hq
    · exact HS.out.2.2.2 q hq
    · rw [List.mem_singleton.1 hq]
      have h1 := HS.out.1.to_.1
      have h2 := HS.out.1.tab.1
      have h3 := HS.out.1.fnt.1
      exact ⟨by show s.tl.length ≤ 2000; omega, by show s.bl.length ≤ 2000; omega, by show s.fl.length ≤ 2000; omega⟩
  rintro e W14 ⟨⟨v, rfl⟩, b14⟩
  have HF := Lib.hid (And.intro (H12.out.1.below b14) (H12.out.2.then_below b14))
  clear b14
  go_wp2
  go_ret
  exact ⟨⟨_, rfl⟩, _, _, _, _, ⟨r, N, M2, s.tl, s.bl, s.fl⟩, rfl, rfl, rfl, by show A ≤ N; have h1 := HQ2.out.2.2; have h2 := HQ.out; have h3 := HS.out.2.2.1.alt; omega, HF.out.1, HF.out.2⟩
end Go.Proofs.Ythcdhiknjpfmhaa
