/- The walk of the statement HeapWeak. -/
import Derived.Test.YtmimnaaofpkndaaDoorHqV
import Derived.Test.YtmimnaaofpkndaaDoorHqScW
import Derived.Test.YtmimnaaofpkndaaDoorHpL
set_option linter.unusedVariables false
set_option linter.unusedSimpArgs false
namespace Go.Proofs.YtmimnaaofpkndaaDoor.Hp
open Go.RowKit Go.Proofs.YtmimnaaofpkndaaDoor Go.Shelf Go.Sort

theorem AS.s36 {w1 w : World} {pk : PK} {hd : Nat → Bool} {M g cap : Nat} {vv : Value} {s : LS} (h : AS w1 pk hd M (.slice (some ⟨g, 0, none⟩) M cap) vv s w) (i : Nat) (hi : i < M) : w.cell? ⟨pk.b0, 8, none⟩ = some (.pointer (some ⟨pk.Tw, 0, none⟩)) ∧ w.cell? ⟨g, i, none⟩ = some (.int .i64 (kR i)) := by
  obtain ⟨fv, hb⟩ := h.b0
  have hr := h.refs.1
  refine ⟨by rw [hb.cell]; rfl, ?_⟩
  have c0 := (hr.cellAt i (show i < M * 1 by omega)).trans (numCells_get (kyL M) i (by rw [kyL_len]; exact hi))
  rw [kyL_get _ _ hi] at c0
  exact c0
theorem vlL_get (M i : Nat) (hi : i < M) : (vlL M).getD i 0 = vR i := by
  rw [List.getD_eq_getElem?_getD, vlL, List.getElem?_map, List.getElem?_range hi]; rfl
theorem AS.s37 {w1 w : World} {pk : PK} {hd : Nat → Bool} {M g cap : Nat} {rv : Value} {s : LS} (h : AS w1 pk hd M rv (.slice (some ⟨g, 0, none⟩) M cap) s w) (i : Nat) (hi : i < M) : w.cell? ⟨g, i, none⟩ = some (.int .i64 (vR i)) := by
  have c0 := (h.refs.2.cellAt i (show i < M * 1 by omega)).trans (numCells_get (vlL M) i (by rw [vlL_len]; exact hi))
  rw [vlL_get _ _ hi] at c0
  exact c0
/-- p.Faint, q.Faint. -/
theorem AS.f1 {w1 w : World} {pk : PK} {hd : Nat → Bool} {M : Nat} {rv vv : Value} {s : LS} (h : AS w1 pk hd M rv vv s w) (i : Nat) (hi : i < M) : ∃ g cap, w.cell? ⟨pk.b1, 9, none⟩ = some (.slice (some ⟨g, 0, none⟩) M cap) ∧ w.cell? ⟨g, i, none⟩ = some (.int .i64 (if hd i then kR i else 0)) := by
  obtain ⟨f, fv, hb, hr, hl, hf⟩ := h.b1
  obtain ⟨a, cap, rfl, ha⟩ := own_shape hr
  obtain ⟨g, rfl⟩ := ha (by omega)
  have c0 := (hr.cellAt i (show i < M * 1 by omega)).trans (numCells_get f i (by rw [hl]; exact hi))
  rw [hf i hi] at c0
  exact ⟨g, cap, by rw [hb.cell]; rfl, c0⟩
theorem AS.f2 {w1 w : World} {pk : PK} {hd : Nat → Bool} {M : Nat} {rv vv : Value} {s : LS} (h : AS w1 pk hd M rv vv s w) (i : Nat) (hi : i < M) : ∃ g cap, w.cell? ⟨pk.b2, 9, none⟩ = some (.slice (some ⟨g, 0, none⟩) (2 * M) cap) ∧ w.cell? ⟨g, 2 * i, none⟩ = some (.int .i64 (if hd i then kR i else -1)) ∧ w.cell? ⟨g, 2 * i + 1, none⟩ = some (.int .i64 (if hd i then kR i else 0)) := by
  obtain ⟨f, fv, hb, hr, hl, hf⟩ := h.b2
  obtain ⟨a, cap, rfl, ha⟩ := own_shape hr
  obtain ⟨g, rfl⟩ := ha (by omega)
  have c0 := (hr.cellAt (2 * i) (show 2 * i < 2 * M * 1 by omega)).trans (numCells_get f (2 * i) (by rw [hl]; omega))
  have c1 := (hr.cellAt (2 * i + 1) (show 2 * i + 1 < 2 * M * 1 by omega)).trans (numCells_get f (2 * i + 1) (by rw [hl]; omega))
  rw [(hf i hi).1] at c0
  rw [(hf i hi).2] at c1
  exact ⟨g, cap, by rw [hb.cell]; rfl, c0, c1⟩
theorem AS.box {w1 w w' : World} {pk : PK} {hd : Nat → Bool} {M g : Nat} {rv vv : Value} {s : LS} (h : AS w1 pk hd M rv vv s w) (b : Below w.heap.size w w') (hg : w.heap.size ≤ g) (x y z : Value) : AS w1 pk hd M rv vv s (((w'.setCell ⟨g, 0, none⟩ x).setCell ⟨g, 1, none⟩ y).setCell ⟨g, 2, none⟩ z) := by
  have u : Upd w w' (fun _ => False) := Upd.of_below_all b
  have u2 := ((u.set_new g 0 x hg).set_new g 1 y hg).set_new g 2 z hg
  exact h.below (u2.below (Nat.le_refl _) (fun _ e => e.elim))

set_option maxRecDepth 100000 in
set_option maxHeartbeats 400000000 in
theorem weak_walk (n : Int) (a : Option Addr) (m cap : Nat) (l : List Bool) (w : World) (h : BoolR w a m l) (hLg : Lg w) : Calls Tryd.prog 6 #[.int .i64 n, .slice a m cap] w fun e w' => e = .returned (.bool true) ∧ Below w.heap.size w w' := by
  obtain ⟨N, hN, hN10⟩ := norm_mod n 10 (by omega) (by omega)
  have HN := Lib.hid hN
  have HR := Lib.hid h
  have HF := Lib.hid (fit_any w hLg)
  clear h hLg hN
  go_enter Tryd.func6, Tryd.ntmps6
  go_wp2_with fail
  refine HF.out.mono ?_
  rintro e w1 ⟨rfl, bB⟩
  go_upto_region 4 with fail
  rw [HN.out]
  obtain ⟨M, hM, hM1, hM10⟩ : ∃ M : Nat, wrap64 ((N : Int) + 1) = (M : Int) ∧ 1 ≤ M ∧ M ≤ 10 := ⟨N + 1, by rw [IntWalk.wrap64_in _ (by omega)]; rfl, by omega, by omega⟩
  rw [hM]
  clear hM hN10 HN HF
  go_wp2_with fail
  refine (hnew_any w1).mono ?_
  rintro e w2 ⟨rfl, rfl⟩
  have hs0 := ss_new w1 w1 (Below.refl _ _)
  obtain ⟨A, hA⟩ : ∃ A, w1.heap.size = A := ⟨_, rfl⟩
  rw [hA] at hs0 ⊢
  obtain ⟨H, hH⟩ : ∃ H, A + 1 = H := ⟨_, rfl⟩
  rw [hH] at hs0 ⊢
  have HS0 := Lib.hid hs0
  clear hs0
  generalize newW w1 = w2 at *
  have hmk := Lib.hid (SS.make HS0.out rfl rfl (by show (0 : Int) ≤ 0; decide) (by show (0 : Int) < 4194304; decide) (by show 0 ≤ 100000000; decide) 6)
  go_wp2_with fail
  refine hmk.out.mono ?_
  rintro e v0 ⟨b0, T0, he, hs1, hlt0⟩
  obtain rfl : e = .returned (.tuple #[.int .i64 1, .pointer (some ⟨b0, 0, none⟩)]) := he
  have HS1 := Lib.hid hs1
  clear hs1 hmk HS0
  have hmk := Lib.hid (SS.make HS1.out rfl rfl (by show (0 : Int) ≤ 0+1; decide) (by show (0+1 : Int) < 4194304; decide) (by show 1 ≤ 100000000; decide) 8)
  go_wp2_with fail
  refine hmk.out.mono ?_
  rintro e v1 ⟨b1, T1, he, hs2, hlt1⟩
  obtain rfl : e = .returned (.tuple #[.int .i64 2, .pointer (some ⟨b1, 0, none⟩)]) := he
  have HS2 := Lib.hid hs2
  clear hs2 hmk HS1
  have hmk := Lib.hid (SS.make HS2.out rfl rfl (by show (0 : Int) ≤ 0+1+1; decide) (by show (0+1+1 : Int) < 4194304; decide) (by show 2 ≤ 100000000; decide) 9)
  go_wp2_with fail
  refine hmk.out.mono ?_
  rintro e v2 ⟨b2, T2, he, hs3, hlt2⟩
  obtain rfl : e = .returned (.tuple #[.int .i64 3, .pointer (some ⟨b2, 0, none⟩)]) := he
  have HS3 := Lib.hid hs3
  clear hs3 hmk HS2
  have hmk := Lib.hid (SS.make HS3.out rfl rfl (by show (0 : Int) ≤ 0+1+1+1; decide) (by show (0+1+1+1 : Int) < 4194304; decide) (by show 3 ≤ 100000000; decide) 3)
  go_wp2_with fail
  refine hmk.out.mono ?_
  rintro e v3 ⟨b3, T3, he, hs4, hlt3⟩
  obtain rfl : e = .returned (.tuple #[.int .i64 4, .pointer (some ⟨b3, 0, none⟩)]) := he
  have HS4 := Lib.hid hs4
  clear hs4 hmk HS3
  have HLT := Lib.hid (And.intro hlt1 (And.intro hlt2 hlt3))
  clear hlt0 hlt1 hlt2 hlt3
  go_wp2_with fail
  refine (Go.Proofs.YtmimnaaofpkndaaDoor.new_any v3).mono ?_
  rintro e v4 ⟨rfl, b4, hT4⟩
  have hs5 := HS4.out.newWeak b4 hT4 (Nat.le_refl _)
  obtain ⟨Tw, hTw⟩ : ∃ Tw, v3.heap.size = Tw := ⟨_, rfl⟩
  rw [hTw] at hs5 ⊢
  have HS5 := Lib.hid hs5
  clear hs5 HS4 b4 hT4
  go_wp2_with fail
  refine (Go.Proofs.YtmimnaaofpkndaaDoor.new_any v4).mono ?_
  rintro e v5 ⟨rfl, b5, hT5⟩
  have hs6 := HS5.out.newTabl b5 hT5 (Nat.le_refl _)
  obtain ⟨Ts, hTs⟩ : ∃ Ts, v4.heap.size = Ts := ⟨_, rfl⟩
  rw [hTs] at hs6 ⊢
  have hs7 := hs6.setWk (i := 0) (x := ⟨b0, 6, T0, none, none, []⟩) rfl (by decide) Tw
  have hs8 := hs7.setTb (i := 3) (x := ⟨b3, 3, T3, none, none, []⟩) rfl (by decide) Ts
  obtain ⟨q4, q0, r0, s0⟩ := hs6.obj (i := 0) (x := ⟨b0, 6, T0, none, none, []⟩) rfl (by decide)
  obtain ⟨q5, q3, r3, s3⟩ := hs7.obj (i := 3) (x := ⟨b3, 3, T3, none, none, []⟩) rfl (by decide)
  have x8 : v5.cell? ⟨b0, 8, none⟩ = some (.pointer none) := by rw [q0.cell]; rfl
  have z8 := q0.frozen 8
  have l0 := q0.lt
  have y6 : (v5.setCell ⟨b0, 8, none⟩ (.pointer (some ⟨Tw, 0, none⟩))).cell? ⟨b3, 6, none⟩ = some (.pointer none) := by rw [q3.cell]; rfl
  have u6 := q3.frozen 6
  have l3 := q3.lt
  have HS8 := Lib.hid hs8
  clear hs6 hs7 hs8 q0 q3 r0 s0 r3 s3 HS5 b5 hT5
  clear q4 q5
  go_upto_region 10 with fail
  obtain ⟨pk, hpk⟩ : ∃ pk : PK, pk = ⟨b0, T0, b1, T1, b2, T2, b3, T3, Tw, Ts, H, A⟩ := ⟨_, rfl⟩
  obtain ⟨V, hV⟩ : ∃ V, (v5.setCell ⟨b0, 8, none⟩ (.pointer (some ⟨Tw, 0, none⟩))).setCell ⟨b3, 6, none⟩ (.pointer (some ⟨Ts, 0, none⟩)) = V := ⟨_, rfl⟩
  have hs9 : GS w1 pk [] [] [] [] [] [] nilS [] nilS [] V := by
    subst hpk
    subst hV
    exact HS8.out
  rw [hV]
  have e0 : pk.b0 = b0 := by rw [hpk]
  have e1 : pk.b1 = b1 := by rw [hpk]
  have e2 : pk.b2 = b2 := by rw [hpk]
  have e3 : pk.b3 = b3 := by rw [hpk]
  have eH : pk.H = H := by rw [hpk]
  have hasc : b0 < b1 ∧ b1 < b2 ∧ b2 < b3 := ⟨HLT.out.1 ⟨b0, 6, T0, none, none, []⟩ (by simp [LS.mk1, ls0]), HLT.out.2.1 ⟨b1, 8, T1, none, none, []⟩ (by simp [LS.mk1, ls0]), HLT.out.2.2 ⟨b2, 9, T2, none, none, []⟩ (by simp [LS.mk1, ls0])⟩
  rw [← e0, ← e1, ← e2, ← e3] at hasc
  rw [← e0, ← e1, ← e2, ← e3, ← eH]
  have HAS := Lib.hid hasc
  have HS9 := Lib.hid hs9
  clear hs9 hasc hV HS8 HLT x8 z8 l0 y6 u6 l3 e0 e1 e2 e3 eH hpk hA hH hTw hTs
  have y0 : V.cell? ⟨pk.H, 0, none⟩ = some (.pointer (some ⟨pk.A, 0, none⟩)) := by rw [HS9.out.hb.cell]; rfl
  have y9 := HS9.out.hb.lt
  have hpu : ∀ (W : World), Below V.heap.size V W → (∀ j u, (numCells [1, 2, 3, 4])[j]? = some u → W.cell? ((⟨V.heap.size, 0, none⟩ : Addr).add j) = some u) → Calls Tryd.prog 26 #[.pointer (some ⟨pk.A, 0, none⟩), .slice (some ⟨V.heap.size, 0, none⟩) 4 4] W fun e w' => (∃ v, e = .returned v) ∧ Hid (GS w1 pk [] [] [] [] [] [1, 2, 3, 4] nilS [] nilS [] w') := fun W b hc => by
    refine ((HS9.out.below b).push [1, 2, 3, 4] ⟨V.heap.size, 0, none⟩ 4 (by decide) hc (by simp) (by simp)).mono ?_
    rintro e w' ⟨hv, hs⟩
    exact ⟨hv, Lib.hid hs⟩
  have hne : ∀ j u, (numCells [1, 2, 3, 4])[j]? = some u → (V.alloc (.cells #[.int .i64 1, .int .i64 2, .int .i64 3, .int .i64 4] 3)).cell? ((⟨V.heap.size, 0, none⟩ : Addr).add j) = some u := World.news_of_block (cs := #[.int .i64 1, .int .i64 2, .int .i64 3, .int .i64 4]) (t := 3) (fr := (0, 0)) (heap_alloc_new V _)
  have HPU := Lib.hid (And.intro hpu hne)
  clear hpu hne
  go_wp2_with fail
  refine (HPU.out.1 _ ((Below.refl _ _).alloc (Nat.le_refl _) _) HPU.out.2).mono ?_
  rintro e V1 ⟨⟨_, rfl⟩, HS10⟩
  clear HPU HS9 y0 y9
  go_wp2_with fail
  obtain ⟨i0, hi, hz0, hz1, hz2⟩ := info_parts infoInt
  have HI := Lib.hid (And.intro hi (And.intro hz0 (And.intro hz1 hz2)))
  clear hi hz0 hz1 hz2
  obtain ⟨hd, hhd⟩ : ∃ hd : Nat → Bool, ∀ i, hd i = l.getD i false := ⟨_, fun _ => rfl⟩
  have HHD := Lib.hid hhd
  clear hhd
  go_loopw [14, 15, 16, 76] (fun v14 v15 v16 v76 wr => ∃ (k : Nat) (ps : List OI), k ≤ M ∧ v16 = .int .i64 ((4 + 2 * cH hd k : Nat) : Int) ∧ v76 = .int .i64 (k : Int) ∧ ps.length = 2 * k ∧ Hid (GS w1 pk ps (wlK k) [] (kyL k) (ky2 k) ([1, 2, 3, 4] ++ hdL hd k) v14 (kyL k) v15 (vlL k) wr) ∧ Hid ((∀ x ∈ ps, x.tb = none ∧ x.wk = none ∧ x.fl = []) ∧ ((pk.obs (kyL k) (ky2 k) ps).map (·.b)).Pairwise (· < ·))) (fun _ _ _ v76 _ => M - (intOf v76).toNat)
  case atStart => exact ⟨0, [], Nat.zero_le _, rfl, rfl, rfl, HS10, Lib.hid ⟨fun x hx => (List.not_mem_nil hx).elim, by have := HAS.out; simp [PK.obs]; omega⟩⟩
  case round =>
    obtain ⟨k, ps, hk, rfl, rfl, hps, HS, HP⟩ := hrel
    clear HS10
    by_cases hlt : k < M
    ·
      as_aux_lemma =>
        have t1 : decide ((k : Int) < (M : Int)) = true := by rw [decide_eq_true_eq]; omega
        have ak : IntKind.i64.wrap ((k : Int) + 1) = ((k + 1 : Nat) : Int) := by rw [IntWalk.i64_in _ (by omega)]; rfl
        have hck := cH_le hd k
        have ac : IntKind.i64.wrap (((4 + 2 * cH hd k : Nat) : Int) + 2) = ((4 + 2 * cH hd k + 2 : Nat) : Int) := by rw [IntWalk.i64_in _ (by omega)]; rfl
        have hm1 := Lib.hid (HS.out.make (by omega))
        go_wp2_with fail
        refine hm1.out.mono ?_
        rintro e x1 ⟨y1, hy1, hy2, hy3, he, hs1, hlt1⟩
        rw [hps, show ((5 + 2 * k : Nat) : Int) = kR k from rfl] at he
        obtain rfl := he
        have hm2 := Lib.hid (hs1.make (by simp; omega))
        have HS1 := Lib.hid hs1
        have HY1 := Lib.hid (And.intro hy1 (And.intro hy2 (And.intro hy3 hlt1)))
        clear hm1 HS hs1 hy1 hy2 hy3 hlt1
        go_wp2_with fail
        refine hm2.out.mono ?_
        rintro e x2 ⟨y2, hy1, hy2, hy3, he, hs2, hlt2⟩
        rw [show (ps ++ [y1]).length = 2 * k + 1 by simp [hps], show ((5 + (2 * k + 1) : Nat) : Int) = vR k by unfold vR; omega] at he
        obtain rfl := he
        have HS2 := Lib.hid hs2
        have HY2 := Lib.hid (And.intro hy1 (And.intro hy2 (And.intro hy3 hlt2)))
        clear hm2 HS1 hs2 hy1 hy2 hy3 hlt2
        obtain ⟨rk, hrk⟩ : ∃ r, kR k = r := ⟨_, rfl⟩
        obtain ⟨vk, hvk⟩ : ∃ r, vR k = r := ⟨_, rfl⟩
        rw [hrk, hvk]
        have HRV := Lib.hid (And.intro hrk hvk)
        clear hrk hvk
        obtain ⟨hr, hrK⟩ := HS2.out.refs
        rw [kyL_len] at hr
        have HRK := Lib.hid hrK
        have hn1 := World.news_of_block (cs := #[.int .i64 rk]) (t := 3) (fr := (0, 0)) (heap_alloc_new x2 (.cells #[.int .i64 rk] 3))
        clear hrK
        go_wp2_with (at_builtin; refine wpList_append_lies _ rfl _ _ 22 rfl 0 3 i0 _ 1 8 Tryd.underlying22 HI.out.1 HI.out.2.1 HI.out.2.2.1 HI.out.2.2.2 rfl (by decide) _ _ _ rfl (hr.alloc _) ⟨x2.heap.size, 0, none⟩ 1 1 [.int .i64 rk] rfl rfl hn1 (by simp [Value.oneCell']) (by decide) (by unfold maxLen; omega) (by omega) (by simp) _ rfl ?_)
        intro g1' cap1' x3 own1 grow1 at1 lt1
        have hs3 := HRK.out x3 (.slice (some ⟨g1', 0, none⟩) (k + 1) cap1') (kyL k ++ [rk]) (((Upd.refl _ _).alloc _).grown grow1 (fun q e => e)) (by rw [List.length_append, kyL_len, numCells_append]; exact own1) (fun g hg => by
          obtain rfl : g1' = g := by simpa [Value.ownBlock] using hg
          exact at1.imp id (fun e => by (try simp at e); omega))
        rw [show kyL k ++ [rk] = kyL (k + 1) by rw [kyL_succ, HRV.out.1]] at hs3
        obtain ⟨hr3, hrK⟩ := hs3.vals
        rw [vlL_len] at hr3
        have HRK3 := Lib.hid hrK
        have hn2 := World.news_of_block (cs := #[.int .i64 vk]) (t := 3) (fr := (0, 0)) (heap_alloc_new x3 (.cells #[.int .i64 vk] 3))
        clear hrK hs3 HRK HS2 hr hn1 own1 grow1 at1 lt1
        go_wp2_with (at_builtin; refine wpList_append_lies _ rfl _ _ 22 rfl 0 3 i0 _ 1 8 Tryd.underlying22 HI.out.1 HI.out.2.1 HI.out.2.2.1 HI.out.2.2.2 rfl (by decide) _ _ _ rfl (hr3.alloc _) ⟨x3.heap.size, 0, none⟩ 1 1 [.int .i64 vk] rfl rfl hn2 (by simp [Value.oneCell']) (by decide) (by unfold maxLen; omega) (by omega) (by simp) _ rfl ?_)
        intro g2 cap2 x4 own1 grow1 at1 lt1
        have hs4 := HRK3.out x4 (.slice (some ⟨g2, 0, none⟩) (k + 1) cap2) (vlL k ++ [vk]) (((Upd.refl _ _).alloc _).grown grow1 (fun q e => e)) (by rw [List.length_append, vlL_len, numCells_append]; exact own1) (fun g hg => by
          obtain rfl : g2 = g := by simpa [Value.ownBlock] using hg
          exact at1.imp id (fun e => by (try simp at e); omega))
        rw [show vlL k ++ [vk] = vlL (k + 1) by rw [vlL_succ, HRV.out.2]] at hs4
        have HS4 := Lib.hid hs4
        clear hs4 HRK3 hr3 hn2 own1 grow1 at1 lt1
        go_upto_region 19 with fail
        obtain ⟨fv0, q0⟩ := HS4.out.o0
        have y8 : x4.cell? ⟨pk.b0, 8, none⟩ = some (.pointer (some ⟨pk.Tw, 0, none⟩)) := by rw [q0.cell]; rfl
        have l8 := q0.lt
        clear q0
        refine wp_var0 (fun KV HKV => ?_)
        refine wp_region_till (m := 8) (S := (fun W => W.cell? ⟨pk.b0, 8, none⟩ = some (.pointer (some ⟨pk.Tw, 0, none⟩)))) (by as_aux_lemma => kernel_rfl) ?_
        have e4 : x4.drew = x4.drewN 1 := rfl
        rw [e4]
        have S0 : (x4.drewN 1).cell? ⟨pk.b0, 8, none⟩ = some (.pointer (some ⟨pk.Tw, 0, none⟩)) := y8
        have HD := Lib.hid (And.intro (HS4.out.below (below_drw (Below.refl _ _) 1)) (show pk.b0 < (x4.drewN 1).heap.size from l8))
        clear y8 l8 HS4 e4
        generalize x4.drewN 1 = D at *
        change tillH _ _ _ _ _ _ 9 #[false, false, false, false, false, false, false, false, false] _ _
        refine tillH_takeAny (i := 0) (oi := ?oo1) (v := ?vv1) ?hi1 (by as_aux_lemma => kernel_rfl) (by as_aux_lemma => kernel_rfl) (by as_aux_lemma => kernel_rfl) ?hq1 (by as_aux_lemma => kernel_rfl) ?hy1 (fun _ => S0) ?hh1
        case hi1 => (simp only [List.getElem?_toArray, List.getElem?_cons_succ, List.getElem?_cons_zero]; rfl)
        case hq1 => exact fun _ _ _ h => h
        case hy1 => exact Or.inl ⟨by rfl, by (intro W; go_simp; (try with_reducible rfl))⟩
        (try simp only [Act.put, List.setIfInBounds_toArray, List.set_cons_zero, List.set_cons_succ])
        refine tillH_takeAny (i := 1) (oi := ?oo2) (v := ?vv2) ?hi2 (by as_aux_lemma => kernel_rfl) (by as_aux_lemma => kernel_rfl) (by as_aux_lemma => kernel_rfl) ?hq2 (by as_aux_lemma => kernel_rfl) ?hy2 (fun _ => S0) ?hh2
        case hi2 => (simp only [List.getElem?_toArray, List.getElem?_cons_succ, List.getElem?_cons_zero]; rfl)
        case hq2 => exact fun _ _ _ h => h
        case hy2 => exact Or.inl ⟨by rfl, by (intro W; go_simp; (try with_reducible rfl))⟩
        (try simp only [Act.put, List.setIfInBounds_toArray, List.set_cons_zero, List.set_cons_succ])
        refine tillH_takeAny (i := 2) (oi := ?oo3) (v := ?vv3) ?hi3 (by as_aux_lemma => kernel_rfl) (by as_aux_lemma => kernel_rfl) (by as_aux_lemma => kernel_rfl) ?hq3 (by as_aux_lemma => kernel_rfl) ?hy3 (fun _ => S0) ?hh3
        case hi3 => (simp only [List.getElem?_toArray, List.getElem?_cons_succ, List.getElem?_cons_zero]; rfl)
        case hq3 => exact fun _ _ _ h => h
        case hy3 => exact Or.inl ⟨by rfl, by (intro W; go_simp; (try with_reducible rfl))⟩
        (try simp only [Act.put, List.setIfInBounds_toArray, List.set_cons_zero, List.set_cons_succ])
        refine tillH_take (i := 3) (oi := ?oo4) (v := ?vv4) ?hi4 (by as_aux_lemma => kernel_rfl) (by as_aux_lemma => kernel_rfl) (by as_aux_lemma => kernel_rfl) ?hq4 (by as_aux_lemma => kernel_rfl) (by as_aux_lemma => kernel_rfl) (by as_aux_lemma => kernel_rfl) ?hy4 S0 ?hh4
        case hi4 => (simp only [List.getElem?_toArray, List.getElem?_cons_succ, List.getElem?_cons_zero]; rfl)
        case hq4 => exact fun _ _ _ h => h
        case hy4 => exact Or.inl ⟨by rfl, by (intro W hSw; (try obtain s0 := hSw); go_simp; (try with_reducible rfl))⟩
        (try simp only [Act.put, List.setIfInBounds_toArray, List.set_cons_zero, List.set_cons_succ])
        refine tillH_takeAny (i := 4) (oi := ?oo5) (v := ?vv5) ?hi5 (by as_aux_lemma => kernel_rfl) (by as_aux_lemma => kernel_rfl) (by as_aux_lemma => kernel_rfl) ?hq5 (by as_aux_lemma => kernel_rfl) ?hy5 (fun _ => S0) ?hh5
        case hi5 => (simp only [List.getElem?_toArray, List.getElem?_cons_succ, List.getElem?_cons_zero]; rfl)
        case hq5 => exact fun _ _ _ h => h
        case hy5 => exact Or.inl ⟨by rfl, by (intro W; go_simp; (try with_reducible rfl))⟩
        (try simp only [Act.put, List.setIfInBounds_toArray, List.set_cons_zero, List.set_cons_succ])
        refine tillH_takeAny (i := 6) (oi := ?oo6) (v := ?vv6) ?hi6 (by as_aux_lemma => kernel_rfl) (by as_aux_lemma => kernel_rfl) (by as_aux_lemma => kernel_rfl) ?hq6 (by as_aux_lemma => kernel_rfl) ?hy6 (fun _ => S0) ?hh6
        case hi6 => (simp only [List.getElem?_toArray, List.getElem?_cons_succ, List.getElem?_cons_zero]; rfl)
        case hq6 => exact fun _ _ _ h => h
        case hy6 => exact Or.inl ⟨by rfl, by (intro W; go_simp; (try with_reducible rfl))⟩
        (try simp only [Act.put, List.setIfInBounds_toArray, List.set_cons_zero, List.set_cons_succ])
        refine tillH_next (rs := [5]) (by as_aux_lemma => kernel_rfl) (by simp) ?_
        refine NextH.cons rfl (fun K hK => ?_) NextH.nil
        go_simp
        refine (vobj_any _ _).mono ?_
        rintro e E ⟨rfl, b5⟩
        have S2 : E.cell? ⟨pk.b0, 8, none⟩ = some (.pointer (some ⟨pk.Tw, 0, none⟩)) := (b5.cell (p := ⟨pk.b0, 8, none⟩) HD.out.2).trans S0
        have HE := Lib.hid (And.intro (HD.out.1.below b5) (Nat.lt_of_lt_of_le HD.out.2 b5.size))
        clear HD S0 b5
        refine hK.out _ _ (fun _ => S2) ?_
        clear hK K
        (try simp only [Act.put, List.setIfInBounds_toArray, List.set_cons_zero, List.set_cons_succ])
        refine tillH_next (rs := [7]) (by as_aux_lemma => kernel_rfl) (by simp) ?_
        refine NextH.cons rfl (fun K hK => ?_) NextH.nil
        go_simp
        refine (vobj_any _ _).mono ?_
        rintro e E2 ⟨rfl, b5⟩
        have S3 : E2.cell? ⟨pk.b0, 8, none⟩ = some (.pointer (some ⟨pk.Tw, 0, none⟩)) := (b5.cell (p := ⟨pk.b0, 8, none⟩) HE.out.2).trans S2
        have HE2 := Lib.hid (HE.out.1.below b5)
        clear HE S2 b5
        refine hK.out _ _ (fun _ => S3) ?_
        clear hK K
        (try simp only [Act.put, List.setIfInBounds_toArray, List.set_cons_zero, List.set_cons_succ])
        refine tillH_next (rs := [8]) (by as_aux_lemma => kernel_rfl) (by simp) ?_
        refine NextH.cons rfl (fun K hK => ?_) NextH.nil
        go_simp
        refine (HE2.out.putWeak (k3 rk) (k3 vk) 0 (by show (0 : Nat) ≤ 4000; decide) (by rw [wlK_len]; omega)).mono ?_
        rintro e x5 ⟨rfl, hs5⟩
        rw [show putA (k3 rk) (k3 vk) 0 (wlK k) = wlK (k + 1) by rw [← HRV.out.1, ← HRV.out.2, wlK_succ]] at hs5
        have HS5 := Lib.hid hs5
        clear hs5 HE2 S3
        refine hK.out _ _ (fun h => absurd h (by simp)) ?_
        clear hK K
        (try simp only [Act.put, List.setIfInBounds_toArray, List.set_cons_zero, List.set_cons_succ])
        refine tillH_done (by as_aux_lemma => kernel_rfl) ?_ _
        refine HKV.out _ _ ?_
        obtain ⟨fv, hb, hr, hK⟩ := HS5.out.fa1
        rw [kyL_len] at hr
        have z9 : x5.cell? ⟨pk.b1, 9, none⟩ = some fv := by rw [hb.cell]; rfl
        have l9 := hb.lt
        have hne := fun g (e : fv.ownBlock = some g) => own_blk_ne hr hb (by decide) 
        have hn1 := World.news_of_block (cs := #[.int .i64 rk]) (t := 3) (fr := (0, 0)) (heap_alloc_new x5 (.cells #[.int .i64 rk] 3))
        have HB := Lib.hid (And.intro hb hK)
        clear hK hb hne
        go_wp2_with (at_builtin; refine wpList_append_lies _ rfl _ _ 22 rfl 0 3 i0 _ 1 8 Tryd.underlying22 HI.out.1 HI.out.2.1 HI.out.2.2.1 HI.out.2.2.2 rfl (by decide) _ _ _ rfl (hr.alloc _) ⟨x5.heap.size, 0, none⟩ 1 1 [.int .i64 rk] rfl rfl hn1 (by simp [Value.oneCell']) (by decide) (by unfold maxLen; omega) (by omega) (by simp) _ rfl ?_)
        intro g1 cap1 x6 own1 grow1 at1 lt1
        have kb : Blk x6 pk.b1 51 (obC ⟨pk.b1, 8, pk.T1, none, none, kyL k⟩ fv) := Blk.grown (HB.out.1.alloc _) grow1 (fun e => own_blk_ne hr HB.out.1 (by decide) e.symm)
        have z9 : x6.cell? ⟨pk.b1, 9, none⟩ = some fv := by rw [kb.cell]; rfl
        have u9 := kb.frozen 9
        have l9 := kb.lt
        have hs6 := HB.out.2 (x6.setCell ⟨pk.b1, 9, none⟩ (.slice (some ⟨g1, 0, none⟩) (k + 1) cap1)) (kyL k ++ [rk]) (.slice (some ⟨g1, 0, none⟩) (k + 1) cap1) ((((Upd.refl _ _).alloc _).grown grow1 (fun q e => .inr e)).set _ 9 _ (.inl rfl)) (kb.set_ 9 _) (by rw [List.length_append, kyL_len, numCells_append]; exact own_set own1 kb (by decide) 9 _) (fun g hg => by
          obtain rfl : g1 = g := by simpa [Value.ownBlock] using hg
          exact at1.imp id (fun e => by (try simp at e); omega))
        rw [show kyL k ++ [rk] = kyL (k + 1) by rw [kyL_succ, HRV.out.1]] at hs6
        have HS6 := Lib.hid hs6
        clear hs6 HB hr hn1 own1 grow1 at1 lt1 kb HS5
        go_upto_region 21 with fail
        obtain ⟨x7, hx6⟩ : ∃ V, x6.setCell ⟨pk.b1, 9, none⟩ (.slice (some ⟨g1, 0, none⟩) (k + 1) cap1) = V := ⟨_, rfl⟩
        rw [hx6] at HS6 ⊢
        have HS7 := HS6
        clear hx6 HS6 z9 u9 l9
        obtain ⟨fv, hb, hr, hK⟩ := HS7.out.fa2
        rw [ky2_len] at hr
        have z9 : x7.cell? ⟨pk.b2, 9, none⟩ = some fv := by rw [hb.cell]; rfl
        have l9 := hb.lt
        have hne := fun g (e : fv.ownBlock = some g) => own_blk_ne hr hb (by decide) 
        have hn1 := World.news_of_block (cs := #[.int .i64 rk, .int .i64 rk]) (t := 3) (fr := (0, 0)) (heap_alloc_new x7 (.cells #[.int .i64 rk, .int .i64 rk] 3))
        have HB := Lib.hid (And.intro hb hK)
        clear hK hb hne
        go_wp2_with (at_builtin; refine wpList_append_lies _ rfl _ _ 22 rfl 0 3 i0 _ 1 8 Tryd.underlying22 HI.out.1 HI.out.2.1 HI.out.2.2.1 HI.out.2.2.2 rfl (by decide) _ _ _ rfl (hr.alloc _) ⟨x7.heap.size, 0, none⟩ 2 2 [.int .i64 rk, .int .i64 rk] rfl rfl hn1 (by simp [Value.oneCell']) (by decide) (by unfold maxLen; omega) (by omega) (by simp) _ rfl ?_)
        intro g1 cap1 x8 own1 grow1 at1 lt1
        have kb : Blk x8 pk.b2 51 (obC ⟨pk.b2, 9, pk.T2, none, none, ky2 k⟩ fv) := Blk.grown (HB.out.1.alloc _) grow1 (fun e => own_blk_ne hr HB.out.1 (by decide) e.symm)
        have z9 : x8.cell? ⟨pk.b2, 9, none⟩ = some fv := by rw [kb.cell]; rfl
        have u9 := kb.frozen 9
        have l9 := kb.lt
        have hs6 := HB.out.2 (x8.setCell ⟨pk.b2, 9, none⟩ (.slice (some ⟨g1, 0, none⟩) (2 * k + 2) cap1)) (ky2 k ++ [rk, rk]) (.slice (some ⟨g1, 0, none⟩) (2 * k + 2) cap1) ((((Upd.refl _ _).alloc _).grown grow1 (fun q e => .inr e)).set _ 9 _ (.inl rfl)) (kb.set_ 9 _) (by rw [List.length_append, ky2_len, numCells_append]; exact own_set own1 kb (by decide) 9 _) (fun g hg => by
          obtain rfl : g1 = g := by simpa [Value.ownBlock] using hg
          exact at1.imp id (fun e => by (try simp at e); omega))
        rw [show ky2 k ++ [rk, rk] = ky2 (k + 1) by rw [ky2_succ, HRV.out.1]] at hs6
        have HS6 := Lib.hid hs6
        clear hs6 HB hr hn1 own1 grow1 at1 lt1 kb HS7
        go_upto_region 22 with fail
        obtain ⟨x9, hx6⟩ : ∃ V, x8.setCell ⟨pk.b2, 9, none⟩ (.slice (some ⟨g1, 0, none⟩) (2 * k + 2) cap1) = V := ⟨_, rfl⟩
        rw [hx6] at HS6 ⊢
        have HS9' := HS6
        clear hx6 HS6 z9 u9 l9
        have HP2 : Hid ((∀ x ∈ ps ++ [y1] ++ [y2], x.tb = none ∧ x.wk = none ∧ x.fl = []) ∧ ((pk.obs (kyL (k + 1)) (ky2 (k + 1)) (ps ++ [y1] ++ [y2])).map (·.b)).Pairwise (· < ·)) := Lib.hid (by
          refine ⟨fun x hx => ?_, ?_⟩
          · rcases List.mem_append.1 hx with hx | hx
            · rcases List.mem_append.1 hx with hx | hx
              · exact HP.out.1 x hx
              · rw [List.mem_singleton.1 hx]; exact ⟨HY1.out.1, HY1.out.2.1, HY1.out.2.2.1⟩
            · rw [List.mem_singleton.1 hx]; exact ⟨HY2.out.1, HY2.out.2.1, HY2.out.2.2.1⟩
          · have e1 : (pk.obs (kyL (k + 1)) (ky2 (k + 1)) (ps ++ [y1] ++ [y2])).map (·.b) = (pk.obs (kyL k) (ky2 k) ps).map (·.b) ++ [y1.b] ++ [y2.b] := by simp [PK.obs]
            rw [e1, List.pairwise_append, List.pairwise_append]
            refine ⟨⟨HP.out.2, List.pairwise_singleton _ _, fun c hc d hd => ?_⟩, List.pairwise_singleton _ _, fun c hc d hd => ?_⟩
            · rw [List.mem_singleton.1 hd]
              obtain ⟨y, hy, rfl⟩ := List.mem_map.1 hc
              exact HY1.out.2.2.2 y hy
            · rw [List.mem_singleton.1 hd]
              have e2 : (pk.obs (kyL k) (ky2 k) (ps ++ [y1])).map (·.b) = (pk.obs (kyL k) (ky2 k) ps).map (·.b) ++ [y1.b] := by simp [PK.obs]
              rw [← e2] at hc
              obtain ⟨y, hy, rfl⟩ := List.mem_map.1 hc
              exact HY2.out.2.2.2 y hy)
        have hps2 : (ps ++ [y1] ++ [y2]).length = 2 * (k + 1) := by simp [hps]; omega
        clear HP HY1 HY2
        generalize ps ++ [y1] ++ [y2] = ps2 at *
        have hR := (HR.out.below bB).below HS9'.out.bel
        have hR2 := hR.2
        by_cases hkm : k < m
        · have t2 : decide ((k : Int) < (m : Int)) = true := by rw [decide_eq_true_eq]; omega
          obtain ⟨ab, off, rfl, lab, hcell⟩ := hR2 (by omega)
          have z0 : (0 : Int) ≤ (k : Int) := by omega
          have z1 : (k : Int) < (m : Int) := by omega
          have zc := hcell k hkm
          rw [← HHD.out k] at zc
          clear hR hR2 hcell
          cases hv : hd k with
          | true =>
            rw [hv] at zc
            have hpu : ∀ (W : World), Below x9.heap.size x9 W → (∀ j u, (numCells [rk])[j]? = some u → W.cell? ((⟨x9.heap.size, 0, none⟩ : Addr).add j) = some u) → Calls Tryd.prog 26 #[.pointer (some ⟨pk.A, 0, none⟩), .slice (some ⟨x9.heap.size, 0, none⟩) 1 1] W fun e w' => (∃ v, e = .returned v) ∧ Hid (GS w1 pk ps2 (wlK (k + 1)) [] (kyL (k + 1)) (ky2 (k + 1)) ([1, 2, 3, 4] ++ hdL hd (k + 1)) (.slice (some ⟨g1', 0, none⟩) (k + 1) cap1') (kyL (k + 1)) (.slice (some ⟨g2, 0, none⟩) (k + 1) cap2) (vlL (k + 1)) w') := fun W b hc => by
              refine ((HS9'.out.below b).push [rk] ⟨x9.heap.size, 0, none⟩ 1 (by simp) hc (by rw [List.length_append, hdL_len]; show 4 + cH hd k ≤ 1000000; omega) (by simp)).mono ?_
              rintro e w' ⟨hv2, hs⟩
              rw [List.append_assoc, show hdL hd k ++ [rk] = hdL hd (k + 1) by rw [hdL_succ, hv, HRV.out.1]; rfl] at hs
              exact ⟨hv2, Lib.hid hs⟩
            have hne : ∀ j u, (numCells [rk])[j]? = some u → (x9.alloc (.cells #[.int .i64 rk] 3)).cell? ((⟨x9.heap.size, 0, none⟩ : Addr).add j) = some u := World.news_of_block (cs := #[.int .i64 rk]) (t := 3) (fr := (0, 0)) (heap_alloc_new x9 _)
            have HPU := Lib.hid (And.intro hpu hne)
            have y0 : x9.cell? ⟨pk.H, 0, none⟩ = some (.pointer (some ⟨pk.A, 0, none⟩)) := by rw [HS9'.out.hb.cell]; rfl
            have y9 := HS9'.out.hb.lt
            clear hpu hne
            go_wp2_with fail
            refine (HPU.out.1 _ ((Below.refl _ _).alloc (Nat.le_refl _) _) HPU.out.2).mono ?_
            rintro e x10 ⟨⟨_, rfl⟩, HS10⟩
            clear HPU HS9' y0 y9
            go_wp2_with fail
            go_roundw
            case rel => exact ⟨k + 1, ps2, by omega, by rw [cH_succ, hv]; rfl, rfl, hps2, HS10, HP2⟩
            case measure => simp only [intOf]; omega
          | false =>
            as_aux_lemma =>
              rw [hv] at zc
              have HS10 : Hid (GS w1 pk ps2 (wlK (k + 1)) [] (kyL (k + 1)) (ky2 (k + 1)) ([1, 2, 3, 4] ++ hdL hd (k + 1)) (.slice (some ⟨g1', 0, none⟩) (k + 1) cap1') (kyL (k + 1)) (.slice (some ⟨g2, 0, none⟩) (k + 1) cap2) (vlL (k + 1)) x9) := by
                rw [hdL_succ, hv]
                simpa using HS9'
              clear HS9'
              go_wp2_with fail
              go_roundw
              case rel => exact ⟨k + 1, ps2, by omega, by rw [cH_succ, hv]; rfl, rfl, hps2, HS10, HP2⟩
              case measure => simp only [intOf]; omega
        · have t2 : decide ((k : Int) < (m : Int)) = false := by rw [decide_eq_false_iff_not]; omega
          have hv : hd k = false := by
            rw [HHD.out k, List.getD_eq_getElem?_getD, List.getElem?_eq_none (by have := hR.1; omega)]; rfl
          clear hR hR2
          have HS10 : Hid (GS w1 pk ps2 (wlK (k + 1)) [] (kyL (k + 1)) (ky2 (k + 1)) ([1, 2, 3, 4] ++ hdL hd (k + 1)) (.slice (some ⟨g1', 0, none⟩) (k + 1) cap1') (kyL (k + 1)) (.slice (some ⟨g2, 0, none⟩) (k + 1) cap2) (vlL (k + 1)) x9) := by
            rw [hdL_succ, hv]
            simpa using HS9'
          clear HS9'
          go_wp2_with fail
          go_roundw
          case rel => exact ⟨k + 1, ps2, by omega, by rw [cH_succ, hv]; rfl, rfl, hps2, HS10, HP2⟩
          case measure => simp only [intOf]; omega
    · have hkM : k = M := by omega
      subst hkM
      have t1 : decide ((k : Int) < (k : Int)) = false := by simp
      have hck := cH_le hd k
      obtain ⟨C0, hC0⟩ : ∃ C0 : Int, ((4 + 2 * cH hd k : Nat) : Int) = C0 := ⟨_, rfl⟩
      rw [hC0]
      obtain ⟨CC, hCC⟩ : ∃ CC : Int, ((4 + 2 * cH hd k + 1 : Nat) : Int) = CC := ⟨_, rfl⟩
      have ac : IntKind.i64.wrap (C0 + 1) = CC := by rw [IntWalk.i64_in _ (by omega)]; omega
      have HCC := Lib.hid hCC
      clear hC0 hCC
      have hm1 := Lib.hid (HS.out.make (by omega))
      go_wp2_with fail
      refine hm1.out.mono ?_
      rintro e x1 ⟨y1, hy1, hy2, hy3, he, hs1, hlt1⟩
      rw [hps, show ((5 + 2 * k : Nat) : Int) = kR k from rfl] at he
      obtain rfl := he
      have hwk : Wk pk k (ps ++ [y1]) := ⟨by simp [hps], fun x hx => by
        rcases List.mem_append.1 hx with hx | hx
        · exact HP.out.1 x hx
        · rw [List.mem_singleton.1 hx]; exact ⟨hy1, hy2, hy3⟩, by
        have e1 : (pk.obs (kyL k) (ky2 k) (ps ++ [y1])).map (·.b) = (pk.obs (kyL k) (ky2 k) ps).map (·.b) ++ [y1.b] := by simp [PK.obs]
        rw [e1, List.pairwise_append]
        refine ⟨HP.out.2, List.pairwise_singleton _ _, fun c hc d hd => ?_⟩
        rw [List.mem_singleton.1 hd]
        obtain ⟨y, hy, rfl⟩ := List.mem_map.1 hc
        exact hlt1 y hy, hM10⟩
      have HW := Lib.hid hwk
      have HS1 := Lib.hid hs1
      clear hm1 HS hs1 hwk hy1 hy2 hy3 hlt1 HP hps
      generalize ps ++ [y1] = ps2 at *
      obtain ⟨rk, hrk⟩ : ∃ r, kR k = r := ⟨_, rfl⟩
      rw [hrk]
      have HRV := Lib.hid hrk
      clear hrk
      go_upto_region 27 with fail
      obtain ⟨fv0, q0⟩ := HS1.out.o3
      have y8 : x1.cell? ⟨pk.b3, 6, none⟩ = some (.pointer (some ⟨pk.Ts, 0, none⟩)) := by rw [q0.cell]; rfl
      have l8 := q0.lt
      clear q0
      refine wp_var0 (fun KV HKV => ?_)
      refine wp_region_till (m := 8) (S := (fun W => W.cell? ⟨pk.b3, 6, none⟩ = some (.pointer (some ⟨pk.Ts, 0, none⟩)))) (by as_aux_lemma => kernel_rfl) ?_
      have e4 : x1.drew = x1.drewN 1 := rfl
      rw [e4]
      have S0 : (x1.drewN 1).cell? ⟨pk.b3, 6, none⟩ = some (.pointer (some ⟨pk.Ts, 0, none⟩)) := y8
      have HD := Lib.hid (And.intro (HS1.out.below (below_drw (Below.refl _ _) 1)) (show pk.b3 < (x1.drewN 1).heap.size from l8))
      clear y8 l8 HS1 e4
      generalize x1.drewN 1 = D at *
      change tillH _ _ _ _ _ _ 9 #[false, false, false, false, false, false, false, false, false] _ _
      refine tillH_takeAny (i := 0) (oi := ?oo7) (v := ?vv7) ?hi7 (by as_aux_lemma => kernel_rfl) (by as_aux_lemma => kernel_rfl) (by as_aux_lemma => kernel_rfl) ?hq7 (by as_aux_lemma => kernel_rfl) ?hy7 (fun _ => S0) ?hh7
      case hi7 => (simp only [List.getElem?_toArray, List.getElem?_cons_succ, List.getElem?_cons_zero]; rfl)
      case hq7 => exact fun _ _ _ h => h
      case hy7 => exact Or.inl ⟨by rfl, by (intro W; go_simp; (try with_reducible rfl))⟩
      (try simp only [Act.put, List.setIfInBounds_toArray, List.set_cons_zero, List.set_cons_succ])
      refine tillH_takeAny (i := 1) (oi := ?oo8) (v := ?vv8) ?hi8 (by as_aux_lemma => kernel_rfl) (by as_aux_lemma => kernel_rfl) (by as_aux_lemma => kernel_rfl) ?hq8 (by as_aux_lemma => kernel_rfl) ?hy8 (fun _ => S0) ?hh8
      case hi8 => (simp only [List.getElem?_toArray, List.getElem?_cons_succ, List.getElem?_cons_zero]; rfl)
      case hq8 => exact fun _ _ _ h => h
      case hy8 => exact Or.inl ⟨by rfl, by (intro W; go_simp; (try with_reducible rfl))⟩
      (try simp only [Act.put, List.setIfInBounds_toArray, List.set_cons_zero, List.set_cons_succ])
      refine tillH_takeAny (i := 2) (oi := ?oo9) (v := ?vv9) ?hi9 (by as_aux_lemma => kernel_rfl) (by as_aux_lemma => kernel_rfl) (by as_aux_lemma => kernel_rfl) ?hq9 (by as_aux_lemma => kernel_rfl) ?hy9 (fun _ => S0) ?hh9
      case hi9 => (simp only [List.getElem?_toArray, List.getElem?_cons_succ, List.getElem?_cons_zero]; rfl)
      case hq9 => exact fun _ _ _ h => h
      case hy9 => exact Or.inl ⟨by rfl, by (intro W; go_simp; (try with_reducible rfl))⟩
      (try simp only [Act.put, List.setIfInBounds_toArray, List.set_cons_zero, List.set_cons_succ])
      refine tillH_take (i := 3) (oi := ?oo10) (v := ?vv10) ?hi10 (by as_aux_lemma => kernel_rfl) (by as_aux_lemma => kernel_rfl) (by as_aux_lemma => kernel_rfl) ?hq10 (by as_aux_lemma => kernel_rfl) (by as_aux_lemma => kernel_rfl) (by as_aux_lemma => kernel_rfl) ?hy10 S0 ?hh10
      case hi10 => (simp only [List.getElem?_toArray, List.getElem?_cons_succ, List.getElem?_cons_zero]; rfl)
      case hq10 => exact fun _ _ _ h => h
      case hy10 => exact Or.inl ⟨by rfl, by (intro W hSw; (try obtain s0 := hSw); go_simp; (try with_reducible rfl))⟩
      (try simp only [Act.put, List.setIfInBounds_toArray, List.set_cons_zero, List.set_cons_succ])
      refine tillH_takeAny (i := 4) (oi := ?oo11) (v := ?vv11) ?hi11 (by as_aux_lemma => kernel_rfl) (by as_aux_lemma => kernel_rfl) (by as_aux_lemma => kernel_rfl) ?hq11 (by as_aux_lemma => kernel_rfl) ?hy11 (fun _ => S0) ?hh11
      case hi11 => (simp only [List.getElem?_toArray, List.getElem?_cons_succ, List.getElem?_cons_zero]; rfl)
      case hq11 => exact fun _ _ _ h => h
      case hy11 => exact Or.inl ⟨by rfl, by (intro W; go_simp; (try with_reducible rfl))⟩
      (try simp only [Act.put, List.setIfInBounds_toArray, List.set_cons_zero, List.set_cons_succ])
      refine tillH_takeAny (i := 6) (oi := ?oo12) (v := ?vv12) ?hi12 (by as_aux_lemma => kernel_rfl) (by as_aux_lemma => kernel_rfl) (by as_aux_lemma => kernel_rfl) ?hq12 (by as_aux_lemma => kernel_rfl) ?hy12 (fun _ => S0) ?hh12
      case hi12 => (simp only [List.getElem?_toArray, List.getElem?_cons_succ, List.getElem?_cons_zero]; rfl)
      case hq12 => exact fun _ _ _ h => h
      case hy12 => exact Or.inl ⟨by rfl, by (intro W; go_simp; (try with_reducible rfl))⟩
      (try simp only [Act.put, List.setIfInBounds_toArray, List.set_cons_zero, List.set_cons_succ])
      refine tillH_next (rs := [5]) (by as_aux_lemma => kernel_rfl) (by simp) ?_
      refine NextH.cons rfl (fun K hK => ?_) NextH.nil
      go_simp
      refine (vobj_any _ _).mono ?_
      rintro e E ⟨rfl, b5⟩
      have S2 : E.cell? ⟨pk.b3, 6, none⟩ = some (.pointer (some ⟨pk.Ts, 0, none⟩)) := (b5.cell (p := ⟨pk.b3, 6, none⟩) HD.out.2).trans S0
      have HE := Lib.hid (And.intro (HD.out.1.below b5) (Nat.lt_of_lt_of_le HD.out.2 b5.size))
      clear HD S0 b5
      refine hK.out _ _ (fun _ => S2) ?_
      clear hK K
      (try simp only [Act.put, List.setIfInBounds_toArray, List.set_cons_zero, List.set_cons_succ])
      refine tillH_next (rs := [7]) (by as_aux_lemma => kernel_rfl) (by simp) ?_
      refine NextH.cons rfl (fun K hK => ?_) NextH.nil
      go_simp
      refine (vobj_any _ _).mono ?_
      rintro e E2 ⟨rfl, b5⟩
      have S3 : E2.cell? ⟨pk.b3, 6, none⟩ = some (.pointer (some ⟨pk.Ts, 0, none⟩)) := (b5.cell (p := ⟨pk.b3, 6, none⟩) HE.out.2).trans S2
      have HE2 := Lib.hid (HE.out.1.below b5)
      clear HE S2 b5
      refine hK.out _ _ (fun _ => S3) ?_
      clear hK K
      (try simp only [Act.put, List.setIfInBounds_toArray, List.set_cons_zero, List.set_cons_succ])
      refine tillH_next (rs := [8]) (by as_aux_lemma => kernel_rfl) (by simp) ?_
      refine NextH.cons rfl (fun K hK => ?_) NextH.nil
      go_simp
      refine (HE2.out.putTabl (k3 rk) (k3 rk) 0 (by show (0 : Nat) ≤ 4000; decide) (by show (0 : Nat) ≤ 4000; decide)).mono ?_
      rintro e x5 ⟨rfl, hs5⟩
      rw [show putA (k3 rk) (k3 rk) 0 [] = [xE k] by rw [← HRV.out]; rfl] at hs5
      have HS5 := Lib.hid hs5
      clear hs5 HE2 S3
      refine hK.out _ _ (fun h => absurd h (by simp)) ?_
      clear hK K
      (try simp only [Act.put, List.setIfInBounds_toArray, List.set_cons_zero, List.set_cons_succ])
      refine tillH_done (by as_aux_lemma => kernel_rfl) ?_ _
      refine HKV.out _ _ ?_
      have y0 : x5.cell? ⟨pk.H, 0, none⟩ = some (.pointer (some ⟨pk.A, 0, none⟩)) := by rw [HS5.out.hb.cell]; rfl
      have y9 := HS5.out.hb.lt
      go_wp2_with fail
      refine (HS5.out.collect HW.out).mono ?_
      rintro e x6 ⟨⟨_, rfl⟩, s, HA0⟩
      clear HS5 HW y0 y9
      have y0 : x6.cell? ⟨pk.H, 0, none⟩ = some (.pointer (some ⟨pk.A, 0, none⟩)) := by rw [HA0.out.hb.cell]; rfl
      have y9 := HA0.out.hb.lt
      have hct := HA0.out.count
      have hx := HA0.out.x
      obtain ⟨bx, hx⟩ := hx
      rw [HRV.out] at hx
      have HOX := Lib.hid hx
      rw [HCC.out] at hct
      have HCT := Lib.hid hct
      clear hct hx HCC
      go_wp2_with fail
      refine HCT.out.mono ?_
      rintro e x7 ⟨rfl, rfl⟩
      go_wp2_with fail
      refine (HA0.out.obj rk).mono ?_
      rintro e x7 ⟨rfl, b7⟩
      rw [HOX.out]
      have HA1 := Lib.hid (HA0.out.below b7)
      clear HA0 b7 y0 y9 HOX HCT
      obtain ⟨ra, rcap, e14, hra⟩ := own_shape HA1.out.refs.1
      obtain ⟨va, vcap, e15, hva⟩ := own_shape HA1.out.refs.2
      obtain ⟨gr, rfl⟩ := hra (by omega)
      obtain ⟨gv, rfl⟩ := hva (by omega)
      subst e14
      subst e15
      clear hra hva
      go_wp2_with fail
      go_loopw [182] (fun v wr => ∃ i : Nat, i ≤ k ∧ v = .int .i64 (i : Int) ∧ Hid (AS w1 pk hd k (.slice (some ⟨gr, 0, none⟩) k rcap) (.slice (some ⟨gv, 0, none⟩) k vcap) s wr)) (fun v _ => k - (intOf v).toNat)
      case atStart => exact ⟨0, Nat.zero_le _, rfl, HA1⟩
      case round =>
        obtain ⟨i, hi, rfl, HA⟩ := hrel
        clear HA1
        by_cases hlt : i < k
        · have t1 : decide ((i : Int) < (k : Int)) = true := by rw [decide_eq_true_eq]; omega
          have ak : IntKind.i64.wrap ((i : Int) + 1) = ((i + 1 : Nat) : Int) := by rw [IntWalk.i64_in _ (by omega)]; rfl
          go_upto_region 35 with fail
          go_cut [25] (fun s25 wx => s25 = .bool (hd i) ∧ wr = wx)
          case first =>
            have hR := (HR.out.below bB).below HA.out.ss.bel
            have hR2 := hR.2
            by_cases hkm : i < m
            · have t2 : decide ((i : Int) < (m : Int)) = true := by rw [decide_eq_true_eq]; omega
              obtain ⟨ab, off, rfl, lab, hcell⟩ := hR2 (by omega)
              have z0 : (0 : Int) ≤ (i : Int) := by omega
              have z1 : (i : Int) < (m : Int) := by omega
              have zc := hcell i hkm
              rw [← HHD.out i] at zc
              clear hR hR2 hcell
              go_wp2_with fail
              go_meet
              exact ⟨rfl, rfl⟩
            · have t2 : decide ((i : Int) < (m : Int)) = false := by rw [decide_eq_false_iff_not]; omega
              have hv : hd i = false := by
                rw [HHD.out i, List.getD_eq_getElem?_getD, List.getElem?_eq_none (by have := hR.1; omega)]; rfl
              clear hR hR2
              go_wp2_with fail
              go_meet
              exact ⟨by rw [hv], rfl⟩
          case rest =>
          obtain ⟨rfl, rfl⟩ := hcut
          have z0 : (0 : Int) ≤ (i : Int) := by omega
          have z1 : (i : Int) < (k : Int) := by omega
          have z2 : (i : Int).toNat = i := by omega
          go_upto_region 36 with fail
          go_cut [26, 27, 28] (fun s26 s27 s28 wx => s28 = .bool (hd i) ∧ Hid (AS w1 pk hd k (.slice (some ⟨gr, 0, none⟩) k rcap) (.slice (some ⟨gv, 0, none⟩) k vcap) s wx))
          case first =>
            as_aux_lemma =>
              refine wp_var0 (fun KV HKV => ?_)
              refine wp_region_till (m := 9) (S := (fun W => W.cell? ⟨pk.b0, 8, none⟩ = some (.pointer (some ⟨pk.Tw, 0, none⟩)) ∧ W.cell? ⟨gr, i, none⟩ = some (.int .i64 (kR i)))) (by as_aux_lemma => kernel_rfl) ?_
              have e4 : wr.drew = wr.drewN 1 := rfl
              rw [e4]
              have HT0 := Lib.hid (And.intro (HA.out.below (below_drw (Below.refl _ _) 1)) (below_drw (Below.refl wr.heap.size wr) 1))
              clear e4
              generalize wr.drewN 1 = D at *
              have S0 := HT0.out.1.s36 i hlt
              change tillH _ _ _ _ _ _ 18 #[false, false, false, false, false, false, false, false, false, false, false, false, false, false, false, false, false, false] _ _
              refine tillH_takeAny (i := 0) (oi := ?oo13) (v := ?vv13) ?hi13 (by as_aux_lemma => kernel_rfl) (by as_aux_lemma => kernel_rfl) (by as_aux_lemma => kernel_rfl) ?hq13 (by as_aux_lemma => kernel_rfl) ?hy13 (fun _ => S0) ?hh13
              case hi13 => (simp only [List.getElem?_toArray, List.getElem?_cons_succ, List.getElem?_cons_zero]; rfl)
              case hq13 => exact fun _ _ _ h => h
              case hy13 => exact Or.inl ⟨by rfl, by (intro W; go_simp; (try with_reducible rfl))⟩
              (try simp only [Act.put, List.setIfInBounds_toArray, List.set_cons_zero, List.set_cons_succ])
              refine tillH_takeAny (i := 1) (oi := ?oo14) (v := ?vv14) ?hi14 (by as_aux_lemma => kernel_rfl) (by as_aux_lemma => kernel_rfl) (by as_aux_lemma => kernel_rfl) ?hq14 (by as_aux_lemma => kernel_rfl) ?hy14 (fun _ => S0) ?hh14
              case hi14 => (simp only [List.getElem?_toArray, List.getElem?_cons_succ, List.getElem?_cons_zero]; rfl)
              case hq14 => exact fun _ _ _ h => h
              case hy14 => exact Or.inl ⟨by rfl, by (intro W; go_simp; (try with_reducible rfl))⟩
              (try simp only [Act.put, List.setIfInBounds_toArray, List.set_cons_zero, List.set_cons_succ])
              refine tillH_takeAny (i := 2) (oi := ?oo15) (v := ?vv15) ?hi15 (by as_aux_lemma => kernel_rfl) (by as_aux_lemma => kernel_rfl) (by as_aux_lemma => kernel_rfl) ?hq15 (by as_aux_lemma => kernel_rfl) ?hy15 (fun _ => S0) ?hh15
              case hi15 => (simp only [List.getElem?_toArray, List.getElem?_cons_succ, List.getElem?_cons_zero]; rfl)
              case hq15 => exact fun _ _ _ h => h
              case hy15 => exact Or.inl ⟨by rfl, by (intro W; go_simp; (try with_reducible rfl))⟩
              (try simp only [Act.put, List.setIfInBounds_toArray, List.set_cons_zero, List.set_cons_succ])
              refine tillH_take (i := 3) (oi := ?oo16) (v := ?vv16) ?hi16 (by as_aux_lemma => kernel_rfl) (by as_aux_lemma => kernel_rfl) (by as_aux_lemma => kernel_rfl) ?hq16 (by as_aux_lemma => kernel_rfl) (by as_aux_lemma => kernel_rfl) (by as_aux_lemma => kernel_rfl) ?hy16 S0 ?hh16
              case hi16 => (simp only [List.getElem?_toArray, List.getElem?_cons_succ, List.getElem?_cons_zero]; rfl)
              case hq16 => exact fun _ _ _ h => h
              case hy16 => exact Or.inl ⟨by rfl, by (intro W hSw; (try obtain ⟨s0, s1⟩ := hSw); go_simp; (try with_reducible rfl))⟩
              (try simp only [Act.put, List.setIfInBounds_toArray, List.set_cons_zero, List.set_cons_succ])
              refine tillH_takeAny (i := 4) (oi := ?oo17) (v := ?vv17) ?hi17 (by as_aux_lemma => kernel_rfl) (by as_aux_lemma => kernel_rfl) (by as_aux_lemma => kernel_rfl) ?hq17 (by as_aux_lemma => kernel_rfl) ?hy17 (fun _ => S0) ?hh17
              case hi17 => (simp only [List.getElem?_toArray, List.getElem?_cons_succ, List.getElem?_cons_zero]; rfl)
              case hq17 => exact fun _ _ _ h => h
              case hy17 => exact Or.inl ⟨by rfl, by (intro W; go_simp; (try with_reducible rfl))⟩
              (try simp only [Act.put, List.setIfInBounds_toArray, List.set_cons_zero, List.set_cons_succ])
              refine tillH_takeAny (i := 5) (oi := ?oo18) (v := ?vv18) ?hi18 (by as_aux_lemma => kernel_rfl) (by as_aux_lemma => kernel_rfl) (by as_aux_lemma => kernel_rfl) ?hq18 (by as_aux_lemma => kernel_rfl) ?hy18 (fun _ => S0) ?hh18
              case hi18 => (simp only [List.getElem?_toArray, List.getElem?_cons_succ, List.getElem?_cons_zero]; rfl)
              case hq18 => exact fun _ _ _ h => h
              case hy18 => exact Or.inl ⟨by rfl, by (intro W; go_simp; (try with_reducible rfl))⟩
              (try simp only [Act.put, List.setIfInBounds_toArray, List.set_cons_zero, List.set_cons_succ])
              refine tillH_takeAny (i := 6) (oi := ?oo19) (v := ?vv19) ?hi19 (by as_aux_lemma => kernel_rfl) (by as_aux_lemma => kernel_rfl) (by as_aux_lemma => kernel_rfl) ?hq19 (by as_aux_lemma => kernel_rfl) ?hy19 (fun _ => S0) ?hh19
              case hi19 => (simp only [List.getElem?_toArray, List.getElem?_cons_succ, List.getElem?_cons_zero]; rfl)
              case hq19 => exact fun _ _ _ h => h
              case hy19 => exact Or.inl ⟨by rfl, by (intro W; go_simp; (try with_reducible rfl))⟩
              (try simp only [Act.put, List.setIfInBounds_toArray, List.set_cons_zero, List.set_cons_succ])
              refine tillH_takeC [8] (i := 7) (oi := ?oo20) (v := ?vv20) ?hi20 (by as_aux_lemma => kernel_rfl) (by as_aux_lemma => kernel_rfl) (by as_aux_lemma => kernel_rfl) ?hq20 (by as_aux_lemma => kernel_rfl) (by as_aux_lemma => kernel_rfl) (by as_aux_lemma => kernel_rfl) ?hy20 S0 ?hh20
              case hi20 => (simp only [List.getElem?_toArray, List.getElem?_cons_succ, List.getElem?_cons_zero]; rfl)
              case hq20 => exact fun _ _ _ h => h
              case hy20 => exact Or.inl ⟨by rfl, by (intro W hSw; (try obtain ⟨s0, s1⟩ := hSw); go_simp; (try with_reducible rfl))⟩
              (try simp only [Act.put, List.setIfInBounds_toArray, List.set_cons_zero, List.set_cons_succ])
              refine tillH_next (rs := [8, 14]) (by as_aux_lemma => kernel_rfl) (by simp) ?_
              refine NextH.cons rfl (fun K hK => ?c1_0) (NextH.cons rfl (fun K hK => ?c1_1) NextH.nil)
              case c1_0 =>
                go_simp
                refine (vobj_any _ _).mono ?_
                rintro e E8 ⟨rfl, b5⟩
                have HT1 := Lib.hid (And.intro (HT0.out.1.below b5) (HT0.out.2.trans (b5.mono HT0.out.2.size)))
                have S1 := HT1.out.1.s36 i hlt
                clear HT0 S0 b5
                refine hK.out _ _ (fun _ => S1) ?_
                clear hK K
                (try simp only [Act.put, List.setIfInBounds_toArray, List.set_cons_zero, List.set_cons_succ])
                have HT0 := HT1
                have S0 := S1
                clear HT1 S1
                refine tillH_next (rs := [9, 14]) (by as_aux_lemma => kernel_rfl) (by simp) ?_
                refine NextH.cons rfl (fun K hK => ?c2_0) (NextH.cons rfl (fun K hK => ?c2_1) NextH.nil)
                case c2_0 =>
                  go_simp
                  refine (HT0.out.1.get i hlt).mono ?_
                  rintro e E9 ⟨b5, ⟨vk, vn, vs⟩, f, rfl⟩
                  have HT1 := Lib.hid (And.intro (HT0.out.1.below b5) (HT0.out.2.trans (b5.mono HT0.out.2.size)))
                  clear HT0 S0 b5
                  refine hK.out _ _ (fun h => absurd h (by simp)) ?_
                  clear hK K
                  (try simp only [Act.put, List.setIfInBounds_toArray, List.set_cons_zero, List.set_cons_succ])
                  refine tillH_takeAny (i := 10) (oi := ?oo21) (v := ?vv21) ?hi21 (by as_aux_lemma => kernel_rfl) (by as_aux_lemma => kernel_rfl) (by as_aux_lemma => kernel_rfl) ?hq21 (by as_aux_lemma => kernel_rfl) ?hy21 (fun h => absurd h (by simp)) ?hh21
                  case hi21 => (simp only [List.getElem?_toArray, List.getElem?_cons_succ, List.getElem?_cons_zero]; rfl)
                  case hq21 => exact fun _ _ _ h => h
                  case hy21 => exact Or.inl ⟨by rfl, by (intro W; go_simp; (try with_reducible rfl))⟩
                  (try simp only [Act.put, List.setIfInBounds_toArray, List.set_cons_zero, List.set_cons_succ])
                  refine tillH_takeAny (i := 11) (oi := ?oo22) (v := ?vv22) ?hi22 (by as_aux_lemma => kernel_rfl) (by as_aux_lemma => kernel_rfl) (by as_aux_lemma => kernel_rfl) ?hq22 (by as_aux_lemma => kernel_rfl) ?hy22 (fun h => absurd h (by simp)) ?hh22
                  case hi22 => (simp only [List.getElem?_toArray, List.getElem?_cons_succ, List.getElem?_cons_zero]; rfl)
                  case hq22 => exact fun _ _ _ h => h
                  case hy22 => exact Or.inl ⟨by rfl, by (intro W; go_simp; (try with_reducible rfl))⟩
                  (try simp only [Act.put, List.setIfInBounds_toArray, List.set_cons_zero, List.set_cons_succ])
                  refine tillH_takeAny (i := 12) (oi := ?oo23) (v := ?vv23) ?hi23 (by as_aux_lemma => kernel_rfl) (by as_aux_lemma => kernel_rfl) (by as_aux_lemma => kernel_rfl) ?hq23 (by as_aux_lemma => kernel_rfl) ?hy23 (fun h => absurd h (by simp)) ?hh23
                  case hi23 => (simp only [List.getElem?_toArray, List.getElem?_cons_succ, List.getElem?_cons_zero]; rfl)
                  case hq23 => exact fun _ _ _ h => h
                  case hy23 => exact Or.inl ⟨by rfl, by (intro W; go_simp; (try with_reducible rfl))⟩
                  (try simp only [Act.put, List.setIfInBounds_toArray, List.set_cons_zero, List.set_cons_succ])
                  refine tillH_takeAny (i := 13) (oi := ?oo24) (v := ?vv24) ?hi24 (by as_aux_lemma => kernel_rfl) (by as_aux_lemma => kernel_rfl) (by as_aux_lemma => kernel_rfl) ?hq24 (by as_aux_lemma => kernel_rfl) ?hy24 (fun h => absurd h (by simp)) ?hh24
                  case hi24 => (simp only [List.getElem?_toArray, List.getElem?_cons_succ, List.getElem?_cons_zero]; rfl)
                  case hq24 => exact fun _ _ _ h => h
                  case hy24 => exact Or.inl ⟨by rfl, by (intro W; go_simp; (try with_reducible rfl))⟩
                  (try simp only [Act.put, List.setIfInBounds_toArray, List.set_cons_zero, List.set_cons_succ])
                  have HT0 := HT1
                  have S0 : True := trivial
                  clear HT1
                  refine tillH_next (rs := [14]) (by as_aux_lemma => kernel_rfl) (by simp) ?_
                  refine NextH.cons rfl (fun K hK => ?c3_0) NextH.nil
                  case c3_0 =>
                    go_simp
                    have hT := And.intro (HT0.out.1.below ((Below.refl E9.heap.size E9).alloc (Nat.le_refl _) (.cells #[.int .i64 0, .int .i64 0, .string ⟨#[]⟩] 34))) (And.intro (HT0.out.2.trans (((Below.refl E9.heap.size E9).alloc (Nat.le_refl _) (.cells #[.int .i64 0, .int .i64 0, .string ⟨#[]⟩] 34)).mono HT0.out.2.size)) (And.intro (Blk.new E9 34 #[.int .i64 0, .int .i64 0, .string ⟨#[]⟩]) HT0.out.2.size))
                    have HT1 := Lib.hid hT
                    clear hT HT0 S0
                    refine hK.out _ _ (fun h => absurd h (by simp)) ?_
                    clear hK K
                    (try simp only [Act.put, List.setIfInBounds_toArray, List.set_cons_zero, List.set_cons_succ])
                    generalize E9.alloc (.cells #[.int .i64 0, .int .i64 0, .string ⟨#[]⟩] 34) = E14 at *
                    generalize E9.heap.size = bx at *
                    have HT0 := HT1
                    have S0 : True := trivial
                    clear HT1
                    obtain ⟨hAS, hbel, hblk, hge⟩ := HT0.out
                    have y0 := (hblk.cell 0).trans (show (#[Value.int .i64 0, .int .i64 0, .string ⟨#[]⟩] : Array Value)[0]? = some (.int .i64 0) from rfl)
                    have y1 := (hblk.cell 1).trans (show (#[Value.int .i64 0, .int .i64 0, .string ⟨#[]⟩] : Array Value)[1]? = some (.int .i64 0) from rfl)
                    have y2 := (hblk.cell 2).trans (show (#[Value.int .i64 0, .int .i64 0, .string ⟨#[]⟩] : Array Value)[2]? = some (.string ⟨#[]⟩) from rfl)
                    have w0 := hblk.frozen 0
                    have w3 := hblk.frozen 1
                    have w4 := hblk.frozen 2
                    have lr := hblk.lt
                    have HX := Lib.hid (fun x y z => HA.out.box hbel hge x y z)
                    clear hAS hbel hblk hge HT0 S0
                    refine tillH_next (rs := [15]) (by as_aux_lemma => kernel_rfl) (by simp) ?_
                    refine NextH.cons rfl (fun K hK => ?_) NextH.nil
                    go_simp
                    refine hK.out _ _ (fun h => absurd h (by simp)) ?_
                    clear hK K
                    (try simp only [Act.put, List.setIfInBounds_toArray, List.set_cons_zero, List.set_cons_succ])
                    refine tillH_takeAny (i := 16) (oi := ?oo25) (v := ?vv25) ?hi25 (by as_aux_lemma => kernel_rfl) (by as_aux_lemma => kernel_rfl) (by as_aux_lemma => kernel_rfl) ?hq25 (by as_aux_lemma => kernel_rfl) ?hy25 (fun h => absurd h (by simp)) ?hh25
                    case hi25 => (simp only [List.getElem?_toArray, List.getElem?_cons_succ, List.getElem?_cons_zero]; rfl)
                    case hq25 => exact fun _ _ _ h => h
                    case hy25 => exact Or.inl ⟨by rfl, by (intro W; go_simp; (try with_reducible rfl))⟩
                    (try simp only [Act.put, List.setIfInBounds_toArray, List.set_cons_zero, List.set_cons_succ])
                    refine tillH_takeAny (i := 17) (oi := ?oo26) (v := ?vv26) ?hi26 (by as_aux_lemma => kernel_rfl) (by as_aux_lemma => kernel_rfl) (by as_aux_lemma => kernel_rfl) ?hq26 (by as_aux_lemma => kernel_rfl) ?hy26 (fun h => absurd h (by simp)) ?hh26
                    case hi26 => (simp only [List.getElem?_toArray, List.getElem?_cons_succ, List.getElem?_cons_zero]; rfl)
                    case hq26 => exact fun _ _ _ h => h
                    case hy26 => exact Or.inl ⟨by rfl, by (intro W; go_simp; (try with_reducible rfl))⟩
                    (try simp only [Act.put, List.setIfInBounds_toArray, List.set_cons_zero, List.set_cons_succ])
                    refine tillH_done (by as_aux_lemma => kernel_rfl) ?_ _
                    refine HKV.out _ _ ?_
                    have HA2 := Lib.hid (HX.out (.int .i64 vk) (.int .i64 vn) (.string vs))
                    clear HX y0 y1 y2 w0 w3 w4 lr HA
                    go_wp2_with fail
                    go_meet
                    exact ⟨rfl, HA2⟩
                case c2_1 =>
                  go_simp
                  have hT := And.intro (HT0.out.1.below ((Below.refl E8.heap.size E8).alloc (Nat.le_refl _) (.cells #[.int .i64 0, .int .i64 0, .string ⟨#[]⟩] 34))) (And.intro (HT0.out.2.trans (((Below.refl E8.heap.size E8).alloc (Nat.le_refl _) (.cells #[.int .i64 0, .int .i64 0, .string ⟨#[]⟩] 34)).mono HT0.out.2.size)) (And.intro (Blk.new E8 34 #[.int .i64 0, .int .i64 0, .string ⟨#[]⟩]) HT0.out.2.size))
                  have HT1 := Lib.hid hT
                  clear hT HT0 S0
                  have S1 := HT1.out.1.s36 i hlt
                  refine hK.out _ _ (fun _ => S1) ?_
                  clear hK K
                  (try simp only [Act.put, List.setIfInBounds_toArray, List.set_cons_zero, List.set_cons_succ])
                  generalize E8.alloc (.cells #[.int .i64 0, .int .i64 0, .string ⟨#[]⟩] 34) = E14 at *
                  generalize E8.heap.size = bx at *
                  have HT0 := HT1
                  have S0 := S1
                  clear S1
                  clear HT1
                  refine tillH_next (rs := [9]) (by as_aux_lemma => kernel_rfl) (by simp) ?_
                  refine NextH.cons rfl (fun K hK => ?c4_0) NextH.nil
                  case c4_0 =>
                    go_simp
                    refine (HT0.out.1.get i hlt).mono ?_
                    rintro e E9 ⟨b5, ⟨vk, vn, vs⟩, f, rfl⟩
                    have HT1 := Lib.hid (And.intro (HT0.out.1.below b5) (And.intro (HT0.out.2.1.trans (b5.mono HT0.out.2.1.size)) (And.intro (HT0.out.2.2.1.below b5 HT0.out.2.2.1.lt) HT0.out.2.2.2)))
                    clear HT0 S0 b5
                    refine hK.out _ _ (fun h => absurd h (by simp)) ?_
                    clear hK K
                    (try simp only [Act.put, List.setIfInBounds_toArray, List.set_cons_zero, List.set_cons_succ])
                    refine tillH_takeAny (i := 10) (oi := ?oo27) (v := ?vv27) ?hi27 (by as_aux_lemma => kernel_rfl) (by as_aux_lemma => kernel_rfl) (by as_aux_lemma => kernel_rfl) ?hq27 (by as_aux_lemma => kernel_rfl) ?hy27 (fun h => absurd h (by simp)) ?hh27
                    case hi27 => (simp only [List.getElem?_toArray, List.getElem?_cons_succ, List.getElem?_cons_zero]; rfl)
                    case hq27 => exact fun _ _ _ h => h
                    case hy27 => exact Or.inl ⟨by rfl, by (intro W; go_simp; (try with_reducible rfl))⟩
                    (try simp only [Act.put, List.setIfInBounds_toArray, List.set_cons_zero, List.set_cons_succ])
                    refine tillH_takeAny (i := 11) (oi := ?oo28) (v := ?vv28) ?hi28 (by as_aux_lemma => kernel_rfl) (by as_aux_lemma => kernel_rfl) (by as_aux_lemma => kernel_rfl) ?hq28 (by as_aux_lemma => kernel_rfl) ?hy28 (fun h => absurd h (by simp)) ?hh28
                    case hi28 => (simp only [List.getElem?_toArray, List.getElem?_cons_succ, List.getElem?_cons_zero]; rfl)
                    case hq28 => exact fun _ _ _ h => h
                    case hy28 => exact Or.inl ⟨by rfl, by (intro W; go_simp; (try with_reducible rfl))⟩
                    (try simp only [Act.put, List.setIfInBounds_toArray, List.set_cons_zero, List.set_cons_succ])
                    refine tillH_takeAny (i := 12) (oi := ?oo29) (v := ?vv29) ?hi29 (by as_aux_lemma => kernel_rfl) (by as_aux_lemma => kernel_rfl) (by as_aux_lemma => kernel_rfl) ?hq29 (by as_aux_lemma => kernel_rfl) ?hy29 (fun h => absurd h (by simp)) ?hh29
                    case hi29 => (simp only [List.getElem?_toArray, List.getElem?_cons_succ, List.getElem?_cons_zero]; rfl)
                    case hq29 => exact fun _ _ _ h => h
                    case hy29 => exact Or.inl ⟨by rfl, by (intro W; go_simp; (try with_reducible rfl))⟩
                    (try simp only [Act.put, List.setIfInBounds_toArray, List.set_cons_zero, List.set_cons_succ])
                    refine tillH_takeAny (i := 13) (oi := ?oo30) (v := ?vv30) ?hi30 (by as_aux_lemma => kernel_rfl) (by as_aux_lemma => kernel_rfl) (by as_aux_lemma => kernel_rfl) ?hq30 (by as_aux_lemma => kernel_rfl) ?hy30 (fun h => absurd h (by simp)) ?hh30
                    case hi30 => (simp only [List.getElem?_toArray, List.getElem?_cons_succ, List.getElem?_cons_zero]; rfl)
                    case hq30 => exact fun _ _ _ h => h
                    case hy30 => exact Or.inl ⟨by rfl, by (intro W; go_simp; (try with_reducible rfl))⟩
                    (try simp only [Act.put, List.setIfInBounds_toArray, List.set_cons_zero, List.set_cons_succ])
                    have HT0 := HT1
                    have S0 : True := trivial
                    clear HT1
                    obtain ⟨hAS, hbel, hblk, hge⟩ := HT0.out
                    have y0 := (hblk.cell 0).trans (show (#[Value.int .i64 0, .int .i64 0, .string ⟨#[]⟩] : Array Value)[0]? = some (.int .i64 0) from rfl)
                    have y1 := (hblk.cell 1).trans (show (#[Value.int .i64 0, .int .i64 0, .string ⟨#[]⟩] : Array Value)[1]? = some (.int .i64 0) from rfl)
                    have y2 := (hblk.cell 2).trans (show (#[Value.int .i64 0, .int .i64 0, .string ⟨#[]⟩] : Array Value)[2]? = some (.string ⟨#[]⟩) from rfl)
                    have w0 := hblk.frozen 0
                    have w3 := hblk.frozen 1
                    have w4 := hblk.frozen 2
                    have lr := hblk.lt
                    have HX := Lib.hid (fun x y z => HA.out.box hbel hge x y z)
                    clear hAS hbel hblk hge HT0 S0
                    refine tillH_next (rs := [15]) (by as_aux_lemma => kernel_rfl) (by simp) ?_
                    refine NextH.cons rfl (fun K hK => ?_) NextH.nil
                    go_simp
                    refine hK.out _ _ (fun h => absurd h (by simp)) ?_
                    clear hK K
                    (try simp only [Act.put, List.setIfInBounds_toArray, List.set_cons_zero, List.set_cons_succ])
                    refine tillH_takeAny (i := 16) (oi := ?oo31) (v := ?vv31) ?hi31 (by as_aux_lemma => kernel_rfl) (by as_aux_lemma => kernel_rfl) (by as_aux_lemma => kernel_rfl) ?hq31 (by as_aux_lemma => kernel_rfl) ?hy31 (fun h => absurd h (by simp)) ?hh31
                    case hi31 => (simp only [List.getElem?_toArray, List.getElem?_cons_succ, List.getElem?_cons_zero]; rfl)
                    case hq31 => exact fun _ _ _ h => h
                    case hy31 => exact Or.inl ⟨by rfl, by (intro W; go_simp; (try with_reducible rfl))⟩
                    (try simp only [Act.put, List.setIfInBounds_toArray, List.set_cons_zero, List.set_cons_succ])
                    refine tillH_takeAny (i := 17) (oi := ?oo32) (v := ?vv32) ?hi32 (by as_aux_lemma => kernel_rfl) (by as_aux_lemma => kernel_rfl) (by as_aux_lemma => kernel_rfl) ?hq32 (by as_aux_lemma => kernel_rfl) ?hy32 (fun h => absurd h (by simp)) ?hh32
                    case hi32 => (simp only [List.getElem?_toArray, List.getElem?_cons_succ, List.getElem?_cons_zero]; rfl)
                    case hq32 => exact fun _ _ _ h => h
                    case hy32 => exact Or.inl ⟨by rfl, by (intro W; go_simp; (try with_reducible rfl))⟩
                    (try simp only [Act.put, List.setIfInBounds_toArray, List.set_cons_zero, List.set_cons_succ])
                    refine tillH_done (by as_aux_lemma => kernel_rfl) ?_ _
                    refine HKV.out _ _ ?_
                    have HA2 := Lib.hid (HX.out (.int .i64 vk) (.int .i64 vn) (.string vs))
                    clear HX y0 y1 y2 w0 w3 w4 lr HA
                    go_wp2_with fail
                    go_meet
                    exact ⟨rfl, HA2⟩
              case c1_1 =>
                go_simp
                have hT := And.intro (HT0.out.1.below ((Below.refl D.heap.size D).alloc (Nat.le_refl _) (.cells #[.int .i64 0, .int .i64 0, .string ⟨#[]⟩] 34))) (And.intro (HT0.out.2.trans (((Below.refl D.heap.size D).alloc (Nat.le_refl _) (.cells #[.int .i64 0, .int .i64 0, .string ⟨#[]⟩] 34)).mono HT0.out.2.size)) (And.intro (Blk.new D 34 #[.int .i64 0, .int .i64 0, .string ⟨#[]⟩]) HT0.out.2.size))
                have HT1 := Lib.hid hT
                clear hT HT0 S0
                have S1 := HT1.out.1.s36 i hlt
                refine hK.out _ _ (fun _ => S1) ?_
                clear hK K
                (try simp only [Act.put, List.setIfInBounds_toArray, List.set_cons_zero, List.set_cons_succ])
                generalize D.alloc (.cells #[.int .i64 0, .int .i64 0, .string ⟨#[]⟩] 34) = E14 at *
                generalize D.heap.size = bx at *
                have HT0 := HT1
                have S0 := S1
                clear S1
                clear HT1
                refine tillH_next (rs := [8]) (by as_aux_lemma => kernel_rfl) (by simp) ?_
                refine NextH.cons rfl (fun K hK => ?c5_0) NextH.nil
                case c5_0 =>
                  go_simp
                  refine (vobj_any _ _).mono ?_
                  rintro e E8 ⟨rfl, b5⟩
                  have HT1 := Lib.hid (And.intro (HT0.out.1.below b5) (And.intro (HT0.out.2.1.trans (b5.mono HT0.out.2.1.size)) (And.intro (HT0.out.2.2.1.below b5 HT0.out.2.2.1.lt) HT0.out.2.2.2)))
                  have S1 := HT1.out.1.s36 i hlt
                  clear HT0 S0 b5
                  refine hK.out _ _ (fun _ => S1) ?_
                  clear hK K
                  (try simp only [Act.put, List.setIfInBounds_toArray, List.set_cons_zero, List.set_cons_succ])
                  have HT0 := HT1
                  have S0 := S1
                  clear HT1 S1
                  refine tillH_next (rs := [9]) (by as_aux_lemma => kernel_rfl) (by simp) ?_
                  refine NextH.cons rfl (fun K hK => ?c6_0) NextH.nil
                  case c6_0 =>
                    go_simp
                    refine (HT0.out.1.get i hlt).mono ?_
                    rintro e E9 ⟨b5, ⟨vk, vn, vs⟩, f, rfl⟩
                    have HT1 := Lib.hid (And.intro (HT0.out.1.below b5) (And.intro (HT0.out.2.1.trans (b5.mono HT0.out.2.1.size)) (And.intro (HT0.out.2.2.1.below b5 HT0.out.2.2.1.lt) HT0.out.2.2.2)))
                    clear HT0 S0 b5
                    refine hK.out _ _ (fun h => absurd h (by simp)) ?_
                    clear hK K
                    (try simp only [Act.put, List.setIfInBounds_toArray, List.set_cons_zero, List.set_cons_succ])
                    refine tillH_takeAny (i := 10) (oi := ?oo33) (v := ?vv33) ?hi33 (by as_aux_lemma => kernel_rfl) (by as_aux_lemma => kernel_rfl) (by as_aux_lemma => kernel_rfl) ?hq33 (by as_aux_lemma => kernel_rfl) ?hy33 (fun h => absurd h (by simp)) ?hh33
                    case hi33 => (simp only [List.getElem?_toArray, List.getElem?_cons_succ, List.getElem?_cons_zero]; rfl)
                    case hq33 => exact fun _ _ _ h => h
                    case hy33 => exact Or.inl ⟨by rfl, by (intro W; go_simp; (try with_reducible rfl))⟩
                    (try simp only [Act.put, List.setIfInBounds_toArray, List.set_cons_zero, List.set_cons_succ])
                    refine tillH_takeAny (i := 11) (oi := ?oo34) (v := ?vv34) ?hi34 (by as_aux_lemma => kernel_rfl) (by as_aux_lemma => kernel_rfl) (by as_aux_lemma => kernel_rfl) ?hq34 (by as_aux_lemma => kernel_rfl) ?hy34 (fun h => absurd h (by simp)) ?hh34
                    case hi34 => (simp only [List.getElem?_toArray, List.getElem?_cons_succ, List.getElem?_cons_zero]; rfl)
                    case hq34 => exact fun _ _ _ h => h
                    case hy34 => exact Or.inl ⟨by rfl, by (intro W; go_simp; (try with_reducible rfl))⟩
                    (try simp only [Act.put, List.setIfInBounds_toArray, List.set_cons_zero, List.set_cons_succ])
                    refine tillH_takeAny (i := 12) (oi := ?oo35) (v := ?vv35) ?hi35 (by as_aux_lemma => kernel_rfl) (by as_aux_lemma => kernel_rfl) (by as_aux_lemma => kernel_rfl) ?hq35 (by as_aux_lemma => kernel_rfl) ?hy35 (fun h => absurd h (by simp)) ?hh35
                    case hi35 => (simp only [List.getElem?_toArray, List.getElem?_cons_succ, List.getElem?_cons_zero]; rfl)
                    case hq35 => exact fun _ _ _ h => h
                    case hy35 => exact Or.inl ⟨by rfl, by (intro W; go_simp; (try with_reducible rfl))⟩
                    (try simp only [Act.put, List.setIfInBounds_toArray, List.set_cons_zero, List.set_cons_succ])
                    refine tillH_takeAny (i := 13) (oi := ?oo36) (v := ?vv36) ?hi36 (by as_aux_lemma => kernel_rfl) (by as_aux_lemma => kernel_rfl) (by as_aux_lemma => kernel_rfl) ?hq36 (by as_aux_lemma => kernel_rfl) ?hy36 (fun h => absurd h (by simp)) ?hh36
                    case hi36 => (simp only [List.getElem?_toArray, List.getElem?_cons_succ, List.getElem?_cons_zero]; rfl)
                    case hq36 => exact fun _ _ _ h => h
                    case hy36 => exact Or.inl ⟨by rfl, by (intro W; go_simp; (try with_reducible rfl))⟩
                    (try simp only [Act.put, List.setIfInBounds_toArray, List.set_cons_zero, List.set_cons_succ])
                    have HT0 := HT1
                    have S0 : True := trivial
                    clear HT1
                    obtain ⟨hAS, hbel, hblk, hge⟩ := HT0.out
                    have y0 := (hblk.cell 0).trans (show (#[Value.int .i64 0, .int .i64 0, .string ⟨#[]⟩] : Array Value)[0]? = some (.int .i64 0) from rfl)
                    have y1 := (hblk.cell 1).trans (show (#[Value.int .i64 0, .int .i64 0, .string ⟨#[]⟩] : Array Value)[1]? = some (.int .i64 0) from rfl)
                    have y2 := (hblk.cell 2).trans (show (#[Value.int .i64 0, .int .i64 0, .string ⟨#[]⟩] : Array Value)[2]? = some (.string ⟨#[]⟩) from rfl)
                    have w0 := hblk.frozen 0
                    have w3 := hblk.frozen 1
                    have w4 := hblk.frozen 2
                    have lr := hblk.lt
                    have HX := Lib.hid (fun x y z => HA.out.box hbel hge x y z)
                    clear hAS hbel hblk hge HT0 S0
                    refine tillH_next (rs := [15]) (by as_aux_lemma => kernel_rfl) (by simp) ?_
                    refine NextH.cons rfl (fun K hK => ?_) NextH.nil
                    go_simp
                    refine hK.out _ _ (fun h => absurd h (by simp)) ?_
                    clear hK K
                    (try simp only [Act.put, List.setIfInBounds_toArray, List.set_cons_zero, List.set_cons_succ])
                    refine tillH_takeAny (i := 16) (oi := ?oo37) (v := ?vv37) ?hi37 (by as_aux_lemma => kernel_rfl) (by as_aux_lemma => kernel_rfl) (by as_aux_lemma => kernel_rfl) ?hq37 (by as_aux_lemma => kernel_rfl) ?hy37 (fun h => absurd h (by simp)) ?hh37
                    case hi37 => (simp only [List.getElem?_toArray, List.getElem?_cons_succ, List.getElem?_cons_zero]; rfl)
                    case hq37 => exact fun _ _ _ h => h
                    case hy37 => exact Or.inl ⟨by rfl, by (intro W; go_simp; (try with_reducible rfl))⟩
                    (try simp only [Act.put, List.setIfInBounds_toArray, List.set_cons_zero, List.set_cons_succ])
                    refine tillH_takeAny (i := 17) (oi := ?oo38) (v := ?vv38) ?hi38 (by as_aux_lemma => kernel_rfl) (by as_aux_lemma => kernel_rfl) (by as_aux_lemma => kernel_rfl) ?hq38 (by as_aux_lemma => kernel_rfl) ?hy38 (fun h => absurd h (by simp)) ?hh38
                    case hi38 => (simp only [List.getElem?_toArray, List.getElem?_cons_succ, List.getElem?_cons_zero]; rfl)
                    case hq38 => exact fun _ _ _ h => h
                    case hy38 => exact Or.inl ⟨by rfl, by (intro W; go_simp; (try with_reducible rfl))⟩
                    (try simp only [Act.put, List.setIfInBounds_toArray, List.set_cons_zero, List.set_cons_succ])
                    refine tillH_done (by as_aux_lemma => kernel_rfl) ?_ _
                    refine HKV.out _ _ ?_
                    have HA2 := Lib.hid (HX.out (.int .i64 vk) (.int .i64 vn) (.string vs))
                    clear HX y0 y1 y2 w0 w3 w4 lr HA
                    go_wp2_with fail
                    go_meet
                    exact ⟨rfl, HA2⟩
          case rest =>
          obtain ⟨rfl, HA3⟩ := hcut
          clear HA
          have r1 := HA3.out.s37 i hlt
          obtain ⟨q, hq, hqn⟩ := HA3.out.v i hlt
          have hpos : 0 < kR i := by unfold kR; omega
          have n1 : (kR i != 0) = true := by simp; omega
          have n2 : decide (0 < kR i) = true := by simp; omega
          obtain ⟨J, hJ⟩ : ∃ J : Nat, 2 * i = J := ⟨_, rfl⟩
          obtain ⟨K2, hK2⟩ : ∃ K2 : Nat, 2 * k = K2 := ⟨_, rfl⟩
          have am : IntKind.i64.wrap (2 * (i : Int)) = (J : Int) := by rw [IntWalk.i64_in _ (by omega)]; omega
          have am2 : IntKind.i64.wrap ((J : Int) + 1) = (J : Int) + 1 := by rw [IntWalk.i64_in _ (by omega)]
          have j0 : (0 : Int) ≤ (J : Int) := by omega
          have j1 : (J : Int) < (K2 : Int) := by omega
          have j2 : (0 : Int) ≤ (J : Int) + 1 := by omega
          have j3 : (J : Int) + 1 < (K2 : Int) := by omega
          have j4 : ((J : Int) + 1).toNat = J + 1 := by omega
          have HJ := Lib.hid (And.intro hJ hK2)
          have HQ := Lib.hid hq
          have HNN := Lib.hid (And.intro n1 (And.intro n2 (And.intro am (And.intro am2 (And.intro j0 (And.intro j1 (And.intro j2 (And.intro j3 j4))))))))
          clear hJ hK2 hq n1 n2 am am2 j0 j1 j2 j3 j4 hpos
          go_upto_region 37 with fail
          obtain ⟨hz, hhz⟩ : ∃ z, hd i = z := ⟨_, rfl⟩
          rw [hhz]
          have HHZ := Lib.hid hhz
          clear hhz
          go_cut [274] from 209 to 274 (fun s274 wx => s274 = .bool false ∧ Hid (AS w1 pk hd k (.slice (some ⟨gr, 0, none⟩) k rcap) (.slice (some ⟨gv, 0, none⟩) k vcap) s wx))
          case first =>
            cases hz with
            | true =>
              as_aux_lemma =>
                have hv := HHZ.out
                obtain ⟨qa, rfl⟩ : ∃ qa, q = some qa := by
                  cases q with
                  | none => rw [hqn.1 rfl] at hv; cases hv
                  | some qa => exact ⟨qa, rfl⟩
                have HV := Lib.hid hv
                clear hqn hv
                go_wp2_with fail
                refine (HA3.out.obj (vR i)).mono ?_
                rintro e F2 ⟨rfl, bF⟩
                rw [HQ.out]
                have HA4 := Lib.hid (HA3.out.below bF)
                clear HA3 bF r1
                obtain ⟨g1, c1, p9, p1⟩ := HA4.out.f1 i hlt
                obtain ⟨g2, c2, q9, q1, q2⟩ := HA4.out.f2 i hlt
                rw [HV.out, if_pos rfl] at p1 q1 q2
                rw [HJ.out.1] at q1 q2
                rw [HJ.out.2] at q9
                obtain ⟨f1, fv1, hb1, _⟩ := HA4.out.b1
                obtain ⟨f2, fv2, hb2, _⟩ := HA4.out.b2
                have l1 := hb1.lt
                have l2 := hb2.lt
                obtain ⟨n1, n2, am, am2, j0, j1, j2, j3, j4⟩ := HNN.out
                clear hb1 hb2 HNN
                go_wp2_with fail
                all_goals (go_meet; exact ⟨rfl, HA4⟩)
            | false =>
              as_aux_lemma =>
                have hv := HHZ.out
                obtain rfl := hqn.2 hv
                have HV := Lib.hid hv
                clear hqn hv
                go_wp2_with fail
                refine (HA3.out.obj (vR i)).mono ?_
                rintro e F2 ⟨rfl, bF⟩
                rw [HQ.out]
                have HA4 := Lib.hid (HA3.out.below bF)
                clear HA3 bF r1
                obtain ⟨g1, c1, p9, p1⟩ := HA4.out.f1 i hlt
                obtain ⟨g2, c2, q9, q1, q2⟩ := HA4.out.f2 i hlt
                rw [HV.out, if_neg (by decide)] at p1 q1 q2
                rw [HJ.out.1] at q1 q2
                rw [HJ.out.2] at q9
                obtain ⟨f1, fv1, hb1, _⟩ := HA4.out.b1
                obtain ⟨f2, fv2, hb2, _⟩ := HA4.out.b2
                have l1 := hb1.lt
                have l2 := hb2.lt
                obtain ⟨n1, n2, am, am2, j0, j1, j2, j3, j4⟩ := HNN.out
                clear hb1 hb2 HNN
                go_wp2_with fail
                all_goals (go_meet; exact ⟨rfl, HA4⟩)
          case rest =>
          obtain ⟨rfl, HA4⟩ := hcut
          clear HA3 r1
          go_wp2_with fail
          go_roundw
          case rel => exact ⟨i + 1, by omega, by first | rfl | rw [Int.natCast_add], HA4⟩
          case measure => simp only [intOf]; omega
        · have hik : i = k := by omega
          subst hik
          have t1 : decide ((i : Int) < (i : Int)) = false := by simp
          go_wp2_with fail
          refine HA.out.drop.mono ?_
          rintro e F ⟨⟨_, rfl⟩, ⟨O, hT⟩, ⟨fv, hb⟩, bb⟩
          have x8 : F.cell? ⟨pk.b0, 8, none⟩ = some (.pointer (some ⟨pk.Tw, 0, none⟩)) := by rw [hb.cell]; rfl
          have l8 := hb.lt
          have HT := Lib.hid (And.intro hT (bB.trans (bb.mono bB.size)))
          clear HA hT hb bb
          go_wp2_with fail
          refine (tlen_any pk.Tw [] [] O F HT.out.1).mono ?_
          rintro e F2 ⟨rfl, rfl⟩
          go_wp2
          go_ret
          exact ⟨rfl, HT.out.2⟩
end Go.Proofs.YtmimnaaofpkndaaDoor.Hp
