/- The statement ArenaNone: its walk. -/
import Derived.Test.YthcdhiknjpfmhaaArG
import Derived.Laws.BitsLemmas
set_option linter.unusedVariables false
set_option linter.unusedSimpArgs false
namespace Go.Proofs.Ythcdhiknjpfmhaa
open Go.RowKit

theorem push_nil (v : Value) (w : World) : Calls Try.prog 11 #[.pointer none, v] w fun e w' => (∃ v, e = .returned v) ∧ w = w' := by
  go_enter Try.func11, Try.ntmps11
  go_wp2
  go_end0
  exact ⟨⟨_, rfl⟩, rfl⟩
theorem pop_nil (v : Value) (w : World) : Calls Try.prog 16 #[.pointer none, v] w fun e w' => (∃ v, e = .returned v) ∧ w = w' := by
  go_enter Try.func16, Try.ntmps16
  go_wp2
  go_end0
  exact ⟨⟨_, rfl⟩, rfl⟩
theorem make_nil (v : Value) (w : World) : Calls Try.prog 10 #[.pointer none, v] w fun e w' => e = .returned (.int .i64 0) ∧ w = w' := by
  go_enter Try.func10, Try.ntmps10
  go_wp2
  go_ret
  exact ⟨rfl, rfl⟩
theorem make_none (A : Nat) (w : World) : Calls Try.prog 10 #[.pointer (some ⟨A, 0, none⟩), .nilIface] w fun e w' => e = .returned (.int .i64 0) ∧ w = w' := by
  go_enter Try.func10, Try.ntmps10
  go_wp2
  go_ret
  exact ⟨rfl, rfl⟩
theorem get_nil (v : Value) (w : World) : Calls Try.prog 19 #[.pointer none, v] w fun e w' => e = .returned .nilIface ∧ w = w' := by
  go_enter Try.func19, Try.ntmps19
  go_wp2
  go_ret
  exact ⟨rfl, rfl⟩
theorem count_nil (w : World) : Calls Try.prog 13 #[.pointer none] w fun e w' => e = .returned (.int .i64 0) ∧ w = w' := by
  go_enter Try.func13, Try.ntmps13
  go_wp2
  go_ret
  exact ⟨rfl, rfl⟩
theorem depth_nil (w : World) : Calls Try.prog 20 #[.pointer none] w fun e w' => e = .returned (.int .i64 0) ∧ w = w' := by
  go_enter Try.func20, Try.ntmps20
  go_wp2
  go_ret
  exact ⟨rfl, rfl⟩
theorem collect_nil (v : Value) (w : World) : Calls Try.prog 12 #[.pointer none, v] w fun e w' => e = .returned (.slice none 0 0) ∧ w = w' := by
  go_enter Try.func12, Try.ntmps12
  go_wp2
  go_ret
  exact ⟨rfl, rfl⟩
theorem isR (k r : Int) (b0 : Nat) (w : World) (h : w.cell? ⟨b0, 0, none⟩ = some (.int .i64 r)) : Calls Try.prog 22 #[.int .i64 k, .pointer (some ⟨b0, 0, none⟩)] w fun e w' => e = .returned (.bool (k == r)) ∧ w = w' := by
  go_enter Try.func22, Try.ntmps22
  go_wp2
  go_ret
  exact ⟨rfl, rfl⟩
theorem always (k : Int) (w : World) : Calls Try.prog 24 #[.int .i64 k] w fun e w' => e = .returned (.bool true) ∧ w = w' := by
  go_enter Try.func24, Try.ntmps24
  go_wp2
  go_ret
  exact ⟨rfl, rfl⟩

set_option maxHeartbeats 2000000 in
set_option maxRecDepth 100000 in
theorem none_walk (r : Int) (w : World) (hr : -9223372036854775808 ≤ r ∧ r ≤ 9223372036854775807) :
    Calls Try.prog 7 #[.int .i64 r] w fun e w' => e = .returned (.bool true) ∧ Below w.heap.size w w' := by
  obtain ⟨r1, hr1⟩ : ∃ r1, IntKind.i64.wrap (r + 1) = r1 := ⟨_, rfl⟩
  have hne : ¬ r1 = r := by
    rw [← hr1, IntKind.wrap_i64]
    omega
  go_enter Try.func7, Try.ntmps7
  go_wp2_with fail
  refine (fit_any _).mono ?_
  rintro e W ⟨rfl, b⟩
  have kr : Blk W w.heap.size 3 #[.int .i64 r] := (Blk.new w _ _).below b (by simp)
  have bb : Below w.heap.size w W := ((Below.refl _ w).alloc (Nat.le_refl _) _).trans (b.mono (by simp))
  have xr : W.cell? ⟨w.heap.size, 0, none⟩ = some (.int .i64 r) := by rw [kr.cell]; rfl
  have hlt := kr.lt
  clear b
  go_wp2_with fail
  have hms : (2 : Nat) ≤ maxLen := by unfold maxLen; omega
  have hm1 : (1 : Nat) ≤ maxLen := by unfold maxLen; omega
  have zW := bb.size
  have ownT : (((W.alloc (.cells #[.int .i64 r, .int .i64 1, .int .i64 r1, .int .i64 2] 32)).alloc (.cells #[.int .i64 r] 3)).alloc (.cells #[.slice none 0 0, .slice (some ⟨W.heap.size, 0, none⟩) 2 2, .slice (some ⟨W.heap.size + 1, 0, none⟩) 1 1, .int .i64 0] 30)).ownsRow w.heap.size 32 2 (.slice (some ⟨W.heap.size, 0, none⟩) 2 2) 2 (prCells [(r, 1), (r1, 2)]) :=
    ((World.ownsRow_lit W #[.int .i64 r, .int .i64 1, .int .i64 r1, .int .i64 2] 2 zW hms rfl).alloc _).alloc _
  have ownF : (((W.alloc (.cells #[.int .i64 r, .int .i64 1, .int .i64 r1, .int .i64 2] 32)).alloc (.cells #[.int .i64 r] 3)).alloc (.cells #[.slice none 0 0, .slice (some ⟨W.heap.size, 0, none⟩) 2 2, .slice (some ⟨W.heap.size + 1, 0, none⟩) 1 1, .int .i64 0] 30)).ownsRow w.heap.size 3 1 (.slice (some ⟨W.heap.size + 1, 0, none⟩) 1 1) 1 (numCells [r]) := by
    have h := (World.ownsRow_lit (base := w.heap.size) (e := 3) (size := 1) (W.alloc (.cells #[.int .i64 r, .int .i64 1, .int .i64 r1, .int .i64 2] 32)) #[.int .i64 r] 1 (by simp; omega) hm1 rfl).alloc (.cells #[.slice none 0 0, .slice (some ⟨W.heap.size, 0, none⟩) 2 2, .slice (some ⟨W.heap.size + 1, 0, none⟩) 1 1, .int .i64 0] 30)
    rw [World.size_alloc] at h
    exact h
  have kN : Blk (((W.alloc (.cells #[.int .i64 r, .int .i64 1, .int .i64 r1, .int .i64 2] 32)).alloc (.cells #[.int .i64 r] 3)).alloc (.cells #[.slice none 0 0, .slice (some ⟨W.heap.size, 0, none⟩) 2 2, .slice (some ⟨W.heap.size + 1, 0, none⟩) 1 1, .int .i64 0] 30)) (W.heap.size + 1 + 1) 30 (ndC (.slice none 0 0) (.slice (some ⟨W.heap.size, 0, none⟩) 2 2) (.slice (some ⟨W.heap.size + 1, 0, none⟩) 1 1) 0) := by
    have := Blk.new ((W.alloc (.cells #[.int .i64 r, .int .i64 1, .int .i64 r1, .int .i64 2] 32)).alloc (.cells #[.int .i64 r] 3)) 30 (ndC (.slice none 0 0) (.slice (some ⟨W.heap.size, 0, none⟩) 2 2) (.slice (some ⟨W.heap.size + 1, 0, none⟩) 1 1) 0)
    rw [World.size_alloc, World.size_alloc] at this
    exact this
  have b3 : Below W.heap.size W (((W.alloc (.cells #[.int .i64 r, .int .i64 1, .int .i64 r1, .int .i64 2] 32)).alloc (.cells #[.int .i64 r] 3)).alloc (.cells #[.slice none 0 0, .slice (some ⟨W.heap.size, 0, none⟩) 2 2, .slice (some ⟨W.heap.size + 1, 0, none⟩) 1 1, .int .i64 0] 30)) := (((Below.refl _ W).alloc (Nat.le_refl _) _).alloc (by simp) _).alloc (by simp; omega) _
  have z3 : (((W.alloc (.cells #[.int .i64 r, .int .i64 1, .int .i64 r1, .int .i64 2] 32)).alloc (.cells #[.int .i64 r] 3)).alloc (.cells #[.slice none 0 0, .slice (some ⟨W.heap.size, 0, none⟩) 2 2, .slice (some ⟨W.heap.size + 1, 0, none⟩) 1 1, .int .i64 0] 30)).heap.size = W.heap.size + 3 := by simp
  generalize ((W.alloc (.cells #[.int .i64 r, .int .i64 1, .int .i64 r1, .int .i64 2] 32)).alloc (.cells #[.int .i64 r] 3)).alloc (.cells #[.slice none 0 0, .slice (some ⟨W.heap.size, 0, none⟩) 2 2, .slice (some ⟨W.heap.size + 1, 0, none⟩) 1 1, .int .i64 0] 30) = W3 at *
  have kr3 := kr.below b3 hlt
  have hdrop := drop_fn (fun k => k == r) (W.heap.size + 1 + 1) w.heap.size _ _ _ _ [(r, 1), (r1, 2)] W3 kN (PrR.of ownT) (by simp) (fun V k hV => isR k r w.heap.size V (by
    have := kr3.below hV (by rw [z3]; omega)
    rw [this.cell]; rfl))
  have hfl : ([(r, 1), (r1, 2)] : List Pr).filter (fun x => !(x.1 == r)) = [(r1, 2)] := by
    simp [hne]
  rw [hfl] at hdrop
  have HD := Lib.hid hdrop
  clear hdrop hfl xr
  go_wp2_with fail
  refine HD.out.mono ?_
  rintro e W4 ⟨⟨v4, rfl⟩, bv, own4, kN4, u4⟩
  have ownF4 := u4.own ownF (fun k hk e => own_blk ownF kN (by decide) (by rw [hk, e]))
  have kr4 := u4.blk kr3 (fun e => by omega)
  obtain ⟨va, vcap, rfl, hva⟩ := own_shape own4
  obtain ⟨gv, rfl⟩ := hva (by simp)
  have hcl := clear_fn (fun _ => true) (W.heap.size + 1 + 1) w.heap.size _ _ _ _ [r] W4 kN4 ownF4 (by simp) (fun V k _ => always k V)
  have HC := Lib.hid hcl
  clear hcl HD
  go_wp2_with fail
  refine HC.out.mono ?_
  rintro e W5 ⟨⟨v5, rfl⟩, own5, u5⟩
  have hgv : W3.heap.size ≤ gv := (own4.lt gv rfl).1
  have kN5 := u5.blk kN4 (fun e => own_blk ownF4 kN4 (by decide) e)
  have own45 := u5.own own4 (fun k hk e => by
    have h1 : some gv = some k := hk
    have h2 : some (W.heap.size + 1) = some k := e
    cases h1; cases h2; omega)
  have kr5 := u5.blk kr4 (fun e => by
    have h2 : some (W.heap.size + 1) = some w.heap.size := e
    have := Option.some.inj h2
    omega)
  have hgo := gone_any (W.heap.size + 1 + 1) (.slice none 0 0, .slice (some ⟨gv, 0, none⟩) 1 vcap, .slice (some ⟨W.heap.size + 1, 0, none⟩) 1 1, 0) W5 kN5 (by simp) (by simp)
  have HG := Lib.hid hgo
  clear hgo HC
  go_wp2_with fail
  refine HG.out.mono ?_
  rintro e W6 ⟨⟨v6, rfl⟩, rfl⟩
  have u6 := set_upd W5 (W.heap.size + 1 + 1) 3 (.int .i64 (0 + 1))
  have kN6 : Blk (W5.setCell ⟨W.heap.size + 1 + 1, 3, none⟩ (.int .i64 (0 + 1))) (W.heap.size + 1 + 1) 30 (ndC (.slice none 0 0) (.slice (some ⟨gv, 0, none⟩) 1 vcap) (.slice (some ⟨W.heap.size + 1, 0, none⟩) 1 1) 1) := kN5.set_ 3 _
  have own46 := u6.own own45 (fun k hk e => own_blk own45 kN5 (by decide) (by rw [hk, e]))
  have own56 := u6.own own5 (fun k hk e => own_blk own5 kN5 (by decide) (by rw [hk, e]))
  have kr6 := u6.blk kr5 (fun e => by omega)
  have b6 : Below w.heap.size w (W5.setCell ⟨W.heap.size + 1 + 1, 3, none⟩ (.int .i64 (0 + 1))) := by
    have h3 : Below w.heap.size w W3 := bb.trans (b3.mono zW)
    have h4 := h3.trans (u4.below h3.size (fun k e => by omega))
    have h5 := h4.trans (u5.below h4.size (fun k e => by
      have h2 : some (W.heap.size + 1) = some k := e
      cases h2; omega))
    exact h5.trans (u6.below h5.size (fun k e => by omega))
  simp only
  generalize W5.setCell ⟨W.heap.size + 1 + 1, 3, none⟩ (.int .i64 (0 + 1)) = W6 at *
  have hlen1 : ([(r1, 2)] : List Pr).length = 1 := rfl
  have e1 : W6.cell? ⟨W.heap.size + 1 + 1, 1, none⟩ = some (.slice (some ⟨gv, 0, none⟩) 1 vcap) := by rw [kN6.cell]; rfl
  have e2 : W6.cell? ⟨W.heap.size + 1 + 1, 2, none⟩ = some (.slice (some ⟨W.heap.size + 1, 0, none⟩) 1 1) := by rw [kN6.cell]; rfl
  have e3 : W6.cell? ⟨W.heap.size + 1 + 1, 3, none⟩ = some (.int .i64 1) := by rw [kN6.cell]; rfl
  have e4 : W6.cell? ⟨gv, 1, none⟩ = some (.int .i64 2) := own46.cellAt 1 (by simp)
  have e5 : W6.cell? ⟨W.heap.size + 1, 0, none⟩ = some (.int .i64 0) := own56.cellAt 0 (by simp)
  have e6 : W6.cell? ⟨w.heap.size, 0, none⟩ = some (.int .i64 r) := by rw [kr6.cell]; rfl
  have l1 := kN6.lt
  have l2 := (own46.lt gv rfl).2
  have l3 := (own56.lt _ rfl).2
  have l4 := kr6.lt
  have z6 := b6.size
  clear own46 own56 own45 own5 ownF ownF4 own4 kN kN4 kN5 kN6 kr kr3 kr4 kr5 kr6 u4 u5 u6 ownT b3 HG
  go_upto_region 9 with fail
  clear e1 e2 e3 e4 e5 l1 l2 l3 hne hgv
  go_wp2_with fail
  refine (push_nil _ _).mono ?_
  rintro e w' ⟨⟨v7, rfl⟩, rfl⟩
  go_wp2_with fail
  refine (pop_nil _ _).mono ?_
  rintro e w' ⟨⟨v8, rfl⟩, rfl⟩
  go_wp2_with fail
  refine (make_nil _ _).mono ?_
  rintro e w' ⟨rfl, rfl⟩
  go_wp2_with fail
  refine (get_nil _ _).mono ?_
  rintro e w' ⟨rfl, rfl⟩
  go_wp2_with fail
  refine (count_nil _).mono ?_
  rintro e w' ⟨rfl, rfl⟩
  go_wp2_with fail
  refine (depth_nil _).mono ?_
  rintro e w' ⟨rfl, rfl⟩
  go_wp2_with fail
  refine (collect_nil _ _).mono ?_
  rintro e w' ⟨rfl, rfl⟩
  go_wp2_with fail
  refine (new_any _).mono ?_
  rintro e w' ⟨rfl, rfl⟩
  go_wp2_with fail
  refine (make_none _ _).mono ?_
  rintro e w' ⟨rfl, rfl⟩
  go_wp2
  go_ret
  exact ⟨by simp, by repeat (first | exact b6 | (refine Below.alloc ?_ (by first | omega | (simp; omega) | simp) _))⟩
end Go.Proofs.Ythcdhiknjpfmhaa
