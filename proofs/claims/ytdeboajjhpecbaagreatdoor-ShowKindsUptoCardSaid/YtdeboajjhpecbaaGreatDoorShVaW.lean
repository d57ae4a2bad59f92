/- Show: the walk of ShowValues. -/
import Derived.Test.YtdeboajjhpecbaaGreatDoorShZm
import Derived.Test.YtdeboajjhpecbaaGreatDoorShJ
set_option linter.unusedVariables false
set_option linter.unusedSimpArgs false
namespace Go.Proofs.YtdeboajjhpecbaaGreatDoor.Hp
open Go.RowKit Go.Proofs.YtdeboajjhpecbaaGreatDoor Go.Shelf
theorem len_le_suP (P : List PartV) (p : PartV) (hp : p ∈ P) : p.len ≤ suP P 0 := by
  unfold suP
  rw [List.drop_zero]
  induction P with
  | nil => cases hp
  | cons q P ih =>
    rw [List.map_cons, List.sum_cons]
    rcases List.mem_cons.1 hp with rfl | hp
    · omega
    · have := ih hp; omega
set_option maxRecDepth 100000 in
set_option maxHeartbeats 8000000 in
theorem values_walk {P : List PartV} {pn pc : Nat} {pa : Option Addr} {w : World} (hP : PlanR w pa pn P) (hlen : ∀ p ∈ P, p.len ≤ 4194304) (hpn : pn ≤ 4194304) (hT : Tbs w) (hF : Fb w) : Calls Tryz.prog 3 #[.agg #[.slice pa pn pc]] w (Ret (.bool true) w) := by
  have HP := Lib.hid (And.intro hP (And.intro hlen (And.intro hT hF)))
  clear hP hlen hT hF
  go_enter Tryz.func3, Tryz.ntmps3
  go_wp2_with (fail)
  have b0 : Below w.heap.size w (w.alloc (.cells #[.slice pa pn pc] 24)) := (Below.refl w.heap.size w).alloc (Nat.le_refl _) _
  have HB := Lib.hid (And.intro b0 (Blk.new w 24 #[.slice pa pn pc]))
  clear b0
  generalize w.alloc (.cells #[.slice pa pn pc] 24) = wa at *
  refine (fit_any _ (HP.out.2.2.1.below HB.out.1).1).mono ?_
  rintro e wb ⟨rfl, b1⟩
  have HB := Lib.hid (And.intro (HB.out.1.trans (b1.mono HB.out.1.size)) (HB.out.2.below b1 HB.out.2.lt))
  clear b1
  have q0 : wb.cell? ⟨w.heap.size, 0, none⟩ = some (.slice pa pn pc) := by rw [HB.out.2.cell]; rfl
  go_wp2_with (fail)
  refine (light_any (HP.out.1.below HB.out.1) HP.out.2.1 hpn).mono ?_
  rintro e wc ⟨bl, rfl, b2, hl⟩
  have HB := Lib.hid (And.intro (HB.out.1.trans (b2.mono HB.out.1.size)) (HB.out.2.below b2 HB.out.2.lt))
  clear b2 q0
  cases bl
  · go_wp2
    go_ret
    exact ⟨rfl, HB.out.1⟩
  have hl2 := hl rfl
  have HQ := Lib.hid hl2
  clear hl hl2
  go_wp2_with (fail)
  refine (machine_any _).mono ?_
  rintro e w1 ⟨m, H, A, B, cv, cs, ps, rfl, hM, hc, b3⟩
  have hb3 := HB.out.2.below b3 HB.out.2.lt
  have q0 : w1.cell? ⟨w.heap.size, 0, none⟩ = some (.slice pa pn pc) := by rw [hb3.cell]; rfl
  have hpl : P.length = pn := HP.out.1.1
  have HG := Lib.hid (grow_all (pc := pc) (HP.out.1.below HB.out.1) (Nat.le_refl _) (by have := HQ.out; omega) (fun p hp => by have := len_le_suP P p hp; have := HQ.out; omega) 7 0 rfl (by omega) cv cs w1 0 hM b3 (by have := HQ.out; omega))
  have HM := Lib.hid (And.intro hM (And.intro hc b3))
  clear hM hc b3 hb3 hpl
  go_wp2_with (fail)
  refine HG.out.mono ?_
  rintro e w2 ⟨⟨v1, v2, v3⟩, ⟨x1, x2, x3, y4⟩, en, t, rfl, hg⟩
  obtain ⟨x4, h4⟩ := hg.rf.ptr
  dsimp only at h4
  subst h4
  clear HG q0
  have hN1 : wc.heap.size ≤ w1.heap.size := HM.out.2.2.size
  have hbw : Below wc.heap.size w1 w2 := hg.up.below hN1 (fun k hk => hk.elim (fun e => e ▸ HM.out.1.low.2.1) (fun e => HM.out.1.own k e))
  have hbc : Below wc.heap.size wc w2 := HM.out.2.2.trans hbw
  have hTc := (HP.out.2.2.1.below HB.out.1).below hbc
  have hFc := (HP.out.2.2.2.below HB.out.1).below hbc
  obtain ⟨⟨cv2, ds, hM2, hds, hO, hli⟩, hlr, hok, hle, hun, hup⟩ := hg
  have hu : unT t ≤ 1000 := by have := HQ.out; omega
  have hcl : (cs ++ ds).length ≤ 4000 := by have := HM.out.2.1; have := HQ.out; rw [List.length_append]; omega
  have bx : Below w2.heap.size w2 ((w2.alloc (.cells #[.int .i64 v1, .int .i64 v2, .string v3] 30)).alloc (.cells #[.int .i64 x1, .int .i64 x2, .string x3, .pointer x4] 33)) := ((Below.refl _ _).alloc (Nat.le_refl _) _).alloc (by rw [World.size_alloc]; omega) _
  have bv : Blk ((w2.alloc (.cells #[.int .i64 v1, .int .i64 v2, .string v3] 30)).alloc (.cells #[.int .i64 x1, .int .i64 x2, .string x3, .pointer x4] 33)) w2.heap.size 30 #[.int .i64 v1, .int .i64 v2, .string v3] := (Blk.new w2 _ _).alloc _
  have br : Blk ((w2.alloc (.cells #[.int .i64 v1, .int .i64 v2, .string v3] 30)).alloc (.cells #[.int .i64 x1, .int .i64 x2, .string x3, .pointer x4] 33)) (w2.heap.size + 1) 33 #[.int .i64 x1, .int .i64 x2, .string x3, .pointer x4] := by
    have := Blk.new (w2.alloc (.cells #[.int .i64 v1, .int .i64 v2, .string v3] 30)) 33 #[.int .i64 x1, .int .i64 x2, .string x3, .pointer x4]
    rwa [World.size_alloc] at this
  go_upto_region 7 with fail
  generalize (w2.alloc (.cells #[.int .i64 v1, .int .i64 v2, .string v3] 30)).alloc (.cells #[.int .i64 x1, .int .i64 x2, .string x3, .pointer x4] 33) = W at *
  have hsz : (⟨(prT t 0).toArray⟩ : ByteArray).size ≤ 16384 := by
    have h1 := prT_len t 0 hok
    have h2 : lenC 0 ≤ 7400 := by decide
    show (prT t 0).toArray.size ≤ 16384
    rw [List.size_toArray]; omega
  have lM : ∀ W', Below w2.heap.size w2 W' → Calls Tryz.prog 20 #[.pointer (some ⟨m, 0, none⟩), VS v1 v2 v3, .int .i64 0] W' (ShwP ⟨(prT t 0).toArray⟩ W') := lies_show hM2 hcl hTc hFc t (v1, v2, v3) 0 hli hok hu (by omega)
  have lR : ∀ W', Below w2.heap.size w2 W' → Calls Tryz.prog 10 #[VR x1 x2 x3 (.pointer x4), .int .i64 0] W' (ShwP ⟨(prT t 0).toArray⟩ W') := lies_rshow hTc t (x1, x2, x3, .pointer x4) 0 hlr hok hu (by omega)
  have D1 := fun d os => Calls.regrown_of (Show_any m v1 v2 v3 ⟨(prT t 0).toArray⟩ hsz (Go.Sort.grow (redrawn W d) os) (fun W' b => lM W' (bx.trans (((below_regrown W d os).mono bx.size).trans (b.mono (Nat.le_trans bx.size (below_regrown W d os).size))))))
  have D2 := fun d os => Calls.regrown_of (lR (Go.Sort.grow (redrawn W d) os) (bx.trans ((below_regrown W d os).mono bx.size)))
  obtain ⟨z, hzz⟩ : ∃ z, w2.heap.size = z := ⟨_, rfl⟩
  rw [hzz] at bx bv br ⊢
  have A0 := fun d os => cell_regrown (show W.cell? ⟨z, 0, none⟩ = some (.int .i64 v1) by rw [bv.cell]; rfl) d os
  have A1 := fun d os => cell_regrown (show W.cell? ⟨z, 1, none⟩ = some (.int .i64 v2) by rw [bv.cell]; rfl) d os
  have A2 := fun d os => cell_regrown (show W.cell? ⟨z, 2, none⟩ = some (.string v3) by rw [bv.cell]; rfl) d os
  have C0 := fun d os => cell_regrown (show W.cell? ⟨z + 1, 0, none⟩ = some (.int .i64 x1) by rw [br.cell]; rfl) d os
  have C1 := fun d os => cell_regrown (show W.cell? ⟨z + 1, 1, none⟩ = some (.int .i64 x2) by rw [br.cell]; rfl) d os
  have C2 := fun d os => cell_regrown (show W.cell? ⟨z + 1, 2, none⟩ = some (.string x3) by rw [br.cell]; rfl) d os
  have C3 := fun d os => cell_regrown (show W.cell? ⟨z + 1, 3, none⟩ = some (.pointer x4) by rw [br.cell]; rfl) d os
  have hz : w.heap.size ≤ z := Nat.le_trans HB.out.1.size (by rw [← hzz]; exact hbc.size)
  have bw : Below w.heap.size w W := HB.out.1.trans ((hbc.mono HB.out.1.size).trans (bx.mono hz))
  clear lM lR bv br
  refine wp_region_quiet_below (by kernel_rfl) (by kernel_rfl) ?_
  repeat (quiet_step (first | with_reducible exact D1 _ _ | with_reducible exact D2 _ _))
  refine wpQuiet_nil ?_
  intro _ hw'
  obtain ⟨⟨dq, osq⟩, hw''⟩ := hw'
  subst hw''
  clear A0 A1 A2 C0 C1 C2 C3 D1 D2
  go_wp2
  go_ret
  exact ⟨by simp, bw.trans ((below_regrown W dq osq).mono bw.size)⟩
end Go.Proofs.YtdeboajjhpecbaaGreatDoor.Hp
