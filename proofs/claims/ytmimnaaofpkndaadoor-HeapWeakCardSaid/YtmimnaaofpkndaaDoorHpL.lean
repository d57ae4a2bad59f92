/- The heap: the example (fit). -/
import Derived.Test.YtmimnaaofpkndaaDoorHpK
import Derived.LaidEqlPtr
import Derived.Lib.QuietBelow
set_option linter.unusedVariables false
set_option linter.unusedSimpArgs false
namespace Go.Proofs.YtmimnaaofpkndaaDoor.Hp
open Go.RowKit Go.Proofs.YtmimnaaofpkndaaDoor Go.Shelf Go.Sort

theorem keyL_len : keyL [108, 101, 110, 103, 116, 104] = lenK := by
  unfold keyL lenK
  rw [Tx.ofB_ascii _ (by decide)]
  rfl
theorem keyD_1 : keyD 1 = keyL [49] := by
  unfold keyD
  rw [dig_small 1 (by decide)]
  rfl
theorem infoObj : ∃ i, Tryd.prog.info? 51 = some i := Option.isSome_iff_exists.1 (by kernel_rfl)
theorem obj_same (b : Nat) (w : World) : (binOp .eql tObj (.pointer (some ⟨b, 0, none⟩)) (.pointer (some ⟨b, 0, none⟩))).run Tryd.prog w = .ok (.bool true) w := by
  obtain ⟨i, hi⟩ := infoObj
  exact run_eql_ptr_same w ⟨b, 0, none⟩ Tryd.underlying26 hi
theorem objP_in {cs : List Cell} {i b : Nat} (h : cs[i]? = some (some (tObj, b), false)) : objP cs ((i : Int) + 1) = .pointer (some ⟨b, 0, none⟩) := by
  obtain ⟨hl, he⟩ := List.getElem?_eq_some_iff.1 h
  unfold objP
  rw [if_pos ⟨by omega, by omega⟩, show ((i : Int) + 1 - 1).toNat = i by omega, List.getD_eq_getElem?_getD, h]
  rfl
theorem objP_out {cs : List Cell} {r : Int} (h : r < 1 ∨ (cs.length : Int) < r) : objP cs r = .pointer none := by
  unfold objP
  rw [if_neg (by omega)]
set_option maxRecDepth 100000 in
set_option maxHeartbeats 8000000 in
theorem fit_any (w : World) (hLg : Lg w) : Calls Tryd.prog 8 #[] w fun e w' => e = .returned (.bool true) ∧ Below w.heap.size w w' := by
  have HLg := Lib.hid hLg
  have h0 := hLg.lt
  clear hLg
  go_enter Tryd.func8, Tryd.ntmps8
  go_wp2_with fail
  refine (hnew_any w).mono ?_
  rintro e w1 ⟨rfl, rfl⟩
  have hx0 := newW_hx w
  have hb0 := newW_below w
  have hz0 : (newW w).heap.size = w.heap.size + 2 := by simp [newW]
  have HX0 := Lib.hid (And.intro hx0 hb0)
  clear hx0 hb0
  generalize newW w = w1 at *
  go_wp2_with fail
  refine (make_any 1 0 HX0.out.1 (by omega) (by omega) (by simp) (by omega)).mono ?_
  rintro e w2 ⟨b, T, cv, rfl, hT0, hTb, hob, hT, hX, u2, hcv⟩
  have hb2 : Below w.heap.size w w2 := HX0.out.2.trans (u2.below HX0.out.2.size (fun k hk => by
    rcases hk with rfl | h
    · exact Nat.le_refl _
    · simp [Value.ownBlock] at h))
  have hcv' : ∀ g, cv.ownBlock = some g → b < g := fun g hg => (hcv g hg).resolve_left (by simp [Value.ownBlock])
  have o4 : w2.cell? ⟨b, 4, none⟩ = some (.slice none 0 0) := by rw [hob.cell]; rfl
  have f4 := hob.frozen 4
  have lb := hob.lt
  have HH := Lib.hid (And.intro hob (And.intro hT (And.intro hX hb2)))
  clear hob hT hX hb2 hcv u2 HX0
  go_upto_region 8 with fail
  obtain ⟨w3, hw3⟩ : ∃ x, ((w2.setCell ⟨b, 4, none⟩ (.slice (some ⟨w2.heap.size, 0, none⟩) 2 2)).alloc (.cells #[.int .i64 0, .int .i64 0, .string ⟨#[]⟩, .int .i64 0, .int .i64 0, .string ⟨#[]⟩] 34)) = x := ⟨_, rfl⟩
  rw [hw3]
  have ho3 : Blk w3 b 51 (objA 1 0 false T (.slice (some ⟨w2.heap.size, 0, none⟩) 2 2) nilP nilP nilS 0) := by rw [← hw3]; exact (HH.out.1.set_ 4 _).alloc _
  have hg3 : Blk w3 w2.heap.size 34 #[.int .i64 0, .int .i64 0, .string ⟨#[]⟩, .int .i64 0, .int .i64 0, .string ⟨#[]⟩] := by
    have := Blk.new (w2.setCell ⟨b, 4, none⟩ (.slice (some ⟨w2.heap.size, 0, none⟩) 2 2)) 34 #[.int .i64 0, .int .i64 0, .string ⟨#[]⟩, .int .i64 0, .int .i64 0, .string ⟨#[]⟩]
    rw [World.size_setCell] at this
    rw [← hw3]; exact this
  have u3 : Upd w2 w3 (fun k => k = b) := by rw [← hw3]; exact ((Upd.refl w2 (fun k => k = b)).set b 4 _ rfl).alloc _
  have hTw := HH.out.2.1.lt T rfl
  have hT3 : TabA w3 T [] [] (fun k => k = T) := HH.out.2.1.upd u3 (fun k hk h => by omega)
  have hAw := HH.out.2.2.1.ar.blk.lt
  have hX3 : Hx w3 (w.heap.size + 1) w.heap.size w.heap.size cv nilS nilS [(some (tObj, b), false)] [] [] 1 := HH.out.2.2.1.upd u3 (by show ¬ w.heap.size + 1 = b; omega) (by show ¬ w.heap.size = b; omega) (fun g hg h => by have := hcv' g hg; omega) (fun g hg => by simp [Value.ownBlock] at hg) (fun g hg => by simp [Value.ownBlock] at hg)
  have hb3 : Below w.heap.size w w3 := HH.out.2.2.2.trans (u3.below HH.out.2.2.2.size (fun k hk => by omega))
  have hL3 := HLg.out.below hb3
  have he3 : ∀ j, j < 2 → w3.cell? ⟨w2.heap.size, j * 3, none⟩ = some (.int .i64 0) ∧ w3.cell? ⟨w2.heap.size, j * 3 + 1, none⟩ = some (.int .i64 0) ∧ w3.cell? ⟨w2.heap.size, j * 3 + 2, none⟩ = some (.string ⟨#[]⟩) := by
    intro j hj
    rw [hg3.cell, hg3.cell, hg3.cell]
    match j, hj with
    | 0, _ => exact ⟨rfl, rfl, rfl⟩
    | 1, _ => exact ⟨rfl, rfl, rfl⟩
  have hkeys := keys_fit b T w2.heap.size 2 (fun k => k = T) w3 ho3 hT3 hL3 (by show ¬ 0 = T; omega) (by show ¬ b = T; omega) (by show ¬ w2.heap.size = T; omega) hg3.lt he3
  have H3 := Lib.hid (And.intro hX3 hb3)
  have hz3 := hb3.size
  have hbw3 := ho3.lt
  clear hw3 ho3 hg3 u3 hT3 hX3 hb3 hL3 he3 o4 f4 lb HH
  go_wp2_with fail
  refine hkeys.mono ?_
  rintro e w4 ⟨g, gcap, O4, rfl, hrow, -, u4⟩
  have hX4 : Hx w4 (w.heap.size + 1) w.heap.size w.heap.size cv nilS nilS [(some (tObj, b), false)] [] [] 1 := H3.out.1.upd u4 (by show ¬ w.heap.size + 1 = T; omega) (by show ¬ w.heap.size = T; omega) (fun g hg h => by have := hcv' g hg; omega) (fun g hg => by simp [Value.ownBlock] at hg) (fun g hg => by simp [Value.ownBlock] at hg)
  have hb4 : Below w.heap.size w w4 := H3.out.2.trans (u4.below H3.out.2.size (fun k hk => by omega))
  obtain ⟨k1, hk1⟩ : ∃ k, keyD 1 = k := ⟨_, rfl⟩
  obtain ⟨k2, hk2⟩ : ∃ k, lenK = k := ⟨_, rfl⟩
  have r1 : ∀ j, j < 3 → w4.cell? ⟨g, 3 + j, none⟩ = ([.int .i64 k1.1, .int .i64 k1.2.1, .string k1.2.2] : List Value)[j]? := fun j hj => by
    rw [hrow.cellAt (3 + j) (by omega), show 3 + j = 1 * 3 + j by omega, valsC_get _ 1 j (keyD 1) rfl hj, hk1]
  have r2 : ∀ j, j < 3 → w4.cell? ⟨g, 6 + j, none⟩ = ([.int .i64 k2.1, .int .i64 k2.2.1, .string k2.2.2] : List Value)[j]? := fun j hj => by
    rw [hrow.cellAt (6 + j) (by omega), show 6 + j = 2 * 3 + j by omega, valsC_get _ 2 j lenK rfl hj, hk2]
  have a0 : w4.cell? ⟨g, 3, none⟩ = some (.int .i64 k1.1) := r1 0 (by decide)
  have a1 : w4.cell? ⟨g, 4, none⟩ = some (.int .i64 k1.2.1) := r1 1 (by decide)
  have a2 : w4.cell? ⟨g, 5, none⟩ = some (.string k1.2.2) := r1 2 (by decide)
  have c0 : w4.cell? ⟨g, 6, none⟩ = some (.int .i64 k2.1) := r2 0 (by decide)
  have c1 : w4.cell? ⟨g, 7, none⟩ = some (.int .i64 k2.2.1) := r2 1 (by decide)
  have c2 : w4.cell? ⟨g, 8, none⟩ = some (.string k2.2.2) := r2 2 (by decide)
  have D1 := fun d os => Calls.regrown_of (show Calls Tryd.prog 13 #[.string ⟨[(49 : UInt8)].toArray⟩] (grow (redrawn w4 d) os) (fun e w' => e = .returned (VK k1) ∧ Below (grow (redrawn w4 d) os).heap.size (grow (redrawn w4 d) os) w') from by
    have h := keyL_any [49] (by decide) (grow (redrawn w4 d) os); rwa [← keyD_1, hk1] at h)
  have D2 := fun d os => Calls.regrown_of (show Calls Tryd.prog 13 #[.string ⟨[(108 : UInt8), 101, 110, 103, 116, 104].toArray⟩] (grow (redrawn w4 d) os) (fun e w' => e = .returned (VK k2) ∧ Below (grow (redrawn w4 d) os).heap.size (grow (redrawn w4 d) os) w') from by
    have h := keyL_any [108, 101, 110, 103, 116, 104] (by decide) (grow (redrawn w4 d) os); rwa [keyL_len, hk2] at h)
  have hkk : ∀ (i : Nat) (n : Nat × Nat), (([(some (tObj, b), false)] : List Cell).getD i (none, false)).1 = some n → n.1 = tObj ∨ n.1 = tEnv ∨ n.1 = tMark := fun i n h => by
    cases i with
    | zero => simp at h; subst h; exact .inl rfl
    | succ i => simp at h
  have obd : ∀ (r : Int) (v : Value), objP [(some (tObj, b), false)] r = v → ∀ d os, Calls Tryd.prog 11 #[.pointer (some ⟨w.heap.size + 1, 0, none⟩), .int .i64 r] (grow (redrawn w4 d) os) (fun e w' => e = .returned v ∧ Below (grow (redrawn w4 d) os).heap.size (grow (redrawn w4 d) os) w') := fun r v hv d os => by
    refine (obj_any r (hX4.below (below_regrown w4 d os)) (by simp) hkk).mono ?_
    rintro e w' ⟨rfl, q, rfl⟩
    exact ⟨by rw [hv], below_drw (Below.refl _ _) q⟩
  have D3 := fun d os => Calls.regrown_of (obd 1 (.pointer (some ⟨b, 0, none⟩)) rfl d os)
  have D4 := fun d os => Calls.regrown_of (obd 2 (.pointer none) rfl d os)
  have A0 := fun d os => cell_regrown a0 d os
  have A1 := fun d os => cell_regrown a1 d os
  have A2 := fun d os => cell_regrown a2 d os
  have C0 := fun d os => cell_regrown c0 d os
  have C1 := fun d os => cell_regrown c1 d os
  have C2 := fun d os => cell_regrown c2 d os
  have E1 := fun W => obj_same b W
  have HB4 := Lib.hid hb4
  clear r1 r2 a0 a1 a2 c0 c1 c2 hb4 obd hkk hX4 hrow u4 hk1 hk2 H3 hkeys
  go_wp2_with fail
  refine wp_region_quiet_below (by kernel_rfl) (by kernel_rfl) ?_
  repeat (quiet_step (first | with_reducible exact D1 _ _ | with_reducible exact D2 _ _ | with_reducible exact D3 _ _ | with_reducible exact D4 _ _))
  refine wpQuiet_nil ?_
  intro _ hw'
  obtain ⟨⟨dq, osq⟩, hw''⟩ := hw'
  subst hw''
  have bq := below_regrown w4 dq osq
  clear A0 A1 A2 C0 C1 C2 D1 D2 D3 D4 E1
  go_wp2
  go_ret
  exact ⟨by simp, HB4.out.trans (bq.mono HB4.out.size)⟩
end Go.Proofs.YtmimnaaofpkndaaDoor.Hp
