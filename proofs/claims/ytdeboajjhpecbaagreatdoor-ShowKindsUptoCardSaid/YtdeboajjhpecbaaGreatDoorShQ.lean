/- Show: a machine's Make and Array, and what they leave as it was. -/
import Derived.Test.YtdeboajjhpecbaaGreatDoorShD
set_option linter.unusedVariables false
set_option linter.unusedSimpArgs false
namespace Go.Proofs.YtdeboajjhpecbaaGreatDoor.Hp
open Go.RowKit Go.Proofs.YtdeboajjhpecbaaGreatDoor Go.Shelf
/-- Make, by a machine. -/
theorem Ms.make2 {N : Nat} {w : World} {m H A B : Nat} {cv : Value} {cs : List Cell} {ps : List Int} (h : Ms N w m H A B cv cs ps) (cl pr : Int) (hc : cs.length ≤ 4000) (hN : N ≤ w.heap.size) :
    Calls Tryz.prog 14 #[.pointer (some ⟨H, 0, none⟩), .int .i64 cl, .int .i64 pr] w fun e w' => ∃ b T cv', e = .returned (.tuple #[.int .i64 ((cs.length + 1 : Nat) : Int), .pointer (some ⟨b, 0, none⟩)]) ∧
      Ms N w' m H A B cv' (cs ++ [(some (tObj, b), false)]) ps ∧ Blk w' b 85 (objN cl pr T) ∧ TabA w' T [] [] (fun k => k = T) ∧ w.heap.size ≤ T ∧ T < b ∧ Kp w w' ∧ Below N w w' ∧ Upd w w' (fun k => k = A ∨ cv.ownBlock = some k) ∧ (∀ g, cv'.ownBlock = some g → cv.ownBlock = some g ∨ w.heap.size ≤ g) := by
  refine (make_any cl pr h.hx (by omega) (by omega) (by omega) h.low.2.2.2).mono ?_
  rintro e w' ⟨b, T, cv', rfl, hT, hTb, hB, hTab, hX, hU, hO⟩
  have hne : ∀ g t c, Blk w g t c → (t = 85 ∨ t = 30 ∨ t = 99 ∨ t = 69) → ¬ (g = A ∨ cv.ownBlock = some g) := by
    intro g t c hb ht hg
    rcases hg with rfl | hg
    · exact hb.ne_ h.hx.ar.blk (by rcases ht with rfl | rfl | rfl | rfl <;> decide) rfl
    · exact own_blk_ne h.hx.ar.cells hb (by rcases ht with rfl | rfl | rfl | rfl <;> decide) hg
  refine ⟨b, T, cv', rfl, ⟨⟨h.low.1, h.low.2.1, h.low.2.2.1, Nat.le_trans h.low.2.2.2 hU.size⟩, ?_, hU.blk h.mb (hne _ _ _ h.mb (by simp)), h.pl, ?_, ?_⟩, hB, hTab, hT, hTb, fun g t c hb ht => hU.blk hb (hne g t c hb (by rcases ht with h | h | h <;> simp [h])), ?_, hU, fun g hg => (hO g hg).imp id (fun h => by omega)⟩
  · intro g hg
    rcases hO g hg with h1 | h1
    · exact h.own g h1
    · omega
  · have : ((cs ++ [(some (tObj, b), false)]).length : Int) = (cs.length : Int) + 1 := by simp
    rw [this]
    exact hX
  · intro i n hn
    by_cases hi : i < cs.length
    · rw [show (cs ++ [(some (tObj, b), false)]).getD i (none, false) = cs.getD i (none, false) by simp only [List.getD, List.getElem?_append_left hi]] at hn
      exact h.hk i n hn
    · by_cases he : i = cs.length
      · subst he
        simp at hn
        left
        rw [← hn]
      · rw [show (cs ++ [(some (tObj, b), false)]).getD i (none, false) = (none, false) by simp only [List.getD]; rw [List.getElem?_eq_none (by simp; omega)]; rfl] at hn
        cases hn
  · refine hU.below hN ?_
    intro k hk
    rcases hk with rfl | hk
    · exact h.low.2.1
    · exact h.own k hk
set_option maxRecDepth 100000 in
set_option maxHeartbeats 8000000 in
theorem Ms.array2 {N : Nat} {w : World} {m H A B : Nat} {cv : Value} {cs : List Cell} {ps : List Int} (h : Ms N w m H A B cv cs ps) (a : Option Addr) (n cap : Nat) (hc : cs.length ≤ 4000) (hN : N ≤ w.heap.size) :
    Calls Tryz.prog 11 #[.pointer (some ⟨m, 0, none⟩), .slice a n cap] w fun e w' => ∃ b T cv', e = .returned (VS 9 ((cs.length + 1 : Nat) : Int) ⟨#[]⟩) ∧
      Ms N w' m H A B cv' (cs ++ [(some (tObj, b), false)]) ps ∧ Blk w' b 85 (objA 1 (ps.getD 2 0) false T (.slice a n cap) nilP nilP nilS 0) ∧ w.heap.size ≤ T ∧ T < b ∧ Kp w w' ∧ Below N w w' ∧ Upd w w' (fun k => k = A ∨ cv.ownBlock = some k) ∧ (∀ g, cv'.ownBlock = some g → cv.ownBlock = some g ∨ w.heap.size ≤ g) := by
  have b0 : Below w.heap.size w (w.alloc (.cells VZ 30)) := (Below.refl _ _).alloc (Nat.le_refl _) _
  have h1 := h.below b0
  have x0 : (w.alloc (.cells VZ 30)).cell? ⟨m, 0, none⟩ = some (.pointer (some ⟨H, 0, none⟩)) := by rw [h1.mb.cell]; rfl
  have x1 : (w.alloc (.cells VZ 30)).cell? ⟨m, 3, none⟩ = some (.int .i64 (ps.getD 2 0)) := by rw [h1.mb.cell]; exact machC_get H ps h.pl 2 (by omega)
  have HI := Lib.hid (And.intro h1 (And.intro b0 (Blk.new w 30 VZ)))
  clear h h1 b0
  go_enter Tryz.func11, Tryz.ntmps11
  go_wp2_with (fail)
  generalize w.alloc (.cells VZ 30) = W1 at *
  refine wp_var0 (fun KV HKV => ?_)
  refine wp_region_till (m := 9) (S := (fun W => W.cell? ⟨m, 0, none⟩ = some (.pointer (some ⟨H, 0, none⟩)) ∧ W.cell? ⟨m, 3, none⟩ = some (.int .i64 (ps.getD 2 0)))) (by kernel_rfl) ?_
  have e4 : W1.drew = W1.drewN 1 := rfl
  rw [e4]
  have S0 : (W1.drewN 1).cell? ⟨m, 0, none⟩ = some (.pointer (some ⟨H, 0, none⟩)) ∧ (W1.drewN 1).cell? ⟨m, 3, none⟩ = some (.int .i64 (ps.getD 2 0)) := ⟨x0, x1⟩
  have HBD := Lib.hid (And.intro (HI.out.1.drewN 1) (And.intro (below_drw HI.out.2.1 1) (HI.out.2.2.drewN 1)))
  clear e4 x0 x1 HI
  generalize W1.drewN 1 = E1 at *
  change tillH _ _ _ _ _ _ 15 #[false, false, false, false, false, false, false, false, false, false, false, false, false, false, false] _ _
  refine tillH_takeAny (i := 0) (oi := ?oo1) (v := ?vv1) ?hi1 (by kernel_rfl) (by kernel_rfl) (by kernel_rfl) ?hq1 (by kernel_rfl) ?hy1 (fun _ => S0) ?hh1
  case hi1 => (simp only [List.getElem?_toArray, List.getElem?_cons_succ, List.getElem?_cons_zero]; rfl)
  case hq1 => exact fun _ _ _ h => h
  case hy1 => exact Or.inl ⟨by rfl, by (intro W; go_simp; (try with_reducible rfl))⟩
  (try simp only [Act.put, List.setIfInBounds_toArray, List.set_cons_zero, List.set_cons_succ])
  refine tillH_takeAny (i := 1) (oi := ?oo2) (v := ?vv2) ?hi2 (by kernel_rfl) (by kernel_rfl) (by kernel_rfl) ?hq2 (by kernel_rfl) ?hy2 (fun _ => S0) ?hh2
  case hi2 => (simp only [List.getElem?_toArray, List.getElem?_cons_succ, List.getElem?_cons_zero]; rfl)
  case hq2 => exact fun _ _ _ h => h
  case hy2 => exact Or.inl ⟨by rfl, by (intro W; go_simp; (try with_reducible rfl))⟩
  (try simp only [Act.put, List.setIfInBounds_toArray, List.set_cons_zero, List.set_cons_succ])
  refine tillH_takeAny (i := 2) (oi := ?oo3) (v := ?vv3) ?hi3 (by kernel_rfl) (by kernel_rfl) (by kernel_rfl) ?hq3 (by kernel_rfl) ?hy3 (fun _ => S0) ?hh3
  case hi3 => (simp only [List.getElem?_toArray, List.getElem?_cons_succ, List.getElem?_cons_zero]; rfl)
  case hq3 => exact fun _ _ _ h => h
  case hy3 => exact Or.inl ⟨by rfl, by (intro W; go_simp; (try with_reducible rfl))⟩
  (try simp only [Act.put, List.setIfInBounds_toArray, List.set_cons_zero, List.set_cons_succ])
  refine tillH_take (i := 3) (oi := ?oo4) (v := ?vv4) ?hi4 (by kernel_rfl) (by kernel_rfl) (by kernel_rfl) ?hq4 (by kernel_rfl) (by kernel_rfl) (by kernel_rfl) ?hy4 S0 ?hh4
  case hi4 => (simp only [List.getElem?_toArray, List.getElem?_cons_succ, List.getElem?_cons_zero]; rfl)
  case hq4 => exact fun _ _ _ h => h
  case hy4 => exact Or.inl ⟨by rfl, by (intro W hSw; (try obtain ⟨s0, s1⟩ := hSw); go_simp; (try with_reducible rfl))⟩
  (try simp only [Act.put, List.setIfInBounds_toArray, List.set_cons_zero, List.set_cons_succ])
  refine tillH_takeAny (i := 4) (oi := ?oo5) (v := ?vv5) ?hi5 (by kernel_rfl) (by kernel_rfl) (by kernel_rfl) ?hq5 (by kernel_rfl) ?hy5 (fun _ => S0) ?hh5
  case hi5 => (simp only [List.getElem?_toArray, List.getElem?_cons_succ, List.getElem?_cons_zero]; rfl)
  case hq5 => exact fun _ _ _ h => h
  case hy5 => exact Or.inl ⟨by rfl, by (intro W; go_simp; (try with_reducible rfl))⟩
  (try simp only [Act.put, List.setIfInBounds_toArray, List.set_cons_zero, List.set_cons_succ])
  refine tillH_takeAny (i := 5) (oi := ?oo6) (v := ?vv6) ?hi6 (by kernel_rfl) (by kernel_rfl) (by kernel_rfl) ?hq6 (by kernel_rfl) ?hy6 (fun _ => S0) ?hh6
  case hi6 => (simp only [List.getElem?_toArray, List.getElem?_cons_succ, List.getElem?_cons_zero]; rfl)
  case hq6 => exact fun _ _ _ h => h
  case hy6 => exact Or.inl ⟨by rfl, by (intro W; go_simp; (try with_reducible rfl))⟩
  (try simp only [Act.put, List.setIfInBounds_toArray, List.set_cons_zero, List.set_cons_succ])
  refine tillH_takeAny (i := 6) (oi := ?oo7) (v := ?vv7) ?hi7 (by kernel_rfl) (by kernel_rfl) (by kernel_rfl) ?hq7 (by kernel_rfl) ?hy7 (fun _ => S0) ?hh7
  case hi7 => (simp only [List.getElem?_toArray, List.getElem?_cons_succ, List.getElem?_cons_zero]; rfl)
  case hq7 => exact fun _ _ _ h => h
  case hy7 => exact Or.inl ⟨by rfl, by (intro W; go_simp; (try with_reducible rfl))⟩
  (try simp only [Act.put, List.setIfInBounds_toArray, List.set_cons_zero, List.set_cons_succ])
  refine tillH_takeAny (i := 7) (oi := ?oo8) (v := ?vv8) ?hi8 (by kernel_rfl) (by kernel_rfl) (by kernel_rfl) ?hq8 (by kernel_rfl) ?hy8 (fun _ => S0) ?hh8
  case hi8 => (simp only [List.getElem?_toArray, List.getElem?_cons_succ, List.getElem?_cons_zero]; rfl)
  case hq8 => exact fun _ _ _ h => h
  case hy8 => exact Or.inl ⟨by rfl, by (intro W; go_simp; (try with_reducible rfl))⟩
  (try simp only [Act.put, List.setIfInBounds_toArray, List.set_cons_zero, List.set_cons_succ])
  refine tillH_take (i := 8) (oi := ?oo9) (v := ?vv9) ?hi9 (by kernel_rfl) (by kernel_rfl) (by kernel_rfl) ?hq9 (by kernel_rfl) (by kernel_rfl) (by kernel_rfl) ?hy9 S0 ?hh9
  case hi9 => (simp only [List.getElem?_toArray, List.getElem?_cons_succ, List.getElem?_cons_zero]; rfl)
  case hq9 => exact fun _ _ _ h => h
  case hy9 => exact Or.inl ⟨by rfl, by (intro W hSw; (try obtain ⟨s0, s1⟩ := hSw); go_simp; (try with_reducible rfl))⟩
  (try simp only [Act.put, List.setIfInBounds_toArray, List.set_cons_zero, List.set_cons_succ])
  refine tillH_next (rs := [9]) (by kernel_rfl) (by simp) ?_
  refine NextH.cons rfl (fun K hK => ?_) NextH.nil
  go_simp
  refine (HBD.out.1.make2 1 (ps.getD 2 0) hc (Nat.le_trans hN HBD.out.2.1.size)).mono ?_
  rintro e E2 ⟨b, T, cv2, rfl, hM, hB, hTb, h3, h4, hK, b6, hU, hO⟩
  have HUO := Lib.hid (And.intro hU hO)
  clear hU hO
  have HP := Lib.hid (And.intro hM (And.intro hB (And.intro hTb (And.intro h3 (And.intro h4 (And.intro hK (And.intro b6 (And.intro HBD.out.2.1 HBD.out.2.2))))))))
  clear hM hB hTb h3 h4 hK b6 HBD
  refine hK.out _ _ (fun h => absurd h (by simp)) ?_
  clear hK K
  (try simp only [Act.put, List.setIfInBounds_toArray, List.set_cons_zero, List.set_cons_succ])
  refine tillH_takeAny (i := 10) (oi := ?oo10) (v := ?vv10) ?hi10 (by kernel_rfl) (by kernel_rfl) (by kernel_rfl) ?hq10 (by kernel_rfl) ?hy10 (fun h => absurd h (by simp)) ?hh10
  case hi10 => (simp only [List.getElem?_toArray, List.getElem?_cons_succ, List.getElem?_cons_zero]; rfl)
  case hq10 => exact fun _ _ _ h => h
  case hy10 => exact Or.inl ⟨by rfl, by (intro W; go_simp; (try with_reducible rfl))⟩
  (try simp only [Act.put, List.setIfInBounds_toArray, List.set_cons_zero, List.set_cons_succ])
  refine tillH_takeAny (i := 11) (oi := ?oo11) (v := ?vv11) ?hi11 (by kernel_rfl) (by kernel_rfl) (by kernel_rfl) ?hq11 (by kernel_rfl) ?hy11 (fun h => absurd h (by simp)) ?hh11
  case hi11 => (simp only [List.getElem?_toArray, List.getElem?_cons_succ, List.getElem?_cons_zero]; rfl)
  case hq11 => exact fun _ _ _ h => h
  case hy11 => exact Or.inl ⟨by rfl, by (intro W; go_simp; (try with_reducible rfl))⟩
  (try simp only [Act.put, List.setIfInBounds_toArray, List.set_cons_zero, List.set_cons_succ])
  refine tillH_takeAny (i := 12) (oi := ?oo12) (v := ?vv12) ?hi12 (by kernel_rfl) (by kernel_rfl) (by kernel_rfl) ?hq12 (by kernel_rfl) ?hy12 (fun h => absurd h (by simp)) ?hh12
  case hi12 => (simp only [List.getElem?_toArray, List.getElem?_cons_succ, List.getElem?_cons_zero]; rfl)
  case hq12 => exact fun _ _ _ h => h
  case hy12 => exact Or.inl ⟨by rfl, by (intro W; go_simp; (try with_reducible rfl))⟩
  (try simp only [Act.put, List.setIfInBounds_toArray, List.set_cons_zero, List.set_cons_succ])
  refine tillH_takeAny (i := 13) (oi := ?oo13) (v := ?vv13) ?hi13 (by kernel_rfl) (by kernel_rfl) (by kernel_rfl) ?hq13 (by kernel_rfl) ?hy13 (fun h => absurd h (by simp)) ?hh13
  case hi13 => (simp only [List.getElem?_toArray, List.getElem?_cons_succ, List.getElem?_cons_zero]; rfl)
  case hq13 => exact fun _ _ _ h => h
  case hy13 => exact Or.inl ⟨by rfl, by (intro W; go_simp; (try with_reducible rfl))⟩
  (try simp only [Act.put, List.setIfInBounds_toArray, List.set_cons_zero, List.set_cons_succ])
  refine tillH_takeAny (i := 14) (oi := ?oo14) (v := ?vv14) ?hi14 (by kernel_rfl) (by kernel_rfl) (by kernel_rfl) ?hq14 (by kernel_rfl) ?hy14 (fun h => absurd h (by simp)) ?hh14
  case hi14 => (simp only [List.getElem?_toArray, List.getElem?_cons_succ, List.getElem?_cons_zero]; rfl)
  case hq14 => exact fun _ _ _ h => h
  case hy14 => exact Or.inl ⟨by rfl, by (intro W; go_simp; (try with_reducible rfl))⟩
  (try simp only [Act.put, List.setIfInBounds_toArray, List.set_cons_zero, List.set_cons_succ])
  refine tillH_done (by kernel_rfl) ?_ _
  refine HKV.out _ _ ?_
  have y0 : E2.frozen? ⟨b, 4, none⟩ = false := HP.out.2.1.frozen 4
  have y1 : E2.cell? ⟨b, 4, none⟩ = some nilS := by rw [HP.out.2.1.cell]; rfl
  go_wp2_with (fail)
  refine (vobject_any _ _).mono ?_
  rintro e w5 ⟨rfl, b7⟩
  clear y0 y1
  have HQ : Hid (Ms N w5 m H A B cv2 (cs ++ [(some (tObj, b), false)]) ps ∧ Blk w5 b 85 (objA 1 (ps.getD 2 0) false T (.slice a n cap) nilP nilP nilS 0) ∧ w.heap.size ≤ T ∧ T < b ∧ Kp w w5 ∧ Below N w w5 ∧ Blk w5 w.heap.size 30 VZ) := by
    obtain ⟨hM, hB, hTb, h3, h4, hK, b6, b1, hV⟩ := HP.out
    have hg : w.heap.size ≤ b := by have := b1.size; omega
    have u : Upd E2 (E2.setCell ⟨b, 4, none⟩ (.slice a n cap)) (fun k => k = b) := (Upd.refl E2 _).set b 4 _ rfl
    have hM4 := hM.upd_val hB (Or.inl rfl) u
    have hk4 : ∀ g t c, Blk E2 g t c → g < b → Blk (E2.setCell ⟨b, 4, none⟩ (.slice a n cap)) g t c := fun g t c hb hl => u.blk hb (by omega)
    refine ⟨hM4.below b7, (hB.set_ 4 _).below b7 (hB.set_ 4 _).lt, by have := b1.size; omega, h4, ?_, ?_, ?_⟩
    · intro g t c hb ht
      have h5 := hk4 g t c (hK g t c (hb.below b1 hb.lt) ht) (by have := hb.lt; omega)
      exact h5.below b7 h5.lt
    · exact (((b1.mono hN).trans b6).trans (u.below (Nat.le_trans hN (Nat.le_trans b1.size (by have := hB.lt; omega))) (fun k e => by omega))).trans (b7.mono (Nat.le_trans hN (by have := u.size; have := hB.lt; omega)))
    · have h5 := hk4 _ _ _ (hK _ _ _ hV (by simp)) (by have := hV.lt; omega)
      exact h5.below b7 h5.lt
  have HU5 : Hid (Upd w w5 (fun k => k = A ∨ cv.ownBlock = some k) ∧ (∀ g, cv2.ownBlock = some g → cv.ownBlock = some g ∨ w.heap.size ≤ g)) := by
    obtain ⟨hM, hB, hTb, h3, h4, hK, b6, b1, hV⟩ := HP.out
    have hg : w.heap.size ≤ b := by have := b1.size; omega
    have u : Upd E2 (E2.setCell ⟨b, 4, none⟩ (.slice a n cap)) (fun k => k = b) := (Upd.refl E2 _).set b 4 _ rfl
    have h1 := (((Upd.of_below_all b1).trans HUO.out.1).mono (M' := fun k => (k = A ∨ cv.ownBlock = some k) ∨ k = b) (fun k _ h => Or.inl h)).trans ((u.mono (M' := fun k => (k = A ∨ cv.ownBlock = some k) ∨ k = b) (fun k _ e => Or.inr e)).trans (Upd.of_below_all b7))
    exact ⟨h1.mono (fun k hk h => h.elim id (fun e => by omega)), fun g hg => (HUO.out.2 g hg).imp id (fun h => Nat.le_trans b1.size h)⟩
  clear HP b7
  have z0 : w5.frozen? ⟨w.heap.size, 0, none⟩ = false := HQ.out.2.2.2.2.2.2.frozen 0
  have z1 : w5.frozen? ⟨w.heap.size, 1, none⟩ = false := HQ.out.2.2.2.2.2.2.frozen 1
  have z2 : w5.frozen? ⟨w.heap.size, 2, none⟩ = false := HQ.out.2.2.2.2.2.2.frozen 2
  have y0 : w5.cell? ⟨w.heap.size, 0, none⟩ = some (.int .i64 0) := by rw [HQ.out.2.2.2.2.2.2.cell]; rfl
  have y1 : w5.cell? ⟨w.heap.size, 1, none⟩ = some (.int .i64 0) := by rw [HQ.out.2.2.2.2.2.2.cell]; rfl
  have y2 : w5.cell? ⟨w.heap.size, 2, none⟩ = some (.string ⟨#[]⟩) := by rw [HQ.out.2.2.2.2.2.2.cell]; rfl
  have l5 : w.heap.size < w5.heap.size := HQ.out.2.2.2.2.2.2.lt
  go_wp2
  refine bodyPost_ret (v := VS 9 ((cs.length + 1 : Nat) : Int) ⟨#[]⟩) (by simp [results, Tryz.results11, go_sem, y0, y1, y2, l5]) rfl ?_
  obtain ⟨hM, hB, hT, hTb, hK, hb, hV⟩ := HQ.out
  have u : Upd w5 (((w5.setCell ⟨w.heap.size, 0, none⟩ (.int .i64 9)).setCell ⟨w.heap.size, 1, none⟩ (.int .i64 ((cs.length : Int) + 1))).setCell ⟨w.heap.size, 2, none⟩ (.string ⟨#[]⟩)) (fun k => k = w.heap.size) := (((Upd.refl w5 (fun k => k = w.heap.size)).set _ 0 _ rfl).set _ 1 _ rfl).set _ 2 _ rfl
  refine ⟨b, T, cv2, rfl, hM.upd_val hV (Or.inr rfl) u, u.blk hB (by omega), hT, hTb, ?_, ?_, ?_, HU5.out.2⟩
  · exact fun g t c h ht => u.blk (hK g t c h ht) (by have := h.lt; omega)
  · exact hb.trans (u.below (by omega) (fun k e => by omega))
  · exact ((HU5.out.1.mono (M' := fun k => (k = A ∨ cv.ownBlock = some k) ∨ k = w.heap.size) (fun k _ h => Or.inl h)).trans (u.mono (fun k _ e => Or.inr e))).mono (fun k hk h => h.elim id (fun e => by omega))
end Go.Proofs.YtdeboajjhpecbaaGreatDoor.Hp
