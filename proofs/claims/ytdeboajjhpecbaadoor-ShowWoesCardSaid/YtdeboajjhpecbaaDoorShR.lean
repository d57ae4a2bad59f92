/- ShR: several texts in one. -/
import Derived.Test.YtdeboajjhpecbaaDoorShD
import Derived.Test.YtdeboajjhpecbaaDoorShP
/- Show: a machine's Make and Array, and what they leave as it was. -/
set_option linter.unusedVariables false
set_option linter.unusedSimpArgs false
namespace Go.Proofs.YtdeboajjhpecbaaDoor.Hp
open Go.RowKit Go.Proofs.YtdeboajjhpecbaaDoor Go.Shelf
/-- Make, by a machine. -/
theorem Ms.make2 {N : Nat} {w : World} {m H A B : Nat} {cv : Value} {cs : List Cell} {ps : List Int} (h : Ms N w m H A B cv cs ps) (cl pr : Int) (hc : cs.length ≤ 4000) (hN : N ≤ w.heap.size) :
    Calls Tryd.prog 11 #[.pointer (some ⟨H, 0, none⟩), .int .i64 cl, .int .i64 pr] w fun e w' => ∃ b T cv', e = .returned (.tuple #[.int .i64 ((cs.length + 1 : Nat) : Int), .pointer (some ⟨b, 0, none⟩)]) ∧
      Ms N w' m H A B cv' (cs ++ [(some (tObj, b), false)]) ps ∧ Blk w' b 36 (objN cl pr T) ∧ TabA w' T [] [] (fun k => k = T) ∧ w.heap.size ≤ T ∧ T < b ∧ Kp w w' ∧ Below N w w' ∧ Upd w w' (fun k => k = A ∨ cv.ownBlock = some k) ∧ (∀ g, cv'.ownBlock = some g → cv.ownBlock = some g ∨ w.heap.size ≤ g) := by
  refine (make_any cl pr h.hx (by omega) (by omega) (by omega) h.low.2.2.2).mono ?_
  rintro e w' ⟨b, T, cv', rfl, hT, hTb, hB, hTab, hX, hU, hO⟩
  have hne : ∀ g t c, Blk w g t c → (t = 36 ∨ t = 26 ∨ t = 111 ∨ t = 52) → ¬ (g = A ∨ cv.ownBlock = some g) := by
    intro g t c hb ht hg
    rcases hg with rfl | hg
    · exact hb.ne_ h.hx.ar.blk (by rcases ht with rfl | rfl | rfl | rfl <;> decide) rfl
    · exact own_blk_ne h.hx.ar.cells hb (by rcases ht with rfl | rfl | rfl | rfl <;> decide) hg
  refine ⟨b, T, cv', rfl, ⟨⟨h.low.1, h.low.2.1, h.low.2.2.1, Nat.le_trans h.low.2.2.2 hU.size⟩, ?_, hU.blk h.mb (hne _ _ _ h.mb (by simp)), h.pl, ?_, ?_⟩, hB, hTab, hT, hTb, fun g t c hb ht => hU.blk hb (hne g t c hb (by rcases ht with h | h | h <;> simp [h])), ?_, hU, fun g hg => (hO g hg).imp id (fun h => by omega)⟩
  · intro g hg
    rcases hO g hg with h1 | h1
    · exact h.own g h1
    · omega
  · have : ((cs ++ [(some (tObj, b), false)]).length : Int) = (cs.length : Int) + 1 := by simp
    rw [this]
    exact hX
  · intro i n hn
    by_cases hi : i < cs.length
    · rw [show (cs ++ [(some (tObj, b), false)]).getD i (none, false) = cs.getD i (none, false) by simp only [List.getD, List.getElem?_append_left hi]] at hn
      exact h.hk i n hn
    · by_cases he : i = cs.length
      · subst he
        simp at hn
        left
        rw [← hn]
      · rw [show (cs ++ [(some (tObj, b), false)]).getD i (none, false) = (none, false) by simp only [List.getD]; rw [List.getElem?_eq_none (by simp; omega)]; rfl] at hn
        cases hn
  · refine hU.below hN ?_
    intro k hk
    rcases hk with rfl | hk
    · exact h.low.2.1
    · exact h.own k hk
set_option maxRecDepth 100000 in
set_option maxHeartbeats 8000000 in
theorem Ms.array2 {N : Nat} {w : World} {m H A B : Nat} {cv : Value} {cs : List Cell} {ps : List Int} (h : Ms N w m H A B cv cs ps) (a : Option Addr) (n cap : Nat) (hc : cs.length ≤ 4000) (hN : N ≤ w.heap.size) :
    Calls Tryd.prog 8 #[.pointer (some ⟨m, 0, none⟩), .slice a n cap] w fun e w' => ∃ b T cv', e = .returned (VS 9 ((cs.length + 1 : Nat) : Int) ⟨#[]⟩) ∧
      Ms N w' m H A B cv' (cs ++ [(some (tObj, b), false)]) ps ∧ Blk w' b 36 (objA 1 (ps.getD 2 0) false T (.slice a n cap) nilP nilP nilS 0) ∧ w.heap.size ≤ T ∧ T < b ∧ Kp w w' ∧ Below N w w' ∧ Upd w w' (fun k => k = A ∨ cv.ownBlock = some k) ∧ (∀ g, cv'.ownBlock = some g → cv.ownBlock = some g ∨ w.heap.size ≤ g) := by
  have b0 : Below w.heap.size w (w.alloc (.cells VZ 26)) := (Below.refl _ _).alloc (Nat.le_refl _) _
  have h1 := h.below b0
  have x0 : (w.alloc (.cells VZ 26)).cell? ⟨m, 0, none⟩ = some (.pointer (some ⟨H, 0, none⟩)) := by rw [h1.mb.cell]; rfl
  have x1 : (w.alloc (.cells VZ 26)).cell? ⟨m, 3, none⟩ = some (.int .i64 (ps.getD 2 0)) := by rw [h1.mb.cell]; exact machC_get H ps h.pl 2 (by omega)
  have HI := Lib.hid (And.intro h1 (And.intro b0 (Blk.new w 26 VZ)))
  clear h h1 b0
  go_enter Tryd.func8, Tryd.ntmps8
  go_wp2_with (fail)
  generalize w.alloc (.cells VZ 26) = W1 at *
  refine wp_var0 (fun KV HKV => ?_)
  refine wp_region_till (m := 9) (S := (fun W => W.cell? ⟨m, 0, none⟩ = some (.pointer (some ⟨H, 0, none⟩)) ∧ W.cell? ⟨m, 3, none⟩ = some (.int .i64 (ps.getD 2 0)))) (by kernel_rfl) ?_
  have e4 : W1.drew = W1.drewN 1 := rfl
  rw [e4]
  have S0 : (W1.drewN 1).cell? ⟨m, 0, none⟩ = some (.pointer (some ⟨H, 0, none⟩)) ∧ (W1.drewN 1).cell? ⟨m, 3, none⟩ = some (.int .i64 (ps.getD 2 0)) := ⟨x0, x1⟩
  have HBD := Lib.hid (And.intro (HI.out.1.drewN 1) (And.intro (below_drw HI.out.2.1 1) (HI.out.2.2.drewN 1)))
  clear e4 x0 x1 HI
  generalize W1.drewN 1 = E1 at *
  change tillH _ _ _ _ _ _ 15 #[false, false, false, false, false, false, false, false, false, false, false, false, false, false, false] _ _
  refine tillH_takeAny (i := 0) (oi := ?oo1) (v := ?vv1) ?hi1 (by kernel_rfl) (by kernel_rfl) (by kernel_rfl) ?hq1 (by kernel_rfl) ?hy1 (fun _ => S0) ?hh1
  case hi1 => (simp only [List.getElem?_toArray, List.getElem?_cons_succ, List.getElem?_cons_zero]; rfl)
  case hq1 => exact fun _ _ _ h => h
  case hy1 => exact Or.inl ⟨by rfl, by (intro W; go_simp; (try with_reducible rfl))⟩
  (try simp only [Act.put, List.setIfInBounds_toArray, List.set_cons_zero, List.set_cons_succ])
  refine tillH_takeAny (i := 1) (oi := ?oo2) (v := ?vv2) ?hi2 (by kernel_rfl) (by kernel_rfl) (by kernel_rfl) ?hq2 (by kernel_rfl) ?hy2 (fun _ => S0) ?hh2
  case hi2 => (simp only [List.getElem?_toArray, List.getElem?_cons_succ, List.getElem?_cons_zero]; rfl)
  case hq2 => exact fun _ _ _ h => h
  case hy2 => exact Or.inl ⟨by rfl, by (intro W; go_simp; (try with_reducible rfl))⟩
  (try simp only [Act.put, List.setIfInBounds_toArray, List.set_cons_zero, List.set_cons_succ])
  refine tillH_takeAny (i := 2) (oi := ?oo3) (v := ?vv3) ?hi3 (by kernel_rfl) (by kernel_rfl) (by kernel_rfl) ?hq3 (by kernel_rfl) ?hy3 (fun _ => S0) ?hh3
  case hi3 => (simp only [List.getElem?_toArray, List.getElem?_cons_succ, List.getElem?_cons_zero]; rfl)
  case hq3 => exact fun _ _ _ h => h
  case hy3 => exact Or.inl ⟨by rfl, by (intro W; go_simp; (try with_reducible rfl))⟩
  (try simp only [Act.put, List.setIfInBounds_toArray, List.set_cons_zero, List.set_cons_succ])
  refine tillH_take (i := 3) (oi := ?oo4) (v := ?vv4) ?hi4 (by kernel_rfl) (by kernel_rfl) (by kernel_rfl) ?hq4 (by kernel_rfl) (by kernel_rfl) (by kernel_rfl) ?hy4 S0 ?hh4
  case hi4 => (simp only [List.getElem?_toArray, List.getElem?_cons_succ, List.getElem?_cons_zero]; rfl)
  case hq4 => exact fun _ _ _ h => h
  case hy4 => exact Or.inl ⟨by rfl, by (intro W hSw; (try obtain ⟨s0, s1⟩ := hSw); go_simp; (try with_reducible rfl))⟩
  (try simp only [Act.put, List.setIfInBounds_toArray, List.set_cons_zero, List.set_cons_succ])
  refine tillH_takeAny (i := 4) (oi := ?oo5) (v := ?vv5) ?hi5 (by kernel_rfl) (by kernel_rfl) (by kernel_rfl) ?hq5 (by kernel_rfl) ?hy5 (fun _ => S0) ?hh5
  case hi5 => (simp only [List.getElem?_toArray, List.getElem?_cons_succ, List.getElem?_cons_zero]; rfl)
  case hq5 => exact fun _ _ _ h => h
  case hy5 => exact Or.inl ⟨by rfl, by (intro W; go_simp; (try with_reducible rfl))⟩
  (try simp only [Act.put, List.setIfInBounds_toArray, List.set_cons_zero, List.set_cons_succ])
  refine tillH_takeAny (i := 5) (oi := ?oo6) (v := ?vv6) ?hi6 (by kernel_rfl) (by kernel_rfl) (by kernel_rfl) ?hq6 (by kernel_rfl) ?hy6 (fun _ => S0) ?hh6
  case hi6 => (simp only [List.getElem?_toArray, List.getElem?_cons_succ, List.getElem?_cons_zero]; rfl)
  case hq6 => exact fun _ _ _ h => h
  case hy6 => exact Or.inl ⟨by rfl, by (intro W; go_simp; (try with_reducible rfl))⟩
  (try simp only [Act.put, List.setIfInBounds_toArray, List.set_cons_zero, List.set_cons_succ])
  refine tillH_takeAny (i := 6) (oi := ?oo7) (v := ?vv7) ?hi7 (by kernel_rfl) (by kernel_rfl) (by kernel_rfl) ?hq7 (by kernel_rfl) ?hy7 (fun _ => S0) ?hh7
  case hi7 => (simp only [List.getElem?_toArray, List.getElem?_cons_succ, List.getElem?_cons_zero]; rfl)
  case hq7 => exact fun _ _ _ h => h
  case hy7 => exact Or.inl ⟨by rfl, by (intro W; go_simp; (try with_reducible rfl))⟩
  (try simp only [Act.put, List.setIfInBounds_toArray, List.set_cons_zero, List.set_cons_succ])
  refine tillH_takeAny (i := 7) (oi := ?oo8) (v := ?vv8) ?hi8 (by kernel_rfl) (by kernel_rfl) (by kernel_rfl) ?hq8 (by kernel_rfl) ?hy8 (fun _ => S0) ?hh8
  case hi8 => (simp only [List.getElem?_toArray, List.getElem?_cons_succ, List.getElem?_cons_zero]; rfl)
  case hq8 => exact fun _ _ _ h => h
  case hy8 => exact Or.inl ⟨by rfl, by (intro W; go_simp; (try with_reducible rfl))⟩
  (try simp only [Act.put, List.setIfInBounds_toArray, List.set_cons_zero, List.set_cons_succ])
  refine tillH_take (i := 8) (oi := ?oo9) (v := ?vv9) ?hi9 (by kernel_rfl) (by kernel_rfl) (by kernel_rfl) ?hq9 (by kernel_rfl) (by kernel_rfl) (by kernel_rfl) ?hy9 S0 ?hh9
  case hi9 => (simp only [List.getElem?_toArray, List.getElem?_cons_succ, List.getElem?_cons_zero]; rfl)
  case hq9 => exact fun _ _ _ h => h
  case hy9 => exact Or.inl ⟨by rfl, by (intro W hSw; (try obtain ⟨s0, s1⟩ := hSw); go_simp; (try with_reducible rfl))⟩
  (try simp only [Act.put, List.setIfInBounds_toArray, List.set_cons_zero, List.set_cons_succ])
  refine tillH_next (rs := [9]) (by kernel_rfl) (by simp) ?_
  refine NextH.cons rfl (fun K hK => ?_) NextH.nil
  go_simp
  refine (HBD.out.1.make2 1 (ps.getD 2 0) hc (Nat.le_trans hN HBD.out.2.1.size)).mono ?_
  rintro e E2 ⟨b, T, cv2, rfl, hM, hB, hTb, h3, h4, hK, b6, hU, hO⟩
  have HUO := Lib.hid (And.intro hU hO)
  clear hU hO
  have HP := Lib.hid (And.intro hM (And.intro hB (And.intro hTb (And.intro h3 (And.intro h4 (And.intro hK (And.intro b6 (And.intro HBD.out.2.1 HBD.out.2.2))))))))
  clear hM hB hTb h3 h4 hK b6 HBD
  refine hK.out _ _ (fun h => absurd h (by simp)) ?_
  clear hK K
  (try simp only [Act.put, List.setIfInBounds_toArray, List.set_cons_zero, List.set_cons_succ])
  refine tillH_takeAny (i := 10) (oi := ?oo10) (v := ?vv10) ?hi10 (by kernel_rfl) (by kernel_rfl) (by kernel_rfl) ?hq10 (by kernel_rfl) ?hy10 (fun h => absurd h (by simp)) ?hh10
  case hi10 => (simp only [List.getElem?_toArray, List.getElem?_cons_succ, List.getElem?_cons_zero]; rfl)
  case hq10 => exact fun _ _ _ h => h
  case hy10 => exact Or.inl ⟨by rfl, by (intro W; go_simp; (try with_reducible rfl))⟩
  (try simp only [Act.put, List.setIfInBounds_toArray, List.set_cons_zero, List.set_cons_succ])
  refine tillH_takeAny (i := 11) (oi := ?oo11) (v := ?vv11) ?hi11 (by kernel_rfl) (by kernel_rfl) (by kernel_rfl) ?hq11 (by kernel_rfl) ?hy11 (fun h => absurd h (by simp)) ?hh11
  case hi11 => (simp only [List.getElem?_toArray, List.getElem?_cons_succ, List.getElem?_cons_zero]; rfl)
  case hq11 => exact fun _ _ _ h => h
  case hy11 => exact Or.inl ⟨by rfl, by (intro W; go_simp; (try with_reducible rfl))⟩
  (try simp only [Act.put, List.setIfInBounds_toArray, List.set_cons_zero, List.set_cons_succ])
  refine tillH_takeAny (i := 12) (oi := ?oo12) (v := ?vv12) ?hi12 (by kernel_rfl) (by kernel_rfl) (by kernel_rfl) ?hq12 (by kernel_rfl) ?hy12 (fun h => absurd h (by simp)) ?hh12
  case hi12 => (simp only [List.getElem?_toArray, List.getElem?_cons_succ, List.getElem?_cons_zero]; rfl)
  case hq12 => exact fun _ _ _ h => h
  case hy12 => exact Or.inl ⟨by rfl, by (intro W; go_simp; (try with_reducible rfl))⟩
  (try simp only [Act.put, List.setIfInBounds_toArray, List.set_cons_zero, List.set_cons_succ])
  refine tillH_takeAny (i := 13) (oi := ?oo13) (v := ?vv13) ?hi13 (by kernel_rfl) (by kernel_rfl) (by kernel_rfl) ?hq13 (by kernel_rfl) ?hy13 (fun h => absurd h (by simp)) ?hh13
  case hi13 => (simp only [List.getElem?_toArray, List.getElem?_cons_succ, List.getElem?_cons_zero]; rfl)
  case hq13 => exact fun _ _ _ h => h
  case hy13 => exact Or.inl ⟨by rfl, by (intro W; go_simp; (try with_reducible rfl))⟩
  (try simp only [Act.put, List.setIfInBounds_toArray, List.set_cons_zero, List.set_cons_succ])
  refine tillH_takeAny (i := 14) (oi := ?oo14) (v := ?vv14) ?hi14 (by kernel_rfl) (by kernel_rfl) (by kernel_rfl) ?hq14 (by kernel_rfl) ?hy14 (fun h => absurd h (by simp)) ?hh14
  case hi14 => (simp only [List.getElem?_toArray, List.getElem?_cons_succ, List.getElem?_cons_zero]; rfl)
  case hq14 => exact fun _ _ _ h => h
  case hy14 => exact Or.inl ⟨by rfl, by (intro W; go_simp; (try with_reducible rfl))⟩
  (try simp only [Act.put, List.setIfInBounds_toArray, List.set_cons_zero, List.set_cons_succ])
  refine tillH_done (by kernel_rfl) ?_ _
  refine HKV.out _ _ ?_
  have y0 : E2.frozen? ⟨b, 4, none⟩ = false := HP.out.2.1.frozen 4
  have y1 : E2.cell? ⟨b, 4, none⟩ = some nilS := by rw [HP.out.2.1.cell]; rfl
  go_wp2_with (fail)
  refine (vobject_any _ _).mono ?_
  rintro e w5 ⟨rfl, b7⟩
  clear y0 y1
  have HQ : Hid (Ms N w5 m H A B cv2 (cs ++ [(some (tObj, b), false)]) ps ∧ Blk w5 b 36 (objA 1 (ps.getD 2 0) false T (.slice a n cap) nilP nilP nilS 0) ∧ w.heap.size ≤ T ∧ T < b ∧ Kp w w5 ∧ Below N w w5 ∧ Blk w5 w.heap.size 26 VZ) := by
    obtain ⟨hM, hB, hTb, h3, h4, hK, b6, b1, hV⟩ := HP.out
    have hg : w.heap.size ≤ b := by have := b1.size; omega
    have u : Upd E2 (E2.setCell ⟨b, 4, none⟩ (.slice a n cap)) (fun k => k = b) := (Upd.refl E2 _).set b 4 _ rfl
    have hM4 := hM.upd_val hB (Or.inl rfl) u
    have hk4 : ∀ g t c, Blk E2 g t c → g < b → Blk (E2.setCell ⟨b, 4, none⟩ (.slice a n cap)) g t c := fun g t c hb hl => u.blk hb (by omega)
    refine ⟨hM4.below b7, (hB.set_ 4 _).below b7 (hB.set_ 4 _).lt, by have := b1.size; omega, h4, ?_, ?_, ?_⟩
    · intro g t c hb ht
      have h5 := hk4 g t c (hK g t c (hb.below b1 hb.lt) ht) (by have := hb.lt; omega)
      exact h5.below b7 h5.lt
    · exact (((b1.mono hN).trans b6).trans (u.below (Nat.le_trans hN (Nat.le_trans b1.size (by have := hB.lt; omega))) (fun k e => by omega))).trans (b7.mono (Nat.le_trans hN (by have := u.size; have := hB.lt; omega)))
    · have h5 := hk4 _ _ _ (hK _ _ _ hV (by simp)) (by have := hV.lt; omega)
      exact h5.below b7 h5.lt
  have HU5 : Hid (Upd w w5 (fun k => k = A ∨ cv.ownBlock = some k) ∧ (∀ g, cv2.ownBlock = some g → cv.ownBlock = some g ∨ w.heap.size ≤ g)) := by
    obtain ⟨hM, hB, hTb, h3, h4, hK, b6, b1, hV⟩ := HP.out
    have hg : w.heap.size ≤ b := by have := b1.size; omega
    have u : Upd E2 (E2.setCell ⟨b, 4, none⟩ (.slice a n cap)) (fun k => k = b) := (Upd.refl E2 _).set b 4 _ rfl
    have h1 := (((Upd.of_below_all b1).trans HUO.out.1).mono (M' := fun k => (k = A ∨ cv.ownBlock = some k) ∨ k = b) (fun k _ h => Or.inl h)).trans ((u.mono (M' := fun k => (k = A ∨ cv.ownBlock = some k) ∨ k = b) (fun k _ e => Or.inr e)).trans (Upd.of_below_all b7))
    exact ⟨h1.mono (fun k hk h => h.elim id (fun e => by omega)), fun g hg => (HUO.out.2 g hg).imp id (fun h => Nat.le_trans b1.size h)⟩
  clear HP b7
  have z0 : w5.frozen? ⟨w.heap.size, 0, none⟩ = false := HQ.out.2.2.2.2.2.2.frozen 0
  have z1 : w5.frozen? ⟨w.heap.size, 1, none⟩ = false := HQ.out.2.2.2.2.2.2.frozen 1
  have z2 : w5.frozen? ⟨w.heap.size, 2, none⟩ = false := HQ.out.2.2.2.2.2.2.frozen 2
  have y0 : w5.cell? ⟨w.heap.size, 0, none⟩ = some (.int .i64 0) := by rw [HQ.out.2.2.2.2.2.2.cell]; rfl
  have y1 : w5.cell? ⟨w.heap.size, 1, none⟩ = some (.int .i64 0) := by rw [HQ.out.2.2.2.2.2.2.cell]; rfl
  have y2 : w5.cell? ⟨w.heap.size, 2, none⟩ = some (.string ⟨#[]⟩) := by rw [HQ.out.2.2.2.2.2.2.cell]; rfl
  have l5 : w.heap.size < w5.heap.size := HQ.out.2.2.2.2.2.2.lt
  go_wp2
  refine bodyPost_ret (v := VS 9 ((cs.length + 1 : Nat) : Int) ⟨#[]⟩) (by simp [results, Tryd.results8, go_sem, y0, y1, y2, l5]) rfl ?_
  obtain ⟨hM, hB, hT, hTb, hK, hb, hV⟩ := HQ.out
  have u : Upd w5 (((w5.setCell ⟨w.heap.size, 0, none⟩ (.int .i64 9)).setCell ⟨w.heap.size, 1, none⟩ (.int .i64 ((cs.length : Int) + 1))).setCell ⟨w.heap.size, 2, none⟩ (.string ⟨#[]⟩)) (fun k => k = w.heap.size) := (((Upd.refl w5 (fun k => k = w.heap.size)).set _ 0 _ rfl).set _ 1 _ rfl).set _ 2 _ rfl
  refine ⟨b, T, cv2, rfl, hM.upd_val hV (Or.inr rfl) u, u.blk hB (by omega), hT, hTb, ?_, ?_, ?_, HU5.out.2⟩
  · exact fun g t c h ht => u.blk (hK g t c h ht) (by have := h.lt; omega)
  · exact hb.trans (u.below (by omega) (fun k e => by omega))
  · exact ((HU5.out.1.mono (M' := fun k => (k = A ∨ cv.ownBlock = some k) ∨ k = w.heap.size) (fun k _ h => Or.inl h)).trans (u.mono (fun k _ e => Or.inr e))).mono (fun k hk h => h.elim id (fun e => by omega))
end Go.Proofs.YtdeboajjhpecbaaDoor.Hp

/- Show: a machine with one function. -/
set_option linter.unusedVariables false
set_option linter.unusedSimpArgs false
namespace Go.Proofs.YtdeboajjhpecbaaDoor.Hp
open Go.RowKit Go.Proofs.YtdeboajjhpecbaaDoor Go.Shelf
theorem get_has {A : List Ent} {k : K3} {x : Ent} (hone : ∀ y ∈ A, isKey k y = true → y = x) (hx : x ∈ A) (hk : isKey k x = true) {w w' : World} {e : Ending} (h : GetP A k w e w') : e = .returned (.tuple #[VK x.val, .int .i64 x.flags, .bool true]) ∧ Below w.heap.size w w' := by
  obtain ⟨hb, ⟨y, hy, hyk, rfl⟩ | ⟨hn, rfl⟩⟩ := h
  · rw [hone y hy hyk]
    exact ⟨rfl, hb⟩
  · rw [hn x hx] at hk; cases hk
theorem get_no {A : List Ent} {k : K3} (hno : ∀ y ∈ A, isKey k y = false) {w w' : World} {e : Ending} (h : GetP A k w e w') : e = .returned (.tuple #[VK (0, 0, ⟨#[]⟩), .int .i64 0, .bool false]) ∧ Below w.heap.size w w' := by
  obtain ⟨hb, ⟨y, hy, hyk, rfl⟩ | ⟨hn, rfl⟩⟩ := h
  · rw [hno y hy] at hyk; cases hyk
  · exact ⟨rfl, hb⟩
/-- The properties once the name is gone, and once it is made anew. -/
def ents1 : List Ent := [⟨lenK3, (3, 0, ⟨#[]⟩), 4, false⟩]
def ents7 : List Ent := [⟨lenK3, (3, 0, ⟨#[]⟩), 4, false⟩, ⟨nameK3, (3, 7, ⟨#[]⟩), 7, false⟩]
theorem del_ents2 (name : ByteArray) : delA nameK3 (ents2 0 name) = ents1 := by kernel_rfl
theorem put_ents1 : putA (keyS ⟨#[110, 97, 109, 101]⟩) (3, 7, ⟨#[]⟩) 7 ents1 = ents7 := by
  rw [keyS_name]
  kernel_rfl
theorem is_len : ∀ (v : K3) (f : Int), isKey nameK3 ⟨lenK3, v, f, false⟩ = false := fun v f => by kernel_rfl
theorem is_name : ∀ (v : K3) (f : Int), isKey nameK3 ⟨nameK3, v, f, false⟩ = true := fun v f => by kernel_rfl
theorem get_ents2 {name : ByteArray} {w w' : World} {e : Ending} (h : GetP (ents2 0 name) nameK3 w e w') : e = .returned (.tuple #[VK (keyS name), .int .i64 4, .bool true]) ∧ Below w.heap.size w w' := by
  refine get_has (x := ⟨nameK3, keyS name, 4, false⟩) (fun y hy hk => ?_) (by simp [ents2]) (is_name _ _) h
  simp only [ents2, List.mem_cons, List.not_mem_nil, or_false] at hy
  rcases hy with rfl | rfl
  · rw [is_len] at hk; cases hk
  · rfl
theorem get_ents1 {w w' : World} {e : Ending} (h : GetP ents1 nameK3 w e w') : e = .returned (.tuple #[VK (0, 0, ⟨#[]⟩), .int .i64 0, .bool false]) ∧ Below w.heap.size w w' := by
  refine get_no (fun y hy => ?_) h
  simp only [ents1, List.mem_cons, List.not_mem_nil, or_false] at hy
  subst hy
  exact is_len _ _
theorem get_ents7 {w w' : World} {e : Ending} (h : GetP ents7 nameK3 w e w') : e = .returned (.tuple #[VK (3, 7, ⟨#[]⟩), .int .i64 7, .bool true]) ∧ Below w.heap.size w w' := by
  refine get_has (x := ⟨nameK3, (3, 7, ⟨#[]⟩), 7, false⟩) (fun y hy hk => ?_) (by simp [ents7]) (is_name _ _) h
  simp only [ents7, List.mem_cons, List.not_mem_nil, or_false] at hy
  rcases hy with rfl | rfl
  · rw [is_len] at hk; cases hk
  · rfl
/-- A machine with one function, told by cell r; X: the caller's box of it. -/
structure FnS (w0 : World) (N m H A B : Nat) (cv : Value) (cs : List Cell) (ps : List Int) (r : Int) (b T X : Nat) (pr kd at_ : Int) (As : List Ent) (O : Nat → Prop) (w : World) : Prop where
  ms : Ms N w m H A B cv cs ps
  len : cs.length ≤ 100
  obj : objP cs r = .pointer (some ⟨b, 0, none⟩)
  ob : Blk w b 36 (objF 2 pr false T nilS nilP nilP nilS kd at_)
  tab : TabA w T As [] O
  box : Blk w X 26 #[.int .i64 9, .int .i64 r, .string ⟨#[]⟩]
  ap : ∀ x, O x → x ≠ m ∧ x ≠ H ∧ x ≠ A ∧ cv.ownBlock ≠ some x ∧ x ≠ b ∧ x ≠ X ∧ w0.heap.size ≤ x
  n0 : w0.heap.size ≤ N
  bel : Below w0.heap.size w0 w
section
variable {w0 : World} {N m H A B : Nat} {cv : Value} {cs : List Cell} {ps : List Int} {r : Int} {b T X : Nat} {pr kd at_ : Int} {As As' : List Ent} {O O' : Nat → Prop} {w w' : World}
theorem FnS.below (h : FnS w0 N m H A B cv cs ps r b T X pr kd at_ As O w) (bb : Below w.heap.size w w') : FnS w0 N m H A B cv cs ps r b T X pr kd at_ As O w' :=
  ⟨h.ms.below bb, h.len, h.obj, h.ob.below bb h.ob.lt, h.tab.below bb, h.box.below bb h.box.lt, h.ap, h.n0, h.bel.trans (bb.mono h.bel.size)⟩
theorem FnS.turn (h : FnS w0 N m H A B cv cs ps r b T X pr kd at_ As O w) (hT : TabA w' T As' [] O') (hO : ∀ x, O' x → O x ∨ w.heap.size ≤ x) (u : Upd w w' O) : FnS w0 N m H A B cv cs ps r b T X pr kd at_ As' O' w' := by
  have hm := h.ms.mb.lt
  have hH := h.ms.hx.hb.lt
  have hA := h.ms.hx.ar.blk.lt
  have hc := fun g hg => (h.ms.hx.ar.cells.lt g hg).2
  have hb := h.ob.lt
  have hX := h.box.lt
  refine ⟨h.ms.upd u (fun e => (h.ap _ e).1 rfl) (fun e => (h.ap _ e).2.1 rfl) (fun e => (h.ap _ e).2.2.1 rfl) (fun g hg e => (h.ap _ e).2.2.2.1 hg), h.len, h.obj, u.blk h.ob (fun e => (h.ap _ e).2.2.2.2.1 rfl), hT, u.blk h.box (fun e => (h.ap _ e).2.2.2.2.2.1 rfl), ?_, h.n0, h.bel.trans (u.below h.bel.size (fun k e => (h.ap _ e).2.2.2.2.2.2))⟩
  intro x hx
  rcases hO x hx with h1 | h1
  · exact h.ap x h1
  · exact ⟨by omega, by omega, by omega, fun e => by have := hc x e; omega, by omega, by omega, Nat.le_trans h.bel.size h1⟩
theorem FnS.of (h : FnS w0 N m H A B cv cs ps r b T X pr kd at_ As O w) : Calls Tryd.prog 9 #[.pointer (some ⟨H, 0, none⟩), VS 9 r ⟨#[]⟩] w fun e w' => e = .returned (.pointer (some ⟨b, 0, none⟩)) ∧ Below w.heap.size w w' := by
  have := of_obj r ⟨#[]⟩ h.ms.hx (by have := h.len; omega) h.ms.hk
  rw [h.obj] at this
  exact this
theorem FnS.own (h : FnS w0 N m H A B cv cs ps r b T X pr kd at_ As O w) : Calls Tryd.prog 39 #[.pointer (some ⟨b, 0, none⟩), VK nameK3] w (GetP As nameK3 w) :=
  ownF b T 2 pr false nilS nilP nilP nilS kd at_ As [] O nameK3 w h.ob h.tab (by decide) (by decide)
theorem FnS.arr (h : FnS w0 N m H A B cv cs ps r b T X pr kd at_ As O w) {cv' : Value} {x : Cell} (hM : Ms N w' m H A B cv' (cs ++ [x]) ps) (hl : cs.length ≤ 99) (hK : Kp w w') (hb : Below N w w') (u : Upd w w' (fun k => k = A ∨ cv.ownBlock = some k)) (hO : ∀ g, cv'.ownBlock = some g → cv.ownBlock = some g ∨ w.heap.size ≤ g) :
    FnS w0 N m H A B cv' (cs ++ [x]) ps r b T X pr kd at_ As O w' :=
  ⟨hM, by simp; omega, objP_app cs x r b h.obj, hK _ _ _ h.ob (by simp), h.tab.upd u (fun k hk e => e.elim (h.ap k hk).2.2.1 (h.ap k hk).2.2.2.1), hK _ _ _ h.box (by simp), fun k hk => by
    have h1 := h.ap k hk
    have h2 := h.tab.lt k hk
    exact ⟨h1.1, h1.2.1, h1.2.2.1, fun e => (hO k e).elim h1.2.2.2.1 (fun e => by omega), h1.2.2.2.2.1, h1.2.2.2.2.2⟩, h.n0, h.bel.trans (hb.mono h.n0)⟩
/-- How the function is printed. -/
theorem FnS.shs {E : Nat → Prop} (h : FnS w0 N m H A B cv cs ps r b T X pr kd at_ As O w) (hT : ∀ W, Below w.heap.size w W → Vx.Tb W) (v : K3) (fl : Int) (ok : Bool) (g : List UInt8) (hg : g.length ≤ 16000)
    (hown : ∀ W e W', GetP As nameK3 W e W' → e = .returned (.tuple #[VK v, .int .i64 fl, .bool ok]) ∧ Below W.heap.size W W') (hv : Shs True E m w cs 9 v g) (d : Int) (hd : decide (d < 9) = true) : Shs True E m w cs d (9, r, ⟨#[]⟩) ([102, 117, 110, 99, 116, 105, 111, 110, 32] ++ g) := by
  refine .raw trivial d _ _ (fun W hW => show_obj m r ⟨#[]⟩ _ d W (fun W' hW' => ?_))
  have hb2 := hW.trans (hW'.mono hW.size)
  have h2 := h.below hb2
  exact object_fn v fl ok g hd hg (by rw [h2.ms.mb.cell]; rfl) h2.ob (fun W3 h3 => (h2.below h3).of) (fun W3 h3 => ((h2.below h3).own).mono (fun e W4 hh => hown W3 e W4 hh))
    (fun W3 h3 => shs_show h.ms (by have := h.len; omega) hT hv W3 (hb2.trans (h3.mono hb2.size)))
end
end Go.Proofs.YtdeboajjhpecbaaDoor.Hp
