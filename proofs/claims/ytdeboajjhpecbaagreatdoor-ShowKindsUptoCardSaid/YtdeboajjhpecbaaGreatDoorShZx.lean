/- Show: a plan in memory; what grow comes to; a machine's Symbol. -/
import Derived.Test.YtdeboajjhpecbaaGreatDoorShZv
import Derived.Test.YtdeboajjhpecbaaGreatDoorShQ
set_option linter.unusedVariables false
set_option linter.unusedSimpArgs false
namespace Go.Proofs.YtdeboajjhpecbaaGreatDoor.Hp
open Go.RowKit Go.Proofs.YtdeboajjhpecbaaGreatDoor Go.Shelf
set_option maxHeartbeats 2000000 in
theorem symbol_any {w : World} {H A B : Nat} {cv fv rv : Value} {cs : List Cell} {ro : List Int} {live : Int} (k : K3) (h : Hx w H A B cv fv rv cs [] ro live) (hl : 0 ≤ live) (hl2 : live < 4194304) (hc : cs.length ≤ 100000000) (hB : B ≤ w.heap.size) :
    Calls Tryz.prog 17 #[.pointer (some ⟨H, 0, none⟩), VK k] w fun e w' => e = .returned (VS 8 ((cs.length + 1 : Nat) : Int) ⟨#[]⟩) ∧
      ∃ mb cv', Blk w' mb 99 #[.int .i64 k.1, .int .i64 k.2.1, .string k.2.2] ∧ w.heap.size ≤ mb ∧ Hx w' H A B cv' fv rv (cs ++ [(some (tMark, mb), false)]) [] ro (live + 1) ∧ Upd w w' (fun k => k = A ∨ cv.ownBlock = some k) ∧ (∀ g, cv'.ownBlock = some g → cv.ownBlock = some g ∨ w.heap.size ≤ g) := by
  obtain ⟨k1, k2, k3⟩ := k
  have bb : Below w.heap.size w ((w.alloc (.cells #[.int .i64 k1, .int .i64 k2, .string k3] 30)).alloc (.cells #[.int .i64 0, .int .i64 0, .string ⟨#[]⟩] 30)) := ((Below.refl _ _).alloc (Nat.le_refl _) _).alloc (by simp) _
  have kb : Blk ((w.alloc (.cells #[.int .i64 k1, .int .i64 k2, .string k3] 30)).alloc (.cells #[.int .i64 0, .int .i64 0, .string ⟨#[]⟩] 30)) w.heap.size 30 #[.int .i64 k1, .int .i64 k2, .string k3] := (Blk.new w _ _).alloc _
  have rb : Blk ((w.alloc (.cells #[.int .i64 k1, .int .i64 k2, .string k3] 30)).alloc (.cells #[.int .i64 0, .int .i64 0, .string ⟨#[]⟩] 30)) (w.heap.size + 1) 30 #[.int .i64 0, .int .i64 0, .string ⟨#[]⟩] := by
    have := Blk.new (w.alloc (.cells #[.int .i64 k1, .int .i64 k2, .string k3] 30)) 30 #[.int .i64 0, .int .i64 0, .string ⟨#[]⟩]
    rwa [World.size_alloc] at this
  have hX := h.below bb
  have hAl := h.ar.blk.lt
  have hHl := h.hb.lt
  have hcl := h.ar.cells.lt
  have hfl := h.ar.free.lt
  have hrl := h.ar.roots.lt
  have hne1 := h.hb.ne_ h.ar.blk (by decide)
  have hne2 := own_blk_ne h.ar.cells h.hb (by decide)
  have HX := Lib.hid (And.intro hX (And.intro bb (And.intro kb rb)))
  clear h bb kb rb hX
  go_enter Tryz.func17, Tryz.ntmps17
  go_upto_region 1 with fail
  generalize ((w.alloc (.cells #[.int .i64 k1, .int .i64 k2, .string k3] 30)).alloc (.cells #[.int .i64 0, .int .i64 0, .string ⟨#[]⟩] 30)) = w2 at *
  have y0 : w2.cell? ⟨H, 0, none⟩ = some (.pointer (some ⟨A, 0, none⟩)) := by rw [HX.out.1.hb.cell]; rfl
  have p0 : w2.cell? ⟨w.heap.size, 0, none⟩ = some (.int .i64 k1) := by rw [HX.out.2.2.1.cell]; rfl
  have p1 : w2.cell? ⟨w.heap.size, 1, none⟩ = some (.int .i64 k2) := by rw [HX.out.2.2.1.cell]; rfl
  have p2 : w2.cell? ⟨w.heap.size, 2, none⟩ = some (.string k3) := by rw [HX.out.2.2.1.cell]; rfl
  refine wp_var0 (fun KV HKV => ?_)
  refine wp_region_till (m := 8) (S := (fun W => W.cell? ⟨H, 0, none⟩ = some (.pointer (some ⟨A, 0, none⟩)) ∧ W.cell? ⟨w.heap.size, 0, none⟩ = some (.int .i64 k1) ∧ W.cell? ⟨w.heap.size, 1, none⟩ = some (.int .i64 k2) ∧ W.cell? ⟨w.heap.size, 2, none⟩ = some (.string k3))) (by kernel_rfl) ?_
  have e4 : w2.drew = w2.drewN 1 := rfl
  rw [e4]
  have S0 : (w2.drewN 1).cell? ⟨H, 0, none⟩ = some (.pointer (some ⟨A, 0, none⟩)) ∧ (w2.drewN 1).cell? ⟨w.heap.size, 0, none⟩ = some (.int .i64 k1) ∧ (w2.drewN 1).cell? ⟨w.heap.size, 1, none⟩ = some (.int .i64 k2) ∧ (w2.drewN 1).cell? ⟨w.heap.size, 2, none⟩ = some (.string k3) := ⟨y0, p0, p1, p2⟩
  have HD := Lib.hid (And.intro (HX.out.1.below (below_drw (Below.refl _ _) 1)) (And.intro (HX.out.2.1.trans ((below_drw (Below.refl _ _) 1).mono HX.out.2.1.size)) (HX.out.2.2.2.drewN 1)))
  clear y0 p0 p1 p2 HX e4
  generalize w2.drewN 1 = D at *
  change tillH _ _ _ _ _ _ 11 #[false, false, false, false, false, false, false, false, false, false, false] _ _
  refine tillH_takeAny (i := 0) (oi := ?oo1) (v := ?vv1) ?hi1 (by kernel_rfl) (by kernel_rfl) (by kernel_rfl) ?hq1 (by kernel_rfl) ?hy1 (fun _ => S0) ?hh1
  case hi1 => (simp only [List.getElem?_toArray, List.getElem?_cons_succ, List.getElem?_cons_zero]; rfl)
  case hq1 => exact fun _ _ _ h => h
  case hy1 => exact Or.inl ⟨by rfl, by (intro W; go_simp; (try with_reducible rfl))⟩
  (try simp only [Act.put, List.setIfInBounds_toArray, List.set_cons_zero, List.set_cons_succ])
  refine tillH_takeAny (i := 1) (oi := ?oo2) (v := ?vv2) ?hi2 (by kernel_rfl) (by kernel_rfl) (by kernel_rfl) ?hq2 (by kernel_rfl) ?hy2 (fun _ => S0) ?hh2
  case hi2 => (simp only [List.getElem?_toArray, List.getElem?_cons_succ, List.getElem?_cons_zero]; rfl)
  case hq2 => exact fun _ _ _ h => h
  case hy2 => exact Or.inl ⟨by rfl, by (intro W; go_simp; (try with_reducible rfl))⟩
  (try simp only [Act.put, List.setIfInBounds_toArray, List.set_cons_zero, List.set_cons_succ])
  refine tillH_takeAny (i := 2) (oi := ?oo3) (v := ?vv3) ?hi3 (by kernel_rfl) (by kernel_rfl) (by kernel_rfl) ?hq3 (by kernel_rfl) ?hy3 (fun _ => S0) ?hh3
  case hi3 => (simp only [List.getElem?_toArray, List.getElem?_cons_succ, List.getElem?_cons_zero]; rfl)
  case hq3 => exact fun _ _ _ h => h
  case hy3 => exact Or.inl ⟨by rfl, by (intro W; go_simp; (try with_reducible rfl))⟩
  (try simp only [Act.put, List.setIfInBounds_toArray, List.set_cons_zero, List.set_cons_succ])
  refine tillH_take (i := 3) (oi := ?oo4) (v := ?vv4) ?hi4 (by kernel_rfl) (by kernel_rfl) (by kernel_rfl) ?hq4 (by kernel_rfl) (by kernel_rfl) (by kernel_rfl) ?hy4 S0 ?hh4
  case hi4 => (simp only [List.getElem?_toArray, List.getElem?_cons_succ, List.getElem?_cons_zero]; rfl)
  case hq4 => exact fun _ _ _ h => h
  case hy4 => exact Or.inl ⟨by rfl, by (intro W hSw; (try obtain ⟨s0, s1, s2, s3⟩ := hSw); go_simp; (try with_reducible rfl))⟩
  (try simp only [Act.put, List.setIfInBounds_toArray, List.set_cons_zero, List.set_cons_succ])
  refine tillH_takeC [7, 6, 5] (i := 4) (oi := ?oo5) (v := ?vv5) ?hi5 (by kernel_rfl) (by kernel_rfl) (by kernel_rfl) ?hq5 (by kernel_rfl) (by kernel_rfl) (by kernel_rfl) ?hy5 S0 ?hh5
  case hi5 => (simp only [List.getElem?_toArray, List.getElem?_cons_succ, List.getElem?_cons_zero]; rfl)
  case hq5 => exact fun _ _ _ h => h
  case hy5 => exact Or.inl ⟨by rfl, by (intro W hSw; (try obtain ⟨s0, s1, s2, s3⟩ := hSw); go_simp; (try with_reducible rfl))⟩
  (try simp only [Act.put, List.setIfInBounds_toArray, List.set_cons_zero, List.set_cons_succ])
  refine tillH_takeAny (i := 5) (oi := ?oo6) (v := ?vv6) ?hi6 (by kernel_rfl) (by kernel_rfl) (by kernel_rfl) ?hq6 (by kernel_rfl) ?hy6 (fun _ => S0) ?hh6
  case hi6 => (simp only [List.getElem?_toArray, List.getElem?_cons_succ, List.getElem?_cons_zero]; rfl)
  case hq6 => exact fun _ _ _ h => h
  case hy6 => exact Or.inl ⟨by rfl, by (intro W; go_simp; (try with_reducible rfl))⟩
  (try simp only [Act.put, List.setIfInBounds_toArray, List.set_cons_zero, List.set_cons_succ])
  refine tillH_next (rs := [6]) (by kernel_rfl) (by simp) ?_
  refine NextH.cons rfl (fun K hK => ?_) NextH.nil
  go_simp
  have ba : Below D.heap.size D (D.alloc (.cells #[.int .i64 k1, .int .i64 k2, .string k3] 99)) := (Below.refl _ _).alloc (Nat.le_refl _) _
  have mb := Blk.new D 99 #[.int .i64 k1, .int .i64 k2, .string k3]
  have hXD := HD.out.1.below ba
  have bD := HD.out.2.1.trans (ba.mono HD.out.2.1.size)
  have rbD := HD.out.2.2.below ba HD.out.2.2.lt
  have hDs := HD.out.2.1.size
  have hrD := HD.out.2.2.lt
  have S2 : (D.alloc (.cells #[.int .i64 k1, .int .i64 k2, .string k3] 99)).cell? ⟨H, 0, none⟩ = some (.pointer (some ⟨A, 0, none⟩)) ∧ (D.alloc (.cells #[.int .i64 k1, .int .i64 k2, .string k3] 99)).cell? ⟨w.heap.size, 0, none⟩ = some (.int .i64 k1) ∧ (D.alloc (.cells #[.int .i64 k1, .int .i64 k2, .string k3] 99)).cell? ⟨w.heap.size, 1, none⟩ = some (.int .i64 k2) ∧ (D.alloc (.cells #[.int .i64 k1, .int .i64 k2, .string k3] 99)).cell? ⟨w.heap.size, 2, none⟩ = some (.string k3) := by
    obtain ⟨s0, s1, s2, s3⟩ := S0
    exact ⟨(ba.cell (p := ⟨H, 0, none⟩) (by show H < _; exact HD.out.1.hb.lt)).trans s0, (ba.cell (p := ⟨w.heap.size, 0, none⟩) (by show w.heap.size < _; omega)).trans s1, (ba.cell (p := ⟨w.heap.size, 1, none⟩) (by show w.heap.size < _; omega)).trans s2, (ba.cell (p := ⟨w.heap.size, 2, none⟩) (by show w.heap.size < _; omega)).trans s3⟩
  refine hK.out _ _ (fun _ => S2) ?_
  clear hK K
  (try simp only [Act.put, List.setIfInBounds_toArray, List.set_cons_zero, List.set_cons_succ])
  have hsz : (D.alloc (.cells #[.int .i64 k1, .int .i64 k2, .string k3] 99)).heap.size = D.heap.size + 1 := by simp
  generalize D.alloc (.cells #[.int .i64 k1, .int .i64 k2, .string k3] 99) = E at *
  generalize hms : D.heap.size = ms at *
  clear ba HD S0
  have hmk := make_new (tMark, ms) hXD.ar hl hl2 hc (Nat.le_trans hB bD.size)
  have HM := Lib.hid (And.intro hXD (And.intro hmk (And.intro mb (And.intro bD rbD))))
  clear hXD hmk mb bD rbD
  refine tillH_takeAny (i := 7) (oi := ?oo7) (v := ?vv7) ?hi7 (by kernel_rfl) (by kernel_rfl) (by kernel_rfl) ?hq7 (by kernel_rfl) ?hy7 (fun _ => S2) ?hh7
  case hi7 => (simp only [List.getElem?_toArray, List.getElem?_cons_succ, List.getElem?_cons_zero]; rfl)
  case hq7 => exact fun _ _ _ h => h
  case hy7 => exact Or.inl ⟨by rfl, by (intro W; go_simp; (try with_reducible rfl))⟩
  (try simp only [Act.put, List.setIfInBounds_toArray, List.set_cons_zero, List.set_cons_succ])
  refine tillH_next (rs := [8]) (by kernel_rfl) (by simp) ?_
  refine NextH.cons rfl (fun K hK => ?_) NextH.nil
  go_simp
  refine HM.out.2.1.mono ?_
  rintro e F ⟨rfl, cv', hAr, u6, hcv⟩
  have HF := Lib.hid (And.intro hAr (And.intro u6 hcv))
  clear hAr u6 hcv
  refine hK.out _ _ (fun h => absurd h (by simp)) ?_
  clear hK K
  (try simp only [Act.put, List.setIfInBounds_toArray, List.set_cons_zero, List.set_cons_succ])
  refine tillH_next (rs := [9]) (by kernel_rfl) (by simp) ?_
  refine NextH.cons rfl (fun K hK => ?_) NextH.nil
  go_simp
  refine (vsymbol_any _ _).mono ?_
  rintro e F2 ⟨rfl, b7⟩
  refine hK.out _ _ (fun h => absurd h (by simp)) ?_
  clear hK K
  (try simp only [Act.put, List.setIfInBounds_toArray, List.set_cons_zero, List.set_cons_succ])
  have rbF : Blk F2 (w.heap.size + 1) 30 #[.int .i64 0, .int .i64 0, .string ⟨#[]⟩] := by
    have h1 := HF.out.2.1.blk HM.out.2.2.2.2 (fun e => e.elim (fun e => by omega) (fun e => by have := (hcl _ e).2; omega))
    exact h1.below b7 h1.lt
  have uF : Upd E F2 (fun k => k = A ∨ cv.ownBlock = some k) := HF.out.2.1.then_below b7
  have aF : Ar F2 A B cv' fv rv (cs ++ [(some (tMark, ms), false)]) [] ro (live + 1) := HF.out.1.below b7
  have z0 := rbF.frozen 0
  have z1 := rbF.frozen 1
  have z2 := rbF.frozen 2
  have y0 : F2.cell? ⟨w.heap.size + 1, 0, none⟩ = some (.int .i64 0) := by rw [rbF.cell]; rfl
  have y1 : F2.cell? ⟨w.heap.size + 1, 1, none⟩ = some (.int .i64 0) := by rw [rbF.cell]; rfl
  have y2 : F2.cell? ⟨w.heap.size + 1, 2, none⟩ = some (.string ⟨#[]⟩) := by rw [rbF.cell]; rfl
  have lr := rbF.lt
  have HG := Lib.hid (And.intro rbF (And.intro uF aF))
  clear rbF uF aF b7
  refine tillH_next (rs := [10]) (by kernel_rfl) (by simp) ?_
  refine NextH.cons rfl (fun K hK => ?_) NextH.nil
  go_simp
  refine hK.out _ _ (fun h => absurd h (by simp)) ?_
  clear hK K
  (try simp only [Act.put, List.setIfInBounds_toArray, List.set_cons_zero, List.set_cons_succ])
  refine tillH_done (by kernel_rfl) ?_ _
  refine HKV.out _ _ ?_
  have hsE := HM.out.2.2.2.1.size
  have nM : ∀ x, w.heap.size ≤ x → ¬ (x = A ∨ cv.ownBlock = some x) := fun x hx e => e.elim (fun e => by omega) (fun e => by have := (hcl _ e).2; omega)
  have u9 : Upd F2 (((F2.setCell ⟨w.heap.size + 1, 0, none⟩ (.int .i64 8)).setCell ⟨w.heap.size + 1, 1, none⟩ (.int .i64 ((cs.length : Int) + 1))).setCell ⟨w.heap.size + 1, 2, none⟩ (.string ⟨#[]⟩)) (fun x => x = w.heap.size + 1) := (((Upd.refl F2 _).set (w.heap.size + 1) 0 _ (by rfl)).set (w.heap.size + 1) 1 _ (by rfl)).set (w.heap.size + 1) 2 _ (by rfl)
  have hH9 := u9.blk (HG.out.2.1.blk HM.out.1.hb (fun e => e.elim hne1 hne2)) (fun e => by omega)
  have hM9 := u9.blk (HG.out.2.1.blk HM.out.2.2.1 (nM ms hDs)) (fun e => by omega)
  have hA9 := HG.out.2.2.upd u9 (fun e => by omega) (fun g hg e => by
    rcases HF.out.2.2 g hg with q | q
    · have := (hcl _ q).2; omega
    · omega) (fun g hg e => by have := (hfl _ hg).2; omega) (fun g hg e => by have := (hrl _ hg).2; omega)
  have uw : Upd w F2 (fun k => k = A ∨ cv.ownBlock = some k) := (Upd.of_below_all HM.out.2.2.2.1).trans HG.out.2.1
  have uw9 := ((uw.set_new (w.heap.size + 1) 0 (.int .i64 8) (by omega)).set_new (w.heap.size + 1) 1 (.int .i64 ((cs.length : Int) + 1)) (by omega)).set_new (w.heap.size + 1) 2 (.string ⟨#[]⟩) (by omega)
  have HZ := Lib.hid (And.intro hH9 (And.intro hM9 (And.intro hA9 uw9)))
  clear u9 hH9 hM9 hA9 uw uw9 nM hne1 hne2 hfl hrl hcl
  go_wp2
  refine bodyPost_ret (v := VS 8 ((cs.length + 1 : Nat) : Int) ⟨#[]⟩) (by simp [results, Tryz.results17, go_sem, y0, y1, y2, z0, z1, z2, lr]) rfl ⟨rfl, ms, cv', HZ.out.2.1, hDs, ⟨HZ.out.1, HZ.out.2.2.1⟩, HZ.out.2.2.2, fun g hg => (HF.out.2.2 g hg).imp id (fun q => by omega)⟩
theorem Ms.symbol {N : Nat} {w : World} {m H A B : Nat} {cv : Value} {cs : List Cell} {ps : List Int} (h : Ms N w m H A B cv cs ps) (k : K3) (hc : cs.length ≤ 4000) (hN : N ≤ w.heap.size) :
    Calls Tryz.prog 17 #[.pointer (some ⟨H, 0, none⟩), VK k] w fun e w' => ∃ b cv', e = .returned (VS 8 ((cs.length + 1 : Nat) : Int) ⟨#[]⟩) ∧
      Ms N w' m H A B cv' (cs ++ [(some (tMark, b), false)]) ps ∧ Blk w' b 99 #[.int .i64 k.1, .int .i64 k.2.1, .string k.2.2] ∧ w.heap.size ≤ b ∧ Upd w w' (fun k => k = A ∨ cv.ownBlock = some k) ∧ (∀ g, cv'.ownBlock = some g → cv.ownBlock = some g ∨ w.heap.size ≤ g) := by
  refine (symbol_any k h.hx (by omega) (by omega) (by omega) h.low.2.2.2).mono ?_
  rintro e w' ⟨rfl, b, cv', hB, hb, hX, hU, hO⟩
  have hne : ∀ g t c, Blk w g t c → (t = 85 ∨ t = 30 ∨ t = 99 ∨ t = 69) → ¬ (g = A ∨ cv.ownBlock = some g) := by
    intro g t c hb ht hg
    rcases hg with rfl | hg
    · exact hb.ne_ h.hx.ar.blk (by rcases ht with rfl | rfl | rfl | rfl <;> decide) rfl
    · exact own_blk_ne h.hx.ar.cells hb (by rcases ht with rfl | rfl | rfl | rfl <;> decide) hg
  refine ⟨b, cv', rfl, ⟨⟨h.low.1, h.low.2.1, h.low.2.2.1, Nat.le_trans h.low.2.2.2 hU.size⟩, fun g hg => ?_, hU.blk h.mb (hne _ _ _ h.mb (by simp)), h.pl, ?_, fun i n hn => ?_⟩, hB, hb, hU, hO⟩
  · rcases hO g hg with h1 | h1
    · exact h.own g h1
    · omega
  · have : ((cs ++ [(some (tMark, b), false)]).length : Int) = (cs.length : Int) + 1 := by simp
    rw [this]
    exact hX
  · by_cases hi : i < cs.length
    · rw [show (cs ++ [(some (tMark, b), false)]).getD i (none, false) = cs.getD i (none, false) by simp only [List.getD, List.getElem?_append_left hi]] at hn
      exact h.hk i n hn
    · by_cases he : i = cs.length
      · subst he
        simp at hn
        right
        rw [← hn]
      · rw [show (cs ++ [(some (tMark, b), false)]).getD i (none, false) = (none, false) by simp only [List.getD]; rw [List.getElem?_eq_none (by simp; omega)]; rfl] at hn
        cases hn
theorem Ms.upd {N : Nat} {w w' : World} {m H A B : Nat} {cv : Value} {cs : List Cell} {ps : List Int} {M : Nat → Prop} (h : Ms N w m H A B cv cs ps) (u : Upd w w' M) (hm : ¬ M m) (hH : ¬ M H) (hA : ¬ M A) (hc : ∀ g, cv.ownBlock = some g → ¬ M g) : Ms N w' m H A B cv cs ps :=
  ⟨⟨h.low.1, h.low.2.1, h.low.2.2.1, Nat.le_trans h.low.2.2.2 u.size⟩, h.own, u.blk h.mb hm, h.pl, h.hx.upd u hH hA hc (fun g hg => by cases hg) (fun g hg => by cases hg), h.hk⟩
/-- A part of a plan: kind, number, units. -/
structure PartV where
  k : Int
  n : Int
  a : Option Addr
  len : Nat
  cap : Nat
  l : List Nat
def partC (p : PartV) : List Value := [.int .i64 p.k, .int .i64 p.n, .slice p.a p.len p.cap]
structure PartR (w : World) (p : PartV) : Prop where
  row : Tx.SliceR .u16 w p.a p.len p.cap (Tx.ints p.l)
  fit : Tx.Fits p.l
  len : p.l.length = p.len
  kb : -9223372036854775808 ≤ p.k ∧ p.k ≤ 9223372036854775807
  nb : -9223372036854775808 ≤ p.n ∧ p.n ≤ 9223372036854775807
/-- A plan, as it reads. -/
def PlanR (w : World) (a : Option Addr) (n : Nat) (P : List PartV) : Prop :=
  P.length = n ∧ (0 < n → ∃ b off, a = some ⟨b, off, none⟩ ∧ b < w.heap.size ∧ ∀ i p, P[i]? = some p → ∀ j, j < 3 → w.cell? ⟨b, off + i * 3 + j, none⟩ = (partC p)[j]?) ∧ ∀ p ∈ P, PartR w p
theorem PlanR.below {w w' : World} {a : Option Addr} {n : Nat} {P : List PartV} (h : PlanR w a n P) (b : Below w.heap.size w w') : PlanR w' a n P := by
  obtain ⟨h1, h2, h3⟩ := h
  refine ⟨h1, fun hn => ?_, fun p hp => ⟨(h3 p hp).row.below b, (h3 p hp).fit, (h3 p hp).len, (h3 p hp).kb, (h3 p hp).nb⟩⟩
  obtain ⟨g, off, e1, e2, e3⟩ := h2 hn
  exact ⟨g, off, e1, Nat.lt_of_lt_of_le e2 b.size, fun i p hp j hj => (b.cell (p := ⟨g, off + i * 3 + j, none⟩) e2).trans (e3 i p hp j hj)⟩
/-- How many units are left from a place on. -/
def suP (P : List PartV) (i : Nat) : Nat := ((P.drop i).map (·.len)).sum
theorem suP_step (P : List PartV) (i : Nat) (p : PartV) (h : P[i]? = some p) : suP P i = p.len + suP P (i + 1) := by
  unfold suP
  obtain ⟨hi, rfl⟩ := List.getElem?_eq_some_iff.1 h
  rw [List.drop_eq_getElem_cons hi, List.map_cons, List.sum_cons]
/-- Blocks of every kind but the arena's are kept. -/
theorem kp_upd {N : Nat} {w w' : World} {m H A B : Nat} {cv : Value} {cs : List Cell} {ps : List Int} (h : Ms N w m H A B cv cs ps) (u : Upd w w' (fun k => k = A ∨ cv.ownBlock = some k)) {g : Nat} {t : TypeId} {c : Array Value} (hb : Blk w g t c) (h1 : t ≠ 120) (h2 : t ≠ 122) : Blk w' g t c :=
  u.blk hb (fun e => e.elim (fun e => hb.ne_ h.hx.ar.blk h1 e) (fun e => own_blk_ne h.hx.ar.cells hb (Ne.symm h2) e))
/-- What grow comes to: the machine's value, the document's, the place behind. -/
structure GrowR (N m H A B : Nat) (ps : List Int) (P : List PartV) (cv : Value) (cs : List Cell) (w : World) (at_ : Nat) (v : K3) (wv : K4) (en : Nat) (t : Tr) (w' : World) : Prop where
  ex : ∃ cv' ds, Ms N w' m H A B cv' (cs ++ ds) ps ∧ ds.length + at_ ≤ en ∧ (∀ g, cv'.ownBlock = some g → cv.ownBlock = some g ∨ w.heap.size ≤ g) ∧ Lies w' (cs ++ ds) (fun x => x < w.heap.size) t v
  rf : LiesR w' (fun x => x < w.heap.size) t wv
  ok : OkT t
  le : en ≤ P.length ∨ en = at_
  un : unT t + suP P en ≤ suP P at_
  up : Upd w w' (fun k => k = A ∨ cv.ownBlock = some k)
def GrowP (N m H A B : Nat) (ps : List Int) (P : List PartV) (cv : Value) (cs : List Cell) (w : World) (at_ : Nat) (e : Ending) (w' : World) : Prop :=
  ∃ v wv en t, e = .returned (.tuple #[VK v, VQ wv, .int .i64 ((en : Nat) : Int)]) ∧ GrowR N m H A B ps P cv cs w at_ v wv en t w'
end Go.Proofs.YtdeboajjhpecbaaGreatDoor.Hp
