/- ShD: several texts in one. -/
import Derived.Test.YtdeboajjhpecbaaGreatDoorShB
import Derived.Deep.CutBlock
import Derived.BigQuiet
import Derived.WalkSpells
/- Show: machine(). -/
set_option linter.unusedVariables false
set_option linter.unusedSimpArgs false
namespace Go.Proofs.YtdeboajjhpecbaaGreatDoor.Hp
open Go.RowKit Go.Proofs.YtdeboajjhpecbaaGreatDoor Go.Shelf
set_option maxRecDepth 100000 in
set_option maxHeartbeats 8000000 in
theorem machine_any (w : World) : Calls Tryz.prog 7 #[] w fun e w' => ∃ m H A B cv cs ps, e = .returned (.pointer (some ⟨m, 0, none⟩)) ∧ Ms w.heap.size w' m H A B cv cs ps ∧ cs.length = 21 ∧ Below w.heap.size w w' := by
  go_enter Tryz.func7, Tryz.ntmps7
  go_wp2_with (go_at_call 13; refine (vmnew_any w).mono ?_)
  rintro e w1 ⟨m, H, rfl, h1, h5, h2, h3, h4⟩
  have x0 : w1.cell? ⟨m, 0, none⟩ = some (.pointer (some ⟨H, 0, none⟩)) := by rw [h2.cell]; rfl
  have HM : Ms w.heap.size w1 m H (H - 1) (H - 1) nilS [] (List.replicate 21 0) :=
    ⟨⟨by omega, by omega, by omega, by have := h3.hb.lt; omega⟩, (fun g hg => by cases hg), h2, rfl, h3, fun i n hn => by simp at hn⟩
  have HI0 := Lib.hid (And.intro HM h4)
  clear h1 h5 h2 h3 h4 HM
  go_wp2_with (fail)
  go_loopw [2, 17] (fun u v wr => ∃ (i : Nat) (cv : Value) (cs : List Cell) (ps : List Int), v = .int .i64 (i : Int) ∧ i ≤ 21 ∧ cs.length = i ∧ Hid (Ms w.heap.size wr m H (H - 1) (H - 1) cv cs ps ∧ Below w.heap.size w wr)) (fun u v _ => 21 - (intOf v).toNat)
  case atStart => exact ⟨0, nilS, [], List.replicate 21 0, rfl, by omega, rfl, HI0⟩
  case round =>
    obtain ⟨i, cv, cs, ps, rfl, hi0, hl, HI⟩ := hrel
    by_cases hi : i < 21
    · have t3 : decide ((i : Int) < 21) = true := by simp; omega
      have z0 : (0 : Int) ≤ (i : Int) := by omega
      have z1 : (i : Int) < 21 := by omega
      have ac : IntKind.i64.wrap ((i : Int) + 1) = (i : Int) + 1 := IntWalk.i64_in _ (by omega)
      have x0 : wr.cell? ⟨m, 0, none⟩ = some (.pointer (some ⟨H, 0, none⟩)) := by rw [HI.out.1.mb.cell]; rfl
      clear HI0
      go_wp2_with (fail)
      refine wp_var0 (fun KV HKV => ?_)
      refine wp_region_till (m := 6) (S := (fun W => W.cell? ⟨m, 0, none⟩ = some (.pointer (some ⟨H, 0, none⟩)))) (by kernel_rfl) ?_
      have e4 : wr.drew = wr.drewN 1 := rfl
      rw [e4]
      have S0 : (wr.drewN 1).cell? ⟨m, 0, none⟩ = some (.pointer (some ⟨H, 0, none⟩)) := x0
      have HBD := Lib.hid (And.intro (HI.out.1.drewN 1) (below_drw HI.out.2 1))
      clear e4 x0 HI
      generalize wr.drewN 1 = E1 at *
      change tillH _ _ _ _ _ _ 14 #[false, false, false, false, false, false, false, false, false, false, false, false, false, false] _ _
      refine tillH_takeAny (i := 0) (oi := ?oo1) (v := ?vv1) ?hi1 (by kernel_rfl) (by kernel_rfl) (by kernel_rfl) ?hq1 (by kernel_rfl) ?hy1 (fun _ => S0) ?hh1
      case hi1 => (simp only [List.getElem?_toArray, List.getElem?_cons_succ, List.getElem?_cons_zero]; rfl)
      case hq1 => exact fun _ _ _ h => h
      case hy1 => exact Or.inl ⟨by rfl, by (intro W; go_simp; (try with_reducible rfl))⟩
      (try simp only [Act.put, List.setIfInBounds_toArray, List.set_cons_zero, List.set_cons_succ])
      refine tillH_takeAny (i := 1) (oi := ?oo2) (v := ?vv2) ?hi2 (by kernel_rfl) (by kernel_rfl) (by kernel_rfl) ?hq2 (by kernel_rfl) ?hy2 (fun _ => S0) ?hh2
      case hi2 => (simp only [List.getElem?_toArray, List.getElem?_cons_succ, List.getElem?_cons_zero]; rfl)
      case hq2 => exact fun _ _ _ h => h
      case hy2 => exact Or.inl ⟨by rfl, by (intro W; go_simp; (try with_reducible rfl))⟩
      (try simp only [Act.put, List.setIfInBounds_toArray, List.set_cons_zero, List.set_cons_succ])
      refine tillH_takeAny (i := 2) (oi := ?oo3) (v := ?vv3) ?hi3 (by kernel_rfl) (by kernel_rfl) (by kernel_rfl) ?hq3 (by kernel_rfl) ?hy3 (fun _ => S0) ?hh3
      case hi3 => (simp only [List.getElem?_toArray, List.getElem?_cons_succ, List.getElem?_cons_zero]; rfl)
      case hq3 => exact fun _ _ _ h => h
      case hy3 => exact Or.inl ⟨by rfl, by (intro W; go_simp; (try with_reducible rfl))⟩
      (try simp only [Act.put, List.setIfInBounds_toArray, List.set_cons_zero, List.set_cons_succ])
      refine tillH_takeAny (i := 3) (oi := ?oo4) (v := ?vv4) ?hi4 (by kernel_rfl) (by kernel_rfl) (by kernel_rfl) ?hq4 (by kernel_rfl) ?hy4 (fun _ => S0) ?hh4
      case hi4 => (simp only [List.getElem?_toArray, List.getElem?_cons_succ, List.getElem?_cons_zero]; rfl)
      case hq4 => exact fun _ _ _ h => h
      case hy4 => exact Or.inl ⟨by rfl, by (intro W; go_simp; (try with_reducible rfl))⟩
      (try simp only [Act.put, List.setIfInBounds_toArray, List.set_cons_zero, List.set_cons_succ])
      refine tillH_takeAny (i := 4) (oi := ?oo5) (v := ?vv5) ?hi5 (by kernel_rfl) (by kernel_rfl) (by kernel_rfl) ?hq5 (by kernel_rfl) ?hy5 (fun _ => S0) ?hh5
      case hi5 => (simp only [List.getElem?_toArray, List.getElem?_cons_succ, List.getElem?_cons_zero]; rfl)
      case hq5 => exact fun _ _ _ h => h
      case hy5 => exact Or.inl ⟨by rfl, by (intro W; go_simp; (try with_reducible rfl))⟩
      (try simp only [Act.put, List.setIfInBounds_toArray, List.set_cons_zero, List.set_cons_succ])
      refine tillH_take (i := 5) (oi := ?oo6) (v := ?vv6) ?hi6 (by kernel_rfl) (by kernel_rfl) (by kernel_rfl) ?hq6 (by kernel_rfl) (by kernel_rfl) (by kernel_rfl) ?hy6 S0 ?hh6
      case hi6 => (simp only [List.getElem?_toArray, List.getElem?_cons_succ, List.getElem?_cons_zero]; rfl)
      case hq6 => exact fun _ _ _ h => h
      case hy6 => exact Or.inl ⟨by rfl, by (intro W hSw; (try obtain s0 := hSw); go_simp; (try with_reducible rfl))⟩
      (try simp only [Act.put, List.setIfInBounds_toArray, List.set_cons_zero, List.set_cons_succ])
      refine tillH_takeAny (i := 10) (oi := ?oo7) (v := ?vv7) ?hi7 (by kernel_rfl) (by kernel_rfl) (by kernel_rfl) ?hq7 (by kernel_rfl) ?hy7 (fun _ => S0) ?hh7
      case hi7 => (simp only [List.getElem?_toArray, List.getElem?_cons_succ, List.getElem?_cons_zero]; rfl)
      case hq7 => exact fun _ _ _ h => h
      case hy7 => exact Or.inl ⟨by rfl, by (intro W; go_simp; (try with_reducible rfl))⟩
      (try simp only [Act.put, List.setIfInBounds_toArray, List.set_cons_zero, List.set_cons_succ])
      refine tillH_takeAny (i := 11) (oi := ?oo8) (v := ?vv8) ?hi8 (by kernel_rfl) (by kernel_rfl) (by kernel_rfl) ?hq8 (by kernel_rfl) ?hy8 (fun _ => S0) ?hh8
      case hi8 => (simp only [List.getElem?_toArray, List.getElem?_cons_succ, List.getElem?_cons_zero]; rfl)
      case hq8 => exact fun _ _ _ h => h
      case hy8 => exact Or.inl ⟨by rfl, by (intro W; go_simp; (try with_reducible rfl))⟩
      (try simp only [Act.put, List.setIfInBounds_toArray, List.set_cons_zero, List.set_cons_succ])
      refine tillH_next (rs := [6]) (by kernel_rfl) (by simp) ?_
      refine NextH.cons rfl (fun K hK => ?_) NextH.nil
      go_simp
      refine (HBD.out.1.make 0 0 (by omega) HBD.out.2.size).mono ?_
      rintro e E2 ⟨b, T, cv2, rfl, hM, -, -, -, -, -, b6⟩
      have y0 : E2.frozen? ⟨m, 1 + i, none⟩ = false := hM.mb.frozen _
      have y1 : E2.cell? ⟨m, 1 + i, none⟩ = some (.int .i64 (ps.getD i 0)) := by rw [hM.mb.cell]; exact machC_get H ps hM.pl i hi
      have b7 := HBD.out.2.trans b6
      have hP := hM.proto i hi ((i : Int) + 1) b7.size
      have hb : objP (cs ++ [(some (tObj, b), false)]) ((i : Int) + 1) = .pointer (some ⟨b, 0, none⟩) := by have := objP_last cs b; rw [show ((cs.length + 1 : Nat) : Int) = (i : Int) + 1 by omega] at this; exact this
      have x0 : (E2.setCell ⟨m, 1 + i, none⟩ (.int .i64 ((i : Int) + 1))).cell? ⟨m, 0, none⟩ = some (.pointer (some ⟨H, 0, none⟩)) := by rw [hP.1.mb.cell]; rfl
      have x1 : (E2.setCell ⟨m, 1 + i, none⟩ (.int .i64 ((i : Int) + 1))).cell? ⟨m, 1 + i, none⟩ = some (.int .i64 ((i : Int) + 1)) := by rw [hP.1.mb.cell, machC_get H _ hP.1.pl i hi]; simp [List.getD, hM.pl, hi]
      have HP := Lib.hid (And.intro hP.1 (And.intro (b7.trans hP.2.2) hb))
      clear hM b6 b7 hP hb HBD
      refine hK.out _ _ (fun h => absurd h (by simp)) ?_
      clear hK K
      (try simp only [Act.put, List.setIfInBounds_toArray, List.set_cons_zero, List.set_cons_succ])
      refine tillH_takeAny (i := 7) (oi := ?oo9) (v := ?vv9) ?hi9 (by kernel_rfl) (by kernel_rfl) (by kernel_rfl) ?hq9 (by kernel_rfl) ?hy9 (fun h => absurd h (by simp)) ?hh9
      case hi9 => (simp only [List.getElem?_toArray, List.getElem?_cons_succ, List.getElem?_cons_zero]; rfl)
      case hq9 => exact fun _ _ _ h => h
      case hy9 => exact Or.inl ⟨by rfl, by (intro W; go_simp; (try with_reducible rfl))⟩
      (try simp only [Act.put, List.setIfInBounds_toArray, List.set_cons_zero, List.set_cons_succ])
      refine tillH_takeAny (i := 8) (oi := ?oo10) (v := ?vv10) ?hi10 (by kernel_rfl) (by kernel_rfl) (by kernel_rfl) ?hq10 (by kernel_rfl) ?hy10 (fun h => absurd h (by simp)) ?hh10
      case hi10 => (simp only [List.getElem?_toArray, List.getElem?_cons_succ, List.getElem?_cons_zero]; rfl)
      case hq10 => exact fun _ _ _ h => h
      case hy10 => exact Or.inl ⟨by rfl, by (intro W; go_simp; (try with_reducible rfl))⟩
      (try simp only [Act.put, List.setIfInBounds_toArray, List.set_cons_zero, List.set_cons_succ])
      refine tillH_takeAny (i := 9) (oi := ?oo11) (v := ?vv11) ?hi11 (by kernel_rfl) (by kernel_rfl) (by kernel_rfl) ?hq11 (by kernel_rfl) ?hy11 (fun h => absurd h (by simp)) ?hh11
      case hi11 => (simp only [List.getElem?_toArray, List.getElem?_cons_succ, List.getElem?_cons_zero]; rfl)
      case hq11 => exact fun _ _ _ h => h
      case hy11 => exact Or.inl ⟨by rfl, by (intro W; go_simp; (try with_reducible rfl))⟩
      (try simp only [Act.put, List.setIfInBounds_toArray, List.set_cons_zero, List.set_cons_succ])
      refine tillH_takeAny (i := 12) (oi := ?oo12) (v := ?vv12) ?hi12 (by kernel_rfl) (by kernel_rfl) (by kernel_rfl) ?hq12 (by kernel_rfl) ?hy12 (fun h => absurd h (by simp)) ?hh12
      case hi12 => (simp only [List.getElem?_toArray, List.getElem?_cons_succ, List.getElem?_cons_zero]; rfl)
      case hq12 => exact fun _ _ _ h => h
      case hy12 => exact Or.inl ⟨by rfl, by (intro W; go_simp; (try with_reducible rfl))⟩
      (try simp only [Act.put, List.setIfInBounds_toArray, List.set_cons_zero, List.set_cons_succ])
      refine tillH_next (rs := [13]) (by kernel_rfl) (by simp) ?_
      refine NextH.cons rfl (fun K hK => ?_) NextH.nil
      go_simp
      refine hK.out _ _ (fun h => absurd h (by simp)) ?_
      clear hK K
      (try simp only [Act.put, List.setIfInBounds_toArray, List.set_cons_zero, List.set_cons_succ])
      clear y0 y1
      generalize E2.setCell ⟨m, 1 + i, none⟩ (.int .i64 ((i : Int) + 1)) = E3 at *
      refine tillH_done (by kernel_rfl) ?_ _
      refine HKV.out _ _ ?_
      go_wp2_with (fail)
      have HC : Hid (∀ q, Calls Tryz.prog 15 #[.pointer (some ⟨H, 0, none⟩), .int .i64 ((i : Int) + 1)] (E3.drewN q) fun e w' => e = .returned (.pointer (some ⟨b, 0, none⟩)) ∧ ∃ n, w' = (E3.drewN q).drewN n) := Lib.hid (fun q => by
        have h1 := obj_anyS ((i : Int) + 1) (HP.out.1.drewN q).hx (by simp; omega) HP.out.1.hk
        rw [HP.out.2.2] at h1
        exact h1)
      go_quiet ((go_at_call 15; exact Calls.quiet_of (HC.out _)))
      have HI4 := Lib.hid (And.intro (HP.out.1.drewN nq) (below_drw HP.out.2.1 nq))
      clear HP HC x0 x1
      generalize E3.drewN nq = E4 at *
      go_wp2_with (fail)
      go_roundw
      case rel => exact ⟨i + 1, cv2, _, _, rfl, by omega, by simp; omega, HI4⟩
      case measure => simp [intOf]; omega
    · have hin : i = 21 := by omega
      have t3 : decide ((i : Int) < 21) = false := by simp; omega
      go_wp2
      go_ret
      exact ⟨m, H, H - 1, H - 1, cv, cs, ps, rfl, HI.out.1, hl.trans hin, HI.out.2⟩
end Go.Proofs.YtdeboajjhpecbaaGreatDoor.Hp

/- Show: a machine's Array. -/
set_option linter.unusedVariables false
set_option linter.unusedSimpArgs false
namespace Go.Proofs.YtdeboajjhpecbaaGreatDoor.Hp
open Go.RowKit Go.Proofs.YtdeboajjhpecbaaGreatDoor Go.Shelf
theorem vobject_any (r : Int) (w : World) : Calls Tryz.prog 18 #[.int .i64 r] w (Ret (VS 9 r ⟨#[]⟩) w) := by
  go_enter Tryz.func18, Tryz.ntmps18
  go_wp2
  exact bodyPost_ret (v := VS 9 r ⟨#[]⟩) (by simp [results, Tryz.results18, go_sem]) rfl ⟨rfl, (Below.refl _ _).alloc (Nat.le_refl _) _⟩
/-- A block of an object or a value changes. -/
theorem Ms.upd_val {N : Nat} {w w' : World} {m H A B : Nat} {cv : Value} {cs : List Cell} {ps : List Int} (hM : Ms N w m H A B cv cs ps) {g : Nat} {t : TypeId} {c : Array Value} (hB : Blk w g t c) (ht : t = 85 ∨ t = 30) (u : Upd w w' (fun k => k = g)) : Ms N w' m H A B cv cs ps := by
  refine ⟨⟨hM.low.1, hM.low.2.1, hM.low.2.2.1, Nat.le_trans hM.low.2.2.2 u.size⟩, hM.own, u.blk hM.mb (fun e => hM.mb.ne_ hB (by rcases ht with rfl | rfl <;> decide) e), hM.pl, ?_, hM.hk⟩
  exact hM.hx.upd u (fun e => hM.hx.hb.ne_ hB (by rcases ht with rfl | rfl <;> decide) e) (fun e => hM.hx.ar.blk.ne_ hB (by rcases ht with rfl | rfl <;> decide) e) (fun g hg e => own_blk_ne hM.hx.ar.cells hB (by rcases ht with rfl | rfl <;> decide) (e ▸ hg)) (fun g hg => by cases hg) (fun g hg => by cases hg)
abbrev VZ : Array Value := #[.int .i64 0, .int .i64 0, .string ⟨#[]⟩]
set_option maxRecDepth 100000 in
set_option maxHeartbeats 8000000 in
theorem Ms.array {N : Nat} {w : World} {m H A B : Nat} {cv : Value} {cs : List Cell} {ps : List Int} (h : Ms N w m H A B cv cs ps) (a : Option Addr) (n cap : Nat) (hc : cs.length ≤ 4000) (hN : N ≤ w.heap.size) :
    Calls Tryz.prog 11 #[.pointer (some ⟨m, 0, none⟩), .slice a n cap] w fun e w' => ∃ b T cv', e = .returned (VS 9 ((cs.length + 1 : Nat) : Int) ⟨#[]⟩) ∧
      Ms N w' m H A B cv' (cs ++ [(some (tObj, b), false)]) ps ∧ Blk w' b 85 (objA 1 (ps.getD 2 0) false T (.slice a n cap) nilP nilP nilS 0) ∧ w.heap.size ≤ T ∧ T < b ∧ Kp w w' ∧ Below N w w' := by
  have b0 : Below w.heap.size w (w.alloc (.cells VZ 30)) := (Below.refl _ _).alloc (Nat.le_refl _) _
  have h1 := h.below b0
  have x0 : (w.alloc (.cells VZ 30)).cell? ⟨m, 0, none⟩ = some (.pointer (some ⟨H, 0, none⟩)) := by rw [h1.mb.cell]; rfl
  have x1 : (w.alloc (.cells VZ 30)).cell? ⟨m, 3, none⟩ = some (.int .i64 (ps.getD 2 0)) := by rw [h1.mb.cell]; exact machC_get H ps h.pl 2 (by omega)
  have HI := Lib.hid (And.intro h1 (And.intro b0 (Blk.new w 30 VZ)))
  clear h h1 b0
  go_enter Tryz.func11, Tryz.ntmps11
  go_wp2_with (fail)
  generalize w.alloc (.cells VZ 30) = W1 at *
  refine wp_var0 (fun KV HKV => ?_)
  refine wp_region_till (m := 9) (S := (fun W => W.cell? ⟨m, 0, none⟩ = some (.pointer (some ⟨H, 0, none⟩)) ∧ W.cell? ⟨m, 3, none⟩ = some (.int .i64 (ps.getD 2 0)))) (by kernel_rfl) ?_
  have e4 : W1.drew = W1.drewN 1 := rfl
  rw [e4]
  have S0 : (W1.drewN 1).cell? ⟨m, 0, none⟩ = some (.pointer (some ⟨H, 0, none⟩)) ∧ (W1.drewN 1).cell? ⟨m, 3, none⟩ = some (.int .i64 (ps.getD 2 0)) := ⟨x0, x1⟩
  have HBD := Lib.hid (And.intro (HI.out.1.drewN 1) (And.intro (below_drw HI.out.2.1 1) (HI.out.2.2.drewN 1)))
  clear e4 x0 x1 HI
  generalize W1.drewN 1 = E1 at *
  change tillH _ _ _ _ _ _ 15 #[false, false, false, false, false, false, false, false, false, false, false, false, false, false, false] _ _
  refine tillH_takeAny (i := 0) (oi := ?oo1) (v := ?vv1) ?hi1 (by kernel_rfl) (by kernel_rfl) (by kernel_rfl) ?hq1 (by kernel_rfl) ?hy1 (fun _ => S0) ?hh1
  case hi1 => (simp only [List.getElem?_toArray, List.getElem?_cons_succ, List.getElem?_cons_zero]; rfl)
  case hq1 => exact fun _ _ _ h => h
  case hy1 => exact Or.inl ⟨by rfl, by (intro W; go_simp; (try with_reducible rfl))⟩
  (try simp only [Act.put, List.setIfInBounds_toArray, List.set_cons_zero, List.set_cons_succ])
  refine tillH_takeAny (i := 1) (oi := ?oo2) (v := ?vv2) ?hi2 (by kernel_rfl) (by kernel_rfl) (by kernel_rfl) ?hq2 (by kernel_rfl) ?hy2 (fun _ => S0) ?hh2
  case hi2 => (simp only [List.getElem?_toArray, List.getElem?_cons_succ, List.getElem?_cons_zero]; rfl)
  case hq2 => exact fun _ _ _ h => h
  case hy2 => exact Or.inl ⟨by rfl, by (intro W; go_simp; (try with_reducible rfl))⟩
  (try simp only [Act.put, List.setIfInBounds_toArray, List.set_cons_zero, List.set_cons_succ])
  refine tillH_takeAny (i := 2) (oi := ?oo3) (v := ?vv3) ?hi3 (by kernel_rfl) (by kernel_rfl) (by kernel_rfl) ?hq3 (by kernel_rfl) ?hy3 (fun _ => S0) ?hh3
  case hi3 => (simp only [List.getElem?_toArray, List.getElem?_cons_succ, List.getElem?_cons_zero]; rfl)
  case hq3 => exact fun _ _ _ h => h
  case hy3 => exact Or.inl ⟨by rfl, by (intro W; go_simp; (try with_reducible rfl))⟩
  (try simp only [Act.put, List.setIfInBounds_toArray, List.set_cons_zero, List.set_cons_succ])
  refine tillH_take (i := 3) (oi := ?oo4) (v := ?vv4) ?hi4 (by kernel_rfl) (by kernel_rfl) (by kernel_rfl) ?hq4 (by kernel_rfl) (by kernel_rfl) (by kernel_rfl) ?hy4 S0 ?hh4
  case hi4 => (simp only [List.getElem?_toArray, List.getElem?_cons_succ, List.getElem?_cons_zero]; rfl)
  case hq4 => exact fun _ _ _ h => h
  case hy4 => exact Or.inl ⟨by rfl, by (intro W hSw; (try obtain ⟨s0, s1⟩ := hSw); go_simp; (try with_reducible rfl))⟩
  (try simp only [Act.put, List.setIfInBounds_toArray, List.set_cons_zero, List.set_cons_succ])
  refine tillH_takeAny (i := 4) (oi := ?oo5) (v := ?vv5) ?hi5 (by kernel_rfl) (by kernel_rfl) (by kernel_rfl) ?hq5 (by kernel_rfl) ?hy5 (fun _ => S0) ?hh5
  case hi5 => (simp only [List.getElem?_toArray, List.getElem?_cons_succ, List.getElem?_cons_zero]; rfl)
  case hq5 => exact fun _ _ _ h => h
  case hy5 => exact Or.inl ⟨by rfl, by (intro W; go_simp; (try with_reducible rfl))⟩
  (try simp only [Act.put, List.setIfInBounds_toArray, List.set_cons_zero, List.set_cons_succ])
  refine tillH_takeAny (i := 5) (oi := ?oo6) (v := ?vv6) ?hi6 (by kernel_rfl) (by kernel_rfl) (by kernel_rfl) ?hq6 (by kernel_rfl) ?hy6 (fun _ => S0) ?hh6
  case hi6 => (simp only [List.getElem?_toArray, List.getElem?_cons_succ, List.getElem?_cons_zero]; rfl)
  case hq6 => exact fun _ _ _ h => h
  case hy6 => exact Or.inl ⟨by rfl, by (intro W; go_simp; (try with_reducible rfl))⟩
  (try simp only [Act.put, List.setIfInBounds_toArray, List.set_cons_zero, List.set_cons_succ])
  refine tillH_takeAny (i := 6) (oi := ?oo7) (v := ?vv7) ?hi7 (by kernel_rfl) (by kernel_rfl) (by kernel_rfl) ?hq7 (by kernel_rfl) ?hy7 (fun _ => S0) ?hh7
  case hi7 => (simp only [List.getElem?_toArray, List.getElem?_cons_succ, List.getElem?_cons_zero]; rfl)
  case hq7 => exact fun _ _ _ h => h
  case hy7 => exact Or.inl ⟨by rfl, by (intro W; go_simp; (try with_reducible rfl))⟩
  (try simp only [Act.put, List.setIfInBounds_toArray, List.set_cons_zero, List.set_cons_succ])
  refine tillH_takeAny (i := 7) (oi := ?oo8) (v := ?vv8) ?hi8 (by kernel_rfl) (by kernel_rfl) (by kernel_rfl) ?hq8 (by kernel_rfl) ?hy8 (fun _ => S0) ?hh8
  case hi8 => (simp only [List.getElem?_toArray, List.getElem?_cons_succ, List.getElem?_cons_zero]; rfl)
  case hq8 => exact fun _ _ _ h => h
  case hy8 => exact Or.inl ⟨by rfl, by (intro W; go_simp; (try with_reducible rfl))⟩
  (try simp only [Act.put, List.setIfInBounds_toArray, List.set_cons_zero, List.set_cons_succ])
  refine tillH_take (i := 8) (oi := ?oo9) (v := ?vv9) ?hi9 (by kernel_rfl) (by kernel_rfl) (by kernel_rfl) ?hq9 (by kernel_rfl) (by kernel_rfl) (by kernel_rfl) ?hy9 S0 ?hh9
  case hi9 => (simp only [List.getElem?_toArray, List.getElem?_cons_succ, List.getElem?_cons_zero]; rfl)
  case hq9 => exact fun _ _ _ h => h
  case hy9 => exact Or.inl ⟨by rfl, by (intro W hSw; (try obtain ⟨s0, s1⟩ := hSw); go_simp; (try with_reducible rfl))⟩
  (try simp only [Act.put, List.setIfInBounds_toArray, List.set_cons_zero, List.set_cons_succ])
  refine tillH_next (rs := [9]) (by kernel_rfl) (by simp) ?_
  refine NextH.cons rfl (fun K hK => ?_) NextH.nil
  go_simp
  refine (HBD.out.1.make 1 (ps.getD 2 0) hc (Nat.le_trans hN HBD.out.2.1.size)).mono ?_
  rintro e E2 ⟨b, T, cv2, rfl, hM, hB, hTb, h3, h4, hK, b6⟩
  have HP := Lib.hid (And.intro hM (And.intro hB (And.intro hTb (And.intro h3 (And.intro h4 (And.intro hK (And.intro b6 (And.intro HBD.out.2.1 HBD.out.2.2))))))))
  clear hM hB hTb h3 h4 hK b6 HBD
  refine hK.out _ _ (fun h => absurd h (by simp)) ?_
  clear hK K
  (try simp only [Act.put, List.setIfInBounds_toArray, List.set_cons_zero, List.set_cons_succ])
  refine tillH_takeAny (i := 10) (oi := ?oo10) (v := ?vv10) ?hi10 (by kernel_rfl) (by kernel_rfl) (by kernel_rfl) ?hq10 (by kernel_rfl) ?hy10 (fun h => absurd h (by simp)) ?hh10
  case hi10 => (simp only [List.getElem?_toArray, List.getElem?_cons_succ, List.getElem?_cons_zero]; rfl)
  case hq10 => exact fun _ _ _ h => h
  case hy10 => exact Or.inl ⟨by rfl, by (intro W; go_simp; (try with_reducible rfl))⟩
  (try simp only [Act.put, List.setIfInBounds_toArray, List.set_cons_zero, List.set_cons_succ])
  refine tillH_takeAny (i := 11) (oi := ?oo11) (v := ?vv11) ?hi11 (by kernel_rfl) (by kernel_rfl) (by kernel_rfl) ?hq11 (by kernel_rfl) ?hy11 (fun h => absurd h (by simp)) ?hh11
  case hi11 => (simp only [List.getElem?_toArray, List.getElem?_cons_succ, List.getElem?_cons_zero]; rfl)
  case hq11 => exact fun _ _ _ h => h
  case hy11 => exact Or.inl ⟨by rfl, by (intro W; go_simp; (try with_reducible rfl))⟩
  (try simp only [Act.put, List.setIfInBounds_toArray, List.set_cons_zero, List.set_cons_succ])
  refine tillH_takeAny (i := 12) (oi := ?oo12) (v := ?vv12) ?hi12 (by kernel_rfl) (by kernel_rfl) (by kernel_rfl) ?hq12 (by kernel_rfl) ?hy12 (fun h => absurd h (by simp)) ?hh12
  case hi12 => (simp only [List.getElem?_toArray, List.getElem?_cons_succ, List.getElem?_cons_zero]; rfl)
  case hq12 => exact fun _ _ _ h => h
  case hy12 => exact Or.inl ⟨by rfl, by (intro W; go_simp; (try with_reducible rfl))⟩
  (try simp only [Act.put, List.setIfInBounds_toArray, List.set_cons_zero, List.set_cons_succ])
  refine tillH_takeAny (i := 13) (oi := ?oo13) (v := ?vv13) ?hi13 (by kernel_rfl) (by kernel_rfl) (by kernel_rfl) ?hq13 (by kernel_rfl) ?hy13 (fun h => absurd h (by simp)) ?hh13
  case hi13 => (simp only [List.getElem?_toArray, List.getElem?_cons_succ, List.getElem?_cons_zero]; rfl)
  case hq13 => exact fun _ _ _ h => h
  case hy13 => exact Or.inl ⟨by rfl, by (intro W; go_simp; (try with_reducible rfl))⟩
  (try simp only [Act.put, List.setIfInBounds_toArray, List.set_cons_zero, List.set_cons_succ])
  refine tillH_takeAny (i := 14) (oi := ?oo14) (v := ?vv14) ?hi14 (by kernel_rfl) (by kernel_rfl) (by kernel_rfl) ?hq14 (by kernel_rfl) ?hy14 (fun h => absurd h (by simp)) ?hh14
  case hi14 => (simp only [List.getElem?_toArray, List.getElem?_cons_succ, List.getElem?_cons_zero]; rfl)
  case hq14 => exact fun _ _ _ h => h
  case hy14 => exact Or.inl ⟨by rfl, by (intro W; go_simp; (try with_reducible rfl))⟩
  (try simp only [Act.put, List.setIfInBounds_toArray, List.set_cons_zero, List.set_cons_succ])
  refine tillH_done (by kernel_rfl) ?_ _
  refine HKV.out _ _ ?_
  have y0 : E2.frozen? ⟨b, 4, none⟩ = false := HP.out.2.1.frozen 4
  have y1 : E2.cell? ⟨b, 4, none⟩ = some nilS := by rw [HP.out.2.1.cell]; rfl
  go_wp2_with (fail)
  refine (vobject_any _ _).mono ?_
  rintro e w5 ⟨rfl, b7⟩
  clear y0 y1
  have HQ : Hid (Ms N w5 m H A B cv2 (cs ++ [(some (tObj, b), false)]) ps ∧ Blk w5 b 85 (objA 1 (ps.getD 2 0) false T (.slice a n cap) nilP nilP nilS 0) ∧ w.heap.size ≤ T ∧ T < b ∧ Kp w w5 ∧ Below N w w5 ∧ Blk w5 w.heap.size 30 VZ) := by
    obtain ⟨hM, hB, hTb, h3, h4, hK, b6, b1, hV⟩ := HP.out
    have hg : w.heap.size ≤ b := by have := b1.size; omega
    have u : Upd E2 (E2.setCell ⟨b, 4, none⟩ (.slice a n cap)) (fun k => k = b) := (Upd.refl E2 _).set b 4 _ rfl
    have hM4 := hM.upd_val hB (Or.inl rfl) u
    have hk4 : ∀ g t c, Blk E2 g t c → g < b → Blk (E2.setCell ⟨b, 4, none⟩ (.slice a n cap)) g t c := fun g t c hb hl => u.blk hb (by omega)
    refine ⟨hM4.below b7, (hB.set_ 4 _).below b7 (hB.set_ 4 _).lt, by have := b1.size; omega, h4, ?_, ?_, ?_⟩
    · intro g t c hb ht
      have h5 := hk4 g t c (hK g t c (hb.below b1 hb.lt) ht) (by have := hb.lt; omega)
      exact h5.below b7 h5.lt
    · exact (((b1.mono hN).trans b6).trans (u.below (Nat.le_trans hN (Nat.le_trans b1.size (by have := hB.lt; omega))) (fun k e => by omega))).trans (b7.mono (Nat.le_trans hN (by have := u.size; have := hB.lt; omega)))
    · have h5 := hk4 _ _ _ (hK _ _ _ hV (by simp)) (by have := hV.lt; omega)
      exact h5.below b7 h5.lt
  clear HP b7
  have z0 : w5.frozen? ⟨w.heap.size, 0, none⟩ = false := HQ.out.2.2.2.2.2.2.frozen 0
  have z1 : w5.frozen? ⟨w.heap.size, 1, none⟩ = false := HQ.out.2.2.2.2.2.2.frozen 1
  have z2 : w5.frozen? ⟨w.heap.size, 2, none⟩ = false := HQ.out.2.2.2.2.2.2.frozen 2
  have y0 : w5.cell? ⟨w.heap.size, 0, none⟩ = some (.int .i64 0) := by rw [HQ.out.2.2.2.2.2.2.cell]; rfl
  have y1 : w5.cell? ⟨w.heap.size, 1, none⟩ = some (.int .i64 0) := by rw [HQ.out.2.2.2.2.2.2.cell]; rfl
  have y2 : w5.cell? ⟨w.heap.size, 2, none⟩ = some (.string ⟨#[]⟩) := by rw [HQ.out.2.2.2.2.2.2.cell]; rfl
  have l5 : w.heap.size < w5.heap.size := HQ.out.2.2.2.2.2.2.lt
  go_wp2
  refine bodyPost_ret (v := VS 9 ((cs.length + 1 : Nat) : Int) ⟨#[]⟩) (by simp [results, Tryz.results11, go_sem, y0, y1, y2, l5]) rfl ?_
  obtain ⟨hM, hB, hT, hTb, hK, hb, hV⟩ := HQ.out
  have u : Upd w5 (((w5.setCell ⟨w.heap.size, 0, none⟩ (.int .i64 9)).setCell ⟨w.heap.size, 1, none⟩ (.int .i64 ((cs.length : Int) + 1))).setCell ⟨w.heap.size, 2, none⟩ (.string ⟨#[]⟩)) (fun k => k = w.heap.size) := (((Upd.refl w5 (fun k => k = w.heap.size)).set _ 0 _ rfl).set _ 1 _ rfl).set _ 2 _ rfl
  refine ⟨b, T, cv2, rfl, hM.upd_val hV (Or.inr rfl) u, u.blk hB (by omega), hT, hTb, ?_, ?_⟩
  · exact fun g t c h ht => u.blk (hK g t c h ht) (by have := h.lt; omega)
  · exact hb.trans (u.below (by omega) (fun k e => by omega))
end Go.Proofs.YtdeboajjhpecbaaGreatDoor.Hp
