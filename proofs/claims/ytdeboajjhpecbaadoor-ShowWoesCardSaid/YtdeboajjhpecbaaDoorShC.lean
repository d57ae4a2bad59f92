/- ShC: several texts in one. -/
import Derived.Test.YtdeboajjhpecbaaDoorShA
import Derived.BigQuiet
import Derived.Deep.CutBlock
import Derived.WalkSpells
/- Show: machine(). -/
set_option linter.unusedVariables false
set_option linter.unusedSimpArgs false
namespace Go.Proofs.YtdeboajjhpecbaaDoor.Hp
open Go.RowKit Go.Proofs.YtdeboajjhpecbaaDoor Go.Shelf

/-- A machine and its arena: nothing is free, no roots. -/
structure Ms (N : Nat) (w : World) (m H A B : Nat) (cv : Value) (cs : List Cell) (ps : List Int) : Prop where
  low : N ≤ m ∧ N ≤ A ∧ N ≤ B ∧ B ≤ w.heap.size
  own : ∀ g, cv.ownBlock = some g → N ≤ g
  mb : Blk w m 52 (machC H ps)
  pl : ps.length = 21
  hx : Hx w H A B cv nilS nilS cs [] [] (cs.length : Int)
  hk : ∀ i n, (cs.getD i (none, false)).1 = some n → n.1 = tObj ∨ n.1 = tMark
theorem Ms.below {N : Nat} {w w' : World} {m H A B : Nat} {cv : Value} {cs : List Cell} {ps : List Int} (h : Ms N w m H A B cv cs ps) (b : Below w.heap.size w w') : Ms N w' m H A B cv cs ps :=
  ⟨⟨h.low.1, h.low.2.1, h.low.2.2.1, Nat.le_trans h.low.2.2.2 b.size⟩, h.own, h.mb.below b h.mb.lt, h.pl, h.hx.below b, h.hk⟩
theorem Ms.drewN {N : Nat} {w : World} {m H A B : Nat} {cv : Value} {cs : List Cell} {ps : List Int} (h : Ms N w m H A B cv cs ps) (q : Nat) : Ms N (w.drewN q) m H A B cv cs ps := h.below (below_drw (Below.refl w.heap.size w) q)
/-- What is kept: the blocks of objects, values and symbols. -/
def Kp (w w' : World) : Prop := ∀ g t cs, Blk w g t cs → (t = 36 ∨ t = 26 ∨ t = 111) → Blk w' g t cs
theorem Kp.refl (w : World) : Kp w w := fun _ _ _ h _ => h
theorem Kp.trans {w w' w'' : World} (h : Kp w w') (k : Kp w' w'') : Kp w w'' := fun g t cs hb ht => k g t cs (h g t cs hb ht) ht
theorem Kp.of_below {w w' : World} (b : Below w.heap.size w w') : Kp w w' := fun g t cs h _ => h.below b h.lt
theorem objP_last (cs : List Cell) (b : Nat) : objP (cs ++ [(some (tObj, b), false)]) ((cs.length + 1 : Nat) : Int) = .pointer (some ⟨b, 0, none⟩) := by
  have h1 : (1 : Int) ≤ ((cs.length + 1 : Nat) : Int) ∧ ((cs.length + 1 : Nat) : Int) ≤ (((cs ++ [(some (tObj, b), false)]).length : Nat) : Int) := by simp; omega
  have h2 : (((cs.length + 1 : Nat) : Int) - 1).toNat = cs.length := by omega
  unfold objP
  rw [if_pos h1, h2]
  simp
theorem objP_old (cs : List Cell) (x : Cell) (r : Int) (h : r ≤ cs.length) : objP (cs ++ [x]) r = objP cs r := by
  unfold objP
  by_cases h1 : 1 ≤ r
  · have h2 : (r - 1).toNat < cs.length := by omega
    rw [if_pos ⟨h1, by simp; omega⟩, if_pos ⟨h1, h⟩]
    rw [show (cs ++ [x]).getD (r - 1).toNat (none, false) = cs.getD (r - 1).toNat (none, false) by simp only [List.getD, List.getElem?_append_left h2]]
  · rw [if_neg (fun h => h1 h.1), if_neg (fun h => h1 h.1)]
/-- Make, by a machine. -/
theorem Ms.make {N : Nat} {w : World} {m H A B : Nat} {cv : Value} {cs : List Cell} {ps : List Int} (h : Ms N w m H A B cv cs ps) (cl pr : Int) (hc : cs.length ≤ 4000) (hN : N ≤ w.heap.size) :
    Calls Tryd.prog 11 #[.pointer (some ⟨H, 0, none⟩), .int .i64 cl, .int .i64 pr] w fun e w' => ∃ b T cv', e = .returned (.tuple #[.int .i64 ((cs.length + 1 : Nat) : Int), .pointer (some ⟨b, 0, none⟩)]) ∧
      Ms N w' m H A B cv' (cs ++ [(some (tObj, b), false)]) ps ∧ Blk w' b 36 (objN cl pr T) ∧ TabA w' T [] [] (fun k => k = T) ∧ w.heap.size ≤ T ∧ T < b ∧ Kp w w' ∧ Below N w w' := by
  refine (make_any cl pr h.hx (by omega) (by omega) (by omega) h.low.2.2.2).mono ?_
  rintro e w' ⟨b, T, cv', rfl, hT, hTb, hB, hTab, hX, hU, hO⟩
  have hne : ∀ g t c, Blk w g t c → (t = 36 ∨ t = 26 ∨ t = 111 ∨ t = 52) → ¬ (g = A ∨ cv.ownBlock = some g) := by
    intro g t c hb ht hg
    rcases hg with rfl | hg
    · exact hb.ne_ h.hx.ar.blk (by rcases ht with rfl | rfl | rfl | rfl <;> decide) rfl
    · exact own_blk_ne h.hx.ar.cells hb (by rcases ht with rfl | rfl | rfl | rfl <;> decide) hg
  refine ⟨b, T, cv', rfl, ⟨⟨h.low.1, h.low.2.1, h.low.2.2.1, Nat.le_trans h.low.2.2.2 hU.size⟩, ?_, hU.blk h.mb (hne _ _ _ h.mb (by simp)), h.pl, ?_, ?_⟩, hB, hTab, hT, hTb, fun g t c hb ht => hU.blk hb (hne g t c hb (by rcases ht with h | h | h <;> simp [h])), ?_⟩
  · intro g hg
    rcases hO g hg with h1 | h1
    · exact h.own g h1
    · omega
  · have : ((cs ++ [(some (tObj, b), false)]).length : Int) = (cs.length : Int) + 1 := by simp
    rw [this]
    exact hX
  · intro i n hn
    by_cases hi : i < cs.length
    · rw [show (cs ++ [(some (tObj, b), false)]).getD i (none, false) = cs.getD i (none, false) by simp only [List.getD, List.getElem?_append_left hi]] at hn
      exact h.hk i n hn
    · by_cases he : i = cs.length
      · subst he
        simp at hn
        left
        rw [← hn]
      · rw [show (cs ++ [(some (tObj, b), false)]).getD i (none, false) = (none, false) by simp only [List.getD]; rw [List.getElem?_eq_none (by simp; omega)]; rfl] at hn
        cases hn
  · refine hU.below hN ?_
    intro k hk
    rcases hk with rfl | hk
    · exact h.low.2.1
    · exact h.own k hk
theorem machC_get (H : Nat) (ps : List Int) (hp : ps.length = 21) (i : Nat) (hi : i < 21) : (machC H ps)[1 + i]? = some (.int .i64 (ps.getD i 0)) := by
  unfold machC
  rw [List.getElem?_toArray, Nat.add_comm, List.getElem?_cons_succ, List.getElem?_append_left (by simp [numCells]; omega)]
  exact numCells_get ps i (by omega)
theorem machC_set (H : Nat) (ps : List Int) (hp : ps.length = 21) (i : Nat) (hi : i < 21) (x : Int) : (machC H ps).setIfInBounds (1 + i) (.int .i64 x) = machC H (ps.set i x) := by
  unfold machC
  rw [List.setIfInBounds_toArray, Nat.add_comm, List.set_cons_succ, List.set_append_left _ _ (by simp [numCells]; omega)]
  simp [numCells, List.map_set]
/-- A prototype is set. -/
theorem Ms.proto {N : Nat} {w : World} {m H A B : Nat} {cv : Value} {cs : List Cell} {ps : List Int} (h : Ms N w m H A B cv cs ps) (i : Nat) (hi : i < 21) (x : Int) (hN : N ≤ w.heap.size) :
    Ms N (w.setCell ⟨m, 1 + i, none⟩ (.int .i64 x)) m H A B cv cs (ps.set i x) ∧ Kp w (w.setCell ⟨m, 1 + i, none⟩ (.int .i64 x)) ∧ Below N w (w.setCell ⟨m, 1 + i, none⟩ (.int .i64 x)) := by
  have u : Upd w (w.setCell ⟨m, 1 + i, none⟩ (.int .i64 x)) (fun k => k = m) := (Upd.refl w _).set m (1 + i) _ rfl
  have hm := h.mb.set_ (1 + i) (.int .i64 x)
  rw [machC_set H ps h.pl i hi x] at hm
  refine ⟨⟨⟨h.low.1, h.low.2.1, h.low.2.2.1, Nat.le_trans h.low.2.2.2 u.size⟩, h.own, hm, by rw [List.length_set]; exact h.pl, ?_, h.hk⟩, ?_, ?_⟩
  · refine h.hx.upd u (fun e => h.hx.hb.ne_ h.mb (by decide) e) (fun e => h.hx.ar.blk.ne_ h.mb (by decide) e) (fun g hg e => own_blk_ne h.hx.ar.cells h.mb (by decide) (e ▸ hg)) (fun g hg => by cases hg) (fun g hg => by cases hg)
  · exact fun g t c hb ht => u.blk hb (fun e => hb.ne_ h.mb (by rcases ht with rfl | rfl | rfl <;> decide) e)
  · exact u.below hN (fun k e => e ▸ h.low.1)
end Go.Proofs.YtdeboajjhpecbaaDoor.Hp

/- Show: machine(). -/
set_option linter.unusedVariables false
set_option linter.unusedSimpArgs false
namespace Go.Proofs.YtdeboajjhpecbaaDoor.Hp
open Go.RowKit Go.Proofs.YtdeboajjhpecbaaDoor Go.Shelf
set_option maxRecDepth 100000 in
set_option maxHeartbeats 8000000 in
theorem machine_any (w : World) : Calls Tryd.prog 7 #[] w fun e w' => ∃ m H A B cv cs ps, e = .returned (.pointer (some ⟨m, 0, none⟩)) ∧ Ms w.heap.size w' m H A B cv cs ps ∧ cs.length = 21 ∧ Below w.heap.size w w' := by
  go_enter Tryd.func7, Tryd.ntmps7
  go_wp2_with (go_at_call 21; refine (vmnew_any w).mono ?_)
  rintro e w1 ⟨m, H, rfl, h1, h5, h2, h3, h4⟩
  have x0 : w1.cell? ⟨m, 0, none⟩ = some (.pointer (some ⟨H, 0, none⟩)) := by rw [h2.cell]; rfl
  have HM : Ms w.heap.size w1 m H (H - 1) (H - 1) nilS [] (List.replicate 21 0) :=
    ⟨⟨by omega, by omega, by omega, by have := h3.hb.lt; omega⟩, (fun g hg => by cases hg), h2, rfl, h3, fun i n hn => by simp at hn⟩
  have HI0 := Lib.hid (And.intro HM h4)
  clear h1 h5 h2 h3 h4 HM
  go_wp2_with (fail)
  go_loopw [2, 17] (fun u v wr => ∃ (i : Nat) (cv : Value) (cs : List Cell) (ps : List Int), v = .int .i64 (i : Int) ∧ i ≤ 21 ∧ cs.length = i ∧ Hid (Ms w.heap.size wr m H (H - 1) (H - 1) cv cs ps ∧ Below w.heap.size w wr)) (fun u v _ => 21 - (intOf v).toNat)
  case atStart => exact ⟨0, nilS, [], List.replicate 21 0, rfl, by omega, rfl, HI0⟩
  case round =>
    obtain ⟨i, cv, cs, ps, rfl, hi0, hl, HI⟩ := hrel
    by_cases hi : i < 21
    · have t3 : decide ((i : Int) < 21) = true := by simp; omega
      have z0 : (0 : Int) ≤ (i : Int) := by omega
      have z1 : (i : Int) < 21 := by omega
      have ac : IntKind.i64.wrap ((i : Int) + 1) = (i : Int) + 1 := IntWalk.i64_in _ (by omega)
      have x0 : wr.cell? ⟨m, 0, none⟩ = some (.pointer (some ⟨H, 0, none⟩)) := by rw [HI.out.1.mb.cell]; rfl
      clear HI0
      go_wp2_with (fail)
      refine wp_var0 (fun KV HKV => ?_)
      refine wp_region_till (m := 6) (S := (fun W => W.cell? ⟨m, 0, none⟩ = some (.pointer (some ⟨H, 0, none⟩)))) (by kernel_rfl) ?_
      have e4 : wr.drew = wr.drewN 1 := rfl
      rw [e4]
      have S0 : (wr.drewN 1).cell? ⟨m, 0, none⟩ = some (.pointer (some ⟨H, 0, none⟩)) := x0
      have HBD := Lib.hid (And.intro (HI.out.1.drewN 1) (below_drw HI.out.2 1))
      clear e4 x0 HI
      generalize wr.drewN 1 = E1 at *
      change tillH _ _ _ _ _ _ 14 #[false, false, false, false, false, false, false, false, false, false, false, false, false, false] _ _
      refine tillH_takeAny (i := 0) (oi := ?oo1) (v := ?vv1) ?hi1 (by kernel_rfl) (by kernel_rfl) (by kernel_rfl) ?hq1 (by kernel_rfl) ?hy1 (fun _ => S0) ?hh1
      case hi1 => (simp only [List.getElem?_toArray, List.getElem?_cons_succ, List.getElem?_cons_zero]; rfl)
      case hq1 => exact fun _ _ _ h => h
      case hy1 => exact Or.inl ⟨by rfl, by (intro W; go_simp; (try with_reducible rfl))⟩
      (try simp only [Act.put, List.setIfInBounds_toArray, List.set_cons_zero, List.set_cons_succ])
      refine tillH_takeAny (i := 1) (oi := ?oo2) (v := ?vv2) ?hi2 (by kernel_rfl) (by kernel_rfl) (by kernel_rfl) ?hq2 (by kernel_rfl) ?hy2 (fun _ => S0) ?hh2
      case hi2 => (simp only [List.getElem?_toArray, List.getElem?_cons_succ, List.getElem?_cons_zero]; rfl)
      case hq2 => exact fun _ _ _ h => h
      case hy2 => exact Or.inl ⟨by rfl, by (intro W; go_simp; (try with_reducible rfl))⟩
      (try simp only [Act.put, List.setIfInBounds_toArray, List.set_cons_zero, List.set_cons_succ])
      refine tillH_takeAny (i := 2) (oi := ?oo3) (v := ?vv3) ?hi3 (by kernel_rfl) (by kernel_rfl) (by kernel_rfl) ?hq3 (by kernel_rfl) ?hy3 (fun _ => S0) ?hh3
      case hi3 => (simp only [List.getElem?_toArray, List.getElem?_cons_succ, List.getElem?_cons_zero]; rfl)
      case hq3 => exact fun _ _ _ h => h
      case hy3 => exact Or.inl ⟨by rfl, by (intro W; go_simp; (try with_reducible rfl))⟩
      (try simp only [Act.put, List.setIfInBounds_toArray, List.set_cons_zero, List.set_cons_succ])
      refine tillH_takeAny (i := 3) (oi := ?oo4) (v := ?vv4) ?hi4 (by kernel_rfl) (by kernel_rfl) (by kernel_rfl) ?hq4 (by kernel_rfl) ?hy4 (fun _ => S0) ?hh4
      case hi4 => (simp only [List.getElem?_toArray, List.getElem?_cons_succ, List.getElem?_cons_zero]; rfl)
      case hq4 => exact fun _ _ _ h => h
      case hy4 => exact Or.inl ⟨by rfl, by (intro W; go_simp; (try with_reducible rfl))⟩
      (try simp only [Act.put, List.setIfInBounds_toArray, List.set_cons_zero, List.set_cons_succ])
      refine tillH_takeAny (i := 4) (oi := ?oo5) (v := ?vv5) ?hi5 (by kernel_rfl) (by kernel_rfl) (by kernel_rfl) ?hq5 (by kernel_rfl) ?hy5 (fun _ => S0) ?hh5
      case hi5 => (simp only [List.getElem?_toArray, List.getElem?_cons_succ, List.getElem?_cons_zero]; rfl)
      case hq5 => exact fun _ _ _ h => h
      case hy5 => exact Or.inl ⟨by rfl, by (intro W; go_simp; (try with_reducible rfl))⟩
      (try simp only [Act.put, List.setIfInBounds_toArray, List.set_cons_zero, List.set_cons_succ])
      refine tillH_take (i := 5) (oi := ?oo6) (v := ?vv6) ?hi6 (by kernel_rfl) (by kernel_rfl) (by kernel_rfl) ?hq6 (by kernel_rfl) (by kernel_rfl) (by kernel_rfl) ?hy6 S0 ?hh6
      case hi6 => (simp only [List.getElem?_toArray, List.getElem?_cons_succ, List.getElem?_cons_zero]; rfl)
      case hq6 => exact fun _ _ _ h => h
      case hy6 => exact Or.inl ⟨by rfl, by (intro W hSw; (try obtain s0 := hSw); go_simp; (try with_reducible rfl))⟩
      (try simp only [Act.put, List.setIfInBounds_toArray, List.set_cons_zero, List.set_cons_succ])
      refine tillH_takeAny (i := 10) (oi := ?oo7) (v := ?vv7) ?hi7 (by kernel_rfl) (by kernel_rfl) (by kernel_rfl) ?hq7 (by kernel_rfl) ?hy7 (fun _ => S0) ?hh7
      case hi7 => (simp only [List.getElem?_toArray, List.getElem?_cons_succ, List.getElem?_cons_zero]; rfl)
      case hq7 => exact fun _ _ _ h => h
      case hy7 => exact Or.inl ⟨by rfl, by (intro W; go_simp; (try with_reducible rfl))⟩
      (try simp only [Act.put, List.setIfInBounds_toArray, List.set_cons_zero, List.set_cons_succ])
      refine tillH_takeAny (i := 11) (oi := ?oo8) (v := ?vv8) ?hi8 (by kernel_rfl) (by kernel_rfl) (by kernel_rfl) ?hq8 (by kernel_rfl) ?hy8 (fun _ => S0) ?hh8
      case hi8 => (simp only [List.getElem?_toArray, List.getElem?_cons_succ, List.getElem?_cons_zero]; rfl)
      case hq8 => exact fun _ _ _ h => h
      case hy8 => exact Or.inl ⟨by rfl, by (intro W; go_simp; (try with_reducible rfl))⟩
      (try simp only [Act.put, List.setIfInBounds_toArray, List.set_cons_zero, List.set_cons_succ])
      refine tillH_next (rs := [6]) (by kernel_rfl) (by simp) ?_
      refine NextH.cons rfl (fun K hK => ?_) NextH.nil
      go_simp
      refine (HBD.out.1.make 0 0 (by omega) HBD.out.2.size).mono ?_
      rintro e E2 ⟨b, T, cv2, rfl, hM, -, -, -, -, -, b6⟩
      have y0 : E2.frozen? ⟨m, 1 + i, none⟩ = false := hM.mb.frozen _
      have y1 : E2.cell? ⟨m, 1 + i, none⟩ = some (.int .i64 (ps.getD i 0)) := by rw [hM.mb.cell]; exact machC_get H ps hM.pl i hi
      have b7 := HBD.out.2.trans b6
      have hP := hM.proto i hi ((i : Int) + 1) b7.size
      have hb : objP (cs ++ [(some (tObj, b), false)]) ((i : Int) + 1) = .pointer (some ⟨b, 0, none⟩) := by have := objP_last cs b; rw [show ((cs.length + 1 : Nat) : Int) = (i : Int) + 1 by omega] at this; exact this
      have x0 : (E2.setCell ⟨m, 1 + i, none⟩ (.int .i64 ((i : Int) + 1))).cell? ⟨m, 0, none⟩ = some (.pointer (some ⟨H, 0, none⟩)) := by rw [hP.1.mb.cell]; rfl
      have x1 : (E2.setCell ⟨m, 1 + i, none⟩ (.int .i64 ((i : Int) + 1))).cell? ⟨m, 1 + i, none⟩ = some (.int .i64 ((i : Int) + 1)) := by rw [hP.1.mb.cell, machC_get H _ hP.1.pl i hi]; simp [List.getD, hM.pl, hi]
      have HP := Lib.hid (And.intro hP.1 (And.intro (b7.trans hP.2.2) hb))
      clear hM b6 b7 hP hb HBD
      refine hK.out _ _ (fun h => absurd h (by simp)) ?_
      clear hK K
      (try simp only [Act.put, List.setIfInBounds_toArray, List.set_cons_zero, List.set_cons_succ])
      refine tillH_takeAny (i := 7) (oi := ?oo9) (v := ?vv9) ?hi9 (by kernel_rfl) (by kernel_rfl) (by kernel_rfl) ?hq9 (by kernel_rfl) ?hy9 (fun h => absurd h (by simp)) ?hh9
      case hi9 => (simp only [List.getElem?_toArray, List.getElem?_cons_succ, List.getElem?_cons_zero]; rfl)
      case hq9 => exact fun _ _ _ h => h
      case hy9 => exact Or.inl ⟨by rfl, by (intro W; go_simp; (try with_reducible rfl))⟩
      (try simp only [Act.put, List.setIfInBounds_toArray, List.set_cons_zero, List.set_cons_succ])
      refine tillH_takeAny (i := 8) (oi := ?oo10) (v := ?vv10) ?hi10 (by kernel_rfl) (by kernel_rfl) (by kernel_rfl) ?hq10 (by kernel_rfl) ?hy10 (fun h => absurd h (by simp)) ?hh10
      case hi10 => (simp only [List.getElem?_toArray, List.getElem?_cons_succ, List.getElem?_cons_zero]; rfl)
      case hq10 => exact fun _ _ _ h => h
      case hy10 => exact Or.inl ⟨by rfl, by (intro W; go_simp; (try with_reducible rfl))⟩
      (try simp only [Act.put, List.setIfInBounds_toArray, List.set_cons_zero, List.set_cons_succ])
      refine tillH_takeAny (i := 9) (oi := ?oo11) (v := ?vv11) ?hi11 (by kernel_rfl) (by kernel_rfl) (by kernel_rfl) ?hq11 (by kernel_rfl) ?hy11 (fun h => absurd h (by simp)) ?hh11
      case hi11 => (simp only [List.getElem?_toArray, List.getElem?_cons_succ, List.getElem?_cons_zero]; rfl)
      case hq11 => exact fun _ _ _ h => h
      case hy11 => exact Or.inl ⟨by rfl, by (intro W; go_simp; (try with_reducible rfl))⟩
      (try simp only [Act.put, List.setIfInBounds_toArray, List.set_cons_zero, List.set_cons_succ])
      refine tillH_takeAny (i := 12) (oi := ?oo12) (v := ?vv12) ?hi12 (by kernel_rfl) (by kernel_rfl) (by kernel_rfl) ?hq12 (by kernel_rfl) ?hy12 (fun h => absurd h (by simp)) ?hh12
      case hi12 => (simp only [List.getElem?_toArray, List.getElem?_cons_succ, List.getElem?_cons_zero]; rfl)
      case hq12 => exact fun _ _ _ h => h
      case hy12 => exact Or.inl ⟨by rfl, by (intro W; go_simp; (try with_reducible rfl))⟩
      (try simp only [Act.put, List.setIfInBounds_toArray, List.set_cons_zero, List.set_cons_succ])
      refine tillH_next (rs := [13]) (by kernel_rfl) (by simp) ?_
      refine NextH.cons rfl (fun K hK => ?_) NextH.nil
      go_simp
      refine hK.out _ _ (fun h => absurd h (by simp)) ?_
      clear hK K
      (try simp only [Act.put, List.setIfInBounds_toArray, List.set_cons_zero, List.set_cons_succ])
      clear y0 y1
      generalize E2.setCell ⟨m, 1 + i, none⟩ (.int .i64 ((i : Int) + 1)) = E3 at *
      refine tillH_done (by kernel_rfl) ?_ _
      refine HKV.out _ _ ?_
      go_wp2_with (fail)
      have HC : Hid (∀ q, Calls Tryd.prog 22 #[.pointer (some ⟨H, 0, none⟩), .int .i64 ((i : Int) + 1)] (E3.drewN q) fun e w' => e = .returned (.pointer (some ⟨b, 0, none⟩)) ∧ ∃ n, w' = (E3.drewN q).drewN n) := Lib.hid (fun q => by
        have h1 := obj_anyS ((i : Int) + 1) (HP.out.1.drewN q).hx (by simp; omega) HP.out.1.hk
        rw [HP.out.2.2] at h1
        exact h1)
      go_quiet ((go_at_call 22; exact Calls.quiet_of (HC.out _)))
      have HI4 := Lib.hid (And.intro (HP.out.1.drewN nq) (below_drw HP.out.2.1 nq))
      clear HP HC x0 x1
      generalize E3.drewN nq = E4 at *
      go_wp2_with (fail)
      go_roundw
      case rel => exact ⟨i + 1, cv2, _, _, rfl, by omega, by simp; omega, HI4⟩
      case measure => simp [intOf]; omega
    · have hin : i = 21 := by omega
      have t3 : decide ((i : Int) < 21) = false := by simp; omega
      go_wp2
      go_ret
      exact ⟨m, H, H - 1, H - 1, cv, cs, ps, rfl, HI.out.1, hl.trans hin, HI.out.2⟩
end Go.Proofs.YtdeboajjhpecbaaDoor.Hp
