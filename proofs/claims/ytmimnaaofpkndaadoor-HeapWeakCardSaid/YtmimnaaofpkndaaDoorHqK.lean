/- The heap: an object's Clear: dead cells that it does not hold are told. -/
import Derived.Test.YtmimnaaofpkndaaDoorHqI
set_option linter.unusedVariables false
set_option linter.unusedSimpArgs false
namespace Go.Proofs.YtmimnaaofpkndaaDoor.Hp
open Go.RowKit Go.Proofs.YtmimnaaofpkndaaDoor Go.Shelf

abbrev dead_V (A : Nat) : Value := .func (.func 50) #[.pointer (some ⟨A, 0, none⟩)] #[]
/-- What Clear leaves at place i. -/
def clrE (cl : Int) (p : Int → Bool) (i : Nat) (r : Int) : Int := if 0 < r ∧ p r = true then (if cl = 9 ∧ i % 2 = 0 then -1 else 0) else r
def clr (cl : Int) (p : Int → Bool) : Nat → List Int → List Int
  | _, [] => []
  | i, r :: l => clrE cl p i r :: clr cl p (i + 1) l
theorem clr_len (cl : Int) (p : Int → Bool) (i : Nat) (l : List Int) : (clr cl p i l).length = l.length := by
  induction l generalizing i with
  | nil => rfl
  | cons r l ih => simp [clr, ih]
theorem clr_snoc (cl : Int) (p : Int → Bool) (i : Nat) (l : List Int) (r : Int) : clr cl p i (l ++ [r]) = clr cl p i l ++ [clrE cl p (i + l.length) r] := by
  induction l generalizing i with
  | nil => simp [clr]
  | cons s l ih => simp only [List.cons_append, clr, ih, List.length_cons]; rw [show i + 1 + l.length = i + (l.length + 1) by omega]
theorem clr_get (cl : Int) (p : Int → Bool) (l : List Int) (i j : Nat) (hj : j < l.length) : (clr cl p i l).getD j 0 = clrE cl p (i + j) (l.getD j 0) := by
  induction l generalizing i j with
  | nil => simp at hj
  | cons s l ih =>
    cases j with
    | zero => simp [clr]
    | succ j =>
      simp only [clr, List.getD_cons_succ]
      rw [ih (i + 1) j (by simpa using hj), show i + 1 + j = i + (j + 1) by omega]
set_option maxHeartbeats 4000000 in
set_option maxRecDepth 100000 in
theorem clear_obj (p : Int → Bool) (b A B T : Nat) (cl : Int) (tb wk fv : Value) (l : List Int) (w : World) (hb : Blk w b 51 (objA cl 0 false T nilS tb wk fv 0)) (hr : w.ownsRow B 3 1 fv l.length (numCells l)) (hl : l.length ≤ 1000000)
    (hd : ∀ W k, Upd w W (fun k => fv.ownBlock = some k) → Calls Tryd.prog 50 #[.pointer (some ⟨A, 0, none⟩), .int .i64 k] W fun e w' => e = .returned (.bool (p k)) ∧ W = w') :
    Calls Tryd.prog 120 #[.pointer (some ⟨b, 0, none⟩), dead_V A] w fun en w' => (∃ v, en = .returned v) ∧
      w'.ownsRow B 3 1 fv l.length (numCells (clr cl p 0 l)) ∧ Upd w w' (fun k => fv.ownBlock = some k) := by
  obtain ⟨a, cap, rfl, ha⟩ := own_shape hr
  have x2 : w.cell? ⟨b, 9, none⟩ = some (.slice a l.length cap) := by rw [hb.cell]; rfl
  have hNl := hb.lt
  have hNe := own_blk_ne hr hb (by decide)
  obtain ⟨n, hn⟩ : ∃ n, l.length = n := ⟨_, rfl⟩
  rw [hn] at x2 ha hl hr hNe hd ⊢
  have HB := Lib.hid hb
  have HD := Lib.hid hd
  have HN := Lib.hid hn
  clear hb hd hn
  go_enter Tryd.func120, Tryd.ntmps120
  go_wp2_with fail
  go_loopw [11] (fun vi wr => ∃ i : Nat, i ≤ n ∧ vi = .int .i64 i ∧ wr.ownsRow B 3 1 (.slice a n cap) n (numCells (clr cl p 0 (l.take i) ++ l.drop i)) ∧ Upd w wr (fun k => (Value.slice a n cap).ownBlock = some k)) (fun vi _ => n - (intOf vi).toNat)
  case atStart => exact ⟨0, by omega, rfl, by simpa [clr] using hr, Upd.refl _ _⟩
  case round =>
    obtain ⟨i, hin, rfl, own, up⟩ := hrel
    have hbw := up.blk HB.out hNe
    have y2 : wr.cell? ⟨b, 9, none⟩ = some (.slice a n cap) := by rw [hbw.cell, ← HN.out]; rfl
    have y0 : wr.cell? ⟨b, 0, none⟩ = some (.int .i64 cl) := by rw [hbw.cell]; rfl
    by_cases hlt : i < n
    · have L1 : decide ((i : Int) < (n : Int)) = true := by simp; omega
      obtain ⟨g, rfl⟩ := ha (by omega)
      have hiL : i < l.length := by rw [HN.out]; exact hlt
      have hml : (clr cl p 0 (l.take i)).length = i := by rw [clr_len]; simp; omega
      have hget : (clr cl p 0 (l.take i) ++ l.drop i).getD i 0 = l.getD i 0 := by
        rw [List.getD_eq_getElem?_getD, List.getElem?_append_right (by omega), hml, Nat.sub_self, List.getElem?_drop, Nat.add_zero, ← List.getD_eq_getElem?_getD]
      have c0 := (own.cellAt i (by omega)).trans (numCells_get _ i (by rw [List.length_append, hml, List.length_drop]; omega))
      rw [hget] at c0
      have fz := own.frozenAt i
      have hgl := (own.lt g rfl).2
      have hgb : g ≠ b := fun e => hNe (by rw [← e]; rfl)
      have htk : l.take (i + 1) = l.take i ++ [l.getD i 0] := by rw [List.take_succ_eq_append_getElem hiL, List.getD_eq_getElem?_getD, List.getElem?_eq_getElem hiL]; rfl
      have hdr : l.drop i = l.getD i 0 :: l.drop (i + 1) := by rw [List.drop_eq_getElem_cons hiL, List.getD_eq_getElem?_getD, List.getElem?_eq_getElem hiL]; rfl
      have htl : (l.take i).length = i := by simp; omega
      obtain ⟨x, hx⟩ : ∃ x, l.getD i 0 = x := ⟨_, rfl⟩
      rw [hx] at c0 htk hdr
      have z0 : (0 : Int) ≤ i := by omega
      have z1 : (i : Int) < n := by omega
      have z2 : (i : Int).toNat = i := by omega
      have a1 : IntKind.i64.wrap ((i : Int) + 1) = ((i + 1 : Nat) : Int) := by rw [IntWalk.i64_in _ (by omega)]; rfl
      have hset2 : ∀ y : Int, (numCells (clr cl p 0 (l.take i) ++ l.drop i)).set i (.int .i64 y) = numCells (clr cl p 0 (l.take i) ++ y :: l.drop (i + 1)) := fun y => by
        rw [numCells_append, List.set_append_right _ _ (by simp [numCells]; omega), hdr]
        have : (numCells (clr cl p 0 (l.take i))).length = i := by simp [numCells]; omega
        rw [this, Nat.sub_self, numCells_append]
        rfl
      have hnext : ∀ (W : World) (y : Int), clrE cl p i x = y → W.ownsRow B 3 1 (.slice (some ⟨g, 0, none⟩) n cap) n (numCells (clr cl p 0 (l.take i) ++ y :: l.drop (i + 1))) → W.ownsRow B 3 1 (.slice (some ⟨g, 0, none⟩) n cap) n (numCells (clr cl p 0 (l.take (i + 1)) ++ l.drop (i + 1))) := fun W y hy hw => by
        rw [htk, clr_snoc, htl, Nat.zero_add, hy, List.append_assoc]; exact hw
      have hset : ∀ (W : World) (y y' : Int), W.ownsRow B 3 1 (.slice (some ⟨g, 0, none⟩) n cap) n (numCells (clr cl p 0 (l.take i) ++ y' :: l.drop (i + 1))) → (W.setCell ⟨g, i, none⟩ (.int .i64 y)).ownsRow B 3 1 (.slice (some ⟨g, 0, none⟩) n cap) n (numCells (clr cl p 0 (l.take i) ++ y :: l.drop (i + 1))) := fun W y y' hw => by
        have h1 := (hw.stored i (.int .i64 y)).1
        have e : (numCells (clr cl p 0 (l.take i) ++ y' :: l.drop (i + 1))).set i (.int .i64 y) = numCells (clr cl p 0 (l.take i) ++ y :: l.drop (i + 1)) := by
          rw [numCells_append, List.set_append_right _ _ (by simp [numCells]; omega)]
          have : (numCells (clr cl p 0 (l.take i))).length = i := by simp [numCells]; omega
          rw [this, Nat.sub_self, numCells_append]
          rfl
        rw [e] at h1
        exact h1
      rw [hdr] at own
      have HO := Lib.hid own
      have HS := Lib.hid hset
      have HX := Lib.hid hnext
      have HU := Lib.hid up
      have hNw := hbw.lt
      have HBW := Lib.hid hbw
      have hnf : ∀ y : Int, Blk (wr.setCell ⟨g, i, none⟩ (.int .i64 y)) b 51 (objA cl 0 false T nilS tb wk (.slice (some ⟨g, 0, none⟩) n cap) 0) := fun y => by
        have h1 := hbw
        rw [HN.out] at h1
        exact h1.far (fun e => hgb e.symm) _
      have HNF := Lib.hid hnf
      clear own hset hset2 up hget hml htk hdr hbw hnext htl hx hnf
      by_cases hpos : 0 < x
      · have P1 : decide ((0 : Int) < x) = true := by simpa using hpos
        obtain ⟨gb, hg⟩ : ∃ gb, p x = gb := ⟨_, rfl⟩
        have HP := Lib.hid hg
        clear hg
        cases gb with
        | true =>
          by_cases hc : cl = 9
          · subst hc
            by_cases he : i % 2 = 0
            · have m1 : ((i : Int).tmod 2 == 0) = true := by rw [Int.tmod_eq_emod_of_nonneg (by omega)]; simp; omega
              have q0 : (wr.setCell ⟨g, i, none⟩ (.int .i64 0)).cell? ⟨b, 0, none⟩ = some (.int .i64 9) := by rw [(HNF.out 0).cell]; rfl
              have q9 : (wr.setCell ⟨g, i, none⟩ (.int .i64 0)).cell? ⟨b, 9, none⟩ = some (.slice (some ⟨g, 0, none⟩) n cap) := by rw [(HNF.out 0).cell]; rfl
              have hfin := HX.out _ (-1) (by unfold clrE; rw [if_pos ⟨hpos, HP.out⟩, if_pos ⟨rfl, he⟩]) (HS.out _ (-1) 0 (HS.out _ 0 x HO.out))
              have HFIN := Lib.hid (And.intro hfin ((HU.out.set g i (.int .i64 0) rfl).set g i (.int .i64 (-1)) rfl))
              clear hfin
              go_wp2_with (go_at_call 50; refine (HD.out _ x HU.out).mono ?_; rintro e w' ⟨rfl, rfl⟩; rw [HP.out])
              go_roundw
              case rel => exact ⟨i + 1, by omega, by first | rfl | rw [Int.natCast_add], HFIN.out⟩
              case measure => simp only [intOf]; omega
            · have m1 : ((i : Int).tmod 2 == 0) = false := by rw [Int.tmod_eq_emod_of_nonneg (by omega)]; simp; omega
              have q0 : (wr.setCell ⟨g, i, none⟩ (.int .i64 0)).cell? ⟨b, 0, none⟩ = some (.int .i64 9) := by rw [(HNF.out 0).cell]; rfl
              have hfin := HX.out _ 0 (by unfold clrE; rw [if_pos ⟨hpos, HP.out⟩, if_neg (fun h => he h.2)]) (HS.out _ 0 x HO.out)
              have HFIN := Lib.hid (And.intro hfin (HU.out.set g i (.int .i64 0) rfl))
              clear hfin
              go_wp2_with (go_at_call 50; refine (HD.out _ x HU.out).mono ?_; rintro e w' ⟨rfl, rfl⟩; rw [HP.out])
              go_roundw
              case rel => exact ⟨i + 1, by omega, by first | rfl | rw [Int.natCast_add], HFIN.out⟩
              case measure => simp only [intOf]; omega
          · have m1 : (cl == 9) = false := by simpa using hc
            have q0 : (wr.setCell ⟨g, i, none⟩ (.int .i64 0)).cell? ⟨b, 0, none⟩ = some (.int .i64 cl) := by rw [(HNF.out 0).cell]; rfl
            have hfin := HX.out _ 0 (by unfold clrE; rw [if_pos ⟨hpos, HP.out⟩, if_neg (fun h => hc h.1)]) (HS.out _ 0 x HO.out)
            have HFIN := Lib.hid (And.intro hfin (HU.out.set g i (.int .i64 0) rfl))
            clear hfin
            go_wp2_with (go_at_call 50; refine (HD.out _ x HU.out).mono ?_; rintro e w' ⟨rfl, rfl⟩; rw [HP.out])
            go_roundw
            case rel => exact ⟨i + 1, by omega, by first | rfl | rw [Int.natCast_add], HFIN.out⟩
            case measure => simp only [intOf]; omega
        | false =>
          have hfin := HX.out _ x (by unfold clrE; rw [if_neg (fun h => by rw [HP.out] at h; cases h.2)]) HO.out
          have HFIN := Lib.hid (And.intro hfin HU.out)
          clear hfin
          go_wp2_with (go_at_call 50; refine (HD.out _ x HU.out).mono ?_; rintro e w' ⟨rfl, rfl⟩; rw [HP.out])
          go_roundw
          case rel => exact ⟨i + 1, by omega, by first | rfl | rw [Int.natCast_add], HFIN.out⟩
          case measure => simp only [intOf]; omega
      · have P1 : decide ((0 : Int) < x) = false := by simpa using hpos
        have hfin := HX.out _ x (by unfold clrE; rw [if_neg (fun h => hpos h.1)]) HO.out
        have HFIN := Lib.hid (And.intro hfin HU.out)
        clear hfin
        go_wp2_with (fail)
        go_roundw
        case rel => exact ⟨i + 1, by omega, by first | rfl | rw [Int.natCast_add], HFIN.out⟩
        case measure => simp only [intOf]; omega
    · obtain rfl : i = n := by omega
      have L1 : decide ((i : Int) < (i : Int)) = false := by simp
      rw [List.take_of_length_le (by rw [HN.out]; omega), List.drop_of_length_le (by rw [HN.out]; omega), List.append_nil] at own
      have HO := Lib.hid (And.intro own up)
      clear own up hbw
      go_wp2
      go_end0
      exact ⟨⟨_, rfl⟩, HO.out⟩
end Go.Proofs.YtmimnaaofpkndaaDoor.Hp
