/- ShZm: several texts in one. -/
import Derived.Test.YtdeboajjhpecbaaGreatDoorShZq
/- Show: grow, of whatever part, however deep. -/
set_option linter.unusedVariables false
set_option linter.unusedSimpArgs false
namespace Go.Proofs.YtdeboajjhpecbaaGreatDoor.Hp
open Go.RowKit Go.Proofs.YtdeboajjhpecbaaGreatDoor Go.Shelf
theorem grow_all {N m H A B : Nat} {ps : List Int} {P : List PartV} {pn pc : Nat} {pa : Option Addr} {w0 : World} (hP0 : PlanR w0 pa pn P) (hw0 : w0.heap.size ≤ N) (hpn : pn ≤ 600) (hlen : ∀ p ∈ P, p.len ≤ 600) : ∀ (n : Nat) (deep : Int), deep + (n : Int) = 7 → 0 ≤ deep → ∀ (cv : Value) (cs : List Cell) (w : World) (at_ : Nat), Ms N w m H A B cv cs ps → Below N w0 w → cs.length + pn ≤ 3500 + at_ →
    Calls Tryz.prog 8 #[.pointer (some ⟨m, 0, none⟩), .agg #[.slice pa pn pc], .int .i64 (at_ : Int), .int .i64 deep] w (GrowP N m H A B ps P cv cs w at_)
  | n, deep, hn, hd, cv, cs, w, at_, hM, hb, hcs => by
    have hP : PlanR w pa pn P := hP0.below (hb.mono hw0)
    by_cases hat : pn ≤ at_
    · exact grow_end hM hP hpn deep hat
    have hat' : at_ < pn := by omega
    obtain ⟨p, hp⟩ : ∃ p, P[at_]? = some p := ⟨_, List.getElem?_eq_getElem (by rw [hP.1]; exact hat')⟩
    obtain ⟨j, hj, hj12⟩ := norm_mod p.k 12 (by omega) (by omega)
    have hc4 : cs.length ≤ 4000 := by omega
    have hcase : j = 0 ∨ j = 1 ∨ j = 2 ∨ j = 3 ∨ j = 4 ∨ j = 5 ∨ j = 6 ∨ j = 7 ∨ j = 8 ∨ j = 9 ∨ j = 10 ∨ j = 11 := by omega
    rcases hcase with rfl | rfl | rfl | rfl | rfl | rfl | rfl | rfl | rfl | rfl | rfl | rfl
    · exact grow_def hM hP hpn deep hat' p hp 0 hj (by omega)
    · exact grow_def hM hP hpn deep hat' p hp 1 hj (by omega)
    · exact grow_bool hM hP hpn deep hat' p hp hj
    · exact grow_int hM hP hpn deep hat' p hp hj
    · exact grow_def hM hP hpn deep hat' p hp 4 hj (by omega)
    · exact grow_inf hM hP hpn deep hat' p hp hj
    · exact grow_def hM hP hpn deep hat' p hp 6 hj (by omega)
    · exact grow_str hM hP hpn hlen deep hat' p hp hj
    · exact grow_sym hM hP hpn hlen hc4 deep hat' p hp hj
    · exact grow_obj hM hP hpn hlen hc4 deep hat' p hp hj
    · exact grow_def hM hP hpn deep hat' p hp 10 hj (by omega)
    · refine grow_arr hM hP hpn hlen hcs deep ⟨hd, by omega⟩ (fun hd6 cv0 cs0 W0 at0 hM0 hb0 hc0 => ?_) hat' p hp hj
      match n, hn with
      | 0, hn => exact absurd hd6 (by omega)
      | n + 1, hn => exact grow_all hP0 hw0 hpn hlen n (deep + 1) (by omega) (by omega) cv0 cs0 W0 at0 hM0 (hb.trans hb0) hc0
end Go.Proofs.YtdeboajjhpecbaaGreatDoor.Hp

/- Show: light. -/
set_option linter.unusedVariables false
set_option linter.unusedSimpArgs false
namespace Go.Proofs.YtdeboajjhpecbaaGreatDoor.Hp
open Go.RowKit Go.Proofs.YtdeboajjhpecbaaGreatDoor Go.Shelf
set_option maxRecDepth 100000 in
set_option maxHeartbeats 4000000 in
theorem light_any {P : List PartV} {pn pc : Nat} {pa : Option Addr} {w : World} (hP : PlanR w pa pn P) (hlen : ∀ p ∈ P, p.len ≤ 4194304) (hpn : pn ≤ 4194304) :
    Calls Tryz.prog 6 #[.agg #[.slice pa pn pc]] w (fun e w' => ∃ b, e = .returned (.bool b) ∧ Below w.heap.size w w' ∧ (b = true → P.length + suP P 0 ≤ 500)) := by
  have b0 := (Below.refl w.heap.size w).alloc (Nat.le_refl _) (.cells #[.slice pa pn pc] 24)
  have HP := Lib.hid (hP.below b0)
  have HB := Lib.hid b0
  clear hP b0
  go_enter Tryz.func6, Tryz.ntmps6
  go_upto_region 3 with fail
  have HL := Lib.hid hlen
  clear hlen
  generalize w.alloc (.cells #[.slice pa pn pc] 24) = w1 at *
  go_loopw [3, 9] (fun v3 v9 wr => ∃ i s : Nat, i ≤ pn ∧ v9 = .int .i64 (i : Int) ∧ v3 = .int .i64 (s : Int) ∧ s ≤ 500 ∧ s + (pn - i) + suP P i = pn + suP P 0 ∧ Hid (PlanR wr pa pn P ∧ Below w.heap.size w wr)) (fun _ v9 _ => pn - (intOf v9).toNat)
  case atStart => exact ⟨0, 0, Nat.zero_le _, rfl, rfl, by omega, by omega, Lib.hid ⟨HP.out, HB.out⟩⟩
  case round =>
    obtain ⟨i, s, hi, rfl, rfl, hs, hsum, HW⟩ := hrel
    by_cases hlt : i < pn
    · have ti : decide ((i : Int) < (pn : Int)) = true := by rw [decide_eq_true_eq]; omega
      obtain ⟨p, hp⟩ : ∃ p, P[i]? = some p := ⟨_, List.getElem?_eq_getElem (by rw [HW.out.1.1]; exact hlt)⟩
      obtain ⟨g, off, rfl, hgl, hcell⟩ := HW.out.1.2.1 (by omega)
      have y0 : wr.cell? ⟨g, off + i * 3, none⟩ = some (.int .i64 p.k) := hcell i p hp 0 (by decide)
      have y1 : wr.cell? ⟨g, off + i * 3 + 1, none⟩ = some (.int .i64 p.n) := hcell i p hp 1 (by decide)
      have y2 : wr.cell? ⟨g, off + i * 3 + 2, none⟩ = some (.slice p.a p.len p.cap) := hcell i p hp 2 (by decide)
      have hst := suP_step P i p hp
      have hpl := HL.out p (List.mem_of_getElem? hp)
      obtain ⟨pk, pN, sa, sn, sc, sl⟩ := p
      dsimp only at y0 y1 y2 hst hpl
      have z0 : (0 : Int) ≤ (i : Int) := by omega
      have z1 : (i : Int) < (pn : Int) := by omega
      have a1 : IntKind.i64.wrap (1 + (sn : Int)) = 1 + (sn : Int) := IntWalk.i64_in _ (by omega)
      have a2 : IntKind.i64.wrap ((s : Int) + (1 + (sn : Int))) = (s : Int) + (1 + (sn : Int)) := IntWalk.i64_in _ (by omega)
      have ai : IntKind.i64.wrap ((i : Int) + 1) = (i : Int) + 1 := IntWalk.i64_in _ (by omega)
      have HW2 := Lib.hid (show PlanR (wr.alloc (.cells #[.int .i64 pk, .int .i64 pN, .slice sa sn sc] 51)) _ _ _ ∧ Below w.heap.size w (wr.alloc (.cells #[.int .i64 pk, .int .i64 pN, .slice sa sn sc] 51)) from ⟨HW.out.1.below ((Below.refl _ _).alloc (Nat.le_refl _) _), HW.out.2.alloc HW.out.2.size _⟩)
      clear hcell hp
      by_cases hbig : s + (1 + sn) > 500
      · have tb : decide ((s : Int) + (1 + (sn : Int)) > 500) = true := by rw [decide_eq_true_eq]; omega
        go_wp2
        go_ret
        exact ⟨false, rfl, HW2.out.2, fun h => by cases h⟩
      · have tb : decide ((s : Int) + (1 + (sn : Int)) > 500) = false := by rw [decide_eq_false_iff_not]; omega
        go_wp2
        go_roundw
        case rel => exact ⟨i + 1, s + (1 + sn), by omega, by go_num, by go_num, by omega, by omega, HW2⟩
        case measure => simp [intOf]; omega
    · have ti : decide ((i : Int) < (pn : Int)) = false := by rw [decide_eq_false_iff_not]; omega
      go_wp2
      go_ret
      refine ⟨true, rfl, HW.out.2, fun _ => ?_⟩
      rw [HW.out.1.1]
      have : pn - i = 0 := by omega
      have : suP P i = 0 := by unfold suP; rw [List.drop_eq_nil_of_le (by rw [HW.out.1.1]; omega)]; rfl
      omega
end Go.Proofs.YtdeboajjhpecbaaGreatDoor.Hp
