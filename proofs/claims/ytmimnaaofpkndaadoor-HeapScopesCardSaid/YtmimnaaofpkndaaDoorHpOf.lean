/- The heap: Of. -/
import Derived.Test.YtmimnaaofpkndaaDoorHpY
set_option linter.unusedVariables false
set_option linter.unusedSimpArgs false
namespace Go.Proofs.YtmimnaaofpkndaaDoor.Hp
open Go.RowKit Go.Proofs.YtmimnaaofpkndaaDoor Go.Shelf

set_option maxHeartbeats 1000000 in
theorem of_no (H : Nat) (k n : Int) (s : ByteArray) (w : World) (hk : k ≠ 9) : Calls Tryd.prog 24 #[.pointer (some ⟨H, 0, none⟩), VS k n s] w fun e w' => e = .returned (.pointer none) ∧ Below w.heap.size w w' := by
  have t1 : (k != 9) = true := by simpa using hk
  go_enter Tryd.func24, Tryd.ntmps24
  go_wp2
  go_ret
  exact ⟨rfl, (Below.refl _ _).alloc (Nat.le_refl _) _⟩
set_option maxHeartbeats 1000000 in
theorem of_obj {w : World} {H A B : Nat} {cv fv rv : Value} {cs : List Cell} {fr ro : List Int} {live : Int} (r : Int) (s : ByteArray) (h : Hx w H A B cv fv rv cs fr ro live) (hl : cs.length ≤ 100000000) (hk : ∀ i n, (cs.getD i (none, false)).1 = some n → n.1 = tObj ∨ n.1 = tEnv ∨ n.1 = tMark) :
    Calls Tryd.prog 24 #[.pointer (some ⟨H, 0, none⟩), VS 9 r s] w fun e w' => e = .returned (objP cs r) ∧ Below w.heap.size w w' := by
  have bb : Below w.heap.size w (w.alloc (.cells #[.int .i64 9, .int .i64 r, .string s] 34)) := (Below.refl _ _).alloc (Nat.le_refl _) _
  have HO := Lib.hid (obj_any r (h.below bb) hl hk)
  have HB := Lib.hid bb
  clear h bb hk
  go_enter Tryd.func24, Tryd.ntmps24
  go_wp2_with (fail)
  refine HO.out.mono ?_
  rintro e w2 ⟨rfl, q, rfl⟩
  obtain ⟨v, hv⟩ : ∃ v, objP cs r = v := ⟨_, rfl⟩
  rw [hv]
  have HV := Lib.hid hv
  clear hv HO
  go_wp2
  go_ret
  exact ⟨by rw [HV.out]; rfl, below_drw HB.out q⟩
theorem ref_E (w : World) : Calls Tryd.prog 56 #[VS 10 0 ⟨#[]⟩] w fun e w' => e = .returned (.int .i64 0) ∧ Below w.heap.size w w' := by
  go_enter Tryd.func56, Tryd.ntmps56
  go_wp2
  go_ret
  exact ⟨rfl, (Below.refl _ _).alloc (Nat.le_refl _) _⟩
set_option maxHeartbeats 1000000 in
theorem held_none (g n cap B : Nat) (y : Value) (w : World) (h : w.ownsRow B 34 3 (.slice (some ⟨g, 0, none⟩) n cap) n (valsC (List.replicate n E0))) (hn : n ≤ 100000) :
    Calls Tryd.prog 124 #[.slice (some ⟨g, 0, none⟩) n cap, y] w fun e w' => e = .returned (.bool true) ∧ Below w.heap.size w w' := by
  have H := Lib.hid h
  clear h
  go_enter Tryd.func124, Tryd.ntmps124
  go_wp2_with (fail)
  go_loopw [10] (fun v wr => ∃ i : Nat, i ≤ n ∧ v = .int .i64 (i : Int) ∧ Hid (Below w.heap.size w wr)) (fun v _ => n - (intOf v).toNat)
  case atStart => exact ⟨0, Nat.zero_le _, rfl, Lib.hid (Below.refl _ _)⟩
  case round =>
    obtain ⟨i, hi, rfl, HB⟩ := hrel
    by_cases hlt : i < n
    · have t3 : decide ((i : Int) < (n : Int)) = true := by simp; omega
      have z0 : (0 : Int) ≤ (i : Int) := by omega
      have z1 : (i : Int) < (n : Int) := by omega
      have ac : IntKind.i64.wrap ((i : Int) + 1) = (i : Int) + 1 := IntWalk.i64_in _ (by omega)
      have hE : (List.replicate n E0)[i]? = some E0 := by rw [List.getElem?_replicate, if_pos hlt]
      have hrow : wr.ownsRow B 34 3 (.slice (some ⟨g, 0, none⟩) n cap) (List.replicate n E0).length (valsC (List.replicate n E0)) := by
        rw [List.length_replicate]
        exact (Upd.of_below_all (M := fun _ => False) HB.out).own H.out (fun _ _ h => h)
      have e0 : wr.cell? ⟨g, i * 3, none⟩ = some (.int .i64 10) := own_elem hrow i E0 hE 0 (by decide)
      have e1 : wr.cell? ⟨g, i * 3 + 1, none⟩ = some (.int .i64 0) := own_elem hrow i E0 hE 1 (by decide)
      have e2 : wr.cell? ⟨g, i * 3 + 2, none⟩ = some (.string ⟨#[]⟩) := own_elem hrow i E0 hE 2 (by decide)
      have b1 := HB.out.alloc HB.out.size (.cells #[.int .i64 10, .int .i64 0, .string ⟨#[]⟩] 34)
      have HB1 := Lib.hid b1
      clear hE hrow b1 HB
      go_wp2_with (fail)
      refine (ref_E _).mono ?_
      rintro e w2 ⟨rfl, b2⟩
      have HB2 := Lib.hid (HB1.out.trans (b2.mono HB1.out.size))
      clear b2 HB1
      go_wp2_with (fail)
      go_roundw
      case rel => exact ⟨i + 1, by omega, rfl, HB2⟩
      case measure => simp [intOf]; omega
    · have hin : i = n := by omega
      subst hin
      have t3 : decide ((i : Int) < (i : Int)) = false := by simp
      go_wp2
      go_ret
      exact ⟨rfl, HB.out⟩
end Go.Proofs.YtmimnaaofpkndaaDoor.Hp
