/- The statements' own example 'fit' (arena). -/
import Derived.Test.YthcdhiknjpfmhaaArE
set_option linter.unusedVariables false
set_option linter.unusedSimpArgs false
namespace Go.Proofs.Ythcdhiknjpfmhaa
open Go.RowKit

abbrev nodeO (tv : Value) : Obj := .cells #[tv, .slice none 0 0, .slice none 0 0, .int .i64 0] 30

set_option maxHeartbeats 2000000 in
set_option maxRecDepth 100000 in
theorem fit_any (w : World) : Calls Try.prog 8 #[] w fun e w' => e = .returned (.bool true) ∧ Below w.heap.size w w' := by
  have h1 := (new_ar w).below ((Below.refl _ _).alloc (Nat.le_refl _) (nodeO (.slice none 0 0)))
  have kX : Blk ((w.alloc (.cells #[.slice none 0 0, .slice none 0 0, .slice none 0 0, .int .i64 0] 64)).alloc (nodeO (.slice none 0 0))) (w.heap.size + 1) 30 #[.slice none 0 0, .slice none 0 0, .slice none 0 0, .int .i64 0] := by
    have := Blk.new (w.alloc (.cells #[.slice none 0 0, .slice none 0 0, .slice none 0 0, .int .i64 0] 64)) 30 #[.slice none 0 0, .slice none 0 0, .slice none 0 0, .int .i64 0]
    rwa [World.size_alloc] at this
  have b1 : Below w.heap.size w ((w.alloc (.cells #[.slice none 0 0, .slice none 0 0, .slice none 0 0, .int .i64 0] 64)).alloc (nodeO (.slice none 0 0))) := ((Below.refl _ w).alloc (Nat.le_refl _) _).alloc (by simp) _
  have H1 := Lib.hid (And.intro h1 (And.intro kX b1))
  clear h1 kX b1
  go_enter Try.func8, Try.ntmps8
  go_wp2_with fail
  refine (new_any w).mono ?_
  rintro e w' ⟨rfl, rfl⟩
  go_wp2_with fail
  refine (make_new (w.heap.size + 1) H1.out.1 (by omega) (by omega) (by simp) (by simp [nodeO]; omega)).mono ?_
  rintro e W2 ⟨rfl, cv2, h2, u2, n2⟩
  have kX2 := u2.blk H1.out.2.1 (fun e => by rcases e with e | e; exact absurd e (by omega); cases e)
  have b2 : Below w.heap.size w W2 := H1.out.2.2.trans (u2.below H1.out.2.2.size (fun k e => by rcases e with e | e; omega; cases e))
  have z2 := b2.size
  have bA : Below W2.heap.size W2 ((W2.alloc (.cells #[.int .i64 1] 3)).alloc (nodeO (.slice (some ⟨W2.heap.size, 0, none⟩) 1 1))) := ((Below.refl _ W2).alloc (Nat.le_refl _) _).alloc (by simp) _
  have h4 := h2.below bA
  have kX4 := kX2.below bA kX2.lt
  have kY : Blk ((W2.alloc (.cells #[.int .i64 1] 3)).alloc (nodeO (.slice (some ⟨W2.heap.size, 0, none⟩) 1 1))) (W2.heap.size + 1) 30 #[.slice (some ⟨W2.heap.size, 0, none⟩) 1 1, .slice none 0 0, .slice none 0 0, .int .i64 0] := by
    have := Blk.new (W2.alloc (.cells #[.int .i64 1] 3)) 30 #[.slice (some ⟨W2.heap.size, 0, none⟩) 1 1, .slice none 0 0, .slice none 0 0, .int .i64 0]
    rwa [World.size_alloc] at this
  have b4 := b2.trans (bA.mono z2)
  have hcv2 : ∀ g, cv2.ownBlock = some g → g < W2.heap.size := fun g hg => (h2.cells.lt g hg).2
  have hX2 := kX2.lt
  have H4 := Lib.hid (And.intro h4 (And.intro kX4 (And.intro kY (And.intro b4 (And.intro n2 hcv2)))))
  clear h2 u2 n2 H1 kX2 bA h4 kX4 kY b4 b2 hcv2
  have r1 : (((([] : List Cell).length + 1 : Nat) : Int)) = 1 := rfl
  rw [r1]
  clear r1
  go_wp2_with fail
  refine (make_new (W2.heap.size + 1) H4.out.1 (by omega) (by omega) (by simp) (by simp; omega)).mono ?_
  rintro e W5 ⟨rfl, cv5, h5, u5, n5⟩
  obtain ⟨h4, kX4, kY, b4, n2, hcv2⟩ := H4.out
  have hAX : w.heap.size + 1 ≠ w.heap.size := by omega
  have kX5 := u5.blk kX4 (fun e => by
    rcases e with e | e
    · exact absurd e (by omega)
    · exact own_blk h4.cells kX4 (by decide) e)
  have kY5 := u5.blk kY (fun e => by
    rcases e with e | e
    · exact absurd e (by omega)
    · exact own_blk h4.cells kY (by decide) e)
  have b5 : Below w.heap.size w W5 := b4.trans (u5.below b4.size (fun k e => by
    rcases e with e | e
    · omega
    · rcases n2 k e with e2 | e2
      · cases e2
      · have := H4.out.2.2.2.1.size; simp at e2; omega))
  have r2 : (((([] : List Cell) ++ [((some (w.heap.size + 1), false) : Cell)]).length + 1 : Nat) : Int) = 2 := rfl
  rw [r2]
  clear r2
  have x0 : W5.cell? ⟨w.heap.size + 1, 0, none⟩ = some (.slice none 0 0) := by rw [kX5.cell]; rfl
  have zx := kX5.frozen 0
  have hXl := kX5.lt
  have z5 := b5.size
  have uB : Upd W5 ((W5.setCell ⟨w.heap.size + 1, 0, none⟩ (.slice (some ⟨W5.heap.size, 0, none⟩) 1 1)).alloc (.cells #[.int .i64 2] 3)) (fun k => k = w.heap.size + 1) := (set_upd W5 (w.heap.size + 1) 0 (.slice (some ⟨W5.heap.size, 0, none⟩) 1 1)).alloc _
  have h7 := h5.upd uB (fun e => absurd e (by omega)) (fun g hg e => own_blk h5.cells kX5 (by decide) (by rw [hg, e])) (fun g hg => by cases hg) (fun g hg => by cases hg)
  have kX7 : Blk ((W5.setCell ⟨w.heap.size + 1, 0, none⟩ (.slice (some ⟨W5.heap.size, 0, none⟩) 1 1)).alloc (.cells #[.int .i64 2] 3)) (w.heap.size + 1) 30 #[.slice (some ⟨W5.heap.size, 0, none⟩) 1 1, .slice none 0 0, .slice none 0 0, .int .i64 0] := (kX5.set_ 0 _).alloc _
  have kY7 := uB.blk kY5 (fun e => absurd e (by omega))
  have b7 : Below w.heap.size w _ := b5.trans (uB.below z5 (fun k e => by omega))
  have hXY : ¬ W2.heap.size + 1 = w.heap.size + 1 := by omega
  have n5' : ∀ g, cv5.ownBlock = some g → w.heap.size ≤ g := fun g hg => by
    rcases n5 g hg with e | e
    · rcases n2 g e with e2 | e2
      · cases e2
      · simp at e2; omega
    · have := b4.size; omega
  have H7 := Lib.hid (And.intro h7 (And.intro kX7 (And.intro kY7 (And.intro b7 (And.intro n5' hXY)))))
  clear h7 kX7 kY7 b7 n5' hXY uB kX5 kY5 b5 h5 u5 n5 h4 kX4 kY b4 n2 hcv2 H4
  go_wp2_with fail
  refine (collect_none (fun N => if N = w.heap.size + 1 then (.slice (some ⟨W5.heap.size, 0, none⟩) 1 1, .slice none 0 0, .slice none 0 0, 0) else (.slice (some ⟨W2.heap.size, 0, none⟩) 1 1, .slice none 0 0, .slice none 0 0, 0)) H7.out.1 ?hN ?hd ?he (by simp) (by simp) (by omega) ?hB ?hm).mono ?_
  case hN =>
    intro N hN
    have hb : bodies ([] ++ [((some (w.heap.size + 1), false) : Cell)] ++ [(some (W2.heap.size + 1), false)]) = [w.heap.size + 1, W2.heap.size + 1] := rfl
    rw [hb] at hN
    simp only [List.mem_cons, List.not_mem_nil, or_false] at hN
    rcases hN with rfl | rfl
    · rw [if_pos rfl]; exact H7.out.2.1
    · rw [if_neg H7.out.2.2.2.2.2]; exact H7.out.2.2.1
  case hd =>
    have hb : bodies ([] ++ [((some (w.heap.size + 1), false) : Cell)] ++ [(some (W2.heap.size + 1), false)]) = [w.heap.size + 1, W2.heap.size + 1] := rfl
    rw [hb]
    have := H7.out.2.2.2.2.2
    simp; omega
  case he => intro N _; split <;> simp
  case hB => exact H7.out.2.2.2.1.size
  case hm => intro c hc; simp at hc; rcases hc with rfl | rfl <;> rfl
  rintro e W8 ⟨vg, fv', rfl, g1, g2, g3, g4, g5, g6⟩
  obtain ⟨ga, gcap, rfl, _⟩ := own_shape g1
  have hG : goneL 0 ([] ++ [((some (w.heap.size + 1), false) : Cell)] ++ [(some (W2.heap.size + 1), false)]) = [1, 2] := rfl
  have hl8 : (goneL 0 ([] ++ [((some (w.heap.size + 1), false) : Cell)] ++ [(some (W2.heap.size + 1), false)])).length = 2 := rfl
  have hcnt := count_any g2
  rw [show (0 + 1 + 1 - (((goneL 0 ([] ++ [((some (w.heap.size + 1), false) : Cell)] ++ [(some (W2.heap.size + 1), false)])).length : Nat) : Int)) = 0 from rfl] at hcnt
  have kX8 := g3 (w.heap.size + 1) (by
    have hb : bodies ([] ++ [((some (w.heap.size + 1), false) : Cell)] ++ [(some (W2.heap.size + 1), false)]) = [w.heap.size + 1, W2.heap.size + 1] := rfl
    rw [hb]; simp)
  have e3 : W8.cell? ⟨w.heap.size + 1, 3, none⟩ = some (.int .i64 1) := by
    rw [kX8.cell]
    unfold ndAt
    rw [if_pos (by
      have hb : freed ([] ++ [((some (w.heap.size + 1), false) : Cell)] ++ [(some (W2.heap.size + 1), false)]) = [w.heap.size + 1, W2.heap.size + 1] := rfl
      rw [hb]; simp)]
    simp [ndA, ended]
  have b8 : Below w.heap.size w W8 := H7.out.2.2.2.1.trans (g4.below H7.out.2.2.2.1.size (fun k e => by
    rcases e with e | e | e | e | e
    · omega
    · exact H7.out.2.2.2.2.1 k e
    · cases e
    · have hb : bodies ([] ++ [((some (w.heap.size + 1), false) : Cell)] ++ [(some (W2.heap.size + 1), false)]) = [w.heap.size + 1, W2.heap.size + 1] := rfl
      rw [hb] at e
      simp at e
      omega
    · exact Nat.le_trans H7.out.2.2.2.1.size e))
  rw [hl8]
  have HC := Lib.hid hcnt
  clear g1 g2 g3 g4 g5 g6 kX8 hG hl8 hcnt H7
  go_wp2_with (go_at_call 13; refine HC.out.mono ?_; rintro e w' ⟨rfl, rfl⟩)
  go_ret
  exact ⟨by simp, b8⟩
end Go.Proofs.Ythcdhiknjpfmhaa
