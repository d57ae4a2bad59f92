/- Contracts of num's whole, rank, Equal, Less and Is. -/
import Derived.Test.YtdacpebijljckaaDoorNumT
set_option linter.unusedVariables false
set_option linter.unusedSimpArgs false
namespace Go.Proofs.YtdacpebijljckaaDoor
open Go.RowKit

set_option maxHeartbeats 1000000 in
theorem whole_any (k n : Int) (w : World) : Calls Tryd.prog 36 #[VN k n] w (Ret (.int .i64 n) w) := by
  go_enter Tryd.func36, Tryd.ntmps36
  go_wp2
  go_ret
  exact ⟨rfl, (Below.refl _ _).alloc (Nat.le_refl _) _⟩

theorem ret_i64 {a b : Int} (h : a = b) : Ending.returned (.int .i64 a) = .returned (.int .i64 b) := by rw [h]
theorem IsNum.zero {n : Int} (h : IsNum 3 n) : IsNum 3 0 := .inr (.inr (.inr ⟨rfl, by decide, by decide⟩))
theorem IsNum.rk {k n : Int} (h : IsNum k n) : wrap64 (n * 9007199254740992) = n * 9007199254740992 ∨ k ≠ 5 := by
  unfold IsNum at h
  rcases h with ⟨rfl, rfl⟩ | ⟨rfl, rfl | rfl⟩ | ⟨rfl, rfl⟩ | ⟨rfl, a⟩
  · right; decide
  · left; exact IntWalk.wrap64_in _ (by decide)
  · left; exact IntWalk.wrap64_in _ (by decide)
  · right; decide
  · right; decide

set_option maxHeartbeats 1000000 in
theorem rank_any (k n : Int) (w : World) (h : IsNum k n) : Calls Tryd.prog 33 #[VN k n] w (Ret (.int .i64 (rankR k n)) w) := by
  cases q : (k == 5) with
  | true =>
    have h2 : k = 5 := by simpa using q
    have hr := h.rk
    have h3 : rankR k n = n * 9007199254740992 := by simp [rankR, q]
    have h4 : IntKind.i64.wrap (n * 9007199254740992) = n * 9007199254740992 := by
      rw [wrapW]
      rcases hr with h | h
      · exact h
      · exact absurd h2 h
    have H3 := Lib.hid h3
    clear h hr h2 h3
    go_enter Tryd.func33, Tryd.ntmps33
    go_wp2
    go_ret
    exact ⟨ret_i64 H3.out.symm, (Below.refl _ _).alloc (Nat.le_refl _) _⟩
  | false =>
    have h3 : rankR k n = n := by simp [rankR, q]
    have H3 := Lib.hid h3
    clear h h3
    go_enter Tryd.func33, Tryd.ntmps33
    go_wp2_with (go_at_call 36; refine (whole_any _ _ _).mono ?_; rintro e w' ⟨rfl, bq⟩)
    go_ret
    exact ⟨ret_i64 H3.out.symm, ((Below.refl _ _).alloc (Nat.le_refl _) _).trans (bq.mono (by simp))⟩

def eqR (ka na kb nb : Int) : Bool := !(ka == 4) && !(kb == 4) && rankR ka na == rankR kb nb
def lessR (ka na kb nb : Int) : Bool × Bool := if ka == 4 || kb == 4 then (false, false) else (decide (rankR ka na < rankR kb nb), true)

set_option maxHeartbeats 2000000 in
theorem equal_any (ka na kb nb : Int) (w : World) (ha : IsNum ka na) (hb : IsNum kb nb) : Calls Tryd.prog 21 #[VN ka na, VN kb nb] w (Ret (.bool (eqR ka na kb nb)) w) := by
  have r1 := fun W => rank_any ka na W ha
  have r2 := fun W => rank_any kb nb W hb
  have R1 := Lib.hid r1
  have R2 := Lib.hid r2
  clear r1 r2 ha hb
  cases q : (ka == 4) with
  | true =>
    have p : (ka != 4) = false := by simp [bne, q]
    go_enter Tryd.func21, Tryd.ntmps21
    go_wp2_with fail
    go_quiet (fail)
    go_wp2
    go_ret
    exact ⟨by simp [eqR, q], below_drewN (((Below.refl _ _).alloc (Nat.le_refl _) _).alloc (by simp) _) _⟩
  | false =>
    have p : (ka != 4) = true := by simp [bne, q]
    cases q2 : (kb == 4) with
    | true =>
      have p2 : (kb != 4) = false := by simp [bne, q2]
      go_enter Tryd.func21, Tryd.ntmps21
      go_wp2_with fail
      go_quiet (fail)
      go_wp2
      go_ret
      exact ⟨by simp [eqR, q, q2], below_drewN (((Below.refl _ _).alloc (Nat.le_refl _) _).alloc (by simp) _) _⟩
    | false =>
      have p2 : (kb != 4) = true := by simp [bne, q2]
      have hK := ((Keep.start w).new ka na).new kb nb
      rw [World.size_alloc] at hK
      go_enter Tryd.func21, Tryd.ntmps21
      go_wp2_with fail
      have hm0 : (w.heap.size, ka, na) ∈ [(w.heap.size + 1, kb, nb), (w.heap.size, ka, na)] := by simp
      have hm1 : (w.heap.size + 1, kb, nb) ∈ [(w.heap.size + 1, kb, nb), (w.heap.size, ka, na)] := by simp
      go_region_held3 (fun W => W.cell? ⟨w.heap.size, 0, none⟩ = some (.int .i64 ka) ∧ W.cell? ⟨w.heap.size, 1, none⟩ = some (.int .i64 na) ∧ W.cell? ⟨w.heap.size, 2, none⟩ = some (.string ⟨#[]⟩) ∧ W.cell? ⟨w.heap.size + 1, 0, none⟩ = some (.int .i64 kb) ∧ W.cell? ⟨w.heap.size + 1, 1, none⟩ = some (.int .i64 nb) ∧ W.cell? ⟨w.heap.size + 1, 2, none⟩ = some (.string ⟨#[]⟩) ∧ Keep w (w.heap.size + 1 + 1) W [(w.heap.size + 1, kb, nb), (w.heap.size, ka, na)])
        (first
          | with_reducible exact hK.k2 hm0 hm1
          | with_reducible exact hK.drew.k2 hm0 hm1
          | ((try go_split_ands); with_reducible exact (Keep.step (by assumption) bq).k2 hm0 hm1)
          | ((try go_split_ands); with_reducible exact (Keep.alloc (by assumption) _).k2 hm0 hm1)
          | ((try go_split_ands); with_reducible exact ((Keep.undrew (by assumption)).alloc _).drew.k2 hm0 hm1)
          | ((try go_split_ands); with_reducible exact (Keep.drew (by assumption)).k2 hm0 hm1)
          | ((try go_split_ands); with_reducible exact (Keep.realloc (by assumption) (by omega) _).k2 hm0 hm1)
          | ((try go_split_ands); with_reducible exact ((Keep.realloc (Keep.undrew (by assumption)) (by omega) _)).drew.k2 hm0 hm1)
          | ((try go_split_ands); with_reducible exact (((Keep.set (by assumption) _ _ _ (by omega)).set _ _ _ (by omega)).set _ _ _ (by omega)).k2 hm0 hm1)
          | ((try go_split_ands); with_reducible exact ((((Keep.undrew (by assumption)).set _ _ _ (by omega)).set _ _ _ (by omega)).set _ _ _ (by omega)).drew.k2 hm0 hm1)
          | go_keep)
        (first
          | (go_at_call 33; (with_reducible refine (R1.out _).mono ?_); rintro e w' ⟨rfl, bq⟩)
          | (go_at_call 33; (with_reducible refine (R2.out _).mono ?_); rintro e w' ⟨rfl, bq⟩))
      (try go_split_ands)
      go_wp2_with fail
      go_ret
      exact ⟨by simp [eqR, q, q2], Keep.below (by assumption)⟩

set_option maxHeartbeats 2000000 in
theorem less_any (ka na kb nb : Int) (w : World) (ha : IsNum ka na) (hb : IsNum kb nb) : Calls Tryd.prog 19 #[VN ka na, VN kb nb] w (Ret (.tuple #[.bool (lessR ka na kb nb).1, .bool (lessR ka na kb nb).2]) w) := by
  have r1 := fun W => rank_any ka na W ha
  have r2 := fun W => rank_any kb nb W hb
  have R1 := Lib.hid r1
  have R2 := Lib.hid r2
  clear r1 r2 ha hb
  cases q : (ka == 4) with
  | true =>
    go_enter Tryd.func19, Tryd.ntmps19
    go_wp2_with fail
    go_ret2
    exact ⟨by simp [lessR, q], (((Below.refl _ _).alloc (Nat.le_refl _) _).alloc (by simp) _)⟩
  | false =>
    cases q2 : (kb == 4) with
    | true =>
      go_enter Tryd.func19, Tryd.ntmps19
      go_wp2_with fail
      go_ret2
      exact ⟨by simp [lessR, q, q2], (((Below.refl _ _).alloc (Nat.le_refl _) _).alloc (by simp) _)⟩
    | false =>
      have hK := ((Keep.start w).new ka na).new kb nb
      rw [World.size_alloc] at hK
      go_enter Tryd.func19, Tryd.ntmps19
      go_wp2_with fail
      have hm0 : (w.heap.size, ka, na) ∈ [(w.heap.size + 1, kb, nb), (w.heap.size, ka, na)] := by simp
      have hm1 : (w.heap.size + 1, kb, nb) ∈ [(w.heap.size + 1, kb, nb), (w.heap.size, ka, na)] := by simp
      go_region_held3 (fun W => W.cell? ⟨w.heap.size, 0, none⟩ = some (.int .i64 ka) ∧ W.cell? ⟨w.heap.size, 1, none⟩ = some (.int .i64 na) ∧ W.cell? ⟨w.heap.size, 2, none⟩ = some (.string ⟨#[]⟩) ∧ W.cell? ⟨w.heap.size + 1, 0, none⟩ = some (.int .i64 kb) ∧ W.cell? ⟨w.heap.size + 1, 1, none⟩ = some (.int .i64 nb) ∧ W.cell? ⟨w.heap.size + 1, 2, none⟩ = some (.string ⟨#[]⟩) ∧ Keep w (w.heap.size + 1 + 1) W [(w.heap.size + 1, kb, nb), (w.heap.size, ka, na)])
        (first
          | with_reducible exact hK.k2 hm0 hm1
          | with_reducible exact hK.drew.k2 hm0 hm1
          | ((try go_split_ands); with_reducible exact (Keep.step (by assumption) bq).k2 hm0 hm1)
          | ((try go_split_ands); with_reducible exact (Keep.alloc (by assumption) _).k2 hm0 hm1)
          | ((try go_split_ands); with_reducible exact ((Keep.undrew (by assumption)).alloc _).drew.k2 hm0 hm1)
          | ((try go_split_ands); with_reducible exact (Keep.drew (by assumption)).k2 hm0 hm1)
          | ((try go_split_ands); with_reducible exact (Keep.realloc (by assumption) (by omega) _).k2 hm0 hm1)
          | ((try go_split_ands); with_reducible exact ((Keep.realloc (Keep.undrew (by assumption)) (by omega) _)).drew.k2 hm0 hm1)
          | ((try go_split_ands); with_reducible exact (((Keep.set (by assumption) _ _ _ (by omega)).set _ _ _ (by omega)).set _ _ _ (by omega)).k2 hm0 hm1)
          | ((try go_split_ands); with_reducible exact ((((Keep.undrew (by assumption)).set _ _ _ (by omega)).set _ _ _ (by omega)).set _ _ _ (by omega)).drew.k2 hm0 hm1)
          | go_keep)
        (first
          | (go_at_call 33; (with_reducible refine (R1.out _).mono ?_); rintro e w' ⟨rfl, bq⟩)
          | (go_at_call 33; (with_reducible refine (R2.out _).mono ?_); rintro e w' ⟨rfl, bq⟩))
      (try go_split_ands)
      go_wp2_with fail
      go_ret2
      exact ⟨by simp [lessR, q, q2], Keep.below (by assumption)⟩

set_option maxHeartbeats 1000000 in
theorem is_any (k n : Int) (w : World) (h : IsNum k n) : Calls Tryd.prog 11 #[VN k n] w (Ret (.bool true) w) := by
  have h2 : 3 ≤ k ∧ k ≤ 6 := by unfold IsNum at h; omega
  have t1 : decide (3 ≤ k) = true := by simp; omega
  have t2 : decide (k ≤ 6) = true := by simp; omega
  clear h
  go_enter Tryd.func11, Tryd.ntmps11
  go_wp2
  go_ret
  exact ⟨rfl, (Below.refl _ _).alloc (Nat.le_refl _) _⟩

end Go.Proofs.YtdacpebijljckaaDoor
