/- A table that is none, a cursor that is none; the walk of the statement OtableNone. -/
import Derived.Test.YtlgnjbdkkpjjaaaOtK
set_option linter.unusedVariables false
set_option linter.unusedSimpArgs false
namespace Go.Proofs.Ytlgnjbdkkpjjaaa
open Go.RowKit Go.Sort

theorem put_none (k v : K3) (f : Int) (w : World) : Calls Try.prog 12 #[.pointer none, VK k, VK v, .int .i64 f] w (Ret (.tuple #[]) w) := by
  go_enter Try.func12, Try.ntmps12
  go_wp2
  go_end0
  exact ⟨rfl, ((Below.refl _ _).alloc (Nat.le_refl _) _).alloc (by simp) _⟩
theorem clear_none (w : World) : Calls Try.prog 23 #[.pointer none] w (Ret (.tuple #[]) w) := by
  go_enter Try.func23, Try.ntmps23
  go_wp2
  go_end0
  exact ⟨rfl, Below.refl _ _⟩
theorem get_none (k : K3) (w : World) : Calls Try.prog 20 #[.pointer none, VK k] w (Ret (.tuple #[VS 0 0 ⟨#[]⟩, .int .i64 0, .bool false]) w) := by
  go_enter Try.func20, Try.ntmps20
  go_wp2
  exact bodyPost_ret (v := .tuple #[VS 0 0 ⟨#[]⟩, .int .i64 0, .bool false]) (by simp [results, Try.results20, go_sem]) rfl ⟨rfl, ((Below.refl _ _).alloc (Nat.le_refl _) _).alloc (by simp) _⟩
theorem next_nil (w : World) : Calls Try.prog 14 #[.pointer none] w (Ret (.tuple #[VS 0 0 ⟨#[]⟩, VS 0 0 ⟨#[]⟩, .int .i64 0, .bool false]) w) := by
  go_enter Try.func14, Try.ntmps14
  go_wp2
  exact bodyPost_ret (v := .tuple #[VS 0 0 ⟨#[]⟩, VS 0 0 ⟨#[]⟩, .int .i64 0, .bool false]) (by simp [results, Try.results14, go_sem]) rfl ⟨rfl, ((Below.refl _ _).alloc (Nat.le_refl _) _).alloc (by simp) _⟩
theorem next_shut (c : Nat) (a : Int) (w : World) (h : Blk w c 77 #[.pointer none, .int .i64 a]) : Calls Try.prog 14 #[.pointer (some ⟨c, 0, none⟩)] w (Ret (.tuple #[VS 0 0 ⟨#[]⟩, VS 0 0 ⟨#[]⟩, .int .i64 0, .bool false]) w) := by
  have x0 : ((w.alloc (SC 0 0 ⟨#[]⟩)).alloc (SC 0 0 ⟨#[]⟩)).cell? ⟨c, 0, none⟩ = some (.pointer none) := by rw [((h.alloc _).alloc _).cell]; rfl
  go_enter Try.func14, Try.ntmps14
  go_wp2
  exact bodyPost_ret (v := .tuple #[VS 0 0 ⟨#[]⟩, VS 0 0 ⟨#[]⟩, .int .i64 0, .bool false]) (by simp [results, Try.results14, go_sem]) rfl ⟨rfl, ((Below.refl _ _).alloc (Nat.le_refl _) _).alloc (by simp) _⟩
theorem cursor_none (w : World) : Calls Try.prog 13 #[.pointer none] w fun e w' => e = .returned (.pointer (some ⟨w.heap.size, 0, none⟩)) ∧ w' = w.alloc (.cells #[.pointer none, .int .i64 0] 77) := by
  go_enter Try.func13, Try.ntmps13
  go_wp2
  go_ret
  exact ⟨rfl, rfl⟩
theorem close_none (w : World) : Calls Try.prog 24 #[.pointer none] w (Ret (.tuple #[]) w) := by
  go_enter Try.func24, Try.ntmps24
  go_wp2
  go_end0
  exact ⟨rfl, Below.refl _ _⟩
theorem close_shut (c : Nat) (a : Int) (w : World) (h : Blk w c 77 #[.pointer none, .int .i64 a]) : Calls Try.prog 24 #[.pointer (some ⟨c, 0, none⟩)] w (Ret (.tuple #[]) w) := by
  have x0 : w.cell? ⟨c, 0, none⟩ = some (.pointer none) := by rw [h.cell]; rfl
  go_enter Try.func24, Try.ntmps24
  go_wp2
  go_end0
  exact ⟨rfl, Below.refl _ _⟩
theorem delete_none (k : K3) (w : World) : Calls Try.prog 15 #[.pointer none, VK k] w (Ret (.bool false) w) := by
  go_enter Try.func15, Try.ntmps15
  go_wp2
  go_ret
  exact ⟨rfl, (Below.refl _ _).alloc (Nat.le_refl _) _⟩
theorem len_none (w : World) : Calls Try.prog 17 #[.pointer none] w (Ret (.int .i64 0) w) := by
  go_enter Try.func17, Try.ntmps17
  go_wp2
  go_ret
  exact ⟨rfl, Below.refl _ _⟩
theorem storage_none (w : World) : Calls Try.prog 18 #[.pointer none] w (Ret (.int .i64 0) w) := by
  go_enter Try.func18, Try.ntmps18
  go_wp2
  go_ret
  exact ⟨rfl, Below.refl _ _⟩
theorem open_none (w : World) : Calls Try.prog 16 #[.pointer none] w (Ret (.bool false) w) := by
  go_enter Try.func16, Try.ntmps16
  go_wp2
  go_ret
  exact ⟨rfl, Below.refl _ _⟩
end Go.Proofs.Ytlgnjbdkkpjjaaa
