/- ArenaKeeps: pairs of numbers compared. -/
import Derived.Test.YthcdhiknjpfmhaaArKeN
import Derived.Laws.StructEq
import Derived.ChangeKeysEq
set_option linter.unusedVariables false
namespace Go.Proofs.Ythcdhiknjpfmhaa
open Go.RowKit
theorem pr_guard : Try.prog.eqGuardType Try.prog.depth 32 = false := by kernel_rfl
theorem int_equal (d : Nat) (u : Int) (w : World) : (Op.equalIn (d + 1) 3 (.int .i64 u) (.int .i64 u)).run Try.prog w = .ok true w := by
  rw [run_equalIn_int w d _ .i64 .i64 u u Try.underlying3]; simp
set_option maxRecDepth 10000 in
theorem pr_equal0 (d : Nat) (u1 u2 : Int) (w : World) : (Op.equalIn (d + 1 + 1) 32 (.agg #[.int .i64 u1, .int .i64 u2]) (.agg #[.int .i64 u1, .int .i64 u2])).run Try.prog w = .ok true w := by
  rw [Op.equalIn]
  simp only [Sem.run_bind, run_underlying Try.underlying32, Result.andThen_ok]
  have hs : (sizeOf 3).run Try.prog w = .ok 1 w := by
    obtain ⟨i0, hi, _, _, _⟩ := info_parts infoInt
    rw [run_sizeOf w hi]
    have : Try.prog.cellsOf 3 = 1 := by kernel_rfl
    rw [this]
  rw [hs]
  have hk : Try.prog.plainKey 3 = true := by kernel_rfl
  have p0 : (part 3 #[Value.int IntKind.i64 u1, Value.int IntKind.i64 u2] (0)).run Try.prog w = .ok (.int .i64 u1) w := run_part_plain w hk (by rfl)
  have p1 : (part 3 #[Value.int IntKind.i64 u1, Value.int IntKind.i64 u2] (1)).run Try.prog w = .ok (.int .i64 u2) w := run_part_plain w hk (by rfl)
  simp only [Result.andThen_ok]
  have hr : (forIn [:2] ((none : Option Bool), ()) fun i __s => (do
              let x ← part 3 #[Value.int IntKind.i64 u1, Value.int IntKind.i64 u2] (i * 1)
              let y ← part 3 #[Value.int IntKind.i64 u1, Value.int IntKind.i64 u2] (i * 1)
              let b ← Op.equalIn (d + 1) 3 x y
              if (!b) = true then pure (ForInStep.done (some false, ())) else pure (ForInStep.yield (none, ())) : Sem _)).run Try.prog w = .ok (none, ()) w := by
    rw [Std.Legacy.Range.forIn_eq_forIn_range']
    simp [List.range', Std.Legacy.Range.size, Sem.run_bind, p0, p1, Result.andThen_ok, int_equal, Sem.run_pure]
  rw [hr]
  simp only [Result.andThen_ok, Sem.run_pure]
theorem pr_equal (u1 u2 : Int) (w : World) : (Op.equalIn 10000 32 (.agg #[.int .i64 u1, .int .i64 u2]) (.agg #[.int .i64 u1, .int .i64 u2])).run Try.prog w = .ok true w := pr_equal0 9998 u1 u2 w
end Go.Proofs.Ythcdhiknjpfmhaa
