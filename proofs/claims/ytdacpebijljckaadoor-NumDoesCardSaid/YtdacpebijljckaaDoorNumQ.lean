/- Contracts of the reference's Of, rank, Less and Text, and of num.Text. -/
import Derived.Test.YtdacpebijljckaaDoorNumK
import Derived.Test.YtdacpebijljckaaDoorNumH
import Derived.Lib.AppendIntMem
import Derived.Lib.ItoaMem
set_option linter.unusedVariables false
set_option linter.unusedSimpArgs false
namespace Go.Proofs.YtdacpebijljckaaDoor
open Go.RowKit

/-- A number of the reference: its kind, its sign, how great it is. -/
abbrev RV (d : Int) (m : Bool) (s : Int) : Value := .agg #[.int .u8 d, .bool m, .int .i64 s]
abbrev RC (d : Int) (m : Bool) (s : Int) : Obj := .cells #[.int .u8 d, .bool m, .int .i64 s] 35
def ofR (k n : Int) : Int × Bool × Int :=
  if k == 4 then (110, false, 0) else if k == 5 then (105, decide (n < 0), 0) else if k == 6 then (119, true, 0) else if decide (n < 0) then (119, true, -n) else (119, false, n)
abbrev OV (k n : Int) : Value := RV (ofR k n).1 (ofR k n).2.1 (ofR k n).2.2
abbrev OC (k n : Int) : Obj := RC (ofR k n).1 (ofR k n).2.1 (ofR k n).2.2

set_option maxHeartbeats 2000000 in
theorem ofR_any (k n : Int) (w : World) (h1 : -9007199254740991 ≤ n) (h2 : n ≤ 9007199254740991) : Calls Tryd.prog 18 #[VN k n] w fun e w' => e = .returned (OV k n) ∧ w' = (w.alloc (VC k n)).alloc (OC k n) := by
  go_enter Tryd.func18, Tryd.ntmps18
  go_wp2_with fail
  · have e : ofR k n = (110, false, 0) := by simp [ofR, *]
    exact bodyPost_ret (v := RV 110 false 0) (by simp [results, Tryd.results18, go_sem]) rfl ⟨by show _ = Ending.returned (RV (ofR k n).1 (ofR k n).2.1 (ofR k n).2.2); rw [e], by show _ = (w.alloc (VC k n)).alloc (RC (ofR k n).1 (ofR k n).2.1 (ofR k n).2.2); rw [e]⟩
  · have e : ofR k n = (105, decide (n < 0), 0) := by simp [ofR, *]
    exact bodyPost_ret (v := RV 105 (decide (n < 0)) 0) (by simp [results, Tryd.results18, go_sem]) rfl ⟨by show _ = Ending.returned (RV (ofR k n).1 (ofR k n).2.1 (ofR k n).2.2); rw [e], by show _ = (w.alloc (VC k n)).alloc (RC (ofR k n).1 (ofR k n).2.1 (ofR k n).2.2); rw [e]⟩
  · have e : ofR k n = (119, true, 0) := by simp [ofR, *]
    exact bodyPost_ret (v := RV 119 true 0) (by simp [results, Tryd.results18, go_sem]) rfl ⟨by show _ = Ending.returned (RV (ofR k n).1 (ofR k n).2.1 (ofR k n).2.2); rw [e], by show _ = (w.alloc (VC k n)).alloc (RC (ofR k n).1 (ofR k n).2.1 (ofR k n).2.2); rw [e]⟩
  · have e : ofR k n = (119, true, -n) := by simp [ofR, *]
    exact bodyPost_ret (v := RV 119 true (-n)) (by simp [results, Tryd.results18, go_sem]) rfl ⟨by show _ = Ending.returned (RV (ofR k n).1 (ofR k n).2.1 (ofR k n).2.2); rw [e], by show _ = (w.alloc (VC k n)).alloc (RC (ofR k n).1 (ofR k n).2.1 (ofR k n).2.2); rw [e]⟩
  · have e : ofR k n = (119, false, n) := by simp [ofR, *]
    exact bodyPost_ret (v := RV 119 false n) (by simp [results, Tryd.results18, go_sem]) rfl ⟨by show _ = Ending.returned (RV (ofR k n).1 (ofR k n).2.1 (ofR k n).2.2); rw [e], by show _ = (w.alloc (VC k n)).alloc (RC (ofR k n).1 (ofR k n).2.1 (ofR k n).2.2); rw [e]⟩

def rrX (d s : Int) : Int := if d == 105 then 9007199254740992 else s
def rrR (d : Int) (m : Bool) (s : Int) : Int := if m = true then -(rrX d s) else rrX d s

set_option maxHeartbeats 2000000 in
theorem refRank_any (d : Int) (m : Bool) (s : Int) (w : World) (h1 : 0 ≤ s) (h2 : s ≤ 9007199254740992) : Calls Tryd.prog 34 #[RV d m s] w (Ret (.int .i64 (rrR d m s)) w) := by
  cases m
  all_goals
    go_enter Tryd.func34, Tryd.ntmps34
    go_wp2_with fail
    all_goals
      go_ret
      exact ⟨by simp [rrR, rrX, *], (Below.refl _ _).alloc (Nat.le_refl _) _⟩

def cmpR (na nb : Bool) (r1 r2 : Int) : Int := if na || nb then 2 else if r1 < r2 then -1 else if r2 < r1 then 1 else 0

set_option maxHeartbeats 4000000 in
theorem refLess_any (da : Int) (ma : Bool) (sa : Int) (db : Int) (mb : Bool) (sb : Int) (w : World) (h1 : 0 ≤ sa) (h2 : sa ≤ 9007199254740992) (h3 : 0 ≤ sb) (h4 : sb ≤ 9007199254740992) :
    Calls Tryd.prog 20 #[RV da ma sa, RV db mb sb] w (Ret (.int .i64 (cmpR (da == 110) (db == 110) (rrR da ma sa) (rrR db mb sb))) w) := by
  have r1 := fun W => refRank_any da ma sa W h1 h2
  have r2 := fun W => refRank_any db mb sb W h3 h4
  generalize rrR da ma sa = x1 at *
  generalize rrR db mb sb = x2 at *
  have bW := ((Below.refl w.heap.size w).alloc (Nat.le_refl _) (RC da ma sa)).alloc (by simp) (RC db mb sb)
  cases q1 : (da == 110) with
  | true =>
    clear r1 r2
    go_enter Tryd.func20, Tryd.ntmps20
    go_wp2
    go_ret
    exact ⟨by simp [cmpR], bW⟩
  | false =>
    cases q2 : (db == 110) with
    | true =>
      clear r1 r2
      go_enter Tryd.func20, Tryd.ntmps20
      go_wp2
      go_ret
      exact ⟨by simp [cmpR], bW⟩
    | false =>
      have hK := ((Kp.start w).new (.int .u8 da) (.bool ma) (.int .i64 sa) 35).new (.int .u8 db) (.bool mb) (.int .i64 sb) 35
      rw [World.size_alloc] at hK
      obtain ⟨a0, a1, a2⟩ := hK.at w.heap.size (.int .u8 da) (.bool ma) (.int .i64 sa) (by simp)
      obtain ⟨c0, c1, c2⟩ := hK.at (w.heap.size + 1) (.int .u8 db) (.bool mb) (.int .i64 sb) (by simp)
      clear hK
      have A0 := fun d os => cell_regrown a0 d os
      have A1 := fun d os => cell_regrown a1 d os
      have A2 := fun d os => cell_regrown a2 d os
      have C0 := fun d os => cell_regrown c0 d os
      have C1 := fun d os => cell_regrown c1 d os
      have C2 := fun d os => cell_regrown c2 d os
      clear a0 a1 a2 c0 c1 c2
      have D1 := fun d os => Calls.regrown_of (r1 (Go.Sort.grow (redrawn ((w.alloc (RC da ma sa)).alloc (RC db mb sb)) d) os))
      have D2 := fun d os => Calls.regrown_of (r2 (Go.Sort.grow (redrawn ((w.alloc (RC da ma sa)).alloc (RC db mb sb)) d) os))
      clear r1 r2
      go_enter Tryd.func20, Tryd.ntmps20
      go_wp2_with fail
      generalize (w.alloc (RC da ma sa)).alloc (RC db mb sb) = W at *
      refine wp_region_quiet_below (by kernel_rfl) (by kernel_rfl) ?_
      repeat (quiet_step (first | with_reducible exact D1 _ _ | with_reducible exact D2 _ _))
      refine wpQuiet_nil ?_
      intro _ hw'
      obtain ⟨⟨dq, osq⟩, hw''⟩ := hw'
      subst hw''
      clear A0 A1 A2 C0 C1 C2 D1 D2
      have bq := below_regrown W dq osq
      have bb := bW.trans (bq.mono bW.size)
      go_wp2
      all_goals
        go_ret
        exact ⟨by simp [cmpR, *]; try omega, bb⟩

end Go.Proofs.YtdacpebijljckaaDoor
