/- Show: what ShowKinds says where the plans are not too great. -/
import Derived.Test.YtdeboajjhpecbaaGreatDoorShKiW
import Derived.Test.YtdeboajjhpecbaaGreatDoorShZT
set_option linter.unusedVariables false
set_option linter.unusedSimpArgs false
namespace Go.Proofs.YtdeboajjhpecbaaGreatDoor
open Go.RowKit
theorem kinds_said {P P' : List Hp.PartV} {pn pc pn' pc' : Nat} {pa pa' : Option Addr} {w : World} (hP : Hp.PlanR w pa pn P) (hP' : Hp.PlanR w pa' pn' P') (hlen : ∀ p ∈ P, p.len ≤ 4194304) (hlen' : ∀ p ∈ P', p.len ≤ 4194304) (hpn : pn ≤ 4194304) (hpn' : pn' ≤ 4194304) (hL : laidMetH Tryz.prog Rows.showKindsUptoRow.laid w) :
    Calls Tryz.prog 4 #[.agg #[.slice pa pn pc], .agg #[.slice pa' pn' pc']] w fun e w' => e = .returned (.bool true) ∧ Below w.heap.size w w' := by
  rw [Go.MakeChecks.laidMetH_plain _ _ _ (by kernel_rfl)] at hL
  exact Hp.kinds_walk hP hP' hlen hlen' hpn hpn' ⟨tb_of w (Lib.laidMet.reads hL (.tail _ (.tail _ (.head _)))), ut_of w (Lib.laidMet.reads hL (.tail _ (.tail _ (.tail _ (.tail _ (.tail _ (.tail _ (.tail _ (.head _))))))))) (Lib.laidMet.reads hL (.tail _ (.tail _ (.tail _ (.head _)))))⟩ (fb_of w (Lib.laidMet.reads hL (.tail _ (.tail _ (.tail _ (.tail _ (.tail _ (.head _))))))))
end Go.Proofs.YtdeboajjhpecbaaGreatDoor
