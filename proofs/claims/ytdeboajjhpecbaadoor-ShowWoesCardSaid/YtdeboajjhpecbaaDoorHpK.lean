/- The heap: Keys of the example. -/
import Derived.Test.YtdeboajjhpecbaaDoorHpF
set_option linter.unusedVariables false
set_option linter.unusedSimpArgs false
namespace Go.Proofs.YtdeboajjhpecbaaDoor.Hp
open Go.RowKit Go.Proofs.YtdeboajjhpecbaaDoor Go.Shelf
attribute [local go_sem] Oper.semAt_some

def keyD (j : Nat) : K3 := keyL (Tx.decB j)
/-- Keys on its way. -/
structure KI (w W : World) (p b : Nat) (L : List K3) (lv : Value) : Prop where
  ob : Blk W p 37 #[.pointer (some ⟨b, 0, none⟩)]
  lb : Blk W (p + 1) 28 #[lv]
  row : W.ownsRow (p + 2) 26 3 lv L.length (valsC L)
theorem KI.upd {w W W' : World} {p b : Nat} {L : List K3} {lv : Value} {M : Nat → Prop} (h : KI w W p b L lv) (u : Upd W W' M) (h0 : ¬ M p) (h1 : ¬ M (p + 1)) (h2 : ∀ k, lv.ownBlock = some k → ¬ M k) : KI w W' p b L lv := ⟨u.blk h.ob h0, u.blk h.lb h1, u.own h.row h2⟩
theorem KI.below {w W W' : World} {p b : Nat} {L : List K3} {lv : Value} (h : KI w W p b L lv) (u : Below W.heap.size W W') : KI w W' p b L lv := h.upd (M := fun _ => False) (Upd.of_below_all u) (fun h => h) (fun h => h) (fun _ _ h => h)
/-- One more behind the others: what the append and the store leave. -/
theorem KI.more {w W w3 : World} {p b g cap : Nat} {L : List K3} {lv : Value} (k : K3) (h : KI w W p b L lv) (hown : w3.ownsRow (p + 2) 26 3 (.slice (some ⟨g, 0, none⟩) (L.length + 1) cap) (L.length + 1) (valsC L ++ [.int .i64 k.1, .int .i64 k.2.1, .string k.2.2]))
    (hgrow : W.grownBy w3 lv.ownBlock) : KI w (w3.setCell ⟨p + 1, 0, none⟩ (.slice (some ⟨g, 0, none⟩) (L.length + 1) cap)) p b (L ++ [k]) (.slice (some ⟨g, 0, none⟩) (L.length + 1) cap) := by
  have hn1 : lv.ownBlock ≠ some p := fun e => by have := (h.row.lt p e).1; omega
  have hn2 : lv.ownBlock ≠ some (p + 1) := fun e => by have := (h.row.lt _ e).1; omega
  have ob3 := h.ob.grown hgrow (fun e => hn1 e.symm)
  have lb3 := h.lb.grown hgrow (fun e => hn2 e.symm)
  refine ⟨ob3.far (by show p ≠ p + 1; omega) _, lb3.set_ 0 _, ?_⟩
  rw [List.length_append, valsC_append]
  exact own_set hown lb3 (by decide) _ _
theorem KI.more_upd {w W w3 : World} {p b g cap n : Nat} {L : List K3} {lv : Value} (h : KI w W p b L lv) (hgrow : W.grownBy w3 lv.ownBlock) : Upd W (w3.setCell ⟨p + 1, 0, none⟩ (.slice (some ⟨g, 0, none⟩) n cap)) (fun k => p ≤ k) :=
  ((Upd.refl W _).grown hgrow (fun k e => by have := (h.row.lt k e).1; omega)).set (p + 1) 0 _ (by omega)

/-- What Keys of the example comes to. -/
def KeyP (p T : Nat) (O : Nat → Prop) (w : World) (e : Ending) (w' : World) : Prop :=
  ∃ g cap O', e = .returned (.slice (some ⟨g, 0, none⟩) 3 cap) ∧ w'.ownsRow (p + 2) 26 3 (.slice (some ⟨g, 0, none⟩) 3 cap) 3 (valsC [keyD 0, keyD 1, lenK]) ∧ TabA w' T [] [] O' ∧ Upd w w' O
end Go.Proofs.YtdeboajjhpecbaaDoor.Hp
