/- The heap: a range over an empty table; Keys of the example. -/
import Derived.Test.YtdeboajjhpecbaaDoorHpE
set_option linter.unusedVariables false
set_option linter.unusedSimpArgs false
namespace Go.Proofs.YtdeboajjhpecbaaDoor.Hp
open Go.RowKit Go.Proofs.YtdeboajjhpecbaaDoor Go.Shelf

theorem Upd.join {w W W' : World} {O : Nat → Prop} (h : Upd w W O) (u : Upd W W' (fun k => O k ∨ w.heap.size ≤ k)) : Upd w W' O :=
  ⟨u.os.trans h.os, u.tape.trans h.tape, u.output.trans h.output, Nat.le_trans h.size u.size, fun k hk hn => (u.block k (Nat.lt_of_lt_of_le hk h.size) (fun e => e.elim hn (fun e => by omega))).trans (h.block k hk hn)⟩
/-- The marks are taken, one by one: what holds whatever stands in their blocks. -/
theorem marksOf {F : Fence} {n : Nat} {P : Program} {fn : Func} {tmps : Array Value} {R : Ending → World → Prop} {I : World → Prop} (S : List Nat) (hI : ∀ W D o, I W → D ∈ S → I (W.putObj D o)) (hret : ∀ W, I W → LeavesIn F n P fn tmps R [] .returning W) :
    ∀ (Ds : List Nat) (W : World), (∀ D ∈ Ds, D ∈ S) → Ds.Nodup → (∀ D ∈ Ds, W.heap[D]? = some (.deferred (some []))) → I W → LeavesInM F n P fn tmps R (Ds.map markD) .returning W := by
  intro Ds
  induction Ds with
  | nil => exact fun W _ _ _ h => hret W h
  | cons D Ds ih =>
    intro W hS hn hd h
    have hD := hd D (List.mem_cons_self ..)
    refine ⟨by simp, .inl ⟨D, _, rfl, run_takeDeferred hD, ih _ (fun E hE => hS E (List.mem_cons_of_mem _ hE)) (List.nodup_cons.1 hn).2 (fun E hE => ?_) (hI _ _ _ h (hS D (List.mem_cons_self ..)))⟩⟩
    exact (World.putObj_heap_other (by rintro rfl; exact (List.nodup_cons.1 hn).1 hE)).trans (hd E (List.mem_cons_of_mem _ hE))
theorem infoVal : (Tryd.prog.info? 26).map (fun i => (i.zero, i.size, i.bytes)) = some (some (.agg #[.int .i64 0, .int .i64 0, .string ⟨#[]⟩]), 3, 32) := by kernel_rfl
/-- Values in a row. -/
def valsC (L : List K3) : List Value := L.flatMap fun k => [.int .i64 k.1, .int .i64 k.2.1, .string k.2.2]
theorem valsC_append (L M : List K3) : valsC (L ++ M) = valsC L ++ valsC M := by simp [valsC]
theorem valsC_get (L : List K3) (i j : Nat) (k : K3) (hk : L[i]? = some k) (hj : j < 3) : (valsC L)[i * 3 + j]? = ([.int .i64 k.1, .int .i64 k.2.1, .string k.2.2] : List Value)[j]? := by
  induction L generalizing i with
  | nil => simp at hk
  | cons d L ih =>
    have hc : valsC (d :: L) = .int .i64 d.1 :: .int .i64 d.2.1 :: .string d.2.2 :: valsC L := by simp [valsC]
    cases i with
    | zero =>
      simp at hk; subst hk
      rw [hc]
      match j, hj with
      | 0, _ => rfl
      | 1, _ => rfl
      | 2, _ => rfl
    | succ i =>
      rw [hc, show (i + 1) * 3 + j = i * 3 + j + 1 + 1 + 1 by omega]
      simp only [List.getElem?_cons_succ]
      exact ih i (by simpa using hk)
/-- What the package's variable 'length' holds. -/
def lenK : K3 := (7, 0, ⟨#[0, 108, 0, 101, 0, 110, 0, 103, 0, 116, 0, 104]⟩)
def Lg (w : World) : Prop := w.cell? ⟨0, 0, none⟩ = some (.int .i64 lenK.1) ∧ w.cell? ⟨0, 1, none⟩ = some (.int .i64 lenK.2.1) ∧ w.cell? ⟨0, 2, none⟩ = some (.string lenK.2.2)
theorem Lg.lt {w : World} (h : Lg w) : 0 < w.heap.size := World.block_lt_of_cell? w ⟨0, 0, none⟩ h.1
theorem Lg.upd {w w' : World} {M : Nat → Prop} (h : Lg w) (u : Upd w w' M) (hM : ¬ M 0) : Lg w' := ⟨u.cell h.1 hM, u.cell h.2.1 hM, u.cell h.2.2 hM⟩
theorem Lg.below {w w' : World} (h : Lg w) (b : Below w.heap.size w w') : Lg w' := h.upd (M := fun _ => False) (Upd.of_below_all b) (fun h => h)
end Go.Proofs.YtdeboajjhpecbaaDoor.Hp
