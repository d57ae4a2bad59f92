/- The heap: digits, and values of strings of digits. -/
import Derived.Test.YtdeboajjhpecbaaDoorHpC
import Derived.Laws.BytesArg
set_option linter.unusedVariables false
set_option linter.unusedSimpArgs false
namespace Go.Proofs.YtdeboajjhpecbaaDoor.Hp
open Go.RowKit Go.Proofs.YtdeboajjhpecbaaDoor Go.Shelf

theorem conv_one (W : World) (c : Int) : (convert 82 9 (.slice (some ⟨W.heap.size, 0, none⟩) 1 1)).run Tryd.prog (W.alloc (.cells #[.int .u8 c] 5)) = .ok (.string ⟨#[UInt8.ofNat c.toNat]⟩) (W.alloc (.cells #[.int .u8 c] 5)) := by
  have hc2 : ∀ i, i < 1 → (W.alloc (.cells #[.int .u8 c] 5)).cell? ⟨W.heap.size, 0 + i, none⟩ = some (.int .u8 ([c].getD i 0)) := by
    intro i hi
    obtain rfl : i = 0 := by omega
    rw [Lib.cell_of_heap (heap_alloc_new W _)]
    rfl
  rw [run_convert_bytes_arg _ 82 5 Tryd.underlying82 Tryd.underlying5 W.heap.size 0 1 1 [c] rfl hc2 9 Tryd.underlying9]
  rfl
theorem dig_step (n : Nat) (h : n < 12000) (h10 : 10 ≤ n) : Tx.decB n = Tx.decB (n / 10) ++ Tx.decB (n % 10) := by
  have e0 : Tx.decB (n % 10) = [Tx.dg n] := by
    rcases Tx.decB_cases (n % 10) (by omega) with ⟨_, e⟩ | ⟨h1, _⟩ | ⟨h1, _⟩ | ⟨h1, _⟩ | ⟨h1, _⟩
    · rw [e]; unfold Tx.dg; rw [Nat.mod_mod]
    all_goals omega
  rw [e0]
  have e1 : n / 10 / 10 = n / 100 := by omega
  have e2 : n / 10 / 100 = n / 1000 := by omega
  have e3 : n / 10 / 1000 = n / 10000 := by omega
  rcases Tx.decB_cases n h with ⟨h1, e⟩ | ⟨h1, h2, e⟩ | ⟨h1, h2, e⟩ | ⟨h1, h2, e⟩ | ⟨h1, e⟩ <;>
    rcases Tx.decB_cases (n / 10) (by omega) with ⟨g1, f⟩ | ⟨g1, g2, f⟩ | ⟨g1, g2, f⟩ | ⟨g1, g2, f⟩ | ⟨g1, f⟩ <;> first | omega | (rw [e, f]; (try simp only [e1, e2, e3]); rfl)
theorem dig_small (n : Nat) (h : n < 10) : Tx.decB n = [UInt8.ofNat (48 + n)] := by
  rcases Tx.decB_cases n (by omega) with ⟨_, e⟩ | ⟨h1, _⟩ | ⟨h1, _⟩ | ⟨h1, _⟩ | ⟨h1, _⟩
  · rw [e]; unfold Tx.dg; rw [Nat.mod_eq_of_lt h]
  all_goals omega
theorem decB_len (n : Nat) (h : n < 12000) : (Tx.decB n).length ≤ 5 := by
  rcases Tx.decB_cases n h with ⟨_, e⟩ | ⟨_, _, e⟩ | ⟨_, _, e⟩ | ⟨_, _, e⟩ | ⟨_, e⟩ <;> rw [e] <;> simp
/-- The key of a string of ASCII bytes. -/
def keyL (l : List UInt8) : K3 := (7, 0, ⟨(Tx.ofB ⟨l.toArray⟩).toArray⟩)
theorem keyL_any (l : List UInt8) (hl : l.length ≤ 1000) (w : World) : Calls Tryd.prog 20 #[.string ⟨l.toArray⟩] w fun e w' => e = .returned (VK (keyL l)) ∧ Below w.heap.size w w' :=
  Tx.val_any ⟨l.toArray⟩ w (by show l.toArray.size ≤ _; simp; omega)
theorem keyL_size (l : List UInt8) (h : ∀ c, c ∈ l → c.toNat < 128) (hl : l.length ≤ 1000) : (keyL l).2.2.size ≤ 4000 := by
  show (Tx.ofB ⟨l.toArray⟩).toArray.size ≤ 4000
  rw [Tx.ofB_ascii l h, List.size_toArray, Tx.unitsB_length, List.length_map]
  omega
theorem keyL_idx (l : List UInt8) (h : ∀ c, c ∈ l → c.toNat < 128) : Tx.indexOf (keyL l).2.2 = Tx.idxL (l.map (·.toNat)) := Tx.indexOf_of_ascii l h
end Go.Proofs.YtdeboajjhpecbaaDoor.Hp
