/- The heap: digits, and values of strings of digits. -/
import Derived.Test.YtmimnaaofpkndaaDoorHpC
import Derived.Laws.BytesArg
set_option linter.unusedVariables false
set_option linter.unusedSimpArgs false
namespace Go.Proofs.YtmimnaaofpkndaaDoor.Hp
open Go.RowKit Go.Proofs.YtmimnaaofpkndaaDoor Go.Shelf

theorem conv_one (W : World) (c : Int) : (convert 36 9 (.slice (some ⟨W.heap.size, 0, none⟩) 1 1)).run Tryd.prog (W.alloc (.cells #[.int .u8 c] 5)) = .ok (.string ⟨#[UInt8.ofNat c.toNat]⟩) (W.alloc (.cells #[.int .u8 c] 5)) := by
  have hc2 : ∀ i, i < 1 → (W.alloc (.cells #[.int .u8 c] 5)).cell? ⟨W.heap.size, 0 + i, none⟩ = some (.int .u8 ([c].getD i 0)) := by
    intro i hi
    obtain rfl : i = 0 := by omega
    rw [Lib.cell_of_heap (heap_alloc_new W _)]
    rfl
  rw [run_convert_bytes_arg _ 36 5 Tryd.underlying36 Tryd.underlying5 W.heap.size 0 1 1 [c] rfl hc2 9 Tryd.underlying9]
  rfl
theorem dig_step (n : Nat) (h : n < 12000) (h10 : 10 ≤ n) : Tx.decB n = Tx.decB (n / 10) ++ Tx.decB (n % 10) := by
  have e0 : Tx.decB (n % 10) = [Tx.dg n] := by
    rcases Tx.decB_cases (n % 10) (by omega) with ⟨_, e⟩ | ⟨h1, _⟩ | ⟨h1, _⟩ | ⟨h1, _⟩ | ⟨h1, _⟩
    · rw [e]; unfold Tx.dg; rw [Nat.mod_mod]
    all_goals omega
  rw [e0]
  have e1 : n / 10 / 10 = n / 100 := by omega
  have e2 : n / 10 / 100 = n / 1000 := by omega
  have e3 : n / 10 / 1000 = n / 10000 := by omega
  rcases Tx.decB_cases n h with ⟨h1, e⟩ | ⟨h1, h2, e⟩ | ⟨h1, h2, e⟩ | ⟨h1, h2, e⟩ | ⟨h1, e⟩ <;>
    rcases Tx.decB_cases (n / 10) (by omega) with ⟨g1, f⟩ | ⟨g1, g2, f⟩ | ⟨g1, g2, f⟩ | ⟨g1, g2, f⟩ | ⟨g1, f⟩ <;> first | omega | (rw [e, f]; (try simp only [e1, e2, e3]); rfl)
theorem dig_small (n : Nat) (h : n < 10) : Tx.decB n = [UInt8.ofNat (48 + n)] := by
  rcases Tx.decB_cases n (by omega) with ⟨_, e⟩ | ⟨h1, _⟩ | ⟨h1, _⟩ | ⟨h1, _⟩ | ⟨h1, _⟩
  · rw [e]; unfold Tx.dg; rw [Nat.mod_eq_of_lt h]
  all_goals omega
theorem decB_len (n : Nat) (h : n < 12000) : (Tx.decB n).length ≤ 5 := by
  rcases Tx.decB_cases n h with ⟨_, e⟩ | ⟨_, _, e⟩ | ⟨_, _, e⟩ | ⟨_, _, e⟩ | ⟨_, e⟩ <;> rw [e] <;> simp
set_option maxRecDepth 100000 in
set_option maxHeartbeats 2000000 in
theorem digits_any (n : Nat) (hn : n < 12000) (w : World) :
    Calls Tryd.prog 66 #[.int .i64 (n : Int)] w fun e w' => e = .returned (.string ⟨(Tx.decB n).toArray⟩) ∧ Below w.heap.size w w' := by
  induction n using Nat.strongRecOn generalizing w with
  | _ n ih =>
  by_cases h : n < 10
  · have t1 : decide ((n : Int) < 10) = true := by simp; omega
    have t3 : IntKind.i64.wrap (48 + (n : Int)) = 48 + (n : Int) := IntWalk.i64_in _ (by omega)
    have hcv := conv_one w (48 + (n : Int))
    rw [show (48 + (n : Int)).toNat = 48 + n by omega] at hcv
    rw [dig_small n h]
    obtain ⟨ch, hch⟩ : ∃ ch, UInt8.ofNat (48 + n) = ch := ⟨_, rfl⟩
    rw [hch] at hcv ⊢
    clear hch ih
    go_enter Tryd.func66, Tryd.ntmps66
    go_wp2
    go_ret
    exact ⟨rfl, (Below.refl _ _).alloc (Nat.le_refl _) _⟩
  · have t1 : decide ((n : Int) < 10) = false := by simp; omega
    have h1 := fun W => ih (n / 10) (by omega) (by omega) W
    have h2 := fun W => ih (n % 10) (by omega) (by omega) W
    rw [show ((n / 10 : Nat) : Int) = (n : Int) / 10 by omega] at h1
    rw [show ((n % 10 : Nat) : Int) = (n : Int) % 10 by omega] at h2
    have H1 := Lib.hid h1
    have H2 := Lib.hid h2
    have HS := Lib.hid (dig_step n hn (by omega))
    clear ih h1 h2
    go_enter Tryd.func66, Tryd.ntmps66
    go_wp2_with (fail)
    refine (H1.out w).mono ?_
    rintro e w1 ⟨rfl, b1⟩
    go_wp2_with (fail)
    refine (H2.out w1).mono ?_
    rintro e w2 ⟨rfl, b2⟩
    obtain ⟨L1, hL1⟩ : ∃ l, Tx.decB (n / 10) = l := ⟨_, rfl⟩
    obtain ⟨L2, hL2⟩ : ∃ l, Tx.decB (n % 10) = l := ⟨_, rfl⟩
    have hl1 : L1.length ≤ 5 := by rw [← hL1]; exact decB_len _ (by omega)
    have hl2 : L2.length ≤ 5 := by rw [← hL2]; exact decB_len _ (by omega)
    have hs : ¬ 9223372036854775807 < L1.length + L2.length := by omega
    have ea : (⟨L1.toArray⟩ ++ ⟨L2.toArray⟩ : ByteArray) = ⟨(L1 ++ L2).toArray⟩ := Tx.app_s L1 L2
    have HE := Lib.hid ea
    rw [hL1, hL2]
    go_wp2_with (fail)
    go_ret
    exact ⟨by rw [HS.out, hL1, hL2]; rfl, b1.trans (b2.mono b1.size)⟩
set_option maxRecDepth 100000 in
set_option maxHeartbeats 2000000 in
theorem digit_any (n : Nat) (hn : n < 12000) (w : World) :
    Calls Tryd.prog 17 #[.int .i64 (n : Int)] w fun e w' => e = .returned (.string ⟨(Tx.decB n).toArray⟩) ∧ Below w.heap.size w w' := by
  induction n using Nat.strongRecOn generalizing w with
  | _ n ih =>
  by_cases h : n < 10
  · have t1 : decide ((n : Int) < 10) = true := by simp; omega
    have t3 : IntKind.i64.wrap (48 + (n : Int)) = 48 + (n : Int) := IntWalk.i64_in _ (by omega)
    have hcv := conv_one w (48 + (n : Int))
    rw [show (48 + (n : Int)).toNat = 48 + n by omega] at hcv
    rw [dig_small n h]
    obtain ⟨ch, hch⟩ : ∃ ch, UInt8.ofNat (48 + n) = ch := ⟨_, rfl⟩
    rw [hch] at hcv ⊢
    clear hch ih
    go_enter Tryd.func17, Tryd.ntmps17
    go_wp2
    go_ret
    exact ⟨rfl, (Below.refl _ _).alloc (Nat.le_refl _) _⟩
  · have t1 : decide ((n : Int) < 10) = false := by simp; omega
    have h1 := fun W => ih (n / 10) (by omega) (by omega) W
    have h2 := fun W => ih (n % 10) (by omega) (by omega) W
    rw [show ((n / 10 : Nat) : Int) = (n : Int) / 10 by omega] at h1
    rw [show ((n % 10 : Nat) : Int) = (n : Int) % 10 by omega] at h2
    have H1 := Lib.hid h1
    have H2 := Lib.hid h2
    have HS := Lib.hid (dig_step n hn (by omega))
    clear ih h1 h2
    go_enter Tryd.func17, Tryd.ntmps17
    go_wp2_with (fail)
    refine (H1.out w).mono ?_
    rintro e w1 ⟨rfl, b1⟩
    go_wp2_with (fail)
    refine (H2.out w1).mono ?_
    rintro e w2 ⟨rfl, b2⟩
    obtain ⟨L1, hL1⟩ : ∃ l, Tx.decB (n / 10) = l := ⟨_, rfl⟩
    obtain ⟨L2, hL2⟩ : ∃ l, Tx.decB (n % 10) = l := ⟨_, rfl⟩
    have hl1 : L1.length ≤ 5 := by rw [← hL1]; exact decB_len _ (by omega)
    have hl2 : L2.length ≤ 5 := by rw [← hL2]; exact decB_len _ (by omega)
    have hs : ¬ 9223372036854775807 < L1.length + L2.length := by omega
    have ea : (⟨L1.toArray⟩ ++ ⟨L2.toArray⟩ : ByteArray) = ⟨(L1 ++ L2).toArray⟩ := Tx.app_s L1 L2
    have HE := Lib.hid ea
    rw [hL1, hL2]
    go_wp2_with (fail)
    go_ret
    exact ⟨by rw [HS.out, hL1, hL2]; rfl, b1.trans (b2.mono b1.size)⟩
/-- The key of a string of ASCII bytes. -/
def keyL (l : List UInt8) : K3 := (7, 0, ⟨(Tx.ofB ⟨l.toArray⟩).toArray⟩)
theorem keyL_any (l : List UInt8) (hl : l.length ≤ 1000) (w : World) : Calls Tryd.prog 13 #[.string ⟨l.toArray⟩] w fun e w' => e = .returned (VK (keyL l)) ∧ Below w.heap.size w w' :=
  Tx.val_any ⟨l.toArray⟩ w (by show l.toArray.size ≤ _; simp; omega)
theorem keyL_size (l : List UInt8) (h : ∀ c, c ∈ l → c.toNat < 128) (hl : l.length ≤ 1000) : (keyL l).2.2.size ≤ 4000 := by
  show (Tx.ofB ⟨l.toArray⟩).toArray.size ≤ 4000
  rw [Tx.ofB_ascii l h, List.size_toArray, Tx.unitsB_length, List.length_map]
  omega
theorem keyL_idx (l : List UInt8) (h : ∀ c, c ∈ l → c.toNat < 128) : Tx.indexOf (keyL l).2.2 = Tx.idxL (l.map (·.toNat)) := Tx.indexOf_of_ascii l h
end Go.Proofs.YtmimnaaofpkndaaDoor.Hp
