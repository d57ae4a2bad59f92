/- ArenaKeeps: light. -/
import Derived.Test.YthcdhiknjpfmhaaArKeO
set_option linter.unusedVariables false
set_option linter.unusedSimpArgs false
namespace Go.Proofs.Ythcdhiknjpfmhaa
open Go.RowKit
/-- How much steps hold. -/
def szS (s : StepV) : Nat := s.tn + s.bn + s.fn
def tot (l : List StepV) : Nat := (l.map szS).sum
theorem tot_snoc (l : List StepV) (s : StepV) : tot (l ++ [s]) = tot l + szS s := by simp [tot]
theorem tot_mem {l : List StepV} {s : StepV} (h : s ∈ l) : szS s ≤ tot l := by
  induction l with
  | nil => cases h
  | cons x l ih =>
    have e : tot (x :: l) = szS x + tot l := by simp [tot]
    rcases List.mem_cons.1 h with rfl | h
    · omega
    · have := ih h; omega
set_option maxHeartbeats 1000000 in
theorem light_any {w : World} {a : Option Addr} {n cap : Nat} {l : List StepV} (h : StepsR w a n l) (hn : n ≤ 10000000) (hs : ∀ s ∈ l, s.tn ≤ 10000000 ∧ s.bn ≤ 10000000 ∧ s.fn ≤ 10000000) :
    Calls Try.prog 17 #[.slice a n cap] w fun e w' => ∃ b, e = .returned (.bool b) ∧ Below w.heap.size w w' ∧ (b = true → n ≤ 200 ∧ tot l ≤ 2000) := by
  have HH := Lib.hid (And.intro h hs)
  clear h hs
  by_cases h200 : n ≤ 200
  · have L0 : decide ((200 : Int) < (n : Int)) = false := by rw [decide_eq_false_iff_not]; omega
    go_enter Try.func17, Try.ntmps17
    go_wp2_with fail
    go_loopw [3, 11] (fun c v wr => ∃ i : Nat, i ≤ n ∧ v = .int .i64 i ∧ c = .int .i64 (tot (l.take i)) ∧ tot (l.take i) ≤ 2000 ∧ Below w.heap.size w wr) (fun _ v _ => n - (intOf v).toNat)
    case atStart => exact ⟨0, by omega, rfl, rfl, by simp [tot], Below.refl _ _⟩
    case round =>
      obtain ⟨i, hin, rfl, rfl, ht, bw⟩ := hrel
      by_cases hlt : i < n
      · have L1 : decide ((i : Int) < (n : Int)) = true := by rw [decide_eq_true_eq]; omega
        obtain ⟨b, off, rfl, hbl, hc⟩ := HH.out.1.2.1 (by omega)
        have hil : i < l.length := by rw [HH.out.1.1]; exact hlt
        have hget : l[i]? = some l[i] := List.getElem?_eq_getElem hil
        have hmem : l[i] ∈ l := List.getElem_mem _
        have htk : l.take (i + 1) = l.take i ++ [l[i]] := by rw [List.take_succ_eq_append_getElem hil]
        have hcc := hc i _ hget
        have hsz := HH.out.2 _ hmem
        generalize l[i] = s at *
        have c0 := (bw.cell (p := ⟨b, off + i * 5 + 0, none⟩) hbl).trans (hcc 0 (by decide))
        have c1 := (bw.cell (p := ⟨b, off + i * 5 + 1, none⟩) hbl).trans (hcc 1 (by decide))
        have c2 := (bw.cell (p := ⟨b, off + i * 5 + 2, none⟩) hbl).trans (hcc 2 (by decide))
        have c3 := (bw.cell (p := ⟨b, off + i * 5 + 3, none⟩) hbl).trans (hcc 3 (by decide))
        have c4 := (bw.cell (p := ⟨b, off + i * 5 + 4, none⟩) hbl).trans (hcc 4 (by decide))
        simp only [stepC, List.getElem?_cons_zero, List.getElem?_cons_succ, Nat.add_zero] at c0 c1 c2 c3 c4
        have z0 : (0 : Int) ≤ i := by omega
        have z1 : (i : Int) < n := by omega
        have z2 : (i : Int).toNat = i := by omega
        have a1 : IntKind.i64.wrap ((i : Int) + 1) = ((i + 1 : Nat) : Int) := by rw [IntWalk.i64_in _ (by omega)]; rfl
        have ht2 : tot (l.take (i + 1)) = tot (l.take i) + szS s := by rw [htk, tot_snoc]
        obtain ⟨c, hct⟩ : ∃ c, tot (l.take i) = c := ⟨_, rfl⟩
        rw [hct] at ht ht2 ⊢
        obtain ⟨d, hd⟩ : ∃ d, c + szS s = d := ⟨_, rfl⟩
        have s1 : IntKind.i64.wrap ((s.tn : Int) + s.bn) = (s.tn : Int) + s.bn := IntWalk.i64_in _ (by omega)
        have s2 : IntKind.i64.wrap ((s.tn : Int) + s.bn + s.fn) = (s.tn : Int) + s.bn + s.fn := IntWalk.i64_in _ (by omega)
        have s3 : IntKind.i64.wrap ((c : Int) + ((s.tn : Int) + s.bn + s.fn)) = (d : Int) := by
          have : szS s = s.tn + s.bn + s.fn := rfl
          rw [IntWalk.i64_in _ (by omega)]; omega
        have bw2 := bw.alloc bw.size (.cells #[.int .i64 s.kind, .slice s.ta s.tn s.tcap, .slice s.ba s.bn s.bcap, .slice s.fa s.fn s.fcap, .int .i64 s.n] 54)
        have HT := Lib.hid (And.intro ht2 hd)
        have HQ := Lib.hid hct
        clear hc hcc hget hmem htk hsz ht2 hd hct
        by_cases hd2 : d ≤ 2000
        · have L2 : decide ((2000 : Int) < (d : Int)) = false := by rw [decide_eq_false_iff_not]; omega
          go_wp2
          go_roundw
          case rel => exact ⟨i + 1, by omega, by first | rfl | rw [Int.natCast_add], by rw [HT.out.1, HT.out.2], by rw [HT.out.1, HT.out.2]; exact hd2, bw2⟩
          case measure => simp only [intOf]; omega
        · have L2 : decide ((2000 : Int) < (d : Int)) = true := by rw [decide_eq_true_eq]; omega
          go_wp2
          go_ret
          exact ⟨false, rfl, bw2, fun h => by cases h⟩
      · obtain rfl : n = i := by omega
        have L1 : decide ((n : Int) < (n : Int)) = false := by simp
        have htl : l.take n = l := List.take_of_length_le (by rw [HH.out.1.1]; exact Nat.le_refl _)
        rw [htl] at ht ⊢
        clear htl
        have HT := Lib.hid ht
        clear ht
        go_wp2
        go_ret
        exact ⟨true, rfl, bw, fun _ => ⟨h200, HT.out⟩⟩
  · have L0 : decide ((200 : Int) < (n : Int)) = true := by rw [decide_eq_true_eq]; omega
    go_enter Try.func17, Try.ntmps17
    go_wp2
    go_ret
    exact ⟨false, rfl, Below.refl _ _, fun h => by cases h⟩
end Go.Proofs.Ythcdhiknjpfmhaa
