/- The arena: the iterators Each and Pairs. -/
import Derived.Test.YthcdhiknjpfmhaaArH
import Derived.Test.YthcdhiknjpfmhaaRng
set_option linter.unusedVariables false
set_option linter.unusedSimpArgs false
namespace Go.Proofs.Ythcdhiknjpfmhaa
open Go.RowKit Go.Shelf
attribute [local go_sem] Oper.semAt_some

/-- What Each reads: the node's To. -/
structure ToR (W : World) (N : Nat) (a : Option Addr) (cap : Nat) (xs : List Int) : Prop where
  fld : W.cell? ⟨N, 0, none⟩ = some (.slice a xs.length cap)
  els : 0 < xs.length → ∃ b, a = some ⟨b, 0, none⟩ ∧ ∀ i, i < xs.length → W.cell? ⟨b, i, none⟩ = some (.int .i64 (xs.getD i 0))
set_option maxRecDepth 100000 in
set_option maxHeartbeats 4000000 in
theorem each_in (n : Nat) (hn : 1 ≤ n) (l N : Nat) (a : Option Addr) (cap : Nat) (xs : List Int) (hx : xs.length ≤ 100000000) (J : List Int → World → Prop) (W : World)
    (hr : ∀ pre W1, J pre W1 → ToR W1 N a cap xs) (hd : ∀ pre W1 q, J pre W1 → J pre (W1.drewN q))
    (hY : ∀ pre x W1, J pre W1 → (pre ++ [x]) <+: xs → YieldAt Fence.wide (n - 1) Try.prog l #[.int .i64 x] W1 fun e W' => e = .returned (.bool true) ∧ J (pre ++ [x]) W') (h0 : J [] W) :
    CallsIn Fence.wide n Try.prog 52 #[.pointer (some ⟨N, 0, none⟩), .func (.yield l) #[] #[]] W fun e W' => (∃ v, e = .returned v) ∧ J xs W' := by
  have f0 := (hr _ _ h0).fld
  obtain ⟨m, hm⟩ : ∃ m, xs.length = m := ⟨_, rfl⟩
  rw [hm] at f0 hx
  have HM := Lib.hid hm
  clear hm
  refine callsIn_of_wp Try.func52 rfl trivial ?_ rfl
  simp only [Try.ntmps52, List.size_toArray, List.length_cons, List.length_nil, Nat.reduceAdd, Nat.reduceSub, Array.replicate_succ, Array.replicate_zero, List.push_toArray, List.append_toArray, List.nil_append, List.cons_append]
  gi_wp2
  gi_loopw [11] (fun i wr => ∃ k : Nat, k ≤ m ∧ i = .int .i64 k ∧ J (xs.take k) wr) (fun i _ => m - (intOf i).toNat)
  case atStart => exact ⟨0, Nat.zero_le _, rfl, h0⟩
  case round =>
    obtain ⟨k, hk, rfl, hJ⟩ := hrel
    by_cases hlt : k < m
    · have L1 : decide ((k : Int) < (m : Int)) = true := by simp; omega
      have hkx : k < xs.length := by rw [HM.out]; exact hlt
      obtain ⟨b, rfl, hc⟩ := (hr _ _ hJ).els (by rw [HM.out]; omega)
      have c0 := hc k hkx
      have htk : xs.take (k + 1) = xs.take k ++ [xs.getD k 0] := by rw [List.take_succ_eq_append_getElem hkx, List.getD_eq_getElem?_getD, List.getElem?_eq_getElem hkx]; rfl
      have hpre : (xs.take k ++ [xs.getD k 0]) <+: xs := by rw [← htk]; exact List.take_prefix _ _
      generalize xs.getD k 0 = x at *
      have z0 : (0 : Int) ≤ k := by omega
      have z1 : (k : Int) < m := by omega
      have z2 : (k : Int).toNat = k := by omega
      have a1 : IntKind.i64.wrap ((k : Int) + 1) = ((k + 1 : Nat) : Int) := by rw [IntWalk.i64_in _ (by omega)]; rfl
      have HT := Lib.hid htk
      obtain ⟨fn, tmps, assign, body, hy, hR⟩ := hY (xs.take k) x wr hJ hpre
      clear hc htk hpre
      gi_wp2
      refine hR.mono ?_
      rintro e W3 ⟨rfl, hJ3⟩
      gi_wp2
      go_roundw
      case rel => exact ⟨k + 1, by omega, by first | rfl | rw [Int.natCast_add], by rw [HT.out]; exact hJ3⟩
      case measure => simp only [intOf]; omega
    · obtain rfl : k = m := by omega
      have L1 : decide ((k : Int) < (k : Int)) = false := by simp
      gi_wp2
      go_end0
      exact ⟨⟨_, rfl⟩, by rw [← List.take_length (l := xs), HM.out]; exact hJ⟩
/-- What Pairs reads: the node's Table. -/
structure TabR (W : World) (N : Nat) (a : Option Addr) (cap : Nat) (xs : List Pr) : Prop where
  fld : W.cell? ⟨N, 1, none⟩ = some (.slice a xs.length cap)
  els : 0 < xs.length → ∃ b, a = some ⟨b, 0, none⟩ ∧ ∀ i, i < xs.length → W.cell? ⟨b, i * 2, none⟩ = some (.int .i64 (xs.getD i (0, 0)).1) ∧ W.cell? ⟨b, i * 2 + 1, none⟩ = some (.int .i64 (xs.getD i (0, 0)).2)
set_option maxRecDepth 100000 in
set_option maxHeartbeats 4000000 in
theorem pairs_in (n : Nat) (hn : 1 ≤ n) (l N : Nat) (a : Option Addr) (cap : Nat) (xs : List Pr) (hx : xs.length ≤ 100000000) (J : List Pr → World → Prop) (W : World)
    (hr : ∀ pre W1, J pre W1 → TabR W1 N a cap xs) (hd : ∀ pre W1 q, J pre W1 → J pre (W1.drewN q)) (ha : ∀ pre W1 o, J pre W1 → J pre (W1.alloc o))
    (hY : ∀ pre x W1, J pre W1 → (pre ++ [x]) <+: xs → YieldAt Fence.wide (n - 1) Try.prog l #[.int .i64 x.1, .int .i64 x.2] W1 fun e W' => e = .returned (.bool true) ∧ J (pre ++ [x]) W') (h0 : J [] W) :
    CallsIn Fence.wide n Try.prog 53 #[.pointer (some ⟨N, 0, none⟩), .func (.yield l) #[] #[]] W fun e W' => (∃ v, e = .returned v) ∧ J xs W' := by
  have f0 := (hr _ _ h0).fld
  obtain ⟨m, hm⟩ : ∃ m, xs.length = m := ⟨_, rfl⟩
  rw [hm] at f0 hx
  have HM := Lib.hid hm
  clear hm
  refine callsIn_of_wp Try.func53 rfl trivial ?_ rfl
  simp only [Try.ntmps53, List.size_toArray, List.length_cons, List.length_nil, Nat.reduceAdd, Nat.reduceSub, Array.replicate_succ, Array.replicate_zero, List.push_toArray, List.append_toArray, List.nil_append, List.cons_append]
  gi_wp2
  gi_loopw [11] (fun i wr => ∃ k : Nat, k ≤ m ∧ i = .int .i64 k ∧ J (xs.take k) wr) (fun i _ => m - (intOf i).toNat)
  case atStart => exact ⟨0, Nat.zero_le _, rfl, h0⟩
  case round =>
    obtain ⟨k, hk, rfl, hJ⟩ := hrel
    by_cases hlt : k < m
    · have L1 : decide ((k : Int) < (m : Int)) = true := by simp; omega
      have hkx : k < xs.length := by rw [HM.out]; exact hlt
      obtain ⟨b, rfl, hc⟩ := (hr _ _ hJ).els (by rw [HM.out]; omega)
      obtain ⟨c0, c1⟩ := hc k hkx
      have htk : xs.take (k + 1) = xs.take k ++ [xs.getD k (0, 0)] := by rw [List.take_succ_eq_append_getElem hkx, List.getD_eq_getElem?_getD, List.getElem?_eq_getElem hkx]; rfl
      have hpre : (xs.take k ++ [xs.getD k (0, 0)]) <+: xs := by rw [← htk]; exact List.take_prefix _ _
      generalize xs.getD k (0, 0) = x at *
      obtain ⟨xa, xb⟩ := x
      simp only at c0 c1
      have z0 : (0 : Int) ≤ k := by omega
      have z1 : (k : Int) < m := by omega
      have z2 : (k : Int).toNat = k := by omega
      have a1 : IntKind.i64.wrap ((k : Int) + 1) = ((k + 1 : Nat) : Int) := by rw [IntWalk.i64_in _ (by omega)]; rfl
      have HT := Lib.hid htk
      have hJa := ha _ _ (.cells #[.int .i64 xa, .int .i64 xb] 32) hJ
      obtain ⟨fn, tmps, assign, body, hy, hR⟩ := hY (xs.take k) (xa, xb) (wr.alloc (.cells #[.int .i64 xa, .int .i64 xb] 32)) hJa hpre
      clear hc htk hpre
      dsimp only at hy
      gi_wp2
      refine hR.mono ?_
      rintro e W3 ⟨rfl, hJ3⟩
      gi_wp2
      go_roundw
      case rel => exact ⟨k + 1, by omega, by first | rfl | rw [Int.natCast_add], by rw [HT.out]; exact hJ3⟩
      case measure => simp only [intOf]; omega
    · obtain rfl : k = m := by omega
      have L1 : decide ((k : Int) < (k : Int)) = false := by simp
      gi_wp2
      go_end0
      exact ⟨⟨_, rfl⟩, by rw [← List.take_length (l := xs), HM.out]; exact hJ⟩
end Go.Proofs.Ythcdhiknjpfmhaa
