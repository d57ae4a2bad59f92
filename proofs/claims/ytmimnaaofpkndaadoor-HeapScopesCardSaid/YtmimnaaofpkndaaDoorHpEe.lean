/- The heap: what an environment holds. -/
import Derived.Test.YtmimnaaofpkndaaDoorHpOf
import Derived.Test.YtmimnaaofpkndaaDoorRng
set_option linter.unusedVariables false
set_option linter.unusedSimpArgs false
namespace Go.Proofs.YtmimnaaofpkndaaDoor.Hp
open Go.RowKit Go.Proofs.YtmimnaaofpkndaaDoor Go.Shelf
attribute [local go_sem] Oper.semAt_some

set_option maxRecDepth 100000 in
set_option maxHeartbeats 4000000 in
theorem env_each (n : Nat) (hn : 1 ≤ n) (l eb g k cap B : Nat) (up : Int) (hk : k ≤ 100000) (J : List Int → World → Prop) (W : World)
    (hr : ∀ pre W1, J pre W1 → Blk W1 eb 57 #[.slice (some ⟨g, 0, none⟩) k cap, .int .i64 up] ∧ W1.ownsRow B 34 3 (.slice (some ⟨g, 0, none⟩) k cap) k (valsC (List.replicate k E0)))
    (hb : ∀ pre W1 W2, J pre W1 → Below W1.heap.size W1 W2 → J pre W2)
    (hY : up ≠ 0 → ∀ W1, J [] W1 → YieldAt Fence.wide (n - 1) Tryd.prog l #[.int .i64 up] W1 fun e W' => e = .returned (.bool true) ∧ J [up] W') (h0 : J [] W) :
    CallsIn Fence.wide n Tryd.prog 126 #[.pointer (some ⟨eb, 0, none⟩), .func (.yield l) #[] #[]] W fun e W' => (∃ v, e = .returned v) ∧ J (if up = 0 then [] else [up]) W' := by
  have HR := Lib.hid hr
  have HB := Lib.hid hb
  have x0 : W.cell? ⟨eb, 0, none⟩ = some (.slice (some ⟨g, 0, none⟩) k cap) := by rw [(hr _ _ h0).1.cell]; rfl
  have x1 : W.cell? ⟨eb, 1, none⟩ = some (.int .i64 up) := by rw [(hr _ _ h0).1.cell]; rfl
  have xl := (hr _ _ h0).1.lt
  have HJ := Lib.hid h0
  clear hr hb h0
  by_cases hu : up = 0
  · have t1 : (up != 0) = false := by simpa using hu
    have t2 : (up == 0) = true := by simpa using hu
    rw [if_pos hu]
    clear hY
    refine callsIn_of_wp Tryd.func126 rfl trivial ?_ rfl
    simp only [Tryd.ntmps126, List.size_toArray, List.length_cons, List.length_nil, Nat.reduceAdd, Nat.reduceSub, Array.replicate_succ, Array.replicate_zero, List.push_toArray, List.append_toArray, List.nil_append, List.cons_append]
    gi_wp2_with (first | (refine wpListIn_skip (by rfl) (by rfl) ?_) | refine ⟨trivial, ?_⟩; gi_at_call 124; refine (callsIn_wide.2 (held_none g k cap B _ _ (HR.out _ _ HJ.out).2 hk)).mono ?_; rintro e W3 ⟨rfl, b3⟩; have HJ3 := Lib.hid (HB.out _ _ _ HJ.out b3); clear b3)
    gi_wp2
    go_end0
    exact ⟨⟨_, rfl⟩, HJ3.out⟩
  · have t1 : (up != 0) = true := by simpa using hu
    have t2 : (up == 0) = false := by simpa using hu
    rw [if_neg hu]
    have hYY := hY hu _ HJ.out
    clear hY
    refine callsIn_of_wp Tryd.func126 rfl trivial ?_ rfl
    simp only [Tryd.ntmps126, List.size_toArray, List.length_cons, List.length_nil, Nat.reduceAdd, Nat.reduceSub, Array.replicate_succ, Array.replicate_zero, List.push_toArray, List.append_toArray, List.nil_append, List.cons_append]
    obtain ⟨fn, tmps, assign, body, hy, hRR⟩ := hYY
    gi_wp2
    refine hRR.mono ?_
    rintro e W3 ⟨rfl, hJ3⟩
    have x0 : W3.cell? ⟨eb, 0, none⟩ = some (.slice (some ⟨g, 0, none⟩) k cap) := by rw [(HR.out _ _ hJ3).1.cell]; rfl
    have xl := (HR.out _ _ hJ3).1.lt
    have HK := Lib.hid hJ3
    clear hJ3 HJ
    gi_wp2_with (refine ⟨trivial, ?_⟩; gi_at_call 124; refine (callsIn_wide.2 (held_none g k cap B _ _ (HR.out _ _ HK.out).2 hk)).mono ?_; rintro e W4 ⟨rfl, b3⟩; have HJ3 := Lib.hid (HB.out _ _ _ HK.out b3); clear b3)
    gi_wp2
    go_end0
    exact ⟨⟨_, rfl⟩, HJ3.out⟩
end Go.Proofs.YtmimnaaofpkndaaDoor.Hp
