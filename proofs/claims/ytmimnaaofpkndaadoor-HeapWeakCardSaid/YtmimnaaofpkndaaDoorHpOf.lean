/- HpOf: several texts in one. -/
import Derived.Test.YtmimnaaofpkndaaDoorHpY
import Derived.Test.YtmimnaaofpkndaaDoorRng
/- The heap: Of. -/
set_option linter.unusedVariables false
set_option linter.unusedSimpArgs false
namespace Go.Proofs.YtmimnaaofpkndaaDoor.Hp
open Go.RowKit Go.Proofs.YtmimnaaofpkndaaDoor Go.Shelf

set_option maxHeartbeats 1000000 in
theorem of_no (H : Nat) (k n : Int) (s : ByteArray) (w : World) (hk : k ≠ 9) : Calls Tryd.prog 24 #[.pointer (some ⟨H, 0, none⟩), VS k n s] w fun e w' => e = .returned (.pointer none) ∧ Below w.heap.size w w' := by
  have t1 : (k != 9) = true := by simpa using hk
  go_enter Tryd.func24, Tryd.ntmps24
  go_wp2
  go_ret
  exact ⟨rfl, (Below.refl _ _).alloc (Nat.le_refl _) _⟩
set_option maxHeartbeats 1000000 in
theorem of_obj {w : World} {H A B : Nat} {cv fv rv : Value} {cs : List Cell} {fr ro : List Int} {live : Int} (r : Int) (s : ByteArray) (h : Hx w H A B cv fv rv cs fr ro live) (hl : cs.length ≤ 100000000) (hk : ∀ i n, (cs.getD i (none, false)).1 = some n → n.1 = tObj ∨ n.1 = tEnv ∨ n.1 = tMark) :
    Calls Tryd.prog 24 #[.pointer (some ⟨H, 0, none⟩), VS 9 r s] w fun e w' => e = .returned (objP cs r) ∧ Below w.heap.size w w' := by
  have bb : Below w.heap.size w (w.alloc (.cells #[.int .i64 9, .int .i64 r, .string s] 34)) := (Below.refl _ _).alloc (Nat.le_refl _) _
  have HO := Lib.hid (obj_any r (h.below bb) hl hk)
  have HB := Lib.hid bb
  clear h bb hk
  go_enter Tryd.func24, Tryd.ntmps24
  go_wp2_with (fail)
  refine HO.out.mono ?_
  rintro e w2 ⟨rfl, q, rfl⟩
  obtain ⟨v, hv⟩ : ∃ v, objP cs r = v := ⟨_, rfl⟩
  rw [hv]
  have HV := Lib.hid hv
  clear hv HO
  go_wp2
  go_ret
  exact ⟨by rw [HV.out]; rfl, below_drw HB.out q⟩
theorem ref_E (w : World) : Calls Tryd.prog 56 #[VS 10 0 ⟨#[]⟩] w fun e w' => e = .returned (.int .i64 0) ∧ Below w.heap.size w w' := by
  go_enter Tryd.func56, Tryd.ntmps56
  go_wp2
  go_ret
  exact ⟨rfl, (Below.refl _ _).alloc (Nat.le_refl _) _⟩
set_option maxHeartbeats 1000000 in
theorem held_none (g n cap B : Nat) (y : Value) (w : World) (h : w.ownsRow B 34 3 (.slice (some ⟨g, 0, none⟩) n cap) n (valsC (List.replicate n E0))) (hn : n ≤ 100000) :
    Calls Tryd.prog 124 #[.slice (some ⟨g, 0, none⟩) n cap, y] w fun e w' => e = .returned (.bool true) ∧ Below w.heap.size w w' := by
  have H := Lib.hid h
  clear h
  go_enter Tryd.func124, Tryd.ntmps124
  go_wp2_with (fail)
  go_loopw [10] (fun v wr => ∃ i : Nat, i ≤ n ∧ v = .int .i64 (i : Int) ∧ Hid (Below w.heap.size w wr)) (fun v _ => n - (intOf v).toNat)
  case atStart => exact ⟨0, Nat.zero_le _, rfl, Lib.hid (Below.refl _ _)⟩
  case round =>
    obtain ⟨i, hi, rfl, HB⟩ := hrel
    by_cases hlt : i < n
    · have t3 : decide ((i : Int) < (n : Int)) = true := by simp; omega
      have z0 : (0 : Int) ≤ (i : Int) := by omega
      have z1 : (i : Int) < (n : Int) := by omega
      have ac : IntKind.i64.wrap ((i : Int) + 1) = (i : Int) + 1 := IntWalk.i64_in _ (by omega)
      have hE : (List.replicate n E0)[i]? = some E0 := by rw [List.getElem?_replicate, if_pos hlt]
      have hrow : wr.ownsRow B 34 3 (.slice (some ⟨g, 0, none⟩) n cap) (List.replicate n E0).length (valsC (List.replicate n E0)) := by
        rw [List.length_replicate]
        exact (Upd.of_below_all (M := fun _ => False) HB.out).own H.out (fun _ _ h => h)
      have e0 : wr.cell? ⟨g, i * 3, none⟩ = some (.int .i64 10) := own_elem hrow i E0 hE 0 (by decide)
      have e1 : wr.cell? ⟨g, i * 3 + 1, none⟩ = some (.int .i64 0) := own_elem hrow i E0 hE 1 (by decide)
      have e2 : wr.cell? ⟨g, i * 3 + 2, none⟩ = some (.string ⟨#[]⟩) := own_elem hrow i E0 hE 2 (by decide)
      have b1 := HB.out.alloc HB.out.size (.cells #[.int .i64 10, .int .i64 0, .string ⟨#[]⟩] 34)
      have HB1 := Lib.hid b1
      clear hE hrow b1 HB
      go_wp2_with (fail)
      refine (ref_E _).mono ?_
      rintro e w2 ⟨rfl, b2⟩
      have HB2 := Lib.hid (HB1.out.trans (b2.mono HB1.out.size))
      clear b2 HB1
      go_wp2_with (fail)
      go_roundw
      case rel => exact ⟨i + 1, by omega, rfl, HB2⟩
      case measure => simp [intOf]; omega
    · have hin : i = n := by omega
      subst hin
      have t3 : decide ((i : Int) < (i : Int)) = false := by simp
      go_wp2
      go_ret
      exact ⟨rfl, HB.out⟩
end Go.Proofs.YtmimnaaofpkndaaDoor.Hp

/- The heap: what an environment holds. -/
set_option linter.unusedVariables false
set_option linter.unusedSimpArgs false
namespace Go.Proofs.YtmimnaaofpkndaaDoor.Hp
open Go.RowKit Go.Proofs.YtmimnaaofpkndaaDoor Go.Shelf
attribute [local go_sem] Oper.semAt_some

set_option maxRecDepth 100000 in
set_option maxHeartbeats 4000000 in
theorem env_each (n : Nat) (hn : 1 ≤ n) (l eb g k cap B : Nat) (up : Int) (hk : k ≤ 100000) (J : List Int → World → Prop) (W : World)
    (hr : ∀ pre W1, J pre W1 → Blk W1 eb 57 #[.slice (some ⟨g, 0, none⟩) k cap, .int .i64 up] ∧ W1.ownsRow B 34 3 (.slice (some ⟨g, 0, none⟩) k cap) k (valsC (List.replicate k E0)))
    (hb : ∀ pre W1 W2, J pre W1 → Below W1.heap.size W1 W2 → J pre W2)
    (hY : up ≠ 0 → ∀ W1, J [] W1 → YieldAt Fence.wide (n - 1) Tryd.prog l #[.int .i64 up] W1 fun e W' => e = .returned (.bool true) ∧ J [up] W') (h0 : J [] W) :
    CallsIn Fence.wide n Tryd.prog 126 #[.pointer (some ⟨eb, 0, none⟩), .func (.yield l) #[] #[]] W fun e W' => (∃ v, e = .returned v) ∧ J (if up = 0 then [] else [up]) W' := by
  have HR := Lib.hid hr
  have HB := Lib.hid hb
  have x0 : W.cell? ⟨eb, 0, none⟩ = some (.slice (some ⟨g, 0, none⟩) k cap) := by rw [(hr _ _ h0).1.cell]; rfl
  have x1 : W.cell? ⟨eb, 1, none⟩ = some (.int .i64 up) := by rw [(hr _ _ h0).1.cell]; rfl
  have xl := (hr _ _ h0).1.lt
  have HJ := Lib.hid h0
  clear hr hb h0
  by_cases hu : up = 0
  · have t1 : (up != 0) = false := by simpa using hu
    have t2 : (up == 0) = true := by simpa using hu
    rw [if_pos hu]
    clear hY
    refine callsIn_of_wp Tryd.func126 rfl trivial ?_ rfl
    simp only [Tryd.ntmps126, List.size_toArray, List.length_cons, List.length_nil, Nat.reduceAdd, Nat.reduceSub, Array.replicate_succ, Array.replicate_zero, List.push_toArray, List.append_toArray, List.nil_append, List.cons_append]
    gi_wp2_with (first | (refine wpListIn_skip (by rfl) (by rfl) ?_) | refine ⟨trivial, ?_⟩; gi_at_call 124; refine (callsIn_wide.2 (held_none g k cap B _ _ (HR.out _ _ HJ.out).2 hk)).mono ?_; rintro e W3 ⟨rfl, b3⟩; have HJ3 := Lib.hid (HB.out _ _ _ HJ.out b3); clear b3)
    gi_wp2
    go_end0
    exact ⟨⟨_, rfl⟩, HJ3.out⟩
  · have t1 : (up != 0) = true := by simpa using hu
    have t2 : (up == 0) = false := by simpa using hu
    rw [if_neg hu]
    have hYY := hY hu _ HJ.out
    clear hY
    refine callsIn_of_wp Tryd.func126 rfl trivial ?_ rfl
    simp only [Tryd.ntmps126, List.size_toArray, List.length_cons, List.length_nil, Nat.reduceAdd, Nat.reduceSub, Array.replicate_succ, Array.replicate_zero, List.push_toArray, List.append_toArray, List.nil_append, List.cons_append]
    obtain ⟨fn, tmps, assign, body, hy, hRR⟩ := hYY
    gi_wp2
    refine hRR.mono ?_
    rintro e W3 ⟨rfl, hJ3⟩
    have x0 : W3.cell? ⟨eb, 0, none⟩ = some (.slice (some ⟨g, 0, none⟩) k cap) := by rw [(HR.out _ _ hJ3).1.cell]; rfl
    have xl := (HR.out _ _ hJ3).1.lt
    have HK := Lib.hid hJ3
    clear hJ3 HJ
    gi_wp2_with (refine ⟨trivial, ?_⟩; gi_at_call 124; refine (callsIn_wide.2 (held_none g k cap B _ _ (HR.out _ _ HK.out).2 hk)).mono ?_; rintro e W4 ⟨rfl, b3⟩; have HJ3 := Lib.hid (HB.out _ _ _ HK.out b3); clear b3)
    gi_wp2
    go_end0
    exact ⟨⟨_, rfl⟩, HJ3.out⟩
end Go.Proofs.YtmimnaaofpkndaaDoor.Hp
