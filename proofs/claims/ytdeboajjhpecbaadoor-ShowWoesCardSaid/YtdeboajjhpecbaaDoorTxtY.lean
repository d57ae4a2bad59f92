/- Contract of text.Points: the iterator hands out the signs of a string, one by one. -/
import Derived.RangeFuncBox
import Derived.RangeFuncNested
import Derived.RangeFuncBound
import Derived.RangeFuncCalls
import Derived.RangeFuncLeaves
import Derived.Shelf.Abstract
import Derived.Shelf.RegionOpen
import Derived.OwnWalkIn
import Derived.TacticsInMore
import Derived.LoopNIn
import Derived.LoopIn
import Derived.Test.YtdeboajjhpecbaaDoorTxtG
import Derived.Test.YtdeboajjhpecbaaDoorTxt
set_option linter.unusedVariables false
set_option linter.unusedSimpArgs false
namespace Go.Proofs.YtdeboajjhpecbaaDoor.Tx
open Go.RowKit Go.Shelf
attribute [local go_sem] Oper.semAt_some

theorem grown_none {W W' : World} (b : Below W.heap.size W W') : W.grownBy W' none := ⟨b.os, b.tape, b.output, b.size, fun k hk _ => b.block k hk⟩
theorem abide_below {β : Type} {B : Nat} {J : β → World → Prop} (h : AbidesFrom B J) {s : β} {W W' : World} (hs : J s W) (b : Below W.heap.size W W') : J s W' :=
  h s W W' none hs (grown_none b) (fun _ e => by cases e)
theorem abide_drew {β : Type} {B : Nat} {J : β → World → Prop} (h : AbidesFrom B J) {s : β} {W : World} (hs : J s W) (n : Nat) : J s (W.drewN n) :=
  abide_below h hs (below_drewN (Below.refl _ _) n)

theorem sub_sign (l : List Nat) (n i k : Nat) (w : World) (hn : Hid (l.length = n)) (hn2 : n ≤ 100000000) (hi : i + k ≤ n) (R : List Nat) (hR : Hid ((l.drop i).take k = R)) :
    Calls Tryd.prog 51 #[.string (uS l), .int .i64 (i : Int), .int .i64 ((i : Int) + (k : Int))] w fun e w' => e = .returned (.string (uS R)) ∧ w = w' := by
  have h := hn.out
  have e2 : subTo n ((i : Int) + (k : Int)) = i + k := by unfold subTo; omega
  refine (sub_uS' l n (i : Int) ((i : Int) + (k : Int)) (i + k) i w hn hn2 (Lib.hid e2) (Lib.hid (by unfold subFrom; rw [e2]; omega))).mono ?_
  rintro e w' ⟨rfl, rfl⟩
  refine ⟨?_, rfl⟩
  rw [← hR.out, List.drop_take, Nat.add_sub_cancel_left]

/-- A variable's block lies as it lay. -/
def KeepAt (b : Nat) (W W' : World) : Prop := W'.heap[b]? = W.heap[b]?
theorem keepAt_t {b : Nat} {A B C : World} (h : KeepAt b A B) (k : KeepAt b B C) : KeepAt b A C := Eq.trans k h
theorem keepAt_b {b : Nat} {w : World} (hb : b < w.heap.size) (W : World) (l : Nat) (o o' : Obj) (hl : w.heap.size ≤ l) (h : W.heap[l]? = some o) (_ : o.isCells = false) (_ : o.isWalk = false) : KeepAt b W (W.putObj l o') :=
  (grownBy_putObj' W l o').block b (by have := (Array.getElem?_eq_some_iff.1 h).1; omega) (fun e => by cases e; omega)
theorem KeepAt.cell {b : Nat} {W W' : World} (h : KeepAt b W W') : W'.cell? ⟨b, 0, none⟩ = W.cell? ⟨b, 0, none⟩ := by
  unfold World.cell?; rw [show W'.heap[b]? = W.heap[b]? from h]

set_option maxRecDepth 100000 in
set_option maxHeartbeats 4000000 in
theorem points1_in {α : Type} (enc : α → ByteArray) (T : List α) (n : Nat) (hn : 1 ≤ n) (l Bs : Nat) (us : List Nat) (N : Nat) (hN : Hid (us.length = N)) (hf : Fits us) (hl : N ≤ 100000000) (hT : Hid (T.map enc = (signs us).map uS)) (J Jx : List α → World → Prop)
    (W : World) (hJ : AbidesFrom W.heap.size J)
    (hY : ∀ pre x W, J pre W → pre.length < N → YieldAt Fence.wide (n - 1) Tryd.prog l #[.string (enc x)] W fun e W' =>
      (e = .returned (.bool true) ∧ J (pre ++ [x]) W' ∧ KeepAt Bs W W') ∨ (e = .returned (.bool false) ∧ Jx (pre ++ [x]) W'))
    (hBs : W.cell? ⟨Bs, 0, none⟩ = some (.string (uS us))) (h0 : J [] W) :
    CallsIn Fence.wide n Tryd.prog 49 #[.func (.yield l) #[] #[], .pointer (some ⟨Bs, 0, none⟩)] W fun e W' => (∃ v, e = .returned v) ∧
      ((∃ ys, ys = T ∧ J ys W') ∨ (∃ pre, pre <+: T ∧ Jx pre W')) := by
  refine callsIn_of_wp Tryd.func49 rfl trivial ?_ rfl
  simp only [Tryd.ntmps49, List.size_toArray, List.length_cons, List.length_nil, Nat.reduceAdd, Nat.reduceSub, Array.replicate_succ, Array.replicate_zero, List.push_toArray, List.append_toArray, List.nil_append, List.cons_append]
  gi_wp2
  gi_loopw [3] (fun i wr => ∃ (k : Nat) (pre rest : List α), k ≤ N ∧ pre.length ≤ k ∧ i = .int .i64 k ∧ T = pre ++ rest ∧ rest.map enc = (signs (us.drop k)).map uS ∧ J pre wr ∧ wr.cell? ⟨Bs, 0, none⟩ = some (.string (uS us)))
    (fun i _ => N - (intOf i).toNat)
  case atStart => exact ⟨0, [], T, Nat.zero_le _, Nat.zero_le _, rfl, rfl, hT.out, h0, hBs⟩
  case round =>
    obtain ⟨k, pre, rest, hk, hpl, rfl, hsg, hrs, hJs, hcx⟩ := hrel
    have hz := uS_size us
    have hsz : (uS us).size ≤ 9223372036854775807 := by rw [hz, hN.out]; omega
    have hlen : Hid (N = (uS us).size / 2) := Lib.hid (by rw [hz, hN.out]; omega)
    have Hsg := Lib.hid hsg
    have Hrs := Lib.hid hrs
    clear hsg hz hrs
    by_cases hlt : k < N
    · have hkl : k < us.length := by rw [hN.out]; exact hlt
      have bd := ptAt_bd us k
      have ft := ptAt_fit us k hkl
      rw [hN.out] at ft
      have hps := point_uS us hf k
      rw [hN.out] at hps
      obtain ⟨m, hm⟩ : ∃ m, ptAt us k = m := ⟨_, rfl⟩
      obtain ⟨R, hR⟩ : ∃ R, (us.drop k).take m = R := ⟨_, rfl⟩
      have hstep : rest.map enc = uS R :: (signs (us.drop (k + m))).map uS := by
        rw [Hrs.out, signs_drop us k hkl, hm, hR]; rfl
      obtain ⟨x, rest', rfl, hx, hr'⟩ : ∃ x rest', rest = x :: rest' ∧ enc x = uS R ∧ rest'.map enc = (signs (us.drop (k + m))).map uS := by
        cases rest with
        | nil => simp at hstep
        | cons x r => simp at hstep; exact ⟨x, r, rfl, hstep⟩
      obtain ⟨r0, hr0⟩ : ∃ r : Int, ((ptR (us.getD k 0) (us.getD (k + 1) 0) : Nat) : Int) = r := ⟨_, rfl⟩
      rw [hm] at bd ft
      simp only [hm, hr0] at hps
      have HR := Lib.hid hR
      have Hr := Lib.hid hr'
      have hYx := hY pre x
      rw [hx] at hYx
      clear hstep hR hm hr0 hkl hr' hx hY
      gi_wp2_with (first
        | (refine ⟨trivial, ?_⟩; gi_at_call 50; refine (callsIn_wide.2 (len_n (uS us) N _ hsz hlen)).mono ?_; rintro e w' ⟨rfl, rfl⟩)
        | (refine ⟨trivial, ?_⟩; gi_at_call 30; refine (callsIn_wide.2 (hps _ hlt hl)).mono ?_; rintro e w' ⟨rfl, q, rfl⟩))
      have hJq := abide_drew hJ hJs q
      have hcq : (wr.drewN q).cell? ⟨Bs, 0, none⟩ = some (.string (uS us)) := ((below_drewN (Below.refl (Bs + 1) wr) q).cell (p := ⟨Bs, 0, none⟩) (Nat.lt_succ_self Bs)).trans hcx
      obtain ⟨fn, tmps, assign, body, hy, hRd⟩ := hYx (wr.drewN q) hJq (by omega)
      refine ⟨trivial, ?_⟩
      refine (callsIn_wide.2 (sub_sign us N k m _ hN hl ft R HR)).mono ?_
      rintro e w' ⟨rfl, rfl⟩
      gi_wp2
      refine hRd.mono ?_
      rintro e W3 (⟨rfl, hJ3, hk3⟩ | ⟨rfl, hJx3⟩)
      · gi_wp2
        go_roundw
        case rel => exact ⟨k + m, pre ++ [x], rest', ft, by rw [List.length_append]; simp; omega, by go_num, by rw [Hsg.out]; simp, Hr.out, hJ3, hk3.cell.trans hcq⟩
        case measure => simp [intOf]; omega
      · gi_wp2
        refine bodyPost_ret (results_none rfl _ _ _) rfl ?_
        exact ⟨⟨_, rfl⟩, .inr ⟨pre ++ [x], ⟨rest', by rw [Hsg.out]; simp⟩, hJx3⟩⟩
    · have hk2 : k = N := by omega
      have t1 : decide (k < N) = false := by simp; omega
      have Hk := Lib.hid hk2
      clear hk2 hY
      gi_wp2_with (refine ⟨trivial, ?_⟩; gi_at_call 50; refine (callsIn_wide.2 (len_n (uS us) N _ hsz hlen)).mono ?_; rintro e w' ⟨rfl, rfl⟩)
      go_end0
      refine ⟨⟨_, rfl⟩, .inl ⟨_, rfl, ?_⟩⟩
      have h := Hrs.out
      rw [Hk.out, ← hN.out, List.drop_length, signs, List.map_nil, List.map_eq_nil_iff] at h
      rw [Hsg.out, h, List.append_nil]
      exact hJs

/-- text.Points: the string is boxed; the function value captures the box. -/
theorem points_in (n : Nat) (s : ByteArray) (w : World) :
    CallsIn Fence.wide n Tryd.prog 29 #[.string s] w fun e w' => e = .returned (.func (.func 49) #[] #[.pointer (some ⟨w.heap.size, 0, none⟩)]) ∧ w' = w.alloc (.cells #[.string s] 9) := by
  refine callsIn_of_wp Tryd.func29 rfl trivial ?_ rfl
  simp only [Tryd.ntmps29, List.size_toArray, List.length_cons, List.length_nil, Nat.reduceAdd, Nat.reduceSub, Array.replicate_succ, Array.replicate_zero, List.push_toArray, List.append_toArray, List.nil_append, List.cons_append]
  gi_wp2
  go_ret
  exact ⟨rfl, rfl⟩

theorem points_stops {α : Type} (enc : α → ByteArray) (T : List α) (n : Nat) (hn : 1 ≤ n) (Bs : Nat) (us : List Nat) (N : Nat) (hN : us.length = N) (hf : Fits us) (hl : N ≤ 100000000) (hT : T.map enc = (signs us).map uS) (w : World) (hBs : Bs < w.heap.size)
    (hc : w.cell? ⟨Bs, 0, none⟩ = some (.string (uS us))) :
    SeqStopsK Fence.wide n Tryd.prog 49 #[.pointer (some ⟨Bs, 0, none⟩)] (fun x : α => #[Value.string (enc x)]) (KeepAt Bs) (fun ys => ys = T) (fun pre => pre <+: T) N w := fun l J Jx W hW hJ _ hY h0 =>
  points1_in enc T n hn l Bs us N (Lib.hid hN) hf hl (Lib.hid hT) J Jx W hJ hY ((hW.cell (p := ⟨Bs, 0, none⟩) hBs).trans hc) h0

end Go.Proofs.YtdeboajjhpecbaaDoor.Tx
