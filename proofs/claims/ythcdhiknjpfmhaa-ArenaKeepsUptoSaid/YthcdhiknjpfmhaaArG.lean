/- A node's Drop and Clear, whatever the predicate. -/
import Derived.Test.YthcdhiknjpfmhaaArF
import Derived.BigRegion
set_option linter.unusedVariables false
set_option linter.unusedSimpArgs false
namespace Go.Proofs.Ythcdhiknjpfmhaa
open Go.RowKit

abbrev Pr := Int × Int
def prCells (l : List Pr) : List Value := l.flatMap fun p => [.int .i64 p.1, .int .i64 p.2]
theorem prCells_append (l m : List Pr) : prCells (l ++ m) = prCells l ++ prCells m := by simp [prCells]
theorem prCells_get (l : List Pr) (k : Nat) (hk : k < l.length) : (prCells l)[k * 2]? = some (.int .i64 (l.getD k (0, 0)).1) ∧ (prCells l)[k * 2 + 1]? = some (.int .i64 (l.getD k (0, 0)).2) := by
  induction l generalizing k with
  | nil => simp at hk
  | cons c l ih =>
    have hc : prCells (c :: l) = .int .i64 c.1 :: .int .i64 c.2 :: prCells l := by simp [prCells]
    cases k with
    | zero => rw [hc]; simp
    | succ k =>
      have := ih k (by simpa using hk)
      rw [hc, show (k + 1) * 2 = k * 2 + 1 + 1 by omega]
      simpa using this
theorem infoPr : ((Try.prog.info? 32).map (fun i => (i.zero, i.size, i.bytes))) = some (some (.agg #[.int .i64 0, .int .i64 0]), 2, 16) := by kernel_rfl
/-- A slice of pairs, as it is read. -/
def PrR (w : World) (v : Value) (l : List Pr) : Prop :=
  ∃ a cap, v = .slice a l.length cap ∧ (0 < l.length → ∃ b, a = some ⟨b, 0, none⟩ ∧ b < w.heap.size ∧ ∀ i, i < l.length → w.cell? ⟨b, i * 2, none⟩ = some (.int .i64 (l.getD i (0, 0)).1) ∧ w.cell? ⟨b, i * 2 + 1, none⟩ = some (.int .i64 (l.getD i (0, 0)).2))
theorem PrR.of {w : World} {B : Nat} {v : Value} {l : List Pr} (h : w.ownsRow B 32 2 v l.length (prCells l)) : PrR w v l := by
  obtain ⟨a, cap, rfl, ha⟩ := own_shape h
  refine ⟨a, cap, rfl, fun hn => ?_⟩
  obtain ⟨g, rfl⟩ := ha hn
  refine ⟨g, rfl, (h.lt g rfl).2, fun i hi => ?_⟩
  have := prCells_get l i hi
  exact ⟨(h.cellAt _ (by omega)).trans this.1, (h.cellAt _ (by omega)).trans this.2⟩
/-- The cells of a node. -/
abbrev ndC (tv bv fv : Value) (e : Int) : Array Value := #[tv, bv, fv, .int .i64 e]


set_option maxHeartbeats 2000000 in
set_option maxRecDepth 100000 in
theorem drop_fn (p : Int → Bool) (N : Nat) (b0 : Nat) (tv bv fv : Value) (e : Int) (l : List Pr) (w : World) (hb : Blk w N 30 (ndC tv bv fv e)) (hr : PrR w bv l) (hl : l.length ≤ 1000000)
    (hd : ∀ W k, Below w.heap.size w W → Calls Try.prog 22 #[.int .i64 k, .pointer (some ⟨b0, 0, none⟩)] W fun e w' => e = .returned (.bool (p k)) ∧ W = w') :
    Calls Try.prog 21 #[.pointer (some ⟨N, 0, none⟩), .func (.func 22) #[] #[.pointer (some ⟨b0, 0, none⟩)]] w fun en w' => (∃ v, en = .returned v) ∧
      ∃ v', w'.ownsRow w.heap.size 32 2 v' (l.filter fun x => !p x.1).length (prCells (l.filter fun x => !p x.1)) ∧ Blk w' N 30 (ndC tv v' fv e) ∧ Upd w w' (fun k => k = N) := by
  obtain ⟨i0, hi, hz0, hz1, hz2⟩ := info_parts infoPr
  obtain ⟨a, cap, rfl, ha⟩ := hr
  have x1 : w.cell? ⟨N, 1, none⟩ = some (.slice a l.length cap) := by rw [hb.cell]; rfl
  have hNl := hb.lt
  obtain ⟨n, hn⟩ : ∃ n, l.length = n := ⟨_, rfl⟩
  rw [hn] at x1 ha hl
  have HB := Lib.hid hb
  have HD := Lib.hid hd
  have HN := Lib.hid hn
  clear hb hd hn
  go_enter Try.func21, Try.ntmps21
  go_wp2_with fail
  go_loopw [4, 12] (fun vl vi wr => ∃ i : Nat, i ≤ n ∧ vi = .int .i64 i ∧ wr.ownsRow w.heap.size 32 2 vl ((l.take i).filter fun x => !p x.1).length (prCells ((l.take i).filter fun x => !p x.1)) ∧ Below w.heap.size w wr) (fun _ vi _ => n - (intOf vi).toNat)
  case atStart => exact ⟨0, by omega, rfl, World.ownsRow_nil _ _ _ _, Below.refl _ _⟩
  case round =>
    obtain ⟨i, hin, rfl, own, bw⟩ := hrel
    by_cases hlt : i < n
    · have L1 : decide ((i : Int) < (n : Int)) = true := by simp; omega
      obtain ⟨b, rfl, hbl, hcl⟩ := ha (by omega)
      obtain ⟨c0, c1⟩ := hcl i hlt
      have d0 := (bw.cell (p := ⟨b, i * 2, none⟩) hbl).trans c0
      have d1 := (bw.cell (p := ⟨b, i * 2 + 1, none⟩) hbl).trans c1
      have hiL : i < l.length := by rw [HN.out]; exact hlt
      have htk : l.take (i + 1) = l.take i ++ [l.getD i (0, 0)] := by rw [List.take_succ_eq_append_getElem hiL, List.getD_eq_getElem?_getD, List.getElem?_eq_getElem hiL]; rfl
      generalize l.getD i (0, 0) = x at *
      obtain ⟨xa, xb⟩ := x
      simp only at d0 d1 c0 c1
      have z0 : (0 : Int) ≤ i := by omega
      have z1 : (i : Int) < n := by omega
      have z2 : (i : Int).toNat = i := by omega
      have a1 : IntKind.i64.wrap ((i : Int) + 1) = ((i + 1 : Nat) : Int) := by rw [IntWalk.i64_in _ (by omega)]; rfl
      have hsz := bw.size
      have bw1 := bw.alloc hsz (.cells #[.int .i64 xa, .int .i64 xb] 32)
      obtain ⟨m, hm⟩ : ∃ m, ((l.take i).filter fun x => !p x.1).length = m := ⟨_, rfl⟩
      have hmi : m ≤ i := by rw [← hm]; exact Nat.le_trans (List.length_filter_le _ _) (List.length_take_le _ _)
      rw [hm] at own
      have own1 := own.alloc (.cells #[.int .i64 xa, .int .i64 xb] 32)
      obtain ⟨g, hg⟩ : ∃ g, p xa = g := ⟨_, rfl⟩
      have HT := Lib.hid (And.intro htk hg)
      have HM := Lib.hid hm
      clear c0 c1 hcl htk hg hm
      have hsz1 : (wr.alloc (.cells #[.int .i64 xa, .int .i64 xb] 32)).heap.size = wr.heap.size + 1 := by simp
      have hnews := World.news_of_block (cs := #[.int .i64 xa, .int .i64 xb]) (t := 32) (fr := (0, 0)) (heap_alloc_new (wr.alloc (.cells #[.int .i64 xa, .int .i64 xb] 32)) (.cells #[.int .i64 xa, .int .i64 xb] 32))
      rw [hsz1] at hnews
      cases g with
      | true =>
        go_wp2_with (go_at_call 22; refine (HD.out _ xa bw1).mono ?_; rintro e w' ⟨rfl, rfl⟩; rw [HT.out.2])
        go_roundw
        case rel =>
          refine ⟨i + 1, by omega, by first | rfl | rw [Int.natCast_add], ?_, bw1⟩
          rw [HT.out.1, List.filter_append, List.filter_cons, HT.out.2]
          simp only [Bool.not_true, Bool.false_eq_true, if_false, List.filter_nil, List.append_nil]
          rw [HM.out]; exact own1
        case measure => simp only [intOf]; omega
      | false =>
        go_wp2_with (first
          | (go_at_call 22; refine (HD.out _ xa bw1).mono ?_; rintro e w' ⟨rfl, rfl⟩; rw [HT.out.2])
          | (at_builtin; refine wpList_append_lies _ rfl _ _ 28 rfl w.heap.size 32 i0 _ 2 16 Try.underlying28 hi hz0 hz1 hz2 rfl (by decide) _ _ _ rfl (own1.alloc _) ⟨wr.heap.size + 1, 0, none⟩ 1 1 [.int .i64 xa, .int .i64 xb] rfl rfl hnews (by simp [Value.oneCell']) (by decide) (by unfold maxLen; omega) (by omega) (by simp; omega) _ rfl ?_))
        intro gg gcap w3 hown3 hgrow3 hat3 hlt3
        have bw3 := (bw1.alloc (by simp; omega) (.cells #[.int .i64 xa, .int .i64 xb] 32)).grown hgrow3 (by simp; omega) (fun k hk => (own.lt k hk).1)
        clear hgrow3 hat3 hlt3 hnews own own1
        go_wp2
        go_roundw
        case rel =>
          refine ⟨i + 1, by omega, by first | rfl | rw [Int.natCast_add], ?_, bw3⟩
          rw [HT.out.1, List.filter_append, List.filter_cons, HT.out.2]
          simp only [Bool.not_false, if_true, List.filter_nil]
          rw [List.length_append, HM.out, prCells_append]
          exact hown3
        case measure => simp only [intOf]; omega
    · obtain rfl : i = n := by omega
      have L1 : decide ((i : Int) < (i : Int)) = false := by simp
      rw [List.take_of_length_le (by rw [HN.out]; omega)] at own
      have hbw := HB.out.below bw HB.out.lt
      have y1 : wr.cell? ⟨N, 1, none⟩ = some (.slice a i cap) := by rw [hbw.cell, ← HN.out]; rfl
      have f1 := hbw.frozen 1
      have hNw := hbw.lt
      obtain ⟨la, lcap, rfl, _⟩ := own_shape own
      have kb2 := hbw.set_ 1 (.slice la (l.filter fun x => !p x.1).length lcap)
      have own2 := own_set own hbw (by decide) 1 (.slice la (l.filter fun x => !p x.1).length lcap)
      have u2 : Upd w (wr.setCell ⟨N, 1, none⟩ (.slice la (l.filter fun x => !p x.1).length lcap)) (fun k => k = N) := (Upd.of_below_all bw).set N 1 _ rfl
      have HR := Lib.hid (And.intro own2 (And.intro kb2 u2))
      clear own own2 kb2 u2 hbw
      go_wp2
      go_end0
      exact ⟨⟨_, rfl⟩, _, HR.out.1, HR.out.2.1, HR.out.2.2⟩

set_option maxHeartbeats 2000000 in
set_option maxRecDepth 100000 in
theorem clear_fn (p : Int → Bool) (N B : Nat)  (tv bv fv : Value) (e : Int) (l : List Int) (w : World) (hb : Blk w N 30 (ndC tv bv fv e)) (hr : w.ownsRow B 3 1 fv l.length (numCells l)) (hl : l.length ≤ 1000000)
    (hd : ∀ W k, Upd w W (fun k => fv.ownBlock = some k) → Calls Try.prog 24 #[.int .i64 k] W fun e w' => e = .returned (.bool (p k)) ∧ W = w') :
    Calls Try.prog 23 #[.pointer (some ⟨N, 0, none⟩), .func (.func 24) #[] #[]] w fun en w' => (∃ v, en = .returned v) ∧
      w'.ownsRow B 3 1 fv l.length (numCells (l.map fun k => if p k then 0 else k)) ∧ Upd w w' (fun k => fv.ownBlock = some k) := by
  obtain ⟨a, cap, rfl, ha⟩ := own_shape hr
  have x2 : w.cell? ⟨N, 2, none⟩ = some (.slice a l.length cap) := by rw [hb.cell]; rfl
  have hNl := hb.lt
  have hNe := own_blk hr hb (by decide)
  obtain ⟨n, hn⟩ : ∃ n, l.length = n := ⟨_, rfl⟩
  rw [hn] at x2 ha hl hr hNe hd ⊢
  have HB := Lib.hid hb
  have HD := Lib.hid hd
  have HN := Lib.hid hn
  clear hb hd hn
  go_enter Try.func23, Try.ntmps23
  go_wp2_with fail
  go_loopw [11] (fun vi wr => ∃ i : Nat, i ≤ n ∧ vi = .int .i64 i ∧ wr.ownsRow B 3 1 (.slice a n cap) n (numCells ((l.take i).map (fun k => if p k then 0 else k) ++ l.drop i)) ∧ Upd w wr (fun k => (Value.slice a n cap).ownBlock = some k)) (fun vi _ => n - (intOf vi).toNat)
  case atStart => exact ⟨0, by omega, rfl, by simpa using hr, Upd.refl _ _⟩
  case round =>
    obtain ⟨i, hin, rfl, own, up⟩ := hrel
    have hbw := up.blk HB.out hNe
    have y2 : wr.cell? ⟨N, 2, none⟩ = some (.slice a n cap) := by rw [hbw.cell, ← HN.out]; rfl
    by_cases hlt : i < n
    · have L1 : decide ((i : Int) < (n : Int)) = true := by simp; omega
      obtain ⟨g, rfl⟩ := ha (by omega)
      have hiL : i < l.length := by rw [HN.out]; exact hlt
      have hml : ((l.take i).map (fun k => if p k then 0 else k)).length = i := by simp; omega
      have hget : ((l.take i).map (fun k => if p k then 0 else k) ++ l.drop i).getD i 0 = l.getD i 0 := by
        rw [List.getD_eq_getElem?_getD, List.getElem?_append_right (by omega), hml, Nat.sub_self, List.getElem?_drop, Nat.add_zero, ← List.getD_eq_getElem?_getD]
      have c0 := (own.cellAt i (by omega)).trans (numCells_get _ i (by rw [List.length_append, hml, List.length_drop]; omega))
      rw [hget] at c0
      have fz := own.frozenAt i
      have hgl := (own.lt g rfl).2
      have hset := own.stored i (.int .i64 0)
      have htk : l.take (i + 1) = l.take i ++ [l.getD i 0] := by rw [List.take_succ_eq_append_getElem hiL, List.getD_eq_getElem?_getD, List.getElem?_eq_getElem hiL]; rfl
      have hdr : l.drop i = l.getD i 0 :: l.drop (i + 1) := by rw [List.drop_eq_getElem_cons hiL, List.getD_eq_getElem?_getD, List.getElem?_eq_getElem hiL]; rfl
      generalize l.getD i 0 = x at *
      have z0 : (0 : Int) ≤ i := by omega
      have z1 : (i : Int) < n := by omega
      have z2 : (i : Int).toNat = i := by omega
      have a1 : IntKind.i64.wrap ((i : Int) + 1) = ((i + 1 : Nat) : Int) := by rw [IntWalk.i64_in _ (by omega)]; rfl
      obtain ⟨gb, hg⟩ : ∃ g, p x = g := ⟨_, rfl⟩
      have hset2 : (numCells ((l.take i).map (fun k => if p k then 0 else k) ++ l.drop i)).set i (.int .i64 0) = numCells ((l.take i).map (fun k => if p k then 0 else k) ++ 0 :: l.drop (i + 1)) := by
        rw [numCells_append, List.set_append_right _ _ (by simp [numCells]; omega), hdr]
        have : (numCells ((l.take i).map (fun k => if p k then 0 else k))).length = i := by simp [numCells]; omega
        rw [this, Nat.sub_self, numCells_append]
        rfl
      rw [hset2] at hset
      have HT := Lib.hid (And.intro htk (And.intro hdr hg))
      have HO := Lib.hid own
      have HS := Lib.hid hset
      have HU := Lib.hid up
      have hNw := hbw.lt
      clear own hset hset2 up hget hml htk hdr hg hbw
      cases gb with
      | true =>
        go_wp2_with (go_at_call 24; refine (HD.out _ x HU.out).mono ?_; rintro e w' ⟨rfl, rfl⟩; rw [HT.out.2.2])
        go_roundw
        case rel =>
          refine ⟨i + 1, by omega, by first | rfl | rw [Int.natCast_add], ?_, HU.out.set g i _ rfl⟩
          rw [HT.out.1, List.map_append, List.map_singleton, HT.out.2.2, if_pos rfl, List.append_assoc]
          exact HS.out.1
        case measure => simp only [intOf]; omega
      | false =>
        go_wp2_with (go_at_call 24; refine (HD.out _ x HU.out).mono ?_; rintro e w' ⟨rfl, rfl⟩; rw [HT.out.2.2])
        go_roundw
        case rel =>
          refine ⟨i + 1, by omega, by first | rfl | rw [Int.natCast_add], ?_, HU.out⟩
          rw [HT.out.1, List.map_append, List.map_singleton, HT.out.2.2, if_neg (by decide), List.append_assoc]
          have := HO.out
          rw [HT.out.2.1] at this
          exact this
        case measure => simp only [intOf]; omega
    · obtain rfl : i = n := by omega
      have L1 : decide ((i : Int) < (i : Int)) = false := by simp
      rw [List.take_of_length_le (by rw [HN.out]; omega), List.drop_of_length_le (by rw [HN.out]; omega), List.append_nil] at own
      go_wp2
      go_end0
      exact ⟨⟨_, rfl⟩, own, up⟩
end Go.Proofs.Ythcdhiknjpfmhaa
