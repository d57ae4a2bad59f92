/- TxtM: several texts in one. -/
import Derived.RangeFuncBox
import Derived.RangeFuncNested
import Derived.RangeFuncBound
import Derived.RangeFuncCalls
import Derived.RangeFuncLeaves
import Derived.Shelf.Abstract
import Derived.Shelf.RegionOpen
import Derived.OwnWalkIn
import Derived.TacticsInMore
import Derived.LoopNIn
import Derived.LoopIn
import Derived.Test.YtdeboajjhpecbaaGreatDoorTxtG
import Derived.Test.YtdeboajjhpecbaaGreatDoorTxt
/- Contract of text.Points: the iterator hands out the signs of a string, one by one. -/
set_option linter.unusedVariables false
set_option linter.unusedSimpArgs false
namespace Go.Proofs.YtdeboajjhpecbaaGreatDoor.Tx
open Go.RowKit Go.Shelf
attribute [local go_sem] Oper.semAt_some

theorem grown_none {W W' : World} (b : Below W.heap.size W W') : W.grownBy W' none := ⟨b.os, b.tape, b.output, b.size, fun k hk _ => b.block k hk⟩
theorem abide_below {β : Type} {B : Nat} {J : β → World → Prop} (h : AbidesFrom B J) {s : β} {W W' : World} (hs : J s W) (b : Below W.heap.size W W') : J s W' :=
  h s W W' none hs (grown_none b) (fun _ e => by cases e)
theorem abide_drew {β : Type} {B : Nat} {J : β → World → Prop} (h : AbidesFrom B J) {s : β} {W : World} (hs : J s W) (n : Nat) : J s (W.drewN n) :=
  abide_below h hs (below_drewN (Below.refl _ _) n)

theorem sub_sign (l : List Nat) (n i k : Nat) (w : World) (hn : Hid (l.length = n)) (hn2 : n ≤ 100000000) (hi : i + k ≤ n) (R : List Nat) (hR : Hid ((l.drop i).take k = R)) :
    Calls Tryz.prog 63 #[.string (uS l), .int .i64 (i : Int), .int .i64 ((i : Int) + (k : Int))] w fun e w' => e = .returned (.string (uS R)) ∧ w = w' := by
  have h := hn.out
  have e2 : subTo n ((i : Int) + (k : Int)) = i + k := by unfold subTo; omega
  refine (sub_uS' l n (i : Int) ((i : Int) + (k : Int)) (i + k) i w hn hn2 (Lib.hid e2) (Lib.hid (by unfold subFrom; rw [e2]; omega))).mono ?_
  rintro e w' ⟨rfl, rfl⟩
  refine ⟨?_, rfl⟩
  rw [← hR.out, List.drop_take, Nat.add_sub_cancel_left]

/-- A variable's block lies as it lay. -/
def KeepAt (b : Nat) (W W' : World) : Prop := W'.heap[b]? = W.heap[b]?
theorem keepAt_t {b : Nat} {A B C : World} (h : KeepAt b A B) (k : KeepAt b B C) : KeepAt b A C := Eq.trans k h
theorem keepAt_b {b : Nat} {w : World} (hb : b < w.heap.size) (W : World) (l : Nat) (o o' : Obj) (hl : w.heap.size ≤ l) (h : W.heap[l]? = some o) (_ : o.isCells = false) (_ : o.isWalk = false) : KeepAt b W (W.putObj l o') :=
  (grownBy_putObj' W l o').block b (by have := (Array.getElem?_eq_some_iff.1 h).1; omega) (fun e => by cases e; omega)
theorem KeepAt.cell {b : Nat} {W W' : World} (h : KeepAt b W W') : W'.cell? ⟨b, 0, none⟩ = W.cell? ⟨b, 0, none⟩ := by
  unfold World.cell?; rw [show W'.heap[b]? = W.heap[b]? from h]

set_option maxRecDepth 100000 in
set_option maxHeartbeats 4000000 in
theorem points1_in {α : Type} (enc : α → ByteArray) (T : List α) (n : Nat) (hn : 1 ≤ n) (l Bs : Nat) (us : List Nat) (N : Nat) (hN : Hid (us.length = N)) (hf : Fits us) (hl : N ≤ 100000000) (hT : Hid (T.map enc = (signs us).map uS)) (J Jx : List α → World → Prop)
    (W : World) (hJ : AbidesFrom W.heap.size J)
    (hY : ∀ pre x W, J pre W → pre.length < N → YieldAt Fence.wide (n - 1) Tryz.prog l #[.string (enc x)] W fun e W' =>
      (e = .returned (.bool true) ∧ J (pre ++ [x]) W' ∧ KeepAt Bs W W') ∨ (e = .returned (.bool false) ∧ Jx (pre ++ [x]) W'))
    (hBs : W.cell? ⟨Bs, 0, none⟩ = some (.string (uS us))) (h0 : J [] W) :
    CallsIn Fence.wide n Tryz.prog 61 #[.func (.yield l) #[] #[], .pointer (some ⟨Bs, 0, none⟩)] W fun e W' => (∃ v, e = .returned v) ∧
      ((∃ ys, ys = T ∧ J ys W') ∨ (∃ pre, pre <+: T ∧ Jx pre W')) := by
  refine callsIn_of_wp Tryz.func61 rfl trivial ?_ rfl
  simp only [Tryz.ntmps61, List.size_toArray, List.length_cons, List.length_nil, Nat.reduceAdd, Nat.reduceSub, Array.replicate_succ, Array.replicate_zero, List.push_toArray, List.append_toArray, List.nil_append, List.cons_append]
  gi_wp2
  gi_loopw [3] (fun i wr => ∃ (k : Nat) (pre rest : List α), k ≤ N ∧ pre.length ≤ k ∧ i = .int .i64 k ∧ T = pre ++ rest ∧ rest.map enc = (signs (us.drop k)).map uS ∧ J pre wr ∧ wr.cell? ⟨Bs, 0, none⟩ = some (.string (uS us)))
    (fun i _ => N - (intOf i).toNat)
  case atStart => exact ⟨0, [], T, Nat.zero_le _, Nat.zero_le _, rfl, rfl, hT.out, h0, hBs⟩
  case round =>
    obtain ⟨k, pre, rest, hk, hpl, rfl, hsg, hrs, hJs, hcx⟩ := hrel
    have hz := uS_size us
    have hsz : (uS us).size ≤ 9223372036854775807 := by rw [hz, hN.out]; omega
    have hlen : Hid (N = (uS us).size / 2) := Lib.hid (by rw [hz, hN.out]; omega)
    have Hsg := Lib.hid hsg
    have Hrs := Lib.hid hrs
    clear hsg hz hrs
    by_cases hlt : k < N
    · have hkl : k < us.length := by rw [hN.out]; exact hlt
      have bd := ptAt_bd us k
      have ft := ptAt_fit us k hkl
      rw [hN.out] at ft
      have hps := point_uS us hf k
      rw [hN.out] at hps
      obtain ⟨m, hm⟩ : ∃ m, ptAt us k = m := ⟨_, rfl⟩
      obtain ⟨R, hR⟩ : ∃ R, (us.drop k).take m = R := ⟨_, rfl⟩
      have hstep : rest.map enc = uS R :: (signs (us.drop (k + m))).map uS := by
        rw [Hrs.out, signs_drop us k hkl, hm, hR]; rfl
      obtain ⟨x, rest', rfl, hx, hr'⟩ : ∃ x rest', rest = x :: rest' ∧ enc x = uS R ∧ rest'.map enc = (signs (us.drop (k + m))).map uS := by
        cases rest with
        | nil => simp at hstep
        | cons x r => simp at hstep; exact ⟨x, r, rfl, hstep⟩
      obtain ⟨r0, hr0⟩ : ∃ r : Int, ((ptR (us.getD k 0) (us.getD (k + 1) 0) : Nat) : Int) = r := ⟨_, rfl⟩
      rw [hm] at bd ft
      simp only [hm, hr0] at hps
      have HR := Lib.hid hR
      have Hr := Lib.hid hr'
      have hYx := hY pre x
      rw [hx] at hYx
      clear hstep hR hm hr0 hkl hr' hx hY
      gi_wp2_with (first
        | (refine ⟨trivial, ?_⟩; gi_at_call 62; refine (callsIn_wide.2 (len_n (uS us) N _ hsz hlen)).mono ?_; rintro e w' ⟨rfl, rfl⟩)
        | (refine ⟨trivial, ?_⟩; gi_at_call 41; refine (callsIn_wide.2 (hps _ hlt hl)).mono ?_; rintro e w' ⟨rfl, q, rfl⟩))
      have hJq := abide_drew hJ hJs q
      have hcq : (wr.drewN q).cell? ⟨Bs, 0, none⟩ = some (.string (uS us)) := ((below_drewN (Below.refl (Bs + 1) wr) q).cell (p := ⟨Bs, 0, none⟩) (Nat.lt_succ_self Bs)).trans hcx
      obtain ⟨fn, tmps, assign, body, hy, hRd⟩ := hYx (wr.drewN q) hJq (by omega)
      refine ⟨trivial, ?_⟩
      refine (callsIn_wide.2 (sub_sign us N k m _ hN hl ft R HR)).mono ?_
      rintro e w' ⟨rfl, rfl⟩
      gi_wp2
      refine hRd.mono ?_
      rintro e W3 (⟨rfl, hJ3, hk3⟩ | ⟨rfl, hJx3⟩)
      · gi_wp2
        go_roundw
        case rel => exact ⟨k + m, pre ++ [x], rest', ft, by rw [List.length_append]; simp; omega, by go_num, by rw [Hsg.out]; simp, Hr.out, hJ3, hk3.cell.trans hcq⟩
        case measure => simp [intOf]; omega
      · gi_wp2
        refine bodyPost_ret (results_none rfl _ _ _) rfl ?_
        exact ⟨⟨_, rfl⟩, .inr ⟨pre ++ [x], ⟨rest', by rw [Hsg.out]; simp⟩, hJx3⟩⟩
    · have hk2 : k = N := by omega
      have t1 : decide (k < N) = false := by simp; omega
      have Hk := Lib.hid hk2
      clear hk2 hY
      gi_wp2_with (refine ⟨trivial, ?_⟩; gi_at_call 62; refine (callsIn_wide.2 (len_n (uS us) N _ hsz hlen)).mono ?_; rintro e w' ⟨rfl, rfl⟩)
      go_end0
      refine ⟨⟨_, rfl⟩, .inl ⟨_, rfl, ?_⟩⟩
      have h := Hrs.out
      rw [Hk.out, ← hN.out, List.drop_length, signs, List.map_nil, List.map_eq_nil_iff] at h
      rw [Hsg.out, h, List.append_nil]
      exact hJs

/-- text.Points: the string is boxed; the function value captures the box. -/
theorem points_in (n : Nat) (s : ByteArray) (w : World) :
    CallsIn Fence.wide n Tryz.prog 40 #[.string s] w fun e w' => e = .returned (.func (.func 61) #[] #[.pointer (some ⟨w.heap.size, 0, none⟩)]) ∧ w' = w.alloc (.cells #[.string s] 9) := by
  refine callsIn_of_wp Tryz.func40 rfl trivial ?_ rfl
  simp only [Tryz.ntmps40, List.size_toArray, List.length_cons, List.length_nil, Nat.reduceAdd, Nat.reduceSub, Array.replicate_succ, Array.replicate_zero, List.push_toArray, List.append_toArray, List.nil_append, List.cons_append]
  gi_wp2
  go_ret
  exact ⟨rfl, rfl⟩

theorem points_stops {α : Type} (enc : α → ByteArray) (T : List α) (n : Nat) (hn : 1 ≤ n) (Bs : Nat) (us : List Nat) (N : Nat) (hN : us.length = N) (hf : Fits us) (hl : N ≤ 100000000) (hT : T.map enc = (signs us).map uS) (w : World) (hBs : Bs < w.heap.size)
    (hc : w.cell? ⟨Bs, 0, none⟩ = some (.string (uS us))) :
    SeqStopsK Fence.wide n Tryz.prog 61 #[.pointer (some ⟨Bs, 0, none⟩)] (fun x : α => #[Value.string (enc x)]) (KeepAt Bs) (fun ys => ys = T) (fun pre => pre <+: T) N w := fun l J Jx W hW hJ _ hY h0 =>
  points1_in enc T n hn l Bs us N (Lib.hid hN) hf hl (Lib.hid hT) J Jx W hJ hY ((hW.cell (p := ⟨Bs, 0, none⟩) hBs).trans hc) h0

end Go.Proofs.YtdeboajjhpecbaaGreatDoor.Tx

/- Contract of the reference's Signs: a new row of rows of units. -/
set_option linter.unusedVariables false
set_option linter.unusedSimpArgs false
namespace Go.Proofs.YtdeboajjhpecbaaGreatDoor.Tx
open Go.RowKit

theorem infoIntsS : (Tryz.prog.info? 65).map (fun i => (i.zero, i.size, i.bytes)) = some (some (.slice none 0 0), 1, 24) := by kernel_rfl

/-- A slice value that holds the numbers l in a block of its own. -/
structure RowAt (B : Nat) (w : World) (v : Value) (l : List Nat) : Prop where
  is : ∃ g, v = .slice (some ⟨g, 0, none⟩) l.length l.length ∧ B ≤ g ∧ w.heap[g]? = some (.cells (numCells .i64 (ints l)).toArray 3 (0, 0))

theorem RowAt.kept {B : Nat} {w w' : World} {v : Value} {l : List Nat} (h : RowAt B w v l) {row : Option Nat} (hg : w.grownBy w' row) (hr : ∀ g, row = some g → ∃ c fz, w.heap[g]? = some (.cells c 65 fz)) : RowAt B w' v l := by
  obtain ⟨g, rfl, hB, hh⟩ := h.is
  refine ⟨g, rfl, hB, (hg.block g (Array.getElem?_eq_some_iff.1 hh).1 fun e => ?_).trans hh⟩
  obtain ⟨c, fz, h2⟩ := hr g e.symm
  rw [hh] at h2
  exact absurd (Obj.cells.inj (Option.some.inj h2)).2.1 (by decide)
theorem RowAt.alloc {B : Nat} {w : World} {v : Value} {l : List Nat} (h : RowAt B w v l) (o : Obj) : RowAt B (w.alloc o) v l :=
  h.kept (World.grownBy_alloc w o none) (fun _ e => by cases e)
theorem RowAt.drew {B : Nat} {w : World} {v : Value} {l : List Nat} (h : RowAt B w v l) : RowAt B w.drew v l := ⟨h.is⟩
theorem RowAt.below {B : Nat} {w w' : World} {v : Value} {l : List Nat} (h : RowAt B w v l) (b : Below w.heap.size w w') : RowAt B w' v l :=
  h.kept (row := none) ⟨b.os, b.tape, b.output, b.size, fun k hk _ => b.block k hk⟩ (fun _ e => by cases e)
theorem RowAt.slice {B : Nat} {w : World} {v : Value} {l : List Nat} (h : RowAt B w v l) (hl : l.length ≤ 2) : ∃ g, v = .slice (some ⟨g, 0, none⟩) l.length l.length ∧ SliceR .i64 w (some ⟨g, 0, none⟩) l.length l.length (ints l) := by
  obtain ⟨g, rfl, hB, hh⟩ := h.is
  refine ⟨g, rfl, ints_length l, Nat.le_refl _, by unfold maxLen; omega, fun _ => by simp, fun _ => ⟨g, 0, rfl, (Array.getElem?_eq_some_iff.1 hh).1, fun i hi => ?_⟩⟩
  rw [Nat.zero_add, Lib.cell_of_heap hh]
  simpa using numCells_get .i64 (ints l) i (by rw [ints_length]; exact hi)

theorem ownsRow_kind {w : World} {B n : Nat} {v : Value} {xs : List Value} {t : TypeId} (h : w.ownsRow B t 1 v n xs) : ∀ g, v.ownBlock = some g → ∃ c fz, w.heap[g]? = some (.cells c t fz) := by
  intro g hg
  rcases h.2 with ⟨rfl, _⟩ | ⟨g', cap, cur, rfl, _, hh, _⟩
  · simp [Value.ownBlock] at hg
  · obtain rfl : g' = g := by simpa [Value.ownBlock] using hg
    exact ⟨cur, _, hh⟩

inductive Fa2 {α β : Type} (R : α → β → Prop) : List α → List β → Prop
  | nil : Fa2 R [] []
  | cons {a : α} {b : β} {l : List α} {m : List β} : R a b → Fa2 R l m → Fa2 R (a :: l) (b :: m)

/-- An owned row whose elements are the rows. -/
structure RowsOwn (B : Nat) (w : World) (v : Value) (rows : List (List Nat)) : Prop where
  is : ∃ xs, w.ownsRow B 65 1 v rows.length xs ∧ Fa2 (RowAt B w) xs rows

theorem forall2_imp {α β : Type} {R S : α → β → Prop} (h : ∀ a b, R a b → S a b) : ∀ {l : List α} {m : List β}, Fa2 R l m → Fa2 S l m
  | _, _, .nil => .nil
  | _, _, .cons a b => .cons (h _ _ a) (forall2_imp h b)
theorem forall2_app {α β : Type} {R : α → β → Prop} : ∀ {l : List α} {m : List β} {l' : List α} {m' : List β}, Fa2 R l m → Fa2 R l' m' → Fa2 R (l ++ l') (m ++ m')
  | _, _, _, _, .nil, h => h
  | _, _, _, _, .cons a b, h => .cons a (forall2_app b h)
theorem forall2_get {α β : Type} {R : α → β → Prop} : ∀ {l : List α} {m : List β}, Fa2 R l m → ∀ (i : Nat) (a : α) (b : β), i < m.length → R (l.getD i a) (m.getD i b)
  | _, _, .nil, i, _, _, h => by simp at h
  | _, _, .cons a b, 0, _, _, _ => by simpa using a
  | _, _, .cons a b, i + 1, x, y, h => by simpa using forall2_get b i x y (by simpa using h)

/-- What a call hands back that makes rows. -/
def NewRows (B : Nat) (w : World) (rows : List (List Nat)) (e : Ending) (w' : World) : Prop :=
  ∃ v, e = .returned v ∧ RowsOwn B w' v rows ∧ Below B w w'

theorem two_news (w : World) (o : Obj) (x : Value) : ∀ j u, [x][j]? = some u → (((w.alloc o).alloc (.cells #[x] 65)).drew).cell? ((⟨w.heap.size + 1, 0, none⟩ : Addr).add j) = some u := by
  have h : ((w.alloc o).alloc (.cells #[x] 65)).heap[w.heap.size + 1]? = some (.cells #[x] 65 (0, 0)) := by
    have := heap_alloc_new (w.alloc o) (.cells #[x] 65)
    rwa [World.size_alloc] at this
  exact World.news_of_block (cs := #[x]) (t := 65) (fr := (0, 0)) h
theorem two_news' (w : World) (o : Obj) (x : Value) : ∀ j u, [x][j]? = some u → ((w.alloc o).alloc (.cells #[x] 65)).cell? ((⟨w.heap.size + 1, 0, none⟩ : Addr).add j) = some u := two_news w o x

/-- One round's append of a new row. -/
theorem rows_step {B : Nat} {w w' : World} {v v' : Value} {rows : List (List Nat)} {xs : List Value} (l : List Nat)
    (hown : w.ownsRow B 65 1 v rows.length xs) (hF : Fa2 (RowAt B w) xs rows) (hB : B ≤ w.heap.size) (cs : Array Value) (hcs : cs = (numCells .i64 (ints l)).toArray)
    (o : Obj) (W : World) (hW : W = ((w.alloc (.cells cs 3)).alloc o) ∨ W = ((w.alloc (.cells cs 3)).alloc o).drew)
    (hg : W.grownBy w' v.ownBlock) (hown' : w'.ownsRow B 65 1 v' (rows.length + 1) (xs ++ [.slice (some ⟨w.heap.size, 0, none⟩) l.length l.length])) : RowsOwn B w' v' (rows ++ [l]) := by
  subst hcs
  have hk : ∀ g, v.ownBlock = some g → ∃ c fz, W.heap[g]? = some (.cells c 65 fz) := by
    rcases hW with rfl | rfl
    · exact ownsRow_kind ((hown.alloc _).alloc _)
    · exact ownsRow_kind (((hown.alloc _).alloc _).drew)
  have hnew : W.heap[w.heap.size]? = some (.cells (numCells .i64 (ints l)).toArray 3 (0, 0)) := by
    have h0 := heap_alloc_new w (.cells (numCells .i64 (ints l)).toArray 3)
    rcases hW with rfl | rfl
    · exact (Below.heap_alloc _ _ _ (by simp)).trans h0
    · exact (Below.heap_alloc _ _ _ (by simp)).trans h0
  have hold : ∀ x r, RowAt B w x r → RowAt B W x r := by
    rcases hW with rfl | rfl
    · exact fun x r h => (h.alloc _).alloc _
    · exact fun x r h => ((h.alloc _).alloc _).drew
  refine ⟨_, by rw [List.length_append]; exact hown', forall2_app (forall2_imp (fun x r h => (hold x r h).kept hg hk) hF) (.cons ?_ .nil)⟩
  exact (show RowAt B W _ l from ⟨_, rfl, hB, hnew⟩).kept hg hk

set_option maxHeartbeats 8000000 in
set_option maxRecDepth 100000 in
theorem refSigns_any (a : Option Addr) (n cap : Nat) (l : List Nat) (w : World) (h : SliceR .i64 w a n cap (ints l)) (hf : Fits l) (hn : n ≤ 100000) :
    Calls Tryz.prog 53 #[.slice a n cap] w (NewRows w.heap.size w (signs l)) := by
  obtain ⟨i0, hi, hz0, hz1, hz2⟩ := info_parts infoIntsS
  obtain ⟨h1, h2, h3, h3', h4⟩ := h
  rw [ints_length] at h1
  have H1 := Lib.hid h1
  clear h1 h3'
  go_enter Tryz.func53, Tryz.ntmps53
  go_wp2
  go_loopw [3, 4] (fun v i wr => ∃ (k : Nat) (pre : List (List Nat)), k ≤ n ∧ pre.length ≤ k ∧ i = .int .i64 k ∧ signs l = pre ++ signs (l.drop k) ∧ RowsOwn w.heap.size wr v pre ∧ Below w.heap.size w wr) (fun _ i _ => n - (intOf i).toNat)
  case atStart => exact ⟨0, [], Nat.zero_le _, Nat.zero_le _, rfl, rfl, ⟨[], World.ownsRow_nil _ _ _ _, .nil⟩, Below.refl _ _⟩
  case round =>
    obtain ⟨k, pre, hk, hpl, rfl, hsg, hrows, hb⟩ := hrel
    have Hsg := Lib.hid hsg
    clear hsg
    by_cases hlt : k < n
    · obtain ⟨b, off, rfl, hbl, hcell⟩ := h4 (by omega)
      have hck := (hb.cell (p := ⟨b, off + k, none⟩) hbl).trans (hcell k hlt)
      rw [ints_getD] at hck
      have hkl : k < l.length := by rw [H1.out]; exact hlt
      have hul : l.getD k 0 < 65536 := by rw [List.getD_eq_getElem?_getD, List.getElem?_eq_getElem hkl]; exact hf _ (List.getElem_mem _)
      have hvl : l.getD (k + 1) 0 < 65536 := by
        rcases Nat.lt_or_ge (k + 1) l.length with h' | h'
        · rw [List.getD_eq_getElem?_getD, List.getElem?_eq_getElem h']; exact hf _ (List.getElem_mem _)
        · rw [List.getD_eq_getElem?_getD, List.getElem?_eq_none h']; decide
      have hsd := signs_drop l k hkl
      have q := ptB_iff (l.getD k 0) (l.getD (k + 1) 0)
      have htk1 : (l.drop k).take 1 = [l.getD k 0] := by
        rw [List.drop_eq_getElem_cons hkl, List.getD_eq_getElem?_getD, List.getElem?_eq_getElem hkl]; rfl
      have htk2 : k + 1 < l.length → (l.drop k).take 2 = [l.getD k 0, l.getD (k + 1) 0] := fun h' => by
        rw [List.drop_eq_getElem_cons hkl, List.drop_eq_getElem_cons h', List.getD_eq_getElem?_getD, List.getElem?_eq_getElem hkl, List.getD_eq_getElem?_getD, List.getElem?_eq_getElem h']; rfl
      have hv0 : ¬ k + 1 < n → l.getD (k + 1) 0 = 0 := fun h' => by rw [List.getD_eq_getElem?_getD, List.getElem?_eq_none (by rw [H1.out]; omega)]; rfl
      have hck2 : k + 1 < n → wr.cell? ⟨b, off + (k + 1), none⟩ = some (.int .i64 ((l.getD (k + 1) 0 : Nat) : Int)) := fun h' => by
        have := (hb.cell (p := ⟨b, off + (k + 1), none⟩) hbl).trans (hcell (k + 1) h')
        rwa [ints_getD] at this
      unfold ptAt ptN at hsd
      obtain ⟨u, hu⟩ : ∃ u, l.getD k 0 = u := ⟨_, rfl⟩
      obtain ⟨v, hv⟩ : ∃ v, l.getD (k + 1) 0 = v := ⟨_, rfl⟩
      rw [hu] at hck hul htk1 htk2
      rw [hv] at hvl htk2 hv0 hck2
      rw [hu, hv] at q hsd
      obtain ⟨p, hp⟩ : ∃ p, ptB u v = p := ⟨_, rfl⟩
      rw [hp] at q hsd
      obtain ⟨U, hU⟩ : ∃ U, (u : Int) = U := ⟨_, rfl⟩
      obtain ⟨V, hV⟩ : ∃ V, (v : Int) = V := ⟨_, rfl⟩
      rw [hU] at hck
      rw [hV] at hck2
      have Hk : Hid (off + (k + 1) = off + k + 1) := Lib.hid (by omega)
      obtain ⟨xs, hown, hF⟩ := hrows.is
      have hz := hb.size
      clear hcell h4 hrows hp hu hv hkl
      have hnb : u3.ownBlock ≠ some b := fun hg => by have := (hown.lt b hg).1; omega
      have g1 : (k : Int) < (n : Int) := by omega
      have f1 : IntKind.i64.wrap ((k : Int) + 1) = (k : Int) + 1 := IntWalk.i64_in _ (by omega)
      have f2 : 0 ≤ (k : Int) + 1 := by omega
      have f3 : ((k : Int) + 1).toNat = k + 1 := by omega
      by_cases hyes : 55296 ≤ U ∧ U ≤ 56319 ∧ k + 1 < n ∧ 56320 ≤ V ∧ V ≤ 57343
      · obtain ⟨y1, y2, y3, y4, y5⟩ := hyes
        obtain rfl : p = true := by rw [q]; omega
        rw [if_pos rfl, htk2 (by rw [H1.out]; exact y3)] at hsd
        have hst : signs l = (pre ++ [[u, v]]) ++ signs (l.drop (k + 2)) := by rw [Hsg.out, hsd]; simp
        have Hst := Lib.hid hst
        have hc2 := hck2 y3
        have hcs : (#[.int .i64 U, .int .i64 V] : Array Value) = (numCells .i64 (ints [u, v])).toArray := by rw [← hU, ← hV]; rfl
        have HC := Lib.hid hcs
        have g2 : (k : Int) + 1 < (n : Int) := by omega
        have t1 : decide (55296 ≤ U) = true := by simp; omega
        have t2 : decide (U ≤ 56319) = true := by simp; omega
        have t3 : decide ((k : Int) + 1 < (n : Int)) = true := by simp; omega
        have t4 : decide (56320 ≤ V) = true := by simp; omega
        have t5 : decide (V ≤ 57343) = true := by simp; omega
        clear q hst hsd hck2 hv0 htk1 htk2 hcs hU hV hul hvl
        go_wp2_with fail
        go_region_held3 (fun w' => w'.cell? ⟨b, off + k, none⟩ = some (.int .i64 U) ∧ w'.cell? ⟨b, off + (k + 1), none⟩ = some (.int .i64 V)) (first | exact ⟨hck, hc2⟩ | go_keep | (go_split_ands; exact ⟨by rw [hgrow.cell_far _ (by simp; omega) (Ne.symm hnb)]; assumption, by rw [hgrow.cell_far _ (by simp; omega) (Ne.symm hnb)]; assumption⟩))
          ((refine step_append_lies _ (by rfl) _ _ _ (by rfl) w.heap.size 65 i0 _ 1 24 Tryz.underlying141 hi hz0 hz1 hz2 rfl (by omega) u3 pre.length xs (by rfl) (((hown.alloc _).alloc _).drew) ⟨wr.heap.size + 1, 0, none⟩ 1 1 [.slice (some ⟨wr.heap.size, 0, none⟩) 2 2] (by rfl) (by rfl) (two_news wr _ _) (by simp [Value.oneCell']) (by omega) (by unfold maxLen; omega) (by omega) (by simp; omega) (wr.heap.size + 2) (by simp) ?_; intro gg cap w1 hown1 hgrow hat hlt))
        all_goals
          have hb2 := (((hb.alloc hz (.cells #[.int .i64 U, .int .i64 V] 3)).alloc (by simp; omega) (.cells #[.slice (some ⟨wr.heap.size, 0, none⟩) 2 2] 65)).drew).grown hgrow (by simp; omega) (fun k' hk' => (hown.lt k' hk').1)
          have hrw := rows_step [u, v] hown hF hz #[.int .i64 U, .int .i64 V] HC.out (.cells #[.slice (some ⟨wr.heap.size, 0, none⟩) 2 2] 65) _ (.inr rfl) hgrow hown1
          go_wp2
          go_roundw
          case rel => exact ⟨k + 2, pre ++ [[u, v]], by omega, by rw [List.length_append]; simp; omega, by go_num, Hst.out, hrw, hb2⟩
          case measure => simp [intOf]; omega
      · obtain rfl : p = false := by
          rw [Bool.eq_false_iff, ne_eq, q]
          intro h
          have := hv0
          omega
        rw [if_neg (by decide), htk1] at hsd
        have hst : signs l = (pre ++ [[u]]) ++ signs (l.drop (k + 1)) := by rw [Hsg.out, hsd]; simp
        have Hst := Lib.hid hst
        have hcs : (#[.int .i64 U] : Array Value) = (numCells .i64 (ints [u])).toArray := by rw [← hU]; rfl
        have HC := Lib.hid hcs
        clear q hst hsd hv0 htk1 htk2 hcs hU hV hul hvl
        by_cases y1 : 55296 ≤ U
        case' neg =>
          have t1 : decide (55296 ≤ U) = false := by simp; omega
        case' pos =>
          have t1 : decide (55296 ≤ U) = true := by simp; omega
          by_cases y2 : U ≤ 56319
          case' neg =>
            have t2 : decide (U ≤ 56319) = false := by simp; omega
          case' pos =>
            have t2 : decide (U ≤ 56319) = true := by simp; omega
            by_cases y3 : k + 1 < n
            case' neg =>
              have t3 : decide ((k : Int) + 1 < (n : Int)) = false := by simp; omega
            case' pos =>
              have t3 : decide ((k : Int) + 1 < (n : Int)) = true := by simp; omega
              have hc2 := hck2 y3
              have g2 : (k : Int) + 1 < (n : Int) := by omega
              by_cases y4 : 56320 ≤ V
              case' neg =>
                have t4 : decide (56320 ≤ V) = false := by simp; omega
              case' pos =>
                have t4 : decide (56320 ≤ V) = true := by simp; omega
                have t5 : decide (V ≤ 57343) = false := by simp; omega
        all_goals
          clear hck2 hyes
          go_wp2_with (at_builtin; refine wpList_append_lies _ rfl _ _ 141 rfl w.heap.size 65 i0 _ 1 24 Tryz.underlying141 hi hz0 hz1 hz2 rfl (by decide) _ _ _ rfl ((hown.alloc _).alloc _) ⟨wr.heap.size + 1, 0, none⟩ 1 1 [.slice (some ⟨wr.heap.size, 0, none⟩) 1 1] rfl rfl (two_news' wr _ _) (by simp [Value.oneCell']) (by decide) (by unfold maxLen; omega) (by omega) (by simp; omega) _ rfl ?_)
          intro gg cap w1 hown1 hgrow hat hlt
          have hb2 := ((hb.alloc hz (.cells #[.int .i64 U] 3)).alloc (by simp; omega) (.cells #[.slice (some ⟨wr.heap.size, 0, none⟩) 1 1] 65)).grown hgrow (by simp; omega) (fun k' hk' => (hown.lt k' hk').1)
          have hrw := rows_step [u] hown hF hz #[.int .i64 U] HC.out (.cells #[.slice (some ⟨wr.heap.size, 0, none⟩) 1 1] 65) _ (.inl rfl) hgrow hown1
          go_wp2
          go_roundw
          case rel => exact ⟨k + 1, pre ++ [[u]], by omega, by rw [List.length_append]; simp; omega, by go_num, Hst.out, hrw, hb2⟩
          case measure => simp [intOf]; omega
    · have hk2 : k = n := by omega
      have t1 : decide ((k : Int) < (n : Int)) = false := by simp; omega
      have Hk := Lib.hid hk2
      clear hk2
      go_wp2
      go_ret
      refine ⟨_, rfl, ?_, hb⟩
      have h := Hsg.out
      rw [Hk.out, ← H1.out, List.drop_length, signs, List.append_nil] at h
      rw [h]
      exact hrows
end Go.Proofs.YtdeboajjhpecbaaGreatDoor.Tx

/- Rows of units, read; what a round of a range over a function keeps. -/
set_option linter.unusedVariables false
set_option linter.unusedSimpArgs false
namespace Go.Proofs.YtdeboajjhpecbaaGreatDoor.Tx
open Go.RowKit Go.Shelf

/-- What a block that holds cells holds is kept by a step that turns a block of another kind. -/
theorem cells_kept {W W' : World} {row : Option Nat} (hg : W.grownBy W' row) (hr : ∀ r, row = some r → ∃ o : Obj, W.heap[r]? = some o ∧ o.isCells = false) {g : Nat} {cs : Array Value} {t : TypeId} {fz : Nat × Nat} (h : W.heap[g]? = some (.cells cs t fz)) : W'.heap[g]? = some (.cells cs t fz) := by
  refine (hg.block g (Array.getElem?_eq_some_iff.1 h).1 fun e => ?_).trans h
  obtain ⟨o, ho, hc⟩ := hr g e.symm
  rw [h] at ho
  obtain rfl := Option.some.inj ho
  simp [Obj.isCells] at hc
theorem keepsOthers_below {W W' : World} (b : Below W.heap.size W W') : KeepsOthers W W' := ⟨b.size, fun k o hk _ => (b.block k (Array.getElem?_eq_some_iff.1 hk).1).trans hk⟩
theorem keepAt_below {b : Nat} {W W' : World} (h : Below W.heap.size W W') (hb : b < W.heap.size) : KeepAt b W W' := h.block b hb
theorem keepAt_set {b b' : Nat} {W W' : World} (h : KeepAt b W W') (hb : b ≠ b') (v : Value) : KeepAt b W (W'.setCell ⟨b', 0, none⟩ v) := (Below.heap_setCell W' ⟨b', 0, none⟩ v b hb).trans h

theorem RowAt.far {B : Nat} {w w' : World} {v : Value} {l : List Nat} (h : RowAt B w v l) (b : Below w.heap.size w w') : RowAt B w' v l := h.below b
theorem RowsOwn.below {B : Nat} {w w' : World} {v : Value} {rows : List (List Nat)} (h : RowsOwn B w v rows) (b : Below w.heap.size w w') : RowsOwn B w' v rows := by
  obtain ⟨xs, ho, hF⟩ := h.is
  refine ⟨xs, ⟨ho.1, ?_⟩, forall2_imp (fun x r hx => hx.below b) hF⟩
  rcases ho.2 with h0 | ⟨g, cap, cur, h1, h2, h3, h4⟩
  · exact .inl h0
  · exact .inr ⟨g, cap, cur, h1, h2, (b.block g (Array.getElem?_eq_some_iff.1 h3).1).trans h3, h4⟩

theorem RowsOwn.shape {B : Nat} {w : World} {v : Value} {rows : List (List Nat)} (h : RowsOwn B w v rows) : ∃ A cap, v = .slice A rows.length cap := by
  obtain ⟨xs, ho, hF⟩ := h.is
  rcases ho.2 with ⟨rfl, h0⟩ | ⟨g, cap, cur, rfl, h2, h3, h4⟩
  · rw [h0]; exact ⟨none, 0, rfl⟩
  · exact ⟨_, _, rfl⟩
theorem fa2_at {α β : Type} {R : α → β → Prop} : ∀ {l : List α} {m : List β}, Fa2 R l m → ∀ (i : Nat) (b : β), m[i]? = some b → ∃ a, l[i]? = some a ∧ R a b
  | _, _, .nil, i, _, h => by simp at h
  | _, _, .cons a b, 0, _, h => by simp at h; subst h; exact ⟨_, rfl, a⟩
  | _, _, .cons a b, i + 1, y, h => by simpa using fa2_at b i y (by simpa using h)
/-- One of the rows, read. -/
theorem RowsOwn.at {B : Nat} {w : World} {A : Option Addr} {M capv : Nat} {rows : List (List Nat)} (h : RowsOwn B w (.slice A M capv) rows) (hM : rows.length = M) (k : Nat) (r : List Nat) (hr : rows[k]? = some r) (h2 : r.length ≤ 2) :
    ∃ g g', A = some ⟨g, 0, none⟩ ∧ w.cell? ⟨g, k, none⟩ = some (.slice (some ⟨g', 0, none⟩) r.length r.length) ∧ SliceR .i64 w (some ⟨g', 0, none⟩) r.length r.length (ints r) := by
  obtain ⟨xs, ho, hF⟩ := h.is
  obtain ⟨x, hx, hR⟩ := fa2_at hF k r hr
  obtain ⟨g', rfl, hS⟩ := hR.slice h2
  have hk : k < rows.length := (List.getElem?_eq_some_iff.1 hr).1
  subst hM
  rcases ho.2 with ⟨_, h0⟩ | ⟨g, cap, cur, he, h2', h3, h4⟩
  · omega
  · obtain ⟨rfl, _, rfl⟩ := Value.slice.inj he
    exact ⟨g, g', rfl, by rw [World.ownsRow.cellAt ho k (by omega)]; exact hx, hS⟩

theorem str_ext {a b : ByteArray} (h : a.toList = b.toList) : a = b := by
  have : a.data.toList = b.data.toList := by rw [← ByteArray.toList_eq, ← ByteArray.toList_eq, h]
  exact ByteArray.ext (Array.toList_inj.1 this)

theorem snoc_prefix {α : Type} {pre T : List α} {x : α} (h : pre <+: T) : (pre ++ [x]) <+: T ↔ T[pre.length]? = some x := by
  obtain ⟨t, rfl⟩ := h
  constructor
  · rintro ⟨u, hu⟩
    rw [List.append_assoc, List.append_right_inj] at hu
    subst hu; simp
  · intro hx
    cases t with
    | nil => simp at hx
    | cons y t => simp at hx; subst hx; exact ⟨t, by simp⟩

end Go.Proofs.YtdeboajjhpecbaaGreatDoor.Tx
