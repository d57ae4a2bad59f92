/- Num3: several texts in one. -/
import Derived.Test.YtdeboajjhpecbaaGreatDoorNum1
import Derived.Deep.RegionHeld3
import Derived.Deep.DeepCutAuto
import Derived.BigQuiet
import Derived.Deep.QuietTactic
import Derived.Laws.StructEq
import Derived.Test.YtdeboajjhpecbaaGreatDoorShelf
import Derived.Lib.QuietBelow
import Derived.Lib.AppendIntMem
import Derived.Lib.ItoaMem
import Derived.Lib.ItoaLen
import Derived.BigRegion
import Derived.ChangeAlike
/- Num2: contracts and plain laws, several texts in one. -/
/- Contracts of the statements' own Num, and of num.Sub. -/
set_option linter.unusedVariables false
set_option linter.unusedSimpArgs false
namespace Go.Proofs.YtdeboajjhpecbaaGreatDoor.Vx
open Go.RowKit

/-- The number that the statements make of any. -/
def numR (n : Int) : Int × Int :=
  if bits BinOp.and IntKind.i64 n 15 == 0 then (4, 0) else if bits BinOp.and IntKind.i64 n 15 == 1 then (5, 1) else if bits BinOp.and IntKind.i64 n 15 == 2 then (5, -1)
  else if bits BinOp.and IntKind.i64 n 15 == 3 then (6, 0) else (3, (n / 16).tmod 9007199254740992)
theorem tmod53 (x : Int) : IsNum 3 (x.tmod 9007199254740992) := by
  have m1 := Int.tmod_lt_of_pos x (show (0 : Int) < 9007199254740992 by decide)
  have m2 := Int.lt_tmod_of_pos x (show (0 : Int) < 9007199254740992 by decide)
  unfold IsNum; omega
theorem numR_is (n : Int) : IsNum (numR n).1 (numR n).2 := by
  unfold numR
  repeat' split
  · unfold IsNum; decide
  · unfold IsNum; decide
  · unfold IsNum; decide
  · unfold IsNum; decide
  · exact tmod53 _

end Go.Proofs.YtdeboajjhpecbaaGreatDoor.Vx

/- Values that lie in blocks of the call's own, kept through calls that make memory; and the contract of num.Sub. -/
set_option linter.unusedVariables false
set_option linter.unusedSimpArgs false
namespace Go.Proofs.YtdeboajjhpecbaaGreatDoor.Vx
open Go.RowKit

/-- At block b lies the value of kind k and number n. -/
def At (W : World) (b : Nat) (k n : Int) : Prop :=
  W.cell? ⟨b, 0, none⟩ = some (.int .i64 k) ∧ W.cell? ⟨b, 1, none⟩ = some (.int .i64 n) ∧ W.cell? ⟨b, 2, none⟩ = some (.string ⟨#[]⟩)
/-- Below block B these values lie; nothing that was there when the call began has turned. -/
structure Keep (w : World) (B : Nat) (W : World) (L : List (Nat × Int × Int)) : Prop where
  bel : Below w.heap.size w W
  lo : w.heap.size ≤ B
  hi : B ≤ W.heap.size
  mem : ∀ q, q ∈ L → q.1 < B ∧ At W q.1 q.2.1 q.2.2
variable {w W W' : World} {B : Nat} {L : List (Nat × Int × Int)}
theorem Keep.stepB (h : Keep w B W L) (b : Below B W W') : Keep w B W' L :=
  ⟨h.bel.trans (b.mono h.lo), h.lo, Nat.le_trans h.hi b.size, fun q hq =>
    have hl := (h.mem q hq).1
    have ha := (h.mem q hq).2
    ⟨hl, (b.cell (p := ⟨q.1, 0, none⟩) hl).trans ha.1, (b.cell (p := ⟨q.1, 1, none⟩) hl).trans ha.2.1, (b.cell (p := ⟨q.1, 2, none⟩) hl).trans ha.2.2⟩⟩
theorem Keep.step (h : Keep w B W L) (b : Below W.heap.size W W') : Keep w B W' L := h.stepB (b.mono h.hi)
theorem Keep.below (h : Keep w B W L) : Below w.heap.size w W := h.bel
theorem Keep.alloc (h : Keep w B W L) (o : Obj) : Keep w B (W.alloc o) L := h.step ((Below.refl _ _).alloc (Nat.le_refl _) _)
theorem Keep.drew (h : Keep w B W L) : Keep w B W.drew L := h.step (Below.refl _ _).drew
theorem Keep.undrew (h : Keep w B W.drew L) : Keep w B W L := ⟨⟨h.bel.os, h.bel.tape, h.bel.output, h.bel.size, h.bel.block⟩, h.lo, h.hi, h.mem⟩
theorem Keep.set (h : Keep w B W L) (g o : Nat) (v : Value) (hg : B ≤ g) : Keep w B (W.setCell ⟨g, o, none⟩ v) L := h.stepB ((Below.refl _ _).setCell (p := ⟨g, o, none⟩) hg v)
theorem drew_size (W : World) : W.drew.heap.size = W.heap.size := rfl
theorem Keep.realloc {o : Obj} (h : Keep w B (W.alloc o) L) (hB : B ≤ W.heap.size) (o' : Obj) : Keep w B (W.alloc o') L :=
  have hb : Below w.heap.size w W := ⟨h.bel.os, h.bel.tape, h.bel.output, Nat.le_trans h.lo hB, fun k hk => (Below.heap_alloc W o k (Nat.lt_of_lt_of_le hk (Nat.le_trans h.lo hB))).symm.trans (h.bel.block k hk)⟩
  ⟨hb.alloc hb.size o', h.lo, by simp; omega, fun q hq =>
    have hl := (h.mem q hq).1
    have ha := (h.mem q hq).2
    have b1 : Below B W (W.alloc o) := (Below.refl _ _).alloc hB o
    have b2 : Below B W (W.alloc o') := (Below.refl _ _).alloc hB o'
    ⟨hl, ((b2.cell (p := ⟨q.1, 0, none⟩) hl).trans (b1.cell (p := ⟨q.1, 0, none⟩) hl).symm).trans ha.1, ((b2.cell (p := ⟨q.1, 1, none⟩) hl).trans (b1.cell (p := ⟨q.1, 1, none⟩) hl).symm).trans ha.2.1, ((b2.cell (p := ⟨q.1, 2, none⟩) hl).trans (b1.cell (p := ⟨q.1, 2, none⟩) hl).symm).trans ha.2.2⟩⟩
theorem Keep.more (h : Keep w B W L) (g : Nat) (k n : Int) (hB : B ≤ g) (hg : g < W.heap.size) (ha : At W g k n) : Keep w (g + 1) W ((g, k, n) :: L) :=
  ⟨h.bel, Nat.le_trans h.lo (Nat.le_succ_of_le hB), hg, fun q hq => by
    rcases List.mem_cons.1 hq with rfl | hq
    · exact ⟨Nat.lt_succ_self _, ha⟩
    · exact ⟨Nat.lt_succ_of_lt (Nat.lt_of_lt_of_le (h.mem q hq).1 hB), (h.mem q hq).2⟩⟩
theorem Keep.start (w : World) : Keep w w.heap.size w [] := ⟨Below.refl _ _, Nat.le_refl _, Nat.le_refl _, fun q hq => by cases hq⟩
theorem Keep.begin (b : Below w.heap.size w W) : Keep w w.heap.size W [] := ⟨b, Nat.le_refl _, b.size, fun q hq => by cases hq⟩
theorem Keep.at (h : Keep w B W L) (b : Nat) (k n : Int) (hm : (b, k, n) ∈ L) : At W b k n := (h.mem _ hm).2
theorem Keep.lt (h : Keep w B W L) (b : Nat) (k n : Int) (hm : (b, k, n) ∈ L) : b < B := (h.mem _ hm).1
theorem at_new (W : World) (k n : Int) : At (W.alloc (VC k n)) W.heap.size k n := cells_of (heap_alloc_new W (VC k n))
theorem Keep.new (h : Keep w B W L) (k n : Int) : Keep w (W.heap.size + 1) (W.alloc (VC k n)) ((W.heap.size, k, n) :: L) :=
  (h.alloc (VC k n)).more W.heap.size k n h.hi (by simp) (at_new W k n)
/-- What a walk is told of two of them. -/
abbrev K2 (w : World) (B : Nat) (L : List (Nat × Int × Int)) (x : Nat) (kx nx : Int) (y : Nat) (ky ny : Int) (W : World) : Prop :=
  W.cell? ⟨x, 0, none⟩ = some (.int .i64 kx) ∧ W.cell? ⟨x, 1, none⟩ = some (.int .i64 nx) ∧ W.cell? ⟨x, 2, none⟩ = some (.string ⟨#[]⟩) ∧
  W.cell? ⟨y, 0, none⟩ = some (.int .i64 ky) ∧ W.cell? ⟨y, 1, none⟩ = some (.int .i64 ny) ∧ W.cell? ⟨y, 2, none⟩ = some (.string ⟨#[]⟩) ∧ Keep w B W L
theorem Keep.k2 (h : Keep w B W L) {x : Nat} {kx nx : Int} {y : Nat} {ky ny : Int} (hx : (x, kx, nx) ∈ L) (hy : (y, ky, ny) ∈ L) : K2 w B L x kx nx y ky ny W :=
  ⟨(h.at _ _ _ hx).1, (h.at _ _ _ hx).2.1, (h.at _ _ _ hx).2.2, (h.at _ _ _ hy).1, (h.at _ _ _ hy).2.1, (h.at _ _ _ hy).2.2, h⟩

abbrev K1 (w : World) (B : Nat) (L : List (Nat × Int × Int)) (x0 : Nat) (k0 n0 : Int) (W : World) : Prop := W.cell? ⟨x0, 0, none⟩ = some (.int .i64 k0) ∧ W.cell? ⟨x0, 1, none⟩ = some (.int .i64 n0) ∧ W.cell? ⟨x0, 2, none⟩ = some (.string ⟨#[]⟩) ∧ Keep w B W L
theorem Keep.k1 (h : Keep w B W L) {x0 : Nat} {k0 n0 : Int} (h0 : (x0, k0, n0) ∈ L) : K1 w B L x0 k0 n0 W :=
  ⟨(h.at _ _ _ h0).1, (h.at _ _ _ h0).2.1, (h.at _ _ _ h0).2.2, h⟩
abbrev K4 (w : World) (B : Nat) (L : List (Nat × Int × Int)) (x0 : Nat) (k0 n0 : Int) (x1 : Nat) (k1 n1 : Int) (x2 : Nat) (k2 n2 : Int) (x3 : Nat) (k3 n3 : Int) (W : World) : Prop := W.cell? ⟨x0, 0, none⟩ = some (.int .i64 k0) ∧ W.cell? ⟨x0, 1, none⟩ = some (.int .i64 n0) ∧ W.cell? ⟨x0, 2, none⟩ = some (.string ⟨#[]⟩) ∧ W.cell? ⟨x1, 0, none⟩ = some (.int .i64 k1) ∧ W.cell? ⟨x1, 1, none⟩ = some (.int .i64 n1) ∧ W.cell? ⟨x1, 2, none⟩ = some (.string ⟨#[]⟩) ∧ W.cell? ⟨x2, 0, none⟩ = some (.int .i64 k2) ∧ W.cell? ⟨x2, 1, none⟩ = some (.int .i64 n2) ∧ W.cell? ⟨x2, 2, none⟩ = some (.string ⟨#[]⟩) ∧ W.cell? ⟨x3, 0, none⟩ = some (.int .i64 k3) ∧ W.cell? ⟨x3, 1, none⟩ = some (.int .i64 n3) ∧ W.cell? ⟨x3, 2, none⟩ = some (.string ⟨#[]⟩) ∧ Keep w B W L
theorem Keep.k4 (h : Keep w B W L) {x0 : Nat} {k0 n0 : Int} {x1 : Nat} {k1 n1 : Int} {x2 : Nat} {k2 n2 : Int} {x3 : Nat} {k3 n3 : Int} (h0 : (x0, k0, n0) ∈ L) (h1 : (x1, k1, n1) ∈ L) (h2 : (x2, k2, n2) ∈ L) (h3 : (x3, k3, n3) ∈ L) : K4 w B L x0 k0 n0 x1 k1 n1 x2 k2 n2 x3 k3 n3 W :=
  ⟨(h.at _ _ _ h0).1, (h.at _ _ _ h0).2.1, (h.at _ _ _ h0).2.2, (h.at _ _ _ h1).1, (h.at _ _ _ h1).2.1, (h.at _ _ _ h1).2.2, (h.at _ _ _ h2).1, (h.at _ _ _ h2).2.1, (h.at _ _ _ h2).2.2, (h.at _ _ _ h3).1, (h.at _ _ _ h3).2.1, (h.at _ _ _ h3).2.2, h⟩
/-- At block g lies an empty place for a result, that may be written. -/
structure Zero (g : Nat) (W : World) : Prop where
  lt : g < W.heap.size
  c0 : W.cell? ⟨g, 0, none⟩ = some (.int .i64 0)
  c1 : W.cell? ⟨g, 1, none⟩ = some (.int .i64 0)
  c2 : W.cell? ⟨g, 2, none⟩ = some (.string ⟨#[]⟩)
  f0 : W.frozen? ⟨g, 0, none⟩ = false
  f1 : W.frozen? ⟨g, 1, none⟩ = false
  f2 : W.frozen? ⟨g, 2, none⟩ = false
theorem Zero.step {g : Nat} {W W' : World} (h : Zero g W) (b : Below W.heap.size W W') : Zero g W' :=
  ⟨Nat.lt_of_lt_of_le h.1 b.size, (b.cell (p := ⟨g, 0, none⟩) h.1).trans h.2, (b.cell (p := ⟨g, 1, none⟩) h.1).trans h.3, (b.cell (p := ⟨g, 2, none⟩) h.1).trans h.4,
    (b.frozen (p := ⟨g, 0, none⟩) h.1).trans h.5, (b.frozen (p := ⟨g, 1, none⟩) h.1).trans h.6, (b.frozen (p := ⟨g, 2, none⟩) h.1).trans h.7⟩
theorem Zero.drew {g : Nat} {W : World} (h : Zero g W) : Zero g W.drew := h.step (Below.refl _ _).drew
theorem zero_new (W : World) : Zero W.heap.size (W.alloc (VC 0 0)) :=
  ⟨by simp, (at_new W 0 0).1, (at_new W 0 0).2.1, (at_new W 0 0).2.2, Lib.frozen_of_heap (heap_alloc_new W _) 0, Lib.frozen_of_heap (heap_alloc_new W _) 1, Lib.frozen_of_heap (heap_alloc_new W _) 2⟩
theorem Zero.set {g : Nat} {W : World} (h : Zero g W) (k n : Int) : At (((W.setCell ⟨g, 0, none⟩ (.int .i64 k)).setCell ⟨g, 1, none⟩ (.int .i64 n)).setCell ⟨g, 2, none⟩ (.string ⟨#[]⟩)) g k n := by
  have c0 := h.c0
  have c1 := h.c1
  have c2 := h.c2
  exact ⟨by simp [go_sem, c0, c1, c2], by simp [go_sem, c0, c1, c2], by simp [go_sem, c0, c1, c2]⟩
def subR (ka na kb nb : Int) : Int × Int × Bool := addR ka na (negR kb nb).1 (negR kb nb).2

end Go.Proofs.YtdeboajjhpecbaaGreatDoor.Vx

/- Contract of the statements' own example 'fit' (numbers): it returns true. -/
set_option linter.unusedVariables false
namespace Go.Proofs.YtdeboajjhpecbaaGreatDoor.Vx
open Go.RowKit

set_option maxHeartbeats 1000000 in
theorem text_nz (w : World) : Calls Tryz.prog 52 #[VN 6 0] w (Ret (.string ⟨#[48]⟩) w) := by
  go_enter Tryz.func52, Tryz.ntmps52
  go_wp2_with fail
  refine (show Calls Tryz.prog 72 #[VN 6 0] _ fun e w' => e = .returned (.int .i64 0) ∧ Below (w.alloc (VC 6 0)).heap.size (w.alloc (VC 6 0)) w' from ?_).mono ?_
  · go_enter Tryz.func72, Tryz.ntmps72
    go_wp2
    go_ret
    exact ⟨rfl, (Below.refl _ _).alloc (Nat.le_refl _) _⟩
  rintro e w1 ⟨rfl, b1⟩
  go_wp2_with fail
  refine (Tryz.strconv_FormatInt_10_small 0 (by decide) _).mono ?_
  rintro e w2 ⟨rfl, rfl⟩
  go_wp2
  go_ret
  refine ⟨?_, ((Below.refl _ _).alloc (Nat.le_refl _) _).trans (b1.mono (by simp))⟩
  show Ending.returned (Value.string ⟨(Lib.decDigits 0).toArray⟩) = _
  rw [show Lib.decDigits 0 = [48] by rw [Lib.decDigits]; rfl]

end Go.Proofs.YtdeboajjhpecbaaGreatDoor.Vx

/- Plain laws: sums and products hang on no order; a sum less a part is the other part. -/
set_option linter.unusedVariables false
set_option linter.unusedSimpArgs false
namespace Go.Proofs.YtdeboajjhpecbaaGreatDoor.Vx
open Go.RowKit

theorem add3 (na nb : Int) : addR 3 na 3 nb = intR (na + nb) := by simp [addR]
theorem addR_comm (ka na kb nb : Int) (ha : IsNum ka na) (hb : IsNum kb nb) : addR kb nb ka na = addR ka na kb nb := by
  unfold IsNum at ha hb
  rcases ha with ⟨rfl, rfl⟩ | ⟨rfl, rfl | rfl⟩ | ⟨rfl, rfl⟩ | ⟨rfl, a⟩ <;> rcases hb with ⟨rfl, rfl⟩ | ⟨rfl, rfl | rfl⟩ | ⟨rfl, rfl⟩ | ⟨rfl, b⟩
  all_goals first
    | rfl
    | (rw [add3, add3, Int.add_comm])
theorem addR_num (ka na kb nb : Int) (ha : IsNum ka na) (hb : IsNum kb nb) (ok : (addR ka na kb nb).2.2 = true) : IsNum (addR ka na kb nb).1 (addR ka na kb nb).2.1 := by
  have HA := ha
  have HB := hb
  unfold IsNum at ha hb
  rcases ha with ⟨rfl, rfl⟩ | ⟨rfl, rfl | rfl⟩ | ⟨rfl, rfl⟩ | ⟨rfl, a⟩ <;> rcases hb with ⟨rfl, rfl⟩ | ⟨rfl, rfl | rfl⟩ | ⟨rfl, rfl⟩ | ⟨rfl, b⟩
  all_goals first
    | exact HA
    | exact HB
    | exact .inl ⟨rfl, rfl⟩
    | (rw [add3] at ok ⊢; exact IsNum.int ok)
theorem mulR_comm (ka na kb nb : Int) (ha : IsNum ka na) (hb : IsNum kb nb) : mulR kb nb ka na = mulR ka na kb nb := by
  have HA := ha
  have HB := hb
  rcases ha.kinds with ⟨rfl, rfl⟩ | ⟨rfl, rfl⟩ | ⟨rfl, rfl⟩ | ⟨rfl, rfl⟩ | ⟨rfl, rfl⟩ | ⟨rfl, a0, a1, a2, a3, a4⟩ <;> rcases hb.kinds with ⟨rfl, rfl⟩ | ⟨rfl, rfl⟩ | ⟨rfl, rfl⟩ | ⟨rfl, rfl⟩ | ⟨rfl, rfl⟩ | ⟨rfl, b0, b1, b2, b3, b4⟩
  all_goals first
    | rfl
    | (simp only [mulR, a1]
       generalize belowB 3 na = B
       cases B <;> rfl)
    | (simp only [mulR, b1]
       generalize belowB 3 nb = B
       cases B <;> rfl)
    | (rw [mul3 nb na HB HA b0 a0, mul3 na nb HA HB a0 b0, Int.mul_comm])
theorem sub_back (na nb : Int) (ha : IsNum 3 na) (hb : IsNum 3 nb) : subR 3 (na + nb) 3 nb = (3, na, true) := by
  unfold subR
  by_cases h0 : nb = 0
  · subst h0; simp [negR, addR]
  · rw [neg3 nb h0, add3, show na + nb + -nb = na by omega, intR, if_neg (by have := ha.lo; have := ha.hi; omega)]

end Go.Proofs.YtdeboajjhpecbaaGreatDoor.Vx

/- Contracts of num's whole, rank, Equal, Less and Is. -/
set_option linter.unusedVariables false
set_option linter.unusedSimpArgs false
namespace Go.Proofs.YtdeboajjhpecbaaGreatDoor.Vx
open Go.RowKit

set_option maxHeartbeats 1000000 in
theorem whole_any (k n : Int) (w : World) : Calls Tryz.prog 72 #[VN k n] w (Ret (.int .i64 n) w) := by
  go_enter Tryz.func72, Tryz.ntmps72
  go_wp2
  go_ret
  exact ⟨rfl, (Below.refl _ _).alloc (Nat.le_refl _) _⟩

theorem ret_i64 {a b : Int} (h : a = b) : Ending.returned (.int .i64 a) = .returned (.int .i64 b) := by rw [h]
theorem IsNum.zero {n : Int} (h : IsNum 3 n) : IsNum 3 0 := .inr (.inr (.inr ⟨rfl, by decide, by decide⟩))
theorem IsNum.rk {k n : Int} (h : IsNum k n) : wrap64 (n * 9007199254740992) = n * 9007199254740992 ∨ k ≠ 5 := by
  unfold IsNum at h
  rcases h with ⟨rfl, rfl⟩ | ⟨rfl, rfl | rfl⟩ | ⟨rfl, rfl⟩ | ⟨rfl, a⟩
  · right; decide
  · left; exact IntWalk.wrap64_in _ (by decide)
  · left; exact IntWalk.wrap64_in _ (by decide)
  · right; decide
  · right; decide

def eqR (ka na kb nb : Int) : Bool := !(ka == 4) && !(kb == 4) && rankR ka na == rankR kb nb
def lessR (ka na kb nb : Int) : Bool × Bool := if ka == 4 || kb == 4 then (false, false) else (decide (rankR ka na < rankR kb nb), true)

set_option maxHeartbeats 1000000 in
theorem is_any (k n : Int) (w : World) (h : IsNum k n) : Calls Tryz.prog 51 #[VN k n] w (Ret (.bool true) w) := by
  have h2 : 3 ≤ k ∧ k ≤ 6 := by unfold IsNum at h; omega
  have t1 : decide (3 ≤ k) = true := by simp; omega
  have t2 : decide (k ≤ 6) = true := by simp; omega
  clear h
  go_enter Tryz.func51, Tryz.ntmps51
  go_wp2
  go_ret
  exact ⟨rfl, (Below.refl _ _).alloc (Nat.le_refl _) _⟩

end Go.Proofs.YtdeboajjhpecbaaGreatDoor.Vx

/- Blocks of three cells of the call's own, kept through calls that make memory. -/
set_option linter.unusedVariables false
set_option linter.unusedSimpArgs false
namespace Go.Proofs.YtdeboajjhpecbaaGreatDoor.Vx
open Go.RowKit

/-- At block b lie these three cells. -/
def At3 (W : World) (b : Nat) (c0 c1 c2 : Value) : Prop :=
  W.cell? ⟨b, 0, none⟩ = some c0 ∧ W.cell? ⟨b, 1, none⟩ = some c1 ∧ W.cell? ⟨b, 2, none⟩ = some c2
/-- Below block B these values lie; nothing that was there when the call began has turned. -/
structure Kp (w : World) (B : Nat) (W : World) (L : List (Nat × Value × Value × Value)) : Prop where
  bel : Below w.heap.size w W
  lo : w.heap.size ≤ B
  hi : B ≤ W.heap.size
  mem : ∀ q, q ∈ L → q.1 < B ∧ At3 W q.1 q.2.1 q.2.2.1 q.2.2.2
variable {w W W' : World} {B : Nat} {L : List (Nat × Value × Value × Value)}
theorem Kp.stepB (h : Kp w B W L) (b : Below B W W') : Kp w B W' L :=
  ⟨h.bel.trans (b.mono h.lo), h.lo, Nat.le_trans h.hi b.size, fun q hq =>
    have hl := (h.mem q hq).1
    have ha := (h.mem q hq).2
    ⟨hl, (b.cell (p := ⟨q.1, 0, none⟩) hl).trans ha.1, (b.cell (p := ⟨q.1, 1, none⟩) hl).trans ha.2.1, (b.cell (p := ⟨q.1, 2, none⟩) hl).trans ha.2.2⟩⟩
theorem Kp.step (h : Kp w B W L) (b : Below W.heap.size W W') : Kp w B W' L := h.stepB (b.mono h.hi)
theorem Kp.below (h : Kp w B W L) : Below w.heap.size w W := h.bel
theorem Kp.alloc (h : Kp w B W L) (o : Obj) : Kp w B (W.alloc o) L := h.step ((Below.refl _ _).alloc (Nat.le_refl _) _)
theorem Kp.drew (h : Kp w B W L) : Kp w B W.drew L := h.step (Below.refl _ _).drew
theorem Kp.undrew (h : Kp w B W.drew L) : Kp w B W L := ⟨⟨h.bel.os, h.bel.tape, h.bel.output, h.bel.size, h.bel.block⟩, h.lo, h.hi, h.mem⟩
theorem Kp.set (h : Kp w B W L) (g o : Nat) (v : Value) (hg : B ≤ g) : Kp w B (W.setCell ⟨g, o, none⟩ v) L := h.stepB ((Below.refl _ _).setCell (p := ⟨g, o, none⟩) hg v)
theorem Kp.realloc {o : Obj} (h : Kp w B (W.alloc o) L) (hB : B ≤ W.heap.size) (o' : Obj) : Kp w B (W.alloc o') L :=
  have hb : Below w.heap.size w W := ⟨h.bel.os, h.bel.tape, h.bel.output, Nat.le_trans h.lo hB, fun k hk => (Below.heap_alloc W o k (Nat.lt_of_lt_of_le hk (Nat.le_trans h.lo hB))).symm.trans (h.bel.block k hk)⟩
  ⟨hb.alloc hb.size o', h.lo, by simp; omega, fun q hq =>
    have hl := (h.mem q hq).1
    have ha := (h.mem q hq).2
    have b1 : Below B W (W.alloc o) := (Below.refl _ _).alloc hB o
    have b2 : Below B W (W.alloc o') := (Below.refl _ _).alloc hB o'
    ⟨hl, ((b2.cell (p := ⟨q.1, 0, none⟩) hl).trans (b1.cell (p := ⟨q.1, 0, none⟩) hl).symm).trans ha.1, ((b2.cell (p := ⟨q.1, 1, none⟩) hl).trans (b1.cell (p := ⟨q.1, 1, none⟩) hl).symm).trans ha.2.1, ((b2.cell (p := ⟨q.1, 2, none⟩) hl).trans (b1.cell (p := ⟨q.1, 2, none⟩) hl).symm).trans ha.2.2⟩⟩
theorem Kp.more (h : Kp w B W L) (g : Nat) (c0 c1 c2 : Value) (hB : B ≤ g) (hg : g < W.heap.size) (ha : At3 W g c0 c1 c2) : Kp w (g + 1) W ((g, c0, c1, c2) :: L) :=
  ⟨h.bel, Nat.le_trans h.lo (Nat.le_succ_of_le hB), hg, fun q hq => by
    rcases List.mem_cons.1 hq with rfl | hq
    · exact ⟨Nat.lt_succ_self _, ha⟩
    · exact ⟨Nat.lt_succ_of_lt (Nat.lt_of_lt_of_le (h.mem q hq).1 hB), (h.mem q hq).2⟩⟩
theorem Kp.start (w : World) : Kp w w.heap.size w [] := ⟨Below.refl _ _, Nat.le_refl _, Nat.le_refl _, fun q hq => by cases hq⟩
theorem Kp.begin (b : Below w.heap.size w W) : Kp w w.heap.size W [] := ⟨b, Nat.le_refl _, b.size, fun q hq => by cases hq⟩
theorem Kp.at (h : Kp w B W L) (b : Nat) (c0 c1 c2 : Value) (hm : (b, c0, c1, c2) ∈ L) : At3 W b c0 c1 c2 := (h.mem _ hm).2
theorem Kp.lt (h : Kp w B W L) (b : Nat) (c0 c1 c2 : Value) (hm : (b, c0, c1, c2) ∈ L) : b < B := (h.mem _ hm).1
theorem at3_new (W : World) (c0 c1 c2 : Value) (T : TypeId) : At3 (W.alloc (.cells #[c0, c1, c2] T)) W.heap.size c0 c1 c2 :=
  ⟨by rw [Lib.cell_of_heap (heap_alloc_new W _)]; rfl, by rw [Lib.cell_of_heap (heap_alloc_new W _)]; rfl, by rw [Lib.cell_of_heap (heap_alloc_new W _)]; rfl⟩
theorem Kp.new (h : Kp w B W L) (c0 c1 c2 : Value) (T : TypeId) : Kp w (W.heap.size + 1) (W.alloc (.cells #[c0, c1, c2] T)) ((W.heap.size, c0, c1, c2) :: L) :=
  (h.alloc _).more W.heap.size c0 c1 c2 h.hi (by simp) (at3_new W c0 c1 c2 T)

theorem Kp.ins (h : Kp w B W L) (g : Nat) (c0 c1 c2 : Value) (hg : g < W.heap.size) (ha : At3 W g c0 c1 c2) : Kp w W.heap.size W ((g, c0, c1, c2) :: L) :=
  ⟨h.bel, h.bel.size, Nat.le_refl _, fun q hq => by
    rcases List.mem_cons.1 hq with rfl | hq
    · exact ⟨hg, ha⟩
    · exact ⟨Nat.lt_of_lt_of_le (h.mem q hq).1 h.hi, (h.mem q hq).2⟩⟩
abbrev Q2 (w : World) (B : Nat) (L : List (Nat × Value × Value × Value)) (x : Nat) (a0 a1 a2 : Value) (y : Nat) (c0 c1 c2 : Value) (W : World) : Prop :=
  W.cell? ⟨x, 0, none⟩ = some a0 ∧ W.cell? ⟨x, 1, none⟩ = some a1 ∧ W.cell? ⟨x, 2, none⟩ = some a2 ∧ W.cell? ⟨y, 0, none⟩ = some c0 ∧ W.cell? ⟨y, 1, none⟩ = some c1 ∧ W.cell? ⟨y, 2, none⟩ = some c2 ∧ Kp w B W L
theorem Kp.q2 (h : Kp w B W L) {x : Nat} {a0 a1 a2 : Value} {y : Nat} {c0 c1 c2 : Value} (h0 : (x, a0, a1, a2) ∈ L) (h1 : (y, c0, c1, c2) ∈ L) : Q2 w B L x a0 a1 a2 y c0 c1 c2 W :=
  ⟨(h.at _ _ _ _ h0).1, (h.at _ _ _ _ h0).2.1, (h.at _ _ _ _ h0).2.2, (h.at _ _ _ _ h1).1, (h.at _ _ _ _ h1).2.1, (h.at _ _ _ _ h1).2.2, h⟩

end Go.Proofs.YtdeboajjhpecbaaGreatDoor.Vx

/- Contracts of the reference's Of, rank, Less and Text, and of num.Text. -/
set_option linter.unusedVariables false
set_option linter.unusedSimpArgs false
namespace Go.Proofs.YtdeboajjhpecbaaGreatDoor.Vx
open Go.RowKit

/-- A number of the reference: its kind, its sign, how great it is. -/
abbrev RV (d : Int) (m : Bool) (s : Int) : Value := .agg #[.int .u8 d, .bool m, .int .i64 s]
abbrev RC (d : Int) (m : Bool) (s : Int) : Obj := .cells #[.int .u8 d, .bool m, .int .i64 s] 166
def ofR (k n : Int) : Int × Bool × Int :=
  if k == 4 then (110, false, 0) else if k == 5 then (105, decide (n < 0), 0) else if k == 6 then (119, true, 0) else if decide (n < 0) then (119, true, -n) else (119, false, n)
abbrev OV (k n : Int) : Value := RV (ofR k n).1 (ofR k n).2.1 (ofR k n).2.2
abbrev OC (k n : Int) : Obj := RC (ofR k n).1 (ofR k n).2.1 (ofR k n).2.2

set_option maxHeartbeats 2000000 in
theorem ofR_any (k n : Int) (w : World) (h1 : -9007199254740991 ≤ n) (h2 : n ≤ 9007199254740991) : Calls Tryz.prog 78 #[VN k n] w fun e w' => e = .returned (OV k n) ∧ w' = (w.alloc (VC k n)).alloc (OC k n) := by
  go_enter Tryz.func78, Tryz.ntmps78
  go_wp2_with fail
  · have e : ofR k n = (110, false, 0) := by simp [ofR, *]
    exact bodyPost_ret (v := RV 110 false 0) (by simp [results, Tryz.results78, go_sem]) rfl ⟨by show _ = Ending.returned (RV (ofR k n).1 (ofR k n).2.1 (ofR k n).2.2); rw [e], by show _ = (w.alloc (VC k n)).alloc (RC (ofR k n).1 (ofR k n).2.1 (ofR k n).2.2); rw [e]⟩
  · have e : ofR k n = (105, decide (n < 0), 0) := by simp [ofR, *]
    exact bodyPost_ret (v := RV 105 (decide (n < 0)) 0) (by simp [results, Tryz.results78, go_sem]) rfl ⟨by show _ = Ending.returned (RV (ofR k n).1 (ofR k n).2.1 (ofR k n).2.2); rw [e], by show _ = (w.alloc (VC k n)).alloc (RC (ofR k n).1 (ofR k n).2.1 (ofR k n).2.2); rw [e]⟩
  · have e : ofR k n = (119, true, 0) := by simp [ofR, *]
    exact bodyPost_ret (v := RV 119 true 0) (by simp [results, Tryz.results78, go_sem]) rfl ⟨by show _ = Ending.returned (RV (ofR k n).1 (ofR k n).2.1 (ofR k n).2.2); rw [e], by show _ = (w.alloc (VC k n)).alloc (RC (ofR k n).1 (ofR k n).2.1 (ofR k n).2.2); rw [e]⟩
  · have e : ofR k n = (119, true, -n) := by simp [ofR, *]
    exact bodyPost_ret (v := RV 119 true (-n)) (by simp [results, Tryz.results78, go_sem]) rfl ⟨by show _ = Ending.returned (RV (ofR k n).1 (ofR k n).2.1 (ofR k n).2.2); rw [e], by show _ = (w.alloc (VC k n)).alloc (RC (ofR k n).1 (ofR k n).2.1 (ofR k n).2.2); rw [e]⟩
  · have e : ofR k n = (119, false, n) := by simp [ofR, *]
    exact bodyPost_ret (v := RV 119 false n) (by simp [results, Tryz.results78, go_sem]) rfl ⟨by show _ = Ending.returned (RV (ofR k n).1 (ofR k n).2.1 (ofR k n).2.2); rw [e], by show _ = (w.alloc (VC k n)).alloc (RC (ofR k n).1 (ofR k n).2.1 (ofR k n).2.2); rw [e]⟩

def rrX (d s : Int) : Int := if d == 105 then 9007199254740992 else s
def rrR (d : Int) (m : Bool) (s : Int) : Int := if m = true then -(rrX d s) else rrX d s

def cmpR (na nb : Bool) (r1 r2 : Int) : Int := if na || nb then 2 else if r1 < r2 then -1 else if r2 < r1 then 1 else 0

end Go.Proofs.YtdeboajjhpecbaaGreatDoor.Vx

/- Contracts of num.Text and of the reference's Text. -/
set_option linter.unusedVariables false
set_option linter.unusedSimpArgs false
namespace Go.Proofs.YtdeboajjhpecbaaGreatDoor.Vx
open Go.RowKit

theorem empty_app (X : ByteArray) : (⟨#[]⟩ : ByteArray) ++ X = X := by
  apply ByteArray.ext
  rw [ByteArray.data_append]
  simp
def textS (k n : Int) : ByteArray := if k == 4 then ⟨#[78, 97, 78]⟩ else if k == 5 then (if decide (0 < n) = true then ⟨#[73, 110, 102, 105, 110, 105, 116, 121]⟩ else ⟨#[45, 73, 110, 102, 105, 110, 105, 116, 121]⟩) else ⟨(Lib.itoa n).toArray⟩
theorem formatInt_b (n : Int) (w : World) (h1 : -9007199254740991 ≤ n) (h2 : n ≤ 9007199254740991) (ht : Lib.TabIs Tryz.prog w "internal/strconv.uint64pow10" .u64 Lib.pow10Tab) :
    Calls Tryz.prog 71 #[.int .i64 n, .int .i64 10] w fun e w' => e = .returned (.string ⟨(Lib.itoa n).toArray⟩) ∧ Below w.heap.size w w' := by
  refine (Tryz.strconv_FormatInt_10 n (by omega) (by omega) w ht).mono ?_
  rintro e w' ⟨rfl, k, os, rfl⟩
  exact ⟨rfl, Lib.below_grow _ w (Nat.le_refl _) k os⟩
theorem itoa_b (n : Int) (w : World) (h1 : -9007199254740991 ≤ n) (h2 : n ≤ 9007199254740991) (ht : Lib.TabIs Tryz.prog w "internal/strconv.uint64pow10" .u64 Lib.pow10Tab) :
    Calls Tryz.prog 86 #[.int .i64 n] w fun e w' => e = .returned (.string ⟨(Lib.itoa n).toArray⟩) ∧ Below w.heap.size w w' := by
  refine (Tryz.strconv_Itoa n (by omega) (by omega) w ht).mono ?_
  rintro e w' ⟨rfl, k, os, rfl⟩
  exact ⟨rfl, Lib.below_grow _ w (Nat.le_refl _) k os⟩

set_option maxHeartbeats 2000000 in
theorem textN_any (k n : Int) (w : World) (h1 : -9007199254740991 ≤ n) (h2 : n ≤ 9007199254740991) (hT : ∀ W, Below w.heap.size w W → Lib.TabIs Tryz.prog W "internal/strconv.uint64pow10" .u64 Lib.pow10Tab) : Calls Tryz.prog 52 #[VN k n] w (Ret (.string (textS k n)) w) := by
  have HT := Lib.hid hT
  clear hT
  cases q1 : (k == 4) with
  | true =>
    have e : textS k n = ⟨#[78, 97, 78]⟩ := by simp [textS, q1]
    rw [e]
    clear e
    go_enter Tryz.func52, Tryz.ntmps52
    go_wp2
    go_ret
    exact ⟨rfl, (Below.refl _ _).alloc (Nat.le_refl _) _⟩
  | false =>
    cases q2 : (k == 5) with
    | true =>
      cases q3 : decide (0 < n) with
      | true =>
        have e : textS k n = ⟨#[73, 110, 102, 105, 110, 105, 116, 121]⟩ := by simp only [textS, q1, q2, q3]; rfl
        rw [e]
        clear e
        go_enter Tryz.func52, Tryz.ntmps52
        go_wp2
        go_ret
        exact ⟨rfl, (Below.refl _ _).alloc (Nat.le_refl _) _⟩
      | false =>
        have e : textS k n = ⟨#[45, 73, 110, 102, 105, 110, 105, 116, 121]⟩ := by simp only [textS, q1, q2, q3]; rfl
        rw [e]
        clear e
        go_enter Tryz.func52, Tryz.ntmps52
        go_wp2
        go_ret
        exact ⟨rfl, (Below.refl _ _).alloc (Nat.le_refl _) _⟩
    | false =>
      have e : textS k n = ⟨(Lib.itoa n).toArray⟩ := by simp [textS, q1, q2]
      rw [e]
      clear e
      go_enter Tryz.func52, Tryz.ntmps52
      go_wp2_with fail
      refine (whole_any k n _).mono ?_
      rintro e w1 ⟨rfl, b1⟩
      have bb := ((Below.refl w.heap.size w).alloc (Nat.le_refl _) _).trans (b1.mono (by simp))
      go_wp2_with fail
      refine (formatInt_b n _ h1 h2 (HT.out _ bb)).mono ?_
      rintro e w2 ⟨rfl, b2⟩
      go_wp2
      go_ret
      exact ⟨rfl, bb.trans (b2.mono bb.size)⟩

set_option maxHeartbeats 2000000 in
theorem refText_nan (w : World) : Calls Tryz.prog 77 #[RV 110 false 0] w (Ret (.string ⟨#[78, 97, 78]⟩) w) := by
  go_enter Tryz.func77, Tryz.ntmps77
  go_wp2
  go_ret
  exact ⟨rfl, (Below.refl _ _).alloc (Nat.le_refl _) _⟩
set_option maxHeartbeats 2000000 in
theorem refText_inf (m : Bool) (w : World) : Calls Tryz.prog 77 #[RV 105 m 0] w (Ret (.string (if m = true then ⟨#[45, 73, 110, 102, 105, 110, 105, 116, 121]⟩ else ⟨#[73, 110, 102, 105, 110, 105, 116, 121]⟩)) w) := by
  cases m
  all_goals
    go_enter Tryz.func77, Tryz.ntmps77
    go_wp2
    go_ret
    exact ⟨rfl, (Below.refl _ _).alloc (Nat.le_refl _) _⟩
set_option maxHeartbeats 2000000 in
theorem refText_pos (m : Bool) (s : Int) (w : World) (h : (m && !(s == 0)) = false) (h1 : 0 ≤ s) (h2 : s ≤ 9007199254740991) (hT : ∀ W, Below w.heap.size w W → Lib.TabIs Tryz.prog W "internal/strconv.uint64pow10" .u64 Lib.pow10Tab) :
    Calls Tryz.prog 77 #[RV 119 m s] w (Ret (.string ⟨(Lib.itoa s).toArray⟩) w) := by
  have HT := Lib.hid hT
  clear hT
  have hlen := Lib.itoa_length_le s (by omega) (by omega)
  obtain ⟨X, hX⟩ : ∃ X : ByteArray, (⟨(Lib.itoa s).toArray⟩ : ByteArray) = X := ⟨_, rfl⟩
  have hs : X.size ≤ 21 := by rw [← hX]; show (Lib.itoa s).toArray.size ≤ 21; simpa using hlen
  clear hlen
  have c := fun W ht => itoa_b s W (by omega) (by omega) ht
  rw [hX] at c ⊢
  have C := Lib.hid c
  clear c hX
  have t : m = false ∨ (m = true ∧ (s != 0) = false) := by cases m <;> simp_all
  clear h
  rcases t with rfl | ⟨rfl, t⟩
  all_goals
    go_enter Tryz.func77, Tryz.ntmps77
    go_wp2_with fail
    refine (C.out _ (HT.out _ ((Below.refl _ _).alloc (Nat.le_refl _) _))).mono ?_
    rintro e w2 ⟨rfl, b2⟩
    go_wp2
    go_ret
    refine ⟨?_, ((Below.refl _ _).alloc (Nat.le_refl _) _).trans (b2.mono (by simp))⟩
    simp
    exact empty_app X
set_option maxHeartbeats 2000000 in
theorem refText_neg (s : Int) (w : World) (h : (s != 0) = true) (h1 : 0 ≤ s) (h2 : s ≤ 9007199254740991) (hT : ∀ W, Below w.heap.size w W → Lib.TabIs Tryz.prog W "internal/strconv.uint64pow10" .u64 Lib.pow10Tab) :
    Calls Tryz.prog 77 #[RV 119 true s] w (Ret (.string (⟨#[45]⟩ ++ ⟨(Lib.itoa s).toArray⟩)) w) := by
  have HT := Lib.hid hT
  clear hT
  have hlen := Lib.itoa_length_le s (by omega) (by omega)
  obtain ⟨X, hX⟩ : ∃ X : ByteArray, (⟨(Lib.itoa s).toArray⟩ : ByteArray) = X := ⟨_, rfl⟩
  have hs : X.size ≤ 21 := by rw [← hX]; show (Lib.itoa s).toArray.size ≤ 21; simpa using hlen
  clear hlen
  have c := fun W ht => itoa_b s W (by omega) (by omega) ht
  rw [hX] at c ⊢
  have C := Lib.hid c
  clear c hX
  go_enter Tryz.func77, Tryz.ntmps77
  go_wp2_with fail
  refine (C.out _ (HT.out _ ((Below.refl _ _).alloc (Nat.le_refl _) _))).mono ?_
  rintro e w2 ⟨rfl, b2⟩
  go_wp2
  go_ret
  exact ⟨rfl, ((Below.refl _ _).alloc (Nat.le_refl _) _).trans (b2.mono (by simp))⟩

theorem neg_str (s : Int) (h : 1 ≤ s) : (⟨#[45]⟩ : ByteArray) ++ ⟨(Lib.itoa s).toArray⟩ = ⟨(Lib.itoa (-s)).toArray⟩ := by
  obtain ⟨u, rfl⟩ := Int.eq_ofNat_of_zero_le (show 0 ≤ s by omega)
  rw [Lib.itoa_nonneg u, Lib.itoa_neg u (by omega)]
  apply ByteArray.ext
  apply Array.toList_inj.1
  rw [ByteArray.data_append]
  simp
/-- Of one number both tell the same text. -/
theorem refText_of (k n : Int) (w : World) (h : IsNum k n) (hT : ∀ W, Below w.heap.size w W → Lib.TabIs Tryz.prog W "internal/strconv.uint64pow10" .u64 Lib.pow10Tab) : Calls Tryz.prog 77 #[OV k n] w (Ret (.string (textS k n)) w) := by
  have hh := h
  unfold IsNum at hh
  rcases hh with ⟨rfl, rfl⟩ | ⟨rfl, rfl | rfl⟩ | ⟨rfl, rfl⟩ | ⟨rfl, h1, h2⟩
  · exact refText_nan w
  · exact refText_inf false w
  · exact refText_inf true w
  · exact refText_pos true 0 w rfl (by decide) (by decide) hT
  · by_cases hn : n < 0
    · have e : ofR 3 n = (119, true, -n) := by simp [ofR, hn]
      have e2 : textS 3 n = ⟨#[45]⟩ ++ ⟨(Lib.itoa (-n)).toArray⟩ := by rw [neg_str _ (by omega), Int.neg_neg]; rfl
      show Calls _ _ #[RV (ofR 3 n).1 (ofR 3 n).2.1 (ofR 3 n).2.2] _ _
      rw [e, e2]
      exact refText_neg (-n) w (by simp; omega) (by omega) (by omega) hT
    · have e : ofR 3 n = (119, false, n) := by simp [ofR, hn]
      show Calls _ _ #[RV (ofR 3 n).1 (ofR 3 n).2.1 (ofR 3 n).2.2] _ _
      rw [e]
      exact refText_pos false n w rfl (by omega) (by omega) hT

end Go.Proofs.YtdeboajjhpecbaaGreatDoor.Vx

/- Num3: contracts and plain laws, several texts in one. -/
/- Contracts of the reference's Val, sum, product, quotient, Do and Rem, by the kinds of numbers. -/
set_option linter.unusedVariables false
set_option linter.unusedSimpArgs false
namespace Go.Proofs.YtdeboajjhpecbaaGreatDoor.Vx
open Go.RowKit

abbrev RT (d : Int) (m : Bool) (s : Int) (ok : Bool) : Value := .tuple #[RV d m s, .bool ok]
def valR (d : Int) (m : Bool) (s : Int) : Int × Int := if d == 110 then (4, 0) else if d == 105 then (5, if m = true then -1 else 1) else if s == 0 && m then (6, 0) else (3, if m = true then -s else s)
abbrev VV (d : Int) (m : Bool) (s : Int) : Value := VN (valR d m s).1 (valR d m s).2

end Go.Proofs.YtdeboajjhpecbaaGreatDoor.Vx

/- Contracts of the reference's product, quotient and Rem. -/
set_option linter.unusedVariables false
set_option linter.unusedSimpArgs false
namespace Go.Proofs.YtdeboajjhpecbaaGreatDoor.Vx
open Go.RowKit

end Go.Proofs.YtdeboajjhpecbaaGreatDoor.Vx

/- Contracts of the reference's product of whole numbers. -/
set_option linter.unusedVariables false
set_option linter.unusedSimpArgs false
namespace Go.Proofs.YtdeboajjhpecbaaGreatDoor.Vx
open Go.RowKit

end Go.Proofs.YtdeboajjhpecbaaGreatDoor.Vx

/- Contracts of the reference's quotient and Rem of whole numbers, and of Do. -/
set_option linter.unusedVariables false
set_option linter.unusedSimpArgs false
namespace Go.Proofs.YtdeboajjhpecbaaGreatDoor.Vx
open Go.RowKit

end Go.Proofs.YtdeboajjhpecbaaGreatDoor.Vx

/- What the reference's sum, product, quotient and Rem answer for any numbers, held against num's Add, Mul, Div and Rem. -/
set_option linter.unusedVariables false
set_option linter.unusedSimpArgs false
namespace Go.Proofs.YtdeboajjhpecbaaGreatDoor.Vx
open Go.RowKit

/-- A number of the reference that is not NaN. -/
def Form (d : Int) (s : Int) : Prop := (d = 105 ∧ s = 0) ∨ (d = 119 ∧ 0 ≤ s ∧ s ≤ 9007199254740991)
theorem IsNum.forms {k n : Int} (h : IsNum k n) : (k = 4 ∧ n = 0 ∧ ofR k n = (110, false, 0)) ∨ ∃ d m s, Form d s ∧ valR d m s = (k, n) ∧ ofR k n = (d, m, s) := by
  unfold IsNum at h
  rcases h with ⟨rfl, rfl⟩ | ⟨rfl, rfl | rfl⟩ | ⟨rfl, rfl⟩ | ⟨rfl, h1, h2⟩
  · exact .inl ⟨rfl, rfl, rfl⟩
  · exact .inr ⟨105, false, 0, .inl ⟨rfl, rfl⟩, rfl, rfl⟩
  · exact .inr ⟨105, true, 0, .inl ⟨rfl, rfl⟩, rfl, rfl⟩
  · exact .inr ⟨119, true, 0, .inr ⟨rfl, by decide, by decide⟩, rfl, rfl⟩
  · by_cases hn : n < 0
    · refine .inr ⟨119, true, -n, .inr ⟨rfl, by omega, by omega⟩, ?_, by simp [ofR, hn]⟩
      have : ¬ (-n) = 0 := by omega
      simp [valR, this]
    · exact .inr ⟨119, false, n, .inr ⟨rfl, by omega, by omega⟩, by simp [valR], by simp [ofR, hn]⟩

theorem val_inf (m : Bool) : valR 105 m 0 = (5, if m = true then -1 else 1) := by simp [valR]
theorem val_pos (s : Int) : valR 119 false s = (3, s) := by simp [valR]
theorem val_neg (s : Int) (h : s ≠ 0) : valR 119 true s = (3, -s) := by simp [valR, h]
theorem val_nz : valR 119 true 0 = (6, 0) := rfl
theorem neg_val (d : Int) (m : Bool) (s : Int) (h : Form d s) : negR (valR d m s).1 (valR d m s).2 = valR d (!m) s := by
  rcases h with ⟨rfl, rfl⟩ | ⟨rfl, h1, h2⟩
  · cases m <;> rfl
  · by_cases h0 : s = 0
    · subst h0; cases m <;> rfl
    · cases m
      · rw [val_pos, Bool.not_false, val_neg s h0, neg3 s h0]
      · rw [val_neg s h0, Bool.not_true, val_pos, neg3 (-s) (by omega), Int.neg_neg]

/-- What a call of the reference answers, held against what package num computes. -/
def Agrees (r : Int × Int × Bool) (C : Value → Prop) : Prop :=
  ∃ d m s ok, C (RT d m s ok) ∧ r = (if ok = true then ((valR d m s).1, (valR d m s).2, true) else (0, 0, false)) ∧ (ok = true → 0 ≤ s ∧ s ≤ 9007199254740992)
theorem intR_in (n : Int) (h1 : -9007199254740991 ≤ n) (h2 : n ≤ 9007199254740991) : intR n = (3, n, true) := by rw [intR, if_neg (by omega)]
theorem intR_out (n : Int) (h : 9007199254740991 < n ∨ n < -9007199254740991) : intR n = (0, 0, false) := by rw [intR, if_pos h]

theorem sign_pos (s : Int) (h : 1 ≤ s) : belowB 3 s = false ∧ noneB 3 s = false := by
  constructor
  · simp [belowB]; omega
  · simp [noneB]; omega
theorem sign_neg (s : Int) (h : 1 ≤ s) : belowB 3 (-s) = true ∧ noneB 3 (-s) = false := by
  constructor
  · simp [belowB]; omega
  · simp [noneB]; omega

end Go.Proofs.YtdeboajjhpecbaaGreatDoor.Vx

/- What the reference's quotient and Rem answer for any numbers, held against num's Div and Rem. -/
set_option linter.unusedVariables false
set_option linter.unusedSimpArgs false
namespace Go.Proofs.YtdeboajjhpecbaaGreatDoor.Vx
open Go.RowKit

theorem quo_facts (sa sb : Int) (h1 : 0 ≤ sa) (h3 : 1 ≤ sb) : 0 ≤ sa / sb ∧ sa / sb ≤ sa ∧ 0 ≤ sa / sb * sb ∧ sa / sb * sb ≤ sa ∧ sb * (sa / sb) + sa % sb = sa ∧ 0 ≤ sa % sb ∧ sa % sb < sb := by
  have e := Int.mul_ediv_add_emod sa sb
  have m0 := Int.emod_nonneg sa (show sb ≠ 0 by omega)
  have m1 := Int.emod_lt_of_pos sa (show 0 < sb by omega)
  have d0 := Int.ediv_nonneg h1 (show 0 ≤ sb by omega)
  have d1 := Int.ediv_le_self sb h1
  have p := Int.mul_nonneg (show 0 ≤ sb by omega) d0
  have c := Int.mul_comm sb (sa / sb)
  refine ⟨d0, d1, by omega, by omega, e, m0, m1⟩

end Go.Proofs.YtdeboajjhpecbaaGreatDoor.Vx

/- The statement NumDoes, from its walk and plain laws. -/
set_option linter.unusedVariables false
set_option linter.unusedSimpArgs false
namespace Go.Proofs.YtdeboajjhpecbaaGreatDoor.Vx
open Go.RowKit

theorem ofR_fac {k n : Int} (h : IsNum k n) : ((ofR k n).1 == 110) = (k == 4) := by
  rcases h.forms with ⟨rfl, rfl, e⟩ | ⟨d, m, s, F, v, e⟩
  · rfl
  · rw [e]
    rcases F with ⟨rfl, rfl⟩ | ⟨rfl, _, _⟩
    · have : k = 5 := by have := congrArg (·.1) v; simpa [valR] using this.symm
      subst this; rfl
    · have : k = 6 ∨ k = 3 := by
        have h1 := congrArg (·.1) v
        simp only [valR] at h1
        by_cases hc : (s == 0 && m) = true
        · left; simpa [hc] using h1.symm
        · right; simpa [hc] using h1.symm
      rcases this with rfl | rfl <;> rfl
theorem form_ne {d s : Int} (h : Form d s) : (d == 110) = false := by rcases h with ⟨rfl, _⟩ | ⟨rfl, _⟩ <;> rfl

end Go.Proofs.YtdeboajjhpecbaaGreatDoor.Vx
