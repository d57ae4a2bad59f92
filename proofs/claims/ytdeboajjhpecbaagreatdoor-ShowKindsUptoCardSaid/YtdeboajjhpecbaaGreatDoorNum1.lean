/- Num1: contracts and plain laws, several texts in one. -/
import Derived.Test.YtdeboajjhpecbaaGreatDoorProg
import Derived.WalkKit
import Derived.WalkSpells
import Derived.WalkLawsBesides
import Derived.WalkSmall
import Derived.Lib.Hide
import Derived.BigCall
import Derived.Deep.RegionHeld3
import Derived.BigQuiet
import Derived.Deep.QuietTactic
set_option linter.unusedSimpArgs false
/- Contracts of package num's small functions: numbers as values. -/
set_option linter.unusedVariables false
namespace Go.Proofs.YtdeboajjhpecbaaGreatDoor.Vx
open Go.RowKit

/-- A value of kind k and number n, without units. -/
abbrev VN (k n : Int) : Value := .agg #[.int .i64 k, .int .i64 n, .string ⟨#[]⟩]

theorem bcell {W w1 : World} (hb : Below W.heap.size W w1) : (∀ b o, b < W.heap.size → w1.cell? ⟨b, o, none⟩ = W.cell? ⟨b, o, none⟩) ∧ (∀ b o, b < W.heap.size → w1.frozen? ⟨b, o, none⟩ = W.frozen? ⟨b, o, none⟩) :=
  ⟨fun b o h => hb.cell (p := ⟨b, o, none⟩) h, fun b o h => hb.frozen (p := ⟨b, o, none⟩) h⟩

end Go.Proofs.YtdeboajjhpecbaaGreatDoor.Vx

/- Contracts of package num's helpers: what they return, and the one block that each lays. -/
set_option linter.unusedVariables false
namespace Go.Proofs.YtdeboajjhpecbaaGreatDoor.Vx
open Go.RowKit

def belowB (k n : Int) : Bool := k == 6 || decide (n < 0)
def noneB (k n : Int) : Bool := k == 6 || (k == 3 && n == 0)
def rankR (k n : Int) : Int := if k == 5 then n * 9007199254740992 else n
abbrev VC (k n : Int) : Obj := .cells #[.int .i64 k, .int .i64 n, .string ⟨#[]⟩] 30

end Go.Proofs.YtdeboajjhpecbaaGreatDoor.Vx

/- Contracts of num.Neg, Add, Sub, Mul, Div, Rem, Less, Equal and Is: what they return for any numbers. -/
set_option linter.unusedVariables false
set_option linter.unusedSimpArgs false
namespace Go.Proofs.YtdeboajjhpecbaaGreatDoor.Vx
open Go.RowKit

def intR (n : Int) : Int × Int × Bool := if 9007199254740991 < n ∨ n < -9007199254740991 then (0, 0, false) else (3, n, true)
def negR (k n : Int) : Int × Int := if k == 4 then (k, n) else if k == 5 then (5, if 0 < n then -1 else 1) else if k == 6 then (3, 0) else if k == 3 && n == 0 then (6, 0) else (3, -n)
def addR (ka na kb nb : Int) : Int × Int × Bool :=
  if ka == 4 || kb == 4 || (ka == 5 && kb == 5 && na != nb) then (4, 0, true)
  else if ka == 5 then (ka, na, true) else if kb == 5 then (kb, nb, true) else if ka == 6 then (kb, nb, true) else if kb == 6 then (ka, na, true) else intR (na + nb)

/-- One value comes back; nothing that was there has turned. -/
def Ret (v : Value) (w : World) (e : Ending) (w' : World) : Prop := e = .returned v ∧ Below w.heap.size w w'
/-- A value and whether it is there. -/
abbrev V2 (r : Int × Int × Bool) : Value := .tuple #[VN r.1 r.2.1, .bool r.2.2]
abbrev V1 (r : Int × Int) : Value := VN r.1 r.2

end Go.Proofs.YtdeboajjhpecbaaGreatDoor.Vx

/- Two boxed values and a place for a result, through a drawn region. -/
set_option linter.unusedVariables false
namespace Go.Proofs.YtdeboajjhpecbaaGreatDoor.Vx
open Go.RowKit


/-- Two boxed values and a place for a result, laid behind what was there. -/
def Bx (w W : World) (ka na kb nb : Int) : Prop :=
  W.heap[w.heap.size]? = some (VC ka na) ∧ W.heap[w.heap.size + 1]? = some (VC kb nb) ∧ W.heap[w.heap.size + 1 + 1]? = some (VC 0 0) ∧ Below w.heap.size w W ∧ w.heap.size + 3 ≤ W.heap.size
theorem Bx.step {w W W' : World} {ka na kb nb : Int} (h : Bx w W ka na kb nb) (b : Below W.heap.size W W') : Bx w W' ka na kb nb := by
  obtain ⟨h1, h2, h3, h4, h5⟩ := h
  exact ⟨(b.block _ (by omega)).trans h1, (b.block _ (by omega)).trans h2, (b.block _ (by omega)).trans h3, h4.trans (b.mono (by omega)), Nat.le_trans h5 b.size⟩
theorem cells_of {W : World} {b : Nat} {k n : Int} (h : W.heap[b]? = some (VC k n)) : W.cell? ⟨b, 0, none⟩ = some (.int .i64 k) ∧ W.cell? ⟨b, 1, none⟩ = some (.int .i64 n) ∧ W.cell? ⟨b, 2, none⟩ = some (.string ⟨#[]⟩) :=
  ⟨by rw [Lib.cell_of_heap h]; rfl, by rw [Lib.cell_of_heap h]; rfl, by rw [Lib.cell_of_heap h]; rfl⟩
theorem bx_start (w : World) (ka na kb nb : Int) : Bx w (((w.alloc (VC ka na)).alloc (VC kb nb)).alloc (VC 0 0)) ka na kb nb := by
  have h1 := heap_alloc_new w (VC ka na)
  have h2 := heap_alloc_new (w.alloc (VC ka na)) (VC kb nb)
  have h3 := heap_alloc_new ((w.alloc (VC ka na)).alloc (VC kb nb)) (VC 0 0)
  rw [World.size_alloc] at h2
  rw [World.size_alloc, World.size_alloc] at h3
  refine ⟨(Lib.alloc_old _ _ _ (by simp; omega)).trans ((Lib.alloc_old _ _ _ (by simp)).trans h1), (Lib.alloc_old _ _ _ (by simp)).trans h2, h3, (((Below.refl _ _).alloc (Nat.le_refl _) _).alloc (by simp) _).alloc (by simp; omega) _, by simp⟩
/-- What a walk is told of the two boxes. -/
def Sx (w W : World) (ka na kb nb : Int) : Prop :=
  W.cell? ⟨w.heap.size, 0, none⟩ = some (.int .i64 ka) ∧ W.cell? ⟨w.heap.size, 1, none⟩ = some (.int .i64 na) ∧ W.cell? ⟨w.heap.size, 2, none⟩ = some (.string ⟨#[]⟩) ∧
  W.cell? ⟨w.heap.size + 1, 0, none⟩ = some (.int .i64 kb) ∧ W.cell? ⟨w.heap.size + 1, 1, none⟩ = some (.int .i64 nb) ∧ W.cell? ⟨w.heap.size + 1, 2, none⟩ = some (.string ⟨#[]⟩) ∧ Bx w W ka na kb nb
theorem Bx.sx {w W : World} {ka na kb nb : Int} (h : Bx w W ka na kb nb) : Sx w W ka na kb nb :=
  ⟨(cells_of h.1).1, (cells_of h.1).2.1, (cells_of h.1).2.2, (cells_of h.2.1).1, (cells_of h.2.1).2.1, (cells_of h.2.1).2.2, h⟩
theorem Sx.step {w W W' : World} {ka na kb nb : Int} (h : Sx w W ka na kb nb) (b : Below W.heap.size W W') : Sx w W' ka na kb nb := (h.2.2.2.2.2.2.step b).sx
theorem Sx.drew {w W : World} {ka na kb nb : Int} (h : Sx w W ka na kb nb) : Sx w W.drew ka na kb nb := h.step (Below.refl _ _).drew
/-- All that a walk wants of the three blocks. -/
theorem Bx.facts {w W : World} {ka na kb nb : Int} (h : Bx w W ka na kb nb) :
    W.cell? ⟨w.heap.size, 0, none⟩ = some (.int .i64 ka) ∧ W.cell? ⟨w.heap.size, 1, none⟩ = some (.int .i64 na) ∧ W.cell? ⟨w.heap.size, 2, none⟩ = some (.string ⟨#[]⟩) ∧
    W.cell? ⟨w.heap.size + 1, 0, none⟩ = some (.int .i64 kb) ∧ W.cell? ⟨w.heap.size + 1, 1, none⟩ = some (.int .i64 nb) ∧ W.cell? ⟨w.heap.size + 1, 2, none⟩ = some (.string ⟨#[]⟩) ∧
    W.cell? ⟨w.heap.size + 1 + 1, 0, none⟩ = some (.int .i64 0) ∧ W.cell? ⟨w.heap.size + 1 + 1, 1, none⟩ = some (.int .i64 0) ∧ W.cell? ⟨w.heap.size + 1 + 1, 2, none⟩ = some (.string ⟨#[]⟩) ∧
    W.frozen? ⟨w.heap.size + 1 + 1, 0, none⟩ = false ∧ W.frozen? ⟨w.heap.size + 1 + 1, 1, none⟩ = false ∧ W.frozen? ⟨w.heap.size + 1 + 1, 2, none⟩ = false ∧ Below w.heap.size w W :=
  ⟨(cells_of h.1).1, (cells_of h.1).2.1, (cells_of h.1).2.2, (cells_of h.2.1).1, (cells_of h.2.1).2.1, (cells_of h.2.1).2.2, (cells_of h.2.2.1).1, (cells_of h.2.2.1).2.1, (cells_of h.2.2.1).2.2,
    Lib.frozen_of_heap h.2.2.1 0, Lib.frozen_of_heap h.2.2.1 1, Lib.frozen_of_heap h.2.2.1 2, h.2.2.2.1⟩
theorem wrapW (n : Int) : IntKind.i64.wrap n = wrap64 n := by rw [IntKind.wrap_i64, wrap64]
def sgI (b : Bool) : Int := if b = true then -1 else 1
def zkI (b : Bool) : Int := if b = true then 6 else 3
end Go.Proofs.YtdeboajjhpecbaaGreatDoor.Vx

/- Contracts of num.Mul, Div and Rem: what they return for any numbers. -/
set_option linter.unusedVariables false
set_option linter.unusedSimpArgs false
namespace Go.Proofs.YtdeboajjhpecbaaGreatDoor.Vx
open Go.RowKit

def mulI (na nb : Int) : Int × Int × Bool := if wrap64 ((wrap64 (na * nb)).tdiv nb) != na then (0, 0, false) else intR (wrap64 (na * nb))
def mulR (ka na kb nb : Int) : Int × Int × Bool :=
  if ka == 4 || kb == 4 || (ka == 5 && noneB kb nb) || (kb == 5 && noneB ka na) then (4, 0, true)
  else if ka == 5 || kb == 5 then (5, sgI (!(belowB ka na == belowB kb nb)), true)
  else if noneB ka na || noneB kb nb then (zkI (!(belowB ka na == belowB kb nb)), 0, true) else mulI na nb
def divR (ka na kb nb : Int) : Int × Int × Bool :=
  if ka == 4 || kb == 4 || (ka == 5 && kb == 5) || (noneB ka na && noneB kb nb) then (4, 0, true)
  else if ka == 5 || noneB kb nb then (5, sgI (!(belowB ka na == belowB kb nb)), true)
  else if kb == 5 || noneB ka na then (zkI (!(belowB ka na == belowB kb nb)), 0, true)
  else if na.tmod nb != 0 then (0, 0, false) else intR (wrap64 (na.tdiv nb))
def remR (ka na kb nb : Int) : Int × Int :=
  if ka == 4 || kb == 4 || ka == 5 || noneB kb nb then (4, 0)
  else if kb == 5 || noneB ka na then (ka, na)
  else if na.tmod nb == 0 then (zkI (decide (na < 0)), 0) else (3, na.tmod nb)

end Go.Proofs.YtdeboajjhpecbaaGreatDoor.Vx

/- Plain laws of the numbers' arithmetic: what Mul and Div compute on whole numbers, and the sign rules. -/
set_option linter.unusedVariables false
set_option linter.unusedSimpArgs false
namespace Go.Proofs.YtdeboajjhpecbaaGreatDoor.Vx
open Go.RowKit

/-- A number of package num: NaN, infinite, -0 or whole. -/
def IsNum (k n : Int) : Prop := (k = 4 ∧ n = 0) ∨ (k = 5 ∧ (n = 1 ∨ n = -1)) ∨ (k = 6 ∧ n = 0) ∨ (k = 3 ∧ -9007199254740991 ≤ n ∧ n ≤ 9007199254740991)
theorem IsNum.lo {k n : Int} (h : IsNum k n) : -9007199254740991 ≤ n := by unfold IsNum at h; omega
theorem IsNum.hi {k n : Int} (h : IsNum k n) : n ≤ 9007199254740991 := by unfold IsNum at h; omega
theorem IsNum.nz {k n : Int} (h : IsNum k n) (h4 : (k == 4) = false) (h0 : noneB k n = false) : n ≠ 0 := by
  unfold IsNum at h
  simp [noneB] at h0 h4
  rcases h with h | h | h | h
  · omega
  · omega
  · omega
  · exact h0.2 h.1

theorem wrap64_mul (e : Int) : ∃ t : Int, wrap64 e = e - 18446744073709551616 * t ∧ -9223372036854775808 ≤ wrap64 e ∧ wrap64 e ≤ 9223372036854775807 := by
  unfold wrap64
  exact ⟨(e + 9223372036854775808) / 18446744073709551616, by omega, by omega, by omega⟩

theorem tdiv_bd (q d : Int) (h1 : -9223372036854775808 ≤ q) (h2 : q ≤ 9223372036854775807) (hd : 2 ≤ d ∨ d ≤ -2) : -9223372036854775808 ≤ q.tdiv d ∧ q.tdiv d ≤ 9223372036854775807 := by
  have key : (q.tdiv d).natAbs ≤ q.natAbs / 2 := by
    rw [Int.natAbs_tdiv]
    exact Nat.div_le_div_left (by omega) (by omega)
  omega

theorem mulI_eq (na nb : Int) (h1 : -9007199254740991 ≤ na) (h2 : na ≤ 9007199254740991) (h3 : -9007199254740991 ≤ nb) (h4 : nb ≤ 9007199254740991) (h0 : nb ≠ 0) : mulI na nb = intR (na * nb) := by
  unfold mulI
  by_cases hin : -9223372036854775808 ≤ na * nb ∧ na * nb ≤ 9223372036854775807
  · rw [IntWalk.wrap64_in _ hin, Int.mul_tdiv_cancel _ h0, IntWalk.wrap64_in na (by omega)]
    simp
  · have hd : 2 ≤ nb ∨ nb ≤ -2 := by
      rcases (show nb < 2 ∨ 2 ≤ nb by omega) with h | h
      · rcases (show nb < -1 ∨ -1 ≤ nb by omega) with h' | h'
        · omega
        · have : nb = 1 ∨ nb = -1 := by omega
          exfalso
          apply hin
          rcases this with rfl | rfl <;> omega
      · omega
    obtain ⟨t, ht, b1, b2⟩ := wrap64_mul (na * nb)
    have bd := tdiv_bd (wrap64 (na * nb)) nb b1 b2 hd
    have hne : wrap64 ((wrap64 (na * nb)).tdiv nb) ≠ na := by
      rw [IntWalk.wrap64_in _ bd]
      intro he
      have e1 := Int.mul_tdiv_add_tmod (wrap64 (na * nb)) nb
      rw [he] at e1
      have e2 : ((wrap64 (na * nb)).tmod nb).natAbs < nb.natAbs := by
        rw [Int.natAbs_tmod]; exact Nat.mod_lt _ (by omega)
      generalize (wrap64 (na * nb)).tmod nb = r at *
      rw [Int.mul_comm nb na] at e1
      generalize na * nb = p at *
      generalize wrap64 p = q at *
      omega
    rw [if_pos (by simpa using hne), intR, if_pos (by omega)]

theorem divI_eq (na nb : Int) (h1 : -9007199254740991 ≤ na) (h2 : na ≤ 9007199254740991) : intR (wrap64 (na.tdiv nb)) = (3, na.tdiv nb, true) := by
  have key : (na.tdiv nb).natAbs ≤ na.natAbs := by
    rw [Int.natAbs_tdiv]
    exact Nat.div_le_self _ _
  rw [IntWalk.wrap64_in _ (by omega), intR, if_neg (by omega)]

theorem neg3 (n : Int) (h0 : n ≠ 0) : negR 3 n = (3, -n) := by simp [negR, h0]
theorem IsNum.neg {k n : Int} (h : IsNum k n) : IsNum (negR k n).1 (negR k n).2 := by
  unfold IsNum at h
  rcases h with ⟨rfl, rfl⟩ | ⟨rfl, rfl | rfl⟩ | ⟨rfl, rfl⟩ | ⟨rfl, h⟩
  · exact .inl ⟨rfl, rfl⟩
  · exact .inr (.inl ⟨rfl, .inr rfl⟩)
  · exact .inr (.inl ⟨rfl, .inl rfl⟩)
  · exact .inr (.inr (.inr ⟨rfl, by decide, by decide⟩))
  · by_cases h0 : n = 0
    · subst h0; exact .inr (.inr (.inl ⟨rfl, rfl⟩))
    · rw [neg3 n h0]; exact .inr (.inr (.inr ⟨rfl, by show _ ≤ -n; omega, by show -n ≤ _; omega⟩))

/-- Seven kinds of numbers. -/
theorem IsNum.kinds {k n : Int} (h : IsNum k n) : (k = 4 ∧ n = 0) ∨ (k = 5 ∧ n = 1) ∨ (k = 5 ∧ n = -1) ∨ (k = 6 ∧ n = 0) ∨ (k = 3 ∧ n = 0) ∨
    (k = 3 ∧ n ≠ 0 ∧ noneB 3 n = false ∧ noneB 3 (-n) = false ∧ negR 3 n = (3, -n) ∧ belowB 3 (-n) = !belowB 3 n) := by
  unfold IsNum at h
  rcases h with h | ⟨h, h' | h'⟩ | h | ⟨h, h'⟩
  · exact .inl h
  · exact .inr (.inl ⟨h, h'⟩)
  · exact .inr (.inr (.inl ⟨h, h'⟩))
  · exact .inr (.inr (.inr (.inl h)))
  · by_cases h0 : n = 0
    · exact .inr (.inr (.inr (.inr (.inl ⟨h, h0⟩))))
    · refine .inr (.inr (.inr (.inr (.inr ⟨h, h0, by simp [noneB, h0], by simp [noneB, h0], neg3 n h0, ?_⟩))))
      by_cases hn : n < 0
      · simp [belowB, hn]; omega
      · simp [belowB, hn]; omega

theorem intR_none (n : Int) (h : (intR n).2.2 = false) : intR n = (0, 0, false) := by
  unfold intR at *; split at h
  · rename_i h'; rw [if_pos h']
  · simp at h
theorem intR_yes (n : Int) (h : (intR n).2.2 = true) : intR n = (3, n, true) ∧ -9007199254740991 ≤ n ∧ n ≤ 9007199254740991 := by
  unfold intR at *; split at h
  · simp at h
  · rename_i h'; rw [if_neg h']; exact ⟨rfl, by omega, by omega⟩
theorem IsNum.int {n : Int} (ok : (intR n).2.2 = true) : IsNum (intR n).1 (intR n).2.1 := by
  rw [(intR_yes n ok).1]; exact .inr (.inr (.inr ⟨rfl, (intR_yes n ok).2.1, (intR_yes n ok).2.2⟩))
theorem intR_neg (n : Int) : (intR (-n)).2.2 = (intR n).2.2 := by
  unfold intR; split <;> split <;> first | rfl | (exfalso; omega)

theorem mul3 (na nb : Int) (ha : IsNum 3 na) (hb : IsNum 3 nb) (a0 : na ≠ 0) (b0 : nb ≠ 0) : mulR 3 na 3 nb = intR (na * nb) := by
  rw [← mulI_eq na nb ha.lo ha.hi hb.lo hb.hi b0]
  simp [mulR, noneB, a0, b0]
theorem div3 (na nb : Int) (ha : IsNum 3 na) (hb : IsNum 3 nb) (a0 : na ≠ 0) (b0 : nb ≠ 0) : divR 3 na 3 nb = if na.tmod nb = 0 then (3, na.tdiv nb, true) else (0, 0, false) := by
  rw [← divI_eq na nb ha.lo ha.hi]
  by_cases h : na.tmod nb = 0 <;> simp [divR, noneB, a0, b0, h]
/-- What becomes of a product if one of two has the other sign. -/
theorem mul_negl (ka na kb nb : Int) (ha : IsNum ka na) (hb : IsNum kb nb) :
    mulR (negR ka na).1 (negR ka na).2 kb nb = if (mulR ka na kb nb).2.2 = true then ((negR (mulR ka na kb nb).1 (mulR ka na kb nb).2.1).1, (negR (mulR ka na kb nb).1 (mulR ka na kb nb).2.1).2, true) else (0, 0, false) := by
  have HA := ha
  have HB := hb
  rcases ha.kinds with ⟨rfl, rfl⟩ | ⟨rfl, rfl⟩ | ⟨rfl, rfl⟩ | ⟨rfl, rfl⟩ | ⟨rfl, rfl⟩ | ⟨rfl, a0, a1, a2, a3, a4⟩ <;> rcases hb.kinds with ⟨rfl, rfl⟩ | ⟨rfl, rfl⟩ | ⟨rfl, rfl⟩ | ⟨rfl, rfl⟩ | ⟨rfl, rfl⟩ | ⟨rfl, b0, b1, b2, b3, b4⟩
  all_goals first
    | rfl
    | (simp only [a3, mulR, a1, a2, a4]
       generalize belowB 3 na = B
       cases B <;> rfl)
    | (simp only [b3, mulR, b1, b2, b4]
       generalize belowB 3 nb = B
       cases B <;> rfl)
    | skip
  rw [a3, mul3 (-na) nb (by have := HA.neg; rw [a3] at this; exact this) HB (by omega) b0, mul3 na nb HA HB a0 b0, Int.neg_mul]
  cases h : (intR (na * nb)).2.2 with
  | false => rw [if_neg (by simp)]; exact intR_none _ (by rw [intR_neg]; exact h)
  | true =>
    rw [if_pos rfl, (intR_yes _ h).1, (intR_yes _ (by rw [intR_neg]; exact h)).1, neg3 _ (Int.mul_ne_zero a0 b0)]

/-- .. of a quotient, what it is by having the other sign. -/
theorem div_negr (ka na kb nb : Int) (ha : IsNum ka na) (hb : IsNum kb nb) :
    divR ka na (negR kb nb).1 (negR kb nb).2 = if (divR ka na kb nb).2.2 = true then ((negR (divR ka na kb nb).1 (divR ka na kb nb).2.1).1, (negR (divR ka na kb nb).1 (divR ka na kb nb).2.1).2, true) else (0, 0, false) := by
  have HA := ha
  have HB := hb
  rcases ha.kinds with ⟨rfl, rfl⟩ | ⟨rfl, rfl⟩ | ⟨rfl, rfl⟩ | ⟨rfl, rfl⟩ | ⟨rfl, rfl⟩ | ⟨rfl, a0, a1, a2, a3, a4⟩ <;> rcases hb.kinds with ⟨rfl, rfl⟩ | ⟨rfl, rfl⟩ | ⟨rfl, rfl⟩ | ⟨rfl, rfl⟩ | ⟨rfl, rfl⟩ | ⟨rfl, b0, b1, b2, b3, b4⟩
  all_goals first
    | rfl
    | (simp only [a3, divR, a1, a2, a4]
       generalize belowB 3 na = B
       cases B <;> rfl)
    | (simp only [b3, divR, b1, b2, b4]
       generalize belowB 3 nb = B
       cases B <;> rfl)
    | skip
  rw [b3, div3 na (-nb) HA (by have := HB.neg; rw [b3] at this; exact this) a0 (by omega), div3 na nb HA HB a0 b0, Int.tmod_neg, Int.tdiv_neg]
  by_cases h : na.tmod nb = 0
  · rw [if_pos h, if_pos h, if_pos rfl, neg3]
    intro h0
    have := Int.mul_tdiv_add_tmod na nb
    rw [show na.tdiv nb = 0 from h0, h] at this
    simp at this
    exact a0 this.symm
  · rw [if_neg h, if_neg h, if_neg (by simp)]

theorem mulR_num (ka na kb nb : Int) (ha : IsNum ka na) (hb : IsNum kb nb) (ok : (mulR ka na kb nb).2.2 = true) : IsNum (mulR ka na kb nb).1 (mulR ka na kb nb).2.1 := by
  have HA := ha
  have HB := hb
  rcases ha.kinds with ⟨rfl, rfl⟩ | ⟨rfl, rfl⟩ | ⟨rfl, rfl⟩ | ⟨rfl, rfl⟩ | ⟨rfl, rfl⟩ | ⟨rfl, a0, a1, a2, a3, a4⟩ <;> rcases hb.kinds with ⟨rfl, rfl⟩ | ⟨rfl, rfl⟩ | ⟨rfl, rfl⟩ | ⟨rfl, rfl⟩ | ⟨rfl, rfl⟩ | ⟨rfl, b0, b1, b2, b3, b4⟩
  all_goals first
    | (unfold IsNum; decide)
    | (simp only [mulR, a1] at ok ⊢
       generalize belowB 3 na = B at *
       cases B <;> (first | exact .inl ⟨rfl, rfl⟩ | exact .inr (.inl ⟨rfl, .inl rfl⟩) | exact .inr (.inl ⟨rfl, .inr rfl⟩) | exact .inr (.inr (.inl ⟨rfl, rfl⟩)) | exact .inr (.inr (.inr ⟨rfl, show _ ≤ (0 : Int) by decide, show (0 : Int) ≤ _ by decide⟩))))
    | (simp only [mulR, b1] at ok ⊢
       generalize belowB 3 nb = B at *
       cases B <;> (first | exact .inl ⟨rfl, rfl⟩ | exact .inr (.inl ⟨rfl, .inl rfl⟩) | exact .inr (.inl ⟨rfl, .inr rfl⟩) | exact .inr (.inr (.inl ⟨rfl, rfl⟩)) | exact .inr (.inr (.inr ⟨rfl, show _ ≤ (0 : Int) by decide, show (0 : Int) ≤ _ by decide⟩))))
    | skip
  rw [mul3 na nb HA HB a0 b0] at ok ⊢
  exact IsNum.int ok
theorem divR_num (ka na kb nb : Int) (ha : IsNum ka na) (hb : IsNum kb nb) (ok : (divR ka na kb nb).2.2 = true) : IsNum (divR ka na kb nb).1 (divR ka na kb nb).2.1 := by
  have HA := ha
  have HB := hb
  rcases ha.kinds with ⟨rfl, rfl⟩ | ⟨rfl, rfl⟩ | ⟨rfl, rfl⟩ | ⟨rfl, rfl⟩ | ⟨rfl, rfl⟩ | ⟨rfl, a0, a1, a2, a3, a4⟩ <;> rcases hb.kinds with ⟨rfl, rfl⟩ | ⟨rfl, rfl⟩ | ⟨rfl, rfl⟩ | ⟨rfl, rfl⟩ | ⟨rfl, rfl⟩ | ⟨rfl, b0, b1, b2, b3, b4⟩
  all_goals first
    | (unfold IsNum; decide)
    | (simp only [divR, a1] at ok ⊢
       generalize belowB 3 na = B at *
       cases B <;> (first | exact .inl ⟨rfl, rfl⟩ | exact .inr (.inl ⟨rfl, .inl rfl⟩) | exact .inr (.inl ⟨rfl, .inr rfl⟩) | exact .inr (.inr (.inl ⟨rfl, rfl⟩)) | exact .inr (.inr (.inr ⟨rfl, show _ ≤ (0 : Int) by decide, show (0 : Int) ≤ _ by decide⟩))))
    | (simp only [divR, b1] at ok ⊢
       generalize belowB 3 nb = B at *
       cases B <;> (first | exact .inl ⟨rfl, rfl⟩ | exact .inr (.inl ⟨rfl, .inl rfl⟩) | exact .inr (.inl ⟨rfl, .inr rfl⟩) | exact .inr (.inr (.inl ⟨rfl, rfl⟩)) | exact .inr (.inr (.inr ⟨rfl, show _ ≤ (0 : Int) by decide, show (0 : Int) ≤ _ by decide⟩))))
    | skip
  rw [div3 na nb HA HB a0 b0] at ok ⊢
  split at ok
  · rename_i h
    rw [if_pos h]
    have key : (na.tdiv nb).natAbs ≤ na.natAbs := by
      rw [Int.natAbs_tdiv]
      exact Nat.div_le_self _ _
    have h1 := HA.lo
    have h2 := HA.hi
    unfold IsNum
    exact .inr (.inr (.inr ⟨rfl, by show _ ≤ na.tdiv nb; omega, by show na.tdiv nb ≤ _; omega⟩))
  · simp at ok

end Go.Proofs.YtdeboajjhpecbaaGreatDoor.Vx
