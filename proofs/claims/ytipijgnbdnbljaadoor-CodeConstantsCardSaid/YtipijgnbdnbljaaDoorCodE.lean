/- Contract of a function's Emit, and plain facts for CodeConstants. -/
import Derived.Test.YtipijgnbdnbljaaDoorCodK
set_option linter.unusedVariables false
set_option linter.unusedSimpArgs false
namespace Go.Proofs.YtipijgnbdnbljaaDoor
open Go.RowKit

theorem infoIns : (Tryd.prog.info? 36).map (fun i => (i.zero, i.size, i.bytes)) = some (some (.agg #[.int .i64 0, .int .i64 0, .int .i64 0]), 3, 24) := by kernel_rfl
def insCells (l : List (Int × Int × Int)) : List Value := l.flatMap fun x => [.int .i64 x.1, .int .i64 x.2.1, .int .i64 x.2.2]
theorem insCells_append (a b : List (Int × Int × Int)) : insCells (a ++ b) = insCells a ++ insCells b := by simp [insCells]
theorem insCells_length (l : List (Int × Int × Int)) : (insCells l).length = l.length * 3 := by
  induction l with
  | nil => rfl
  | cons x l ih =>
    have : insCells (x :: l) = [.int .i64 x.1, .int .i64 x.2.1, .int .i64 x.2.2] ++ insCells l := rfl
    rw [this, List.length_append, ih]; simp; omega
theorem insCells_last (l : List (Int × Int × Int)) (x : Int × Int × Int) : (insCells (l ++ [x]))[l.length * 3]? = some (.int .i64 x.1) ∧ (insCells (l ++ [x]))[l.length * 3 + 1]? = some (.int .i64 x.2.1) ∧ (insCells (l ++ [x]))[l.length * 3 + 2]? = some (.int .i64 x.2.2) := by
  rw [insCells_append]
  have h := insCells_length l
  refine ⟨?_, ?_, ?_⟩
  · rw [List.getElem?_append_right (by omega), h, Nat.sub_self]; rfl
  · rw [List.getElem?_append_right (by omega), h, show l.length * 3 + 1 - l.length * 3 = 1 by omega]; rfl
  · rw [List.getElem?_append_right (by omega), h, show l.length * 3 + 2 - l.length * 3 = 2 by omega]; rfl

theorem mid8 {W w1 : World} {g B n : Nat} {o : Obj} {iv cv fv : Value} {xs : List Value} (hb : Blk W g 33 (FB iv cv fv)) (ho : W.ownsRow B 36 3 iv n xs) (hg : (W.alloc o).grownBy w1 iv.ownBlock) :
    w1.cell? ⟨g, 8, none⟩ = some iv ∧ w1.frozen? ⟨g, 8, none⟩ = false ∧ Blk w1 g 33 (FB iv cv fv) := by
  have kb : Blk w1 g 33 (FB iv cv fv) := Blk.grown (hb.alloc o) hg (fun e => own_blk_ne ho hb (by decide) e.symm)
  exact ⟨by rw [kb.cell]; rfl, kb.frozen 8, kb⟩

set_option maxHeartbeats 2000000 in
set_option maxRecDepth 100000 in
theorem emit_any (g B : Nat) (iv cv fv : Value) (l : List (Int × Int × Int)) (op x y : Int) (w : World) (hb : Blk w g 33 (FB iv cv fv)) (own : w.ownsRow B 36 3 iv l.length (insCells l)) (hl : l.length ≤ 1000) (hB : B ≤ w.heap.size) :
    Calls Tryd.prog 14 #[.pointer (some ⟨g, 0, none⟩), .int .i64 op, .int .i64 x, .int .i64 y] w fun e w' => e = .returned (.int .i64 l.length) ∧
      ∃ gq capq, w'.ownsRow B 36 3 (.slice (some ⟨gq, 0, none⟩) (l ++ [(op, x, y)]).length capq) (l ++ [(op, x, y)]).length (insCells (l ++ [(op, x, y)])) ∧ Blk w' g 33 (FB (.slice (some ⟨gq, 0, none⟩) (l ++ [(op, x, y)]).length capq) cv fv) ∧ Upd w w' (fun q => q = g ∨ iv.ownBlock = some q) := by
  have q8 : w.cell? ⟨g, 8, none⟩ = some iv := by rw [hb.cell]; rfl
  have hgl := hb.lt
  obtain ⟨m, hm⟩ : ∃ m, l.length = m := ⟨_, rfl⟩
  have own' := own
  rw [hm] at own hl ⊢
  have HM := Lib.hid hm
  clear hm
  obtain ⟨i0, hi, hz0, hz1, hz2⟩ := info_parts infoIns
  go_enter Tryd.func14, Tryd.ntmps14
  go_wp2_with (at_builtin; refine wpList_append_lies _ rfl _ _ 30 rfl B 36 i0 _ 3 24 Tryd.underlying30 hi hz0 hz1 hz2 rfl (by decide) _ _ _ rfl (own.alloc _) ⟨w.heap.size, 0, none⟩ 1 1 [.int .i64 op, .int .i64 x, .int .i64 y] rfl rfl (World.news_of_block (cs := #[.int .i64 op, .int .i64 x, .int .i64 y]) (t := 36) (fr := (0, 0)) (heap_alloc_new w _)) (by simp [Value.oneCell']) (by decide) (by unfold maxLen; omega) (by omega) (by simp; omega) _ rfl ?_)
  intro gq capq w1 hown1 hgrow _ _
  obtain ⟨d8, e8, kb⟩ := mid8 hb own hgrow
  have p1 := own_set hown1 kb (by decide) 8 (.slice (some ⟨gq, 0, none⟩) (m + 1) capq)
  have p2 : Blk (w1.setCell ⟨g, 8, none⟩ (.slice (some ⟨gq, 0, none⟩) (m + 1) capq)) g 33 (FB (.slice (some ⟨gq, 0, none⟩) (m + 1) capq) cv fv) := kb.set_ 8 _
  have p3 : Upd w (w1.setCell ⟨g, 8, none⟩ (.slice (some ⟨gq, 0, none⟩) (m + 1) capq)) (fun q => q = g ∨ iv.ownBlock = some q) := ((((Upd.refl w _).alloc _).grown hgrow (fun q e => .inr e)).set g 8 _ (.inl rfl))
  have c8 : (w1.setCell ⟨g, 8, none⟩ (.slice (some ⟨gq, 0, none⟩) (m + 1) capq)).cell? ⟨g, 8, none⟩ = some (.slice (some ⟨gq, 0, none⟩) (m + 1) capq) := by rw [p2.cell]; rfl
  have HP := Lib.hid (And.intro p1 (And.intro p2 p3))
  clear p1 p2 p3 hown1 hgrow kb
  go_wp2_with fail
  go_ret
  obtain ⟨p1, p2, p3⟩ := HP.out
  have hl2 : (l ++ [(op, x, y)]).length = m + 1 := by rw [List.length_append, HM.out]; rfl
  refine ⟨by simp, gq, capq, ?_, ?_, p3⟩
  · rw [hl2, insCells_append]; exact p1
  · rw [hl2]; exact p2

/-- The place below j at which v lies; -1. -/
def lastIx (vs : List V) (v : V) : Nat → Int
  | 0 => -1
  | j + 1 => if vs.getD j v0 = v then (j : Int) else lastIx vs v j
theorem lastIx_none (vs : List V) (v : V) (j : Nat) (h : ∀ i, i < j → vs.getD i v0 ≠ v) : lastIx vs v j = -1 := by
  induction j with
  | zero => rfl
  | succ j ih => rw [lastIx, if_neg (h j (by omega)), ih (fun i hi => h i (by omega))]
theorem lastIx_at (vs : List V) (v : V) (i j : Nat) (hij : i < j) (hi : vs.getD i v0 = v) (hn : ∀ q, q < j → vs.getD q v0 = v → q = i) : lastIx vs v j = i := by
  induction j with
  | zero => omega
  | succ j ih =>
    rw [lastIx]
    by_cases h : vs.getD j v0 = v
    · rw [if_pos h, hn j (by omega) h]
    · rw [if_neg h]
      have : i ≠ j := fun e => h (by rw [← e]; exact hi)
      exact ih (by omega) (fun q hq => hn q (by omega))
/-- No value twice. -/
def Once (vs : List V) : Prop := ∀ i j, i < vs.length → j < vs.length → vs.getD i v0 = vs.getD j v0 → i = j
theorem Once.snoc {vs : List V} {v : V} (h : Once vs) (hn : ∀ j, j < vs.length → vs.getD j v0 ≠ v) : Once (vs ++ [v]) := by
  intro i j hi hj e
  rw [List.length_append] at hi hj
  simp only [List.length_cons, List.length_nil] at hi hj
  have g1 : ∀ q, q < vs.length → (vs ++ [v]).getD q v0 = vs.getD q v0 := fun q hq => by
    rw [List.getD_eq_getElem?_getD, List.getElem?_append_left hq, ← List.getD_eq_getElem?_getD]
  have g2 : (vs ++ [v]).getD vs.length v0 = v := by
    rw [List.getD_eq_getElem?_getD, List.getElem?_append_right (Nat.le_refl _), Nat.sub_self]; rfl
  rcases Nat.lt_or_ge i vs.length with h1 | h1
  · rcases Nat.lt_or_ge j vs.length with h2 | h2
    · rw [g1 i h1, g1 j h2] at e; exact h i j h1 h2 e
    · obtain rfl : j = vs.length := by omega
      rw [g1 i h1, g2] at e
      exact absurd e (hn i h1)
  · obtain rfl : i = vs.length := by omega
    rcases Nat.lt_or_ge j vs.length with h2 | h2
    · rw [g1 j h2, g2] at e
      exact absurd e.symm (hn j h2)
    · omega
theorem there_or_not (vs : List V) (v : V) : (∃ i, i < vs.length ∧ vs.getD i v0 = v ∧ ∀ j, j < i → vs.getD j v0 ≠ v) ∨ ∀ j, j < vs.length → vs.getD j v0 ≠ v := by
  by_cases h : ∃ i, i < vs.length ∧ vs.getD i v0 = v
  · left
    obtain ⟨i, hi, hv⟩ := h
    induction i using Nat.strongRecOn with
    | _ i ih =>
      by_cases h2 : ∃ j, j < i ∧ vs.getD j v0 = v
      · obtain ⟨j, hj, hjv⟩ := h2
        exact ih j hj (by omega) hjv
      · exact ⟨i, hi, hv, fun j hj e => h2 ⟨j, hj, e⟩⟩
  · right
    exact fun j hj e => h ⟨j, hj, e⟩
theorem and15 (x : Int) : ∃ c : Nat, c < 16 ∧ bits .and .i64 x 15 = (c : Int) := by
  refine ⟨(BitVec.ofInt 64 x).toNat &&& 15, Nat.lt_of_le_of_lt Nat.and_le_right (by decide), ?_⟩
  have h : (BitVec.ofInt 64 x).toNat &&& 15 ≤ 15 := Nat.and_le_right
  show IntKind.i64.wrap (((BitVec.ofInt 64 x &&& BitVec.ofInt 64 15).toNat : Nat) : Int) = _
  rw [BitVec.toNat_and, show (BitVec.ofInt 64 15).toNat = 15 by decide, IntKind.wrap_i64]
  omega
end Go.Proofs.YtipijgnbdnbljaaDoor
