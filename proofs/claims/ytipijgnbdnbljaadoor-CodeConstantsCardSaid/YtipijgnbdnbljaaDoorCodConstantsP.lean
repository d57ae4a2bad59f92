/- What the walk of CodeConstants keeps. -/
import Derived.Test.YtipijgnbdnbljaaDoorCodE
import Derived.Laws.BytesArg
set_option linter.unusedVariables false
set_option linter.unusedSimpArgs false
namespace Go.Proofs.YtipijgnbdnbljaaDoor
open Go.RowKit

/-- The values seen so far (row sv) are the function's constants (row cv). -/
structure SC (w : World) (g : Nat) (sv cv : Value) (vs : List V) (wr : World) : Prop where
  own1 : wr.ownsRow (g + 1) 41 3 sv vs.length (vCells vs)
  own2 : wr.ownsRow (g + 1) 41 3 cv vs.length (vCells vs)
  blk : Blk wr g 33 (FB nilS cv nilS)
  apart : ∀ q, sv.ownBlock = some q → cv.ownBlock = some q → False
  once : Once vs
  bel : Below w.heap.size w wr
  lo : w.heap.size ≤ g
theorem SC.below {w wr W : World} {g : Nat} {sv cv : Value} {vs : List V} (h : SC w g sv cv vs wr) (b : Below wr.heap.size wr W) : SC w g sv cv vs W :=
  ⟨(Upd.of_below_all (M := fun _ => False) b).own h.own1 (fun _ _ h => h), (Upd.of_below_all (M := fun _ => False) b).own h.own2 (fun _ _ h => h), h.blk.below b h.blk.lt, h.apart, h.once, h.bel.trans (b.mono h.bel.size), h.lo⟩
/-- A new value x, that lies at block vb, was put behind those that were seen; not yet behind the constants. -/
structure TC (w : World) (g vb : Nat) (sv cv : Value) (vs : List V) (x : V) (W : World) : Prop where
  own1 : W.ownsRow (g + 1) 41 3 sv (vs.length + 1) (vCells vs ++ [.int .i64 x.1, .int .i64 x.2.1, .string x.2.2])
  own2 : W.ownsRow (g + 1) 41 3 cv vs.length (vCells vs)
  blk : Blk W g 33 (FB nilS cv nilS)
  apart : ∀ q, sv.ownBlock = some q → cv.ownBlock = some q → False
  once : Once vs
  box : Blk W vb 41 #[.int .i64 x.1, .int .i64 x.2.1, .string x.2.2]
  box2 : cv.ownBlock ≠ some vb
  bel : Below w.heap.size w W
  lo : w.heap.size ≤ g
theorem TC.mk2 {w wr W w1 : World} {g vb gq capq : Nat} {sv cv : Value} {vs : List V} {x : V} {o : Obj} (h : SC w g sv cv vs wr) (hb : Below wr.heap.size wr W) (hx : Blk W vb 41 #[.int .i64 x.1, .int .i64 x.2.1, .string x.2.2]) (hvb : wr.heap.size ≤ vb)
    (hg : (W.alloc o).grownBy w1 sv.ownBlock) (ho : w1.ownsRow (g + 1) 41 3 (.slice (some ⟨gq, 0, none⟩) (vs.length + 1) capq) (vs.length + 1) (vCells vs ++ [.int .i64 x.1, .int .i64 x.2.1, .string x.2.2])) (hat : sv.ownBlock = some gq ∨ gq = W.heap.size + 1) :
    TC w g vb (.slice (some ⟨gq, 0, none⟩) (vs.length + 1) capq) cv vs x w1 := by
  have hW := h.below hb
  have u1 : Upd (W.alloc o) w1 (fun q => sv.ownBlock = some q) := Upd.of_grown hg fun q e => e
  have hc : ∀ q, cv.ownBlock = some q → q < wr.heap.size := fun q hq => (h.own2.lt q hq).2
  have hs : ∀ q, sv.ownBlock = some q → q < wr.heap.size := fun q hq => (h.own1.lt q hq).2
  have hsz := hb.size
  refine ⟨ho, u1.own (hW.own2.alloc o) (fun q hq e => h.apart q e hq), u1.blk (hW.blk.alloc o) (fun e => own_blk_ne hW.own1 hW.blk (by decide) e), fun q hq hq2 => ?_, h.once, u1.blk (hx.alloc o) (fun e => by have := hs vb e; omega), fun e => by have := hc vb e; omega, ?_, h.lo⟩
  · obtain rfl : gq = q := by simpa [Value.ownBlock] using hq
    rcases hat with e | e
    · exact h.apart gq e hq2
    · have := hc gq hq2; omega
  · have hz := hW.bel.size
    exact ((hW.bel.alloc hz o).grown hg (by simp; omega) (fun q e => by have := (h.own1.lt q e).1; have := h.lo; omega))
theorem SC.of_T {w W W' : World} {g vb gq capq : Nat} {sv cv : Value} {vs : List V} {k n : Int} {s : ByteArray} (h : TC w g vb sv cv vs (k, n, s) W) (hn : ∀ j, j < vs.length → vs.getD j v0 ≠ (k, n, s))
    (p1 : W'.ownsRow (g + 1) 41 3 (.slice (some ⟨gq, 0, none⟩) (vs.length + 1) capq) (vs.length + 1) (vCells (vs ++ [(k, n, s)]))) (p2 : Blk W' g 33 (FB nilS (.slice (some ⟨gq, 0, none⟩) (vs.length + 1) capq) nilS))
    (p3 : Upd W W' (fun q => q = g ∨ cv.ownBlock = some q)) (p4 : cv.ownBlock = some gq ∨ W.heap.size ≤ gq) :
    SC w g sv (.slice (some ⟨gq, 0, none⟩) (vs.length + 1) capq) (vs ++ [(k, n, s)]) W' := by
  have hl : (vs ++ [(k, n, s)]).length = vs.length + 1 := by rw [List.length_append]; rfl
  refine ⟨?_, ?_, p2, fun q hq hq2 => ?_, h.once.snoc hn, ?_, h.lo⟩
  · rw [hl, vCells_append]
    exact p3.own h.own1 (fun q hq e => by
      rcases e with e | e
      · have := (h.own1.lt q hq).1; omega
      · exact h.apart q hq e)
  · rw [hl]; exact p1
  · obtain rfl : gq = q := by simpa [Value.ownBlock] using hq2
    rcases p4 with e | e
    · exact h.apart gq hq e
    · have := (h.own1.lt gq hq).2; omega
  · have hz := h.bel.size
    have hlo := h.lo
    exact h.bel.trans ((p3.mono (M' := fun q => w.heap.size ≤ q) (fun q _ e => by
      rcases e with e | e
      · omega
      · have := (h.own2.lt q e).1; omega)).below hz (fun q e => e))
theorem TC.heq {w wc W : World} {g vb : Nat} {sv cv : Value} {vs : List V} {x : V} (h : TC w g vb sv cv vs x wc) (e1 : W.heap = wc.heap) (e2 : W.os = wc.os) (e3 : W.tape = wc.tape) (e4 : W.output = wc.output) : TC w g vb sv cv vs x W := by
  have o1 := h.own1
  have o2 := h.own2
  have k1 := h.blk
  have k2 := h.box
  unfold World.ownsRow at o1 o2
  unfold Blk at k1 k2
  rw [← e1] at o1 o2 k1 k2
  have hb := h.bel
  exact ⟨o1, o2, k1, h.apart, h.once, k2, h.box2, ⟨e2.trans hb.os, e3.trans hb.tape, e4.trans hb.output, by rw [e1]; exact hb.size, fun k hk => by rw [e1]; exact hb.block k hk⟩, h.lo⟩
theorem vCells_length (l : List V) : (vCells l).length = l.length * 3 := by
  induction l with
  | nil => rfl
  | cons x l ih =>
    have : vCells (x :: l) = [.int .i64 x.1, .int .i64 x.2.1, .string x.2.2] ++ vCells l := rfl
    rw [this, List.length_append, ih]; simp; omega
theorem vCells_last (l : List V) (x : V) : (vCells (l ++ [x]))[l.length * 3]? = some (.int .i64 x.1) ∧ (vCells (l ++ [x]))[l.length * 3 + 1]? = some (.int .i64 x.2.1) ∧ (vCells (l ++ [x]))[l.length * 3 + 2]? = some (.string x.2.2) := by
  rw [vCells_append]
  have h := vCells_length l
  refine ⟨?_, ?_, ?_⟩
  · rw [List.getElem?_append_right (by omega), h, Nat.sub_self]; rfl
  · rw [List.getElem?_append_right (by omega), h, show l.length * 3 + 1 - l.length * 3 = 1 by omega]; rfl
  · rw [List.getElem?_append_right (by omega), h, show l.length * 3 + 2 - l.length * 3 = 2 by omega]; rfl
theorem TC.call {w W : World} {g vb : Nat} {sv cv : Value} {vs : List V} {k n : Int} {s : ByteArray} (h : TC w g vb sv cv vs (k, n, s) W) (hn : ∀ j, j < vs.length → vs.getD j v0 ≠ (k, n, s)) (hl : vs.length ≤ 1000) :
    Calls Tryd.prog 13 #[.pointer (some ⟨g, 0, none⟩), .agg #[.int .i64 k, .int .i64 n, .string s]] W fun e w' => e = .returned (.int .i64 vs.length) ∧
      ∃ gp capp, SC w g sv (.slice (some ⟨gp, 0, none⟩) (vs.length + 1) capp) (vs ++ [(k, n, s)]) w' ∧
        w'.cell? ⟨g, 9, none⟩ = some (.slice (some ⟨gp, 0, none⟩) (vs.length + 1) capp) ∧ w'.cell? ⟨gp, vs.length * 3, none⟩ = some (.int .i64 k) ∧ w'.cell? ⟨gp, vs.length * 3 + 1, none⟩ = some (.int .i64 n) ∧ w'.cell? ⟨gp, vs.length * 3 + 2, none⟩ = some (.string s) ∧
        w'.cell? ⟨vb, 0, none⟩ = some (.int .i64 k) ∧ w'.cell? ⟨vb, 1, none⟩ = some (.int .i64 n) ∧ w'.cell? ⟨vb, 2, none⟩ = some (.string s) := by
  refine (constant_new g (g + 1) nilS cv nilS vs k n s W h.blk h.own2 hl h.blk.lt hn).mono ?_
  rintro e w' ⟨rfl, gp, capp, p1, p2, p3, p4⟩
  have hx := p3.blk h.box (fun e => by
    rcases e with e | e
    · exact Blk.ne_ h.blk h.box (by decide) e.symm
    · exact h.box2 e)
  obtain ⟨k0, k1, k2⟩ := vCells_last vs (k, n, s)
  refine ⟨rfl, gp, capp, ?_, by rw [p2.cell]; rfl, ?_, ?_, ?_, by rw [hx.cell]; rfl, by rw [hx.cell]; rfl, by rw [hx.cell]; rfl⟩
  · exact SC.of_T h hn p1 p2 p3 p4
  · rw [p1.cellAt _ (by omega)]; exact k0
  · rw [p1.cellAt _ (by omega)]; exact k1
  · rw [p1.cellAt _ (by omega)]; exact k2
/-- Behind some of the instructions. -/
structure EC (w : World) (g : Nat) (iv cv : Value) (l : List (Int × Int × Int)) (wr : World) : Prop where
  own : wr.ownsRow (g + 1) 36 3 iv l.length (insCells l)
  blk : Blk wr g 33 (FB iv cv nilS)
  bel : Below w.heap.size w wr
  lo : w.heap.size ≤ g
theorem EC.below {w wr W : World} {g : Nat} {iv cv : Value} {l : List (Int × Int × Int)} (h : EC w g iv cv l wr) (b : Below wr.heap.size wr W) : EC w g iv cv l W :=
  ⟨(Upd.of_below_all (M := fun _ => False) b).own h.own (fun _ _ h => h), h.blk.below b h.blk.lt, h.bel.trans (b.mono h.bel.size), h.lo⟩
theorem EC.next {w W W' : World} {g : Nat} {iv iv' cv : Value} {l l' : List (Int × Int × Int)} (h : EC w g iv cv l W) (p1 : W'.ownsRow (g + 1) 36 3 iv' l'.length (insCells l')) (p2 : Blk W' g 33 (FB iv' cv nilS)) (p3 : Upd W W' (fun q => q = g ∨ iv.ownBlock = some q)) : EC w g iv' cv l' W' := by
  have hz := h.bel.size
  have hlo := h.lo
  exact ⟨p1, p2, h.bel.trans ((p3.mono (M' := fun q => w.heap.size ≤ q) (fun q _ e => by
      rcases e with e | e
      · omega
      · have := (h.own.lt q e).1; omega)).below hz (fun q e => e)), h.lo⟩
theorem sameH (W : World) : W.drew.heap = W.heap := rfl
theorem sameO (W : World) : W.drew.os = W.os := rfl
theorem sameT (W : World) : W.drew.tape = W.tape := rfl
theorem sameP (W : World) : W.drew.output = W.output := rfl
theorem EC.heq {w wc W : World} {g : Nat} {iv cv : Value} {l : List (Int × Int × Int)} (h : EC w g iv cv l wc) (e1 : W.heap = wc.heap) (e2 : W.os = wc.os) (e3 : W.tape = wc.tape) (e4 : W.output = wc.output) : EC w g iv cv l W := by
  have o1 := h.own
  have k1 := h.blk
  unfold World.ownsRow at o1
  unfold Blk at k1
  rw [← e1] at o1 k1
  have hb := h.bel
  exact ⟨o1, k1, ⟨e2.trans hb.os, e3.trans hb.tape, e4.trans hb.output, by rw [e1]; exact hb.size, fun k hk => by rw [e1]; exact hb.block k hk⟩, h.lo⟩
theorem EC.call {w W : World} {g vb : Nat} {iv cv : Value} {l : List (Int × Int × Int)} {op x y : Int} (h : EC w g iv cv l W) (hl : l.length ≤ 1000) (hx : Blk W vb 37 #[.int .i64 op, .int .i64 x, .int .i64 y]) :
    Calls Tryd.prog 14 #[.pointer (some ⟨g, 0, none⟩), .int .i64 op, .int .i64 x, .int .i64 y] W fun e w' => e = .returned (.int .i64 l.length) ∧
      ∃ gp capp, EC w g (.slice (some ⟨gp, 0, none⟩) (l.length + 1) capp) cv (l ++ [(op, x, y)]) w' ∧
        w'.cell? ⟨g, 8, none⟩ = some (.slice (some ⟨gp, 0, none⟩) (l.length + 1) capp) ∧ w'.cell? ⟨gp, l.length * 3, none⟩ = some (.int .i64 op) ∧ w'.cell? ⟨gp, l.length * 3 + 1, none⟩ = some (.int .i64 x) ∧ w'.cell? ⟨gp, l.length * 3 + 2, none⟩ = some (.int .i64 y) ∧
        w'.cell? ⟨vb, 0, none⟩ = some (.int .i64 op) ∧ w'.cell? ⟨vb, 1, none⟩ = some (.int .i64 x) ∧ w'.cell? ⟨vb, 2, none⟩ = some (.int .i64 y) := by
  refine (emit_any g (g + 1) iv cv nilS l op x y W h.blk h.own hl h.blk.lt).mono ?_
  rintro e w' ⟨rfl, gp, capp, p1, p2, p3⟩
  have hl2 : (l ++ [(op, x, y)]).length = l.length + 1 := by rw [List.length_append]; rfl
  have hx2 := p3.blk hx (fun e => by
    rcases e with e | e
    · exact Blk.ne_ h.blk hx (by decide) e.symm
    · exact own_blk_ne h.own hx (by decide) e)
  obtain ⟨k0, k1, k2⟩ := insCells_last l (op, x, y)
  have hE := h.next p1 p2 p3
  rw [hl2] at p1 p2 hE
  refine ⟨rfl, gp, capp, hE, by rw [p2.cell]; rfl, ?_, ?_, ?_, by rw [hx2.cell]; rfl, by rw [hx2.cell]; rfl, by rw [hx2.cell]; rfl⟩
  · rw [p1.cellAt _ (by omega)]; exact k0
  · rw [p1.cellAt _ (by omega)]; exact k1
  · rw [p1.cellAt _ (by omega)]; exact k2
theorem conv_byte (W : World) (c : Nat) (hc : c < 16) : (convert 44 9 (.slice (some ⟨W.heap.size, 0, none⟩) 1 1)).run Tryd.prog (W.alloc (.cells #[.int .u8 (97 + (c : Int))] 5)) = .ok (.string ⟨#[UInt8.ofNat (97 + c)]⟩) (W.alloc (.cells #[.int .u8 (97 + (c : Int))] 5)) := by
  have hc2 : ∀ i, i < 1 → (W.alloc (.cells #[.int .u8 (97 + (c : Int))] 5)).cell? ⟨W.heap.size, 0 + i, none⟩ = some (.int .u8 ([97 + (c : Int)].getD i 0)) := by
    intro i hi
    obtain rfl : i = 0 := by omega
    rw [Lib.cell_of_heap (heap_alloc_new W _)]
    rfl
  rw [run_convert_bytes_arg _ 44 5 Tryd.underlying44 Tryd.underlying5 W.heap.size 0 1 1 [97 + (c : Int)] rfl hc2 9 Tryd.underlying9]
  have he : (97 + (c : Int)).toNat = 97 + c := by omega
  simp only [strOfNums, List.map_cons, List.map_nil, he]
end Go.Proofs.YtipijgnbdnbljaaDoor
