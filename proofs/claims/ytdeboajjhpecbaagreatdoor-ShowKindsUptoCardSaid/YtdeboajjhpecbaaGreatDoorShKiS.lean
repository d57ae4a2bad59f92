/- Show: two grown values at once, and the array of both. -/
import Derived.Test.YtdeboajjhpecbaaGreatDoorShVaW
set_option linter.unusedVariables false
set_option linter.unusedSimpArgs false
namespace Go.Proofs.YtdeboajjhpecbaaGreatDoor.Hp
open Go.RowKit Go.Proofs.YtdeboajjhpecbaaGreatDoor Go.Shelf
def NoB : Nat → Prop := fun _ => False
/-- A grown value in its boxes: the machine's in X, the document's in Y. -/
structure Vb (W : World) (cs : List Cell) (X Y : Nat) (v : K3) (x : K4) (t : Tr) : Prop where
  li : Lies W cs NoB t v
  lr : LiesR W NoB t x
  ok : OkT t
  un : unT t ≤ 500
  vb : Blk W X 30 #[.int .i64 v.1, .int .i64 v.2.1, .string v.2.2]
  xb : Blk W Y 33 #[.int .i64 x.1, .int .i64 x.2.1, .string x.2.2.1, x.2.2.2]
section
variable {N m H A B : Nat} {ps : List Int} {W W' : World} {cv : Value} {cs : List Cell} {X Y : Nat} {v : K3} {x : K4} {t : Tr}
theorem Vb.below (h : Vb W cs X Y v x t) (b : Below W.heap.size W W') : Vb W' cs X Y v x t :=
  ⟨h.li.stay (fun _ _ e => e) (fun g t c hb _ _ => hb.below b hb.lt), h.lr.keep (fun _ _ e => e) (KpR.of_below b), h.ok, h.un, h.vb.below b h.vb.lt, h.xb.below b h.xb.lt⟩
theorem kp_upd_r (hM : Ms N W m H A B cv cs ps) (u : Upd W W' (fun k => k = A ∨ cv.ownBlock = some k)) (E : Nat → Prop) : KpR E W W' := fun g t c hb ht _ => kp_upd hM u hb (by rcases ht with rfl | rfl <;> decide) (by rcases ht with rfl | rfl <;> decide)
theorem kp_upd_e (hM : Ms N W m H A B cv cs ps) (u : Upd W W' (fun k => k = A ∨ cv.ownBlock = some k)) (E : Nat → Prop) : KpE E W W' := fun g t c hb ht _ => kp_upd hM u hb (by rcases ht with rfl | rfl | rfl <;> decide) (by rcases ht with rfl | rfl | rfl <;> decide)
theorem Vb.more (h : Vb W cs X Y v x t) (hM : Ms N W m H A B cv cs ps) (u : Upd W W' (fun k => k = A ∨ cv.ownBlock = some k)) (ds : List Cell) : Vb W' (cs ++ ds) X Y v x t :=
  ⟨h.li.keep ds (fun _ _ e => e) (kp_upd_e hM u _), h.lr.keep (fun _ _ e => e) (kp_upd_r hM u _), h.ok, h.un, kp_upd hM u h.vb (by decide) (by decide), kp_upd hM u h.xb (by decide) (by decide)⟩
end
abbrev row6 (v a : K3) : Array Value := #[.int .i64 v.1, .int .i64 v.2.1, .string v.2.2, .int .i64 a.1, .int .i64 a.2.1, .string a.2.2]
abbrev row8 (x y : K4) : Array Value := #[.int .i64 x.1, .int .i64 x.2.1, .string x.2.2.1, x.2.2.2, .int .i64 y.1, .int .i64 y.2.1, .string y.2.2.1, y.2.2.2]
/-- Two grown values; and, where there is one: the row of the machine's values, its array, the row of the document's, its object. -/
structure KS (w : World) (N m H A B : Nat) (ps : List Int) (X6 X7 X9 X10 : Nat) (v a : K3) (x y : K4) (t t' : Tr) (r : Option Nat) (n : Option Int) (d q : Option Nat) (cv : Value) (cs : List Cell) (W : World) : Prop where
  ms : Ms N W m H A B cv cs ps
  len : cs.length ≤ 2000
  pv : Vb W cs X6 X7 v x t
  qv : Vb W cs X9 X10 a y t'
  tb : Tbs w
  fb : Fb w
  nn : w.heap.size ≤ N ∧ N ≤ W.heap.size
  bel : Below w.heap.size w W
  hr : ∀ g, r = some g → Blk W g 30 (row6 v a)
  hn : ∀ k, n = some k → ArrM W cs NoB (9, k, ⟨#[]⟩) [v, a]
  hd : ∀ g, d = some g → Blk W g 33 (row8 x y)
  hq : ∀ g, q = some g → ArrR W NoB (9, 0, ⟨#[]⟩, .pointer (some ⟨g, 0, none⟩)) [x, y]
section
variable {w : World} {N m H A B : Nat} {ps : List Int} {X6 X7 X9 X10 : Nat} {v a : K3} {x y : K4} {t t' : Tr} {r : Option Nat} {n : Option Int} {d q : Option Nat} {cv : Value} {cs : List Cell} {W W' : World}
theorem KS.below (h : KS w N m H A B ps X6 X7 X9 X10 v a x y t t' r n d q cv cs W) (b : Below W.heap.size W W') : KS w N m H A B ps X6 X7 X9 X10 v a x y t t' r n d q cv cs W' :=
  ⟨h.ms.below b, h.len, h.pv.below b, h.qv.below b, h.tb, h.fb, ⟨h.nn.1, Nat.le_trans h.nn.2 b.size⟩, h.bel.trans (b.mono h.bel.size), fun g e => (h.hr g e).below b (h.hr g e).lt,
    fun k e => by have := (h.hn k e).keep [] (fun _ _ e => e) (fun g t c hb _ _ => hb.below b hb.lt); rwa [List.append_nil] at this, fun g e => (h.hd g e).below b (h.hd g e).lt, fun g e => (h.hq g e).keep (fun _ _ e => e) (KpR.of_below b)⟩
theorem KS.row (h : KS w N m H A B ps X6 X7 X9 X10 v a x y t t' r n d q cv cs W) : KS w N m H A B ps X6 X7 X9 X10 v a x y t t' (some W.heap.size) n d q cv cs (W.alloc (.cells (row6 v a) 30)) := by
  have k := h.below ((Below.refl W.heap.size W).alloc (Nat.le_refl _) (.cells (row6 v a) 30))
  exact ⟨k.ms, k.len, k.pv, k.qv, k.tb, k.fb, k.nn, k.bel, fun g e => by cases e; exact Blk.new _ _ _, k.hn, k.hd, k.hq⟩
theorem KS.rrow (h : KS w N m H A B ps X6 X7 X9 X10 v a x y t t' r n d q cv cs W) : KS w N m H A B ps X6 X7 X9 X10 v a x y t t' r n (some W.heap.size) q cv cs (W.alloc (.cells (row8 x y) 33)) := by
  have k := h.below ((Below.refl W.heap.size W).alloc (Nat.le_refl _) (.cells (row8 x y) 33))
  exact ⟨k.ms, k.len, k.pv, k.qv, k.tb, k.fb, k.nn, k.bel, k.hr, k.hn, fun g e => by cases e; exact Blk.new _ _ _, k.hq⟩
theorem KS.robj {g : Nat} (h : KS w N m H A B ps X6 X7 X9 X10 v a x y t t' r n (some g) q cv cs W) : KS w N m H A B ps X6 X7 X9 X10 v a x y t t' r n (some g) (some W.heap.size) cv cs (W.alloc (.cells (robC arrS (.slice (some ⟨g, 0, none⟩) 2 2) 0 0 ⟨#[]⟩) 46)) := by
  have k := h.below ((Below.refl W.heap.size W).alloc (Nat.le_refl _) (.cells (robC arrS (.slice (some ⟨g, 0, none⟩) 2 2) 0 0 ⟨#[]⟩) 46))
  refine ⟨k.ms, k.len, k.pv, k.qv, k.tb, k.fb, k.nn, k.bel, k.hr, k.hn, k.hd, fun g' e => ?_⟩
  cases e
  refine ⟨_, _, 2, rfl, Blk.new _ _ _, id, fun _ => ⟨g, _, rfl, k.hd g rfl, id, fun i hi => ?_⟩⟩
  match i, hi with | 0, _ => rfl | 1, _ => rfl | 2, _ => rfl | 3, _ => rfl | 4, _ => rfl | 5, _ => rfl | 6, _ => rfl | 7, _ => rfl
theorem KS.arr {g : Nat} (h : KS w N m H A B ps X6 X7 X9 X10 v a x y t t' (some g) n d q cv cs W) (hl : cs.length ≤ 1999) : Calls Tryz.prog 11 #[.pointer (some ⟨m, 0, none⟩), .slice (some ⟨g, 0, none⟩) 2 2] W fun e W' => ∃ k cv' cs', e = .returned (VS 9 k ⟨#[]⟩) ∧ KS w N m H A B ps X6 X7 X9 X10 v a x y t t' (some g) (some k) d q cv' cs' W' := by
  refine (h.ms.array2 (some ⟨g, 0, none⟩) 2 2 (by omega) h.nn.2).mono ?_
  rintro e W1 ⟨b, T, cv', rfl, hM, hB, hT, hTb, hK, b1, u, hO⟩
  refine ⟨_, cv', _, rfl, hM, by simp; omega, h.pv.more h.ms u _, h.qv.more h.ms u _, h.tb, h.fb, ⟨h.nn.1, Nat.le_trans h.nn.2 u.size⟩, h.bel.trans (b1.mono h.nn.1), fun g' e => kp_upd h.ms u (h.hr g' e) (by decide) (by decide), fun k e => ?_, fun g' e => kp_upd h.ms u (h.hd g' e) (by decide) (by decide), fun g' e => (h.hq g' e).keep (fun _ _ e => e) (kp_upd_r h.ms u _)⟩
  cases e
  refine ⟨_, b, T, _, 2, _, rfl, objP_last cs b, hB, id, fun _ => ⟨g, _, rfl, kp_upd h.ms u (h.hr g rfl) (by decide) (by decide), id, fun i hi => ?_⟩⟩
  match i, hi with | 0, _ => rfl | 1, _ => rfl | 2, _ => rfl | 3, _ => rfl | 4, _ => rfl | 5, _ => rfl
theorem KS.show1 (h : KS w N m H A B ps X6 X7 X9 X10 v a x y t t' r n d q cv cs W) : Calls Tryz.prog 9 #[.pointer (some ⟨m, 0, none⟩), VK v] W (ShwP ⟨(prT t 0).toArray⟩ W) := by
  have hsz := prT_len t 0 h.pv.ok
  have h0 : lenC 0 ≤ 7400 := by decide
  have h1 := h.pv.un
  exact Show_any m v.1 v.2.1 v.2.2 _ (by show (prT t 0).toArray.size ≤ 16384; rw [List.size_toArray]; omega) W (fun W' b => lies_show h.ms (by have := h.len; omega) (h.tb.below h.bel) (h.fb.below h.bel) t v 0 h.pv.li h.pv.ok (by omega) (by omega) W' b)
theorem KS.show2 (h : KS w N m H A B ps X6 X7 X9 X10 v a x y t t' r n d q cv cs W) : Calls Tryz.prog 9 #[.pointer (some ⟨m, 0, none⟩), VK a] W (ShwP ⟨(prT t' 0).toArray⟩ W) := by
  have hsz := prT_len t' 0 h.qv.ok
  have h0 : lenC 0 ≤ 7400 := by decide
  have h1 := h.qv.un
  exact Show_any m a.1 a.2.1 a.2.2 _ (by show (prT t' 0).toArray.size ≤ 16384; rw [List.size_toArray]; omega) W (fun W' b => lies_show h.ms (by have := h.len; omega) (h.tb.below h.bel) (h.fb.below h.bel) t' a 0 h.qv.li h.qv.ok (by omega) (by omega) W' b)
theorem KS.rshow1 (h : KS w N m H A B ps X6 X7 X9 X10 v a x y t t' r n d q cv cs W) : Calls Tryz.prog 10 #[VQ x, .int .i64 0] W (ShwP ⟨(prT t 0).toArray⟩ W) :=
  lies_rshow (h.tb.below h.bel) t x 0 h.pv.lr h.pv.ok (by have := h.pv.un; omega) (by omega) W (Below.refl _ _)
theorem KS.rshow2 (h : KS w N m H A B ps X6 X7 X9 X10 v a x y t t' r n d q cv cs W) : Calls Tryz.prog 10 #[VQ y, .int .i64 0] W (ShwP ⟨(prT t' 0).toArray⟩ W) :=
  lies_rshow (h.tb.below h.bel) t' y 0 h.qv.lr h.qv.ok (by have := h.qv.un; omega) (by omega) W (Below.refl _ _)
theorem KS.show3 {k : Int} (h : KS w N m H A B ps X6 X7 X9 X10 v a x y t t' r (some k) d q cv cs W) : Calls Tryz.prog 9 #[.pointer (some ⟨m, 0, none⟩), VS 9 k ⟨#[]⟩] W (ShwP ⟨(prT (.ar2 t t') 0).toArray⟩ W) := by
  have ok : OkT (.ar2 t t') := ⟨h.pv.ok, h.qv.ok⟩
  have un : unT (.ar2 t t') ≤ 1000 := by have h1 := h.pv.un; have h2 := h.qv.un; show unT t + unT t' ≤ _; omega
  have hsz := prT_len (.ar2 t t') 0 ok
  have h0 : lenC 0 ≤ 7400 := by decide
  exact Show_any m 9 k ⟨#[]⟩ _ (by show (prT (.ar2 t t') 0).toArray.size ≤ 16384; rw [List.size_toArray]; omega) W (fun W' b => lies_show h.ms (by have := h.len; omega) (h.tb.below h.bel) (h.fb.below h.bel) (.ar2 t t') (9, k, ⟨#[]⟩) 0 ⟨v, a, h.hn k rfl, h.pv.li, h.qv.li⟩ ok un (by omega) W' b)
theorem KS.rshow3 {g : Nat} (h : KS w N m H A B ps X6 X7 X9 X10 v a x y t t' r n d (some g) cv cs W) : Calls Tryz.prog 10 #[VR 9 0 ⟨#[]⟩ (.pointer (some ⟨g, 0, none⟩)), .int .i64 0] W (ShwP ⟨(prT (.ar2 t t') 0).toArray⟩ W) := by
  have ok : OkT (.ar2 t t') := ⟨h.pv.ok, h.qv.ok⟩
  have un : unT (.ar2 t t') ≤ 1000 := by have h1 := h.pv.un; have h2 := h.qv.un; show unT t + unT t' ≤ _; omega
  exact lies_rshow (h.tb.below h.bel) (.ar2 t t') (9, 0, ⟨#[]⟩, .pointer (some ⟨g, 0, none⟩)) 0 ⟨x, y, h.hq g rfl, h.pv.lr, h.qv.lr⟩ ok un (by omega) W (Below.refl _ _)
end
theorem KS.row3 {w : World} {N m H A B : Nat} {ps : List Int} {X6 X7 X9 X10 : Nat} {v1 v2 : Int} {v3 : ByteArray} {a1 a2 : Int} {a3 : ByteArray} {x y : K4} {t t' : Tr} {r : Option Nat} {n : Option Int} {d q : Option Nat} {cv : Value} {cs : List Cell} {W : World} (h : KS w N m H A B ps X6 X7 X9 X10 (v1, v2, v3) (a1, a2, a3) x y t t' r n d q cv cs W) :
    KS w N m H A B ps X6 X7 X9 X10 (v1, v2, v3) (a1, a2, a3) x y t t' (some W.heap.size) n d q cv cs (W.alloc (.cells #[.int .i64 v1, .int .i64 v2, .string v3, .int .i64 a1, .int .i64 a2, .string a3] 30)) := h.row
theorem KS.rrow3 {w : World} {N m H A B : Nat} {ps : List Int} {X6 X7 X9 X10 : Nat} {v a : K3} {x1 x2 : Int} {x3 : ByteArray} {x4 : Value} {y1 y2 : Int} {y3 : ByteArray} {y4 : Value} {t t' : Tr} {r : Option Nat} {n : Option Int} {d q : Option Nat} {cv : Value} {cs : List Cell} {W : World} (h : KS w N m H A B ps X6 X7 X9 X10 v a (x1, x2, x3, x4) (y1, y2, y3, y4) t t' r n d q cv cs W) :
    KS w N m H A B ps X6 X7 X9 X10 v a (x1, x2, x3, x4) (y1, y2, y3, y4) t t' r n (some W.heap.size) q cv cs (W.alloc (.cells #[.int .i64 x1, .int .i64 x2, .string x3, x4, .int .i64 y1, .int .i64 y2, .string y3, y4] 33)) := h.rrow
/-- What the boxes' cells tell. -/
structure SB (X6 X7 X9 X10 : Nat) (v1 v2 : Int) (v3 : ByteArray) (a1 a2 : Int) (a3 : ByteArray) (x1 x2 : Int) (x3 : ByteArray) (x4 : Option Addr) (y1 y2 : Int) (y3 : ByteArray) (y4 : Option Addr) (W : World) : Prop where
  v0 : W.cell? ⟨X6, 0, none⟩ = some (.int .i64 v1)
  v1 : W.cell? ⟨X6, 1, none⟩ = some (.int .i64 v2)
  v2 : W.cell? ⟨X6, 2, none⟩ = some (.string v3)
  a0 : W.cell? ⟨X9, 0, none⟩ = some (.int .i64 a1)
  a1 : W.cell? ⟨X9, 1, none⟩ = some (.int .i64 a2)
  a2 : W.cell? ⟨X9, 2, none⟩ = some (.string a3)
  x0 : W.cell? ⟨X7, 0, none⟩ = some (.int .i64 x1)
  x1 : W.cell? ⟨X7, 1, none⟩ = some (.int .i64 x2)
  x2 : W.cell? ⟨X7, 2, none⟩ = some (.string x3)
  x3 : W.cell? ⟨X7, 3, none⟩ = some (.pointer x4)
  y0 : W.cell? ⟨X10, 0, none⟩ = some (.int .i64 y1)
  y1 : W.cell? ⟨X10, 1, none⟩ = some (.int .i64 y2)
  y2 : W.cell? ⟨X10, 2, none⟩ = some (.string y3)
  y3 : W.cell? ⟨X10, 3, none⟩ = some (.pointer y4)
theorem KS.sb {w : World} {N m H A B : Nat} {ps : List Int} {X6 X7 X9 X10 : Nat} {v1 v2 : Int} {v3 : ByteArray} {a1 a2 : Int} {a3 : ByteArray} {x1 x2 : Int} {x3 : ByteArray} {x4 : Option Addr} {y1 y2 : Int} {y3 : ByteArray} {y4 : Option Addr} {t t' : Tr} {r : Option Nat} {n : Option Int} {d q : Option Nat} {cv : Value} {cs : List Cell} {W : World}
    (h : KS w N m H A B ps X6 X7 X9 X10 (v1, v2, v3) (a1, a2, a3) (x1, x2, x3, .pointer x4) (y1, y2, y3, .pointer y4) t t' r n d q cv cs W) : SB X6 X7 X9 X10 v1 v2 v3 a1 a2 a3 x1 x2 x3 x4 y1 y2 y3 y4 W :=
  ⟨by rw [h.pv.vb.cell]; rfl, by rw [h.pv.vb.cell]; rfl, by rw [h.pv.vb.cell]; rfl, by rw [h.qv.vb.cell]; rfl, by rw [h.qv.vb.cell]; rfl, by rw [h.qv.vb.cell]; rfl,
   by rw [h.pv.xb.cell]; rfl, by rw [h.pv.xb.cell]; rfl, by rw [h.pv.xb.cell]; rfl, by rw [h.pv.xb.cell]; rfl, by rw [h.qv.xb.cell]; rfl, by rw [h.qv.xb.cell]; rfl, by rw [h.qv.xb.cell]; rfl, by rw [h.qv.xb.cell]; rfl⟩
end Go.Proofs.YtdeboajjhpecbaaGreatDoor.Hp
