/- ShY: several texts in one. -/
import Derived.Test.YtdeboajjhpecbaaDoorShR
import Derived.Test.YtdeboajjhpecbaaDoorShU
/- Show: a machine with an error and its prototype. -/
set_option linter.unusedVariables false
set_option linter.unusedSimpArgs false
namespace Go.Proofs.YtdeboajjhpecbaaDoor.Hp
open Go.RowKit Go.Proofs.YtdeboajjhpecbaaDoor Go.Shelf
theorem objP_zero (cs : List Cell) : objP cs 0 = .pointer none := by
  unfold objP
  rw [if_neg (fun h => by omega)]
/-- A machine with one plain object. -/
structure P1 (w0 : World) (N m H A B : Nat) (cv : Value) (cs : List Cell) (ps : List Int) (r b T : Nat) (As : List Ent) (O : Nat → Prop) (w : World) : Prop where
  ms : Ms N w m H A B cv cs ps
  len : cs.length ≤ 100
  obj : objP cs (r : Int) = .pointer (some ⟨b, 0, none⟩)
  ob : Blk w b 36 (objN 0 0 T)
  tab : TabA w T As [] O
  ap : ∀ x, O x → x ≠ m ∧ x ≠ H ∧ x ≠ A ∧ cv.ownBlock ≠ some x ∧ x ≠ b ∧ w0.heap.size ≤ x
  n0 : w0.heap.size ≤ N
  bel : Below w0.heap.size w0 w
/-- And with an error, whose prototype it is. -/
structure P2 (w0 : World) (N m H A B : Nat) (cv : Value) (cs : List Cell) (ps : List Int) (r b T : Nat) (As : List Ent) (O : Nat → Prop) (q c U : Nat) (Bs : List Ent) (V : Nat → Prop) (w : World) : Prop where
  p1 : P1 w0 N m H A B cv cs ps r b T As O w
  obj : objP cs (q : Int) = .pointer (some ⟨c, 0, none⟩)
  ob : Blk w c 36 (objN 12 (r : Int) U)
  tab : TabA w U Bs [] V
  ap : ∀ x, V x → x ≠ m ∧ x ≠ H ∧ x ≠ A ∧ cv.ownBlock ≠ some x ∧ x ≠ b ∧ x ≠ c ∧ ¬ O x ∧ w0.heap.size ≤ x
  bc : c ≠ b
  co : ∀ x, O x → x ≠ c
section
variable {w0 : World} {N m H A B : Nat} {cv : Value} {cs : List Cell} {ps : List Int} {r b T q c U : Nat} {As As' Bs Bs' : List Ent} {O O' V V' : Nat → Prop} {w w' : World}
theorem P1.below (h : P1 w0 N m H A B cv cs ps r b T As O w) (bb : Below w.heap.size w w') : P1 w0 N m H A B cv cs ps r b T As O w' :=
  ⟨h.ms.below bb, h.len, h.obj, h.ob.below bb h.ob.lt, h.tab.below bb, h.ap, h.n0, h.bel.trans (bb.mono h.bel.size)⟩
theorem P1.turn (h : P1 w0 N m H A B cv cs ps r b T As O w) (hT : TabA w' T As' [] O') (hO : ∀ x, O' x → O x ∨ w.heap.size ≤ x) (u : Upd w w' O) : P1 w0 N m H A B cv cs ps r b T As' O' w' := by
  have hm := h.ms.mb.lt
  have hH := h.ms.hx.hb.lt
  have hA := h.ms.hx.ar.blk.lt
  have hc := fun g hg => (h.ms.hx.ar.cells.lt g hg).2
  have hb := h.ob.lt
  refine ⟨h.ms.upd u (fun e => (h.ap _ e).1 rfl) (fun e => (h.ap _ e).2.1 rfl) (fun e => (h.ap _ e).2.2.1 rfl) (fun g hg e => (h.ap _ e).2.2.2.1 hg), h.len, h.obj, u.blk h.ob (fun e => (h.ap _ e).2.2.2.2.1 rfl), hT, ?_, h.n0, h.bel.trans (u.below h.bel.size (fun k e => (h.ap _ e).2.2.2.2.2))⟩
  intro x hx
  rcases hO x hx with h1 | h1
  · exact h.ap x h1
  · exact ⟨by omega, by omega, by omega, fun e => by have := hc x e; omega, by omega, Nat.le_trans h.bel.size h1⟩
theorem P2.below (h : P2 w0 N m H A B cv cs ps r b T As O q c U Bs V w) (bb : Below w.heap.size w w') : P2 w0 N m H A B cv cs ps r b T As O q c U Bs V w' :=
  ⟨h.p1.below bb, h.obj, h.ob.below bb h.ob.lt, h.tab.below bb, h.ap, h.bc, h.co⟩
theorem P2.turn (h : P2 w0 N m H A B cv cs ps r b T As O q c U Bs V w) (hT : TabA w' U Bs' [] V') (hV : ∀ x, V' x → V x ∨ w.heap.size ≤ x) (u : Upd w w' V) : P2 w0 N m H A B cv cs ps r b T As O q c U Bs' V' w' := by
  have hm := h.p1.ms.mb.lt
  have hH := h.p1.ms.hx.hb.lt
  have hA := h.p1.ms.hx.ar.blk.lt
  have hcl := fun g hg => (h.p1.ms.hx.ar.cells.lt g hg).2
  have hb := h.p1.ob.lt
  have hc := h.ob.lt
  refine ⟨⟨h.p1.ms.upd u (fun e => (h.ap _ e).1 rfl) (fun e => (h.ap _ e).2.1 rfl) (fun e => (h.ap _ e).2.2.1 rfl) (fun g hg e => (h.ap _ e).2.2.2.1 hg), h.p1.len, h.p1.obj, u.blk h.p1.ob (fun e => (h.ap _ e).2.2.2.2.1 rfl), h.p1.tab.upd u (fun k hk e => (h.ap k e).2.2.2.2.2.2.1 hk), h.p1.ap, h.p1.n0, h.p1.bel.trans (u.below h.p1.bel.size (fun k e => (h.ap _ e).2.2.2.2.2.2.2))⟩, h.obj, u.blk h.ob (fun e => (h.ap _ e).2.2.2.2.2.1 rfl), hT, ?_, h.bc, h.co⟩
  intro x hx
  rcases hV x hx with h1 | h1
  · exact h.ap x h1
  · exact ⟨by omega, by omega, by omega, fun e => by have := hcl x e; omega, by omega, by omega, fun e => by have := h.p1.tab.lt x e; omega, Nat.le_trans h.p1.bel.size h1⟩
theorem P1.make (h : P1 w0 N m H A B cv cs ps r b T As O w) (hl : cs.length ≤ 90) :
    Calls Tryd.prog 11 #[.pointer (some ⟨H, 0, none⟩), .int .i64 12, .int .i64 (r : Int)] w fun e w' => ∃ c U cv' V, e = .returned (.tuple #[.int .i64 ((cs.length + 1 : Nat) : Int), .pointer (some ⟨c, 0, none⟩)]) ∧
      P2 w0 N m H A B cv' (cs ++ [(some (tObj, c), false)]) ps r b T As O (cs.length + 1) c U [] V w' := by
  refine (h.ms.make2 12 (r : Int) (by omega) (Nat.le_trans h.ms.low.2.2.1 h.ms.low.2.2.2)).mono ?_
  rintro e w' ⟨c, U, cv', rfl, hM, hB, hT, h3, h4, hK, b6, hU, hO⟩
  obtain ⟨tc, htc⟩ := tabA_blk hT
  have hm := h.ms.mb.lt
  have hH := h.ms.hx.hb.lt
  have hA := h.ms.hx.ar.blk.lt
  have hb := h.ob.lt
  refine ⟨c, U, cv', _, rfl, ⟨hM, by simp; omega, objP_app cs _ _ b h.obj, hK _ _ _ h.ob (by simp), h.tab.upd hU (fun k hk e => e.elim (h.ap k hk).2.2.1 (h.ap k hk).2.2.2.1), ?_, h.n0, h.bel.trans (b6.mono h.n0)⟩, objP_last cs c, hB, hT, ?_, by omega, ?_⟩
  · intro x hx
    have h1 := h.ap x hx
    have h2 := h.tab.lt x hx
    exact ⟨h1.1, h1.2.1, h1.2.2.1, fun e => (hO x e).elim h1.2.2.2.1 (fun e => by omega), h1.2.2.2.2.1, h1.2.2.2.2.2⟩
  · rintro x rfl
    exact ⟨by omega, by omega, by omega, fun e => own_blk_ne hM.hx.ar.cells htc (by decide) e, by omega, by omega, fun e => by have := h.tab.lt x e; omega, Nat.le_trans h.bel.size h3⟩
  · intro x hx
    have h2 := h.tab.lt x hx
    omega
theorem P2.own0 (h : P2 w0 N m H A B cv cs ps r b T As O q c U Bs V w) (k : K3) (hk : k.2.2.size ≤ 4000) : Calls Tryd.prog 39 #[.pointer (some ⟨c, 0, none⟩), VK k] w (GetP Bs k w) :=
  own_plain c U 12 r false nilS nilP nilP nilS 0 Bs [] V k w h.ob h.tab hk (by decide)
theorem P2.own1 (h : P2 w0 N m H A B cv cs ps r b T As O q c U Bs V w) (k : K3) (hk : k.2.2.size ≤ 4000) : Calls Tryd.prog 39 #[.pointer (some ⟨b, 0, none⟩), VK k] w (GetP As k w) :=
  own_plain b T 0 0 false nilS nilP nilP nilS 0 As [] O k w h.p1.ob h.p1.tab hk (by decide)
theorem P2.objc (h : P2 w0 N m H A B cv cs ps r b T As O q c U Bs V w) (x : Int) (v : Value) (hv : objP cs x = v) : ∀ W, Below w.heap.size w W → Calls Tryd.prog 22 #[.pointer (some ⟨H, 0, none⟩), .int .i64 x] W fun e W' => e = .returned v ∧ Below W.heap.size W W' := fun W hW => by
  refine (obj_anyS x (h.below hW).p1.ms.hx (by have := h.p1.len; omega) h.p1.ms.hk).mono ?_
  rintro e W' ⟨rfl, n, rfl⟩
  exact ⟨by rw [hv], below_drw (Below.refl _ _) n⟩
theorem P2.find (h : P2 w0 N m H A B cv cs ps r b T As O q c U Bs V w) (k v0 v1 : K3) (f0 f1 : Int) (ok0 ok1 : Bool) (hk : k.2.2.size ≤ 4000) (g0 : ∀ W e W', GetP Bs k W e W' → e = .returned (.tuple #[VK v0, .int .i64 f0, .bool ok0]) ∧ Below W.heap.size W W')
    (g1 : ∀ W e W', GetP As k W e W' → e = .returned (.tuple #[VK v1, .int .i64 f1, .bool ok1]) ∧ Below W.heap.size W W') :
    Calls Tryd.prog 36 #[.pointer (some ⟨H, 0, none⟩), .int .i64 (q : Int), VK k] w fun e w' => e = .returned (.tuple #[VK (fndV v0 v1 ok0 ok1), .int .i64 (fndF f0 f1 ok0 ok1), .bool (ok0 || ok1)]) ∧ Below w.heap.size w w' :=
  find_two (b0 := c) (b1 := b) (r1 := (r : Int)) h.bc (h.objc _ _ h.obj) (h.objc _ _ h.p1.obj) (h.objc _ _ (objP_zero cs)) (by rw [h.ob.cell]; rfl) (by rw [h.p1.ob.cell]; rfl)
    (fun W hW => ((h.below hW).own0 k hk).mono (fun e W' hh => g0 W e W' hh)) (fun W hW => ((h.below hW).own1 k hk).mono (fun e W' hh => g1 W e W' hh))
end
/-- The prototype's properties, and the error's. -/
def pEnts (vn vm : K3) : List Ent := [⟨nameK3, vn, 5, false⟩, ⟨msgK3, vm, 5, false⟩]
def eEnts (hm hn : Bool) (v : K3) : List Ent := (match hm with | true => [⟨msgK3, v, 5, false⟩] | false => []) ++ (match hn with | true => [⟨nameK3, v, 5, false⟩] | false => [])
theorem put_p1 (v : K3) : putA (keyS ⟨#[110, 97, 109, 101]⟩) v 5 [] = [⟨nameK3, v, 5, false⟩] := by rw [keyS_name]; kernel_rfl
theorem put_p2 (v v' : K3) : putA (keyS ⟨#[109, 101, 115, 115, 97, 103, 101]⟩) v' 5 [⟨nameK3, v, 5, false⟩] = pEnts v v' := by rw [keyS_msg]; kernel_rfl
theorem put_e1 (v v0 : K3) : putA (keyS ⟨#[109, 101, 115, 115, 97, 103, 101]⟩) v 5 (eEnts false false v0) = eEnts true false v := by rw [keyS_msg]; kernel_rfl
theorem put_e2 (hm : Bool) (v : K3) : putA (keyS ⟨#[110, 97, 109, 101]⟩) v 5 (eEnts hm false v) = eEnts hm true v := by rw [keyS_name]; cases hm <;> kernel_rfl
theorem nn (v : K3) (f : Int) : isKey nameK3 ⟨nameK3, v, f, false⟩ = true := by kernel_rfl
theorem nm (v : K3) (f : Int) : isKey nameK3 ⟨msgK3, v, f, false⟩ = false := by kernel_rfl
theorem mn (v : K3) (f : Int) : isKey msgK3 ⟨nameK3, v, f, false⟩ = false := by kernel_rfl
theorem mm (v : K3) (f : Int) : isKey msgK3 ⟨msgK3, v, f, false⟩ = true := by kernel_rfl
abbrev Z3 : K3 := (0, 0, ⟨#[]⟩)
def okV (v : K3) : Bool → K3 | true => v | false => Z3
def okF : Bool → Int | true => 5 | false => 0
theorem get_pn {vn vm : K3} {w w' : World} {e : Ending} (h : GetP (pEnts vn vm) nameK3 w e w') : e = .returned (.tuple #[VK vn, .int .i64 5, .bool true]) ∧ Below w.heap.size w w' :=
  get_has (x := ⟨nameK3, vn, 5, false⟩) (fun y hy hk => by
    simp only [pEnts, List.mem_cons, List.not_mem_nil, or_false] at hy
    rcases hy with rfl | rfl
    · rfl
    · rw [nm] at hk; cases hk) (by simp [pEnts]) (nn _ _) h
theorem get_pm {vn vm : K3} {w w' : World} {e : Ending} (h : GetP (pEnts vn vm) msgK3 w e w') : e = .returned (.tuple #[VK vm, .int .i64 5, .bool true]) ∧ Below w.heap.size w w' :=
  get_has (x := ⟨msgK3, vm, 5, false⟩) (fun y hy hk => by
    simp only [pEnts, List.mem_cons, List.not_mem_nil, or_false] at hy
    rcases hy with rfl | rfl
    · rw [mn] at hk; cases hk
    · rfl) (by simp [pEnts]) (mm _ _) h
theorem get_en {hm hn : Bool} {v : K3} {w w' : World} {e : Ending} (h : GetP (eEnts hm hn v) nameK3 w e w') : e = .returned (.tuple #[VK (okV v hn), .int .i64 (okF hn), .bool hn]) ∧ Below w.heap.size w w' := by
  cases hn with
  | true =>
    refine get_has (x := ⟨nameK3, v, 5, false⟩) (fun y hy hk => ?_) (by cases hm <;> simp [eEnts]) (nn _ _) h
    cases hm
    · simp only [eEnts, List.nil_append, List.mem_cons, List.not_mem_nil, or_false] at hy
      rw [hy]
    · simp only [eEnts, List.cons_append, List.nil_append, List.mem_cons, List.not_mem_nil, or_false] at hy
      rcases hy with rfl | rfl
      · rw [nm] at hk; cases hk
      · rfl
  | false =>
    refine get_no (fun y hy => ?_) h
    cases hm
    · simp [eEnts] at hy
    · simp only [eEnts, List.append_nil, List.mem_cons, List.not_mem_nil, or_false] at hy
      rw [hy]; exact nm _ _
theorem get_em {hm hn : Bool} {v : K3} {w w' : World} {e : Ending} (h : GetP (eEnts hm hn v) msgK3 w e w') : e = .returned (.tuple #[VK (okV v hm), .int .i64 (okF hm), .bool hm]) ∧ Below w.heap.size w w' := by
  cases hm with
  | true =>
    refine get_has (x := ⟨msgK3, v, 5, false⟩) (fun y hy hk => ?_) (by cases hn <;> simp [eEnts]) (mm _ _) h
    cases hn
    · simp only [eEnts, List.append_nil, List.mem_cons, List.not_mem_nil, or_false] at hy
      rw [hy]
    · simp only [eEnts, List.cons_append, List.nil_append, List.mem_cons, List.not_mem_nil, or_false] at hy
      rcases hy with rfl | rfl
      · rfl
      · rw [mn] at hk; cases hk
  | false =>
    refine get_no (fun y hy => ?_) h
    cases hn
    · simp [eEnts] at hy
    · simp only [eEnts, List.nil_append, List.mem_cons, List.not_mem_nil, or_false] at hy
      rw [hy]; exact mn _ _
end Go.Proofs.YtdeboajjhpecbaaDoor.Hp

/- Show: how an error is printed. -/
set_option linter.unusedVariables false
set_option linter.unusedSimpArgs false
namespace Go.Proofs.YtdeboajjhpecbaaDoor.Hp
open Go.RowKit Go.Proofs.YtdeboajjhpecbaaDoor Go.Shelf
def pickL (h : Bool) (x y : List Nat) : List Nat := match h with | true => x | false => y
abbrev goL (l : List Nat) : List UInt8 := Tx.goB (Tx.signs l)
theorem goL_len (l : List Nat) (h : l.length ≤ 200) : (goL l).length ≤ 1200 := by
  have h1 := Tx.goB_length (Tx.signs l)
  have h2 := Tx.signs_len l
  show (Tx.goB (Tx.signs l)).length ≤ 1200
  omega
def wantL (B : Bool) (lN lM : List Nat) : List UInt8 := if B then goL lN else goL lN ++ 58 :: 32 :: goL lM
theorem wantL_len (B : Bool) (lN lM : List Nat) (h : lN.length ≤ 200) (h' : lM.length ≤ 200) : (wantL B lN lM).length ≤ 3000 := by
  have h1 := goL_len lN h
  have h2 := goL_len lM h'
  unfold wantL
  cases B <;> simp <;> omega
theorem fnd_pick (hn : Bool) (x y : List Nat) : fndV (okV (7, 0, Tx.uS x) hn) (7, 0, Tx.uS y) hn true = (7, 0, Tx.uS (pickL hn x y)) := by cases hn <;> rfl
theorem uS_empty (l : List Nat) : (Tx.uS l).toList.isEmpty = l.isEmpty := by
  cases l with
  | nil => rw [ByteArray.toList_eq]; rfl
  | cons u l =>
    rw [ByteArray.toList_eq]
    show (Tx.unitsB (u :: l)).isEmpty = false
    rw [Tx.unitsB_cons]
    rfl
section
variable {w0 : World} {N m H A B : Nat} {cv : Value} {cs : List Cell} {ps : List Int} {r b T q c U : Nat} {O V : Nat → Prop} {w : World} {l0 l1 l2 : List Nat} {hm hn : Bool}
theorem P2.woe (h : P2 w0 N m H A B cv cs ps r b T (pEnts (7, 0, Tx.uS l0) (7, 0, Tx.uS l1)) O q c U (eEnts hm hn (7, 0, Tx.uS l2)) V w) (hT : ∀ W, Below w.heap.size w W → Vx.Tb W) (s0 : ByteArray) (lN lM : List Nat) (hN : lN = pickL hn l2 l0) (hM : lM = pickL hm l2 l1) (fN : Tx.Fits lN) (fM : Tx.Fits lM) (nN : lN.length ≤ 200) (nM : lM.length ≤ 200) :
    ∀ W, Below w.heap.size w W → Calls Tryd.prog 15 #[.pointer (some ⟨m, 0, none⟩), VS 9 (q : Int) s0] W (ShwP ⟨(wantL lM.isEmpty lN lM).toArray⟩ W) := by
  intro W hW
  have h2 := h.below hW
  have g1 := goL_len lN nN
  have g2 := goL_len lM nM
  refine woe_any (vn := (7, 0, Tx.uS lN)) (vm := (7, 0, Tx.uS lM)) (fn := fndF (okF hn) 5 hn true) (fm := fndF (okF hm) 5 hm true) (okn := hn || true) (okm := hm || true) (by rw [h2.p1.ms.mb.cell]; rfl) (fun W3 h3 => ?_) (fun W3 h3 => ?_) (fun W3 h3 => ?_) (fun W3 h3 => ?_) (by omega) lM.isEmpty rfl (uS_empty lM)
  · have := (h2.below h3).find nameK3 (okV (7, 0, Tx.uS l2) hn) (7, 0, Tx.uS l0) (okF hn) 5 hn true (by decide) (fun W e W' => get_en) (fun W e W' => get_pn)
    rw [fnd_pick, ← hN] at this
    exact this
  · have := (h2.below h3).find msgK3 (okV (7, 0, Tx.uS l2) hm) (7, 0, Tx.uS l1) (okF hm) 5 hm true (by decide) (fun W e W' => get_em) (fun W e W' => get_pm)
    rw [fnd_pick, ← hM] at this
    exact this
  · exact shs_show (F := True) (E := fun _ => False) h.p1.ms (by have := h.p1.len; omega) hT (Shs.str 9 lN fN (by omega)) W3 (hW.trans (h3.mono hW.size))
  · exact shs_show (F := True) (E := fun _ => False) h.p1.ms (by have := h.p1.len; omega) hT (Shs.str 9 lM fM (by omega)) W3 (hW.trans (h3.mono hW.size))
theorem P2.shs (h : P2 w0 N m H A B cv cs ps r b T (pEnts (7, 0, Tx.uS l0) (7, 0, Tx.uS l1)) O q c U (eEnts hm hn (7, 0, Tx.uS l2)) V w) (hT : ∀ W, Below w.heap.size w W → Vx.Tb W) (s0 : ByteArray) (lN lM : List Nat) (hN : lN = pickL hn l2 l0) (hM : lM = pickL hm l2 l1) (fN : Tx.Fits lN) (fM : Tx.Fits lM) (nN : lN.length ≤ 200) (nM : lM.length ≤ 200) :
    Shs True (fun _ => False) m w cs 0 (9, (q : Int), s0) (wantL lM.isEmpty lN lM) := by
  refine .raw trivial 0 _ _ (fun W hW => show_obj m (q : Int) s0 _ 0 W (fun W' hW' => ?_))
  have hb2 := hW.trans (hW'.mono hW.size)
  have h2 := h.below hb2
  refine object_err (H := H) (b := c) (by decide) (by rw [h2.p1.ms.mb.cell]; rfl) h2.ob (fun W3 h3 => ?_) (fun W3 h3 => h.woe hT s0 lN lM hN hM fN fM nN nM W3 (hb2.trans (h3.mono hb2.size)))
  have := of_obj (q : Int) s0 (h2.below h3).p1.ms.hx (by have := h.p1.len; omega) h.p1.ms.hk
  rw [h.obj] at this
  exact this
end
end Go.Proofs.YtdeboajjhpecbaaDoor.Hp
