/- ShZk: several texts in one. -/
import Derived.Test.YtdeboajjhpecbaaGreatDoorShZo
/- Show: the state within grow of an array. -/
set_option linter.unusedVariables false
set_option linter.unusedSimpArgs false
namespace Go.Proofs.YtdeboajjhpecbaaGreatDoor.Hp
open Go.RowKit Go.Proofs.YtdeboajjhpecbaaGreatDoor Go.Shelf
abbrev Ch := Tr × K3 × K4
/-- Blocks that are no child's. -/
def Ex (w : World) (o : Nat) (av rv : Value) (x : Nat) : Prop := x ≤ w.heap.size + 2 ∨ x = o ∨ av.ownBlock = some x ∨ rv.ownBlock = some x
theorem own_two {w : World} {B B' n n' s s' : Nat} {e e' : TypeId} {v v' : Value} {xs xs' : List Value} (h : w.ownsRow B e s v n xs) (h' : w.ownsRow B' e' s' v' n' xs') (hne : e ≠ e') (g : Nat) (hg : v.ownBlock = some g) : v'.ownBlock ≠ some g := by
  rcases h.2 with ⟨rfl, _⟩ | ⟨g1, cap, cur, rfl, _, hh, _⟩
  · simp [Value.ownBlock] at hg
  · have : g1 = g := by simpa [Value.ownBlock] using hg
    subst this
    exact own_blk_ne (cs := cur) h' hh (Ne.symm hne)
/-- Children C, na of them in the machine's row, nr in the document's. -/
structure AS (N m H A B : Nat) (ps : List Int) (P : List PartV) (w : World) (at_ : Nat) (cv : Value) (cs : List Cell) (o : Nat) (cv2 : Value) (ds : List Cell) (L : List BlkE) (atc : Nat) (C : List Ch) (na nr : Nat) (av rv : Value) (W : World) : Prop where
  gs : Gs N m H A B ps w cv cv2 (cs ++ ds) L W
  dl : ds.length + (at_ + 1) ≤ atc
  ar : W.ownsRow w.heap.size 30 3 av na (valsC ((C.take na).map (·.2.1)))
  rr : W.ownsRow w.heap.size 33 4 rv nr (valsR ((C.take nr).map (·.2.2)))
  li : ∀ c ∈ C, Lies W (cs ++ ds) (Ex w o av rv) c.1 c.2.1
  lr : ∀ c ∈ C, LiesR W (Ex w o av rv) c.1 c.2.2
  ok : ∀ c ∈ C, OkT c.1
  un : (C.map fun c => unT c.1).sum + suP P atc ≤ suP P (at_ + 1)
  le : atc ≤ P.length
  la : ∀ p ∈ L, av.ownBlock ≠ some p.1
  lb : ∀ p ∈ L, rv.ownBlock ≠ some p.1
  nn : na ≤ C.length ∧ nr ≤ C.length ∧ C.length ≤ 3
  ol : o < W.heap.size ∧ w.heap.size + 2 < o ∧ w.heap.size + 2 < W.heap.size
section
variable {N m H A B : Nat} {ps : List Int} {P : List PartV} {w W W' : World} {at_ : Nat} {cv : Value} {cs : List Cell} {o : Nat} {cv2 : Value} {ds : List Cell} {L : List BlkE} {atc : Nat} {C : List Ch} {na nr : Nat} {av rv : Value}
theorem row_lt {B' n s : Nat} {e : TypeId} {v : Value} {xs : List Value} (h : W.ownsRow B' e s v n xs) {g : Nat} (hg : v.ownBlock = some g) : B' ≤ g ∧ g < W.heap.size := h.lt g hg
theorem row_below {B' n s : Nat} {e : TypeId} {v : Value} {xs : List Value} (h : W.ownsRow B' e s v n xs) (b : Below W.heap.size W W') : W'.ownsRow B' e s v n xs :=
  h.kept (row := none) ⟨b.os, b.tape, b.output, b.size, fun k hk _ => b.block k hk⟩ (Classical.em _)
theorem AS.below (h : AS N m H A B ps P w at_ cv cs o cv2 ds L atc C na nr av rv W) (b : Below W.heap.size W W') : AS N m H A B ps P w at_ cv cs o cv2 ds L atc C na nr av rv W' :=
  ⟨h.gs.below b, h.dl, row_below h.ar b, row_below h.rr b, fun c hc => (h.li c hc).stay (fun _ _ e => e) ((Kp.of_below b).e _), fun c hc => (h.lr c hc).keep (fun _ _ e => e) (KpR.of_below b), h.ok, h.un, h.le, h.la, h.lb, h.nn, ⟨Nat.lt_of_lt_of_le h.ol.1 b.size, h.ol.2.1, Nat.lt_of_lt_of_le h.ol.2.2 b.size⟩⟩
theorem AS.new (h : AS N m H A B ps P w at_ cv cs o cv2 ds L atc C na nr av rv W) (t : TypeId) (c : Array Value) (ht : OkTy t) : AS N m H A B ps P w at_ cv cs o cv2 ds ((W.heap.size, t, c) :: L) atc C na nr av rv (W.alloc (.cells c t)) := by
  have h2 := h.below ((Below.refl W.heap.size W).alloc (Nat.le_refl _) (.cells c t))
  refine ⟨h.gs.new t c ht, h2.dl, h2.ar, h2.rr, h2.li, h2.lr, h2.ok, h2.un, h2.le, fun p hp => ?_, fun p hp => ?_, h2.nn, h2.ol⟩
  · rcases List.mem_cons.1 hp with rfl | hp
    · exact fun e => Nat.lt_irrefl _ (row_lt h.ar e).2
    · exact h.la p hp
  · rcases List.mem_cons.1 hp with rfl | hp
    · exact fun e => Nat.lt_irrefl _ (row_lt h.rr e).2
    · exact h.lb p hp
/-- A change of blocks that are no block of L, nor the machine's. -/
theorem Gs.upd {cs2 : List Cell} {M : Nat → Prop} (h : Gs N m H A B ps w cv cv2 cs2 L W) (u : Upd W W' M) (hlo : ∀ k, M k → w.heap.size ≤ k) (hL : ∀ p ∈ L, ¬ M p.1) (hm : ¬ M m) (hH : ¬ M H) (hA : ¬ M A) (hc : ∀ g, cv2.ownBlock = some g → ¬ M g) : Gs N m H A B ps w cv cv2 cs2 L W' :=
  ⟨h.ms.upd u hm hH hA hc, ((h.up.mono (M' := fun k => (k = A ∨ cv.ownBlock = some k) ∨ M k) (fun k _ e => Or.inl e)).trans (u.mono (fun k _ e => Or.inr e))).mono (fun k hk e => e.elim id (fun e => by have := hlo k e; omega)), h.cvO, fun p hp => ⟨(h.blk p hp).1, u.blk (h.blk p hp).2.1 (hL p hp), (h.blk p hp).2.2⟩, h.nd⟩
/-- A child is grown. -/
theorem AS.child (h : AS N m H A B ps P w at_ cv cs o cv2 ds L atc C na nr av rv W) {v : K3} {wv : K4} {en : Nat} {t : Tr} (g : GrowR N m H A B ps P cv2 (cs ++ ds) W atc v wv en t W') (hC : C.length ≤ 2) :
    ∃ cv3 ds3, AS N m H A B ps P w at_ cv cs o cv3 ds3 L en (C ++ [(t, v, wv)]) na nr av rv W' := by
  obtain ⟨⟨cv3, ds', hM, hd, hO, hl⟩, hr, hok, hle, hun, hup⟩ := g
  have hK : ∀ E, KpE E W W' := fun E g' t' c' hb ht _ => kp_upd h.gs.ms hup hb (by rcases ht with rfl | rfl | rfl <;> decide) (by rcases ht with rfl | rfl | rfl <;> decide)
  have hR : ∀ E, KpR E W W' := fun E g' t' c' hb ht _ => kp_upd h.gs.ms hup hb (by rcases ht with rfl | rfl <;> decide) (by rcases ht with rfl | rfl <;> decide)
  have hG := h.gs.more (ds := ds') (by rw [List.append_assoc] at hM ⊢; exact hM) hup hO
  have hsz := hup.size
  have arn : ∀ k, av.ownBlock = some k → ¬ (k = A ∨ cv2.ownBlock = some k) := fun k hk e => e.elim (fun e => own_blk_ne h.ar h.gs.ms.hx.ar.blk (by decide) (e ▸ hk)) (fun e => own_two h.ar h.gs.ms.hx.ar.cells (by decide) k hk e)
  have rrn : ∀ k, rv.ownBlock = some k → ¬ (k = A ∨ cv2.ownBlock = some k) := fun k hk e => e.elim (fun e => own_blk_ne h.rr h.gs.ms.hx.ar.blk (by decide) (e ▸ hk)) (fun e => own_two h.rr h.gs.ms.hx.ar.cells (by decide) k hk e)
  have hex : ∀ x, Ex w o av rv x → x < W.heap.size := fun x e => by
    have h1 := h.ol
    rcases e with e | e | e | e
    · omega
    · omega
    · exact (row_lt h.ar e).2
    · exact (row_lt h.rr e).2
  have htk : ∀ n, n ≤ C.length → (C ++ [(t, v, wv)]).take n = C.take n := fun n hn => by rw [List.take_append_of_le_length hn]
  refine ⟨cv3, ds ++ ds', ⟨by rw [← List.append_assoc]; exact hG, ?_, by rw [htk _ h.nn.1]; exact hup.own h.ar arn, by rw [htk _ h.nn.2.1]; exact hup.own h.rr rrn, fun c hc => ?_, fun c hc => ?_, fun c hc => ?_, ?_, ?_, h.la, h.lb, ?_, ⟨by have := h.ol; omega, h.ol.2.1, by have := h.ol; omega⟩⟩⟩
  · have := h.dl
    rw [List.length_append]; omega
  · rw [← List.append_assoc]
    rcases List.mem_append.1 hc with hc | hc
    · exact (h.li c hc).keep ds' (fun _ _ e => e) (hK _)
    · obtain rfl : c = (t, v, wv) := by simpa using hc
      exact hl.stay (fun x _ e => hex x e) (fun _ _ _ hb _ _ => hb)
  · rcases List.mem_append.1 hc with hc | hc
    · exact (h.lr c hc).keep (fun _ _ e => e) (hR _)
    · obtain rfl : c = (t, v, wv) := by simpa using hc
      exact hr.keep (fun x _ e => hex x e) (fun _ _ _ hb _ _ => hb)
  · rcases List.mem_append.1 hc with hc | hc
    · exact h.ok c hc
    · obtain rfl : c = (t, v, wv) := by simpa using hc
      exact hok
  · have := h.un
    rw [List.map_append, List.sum_append]
    simp only [List.map_cons, List.map_nil, List.sum_cons, List.sum_nil]
    omega
  · have := h.le
    rcases hle with e | e <;> omega
  · have := h.nn
    rw [List.length_append, List.length_singleton]; omega
theorem take_snoc {α : Type} (l : List α) (n : Nat) (x : α) (h : l[n]? = some x) : l.take (n + 1) = l.take n ++ [x] := by
  rw [List.take_add_one, h]; rfl
/-- A child goes into the machine's row. -/
theorem AS.appA (h : AS N m H A B ps P w at_ cv cs o cv2 ds L atc C na nr av rv W) {t : Tr} {v : K3} {wv : K4} (hx : C[na]? = some (t, v, wv)) {g cap : Nat} (hown : W'.ownsRow w.heap.size 30 3 (.slice (some ⟨g, 0, none⟩) (na + 1) cap) (na + 1) (valsC ((C.take na).map (·.2.1)) ++ [.int .i64 v.1, .int .i64 v.2.1, .string v.2.2]))
    (hgrow : W.grownBy W' av.ownBlock) (hat : av.ownBlock = some g ∨ g = W.heap.size) : AS N m H A B ps P w at_ cv cs o cv2 ds L atc C (na + 1) nr (.slice (some ⟨g, 0, none⟩) (na + 1) cap) rv W' := by
  have u : Upd W W' (fun k => av.ownBlock = some k) := Upd.of_grown hgrow (fun k e => e)
  have hK : KpE (Ex w o av rv) W W' := fun g' t' c' hb _ he => u.blk hb (fun e => he (Or.inr (Or.inr (Or.inl e))))
  have hR : KpR (Ex w o av rv) W W' := fun g' t' c' hb _ he => u.blk hb (fun e => he (Or.inr (Or.inr (Or.inl e))))
  have hex : ∀ x, x < W.heap.size → Ex w o (.slice (some ⟨g, 0, none⟩) (na + 1) cap) rv x → Ex w o av rv x := fun x hx e => by
    rcases e with e | e | e | e
    · exact Or.inl e
    · exact Or.inr (Or.inl e)
    · have e' : g = x := by simpa [Value.ownBlock] using e
      subst e'
      rcases hat with e | e
      · exact Or.inr (Or.inr (Or.inl e))
      · omega
    · exact Or.inr (Or.inr (Or.inr e))
  refine ⟨h.gs.upd u (fun k e => (row_lt h.ar e).1) h.la (fun e => own_blk_ne h.ar h.gs.ms.mb (by decide) e) (fun e => own_blk_ne h.ar h.gs.ms.hx.hb (by decide) e) (fun e => own_blk_ne h.ar h.gs.ms.hx.ar.blk (by decide) e) (fun g' hg' e => own_two h.ar h.gs.ms.hx.ar.cells (by decide) g' e hg'), h.dl, ?_, u.own h.rr (fun k hk e => own_two h.ar h.rr (by decide) k e hk), fun c hc => (h.li c hc).stay hex hK, fun c hc => (h.lr c hc).keep hex hR, h.ok, h.un, h.le, fun p hp e => ?_, h.lb, ?_, ⟨Nat.lt_of_lt_of_le h.ol.1 u.size, h.ol.2.1, Nat.lt_of_lt_of_le h.ol.2.2 u.size⟩⟩
  · rw [take_snoc C na _ hx, List.map_append, valsC_append]
    simpa [valsC] using hown
  · have e' : g = p.1 := by simpa [Value.ownBlock] using e
    rcases hat with e2 | e2
    · exact h.la p hp (e' ▸ e2)
    · have := (h.gs.blk p hp).2.1.lt; omega
  · have := (List.getElem?_eq_some_iff.1 hx).1
    have := h.nn
    omega
/-- A child goes into the document's row. -/
theorem AS.appB (h : AS N m H A B ps P w at_ cv cs o cv2 ds L atc C na nr av rv W) {t : Tr} {v : K3} {wv : K4} (hx : C[nr]? = some (t, v, wv)) {g cap : Nat} (hown : W'.ownsRow w.heap.size 33 4 (.slice (some ⟨g, 0, none⟩) (nr + 1) cap) (nr + 1) (valsR ((C.take nr).map (·.2.2)) ++ [.int .i64 wv.1, .int .i64 wv.2.1, .string wv.2.2.1, wv.2.2.2]))
    (hgrow : W.grownBy W' rv.ownBlock) (hat : rv.ownBlock = some g ∨ g = W.heap.size) : AS N m H A B ps P w at_ cv cs o cv2 ds L atc C na (nr + 1) av (.slice (some ⟨g, 0, none⟩) (nr + 1) cap) W' := by
  have u : Upd W W' (fun k => rv.ownBlock = some k) := Upd.of_grown hgrow (fun k e => e)
  have hK : KpE (Ex w o av rv) W W' := fun g' t' c' hb _ he => u.blk hb (fun e => he (Or.inr (Or.inr (Or.inr e))))
  have hR : KpR (Ex w o av rv) W W' := fun g' t' c' hb _ he => u.blk hb (fun e => he (Or.inr (Or.inr (Or.inr e))))
  have hex : ∀ x, x < W.heap.size → Ex w o av (.slice (some ⟨g, 0, none⟩) (nr + 1) cap) x → Ex w o av rv x := fun x hx e => by
    rcases e with e | e | e | e
    · exact Or.inl e
    · exact Or.inr (Or.inl e)
    · exact Or.inr (Or.inr (Or.inl e))
    · have e' : g = x := by simpa [Value.ownBlock] using e
      subst e'
      rcases hat with e | e
      · exact Or.inr (Or.inr (Or.inr e))
      · omega
  refine ⟨h.gs.upd u (fun k e => (row_lt h.rr e).1) h.lb (fun e => own_blk_ne h.rr h.gs.ms.mb (by decide) e) (fun e => own_blk_ne h.rr h.gs.ms.hx.hb (by decide) e) (fun e => own_blk_ne h.rr h.gs.ms.hx.ar.blk (by decide) e) (fun g' hg' e => own_two h.rr h.gs.ms.hx.ar.cells (by decide) g' e hg'), h.dl, u.own h.ar (fun k hk e => own_two h.ar h.rr (by decide) k hk e), ?_, fun c hc => (h.li c hc).stay hex hK, fun c hc => (h.lr c hc).keep hex hR, h.ok, h.un, h.le, h.la, fun p hp e => ?_, ?_, ⟨Nat.lt_of_lt_of_le h.ol.1 u.size, h.ol.2.1, Nat.lt_of_lt_of_le h.ol.2.2 u.size⟩⟩
  · rw [take_snoc C nr _ hx, List.map_append, valsR_append]
    simpa [valsR] using hown
  · have e' : g = p.1 := by simpa [Value.ownBlock] using e
    rcases hat with e2 | e2
    · exact h.lb p hp (e' ▸ e2)
    · have := (h.gs.blk p hp).2.1.lt; omega
  · have := (List.getElem?_eq_some_iff.1 hx).1
    have := h.nn
    omega
/-- The document's object is told of its row. -/
theorem AS.setO {L1 L2 : List BlkE} {t : TypeId} {c c' : Array Value} (h : AS N m H A B ps P w at_ cv cs o cv2 ds (L1 ++ (o, t, c) :: L2) atc C na nr av rv W) (u : Upd W W' (fun k => k = o)) (hb : Blk W' o t c') : AS N m H A B ps P w at_ cv cs o cv2 ds (L1 ++ (o, t, c') :: L2) atc C na nr av rv W' := by
  have hK : KpE (Ex w o av rv) W W' := fun g' t' c' hb _ he => u.blk hb (fun e => he (Or.inr (Or.inl e)))
  have hR : KpR (Ex w o av rv) W W' := fun g' t' c' hb _ he => u.blk hb (fun e => he (Or.inr (Or.inl e)))
  have hla := h.la (o, t, c) (by simp)
  have hlb := h.lb (o, t, c) (by simp)
  have hmem : ∀ p, p ∈ L1 ++ (o, t, c') :: L2 → ∃ p', p' ∈ L1 ++ (o, t, c) :: L2 ∧ p'.1 = p.1 := fun p hp => by
    rcases List.mem_append.1 hp with hp | hp
    · exact ⟨p, List.mem_append.2 (Or.inl hp), rfl⟩
    · rcases List.mem_cons.1 hp with rfl | hp
      · exact ⟨(o, t, c), by simp, rfl⟩
      · exact ⟨p, List.mem_append.2 (Or.inr (List.mem_cons_of_mem _ hp)), rfl⟩
  refine ⟨h.gs.set u hb, h.dl, u.own h.ar (fun k hk e => hla (e ▸ hk)), u.own h.rr (fun k hk e => hlb (e ▸ hk)), fun c hc => (h.li c hc).stay (fun _ _ e => e) hK, fun c hc => (h.lr c hc).keep (fun _ _ e => e) hR, h.ok, h.un, h.le, fun p hp => ?_, fun p hp => ?_, h.nn, ⟨Nat.lt_of_lt_of_le h.ol.1 u.size, h.ol.2.1, Nat.lt_of_lt_of_le h.ol.2.2 u.size⟩⟩
  · obtain ⟨p', hp', e⟩ := hmem p hp
    rw [← e]; exact h.la p' hp'
  · obtain ⟨p', hp', e⟩ := hmem p hp
    rw [← e]; exact h.lb p' hp'
end
end Go.Proofs.YtdeboajjhpecbaaGreatDoor.Hp

/- Show: grow of an array, its beginning, its round, its end. -/
set_option linter.unusedVariables false
set_option linter.unusedSimpArgs false
namespace Go.Proofs.YtdeboajjhpecbaaGreatDoor.Hp
open Go.RowKit Go.Proofs.YtdeboajjhpecbaaGreatDoor Go.Shelf
theorem infoV : (Tryz.prog.info? 33).map (fun i => (i.zero, i.size, i.bytes)) = some (some (.agg #[.int .i64 0, .int .i64 0, .string ⟨#[]⟩, .pointer none]), 4, 40) := by kernel_rfl
theorem Blk.news {W : World} {b : Nat} {t : TypeId} {c : Array Value} (h : Blk W b t c) : ∀ j u, c.toList[j]? = some u → W.cell? ((⟨b, 0, none⟩ : Addr).add j) = some u := World.news_of_block h
theorem LiesR.ptr {w : World} {E : Nat → Prop} {t : Tr} {v : K4} (h : LiesR w E t v) : ∃ p, v.2.2.2 = .pointer p := by
  have ar : ∀ L, ArrR w E v L → ∃ p, v.2.2.2 = .pointer p := fun L h => by
    obtain ⟨q, a, cap, rfl, _⟩ := h
    exact ⟨_, rfl⟩
  match t, h with
  | .lf k n l, h => obtain rfl : v = _ := h; exact ⟨_, rfl⟩
  | .sy l, h => obtain ⟨q, rfl, _⟩ := h; exact ⟨_, rfl⟩
  | .ob c, h => obtain ⟨q, rfl, _⟩ := h; exact ⟨_, rfl⟩
  | .ar0, h => exact ar _ h
  | .ar1 a, h => obtain ⟨x, h, _⟩ := h; exact ar _ h
  | .ar2 a b, h => obtain ⟨x, y, h, _⟩ := h; exact ar _ h
  | .ar3 a b c, h => obtain ⟨x, y, z, h, _⟩ := h; exact ar _ h
def arT : List Tr → Tr
  | [] => .ar0
  | [a] => .ar1 a
  | [a, b] => .ar2 a b
  | [a, b, c] => .ar3 a b c
  | _ => .ar0
section
variable {N m H A B : Nat} {ps : List Int} {P : List PartV} {w W W' : World} {at_ : Nat} {cv : Value} {cs : List Cell} {o : Nat} {cv2 : Value} {ds : List Cell} {L : List BlkE} {atc : Nat} {C : List Ch} {na nr : Nat} {av rv : Value}
theorem AS.sub {L' : List BlkE} (h : AS N m H A B ps P w at_ cv cs o cv2 ds L atc C na nr av rv W) (hs : L'.Sublist L) : AS N m H A B ps P w at_ cv cs o cv2 ds L' atc C na nr av rv W :=
  ⟨⟨h.gs.ms, h.gs.up, h.gs.cvO, fun p hp => h.gs.blk p (hs.subset hp), (hs.map _).nodup h.gs.nd⟩, h.dl, h.ar, h.rr, h.li, h.lr, h.ok, h.un, h.le, fun p hp => h.la p (hs.subset hp), fun p hp => h.lb p (hs.subset hp), h.nn, h.ol⟩
/-- Blocks that are new. -/
theorem AS.addN (h : AS N m H A B ps P w at_ cv cs o cv2 ds L atc C na nr av rv W) (b : Below W.heap.size W W') (Ln : List BlkE) (hn : ∀ p ∈ Ln, W.heap.size ≤ p.1 ∧ Blk W' p.1 p.2.1 p.2.2 ∧ OkTy p.2.1) (hd : (Ln.map (·.1)).Nodup) : AS N m H A B ps P w at_ cv cs o cv2 ds (Ln ++ L) atc C na nr av rv W' := by
  have h2 := h.below b
  have hsz := h.gs.up.size
  refine ⟨⟨h2.gs.ms, h2.gs.up, h2.gs.cvO, fun p hp => ?_, ?_⟩, h2.dl, h2.ar, h2.rr, h2.li, h2.lr, h2.ok, h2.un, h2.le, fun p hp e => ?_, fun p hp e => ?_, h2.nn, h2.ol⟩
  · rcases List.mem_append.1 hp with hp | hp
    · exact ⟨Nat.le_trans hsz (hn p hp).1, (hn p hp).2⟩
    · exact h2.gs.blk p hp
  · rw [List.map_append, List.nodup_append]
    refine ⟨hd, h.gs.nd, fun x hx y hy e => ?_⟩
    obtain ⟨p, hp, rfl⟩ := List.mem_map.1 hx
    obtain ⟨q, hq, rfl⟩ := List.mem_map.1 hy
    have h1 := (hn p hp).1
    have h3 := (h.gs.blk q hq).2.1.lt
    omega
  · rcases List.mem_append.1 hp with hp | hp
    · have h1 := (hn p hp).1
      have h3 := (row_lt h.ar e).2
      omega
    · exact h.la p hp e
  · rcases List.mem_append.1 hp with hp | hp
    · have h1 := (hn p hp).1
      have h3 := (row_lt h.rr e).2
      omega
    · exact h.lb p hp e
/-- Both values of a child, in boxes. -/
theorem AS.boxes (h : AS N m H A B ps P w at_ cv cs o cv2 ds L atc C na nr av rv W) (x y z x' y' z' u' : Value) : AS N m H A B ps P w at_ cv cs o cv2 ds ((W.heap.size + 1, 33, #[x', y', z', u']) :: (W.heap.size, 30, #[x, y, z]) :: L) atc C na nr av rv (set4 (set3 ((W.alloc (.cells VZ 30)).alloc (.cells RZ 33)) W.heap.size x y z) (W.heap.size + 1) x' y' z' u') := by
  have b0 : Below W.heap.size W ((W.alloc (.cells VZ 30)).alloc (.cells RZ 33)) := ((Below.refl _ _).alloc (Nat.le_refl _) _).alloc (by rw [World.size_alloc]; omega) _
  have vb : Blk ((W.alloc (.cells VZ 30)).alloc (.cells RZ 33)) W.heap.size 30 VZ := (Blk.new W _ _).alloc _
  have rb : Blk ((W.alloc (.cells VZ 30)).alloc (.cells RZ 33)) (W.heap.size + 1) 33 RZ := by
    have := Blk.new (W.alloc (.cells VZ 30)) 33 RZ
    rwa [World.size_alloc] at this
  have u := (upd3 ((W.alloc (.cells VZ 30)).alloc (.cells RZ 33)) W.heap.size x y z)
  have u2 := (upd4 (set3 ((W.alloc (.cells VZ 30)).alloc (.cells RZ 33)) W.heap.size x y z) (W.heap.size + 1) x' y' z' u')
  have vb1 : Blk (set3 ((W.alloc (.cells VZ 30)).alloc (.cells RZ 33)) W.heap.size x y z) W.heap.size 30 #[x, y, z] := ((vb.set_ 0 x).set_ 1 y).set_ 2 z
  have rb1 := u.blk rb (by omega)
  have vb2 := u2.blk vb1 (by omega)
  have rb2 : Blk (set4 (set3 ((W.alloc (.cells VZ 30)).alloc (.cells RZ 33)) W.heap.size x y z) (W.heap.size + 1) x' y' z' u') (W.heap.size + 1) 33 #[x', y', z', u'] := (((rb1.set_ 0 x').set_ 1 y').set_ 2 z').set_ 3 u'
  have hb : Below W.heap.size W _ := b0.trans (((u.mono (M' := fun k => k = W.heap.size ∨ k = W.heap.size + 1) (fun _ _ e => Or.inl e)).trans (u2.mono (fun _ _ e => Or.inr e))).below b0.size (fun k e => by omega))
  exact h.addN hb [_, _] (fun p hp => by
    simp only [List.mem_cons, List.not_mem_nil, or_false] at hp
    rcases hp with rfl | rfl
    · exact ⟨by simp, rb2, okTyV⟩
    · exact ⟨by simp, vb2, okTyVal⟩) (by simp)
/-- The beginning. -/
theorem AS.start (h : Gs N m H A B ps w cv cv cs L W) (ho : o < W.heap.size ∧ w.heap.size + 2 < o ∧ w.heap.size + 2 < W.heap.size) (hp : at_ + 1 ≤ P.length) : AS N m H A B ps P w at_ cv cs o cv [] L (at_ + 1) [] 0 0 nilS nilS W :=
  ⟨by rw [List.append_nil]; exact h, by simp, World.ownsRow_nil _ _ _ _, World.ownsRow_nil _ _ _ _, fun c hc => (by cases hc), fun c hc => (by cases hc), fun c hc => (by cases hc), by simp, hp, fun p hp e => (by simp [Value.ownBlock] at e), fun p hp e => (by simp [Value.ownBlock] at e), by simp, ho⟩
/-- A row of the call's own, as a row of an array. -/
theorem row_cells {w : World} {B n s : Nat} {e : TypeId} {v : Value} {xs : List Value} (h : w.ownsRow B e s v n xs) : ∃ a cap, v = .slice a n cap ∧ (0 < n → ∃ g V, a = some ⟨g, 0, none⟩ ∧ Blk w g e V ∧ B ≤ g ∧ ∀ i, i < n * s → V[i]? = xs[i]?) := by
  rcases h.2 with ⟨rfl, rfl⟩ | ⟨g, cap, cur, rfl, hB, hh, h1, h2, h3, h4⟩
  · exact ⟨none, 0, rfl, fun h => absurd h (by omega)⟩
  · refine ⟨_, cap, rfl, fun hn => ⟨g, cur, rfl, hh, hB, fun i hi => ?_⟩⟩
    rw [← h4, List.getElem?_take_of_lt hi, Array.getElem?_toList]
/-- The end: the machine's array, and both results. -/
theorem AS.fin (h : AS N m H A B ps P w at_ cv cs o cv2 ds L atc C C.length C.length av rv W) (hol : (o, 46, robC arrS rv 0 0 ⟨#[]⟩) ∈ L) {W1 : World} {b T : Nat} {pr : Int} {cv3 : Value} (hM : Ms N W1 m H A B cv3 (cs ++ ds ++ [(some (tObj, b), false)]) ps) (hB : Blk W1 b 85 (objA 1 pr false T av nilP nilP nilS 0))
    (hT : W.heap.size ≤ T) (hTb : T < b) (hU : Upd W W1 (fun k => k = A ∨ cv2.ownBlock = some k)) (hO : ∀ g, cv3.ownBlock = some g → cv2.ownBlock = some g ∨ W.heap.size ≤ g) (u : Upd W1 W' (fun k => k = w.heap.size + 1 ∨ k = w.heap.size + 1 + 1))
    (h8 : ∃ c, (w.heap.size + 1, 30, c) ∈ L) (h9 : ∃ c, (w.heap.size + 1 + 1, 33, c) ∈ L) :
    GrowR N m H A B ps P cv cs w at_ (9, (((cs ++ ds).length + 1 : Nat) : Int), ⟨#[]⟩) (9, 0, ⟨#[]⟩, .pointer (some ⟨o, 0, none⟩)) atc (arT (C.map (·.1))) W' := by
  have hG := h.gs.moreB hM hU hO (by omega) hB okTyB
  obtain ⟨c8, h8⟩ := h8
  obtain ⟨c9, h9⟩ := h9
  have b8 := hG.at (List.mem_cons_of_mem _ h8)
  have b9 := hG.at (List.mem_cons_of_mem _ h9)
  have ty : ∀ {g t c}, Blk W1 g t c → t ≠ 30 → t ≠ 33 → Blk W' g t c := fun hb n1 n2 => u.blk hb (fun e => e.elim (fun e => hb.ne_ b8 n1 e) (fun e => hb.ne_ b9 n2 e))
  have hup : Upd w W' (fun k => k = A ∨ cv.ownBlock = some k) := ((hG.up.mono (M' := fun k => (k = A ∨ cv.ownBlock = some k) ∨ (k = w.heap.size + 1 ∨ k = w.heap.size + 1 + 1)) (fun k _ e => Or.inl e)).trans (u.mono (fun k _ e => Or.inr e))).mono (fun k hk e => e.elim id (fun e => by omega))
  have hM' : Ms N W' m H A B cv3 (cs ++ ds ++ [(some (tObj, b), false)]) ps := hM.upd u (fun e => e.elim (fun e => hM.mb.ne_ b8 (by decide) e) (fun e => hM.mb.ne_ b9 (by decide) e)) (fun e => e.elim (fun e => hM.hx.hb.ne_ b8 (by decide) e) (fun e => hM.hx.hb.ne_ b9 (by decide) e)) (fun e => e.elim (fun e => hM.hx.ar.blk.ne_ b8 (by decide) e) (fun e => hM.hx.ar.blk.ne_ b9 (by decide) e)) (fun g hg e => e.elim (fun e => own_blk_ne hM.hx.ar.cells b8 (by decide) (e ▸ hg)) (fun e => own_blk_ne hM.hx.ar.cells b9 (by decide) (e ▸ hg)))
  have hK : KpE (Ex w o av rv) W W' := fun g t c hb ht he => by
    have hb1 := kp_upd h.gs.ms hU hb (by rcases ht with rfl | rfl | rfl <;> decide) (by rcases ht with rfl | rfl | rfl <;> decide)
    exact u.blk hb1 (fun e => he (Or.inl (by omega)))
  have hKR : KpR (Ex w o av rv) W W' := fun g t c hb ht he => by
    have hb1 := kp_upd h.gs.ms hU hb (by rcases ht with rfl | rfl <;> decide) (by rcases ht with rfl | rfl <;> decide)
    exact u.blk hb1 (fun e => he (Or.inl (by omega)))
  have hE : ∀ x, x < W.heap.size → (fun x => x < w.heap.size) x → Ex w o av rv x := fun x _ e => Or.inl (by have : x < w.heap.size := e; omega)
  have li : ∀ c ∈ C, Lies W' (cs ++ ds ++ [(some (tObj, b), false)]) (fun x => x < w.heap.size) c.1 c.2.1 := fun c hc => (h.li c hc).keep _ hE hK
  have lr : ∀ c ∈ C, LiesR W' (fun x => x < w.heap.size) c.1 c.2.2 := fun c hc => (h.lr c hc).keep hE hKR
  have hrow : ∀ {n s e v xs} {t : TypeId}, W.ownsRow w.heap.size e s v n xs → e ≠ 120 → e ≠ 122 → (∀ p ∈ L, v.ownBlock ≠ some p.1) → W'.ownsRow w.heap.size e s v n xs := fun hr n1 n2 hl =>
    u.own (hU.own hr (fun k hk e => e.elim (fun e => own_blk_ne hr h.gs.ms.hx.ar.blk n1 (e ▸ hk)) (fun e => own_two hr h.gs.ms.hx.ar.cells n2 k hk e))) (fun k hk e => e.elim (fun e => hl _ h8 (e ▸ hk)) (fun e => hl _ h9 (e ▸ hk)))
  have har := hrow (t := 0) h.ar (by decide) (by decide) h.la
  have hrr := hrow (t := 0) h.rr (by decide) (by decide) h.lb
  rw [List.take_length] at har hrr
  obtain ⟨a1, cap1, e1, r1⟩ := row_cells har
  obtain ⟨a2, cap2, e2, r2⟩ := row_cells hrr
  have aM : ∀ Lc : List K3, Lc = C.map (·.2.1) → ArrM W' (cs ++ ds ++ [(some (tObj, b), false)]) (fun x => x < w.heap.size) (9, (((cs ++ ds).length + 1 : Nat) : Int), ⟨#[]⟩) Lc := fun Lc hL => by
    subst hL
    refine ⟨_, b, T, a1, cap1, pr, rfl, objP_last (cs ++ ds) b, ?_, ?_, fun hn => ?_⟩
    · rw [List.length_map, ← e1]; exact ty hB (by decide) (by decide)
    · have := h.ol.2.2
      show ¬ b < w.heap.size
      omega
    · rw [List.length_map] at hn ⊢
      obtain ⟨g, V, q1, q2, q3, q4⟩ := r1 hn
      exact ⟨g, V, q1, q2, Nat.not_lt.2 q3, q4⟩
  have aR : ∀ Lc : List K4, Lc = C.map (·.2.2) → ArrR W' (fun x => x < w.heap.size) (9, 0, ⟨#[]⟩, .pointer (some ⟨o, 0, none⟩)) Lc := fun Lc hL => by
    subst hL
    refine ⟨o, a2, cap2, rfl, ?_, ?_, fun hn => ?_⟩
    · rw [List.length_map, ← e2]; exact ty (hG.at (List.mem_cons_of_mem _ hol)) (by decide) (by decide)
    · have := h.ol.2.1
      show ¬ o < w.heap.size
      omega
    · rw [List.length_map] at hn ⊢
      obtain ⟨g, V, q1, q2, q3, q4⟩ := r2 hn
      exact ⟨g, V, q1, q2, Nat.not_lt.2 q3, q4⟩
  have hcv : ∀ g, cv3.ownBlock = some g → cv.ownBlock = some g ∨ w.heap.size ≤ g := hG.cvO
  have hdl := h.dl
  have hun := h.un
  have hnn := h.nn.2.2
  have hok := h.ok
  have hle := h.le
  have hlt := h.ol
  have fM : Ms N W' m H A B cv3 (cs ++ (ds ++ [(some (tObj, b), false)])) ps := by rw [← List.append_assoc]; exact hM'
  have key : Lies W' (cs ++ ds ++ [(some (tObj, b), false)]) (fun x => x < w.heap.size) (arT (C.map (·.1))) (9, (((cs ++ ds).length + 1 : Nat) : Int), ⟨#[]⟩) ∧ LiesR W' (fun x => x < w.heap.size) (arT (C.map (·.1))) (9, 0, ⟨#[]⟩, .pointer (some ⟨o, 0, none⟩)) ∧ OkT (arT (C.map (·.1))) ∧ unT (arT (C.map (·.1))) = (C.map fun c => unT c.1).sum := by
    match C, li, lr, hok, aM, aR, hnn with
    | [], _, _, _, aM, aR, _ => exact ⟨aM [] rfl, aR [] rfl, trivial, rfl⟩
    | [x], li, lr, ok, aM, aR, _ => exact ⟨⟨_, aM [x.2.1] rfl, li x (by simp)⟩, ⟨_, aR [x.2.2] rfl, lr x (by simp)⟩, ok x (by simp), by simp [arT, unT]⟩
    | [x, y], li, lr, ok, aM, aR, _ => exact ⟨⟨_, _, aM [x.2.1, y.2.1] rfl, li x (by simp), li y (by simp)⟩, ⟨_, _, aR [x.2.2, y.2.2] rfl, lr x (by simp), lr y (by simp)⟩, ⟨ok x (by simp), ok y (by simp)⟩, by simp [arT, unT]⟩
    | [x, y, z], li, lr, ok, aM, aR, _ => exact ⟨⟨_, _, _, aM [x.2.1, y.2.1, z.2.1] rfl, li x (by simp), li y (by simp), li z (by simp)⟩, ⟨_, _, _, aR [x.2.2, y.2.2, z.2.2] rfl, lr x (by simp), lr y (by simp), lr z (by simp)⟩, ⟨ok x (by simp), ok y (by simp), ok z (by simp)⟩, by simp [arT, unT]; omega⟩
    | _ :: _ :: _ :: _ :: _, _, _, _, _, _, hn => simp at hn
  obtain ⟨k1, k2, k3, k4⟩ := key
  exact ⟨⟨cv3, ds ++ [(some (tObj, b), false)], fM, by rw [List.length_append, List.length_singleton]; omega, hcv, by rw [← List.append_assoc]; exact k1⟩, k2, k3, Or.inl hle, by
    rw [k4]
    have hs : suP P (at_ + 1) ≤ suP P at_ := by
      unfold suP
      by_cases hi : at_ < P.length
      · rw [List.drop_eq_getElem_cons hi, List.map_cons, List.sum_cons]; omega
      · rw [List.drop_eq_nil_of_le (by omega)]; simp
    omega, hup⟩
end
end Go.Proofs.YtdeboajjhpecbaaGreatDoor.Hp
