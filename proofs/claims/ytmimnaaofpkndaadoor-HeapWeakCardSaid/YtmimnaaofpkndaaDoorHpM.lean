/- The heap: plain objects in a chain. -/
import Derived.Test.YtmimnaaofpkndaaDoorHpL
import Derived.Test.YtmimnaaofpkndaaDoorHpD
set_option linter.unusedVariables false
set_option linter.unusedSimpArgs false
namespace Go.Proofs.YtmimnaaofpkndaaDoor.Hp
open Go.RowKit Go.Proofs.YtmimnaaofpkndaaDoor

/-- An object: its block, its table, the table's entries. -/
structure ObS where
  b : Nat
  T : Nat
  A : List Ent
def cellsOf (l : List ObS) : List Cell := l.map fun o => (some (tObj, o.b), false)
theorem cellsOf_len (l : List ObS) : (cellsOf l).length = l.length := by simp [cellsOf]
theorem cellsOf_get {l : List ObS} {i : Nat} {o : ObS} (h : l[i]? = some o) : (cellsOf l)[i]? = some (some (tObj, o.b), false) := by simp [cellsOf, h]
theorem cellsOf_kind (l : List ObS) : ∀ i n, ((cellsOf l).getD i (none, false)).1 = some n → n.1 = tObj ∨ n.1 = tEnv ∨ n.1 = tMark := by
  intro i n h
  rw [List.getD_eq_getElem?_getD] at h
  cases hc : l[i]? with
  | none => simp [cellsOf, hc] at h
  | some o => rw [cellsOf_get hc] at h; simp at h; subst h; exact .inl rfl
def ownT (lab : Nat → Nat) (i : Nat) (w : World) : Nat → Prop := fun k => lab k = i + 1 ∧ k < w.heap.size
/-- Objects, each the prototype of the next. -/
structure Ch (w0 : World) (H A : Nat) (cv : Value) (lab : Nat → Nat) (l : List ObS) (w : World) : Prop where
  hx : Hx w H A w0.heap.size cv nilS nilS (cellsOf l) [] [] (l.length : Int)
  bel : Below w0.heap.size w0 w
  ob : ∀ (i : Nat) (o : ObS), l[i]? = some o → Blk w o.b 51 (objN 0 (i : Int) o.T) ∧ TabA w o.T o.A [] (ownT lab i w) ∧ (∀ x ∈ o.A, x.flags = 7) ∧ lab o.b = 0
  lH : lab H = 0
  lA : lab A = 0
  lc : ∀ g, cv.ownBlock = some g → lab g = 0
  low : ∀ k, lab k ≠ 0 → w0.heap.size ≤ k
  aw : w0.heap.size ≤ A
section
variable {w0 w w' : World} {H A : Nat} {cv : Value} {lab : Nat → Nat} {l : List ObS}
theorem Ch.below (h : Ch w0 H A cv lab l w) (b : Below w.heap.size w w') : Ch w0 H A cv lab l w' :=
  ⟨h.hx.below b, h.bel.trans (b.mono h.bel.size), fun i o ho => by
    obtain ⟨h1, h2, h3, h4⟩ := h.ob i o ho
    exact ⟨h1.below b h1.lt, (h2.below b).widen (fun k hk => ⟨hk.1, Nat.lt_of_lt_of_le hk.2 b.size⟩) (fun k hk => hk.2), h3, h4⟩, h.lH, h.lA, h.lc, h.low, h.aw⟩
theorem ch_new (w : World) : Ch w (w.heap.size + 1) w.heap.size nilS (fun _ => 0) [] (newW w) :=
  ⟨newW_hx w, newW_below w, fun i o h => by simp at h, rfl, rfl, fun g h => rfl, fun k h => absurd rfl h, Nat.le_refl _⟩
theorem ch_obj (h : Ch w0 H A cv lab l w) (hl : l.length ≤ 1000) (r : Int) : Calls Tryd.prog 11 #[.pointer (some ⟨H, 0, none⟩), .int .i64 r] w fun e w' => e = .returned (objP (cellsOf l) r) ∧ ∃ q, w' = w.drewN q :=
  obj_any r h.hx (by rw [cellsOf_len]; omega) (cellsOf_kind l)
theorem objP_at {i : Nat} {o : ObS} (h : l[i]? = some o) : objP (cellsOf l) ((i : Int) + 1) = .pointer (some ⟨o.b, 0, none⟩) := objP_in (cellsOf_get h)
theorem objP_0 : objP (cellsOf l) 0 = .pointer none := objP_out (.inl (by omega))
/-- Make: one more, its prototype the last. -/
theorem ch_make (h : Ch w0 H A cv lab l w) (hl : l.length ≤ 1000) : Calls Tryd.prog 10 #[.pointer (some ⟨H, 0, none⟩), .int .i64 0, .int .i64 (l.length : Int)] w fun e w' =>
    ∃ b T cv' lab', e = .returned (.tuple #[.int .i64 ((l.length + 1 : Nat) : Int), .pointer (some ⟨b, 0, none⟩)]) ∧ Ch w0 H A cv' lab' (l ++ [⟨b, T, []⟩]) w' := by
  refine (make_any 0 (l.length : Int) h.hx (by omega) (by omega) (by rw [cellsOf_len]; omega) h.bel.size).mono ?_
  rintro e w' ⟨b, T, cv', rfl, hT0, hTb, hob, hT, hX, u, hcv⟩
  rw [cellsOf_len]
  refine ⟨b, T, cv', fun k => if k < w.heap.size then lab k else if k = T then l.length + 1 else 0, rfl, ?_⟩
  have nM : ∀ k, lab k ≠ 0 → ¬ (k = A ∨ cv.ownBlock = some k) := fun k hk e => by
    rcases e with rfl | e
    · exact hk h.lA
    · exact hk (h.lc k e)
  have hTl := hT.lt T rfl
  have hAl := h.hx.ar.blk.lt
  have hHl := h.hx.hb.lt
  have eC : cellsOf (l ++ [⟨b, T, []⟩]) = cellsOf l ++ [(some (tObj, b), false)] := by simp [cellsOf]
  have eL : ((l ++ [(⟨b, T, []⟩ : ObS)]).length : Int) = (l.length : Int) + 1 := by simp
  refine ⟨by rw [eC, eL]; exact hX, h.bel.trans (u.below h.bel.size (fun k e => ?_)), fun i o ho => ?_, ?_, ?_, fun g hg => ?_, fun k hk => ?_, h.aw⟩
  · rcases e with rfl | e
    · exact h.aw
    · exact (h.hx.ar.cells.lt k e).1
  · rcases Nat.lt_or_ge i l.length with hi | hi
    · rw [List.getElem?_append_left hi] at ho
      obtain ⟨h1, h2, h3, h4⟩ := h.ob i o ho
      have h5 := h1.lt
      refine ⟨u.blk h1 (fun e => ?_), (h2.upd u (fun k hk => nM k (by rw [hk.1]; omega))).widen (fun k hk => ⟨?_, Nat.lt_of_lt_of_le hk.2 u.size⟩) (fun k hk => hk.2), h3, ?_⟩
      · rcases e with e | e
        · exact h1.ne_ h.hx.ar.blk (by decide) e
        · exact own_blk_ne h.hx.ar.cells h1 (by decide) e
      · show (if k < w.heap.size then lab k else _) = _
        rw [if_pos hk.2]; exact hk.1
      · show (if o.b < w.heap.size then lab o.b else _) = _
        rw [if_pos h5]; exact h4
    · rw [List.getElem?_append_right hi] at ho
      have hi2 : i = l.length := by
        rcases Nat.lt_or_ge (i - l.length) 1 with h | h
        · omega
        · rw [List.getElem?_eq_none (by simpa using h)] at ho; cases ho
      subst hi2
      rw [Nat.sub_self] at ho
      obtain rfl : (⟨b, T, []⟩ : ObS) = o := by simpa using ho
      refine ⟨hob, hT.widen (fun k hk => ?_) (fun k hk => hk.2), fun x hx => (by cases hx), ?_⟩
      · subst hk
        refine ⟨?_, hTl⟩
        show (if k < w.heap.size then lab k else if k = k then l.length + 1 else 0) = _
        rw [if_neg (by omega), if_pos rfl]
      · show (if b < w.heap.size then lab b else if b = T then l.length + 1 else 0) = 0
        rw [if_neg (by omega), if_neg (by omega)]
  · show (if H < w.heap.size then lab H else _) = _
    rw [if_pos hHl]; exact h.lH
  · show (if A < w.heap.size then lab A else _) = _
    rw [if_pos hAl]; exact h.lA
  · show (if g < w.heap.size then lab g else if g = T then l.length + 1 else 0) = 0
    rcases hcv g hg with e | e
    · rw [if_pos (h.hx.ar.cells.lt g e).2]; exact h.lc g e
    · rw [if_neg (by omega), if_neg (by omega)]
  · have hk' : (if k < w.heap.size then lab k else if k = T then l.length + 1 else 0) ≠ 0 := hk
    split at hk'
    · exact h.low k hk'
    · have := h.bel.size; omega
/-- New blocks are nobody's. -/
theorem Ch.zero (h : Ch w0 H A cv lab l w) : Ch w0 H A cv (fun k => if k < w.heap.size then lab k else 0) l w :=
  ⟨h.hx, h.bel, fun i o ho => by
    obtain ⟨h1, h2, h3, h4⟩ := h.ob i o ho
    exact ⟨h1, h2.widen (fun k hk => ⟨(if_pos hk.2).trans hk.1, hk.2⟩) (fun k hk => hk.2), h3, (if_pos h1.lt).trans h4⟩, (if_pos h.hx.hb.lt).trans h.lH, (if_pos h.hx.ar.blk.lt).trans h.lA, fun g hg => (if_pos (h.hx.ar.cells.lt g hg).2).trans (h.lc g hg), fun k hk => by
    have hk' : (if k < w.heap.size then lab k else 0) ≠ 0 := hk
    split at hk'
    · exact h.low k hk'
    · exact absurd rfl hk', h.aw⟩
/-- Define: an object's property. -/
theorem ch_def (h : Ch w0 H A cv lab l w) {i : Nat} {o : ObS} (ho : l[i]? = some o) (k v : K3) (hk : k.2.2.size ≤ 4000) (hA : o.A.length ≤ 4000) (hfl : ∀ x ∈ putA k v 7 o.A, x.flags = 7) : Calls Tryd.prog 12 #[.pointer (some ⟨o.b, 0, none⟩), VK k, VK v, .int .i64 7] w fun e w' =>
    e = .returned (.bool true) ∧ ∃ lab', Ch w0 H A cv lab' (l.set i ⟨o.b, o.T, putA k v 7 o.A⟩) w' ∧ ∀ g t cs, Blk w g t cs → lab g = 0 → Blk w' g t cs ∧ lab' g = 0 := by
  obtain ⟨h1, h2, h3, h4⟩ := h.ob i o ho
  have hi := (List.getElem?_eq_some_iff.1 ho).1
  refine (define_plain o.b o.T 0 (i : Int) nilS nilP nilP nilS 0 o.A [] (ownT lab i w) k v w h1 h2 hk (by decide) h3 hA (by simp) (fun e => by have h9 := e.1; rw [h4] at h9; omega)).mono ?_
  rintro e w' ⟨rfl, hT, u⟩
  refine ⟨rfl, fun x => if x < w.heap.size then lab x else i + 1, ?_⟩
  have nM : ∀ x, lab x ≠ i + 1 → ¬ ownT lab i w x := fun x hx e => hx e.1
  have eC : cellsOf (l.set i ⟨o.b, o.T, putA k v 7 o.A⟩) = cellsOf l := by
    unfold cellsOf
    rw [List.map_set]
    apply List.ext_getElem?
    intro j
    rw [List.getElem?_set]
    by_cases hj : i = j
    · subst hj
      simp [ho, hi]
      rw [(List.getElem?_eq_some_iff.1 ho).2]
    · rw [if_neg hj]
  have lt_of : ∀ {x : Nat}, x < w.heap.size → (if x < w.heap.size then lab x else i + 1) = lab x := fun hx => if_pos hx
  refine ⟨?_, fun g t cs hg hl => ⟨u.blk hg (nM g (by rw [hl]; omega)), (lt_of hg.lt).trans hl⟩⟩
  refine ⟨by rw [eC, List.length_set]; exact h.hx.upd u (nM _ (by rw [h.lH]; omega)) (nM _ (by rw [h.lA]; omega)) (fun g hg => nM g (by rw [h.lc g hg]; omega)) (fun g hg => by simp [Value.ownBlock] at hg) (fun g hg => by simp [Value.ownBlock] at hg),
    h.bel.trans (u.below h.bel.size (fun x hx => h.low x (by rw [hx.1]; omega))), fun j o' ho' => ?_, (lt_of h.hx.hb.lt).trans h.lH, (lt_of h.hx.ar.blk.lt).trans h.lA, fun g hg => (lt_of (h.hx.ar.cells.lt g hg).2).trans (h.lc g hg), fun x hx => ?_, h.aw⟩
  · rw [List.getElem?_set] at ho'
    by_cases hj : i = j
    · subst hj
      rw [if_pos rfl, if_pos hi] at ho'
      obtain rfl := Option.some.inj ho'
      refine ⟨u.blk h1 (nM _ (by rw [h4]; omega)), hT.widen (fun x hx => ?_) (fun x hx => hx.2), hfl, (lt_of h1.lt).trans h4⟩
      rcases hx with hx | hx
      · exact ⟨(lt_of hx.2).trans hx.1, Nat.lt_of_lt_of_le hx.2 u.size⟩
      · exact ⟨if_neg (by omega), hx.2⟩
    · rw [if_neg hj] at ho'
      obtain ⟨g1, g2, g3, g4⟩ := h.ob j o' ho'
      refine ⟨u.blk g1 (nM _ (by rw [g4]; omega)), (g2.upd u (fun x hx => nM x (by rw [hx.1]; omega))).widen (fun x hx => ⟨(lt_of hx.2).trans hx.1, Nat.lt_of_lt_of_le hx.2 u.size⟩) (fun x hx => hx.2), g3, (lt_of g1.lt).trans g4⟩
  · have hx' : (if x < w.heap.size then lab x else i + 1) ≠ 0 := hx
    split at hx'
    · exact h.low x hx'
    · have := h.bel.size; omega
/-- Chain: no circle, unless the object stands in the chain. -/
def chainP (r : Int) (p : Nat) : Bool := !(decide (1 ≤ r) && decide (r ≤ p))
set_option maxHeartbeats 2000000 in
theorem ch_chain (h : Ch w0 H A cv lab l w) (hl : l.length ≤ 1000) (r : Int) (p : Nat) (hp : p ≤ l.length) : Calls Tryd.prog 15 #[.pointer (some ⟨H, 0, none⟩), .int .i64 r, .int .i64 (p : Int)] w fun e w' => e = .returned (.bool (chainP r p)) ∧ Below w.heap.size w w' := by
  have HC := Lib.hid h
  clear h
  go_enter Tryd.func15, Tryd.ntmps15
  go_wp2_with fail
  go_loopw [7] (fun v wr => ∃ q : Nat, q ≤ p ∧ v = .int .i64 (q : Int) ∧ (q < p → ¬ ((q : Int) < r ∧ r ≤ p)) ∧ Hid (Below w.heap.size w wr)) (fun v _ => (intOf v).toNat)
  case atStart => exact ⟨p, Nat.le_refl _, rfl, fun h => by omega, Lib.hid (Below.refl _ _)⟩
  case round =>
    obtain ⟨q, hq, rfl, hno, HB⟩ := hrel
    rcases q with _ | q
    · have hcp : chainP r p = true := by
        unfold chainP
        rcases Nat.eq_zero_or_pos p with rfl | h0
        · simp; omega
        · have := hno h0
          simp only [Bool.not_eq_true', Bool.and_eq_false_iff, decide_eq_false_iff_not]
          omega
      have HCP := Lib.hid hcp
      clear hcp hno
      go_wp2
      go_ret
      exact ⟨by rw [HCP.out]; rfl, HB.out⟩
    · obtain ⟨o, ho⟩ : ∃ o, l[q]? = some o := ⟨_, List.getElem?_eq_getElem (by omega)⟩
      have hch := HC.out.below HB.out
      have hobj := ch_obj hch hl ((q : Int) + 1)
      rw [objP_at ho] at hobj
      have HO0 := Lib.hid hobj
      have HO := Lib.hid (fun x : Nat => (by have h9 := ch_obj (hch.below (below_drw (Below.refl _ _) x)) hl ((q : Int) + 1); rw [objP_at ho] at h9; exact h9 : Calls Tryd.prog 11 #[.pointer (some ⟨H, 0, none⟩), .int .i64 ((q : Int) + 1)] (wr.drewN x) fun e w' => e = .returned (.pointer (some ⟨o.b, 0, none⟩)) ∧ ∃ y, w' = (wr.drewN x).drewN y))
      have hob := (hch.ob q o ho).1
      have hN := Lib.hid hno
      clear hobj hch hno
      by_cases hr : (q : Int) + 1 = r
      · have t1 : ((q : Int) + 1 == r) = true := by simpa using hr
        have hcp : chainP r p = false := by
          unfold chainP
          simp only [Bool.not_eq_false', Bool.and_eq_true, decide_eq_true_eq]
          omega
        have HCP := Lib.hid hcp
        clear hcp
        go_wp2
        go_ret
        exact ⟨by rw [HCP.out]; rfl, HB.out⟩
      · have t1 : ((q : Int) + 1 == r) = false := by simpa using hr
        go_wp2_with fail
        refine HO0.out.mono ?_
        rintro e w3 ⟨rfl, y, rfl⟩
        go_wp2_with fail
        refine (HO.out y).mono ?_
        rintro e w4 ⟨rfl, z, rfl⟩
        have c1 : wr.cell? ⟨o.b, 1, none⟩ = some (.int .i64 (q : Int)) := by rw [hob.cell]; rfl
        have lo := hob.lt
        go_wp2_with fail
        go_roundw
        case rel =>
          refine ⟨q, by omega, rfl, fun _ h => ?_, Lib.hid (below_drw HB.out (y + z))⟩
          rcases Nat.lt_or_ge (q + 1) p with hlt | hge
          · exact hN.out hlt ⟨by omega, h.2⟩
          · omega
        case measure => simp [intOf]
/-- What Find comes to. -/
def FindOut (l : List ObS) (k : K3) (r : Nat) (gv : K3) (gf : Int) (gb : Bool) : Prop :=
  (gb = true ∧ ∃ (i : Nat) (o : ObS) (x : Ent), i < r ∧ l[i]? = some o ∧ x ∈ o.A ∧ isKey k x = true ∧ gv = x.val ∧ ∀ (j : Nat) (o' : ObS), i < j → j < r → l[j]? = some o' → ∀ y ∈ o'.A, isKey k y = false) ∨
  (gb = false ∧ ∀ (j : Nat) (o' : ObS), j < r → l[j]? = some o' → ∀ y ∈ o'.A, isKey k y = false)
def protoM (v : Value) (W : World) : Nat := match v with
  | .pointer (some p) => (match W.cell? ⟨p.block, 1, none⟩ with | some (.int _ n) => n.toNat + 1 | _ => 0)
  | _ => 0
set_option maxHeartbeats 4000000 in
theorem ch_find (h : Ch w0 H A cv lab l w) (hl : l.length ≤ 1000) (r : Nat) (hr : r ≤ l.length) (k : K3) (hk : k.2.2.size ≤ 4000) : Calls Tryd.prog 14 #[.pointer (some ⟨H, 0, none⟩), .int .i64 (r : Int), VK k] w fun e w' =>
    (∃ gv gf gb, e = .returned (.tuple #[VK gv, .int .i64 gf, .bool gb]) ∧ FindOut l k r gv gf gb) ∧ Below w.heap.size w w' := by
  obtain ⟨k1, k2, k3⟩ := k
  dsimp only at hk
  have HC := Lib.hid h
  clear h
  have bb : Below w.heap.size w ((w.alloc (.cells #[.int .i64 k1, .int .i64 k2, .string k3] 34)).alloc (.cells #[.int .i64 0, .int .i64 0, .string ⟨#[]⟩] 34)) := ((Below.refl _ _).alloc (Nat.le_refl _) _).alloc (by simp) _
  have kb : Blk ((w.alloc (.cells #[.int .i64 k1, .int .i64 k2, .string k3] 34)).alloc (.cells #[.int .i64 0, .int .i64 0, .string ⟨#[]⟩] 34)) w.heap.size 34 #[.int .i64 k1, .int .i64 k2, .string k3] := (Blk.new w _ _).alloc _
  have rb : Blk ((w.alloc (.cells #[.int .i64 k1, .int .i64 k2, .string k3] 34)).alloc (.cells #[.int .i64 0, .int .i64 0, .string ⟨#[]⟩] 34)) (w.heap.size + 1) 34 #[.int .i64 0, .int .i64 0, .string ⟨#[]⟩] := by
    have := Blk.new (w.alloc (.cells #[.int .i64 k1, .int .i64 k2, .string k3] 34)) 34 #[.int .i64 0, .int .i64 0, .string ⟨#[]⟩]
    rwa [World.size_alloc] at this
  have HO := Lib.hid (ch_obj (HC.out.below bb) hl (r : Int))
  have HB := Lib.hid (And.intro bb (And.intro kb rb))
  clear bb kb rb
  go_enter Tryd.func14, Tryd.ntmps14
  go_wp2_with fail
  refine HO.out.mono ?_
  rintro e w1 ⟨rfl, q, rfl⟩
  obtain ⟨P, hP⟩ : ∃ P, w.heap.size = P := ⟨_, rfl⟩
  have HB1 := Lib.hid (And.intro (below_drw HB.out.1 q) (And.intro (HB.out.2.1.drewN q) (HB.out.2.2.drewN q)))
  rw [hP] at HB1 ⊢
  generalize (((w.alloc (.cells #[.int .i64 k1, .int .i64 k2, .string k3] 34)).alloc (.cells #[.int .i64 0, .int .i64 0, .string ⟨#[]⟩] 34)).drewN q) = w1 at *
  clear HO HB
  go_wp2_with fail
  go_loopw [9] (fun v wr => ∃ q : Nat, q ≤ r ∧ v = objP (cellsOf l) (q : Int) ∧ Hid (∀ (j : Nat) (o' : ObS), q ≤ j → j < r → l[j]? = some o' → ∀ y ∈ o'.A, isKey (k1, k2, k3) y = false) ∧ Hid (Below P w wr ∧ Blk wr P 34 #[.int .i64 k1, .int .i64 k2, .string k3] ∧ Blk wr (P + 1) 34 #[.int .i64 0, .int .i64 0, .string ⟨#[]⟩])) (fun v wr => protoM v wr)
  case atStart => exact ⟨r, Nat.le_refl _, rfl, Lib.hid (fun j o' h1 h2 => by omega), HB1⟩
  case round =>
    clear HB1
    obtain ⟨q, hq, rfl, HN, HB⟩ := hrel
    rcases q with _ | q
    · rw [show ((0 : Nat) : Int) = 0 from rfl, objP_0]
      have rb := HB.out.2.2
      have y0 : wr.cell? ⟨P + 1, 0, none⟩ = some (.int .i64 0) := by rw [rb.cell]; rfl
      have y1 : wr.cell? ⟨P + 1, 1, none⟩ = some (.int .i64 0) := by rw [rb.cell]; rfl
      have y2 : wr.cell? ⟨P + 1, 2, none⟩ = some (.string ⟨#[]⟩) := by rw [rb.cell]; rfl
      have z0 := rb.frozen 0
      have z1 := rb.frozen 1
      have z2 := rb.frozen 2
      have lr := rb.lt
      clear rb
      go_wp2_with fail
      refine bodyPost_ret (v := .tuple #[VS 0 0 ⟨#[]⟩, .int .i64 0, .bool false]) (by simp [results, Tryd.results14, go_sem, y0, y1, y2, z0, z1, z2, lr]) rfl ⟨⟨(0, 0, ⟨#[]⟩), 0, false, rfl, .inr ⟨rfl, fun j o' h => HN.out j o' (Nat.zero_le _) h⟩⟩, ?_⟩
      rw [hP]
      exact ((HB.out.1.setCell (p := ⟨P + 1, 0, none⟩) (by simp) _).setCell (p := ⟨P + 1, 1, none⟩) (by simp) _).setCell (p := ⟨P + 1, 2, none⟩) (by simp) _
    · obtain ⟨o, ho⟩ : ∃ o, l[q]? = some o := ⟨_, List.getElem?_eq_getElem (by omega)⟩
      rw [show ((q + 1 : Nat) : Int) = (q : Int) + 1 by omega, objP_at ho]
      have hch := HC.out.below (by rw [hP]; exact HB.out.1)
      obtain ⟨h1, h2, h3, h4⟩ := hch.ob q o ho
      have hown := own_plain o.b o.T 0 (q : Int) false nilS nilP nilP nilS 0 o.A [] _ (k1, k2, k3) wr h1 h2 hk (by decide)
      have d0 : wr.cell? ⟨P, 0, none⟩ = some (.int .i64 k1) := by rw [HB.out.2.1.cell]; rfl
      have d1 : wr.cell? ⟨P, 1, none⟩ = some (.int .i64 k2) := by rw [HB.out.2.1.cell]; rfl
      have d2 : wr.cell? ⟨P, 2, none⟩ = some (.string k3) := by rw [HB.out.2.1.cell]; rfl
      have HCH := Lib.hid hch
      have hpm : protoM (.pointer (some ⟨o.b, 0, none⟩)) wr = q + 1 := by
        unfold protoM
        have : wr.cell? ⟨o.b, 1, none⟩ = some (.int .i64 (q : Int)) := by rw [h1.cell]; rfl
        simp only [this]
        simp
      have HPM := Lib.hid hpm
      have H1 := Lib.hid h1
      clear hch h2 h3 h4 hpm h1
      go_wp2_with fail
      refine hown.mono ?_
      rintro e w3 hg
      obtain ⟨b3, ⟨v1, v2, v3⟩, gf, gb, rfl, hor⟩ := own_cases hg
      have HOR := Lib.hid hor
      have lP := HB.out.2.1.lt
      have lP2 := HB.out.2.2.lt
      have b34 := b3.alloc b3.size (.cells #[.int .i64 v1, .int .i64 v2, .string v3] 34)
      have HB4 : Hid (Below P w (w3.alloc (.cells #[.int .i64 v1, .int .i64 v2, .string v3] 34)) ∧ Blk (w3.alloc (.cells #[.int .i64 v1, .int .i64 v2, .string v3] 34)) P 34 #[.int .i64 k1, .int .i64 k2, .string k3] ∧ Blk (w3.alloc (.cells #[.int .i64 v1, .int .i64 v2, .string v3] 34)) (P + 1) 34 #[.int .i64 0, .int .i64 0, .string ⟨#[]⟩]) := Lib.hid ⟨HB.out.1.trans (b34.mono (by omega)), HB.out.2.1.below b34 lP, HB.out.2.2.below b34 lP2⟩
      have ho4 := H1.out.below b34 H1.out.lt
      have HC4 := Lib.hid (HCH.out.below b34)
      have nb := Blk.new w3 34 #[.int .i64 v1, .int .i64 v2, .string v3]
      clear hg hor d0 d1 d2 b3 b34 hown
      cases gb
      · -- on
        go_upto_region 5 with fail
        generalize (w3.alloc (.cells #[.int .i64 v1, .int .i64 v2, .string v3] 34)) = w4 at *
        generalize w3.heap.size = q3 at *
        have c1 : w4.cell? ⟨o.b, 1, none⟩ = some (.int .i64 (q : Int)) := by rw [ho4.cell]; rfl
        have lo := ho4.lt
        have hobj := ch_obj HC4.out hl (q : Int)
        clear nb
        go_wp2_with fail
        refine hobj.mono ?_
        rintro e w5 ⟨rfl, y, rfl⟩
        have hch5 := HC4.out.below (below_drw (Below.refl _ _) y)
        go_wp2_with fail
        go_roundw
        case rel =>
          refine ⟨q, by omega, rfl, Lib.hid (fun j o' h1 h2 h3 => ?_), Lib.hid ⟨below_drw HB4.out.1 y, HB4.out.2.1.drewN y, HB4.out.2.2.drewN y⟩⟩
          rcases Nat.lt_or_ge q j with hlt | hge
          · exact HN.out j o' hlt h2 h3
          · obtain rfl : q = j := by omega
            rw [ho] at h3
            obtain rfl := Option.some.inj h3
            rcases HOR.out with ⟨h, _⟩ | ⟨_, h, _⟩
            · cases h
            · exact h
        case measure =>
          show protoM (objP (cellsOf l) (q : Int)) (w4.drewN y) < protoM (.pointer (some ⟨o.b, 0, none⟩)) wr
          rw [HPM.out]
          rcases q with _ | q
          · rw [show ((0 : Nat) : Int) = 0 from rfl, objP_0]
            exact Nat.succ_pos _
          · obtain ⟨o2, ho2⟩ : ∃ o, l[q]? = some o := ⟨_, List.getElem?_eq_getElem (by omega)⟩
            rw [show ((q + 1 : Nat) : Int) = (q : Int) + 1 by omega, objP_at ho2]
            have h9 := (hch5.ob q o2 ho2).1
            have : (w4.drewN y).cell? ⟨o2.b, 1, none⟩ = some (.int .i64 (q : Int)) := by rw [h9.cell]; rfl
            unfold protoM
            simp only [this]
            simp
      · -- found
        go_upto_region 6 with fail
        generalize (w3.alloc (.cells #[.int .i64 v1, .int .i64 v2, .string v3] 34)) = w4 at *
        generalize w3.heap.size = q3 at *
        have rb := HB4.out.2.2
        have y0 : w4.cell? ⟨P + 1, 0, none⟩ = some (.int .i64 0) := by rw [rb.cell]; rfl
        have y1 : w4.cell? ⟨P + 1, 1, none⟩ = some (.int .i64 0) := by rw [rb.cell]; rfl
        have y2 : w4.cell? ⟨P + 1, 2, none⟩ = some (.string ⟨#[]⟩) := by rw [rb.cell]; rfl
        have z0 := rb.frozen 0
        have z1 := rb.frozen 1
        have z2 := rb.frozen 2
        have lr := rb.lt
        have n0 : w4.cell? ⟨q3, 0, none⟩ = some (.int .i64 v1) := by rw [nb.cell]; rfl
        have n1 : w4.cell? ⟨q3, 1, none⟩ = some (.int .i64 v2) := by rw [nb.cell]; rfl
        have n2 : w4.cell? ⟨q3, 2, none⟩ = some (.string v3) := by rw [nb.cell]; rfl
        clear rb nb ho4
        go_wp2_with fail
        refine bodyPost_ret (v := .tuple #[VS v1 v2 v3, .int .i64 gf, .bool true]) (by simp [results, Tryd.results14, go_sem, y0, y1, y2, z0, z1, z2, lr]) rfl ⟨⟨(v1, v2, v3), gf, true, rfl, .inl ⟨rfl, ?_⟩⟩, ?_⟩
        · rcases HOR.out with ⟨_, x, hx, hkx, hv, _⟩ | ⟨h, _⟩
          · exact ⟨q, o, x, by omega, ho, hx, hkx, hv, fun j o' h1 h2 => HN.out j o' h1 h2⟩
          · cases h
        · rw [hP]
          exact ((HB4.out.1.setCell (p := ⟨P + 1, 0, none⟩) (by simp) _).setCell (p := ⟨P + 1, 1, none⟩) (by simp) _).setCell (p := ⟨P + 1, 2, none⟩) (by simp) _
end
end Go.Proofs.YtmimnaaofpkndaaDoor.Hp
