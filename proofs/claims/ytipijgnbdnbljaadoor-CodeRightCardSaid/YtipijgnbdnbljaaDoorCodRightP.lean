/- What the walk of CodeRight keeps: functions without anything in them, and one that is being built. -/
import Derived.Test.YtipijgnbdnbljaaDoorCodF
set_option linter.unusedVariables false
set_option linter.unusedSimpArgs false
namespace Go.Proofs.YtipijgnbdnbljaaDoor
open Go.RowKit

def nilS : Value := .slice none 0 0
/-- A function's cells. -/
def FB (i c f : Value) : Array Value := #[.string ⟨#[]⟩, .int .i64 0, .int .i64 0, .bool false, .bool false, .bool false, .bool false, .bool false, i, c, f]
/-- At block p, behind block g, lies a function that is one Return. -/
structure Leaf (W : World) (g p : Nat) : Prop where
  gt : g < p
  ex : ∃ q, g < q ∧ Blk W p 33 (FB (.slice (some ⟨q, 0, none⟩) 1 1) nilS nilS) ∧ Blk W q 36 #[.int .i64 61, .int .i64 0, .int .i64 0]
theorem Leaf.upd {W W' : World} {g p : Nat} {M : Nat → Prop} (h : Leaf W g p) (u : Upd W W' M) (h1 : ∀ k cs, g < k → Blk W k 33 cs → ¬ M k) (h2 : ∀ k cs, g < k → Blk W k 36 cs → ¬ M k) : Leaf W' g p := by
  obtain ⟨q, hq, b1, b2⟩ := h.ex
  exact ⟨h.gt, q, hq, u.blk b1 (h1 p _ h.gt b1), u.blk b2 (h2 q _ hq b2)⟩
def ptrs (ps : List Nat) : List Value := ps.map fun p => .pointer (some ⟨p, 0, none⟩)
theorem ptrs_append (a b : List Nat) : ptrs (a ++ b) = ptrs a ++ ptrs b := List.map_append
theorem FB_set8 (a i c f : Value) : (FB a c f).setIfInBounds 8 i = FB i c f := rfl
theorem FB_set10 (i c a f : Value) : (FB i c a).setIfInBounds 10 f = FB i c f := rfl
/-- Behind k rounds of the loop that makes functions. -/
structure R1 (w : World) (g : Nat) (c : Value) (v : Value) (wr : World) (ps : List Nat) : Prop where
  own : wr.ownsRow (g + 1) 34 1 v ps.length (ptrs ps)
  leaf : ∀ p, p ∈ ps → Leaf wr g p
  blk : Blk wr g 33 (FB nilS c v)
  bel : Below w.heap.size w wr
  lo : w.heap.size ≤ g
def R1mid (wr : World) : World := ((wr.alloc (.cells #[.int .i64 61, .int .i64 0, .int .i64 0] 36)).alloc (.cells (FB (.slice (some ⟨wr.heap.size, 0, none⟩) 1 1) nilS nilS) 33)).alloc (.cells #[.pointer (some ⟨wr.heap.size + 1, 0, none⟩)] 34)
theorem R1.step {w wr w1 : World} {g : Nat} {c v v' : Value} {ps : List Nat} (h : R1 w g c v wr ps) (hg : (R1mid wr).grownBy w1 v.ownBlock) (ho : w1.ownsRow (g + 1) 34 1 v' (ps.length + 1) (ptrs ps ++ [.pointer (some ⟨wr.heap.size + 1, 0, none⟩)])) :
    R1 w g c v' (w1.setCell ⟨g, 10, none⟩ v') (ps ++ [wr.heap.size + 1]) := by
  have hgw := h.blk.lt
  have u0 : Upd wr (R1mid wr) (fun _ => False) := (((Upd.refl wr _).alloc _).alloc _).alloc _
  have own3 : (R1mid wr).ownsRow (g + 1) 34 1 v ps.length (ptrs ps) := u0.own h.own (fun _ _ h => h)
  have kb : Blk (R1mid wr) g 33 (FB nilS c v) := u0.blk h.blk (fun h => h)
  have u1 : Upd (R1mid wr) w1 (fun k => v.ownBlock = some k) := Upd.of_grown hg fun k e => e
  have kb1 : Blk w1 g 33 (FB nilS c v) := u1.blk kb (fun e => own_blk_ne own3 kb (by decide) e)
  have u2 : Upd w1 (w1.setCell ⟨g, 10, none⟩ v') (fun k => k = g) := (Upd.refl w1 _).set g 10 v' rfl
  have lf : ∀ W p, Leaf W g p → (W = wr ∨ W = R1mid wr) → Leaf (w1.setCell ⟨g, 10, none⟩ v') g p := by
    intro W p hp hW
    have hp : Leaf (R1mid wr) g p := by
      rcases hW with rfl | rfl
      · exact hp.upd u0 (fun _ _ _ _ h => h) (fun _ _ _ _ h => h)
      · exact hp
    exact (hp.upd u1 (fun k cs _ hb e => own_blk_ne own3 hb (by decide) e) (fun k cs _ hb e => own_blk_ne own3 hb (by decide) e)).upd u2 (fun k _ hk _ e => by omega) (fun k _ hk _ e => by omega)
  refine ⟨?_, fun p hp => ?_, ?_, ?_, h.lo⟩
  · rw [List.length_append, ptrs_append]
    exact own_set ho kb1 (by decide) 10 v'
  · rcases List.mem_append.1 hp with hp | hp
    · exact lf wr p (h.leaf p hp) (.inl rfl)
    · obtain rfl := List.mem_singleton.1 hp
      refine lf _ _ ⟨by omega, wr.heap.size, by omega, ?_, ?_⟩ (.inr rfl)
      · have := (Blk.new (wr.alloc (.cells #[.int .i64 61, .int .i64 0, .int .i64 0] 36)) 33 (FB (.slice (some ⟨wr.heap.size, 0, none⟩) 1 1) nilS nilS)).alloc (.cells #[.pointer (some ⟨wr.heap.size + 1, 0, none⟩)] 34)
        rw [World.size_alloc] at this
        exact this
      · exact ((Blk.new wr 36 #[.int .i64 61, .int .i64 0, .int .i64 0]).alloc _).alloc _
  · have := kb1.set_ 10 v'
    rw [FB_set10] at this
    exact this
  · have hb := h.bel
    have hz := hb.size
    have u3 : Upd wr (w1.setCell ⟨g, 10, none⟩ v') (fun k => w.heap.size ≤ k) := by
      refine ((u0.mono fun _ _ h => h.elim).trans (u1.mono ?_)).trans (u2.mono ?_)
      · intro k _ e; have := (own3.lt k e).1; have := h.lo; omega
      · intro k _ e; have := h.lo; omega
    exact hb.trans (u3.below hz fun k h => h)

def insCells (l : List (Int × Int × Int)) : List Value := l.flatMap fun x => [.int .i64 x.1, .int .i64 x.2.1, .int .i64 x.2.2]
theorem insCells_append (a b : List (Int × Int × Int)) : insCells (a ++ b) = insCells a ++ insCells b := by simp [insCells]
theorem insCells_get (l : List (Int × Int × Int)) (k : Nat) (hk : k < l.length) : (insCells l)[k * 3]? = some (.int .i64 (l.getD k (0, 0, 0)).1) ∧ (insCells l)[k * 3 + 1]? = some (.int .i64 (l.getD k (0, 0, 0)).2.1) ∧ (insCells l)[k * 3 + 2]? = some (.int .i64 (l.getD k (0, 0, 0)).2.2) := by
  induction l generalizing k with
  | nil => simp at hk
  | cons x l ih =>
    cases k with
    | zero => exact ⟨rfl, rfl, rfl⟩
    | succ k =>
      have := ih k (by simpa using hk)
      rw [show (k + 1) * 3 = k * 3 + 3 by omega]
      simpa [insCells] using this
/-- Behind k rounds of the loop over the instructions. -/
structure R2 (w wo : World) (g : Nat) (c fv : Value) (v : Value) (wr : World) (l : List (Int × Int × Int)) : Prop where
  own : wr.ownsRow wo.heap.size 36 3 v l.length (insCells l)
  blk : Blk wr g 33 (FB v c fv)
  upd : Upd wo wr (fun k => k = g ∨ wo.heap.size ≤ k)
  bel : Below w.heap.size w wr
  lo : w.heap.size ≤ g
  hi : g < wo.heap.size
def R2mid (wr : World) (op x y : Int) (T : TypeId) : World := (wr.alloc (.cells #[.int .i64 op, .int .i64 x, .int .i64 y] T)).alloc (.cells #[.int .i64 op, .int .i64 x, .int .i64 y] 36)
theorem R2.step {w wo wr w1 : World} {g : Nat} {c fv v v' : Value} {l : List (Int × Int × Int)} {op x y : Int} {T : TypeId} (h : R2 w wo g c fv v wr l) (hg : (R2mid wr op x y T).grownBy w1 v.ownBlock) (ho : w1.ownsRow wo.heap.size 36 3 v' (l.length + 1) (insCells l ++ [.int .i64 op, .int .i64 x, .int .i64 y])) :
    R2 w wo g c fv v' (w1.setCell ⟨g, 8, none⟩ v') (l ++ [(op, x, y)]) := by
  have u0 : Upd wr (R2mid wr op x y T) (fun _ => False) := ((Upd.refl wr _).alloc _).alloc _
  have own3 : (R2mid wr op x y T).ownsRow wo.heap.size 36 3 v l.length (insCells l) := u0.own h.own (fun _ _ h => h)
  have kb : Blk (R2mid wr op x y T) g 33 (FB v c fv) := u0.blk h.blk (fun h => h)
  have u1 : Upd (R2mid wr op x y T) w1 (fun k => v.ownBlock = some k) := Upd.of_grown hg fun k e => e
  have kb1 : Blk w1 g 33 (FB v c fv) := u1.blk kb (fun e => own_blk_ne own3 kb (by decide) e)
  have u2 : Upd w1 (w1.setCell ⟨g, 8, none⟩ v') (fun k => k = g) := (Upd.refl w1 _).set g 8 v' rfl
  have hlo := h.lo
  have hhi := h.hi
  have u3 : Upd wr (w1.setCell ⟨g, 8, none⟩ v') (fun k => k = g ∨ wo.heap.size ≤ k) := by
    refine ((u0.mono fun _ _ h => h.elim).trans (u1.mono ?_)).trans (u2.mono ?_)
    · intro k _ e; exact .inr (own3.lt k e).1
    · intro k _ e; exact .inl e
  have hz := h.bel.size
  refine ⟨?_, ?_, h.upd.trans u3, h.bel.trans ((u3.mono (M' := fun k => w.heap.size ≤ k) ?_).below hz fun k h => h), h.lo, h.hi⟩
  · rw [List.length_append, insCells_append]
    exact own_set ho kb1 (by decide) 8 v'
  · have := kb1.set_ 8 v'
    rw [FB_set8] at this
    exact this
  · intro k _ hk
    rcases hk with rfl | hk <;> omega
/-- What the law wants behind k rounds. -/
def wantB (L : List (Int × Int × Int)) (C F : Nat) (k : Nat) : Bool := decide (0 < L.length) && ((L.getD (L.length - 1) (0, 0, 0)).1 == 61) && (L.take k).all (insOK L.length C F)
theorem wantB_succ (L : List (Int × Int × Int)) (C F k : Nat) (hk : k < L.length) : wantB L C F (k + 1) = (wantB L C F k && insOK L.length C F (L.getD k (0, 0, 0))) := by
  unfold wantB
  rw [List.take_succ_eq_append_getElem hk, List.all_append, List.getD_eq_getElem?_getD (i := k), List.getElem?_eq_getElem hk]
  simp [Bool.and_assoc]
theorem wantB_end (L : List (Int × Int × Int)) (C F : Nat) : wantB L C F L.length = rightR L C (List.replicate F true) := by
  unfold wantB rightR
  rw [List.take_length, List.length_replicate]
  simp
/-- What Right asks of a function at block g. -/
structure FOK (W : World) (g : Nat) (l : List (Int × Int × Int)) (C : Nat) (ps : List Nat) : Prop where
  len : l.length ≤ 100000
  con : C ≤ 100000
  fun_ : ps.length ≤ 100000
  ex : ∃ a ic c cc q qc, Blk W g 33 (FB (.slice a l.length ic) (.slice c C cc) (.slice q ps.length qc)) ∧ InsRow W a l ∧ (0 < ps.length → ∃ b, q = some ⟨b, 0, none⟩ ∧ b < W.heap.size ∧ ∀ k, k < ps.length → W.cell? ⟨b, k, none⟩ = some (.pointer (some ⟨ps.getD k 0, 0, none⟩)))
theorem right_of {W : World} {g C : Nat} {l : List (Int × Int × Int)} {ps : List Nat} {rs : List Bool} (h : FOK W g l C ps) (hr : rs.length = ps.length)
    (hc : ∀ k, k < ps.length → ∀ W', Below W.heap.size W W' → Calls Tryd.prog 11 #[.pointer (some ⟨ps.getD k 0, 0, none⟩)] W' (Ret (.bool (rs.getD k false)) W')) :
    Calls Tryd.prog 11 #[.pointer (some ⟨g, 0, none⟩)] W (Ret (.bool (rightR l C rs)) W) := by
  obtain ⟨a, ic, c, cc, q, qc, hb, hi, hp⟩ := h.ex
  refine right_core g a c q l.length ic C cc qc l rs (fun k => ⟨ps.getD k 0, 0, none⟩) W rfl h.len h.con (by rw [hr]; exact h.fun_) (by rw [hb.cell]; rfl) (by rw [hb.cell]; rfl) (by rw [hb.cell, hr]; rfl) hi (fun hn => ?_) (fun k hk => hc k (by rw [← hr]; exact hk))
  rw [hr] at hn ⊢
  exact hp hn
theorem Leaf.ok {W : World} {g p : Nat} (h : Leaf W g p) : FOK W p [(61, 0, 0)] 0 [] := by
  obtain ⟨q, _, b1, b2⟩ := h.ex
  refine ⟨by decide, by decide, by decide, some ⟨q, 0, none⟩, 1, none, 0, none, 0, b1, ⟨fun _ => ⟨q, rfl, b2.lt, fun k hk => ?_⟩⟩, fun h => absurd h (by decide)⟩
  obtain rfl : k = 0 := by have : k < 1 := hk; omega
  exact ⟨by rw [b2.cell]; rfl, by rw [b2.cell]; rfl, by rw [b2.cell]; rfl⟩
theorem Leaf.right {W : World} {g p : Nat} (h : Leaf W g p) (W' : World) (hb : Below W.heap.size W W') : Calls Tryd.prog 11 #[.pointer (some ⟨p, 0, none⟩)] W' (Ret (.bool true) W') := by
  have h2 : Leaf W' g p := h.upd (Upd.of_below_all (M := fun _ => False) hb) (fun _ _ _ _ h => h) (fun _ _ _ _ h => h)
  have := right_of (rs := []) h2.ok rfl (fun k hk => absurd hk (by simp))
  rwa [show rightR [(61, 0, 0)] 0 [] = true by decide] at this
theorem FOK.below {W W' : World} {g C : Nat} {l : List (Int × Int × Int)} {ps : List Nat} (h : FOK W g l C ps) (b : Below W.heap.size W W') : FOK W' g l C ps := by
  obtain ⟨a, ic, c, cc, q, qc, hb, hi, hp⟩ := h.ex
  refine ⟨h.len, h.con, h.fun_, a, ic, c, cc, q, qc, hb.below b hb.lt, hi.below b, fun hn => ?_⟩
  obtain ⟨x, rfl, hx, hc⟩ := hp hn
  exact ⟨x, rfl, Nat.lt_of_lt_of_le hx b.size, fun k hk => (b.cell (p := ⟨x, k, none⟩) hx).trans (hc k hk)⟩
def topW (W : World) (g : Nat) : World := ((W.alloc (.cells #[.int .i64 61, .int .i64 0, .int .i64 0] 36)).alloc (.cells #[.pointer (some ⟨g, 0, none⟩)] 34)).alloc (.cells (FB (.slice (some ⟨W.heap.size, 0, none⟩) 1 1) nilS (.slice (some ⟨W.heap.size + 1, 0, none⟩) 1 1)) 33)
theorem top_ok (W : World) (g : Nat) : FOK (topW W g) (W.heap.size + 1 + 1) [(61, 0, 0)] 0 [g] := by
  have k1 : Blk (topW W g) W.heap.size 36 #[.int .i64 61, .int .i64 0, .int .i64 0] := ((Blk.new W _ _).alloc _).alloc _
  have k2 : Blk (topW W g) (W.heap.size + 1) 34 #[.pointer (some ⟨g, 0, none⟩)] := by
    have := (Blk.new (W.alloc (.cells #[.int .i64 61, .int .i64 0, .int .i64 0] 36)) 34 #[.pointer (some ⟨g, 0, none⟩)]).alloc (.cells (FB (.slice (some ⟨W.heap.size, 0, none⟩) 1 1) nilS (.slice (some ⟨W.heap.size + 1, 0, none⟩) 1 1)) 33)
    rw [World.size_alloc] at this
    exact this
  have k3 : Blk (topW W g) (W.heap.size + 1 + 1) 33 (FB (.slice (some ⟨W.heap.size, 0, none⟩) 1 1) nilS (.slice (some ⟨W.heap.size + 1, 0, none⟩) 1 1)) := by
    have := Blk.new ((W.alloc (.cells #[.int .i64 61, .int .i64 0, .int .i64 0] 36)).alloc (.cells #[.pointer (some ⟨g, 0, none⟩)] 34)) 33 (FB (.slice (some ⟨W.heap.size, 0, none⟩) 1 1) nilS (.slice (some ⟨W.heap.size + 1, 0, none⟩) 1 1))
    rw [World.size_alloc, World.size_alloc] at this
    exact this
  refine ⟨by decide, by decide, by simp, some ⟨W.heap.size, 0, none⟩, 1, none, 0, some ⟨W.heap.size + 1, 0, none⟩, 1, k3, ⟨fun _ => ⟨_, rfl, k1.lt, fun k hk => ?_⟩⟩, fun _ => ⟨_, rfl, k2.lt, fun k hk => ?_⟩⟩
  · obtain rfl : k = 0 := by have : k < 1 := hk; omega
    exact ⟨by rw [k1.cell]; rfl, by rw [k1.cell]; rfl, by rw [k1.cell]; rfl⟩
  · obtain rfl : k = 0 := by have : k < 1 := hk; omega
    rw [k2.cell]; rfl
theorem top_right {W0 W : World} {g : Nat} {r : Bool} (hb : Below W0.heap.size W0 W) (hc : ∀ V, Below W0.heap.size W0 V → Calls Tryd.prog 11 #[.pointer (some ⟨g, 0, none⟩)] V (Ret (.bool r) V)) :
    Calls Tryd.prog 11 #[.pointer (some ⟨W.heap.size + 1 + 1, 0, none⟩)] (topW W g) (Ret (.bool r) (topW W g)) := by
  have bt : Below W.heap.size W (topW W g) := (((Below.refl _ _).alloc (Nat.le_refl _) _).alloc (by simp) _).alloc (by simp; omega) _
  have hb2 := hb.trans (bt.mono hb.size)
  have := right_of (rs := [r]) (top_ok W g) rfl (fun k hk V hV => by
    obtain rfl : k = 0 := by have : k < 1 := hk; omega
    exact hc V (hb2.trans (hV.mono hb2.size)))
  rw [show rightR [(61, 0, 0)] 0 [r] = r by cases r <;> decide] at this
  exact this
/-- Behind both loops: the function that was built. -/
theorem built {w wo wr : World} {g C cc : Nat} {c : Option Addr} {fv v : Value} {ps : List Nat} {L : List (Int × Int × Int)} (h1 : R1 w g (.slice c C cc) fv wo ps) (h2 : R2 w wo g (.slice c C cc) fv v wr L) (hC : C ≤ 100000) (hF : ps.length ≤ 100000) (hL : L.length ≤ 100000) :
    FOK wr g L C ps ∧ ∀ p, p ∈ ps → Leaf wr g p := by
  have lf : ∀ p, p ∈ ps → Leaf wr g p := fun p hp => (h1.leaf p hp).upd h2.upd (fun k cs hk hb e => by have := hb.lt; rcases e with e | e <;> omega) (fun k cs hk hb e => by have := hb.lt; rcases e with e | e <;> omega)
  refine ⟨⟨hL, hC, hF, ?_⟩, lf⟩
  have own1 : wr.ownsRow (g + 1) 34 1 fv ps.length (ptrs ps) := h2.upd.own h1.own (fun k hk e => by have := h1.own.lt k hk; rcases e with e | e <;> omega)
  have key : ∃ q qc, fv = .slice q ps.length qc ∧ (0 < ps.length → ∃ b, q = some ⟨b, 0, none⟩ ∧ b < wr.heap.size ∧ ∀ k, k < ps.length → wr.cell? ⟨b, k, none⟩ = some (.pointer (some ⟨ps.getD k 0, 0, none⟩))) := by
    rcases own1.2 with ⟨rfl, hn⟩ | ⟨b, cap, cur, rfl, hb, hh, _⟩
    · exact ⟨none, 0, by rw [hn], fun h => by omega⟩
    · refine ⟨_, cap, rfl, fun hn => ⟨b, rfl, (Array.getElem?_eq_some_iff.1 hh).1, fun k hk => ?_⟩⟩
      rw [own1.cellAt k (by omega)]
      simp [ptrs, List.getD_eq_getElem?_getD, hk]
  obtain ⟨q, qc, rfl, hq⟩ := key
  have key2 : ∃ a ic, v = .slice a L.length ic ∧ InsRow wr a L := by
    rcases h2.own.2 with ⟨rfl, hn⟩ | ⟨b, cap, cur, rfl, hb, hh, _⟩
    · exact ⟨none, 0, by rw [hn], ⟨fun h => by omega⟩⟩
    · refine ⟨_, cap, rfl, ⟨fun hn => ⟨b, rfl, (Array.getElem?_eq_some_iff.1 hh).1, fun k hk => ?_⟩⟩⟩
      have := insCells_get L k hk
      rw [h2.own.cellAt _ (by omega), h2.own.cellAt _ (by omega), h2.own.cellAt _ (by omega)]
      exact this
  obtain ⟨a, ic, rfl, hi⟩ := key2
  exact ⟨a, ic, c, cc, q, qc, h2.blk, hi, hq⟩
end Go.Proofs.YtipijgnbdnbljaaDoor
