/- The heap: New, Make, Obj. -/
import Derived.Test.YtdeboajjhpecbaaDoorOtD
import Derived.Test.YtdeboajjhpecbaaDoorHpA
import Derived.Stop.Asserts
set_option linter.unusedVariables false
set_option linter.unusedSimpArgs false
namespace Go.Proofs.YtdeboajjhpecbaaDoor.Hp
open Go.RowKit Go.Proofs.YtdeboajjhpecbaaDoor

abbrev tObj : Nat := 37
/-- An object's cells: class, prototype, closed, its table of properties, elements, table, weak table, faint cells, At. -/
abbrev objA (cl pr : Int) (clo : Bool) (T : Nat) (ev tb wk fa : Value) (at_ : Int) : Array Value :=
  #[.int .i64 cl, .int .i64 pr, .bool clo, .pointer (some ⟨T, 0, none⟩), ev, .slice none 0 0, tb, .pointer none, wk, fa, .nilIface, .int .i64 0, .int .i64 0, .int .i64 0, .int .i64 at_, .nilIface]
abbrev nilP : Value := .pointer none
abbrev nilS : Value := .slice none 0 0
abbrev objN (cl pr : Int) (T : Nat) : Array Value := objA cl pr false T nilS nilP nilP nilS 0
/-- What heap.New lays. -/
def newW (w : World) : World := (w.alloc (.cells #[.slice none 0 0, .slice none 0 0, .slice none 0 0, .int .i64 0] 120)).alloc (.cells #[.pointer (some ⟨w.heap.size, 0, none⟩), .int .i64 0] 76)
theorem hnew_any (w : World) : Calls Tryd.prog 42 #[] w fun e w' => e = .returned (.pointer (some ⟨w.heap.size + 1, 0, none⟩)) ∧ w' = newW w := by
  go_enter Tryd.func42, Tryd.ntmps42
  go_wp2_with (go_at_call 57; refine (new_any w).mono ?_; rintro e w1 ⟨rfl, rfl⟩)
  go_ret
  exact ⟨rfl, rfl⟩
/-- A heap's arena, its struct. -/
structure Hx (w : World) (H A B : Nat) (cv fv rv : Value) (cs : List Cell) (fr ro : List Int) (live : Int) : Prop where
  hb : Blk w H 76 #[.pointer (some ⟨A, 0, none⟩), .int .i64 0]
  ar : Ar w A B cv fv rv cs fr ro live
theorem Hx.upd {w w' : World} {H A B : Nat} {cv fv rv : Value} {cs : List Cell} {fr ro : List Int} {live : Int} {M : Nat → Prop} (h : Hx w H A B cv fv rv cs fr ro live) (u : Upd w w' M) (hH : ¬ M H) (hA : ¬ M A)
    (hc : ∀ g, cv.ownBlock = some g → ¬ M g) (hf : ∀ g, fv.ownBlock = some g → ¬ M g) (hr : ∀ g, rv.ownBlock = some g → ¬ M g) : Hx w' H A B cv fv rv cs fr ro live := ⟨u.blk h.hb hH, h.ar.upd u hA hc hf hr⟩
theorem Hx.below {w w' : World} {H A B : Nat} {cv fv rv : Value} {cs : List Cell} {fr ro : List Int} {live : Int} (h : Hx w H A B cv fv rv cs fr ro live) (b : Below w.heap.size w w') : Hx w' H A B cv fv rv cs fr ro live := ⟨h.hb.below b h.hb.lt, h.ar.below b⟩
theorem newW_hx (w : World) : Hx (newW w) (w.heap.size + 1) w.heap.size w.heap.size nilS nilS nilS [] [] [] 0 := by
  unfold newW
  refine ⟨?_, (new_ar w).below ((Below.refl _ _).alloc (Nat.le_refl _) _)⟩
  have := Blk.new (w.alloc (.cells #[.slice none 0 0, .slice none 0 0, .slice none 0 0, .int .i64 0] 120)) 76 #[.pointer (some ⟨w.heap.size, 0, none⟩), .int .i64 0]
  rwa [World.size_alloc] at this
theorem newW_below (w : World) : Below w.heap.size w (newW w) := ((Below.refl _ _).alloc (Nat.le_refl _) _).alloc (by simp) _

/-- What Make comes to. -/
def MakP (cl pr : Int) (H A B : Nat) (cv fv rv : Value) (cs : List Cell) (ro : List Int) (live : Int) (w : World) (e : Ending) (w' : World) : Prop :=
  ∃ b T cv', e = .returned (.tuple #[.int .i64 ((cs.length + 1 : Nat) : Int), .pointer (some ⟨b, 0, none⟩)]) ∧ w.heap.size ≤ T ∧ T < b ∧ Blk w' b 36 (objN cl pr T) ∧ TabA w' T [] [] (fun k => k = T) ∧
    Hx w' H A B cv' fv rv (cs ++ [(some (tObj, b), false)]) [] ro (live + 1) ∧ Upd w w' (fun k => k = A ∨ cv.ownBlock = some k) ∧ (∀ g, cv'.ownBlock = some g → cv.ownBlock = some g ∨ b < g)
set_option maxHeartbeats 2000000 in
theorem make_any {w : World} {H A B : Nat} {cv fv rv : Value} {cs : List Cell} {ro : List Int} {live : Int} (cl pr : Int) (h : Hx w H A B cv fv rv cs [] ro live) (hl : 0 ≤ live) (hl2 : live < 4194304) (hc : cs.length ≤ 100000000) (hB : B ≤ w.heap.size) :
    Calls Tryd.prog 11 #[.pointer (some ⟨H, 0, none⟩), .int .i64 cl, .int .i64 pr] w (MakP cl pr H A B cv fv rv cs ro live w) := by
  have HX := Lib.hid h
  clear h
  go_enter Tryd.func11, Tryd.ntmps11
  go_wp2_with (go_at_call 25; refine (Go.Proofs.YtdeboajjhpecbaaDoor.new_any w).mono ?_; rintro e w1 ⟨rfl, b1, hT⟩; have b2 := b1.alloc b1.size (.cells (objN cl pr w.heap.size) 36); have h2 := HX.out.below b2; have y0 : (w1.alloc (.cells (objN cl pr w.heap.size) 36)).cell? ⟨H, 0, none⟩ = some (.pointer (some ⟨A, 0, none⟩)) := (by rw [h2.hb.cell]; rfl); have lH := h2.hb.lt; simp only [objN, objA, nilS, nilP] at y0 lH)
  have hm := make_new (tObj, w1.heap.size) h2.ar hl hl2 hc (Nat.le_trans hB b2.size)
  refine hm.mono ?_
  rintro e w3 ⟨rfl, cv', hAr, u3, hcv⟩
  go_wp2
  go_ret2
  have lT : w.heap.size < w1.heap.size := hT.lt _ rfl
  have hlt2 : (w1.alloc (.cells (objN cl pr w.heap.size) 36)).heap.size = w1.heap.size + 1 := by simp
  have hcl := fun g hg => h2.ar.cells.lt g hg
  have hc0 := fun g hg => (HX.out.ar.cells.lt g hg).2
  have hA0 := HX.out.ar.blk.lt
  refine ⟨w1.heap.size, w.heap.size, cv', rfl, Nat.le_refl _, lT, ?_, ?_, ⟨u3.blk h2.hb (fun h => ?_), hAr⟩, ?_, fun g hg => (hcv g hg).imp id (fun h => by omega)⟩
  · refine u3.blk (Blk.new w1 _ _) (fun h => ?_)
    rcases h with h | h
    · have := b1.size; omega
    · have := hc0 _ h; have := b1.size; omega
  · refine (hT.below ((Below.refl _ _).alloc (Nat.le_refl _) _)).upd u3 (fun k hk h => ?_)
    subst hk
    rcases h with h | h
    · omega
    · have := hc0 _ h; omega
  · rcases h with h | h
    · exact h2.hb.ne_ h2.ar.blk (by decide) h
    · exact own_blk_ne h2.ar.cells h2.hb (by decide) h
  · exact (Upd.of_below_all b2).trans u3
/-- The object that a cell has. -/
def objP (cs : List Cell) (r : Int) : Value := match (if 1 ≤ r ∧ r ≤ cs.length then (cs.getD (r - 1).toNat (none, false)).1 else none) with
  | some n => if n.1 = tObj then .pointer (some ⟨n.2, 0, none⟩) else .pointer none
  | none => .pointer none
theorem isObj (v : Value) (w : World) : (Instr.typeAssert (.iface tObj v) 106 tObj true).run Tryd.prog w = .ok (.tuple #[v, .bool true]) w := by
  kernel_rfl
abbrev tMark : Nat := 108
theorem isObj_mark (v : Value) (w : World) : (Instr.typeAssert (.iface tMark v) 106 tObj true).run Tryd.prog w = .ok (.tuple #[.pointer none, .bool false]) w := by kernel_rfl
theorem isObj_nil (w : World) : (Instr.typeAssert .nilIface 106 tObj true).run Tryd.prog w = .ok (.tuple #[.pointer none, .bool false]) w := by kernel_rfl
end Go.Proofs.YtdeboajjhpecbaaDoor.Hp
