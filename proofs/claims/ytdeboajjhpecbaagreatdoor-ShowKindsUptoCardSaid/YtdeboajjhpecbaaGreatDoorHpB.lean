/- HpB: several texts in one. -/
import Derived.Test.YtdeboajjhpecbaaGreatDoorWld
import Derived.WalkKit
import Derived.WalkLawsBesides
import Derived.WalkSpells
import Derived.Lib.Hide
import Derived.Deep.DeepCutAuto
import Derived.Deep.CutBlock
import Derived.Deep.AppendLies
import Derived.Deep.RegionLaw
import Derived.OwnWalk
import Derived.LaidEqlPtr
import Derived.IntWalk
import Derived.Test.YtdeboajjhpecbaaGreatDoorOtD
import Derived.Stop.Asserts
/- The arena with bodies of any type: how it lies in memory; New, Make, Count, Get. -/
set_option linter.unusedVariables false
set_option linter.unusedSimpArgs false
namespace Go.Proofs.YtdeboajjhpecbaaGreatDoor.Hp
open Go.RowKit Go.Proofs.YtdeboajjhpecbaaGreatDoor

/-! Rows -/
def numCells (l : List Int) : List Value := l.map (Value.int .i64)
theorem numCells_append (l m : List Int) : numCells (l ++ m) = numCells l ++ numCells m := List.map_append
theorem numCells_get (l : List Int) (i : Nat) (h : i < l.length) : (numCells l)[i]? = some (.int .i64 (l.getD i 0)) := by
  simp [numCells, List.getElem?_eq_getElem h]
abbrev Cell := Option (Nat × Nat) × Bool
def bodyV : Option (Nat × Nat) → Value
  | none => .nilIface
  | some n => .iface n.1 (.pointer (some ⟨n.2, 0, none⟩))
def clC (c : Cell) : List Value := [bodyV c.1, .bool c.2]
def clCells (l : List Cell) : List Value := l.flatMap clC
theorem clCells_append (l m : List Cell) : clCells (l ++ m) = clCells l ++ clCells m := by simp [clCells]
theorem clCells_get (l : List Cell) (k : Nat) (hk : k < l.length) : (clCells l)[k * 2]? = some (bodyV (l.getD k (none, false)).1) ∧ (clCells l)[k * 2 + 1]? = some (.bool (l.getD k (none, false)).2) := by
  induction l generalizing k with
  | nil => simp at hk
  | cons c l ih =>
    have hc : clCells (c :: l) = bodyV c.1 :: .bool c.2 :: clCells l := by simp [clCells, clC]
    cases k with
    | zero => rw [hc]; simp
    | succ k =>
      have := ih k (by simpa using hk)
      rw [hc, show (k + 1) * 2 = k * 2 + 1 + 1 by omega]
      simpa using this
theorem clCells_set (l : List Cell) (k : Nat) (c : Cell) : ((clCells l).set (k * 2) (bodyV c.1)).set (k * 2 + 1) (.bool c.2) = clCells (l.set k c) := by
  induction l generalizing k with
  | nil => simp [clCells]
  | cons d l ih =>
    have hc : ∀ d l, clCells (d :: l) = bodyV d.1 :: .bool d.2 :: clCells l := by intro d l; simp [clCells, clC]
    cases k with
    | zero => rw [hc]; simp [hc]
    | succ k =>
      rw [hc, show (k + 1) * 2 = k * 2 + 1 + 1 by omega]
      simp only [List.set_cons_succ]
      rw [ih k, hc]
theorem clCells_set_mark (l : List Cell) (k : Nat) (b : Bool) : (clCells l).set (k * 2 + 1) (.bool b) = clCells (l.set k ((l.getD k (none, false)).1, b)) := by
  induction l generalizing k with
  | nil => simp [clCells]
  | cons d l ih =>
    have hc : ∀ d l, clCells (d :: l) = bodyV d.1 :: .bool d.2 :: clCells l := by intro d l; simp [clCells, clC]
    cases k with
    | zero => rw [hc]; simp [hc]
    | succ k =>
      rw [hc, show (k + 1) * 2 = k * 2 + 1 + 1 by omega]
      simp only [List.set_cons_succ]
      rw [ih k]
      simp [hc]
theorem clCells_set_body (l : List Cell) (k : Nat) (b : Option (Nat × Nat)) : (clCells l).set (k * 2) (bodyV b) = clCells (l.set k (b, (l.getD k (none, false)).2)) := by
  induction l generalizing k with
  | nil => simp [clCells]
  | cons d l ih =>
    have hc : ∀ d l, clCells (d :: l) = bodyV d.1 :: .bool d.2 :: clCells l := by intro d l; simp [clCells, clC]
    cases k with
    | zero => rw [hc]; simp [hc]
    | succ k =>
      rw [hc, show (k + 1) * 2 = k * 2 + 1 + 1 by omega]
      simp only [List.set_cons_succ]
      rw [ih k]
      simp [hc]
theorem own_shape {w : World} {B : Nat} {t : TypeId} {size n : Nat} {v : Value} {xs : List Value} (h : w.ownsRow B t size v n xs) : ∃ A cap, v = .slice A n cap ∧ (0 < n → ∃ g, A = some ⟨g, 0, none⟩) := by
  rcases h.2 with ⟨rfl, rfl⟩ | ⟨g, cap, cur, rfl, _⟩
  · exact ⟨none, 0, rfl, fun h => by omega⟩
  · exact ⟨_, _, rfl, fun _ => ⟨g, rfl⟩⟩
theorem own_kind {w : World} {B size n : Nat} {v : Value} {xs : List Value} {t : TypeId} (h : w.ownsRow B t size v n xs) : ∀ g, v.ownBlock = some g → ∃ c fz, w.heap[g]? = some (.cells c t fz) := by
  intro g hg
  rcases h.2 with ⟨rfl, _⟩ | ⟨g', cap, cur, rfl, _, hh, _⟩
  · simp [Value.ownBlock] at hg
  · obtain rfl : g' = g := by simpa [Value.ownBlock] using hg
    exact ⟨cur, _, hh⟩
/-- Rows of different types lie apart. -/
theorem own_ne {w : World} {B size n B' size' n' : Nat} {v v' : Value} {xs xs' : List Value} {t t' : TypeId} (h : w.ownsRow B t size v n xs) (h' : w.ownsRow B' t' size' v' n' xs') (ht : t ≠ t') : v.ownBlock = none ∨ v.ownBlock ≠ v'.ownBlock := by
  cases hg : v.ownBlock with
  | none => exact .inl rfl
  | some g =>
    refine .inr fun e => ?_
    obtain ⟨c1, f1, h1⟩ := own_kind h g hg
    obtain ⟨c2, f2, h2⟩ := own_kind h' g e.symm
    rw [h1] at h2
    simp at h2
    exact ht h2.2.1
/-- A shorter look at a row. -/
theorem own_take {w : World} {B size n g cap : Nat} {t : TypeId} {xs : List Value} (h : w.ownsRow B t size (.slice (some ⟨g, 0, none⟩) n cap) n xs) (k : Nat) (hk : k ≤ n) : w.ownsRow B t size (.slice (some ⟨g, 0, none⟩) k cap) k (xs.take (k * size)) := by
  rcases h.2 with ⟨h', _⟩ | ⟨g', cap', cur, h', hb, hg, hnc, hcm, hcs, htake⟩
  · simp at h'
  · simp only [Value.slice.injEq, Option.some.injEq, Addr.mk.injEq, and_true, true_and] at h'
    obtain ⟨rfl, rfl⟩ := h'
    have hle : k * size ≤ n * size := Nat.mul_le_mul_right size hk
    refine ⟨by rw [List.length_take, h.1]; omega, .inr ⟨g, cap, cur, rfl, hb, hg, by omega, hcm, hcs, ?_⟩⟩
    rw [← htake, List.take_take, Nat.min_eq_left hle]

/-! The arena -/
/-- An arena A: the values of its fields, its cells, free cells (the newest last), roots, and how many live. -/
structure Ar (w : World) (A B : Nat) (cv fv rv : Value) (cs : List Cell) (fr ro : List Int) (live : Int) : Prop where
  blk : Blk w A 120 #[cv, fv, rv, .int .i64 live]
  cells : w.ownsRow B 122 2 cv cs.length (clCells cs)
  free : w.ownsRow B 3 1 fv fr.length (numCells fr)
  roots : w.ownsRow B 3 1 rv ro.length (numCells ro)
  apart : ∀ g, fv.ownBlock = some g → rv.ownBlock ≠ some g
theorem Ar.upd {w w' : World} {A B : Nat} {cv fv rv : Value} {cs : List Cell} {fr ro : List Int} {live : Int} {M : Nat → Prop} (h : Ar w A B cv fv rv cs fr ro live) (u : Upd w w' M) (hA : ¬ M A)
    (hc : ∀ g, cv.ownBlock = some g → ¬ M g) (hf : ∀ g, fv.ownBlock = some g → ¬ M g) (hr : ∀ g, rv.ownBlock = some g → ¬ M g) : Ar w' A B cv fv rv cs fr ro live :=
  ⟨u.blk h.blk hA, u.own h.cells hc, u.own h.free hf, u.own h.roots hr, h.apart⟩
theorem Ar.below {w w' : World} {A B : Nat} {cv fv rv : Value} {cs : List Cell} {fr ro : List Int} {live : Int} (h : Ar w A B cv fv rv cs fr ro live) (b : Below w.heap.size w w') : Ar w' A B cv fv rv cs fr ro live :=
  h.upd (M := fun _ => False) (Upd.of_below_all b) (fun h => h) (fun _ _ h => h) (fun _ _ h => h) (fun _ _ h => h)

theorem infoCell : ((Tryz.prog.info? 122).map (fun i => (i.zero, i.size, i.bytes))) = some (some (.agg #[.nilIface, .bool false]), 2, 24) := by kernel_rfl
theorem infoInt : ((Tryz.prog.info? 3).map (fun i => (i.zero, i.size, i.bytes))) = some (some (.int .i64 0), 1, 8) := by kernel_rfl

theorem new_any (w : World) : Calls Tryz.prog 39 #[] w fun e w' => e = .returned (.pointer (some ⟨w.heap.size, 0, none⟩)) ∧ w' = w.alloc (.cells #[.slice none 0 0, .slice none 0 0, .slice none 0 0, .int .i64 0] 120) := by
  go_enter Tryz.func39, Tryz.ntmps39
  go_wp2
  go_ret
  exact ⟨rfl, rfl⟩
theorem new_ar (w : World) : Ar (w.alloc (.cells #[.slice none 0 0, .slice none 0 0, .slice none 0 0, .int .i64 0] 120)) w.heap.size w.heap.size (.slice none 0 0) (.slice none 0 0) (.slice none 0 0) [] [] [] 0 :=
  ⟨Blk.new _ _ _, World.ownsRow_nil _ _ _ _, World.ownsRow_nil _ _ _ _, World.ownsRow_nil _ _ _ _, fun g h => by cases h⟩

set_option maxHeartbeats 1000000 in
/-- Make, no cell being free: a new cell behind the others. -/
theorem make_new {w : World} {A B : Nat} {cv fv rv : Value} {cs : List Cell} {ro : List Int} {live : Int} (N : Nat × Nat) (h : Ar w A B cv fv rv cs [] ro live) (hl : 0 ≤ live) (hl2 : live < 4194304) (hc : cs.length ≤ 100000000) (hB : B ≤ w.heap.size) :
    Calls Tryz.prog 26 #[.pointer (some ⟨A, 0, none⟩), bodyV (some N)] w fun e w' => e = .returned (.int .i64 ((cs.length + 1 : Nat) : Int)) ∧
      ∃ cv', Ar w' A B cv' fv rv (cs ++ [(some N, false)]) [] ro (live + 1) ∧ Upd w w' (fun k => k = A ∨ cv.ownBlock = some k) ∧ (∀ g, cv'.ownBlock = some g → cv.ownBlock = some g ∨ w.heap.size ≤ g) := by
  obtain ⟨i0, hi, hz0, hz1, hz2⟩ := info_parts infoCell
  have hown := h.cells
  have hblk := h.blk
  have hsep1 := own_ne h.free h.cells (by decide)
  have hsep2 := own_ne h.roots h.cells (by decide)
  have hfr := h.free
  have hro := h.roots
  have hap := h.apart
  obtain ⟨ca, ccap, rfl, _⟩ := own_shape h.cells
  obtain ⟨fa, fcap, rfl, _⟩ := own_shape h.free
  have x0 : w.cell? ⟨A, 0, none⟩ = some (.slice ca cs.length ccap) := by rw [hblk.cell]; rfl
  have x1 : w.cell? ⟨A, 1, none⟩ = some (.slice fa 0 fcap) := by rw [hblk.cell]; rfl
  have x3 : w.cell? ⟨A, 3, none⟩ = some (.int .i64 live) := by rw [hblk.cell]; rfl
  have z0 := hblk.frozen 0
  have z3 := hblk.frozen 3
  have hAl := hblk.lt
  have L0 : (live == 4194304) = false := by rw [beq_eq_false_iff_ne]; omega
  have L1 : ¬ live = 4194304 := by omega
  have w1 : IntKind.i64.wrap (live + 1) = live + 1 := IntWalk.i64_in _ (by omega)
  have b2 : Blk (w.setCell ⟨A, 3, none⟩ (.int .i64 (live + 1))) A 120 #[.slice ca cs.length ccap, .slice fa 0 fcap, rv, .int .i64 (live + 1)] := hblk.set_ 3 _
  have own2 := own_set hown hblk (by decide) 3 (.int .i64 (live + 1))
  obtain ⟨n, hn⟩ : ∃ n, cs.length = n := ⟨_, rfl⟩
  rw [hn] at x0 own2 b2 hc
  have HN := Lib.hid hn
  have HB := Lib.hid b2
  have HR := Lib.hid (And.intro h (And.intro hsep1 hsep2))
  clear hown hfr hro hap hblk b2 h hsep1 hsep2 hn
  have hsz : (w.setCell ⟨A, 3, none⟩ (.int .i64 (live + 1))).heap.size = w.heap.size := by simp
  have hnews := World.news_of_block (cs := #[bodyV (some N), .bool false]) (t := 122) (fr := (0, 0)) (heap_alloc_new (w.setCell ⟨A, 3, none⟩ (.int .i64 (live + 1))) (.cells #[bodyV (some N), .bool false] 122))
  rw [hsz] at hnews
  unfold bodyV at hnews ⊢
  go_enter Tryz.func26, Tryz.ntmps26
  go_wp2_with (at_builtin; refine wpList_append_lies _ rfl _ _ 118 rfl B 122 i0 _ 2 24 Tryz.underlying118 hi hz0 hz1 hz2 rfl (by decide) _ _ _ rfl (own2.alloc _) ⟨w.heap.size, 0, none⟩ 1 1 [.iface N.1 (.pointer (some ⟨N.2, 0, none⟩)), .bool false] rfl rfl hnews (by simp [Value.oneCell']) (by decide) (by unfold maxLen; omega) (by omega) (by simp; omega) _ rfl ?_)
  intro gg cap w1 hown1 hgrow hat hlt
  have kb : Blk w1 A 120 #[.slice ca n ccap, .slice fa 0 fcap, rv, .int .i64 (live + 1)] := Blk.grown (HB.out.alloc _) hgrow (fun e => own_blk_ne own2 HB.out (by decide) e.symm)
  obtain ⟨h, hsep1, hsep2⟩ := HR.out
  have hown3 := own_set hown1 kb (by decide) 0 (.slice (some ⟨gg, 0, none⟩) (n + 1) cap)
  have f3 := own_set (((own_set h.free h.blk (by decide) 3 (.int .i64 (live + 1))).alloc (.cells #[.iface N.1 (.pointer (some ⟨N.2, 0, none⟩)), .bool false] 122)).kept hgrow (by rw [← HN.out]; exact hsep1)) kb (by decide) 0 (.slice (some ⟨gg, 0, none⟩) (n + 1) cap)
  have r3 := own_set (((own_set h.roots h.blk (by decide) 3 (.int .i64 (live + 1))).alloc (.cells #[.iface N.1 (.pointer (some ⟨N.2, 0, none⟩)), .bool false] 122)).kept hgrow (by rw [← HN.out]; exact hsep2)) kb (by decide) 0 (.slice (some ⟨gg, 0, none⟩) (n + 1) cap)
  have kb3 : Blk (w1.setCell ⟨A, 0, none⟩ (.slice (some ⟨gg, 0, none⟩) (n + 1) cap)) A 120 #[.slice (some ⟨gg, 0, none⟩) (n + 1) cap, .slice fa 0 fcap, rv, .int .i64 (live + 1)] := kb.set_ 0 _
  have u3 : Upd w (w1.setCell ⟨A, 0, none⟩ (.slice (some ⟨gg, 0, none⟩) (n + 1) cap)) (fun k => k = A ∨ (Value.slice ca n ccap).ownBlock = some k) :=
    ((((Upd.refl w _).set A 3 (.int .i64 (live + 1)) (.inl rfl)).alloc _).grown hgrow (fun q e => .inr e)).set A 0 _ (.inl rfl)
  have x0' : w1.cell? ⟨A, 0, none⟩ = some (.slice ca n ccap) := by rw [kb.cell]; rfl
  have z0' := kb.frozen 0
  have hAl' := kb.lt
  have hgA : gg ≠ A := by
    rintro rfl
    obtain ⟨c1, f1, h1⟩ := own_kind hown1 gg rfl
    rw [show w1.heap[gg]? = _ from kb] at h1
    simp at h1
  have HP := Lib.hid (And.intro hown3 (And.intro f3 (And.intro r3 (And.intro kb3 (And.intro u3 hat)))))
  clear hown1 hgrow hat hown3 f3 r3 kb3 u3 kb HR hsep1 hsep2 own2 hnews x1 x3 z3
  go_wp2
  go_ret
  obtain ⟨p1, p2, p3, p4, p5, p6⟩ := HP.out
  have hl1 : (cs ++ [((some N, false) : Cell)]).length = n + 1 := by rw [List.length_append, HN.out]; rfl
  rw [HN.out]
  refine ⟨by simp, _, ⟨p4, ?_, p2, p3, h.apart⟩, p5, ?_⟩
  · rw [hl1, clCells_append]; exact p1
  · intro g hg
    obtain rfl : gg = g := by simpa [Value.ownBlock] using hg
    rcases p6 with h6 | h6
    · exact .inl h6
    · exact .inr (by omega)
/-- What Get gives. -/
def getV (cs : List Cell) (r : Int) : Value := if 1 ≤ r ∧ r ≤ cs.length then bodyV (cs.getD (r - 1).toNat (none, false)).1 else .nilIface
set_option maxHeartbeats 1000000 in
theorem get_any {w : World} {A B : Nat} {cv fv rv : Value} {cs : List Cell} {fr ro : List Int} {live : Int} (r : Int) (h : Ar w A B cv fv rv cs fr ro live) (hl : cs.length ≤ 100000000) :
    Calls Tryz.prog 27 #[.pointer (some ⟨A, 0, none⟩), .int .i64 r] w fun e w' => e = .returned (getV cs r) ∧ ∃ q, w' = w.drewN q := by
  obtain ⟨a, cap, rfl, ha⟩ := own_shape h.cells
  have x0 : w.cell? ⟨A, 0, none⟩ = some (.slice a cs.length cap) := by rw [h.blk.cell]; rfl
  have hcl := h.cells
  obtain ⟨n, hn⟩ : ∃ n, cs.length = n := ⟨_, rfl⟩
  unfold getV
  rw [hn] at x0 ha hcl hl ⊢
  clear h
  by_cases h1 : 1 ≤ r
  · have L1 : decide (r < (1 : Int)) = false := by simpa using h1
    by_cases h2 : r ≤ n
    · have L2 : decide ((n : Int) < r) = false := by simpa using h2
      obtain ⟨i, rfl⟩ : ∃ i : Nat, r = (i : Int) + 1 := ⟨(r - 1).toNat, by omega⟩
      have hin : i < n := by omega
      obtain ⟨gc, rfl⟩ := ha (by omega)
      have w1 : IntKind.i64.wrap ((i : Int) + 1 - 1) = (i : Int) := by rw [IntWalk.i64_in _ (by omega)]; omega
      have e1 : (i : Int) + 1 - 1 = (i : Int) := by omega
      have z0 : (0 : Int) ≤ i := by omega
      have z1 : (i : Int) < n := by omega
      have z2 : (i : Int).toNat = i := by omega
      have hg := clCells_get cs i (by rw [hn]; exact hin)
      have c0 := (hcl.cellAt (i * 2) (by omega)).trans hg.1
      rw [if_pos ⟨h1, h2⟩, e1, z2]
      generalize bodyV (cs.getD i (none, false)).1 = bv at c0 ⊢
      clear hcl hg hn h1 h2 ha
      go_enter Tryz.func27, Tryz.ntmps27
      go_wp2
      go_ret
      exact ⟨rfl, by first | exact ⟨0, rfl⟩ | exact ⟨1, rfl⟩⟩
    · have L2 : decide ((n : Int) < r) = true := by simpa using h2
      rw [if_neg (fun h => h2 h.2)]
      clear hcl hn ha
      go_enter Tryz.func27, Tryz.ntmps27
      go_wp2
      go_ret
      exact ⟨rfl, by first | exact ⟨0, rfl⟩ | exact ⟨1, rfl⟩⟩
  · have L1 : decide (r < (1 : Int)) = true := by simpa using h1
    rw [if_neg (fun h => h1 h.1)]
    clear hcl hn ha
    go_enter Tryz.func27, Tryz.ntmps27
    go_wp2
    go_ret
    exact ⟨rfl, by first | exact ⟨0, rfl⟩ | exact ⟨1, rfl⟩⟩
end Go.Proofs.YtdeboajjhpecbaaGreatDoor.Hp

/- The heap: New, Make, Obj. -/
set_option linter.unusedVariables false
set_option linter.unusedSimpArgs false
namespace Go.Proofs.YtdeboajjhpecbaaGreatDoor.Hp
open Go.RowKit Go.Proofs.YtdeboajjhpecbaaGreatDoor

abbrev tObj : Nat := 70
/-- An object's cells: class, prototype, closed, its table of properties, elements, table, weak table, faint cells, At. -/
abbrev objA (cl pr : Int) (clo : Bool) (T : Nat) (ev tb wk fa : Value) (at_ : Int) : Array Value :=
  #[.int .i64 cl, .int .i64 pr, .bool clo, .pointer (some ⟨T, 0, none⟩), ev, .slice none 0 0, tb, .pointer none, wk, fa, .nilIface, .int .i64 0, .int .i64 0, .int .i64 0, .int .i64 at_, .nilIface]
abbrev nilP : Value := .pointer none
abbrev nilS : Value := .slice none 0 0
abbrev objN (cl pr : Int) (T : Nat) : Array Value := objA cl pr false T nilS nilP nilP nilS 0
/-- What heap.New lays. -/
def newW (w : World) : World := (w.alloc (.cells #[.slice none 0 0, .slice none 0 0, .slice none 0 0, .int .i64 0] 120)).alloc (.cells #[.pointer (some ⟨w.heap.size, 0, none⟩), .int .i64 0] 90)
theorem hnew_any (w : World) : Calls Tryz.prog 24 #[] w fun e w' => e = .returned (.pointer (some ⟨w.heap.size + 1, 0, none⟩)) ∧ w' = newW w := by
  go_enter Tryz.func24, Tryz.ntmps24
  go_wp2_with (go_at_call 39; refine (new_any w).mono ?_; rintro e w1 ⟨rfl, rfl⟩)
  go_ret
  exact ⟨rfl, rfl⟩
/-- A heap's arena, its struct. -/
structure Hx (w : World) (H A B : Nat) (cv fv rv : Value) (cs : List Cell) (fr ro : List Int) (live : Int) : Prop where
  hb : Blk w H 90 #[.pointer (some ⟨A, 0, none⟩), .int .i64 0]
  ar : Ar w A B cv fv rv cs fr ro live
theorem Hx.upd {w w' : World} {H A B : Nat} {cv fv rv : Value} {cs : List Cell} {fr ro : List Int} {live : Int} {M : Nat → Prop} (h : Hx w H A B cv fv rv cs fr ro live) (u : Upd w w' M) (hH : ¬ M H) (hA : ¬ M A)
    (hc : ∀ g, cv.ownBlock = some g → ¬ M g) (hf : ∀ g, fv.ownBlock = some g → ¬ M g) (hr : ∀ g, rv.ownBlock = some g → ¬ M g) : Hx w' H A B cv fv rv cs fr ro live := ⟨u.blk h.hb hH, h.ar.upd u hA hc hf hr⟩
theorem Hx.below {w w' : World} {H A B : Nat} {cv fv rv : Value} {cs : List Cell} {fr ro : List Int} {live : Int} (h : Hx w H A B cv fv rv cs fr ro live) (b : Below w.heap.size w w') : Hx w' H A B cv fv rv cs fr ro live := ⟨h.hb.below b h.hb.lt, h.ar.below b⟩
theorem newW_hx (w : World) : Hx (newW w) (w.heap.size + 1) w.heap.size w.heap.size nilS nilS nilS [] [] [] 0 := by
  unfold newW
  refine ⟨?_, (new_ar w).below ((Below.refl _ _).alloc (Nat.le_refl _) _)⟩
  have := Blk.new (w.alloc (.cells #[.slice none 0 0, .slice none 0 0, .slice none 0 0, .int .i64 0] 120)) 90 #[.pointer (some ⟨w.heap.size, 0, none⟩), .int .i64 0]
  rwa [World.size_alloc] at this
theorem newW_below (w : World) : Below w.heap.size w (newW w) := ((Below.refl _ _).alloc (Nat.le_refl _) _).alloc (by simp) _

/-- What Make comes to. -/
def MakP (cl pr : Int) (H A B : Nat) (cv fv rv : Value) (cs : List Cell) (ro : List Int) (live : Int) (w : World) (e : Ending) (w' : World) : Prop :=
  ∃ b T cv', e = .returned (.tuple #[.int .i64 ((cs.length + 1 : Nat) : Int), .pointer (some ⟨b, 0, none⟩)]) ∧ w.heap.size ≤ T ∧ T < b ∧ Blk w' b 85 (objN cl pr T) ∧ TabA w' T [] [] (fun k => k = T) ∧
    Hx w' H A B cv' fv rv (cs ++ [(some (tObj, b), false)]) [] ro (live + 1) ∧ Upd w w' (fun k => k = A ∨ cv.ownBlock = some k) ∧ (∀ g, cv'.ownBlock = some g → cv.ownBlock = some g ∨ b < g)
set_option maxHeartbeats 2000000 in
theorem make_any {w : World} {H A B : Nat} {cv fv rv : Value} {cs : List Cell} {ro : List Int} {live : Int} (cl pr : Int) (h : Hx w H A B cv fv rv cs [] ro live) (hl : 0 ≤ live) (hl2 : live < 4194304) (hc : cs.length ≤ 100000000) (hB : B ≤ w.heap.size) :
    Calls Tryz.prog 14 #[.pointer (some ⟨H, 0, none⟩), .int .i64 cl, .int .i64 pr] w (MakP cl pr H A B cv fv rv cs ro live w) := by
  have HX := Lib.hid h
  clear h
  go_enter Tryz.func14, Tryz.ntmps14
  go_wp2_with (go_at_call 25; refine (Go.Proofs.YtdeboajjhpecbaaGreatDoor.new_any w).mono ?_; rintro e w1 ⟨rfl, b1, hT⟩; have b2 := b1.alloc b1.size (.cells (objN cl pr w.heap.size) 85); have h2 := HX.out.below b2; have y0 : (w1.alloc (.cells (objN cl pr w.heap.size) 85)).cell? ⟨H, 0, none⟩ = some (.pointer (some ⟨A, 0, none⟩)) := (by rw [h2.hb.cell]; rfl); have lH := h2.hb.lt; simp only [objN, objA, nilS, nilP] at y0 lH)
  have hm := make_new (tObj, w1.heap.size) h2.ar hl hl2 hc (Nat.le_trans hB b2.size)
  refine hm.mono ?_
  rintro e w3 ⟨rfl, cv', hAr, u3, hcv⟩
  go_wp2
  go_ret2
  have lT : w.heap.size < w1.heap.size := hT.lt _ rfl
  have hlt2 : (w1.alloc (.cells (objN cl pr w.heap.size) 85)).heap.size = w1.heap.size + 1 := by simp
  have hcl := fun g hg => h2.ar.cells.lt g hg
  have hc0 := fun g hg => (HX.out.ar.cells.lt g hg).2
  have hA0 := HX.out.ar.blk.lt
  refine ⟨w1.heap.size, w.heap.size, cv', rfl, Nat.le_refl _, lT, ?_, ?_, ⟨u3.blk h2.hb (fun h => ?_), hAr⟩, ?_, fun g hg => (hcv g hg).imp id (fun h => by omega)⟩
  · refine u3.blk (Blk.new w1 _ _) (fun h => ?_)
    rcases h with h | h
    · have := b1.size; omega
    · have := hc0 _ h; have := b1.size; omega
  · refine (hT.below ((Below.refl _ _).alloc (Nat.le_refl _) _)).upd u3 (fun k hk h => ?_)
    subst hk
    rcases h with h | h
    · omega
    · have := hc0 _ h; omega
  · rcases h with h | h
    · exact h2.hb.ne_ h2.ar.blk (by decide) h
    · exact own_blk_ne h2.ar.cells h2.hb (by decide) h
  · exact (Upd.of_below_all b2).trans u3
/-- The object that a cell has. -/
def objP (cs : List Cell) (r : Int) : Value := match (if 1 ≤ r ∧ r ≤ cs.length then (cs.getD (r - 1).toNat (none, false)).1 else none) with
  | some n => if n.1 = tObj then .pointer (some ⟨n.2, 0, none⟩) else .pointer none
  | none => .pointer none
theorem isObj (v : Value) (w : World) : (Instr.typeAssert (.iface tObj v) 93 tObj true).run Tryz.prog w = .ok (.tuple #[v, .bool true]) w := by
  kernel_rfl
abbrev tMark : Nat := 97
theorem isObj_mark (v : Value) (w : World) : (Instr.typeAssert (.iface tMark v) 93 tObj true).run Tryz.prog w = .ok (.tuple #[.pointer none, .bool false]) w := by kernel_rfl
theorem isObj_nil (w : World) : (Instr.typeAssert .nilIface 93 tObj true).run Tryz.prog w = .ok (.tuple #[.pointer none, .bool false]) w := by kernel_rfl
end Go.Proofs.YtdeboajjhpecbaaGreatDoor.Hp
