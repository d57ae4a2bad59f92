/- ArenaKeeps: the two arenas and their nodes, and what turns. -/
import Derived.Test.YthcdhiknjpfmhaaArKeM
set_option linter.unusedVariables false
set_option linter.unusedSimpArgs false
namespace Go.Proofs.Ythcdhiknjpfmhaa
open Go.RowKit
/-- Only blocks of these types, and new ones, have turned. -/
def Turn (ts : List TypeId) (w w' : World) : Prop := Upd w w' (fun k => ∃ t c f, t ∈ ts ∧ w.heap[k]? = some (.cells c t f))
theorem Turn.blk {ts : List TypeId} {w w' : World} {g : Nat} {t : TypeId} {cs : Array Value} (h : Turn ts w w') (hb : Blk w g t cs) (ht : t ∉ ts) : Blk w' g t cs :=
  Upd.blk h hb (by
    rintro ⟨t', c, f, hm, e⟩
    unfold Blk at hb
    rw [hb] at e
    injection e with e
    injection e with _ e _
    exact ht (e ▸ hm))
theorem Turn.own {ts : List TypeId} {w w' : World} {B s n : Nat} {t : TypeId} {v : Value} {xs : List Value} (h : Turn ts w w') (ho : w.ownsRow B t s v n xs) (ht : t ∉ ts) : w'.ownsRow B t s v n xs :=
  Upd.own h ho (by
    rintro g hg ⟨t', c, f, hm, e⟩
    obtain ⟨c2, f2, h2⟩ := own_kind ho g hg
    rw [h2] at e
    injection e with e
    injection e with _ e _
    exact ht (e ▸ hm))
theorem Turn.of {ts : List TypeId} {w w' : World} {M : Nat → Prop} (u : Upd w w' M) (h : ∀ k, k < w.heap.size → M k → ∃ t c f, t ∈ ts ∧ w.heap[k]? = some (.cells c t f)) : Turn ts w w' := u.mono h
theorem Turn.below {ts : List TypeId} {w w' : World} (b : Below w.heap.size w w') : Turn ts w w' := Upd.of_below_all b
/-- Two blocks, or a block and a row. -/
theorem Turn.two {ts : List TypeId} {w w' : World} {A : Nat} {t t' : TypeId} {cs : Array Value} {B s n : Nat} {v : Value} {xs : List Value} (u : Upd w w' (fun k => k = A ∨ v.ownBlock = some k)) (hb : Blk w A t cs) (ho : w.ownsRow B t' s v n xs) (h1 : t ∈ ts) (h2 : t' ∈ ts) : Turn ts w w' :=
  Turn.of u (fun k _ e => by
    rcases e with rfl | e
    · exact ⟨t, cs, _, h1, hb⟩
    · obtain ⟨c, f, h⟩ := own_kind ho k e
      exact ⟨t', c, f, h2, h⟩)
section
variable {w w' : World} {A B : Nat} {cv fv rv : Value} {cs : List Cell} {fr ro : List Int} {live : Int} {nd : Nat → Nod}
theorem Ar.turned {ts : List TypeId} (h : Ar w A B cv fv rv cs fr ro live) (t : Turn ts w w') (h1 : 64 ∉ ts) (h2 : 66 ∉ ts) (h3 : 3 ∉ ts) : Ar w' A B cv fv rv cs fr ro live :=
  ⟨t.blk h.blk h1, t.own h.cells h2, t.own h.free h3, t.own h.roots h3, h.apart⟩
theorem ArN.turned {ts : List TypeId} (h : ArN w A B cv fv rv cs fr ro live nd) (t : Turn ts w w') (h1 : 64 ∉ ts) (h2 : 66 ∉ ts) (h3 : 3 ∉ ts) (h4 : 30 ∉ ts) (h5 : 32 ∉ ts) : ArN w' A B cv fv rv cs fr ro live nd :=
  ⟨h.ar.turned t h1 h2 h3, fun N hN => ⟨t.blk (h.nodes N hN).blk h4, t.own (h.nodes N hN).toR h3, t.own (h.nodes N hN).tabR h5, t.own (h.nodes N hN).faR h3⟩, h.sep, h.nodup, h.ends⟩
end
/-- A cell that was made: its number, its two nodes and what they hold. -/
structure Pa where
  r : Int
  x : Nat
  y : Nat
  to_ : List Int
  tab : List Pr
  fa : List Int
def paC (p : Pa) : List Value := [.int .i64 p.r, .pointer (some ⟨p.x, 0, none⟩), .pointer (some ⟨p.y, 0, none⟩)]
def paCells (ps : List Pa) : List Value := ps.flatMap paC
theorem paCells_snoc (ps : List Pa) (p : Pa) : paCells (ps ++ [p]) = paCells ps ++ paC p := by simp [paCells]
theorem paCells_get (l : List Pa) (k : Nat) (hk : k < l.length) : (paCells l)[k * 3]? = some (.int .i64 l[k].r) ∧ (paCells l)[k * 3 + 1]? = some (.pointer (some ⟨l[k].x, 0, none⟩)) ∧ (paCells l)[k * 3 + 2]? = some (.pointer (some ⟨l[k].y, 0, none⟩)) := by
  induction l generalizing k with
  | nil => simp at hk
  | cons c l ih =>
    have hc : paCells (c :: l) = .int .i64 c.r :: .pointer (some ⟨c.x, 0, none⟩) :: .pointer (some ⟨c.y, 0, none⟩) :: paCells l := by simp [paCells, paC]
    cases k with
    | zero => rw [hc]; simp
    | succ k =>
      have := ih k (by simpa using hk)
      rw [hc, show (k + 1) * 3 = k * 3 + 1 + 1 + 1 by omega]
      simpa using this
theorem infoPa : ((Try.prog.info? 81).map (fun i => (i.zero, i.size, i.bytes))) = some (some (.agg #[.int .i64 0, .pointer none, .pointer none]), 3, 24) := by kernel_rfl
/-- The document's node. -/
def NodY (w : World) (B N : Nat) (p : Pa) : Prop := ∃ tv bv fv, Blk w N 79 #[tv, bv, fv, .int .i64 0] ∧ w.ownsRow B 3 1 tv p.to_.length (numCells p.to_) ∧ w.ownsRow B 32 2 bv p.tab.length (prCells p.tab) ∧ w.ownsRow B 3 1 fv p.fa.length (numCells p.fa)
theorem NodY.turned {ts : List TypeId} {w w' : World} {B N : Nat} {p : Pa} (h : NodY w B N p) (t : Turn ts w w') (h1 : 79 ∉ ts) (h2 : 3 ∉ ts) (h3 : 32 ∉ ts) : NodY w' B N p := by
  obtain ⟨tv, bv, fv, a, b, c, d⟩ := h
  exact ⟨tv, bv, fv, t.blk a h1, t.own b h2, t.own c h3, t.own d h2⟩
theorem LR.turned {ts : List TypeId} {w w' : World} {B : Nat} {v : Value} {ys : List Nat} (h : LR w B v ys) (t : Turn ts w w') (h1 : 78 ∉ ts) : LR w' B v ys := by
  rcases h with h | ⟨h, k⟩
  · exact .inl h
  · exact .inr ⟨h, t.own k h1⟩
abbrev csOf (ps : List Pa) : List Cell := ps.map fun p => (some p.x, false)
theorem bodies_csOf (ps : List Pa) : bodies (csOf ps) = ps.map Pa.x := by
  induction ps with
  | nil => rfl
  | cons p ps ih => simp only [csOf, bodies, List.map_cons, List.filterMap_cons] at ih ⊢; rw [ih]
/-- Both arenas. -/
structure Bo (w : World) (A K M : Nat) (cv lv Lv : Value) (ps : List Pa) (nd : Nat → Nod) : Prop where
  kb : Blk w K 52 #[.pointer (some ⟨A, 0, none⟩), .pointer (some ⟨M, 0, none⟩), lv]
  km : Blk w M 49 #[Lv, nil0, nil0]
  lr : w.ownsRow A 81 3 lv ps.length (paCells ps)
  LL : LR w A Lv (ps.map Pa.y)
  ar : ArN w A A cv nil0 nil0 (csOf ps) [] [] ps.length nd
  xs : ∀ p ∈ ps, (nd p.x).to_ = p.to_ ∧ (nd p.x).tab = p.tab ∧ (nd p.x).fa = p.fa ∧ (nd p.x).ends = 0
  ys : ∀ p ∈ ps, NodY w A p.y p
  hK : A ≤ K
  hM : A ≤ M
theorem Bo.below {w w' : World} {A K M : Nat} {cv lv Lv : Value} {ps : List Pa} {nd : Nat → Nod} (h : Bo w A K M cv lv Lv ps nd) (b : Below w.heap.size w w') : Bo w' A K M cv lv Lv ps nd := by
  have t : Turn [] w w' := Turn.below b
  exact ⟨t.blk h.kb (by simp), t.blk h.km (by simp), t.own h.lr (by simp), h.LL.turned t (by simp), h.ar.below b, h.xs, fun p hp => (h.ys p hp).turned t (by simp) (by simp) (by simp), h.hK, h.hM⟩
theorem Bo.alt {w : World} {A K M : Nat} {cv lv Lv : Value} {ps : List Pa} {nd : Nat → Nod} (h : Bo w A K M cv lv Lv ps nd) : A < w.heap.size := h.ar.ar.blk.lt
/-- Make, with a node that is filled. -/
theorem bo_make {w w2 : World} {A K M N : Nat} {cv lv Lv : Value} {ps : List Pa} {nd : Nat → Nod} {tv bv fv : Value} (p : Pa) (h : Bo w A K M cv lv Lv ps nd) (b : Below w.heap.size w w2) (hp : p.x = N) (hN : w.heap.size ≤ N) (kN : Blk w2 N 30 #[tv, bv, fv, .int .i64 0])
    (t1 : w2.ownsRow A 3 1 tv p.to_.length (numCells p.to_)) (b1 : w2.ownsRow A 32 2 bv p.tab.length (prCells p.tab)) (f1 : w2.ownsRow A 3 1 fv p.fa.length (numCells p.fa)) (new : ∀ g, tv.ownBlock = some g ∨ fv.ownBlock = some g → w.heap.size ≤ g) (apart : ∀ g, tv.ownBlock = some g → fv.ownBlock ≠ some g) (hl : ps.length ≤ 1000) :
    Calls Try.prog 10 #[.pointer (some ⟨A, 0, none⟩), .iface 27 (.pointer (some ⟨N, 0, none⟩))] w2 fun e w3 => e = .returned (.int .i64 ((ps.length : Int) + 1)) ∧
      ∃ cv' nd', Turn [64, 66] w2 w3 ∧ Upd w2 w3 (fun k => A ≤ k) ∧ ArN w3 A A cv' nil0 nil0 (csOf (ps ++ [p])) [] [] (ps ++ [p]).length nd' ∧ (∀ q ∈ ps ++ [p], (nd' q.x).to_ = q.to_ ∧ (nd' q.x).tab = q.tab ∧ (nd' q.x).fa = q.fa ∧ (nd' q.x).ends = 0) := by
  subst hp
  have hN' : p.x ∉ bodies (csOf ps) := fun hc => absurd (h.ar.nodes p.x hc).blk.lt (Nat.not_lt_of_le hN)
  have h1 := h.ar.below b
  have hcl : (csOf ps).length = ps.length := List.length_map ..
  have ecs : csOf (ps ++ [p]) = csOf ps ++ [(some p.x, false)] := by simp [csOf]
  refine (make_new p.x h1.ar (by omega) (by omega) (by omega) (Nat.le_of_lt h1.ar.blk.lt)).mono ?_
  rintro e w3 ⟨rfl, cv', har, hu, _⟩
  refine ⟨by rw [hcl]; simp, cv', (fun J => if J = p.x then ⟨tv, bv, fv, p.to_, p.tab, p.fa, 0⟩ else nd J), Turn.two hu h1.ar.blk h1.ar.cells (by simp) (by simp), hu.mono (fun k _ e => by
    rcases e with e | e
    · omega
    · exact (h1.ar.cells.lt k e).1), ?_, fun q hq => ?_⟩
  · have := h1.add (x := ⟨tv, bv, fv, p.to_, p.tab, p.fa, 0⟩) hN' ⟨kN, t1, b1, f1⟩ ⟨Int.le_refl 0, by show (0 : Int) ≤ 1000000; decide⟩ (fun s g ho hg => by
      have := h.ar.lab_lt s g ho hg
      exact ⟨fun e => absurd (new g (.inl e)) (by omega), fun e => absurd (new g (.inr e)) (by omega)⟩) apart har hu (fun g hg => hg) (fun J hJ => by
      have e : bodies (csOf ps ++ [(some p.x, false)]) = bodies (csOf ps) ++ [p.x] := by simp [bodies]
      rw [e] at hJ
      rcases List.mem_append.1 hJ with q | q
      · exact .inl q
      · exact .inr (List.mem_singleton.1 q)) (by
      have e : bodies (csOf ps ++ [(some p.x, false)]) = bodies (csOf ps) ++ [p.x] := by simp [bodies]
      rw [e, List.nodup_append]
      exact ⟨h1.nodup, by simp, fun a ha c hc e => hN' (by rw [List.mem_singleton.1 hc] at e; exact e ▸ ha)⟩)
    rw [ecs, show ((ps ++ [p]).length : Int) = (ps.length : Int) + 1 by simp]
    exact this
  · dsimp only
    rcases List.mem_append.1 hq with hq | hq
    · have hne : q.x ≠ p.x := fun e => hN' (by rw [← e, bodies_csOf]; exact List.mem_map.2 ⟨q, hq, rfl⟩)
      rw [if_neg hne]
      exact h.xs q hq
    · rw [List.mem_singleton.1 hq, if_pos rfl]
      exact ⟨rfl, rfl, rfl, rfl⟩
theorem LR.two {w w' : World} {B M : Nat} {v : Value} {ys : List Nat} {cs : Array Value} (h : LR w B v ys) (hb : Blk w M 49 cs) (u : Upd w w' (fun k => k = M ∨ v.ownBlock = some k)) : Turn [49, 78] w w' := by
  rcases h with ⟨_, rfl⟩ | ⟨_, k⟩
  · exact Turn.two (v := nil0) (B := 0) (t' := 78) u hb (World.ownsRow_nil _ _ _ 1) (by simp) (by simp)
  · exact Turn.two u hb k (by simp) (by simp)
/-- Ahead of the pair's own row. -/
structure Mi (W : World) (A K M P : Nat) (cv lv Lv : Value) (ps : List Pa) (p : Pa) (yl : List Nat) (nd : Nat → Nod) : Prop where
  kb : Blk W K 52 #[.pointer (some ⟨A, 0, none⟩), .pointer (some ⟨M, 0, none⟩), lv]
  km : Blk W M 49 #[Lv, nil0, nil0]
  kp : Blk W P 81 #[.int .i64 p.r, .pointer (some ⟨p.x, 0, none⟩), .pointer (some ⟨p.y, 0, none⟩)]
  lr : W.ownsRow A 81 3 lv ps.length (paCells ps)
  LL : LR W A Lv yl
  ar : ArN W A A cv nil0 nil0 (csOf (ps ++ [p])) [] [] (ps ++ [p]).length nd
  xs : ∀ q ∈ ps ++ [p], (nd q.x).to_ = q.to_ ∧ (nd q.x).tab = q.tab ∧ (nd q.x).fa = q.fa ∧ (nd q.x).ends = 0
  ys : ∀ q ∈ ps ++ [p], NodY W A q.y q
  hK : A ≤ K
  hM : A ≤ M
  hP : ∀ g, lv.ownBlock = some g → g ≠ P
theorem Mi.below {w w' : World} {A K M P : Nat} {cv lv Lv : Value} {ps : List Pa} {p : Pa} {yl : List Nat} {nd : Nat → Nod} (h : Mi w A K M P cv lv Lv ps p yl nd) (b : Below w.heap.size w w') : Mi w' A K M P cv lv Lv ps p yl nd := by
  have t : Turn [] w w' := Turn.below b
  exact ⟨t.blk h.kb (by simp), t.blk h.km (by simp), t.blk h.kp (by simp), t.own h.lr (by simp), h.LL.turned t (by simp), h.ar.below b, h.xs, fun p hp => (h.ys p hp).turned t (by simp) (by simp) (by simp), h.hK, h.hM, h.hP⟩
/-- Behind Make, and the store of the number. -/
theorem mi_make {w W5 W6 : World} {A K M P : Nat} {cv cv' lv Lv : Value} {ps : List Pa} {nd nd' : Nat → Nod} (p : Pa) (h : Bo w A K M cv lv Lv ps nd) (b : Below w.heap.size w W5) (kP : Blk W5 P 81 #[.int .i64 0, .pointer (some ⟨p.x, 0, none⟩), .pointer (some ⟨p.y, 0, none⟩)]) (hP : w.heap.size ≤ P)
    (hy : NodY W5 A p.y p) (t : Turn [64, 66] W5 W6) (ar : ArN W6 A A cv' nil0 nil0 (csOf (ps ++ [p])) [] [] (ps ++ [p]).length nd') (xs : ∀ q ∈ ps ++ [p], (nd' q.x).to_ = q.to_ ∧ (nd' q.x).tab = q.tab ∧ (nd' q.x).fa = q.fa ∧ (nd' q.x).ends = 0) :
    Mi (W6.setCell ⟨P, 0, none⟩ (.int .i64 p.r)) A K M P cv' lv Lv ps p (ps.map Pa.y) nd' := by
  have h5 := h.below b
  have kP6 := t.blk kP (by decide)
  have u : Upd W6 (W6.setCell ⟨P, 0, none⟩ (.int .i64 p.r)) (fun k => k = P) := (Upd.refl _ _).set P 0 _ rfl
  have t2 : Turn [81] W6 (W6.setCell ⟨P, 0, none⟩ (.int .i64 p.r)) := Turn.of u (fun k _ e => ⟨_, _, _, by simp, e ▸ kP6⟩)
  have hne : ∀ g, lv.ownBlock = some g → g ≠ P := fun g hg e => absurd (h.lr.lt g hg).2 (by omega)
  refine ⟨t2.blk (t.blk h5.kb (by decide)) (by decide), t2.blk (t.blk h5.km (by decide)) (by decide), kP6.set_ 0 _, u.own (t.own h5.lr (by decide)) hne, (h5.LL.turned t (by decide)).turned t2 (by decide), ar.turned t2 (by decide) (by decide) (by decide) (by decide) (by decide), xs, fun q hq => ?_, h.hK, h.hM, hne⟩
  have : NodY W5 A q.y q := by
    rcases List.mem_append.1 hq with hq | hq
    · exact h5.ys q hq
    · rw [List.mem_singleton.1 hq]; exact hy
  exact (this.turned t (by decide) (by decide) (by decide)).turned t2 (by decide) (by decide) (by decide)
/-- Behind the document's Make. -/
theorem mi_ref {W W' : World} {A K M P : Nat} {cv lv Lv Lv' : Value} {ps : List Pa} {p : Pa} {yl yl' : List Nat} {nd : Nat → Nod} (h : Mi W A K M P cv lv Lv ps p yl nd) (km : Blk W' M 49 #[Lv', nil0, nil0]) (hL : LR W' A Lv' yl') (u : Upd W W' (fun k => k = M ∨ Lv.ownBlock = some k)) : Mi W' A K M P cv lv Lv' ps p yl' nd := by
  have t := h.LL.two h.km u
  exact ⟨t.blk h.kb (by decide), km, t.blk h.kp (by decide), t.own h.lr (by decide), hL, h.ar.turned t (by decide) (by decide) (by decide) (by decide) (by decide), h.xs, fun q hq => (h.ys q hq).turned t (by decide) (by decide) (by decide), h.hK, h.hM, h.hP⟩
/-- Behind the append of the pair, and its store. -/
theorem mi_app {W W' : World} {A K M P : Nat} {cv lv lv' Lv : Value} {ps : List Pa} {p : Pa} {yl : List Nat} {nd : Nat → Nod} (h : Mi W A K M P cv lv Lv ps p yl nd) (hyl : yl = (ps ++ [p]).map Pa.y) (u : Upd W W' (fun k => lv.ownBlock = some k)) (ho : W'.ownsRow A 81 3 lv' (ps.length + 1) (paCells ps ++ paC p)) : Bo (W'.setCell ⟨K, 2, none⟩ lv') A K M cv lv' Lv (ps ++ [p]) nd := by
  have t : Turn [81] W W' := Turn.of u (fun k _ e => by
    obtain ⟨c, f, q⟩ := own_kind h.lr k e
    exact ⟨_, c, f, by simp, q⟩)
  have kb := t.blk h.kb (by decide)
  have t2 : Turn [52] W' (W'.setCell ⟨K, 2, none⟩ lv') := Turn.of ((Upd.refl _ _).set K 2 lv' (M := fun k => k = K) rfl) (fun k _ e => ⟨_, _, _, by simp, e ▸ kb⟩)
  subst hyl
  refine ⟨kb.set_ 2 _, t2.blk (t.blk h.km (by decide)) (by decide), ?_, (h.LL.turned t (by decide)).turned t2 (by decide), (h.ar.turned t (by decide) (by decide) (by decide) (by decide) (by decide)).turned t2 (by decide) (by decide) (by decide) (by decide) (by decide), h.xs, fun q hq => ((h.ys q hq).turned t (by decide) (by decide) (by decide)).turned t2 (by decide) (by decide) (by decide), h.hK, h.hM⟩
  rw [List.length_append, paCells_snoc]
  exact t2.own ho (by decide)
end Go.Proofs.Ythcdhiknjpfmhaa
