/- Both in memory while their rows of cursors grow. -/
import Derived.Test.YtlgnjbdkkpjjaaaOtT
import Derived.Test.YtlgnjbdkkpjjaaaOrd
set_option linter.unusedVariables false
set_option linter.unusedSimpArgs false
namespace Go.Proofs.Ytlgnjbdkkpjjaaa
open Go.RowKit Go.Sort

/-- Both in memory, without the rows of cursors. -/
structure Mem2 (w0 w : World) (B T M : Nat) (A : List Ent) (D : List (Nat × Nat)) (O : Nat → Prop) (L : List Ent) (cl : Nat) (R : Nat → Prop) (lv cv dv : Value) (X : List Cu) : Prop where
  st : St w0 w T A D O
  rt : RTab w M lv L (cl : Int) R
  rO : ∀ k, R k → ¬ O k
  rB : ∀ k, R k → w0.heap.size ≤ k
  bb : Bx w (UU O R) B 57 #[ptrP T, ptrP M, cv, dv]
  hB : w0.heap.size ≤ B
  db : ∀ x ∈ X, Bx w (UU O R) x.d 83 (CuC x) ∧ w0.heap.size ≤ x.d
  cs : ∀ x ∈ X, x.sh = true → ∃ a : Int, Bx w (UU O R) x.c 77 #[.pointer none, .int .i64 a]
section
variable {w0 w w' : World} {B T M : Nat} {A A' : List Ent} {D D' : List (Nat × Nat)} {O O' : Nat → Prop} {L L' : List Ent} {cl cl' : Nat} {R R' : Nat → Prop} {lv lv' cv dv cv' dv' : Value} {X : List Cu}
theorem Mem.two (h : Mem w0 w B T M A D O L cl R lv cv dv X) : Mem2 w0 w B T M A D O L cl R lv cv dv X := ⟨h.st, h.rt, h.rO, h.rB, h.bb, h.hB, h.db, h.cs⟩
theorem Mem2.mem (h : Mem2 w0 w B T M A D O L cl R lv cv dv X) (rc : Rx w (UU O R) w0.heap.size 31 cv X.length (X.map (fun x => ptrP x.c))) (rd : Rx w (UU O R) w0.heap.size 81 dv X.length (X.map (fun x => ptrP x.d))) :
    Mem w0 w B T M A D O L cl R lv cv dv X := ⟨h.st, h.rt, h.rO, h.rB, h.bb, h.hB, rc, rd, h.db, h.cs⟩
theorem Mem2.table (h : Mem2 w0 w B T M A D O L cl R lv cv dv X) (t : St w0 w' T A' D' O') (s : Stp w O w' O') : Mem2 w0 w' B T M A' D' O' L cl R lv cv dv X := by
  have s2 := stp_l (R := R) s h.rt.oLt
  exact ⟨t, h.rt.upd s.upd h.rO, fun k hk hO => by
    rcases s.new k hO with h1 | h1
    · exact h.rO k hk h1
    · have := h.rt.oLt k hk; omega, h.rB, h.bb.stp s2, h.hB, fun x hx => ⟨(h.db x hx).1.stp s2, (h.db x hx).2⟩, fun x hx hs => by
    obtain ⟨a, ha⟩ := h.cs x hx hs
    exact ⟨a, ha.stp s2⟩⟩
theorem Mem2.below (h : Mem2 w0 w B T M A D O L cl R lv cv dv X) (b : Below w.heap.size w w') : Mem2 w0 w' B T M A D O L cl R lv cv dv X := h.table (h.st.below b) (Stp.of_below b)
theorem Mem2.lt (h : Mem2 w0 w B T M A D O L cl R lv cv dv X) : ∀ k, UU O R k → k < w.heap.size := fun k hk => by
  rcases hk with hk | hk
  · exact h.st.tab.lt k hk
  · exact h.rt.oLt k hk
theorem Mem2.box (h : Mem2 w0 w B T M A D O L cl R lv cv dv X) (t : TypeId) (cs : Array Value) : Bx (w.alloc (.cells cs t)) (UU O R) w.heap.size t cs := ⟨Blk.new w t cs, fun hk => Nat.lt_irrefl _ (h.lt _ hk)⟩
/-- A change of the call's own beside both. -/
theorem Mem2.far (h : Mem2 w0 w B T M A D O L cl R lv cv dv X) {Z : Nat → Prop} (u : Upd w w' Z) (h1 : ∀ k, Z k → ¬ UU O R k) (h2 : ∀ k, Z k → w0.heap.size ≤ k) (hb : ¬ Z B) (hd : ∀ x ∈ X, ¬ Z x.d) (hc : ∀ x ∈ X, x.sh = true → ¬ Z x.c) : Mem2 w0 w' B T M A D O L cl R lv cv dv X :=
  ⟨h.st.far u (fun k hk hz => h1 k hz (.inl hk)) h2, h.rt.upd u (fun k hk hz => h1 k hz (.inr hk)), h.rO, h.rB, ⟨u.blk h.bb.blk hb, h.bb.no⟩, h.hB, fun x hx => ⟨⟨u.blk (h.db x hx).1.blk (hd x hx), (h.db x hx).1.no⟩, (h.db x hx).2⟩, fun x hx hs => by
    obtain ⟨a, ha⟩ := h.cs x hx hs
    exact ⟨a, u.blk ha.blk (hc x hx hs), ha.no⟩⟩
theorem Mem2.push (h : Mem2 w0 w B T M A D O L cl R lv cv dv X) {e : TypeId} {v : Value} {n : Nat} {xs : List Value} (r : Rx w (UU O R) w0.heap.size e v n xs) (e1 : e ≠ 57) (e2 : e ≠ 83) (e3 : e ≠ 77) (hg : w.grownBy w' v.ownBlock) : Mem2 w0 w' B T M A D O L cl R lv cv dv X :=
  h.far ((Upd.refl w (fun k => v.ownBlock = some k)).grown hg (fun k hk => hk)) (fun k hk => r.no k hk) (fun k hk => (r.own.lt k hk).1) (own_blk_ne r.own h.bb.blk e1) (fun x hx => own_blk_ne r.own (h.db x hx).1.blk e2) (fun x hx hs => by
    obtain ⟨a, ha⟩ := h.cs x hx hs
    exact own_blk_ne r.own ha.blk e3)
theorem Rx.push {U : Nat → Prop} {b : Nat} {e e' : TypeId} {v v' : Value} {n n' : Nat} {xs xs' : List Value} (r' : Rx w U b e' v' n' xs') (r : Rx w U b e v n xs) (hne : e' ≠ e) (hg : w.grownBy w' v.ownBlock) : Rx w' U b e' v' n' xs' :=
  r'.far ((Upd.refl w (fun k => v.ownBlock = some k)).grown hg (fun k hk => hk)) (fun k hk hM => own_own_ne r'.own r.own hne hM hk)
theorem Bx.push {U : Nat → Prop} {b : Nat} {e t : TypeId} {v : Value} {n g : Nat} {xs : List Value} {cs : Array Value} (k : Bx w U g t cs) (r : Rx w U b e v n xs) (hne : e ≠ t) (hg : w.grownBy w' v.ownBlock) : Bx w' U g t cs :=
  ⟨((Upd.refl w (fun k => v.ownBlock = some k)).grown hg (fun k hk => hk)).blk k.blk (own_blk_ne r.own k.blk hne), k.no⟩
theorem Rx.grown {U : Nat → Prop} {b : Nat} {e : TypeId} {v : Value} {n g m cap : Nat} {xs ys : List Value} (r : Rx w U b e v n xs) (hU : ∀ k, U k → k < w.heap.size) (hown : w'.ownsRow b e 1 (.slice (some ⟨g, 0, none⟩) m cap) m ys) (hat : v.ownBlock = some g ∨ g = w.heap.size) : Rx w' U b e (.slice (some ⟨g, 0, none⟩) m cap) m ys :=
  ⟨hown, fun k hk hO => by
    have hgk : g = k := by simpa [Value.ownBlock] using hk
    subst hgk
    rcases hat with h1 | h1
    · exact r.no g h1 hO
    · have := hU g hO; omega⟩
/-- The row of the table's cursors anew. -/
theorem Mem2.setC (h : Mem2 w0 w B T M A D O L cl R lv cv dv X) : Mem2 w0 (w.setCell ⟨B, 2, none⟩ cv') B T M A D O L cl R lv cv' dv X := by
  have u : Upd w (w.setCell ⟨B, 2, none⟩ cv') (fun k => k = B) := (Upd.refl w _).set B 2 _ rfl
  exact ⟨h.st.far u (fun k hk e => h.bb.no (e ▸ .inl hk)) (fun k hk => by rw [hk]; exact h.hB), h.rt.upd u (fun k hk e => h.bb.no (e ▸ .inr hk)), h.rO, h.rB, ⟨h.bb.blk.set_ 2 _, h.bb.no⟩, h.hB, fun x hx => ⟨⟨u.blk (h.db x hx).1.blk ((h.db x hx).1.blk.ne_ h.bb.blk (by decide)), (h.db x hx).1.no⟩, (h.db x hx).2⟩, fun x hx hs => by
    obtain ⟨a, ha⟩ := h.cs x hx hs
    exact ⟨a, u.blk ha.blk (ha.blk.ne_ h.bb.blk (by decide)), ha.no⟩⟩
theorem Mem2.setD (h : Mem2 w0 w B T M A D O L cl R lv cv dv X) : Mem2 w0 (w.setCell ⟨B, 3, none⟩ dv') B T M A D O L cl R lv cv dv' X := by
  have u : Upd w (w.setCell ⟨B, 3, none⟩ dv') (fun k => k = B) := (Upd.refl w _).set B 3 _ rfl
  exact ⟨h.st.far u (fun k hk e => h.bb.no (e ▸ .inl hk)) (fun k hk => by rw [hk]; exact h.hB), h.rt.upd u (fun k hk e => h.bb.no (e ▸ .inr hk)), h.rO, h.rB, ⟨h.bb.blk.set_ 3 _, h.bb.no⟩, h.hB, fun x hx => ⟨⟨u.blk (h.db x hx).1.blk ((h.db x hx).1.blk.ne_ h.bb.blk (by decide)), (h.db x hx).1.no⟩, (h.db x hx).2⟩, fun x hx hs => by
    obtain ⟨a, ha⟩ := h.cs x hx hs
    exact ⟨a, u.blk ha.blk (ha.blk.ne_ h.bb.blk (by decide)), ha.no⟩⟩
theorem Rx.setB {U : Nat → Prop} {b g i : Nat} {e t : TypeId} {v u' : Value} {n : Nat} {xs : List Value} {cs : Array Value} (r : Rx w U b e v n xs) (k : Blk w g t cs) (hne : e ≠ t) : Rx (w.setCell ⟨g, i, none⟩ u') U b e v n xs := ⟨own_set r.own k hne i u', r.no⟩
theorem Bx.setB {U : Nat → Prop} {g g' i : Nat} {t t' : TypeId} {u' : Value} {cs cs' : Array Value} (r : Bx w U g t cs) (k : Blk w g' t' cs') (hne : t ≠ t') : Bx (w.setCell ⟨g', i, none⟩ u') U g t cs := ⟨r.blk.far (r.blk.ne_ k hne) _, r.no⟩
/-- A pair of cursors more. -/
theorem Mem2.more (h : Mem2 w0 w B T M A D O L cl R lv cv dv X) {c0 d0 : Nat} (kd : Bx w (UU O R) d0 83 #[.int .i64 0, .int .i64 (cl : Int), .bool false]) (hd : w0.heap.size ≤ d0) : Mem2 w0 w B T M A D O L cl R lv cv dv (X ++ [⟨c0, d0, 0, cl, false⟩]) :=
  ⟨h.st, h.rt, h.rO, h.rB, h.bb, h.hB, fun x hx => by
    rcases List.mem_append.1 hx with hx | hx
    · exact h.db x hx
    · obtain rfl := List.mem_singleton.1 hx; exact ⟨kd, hd⟩, fun x hx hs => by
    rcases List.mem_append.1 hx with hx | hx
    · exact h.cs x hx hs
    · obtain rfl := List.mem_singleton.1 hx; cases hs⟩
theorem Mem.c_lt (h : Mem w0 w B T M A D O L cl R lv cv dv X) (r : Rel A D L cl X) : ∀ x ∈ X, x.c < w.heap.size := fun x hx => by
  cases hs : x.sh with
  | true =>
    obtain ⟨a, ha⟩ := h.cs x hx hs
    exact ha.blk.lt
  | false => exact h.st.tab.cur_lt (r.op x hx hs)
theorem Mem.d_lt (h : Mem w0 w B T M A D O L cl R lv cv dv X) : ∀ x ∈ X, x.d < w.heap.size := fun x hx => (h.db x hx).1.blk.lt
end
theorem infoRP : (Try.prog.info? 81).map (fun i => (i.zero, i.size, i.bytes)) = some (some (.pointer none), 1, 8) := by kernel_rfl
end Go.Proofs.Ytlgnjbdkkpjjaaa
