/- The heap: environments and a symbol's cell, as a collection has them. -/
import Derived.Test.YtmimnaaofpkndaaDoorHqF
set_option linter.unusedVariables false
set_option linter.unusedSimpArgs false
namespace Go.Proofs.YtmimnaaofpkndaaDoor.Hp
open Go.RowKit Go.Proofs.YtmimnaaofpkndaaDoor Go.Shelf
attribute [local go_sem] Oper.semAt_some

theorem own_mono {w : World} {b b' size n : Nat} {e : TypeId} {v : Value} {xs : List Value} (h : w.ownsRow b e size v n xs) (hb : b' ≤ b) : w.ownsRow b' e size v n xs := by
  refine ⟨h.1, ?_⟩
  rcases h.2 with hn | ⟨g, cap, cur, rfl, hg, rest⟩
  · exact .inl hn
  · exact .inr ⟨g, cap, cur, rfl, Nat.le_trans hb hg, rest⟩
theorem envObj : ¬ tEnv = tObj := by decide
theorem markObj : ¬ tMark = tObj := by decide
theorem markEnv : ¬ tMark = tEnv := by decide
/-- A symbol's cell holds nothing. -/
theorem mark_each (l N : Nat) (O : Nat → Prop) (Fin : (Nat → Prop) → World → Prop) (stop : Prop) (W : World) (hF : Fin O W) (hO : ∀ k, O k → k < W.heap.size) :
    SeqB Fence.wide 8 Tryd.prog 127 #[.pointer (some ⟨N, 0, none⟩), .func (.yield l) #[] #[]] l (fun x : Int => #[.int .i64 x]) [] O Fin stop W := by
  intro J Jx hJ hJx hst hJg hY h0
  have h1 := h0 O W (Upd.refl _ _) (fun k hk => .inl hk) hO
  refine callsIn_of_wp Tryd.func127 rfl trivial ?_ rfl
  simp only [Tryd.ntmps127, List.size_toArray, List.length_cons, List.length_nil, Nat.reduceAdd, Nat.reduceSub, Array.replicate_succ, Array.replicate_zero, List.push_toArray, List.append_toArray, List.nil_append, List.cons_append]
  gi_wp2
  go_end0
  exact ⟨⟨_, rfl⟩, O, hF, .inl h1⟩
/-- Two environments, all of whose values are Empty: a's are n, b's is one, a is above b. -/
structure EnvS (ea eb ga gb n : Nat) (W : World) : Prop where
  a_ : Blk W ea 57 #[.slice (some ⟨ga, 0, none⟩) n n, .int .i64 0]
  b_ : Blk W eb 57 #[.slice (some ⟨gb, 0, none⟩) 1 1, .int .i64 1]
  ra : W.ownsRow 0 34 3 (.slice (some ⟨ga, 0, none⟩) n n) n (valsC (List.replicate n E0))
  rb : W.ownsRow 0 34 3 (.slice (some ⟨gb, 0, none⟩) 1 1) 1 (valsC (List.replicate 1 E0))
def OE (ea eb ga gb : Nat) (k : Nat) : Prop := k = ea ∨ k = eb ∨ k = ga ∨ k = gb
section
variable {ea eb ga gb n : Nat} {W W' : World} {P : Nat → Prop}
theorem EnvS.upd (h : EnvS ea eb ga gb n W) (u : Upd W W' P) (hP : ∀ k, OE ea eb ga gb k → ¬ P k) : EnvS ea eb ga gb n W' :=
  ⟨u.blk h.a_ (hP _ (.inl rfl)), u.blk h.b_ (hP _ (.inr (.inl rfl))), u.own h.ra (fun k hk => by
    obtain rfl : ga = k := by simpa [Value.ownBlock] using hk
    exact hP _ (.inr (.inr (.inl rfl)))), u.own h.rb (fun k hk => by
    obtain rfl : gb = k := by simpa [Value.ownBlock] using hk
    exact hP _ (.inr (.inr (.inr rfl))))⟩
theorem EnvS.below (h : EnvS ea eb ga gb n W) (b : Below W.heap.size W W') : EnvS ea eb ga gb n W' := h.upd (P := fun _ => False) (Upd.of_below_all b) (fun _ _ e => e)
theorem EnvS.fit (h : EnvS ea eb ga gb n W) {k : Nat} (hk : OE ea eb ga gb k) : ∃ c t f, W.heap[k]? = some (.cells c t f) ∧ t ≠ tMkP := by
  rcases hk with rfl | rfl | rfl | rfl
  · exact ⟨_, _, _, h.a_, by decide⟩
  · exact ⟨_, _, _, h.b_, by decide⟩
  · obtain ⟨c, f, e⟩ := own_kind h.ra _ rfl
    exact ⟨_, _, _, e, by decide⟩
  · obtain ⟨c, f, e⟩ := own_kind h.rb _ rfl
    exact ⟨_, _, _, e, by decide⟩
end
/-- An environment's Each, as an iterator that keeps to its blocks. -/
theorem env_seq (l e g k : Nat) (up : Int) (hk : k ≤ 100000) (O : Nat → Prop) (S : World → Prop) (Fin : (Nat → Prop) → World → Prop) (W : World) (hS : S W) (hO : ∀ k, O k → k < W.heap.size)
    (hr : ∀ W, S W → Blk W e 57 #[.slice (some ⟨g, 0, none⟩) k k, .int .i64 up] ∧ W.ownsRow 0 34 3 (.slice (some ⟨g, 0, none⟩) k k) k (valsC (List.replicate k E0)))
    (hk2 : ∀ {W W' : World}, S W → Upd W W' (fun k => ¬ O k) → S W') (hF : ∀ W, S W → Fin O W) :
    SeqB Fence.wide 8 Tryd.prog 126 #[.pointer (some ⟨e, 0, none⟩), .func (.yield l) #[] #[]] l (fun x : Int => #[.int .i64 x]) (if up = 0 then [] else [up]) O Fin False W := by
  intro J Jx hJ hJx hst hJg hY h0
  have h1 := h0 O W (Upd.refl _ _) (fun k hk => .inl hk) hO
  refine (env_each 8 (by decide) l e g k k 0 up hk (fun pre W1 => J O pre W1 ∧ S W1) W (fun pre W1 h => hr W1 h.2) (fun pre W1 W2 h b => ⟨hJ O pre W1 W2 h.1 (Upd.of_below_all b), hk2 h.2 (Upd.of_below_all b)⟩) (fun hu W1 h => ?_) ⟨h1, hS⟩).mono ?_
  · obtain ⟨fn, tmps, assign, body, hy, hR⟩ := hY O [] up W1 h.1 (by rw [if_neg hu]; exact List.prefix_refl _)
    refine ⟨fn, tmps, assign, body, hy, hR.mono ?_⟩
    rintro e W' ⟨u, ⟨rfl, _, hj⟩ | ⟨_, hj⟩⟩
    · exact ⟨rfl, hj, hk2 h.2 u⟩
    · exact (hst _ _ _ hj).elim
  · rintro e W' ⟨hv, hj, hs⟩
    exact ⟨hv, O, hF W' hs, .inl hj⟩
/-- The bodies of HeapScopes. -/
def scX (ea eb ga gb n : Nat) : Bods where
  S := fun O W => O = OE ea eb ga gb ∧ EnvS ea eb ga gb n W
  to_ := fun N => if N = (tEnv, eb) then [1] else []
  tab := fun _ => []
def scB (ea eb mb : Nat) (N : Nat × Nat) : Prop := N = (tEnv, ea) ∨ N = (tEnv, eb) ∨ N = (tMark, mb)
theorem scOk {ea eb ga gb n mb : Nat} (hne : ea ≠ eb) (hn : n ≤ 1000) : BodsOk (scX ea eb ga gb n) (scB ea eb mb) where
  keep := fun hS u hP => ⟨hS.1, hS.2.upd u (fun k hk => hP k (hS.1 ▸ hk))⟩
  fit := fun hS hk => hS.2.fit (hS.1 ▸ hk)
  typ := fun N hN => by rcases hN with rfl | rfl | rfl <;> simp
  each := fun N hN O W l hS => by
    obtain ⟨rfl, hE⟩ := hS
    have hO : ∀ k, OE ea eb ga gb k → k < W.heap.size := fun k hk => by
      obtain ⟨c, t, f, e, _⟩ := hE.fit hk
      exact (Array.getElem?_eq_some_iff.1 e).1
    have hk2 : ∀ {W W' : World}, EnvS ea eb ga gb n W → Upd W W' (fun k => ¬ OE ea eb ga gb k) → EnvS ea eb ga gb n W' := fun h u => h.upd u (fun k hk h => h hk)
    have hF : ∀ W, EnvS ea eb ga gb n W → BFin (scX ea eb ga gb n) (OE ea eb ga gb) W := fun W h => ⟨_, ⟨rfl, h⟩, fun k hk => hk⟩
    rcases hN with rfl | rfl | rfl
    · have := env_seq l ea ga n 0 (by omega) (OE ea eb ga gb) (EnvS ea eb ga gb n) (BFin (scX ea eb ga gb n)) W hE hO (fun W h => ⟨h.a_, h.ra⟩) hk2 hF
      rw [if_pos rfl] at this
      have e : (scX ea eb ga gb n).to_ (tEnv, ea) = [] := by simp [scX, hne]
      rw [e]
      exact this
    · have := env_seq l eb gb 1 1 (by omega) (OE ea eb ga gb) (EnvS ea eb ga gb n) (BFin (scX ea eb ga gb n)) W hE hO (fun W h => ⟨h.b_, h.rb⟩) hk2 hF
      rw [if_neg (by decide)] at this
      have e : (scX ea eb ga gb n).to_ (tEnv, eb) = [1] := by simp [scX]
      rw [e]
      exact this
    · have e : (scX ea eb ga gb n).to_ (tMark, mb) = [] := by simp [scX, markEnv]
      rw [e]
      exact mark_each l mb _ _ _ W (hF W hE) hO
  pairs := fun N hN ht => by rcases hN with rfl | rfl | rfl <;> first | exact absurd ht envObj | exact absurd ht markObj
def scCs (ea eb mb : Nat) : List Cell := [(some (tEnv, ea), false), (some (tEnv, eb), false), (some (tMark, mb), false)]
def scM (ea eb mb : Nat) : List Cell := [(some (tEnv, ea), true), (some (tEnv, eb), true), (some (tMark, mb), false)]
theorem scMark {ea eb ga gb n mb : Nat} (hne : ea ≠ eb) : markP (scX ea eb ga gb n).to_ (scX ea eb ga gb n).tab (scCs ea eb mb) [2] = scM ea eb mb := by
  simp [markP, firstP, startP, scCs, scM, scX, reachP, deadP, dfu, mc, drainP, settleP, pairsP, hne, envObj, markObj]
/-- What Collect does to these bodies: nothing. -/
theorem scCol {ea eb ga gb n mb A : Nat} : ColOk (fun _ => (scX ea eb ga gb n).S) (fun _ => (scX ea eb ga gb n).S) (scB ea eb mb) (scM ea eb mb) A where
  keepT := fun hS u hP => ⟨hS.1, hS.2.upd u (fun k hk => hP k (hS.1 ▸ hk))⟩
  keepU := fun hS u hP => ⟨hS.1, hS.2.upd u (fun k hk => hP k (hS.1 ▸ hk))⟩
  ltT := fun hS hk => by
    obtain ⟨c, t, f, e, _⟩ := hS.2.fit (hS.1 ▸ hk)
    exact (Array.getElem?_eq_some_iff.1 e).1
  ltU := fun hS hk => by
    obtain ⟨c, t, f, e, _⟩ := hS.2.fit (hS.1 ▸ hk)
    exact (Array.getElem?_eq_some_iff.1 e).1
  skip := fun hS _ => hS
  drop := fun {j N O W} hj ht => by
    have hb := bodies_at (cs := scM ea eb mb) (i := j) (N := N) (by rw [hj])
    simp [bodies, scM] at hb
    rcases hb with rfl | rfl | rfl <;> first | exact absurd ht envObj | exact absurd ht markObj
  clear := fun {j N O W} hj ht => by
    have hb := bodies_at (cs := scM ea eb mb) (i := j) (N := N) (by rw [hj])
    simp [bodies, scM] at hb
    rcases hb with rfl | rfl | rfl <;> first | exact absurd ht envObj | exact absurd ht markObj
  gone := fun N hN ht => by rcases hN with rfl | rfl | rfl <;> first | exact absurd ht envObj | exact absurd ht markObj
end Go.Proofs.YtmimnaaofpkndaaDoor.Hp
