/- The walk of the statement OtableAll. -/
import Derived.Test.YtlgnjbdkkpjjaaaOtAllA
import Derived.Test.YtlgnjbdkkpjjaaaOtAllB
import Derived.Test.YtlgnjbdkkpjjaaaOtAl
import Derived.Test.YtlgnjbdkkpjjaaaQir
set_option linter.unusedVariables false
set_option linter.unusedSimpArgs false
namespace Go.Proofs.Ytlgnjbdkkpjjaaa
open Go.RowKit Go.Sort Go.Shelf
attribute [local go_sem] Oper.semAt_some

theorem allx_kind7 (K : Int) : ∃ kd : Nat, kd < 7 ∧ (wrap64 (K.tmod 7 + 7)).tmod 7 = (kd : Int) := by
  have h2 := Int.tmod_lt_of_pos K (show (0 : Int) < 7 by decide)
  have h3 := Int.lt_tmod_of_pos K (show (0 : Int) < 7 by decide)
  generalize K.tmod 7 = r at *
  have e : wrap64 (r + 7) = r + 7 := by unfold wrap64; omega
  rw [e, Int.tmod_eq_emod_of_nonneg (by omega)]
  exact ⟨((r + 7) % 7).toNat, by omega, by omega⟩
theorem allx_size (kk : Nat) (u : List Nat) (h : u.length ≤ 2000) : (Tx.uS (seedU kk u)).size ≤ 4000 := by
  have h1 : (seedU kk u).length ≤ 2000 := by unfold seedU; split <;> simp [h]
  have h2 := Tx.uS_size (seedU kk u)
  omega
/-- Both, as they stand behind so many calls that open no cursor. -/
def StandX (w0 w : World) (B T M j : Nat) : Prop := ∃ (A : List Ent) (D : List (Nat × Nat)) (O : Nat → Prop) (L : List Ent) (cl : Nat) (R : Nat → Prop) (lv cv dv : Value) (X : List Cu), Mem w0 w B T M A D O L cl R lv cv dv X ∧ Rel A D L cl X ∧ L.length ≤ j ∧ cl ≤ j ∧ X.length ≤ 0
theorem play_standx {w0 w : World} {B T M j : Nat} (h : StandX w0 w B T M j) (hj : j ≤ 400) (c : CallV) (hS : Tx.SliceR .u16 w c.a c.n c.cap (Tx.ints c.l)) (hf : Tx.Fits c.l) (hn : c.n ≤ 100) (kd : Nat) (hkd : (wrap64 (c.kind.tmod 7 + 7)).tmod 7 = (kd : Int)) (h4 : kd < 4) :
    Calls Try.prog 22 #[.pointer (some ⟨B, 0, none⟩), CallA c] w fun e w' => e = .returned (.bool true) ∧ StandX w0 w' B T M (j + 1) := by
  obtain ⟨A, D, O, L, cl, R, lv, cv, dv, X, hm, hr, hL, hcl, hX⟩ := h
  obtain ⟨kk, hk, hK⟩ := seed_kk c.K
  have hlen : c.l.length = c.n := by have := hS.1; rwa [Tx.ints_length] at this
  have CA : ∀ W, Below w.heap.size w W → Calls Try.prog 19 #[SeedV c.K c.N c.a c.n c.cap] W (Ret (VK (kk, seedN kk c.N, Tx.uS (seedU kk c.l))) W) :=
    fun W hW => seed_any c.K c.N c.a c.n c.cap c.l kk W (Lib.hid hK) hk (hS.below hW) hf (by omega)
  have hks : (Tx.uS (seedU kk c.l)).size ≤ 4000 := allx_size kk c.l (by omega)
  have hcs : (kd = 0 ∨ kd = 1 ∨ kd = 3) ∨ kd = 2 := by omega
  rcases hcs with h | h
  · exact play_013x w c _ j kd hm hr hL hcl hj 0 hX (by omega) hkd h hks CA
  · exact play_2x w c _ j kd hm hr hL hcl hj 0 hX (by omega) hkd h hks CA
theorem StandX.below {w0 w w' : World} {B T M j : Nat} (h : StandX w0 w B T M j) (b : Below w.heap.size w w') : StandX w0 w' B T M j := by
  obtain ⟨A, D, O, L, cl, R, lv, cv, dv, X, hm, r⟩ := h
  exact ⟨A, D, O, L, cl, R, lv, cv, dv, X, hm.below b, r⟩
theorem StandX.bel {w0 w : World} {B T M j : Nat} (h : StandX w0 w B T M j) : Below w0.heap.size w0 w := by
  obtain ⟨A, D, O, L, cl, R, lv, cv, dv, X, hm, r⟩ := h
  exact hm.st.bel
theorem StandX.more {w0 w : World} {B T M j : Nat} (h : StandX w0 w B T M j) : StandX w0 w B T M (j + 1) := by
  obtain ⟨A, D, O, L, cl, R, lv, cv, dv, X, hm, r, h1, h2, h3⟩ := h
  exact ⟨A, D, O, L, cl, R, lv, cv, dv, X, hm, r, by omega, by omega, h3⟩
/-- The beginning. -/
theorem standx_new {w0 w : World} {T : Nat} {O : Nat → Prop} (h : St w0 w T [] [] O) : StandX w0 ((w.alloc (.cells #[.slice none 0 0, .int .i64 0] 54)).alloc (.cells #[.pointer (some ⟨T, 0, none⟩), .pointer (some ⟨w.heap.size, 0, none⟩), .slice none 0 0, .slice none 0 0] 57)) (w.heap.size + 1) T w.heap.size 0 := by
  have b1 : Below w.heap.size w (w.alloc (.cells #[.slice none 0 0, .int .i64 0] 54)) := (Below.refl _ _).alloc (Nat.le_refl _) _
  have b2 : Below w.heap.size w ((w.alloc (.cells #[.slice none 0 0, .int .i64 0] 54)).alloc (.cells #[.pointer (some ⟨T, 0, none⟩), .pointer (some ⟨w.heap.size, 0, none⟩), .slice none 0 0, .slice none 0 0] 57)) := b1.alloc (by simp) _
  have hB := Blk.new (w.alloc (.cells #[.slice none 0 0, .int .i64 0] 54)) 57 #[.pointer (some ⟨T, 0, none⟩), .pointer (some ⟨w.heap.size, 0, none⟩), .slice none 0 0, .slice none 0 0]
  rw [World.size_alloc] at hB
  have hM := (Blk.new w 54 #[.slice none 0 0, .int .i64 0]).alloc (.cells #[.pointer (some ⟨T, 0, none⟩), .pointer (some ⟨w.heap.size, 0, none⟩), .slice none 0 0, .slice none 0 0] 57)
  refine ⟨[], [], O, [], 0, (fun k => k = w.heap.size), .slice none 0 0, .slice none 0 0, .slice none 0 0, [], ⟨h.below b2, ⟨hM, World.ownsRow_nil _ _ _ _, rfl, fun g hg => (by simp [Value.ownBlock] at hg), fun k hk => by rw [hk]; exact hM.lt⟩, fun k hk hO => ?_, fun k hk => by rw [hk]; exact h.bel.size, ⟨hB, fun hk => ?_⟩, by have := h.bel.size; omega, ⟨World.ownsRow_nil _ _ _ _, fun g hg => (by simp [Value.ownBlock] at hg)⟩, ⟨World.ownsRow_nil _ _ _ _, fun g hg => (by simp [Value.ownBlock] at hg)⟩, fun x hx => (by cases hx), fun x hx => (by cases hx)⟩,
    ⟨rfl, fun e he => (by cases he), fun i j e f hi => (by simp at hi), fun x hx => (by cases hx), fun x hx => (by cases hx), fun x hx => (by cases hx), List.nodup_nil, List.nodup_nil, rfl⟩, Nat.le_refl _, Nat.le_refl _, Nat.zero_le _⟩
  · have := h.tab.lt k hO
    omega
  · rcases hk with hk | hk
    · have := h.tab.lt _ hk; omega
    · have hk' : w.heap.size + 1 = w.heap.size := hk
      omega
/-- What is wanted, gathered so far. -/
structure WantI (w1 : World) (K : Nat) (L : List Ent) (j : Nat) (wv : Value) (W : World) : Prop where
  box : Blk W K 52 #[wv]
  row : W.ownsRow (K + 1) 63 8 wv (cp (L.take j)).length (entsC (cp (L.take j)))
  bel : Below K w1 W
theorem WantI.step {w1 : World} {K : Nat} {L : List Ent} {j : Nat} {wv : Value} {W W' : World} (h : WantI w1 K L j wv W) (b : Below W.heap.size W W') : WantI w1 K L j wv W' :=
  ⟨h.box.below b h.box.lt, (Upd.of_below_all (M := fun _ => False) b).own h.row (fun _ _ h => h), h.bel.trans (b.mono (Nat.le_of_lt h.box.lt))⟩
theorem set_below (W : World) (g i : Nat) (u : Value) {b : Nat} (hb : b ≤ g) : Below b W (W.setCell ⟨g, i, none⟩ u) := ⟨rfl, rfl, rfl, by simp, fun k hk => Below.heap_setCell W ⟨g, i, none⟩ u k (fun e => by have : k = g := e; omega)⟩
theorem all_fn (T : Nat) (w : World) : Calls Try.prog 25 #[.pointer (some ⟨T, 0, none⟩)] w fun e w' => e = .returned (.func (.func 37) #[] #[.pointer (some ⟨w.heap.size, 0, none⟩)]) ∧ w' = w.alloc (.cells #[.pointer (some ⟨T, 0, none⟩)] 24) := by
  have hmf : ∀ (fn : Fn) (first cap : Array Value) (w : World), (Instr.makeFunc fn first cap).run Try.prog w = .ok (.func fn first cap) w := fun _ _ _ _ => rfl
  go_enter Try.func25, Try.ntmps25
  go_wp2
  go_ret
  exact ⟨rfl, rfl⟩
set_option maxRecDepth 100000 in
theorem tmps119 {c3 c4 c5 c9 c12 c69 : Value} {d : List Deferred} {G : Prop} {u0 u1 u2 u6 u7 u8 u10 u11 u13 u14 u15 u16 u17 u18 u19 u20 u21 u22 u23 u24 u25 u26 u27 u28 u29 u30 u31 u32 u33 u34 u35 u36 u37 u38 u39 u40 u41 u42 u43 u44 u45 u46 u47 u48 u49 u50 u51 u52 u53 u54 u55 u56 u57 u58 u59 u60 u61 u62 u63 u64 u65 u66 u67 u68 u70 u71 u72 u73 u74 u75 u76 u77 u78 u79 u80 u81 u82 u83 u84 u85 u86 u87 u88 u89 u90 u91 u92 u93 u94 u95 u96 u97 u98 u99 u100 u101 u102 u103 u104 u105 u106 u107 u108 u109 u110 u111 u112 u113 u114 u115 u116 u117 u118 u119 : Value} (h : ∀ t : Nat → Value, (⟨#[u0, u1, u2, c3, c4, c5, u6, u7, u8, c9, u10, u11, c12, u13, u14, u15, u16, u17, u18, u19, u20, u21, u22, u23, u24, u25, u26, u27, u28, u29, u30, u31, u32, u33, u34, u35, u36, u37, u38, u39, u40, u41, u42, u43, u44, u45, u46, u47, u48, u49, u50, u51, u52, u53, u54, u55, u56, u57, u58, u59, u60, u61, u62, u63, u64, u65, u66, u67, u68, c69, u70, u71, u72, u73, u74, u75, u76, u77, u78, u79, u80, u81, u82, u83, u84, u85, u86, u87, u88, u89, u90, u91, u92, u93, u94, u95, u96, u97, u98, u99, u100, u101, u102, u103, u104, u105, u106, u107, u108, u109, u110, u111, u112, u113, u114, u115, u116, u117, u118, u119], d⟩ : Act) = ⟨#[t 0, t 1, t 2, c3, c4, c5, t 6, t 7, t 8, c9, t 10, t 11, c12, t 13, t 14, t 15, t 16, t 17, t 18, t 19, t 20, t 21, t 22, t 23, t 24, t 25, t 26, t 27, t 28, t 29, t 30, t 31, t 32, t 33, t 34, t 35, t 36, t 37, t 38, t 39, t 40, t 41, t 42, t 43, t 44, t 45, t 46, t 47, t 48, t 49, t 50, t 51, t 52, t 53, t 54, t 55, t 56, t 57, t 58, t 59, t 60, t 61, t 62, t 63, t 64, t 65, t 66, t 67, t 68, c69, t 70, t 71, t 72, t 73, t 74, t 75, t 76, t 77, t 78, t 79, t 80, t 81, t 82, t 83, t 84, t 85, t 86, t 87, t 88, t 89, t 90, t 91, t 92, t 93, t 94, t 95, t 96, t 97, t 98, t 99, t 100, t 101, t 102, t 103, t 104, t 105, t 106, t 107, t 108, t 109, t 110, t 111, t 112, t 113, t 114, t 115, t 116, t 117, t 118, t 119], d⟩ → G) : G :=
  h (fun n => match n with | 0 => u0 | 1 => u1 | 2 => u2 | 6 => u6 | 7 => u7 | 8 => u8 | 10 => u10 | 11 => u11 | 13 => u13 | 14 => u14 | 15 => u15 | 16 => u16 | 17 => u17 | 18 => u18 | 19 => u19 | 20 => u20 | 21 => u21 | 22 => u22 | 23 => u23 | 24 => u24 | 25 => u25 | 26 => u26 | 27 => u27 | 28 => u28 | 29 => u29 | 30 => u30 | 31 => u31 | 32 => u32 | 33 => u33 | 34 => u34 | 35 => u35 | 36 => u36 | 37 => u37 | 38 => u38 | 39 => u39 | 40 => u40 | 41 => u41 | 42 => u42 | 43 => u43 | 44 => u44 | 45 => u45 | 46 => u46 | 47 => u47 | 48 => u48 | 49 => u49 | 50 => u50 | 51 => u51 | 52 => u52 | 53 => u53 | 54 => u54 | 55 => u55 | 56 => u56 | 57 => u57 | 58 => u58 | 59 => u59 | 60 => u60 | 61 => u61 | 62 => u62 | 63 => u63 | 64 => u64 | 65 => u65 | 66 => u66 | 67 => u67 | 68 => u68 | 70 => u70 | 71 => u71 | 72 => u72 | 73 => u73 | 74 => u74 | 75 => u75 | 76 => u76 | 77 => u77 | 78 => u78 | 79 => u79 | 80 => u80 | 81 => u81 | 82 => u82 | 83 => u83 | 84 => u84 | 85 => u85 | 86 => u86 | 87 => u87 | 88 => u88 | 89 => u89 | 90 => u90 | 91 => u91 | 92 => u92 | 93 => u93 | 94 => u94 | 95 => u95 | 96 => u96 | 97 => u97 | 98 => u98 | 99 => u99 | 100 => u100 | 101 => u101 | 102 => u102 | 103 => u103 | 104 => u104 | 105 => u105 | 106 => u106 | 107 => u107 | 108 => u108 | 109 => u109 | 110 => u110 | 111 => u111 | 112 => u112 | 113 => u113 | 114 => u114 | 115 => u115 | 116 => u116 | 117 => u117 | 118 => u118 | 119 => u119 | _ => c3) rfl
theorem row8 {W : World} {B : Nat} {t : TypeId} {g n cap : Nat} {L : List Ent} (h : W.ownsRow B t 8 (.slice (some ⟨g, 0, none⟩) n cap) L.length (entsC L)) (i : Nat) (e : Ent) (he : L[i]? = some e) (j : Nat) (hj : j < 8) : W.cell? ⟨g, i * 8 + j, none⟩ = (entC e)[j]? := by
  have hi := (List.getElem?_eq_some_iff.1 he).1
  obtain ⟨A, c, hA, _⟩ := own_shape h
  have hn : n = L.length := by injection hA
  rw [hn] at h
  rw [h.cellAt (i * 8 + j) (by omega), entsC_get L i j e he hj]
theorem KeepsOthers.drewN (W : World) (q : Nat) : KeepsOthers W (W.drewN q) := ⟨Nat.le_refl _, fun _ _ h _ => h⟩
theorem wp_var0 {P : Program} {c : Code} {Q : Exit → Act → World → Prop} {a : Act} {w : World} (h : ∀ K : Act → World → Prop, RowKit.Hid (∀ a w, Q .normal a w → K a w) → c.wp P (Exit.then K (fun _ _ _ => False)) a w) : c.wp P Q a w :=
  wp_mono (h (Q .normal) (Lib.hid fun _ _ h => h)) fun e a w hq => by
    cases e <;> first | exact hq | exact hq.elim
theorem Blk.put {W : World} {g : Nat} {t : TypeId} {cs : Array Value} (h : Blk W g t cs) {l : Nat} {o : Obj} (o' : Obj) (hl : W.heap[l]? = some o) (ho : o.isCells = false) : Blk (W.putObj l o') g t cs := by
  refine (World.putObj_heap_other (fun e => ?_)).trans h
  subst e
  unfold Blk at h
  rw [h] at hl
  cases hl
  cases ho
/-- What stands while the table is gone over. -/
structure AllI (w0 : World) (p q K C B T M : Nat) (stop : Int) (wv cv dv : Value) (A : List Ent) (i : Int) (O : Nat → Prop) (W : World) : Prop where
  bel : Below w0.heap.size w0 W
  ks : Blk W p 3 #[.int .i64 stop]
  kr : Blk W q 4 #[.bool false]
  kw : Blk W K 52 #[wv]
  row : W.ownsRow (K + 1) 63 8 wv A.length (entsC A)
  ki : Blk W C 3 #[.int .i64 i]
  kb : Blk W B 57 #[ptrP T, ptrP M, cv, dv]
  nO : ∀ k, (k = p ∨ k = q ∨ k = K ∨ k = C ∨ k = B ∨ wv.ownBlock = some k) → ¬ O k
  oB : ∀ k, O k → w0.heap.size ≤ k
  cw : w0.heap.size ≤ C ∧ p < w0.heap.size ∧ q < w0.heap.size
section
variable {w0 : World} {p q K C B T M : Nat} {stop : Int} {wv cv dv : Value} {A : List Ent} {i : Int} {O : Nat → Prop} {W W' : World}
theorem AllI.upd (h : AllI w0 p q K C B T M stop wv cv dv A i O W) (u : Upd W W' O) : AllI w0 p q K C B T M stop wv cv dv A i O W' :=
  ⟨h.bel.trans (u.below h.bel.size h.oB), u.blk h.ks (h.nO _ (by simp)), u.blk h.kr (h.nO _ (by simp)), u.blk h.kw (h.nO _ (by simp)), u.own h.row (fun k e => h.nO _ (by simp [e])), u.blk h.ki (h.nO _ (by simp)), u.blk h.kb (h.nO _ (by simp)), h.nO, h.oB, h.cw⟩
theorem AllI.put (h : AllI w0 p q K C B T M stop wv cv dv A i O W) {l : Nat} {o : Obj} (o' : Obj) (hl : w0.heap.size ≤ l) (hk : W.heap[l]? = some o) (ho : o.isCells = false) : AllI w0 p q K C B T M stop wv cv dv A i O (W.putObj l o') :=
  ⟨h.bel.trans ((Upd.put W l o').below h.bel.size (fun k e => e ▸ hl)), h.ks.put _ hk ho, h.kr.put _ hk ho, h.kw.put _ hk ho, ownsRow_putObj h.row o' hk ho, h.ki.put _ hk ho, h.kb.put _ hk ho, h.nO, h.oB, h.cw⟩
theorem AllI.below (h : AllI w0 p q K C B T M stop wv cv dv A i O W) (b : Below W.heap.size W W') : AllI w0 p q K C B T M stop wv cv dv A i O W' := h.upd (Upd.of_below_all b)
theorem AllI.next (h : AllI w0 p q K C B T M stop wv cv dv A i O W) (i' : Int) : AllI w0 p q K C B T M stop wv cv dv A i' O (W.setCell ⟨C, 0, none⟩ (.int .i64 i')) := by
  have n1 : p ≠ C := by have := h.cw; omega
  have n2 : q ≠ C := by have := h.cw; omega
  exact ⟨h.bel.trans (set_below W C 0 _ h.cw.1), h.ks.far n1 _, h.kr.far n2 _, h.kw.far (h.kw.ne_ h.ki (by decide)) _, own_set h.row h.ki (by decide) _ _, h.ki.set_ 0 _, h.kb.far (h.kb.ne_ h.ki (by decide)) _, h.nO, h.oB, h.cw⟩
end
set_option maxHeartbeats 8000000 in
set_option maxRecDepth 100000 in
theorem alls_any (a : Option Addr) (n cap : Nat) (cs : List CallV) (stop : Int) (w : World) (h : CallsR w a n cs) : Calls Try.prog 8 #[.slice a n cap, .int .i64 stop] w (Ret (.bool true) w) := by
  have HC := Lib.hid h
  have hlen := h.len
  clear h
  refine callsM_of_wp Try.func8 rfl ?_
  simp only [Try.ntmps8, List.size_toArray, List.length_cons, List.length_nil, Nat.reduceAdd, Nat.reduceSub, Array.replicate_succ, Array.replicate_zero, List.push_toArray, List.append_toArray, List.nil_append, List.cons_append]
  have k_s := (Blk.new w 3 #[.int .i64 stop]).alloc (.cells #[.bool false] 4)
  have k_r := Blk.new (w.alloc (.cells #[.int .i64 stop] 3)) 4 #[.bool false]
  rw [World.size_alloc] at k_r
  have b0 : Below w.heap.size w ((w.alloc (.cells #[.int .i64 stop] 3)).alloc (.cells #[.bool false] 4)) := ((Below.refl _ _).alloc (Nat.le_refl _) _).alloc (by simp) _
  have hz0 : ((w.alloc (.cells #[.int .i64 stop] 3)).alloc (.cells #[.bool false] 4)).heap.size = w.heap.size + 2 := by simp
  have hc0 := HC.out.below b0
  have HC0 := Lib.hid hc0
  clear hc0
  obtain ⟨w0, hw0⟩ : ∃ x, (w.alloc (.cells #[.int .i64 stop] 3)).alloc (.cells #[.bool false] 4) = x := ⟨_, rfl⟩
  rw [hw0] at k_s k_r b0 hz0 HC0
  have HW := Lib.hid hw0
  clear hw0
  go_wp2_with fail
  rw [HW.out]
  refine (fit_any w0).mono ?_
  rintro e w1 ⟨rfl, b1⟩
  go_wp2_with fail
  refine (light_any a n cap cs w1 (HC0.out.below b1)).mono ?_
  rintro e w2 ⟨lt, rfl, hl, b2⟩
  have bb := b1.trans (b2.mono b1.size)
  cases lt
  · have k2 := k_r.below bb (by omega)
    have xq : w2.cell? ⟨w.heap.size + 1, 0, none⟩ = some (.bool false) := by rw [k2.cell]; rfl
    have fq := k2.frozen 0
    have lq := k2.lt
    go_wp2
    exact ⟨.bool true, by simp [results, Try.results8, go_sem, xq, fq, lq], rfl, ((b0.trans (bb.mono (by omega)))).trans (set_below w2 _ _ _ (by omega))⟩
  · obtain ⟨hn4, hn1⟩ := hl rfl
    have HN := Lib.hid hn1
    clear hl hn1
    go_wp2_with fail
    refine (new_st w0 w2 bb).mono ?_
    rintro e w3 ⟨rfl, O3, S3, -, -⟩
    generalize w2.heap.size = T at *
    have HS := Lib.hid (standx_new S3)
    clear S3 b1 b2 bb
    go_upto_region 6 with fail
    generalize hM : w3.heap.size = M at *
    generalize ((w3.alloc (.cells #[.slice none 0 0, .int .i64 0] 54)).alloc (.cells #[.pointer (some ⟨T, 0, none⟩), .pointer (some ⟨M, 0, none⟩), .slice none 0 0, .slice none 0 0] 57)) = w4 at *
    generalize M + 1 = B at *
    clear hM
    go_wp2_with fail
    go_loopw [27] (fun i wr => ∃ j : Nat, j ≤ n ∧ i = .int .i64 (j : Int) ∧ Hid (StandX w0 wr B T M j)) (fun i _ => n - (intOf i).toNat)
    case atStart => exact ⟨0, Nat.zero_le _, rfl, HS⟩
    case round =>
      clear HS
      obtain ⟨j, hj, rfl, HS⟩ := hrel
      by_cases hlt : j < n
      · obtain ⟨c, hc⟩ : ∃ c, cs[j]? = some c := ⟨_, List.getElem?_eq_getElem (by omega)⟩
        have hcr := HC0.out.below HS.out.bel
        obtain ⟨b, off, rfl, hbl, hcell⟩ := hcr.cells (by omega)
        have hcc := hcell j c hc
        have e0 : wr.cell? ⟨b, off + j * 6, none⟩ = some (.int .i64 c.kind) := hcc 0 (by decide)
        have e1 : wr.cell? ⟨b, off + j * 6 + 1, none⟩ = some (.int .i64 c.K) := hcc 1 (by decide)
        have e2 : wr.cell? ⟨b, off + j * 6 + 2, none⟩ = some (.int .i64 c.N) := hcc 2 (by decide)
        have e3 : wr.cell? ⟨b, off + j * 6 + 3, none⟩ = some (.slice c.a c.n c.cap) := hcc 3 (by decide)
        have e4 : wr.cell? ⟨b, off + j * 6 + 4, none⟩ = some (.int .i64 c.val) := hcc 4 (by decide)
        have e5 : wr.cell? ⟨b, off + j * 6 + 5, none⟩ = some (.int .i64 c.m) := hcc 5 (by decide)
        have t2 : decide ((j : Int) < (n : Int)) = true := by simp; omega
        have j0 : (0 : Int) ≤ (j : Int) := by omega
        have j1 : (j : Int) < (n : Int) := by omega
        have aw : IntKind.i64.wrap ((j : Int) + 1) = (j : Int) + 1 := IntWalk.i64_in _ (by omega)
        have ba : Below wr.heap.size wr (wr.alloc (.cells (CallC c) 59)) := (Below.refl _ _).alloc (Nat.le_refl _) _
        have hbx := Blk.new wr 59 (CallC c)
        have hrow := hcr.rows c (List.mem_of_getElem? hc)
        obtain ⟨kd, hk7, hkd⟩ := allx_kind7 c.kind
        have hst := HS.out.below ba
        have hplay := fun h4 => play_standx hst (by omega) c (hrow.1.below ba) hrow.2 (HN.out c (List.mem_of_getElem? hc)) kd hkd h4
        have HP := Lib.hid hplay
        have HST := Lib.hid hst
        clear hcc hcell hc hcr hrow hplay ba HS hst
        go_upto_region 9 with fail
        generalize wr.alloc (.cells (CallC c) 59) = w5 at *
        generalize wr.heap.size = q at *
        have x0 : w5.cell? ⟨q, 0, none⟩ = some (.int .i64 c.kind) := by rw [hbx.cell]; rfl
        have x1 : w5.cell? ⟨q, 1, none⟩ = some (.int .i64 c.K) := by rw [hbx.cell]; rfl
        have x2 : w5.cell? ⟨q, 2, none⟩ = some (.int .i64 c.N) := by rw [hbx.cell]; rfl
        have x3 : w5.cell? ⟨q, 3, none⟩ = some (.slice c.a c.n c.cap) := by rw [hbx.cell]; rfl
        have x4 : w5.cell? ⟨q, 4, none⟩ = some (.int .i64 c.val) := by rw [hbx.cell]; rfl
        have x5 : w5.cell? ⟨q, 5, none⟩ = some (.int .i64 c.m) := by rw [hbx.cell]; rfl
        clear hbx
        go_upto_region 10 with fail
        by_cases h4 : kd < 4
        · have t4 : decide ((kd : Int) < 4) = true := by simp; omega
          have HP4 := Lib.hid (HP.out h4)
          clear HP
          go_wp2_with fail
          refine HP4.out.mono ?_
          rintro e w6 ⟨rfl, hS6⟩
          have HS := Lib.hid hS6
          clear hS6 HP4 x0 x1 x2 x3 x4 x5
          go_wp2_with fail
          go_roundw
          case rel => exact ⟨j + 1, by omega, by go_num, HS⟩
          case measure => simp [intOf]; omega
        · have t4 : decide ((kd : Int) < 4) = false := by simp; omega
          have HS := Lib.hid HST.out.more
          clear HP HST
          go_wp2_with fail
          go_roundw
          case rel => exact ⟨j + 1, by omega, by go_num, HS⟩
          case measure => simp [intOf]; omega
      · have hjn : n = j := by omega
        subst hjn
        have t2 : decide ((n : Int) < (n : Int)) = false := by simp
        clear HN
        obtain ⟨wA, hwA⟩ : ∃ x, x = wr := ⟨_, rfl⟩
        subst hwA
        obtain ⟨A, D, O, L, cl, R, lv, cv, dv, X, hm, hr, hL, hcl, hX⟩ := HS.out
        have hX0 : X = [] := List.length_eq_zero_iff.1 (by omega)
        subst hX0
        have hD0 : D = [] := List.length_eq_zero_iff.1 (by rw [hr.dl]; rfl)
        subst hD0
        have HM := Lib.hid hm
        have HR := Lib.hid hr
        obtain ⟨iE, hiE, hE0, hE1, hE2⟩ := info_parts infoREnt
        have hbA : Below wA.heap.size wA (wA.alloc (.cells #[.slice none 0 0] 52)) := (Below.refl _ _).alloc (Nat.le_refl _) _
        have hW0 : WantI wA wA.heap.size L 0 (.slice none 0 0) (wA.alloc (.cells #[.slice none 0 0] 52)) := ⟨Blk.new wA _ _, World.ownsRow_nil _ _ _ _, hbA⟩
        have hmA := hm.below hbA
        obtain ⟨AL, capL, hAl, hAL⟩ := own_shape hm.rt.ents
        subst hAl
        obtain ⟨m, hm0⟩ : ∃ m, L.length = m := ⟨_, rfl⟩
        have HLen := Lib.hid hm0
        rw [hm0] at hL hAL
        have y0 : (wA.alloc (.cells #[.slice none 0 0] 52)).cell? ⟨B, 0, none⟩ = some (ptrP T) := by rw [hmA.bb.blk.cell]; rfl
        have y1 : (wA.alloc (.cells #[.slice none 0 0] 52)).cell? ⟨B, 1, none⟩ = some (ptrP M) := by rw [hmA.bb.blk.cell]; rfl
        have y2 : (wA.alloc (.cells #[.slice none 0 0] 52)).cell? ⟨M, 0, none⟩ = some (.slice AL m capL) := by rw [hmA.rt.blk.cell, ← hm0]; rfl
        simp only [ptrP] at y0 y1
        have lB := hmA.bb.blk.lt
        have lM := hmA.rt.blk.lt
        obtain ⟨K, hK⟩ : ∃ K, wA.heap.size = K := ⟨_, rfl⟩
        rw [hK] at hW0
        have HW0 := Lib.hid hW0
        clear hW0 hmA hm hr hX HS hbA hm0
        go_wp2_with fail
        generalize (wA.alloc (.cells #[.slice none 0 0] 52)) = wB at *
        clear y0 y1 y2 lB lM
        go_loopw [53] (fun i wr => ∃ k : Nat, k ≤ m ∧ i = .int .i64 (k : Int) ∧ Hid (∃ wv, WantI wA K L k wv wr)) (fun i _ => m - (intOf i).toNat)
        case atStart => exact ⟨0, Nat.zero_le _, rfl, Lib.hid ⟨_, HW0.out⟩⟩
        case round =>
          clear HW0
          obtain ⟨k, hk, rfl, HWI⟩ := hrel
          obtain ⟨wv, hwi⟩ := HWI.out
          by_cases hlt2 : k < m
          · obtain ⟨gL, rfl⟩ := hAL (by omega)
            have hkl : k < L.length := by rw [HLen.out]; exact hlt2
            obtain ⟨e, he⟩ : ∃ e, L[k]? = some e := ⟨_, List.getElem?_eq_getElem hkl⟩
            have hTr := (HM.out.below (by rw [hK]; exact hwi.bel)).rt
            have hsn := cp_snoc L k e he
            have e0 : wr.cell? ⟨gL, k * 8, none⟩ = some (.int .i64 e.key.1) := hTr.ent k e he 0 (by decide)
            have e1 : wr.cell? ⟨gL, k * 8 + 1, none⟩ = some (.int .i64 e.key.2.1) := hTr.ent k e he 1 (by decide)
            have e2 : wr.cell? ⟨gL, k * 8 + 2, none⟩ = some (.string e.key.2.2) := hTr.ent k e he 2 (by decide)
            have e3 : wr.cell? ⟨gL, k * 8 + 3, none⟩ = some (.int .i64 e.val.1) := hTr.ent k e he 3 (by decide)
            have e4 : wr.cell? ⟨gL, k * 8 + 4, none⟩ = some (.int .i64 e.val.2.1) := hTr.ent k e he 4 (by decide)
            have e5 : wr.cell? ⟨gL, k * 8 + 5, none⟩ = some (.string e.val.2.2) := hTr.ent k e he 5 (by decide)
            have e6 : wr.cell? ⟨gL, k * 8 + 6, none⟩ = some (.int .i64 e.flags) := hTr.ent k e he 6 (by decide)
            have e7 : wr.cell? ⟨gL, k * 8 + 7, none⟩ = some (.bool e.grave) := hTr.ent k e he 7 (by decide)
            have z0 : (0 : Int) ≤ (k : Int) := by omega
            have z1 : (k : Int) < (m : Int) := by omega
            have t5 : decide ((k : Int) < (m : Int)) = true := by simp; omega
            have aw : IntKind.i64.wrap ((k : Int) + 1) = (k : Int) + 1 := IntWalk.i64_in _ (by omega)
            have q1 := Blk.new wr 63 #[.int .i64 e.key.1, .int .i64 e.key.2.1, .string e.key.2.2, .int .i64 e.val.1, .int .i64 e.val.2.1, .string e.val.2.2, .int .i64 e.flags, .bool e.grave]
            have hwi2 := hwi.step ((Below.refl wr.heap.size wr).alloc (Nat.le_refl _) (.cells #[.int .i64 e.key.1, .int .i64 e.key.2.1, .string e.key.2.2, .int .i64 e.val.1, .int .i64 e.val.2.1, .string e.val.2.2, .int .i64 e.flags, .bool e.grave] 63))
            obtain ⟨A3, cap3, hwv, hA3⟩ := own_shape hwi.row
            subst hwv
            have HSN := Lib.hid hsn
            clear hTr he HWI hwi
            go_upto_region 17 with fail
            obtain ⟨qe, hqe⟩ : ∃ q, wr.heap.size = q := ⟨_, rfl⟩
            rw [hqe] at q1 ⊢
            clear e0 e1 e2 e3 e4 e5 e6 e7
            obtain ⟨W2, hW2⟩ : ∃ W2, wr.alloc (.cells #[.int .i64 e.key.1, .int .i64 e.key.2.1, .string e.key.2.2, .int .i64 e.val.1, .int .i64 e.val.2.1, .string e.val.2.2, .int .i64 e.flags, .bool e.grave] 63) = W2 := ⟨_, rfl⟩
            rw [hW2] at q1 hwi2 ⊢
            have b0' : W2.cell? ⟨qe, 0, none⟩ = some (.int .i64 e.key.1) := by rw [q1.cell]; rfl
            have b1' : W2.cell? ⟨qe, 1, none⟩ = some (.int .i64 e.key.2.1) := by rw [q1.cell]; rfl
            have b2' : W2.cell? ⟨qe, 2, none⟩ = some (.string e.key.2.2) := by rw [q1.cell]; rfl
            have b3' : W2.cell? ⟨qe, 3, none⟩ = some (.int .i64 e.val.1) := by rw [q1.cell]; rfl
            have b4' : W2.cell? ⟨qe, 4, none⟩ = some (.int .i64 e.val.2.1) := by rw [q1.cell]; rfl
            have b5' : W2.cell? ⟨qe, 5, none⟩ = some (.string e.val.2.2) := by rw [q1.cell]; rfl
            have b6' : W2.cell? ⟨qe, 6, none⟩ = some (.int .i64 e.flags) := by rw [q1.cell]; rfl
            have b7' : W2.cell? ⟨qe, 7, none⟩ = some (.bool e.grave) := by rw [q1.cell]; rfl
            have kc : W2.cell? ⟨K, 0, none⟩ = some (.slice A3 (cp (L.take k)).length cap3) := by rw [hwi2.box.cell]; rfl
            have hcl3 : (cp (L.take k)).length ≤ k := Nat.le_trans (List.length_filter_le _ _) (List.length_take_le _ _)
            have HS := Lib.hid hsn
            obtain ⟨gr, hgr⟩ : ∃ b, e.grave = b := ⟨_, rfl⟩
            clear hsn HSN hW2
            cases gr with
            | true =>
              rw [hgr] at b7'
              have HG := Lib.hid hgr
              clear hgr
              go_wp2_with fail
              go_roundw
              case rel => exact ⟨k + 1, by omega, by go_num, Lib.hid ⟨_, by have := HS.out; rw [HG.out, if_pos rfl] at this; exact ⟨hwi2.box, by rw [this]; exact hwi2.row, hwi2.bel⟩⟩⟩
              case measure => simp [intOf]; omega
            | false =>
              rw [hgr] at b7'
              have HG := Lib.hid hgr
              clear hgr
              go_wp2_with (at_builtin; refine wpList_append_lies _ rfl _ _ 52 rfl (K + 1) 63 iE _ 8 80 Try.underlying52 hiE hE0 hE1 hE2 rfl (by decide) _ _ _ rfl (hwi2.row.alloc _) ⟨W2.heap.size, 0, none⟩ 1 1 [.int .i64 e.key.1, .int .i64 e.key.2.1, .string e.key.2.2, .int .i64 e.val.1, .int .i64 e.val.2.1, .string e.val.2.2, .int .i64 e.flags, .bool false] rfl rfl (World.news_of_block (cs := #[.int .i64 e.key.1, .int .i64 e.key.2.1, .string e.key.2.2, .int .i64 e.val.1, .int .i64 e.val.2.1, .string e.val.2.2, .int .i64 e.flags, .bool false]) (t := 63) (fr := (0, 0)) (heap_alloc_new W2 _)) (by simp [Value.oneCell']) (by decide) (by unfold maxLen; omega) (by omega) (by have := hwi2.box.lt; simp; omega) _ rfl ?_)
              intro gg capg w3 hown3 hgrow3 hat3 hlt3
              have hnk : (Value.slice A3 (cp (L.take k)).length cap3).ownBlock ≠ some K := fun e => by have := (hwi2.row.lt K e).1; omega
              have kb3 := (hwi2.box.alloc (.cells #[.int .i64 e.key.1, .int .i64 e.key.2.1, .string e.key.2.2, .int .i64 e.val.1, .int .i64 e.val.2.1, .string e.val.2.2, .int .i64 e.flags, .bool false] 63)).grown hgrow3 (fun e => hnk e.symm)
              have bl3 := (((Below.refl W2.heap.size W2).alloc (Nat.le_refl _) (.cells #[.int .i64 e.key.1, .int .i64 e.key.2.1, .string e.key.2.2, .int .i64 e.val.1, .int .i64 e.val.2.1, .string e.val.2.2, .int .i64 e.flags, .bool false] 63)).mono (Nat.le_of_lt hwi2.box.lt)).grown hgrow3 (by have := hwi2.box.lt; simp; omega) (fun k' hk' => by have := (hwi2.row.lt k' hk').1; omega)
              have kc3 : w3.cell? ⟨K, 0, none⟩ = some (.slice A3 (cp (L.take k)).length cap3) := by rw [kb3.cell]; rfl
              have kf3 := kb3.frozen 0
              have kl3 := kb3.lt
              have hkg : gg ≠ K := fun e => by have := (hown3.lt gg (by simp [Value.ownBlock])).1; omega
              have HW3 : Hid (WantI wA K L (k + 1) (.slice (some ⟨gg, 0, none⟩) ((cp (L.take k)).length + 1) capg) (w3.setCell ⟨K, 0, none⟩ (.slice (some ⟨gg, 0, none⟩) ((cp (L.take k)).length + 1) capg))) := Lib.hid (by
                have h1 := HS.out
                rw [HG.out, if_neg (by decide)] at h1
                refine ⟨kb3.set_ 0 _, ?_, (hwi2.bel.trans bl3).trans (set_below w3 _ _ _ (Nat.le_refl _))⟩
                rw [h1, List.length_append, entsC_append, show entsC [e] = [.int .i64 e.key.1, .int .i64 e.key.2.1, .string e.key.2.2, .int .i64 e.val.1, .int .i64 e.val.2.1, .string e.val.2.2, .int .i64 e.flags, .bool false] by simp [entsC, entC, k3C, HG.out]]
                exact own_set hown3 kb3 (by decide) _ _)
              clear hown3 hgrow3 hat3 hlt3 kb3 bl3 b0' b1' b2' b3' b4' b5' b6' b7'
              go_wp2
              go_roundw
              case rel => exact ⟨k + 1, by omega, by go_num, Lib.hid ⟨_, HW3.out⟩⟩
              case measure => simp [intOf]; omega
          · have hkm : k = m := by omega
            subst hkm
            have t5 : decide ((k : Int) < (k : Int)) = false := by simp
            have hA : cp (L.take k) = A := by rw [← HLen.out, List.take_length]; exact HR.out.cpL
            have hmr := HM.out.below (by rw [hK]; exact hwi.bel)
            have hb1 : Below wr.heap.size wr (wr.alloc (.cells #[.int .i64 0] 3)) := (Below.refl _ _).alloc (Nat.le_refl _) _
            have hm1 := hmr.below hb1
            have y0 : (wr.alloc (.cells #[.int .i64 0] 3)).cell? ⟨B, 0, none⟩ = some (.pointer (some ⟨T, 0, none⟩)) := by rw [hm1.bb.blk.cell]; rfl
            have lB := hm1.bb.blk.lt
            go_wp2_with fail
            refine (all_fn T _).mono ?_
            rintro e w5 ⟨rfl, hw5⟩
            go_wp2_with fail
            have hA5 : A.length ≤ 5000 := by rw [← hA]; exact Nat.le_trans (List.length_filter_le _ _) (by rw [List.length_take]; omega)
            obtain ⟨b, hb⟩ : ∃ b, wr.heap.size + 1 = b := ⟨_, rfl⟩
            have htb : Blk w5 b 24 #[.pointer (some ⟨T, 0, none⟩)] := by rw [hw5, ← hb]; have := Blk.new (wr.alloc (.cells #[.int .i64 0] 3)) 24 #[.pointer (some ⟨T, 0, none⟩)]; rwa [World.size_alloc] at this
            have b15 : Below wr.heap.size wr w5 := by rw [hw5]; exact hb1.alloc (by simp) _
            have kC : Blk w5 wr.heap.size 3 #[.int .i64 0] := by rw [hw5]; exact (Blk.new wr _ _).alloc _
            have hm5 := hmr.below b15
            have hwi5 := hwi.step b15
            have hTA := hm5.st.tab
            have hbel5 := hm5.st.bel
            have hOlt := hTA.lt
            have hOlt0 := hm5.st
            obtain ⟨C, hC⟩ : ∃ C, wr.heap.size = C := ⟨_, rfl⟩
            have hO5 : ∀ k, O k → w0.heap.size ≤ k := hm5.st.own
            have hOA : ∀ k, O k → k < K := fun k hk => by rw [← hK]; exact HM.out.st.tab.lt k hk
            have hKC : K < C := by rw [← hC]; exact hwi.box.lt
            have hCz : C < w5.heap.size := by rw [← hC]; exact kC.lt
            have hcw : w0.heap.size ≤ C ∧ w.heap.size < w0.heap.size ∧ w.heap.size + 1 < w0.heap.size := ⟨by have := HM.out.st.bel.size; omega, by omega, by omega⟩
            have hI0 : ∀ (O1 : Nat → Prop) (W : World), Upd w5 W O → (∀ k, O1 k → O k ∨ w5.heap.size ≤ k) → AllI w0 w.heap.size (w.heap.size + 1) K C B T M stop wv cv dv A 0 O1 W := by
              intro O1 W u h1
              have hrl := fun k e => hwi5.row.lt k e
              have nO : ∀ k, (k = w.heap.size ∨ k = w.heap.size + 1 ∨ k = K ∨ k = C ∨ k = B ∨ wv.ownBlock = some k) → ¬ O1 k ∧ ¬ O k := by
                intro k hk
                have hlt : k < w5.heap.size ∧ ¬ O k := by
                  rcases hk with rfl | rfl | rfl | rfl | rfl | e
                  · exact ⟨by omega, fun h => by have := hO5 _ h; omega⟩
                  · exact ⟨by omega, fun h => by have := hO5 _ h; omega⟩
                  · exact ⟨by omega, fun h => by have := hOA _ h; omega⟩
                  · exact ⟨hCz, fun h => by have := hOA _ h; omega⟩
                  · exact ⟨hm5.bb.blk.lt, fun h => hm5.bb.no (.inl h)⟩
                  · exact ⟨(hrl k e).2, fun h => by have := hOA _ h; have := (hrl k e).1; omega⟩
                exact ⟨fun h => (h1 k h).elim hlt.2 (fun h2 => by omega), hlt.2⟩
              refine ⟨hbel5.trans (u.below hbel5.size hO5), ?_, ?_, u.blk hwi5.box (nO _ (by simp)).2, ?_, u.blk (hC ▸ kC) (nO _ (by simp)).2, u.blk hm5.bb.blk (nO _ (by simp)).2, fun k hk => (nO k hk).1, fun k hk => (h1 k hk).elim (hO5 k) (fun h => by have := hbel5.size; omega), hcw⟩
              · exact (k_s.below (hbel5.trans (u.below hbel5.size hO5)) (by omega))
              · exact (k_r.below (hbel5.trans (u.below hbel5.size hO5)) (by omega))
              · have h2 := u.own hwi5.row (fun k e => (nO k (by simp [e])).2)
                rwa [hA] at h2
            have HI0 := Lib.hid hI0
            have HTA := Lib.hid hTA
            rw [← hw5, hC]
            rw [hC] at hb
            rw [hb]
            clear hw5 hI0 hTA hm1 hmr y0 lB hb1 kC hm5 hwi5 hOlt hOlt0
            apply tmps119
            intro t ht
            rw [show (_ : Act) = _ from ht]
            clear ht
            refine wpIn_wide.1 (wpIn_range_own (F := Fence.wide) (n := 9) rfl (by decide) (gf := 37) (argsOf := fun l => #[.func (.yield l) #[] #[], .pointer (some ⟨b, 0, none⟩)]) ?res (encs := fun x : Ent => #[VK x.key, VK x.val]) (fun _ => rfl) A O HTA.out.lt (AllFin T A []) ?seq (fun O1 W l o h hl => h.put hl o)
              (fun O1 pre W => AllI w0 w.heap.size (w.heap.size + 1) K C B T M stop wv cv dv A (pre.length : Int) O1 W) (fun O1 c pre W => c = .exit 4 ∧ AllI w0 w.heap.size (w.heap.size + 1) K C B T M stop wv cv dv A stop O1 W)
              (fun O1 pre W W' h u => h.upd u) (fun O1 c pre W W' h u => ⟨h.1, h.2.upd u⟩) (fun O1 pre W l o o' h hl hk ho => h.put o' (by omega) hk ho) (fun O1 c pre W l o o' h hl hk ho => ⟨h.1, h.2.put o' (by omega) hk ho⟩) (fun O1 W u h1 => HI0.out O1 W u h1)
              (fun x a' W => ∃ b1 b2, a' = ⟨#[t 0, t 1, t 2, .pointer (some ⟨w.heap.size, 0, none⟩), .pointer (some ⟨w.heap.size + 1, 0, none⟩), .pointer (some ⟨B, 0, none⟩), t 6, t 7, t 8, .pointer (some ⟨K, 0, none⟩), t 10, t 11, .pointer (some ⟨C, 0, none⟩), .pointer (some ⟨b1, 0, none⟩), .pointer (some ⟨b2, 0, none⟩), t 15, t 16, t 17, t 18, t 19, t 20, t 21, t 22, t 23, t 24, t 25, t 26, t 27, t 28, t 29, t 30, t 31, t 32, t 33, t 34, t 35, t 36, t 37, t 38, t 39, t 40, t 41, t 42, t 43, t 44, t 45, t 46, t 47, t 48, t 49, t 50, t 51, t 52, t 53, t 54, t 55, t 56, t 57, t 58, t 59, t 60, t 61, t 62, t 63, t 64, t 65, t 66, t 67, t 68, .func (.func 37) #[] #[.pointer (some ⟨b, 0, none⟩)], VK x.key, VK x.val, t 72, t 73, t 74, t 75, t 76, t 77, t 78, t 79, t 80, t 81, t 82, t 83, t 84, t 85, t 86, t 87, t 88, t 89, t 90, t 91, t 92, t 93, t 94, t 95, t 96, t 97, t 98, t 99, t 100, t 101, t 102, t 103, t 104, t 105, t 106, t 107, t 108, t 109, t 110, t 111, t 112, t 113, t 114, t 115, t 116, t 117, t 118, t 119], []⟩ ∧ Blk W b1 27 #[.int .i64 x.key.1, .int .i64 x.key.2.1, .string x.key.2.2] ∧ Blk W b2 27 #[.int .i64 x.val.1, .int .i64 x.val.2.1, .string x.val.2.2]) (fun x a' W l o o' h hl hk ho => by obtain ⟨b1, b2, h1, h2, h3⟩ := h; exact ⟨b1, b2, h1, h2.put o' hk ho, h3.put o' hk ho⟩)
              ?assign ?body ?done ?stop)
            case res => exact fun l W => ⟨({ target := .fn (.func 37) #[.pointer (some ⟨b, 0, none⟩)], args := #[.func (.yield l) #[] #[]] } : Deferred), by kernel_rfl, fun _ _ => trivial, by kernel_rfl⟩
            case seq => exact fun l W u => all_in 8 (by decide) l T A [] O W b (u.blk htb (fun h => h)) (HTA.out.upd u (fun _ _ h => h)) hA5 (by simp)
            case assign =>
              intro l O1 pre x W K1 hI1 hK1
              gi_wp2
              have b1 := ((Below.refl W.heap.size W).alloc (Nat.le_refl _) (.cells #[.int .i64 x.key.1, .int .i64 x.key.2.1, .string x.key.2.2] 27))
              have b2 := b1.alloc (by simp) (.cells #[.int .i64 x.val.1, .int .i64 x.val.2.1, .string x.val.2.2] 27)
              refine hK1 _ _ ((KeepsOthers.alloc _ _).trans (KeepsOthers.alloc _ _)) (Upd.of_below_all b2) (hI1.below b2) ⟨_, _, rfl, (Blk.new W _ _).alloc _, ?_⟩
              have := Blk.new (W.alloc (.cells #[.int .i64 x.key.1, .int .i64 x.key.2.1, .string x.key.2.2] 27)) 27 #[.int .i64 x.val.1, .int .i64 x.val.2.1, .string x.val.2.2]
              rwa [World.size_alloc] at this
            case body =>
              intro l O1 pre x a' W hI1 hax hpre
              obtain ⟨b1, b2, rfl, kb1, kb2⟩ := hax
              have hx : A[pre.length]? = some x := by
                obtain ⟨r, hr⟩ := hpre
                rw [← hr, List.append_assoc, List.getElem?_append_right (Nat.le_refl _), Nat.sub_self]; rfl
              have hpl := (List.getElem?_eq_some_iff.1 hx).1
              obtain ⟨wa, wcap, rfl, hwa⟩ := own_shape hI1.row
              obtain ⟨g, rfl⟩ := hwa (by omega)
              have e0 : W.cell? ⟨g, pre.length * 8, none⟩ = some (.int .i64 x.key.1) := row8 hI1.row pre.length x hx 0 (by decide)
              have e1 : W.cell? ⟨g, pre.length * 8 + 1, none⟩ = some (.int .i64 x.key.2.1) := row8 hI1.row pre.length x hx 1 (by decide)
              have e2 : W.cell? ⟨g, pre.length * 8 + 2, none⟩ = some (.string x.key.2.2) := row8 hI1.row pre.length x hx 2 (by decide)
              have e3 : W.cell? ⟨g, pre.length * 8 + 3, none⟩ = some (.int .i64 x.val.1) := row8 hI1.row pre.length x hx 3 (by decide)
              have e4 : W.cell? ⟨g, pre.length * 8 + 4, none⟩ = some (.int .i64 x.val.2.1) := row8 hI1.row pre.length x hx 4 (by decide)
              have e5 : W.cell? ⟨g, pre.length * 8 + 5, none⟩ = some (.string x.val.2.2) := row8 hI1.row pre.length x hx 5 (by decide)
              have xC : W.cell? ⟨C, 0, none⟩ = some (.int .i64 (pre.length : Int)) := by rw [hI1.ki.cell]; rfl
              have fC := hI1.ki.frozen 0
              have lC := hI1.ki.lt
              have xs : W.cell? ⟨w.heap.size, 0, none⟩ = some (.int .i64 stop) := by rw [hI1.ks.cell]; rfl
              have xK : W.cell? ⟨K, 0, none⟩ = some (.slice (some ⟨g, 0, none⟩) A.length wcap) := by rw [hI1.kw.cell]; rfl
              have y0 : W.cell? ⟨b1, 0, none⟩ = some (.int .i64 x.key.1) := by rw [kb1.cell]; rfl
              have y1 : W.cell? ⟨b1, 1, none⟩ = some (.int .i64 x.key.2.1) := by rw [kb1.cell]; rfl
              have y2 : W.cell? ⟨b1, 2, none⟩ = some (.string x.key.2.2) := by rw [kb1.cell]; rfl
              have v0 : W.cell? ⟨b2, 0, none⟩ = some (.int .i64 x.val.1) := by rw [kb2.cell]; rfl
              have v1 : W.cell? ⟨b2, 1, none⟩ = some (.int .i64 x.val.2.1) := by rw [kb2.cell]; rfl
              have v2 : W.cell? ⟨b2, 2, none⟩ = some (.string x.val.2.2) := by rw [kb2.cell]; rfl
              have hII := Lib.hid hI1
              have hlen9 : (pre ++ [x]).length = pre.length + 1 := by simp
              have HL9 := Lib.hid hlen9
              generalize hpn : pre.length = pn at *
              clear hlen9 hx hwa hI1 kb1 kb2 hpre
              by_cases hst : (pn : Int) = stop
              · have s1 : ((pn : Int) == stop) = true := by simpa using hst
                gi_wp2_with (fail)
                exact ⟨KeepsOthers.refl _, Upd.refl _ _, rfl, by have h := hII.out; rw [hst] at h; exact h⟩
              · have s1 : ((pn : Int) == stop) = false := by simpa using hst
                have s2 : ((pn : Int) == (A.length : Int)) = false := by simp; omega
                have aw : IntKind.i64.wrap ((pn : Int) + 1) = (pn : Int) + 1 := IntWalk.i64_in _ (by omega)
                have z0 : (0 : Int) ≤ (pn : Int) := by omega
                have z1 : (pn : Int) < (A.length : Int) := by omega
                have z2 : ¬ A.length ≤ pn := by omega
                gi_wp2_with (fail)
                clear fC lC
                refine quietR_lit (by kernel_rfl) (by kernel_rfl) (by kernel_rfl) ?_
                repeat (quiet_step_in (fail))
                refine wpQuietIn_nil ?_
                intro nq
                have h2 := hII.out.upd ((Upd.refl W O1).drewN nq)
                have xC2 : (W.drewN nq).cell? ⟨C, 0, none⟩ = some (.int .i64 (pn : Int)) := xC
                have fC := h2.ki.frozen 0
                have lC := h2.ki.lt
                gi_wp2_with (fail)
                refine ⟨(KeepsOthers.drewN W nq).trans (KeepsOthers.setCell _ _ _), ((Upd.refl W _).drewN nq).set C 0 _ (h2.nO _ (by simp)), ?_⟩
                dsimp only
                rw [HL9.out, show ((pn + 1 : Nat) : Int) = (pn : Int) + 1 from rfl]
                exact h2.next _
            case done =>
              intro O1 D1 W hD1 hF hI1 hk1
              have hA9 := hA5
              have hl0 := hI1
              obtain ⟨D', O2, hTF, hO2, hDD, hDl⟩ := hF
              have hD9 : D' = [] := List.length_eq_zero_iff.1 (by simpa using hDl)
              subst hD9
              obtain ⟨wa, wcap, rfl, _⟩ := own_shape hI1.row
              obtain ⟨ic, hic⟩ : ∃ ic : Int, ic = (A.length : Int) := ⟨_, rfl⟩
              have xC : W.cell? ⟨C, 0, none⟩ = some (.int .i64 ic) := by rw [hI1.ki.cell, hic]; rfl
              have xs : W.cell? ⟨w.heap.size, 0, none⟩ = some (.int .i64 stop) := by rw [hI1.ks.cell]; rfl
              have xK : W.cell? ⟨K, 0, none⟩ = some (.slice wa A.length wcap) := by rw [hI1.kw.cell]; rfl
              have xB : W.cell? ⟨B, 0, none⟩ = some (.pointer (some ⟨T, 0, none⟩)) := by rw [hI1.kb.cell]; rfl
              have m5 : IntKind.i64.wrap (5 * (A.length : Int)) = 5 * (A.length : Int) := IntWalk.i64_in _ (by omega)
              have m6' : IntKind.i64.wrap (5 * (A.length : Int) + 16) = 5 * (A.length : Int) + 16 := IntWalk.i64_in _ (by omega)
              have HII : Hid (AllI w0 w.heap.size (w.heap.size + 1) K C B T M stop (.slice wa A.length wcap) cv dv A ic O1 W) := Lib.hid (by rw [hic]; exact hI1)
              have HTF := Lib.hid hTF
              clear hA9 hl0 hTF hI1 hDD hDl hO2
              have q1 : (ic == (A.length : Int)) = true := by rw [hic]; simp
              clear hic
              go_wp2_with (fail)
              refine wp_var0 (fun KV HKV => ?_)
              refine wp_region_till (m := 21) (S := (fun W => W.cell? ⟨C, 0, none⟩ = some (.int .i64 ic) ∧ W.cell? ⟨K, 0, none⟩ = some (.slice wa A.length wcap) ∧ W.cell? ⟨w.heap.size, 0, none⟩ = some (.int .i64 stop) ∧ W.cell? ⟨B, 0, none⟩ = some (.pointer (some ⟨T, 0, none⟩)))) (by kernel_rfl) ?_
              obtain ⟨D, hD⟩ : ∃ D, W.drew = D := ⟨_, rfl⟩
              rw [hD]
              have S0 : D.cell? ⟨C, 0, none⟩ = some (.int .i64 ic) ∧ D.cell? ⟨K, 0, none⟩ = some (.slice wa A.length wcap) ∧ D.cell? ⟨w.heap.size, 0, none⟩ = some (.int .i64 stop) ∧ D.cell? ⟨B, 0, none⟩ = some (.pointer (some ⟨T, 0, none⟩)) := by rw [← hD]; exact ⟨xC, xK, xs, xB⟩
              have HI2 : Hid (AllI w0 w.heap.size (w.heap.size + 1) K C B T M stop (.slice wa A.length wcap) cv dv A ic O1 D) := by rw [← hD]; exact Lib.hid (HII.out.upd ((Upd.refl W O1).drew))
              have HT2 : Hid (TabA D T A [] O2) := by rw [← hD]; exact Lib.hid (HTF.out.upd ((Upd.refl W (fun _ => False)).drew) (fun _ _ h => h))
              have hk2 : D.heap[D1]? = some (.deferred (some [])) := by rw [← hD]; exact hk1
              clear hD xC xK xs xB
              change tillH _ _ _ _ _ _ 22 #[false, false, false, false, false, false, false, false, false, false, false, false, false, false, false, false, false, false, false, false, false, false] _ _
              refine tillH_take (i := 0) (oi := ?oo1) (v := ?vv1) ?hi1 (by kernel_rfl) (by kernel_rfl) (by kernel_rfl) ?hq1 (by kernel_rfl) (by kernel_rfl) (by kernel_rfl) ?hy1 S0 ?hh1
              case hi1 => (simp only [List.getElem?_toArray, List.getElem?_cons_succ, List.getElem?_cons_zero]; rfl)
              case hq1 => exact fun _ _ _ h => h
              case hy1 => exact Or.inl ⟨by rfl, by (intro W hSw; (try obtain ⟨s0, s1, s2, s3⟩ := hSw); go_simp; (try with_reducible rfl))⟩
              (try simp only [Act.put, List.setIfInBounds_toArray, List.set_cons_zero, List.set_cons_succ])
              refine tillH_take (i := 1) (oi := ?oo2) (v := ?vv2) ?hi2 (by kernel_rfl) (by kernel_rfl) (by kernel_rfl) ?hq2 (by kernel_rfl) (by kernel_rfl) (by kernel_rfl) ?hy2 S0 ?hh2
              case hi2 => (simp only [List.getElem?_toArray, List.getElem?_cons_succ, List.getElem?_cons_zero]; rfl)
              case hq2 => exact fun _ _ _ h => h
              case hy2 => exact Or.inl ⟨by rfl, by (intro W hSw; (try obtain ⟨s0, s1, s2, s3⟩ := hSw); go_simp; (try with_reducible rfl))⟩
              (try simp only [Act.put, List.setIfInBounds_toArray, List.set_cons_zero, List.set_cons_succ])
              refine tillH_takeAny (i := 2) (oi := ?oo3) (v := ?vv3) ?hi3 (by kernel_rfl) (by kernel_rfl) (by kernel_rfl) ?hq3 (by kernel_rfl) ?hy3 (fun _ => S0) ?hh3
              case hi3 => (simp only [List.getElem?_toArray, List.getElem?_cons_succ, List.getElem?_cons_zero]; rfl)
              case hq3 => exact fun _ _ _ h => h
              case hy3 => exact Or.inl ⟨by rfl, by (intro W; go_simp; (try with_reducible rfl))⟩
              (try simp only [Act.put, List.setIfInBounds_toArray, List.set_cons_zero, List.set_cons_succ])
              refine tillH_takeAny (i := 3) (oi := ?oo4) (v := ?vv4) ?hi4 (by kernel_rfl) (by kernel_rfl) (by kernel_rfl) ?hq4 (by kernel_rfl) ?hy4 (fun _ => S0) ?hh4
              case hi4 => (simp only [List.getElem?_toArray, List.getElem?_cons_succ, List.getElem?_cons_zero]; rfl)
              case hq4 => exact fun _ _ _ h => h
              case hy4 => exact Or.inl ⟨by rfl, by (intro W; go_simp; (try with_reducible rfl))⟩
              (try simp only [Act.put, List.setIfInBounds_toArray, List.set_cons_zero, List.set_cons_succ])
              refine tillH_takeAny (i := 4) (oi := ?oo5) (v := ?vv5) ?hi5 (by kernel_rfl) (by kernel_rfl) (by kernel_rfl) ?hq5 (by kernel_rfl) ?hy5 (fun _ => S0) ?hh5
              case hi5 => (simp only [List.getElem?_toArray, List.getElem?_cons_succ, List.getElem?_cons_zero]; rfl)
              case hq5 => exact fun _ _ _ h => h
              case hy5 => exact Or.inl ⟨by rfl, by (intro W; go_simp; (try with_reducible rfl))⟩
              (try simp only [Act.put, List.setIfInBounds_toArray, List.set_cons_zero, List.set_cons_succ])
              refine tillH_takeAny (i := 5) (oi := ?oo6) (v := ?vv6) ?hi6 (by kernel_rfl) (by kernel_rfl) (by kernel_rfl) ?hq6 (by kernel_rfl) ?hy6 (fun _ => S0) ?hh6
              case hi6 => (simp only [List.getElem?_toArray, List.getElem?_cons_succ, List.getElem?_cons_zero]; rfl)
              case hq6 => exact fun _ _ _ h => h
              case hy6 => exact Or.inr ⟨by rfl, by rfl⟩
              (try simp only [Act.put, List.setIfInBounds_toArray, List.set_cons_zero, List.set_cons_succ])
              refine tillH_takeAny (i := 6) (oi := ?oo7) (v := ?vv7) ?hi7 (by kernel_rfl) (by kernel_rfl) (by kernel_rfl) ?hq7 (by kernel_rfl) ?hy7 (fun _ => S0) ?hh7
              case hi7 => (simp only [List.getElem?_toArray, List.getElem?_cons_succ, List.getElem?_cons_zero]; rfl)
              case hq7 => exact fun _ _ _ h => h
              case hy7 => exact Or.inr ⟨by rfl, by rfl⟩
              (try simp only [Act.put, List.setIfInBounds_toArray, List.set_cons_zero, List.set_cons_succ])
              refine tillH_takeAny (i := 7) (oi := ?oo8) (v := ?vv8) ?hi8 (by kernel_rfl) (by kernel_rfl) (by kernel_rfl) ?hq8 (by kernel_rfl) ?hy8 (fun _ => S0) ?hh8
              case hi8 => (simp only [List.getElem?_toArray, List.getElem?_cons_succ, List.getElem?_cons_zero]; rfl)
              case hq8 => exact fun _ _ _ h => h
              case hy8 => exact Or.inr ⟨by rfl, by rfl⟩
              (try simp only [Act.put, List.setIfInBounds_toArray, List.set_cons_zero, List.set_cons_succ])
              refine tillH_takeAny (i := 8) (oi := ?oo9) (v := ?vv9) ?hi9 (by kernel_rfl) (by kernel_rfl) (by kernel_rfl) ?hq9 (by kernel_rfl) ?hy9 (fun _ => S0) ?hh9
              case hi9 => (simp only [List.getElem?_toArray, List.getElem?_cons_succ, List.getElem?_cons_zero]; rfl)
              case hq9 => exact fun _ _ _ h => h
              case hy9 => exact Or.inl ⟨by rfl, by (intro W; go_simp; (try with_reducible rfl))⟩
              (try simp only [Act.put, List.setIfInBounds_toArray, List.set_cons_zero, List.set_cons_succ])
              refine tillH_takeAny (i := 9) (oi := ?oo10) (v := ?vv10) ?hi10 (by kernel_rfl) (by kernel_rfl) (by kernel_rfl) ?hq10 (by kernel_rfl) ?hy10 (fun _ => S0) ?hh10
              case hi10 => (simp only [List.getElem?_toArray, List.getElem?_cons_succ, List.getElem?_cons_zero]; rfl)
              case hq10 => exact fun _ _ _ h => h
              case hy10 => exact Or.inl ⟨by rfl, by (intro W; go_simp; (try with_reducible rfl))⟩
              (try simp only [Act.put, List.setIfInBounds_toArray, List.set_cons_zero, List.set_cons_succ])
              refine tillH_takeAny (i := 10) (oi := ?oo11) (v := ?vv11) ?hi11 (by kernel_rfl) (by kernel_rfl) (by kernel_rfl) ?hq11 (by kernel_rfl) ?hy11 (fun _ => S0) ?hh11
              case hi11 => (simp only [List.getElem?_toArray, List.getElem?_cons_succ, List.getElem?_cons_zero]; rfl)
              case hq11 => exact fun _ _ _ h => h
              case hy11 => exact Or.inl ⟨by rfl, by (intro W; go_simp; (try with_reducible rfl))⟩
              (try simp only [Act.put, List.setIfInBounds_toArray, List.set_cons_zero, List.set_cons_succ])
              refine tillH_takeAny (i := 11) (oi := ?oo12) (v := ?vv12) ?hi12 (by kernel_rfl) (by kernel_rfl) (by kernel_rfl) ?hq12 (by kernel_rfl) ?hy12 (fun _ => S0) ?hh12
              case hi12 => (simp only [List.getElem?_toArray, List.getElem?_cons_succ, List.getElem?_cons_zero]; rfl)
              case hq12 => exact fun _ _ _ h => h
              case hy12 => exact Or.inl ⟨by rfl, by (intro W; go_simp; (try with_reducible rfl))⟩
              (try simp only [Act.put, List.setIfInBounds_toArray, List.set_cons_zero, List.set_cons_succ])
              refine tillH_takeAny (i := 12) (oi := ?oo13) (v := ?vv13) ?hi13 (by kernel_rfl) (by kernel_rfl) (by kernel_rfl) ?hq13 (by kernel_rfl) ?hy13 (fun _ => S0) ?hh13
              case hi13 => (simp only [List.getElem?_toArray, List.getElem?_cons_succ, List.getElem?_cons_zero]; rfl)
              case hq13 => exact fun _ _ _ h => h
              case hy13 => exact Or.inl ⟨by rfl, by (intro W; go_simp; (try with_reducible rfl))⟩
              (try simp only [Act.put, List.setIfInBounds_toArray, List.set_cons_zero, List.set_cons_succ])
              refine tillH_take (i := 13) (oi := ?oo14) (v := ?vv14) ?hi14 (by kernel_rfl) (by kernel_rfl) (by kernel_rfl) ?hq14 (by kernel_rfl) (by kernel_rfl) (by kernel_rfl) ?hy14 S0 ?hh14
              case hi14 => (simp only [List.getElem?_toArray, List.getElem?_cons_succ, List.getElem?_cons_zero]; rfl)
              case hq14 => exact fun _ _ _ h => h
              case hy14 => exact Or.inl ⟨by rfl, by (intro W hSw; (try obtain ⟨s0, s1, s2, s3⟩ := hSw); go_simp; (try with_reducible rfl))⟩
              (try simp only [Act.put, List.setIfInBounds_toArray, List.set_cons_zero, List.set_cons_succ])
              refine tillH_take (i := 15) (oi := ?oo15) (v := ?vv15) ?hi15 (by kernel_rfl) (by kernel_rfl) (by kernel_rfl) ?hq15 (by kernel_rfl) (by kernel_rfl) (by kernel_rfl) ?hy15 S0 ?hh15
              case hi15 => (simp only [List.getElem?_toArray, List.getElem?_cons_succ, List.getElem?_cons_zero]; rfl)
              case hq15 => exact fun _ _ _ h => h
              case hy15 => exact Or.inl ⟨by rfl, by (intro W hSw; (try obtain ⟨s0, s1, s2, s3⟩ := hSw); go_simp; (try with_reducible rfl))⟩
              (try simp only [Act.put, List.setIfInBounds_toArray, List.set_cons_zero, List.set_cons_succ])
              refine tillH_takeAny (i := 16) (oi := ?oo16) (v := ?vv16) ?hi16 (by kernel_rfl) (by kernel_rfl) (by kernel_rfl) ?hq16 (by kernel_rfl) ?hy16 (fun _ => S0) ?hh16
              case hi16 => (simp only [List.getElem?_toArray, List.getElem?_cons_succ, List.getElem?_cons_zero]; rfl)
              case hq16 => exact fun _ _ _ h => h
              case hy16 => exact Or.inl ⟨by rfl, by (intro W; go_simp; (try with_reducible rfl))⟩
              (try simp only [Act.put, List.setIfInBounds_toArray, List.set_cons_zero, List.set_cons_succ])
              refine tillH_takeAny (i := 17) (oi := ?oo17) (v := ?vv17) ?hi17 (by kernel_rfl) (by kernel_rfl) (by kernel_rfl) ?hq17 (by kernel_rfl) ?hy17 (fun _ => S0) ?hh17
              case hi17 => (simp only [List.getElem?_toArray, List.getElem?_cons_succ, List.getElem?_cons_zero]; rfl)
              case hq17 => exact fun _ _ _ h => h
              case hy17 => exact Or.inl ⟨by rfl, by (intro W; go_simp; (try with_reducible rfl))⟩
              (try simp only [Act.put, List.setIfInBounds_toArray, List.set_cons_zero, List.set_cons_succ])
              refine tillH_takeAny (i := 18) (oi := ?oo18) (v := ?vv18) ?hi18 (by kernel_rfl) (by kernel_rfl) (by kernel_rfl) ?hq18 (by kernel_rfl) ?hy18 (fun _ => S0) ?hh18
              case hi18 => (simp only [List.getElem?_toArray, List.getElem?_cons_succ, List.getElem?_cons_zero]; rfl)
              case hq18 => exact fun _ _ _ h => h
              case hy18 => exact Or.inl ⟨by rfl, by (intro W; go_simp; (try with_reducible rfl))⟩
              (try simp only [Act.put, List.setIfInBounds_toArray, List.set_cons_zero, List.set_cons_succ])
              refine tillH_next (rs := [14]) (by kernel_rfl) (by simp) ?_
              refine NextH.cons rfl (fun K hK => ?_) NextH.nil
              go_simp
              refine (storage_any T A [] O2 D HT2.out hA5 (by simp)).mono ?_
              rintro e w6 ⟨ns, rfl, hns, m6, rfl⟩
              refine hK.out _ _ (fun _ => S0) ?_
              clear hK K
              (try simp only [Act.put, List.setIfInBounds_toArray, List.set_cons_zero, List.set_cons_succ])
              have lq : decide ((ns : Int) ≤ 5 * (A.length : Int) + 16) = true := by rw [decide_eq_true_eq]; have h0 : (([] : List (Nat × Nat)).length) = 0 := rfl; omega
              have HI3 := Lib.hid (HI2.out.upd ((Upd.refl D O1).drewN m6))
              have xq : (D.drewN m6).cell? ⟨w.heap.size + 1, 0, none⟩ = some (.bool false) := by rw [HI3.out.kr.cell]; rfl
              have fq := HI3.out.kr.frozen 0
              have lt6 := HI3.out.kr.lt
              refine tillH_next (rs := [19]) (by kernel_rfl) (by simp) ?_
              refine NextH.cons rfl (fun K hK => ?_) NextH.nil
              go_simp
              refine hK.out _ _ (fun _ => S0) ?_
              clear hK K
              (try simp only [Act.put, List.setIfInBounds_toArray, List.set_cons_zero, List.set_cons_succ])
              refine tillH_next (rs := [20]) (by kernel_rfl) (by simp) ?_
              refine NextH.cons rfl (fun K hK => ?_) NextH.nil
              go_simp
              refine hK.out _ _ (fun _ => S0) ?_
              clear hK K
              (try simp only [Act.put, List.setIfInBounds_toArray, List.set_cons_zero, List.set_cons_succ])
              refine tillH_next (rs := [21]) (by kernel_rfl) (by simp) ?_
              refine NextH.cons rfl (fun K hK => ?_) NextH.nil
              go_simp
              refine hK.out _ _ (fun h => absurd h (by simp)) ?_
              clear hK K
              (try simp only [Act.put, List.setIfInBounds_toArray, List.set_cons_zero, List.set_cons_succ])
              refine tillH_done (by kernel_rfl) ?_ _
              refine HKV.out _ _ ?_
              have HB := Lib.hid (b0.trans ((HI3.out.bel).mono (by omega)))
              go_wp2_with (fail)
              refine marksOut (b := w5.heap.size) (I := fun W2 => W2.cell? ⟨w.heap.size + 1, 0, none⟩ = some (.bool true) ∧ Below w.heap.size w W2) ?_ ?_ [D1] _ (by simp) ?_ ⟨?_, HB.out.trans (set_below _ _ _ _ (by omega))⟩
              · intro W2 l o o' h hl hk ho
                exact ⟨(Upd.put W2 l o').cell h.1 (fun e => by have : w.heap.size + 1 = l := e; omega), h.2.trans ((Upd.put W2 l o').below h.2.size (fun k e => by have : k = l := e; omega))⟩
              · intro W2 h
                have h1 := h.1
                exact ⟨.bool true, by simp [results, Try.results8, go_sem, h1], rfl, h.2⟩
              · intro E hE
                rw [List.mem_singleton] at hE
                subst hE
                exact ⟨hD1, (Below.heap_setCell _ _ _ _ (by show E ≠ w.heap.size + 1; omega)).trans hk2⟩
              · rw [((HI3.out.kr.set_ 0 (.bool true)).cell 0)]; rfl
            case stop =>
              intro O1 D1 c pre W hD1 hF hIx hk1
              obtain ⟨rfl, hI1⟩ := hIx
              have hA9 := hA5
              have hl0 := hI1
              obtain ⟨D', O2, hTF, hO2, hDD, hDl⟩ := hF
              have hD9 : D' = [] := List.length_eq_zero_iff.1 (by simpa using hDl)
              subst hD9
              obtain ⟨wa, wcap, rfl, _⟩ := own_shape hI1.row
              obtain ⟨ic, hic⟩ : ∃ ic : Int, ic = stop := ⟨_, rfl⟩
              have xC : W.cell? ⟨C, 0, none⟩ = some (.int .i64 ic) := by rw [hI1.ki.cell, hic]; rfl
              have xs : W.cell? ⟨w.heap.size, 0, none⟩ = some (.int .i64 stop) := by rw [hI1.ks.cell]; rfl
              have xK : W.cell? ⟨K, 0, none⟩ = some (.slice wa A.length wcap) := by rw [hI1.kw.cell]; rfl
              have xB : W.cell? ⟨B, 0, none⟩ = some (.pointer (some ⟨T, 0, none⟩)) := by rw [hI1.kb.cell]; rfl
              have m5 : IntKind.i64.wrap (5 * (A.length : Int)) = 5 * (A.length : Int) := IntWalk.i64_in _ (by omega)
              have m6' : IntKind.i64.wrap (5 * (A.length : Int) + 16) = 5 * (A.length : Int) + 16 := IntWalk.i64_in _ (by omega)
              have HII : Hid (AllI w0 w.heap.size (w.heap.size + 1) K C B T M stop (.slice wa A.length wcap) cv dv A ic O1 W) := Lib.hid (by rw [hic]; exact hI1)
              have HTF := Lib.hid hTF
              clear hA9 hl0 hTF hI1 hDD hDl hO2
              refine wpIn_wide.2 ?_
              go_wp2_with (fail)
              have q2 : (ic == stop) = true := by rw [hic]; simp
              clear hic
              by_cases hq : ic = (A.length : Int)
              · have q1 : (ic == (A.length : Int)) = true := by rw [hq]; simp
                clear hq
                refine wp_var0 (fun KV HKV => ?_)
                refine wp_region_till (m := 21) (S := (fun W => W.cell? ⟨C, 0, none⟩ = some (.int .i64 ic) ∧ W.cell? ⟨K, 0, none⟩ = some (.slice wa A.length wcap) ∧ W.cell? ⟨w.heap.size, 0, none⟩ = some (.int .i64 stop) ∧ W.cell? ⟨B, 0, none⟩ = some (.pointer (some ⟨T, 0, none⟩)))) (by kernel_rfl) ?_
                obtain ⟨D, hD⟩ : ∃ D, W.drew = D := ⟨_, rfl⟩
                rw [hD]
                have S0 : D.cell? ⟨C, 0, none⟩ = some (.int .i64 ic) ∧ D.cell? ⟨K, 0, none⟩ = some (.slice wa A.length wcap) ∧ D.cell? ⟨w.heap.size, 0, none⟩ = some (.int .i64 stop) ∧ D.cell? ⟨B, 0, none⟩ = some (.pointer (some ⟨T, 0, none⟩)) := by rw [← hD]; exact ⟨xC, xK, xs, xB⟩
                have HI2 : Hid (AllI w0 w.heap.size (w.heap.size + 1) K C B T M stop (.slice wa A.length wcap) cv dv A ic O1 D) := by rw [← hD]; exact Lib.hid (HII.out.upd ((Upd.refl W O1).drew))
                have HT2 : Hid (TabA D T A [] O2) := by rw [← hD]; exact Lib.hid (HTF.out.upd ((Upd.refl W (fun _ => False)).drew) (fun _ _ h => h))
                have hk2 : D.heap[D1]? = some (.deferred (some [])) := by rw [← hD]; exact hk1
                clear hD xC xK xs xB
                change tillH _ _ _ _ _ _ 22 #[false, false, false, false, false, false, false, false, false, false, false, false, false, false, false, false, false, false, false, false, false, false] _ _
                refine tillH_take (i := 0) (oi := ?oo19) (v := ?vv19) ?hi19 (by kernel_rfl) (by kernel_rfl) (by kernel_rfl) ?hq19 (by kernel_rfl) (by kernel_rfl) (by kernel_rfl) ?hy19 S0 ?hh19
                case hi19 => (simp only [List.getElem?_toArray, List.getElem?_cons_succ, List.getElem?_cons_zero]; rfl)
                case hq19 => exact fun _ _ _ h => h
                case hy19 => exact Or.inl ⟨by rfl, by (intro W hSw; (try obtain ⟨s0, s1, s2, s3⟩ := hSw); go_simp; (try with_reducible rfl))⟩
                (try simp only [Act.put, List.setIfInBounds_toArray, List.set_cons_zero, List.set_cons_succ])
                refine tillH_take (i := 1) (oi := ?oo20) (v := ?vv20) ?hi20 (by kernel_rfl) (by kernel_rfl) (by kernel_rfl) ?hq20 (by kernel_rfl) (by kernel_rfl) (by kernel_rfl) ?hy20 S0 ?hh20
                case hi20 => (simp only [List.getElem?_toArray, List.getElem?_cons_succ, List.getElem?_cons_zero]; rfl)
                case hq20 => exact fun _ _ _ h => h
                case hy20 => exact Or.inl ⟨by rfl, by (intro W hSw; (try obtain ⟨s0, s1, s2, s3⟩ := hSw); go_simp; (try with_reducible rfl))⟩
                (try simp only [Act.put, List.setIfInBounds_toArray, List.set_cons_zero, List.set_cons_succ])
                refine tillH_takeAny (i := 2) (oi := ?oo21) (v := ?vv21) ?hi21 (by kernel_rfl) (by kernel_rfl) (by kernel_rfl) ?hq21 (by kernel_rfl) ?hy21 (fun _ => S0) ?hh21
                case hi21 => (simp only [List.getElem?_toArray, List.getElem?_cons_succ, List.getElem?_cons_zero]; rfl)
                case hq21 => exact fun _ _ _ h => h
                case hy21 => exact Or.inl ⟨by rfl, by (intro W; go_simp; (try with_reducible rfl))⟩
                (try simp only [Act.put, List.setIfInBounds_toArray, List.set_cons_zero, List.set_cons_succ])
                refine tillH_takeAny (i := 3) (oi := ?oo22) (v := ?vv22) ?hi22 (by kernel_rfl) (by kernel_rfl) (by kernel_rfl) ?hq22 (by kernel_rfl) ?hy22 (fun _ => S0) ?hh22
                case hi22 => (simp only [List.getElem?_toArray, List.getElem?_cons_succ, List.getElem?_cons_zero]; rfl)
                case hq22 => exact fun _ _ _ h => h
                case hy22 => exact Or.inl ⟨by rfl, by (intro W; go_simp; (try with_reducible rfl))⟩
                (try simp only [Act.put, List.setIfInBounds_toArray, List.set_cons_zero, List.set_cons_succ])
                refine tillH_takeAny (i := 4) (oi := ?oo23) (v := ?vv23) ?hi23 (by kernel_rfl) (by kernel_rfl) (by kernel_rfl) ?hq23 (by kernel_rfl) ?hy23 (fun _ => S0) ?hh23
                case hi23 => (simp only [List.getElem?_toArray, List.getElem?_cons_succ, List.getElem?_cons_zero]; rfl)
                case hq23 => exact fun _ _ _ h => h
                case hy23 => exact Or.inl ⟨by rfl, by (intro W; go_simp; (try with_reducible rfl))⟩
                (try simp only [Act.put, List.setIfInBounds_toArray, List.set_cons_zero, List.set_cons_succ])
                refine tillH_takeAny (i := 5) (oi := ?oo24) (v := ?vv24) ?hi24 (by kernel_rfl) (by kernel_rfl) (by kernel_rfl) ?hq24 (by kernel_rfl) ?hy24 (fun _ => S0) ?hh24
                case hi24 => (simp only [List.getElem?_toArray, List.getElem?_cons_succ, List.getElem?_cons_zero]; rfl)
                case hq24 => exact fun _ _ _ h => h
                case hy24 => exact Or.inr ⟨by rfl, by rfl⟩
                (try simp only [Act.put, List.setIfInBounds_toArray, List.set_cons_zero, List.set_cons_succ])
                refine tillH_takeAny (i := 6) (oi := ?oo25) (v := ?vv25) ?hi25 (by kernel_rfl) (by kernel_rfl) (by kernel_rfl) ?hq25 (by kernel_rfl) ?hy25 (fun _ => S0) ?hh25
                case hi25 => (simp only [List.getElem?_toArray, List.getElem?_cons_succ, List.getElem?_cons_zero]; rfl)
                case hq25 => exact fun _ _ _ h => h
                case hy25 => exact Or.inr ⟨by rfl, by rfl⟩
                (try simp only [Act.put, List.setIfInBounds_toArray, List.set_cons_zero, List.set_cons_succ])
                refine tillH_takeAny (i := 7) (oi := ?oo26) (v := ?vv26) ?hi26 (by kernel_rfl) (by kernel_rfl) (by kernel_rfl) ?hq26 (by kernel_rfl) ?hy26 (fun _ => S0) ?hh26
                case hi26 => (simp only [List.getElem?_toArray, List.getElem?_cons_succ, List.getElem?_cons_zero]; rfl)
                case hq26 => exact fun _ _ _ h => h
                case hy26 => exact Or.inr ⟨by rfl, by rfl⟩
                (try simp only [Act.put, List.setIfInBounds_toArray, List.set_cons_zero, List.set_cons_succ])
                refine tillH_takeAny (i := 8) (oi := ?oo27) (v := ?vv27) ?hi27 (by kernel_rfl) (by kernel_rfl) (by kernel_rfl) ?hq27 (by kernel_rfl) ?hy27 (fun _ => S0) ?hh27
                case hi27 => (simp only [List.getElem?_toArray, List.getElem?_cons_succ, List.getElem?_cons_zero]; rfl)
                case hq27 => exact fun _ _ _ h => h
                case hy27 => exact Or.inl ⟨by rfl, by (intro W; go_simp; (try with_reducible rfl))⟩
                (try simp only [Act.put, List.setIfInBounds_toArray, List.set_cons_zero, List.set_cons_succ])
                refine tillH_takeAny (i := 9) (oi := ?oo28) (v := ?vv28) ?hi28 (by kernel_rfl) (by kernel_rfl) (by kernel_rfl) ?hq28 (by kernel_rfl) ?hy28 (fun _ => S0) ?hh28
                case hi28 => (simp only [List.getElem?_toArray, List.getElem?_cons_succ, List.getElem?_cons_zero]; rfl)
                case hq28 => exact fun _ _ _ h => h
                case hy28 => exact Or.inl ⟨by rfl, by (intro W; go_simp; (try with_reducible rfl))⟩
                (try simp only [Act.put, List.setIfInBounds_toArray, List.set_cons_zero, List.set_cons_succ])
                refine tillH_takeAny (i := 10) (oi := ?oo29) (v := ?vv29) ?hi29 (by kernel_rfl) (by kernel_rfl) (by kernel_rfl) ?hq29 (by kernel_rfl) ?hy29 (fun _ => S0) ?hh29
                case hi29 => (simp only [List.getElem?_toArray, List.getElem?_cons_succ, List.getElem?_cons_zero]; rfl)
                case hq29 => exact fun _ _ _ h => h
                case hy29 => exact Or.inl ⟨by rfl, by (intro W; go_simp; (try with_reducible rfl))⟩
                (try simp only [Act.put, List.setIfInBounds_toArray, List.set_cons_zero, List.set_cons_succ])
                refine tillH_takeAny (i := 11) (oi := ?oo30) (v := ?vv30) ?hi30 (by kernel_rfl) (by kernel_rfl) (by kernel_rfl) ?hq30 (by kernel_rfl) ?hy30 (fun _ => S0) ?hh30
                case hi30 => (simp only [List.getElem?_toArray, List.getElem?_cons_succ, List.getElem?_cons_zero]; rfl)
                case hq30 => exact fun _ _ _ h => h
                case hy30 => exact Or.inl ⟨by rfl, by (intro W; go_simp; (try with_reducible rfl))⟩
                (try simp only [Act.put, List.setIfInBounds_toArray, List.set_cons_zero, List.set_cons_succ])
                refine tillH_takeAny (i := 12) (oi := ?oo31) (v := ?vv31) ?hi31 (by kernel_rfl) (by kernel_rfl) (by kernel_rfl) ?hq31 (by kernel_rfl) ?hy31 (fun _ => S0) ?hh31
                case hi31 => (simp only [List.getElem?_toArray, List.getElem?_cons_succ, List.getElem?_cons_zero]; rfl)
                case hq31 => exact fun _ _ _ h => h
                case hy31 => exact Or.inl ⟨by rfl, by (intro W; go_simp; (try with_reducible rfl))⟩
                (try simp only [Act.put, List.setIfInBounds_toArray, List.set_cons_zero, List.set_cons_succ])
                refine tillH_take (i := 13) (oi := ?oo32) (v := ?vv32) ?hi32 (by kernel_rfl) (by kernel_rfl) (by kernel_rfl) ?hq32 (by kernel_rfl) (by kernel_rfl) (by kernel_rfl) ?hy32 S0 ?hh32
                case hi32 => (simp only [List.getElem?_toArray, List.getElem?_cons_succ, List.getElem?_cons_zero]; rfl)
                case hq32 => exact fun _ _ _ h => h
                case hy32 => exact Or.inl ⟨by rfl, by (intro W hSw; (try obtain ⟨s0, s1, s2, s3⟩ := hSw); go_simp; (try with_reducible rfl))⟩
                (try simp only [Act.put, List.setIfInBounds_toArray, List.set_cons_zero, List.set_cons_succ])
                refine tillH_take (i := 15) (oi := ?oo33) (v := ?vv33) ?hi33 (by kernel_rfl) (by kernel_rfl) (by kernel_rfl) ?hq33 (by kernel_rfl) (by kernel_rfl) (by kernel_rfl) ?hy33 S0 ?hh33
                case hi33 => (simp only [List.getElem?_toArray, List.getElem?_cons_succ, List.getElem?_cons_zero]; rfl)
                case hq33 => exact fun _ _ _ h => h
                case hy33 => exact Or.inl ⟨by rfl, by (intro W hSw; (try obtain ⟨s0, s1, s2, s3⟩ := hSw); go_simp; (try with_reducible rfl))⟩
                (try simp only [Act.put, List.setIfInBounds_toArray, List.set_cons_zero, List.set_cons_succ])
                refine tillH_takeAny (i := 16) (oi := ?oo34) (v := ?vv34) ?hi34 (by kernel_rfl) (by kernel_rfl) (by kernel_rfl) ?hq34 (by kernel_rfl) ?hy34 (fun _ => S0) ?hh34
                case hi34 => (simp only [List.getElem?_toArray, List.getElem?_cons_succ, List.getElem?_cons_zero]; rfl)
                case hq34 => exact fun _ _ _ h => h
                case hy34 => exact Or.inl ⟨by rfl, by (intro W; go_simp; (try with_reducible rfl))⟩
                (try simp only [Act.put, List.setIfInBounds_toArray, List.set_cons_zero, List.set_cons_succ])
                refine tillH_takeAny (i := 17) (oi := ?oo35) (v := ?vv35) ?hi35 (by kernel_rfl) (by kernel_rfl) (by kernel_rfl) ?hq35 (by kernel_rfl) ?hy35 (fun _ => S0) ?hh35
                case hi35 => (simp only [List.getElem?_toArray, List.getElem?_cons_succ, List.getElem?_cons_zero]; rfl)
                case hq35 => exact fun _ _ _ h => h
                case hy35 => exact Or.inl ⟨by rfl, by (intro W; go_simp; (try with_reducible rfl))⟩
                (try simp only [Act.put, List.setIfInBounds_toArray, List.set_cons_zero, List.set_cons_succ])
                refine tillH_takeAny (i := 18) (oi := ?oo36) (v := ?vv36) ?hi36 (by kernel_rfl) (by kernel_rfl) (by kernel_rfl) ?hq36 (by kernel_rfl) ?hy36 (fun _ => S0) ?hh36
                case hi36 => (simp only [List.getElem?_toArray, List.getElem?_cons_succ, List.getElem?_cons_zero]; rfl)
                case hq36 => exact fun _ _ _ h => h
                case hy36 => exact Or.inl ⟨by rfl, by (intro W; go_simp; (try with_reducible rfl))⟩
                (try simp only [Act.put, List.setIfInBounds_toArray, List.set_cons_zero, List.set_cons_succ])
                refine tillH_next (rs := [14]) (by kernel_rfl) (by simp) ?_
                refine NextH.cons rfl (fun K hK => ?_) NextH.nil
                go_simp
                refine (storage_any T A [] O2 D HT2.out hA5 (by simp)).mono ?_
                rintro e w6 ⟨ns, rfl, hns, m6, rfl⟩
                refine hK.out _ _ (fun _ => S0) ?_
                clear hK K
                (try simp only [Act.put, List.setIfInBounds_toArray, List.set_cons_zero, List.set_cons_succ])
                have lq : decide ((ns : Int) ≤ 5 * (A.length : Int) + 16) = true := by rw [decide_eq_true_eq]; have h0 : (([] : List (Nat × Nat)).length) = 0 := rfl; omega
                have HI3 := Lib.hid (HI2.out.upd ((Upd.refl D O1).drewN m6))
                have xq : (D.drewN m6).cell? ⟨w.heap.size + 1, 0, none⟩ = some (.bool false) := by rw [HI3.out.kr.cell]; rfl
                have fq := HI3.out.kr.frozen 0
                have lt6 := HI3.out.kr.lt
                refine tillH_next (rs := [19]) (by kernel_rfl) (by simp) ?_
                refine NextH.cons rfl (fun K hK => ?_) NextH.nil
                go_simp
                refine hK.out _ _ (fun _ => S0) ?_
                clear hK K
                (try simp only [Act.put, List.setIfInBounds_toArray, List.set_cons_zero, List.set_cons_succ])
                refine tillH_next (rs := [20]) (by kernel_rfl) (by simp) ?_
                refine NextH.cons rfl (fun K hK => ?_) NextH.nil
                go_simp
                refine hK.out _ _ (fun _ => S0) ?_
                clear hK K
                (try simp only [Act.put, List.setIfInBounds_toArray, List.set_cons_zero, List.set_cons_succ])
                refine tillH_next (rs := [21]) (by kernel_rfl) (by simp) ?_
                refine NextH.cons rfl (fun K hK => ?_) NextH.nil
                go_simp
                refine hK.out _ _ (fun h => absurd h (by simp)) ?_
                clear hK K
                (try simp only [Act.put, List.setIfInBounds_toArray, List.set_cons_zero, List.set_cons_succ])
                refine tillH_done (by kernel_rfl) ?_ _
                refine HKV.out _ _ ?_
                have HB := Lib.hid (b0.trans ((HI3.out.bel).mono (by omega)))
                go_wp2_with (fail)
                refine marksOut (b := w5.heap.size) (I := fun W2 => W2.cell? ⟨w.heap.size + 1, 0, none⟩ = some (.bool true) ∧ Below w.heap.size w W2) ?_ ?_ [D1] _ (by simp) ?_ ⟨?_, HB.out.trans (set_below _ _ _ _ (by omega))⟩
                · intro W2 l o o' h hl hk ho
                  exact ⟨(Upd.put W2 l o').cell h.1 (fun e => by have : w.heap.size + 1 = l := e; omega), h.2.trans ((Upd.put W2 l o').below h.2.size (fun k e => by have : k = l := e; omega))⟩
                · intro W2 h
                  have h1 := h.1
                  exact ⟨.bool true, by simp [results, Try.results8, go_sem, h1], rfl, h.2⟩
                · intro E hE
                  rw [List.mem_singleton] at hE
                  subst hE
                  exact ⟨hD1, (Below.heap_setCell _ _ _ _ (by show E ≠ w.heap.size + 1; omega)).trans hk2⟩
                · rw [((HI3.out.kr.set_ 0 (.bool true)).cell 0)]; rfl
              · have q1 : (ic == (A.length : Int)) = false := by simpa using hq
                clear hq
                refine wp_var0 (fun KV HKV => ?_)
                refine wp_region_till (m := 21) (S := (fun W => W.cell? ⟨C, 0, none⟩ = some (.int .i64 ic) ∧ W.cell? ⟨K, 0, none⟩ = some (.slice wa A.length wcap) ∧ W.cell? ⟨w.heap.size, 0, none⟩ = some (.int .i64 stop) ∧ W.cell? ⟨B, 0, none⟩ = some (.pointer (some ⟨T, 0, none⟩)))) (by kernel_rfl) ?_
                obtain ⟨D, hD⟩ : ∃ D, W.drew = D := ⟨_, rfl⟩
                rw [hD]
                have S0 : D.cell? ⟨C, 0, none⟩ = some (.int .i64 ic) ∧ D.cell? ⟨K, 0, none⟩ = some (.slice wa A.length wcap) ∧ D.cell? ⟨w.heap.size, 0, none⟩ = some (.int .i64 stop) ∧ D.cell? ⟨B, 0, none⟩ = some (.pointer (some ⟨T, 0, none⟩)) := by rw [← hD]; exact ⟨xC, xK, xs, xB⟩
                have HI2 : Hid (AllI w0 w.heap.size (w.heap.size + 1) K C B T M stop (.slice wa A.length wcap) cv dv A ic O1 D) := by rw [← hD]; exact Lib.hid (HII.out.upd ((Upd.refl W O1).drew))
                have HT2 : Hid (TabA D T A [] O2) := by rw [← hD]; exact Lib.hid (HTF.out.upd ((Upd.refl W (fun _ => False)).drew) (fun _ _ h => h))
                have hk2 : D.heap[D1]? = some (.deferred (some [])) := by rw [← hD]; exact hk1
                clear hD xC xK xs xB
                change tillH _ _ _ _ _ _ 22 #[false, false, false, false, false, false, false, false, false, false, false, false, false, false, false, false, false, false, false, false, false, false] _ _
                refine tillH_take (i := 0) (oi := ?oo37) (v := ?vv37) ?hi37 (by kernel_rfl) (by kernel_rfl) (by kernel_rfl) ?hq37 (by kernel_rfl) (by kernel_rfl) (by kernel_rfl) ?hy37 S0 ?hh37
                case hi37 => (simp only [List.getElem?_toArray, List.getElem?_cons_succ, List.getElem?_cons_zero]; rfl)
                case hq37 => exact fun _ _ _ h => h
                case hy37 => exact Or.inl ⟨by rfl, by (intro W hSw; (try obtain ⟨s0, s1, s2, s3⟩ := hSw); go_simp; (try with_reducible rfl))⟩
                (try simp only [Act.put, List.setIfInBounds_toArray, List.set_cons_zero, List.set_cons_succ])
                refine tillH_take (i := 1) (oi := ?oo38) (v := ?vv38) ?hi38 (by kernel_rfl) (by kernel_rfl) (by kernel_rfl) ?hq38 (by kernel_rfl) (by kernel_rfl) (by kernel_rfl) ?hy38 S0 ?hh38
                case hi38 => (simp only [List.getElem?_toArray, List.getElem?_cons_succ, List.getElem?_cons_zero]; rfl)
                case hq38 => exact fun _ _ _ h => h
                case hy38 => exact Or.inl ⟨by rfl, by (intro W hSw; (try obtain ⟨s0, s1, s2, s3⟩ := hSw); go_simp; (try with_reducible rfl))⟩
                (try simp only [Act.put, List.setIfInBounds_toArray, List.set_cons_zero, List.set_cons_succ])
                refine tillH_takeAny (i := 2) (oi := ?oo39) (v := ?vv39) ?hi39 (by kernel_rfl) (by kernel_rfl) (by kernel_rfl) ?hq39 (by kernel_rfl) ?hy39 (fun _ => S0) ?hh39
                case hi39 => (simp only [List.getElem?_toArray, List.getElem?_cons_succ, List.getElem?_cons_zero]; rfl)
                case hq39 => exact fun _ _ _ h => h
                case hy39 => exact Or.inl ⟨by rfl, by (intro W; go_simp; (try with_reducible rfl))⟩
                (try simp only [Act.put, List.setIfInBounds_toArray, List.set_cons_zero, List.set_cons_succ])
                refine tillH_takeAny (i := 3) (oi := ?oo40) (v := ?vv40) ?hi40 (by kernel_rfl) (by kernel_rfl) (by kernel_rfl) ?hq40 (by kernel_rfl) ?hy40 (fun _ => S0) ?hh40
                case hi40 => (simp only [List.getElem?_toArray, List.getElem?_cons_succ, List.getElem?_cons_zero]; rfl)
                case hq40 => exact fun _ _ _ h => h
                case hy40 => exact Or.inl ⟨by rfl, by (intro W; go_simp; (try with_reducible rfl))⟩
                (try simp only [Act.put, List.setIfInBounds_toArray, List.set_cons_zero, List.set_cons_succ])
                refine tillH_takeAny (i := 4) (oi := ?oo41) (v := ?vv41) ?hi41 (by kernel_rfl) (by kernel_rfl) (by kernel_rfl) ?hq41 (by kernel_rfl) ?hy41 (fun _ => S0) ?hh41
                case hi41 => (simp only [List.getElem?_toArray, List.getElem?_cons_succ, List.getElem?_cons_zero]; rfl)
                case hq41 => exact fun _ _ _ h => h
                case hy41 => exact Or.inl ⟨by rfl, by (intro W; go_simp; (try with_reducible rfl))⟩
                (try simp only [Act.put, List.setIfInBounds_toArray, List.set_cons_zero, List.set_cons_succ])
                refine tillH_take (i := 5) (oi := ?oo42) (v := ?vv42) ?hi42 (by kernel_rfl) (by kernel_rfl) (by kernel_rfl) ?hq42 (by kernel_rfl) (by kernel_rfl) (by kernel_rfl) ?hy42 S0 ?hh42
                case hi42 => (simp only [List.getElem?_toArray, List.getElem?_cons_succ, List.getElem?_cons_zero]; rfl)
                case hq42 => exact fun _ _ _ h => h
                case hy42 => exact Or.inl ⟨by rfl, by (intro W hSw; (try obtain ⟨s0, s1, s2, s3⟩ := hSw); go_simp; (try with_reducible rfl))⟩
                (try simp only [Act.put, List.setIfInBounds_toArray, List.set_cons_zero, List.set_cons_succ])
                refine tillH_take (i := 6) (oi := ?oo43) (v := ?vv43) ?hi43 (by kernel_rfl) (by kernel_rfl) (by kernel_rfl) ?hq43 (by kernel_rfl) (by kernel_rfl) (by kernel_rfl) ?hy43 S0 ?hh43
                case hi43 => (simp only [List.getElem?_toArray, List.getElem?_cons_succ, List.getElem?_cons_zero]; rfl)
                case hq43 => exact fun _ _ _ h => h
                case hy43 => exact Or.inl ⟨by rfl, by (intro W hSw; (try obtain ⟨s0, s1, s2, s3⟩ := hSw); go_simp; (try with_reducible rfl))⟩
                (try simp only [Act.put, List.setIfInBounds_toArray, List.set_cons_zero, List.set_cons_succ])
                refine tillH_takeAny (i := 7) (oi := ?oo44) (v := ?vv44) ?hi44 (by kernel_rfl) (by kernel_rfl) (by kernel_rfl) ?hq44 (by kernel_rfl) ?hy44 (fun _ => S0) ?hh44
                case hi44 => (simp only [List.getElem?_toArray, List.getElem?_cons_succ, List.getElem?_cons_zero]; rfl)
                case hq44 => exact fun _ _ _ h => h
                case hy44 => exact Or.inl ⟨by rfl, by (intro W; go_simp; (try with_reducible rfl))⟩
                (try simp only [Act.put, List.setIfInBounds_toArray, List.set_cons_zero, List.set_cons_succ])
                refine tillH_takeAny (i := 8) (oi := ?oo45) (v := ?vv45) ?hi45 (by kernel_rfl) (by kernel_rfl) (by kernel_rfl) ?hq45 (by kernel_rfl) ?hy45 (fun _ => S0) ?hh45
                case hi45 => (simp only [List.getElem?_toArray, List.getElem?_cons_succ, List.getElem?_cons_zero]; rfl)
                case hq45 => exact fun _ _ _ h => h
                case hy45 => exact Or.inl ⟨by rfl, by (intro W; go_simp; (try with_reducible rfl))⟩
                (try simp only [Act.put, List.setIfInBounds_toArray, List.set_cons_zero, List.set_cons_succ])
                refine tillH_takeAny (i := 9) (oi := ?oo46) (v := ?vv46) ?hi46 (by kernel_rfl) (by kernel_rfl) (by kernel_rfl) ?hq46 (by kernel_rfl) ?hy46 (fun _ => S0) ?hh46
                case hi46 => (simp only [List.getElem?_toArray, List.getElem?_cons_succ, List.getElem?_cons_zero]; rfl)
                case hq46 => exact fun _ _ _ h => h
                case hy46 => exact Or.inl ⟨by rfl, by (intro W; go_simp; (try with_reducible rfl))⟩
                (try simp only [Act.put, List.setIfInBounds_toArray, List.set_cons_zero, List.set_cons_succ])
                refine tillH_takeAny (i := 10) (oi := ?oo47) (v := ?vv47) ?hi47 (by kernel_rfl) (by kernel_rfl) (by kernel_rfl) ?hq47 (by kernel_rfl) ?hy47 (fun _ => S0) ?hh47
                case hi47 => (simp only [List.getElem?_toArray, List.getElem?_cons_succ, List.getElem?_cons_zero]; rfl)
                case hq47 => exact fun _ _ _ h => h
                case hy47 => exact Or.inl ⟨by rfl, by (intro W; go_simp; (try with_reducible rfl))⟩
                (try simp only [Act.put, List.setIfInBounds_toArray, List.set_cons_zero, List.set_cons_succ])
                refine tillH_takeAny (i := 11) (oi := ?oo48) (v := ?vv48) ?hi48 (by kernel_rfl) (by kernel_rfl) (by kernel_rfl) ?hq48 (by kernel_rfl) ?hy48 (fun _ => S0) ?hh48
                case hi48 => (simp only [List.getElem?_toArray, List.getElem?_cons_succ, List.getElem?_cons_zero]; rfl)
                case hq48 => exact fun _ _ _ h => h
                case hy48 => exact Or.inl ⟨by rfl, by (intro W; go_simp; (try with_reducible rfl))⟩
                (try simp only [Act.put, List.setIfInBounds_toArray, List.set_cons_zero, List.set_cons_succ])
                refine tillH_takeAny (i := 12) (oi := ?oo49) (v := ?vv49) ?hi49 (by kernel_rfl) (by kernel_rfl) (by kernel_rfl) ?hq49 (by kernel_rfl) ?hy49 (fun _ => S0) ?hh49
                case hi49 => (simp only [List.getElem?_toArray, List.getElem?_cons_succ, List.getElem?_cons_zero]; rfl)
                case hq49 => exact fun _ _ _ h => h
                case hy49 => exact Or.inl ⟨by rfl, by (intro W; go_simp; (try with_reducible rfl))⟩
                (try simp only [Act.put, List.setIfInBounds_toArray, List.set_cons_zero, List.set_cons_succ])
                refine tillH_take (i := 13) (oi := ?oo50) (v := ?vv50) ?hi50 (by kernel_rfl) (by kernel_rfl) (by kernel_rfl) ?hq50 (by kernel_rfl) (by kernel_rfl) (by kernel_rfl) ?hy50 S0 ?hh50
                case hi50 => (simp only [List.getElem?_toArray, List.getElem?_cons_succ, List.getElem?_cons_zero]; rfl)
                case hq50 => exact fun _ _ _ h => h
                case hy50 => exact Or.inl ⟨by rfl, by (intro W hSw; (try obtain ⟨s0, s1, s2, s3⟩ := hSw); go_simp; (try with_reducible rfl))⟩
                (try simp only [Act.put, List.setIfInBounds_toArray, List.set_cons_zero, List.set_cons_succ])
                refine tillH_take (i := 15) (oi := ?oo51) (v := ?vv51) ?hi51 (by kernel_rfl) (by kernel_rfl) (by kernel_rfl) ?hq51 (by kernel_rfl) (by kernel_rfl) (by kernel_rfl) ?hy51 S0 ?hh51
                case hi51 => (simp only [List.getElem?_toArray, List.getElem?_cons_succ, List.getElem?_cons_zero]; rfl)
                case hq51 => exact fun _ _ _ h => h
                case hy51 => exact Or.inl ⟨by rfl, by (intro W hSw; (try obtain ⟨s0, s1, s2, s3⟩ := hSw); go_simp; (try with_reducible rfl))⟩
                (try simp only [Act.put, List.setIfInBounds_toArray, List.set_cons_zero, List.set_cons_succ])
                refine tillH_takeAny (i := 16) (oi := ?oo52) (v := ?vv52) ?hi52 (by kernel_rfl) (by kernel_rfl) (by kernel_rfl) ?hq52 (by kernel_rfl) ?hy52 (fun _ => S0) ?hh52
                case hi52 => (simp only [List.getElem?_toArray, List.getElem?_cons_succ, List.getElem?_cons_zero]; rfl)
                case hq52 => exact fun _ _ _ h => h
                case hy52 => exact Or.inl ⟨by rfl, by (intro W; go_simp; (try with_reducible rfl))⟩
                (try simp only [Act.put, List.setIfInBounds_toArray, List.set_cons_zero, List.set_cons_succ])
                refine tillH_takeAny (i := 17) (oi := ?oo53) (v := ?vv53) ?hi53 (by kernel_rfl) (by kernel_rfl) (by kernel_rfl) ?hq53 (by kernel_rfl) ?hy53 (fun _ => S0) ?hh53
                case hi53 => (simp only [List.getElem?_toArray, List.getElem?_cons_succ, List.getElem?_cons_zero]; rfl)
                case hq53 => exact fun _ _ _ h => h
                case hy53 => exact Or.inl ⟨by rfl, by (intro W; go_simp; (try with_reducible rfl))⟩
                (try simp only [Act.put, List.setIfInBounds_toArray, List.set_cons_zero, List.set_cons_succ])
                refine tillH_takeAny (i := 18) (oi := ?oo54) (v := ?vv54) ?hi54 (by kernel_rfl) (by kernel_rfl) (by kernel_rfl) ?hq54 (by kernel_rfl) ?hy54 (fun _ => S0) ?hh54
                case hi54 => (simp only [List.getElem?_toArray, List.getElem?_cons_succ, List.getElem?_cons_zero]; rfl)
                case hq54 => exact fun _ _ _ h => h
                case hy54 => exact Or.inl ⟨by rfl, by (intro W; go_simp; (try with_reducible rfl))⟩
                (try simp only [Act.put, List.setIfInBounds_toArray, List.set_cons_zero, List.set_cons_succ])
                refine tillH_next (rs := [14]) (by kernel_rfl) (by simp) ?_
                refine NextH.cons rfl (fun K hK => ?_) NextH.nil
                go_simp
                refine (storage_any T A [] O2 D HT2.out hA5 (by simp)).mono ?_
                rintro e w6 ⟨ns, rfl, hns, m6, rfl⟩
                refine hK.out _ _ (fun _ => S0) ?_
                clear hK K
                (try simp only [Act.put, List.setIfInBounds_toArray, List.set_cons_zero, List.set_cons_succ])
                have lq : decide ((ns : Int) ≤ 5 * (A.length : Int) + 16) = true := by rw [decide_eq_true_eq]; have h0 : (([] : List (Nat × Nat)).length) = 0 := rfl; omega
                have HI3 := Lib.hid (HI2.out.upd ((Upd.refl D O1).drewN m6))
                have xq : (D.drewN m6).cell? ⟨w.heap.size + 1, 0, none⟩ = some (.bool false) := by rw [HI3.out.kr.cell]; rfl
                have fq := HI3.out.kr.frozen 0
                have lt6 := HI3.out.kr.lt
                refine tillH_next (rs := [19]) (by kernel_rfl) (by simp) ?_
                refine NextH.cons rfl (fun K hK => ?_) NextH.nil
                go_simp
                refine hK.out _ _ (fun _ => S0) ?_
                clear hK K
                (try simp only [Act.put, List.setIfInBounds_toArray, List.set_cons_zero, List.set_cons_succ])
                refine tillH_next (rs := [20]) (by kernel_rfl) (by simp) ?_
                refine NextH.cons rfl (fun K hK => ?_) NextH.nil
                go_simp
                refine hK.out _ _ (fun _ => S0) ?_
                clear hK K
                (try simp only [Act.put, List.setIfInBounds_toArray, List.set_cons_zero, List.set_cons_succ])
                refine tillH_next (rs := [21]) (by kernel_rfl) (by simp) ?_
                refine NextH.cons rfl (fun K hK => ?_) NextH.nil
                go_simp
                refine hK.out _ _ (fun h => absurd h (by simp)) ?_
                clear hK K
                (try simp only [Act.put, List.setIfInBounds_toArray, List.set_cons_zero, List.set_cons_succ])
                refine tillH_done (by kernel_rfl) ?_ _
                refine HKV.out _ _ ?_
                have HB := Lib.hid (b0.trans ((HI3.out.bel).mono (by omega)))
                go_wp2_with (fail)
                refine marksOut (b := w5.heap.size) (I := fun W2 => W2.cell? ⟨w.heap.size + 1, 0, none⟩ = some (.bool true) ∧ Below w.heap.size w W2) ?_ ?_ [D1] _ (by simp) ?_ ⟨?_, HB.out.trans (set_below _ _ _ _ (by omega))⟩
                · intro W2 l o o' h hl hk ho
                  exact ⟨(Upd.put W2 l o').cell h.1 (fun e => by have : w.heap.size + 1 = l := e; omega), h.2.trans ((Upd.put W2 l o').below h.2.size (fun k e => by have : k = l := e; omega))⟩
                · intro W2 h
                  have h1 := h.1
                  exact ⟨.bool true, by simp [results, Try.results8, go_sem, h1], rfl, h.2⟩
                · intro E hE
                  rw [List.mem_singleton] at hE
                  subst hE
                  exact ⟨hD1, (Below.heap_setCell _ _ _ _ (by show E ≠ w.heap.size + 1; omega)).trans hk2⟩
                · rw [((HI3.out.kr.set_ 0 (.bool true)).cell 0)]; rfl
theorem alls_said (a : Option Addr) (n cap : Nat) (cs : List CallV) (stop : Int) (w : World) (h : CallsR w a n cs) {p : Prop} (wf : p) : Calls Try.prog 8 #[.slice a n cap, .int .i64 stop] w fun e w' => e = .returned (.bool true) ∧ Below w.heap.size w w' :=
  alls_any a n cap cs stop w h
end Go.Proofs.Ytlgnjbdkkpjjaaa
