/- The heap: Collect, no function being given, over bodies of any type. -/
import Derived.Test.YtmimnaaofpkndaaDoorHqE
set_option linter.unusedVariables false
set_option linter.unusedSimpArgs false
namespace Go.Proofs.YtmimnaaofpkndaaDoor.Hp
open Go.RowKit Go.Proofs.YtmimnaaofpkndaaDoor Go.Shelf
attribute [local go_sem] Oper.semAt_some

def mkA (A : Nat) : Array Value := #[.pointer (some ⟨A, 0, none⟩), .slice none 0 0, .slice none 0 0]
theorem neq_nil_func (w : World) : (binOp .neq 72 .nilFunc .nilFunc).run Tryd.prog w = .ok (.bool false) w := by kernel_rfl
theorem methodDrop (t : Nat) (ht : t = tObj) (p : Nat) (a : Addr) (w : World) : (method (p + 1) t (.pointer (some a)) "Drop").run Tryd.prog w = .ok (31, .pointer (some a)) w := by subst ht; kernel_rfl
theorem methodClear (t : Nat) (ht : t = tObj) (p : Nat) (a : Addr) (w : World) : (method (p + 1) t (.pointer (some a)) "Clear").run Tryd.prog w = .ok (120, .pointer (some a)) w := by subst ht; kernel_rfl
theorem weak_of (N : Nat × Nat) (h : N.1 = tObj ∨ N.1 = tEnv ∨ N.1 = tMark) (v : Value) (w : World) : (Instr.typeAssert (.iface N.1 v) 90 111 true).run Tryd.prog w = .ok (.tuple #[if N.1 = tObj then .iface N.1 v else .nilIface, .bool (decide (N.1 = tObj))]) w := by
  obtain ⟨t, b⟩ := N
  dsimp only at h ⊢
  rcases h with rfl | rfl | rfl
  · exact isWeak_obj v w
  · exact noWeak_env v w
  · exact noWeak_mark v w
theorem bodies_at {cs : List Cell} {i : Nat} {N : Nat × Nat} (h : (cs.getD i (none, false)).1 = some N) : N ∈ bodies cs := by
  by_cases hi : i < cs.length
  · rw [List.getD_eq_getElem?_getD, List.getElem?_eq_getElem hi] at h
    exact List.mem_filterMap.2 ⟨cs[i], List.getElem_mem hi, h⟩
  · rw [List.getD_eq_getElem?_getD, List.getElem?_eq_none (by omega)] at h
    cases h
theorem of_bodies {cs : List Cell} {N : Nat × Nat} (h : N ∈ bodies cs) : ∃ i, (cs.getD i (none, false)).1 = some N := by
  obtain ⟨c, hc, e⟩ := List.mem_filterMap.1 h
  obtain ⟨j, hj, e2⟩ := List.getElem_of_mem hc
  exact ⟨j, by rw [List.getD_eq_getElem?_getD, List.getElem?_eq_getElem hj, e2]; exact e⟩
/-- What a collection marks. -/
def startP (cs : List Cell) (ro : List Int) : List Cell × List Int := ro.foldl reachP (cs, [])
def firstP (toF : Nat × Nat → List Int) (cs : List Cell) (ro : List Int) : List Cell × List (Nat × Nat) := drainP toF (dfu (startP cs ro)) (startP cs ro).1 (startP cs ro).2 []
def markP (toF : Nat × Nat → List Int) (tab : Nat × Nat → List Pr) (cs : List Cell) (ro : List Int) : List Cell := (settleP toF tab ((firstP toF cs ro).1.length + 1) (firstP toF cs ro).1 (firstP toF cs ro).2).1
theorem markP_se (toF : Nat × Nat → List Int) (tab : Nat × Nat → List Pr) (cs : List Cell) (ro : List Int) : Se cs (markP toF tab cs ro) := by
  have hk : Mk (cs, []) (startP cs ro) := foldl_mk _ reachP_mk _ _
  have hd : Dr (startP cs ro).1 (startP cs ro).2 [] (firstP toF cs ro) := drainP_dr toF _ _ _ _ (hk.ok (fun r hr => (List.not_mem_nil hr).elim)) (Nat.le_refl _)
  have hs := settleP_se toF tab ((firstP toF cs ro).1.length + 1) (firstP toF cs ro).1 (firstP toF cs ro).2
  exact ⟨hs.len.trans (hd.len.trans hk.len), fun i => (hs.body i).trans ((hd.body i).trans (hk.body i)), fun h => hs.some (hd.some (hk.some h))⟩
/-- The bodies' blocks are none of the arena's. -/
structure FarA (O : Nat → Prop) (A : Nat) (cv fv rv : Value) : Prop where
  a : ¬ O A
  c : ∀ g, cv.ownBlock = some g → ¬ O g
  f : ∀ g, fv.ownBlock = some g → ¬ O g
  r : ∀ g, rv.ownBlock = some g → ¬ O g
theorem mark_start {X : Bods} {bs : Nat × Nat → Prop} (hX : BodsOk X bs) {O : Nat → Prop} {w : World} {A B : Nat} {cv fv rv : Value} {cs : List Cell} {fr ro : List Int} {live : Int} (h : Ar w A B cv fv rv cs fr ro live) (hS : X.S O w) (hf : FarA O A cv fv rv) :
    DrG O w w A B w.heap.size w.heap.size (w.heap.size + 1) cv fv rv fr ro live [] cs [] [] O ((w.alloc (.cells (mkA A) 104)).alloc (.cells #[.pointer (some ⟨w.heap.size, 0, none⟩)] tMkP)) ∧ X.S O ((w.alloc (.cells (mkA A) 104)).alloc (.cells #[.pointer (some ⟨w.heap.size, 0, none⟩)] tMkP)) := by
  have kx : Blk ((w.alloc (.cells (mkA A) 104)).alloc (.cells #[.pointer (some ⟨w.heap.size, 0, none⟩)] tMkP)) (w.heap.size + 1) tMkP #[.pointer (some ⟨w.heap.size, 0, none⟩)] := by
    have := Blk.new (w.alloc (.cells (mkA A) 104)) tMkP #[.pointer (some ⟨w.heap.size, 0, none⟩)]
    rwa [World.size_alloc] at this
  have lt : ∀ k, O k → k < w.heap.size := fun k hk => hX.lt hS hk
  refine ⟨⟨⟨.slice none 0 0, .slice none 0 0, ⟨⟨(h.blk.alloc _).alloc _, (h.cells.alloc _).alloc _, (h.free.alloc _).alloc _, (h.roots.alloc _).alloc _, h.apart⟩, (Blk.new w _ _).alloc _, World.ownsRow_nil _ _ _ _, World.ownsRow_nil _ _ _ _, fun g hg => (h.free.lt g hg).2, fun g hg => (h.roots.lt g hg).2⟩, ⟨hf.a, fun k => by have := lt _ k; omega, fun k => by have := lt _ k; omega, hf.c, hf.f, hf.r, fun g hg => by (simp [Value.ownBlock] at hg), fun g hg => by (simp [Value.ownBlock] at hg)⟩⟩,
    ((Upd.refl w _).alloc _).alloc _, (KeepsOthers.alloc w _).trans (KeepsOthers.alloc _ _), kx, fun D hD => (List.not_mem_nil hD).elim, List.nodup_nil, fun g xs hb => (hb.alloc _).alloc _, fun k hk => .inl hk, fun k o hk ho => ?_, fun k hk => by have := lt k hk; simp; omega⟩, hX.keep hS (((Upd.refl w (fun _ => False)).alloc _).alloc _) (fun _ _ e => e)⟩
  obtain ⟨c, t, f, e, hne⟩ := hX.fit hS hk
  rw [e] at ho
  cases ho
  exact ⟨_, _, _, rfl, hne⟩
abbrev deadV (A : Nat) : Value := .func (.func 50) #[.pointer (some ⟨A, 0, none⟩)] #[]
/-- dead may be called. -/
def DeadAt (A : Nat) (csM : List Cell) (O : Nat → Prop) (W : World) : Prop := ∀ W' k, Upd W W' O → Calls Tryd.prog 50 #[.pointer (some ⟨A, 0, none⟩), .int .i64 k] W' fun e W'' => e = .returned (.bool (deadP csM k)) ∧ W' = W''
/-- What the second loop of Collect does to bodies: T i: ahead of cell i; U i: between its Drop and its Clear. -/
structure ColOk (T U : Nat → (Nat → Prop) → World → Prop) (bs : Nat × Nat → Prop) (csM : List Cell) (A : Nat) : Prop where
  keepT : ∀ {j : Nat} {O : Nat → Prop} {W W' : World} {P : Nat → Prop}, T j O W → Upd W W' P → (∀ k, O k → ¬ P k) → T j O W'
  keepU : ∀ {j : Nat} {O : Nat → Prop} {W W' : World} {P : Nat → Prop}, U j O W → Upd W W' P → (∀ k, O k → ¬ P k) → U j O W'
  ltT : ∀ {j : Nat} {O : Nat → Prop} {W : World} {k : Nat}, T j O W → O k → k < W.heap.size
  ltU : ∀ {j : Nat} {O : Nat → Prop} {W : World} {k : Nat}, U j O W → O k → k < W.heap.size
  skip : ∀ {j : Nat} {O : Nat → Prop} {W : World}, T j O W → (∀ N, csM.getD j (none, false) = (some N, true) → N.1 ≠ tObj) → T (j + 1) O W
  drop : ∀ {j : Nat} {N : Nat × Nat} {O : Nat → Prop} {W : World}, csM.getD j (none, false) = (some N, true) → N.1 = tObj → T j O W → DeadAt A csM O W →
    Calls Tryd.prog 31 #[.pointer (some ⟨N.2, 0, none⟩), deadV A] W fun e W' => (∃ v, e = .returned v) ∧ Upd W W' O ∧ ∃ O', U j O' W' ∧ ∀ k, O' k → O k ∨ W.heap.size ≤ k
  clear : ∀ {j : Nat} {N : Nat × Nat} {O : Nat → Prop} {W : World}, csM.getD j (none, false) = (some N, true) → N.1 = tObj → U j O W → DeadAt A csM O W →
    Calls Tryd.prog 120 #[.pointer (some ⟨N.2, 0, none⟩), deadV A] W fun e W' => (∃ v, e = .returned v) ∧ Upd W W' O ∧ ∃ O', T (j + 1) O' W' ∧ ∀ k, O' k → O k ∨ W.heap.size ≤ k
  gone : ∀ N, bs N → N.1 = tObj → ∀ O W, T csM.length O W → Calls Tryd.prog 122 #[.pointer (some ⟨N.2, 0, none⟩)] W fun e W' => (∃ v, e = .returned v) ∧ W' = W
/-- The second loop, ahead of cell i. -/
structure LpG (T : (Nat → Prop) → World → Prop) (O : Nat → Prop) (w W : World) (A B : Nat) (cv fv rv : Value) (csM : List Cell) (fr ro : List Int) (live : Int) (O1 : Nat → Prop) : Prop where
  ar : Ar W A B cv fv rv csM fr ro live
  t : T O1 W
  new : ∀ k, O1 k → O k ∨ w.heap.size ≤ k
  upd : Upd w W (fun k => cv.ownBlock = some k ∨ w.heap.size ≤ k ∨ O k)
  far : FarA O1 A cv fv rv
theorem LpG.dead {T : (Nat → Prop) → World → Prop} {O : Nat → Prop} {w W : World} {A B : Nat} {cv fv rv : Value} {csM : List Cell} {fr ro : List Int} {live : Int} {O1 : Nat → Prop} (h : LpG T O w W A B cv fv rv csM fr ro live O1) (hl : csM.length ≤ 100000000) : DeadAt A csM O1 W := fun W' k u =>
  dead_any (h.ar.upd u h.far.a h.far.c h.far.f h.far.r) k hl
theorem LpG.step {T T' : (Nat → Prop) → World → Prop} {O : Nat → Prop} {w W W' : World} {A B : Nat} {cv fv rv : Value} {csM : List Cell} {fr ro : List Int} {live : Int} {O1 O2 : Nat → Prop} (h : LpG T O w W A B cv fv rv csM fr ro live O1) (u : Upd W W' O1) (ht : T' O2 W') (hn : ∀ k, O2 k → O1 k ∨ W.heap.size ≤ k) : LpG T' O w W' A B cv fv rv csM fr ro live O2 := by
  have n : ∀ k, k < W.heap.size → ¬ O1 k → ¬ O2 k := fun k hk h1 h2 => (hn k h2).elim h1 (fun e => by omega)
  exact ⟨h.ar.upd u h.far.a h.far.c h.far.f h.far.r, ht, fun k hk => (hn k hk).elim (h.new k) (fun e => .inr (Nat.le_trans h.upd.size e)), h.upd.trans (u.mono fun k _ e => (h.new k e).elim (fun q => .inr (.inr q)) (fun q => .inr (.inl q))),
    ⟨n _ h.ar.blk.lt h.far.a, fun g hg => n g (h.ar.cells.lt g hg).2 (h.far.c g hg), fun g hg => n g (h.ar.free.lt g hg).2 (h.far.f g hg), fun g hg => n g (h.ar.roots.lt g hg).2 (h.far.r g hg)⟩⟩
/-- What Collect leaves. -/
def ColP (T : (Nat → Prop) → World → Prop) (O : Nat → Prop) (w : World) (A B : Nat) (cv fv rv : Value) (csM : List Cell) (fr ro : List Int) (live : Int) (e : Ending) (w' : World) : Prop :=
  ∃ vg fv' O', e = .returned vg ∧ Ar w' A B cv fv' rv (swL csM) (fr ++ (goneL 0 csM).reverse) ro (live - (goneL 0 csM).length) ∧ T O' w' ∧ (∀ k, O' k → O k ∨ w.heap.size ≤ k) ∧ FarA O' A cv fv' rv ∧
    Upd w w' (fun k => k = A ∨ cv.ownBlock = some k ∨ fv.ownBlock = some k ∨ O k ∨ w.heap.size ≤ k) ∧ (∀ g, fv'.ownBlock = some g → fv.ownBlock = some g ∨ w.heap.size ≤ g)
set_option maxHeartbeats 4000000 in
set_option maxRecDepth 100000 in
theorem collect_g {X : Bods} {bs : Nat × Nat → Prop} (hX : BodsOk X bs) {O : Nat → Prop} {w : World} {A B : Nat} {cv fv rv : Value} {cs : List Cell} {fr ro : List Int} {live : Int} (h : Ar w A B cv fv rv cs fr ro live) (hS : X.S O w) (hf : FarA O A cv fv rv)
    (hN : ∀ i N, (cs.getD i (none, false)).1 = some N → bs N) (hl : cs.length ≤ 100000) (hfl : fr.length ≤ 100000) (hro : ro.length ≤ 100000) (hum : ∀ c ∈ cs, c.2 = false) (hlv : 0 ≤ live ∧ live ≤ 1000000000) (hB : B ≤ w.heap.size)
    (csM : List Cell) (hM : markP X.to_ X.tab cs ro = csM) {T U : Nat → (Nat → Prop) → World → Prop} (hC : ColOk T U bs csM A) (hT : ∀ O W, X.S O W → T 0 O W) :
    Calls Tryd.prog 27 #[.pointer (some ⟨A, 0, none⟩), .nilFunc] w (ColP (T csM.length) O w A B cv fv rv csM fr ro live) := by
  obtain ⟨ra, rcap, rfl, hra⟩ := own_shape h.roots
  have x2 : w.cell? ⟨A, 2, none⟩ = some (.slice ra ro.length rcap) := by rw [h.blk.cell]; rfl
  have hAl := h.blk.lt
  obtain ⟨nr, hnr⟩ : ∃ nr, ro.length = nr := ⟨_, rfl⟩
  rw [hnr] at x2 hra hro
  have HR := Lib.hid hnr
  have HH := Lib.hid (And.intro h (And.intro hN (And.intro hC hT)))
  have qf := neq_nil_func
  have hst := Lib.hid (mark_start hX h hS hf)
  have HMM := Lib.hid hM
  clear h hnr hN hC hT hS hf hM
  go_enter Tryd.func27, Tryd.ntmps27
  go_wp2_with fail
  go_loopw [24] (fun v wr => ∃ k : Nat, k ≤ nr ∧ v = .int .i64 k ∧ DrG O w w A B w.heap.size w.heap.size (w.heap.size + 1) cv fv (.slice ra ro.length rcap) fr ro live [] ((ro.take k).foldl reachP (cs, [])).1 ((ro.take k).foldl reachP (cs, [])).2 [] O wr ∧ X.S O wr) (fun v _ => nr - (intOf v).toNat)
  case atStart => exact ⟨0, by omega, rfl, hst.out⟩
  case round =>
    obtain ⟨k, hk, rfl, hI, hSw⟩ := hrel
    have y1 := hI.fb
    have hmk := foldl_mk _ reachP_mk (ro.take k) (cs, [])
    by_cases hlt : k < nr
    · have L1 : decide ((k : Int) < (nr : Int)) = true := by rw [decide_eq_true_eq]; omega
      obtain ⟨rg, rfl⟩ := hra (by omega)
      have z0 : (0 : Int) ≤ k := by omega
      have z1 : (k : Int) < nr := by omega
      have z2 : (k : Int).toNat = k := by omega
      have a1 : IntKind.i64.wrap ((k : Int) + 1) = ((k + 1 : Nat) : Int) := by rw [IntWalk.i64_in _ (by omega)]; rfl
      obtain ⟨wv, pv, hm, hF⟩ := hI.mks
      have hkx : k < ro.length := by rw [HR.out]; exact hlt
      have c0 := (hm.ar.roots.cellAt k (show k < ro.length * 1 by omega)).trans (numCells_get ro k hkx)
      have htk : ro.take (k + 1) = ro.take k ++ [ro.getD k 0] := by rw [List.take_succ_eq_append_getElem hkx, List.getD_eq_getElem?_getD, List.getElem?_eq_getElem hkx]; rfl
      generalize ro.getD k 0 = x at *
      have hsn : (ro.take (k + 1)).foldl reachP (cs, []) = reachP ((ro.take k).foldl reachP (cs, [])) x := by rw [htk, List.foldl_append]; rfl
      have hle := mc_le ((ro.take k).foldl reachP (cs, [])).1
      have hrc := reach_any hm x (by rw [hmk.len]; dsimp only; omega) (by have := hmk.cnt; have := hmk.len; simp only [List.length_nil] at *; omega) (Nat.le_refl _) hI.ko.size
      have HI := Lib.hid (And.intro hI (And.intro hm (And.intro hsn (And.intro hF hSw))))
      clear hI hm hmk hsn htk hle hF hSw
      go_wp2_with fail
      refine hrc.mono ?_
      rintro e W6 ⟨rfl, wv6, hm6, hU6, hK6, hV6⟩
      obtain ⟨hI, hm, hsn, hF, hSw⟩ := HI.out
      have hI6 := hI.turn ⟨_, _, hm6, ⟨hF.a, hF.m, hF.b, hF.c, hF.f, hF.r, fun g' hg' hk' => ?e0, hF.p⟩⟩ hU6 (fun k e => ?e1) (fun g' xs' hb' e => ?e2) hK6
      case e0 =>
        rcases hV6 g' hg' with e | e
        · exact hF.w g' e hk'
        · have := hI.lt g' hk'; omega
      case e1 =>
        rcases e with e | rfl | e
        · exact .inl e
        · exact .inr (Nat.le_refl _)
        · exact .inr (hm.work.lt _ e).1
      case e2 =>
        rcases e with e | e | e
        · exact own_blk_ne hm.ar.cells hb' (by decide) e
        · exact hm.mkb.ne_ hb' (by decide) e.symm
        · exact own_blk_ne hm.work hb' (by decide) e
      have hS6 := hX.keep hSw hU6 (fun k hk e => by
        rcases e with e | rfl | e
        · exact hF.c k e hk
        · exact hF.m hk
        · exact hF.w k e hk)
      have H6 := Lib.hid (And.intro hI6 hS6)
      clear hI6 hm6 hU6 hK6 hrc hI hm hF hSw hS6 hV6
      go_wp2_with fail
      go_roundw
      case rel => exact ⟨k + 1, by omega, by first | rfl | rw [Int.natCast_add], by rw [hsn]; exact H6.out⟩
      case measure => simp only [intOf]; omega
    · obtain rfl : k = nr := by omega
      have L1 : decide ((k : Int) < (k : Int)) = false := by simp
      rw [← HR.out, List.take_of_length_le (Nat.le_refl _)] at hI hmk
      obtain ⟨s0, hs0⟩ : ∃ s0, ro.foldl reachP (cs, []) = s0 := ⟨_, rfl⟩
      rw [hs0] at hI hmk
      obtain ⟨wv, pv, hm, hF⟩ := hI.mks
      have hdr := drain_g hX hm hSw ⟨hF.a, hF.m, hF.a, hF.c, hF.f, hF.r, hF.w, hF.p⟩ hI.old hI.upd (fun i N hi => HH.out.2.1 i N (by rw [← hmk.body i]; exact hi)) (hmk.ok (fun r hr => (List.not_mem_nil hr).elim)) (Nat.le_refl _) hI.ko.size (by rw [hmk.len]; dsimp only; omega) (by have := hmk.cnt; have := hmk.len; have := mc_le s0.1; simp only [List.length_nil] at *; omega) (by simp) (dfu s0) (Nat.le_refl _)
      have hd := drainP_dr X.to_ (dfu s0) s0.1 s0.2 [] (hmk.ok (fun r hr => (List.not_mem_nil hr).elim)) (Nat.le_refl _)
      obtain ⟨d0, hd0⟩ : ∃ d0, drainP X.to_ (dfu s0) s0.1 s0.2 [] = d0 := ⟨_, rfl⟩
      rw [hd0] at hdr hd
      have HI := Lib.hid (And.intro hI (And.intro hmk (And.intro hd (And.intro hs0 hd0))))
      clear hI hm hmk hd hs0 hd0 hF hSw
      go_wp2_with fail
      refine hdr.mono ?_
      rintro e W6 ⟨⟨v6, rfl⟩, O6, hE6⟩
      have hI6 := HI.out.1.next hX HI.out.1.ko.size hE6
      have y6 := hI6.fb
      have hlen6 : d0.1.length = cs.length := HI.out.2.2.1.len.trans HI.out.2.1.len
      obtain ⟨wv6, pv6, hm6, hF6⟩ := hI6.mks
      have hse := settle_g hX hm6 hE6.s ⟨hF6.a, hF6.m, hF6.a, hF6.c, hF6.f, hF6.r, hF6.w, hF6.p⟩ hI6.old hI6.upd (fun i N hi => HH.out.2.1 i N (by rw [← HI.out.2.1.body i, ← HI.out.2.2.1.body i]; exact hi)) (HI.out.2.2.1.ok (fun N hN => (List.not_mem_nil hN).elim)) (Nat.le_refl _) hI6.ko.size (by omega) (by have h1 := HI.out.2.2.1.cnt; have h2 := HI.out.2.1.cnt; have h3 := mc_le d0.1; simp only [List.length_nil] at *; omega) (d0.1.length + 1) (by omega)
      obtain ⟨Y, hY⟩ : ∃ Y, settleP X.to_ X.tab (d0.1.length + 1) d0.1 d0.2 = Y := ⟨_, rfl⟩
      rw [hY] at hse
      have H6 := Lib.hid (And.intro hI6 (And.intro hY hE6))
      clear hdr hm6 hF6 hE6 hI6 hlen6 y1
      go_wp2_with fail
      refine hse.mono ?_
      rintro e W7 ⟨⟨v7, rfl⟩, O7, hE7⟩
      have hI7 := H6.out.1.next hX H6.out.1.ko.size hE7
      obtain ⟨wv7, pv7, hm7, hF7⟩ := hI7.mks
      have hse3 := markP_se X.to_ X.tab cs ro
      have hMX : markP X.to_ X.tab cs ro = Y.1 := by
        rw [← H6.out.2.1, ← HI.out.2.2.2.2, ← HI.out.2.2.2.1]; rfl
      have hsome : Somes Y.1 := by
        rw [← hMX]
        refine hse3.some (fun i hi => ?_)
        exfalso
        by_cases hil : i < cs.length
        · rw [List.getD_eq_getElem?_getD, List.getElem?_eq_getElem hil] at hi
          have := hum _ (List.getElem_mem hil)
          simp only [Option.getD_some] at hi
          rw [this] at hi; cases hi
        · rw [List.getD_eq_getElem?_getD, List.getElem?_eq_none (by omega)] at hi
          cases hi
      rw [hMX] at hse3
      have hYM : Y.1 = csM := hMX.symm.trans HMM.out
      obtain ⟨csX, pX⟩ := Y
      dsimp only at hm7 hse3 hsome hMX hYM hE7
      subst hYM
      have hlp : LpG (T 0) O w W7 A B cv fv (.slice ra ro.length rcap) csX fr ro live O7 :=
        ⟨hm7.ar, HH.out.2.2.2 _ _ hE7.s, hI7.old, hI7.upd, ⟨hF7.a, hF7.c, hF7.f, hF7.r⟩⟩
      obtain ⟨ca, ccap, rfl, hca⟩ := own_shape hlp.ar.cells
      obtain ⟨nl, hnl⟩ : ∃ nl, csX.length = nl := ⟨_, rfl⟩
      have y0 : W7.cell? ⟨A, 0, none⟩ = some (.slice ca nl ccap) := by rw [hlp.ar.blk.cell, hnl]; rfl
      rw [hnl] at hca
      have hlM : nl ≤ 100000 := by rw [← hnl, hse3.len]; exact hl
      have H7 := Lib.hid (And.intro hlp (And.intro hsome (And.intro hse3 hnl)))
      clear hm7 hF7 hE7 hI7 hse hse3 hsome hlp hMX hnl H6 HI hst HMM
      go_wp2_with fail
      go_loopw [48] (fun v wr => ∃ i : Nat, i ≤ nl ∧ v = .int .i64 i ∧ ∃ O1, LpG (T i) O w wr A B (.slice ca csX.length ccap) fv (.slice ra ro.length rcap) csX fr ro live O1) (fun v _ => nl - (intOf v).toNat)
      case atStart => exact ⟨0, by omega, rfl, O7, H7.out.1⟩
      case round =>
        obtain ⟨i, hin, rfl, O1, hL⟩ := hrel
        by_cases hlt : i < nl
        · have L1 : decide ((i : Int) < (nl : Int)) = true := by rw [decide_eq_true_eq]; omega
          obtain ⟨gc, rfl⟩ := hca (by omega)
          have z0 : (0 : Int) ≤ i := by omega
          have z1 : (i : Int) < nl := by omega
          have z2 : (i : Int).toNat = i := by omega
          have a1 : IntKind.i64.wrap ((i : Int) + 1) = ((i + 1 : Nat) : Int) := by rw [IntWalk.i64_in _ (by omega)]; rfl
          have hil : i < csX.length := by rw [H7.out.2.2.2]; exact hlt
          have x0 : wr.cell? ⟨A, 0, none⟩ = some (.slice (some ⟨gc, 0, none⟩) nl ccap) := by rw [hL.ar.blk.cell, H7.out.2.2.2]; rfl
          have hg := clCells_get csX i hil
          have c0 := (hL.ar.cells.cellAt (i * 2) (show i * 2 < csX.length * 2 by omega)).trans hg.1
          have c1 := (hL.ar.cells.cellAt (i * 2 + 1) (show i * 2 + 1 < csX.length * 2 by omega)).trans hg.2
          obtain ⟨⟨ob, mk⟩, hc⟩ : ∃ c, csX.getD i (none, false) = c := ⟨_, rfl⟩
          rw [hc] at c0 c1
          dsimp only at c0 c1
          have HL := Lib.hid hL
          have HC := Lib.hid hc
          clear hg hL hc
          cases mk with
          | false =>
            have hsk : LpG (T (i + 1)) O w wr A B (.slice (some ⟨gc, 0, none⟩) csX.length ccap) fv (.slice ra ro.length rcap) csX fr ro live O1 := HL.out.step (Upd.refl _ _) (HH.out.2.2.1.skip HL.out.t (fun N e => by rw [HC.out] at e; cases e)) (fun k hk => .inl hk)
            have HSK := Lib.hid hsk
            clear hsk
            go_wp2_with fail
            go_roundw
            case rel => exact ⟨i + 1, by omega, by first | rfl | rw [Int.natCast_add], O1, HSK.out⟩
            case measure => simp only [intOf]; omega
          | true =>
            obtain ⟨N, hNb⟩ := H7.out.2.1 i (by rw [HC.out])
            rw [HC.out] at hNb
            dsimp only at hNb
            subst hNb
            simp only [bodyV] at c0
            have hNt := hX.typ N (HH.out.2.1 i N (by rw [← H7.out.2.2.1.body i, HC.out]))
            have hpr := pairs_of N hNt
            have hwk := weak_of N hNt
            clear hNt
            by_cases hto : N.1 = tObj
            · have q3 : ∀ (v : Value) (w : World), (Instr.typeAssert (.iface N.1 v) 90 108 true).run Tryd.prog w = .ok (.tuple #[.iface N.1 v, .bool true]) w := fun v w => by rw [hpr, if_pos hto, decide_eq_true hto]
              have q4 : ∀ (v : Value) (w : World), (Instr.typeAssert (.iface N.1 v) 90 111 true).run Tryd.prog w = .ok (.tuple #[.iface N.1 v, .bool true]) w := fun v w => by rw [hwk, if_pos hto, decide_eq_true hto]
              have q1 := methodDrop _ hto
              have q2 := methodClear _ hto
              have hdrop := HH.out.2.2.1.drop HC.out hto HL.out.t (HL.out.dead (by rw [H7.out.2.2.2]; omega))
              have HTO := Lib.hid hto
              clear hpr hwk hto
              go_wp2_with fail
              refine hdrop.mono ?_
              rintro e W8 ⟨⟨v8, rfl⟩, u8, O8, hU8, hn8⟩
              have hL8 := HL.out.step (T' := U i) u8 hU8 hn8
              have x8 : W8.cell? ⟨A, 0, none⟩ = some (.slice (some ⟨gc, 0, none⟩) nl ccap) := by rw [hL8.ar.blk.cell, H7.out.2.2.2]; rfl
              have c8 := (hL8.ar.cells.cellAt (i * 2) (show i * 2 < csX.length * 2 by omega)).trans (clCells_get csX i hil).1
              rw [HC.out] at c8
              simp only [bodyV] at c8
              have hclear := HH.out.2.2.1.clear HC.out HTO.out hU8 (hL8.dead (by rw [H7.out.2.2.2]; omega))
              have H8 := Lib.hid hL8
              clear hL8 u8 hU8 hn8 hdrop c0 c1 x0
              go_wp2_with fail
              refine hclear.mono ?_
              rintro e W9 ⟨⟨v9, rfl⟩, u9, O9, hT9, hn9⟩
              have H9 := Lib.hid (H8.out.step (T' := T (i + 1)) u9 hT9 hn9)
              clear u9 hT9 hn9 hclear c8 x8
              go_wp2_with fail
              go_roundw
              case rel => exact ⟨i + 1, by omega, by first | rfl | rw [Int.natCast_add], O9, H9.out⟩
              case measure => simp only [intOf]; omega
            · have q3 : ∀ (v : Value) (w : World), (Instr.typeAssert (.iface N.1 v) 90 108 true).run Tryd.prog w = .ok (.tuple #[.nilIface, .bool false]) w := fun v w => by rw [hpr, if_neg hto, decide_eq_false hto]
              have q4 : ∀ (v : Value) (w : World), (Instr.typeAssert (.iface N.1 v) 90 111 true).run Tryd.prog w = .ok (.tuple #[.nilIface, .bool false]) w := fun v w => by rw [hwk, if_neg hto, decide_eq_false hto]
              have hsk : LpG (T (i + 1)) O w wr A B (.slice (some ⟨gc, 0, none⟩) csX.length ccap) fv (.slice ra ro.length rcap) csX fr ro live O1 := HL.out.step (Upd.refl _ _) (HH.out.2.2.1.skip HL.out.t (fun N' e => by rw [HC.out] at e; cases e; exact hto)) (fun k hk => .inl hk)
              have HSK := Lib.hid hsk
              clear hsk hpr hwk hto
              go_wp2_with fail
              go_roundw
              case rel => exact ⟨i + 1, by omega, by first | rfl | rw [Int.natCast_add], O1, HSK.out⟩
              case measure => simp only [intOf]; omega
        · obtain rfl : i = nl := by omega
          have L1 : decide ((i : Int) < (i : Int)) = false := by simp
          have hTn : T csX.length O1 wr := by rw [H7.out.2.2.2]; exact hL.t
          have hsw := sweep_g (S := T csX.length O1) (O := O1) hL.ar hTn ⟨fun a b c => HH.out.2.2.1.keepT a b c, fun k hk => HH.out.2.2.1.ltT hL.t hk, hL.far.a, hL.far.c, hL.far.f, hL.far.r⟩ (fun N hNM => by
              obtain ⟨j, hj⟩ := of_bodies hNM
              have hb := HH.out.2.1 j N (by rw [← H7.out.2.2.1.body j]; exact hj)
              exact ⟨hX.typ N hb, fun ht W hW => HH.out.2.2.1.gone N hb ht O1 W hW⟩) (by rw [H7.out.2.2.2]; omega) (by omega) hlv (Nat.le_trans hB hL.upd.size)
          have HL := Lib.hid hL
          clear hL hTn
          go_wp2_with fail
          refine hsw.mono ?_
          rintro e W9 ⟨vg, fv', rfl, hvg, har, ht9, hu9, hf9, hv9⟩
          have hX9 : ColP (T csX.length) O w A B (.slice ca csX.length ccap) fv (.slice ra ro.length rcap) csX fr ro live (.returned vg) W9 := by
            refine ⟨vg, fv', O1, rfl, har, ht9, HL.out.new, ⟨HL.out.far.a, HL.out.far.c, fun g hg hk => ?_, HL.out.far.r⟩, (HL.out.upd.mono fun k _ e => ?_).trans (hu9.mono fun k _ e => ?_), fun g hg => (hf9 g hg).imp id (fun e => Nat.le_trans HL.out.upd.size e)⟩
            · rcases hf9 g hg with e | e
              · exact HL.out.far.f g e hk
              · have := HH.out.2.2.1.ltT HL.out.t hk; omega
            · rcases e with e | e | e
              · exact .inr (.inl e)
              · exact .inr (.inr (.inr (.inr e)))
              · exact .inr (.inr (.inr (.inl e)))
            · rcases e with e | e | e | e
              · exact .inl e
              · exact .inr (.inl e)
              · exact .inr (.inr (.inl e))
              · exact .inr (.inr (.inr (.inr (Nat.le_trans HL.out.upd.size e))))
          have HX := Lib.hid hX9
          clear hvg har ht9 hu9 hf9 hv9 hX9
          go_wp2
          exact bodyPost_ret (v := vg) (by simp [results, Tryd.results27, go_sem]) rfl HX.out
end Go.Proofs.YtmimnaaofpkndaaDoor.Hp
