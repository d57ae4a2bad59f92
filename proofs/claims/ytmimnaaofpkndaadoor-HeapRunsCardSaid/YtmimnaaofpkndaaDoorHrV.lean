/- HrV: several texts in one. -/
import Derived.Test.YtmimnaaofpkndaaDoorRgs
import Derived.Test.YtmimnaaofpkndaaDoorHpF
import Derived.Test.YtmimnaaofpkndaaDoorOtAl
import Derived.Test.YtmimnaaofpkndaaDoorHrN
import Derived.Laws.CopyOwn
/- HeapRuns: a table's All as an iterator (as HqH, on fewer texts). -/
set_option linter.unusedVariables false
set_option linter.unusedSimpArgs false
namespace Go.Proofs.YtmimnaaofpkndaaDoor.Hp
open Go.RowKit Go.Proofs.YtmimnaaofpkndaaDoor Go.Shelf
attribute [local go_sem] Oper.semAt_some
set_option maxRecDepth 100000 in
set_option maxHeartbeats 4000000 in
theorem all_b (n : Nat) (hn : 1 ≤ n) (l T : Nat) (A : List Ent) (D : List (Nat × Nat)) (O0 : Nat → Prop) (stop : Prop) (W : World) (b : Nat) (hb : Blk W b 44 #[.pointer (some ⟨T, 0, none⟩)]) (h : TabA W T A D O0) (hA : A.length ≤ 5000) (hD : D.length ≤ 99999) :
    SeqB Fence.wide n Tryd.prog 77 #[.func (.yield l) #[] #[], .pointer (some ⟨b, 0, none⟩)] l (fun x : Ent => #[VK x.key, VK x.val]) A O0 (AllFin T A D) stop W := by
  intro J Jx hJ hJx hst hJg hY h0
  refine callsIn_of_wp_defers Tryd.func77 rfl trivial ?_ rfl
  simp only [Tryd.ntmps77, List.size_toArray, List.length_cons, List.length_nil, Nat.reduceAdd, Nat.reduceSub, Array.replicate_succ, Array.replicate_zero, List.push_toArray, List.append_toArray, List.nil_append, List.cons_append]
  have x0 : W.cell? ⟨b, 0, none⟩ = some (.pointer (some ⟨T, 0, none⟩)) := by rw [hb.cell]; rfl
  have HJ := Lib.hid hJ
  have HJX := Lib.hid hJx
  have HY := Lib.hid hY
  have H0 := Lib.hid h0
  clear hJ hJx hY h0
  gi_wp2_with (refine ⟨trivial, ?_⟩; gi_at_call 78; refine (callsIn_wide.2 (cursor_any T A D O0 _ h (by omega))).mono ?_; rintro e w' ⟨rfl, hT, u1, hsz⟩)
  have hO1 : ∀ k, Og O0 W w' k → O0 k ∨ W.heap.size ≤ k := fun k hk => hk.imp id And.left
  have hJ0 := H0.out _ w' u1 hO1 (fun k hk => hk.elim (fun e => Nat.lt_of_lt_of_le (h.lt k e) u1.size) (fun e => e.2))
  have hc0 : Og O0 W w' W.heap.size := .inr ⟨Nat.le_refl _, hsz⟩
  obtain ⟨O1, hO1e⟩ : ∃ O1, Og O0 W w' = O1 := ⟨_, rfl⟩
  rw [hO1e] at hT hJ0 hc0
  have HO := Lib.hid hO1e
  generalize hc : W.heap.size = c at *
  clear hO1 hO1e
  have hcD : ∀ x ∈ D, x.1 ≠ c := fun x hx e => by
    obtain ⟨lv, sv, cv, es, sl, cs, hs, _, rfl⟩ := h
    obtain ⟨y, hy, rfl⟩ := List.mem_map.1 hx
    have h1 := hs.tab.oLt _ (hs.tab.oc y hy)
    have h2 : y.1 = c := e
    omega
  gi_wp2_with (fail)
  suffices key : ∀ (m k : Nat) (t : Nat → Value) (W2 : World), A.length - k = m → k ≤ A.length → J O1 (A.take k) W2 → TabA W2 T A (D ++ [(c, k)]) O1 → Upd W W2 (fun _ => True) → Code.roundsIn Fence.wide n Tryd.prog _ _ (m + 1) ⟨#[.func (.yield l) #[] #[], .pointer (some ⟨b, 0, none⟩), t 2, .pointer (some ⟨c, 0, none⟩), t 4, t 5, t 6, t 7, t 8, t 9, t 10, t 11, t 12, t 13, t 14, t 15, t 16, t 17, t 18, t 19, t 20, t 21, t 22, t 23, t 24, t 25, t 26], [closeD c]⟩ W2 by
    refine wpIn_loop_rounds (A.length + 1) ?_
    apply tmps26
    intro t ht
    rw [show (_ : Act) = _ from ht]
    exact key A.length 0 t w' (by omega) (by omega) hJ0 hT (u1.mono fun _ _ _ => trivial)
  intro m
  induction m with
  | zero =>
    intro k t W2 hm hk hJk hTk u2
    obtain rfl : k = A.length := by omega
    have HC := Lib.hid (next_over hTk hA hD hcD (by rw [List.getElem?_eq_none (Nat.le_refl _)]))
    have hl2 := fun k => hTk.lt k
    rw [List.take_length] at hJk
    clear hTk
    rw [roundsIn_succ]
    gi_wp2_with (refine ⟨trivial, ?_⟩; gi_at_call 80; refine (callsIn_wide.2 HC.out).mono ?_; rintro e W3 ⟨rfl, ⟨hF3, ac, hb3⟩, u3⟩)
    refine ⟨fun _ _ => trivial, ?_⟩
    gi_wp2_with (fail)
    have hn3 : ∀ k, O1 k → k < W3.heap.size := fun k hk => Nat.lt_of_lt_of_le (hl2 k hk) u3.size
    have u4 : Upd W3 ((W3.alloc (.cells #[.int .i64 0, .int .i64 0, .string ⟨#[]⟩] 34)).alloc (.cells #[.int .i64 0, .int .i64 0, .string ⟨#[]⟩] 34)) (fun _ => False) := ((Upd.refl _ _).alloc _).alloc _
    have hF4 := hF3.upd u4 (fun _ _ h => h)
    have hb4 := u4.blk hb3 (fun h => h)
    have hJ4 := HJ.out _ _ _ _ hJk (u3.trans (u4.mono fun _ _ h => h.elim))
    refine leavesIn_cons (f := 79) (args := #[.pointer (some ⟨c, 0, none⟩)]) (by simp) (by simp [Fence.wide]) (by simp [go_sem, invoke]) (fun _ _ => trivial) ?_
    refine (close_shut_d _ .returning c ac _ hb4).mono ?_
    rintro e u' w6 ⟨rfl, rfl, rfl⟩
    exact ⟨_, results_none rfl _ _ _, ⟨_, rfl⟩, O1, hF4, .inl hJ4⟩
  | succ m ih =>
    intro k t W2 hm hk hJk hTk u2
    have hlt : k < A.length := by omega
    obtain ⟨x, hx⟩ : ∃ x, A[k]? = some x := ⟨_, List.getElem?_eq_getElem hlt⟩
    have HC := Lib.hid (next_here hTk hA hD hcD x hx)
    have htk : A.take (k + 1) = A.take k ++ [x] := by
      have := List.take_succ_eq_append_getElem hlt
      rw [this, ← (List.getElem?_eq_some_iff.1 hx).2]
    have hpre : (A.take k ++ [x]) <+: A := by rw [← htk]; exact List.take_prefix _ _
    have HT := Lib.hid htk
    have HJ2 := Lib.hid (fun W4 (u : Upd W2 W4 O1) => HY.out O1 (A.take k) x W4 (HJ.out _ _ _ _ hJk u) hpre)
    have IH := Lib.hid ih
    clear hTk htk hpre ih
    rw [roundsIn_succ]
    gi_wp2_with (refine ⟨trivial, ?_⟩; gi_at_call 80; refine (callsIn_wide.2 HC.out).mono ?_; rintro e W3 ⟨rfl, hT3, u3⟩; have hy0 := HJ2.out ((W3.alloc (.cells #[.int .i64 x.key.1, .int .i64 x.key.2.1, .string x.key.2.2] 34)).alloc (.cells #[.int .i64 x.val.1, .int .i64 x.val.2.1, .string x.val.2.2] 34)) ((u3.alloc _).alloc _); obtain ⟨fn, tmps, assign, body, hy, hR⟩ := hy0; dsimp only [VK] at hy)
    refine hR.mono ?_
    rintro e W5 ⟨u5, hor⟩
    have hT5 := (hT3.upd ((Upd.refl W3 (fun _ => False)).alloc _ |>.alloc _) (fun _ _ h => h)).upd u5 (fun k hk h => h hk)
    rcases hor with ⟨rfl, _, hJ5⟩ | ⟨rfl, hJ5⟩
    · gi_wp2_with (fail)
      apply tmps26
      intro t' ht'
      rw [show (_ : Act) = _ from ht']
      exact IH.out (k + 1) t' W5 (by omega) (by omega) (by rw [HT.out]; exact hJ5) hT5 ((((u2.trans (u3.mono fun _ _ _ => trivial)).alloc _).alloc _).trans (u5.mono fun _ _ _ => trivial))
    · gi_wp2_with (fail)
      refine leavesIn_cons (f := 79) (args := #[.pointer (some ⟨c, 0, none⟩)]) (by simp) (by simp [Fence.wide]) (by simp [go_sem, invoke]) (fun _ _ => trivial) ?_
      refine (close_d _ .returning c T A _ O1 W5 hT5 (c, k + 1) (by simp) rfl (by simp; omega)).mono ?_
      rintro e u' w6 ⟨rfl, rfl, ⟨D', h3, h4, h5⟩, _, u6⟩
      exact ⟨_, results_none rfl _ _ _, ⟨_, rfl⟩, O1, fin_of hcD h3 h4 h5, .inr ⟨_, HJX.out _ _ _ _ hJ5 u6⟩⟩
end Go.Proofs.YtmimnaaofpkndaaDoor.Hp

/- HeapRuns: keys collected while a table is ranged over: the state, its steps; copy of a row of wide elements onto itself. -/
set_option linter.unusedVariables false
set_option linter.unusedSimpArgs false
namespace Go.Proofs.YtmimnaaofpkndaaDoor.Hp
open Go.RowKit Go.Proofs.YtmimnaaofpkndaaDoor Go.Shelf Go.Sort
attribute [local go_sem] Oper.semAt_some
/-- copy of elements of any size. -/
theorem run_copy_wide {P : Program} (w : World) (dT sT ty elem : TypeId) (g o dLen dCap : Nat) (a : Addr) (sLen sCap : Nat) (cur : Array Value) (t : TypeId) (cs : List Value) (size : Nat)
    (hu : P.underlying dT = some (.slice elem)) (hs : (P.info? elem).map (·.size) = some size) (hg : w.heap[g]? = some (.cells cur t (0, 0))) (hn : cs.length = Nat.min sLen dLen * size)
    (hsrc : ∀ j v, cs[j]? = some v → w.cell? (a.add j) = some v) (hfit : o + cs.length ≤ cur.size) (h1 : ∀ v ∈ cs, v.oneCell' = true) :
    (Builtin.copy_ #[dT, sT] ty #[.slice (some ⟨g, o, none⟩) dLen dCap, .slice (some a) sLen sCap]).run P w =
      .ok (goInt (Nat.min sLen dLen : Nat)) (w.setRow g (cur.toList.take o ++ cs ++ cur.toList.drop (o + cs.length)).toArray) := by
  have hl := run_loadCells_list (P := P) w a cs hsrc
  have hst := run_storeCells_at P g o t cs 0 cur w hg (by simpa using hfit) h1
  cases hq : P.info? elem with
  | none => simp [hq] at hs
  | some i =>
    have hi : i.size = size := by simpa [hq] using hs
    simp [Builtin.copy_, run_underlying hu, Builtin.lenOf, Builtin.firstCells, sizeOf, typeInfo, hq, hi, ← hn, hl, hst]
theorem run_copy_zero {P : Program} (w : World) (dT sT ty elem : TypeId) (d a : Option Addr) (dLen dCap sLen sCap size : Nat) (hu : P.underlying dT = some (.slice elem)) (hs : (P.info? elem).map (·.size) = some size) (hn : Nat.min sLen dLen = 0) :
    (Builtin.copy_ #[dT, sT] ty #[.slice d dLen dCap, .slice a sLen sCap]).run P w = .ok (goInt 0) w := by
  cases hq : P.info? elem with
  | none => simp [hq] at hs
  | some i =>
    have hl : ∀ (x : Addr), (loadCells x 0).run P w = .ok #[] w := fun x => by simpa using run_loadCells_list (P := P) w x [] (by simp)
    cases d <;> cases a <;> simp [Builtin.copy_, run_underlying hu, Builtin.lenOf, Builtin.firstCells, sizeOf, typeInfo, hq, hn, storeCells, hl]
theorem add_atv (g x j : Nat) : (⟨g, x, none⟩ : Addr).add j = ⟨g, x + j, none⟩ := by
  unfold Addr.add
  split
  · rename_i h; subst h; rfl
  · rfl
/-- The elements from k on, one place up: copy(l[k+1:], l[k:]). -/
def upL (L : List K3) (k : Nat) : List K3 := L.take (k + 1) ++ (L.drop k).take (L.length - (k + 1))
theorem upL_len (L : List K3) (k : Nat) (hk : k < L.length) : (upL L k).length = L.length := by unfold upL; simp; omega
theorem valsC_drop (L : List K3) (i : Nat) : valsC (L.drop i) = (valsC L).drop (i * 3) := by
  induction L generalizing i with
  | nil => simp [valsC]
  | cons x l ih =>
    cases i with
    | zero => simp [valsC]
    | succ i =>
      have h : valsC (x :: l) = [.int .i64 x.1, .int .i64 x.2.1, .string x.2.2] ++ valsC l := by simp [valsC]
      rw [h, List.drop_succ_cons, ih, Nat.succ_mul, Nat.add_comm, List.drop_append]
      simp
theorem valsC_one (L : List K3) : ∀ u ∈ valsC L, u.oneCell' = true := by
  intro u hu
  obtain ⟨x, _, hx⟩ := List.mem_flatMap.1 hu
  simp at hx
  rcases hx with rfl | rfl | rfl <;> rfl
/-- copy within a fence, a row one place up. -/
theorem wpListIn_copy_up {F : Fence} {n' : Nat} {P : Program} {w : World} {ops : Array Oper} {rest : List Oper} {o : Oper} {a : Act} {Q : Exit → Act → World → Prop} (hgd : o.guard = none) (d s : Operand) (t : TypeId)
    (ho : o.op = .call { callee := .builtin .copy, args := #[d, s], argTypes := #[t, t] }) (base : Nat) (e : TypeId) (ht : P.underlying t = some (.slice e)) (hi : (P.info? e).map (·.size) = some 3)
    (g n cap : Nat) (L : List K3) (hown : w.ownsRow base e 3 (.slice (some ⟨g, 0, none⟩) n cap) n (valsC L)) (k : Nat) (hk : k < n) (hL : L.length = n)
    (dp sp : Option Addr) (dLen sLen dCap sCap : Nat) (hd : a.eval d = .slice dp dLen dCap) (hs : a.eval s = .slice sp sLen sCap) (hdl : dLen = n - (k + 1)) (hsl : sLen = n - k)
    (hp : k + 1 < n → dp = some ⟨g, (k + 1) * 3, none⟩ ∧ sp = some ⟨g, k * 3, none⟩)
    (h : ∀ w', w'.ownsRow base e 3 (.slice (some ⟨g, 0, none⟩) n cap) n (valsC (upL L k)) → Upd w w' (fun j => j = g) → wpListIn F n' P ops Q rest (a.put o.dst (goInt (n - (k + 1) : Nat))) w') :
    wpListIn F n' P ops Q (o :: rest) a w := by
  subst hdl hsl hL
  have hown2 := hown
  obtain ⟨hxl, hor⟩ := hown
  rcases hor with ⟨-, h0⟩ | ⟨g', cap', cur, hv, hb, hg, hnc, hcm, hcs, htk⟩
  · omega
  injection hv with hv1 _ hv3
  injection hv1 with hv1
  injection hv1 with hv1
  subst hv1 hv3
  have hmin : Nat.min (L.length - k) (L.length - (k + 1)) = L.length - (k + 1) := by
    exact Nat.min_eq_right (by omega)
  refine wpListIn_plain hgd fun K hK' => ?_
  have fin : ∀ w', (Builtin.copy_ #[t, t] o.type #[.slice dp (L.length - (k + 1)) dCap, .slice sp (L.length - k) sCap]).run P w = .ok (goInt (L.length - (k + 1) : Nat)) w' → w'.ownsRow base e 3 (.slice (some ⟨g, 0, none⟩) L.length cap) L.length (valsC (upL L k)) → Upd w w' (fun j => j = g) → o.wpIn F n' P a w K Q := by
    intro w' hrun h1 h2
    unfold Oper.wpIn
    refine ⟨?_, ?_⟩
    · simp [Oper.about, ho, resolve, Target.leads, Sem.run_pure]
    · rw [Oper.semAt_plain F _ _ (by rw [ho]; intro c hc'; cases hc')]
      simp [execOp, ho, resolve, invoke, builtin, hd, hs, hrun, Result.andThen]
      exact hK' _ _ (h w' h1 h2)
  by_cases hlt : k + 1 < L.length
  · obtain ⟨rfl, rfl⟩ := hp hlt
    have hcl : (valsC ((L.drop k).take (L.length - (k + 1)))).length = (L.length - (k + 1)) * 3 := by
      rw [valsC_length, List.length_take, List.length_drop]
      congr 1; omega
    have hsz : (k + 1) * 3 + (L.length - (k + 1)) * 3 = L.length * 3 := by omega
    have hsrc : ∀ j v, (valsC ((L.drop k).take (L.length - (k + 1))))[j]? = some v → w.cell? ((⟨g, k * 3, none⟩ : Addr).add j) = some v := by
      intro j v hj
      have hjl : j < (L.length - (k + 1)) * 3 := by rw [← hcl]; exact (List.getElem?_eq_some_iff.1 hj).1
      rw [← valsC_take, valsC_drop, List.getElem?_take_of_lt hjl, List.getElem?_drop] at hj
      have hadd : (⟨g, k * 3, none⟩ : Addr).add j = ⟨g, k * 3 + j, none⟩ := add_atv g (k * 3) j
      rw [hadd]
      exact (hown2.cellAt (k * 3 + j) (by omega)).trans hj
    have hrun := run_copy_wide (P := P) w t t o.type e g ((k + 1) * 3) (L.length - (k + 1)) dCap ⟨g, k * 3, none⟩ (L.length - k) sCap cur e _ 3 ht hi hg (by rw [hcl, hmin]) hsrc (by rw [hcl, hcs]; have := Nat.mul_le_mul_right 3 hnc; omega) (valsC_one _)
    rw [hmin] at hrun
    refine fin _ hrun ⟨?_, .inr ⟨g, cap, _, rfl, hb, setRow_heap w g cur _ e _ hg, hnc, hcm, ?_, ?_⟩⟩ ⟨rfl, rfl, rfl, by simp [World.setRow], fun j hj hne => setRow_other w g j _ hne⟩
    · rw [valsC_length, upL_len L k (by omega)]
    · have hc2 : cur.toList.length = cap * 3 := by simpa using hcs
      have := Nat.mul_le_mul_right 3 hnc
      simp [hcl, hc2]
      omega
    · have hc2 : cur.toList.length = cap * 3 := by simpa using hcs
      have h3 := Nat.mul_le_mul_right 3 hnc
      have e1 : cur.toList.take ((k + 1) * 3) = valsC (L.take (k + 1)) := by
        rw [← valsC_take, ← htk, List.take_take, Nat.min_eq_left (by omega)]
      rw [hcl, hsz, e1]
      have e2 : (valsC (L.take (k + 1)) ++ valsC ((L.drop k).take (L.length - (k + 1)))).length = L.length * 3 := by
        rw [List.length_append, hcl, valsC_length, List.length_take, Nat.min_eq_left (by omega)]
        exact hsz
      unfold upL
      rw [valsC_append, List.take_append_of_le_length (by rw [e2]; exact Nat.le_refl _), List.take_of_length_le (by rw [e2]; exact Nat.le_refl _)]
  · have h0 : L.length - (k + 1) = 0 := by omega
    have hrun := run_copy_zero (P := P) w t t o.type e dp sp (L.length - (k + 1)) dCap (L.length - k) sCap 3 ht hi (by rw [hmin]; exact h0)
    have hup : upL L k = L := by
      unfold upL
      rw [h0, List.take_zero, List.append_nil, List.take_of_length_le (by omega)]
    refine fin w (by rw [hrun, h0]; rfl) (by rw [hup]; exact hown2) (Upd.refl _ _)
theorem upL_set (L : List K3) (k : Nat) (x : K3) (hk : k ≤ L.length) : (upL (L ++ [z3]) k).set k x = L.take k ++ x :: L.drop k := by
  unfold upL
  have e0 : (L ++ [z3]).length - (k + 1) = L.length - k := by simp
  have e1 : ((L ++ [z3]).drop k).take (L.length - k) = L.drop k := by
    rw [List.drop_append_of_le_length hk, List.take_append_of_le_length (by rw [List.length_drop]; exact Nat.le_refl _), List.take_of_length_le (by rw [List.length_drop]; exact Nat.le_refl _)]
  have hl : k < (L ++ [z3]).length := by rw [List.length_append, List.length_singleton]; omega
  rw [e0, e1, List.take_succ_eq_append_getElem hl, List.take_append_of_le_length hk, List.append_assoc, List.set_append_right _ _ (by rw [List.length_take]; omega), List.length_take, Nat.min_eq_left hk, Nat.sub_self]
  rfl
/-- append within a fence, and where the new row lies. -/
theorem wpListIn_more {F : Fence} {n' : Nat} {P : Program} {w : World} {ops : Array Oper} {rest : List Oper} {o : Oper} {a : Act} {Q : Exit → Act → World → Prop} (hgd : o.guard = none) (s x : Operand) (t : TypeId)
    (ho : o.op = .call { callee := .builtin .append, args := #[s, x], argTypes := #[t, t] })
    (base : Nat) (e : TypeId) (i : TypeInfo) (z : Value) (size bytes : Nat) (ht : P.underlying t = some (.slice e)) (hi : P.info? e = some i) (hz : i.zero = some z)
    (hsize : i.size = size) (hby : i.bytes = bytes) (hzs : z.cells.size = size) (hsz : 0 < size)
    (v : Value) (n : Nat) (xs : List Value) (hs : a.eval s = v) (hown : w.ownsRow base e size v n xs)
    (ad : Addr) (m c : Nat) (news : List Value) (hx : a.eval x = .slice (some ad) m c) (hl : news.length = m * size) (hnews : ∀ j u, news[j]? = some u → w.cell? (ad.add j) = some u) (h1 : ∀ u ∈ news, u.oneCell' = true)
    (hm : 0 < m) (h63 : n + m ≤ maxLen) (hbytes : (n + m) * bytes ≤ 140737488355328) (hbase : base ≤ w.heap.size) (H : Nat) (hH : w.heap.size = H)
    (h : ∀ g cap w', w'.ownsRow base e size (.slice (some ⟨g, 0, none⟩) (n + m) cap) (n + m) (xs ++ news) → w.grownBy w' v.ownBlock → (v.ownBlock = some g ∨ g = H) → g < w'.heap.size → wpListIn F n' P ops Q rest (a.put o.dst (.slice (some ⟨g, 0, none⟩) (n + m) cap)) w') : wpListIn F n' P ops Q (o :: rest) a w := by
  refine wpListIn_plain hgd fun K hK' => ?_
  obtain ⟨g, cap, w', hrun, r1, r2, r3, r4⟩ := run_append_lies (P := P) w t o.type base e i z size bytes ht hi hz hsize hby hzs hsz v n xs hown ad m c news hl hnews h1 hm h63 hbytes hbase H hH
  unfold Oper.wpIn
  refine ⟨?_, ?_⟩
  · simp [Oper.about, ho, resolve, Target.leads, Sem.run_pure]
  · rw [Oper.semAt_plain F _ _ (by rw [ho]; intro c hc'; cases hc')]
    simp [execOp, ho, resolve, invoke, builtin, hs, hx, hrun, Result.andThen]
    exact hK' _ _ (h g cap w' r1 r2 r3 r4)
/-- While a table is ranged over: the box of the list of keys, the list; blocks that only lie there. -/
structure Coll (w : World) (S0 L : Nat) (Bs : List (Nat × TypeId × Array Value)) (Ow : Nat → Prop) (lv : Value) (ks : List K3) (O1 : Nat → Prop) (W : World) : Prop where
  box : Blk W L 45 #[lv]
  row : W.ownsRow w.heap.size 34 3 lv ks.length (valsC ks)
  nr : ∀ g, lv.ownBlock = some g → ¬ O1 g
  bs : ∀ x ∈ Bs, Blk W x.1 x.2.1 x.2.2 ∧ ¬ O1 x.1
  bt : ∀ x ∈ Bs, 34 ≠ x.2.1 ∧ x.1 ≠ L
  upd : Upd w W Ow
  o : ∀ k, O1 k → Ow k ∨ w.heap.size ≤ k
  lt : ∀ k, O1 k → k < W.heap.size
  nL : ¬ O1 L
  z : S0 ≤ W.heap.size
  hL : w.heap.size ≤ L
section
variable {w W W' : World} {S0 L : Nat} {Bs : List (Nat × TypeId × Array Value)} {Ow O1 O1' : Nat → Prop} {lv : Value} {ks ks' : List K3}
theorem Coll.turn (h : Coll w S0 L Bs Ow lv ks O1 W) (u : Upd W W' O1) (h2 : ∀ k, O1' k → O1 k ∨ W.heap.size ≤ k) (h3 : ∀ k, O1' k → k < W'.heap.size) : Coll w S0 L Bs Ow lv ks O1' W' := by
  have n : ∀ k, k < W.heap.size → ¬ O1 k → ¬ O1' k := fun k hk hn e => (h2 k e).elim hn (fun e => by omega)
  have hz := h.upd.size
  exact ⟨u.blk h.box h.nL, u.own h.row h.nr, fun g hg => n g (h.row.lt g hg).2 (h.nr g hg), fun x hx => ⟨u.blk (h.bs x hx).1 (h.bs x hx).2, n _ (h.bs x hx).1.lt (h.bs x hx).2⟩, h.bt, Upd.join h.upd (u.mono fun k _ e => h.o k e), fun k hk => (h2 k hk).elim (h.o k) (fun e => .inr (by omega)), h3, n _ h.box.lt h.nL, Nat.le_trans h.z u.size, h.hL⟩
theorem Coll.below (h : Coll w S0 L Bs Ow lv ks O1 W) (b : Below W.heap.size W W') : Coll w S0 L Bs Ow lv ks O1 W' := h.turn (Upd.of_below_all b) (fun _ hk => .inl hk) (fun k hk => Nat.lt_of_lt_of_le (h.lt k hk) b.size)
theorem Coll.put (h : Coll w S0 L Bs Ow lv ks O1 W) {l : Nat} {o : Obj} (o' : Obj) (hl : W.heap[l]? = some o) (ho : o.isCells = false) (hlw : w.heap.size ≤ l) : Coll w S0 L Bs Ow lv ks O1 (W.putObj l o') := by
  have u := Upd.put W l o'
  have nb : ∀ {g : Nat} {t : TypeId} {xs : Array Value}, Blk W g t xs → ¬ g = l := fun hb e => by subst e; rw [show W.heap[_]? = _ from hb] at hl; cases hl; cases ho
  refine ⟨u.blk h.box (nb h.box), u.own h.row (fun g hg e => ?_), h.nr, fun x hx => ⟨u.blk (h.bs x hx).1 (nb (h.bs x hx).1), (h.bs x hx).2⟩, h.bt, Upd.join h.upd (u.mono fun k _ e => .inr (e ▸ hlw)), h.o, fun k hk => Nat.lt_of_lt_of_le (h.lt k hk) u.size, h.nL, Nat.le_trans h.z u.size, h.hL⟩
  subst e
  obtain ⟨c, f, h1⟩ := own_kind h.row _ hg
  rw [h1] at hl; cases hl; cases ho
/-- The list's row turns, its place stays. -/
theorem Coll.edit {g n cap : Nat} (h : Coll w S0 L Bs Ow (.slice (some ⟨g, 0, none⟩) n cap) ks O1 W) (u : Upd W W' (fun k => k = g)) (hr : W'.ownsRow w.heap.size 34 3 (.slice (some ⟨g, 0, none⟩) n cap) ks'.length (valsC ks')) : Coll w S0 L Bs Ow (.slice (some ⟨g, 0, none⟩) n cap) ks' O1 W' ∧ Upd W W' (fun k => ¬ O1 k) ∧ KeepsOthers W W' := by
  have hg : (Value.slice (some ⟨g, 0, none⟩) n cap).ownBlock = some g := rfl
  have hgw := (h.row.lt g hg).1
  have hgL : L ≠ g := fun e => own_blk_ne h.row h.box (by decide) (by rw [e]; rfl)
  refine ⟨⟨u.blk h.box hgL, hr, h.nr, fun x hx => ⟨u.blk (h.bs x hx).1 (fun e => own_blk_ne h.row (h.bs x hx).1 (h.bt x hx).1 (by rw [e]; rfl)), (h.bs x hx).2⟩, h.bt, Upd.join h.upd (u.mono fun k _ e => .inr (by rw [e]; exact hgw)), h.o, fun k hk => Nat.lt_of_lt_of_le (h.lt k hk) u.size, h.nL, Nat.le_trans h.z u.size, h.hL⟩, u.mono fun k _ e => (by rw [e]; exact h.nr g hg), KeepsOthers.of_upd u fun k o hk ho => ?_⟩
  subst hk
  obtain ⟨c, f, h1⟩ := own_kind h.row _ hg
  rw [h1] at ho; cases ho; rfl
/-- An element of the list is set. -/
theorem Coll.setE {g n cap i : Nat} (v : K3) (h : Coll w S0 L Bs Ow (.slice (some ⟨g, 0, none⟩) n cap) ks O1 W) (hn : ks.length = n) (hi : i < n) :
    Coll w S0 L Bs Ow (.slice (some ⟨g, 0, none⟩) n cap) (ks.set i v) O1 (((W.setCell ⟨g, i * 3, none⟩ (.int .i64 v.1)).setCell ⟨g, i * 3 + 1, none⟩ (.int .i64 v.2.1)).setCell ⟨g, i * 3 + 2, none⟩ (.string v.2.2)) ∧ Upd W (((W.setCell ⟨g, i * 3, none⟩ (.int .i64 v.1)).setCell ⟨g, i * 3 + 1, none⟩ (.int .i64 v.2.1)).setCell ⟨g, i * 3 + 2, none⟩ (.string v.2.2)) (fun k => ¬ O1 k) ∧ KeepsOthers W (((W.setCell ⟨g, i * 3, none⟩ (.int .i64 v.1)).setCell ⟨g, i * 3 + 1, none⟩ (.int .i64 v.2.1)).setCell ⟨g, i * 3 + 2, none⟩ (.string v.2.2)) := by
  have hr := h.row
  rw [hn] at hr
  have h3 := ((((hr.stored (i * 3) (.int .i64 v.1)).1.stored (i * 3 + 1) (.int .i64 v.2.1)).1).stored (i * 3 + 2) (.string v.2.2)).1
  rw [valsC_set, if_pos (by omega)] at h3
  exact h.edit ((((Upd.refl W (fun k => k = g)).set g _ _ rfl).set g _ _ rfl).set g _ _ rfl) (by rw [List.length_set, hn]; exact h3)
/-- One key more. -/
theorem Coll.more {g cap n : Nat} {o : Obj} {w3 : World} (k : K3) (h : Coll w S0 L Bs Ow lv ks O1 W) (hn : ks.length = n) (hown : w3.ownsRow w.heap.size 34 3 (.slice (some ⟨g, 0, none⟩) (n + 1) cap) (n + 1) (valsC ks ++ [.int .i64 k.1, .int .i64 k.2.1, .string k.2.2]))
    (hgrow : (W.alloc o).grownBy w3 lv.ownBlock) (hat : lv.ownBlock = some g ∨ W.heap.size ≤ g) :
    Coll w S0 L Bs Ow (.slice (some ⟨g, 0, none⟩) (n + 1) cap) (ks ++ [k]) O1 (w3.setCell ⟨L, 0, none⟩ (.slice (some ⟨g, 0, none⟩) (n + 1) cap)) ∧ Upd W (w3.setCell ⟨L, 0, none⟩ (.slice (some ⟨g, 0, none⟩) (n + 1) cap)) (fun k => ¬ O1 k) ∧ KeepsOthers W (w3.setCell ⟨L, 0, none⟩ (.slice (some ⟨g, 0, none⟩) (n + 1) cap)) ∧ Blk w3 L 45 #[lv] := by
  have hra := h.row.alloc o
  have kL3 : Blk w3 L 45 #[lv] := Blk.grown (h.box.alloc o) hgrow (fun e => own_blk_ne hra (h.box.alloc o) (by decide) e.symm)
  have u3 : Upd W w3 (fun k => lv.ownBlock = some k) := ((Upd.refl W _).alloc o).grown hgrow (fun k e => e)
  have u4 : Upd W (w3.setCell ⟨L, 0, none⟩ (.slice (some ⟨g, 0, none⟩) (n + 1) cap)) (fun k => lv.ownBlock = some k ∨ k = L) := (u3.mono fun k _ e => .inl e).set L 0 _ (.inr rfl)
  have hlow : ∀ k, (lv.ownBlock = some k ∨ k = L) → w.heap.size ≤ k ∧ ¬ O1 k := fun k hk => by
    rcases hk with hk | rfl
    · exact ⟨(h.row.lt k hk).1, h.nr k hk⟩
    · exact ⟨h.hL, h.nL⟩
  refine ⟨⟨kL3.set_ 0 _, ?_, fun g' hg' e => ?_, fun x hx => ⟨u4.blk (h.bs x hx).1 (fun e => ?_), (h.bs x hx).2⟩, h.bt, Upd.join h.upd (u4.mono fun k _ e => .inr (hlow k e).1), h.o, fun k hk => Nat.lt_of_lt_of_le (h.lt k hk) u4.size, h.nL, Nat.le_trans h.z u4.size, h.hL⟩, u4.mono fun k _ e => (hlow k e).2, ?_, kL3⟩
  · rw [List.length_append, valsC_append, hn]
    exact own_set hown kL3 (by decide) 0 _
  · obtain rfl : g = g' := by simpa [Value.ownBlock] using hg'
    rcases hat with q | q
    · exact h.nr _ q e
    · have := h.lt _ e; omega
  · rcases e with e | e
    · exact own_blk_ne h.row (h.bs x hx).1 (h.bt x hx).1 e
    · exact (h.bt x hx).2 e
  · refine ((KeepsOthers.alloc W o).trans (KeepsOthers.of_grownBy hgrow (fun j o' hj ho => ?_))).trans (KeepsOthers.setCell _ _ _)
    obtain ⟨c1, f1, h1⟩ := own_kind hra j hj.symm.symm
    rw [h1] at ho; cases ho; rfl
end
end Go.Proofs.YtmimnaaofpkndaaDoor.Hp
