/- Contract of All's iterator: entries in order, whatever the rounds do beside the table. -/
import Derived.Test.YtmimnaaofpkndaaDoorOtJ
import Derived.Test.YtmimnaaofpkndaaDoorRgs
set_option linter.unusedVariables false
set_option linter.unusedSimpArgs false
namespace Go.Proofs.YtmimnaaofpkndaaDoor
open Go.RowKit Go.Shelf
attribute [local go_sem] Oper.semAt_some
def closeD (c : Nat) : Deferred := { target := .fn (.func 79) #[], args := #[.pointer (some ⟨c, 0, none⟩)] }
/-- What is left of the table when its iterator is done. -/
def AllFin (T : Nat) (A : List Ent) (D : List (Nat × Nat)) (O : Nat → Prop) (W : World) : Prop := ∃ D' O', TabA W T A D' O' ∧ (∀ k, O' k → O k) ∧ (∀ x, x ∈ D' ↔ x ∈ D) ∧ D'.length = D.length
theorem AllFin.put {T : Nat} {A : List Ent} {D : List (Nat × Nat)} {O : Nat → Prop} {W : World} (h : AllFin T A D O W) {l : Nat} (hl : ¬ O l) (o : Obj) : AllFin T A D O (W.putObj l o) := by
  obtain ⟨D', O', h1, h2, h3⟩ := h
  exact ⟨D', O', h1.upd (Upd.put W l o) (fun k hk e => hl (e ▸ h2 k hk)), h2, h3⟩
theorem AllFin.upd {T : Nat} {A : List Ent} {D : List (Nat × Nat)} {O M : Nat → Prop} {W W' : World} (h : AllFin T A D O W) (u : Upd W W' M) (hM : ∀ k, O k → ¬ M k) : AllFin T A D O W' := by
  obtain ⟨D', O', h1, h2, h3⟩ := h
  exact ⟨D', O', h1.upd u (fun k hk => hM k (h2 k hk)), h2, h3⟩
theorem fin_of {c T n : Nat} {A : List Ent} {D D' : List (Nat × Nat)} {O : Nat → Prop} {w' : World} (hc : ∀ x ∈ D, x.1 ≠ c) (h3 : TabA w' T A D' (fun x => O x ∧ x ≠ c)) (h4 : ∀ x, x ∈ D' ↔ x ∈ D ++ [(c, n)] ∧ x.1 ≠ c) (h5 : D'.length + 1 = (D ++ [(c, n)]).length) : AllFin T A D O w' := by
  refine ⟨D', _, h3, fun k hk => hk.1, fun x => ?_, by simp at h5; omega⟩
  rw [h4, List.mem_append, List.mem_singleton]
  constructor
  · rintro ⟨e | e, hne⟩
    · exact e
    · rw [e] at hne; exact absurd rfl hne
  · exact fun hm => ⟨.inl hm, hc x hm⟩
/-- Close of a closed cursor, deferred. -/
theorem close_shut_d (n : Nat) (u : FrameMode) (c : Nat) (a : Int) (w : World) (h : Blk w c 151 #[.pointer none, .int .i64 a]) :
    CallsDIn Fence.wide n Tryd.prog 79 #[.pointer (some ⟨c, 0, none⟩)] u w fun e u' w' => u' = u ∧ (e = .returned (.tuple #[]) ∧ w' = w) := by
  have x0 : w.cell? ⟨c, 0, none⟩ = some (.pointer none) := by rw [h.cell]; rfl
  refine callsDIn_of_wp Tryd.func79 rfl trivial ?_
  simp only [Tryd.ntmps79, List.size_toArray, List.length_cons, List.length_nil, Nat.reduceAdd, Nat.reduceSub, Array.replicate_succ, Array.replicate_zero, List.push_toArray, List.append_toArray, List.nil_append, List.cons_append]
  gi_wp2_with (fail)
  refine bodyPost_ret (results_none rfl _ _ _) rfl ?_
  exact ⟨rfl, rfl⟩
theorem next_here {c T n : Nat} {A : List Ent} {D : List (Nat × Nat)} {O : Nat → Prop} {w : World} (h : TabA w T A (D ++ [(c, n)]) O) (hA : A.length ≤ 5000) (hD : D.length ≤ 99999) (hc : ∀ x ∈ D, x.1 ≠ c) (x : Ent) (hx : A[n]? = some x) :
    Calls Tryd.prog 80 #[.pointer (some ⟨c, 0, none⟩)] w fun e w' => e = .returned (.tuple #[VK x.key, VK x.val, .int .i64 x.flags, .bool true]) ∧ TabA w' T A (D ++ [(c, n + 1)]) O ∧ Upd w w' O := by
  refine (next_anyQ c T n A _ O w h (by simp) hA (by simp; omega)).mono fun e w' h' => ?_
  have hb : bump c (n + 1) (D ++ [(c, n)]) = D ++ [(c, n + 1)] := by
    unfold bump
    rw [List.map_append]
    congr 1
    · conv => rhs; rw [← List.map_id D]
      exact List.map_congr_left fun y hy => by simp [hc y hy]
    · simp
  rcases h' with ⟨y, h1, h2, h3, h4⟩ | ⟨h1, _⟩
  · rw [hx] at h1; cases h1
    rw [hb] at h3
    exact ⟨h2, h3, h4⟩
  · rw [hx] at h1; cases h1
/-- The end: the cursor is closed. -/
theorem next_over {c T n : Nat} {A : List Ent} {D : List (Nat × Nat)} {O : Nat → Prop} {w : World} (h : TabA w T A (D ++ [(c, n)]) O) (hA : A.length ≤ 5000) (hD : D.length ≤ 99999) (hc : ∀ x ∈ D, x.1 ≠ c) (hx : A[n]? = none) :
    Calls Tryd.prog 80 #[.pointer (some ⟨c, 0, none⟩)] w fun e w' => e = .returned (.tuple #[VS 0 0 ⟨#[]⟩, VS 0 0 ⟨#[]⟩, .int .i64 0, .bool false]) ∧ (AllFin T A D O w' ∧ ∃ a : Int, Blk w' c 151 #[.pointer none, .int .i64 a]) ∧ Upd w w' O := by
  refine (next_anyQ c T n A _ O w h (by simp) hA (by simp; omega)).mono fun e w' h' => ?_
  rcases h' with ⟨y, h1, _⟩ | ⟨h1, h2, ⟨D', h3, h4, h5⟩, h6, h7⟩
  · rw [hx] at h1; cases h1
  · exact ⟨h2, ⟨fin_of hc h3 h4 h5, h6⟩, h7⟩
theorem tmps26 {a b c : Value} {d : List Deferred} {G : Prop} {u2 u4 u5 u6 u7 u8 u9 u10 u11 u12 u13 u14 u15 u16 u17 u18 u19 u20 u21 u22 u23 u24 u25 u26 : Value} (h : ∀ t : Nat → Value, (⟨#[a, b, u2, c, u4, u5, u6, u7, u8, u9, u10, u11, u12, u13, u14, u15, u16, u17, u18, u19, u20, u21, u22, u23, u24, u25, u26], d⟩ : Act) = ⟨#[a, b, t 2, c, t 4, t 5, t 6, t 7, t 8, t 9, t 10, t 11, t 12, t 13, t 14, t 15, t 16, t 17, t 18, t 19, t 20, t 21, t 22, t 23, t 24, t 25, t 26], d⟩ → G) : G :=
  h (fun n => match n with | 2 => u2 | 4 => u4 | 5 => u5 | 6 => u6 | 7 => u7 | 8 => u8 | 9 => u9 | 10 => u10 | 11 => u11 | 12 => u12 | 13 => u13 | 14 => u14 | 15 => u15 | 16 => u16 | 17 => u17 | 18 => u18 | 19 => u19 | 20 => u20 | 21 => u21 | 22 => u22 | 23 => u23 | 24 => u24 | 25 => u25 | 26 => u26 | _ => a) rfl
set_option maxRecDepth 100000 in
set_option maxHeartbeats 4000000 in
theorem all_in (n : Nat) (hn : 1 ≤ n) (l T : Nat) (A : List Ent) (D : List (Nat × Nat)) (O0 : Nat → Prop) (W : World) (b : Nat) (hb : Blk W b 44 #[.pointer (some ⟨T, 0, none⟩)]) (h : TabA W T A D O0) (hA : A.length ≤ 5000) (hD : D.length ≤ 99999) :
    SeqOwn Fence.wide n Tryd.prog 77 #[.func (.yield l) #[] #[], .pointer (some ⟨b, 0, none⟩)] l (fun x : Ent => #[VK x.key, VK x.val]) A O0 (AllFin T A D) W := by
  intro J Jx hJ hJx hY h0
  refine callsIn_of_wp_defers Tryd.func77 rfl trivial ?_ rfl
  simp only [Tryd.ntmps77, List.size_toArray, List.length_cons, List.length_nil, Nat.reduceAdd, Nat.reduceSub, Array.replicate_succ, Array.replicate_zero, List.push_toArray, List.append_toArray, List.nil_append, List.cons_append]
  have x0 : W.cell? ⟨b, 0, none⟩ = some (.pointer (some ⟨T, 0, none⟩)) := by rw [hb.cell]; rfl
  have HJ := Lib.hid hJ
  have HJX := Lib.hid hJx
  have HY := Lib.hid hY
  have H0 := Lib.hid h0
  clear hJ hJx hY h0
  gi_wp2_with (refine ⟨trivial, ?_⟩; gi_at_call 78; refine (callsIn_wide.2 (cursor_any T A D O0 _ h (by omega))).mono ?_; rintro e w' ⟨rfl, hT, u1, hsz⟩)
  have hO1 : ∀ k, Og O0 W w' k → O0 k ∨ W.heap.size ≤ k := fun k hk => hk.imp id And.left
  have hJ0 := H0.out _ w' u1 hO1
  have hc0 : Og O0 W w' W.heap.size := .inr ⟨Nat.le_refl _, hsz⟩
  obtain ⟨O1, hO1e⟩ : ∃ O1, Og O0 W w' = O1 := ⟨_, rfl⟩
  rw [hO1e] at hT hJ0 hc0
  have HO := Lib.hid hO1e
  generalize hc : W.heap.size = c at *
  clear hO1 hO1e
  have hcD : ∀ x ∈ D, x.1 ≠ c := fun x hx e => by
    obtain ⟨lv, sv, cv, es, sl, cs, hs, _, rfl⟩ := h
    obtain ⟨y, hy, rfl⟩ := List.mem_map.1 hx
    have h1 := hs.tab.oLt _ (hs.tab.oc y hy)
    have h2 : y.1 = c := e
    omega
  gi_wp2_with (fail)
  suffices key : ∀ (m k : Nat) (t : Nat → Value) (W2 : World), A.length - k = m → k ≤ A.length → J O1 (A.take k) W2 → TabA W2 T A (D ++ [(c, k)]) O1 → Upd W W2 (fun _ => True) → Code.roundsIn Fence.wide n Tryd.prog _ _ (m + 1) ⟨#[.func (.yield l) #[] #[], .pointer (some ⟨b, 0, none⟩), t 2, .pointer (some ⟨c, 0, none⟩), t 4, t 5, t 6, t 7, t 8, t 9, t 10, t 11, t 12, t 13, t 14, t 15, t 16, t 17, t 18, t 19, t 20, t 21, t 22, t 23, t 24, t 25, t 26], [closeD c]⟩ W2 by
    refine wpIn_loop_rounds (A.length + 1) ?_
    apply tmps26
    intro t ht
    rw [show (_ : Act) = _ from ht]
    exact key A.length 0 t w' (by omega) (by omega) hJ0 hT (u1.mono fun _ _ _ => trivial)
  intro m
  induction m with
  | zero =>
    intro k t W2 hm hk hJk hTk u2
    obtain rfl : k = A.length := by omega
    have HC := Lib.hid (next_over hTk hA hD hcD (by rw [List.getElem?_eq_none (Nat.le_refl _)]))
    have hl2 := fun k => hTk.lt k
    rw [List.take_length] at hJk
    clear hTk
    rw [roundsIn_succ]
    gi_wp2_with (refine ⟨trivial, ?_⟩; gi_at_call 80; refine (callsIn_wide.2 HC.out).mono ?_; rintro e W3 ⟨rfl, ⟨hF3, ac, hb3⟩, u3⟩)
    refine ⟨fun _ _ => trivial, ?_⟩
    gi_wp2_with (fail)
    have hn3 : ∀ k, O1 k → k < W3.heap.size := fun k hk => Nat.lt_of_lt_of_le (hl2 k hk) u3.size
    have u4 : Upd W3 ((W3.alloc (.cells #[.int .i64 0, .int .i64 0, .string ⟨#[]⟩] 34)).alloc (.cells #[.int .i64 0, .int .i64 0, .string ⟨#[]⟩] 34)) (fun _ => False) := ((Upd.refl _ _).alloc _).alloc _
    have hF4 := hF3.upd u4 (fun _ _ h => h)
    have hb4 := u4.blk hb3 (fun h => h)
    have hJ4 := HJ.out _ _ _ _ hJk (u3.trans (u4.mono fun _ _ h => h.elim))
    refine leavesIn_cons (f := 79) (args := #[.pointer (some ⟨c, 0, none⟩)]) (by simp) (by simp [Fence.wide]) (by simp [go_sem, invoke]) (fun _ _ => trivial) ?_
    refine (close_shut_d _ .returning c ac _ hb4).mono ?_
    rintro e u' w6 ⟨rfl, rfl, rfl⟩
    exact ⟨_, results_none rfl _ _ _, ⟨_, rfl⟩, O1, hF4, .inl hJ4⟩
  | succ m ih =>
    intro k t W2 hm hk hJk hTk u2
    have hlt : k < A.length := by omega
    obtain ⟨x, hx⟩ : ∃ x, A[k]? = some x := ⟨_, List.getElem?_eq_getElem hlt⟩
    have HC := Lib.hid (next_here hTk hA hD hcD x hx)
    have htk : A.take (k + 1) = A.take k ++ [x] := by
      have := List.take_succ_eq_append_getElem hlt
      rw [this, ← (List.getElem?_eq_some_iff.1 hx).2]
    have hpre : (A.take k ++ [x]) <+: A := by rw [← htk]; exact List.take_prefix _ _
    have HT := Lib.hid htk
    have HJ2 := Lib.hid (fun W4 (u : Upd W2 W4 O1) => HY.out O1 (A.take k) x W4 (HJ.out _ _ _ _ hJk u) hpre)
    have IH := Lib.hid ih
    clear hTk htk hpre ih
    rw [roundsIn_succ]
    gi_wp2_with (refine ⟨trivial, ?_⟩; gi_at_call 80; refine (callsIn_wide.2 HC.out).mono ?_; rintro e W3 ⟨rfl, hT3, u3⟩; have hy0 := HJ2.out ((W3.alloc (.cells #[.int .i64 x.key.1, .int .i64 x.key.2.1, .string x.key.2.2] 34)).alloc (.cells #[.int .i64 x.val.1, .int .i64 x.val.2.1, .string x.val.2.2] 34)) ((u3.alloc _).alloc _); obtain ⟨fn, tmps, assign, body, hy, hR⟩ := hy0; dsimp only [VK] at hy)
    refine hR.mono ?_
    rintro e W5 ⟨u5, hor⟩
    have hT5 := (hT3.upd ((Upd.refl W3 (fun _ => False)).alloc _ |>.alloc _) (fun _ _ h => h)).upd u5 (fun k hk h => h hk)
    rcases hor with ⟨rfl, hJ5⟩ | ⟨rfl, hJ5⟩
    · gi_wp2_with (fail)
      apply tmps26
      intro t' ht'
      rw [show (_ : Act) = _ from ht']
      exact IH.out (k + 1) t' W5 (by omega) (by omega) (by rw [HT.out]; exact hJ5) hT5 ((((u2.trans (u3.mono fun _ _ _ => trivial)).alloc _).alloc _).trans (u5.mono fun _ _ _ => trivial))
    · gi_wp2_with (fail)
      refine leavesIn_cons (f := 79) (args := #[.pointer (some ⟨c, 0, none⟩)]) (by simp) (by simp [Fence.wide]) (by simp [go_sem, invoke]) (fun _ _ => trivial) ?_
      refine (close_d _ .returning c T A _ O1 W5 hT5 (c, k + 1) (by simp) rfl (by simp; omega)).mono ?_
      rintro e u' w6 ⟨rfl, rfl, ⟨D', h3, h4, h5⟩, _, u6⟩
      exact ⟨_, results_none rfl _ _ _, ⟨_, rfl⟩, O1, fin_of hcD h3 h4 h5, .inr ⟨_, HJX.out _ _ _ _ hJ5 u6⟩⟩
end Go.Proofs.YtmimnaaofpkndaaDoor
