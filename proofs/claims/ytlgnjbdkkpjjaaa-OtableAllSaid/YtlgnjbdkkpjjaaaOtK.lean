/- A table that a call made itself, and what lies beside it; the example. -/
import Derived.Test.YtlgnjbdkkpjjaaaOtJ
set_option linter.unusedVariables false
set_option linter.unusedSimpArgs false
namespace Go.Proofs.Ytlgnjbdkkpjjaaa
open Go.RowKit Go.Sort

/-- A table that the call made itself. -/
structure St (w0 w : World) (T : Nat) (A : List Ent) (D : List (Nat × Nat)) (O : Nat → Prop) : Prop where
  tab : TabA w T A D O
  bel : Below w0.heap.size w0 w
  own : ∀ k, O k → w0.heap.size ≤ k
/-- A step: of what was there only the table's blocks have turned, and its new blocks are new. -/
structure Stp (w : World) (O : Nat → Prop) (w' : World) (O' : Nat → Prop) : Prop where
  upd : Upd w w' O
  new : ∀ k, O' k → O k ∨ w.heap.size ≤ k
/-- A block beside the table. -/
structure Bx (w : World) (O : Nat → Prop) (g : Nat) (t : TypeId) (cs : Array Value) : Prop where
  blk : Blk w g t cs
  no : ¬ O g
section
variable {w0 w w' w'' : World} {T g : Nat} {A A' : List Ent} {D D' : List (Nat × Nat)} {O O' O'' : Nat → Prop} {t : TypeId} {cs : Array Value}
theorem Stp.of_below (b : Below w.heap.size w w') : Stp w O w' O := ⟨Upd.of_below_all b, fun _ h => .inl h⟩
theorem Stp.trans (h : Stp w O w' O') (h' : Stp w' O' w'' O'') : Stp w O w'' O'' :=
  ⟨⟨h'.upd.os.trans h.upd.os, h'.upd.tape.trans h.upd.tape, h'.upd.output.trans h.upd.output, Nat.le_trans h.upd.size h'.upd.size, fun k hk hn => (h'.upd.block k (Nat.lt_of_lt_of_le hk h.upd.size) (fun hk' => by
      rcases h.new k hk' with h1 | h1
      · exact hn h1
      · omega)).trans (h.upd.block k hk hn)⟩, fun k hk => by
    rcases h'.new k hk with h1 | h1
    · exact h.new k h1
    · exact .inr (Nat.le_trans h.upd.size h1)⟩
theorem St.stp (h : St w0 w T A D O) (s : Stp w O w' O') (ht : TabA w' T A' D' O') : St w0 w' T A' D' O' :=
  ⟨ht, h.bel.trans (s.upd.below h.bel.size h.own), fun k hk => by
    rcases s.new k hk with h1 | h1
    · exact h.own k h1
    · exact Nat.le_trans h.bel.size h1⟩
theorem St.below (h : St w0 w T A D O) (b : Below w.heap.size w w') : St w0 w' T A D O := h.stp (Stp.of_below b) (h.tab.below b)
theorem Bx.stp (h : Bx w O g t cs) (s : Stp w O w' O') : Bx w' O' g t cs := ⟨s.upd.blk h.blk h.no, fun hk => by
  rcases s.new g hk with h1 | h1
  · exact h.no h1
  · exact absurd h.blk.lt (Nat.not_lt_of_le h1)⟩
theorem Bx.below (h : Bx w O g t cs) (b : Below w.heap.size w w') : Bx w' O g t cs := h.stp (Stp.of_below b)
theorem Bx.new (h : St w0 w T A D O) (t : TypeId) (cs : Array Value) : Bx (w.alloc (.cells cs t)) O w.heap.size t cs := ⟨Blk.new w t cs, fun hk => absurd (h.tab.lt _ hk) (Nat.lt_irrefl _)⟩
theorem stp_og (u : Upd w w' O) : Stp w O w' (Og O w w') := ⟨u, fun k hk => hk.imp id And.left⟩
end

/-- Two boxes more. -/
theorem two_bx {w0 w : World} {T : Nat} {A : List Ent} {D : List (Nat × Nat)} {O : Nat → Prop} (h : St w0 w T A D O) (o o' : Obj) : St w0 ((w.alloc o).alloc o') T A D O ∧ Stp w O ((w.alloc o).alloc o') O ∧ ∀ t cs, o = .cells cs t → Bx ((w.alloc o).alloc o') O w.heap.size t cs := by
  have b : Below w.heap.size w ((w.alloc o).alloc o') := ((Below.refl _ _).alloc (Nat.le_refl _) _).alloc (by simp) _
  refine ⟨h.below b, Stp.of_below b, fun t cs e => ?_⟩
  subst e
  exact (Bx.new h t cs).below ((Below.refl _ _).alloc (Nat.le_refl _) _)
theorem new_st (w0 w : World) (hb : Below w0.heap.size w0 w) : Calls Try.prog 10 #[] w fun e w' => e = .returned (.pointer (some ⟨w.heap.size, 0, none⟩)) ∧ ∃ O', St w0 w' w.heap.size [] [] O' ∧ Below w.heap.size w w' ∧ ∀ k, O' k → w.heap.size ≤ k :=
  (new_any w).mono fun e w' ⟨he, b, ht⟩ => ⟨he, _, ⟨ht, hb.trans (b.mono hb.size), fun k hk => by rw [hk]; exact hb.size⟩, b, fun k hk => by rw [hk]; exact Nat.le_refl _⟩
theorem put_st (T : Nat) (A : List Ent) (D : List (Nat × Nat)) (O : Nat → Prop) (k v : K3) (f : Int) (w0 w : World) (h : St w0 w T A D O) (hk : k.2.2.size ≤ 4000) (hA : A.length ≤ 4000) (hD : D.length ≤ 100000) :
    Calls Try.prog 12 #[.pointer (some ⟨T, 0, none⟩), VK k, VK v, .int .i64 f] w fun e w' => e = .returned (.tuple #[]) ∧ ∃ O', St w0 w' T (putA k v f A) D O' ∧ Stp w O w' O' :=
  (put_any T A D O k v f w h.tab hk hA hD).mono fun e w' ⟨he, ht, u⟩ => ⟨he, _, h.stp (stp_og u) ht, stp_og u⟩
theorem delA_no {k : K3} {A : List Ent} (h : ∀ x ∈ A, isKey k x = false) : delA k A = A := by
  unfold delA; rw [List.filter_eq_self]; intro x hx; simp [h x hx]
theorem delete_st (T : Nat) (A : List Ent) (D : List (Nat × Nat)) (O : Nat → Prop) (k : K3) (w0 w : World) (h : St w0 w T A D O) (hk : k.2.2.size ≤ 4000) (hA : A.length ≤ 5000) (hD : D.length ≤ 100000) (hDl : ∀ d ∈ D, d.2 ≤ A.length) :
    Calls Try.prog 15 #[.pointer (some ⟨T, 0, none⟩), VK k] w fun e w' => e = .returned (.bool (A.any (isKey k))) ∧ ∃ O', St w0 w' T (delA k A) (D.map (delD k A)) O' ∧ Stp w O w' O' :=
  (delete_any T A D O k w h.tab hk hA hD).mono fun e w' hP => by
    rcases hP with ⟨he, hn, b⟩ | ⟨he, ⟨x, hx, hkx⟩, ht, u⟩
    · have h1 : A.any (isKey k) = false := by rw [List.any_eq_false]; intro x hx; rw [hn x hx]; simp
      have h2 : D.map (delD k A) = D := by
        conv => rhs; rw [← List.map_id D]
        refine List.map_congr_left fun d hd => ?_
        unfold delD
        rw [delA_no (fun x hx => hn x (List.mem_of_mem_take hx)), List.length_take, Nat.min_eq_left (hDl d hd)]; rfl
      rw [h1, delA_no hn, h2]
      exact ⟨he, O, h.below b, Stp.of_below b⟩
    · have h1 : A.any (isKey k) = true := List.any_eq_true.2 ⟨x, hx, hkx⟩
      rw [h1]
      exact ⟨he, _, h.stp (stp_og u) ht, stp_og u⟩
theorem cursor_st (T : Nat) (A : List Ent) (D : List (Nat × Nat)) (O : Nat → Prop) (w0 w : World) (h : St w0 w T A D O) (hD : D.length ≤ 100000) :
    Calls Try.prog 13 #[.pointer (some ⟨T, 0, none⟩)] w fun e w' => e = .returned (.pointer (some ⟨w.heap.size, 0, none⟩)) ∧ ∃ O', St w0 w' T A (D ++ [(w.heap.size, 0)]) O' ∧ Stp w O w' O' :=
  (cursor_any T A D O w h.tab hD).mono fun e w' ⟨he, ht, u, _⟩ => ⟨he, _, h.stp (stp_og u) ht, stp_og u⟩
/-- Next, where there is one more. -/
theorem next_st (c T n : Nat) (A : List Ent) (D : List (Nat × Nat)) (O : Nat → Prop) (w0 w : World) (h : St w0 w T A D O) (hx : (c, n) ∈ D) (hA : A.length ≤ 5000) (hD : D.length ≤ 100000) (x : Ent) (hn : A[n]? = some x) :
    Calls Try.prog 14 #[.pointer (some ⟨c, 0, none⟩)] w fun e w' => e = .returned (.tuple #[VK x.key, VK x.val, .int .i64 x.flags, .bool true]) ∧ ∃ O', St w0 w' T A (bump c (n + 1) D) O' ∧ Stp w O w' O' :=
  (next_any c T n A D O w h.tab hx hA hD).mono fun e w' hP => by
    rcases hP with ⟨y, hy, he, ht, u⟩ | ⟨hy, _⟩
    · obtain rfl : x = y := Option.some.inj (hn.symm.trans hy)
      exact ⟨he, _, h.stp (stp_og u) ht, stp_og u⟩
    · rw [hn] at hy; cases hy
/-- Next, where there is none. -/
theorem next_end (c T n : Nat) (A : List Ent) (D : List (Nat × Nat)) (O : Nat → Prop) (w0 w : World) (h : St w0 w T A D O) (hx : (c, n) ∈ D) (hA : A.length ≤ 5000) (hD : D.length ≤ 100000) (hn : A[n]? = none) :
    Calls Try.prog 14 #[.pointer (some ⟨c, 0, none⟩)] w fun e w' => e = .returned (.tuple #[VS 0 0 ⟨#[]⟩, VS 0 0 ⟨#[]⟩, .int .i64 0, .bool false]) ∧ ∃ O' D', St w0 w' T A D' O' ∧ (∀ x, x ∈ D' ↔ x ∈ D ∧ x.1 ≠ c) ∧ D'.length + 1 = D.length ∧ (∃ a : Int, Bx w' O' c 77 #[.pointer none, .int .i64 a]) ∧ Stp w O w' O' :=
  (next_any c T n A D O w h.tab hx hA hD).mono fun e w' hP => by
    rcases hP with ⟨y, hy, _⟩ | ⟨_, he, ⟨D', ht, hD', hl⟩, ⟨a, ha⟩, u⟩
    · rw [hn] at hy; cases hy
    · have s : Stp w O w' (fun x => Og O w w' x ∧ x ≠ c) := ⟨u, fun k hk => hk.1.imp id And.left⟩
      exact ⟨he, _, D', h.stp s ht, hD', hl, ⟨a, ha, fun hk => hk.2 rfl⟩, s⟩

theorem tlen_st {w0 w : World} {T : Nat} {A : List Ent} {D : List (Nat × Nat)} {O : Nat → Prop} (h : St w0 w T A D O) (d : Nat) (os : Array Obj) : Calls Try.prog 17 #[.pointer (some ⟨T, 0, none⟩)] (grow (redrawn w d) os) (Ret (.int .i64 (A.length : Int)) (grow (redrawn w d) os)) :=
  (tlen_any T A D O _ (h.tab.below (below_regrown w d os))).mono fun _ _ ⟨h, e⟩ => ⟨h, by rw [← e]; exact Below.refl _ _⟩
/-! ### The example -/
theorem fitk_any (n : Int) (w : World) : Calls Try.prog 26 #[.int .i64 n] w (Ret (VS 3 n ⟨#[]⟩) w) := by
  go_enter Try.func26, Try.ntmps26
  go_wp2
  first | (refine bodyPost_ret (v := VS 3 n ⟨#[]⟩) (by simp [results, Try.results26, go_sem]) rfl ⟨rfl, (Below.refl _ _).alloc (Nat.le_refl _) _⟩; done)
abbrev kI (n : Int) : K3 := (3, n, ⟨#[]⟩)
abbrev eI (n : Int) : Ent := ⟨kI n, kI 0, 0, false⟩
theorem three : ((([eI 1, eI 3, eI 2] : List Ent).length : Nat) : Int) = 3 := rfl
theorem fit_1 : putA (kI 1) (kI 0) 0 [] = [eI 1] := rfl
theorem fit_2 : putA (kI 2) (kI 0) 0 [eI 1] = [eI 1, eI 2] := by rfl
theorem fit_3 : delA (kI 2) [eI 1, eI 2] = [eI 1] := by rfl
theorem fit_4 : putA (kI 3) (kI 0) 0 [eI 1] = [eI 1, eI 3] := by rfl
theorem fit_5 : putA (kI 2) (kI 0) 0 [eI 1, eI 3] = [eI 1, eI 3, eI 2] := by rfl
theorem bump_1 (c n m : Nat) : bump c m [(c, n)] = [(c, m)] := by simp [bump]
theorem fit_6 (c : Nat) : [(c, 1)].map (delD (kI 2) [eI 1, eI 2]) = [(c, 1)] := by rfl

set_option maxHeartbeats 4000000 in
set_option maxRecDepth 100000 in
theorem fit_any (w : World) : Calls Try.prog 9 #[] w (Ret (.bool true) w) := by
  go_enter Try.func9, Try.ntmps9
  go_wp2_with fail
  refine (new_st w w (Below.refl _ _)).mono ?_
  rintro e w1 ⟨rfl, O1, S1, -, -⟩
  generalize w.heap.size = T at *
  go_wp2_with fail
  refine (fitk_any 1 w1).mono ?_
  rintro e w2 ⟨rfl, b2⟩
  have S2 := S1.below b2
  clear S1 b2
  go_wp2_with fail
  refine (fitk_any 0 w2).mono ?_
  rintro e w3 ⟨rfl, b3⟩
  have S3 := S2.below b3
  clear S2 b3
  go_wp2_with fail
  refine (put_st T _ _ O1 (kI 1) (kI 0) 0 w w3 S3 (by decide) (by decide) (by decide)).mono ?_
  rintro e w4 ⟨rfl, O4, S4, -⟩
  rw [fit_1] at S4
  clear S3
  go_wp2_with fail
  refine (fitk_any 2 w4).mono ?_
  rintro e w5 ⟨rfl, b⟩
  have S5 := S4.below b
  clear S4 b
  go_wp2_with fail
  refine (fitk_any 0 w5).mono ?_
  rintro e w6 ⟨rfl, b⟩
  have S6 := S5.below b
  clear S5 b
  go_wp2_with fail
  refine (put_st T _ _ O4 (kI 2) (kI 0) 0 w w6 S6 (by decide) (by decide) (by decide)).mono ?_
  rintro e w7 ⟨rfl, O7, S7, -⟩
  rw [fit_2] at S7
  clear S6
  go_wp2_with fail
  refine (cursor_st T _ _ O7 w w7 S7 (by decide)).mono ?_
  rintro e w8 ⟨rfl, O8, S8, -⟩
  rw [List.nil_append] at S8
  clear S7
  generalize w7.heap.size = c at *
  go_wp2_with fail
  refine (next_st c T 0 _ _ O8 w w8 S8 (by simp) (by decide) (by simp) (eI 1) rfl).mono ?_
  rintro e w9 ⟨rfl, O9, S9, -⟩
  rw [bump_1] at S9
  obtain ⟨SA, -, BA⟩ := two_bx S9 (SC 3 1 ⟨#[]⟩) (SC 3 0 ⟨#[]⟩)
  have BA := BA _ _ rfl
  generalize hPa : w9.heap.size = Pa at *
  clear S9
  clear S8
  go_upto_region 7 with fail
  generalize ((w9.alloc (SC 3 1 ⟨#[]⟩)).alloc (SC 3 0 ⟨#[]⟩)) = w10 at *
  go_wp2_with fail
  refine (fitk_any 2 w10).mono ?_
  rintro e w11 ⟨rfl, b⟩
  have S11 := SA.below b
  have BA := BA.below b
  clear SA b
  go_wp2_with fail
  refine (delete_st T _ _ O9 (kI 2) w w11 S11 (by decide) (by decide) (by simp) (by simp)).mono ?_
  rintro e w12 ⟨rfl, O12, S12, P⟩
  rw [fit_3, fit_6] at S12
  have BA := BA.stp P
  clear S11 P
  go_wp2_with fail
  refine (fitk_any 3 w12).mono ?_
  rintro e w13 ⟨rfl, b⟩
  have S13 := S12.below b
  have BA := BA.below b
  clear S12 b
  go_wp2_with fail
  refine (fitk_any 0 w13).mono ?_
  rintro e w14 ⟨rfl, b⟩
  have S14 := S13.below b
  have BA := BA.below b
  clear S13 b
  go_wp2_with fail
  refine (put_st T _ _ O12 (kI 3) (kI 0) 0 w w14 S14 (by decide) (by decide) (by simp)).mono ?_
  rintro e w15 ⟨rfl, O15, S15, P⟩
  rw [fit_4] at S15
  have BA := BA.stp P
  clear S14 P
  go_wp2_with fail
  refine (fitk_any 2 w15).mono ?_
  rintro e w16 ⟨rfl, b⟩
  have S16 := S15.below b
  have BA := BA.below b
  clear S15 b
  go_wp2_with fail
  refine (fitk_any 0 w16).mono ?_
  rintro e w17 ⟨rfl, b⟩
  have S17 := S16.below b
  have BA := BA.below b
  clear S16 b
  go_wp2_with fail
  refine (put_st T _ _ O15 (kI 2) (kI 0) 0 w w17 S17 (by decide) (by decide) (by simp)).mono ?_
  rintro e w18 ⟨rfl, O18, S18, P⟩
  rw [fit_5] at S18
  have BA := BA.stp P
  clear S17 P
  go_wp2_with fail
  refine (next_st c T 1 _ _ O18 w w18 S18 (by simp) (by decide) (by simp) (eI 3) rfl).mono ?_
  rintro e w19 ⟨rfl, O19, S19, P⟩
  rw [bump_1] at S19
  have BA := BA.stp P
  obtain ⟨SB, P2, BB⟩ := two_bx S19 (SC 3 3 ⟨#[]⟩) (SC 3 0 ⟨#[]⟩)
  have BB := BB _ _ rfl
  have BA := BA.stp P2
  generalize hPb : w19.heap.size = Pb at *
  clear S19 P P2 S18
  go_upto_region 11 with fail
  generalize ((w19.alloc (SC 3 3 ⟨#[]⟩)).alloc (SC 3 0 ⟨#[]⟩)) = w20 at *
  go_wp2_with fail
  refine (next_st c T 2 _ _ O19 w w20 SB (by simp) (by decide) (by simp) (eI 2) rfl).mono ?_
  rintro e w21 ⟨rfl, O21, S21, P⟩
  rw [bump_1] at S21
  have BA := BA.stp P
  have BB := BB.stp P
  obtain ⟨SC_, P2, BC⟩ := two_bx S21 (SC 3 2 ⟨#[]⟩) (SC 3 0 ⟨#[]⟩)
  have BC := BC _ _ rfl
  have BA := BA.stp P2
  have BB := BB.stp P2
  generalize hPc : w21.heap.size = Pc at *
  clear S21 P P2 SB
  go_upto_region 12 with fail
  generalize ((w21.alloc (SC 3 2 ⟨#[]⟩)).alloc (SC 3 0 ⟨#[]⟩)) = w22 at *
  have ba0 : w22.cell? ⟨Pa, 0, none⟩ = some (.int .i64 3) := by rw [BA.blk.cell]; rfl
  have Qba0 := fun d os => cell_regrown ba0 d os
  clear ba0
  have ba1 : w22.cell? ⟨Pa, 1, none⟩ = some (.int .i64 1) := by rw [BA.blk.cell]; rfl
  have Qba1 := fun d os => cell_regrown ba1 d os
  clear ba1
  have ba2 : w22.cell? ⟨Pa, 2, none⟩ = some (.string ⟨#[]⟩) := by rw [BA.blk.cell]; rfl
  have Qba2 := fun d os => cell_regrown ba2 d os
  clear ba2
  have bb0 : w22.cell? ⟨Pb, 0, none⟩ = some (.int .i64 3) := by rw [BB.blk.cell]; rfl
  have Qbb0 := fun d os => cell_regrown bb0 d os
  clear bb0
  have bb1 : w22.cell? ⟨Pb, 1, none⟩ = some (.int .i64 3) := by rw [BB.blk.cell]; rfl
  have Qbb1 := fun d os => cell_regrown bb1 d os
  clear bb1
  have bb2 : w22.cell? ⟨Pb, 2, none⟩ = some (.string ⟨#[]⟩) := by rw [BB.blk.cell]; rfl
  have Qbb2 := fun d os => cell_regrown bb2 d os
  clear bb2
  have bc0 : w22.cell? ⟨Pc, 0, none⟩ = some (.int .i64 3) := by rw [BC.blk.cell]; rfl
  have Qbc0 := fun d os => cell_regrown bc0 d os
  clear bc0
  have bc1 : w22.cell? ⟨Pc, 1, none⟩ = some (.int .i64 2) := by rw [BC.blk.cell]; rfl
  have Qbc1 := fun d os => cell_regrown bc1 d os
  clear bc1
  have bc2 : w22.cell? ⟨Pc, 2, none⟩ = some (.string ⟨#[]⟩) := by rw [BC.blk.cell]; rfl
  have Qbc2 := fun d os => cell_regrown bc2 d os
  clear bc2
  have bb := SC_.bel
  have up := fun d os => bb.trans ((below_regrown w22 d os).mono bb.size)
  have D1 := fun d os => Calls.regrown_of (fitk_any 1 (grow (redrawn w22 d) os))
  have D2 := fun d os => Calls.regrown_of (fitk_any 2 (grow (redrawn w22 d) os))
  have D3 := fun d os => Calls.regrown_of (fitk_any 3 (grow (redrawn w22 d) os))
  have D4 := fun d os => Calls.regrown_of (tlen_st SC_ d os)
  rw [three] at D4
  clear SC_ BA BB BC
  refine wp_region_quiet_below (by kernel_rfl) (by kernel_rfl) ?_
  repeat (first | go_big_quiet_step (first | with_reducible exact D1 _ _ | with_reducible exact D2 _ _ | with_reducible exact D3 _ _ | with_reducible exact D4 _ _) | quiet_step (first | with_reducible exact D1 _ _ | with_reducible exact D2 _ _ | with_reducible exact D3 _ _ | with_reducible exact D4 _ _))
  refine wpQuiet_nil ?_
  intro _ hw'
  obtain ⟨⟨dq, osq⟩, hw''⟩ := hw'
  subst hw''
  have be := up dq osq
  clear D1 D2 D3 D4 up
  go_wp2
  go_ret
  exact ⟨by simp, be⟩
end Go.Proofs.Ytlgnjbdkkpjjaaa
