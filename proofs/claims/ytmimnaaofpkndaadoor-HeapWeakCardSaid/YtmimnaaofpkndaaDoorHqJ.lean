/- The heap: what an object's Each yields. -/
import Derived.Test.YtmimnaaofpkndaaDoorHqI
set_option linter.unusedVariables false
set_option linter.unusedSimpArgs false
namespace Go.Proofs.YtmimnaaofpkndaaDoor.Hp
open Go.RowKit Go.Proofs.YtmimnaaofpkndaaDoor Go.Shelf Go.Sort
attribute [local go_sem] Oper.semAt_some

def refsOf (e : Ent) : List Int := [e.key.2.1, e.val.2.1]
/-- Keys and values are objects that are there. -/
def RfEnt (e : Ent) : Prop := e.key.1 = 9 ∧ e.val.1 = 9 ∧ e.key.2.1 ≠ 0 ∧ e.val.2.1 ≠ 0
theorem index3a (W : World) : (Instr.index 199 (.agg #[.int .i64 0, .int .i64 0, .int .i64 0]) (.int .i64 0)).run Tryd.prog W = .ok (.int .i64 0) W := by kernel_rfl
theorem index3b (W : World) : (Instr.index 199 (.agg #[.int .i64 0, .int .i64 0, .int .i64 0]) (.int .i64 1)).run Tryd.prog W = .ok (.int .i64 0) W := by kernel_rfl
theorem index3c (W : World) : (Instr.index 199 (.agg #[.int .i64 0, .int .i64 0, .int .i64 0]) (.int .i64 2)).run Tryd.prog W = .ok (.int .i64 0) W := by kernel_rfl
set_option maxRecDepth 100000 in
set_option maxHeartbeats 40000000 in
theorem each_seq (st : BS) (X : Bods) (hXS : X.S = bS st) (i : Nat) (x : OI) (hx : st.obs[i]? = some x) (hw : x.tb = none ∨ x.tb = some st.Ts) (htl : ∀ e ∈ st.tl, RfEnt e) (htn : st.tl.length ≤ 4000) (O : Nat → Prop) (W : World) (l : Nat) (hS : bS st O W) :
    SeqB Fence.wide 8 Tryd.prog 121 #[.pointer (some ⟨x.b, 0, none⟩), .func (.yield l) #[] #[]] l (fun r : Int => #[.int .i64 r]) (if x.tb = none then [] else st.tl.flatMap refsOf) O (BFin X) False W := by
  obtain ⟨xs, hxs⟩ : ∃ xs, (if x.tb = none then ([] : List Int) else st.tl.flatMap refsOf) = xs := ⟨_, rfl⟩
  rw [hxs]
  have HXX := Lib.hid hxs
  clear hxs
  intro J Jx hJ hJx hst hJg hY h0
  obtain ⟨fv, hb⟩ := hS.obj hx
  have hOl : ∀ k, O k → k < W.heap.size := fun k hk => hS.fit.lt hk
  have hbl := hb.lt
  obtain ⟨own, hs, ho⟩ := hS
  have hi : i < st.obs.length := (List.getElem?_eq_some_iff.1 hx).1
  have hp : bL st (1, i) := hi
  obtain ⟨hTp, hfp⟩ : TabA W x.T [] [] (own (1, i)) ∧ Fit (own (1, i)) W := by
    obtain ⟨y, h1, h2⟩ := hs.holds (1, i) hp
    rw [hx] at h1; cases h1; exact h2
  have x1 : W.cell? ⟨x.b, 1, none⟩ = some (.int .i64 0) := by rw [hb.cell]; rfl
  have x11 : W.cell? ⟨x.b, 11, none⟩ = some (.int .i64 0) := by rw [hb.cell]; rfl
  have x12 : W.cell? ⟨x.b, 12, none⟩ = some (.int .i64 0) := by rw [hb.cell]; rfl
  have x4 : W.cell? ⟨x.b, 4, none⟩ = some (.slice none 0 0) := by rw [hb.cell]; rfl
  have x5 : W.cell? ⟨x.b, 5, none⟩ = some (.slice none 0 0) := by rw [hb.cell]; rfl
  have x3 : W.cell? ⟨x.b, 3, none⟩ = some (.pointer (some ⟨x.T, 0, none⟩)) := by rw [hb.cell]; rfl
  have x6 : W.cell? ⟨x.b, 6, none⟩ = some (tpV x.tb) := by rw [hb.cell]; rfl
  have x15 : W.cell? ⟨x.b, 15, none⟩ = some .nilIface := by rw [hb.cell]; rfl
  obtain ⟨Y, hYe⟩ : ∃ Y, W.heap.size = Y := ⟨_, rfl⟩
  have hbY : x.b < Y := hYe ▸ hbl
  have HJ := Lib.hid (And.intro hJ (And.intro hst (And.intro hY h0)))
  have HG := Lib.hid hJg
  have HS := Lib.hid (And.intro hs (And.intro ho (And.intro hTp (And.intro hOl (And.intro hb hfp)))))
  clear hJ hJx hst hJg hY h0 hs ho hTp hfp hOl hb hbl
  refine callsIn_of_wp_marks Tryd.func121 rfl trivial ?_ rfl
  simp only [Tryd.ntmps121, List.size_toArray, List.length_cons, List.length_nil, Nat.reduceAdd, Nat.reduceSub, Array.replicate_succ, Array.replicate_zero, List.push_toArray, List.append_toArray, List.nil_append, List.cons_append]
  gi_wp2_with (fail)
  refine wpIn_region_quiet_lit rfl (by kernel_rfl) (by kernel_rfl) ?_
  repeat (
    refine wpQuietIn_step (fun _ _ _ _ => trivial) (fun K hK => ?_)
    go_simp
    first
      | (refine hK _ ?_; clear hK K)
      | (apply Exists.intro
         refine ⟨fun _ => ?_, hK _ ?_⟩
         (fail)
         clear hK K))
  refine wpQuietIn_nil ?_
  rintro _ ⟨q1, rfl⟩
  obtain ⟨W1, hW1⟩ : ∃ W1, (W.alloc (.cells #[.func (.yield l) #[] #[]] 68)).drewN q1 = W1 := ⟨_, rfl⟩
  have b1 : Below W.heap.size W W1 := by rw [← hW1]; exact below_drw ((Below.refl _ _).alloc (Nat.le_refl _) _) q1
  have kY : Blk W1 Y 68 #[.func (.yield l) #[] #[]] := by rw [← hW1, ← hYe]; exact (Blk.new W _ _).drewN q1
  rw [hW1]
  clear hW1 x1 x11 x12
  replace x3 := (b1.cell (p := ⟨x.b, 3, none⟩) (show x.b < W.heap.size by omega)).trans x3
  replace x4 := (b1.cell (p := ⟨x.b, 4, none⟩) (show x.b < W.heap.size by omega)).trans x4
  replace x5 := (b1.cell (p := ⟨x.b, 5, none⟩) (show x.b < W.heap.size by omega)).trans x5
  replace x6 := (b1.cell (p := ⟨x.b, 6, none⟩) (show x.b < W.heap.size by omega)).trans x6
  replace x15 := (b1.cell (p := ⟨x.b, 15, none⟩) (show x.b < W.heap.size by omega)).trans x15
  have i1 := index3a W1
  have i2 := index3b W1
  have i3 := index3c W1
  gi_wp2_with (fail)
  gi_loopw [26] (fun v wr => (v = .int .i64 0 ∨ v = .int .i64 1 ∨ v = .int .i64 2 ∨ v = .int .i64 3) ∧ wr = W1) (fun v _ => (3 - intOf v).toNat)
  case atStart => exact ⟨.inl rfl, rfl⟩
  case round =>
    obtain ⟨hv, rfl⟩ := hrel
    rcases hv with rfl | rfl | rfl | rfl
    · gi_wp2_with (first | (refine wpListIn_skip (by rfl) (by rfl) ?_) | fail)
      go_roundw
      case rel => simp
      case measure => decide
    · gi_wp2_with (first | (refine wpListIn_skip (by rfl) (by rfl) ?_) | fail)
      go_roundw
      case rel => simp
      case measure => decide
    · gi_wp2_with (first | (refine wpListIn_skip (by rfl) (by rfl) ?_) | fail)
      go_roundw
      case rel => simp
      case measure => decide
    · have y0 : wr.cell? ⟨Y, 0, none⟩ = some (.func (.yield l) #[] #[]) := by rw [kY.cell]; rfl
      have hb1 : x.b < wr.heap.size := Nat.lt_of_lt_of_le (show x.b < W.heap.size by omega) b1.size
      have hY1 := kY.lt
      have D1 := fun r k => CallsIn.mono (F := Fence.wide) (n := r) (callsIn_wide.2 (held_nil (.func (.yield l) #[] #[]) (wr.drewN k))) (R' := fun e w'' => e = .returned (.bool true) ∧ ∃ m, w'' = wr.drewN m) (fun e w'' h => ⟨h.1, k, h.2⟩)
      clear i1 i2 i3
      gi_wp2_with (fail)
      refine wpIn_region_quiet_lit rfl (by kernel_rfl) (by kernel_rfl) ?_
      repeat (
        refine wpQuietIn_step (fun _ _ _ _ => trivial) (fun K hK => ?_)
        go_simp
        first
          | (refine hK _ ?_; clear hK K)
          | (apply Exists.intro
             refine ⟨fun _ => ?_, hK _ ?_⟩
             (first | with_reducible exact D1 _ _ | exact ⟨trivial, D1 _ _⟩ | exact D1 _ _)
             clear hK K))
      refine wpQuietIn_nil ?_
      rintro _ ⟨q2, rfl⟩
      obtain ⟨W3, hW3⟩ : ∃ W3, wr.drewN q2 = W3 := ⟨_, rfl⟩
      have b3 : Below W.heap.size W W3 := by rw [← hW3]; exact below_drw b1 q2
      replace x3 : W3.cell? ⟨x.b, 3, none⟩ = some (.pointer (some ⟨x.T, 0, none⟩)) := by rw [← hW3]; exact x3
      replace x6 : W3.cell? ⟨x.b, 6, none⟩ = some (tpV x.tb) := by rw [← hW3]; exact x6
      replace x15 : W3.cell? ⟨x.b, 15, none⟩ = some .nilIface := by rw [← hW3]; exact x15
      replace kY : Blk W3 Y 68 #[.func (.yield l) #[] #[]] := by rw [← hW3]; exact kY.drewN q2
      replace hb1 : x.b < W3.heap.size := by rw [← hW3]; exact hb1
      replace hY1 := kY.lt
      rw [hW3]
      clear hW3 b1 y0 x4 x5 D1
      gi_wp2_with (fail)
      rcases hw with hn | hn
      · have x6' : W3.cell? ⟨x.b, 6, none⟩ = some (.pointer none) := by rw [x6, hn]; rfl
        clear x6
        refine wpIn_wide.2 ?_
        go_region
        gi_wp2_with (fail)
        refine wpIn_loop_rounds 3 ?_
        rw [roundsIn_succ]
        gi_wp2_with (refine ⟨trivial, ?_⟩; gi_at_call 55; refine (callsIn_wide.2 (all_fn x.T _)).mono ?_; rintro e w2 ⟨rfl, rfl⟩)
        obtain ⟨R, hR⟩ : ∃ R, W3.heap.size = R := ⟨_, rfl⟩
        obtain ⟨W5, hW5⟩ : ∃ W5, ((W3.alloc (.cells #[.pointer (some ⟨x.T, 0, none⟩), .pointer none] 44)).alloc (.cells #[.pointer (some ⟨x.T, 0, none⟩)] 44)).drew = W5 := ⟨_, rfl⟩
        have b35 : Below W3.heap.size W3 W5 := by rw [← hW5]; exact (((Below.refl _ _).alloc (Nat.le_refl _) _).alloc (by simp) _).drew
        have kR : Blk W5 R 44 #[.pointer (some ⟨x.T, 0, none⟩), .pointer none] := by rw [← hW5, ← hR]; exact ((Blk.new W3 _ _).alloc _).drew
        have kB : Blk W5 (R + 1) 44 #[.pointer (some ⟨x.T, 0, none⟩)] := by
          rw [← hW5, ← hR]
          have := Blk.new (W3.alloc (.cells #[.pointer (some ⟨x.T, 0, none⟩), .pointer none] 44)) 44 #[.pointer (some ⟨x.T, 0, none⟩)]
          rw [World.size_alloc] at this
          exact this.drew
        have b5 : Below W.heap.size W W5 := b3.trans (b35.mono b3.size)
        obtain ⟨hs, ho, hTp, hOl, hb, hfp⟩ := HS.out
        have ownl : ∀ j, bL st j → ∀ k, own j k → k < Y := fun j hj k hk => by rw [← hYe]; exact hs.lt j hj k hk
        have hYR : Y ≤ R := by rw [← hYe, ← hR]; exact b3.size
        have kx : Blk W5 x.b 51 (obC x fv) := hb.below b5 hb.lt
        have hnx : ¬ own (1, i) x.b := fun h => by
          obtain ⟨y, fv', h1, h2, h3, h4⟩ := hs.holds (0, i) hi
          rw [hx] at h1; cases h1
          exact hs.sep (0, i) (1, i) hi hp (by simp) x.b ((h4 _).2 (.inl rfl)) h
        rw [hW5]
        try rw [hR]
        refine wpIn_wide.2 (range_empty rfl x.T (R + 1) (own (1, i)) (by first | rfl | kernel_rfl) kB (hTp.below b5) ?_)
        intro D1 V O' hD hnD hdk hTV hO' uV
        have hRV := uV.blk kR (fun h => by have := ownl (1, i) hp R h; omega)
        have hxV := uV.blk kx hnx
        have r1 : V.cell? ⟨R, 1, none⟩ = some (.pointer none) := by rw [hRV.cell]; rfl
        have r2 := hRV.lt
        have e15 : V.cell? ⟨x.b, 15, none⟩ = some .nilIface := by rw [hxV.cell]; rfl
        have e16 := hxV.lt
        have sz5 : W5.heap.size = R + 2 := by rw [← hW5, ← hR]; simp
        have HV := Lib.hid (And.intro hTV (And.intro hO' (And.intro uV (And.intro hdk (And.intro hnD (And.intro b5 ownl))))))
        clear hW5 kR kB kx hRV hxV hTV hO' uV hdk hnD b5 ownl b35 x3 x15 x6' hs ho hTp hOl hb hfp hnx
        gi_wp2_with (fail)
        rw [roundsIn_succ]
        gi_wp2_with (fail)
        rw [roundsIn_succ]
        gi_wp2_with (fail)
        obtain ⟨hs, ho, hTp, hOl, hb, hfp⟩ := HS.out
        obtain ⟨hTV, hO', uV, hdk, hnD, b5, ownl⟩ := HV.out
        obtain ⟨O3, hT3, hf3, hs3⟩ := tab_fit hTV
        have uWV : Upd W V (own (1, i)) := (Upd.of_below_all b5).trans uV
        have hlow : ∀ k, O3 k → own (1, i) k ∨ R + 2 ≤ k := fun k hk => (hO' k (hs3 k hk)).imp id (fun e => by omega)
        have hb3 := bS.back (hs.rest (bStab st) hp uWV (fun k hk => .inl hk)) hp (show bC st (1, i) O3 V from ⟨x, hx, hT3, hf3⟩) (fun j hj hne k hk hok => by
          rcases hlow k hok with e | e
          · exact hs.sep j (1, i) hj hp hne k hk e
          · have := ownl j hj k hk; omega)
        obtain ⟨O4, hO4⟩ : ∃ O4, (fun k => allOf (fun j => bL st j ∧ j ≠ (1, i)) own k ∨ O3 k) = O4 := ⟨_, rfl⟩
        have hD4 : ¬ O4 D1 := by
          rw [← hO4]
          rintro (⟨j, hj, hk⟩ | hk)
          · have := ownl j hj.1 D1 hk; omega
          · exact hnD (hs3 D1 hk)
        have hsub4 : ∀ k, O4 k → O k ∨ R + 2 ≤ k := fun k hk => by
          rw [← hO4] at hk
          rcases hk with ⟨j, hj, hk⟩ | hk
          · exact .inl ((ho k).2 ⟨j, hj.1, hk⟩)
          · exact (hlow k hk).imp (fun e => (ho k).2 ⟨(1, i), hp, e⟩) id
        rw [hO4] at hb3
        have hlt4 : ∀ k, O4 k → k < V.heap.size := fun k hk => hb3.fit.lt hk
        have hDV : D1 < V.heap.size := (Array.getElem?_eq_some_iff.1 hdk).1
        have hJ0 := HJ.out.2.2.2 (fun k => O k ∨ (R + 2 ≤ k ∧ k < V.heap.size)) V (uWV.mono fun k _ e => (ho k).2 ⟨(1, i), hp, e⟩) (fun k hk => hk.imp id (fun e => by omega)) (fun k hk => hk.elim (fun e => Nat.lt_of_lt_of_le (hOl k e) uWV.size) (fun e => e.2))
        refine marksOf (I := fun V1 => J (fun k => O k ∨ (R + 2 ≤ k ∧ k < V.heap.size)) [] V1 ∧ bS st O4 V1) [D1] ?_ ?_ [D1] V (fun _ h => h) (by simp) (fun E hE => by rw [List.mem_singleton.1 hE]; exact hdk) ⟨hJ0, hb3⟩
        · intro V1 E o h1 hE
          obtain rfl : E = D1 := List.mem_singleton.1 hE
          exact ⟨HJ.out.1 _ _ _ _ h1.1 ((Upd.put V1 E o).mono fun k _ e => .inr (by omega)), h1.2.keep (Upd.put V1 E o) (fun k hk e => hD4 (e ▸ hk))⟩
        · intro V1 h1
          exact ⟨_, results_none rfl _ _ _, ⟨_, rfl⟩, (fun k => O k ∨ (R + 2 ≤ k ∧ k < V.heap.size)), ⟨O4, by rw [hXS]; exact h1.2, fun k hk => (hsub4 k hk).imp id (fun e => ⟨e, hlt4 k hk⟩)⟩, .inl (by rw [← HXX.out, if_pos hn]; exact h1.1)⟩
      · have x6' : W3.cell? ⟨x.b, 6, none⟩ = some (.pointer (some ⟨st.Ts, 0, none⟩)) := by rw [x6, hn]; rfl
        clear x6
        refine wpIn_wide.2 ?_
        go_region
        gi_wp2_with (fail)
        refine wpIn_loop_rounds 3 ?_
        rw [roundsIn_succ]
        gi_wp2_with (refine ⟨trivial, ?_⟩; gi_at_call 55; refine (callsIn_wide.2 (all_fn x.T _)).mono ?_; rintro e w2 ⟨rfl, rfl⟩)
        obtain ⟨R, hR⟩ : ∃ R, W3.heap.size = R := ⟨_, rfl⟩
        obtain ⟨W5, hW5⟩ : ∃ W5, ((W3.alloc (.cells #[.pointer (some ⟨x.T, 0, none⟩), .pointer (some ⟨st.Ts, 0, none⟩)] 44)).alloc (.cells #[.pointer (some ⟨x.T, 0, none⟩)] 44)).drew = W5 := ⟨_, rfl⟩
        have b35 : Below W3.heap.size W3 W5 := by rw [← hW5]; exact (((Below.refl _ _).alloc (Nat.le_refl _) _).alloc (by simp) _).drew
        have kR : Blk W5 R 44 #[.pointer (some ⟨x.T, 0, none⟩), .pointer (some ⟨st.Ts, 0, none⟩)] := by rw [← hW5, ← hR]; exact ((Blk.new W3 _ _).alloc _).drew
        have kB : Blk W5 (R + 1) 44 #[.pointer (some ⟨x.T, 0, none⟩)] := by
          rw [← hW5, ← hR]
          have := Blk.new (W3.alloc (.cells #[.pointer (some ⟨x.T, 0, none⟩), .pointer (some ⟨st.Ts, 0, none⟩)] 44)) 44 #[.pointer (some ⟨x.T, 0, none⟩)]
          rw [World.size_alloc] at this
          exact this.drew
        have b5 : Below W.heap.size W W5 := b3.trans (b35.mono b3.size)
        obtain ⟨hs, ho, hTp, hOl, hb, hfp⟩ := HS.out
        have ownl : ∀ j, bL st j → ∀ k, own j k → k < Y := fun j hj k hk => by rw [← hYe]; exact hs.lt j hj k hk
        have hYR : Y ≤ R := by rw [← hYe, ← hR]; exact b3.size
        have kx : Blk W5 x.b 51 (obC x fv) := hb.below b5 hb.lt
        have hnx : ¬ own (1, i) x.b := fun h => by
          obtain ⟨y, fv', h1, h2, h3, h4⟩ := hs.holds (0, i) hi
          rw [hx] at h1; cases h1
          exact hs.sep (0, i) (1, i) hi hp (by simp) x.b ((h4 _).2 (.inl rfl)) h
        rw [hW5]
        try rw [hR]
        refine wpIn_wide.2 (range_empty rfl x.T (R + 1) (own (1, i)) (by first | rfl | kernel_rfl) kB (hTp.below b5) ?_)
        intro D1 V O' hD hnD hdk hTV hO' uV
        have hRV := uV.blk kR (fun h => by have := ownl (1, i) hp R h; omega)
        have hxV := uV.blk kx hnx
        have r1 : V.cell? ⟨R, 1, none⟩ = some (.pointer (some ⟨st.Ts, 0, none⟩)) := by rw [hRV.cell]; rfl
        have r2 := hRV.lt
        have e15 : V.cell? ⟨x.b, 15, none⟩ = some .nilIface := by rw [hxV.cell]; rfl
        have e16 := hxV.lt
        have sz5 : W5.heap.size = R + 2 := by rw [← hW5, ← hR]; simp
        have HV := Lib.hid (And.intro hTV (And.intro hO' (And.intro uV (And.intro hdk (And.intro hnD (And.intro b5 (And.intro ownl (uV.blk (kY.below b35 kY.lt) (fun h => Nat.lt_irrefl _ (ownl (1, i) hp Y h))))))))))
        clear hW5 kR kB kx hRV hxV hTV hO' uV hdk hnD b5 ownl b35 x3 x15 x6' hs ho hTp hOl hb hfp hnx
        gi_wp2_with (fail)
        rw [roundsIn_succ]
        gi_wp2_with (refine ⟨trivial, ?_⟩; gi_at_call 55; refine (callsIn_wide.2 (all_fn st.Ts _)).mono ?_; rintro e w2 ⟨rfl, rfl⟩)
        obtain ⟨hs, ho, hTp, hOl, hb, hfp⟩ := HS.out
        obtain ⟨hTV, hO', uV, hdk, hnD, b5, ownl, kYV⟩ := HV.out
        obtain ⟨O3, hT3, hf3, hs3⟩ := tab_fit hTV
        have uWV : Upd W V (own (1, i)) := (Upd.of_below_all b5).trans uV
        have hlow : ∀ k, O3 k → own (1, i) k ∨ R + 2 ≤ k := fun k hk => (hO' k (hs3 k hk)).imp id (fun e => by omega)
        have hb3 := bS.back (hs.rest (bStab st) hp uWV (fun k hk => .inl hk)) hp (show bC st (1, i) O3 V from ⟨x, hx, hT3, hf3⟩) (fun j hj hne k hk hok => by
          rcases hlow k hok with e | e
          · exact hs.sep j (1, i) hj hp hne k hk e
          · have := ownl j hj k hk; omega)
        obtain ⟨O4, hO4⟩ : ∃ O4, (fun k => allOf (fun j => bL st j ∧ j ≠ (1, i)) own k ∨ O3 k) = O4 := ⟨_, rfl⟩
        have hD4 : ¬ O4 D1 := by
          rw [← hO4]
          rintro (⟨j, hj, hk⟩ | hk)
          · have := ownl j hj.1 D1 hk; omega
          · exact hnD (hs3 D1 hk)
        have hsub4 : ∀ k, O4 k → O k ∨ R + 2 ≤ k := fun k hk => by
          rw [← hO4] at hk
          rcases hk with ⟨j, hj, hk⟩ | hk
          · exact .inl ((ho k).2 ⟨j, hj.1, hk⟩)
          · exact (hlow k hk).imp (fun e => (ho k).2 ⟨(1, i), hp, e⟩) id
        rw [hO4] at hb3
        have hlt4 : ∀ k, O4 k → k < V.heap.size := fun k hk => hb3.fit.lt hk
        have hDV : D1 < V.heap.size := (Array.getElem?_eq_some_iff.1 hdk).1
        have uWO : Upd W V O := uWV.mono fun k _ e => (ho k).2 ⟨(1, i), hp, e⟩
        obtain ⟨own2, hs2, ho2⟩ := hb3
        obtain ⟨B2, hB2⟩ : ∃ B2, V.heap.size = B2 := ⟨_, rfl⟩
        have hT2 : TabA V st.Ts st.tl [] (own2 (3, 0)) := (hs2.holds (3, 0) rfl).1
        obtain ⟨W7, hW7⟩ : ∃ W7, V.alloc (.cells #[.pointer (some ⟨st.Ts, 0, none⟩)] 44) = W7 := ⟨_, rfl⟩
        have b7 : Below V.heap.size V W7 := by rw [← hW7]; exact (Below.refl _ _).alloc (Nat.le_refl _) _
        have kB2 : Blk W7 B2 44 #[.pointer (some ⟨st.Ts, 0, none⟩)] := by rw [← hW7, ← hB2]; exact Blk.new V _ _
        have sz7 : W7.heap.size = B2 + 1 := by rw [← hW7, ← hB2]; simp
        have hs7 := hs2.below (bStab st) b7
        have hT7 := hT2.below b7
        have kY7 := kYV.below b7 kYV.lt
        have hd7 : W7.heap[D1]? = some (.deferred (some [])) := (b7.block D1 hDV).trans hdk
        have own2l : ∀ j, bL st j → ∀ k, own2 j k → k < B2 := fun j hj k hk => by rw [← hB2]; exact hs2.lt j hj k hk
        have own2O : ∀ j, bL st j → ∀ k, own2 j k → O4 k := fun j hj k hk => (ho2 k).2 ⟨j, hj, hk⟩
        have hY2 : ∀ j, bL st j → ¬ own2 j Y := fun j hj h => by
          rcases hsub4 Y (own2O j hj Y h) with e | e
          · have := hOl Y e; omega
          · omega
        have hif : xs = st.tl.flatMap refsOf := by rw [← HXX.out, hn]; rfl
        obtain ⟨OB, hOB⟩ : ∃ OB : Nat → Prop, OB = fun k => O k ∨ O4 k ∨ k = Y ∨ k = D1 ∨ k = W7.heap.size ∨ k = W7.heap.size + 1 := ⟨_, rfl⟩
        have H7 := Lib.hid (And.intro hs7 (And.intro hT7 (And.intro kY7 (And.intro kB2 (And.intro own2l (And.intro hs2.sep (And.intro hd7 own2O)))))))
        have H8 := Lib.hid (And.intro hsub4 (And.intro hlt4 (And.intro hD4 (And.intro hDV (And.intro uWO (And.intro b7 (And.intro hif (And.intro hOl hY2))))))))
        have HOB := Lib.hid hOB
        have hnI : ∀ (O1 : Nat → Prop) (JJ : World → Prop) (V1 : World), RgI st own2 (3, 0) W7 Y 68 l JJ O1 V1 → (∀ j, bL st j → j ≠ (3, 0) → ∀ k, own2 j k → ¬ O1 k) ∧ ¬ O1 Y ∧ ¬ O1 D1 := fun O1 JJ V1 h => by
          refine ⟨fun j hj hne k hk e => ?_, fun e => ?_, fun e => ?_⟩
          · rcases h.o k e with e | e
            · exact hs2.sep j (3, 0) hj rfl hne k hk e
            · have := own2l j hj k hk; omega
          · rcases h.o Y e with e | e
            · exact hY2 (3, 0) rfl e
            · have := kY7.lt; omega
          · rcases h.o D1 e with e | e
            · exact hD4 (own2O (3, 0) rfl D1 e)
            · omega
        have HN := Lib.hid hnI
        rw [hW7]
        try rw [hB2]
        clear hnI hW7 hTV hO' uV hdk hnD b5 ownl kYV hT3 hf3 hs3 uWV hlow hO4 hs2 ho2 hT2 kB2 hs7 hT7 kY7 hd7 own2O hY2 hif hOB hsub4 hlt4 hD4 uWO b7 hs ho hTp hOl hb hfp own2l r1 e15
        refine wpIn_range_b (F := Fence.wide) (n := 8) rfl (by decide) (gf := 77) (argsOf := fun l => #[.func (.yield l) #[] #[], .pointer (some ⟨B2, 0, none⟩)]) ?res (encs := fun x : Ent => #[VK x.key, VK x.val]) (fun _ => rfl) st.tl False (own2 (3, 0)) ?lt0 (AllFin st.Ts st.tl []) ?seq (fun O1 W' l o hF hl => hF.put hl o)
          (fun O1 pre W' => RgI st own2 (3, 0) W7 Y 68 l (fun W' => ∃ Ow, J Ow (pre.flatMap refsOf) W' ∧ (∀ k, OB k ∨ O1 k → Ow k) ∧ (∀ k, Ow k → k < W'.heap.size) ∧ W'.heap[D1]? = some (.deferred (some []))) O1 W') (fun _ _ _ _ => False) (fun _ _ _ _ h => h) ?iup ?igr (fun _ _ _ _ _ h _ => h) ?iput (fun _ _ _ _ _ _ _ h _ _ _ => h) ?h0
          (fun O1 pre e a' W' => ∃ b1 b2 Ow, a' = ⟨#[.pointer (some ⟨x.b, 0, none⟩), .func (.yield l) #[] #[], undef, .pointer (some ⟨Y, 0, none⟩), undef, u5, undef, .pointer (some ⟨st.Ts, 0, none⟩), .pointer (some ⟨b1, 0, none⟩), .pointer (some ⟨b2, 0, none⟩), undef, undef, undef, .pointer (some ⟨x.b, 0, none⟩), .pointer (some ⟨x.b, 0, none⟩), .pointer (some ⟨x.b, 1, none⟩), .int .i64 0, .pointer (some ⟨x.b, 0, none⟩), .pointer (some ⟨x.b, 0, none⟩), .pointer (some ⟨x.b, 11, none⟩), .int .i64 0, .pointer (some ⟨x.b, 0, none⟩), .pointer (some ⟨x.b, 0, none⟩), .pointer (some ⟨x.b, 12, none⟩), .int .i64 0, .agg #[.int .i64 0, .int .i64 0, .int .i64 0], .int .i64 3, .bool false, u28, u29, u30, u31, u32, u33, u34, u35, u36, u37, .pointer (some ⟨x.b, 0, none⟩), .pointer (some ⟨x.b, 0, none⟩), .pointer (some ⟨x.b, 4, none⟩), .slice none 0 0, .func (.yield l) #[] #[], .bool true, .bool false, .bool false, .pointer (some ⟨x.b, 0, none⟩), .pointer (some ⟨x.b, 0, none⟩), .pointer (some ⟨x.b, 5, none⟩), .slice none 0 0, .func (.yield l) #[] #[], .bool true, .bool false, .bool false, .pointer (some ⟨x.b, 0, none⟩), .pointer (some ⟨x.b, 0, none⟩), .pointer (some ⟨x.b, 3, none⟩), .pointer (some ⟨x.T, 0, none⟩), .pointer (some ⟨x.b, 0, none⟩), .pointer (some ⟨x.b, 0, none⟩), .pointer (some ⟨x.b, 6, none⟩), .pointer (some ⟨st.Ts, 0, none⟩), .slice (some ⟨R, 0, none⟩) 2 2, .int .i64 2, .int .i64 1, .bool true, .pointer (some ⟨R, 1, none⟩), .pointer (some ⟨st.Ts, 0, none⟩), .pointer (some ⟨st.Ts, 0, none⟩), .bool false, .pointer (some ⟨st.Ts, 0, none⟩), .func (.func 77) #[] #[.pointer (some ⟨B2, 0, none⟩)], VK e.key, VK e.val, undef, undef, undef, undef, undef, undef, undef, undef, undef, undef, undef, undef, undef, undef, undef, undef, undef, undef, undef, undef, .int .i64 1, undef, undef, undef, undef, undef, undef, undef, undef, undef, undef, undef, undef, undef, undef, undef, undef], []⟩ ∧ Blk W' b1 34 #[.int .i64 e.key.1, .int .i64 e.key.2.1, .string e.key.2.2] ∧ Blk W' b2 34 #[.int .i64 e.val.1, .int .i64 e.val.2.1, .string e.val.2.2] ∧ J Ow (pre.flatMap refsOf) W' ∧ Ow b1 ∧ Ow b2 ∧ (∀ k, OB k ∨ O1 k → Ow k) ∧ (∀ k, Ow k → k < W'.heap.size)) ?ax ?assign ?body ?done (fun _ _ _ _ _ _ _ _ h _ => h.elim)
        case res => exact fun l W => ⟨({ target := .fn (.func 77) #[.pointer (some ⟨B2, 0, none⟩)], args := #[.func (.yield l) #[] #[]] } : Deferred), by kernel_rfl, fun _ _ => trivial, by kernel_rfl⟩
        case lt0 => exact fun k hk => by have := H7.out.2.2.2.2.1 (3, 0) rfl k hk; omega
        case seq => exact fun l W' u => all_b 7 (by decide) l st.Ts st.tl [] (own2 (3, 0)) False W' B2 (u.blk H7.out.2.2.2.1 (fun h => h)) (H7.out.2.1.upd u (fun _ _ h => h)) (by omega) (by simp)
        case iup =>
          intro O1 pre V1 V2 h u
          obtain ⟨Ow, j1, j2, j3, j4⟩ := h.j
          exact h.upd u ⟨Ow, HJ.out.1 _ _ _ _ j1 (u.mono fun k _ e => j2 k (.inr e)), j2, fun k hk => Nat.lt_of_lt_of_le (j3 k hk) u.size, (u.block D1 (Array.getElem?_eq_some_iff.1 j4).1 (HN.out O1 _ V1 h).2.2).trans j4⟩ (HN.out O1 _ V1 h).1 (HN.out O1 _ V1 h).2.1
        case igr =>
          intro O1 O1' pre V1 V2 h u g1 g2 g3
          obtain ⟨Ow, j1, j2, j3, j4⟩ := h.j
          refine h.grow u ⟨fun k => Ow k ∨ O1' k, HG.out _ _ _ _ _ j1 (u.mono fun k _ e => j2 k (.inr e)) (fun k hk => .inl hk) (fun k hk => ?_) (fun k hk => ?_), fun k hk => ?_, fun k hk => ?_, (u.block D1 (Array.getElem?_eq_some_iff.1 j4).1 (HN.out O1 _ V1 h).2.2).trans j4⟩ (HN.out O1 _ V1 h).1 (HN.out O1 _ V1 h).2.1 g2
          · exact hk.elim .inl (fun e => (g2 k e).imp (fun e => j2 k (.inr e)) id)
          · exact hk.elim (fun e => Nat.lt_of_lt_of_le (j3 k e) u.size) (g3 k)
          · exact hk.elim (fun e => .inl (j2 k (.inl e))) .inr
          · exact hk.elim (fun e => Nat.lt_of_lt_of_le (j3 k e) u.size) (g3 k)
        case iput =>
          intro O1 pre V1 l' o o' h hl hk ho'
          obtain ⟨Ow, j1, j2, j3, j4⟩ := h.j
          have hY7 := H7.out.2.2.1.lt
          have hDV := H8.out.2.2.2.1
          refine h.upd (Upd.put V1 l' o') ⟨Ow, HJ.out.1 _ _ _ _ j1 ((Upd.put V1 l' o').mono fun k _ e => j2 k (.inl (by rw [HOB.out]; exact .inr (.inr (.inr (.inr (.inr (by omega)))))))), j2, fun k hk => by simpa using j3 k hk, (World.putObj_heap_other (by omega)).trans j4⟩ (fun j hj hne k hk e => ?_) (fun e => by omega)
          have := H7.out.2.2.2.2.1 j hj k hk
          omega
        case h0 =>
          intro O1 V1 u hsz hO1 hlt
          obtain ⟨hsub4, hlt4, hD4, hDV, uWO, b7, hif, hOl, hY2⟩ := H8.out
          have hY7 := H7.out.2.2.1.lt
          have uo : Upd W V1 O := by
            have h1 : Upd W V1 (fun k => O k ∨ Y ≤ k) := ((uWO.mono fun k _ e => .inl e).trans (Upd.of_below_all b7)).trans (u.mono fun k _ e => (hsub4 k (H7.out.2.2.2.2.2.2.2 (3, 0) rfl k e)).imp id (fun e => by omega))
            exact h1.mono fun k hk e => e.resolve_right (by omega)
          refine ⟨⟨fun k => OB k ∨ O1 k, HJ.out.2.2.2 _ V1 uo (fun k hk => ?_) (fun k hk => ?_), fun k hk => hk, fun k hk => ?_, (u.block D1 (by omega) (fun e => hD4 (H7.out.2.2.2.2.2.2.2 (3, 0) rfl D1 e))).trans H7.out.2.2.2.2.2.2.1⟩, ?_, u.blk H7.out.2.2.1 (fun e => hY2 (3, 0) rfl e), hO1, hsz⟩
          · rcases hk with e | e
            · rw [HOB.out] at e
              rcases e with e | e | e | e | e | e
              · exact .inl e
              · exact (hsub4 k e).imp id (fun e => by omega)
              · exact .inr (by omega)
              · exact .inr (by omega)
              · exact .inr (by omega)
              · exact .inr (by omega)
            · rcases hO1 k e with e | e
              · exact (hsub4 k (H7.out.2.2.2.2.2.2.2 (3, 0) rfl k e)).imp id (fun e => by omega)
              · exact .inr (by omega)
          · rcases hk with e | e
            · rw [HOB.out] at e
              rcases e with e | e | e | e | e | e
              · have := hOl k e; omega
              · have := hlt4 k e; omega
              · omega
              · omega
              · omega
              · omega
            · exact hlt k e
          · rcases hk with e | e
            · rw [HOB.out] at e
              rcases e with e | e | e | e | e | e
              · have := hOl k e; omega
              · have := hlt4 k e; omega
              · omega
              · omega
              · omega
              · omega
            · exact hlt k e
          · exact H7.out.1.rest (bStab st) (show bL st (3, 0) from rfl) u (fun k hk => .inl hk)
        case ax =>
          rintro O1 pre e a' V1 l' o o' ⟨b1, b2, Ow, rfl, k1, k2, j1, q1, q2, j2, j3⟩ hl hk ho'
          have nb : ∀ {g : Nat} {t : TypeId} {xs : Array Value}, Blk V1 g t xs → ¬ g = l' := fun hb e => by subst e; rw [show V1.heap[_]? = _ from hb] at hk; cases hk; cases ho'
          exact ⟨b1, b2, Ow, rfl, (Upd.put V1 l' o').blk k1 (nb k1), (Upd.put V1 l' o').blk k2 (nb k2), HJ.out.1 _ _ _ _ j1 ((Upd.put V1 l' o').mono fun k _ e => j2 k (.inl (by rw [HOB.out]; exact .inr (.inr (.inr (.inr (.inr (by omega)))))))), q1, q2, j2, fun k hk => by simpa using j3 k hk⟩
        case assign =>
          intro l' O1 pre e V1 K1 hI1 _ hK1
          gi_wp2
          have b1 := ((Below.refl V1.heap.size V1).alloc (Nat.le_refl _) (.cells #[.int .i64 e.key.1, .int .i64 e.key.2.1, .string e.key.2.2] 34))
          have b2 := b1.alloc (by simp) (.cells #[.int .i64 e.val.1, .int .i64 e.val.2.1, .string e.val.2.2] 34)
          obtain ⟨Ow, j1, j2, j3, j4⟩ := hI1.j
          have szb : ((V1.alloc (.cells #[.int .i64 e.key.1, .int .i64 e.key.2.1, .string e.key.2.2] 34)).alloc (.cells #[.int .i64 e.val.1, .int .i64 e.val.2.1, .string e.val.2.2] 34)).heap.size = V1.heap.size + 2 := by simp
          have k2 := Blk.new (V1.alloc (.cells #[.int .i64 e.key.1, .int .i64 e.key.2.1, .string e.key.2.2] 34)) 34 #[.int .i64 e.val.1, .int .i64 e.val.2.1, .string e.val.2.2]
          rw [World.size_alloc] at k2
          refine hK1 _ _ ((KeepsOthers.alloc _ _).trans (KeepsOthers.alloc _ _)) (Upd.of_below_all b2) (hI1.upd (Upd.of_below_all b2 (M := fun _ => False)) ⟨Ow, HJ.out.1 _ _ _ _ j1 (Upd.of_below_all b2), j2, fun k hk => Nat.lt_of_lt_of_le (j3 k hk) b2.size, (b2.block D1 (Array.getElem?_eq_some_iff.1 j4).1).trans j4⟩ (fun _ _ _ _ _ h => h) (fun h => h)) ⟨V1.heap.size, V1.heap.size + 1, fun k => Ow k ∨ (V1.heap.size ≤ k ∧ k < V1.heap.size + 2), rfl, (Blk.new V1 _ _).alloc _, k2, HG.out _ _ _ _ _ j1 (Upd.of_below_all b2) (fun k hk => .inl hk) (fun k hk => hk.imp id And.left) (fun k hk => ?_), .inr (by omega), .inr (by omega), fun k hk => .inl (j2 k hk), fun k hk => ?_⟩
          · rw [szb]; exact hk.elim (fun e => by have := j3 k e; omega) And.right
          · rw [szb]; exact hk.elim (fun e => by have := j3 k e; omega) And.right
        case body =>
          rintro l' O1 pre e a' V1 hI1 ⟨b1, b2, Ow, rfl, k1, k2, j1, q1, q2, j2, j3⟩ hpre
          obtain ⟨e9, v9, ek, ev⟩ := htl e (hpre.subset (by simp))
          have hpA : (pre.flatMap refsOf ++ [e.key.2.1]) <+: xs := by
            obtain ⟨r, hr⟩ := hpre
            rw [H8.out.2.2.2.2.2.2.1]
            exact ⟨[e.val.2.1] ++ r.flatMap refsOf, by rw [← hr]; simp [refsOf]⟩
          have hpB : ((pre.flatMap refsOf ++ [e.key.2.1]) ++ [e.val.2.1]) <+: xs := by
            obtain ⟨r, hr⟩ := hpre
            rw [H8.out.2.2.2.2.2.2.1]
            exact ⟨r.flatMap refsOf, by rw [← hr]; simp [refsOf]⟩
          have hpm : (pre ++ [e]).flatMap refsOf = (pre.flatMap refsOf ++ [e.key.2.1]) ++ [e.val.2.1] := by simp [refsOf]
          have y0 : V1.cell? ⟨Y, 0, none⟩ = some (.func (.yield l) #[] #[]) := by rw [hI1.y.cell]; rfl
          have c0 : V1.cell? ⟨b1, 0, none⟩ = some (.int .i64 9) := by rw [k1.cell, ← e9]; rfl
          have c1 : V1.cell? ⟨b1, 1, none⟩ = some (.int .i64 e.key.2.1) := by rw [k1.cell]; rfl
          have c2 : V1.cell? ⟨b1, 2, none⟩ = some (.string e.key.2.2) := by rw [k1.cell]; rfl
          have t1 : (e.key.2.1 != 0) = true := by simpa using ek
          have t2 : (e.val.2.1 != 0) = true := by simpa using ev
          have hyA : ∀ V', Upd V1 V' (fun _ => False) → YieldAt Fence.wide 7 Tryd.prog l #[.int .i64 e.key.2.1] V' fun en W' => en = .returned (.bool true) ∧ Upd V' W' (fun k => ¬ Ow k) ∧ KeepsOthers V' W' ∧ J Ow (pre.flatMap refsOf ++ [e.key.2.1]) W' := fun V' uV' => by
            obtain ⟨fn, tmps, assign, body, hy, hR⟩ := HJ.out.2.2.1 _ _ e.key.2.1 V' (HJ.out.1 _ _ _ _ j1 (uV'.mono fun _ _ h => h.elim)) hpA
            refine ⟨fn, tmps, assign, body, hy, hR.mono ?_⟩
            rintro en W' ⟨u, ⟨rfl, hko, hj⟩ | ⟨_, hj⟩⟩
            · exact ⟨rfl, u, hko, hj⟩
            · exact (HJ.out.2.1 _ _ _ hj).elim
          have hyB : ∀ V', J Ow (pre.flatMap refsOf ++ [e.key.2.1]) V' → YieldAt Fence.wide 7 Tryd.prog l #[.int .i64 e.val.2.1] V' fun en W' => en = .returned (.bool true) ∧ Upd V' W' (fun k => ¬ Ow k) ∧ KeepsOthers V' W' ∧ J Ow ((pre.flatMap refsOf ++ [e.key.2.1]) ++ [e.val.2.1]) W' := fun V' j' => by
            obtain ⟨fn, tmps, assign, body, hy, hR⟩ := HJ.out.2.2.1 _ _ e.val.2.1 V' j' hpB
            refine ⟨fn, tmps, assign, body, hy, hR.mono ?_⟩
            rintro en W' ⟨u, ⟨rfl, hko, hj⟩ | ⟨_, hj⟩⟩
            · exact ⟨rfl, u, hko, hj⟩
            · exact (HJ.out.2.1 _ _ _ hj).elim
          have HYA := Lib.hid hyA
          have HYB := Lib.hid hyB
          have HI1 := Lib.hid (And.intro hI1 (And.intro k2 (And.intro q2 (And.intro j2 (And.intro j3 (And.intro hpm v9))))))
          have hOY : Ow Y := j2 Y (.inl (by rw [HOB.out]; exact .inr (.inr (.inl rfl))))
          have HOY := Lib.hid hOY
          clear hyA hyB hI1 k1 k2 q1 q2 j1 j2 j3 hpA hpB hpm e9 v9 ek ev hOY
          gi_wp2_with (fail)
          refine ⟨trivial, ?_⟩
          refine (CallsIn.inRound l' (callsIn_wide.2 (ref_obj e.key.2.1 e.key.2.2 V1))).mono ?_
          rintro en V2 ⟨rfl, bV2⟩
          have u12 : Upd V1 V2 (fun _ => False) := Upd.of_below_all bV2
          have kY2 := u12.blk HI1.out.1.y (fun h => h)
          have y2 : V2.cell? ⟨Y, 0, none⟩ = some (.func (.yield l) #[] #[]) := by rw [kY2.cell]; rfl
          obtain ⟨fn, tmps, assign, body, hy, hR⟩ := HYA.out V2 u12
          have HU2 := Lib.hid (And.intro u12 kY2)
          clear y0 c0 c1 c2 bV2 u12 kY2 HYA
          gi_wp2_with (fail)
          refine (roundIn_any hR).mono ?_
          rintro en V3 ⟨rfl, u3, ko3, jA⟩
          have kY3 := u3.blk HU2.out.2 (fun h => h HOY.out)
          have kb3 := u3.blk (HU2.out.1.blk HI1.out.2.1 (fun h => h)) (fun h => h HI1.out.2.2.1)
          have y3 : V3.cell? ⟨Y, 0, none⟩ = some (.func (.yield l) #[] #[]) := by rw [kY3.cell]; rfl
          have d0 : V3.cell? ⟨b2, 0, none⟩ = some (.int .i64 9) := by rw [kb3.cell, ← HI1.out.2.2.2.2.2.2]; rfl
          have d1 : V3.cell? ⟨b2, 1, none⟩ = some (.int .i64 e.val.2.1) := by rw [kb3.cell]; rfl
          have d2 : V3.cell? ⟨b2, 2, none⟩ = some (.string e.val.2.2) := by rw [kb3.cell]; rfl
          have HU3 := Lib.hid (And.intro u3 (And.intro ko3 (And.intro jA kY3)))
          clear hy hR y2 u3 ko3 jA kY3 kb3
          gi_wp2_with (fail)
          refine ⟨trivial, ?_⟩
          refine (CallsIn.inRound l' (callsIn_wide.2 (ref_obj e.val.2.1 e.val.2.2 V3))).mono ?_
          rintro en V4 ⟨rfl, bV4⟩
          have u34 : ∀ M, Upd V3 V4 M := fun M => Upd.of_below_all bV4
          have kY4 := (u34 (fun _ => False)).blk HU3.out.2.2.2 (fun h => h)
          have y4 : V4.cell? ⟨Y, 0, none⟩ = some (.func (.yield l) #[] #[]) := by rw [kY4.cell]; rfl
          obtain ⟨fn, tmps, assign, body, hy, hR⟩ := HYB.out V4 (HJ.out.1 _ _ _ _ HU3.out.2.2.1 (u34 _))
          have HU4 := Lib.hid u34
          clear y3 d0 d1 d2 bV4 u34 kY4 HYB
          gi_wp2_with (fail)
          refine (roundIn_any hR).mono ?_
          rintro en V5 ⟨rfl, u5, ko5, jB⟩
          have HU5 := Lib.hid (And.intro u5 (And.intro ko5 jB))
          clear hy hR y4 u5 ko5 jB
          gi_wp2
          obtain ⟨hI1, k2, q2, j2, j3, hpm, v9⟩ := HI1.out
          have uall : Upd V1 V5 (fun k => ¬ Ow k) := (((HU2.out.1.mono fun _ _ h => h.elim).trans HU3.out.1).trans (HU4.out _)).trans HU5.out.1
          have kof : ∀ {A B : World}, (∀ M, Upd A B M) → KeepsOthers A B := fun u => ⟨(u (fun _ => False)).size, fun k o hk _ => ((u (fun _ => False)).block k (Array.getElem?_eq_some_iff.1 hk).1 (fun h => h)).trans hk⟩
          refine ⟨(((kof fun M => HU2.out.1.mono fun _ _ h => h.elim).trans HU3.out.2.1).trans (kof HU4.out)).trans HU5.out.2.1, uall.mono fun k _ e hk => e (j2 k (.inr hk)), ?_⟩
          obtain ⟨_, _, _, _, hd1⟩ := hI1.j
          refine hI1.upd uall ⟨Ow, by rw [hpm]; exact HU5.out.2.2, j2, fun k hk => Nat.lt_of_lt_of_le (j3 k hk) uall.size, (uall.block D1 (Array.getElem?_eq_some_iff.1 hd1).1 (fun e => e (j2 D1 (.inl (by rw [HOB.out]; exact .inr (.inr (.inr (.inl rfl)))))))).trans hd1⟩ (fun j hj hne k hk e => e (j2 k (.inl (by rw [HOB.out]; exact .inr (.inl (H7.out.2.2.2.2.2.2.2 j hj k hk)))))) (fun e => e HOY.out)
        case done =>
          intro O1 D2 V5 hD2 hnD2 hF hI hk2
          obtain rfl : D2 = B2 + 1 := by omega
          obtain ⟨D', O', hTF, hsub, _, hlen⟩ := hF
          obtain rfl : D' = [] := List.length_eq_zero_iff.1 (by simpa using hlen)
          obtain ⟨O5, hT5, hf5, hs5⟩ := tab_fit hTF
          obtain ⟨Ow, j1, j2, j3, j4⟩ := hI.j
          have hnn := HN.out O1 _ V5 hI
          have hb5 := bS.back hI.r (show bL st (3, 0) from rfl) (show bC st (3, 0) O5 V5 from ⟨hT5, hf5⟩) (fun j hj hne k hk ho => hnn.1 j hj hne k hk (hsub k (hs5 k ho)))
          obtain ⟨O6, hO6⟩ : ∃ O6, (fun k => allOf (fun j => bL st j ∧ j ≠ (3, 0)) own2 k ∨ O5 k) = O6 := ⟨_, rfl⟩
          have hsub6 : ∀ k, O6 k → Ow k := fun k hk => by
            rw [← hO6] at hk
            rcases hk with ⟨j, hj, hk⟩ | hk
            · exact j2 k (.inl (by rw [HOB.out]; exact .inr (.inl (H7.out.2.2.2.2.2.2.2 j hj.1 k hk))))
            · exact j2 k (.inr (hsub k (hs5 k hk)))
          have hD61 : ¬ O6 D1 := fun hk => by
            rw [← hO6] at hk
            rcases hk with ⟨j, hj, hk⟩ | hk
            · exact H8.out.2.2.1 (H7.out.2.2.2.2.2.2.2 j hj.1 D1 hk)
            · exact hnn.2.2 (hsub D1 (hs5 D1 hk))
          have hD62 : ¬ O6 (B2 + 1) := fun hk => by
            rw [← hO6] at hk
            rcases hk with ⟨j, hj, hk⟩ | hk
            · have := H7.out.2.2.2.2.1 j hj.1 (B2 + 1) hk; omega
            · exact hnD2 (hsub _ (hs5 _ hk))
          rw [hO6] at hb5
          obtain ⟨fv5, kb5⟩ := hb5.obj hx
          have e15 : V5.cell? ⟨x.b, 15, none⟩ = some .nilIface := by rw [kb5.cell]; rfl
          have e16 := kb5.lt
          have hOD1 : Ow D1 := j2 D1 (.inl (by rw [HOB.out]; exact .inr (.inr (.inr (.inl rfl)))))
          have hOD2 : Ow (B2 + 1) := j2 _ (.inl (by rw [HOB.out, hD2]; exact .inr (.inr (.inr (.inr (.inl rfl))))))
          have HF := Lib.hid (And.intro j1 (And.intro hb5 (And.intro hk2 (And.intro j4 (And.intro hsub6 (And.intro hD61 (And.intro hD62 (And.intro hOD1 hOD2))))))))
          clear hTF hsub hlen hT5 hf5 hs5 hb5 hI hk2 hsub6 hD61 hD62 hO6 hnD2 j1 j2 j3 j4 hnn kb5 hOD1 hOD2 hD2
          gi_wp2_with (fail)
          rw [roundsIn_succ]
          gi_wp2_with (fail)
          have hne : ¬ B2 + 1 = D1 := by have := H8.out.2.2.2.1; omega
          refine marksOf (I := fun V => J Ow (st.tl.flatMap refsOf) V ∧ bS st O6 V) [B2 + 1, D1] ?_ ?_ [B2 + 1, D1] V5 (fun _ h => h) (by simp [hne]) (fun E hE => by
            simp only [List.mem_cons, List.not_mem_nil, or_false] at hE
            rcases hE with rfl | rfl
            · exact HF.out.2.2.1
            · exact HF.out.2.2.2.1) ⟨HF.out.1, HF.out.2.1⟩
          · intro V6 E o h1 hE
            simp only [List.mem_cons, List.not_mem_nil, or_false] at hE
            have hOE : Ow E := by
              rcases hE with rfl | rfl
              · exact HF.out.2.2.2.2.2.2.2.2
              · exact HF.out.2.2.2.2.2.2.2.1
            have hE6 : ¬ O6 E := by
              rcases hE with rfl | rfl
              · exact HF.out.2.2.2.2.2.2.1
              · exact HF.out.2.2.2.2.2.1
            exact ⟨HJ.out.1 _ _ _ _ h1.1 ((Upd.put V6 E o).mono fun k _ e => by rw [e]; exact hOE), h1.2.keep (Upd.put V6 E o) (fun k hk e => hE6 (e ▸ hk))⟩
          · intro V6 h1
            exact ⟨_, results_none rfl _ _ _, ⟨_, rfl⟩, Ow, ⟨O6, by rw [hXS]; exact h1.2, HF.out.2.2.2.2.1⟩, .inl (by rw [H8.out.2.2.2.2.2.2.1]; exact h1.1)⟩
end Go.Proofs.YtmimnaaofpkndaaDoor.Hp
