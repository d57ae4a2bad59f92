/- ShP: several texts in one. -/
import Derived.Test.YtdeboajjhpecbaaDoorShM
/- Show: a machine's Native. -/
set_option linter.unusedVariables false
set_option linter.unusedSimpArgs false
namespace Go.Proofs.YtdeboajjhpecbaaDoor.Hp
open Go.RowKit Go.Proofs.YtdeboajjhpecbaaDoor Go.Shelf
theorem Ms.upd {N : Nat} {w w' : World} {m H A B : Nat} {cv : Value} {cs : List Cell} {ps : List Int} {M : Nat → Prop} (h : Ms N w m H A B cv cs ps) (u : Upd w w' M) (hm : ¬ M m) (hH : ¬ M H) (hA : ¬ M A) (hc : ∀ g, cv.ownBlock = some g → ¬ M g) : Ms N w' m H A B cv cs ps :=
  ⟨⟨h.low.1, h.low.2.1, h.low.2.2.1, Nat.le_trans h.low.2.2.2 u.size⟩, h.own, u.blk h.mb hm, h.pl, h.hx.upd u hH hA hc (fun g hg => by cases hg) (fun g hg => by cases hg), h.hk⟩
theorem tabA_blk {w : World} {T : Nat} {A : List Ent} {D : List (Nat × Nat)} {O : Nat → Prop} (h : TabA w T A D O) : ∃ c, Blk w T 117 c := by
  obtain ⟨lv, sv, cv, es, sl, cs, hs, h1, h2⟩ := h
  exact ⟨_, hs.tab.blk⟩
/-- The properties of a new function. -/
def ents2 (n : Int) (name : ByteArray) : List Ent := [⟨lenK3, (3, n, ⟨#[]⟩), 4, false⟩, ⟨nameK3, keyS name, 4, false⟩]
theorem ents2_eq (n : Int) (name : ByteArray) : putA (keyS ⟨#[110, 97, 109, 101]⟩) (keyS name) 4 (putA (keyS ⟨#[108, 101, 110, 103, 116, 104]⟩) (3, n, ⟨#[]⟩) 4 []) = ents2 n name := by
  rw [keyS_name, keyS_len]
  kernel_rfl
def atB (mk : Bool) : Int := match mk with | true => 1 | false => 0
/-- What of a new function's object lies in memory. -/
structure NF (N : Nat) (w : World) (m H A B : Nat) (cv : Value) (cs : List Cell) (ps : List Int) (b T : Nat) (p1 kd at_ : Int) (W : World) : Prop where
  ms : Ms N W m H A B cv cs ps
  ob : Blk W b 36 (objF 2 p1 false T nilS nilP nilP nilS kd at_)
  tab : TabA W T [] [] (fun k => k = T)
  bT : ¬ b = T
  rb : Blk W w.heap.size 26 VZ
  tl : w.heap.size < T
  bl : w.heap.size < b
  kp : Kp w W
  bel : Below N w W
theorem nf_of {N : Nat} {w E1 E2 : World} {m H A B : Nat} {cv cv2 : Value} {cs : List Cell} {ps : List Int} {b T : Nat} {p1 : Int}
    (h : Ms N E2 m H A B cv2 (cs ++ [(some (tObj, b), false)]) ps ∧ Blk E2 b 36 (objN 2 p1 T) ∧ (TabA E2 T [] [] fun k => k = T) ∧ E1.heap.size ≤ T ∧ T < b ∧ Kp E1 E2 ∧ Below N E1 E2 ∧ Ms N E1 m H A B cv cs ps ∧ Below w.heap.size w E1 ∧ Blk E1 w.heap.size 26 VZ ∧ Ms N w m H A B cv cs ps) (hN : N ≤ w.heap.size) (id : Int) :
    NF N w m H A B cv2 (cs ++ [(some (tObj, b), false)]) ps b T p1 id 0 (E2.setCell ⟨b, 13, none⟩ (.int .i64 id)) := by
  obtain ⟨hM, hB, hT, h3, h4, hK, b6, hM1, b1, hR, hM0⟩ := h
  have u : Upd E2 (E2.setCell ⟨b, 13, none⟩ (.int .i64 id)) (fun k => k = b) := (Upd.refl E2 _).set b 13 _ rfl
  have hl1 := hR.lt
  refine ⟨hM.upd_val hB (Or.inl rfl) u, hB.set_ 13 _, hT.upd u (fun k e => by omega), by omega, u.blk (hK _ _ _ hR (by simp)) (by omega), by omega, by omega, ?_, ((b1.mono hN).trans b6).trans (u.below (Nat.le_trans hN (by have := hB.lt; omega)) (fun k e => by omega))⟩
  intro g t c hg ht
  exact u.blk (hK g t c (hg.below b1 hg.lt) ht) (by have := hg.lt; omega)
theorem NF.at1 {N : Nat} {w : World} {m H A B : Nat} {cv : Value} {cs : List Cell} {ps : List Int} {b T : Nat} {p1 kd : Int} {W : World} (h : NF N w m H A B cv cs ps b T p1 kd 0 W) (hN : N ≤ w.heap.size) : NF N w m H A B cv cs ps b T p1 kd 1 (W.setCell ⟨b, 14, none⟩ (.int .i64 1)) := by
  have u : Upd W (W.setCell ⟨b, 14, none⟩ (.int .i64 1)) (fun k => k = b) := (Upd.refl W _).set b 14 _ rfl
  have hbl := h.bl
  refine ⟨h.ms.upd_val h.ob (Or.inl rfl) u, h.ob.set_ 14 _, h.tab.upd u (fun k e => by have := h.bT; omega), h.bT, u.blk h.rb (by omega), h.tl, h.bl, ?_, h.bel.trans (u.below (Nat.le_trans hN h.bel.size) (fun k e => by omega))⟩
  intro g t c hg ht
  exact u.blk (h.kp g t c hg ht) (by have := hg.lt; omega)
/-- And behind describe. -/
structure NG (N : Nat) (w : World) (m H A B : Nat) (cv : Value) (cs : List Cell) (ps : List Int) (b T : Nat) (p1 kd at_ : Int) (As : List Ent) (O : Nat → Prop) (W : World) : Prop where
  ms : Ms N W m H A B cv cs ps
  ob : Blk W b 36 (objF 2 p1 false T nilS nilP nilP nilS kd at_)
  tab : TabA W T As [] O
  ap : ∀ x, O x → w.heap.size < x ∧ cv.ownBlock ≠ some x ∧ x ≠ b
  rb : Blk W w.heap.size 26 VZ
  bl : w.heap.size < b
  kp : Kp w W
  bel : Below N w W
theorem NF.after {N : Nat} {w : World} {m H A B : Nat} {cv : Value} {cs : List Cell} {ps : List Int} {b T : Nat} {p1 kd at_ : Int} {W W' : World} {As : List Ent} {O' : Nat → Prop} (h : NF N w m H A B cv cs ps b T p1 kd at_ W) (hN : N ≤ w.heap.size) (hm : m < w.heap.size) (hH : H < w.heap.size) (hA : A < w.heap.size)
    (hT : TabA W' T As [] O') (hO : ∀ x, O' x → x = T ∨ W.heap.size ≤ x) (u : Upd W W' (fun k => k = T)) : NG N w m H A B cv cs ps b T p1 kd at_ As O' W' := by
  obtain ⟨c, hc⟩ := tabA_blk h.tab
  have htl := h.tl
  have hcv : ∀ g, cv.ownBlock = some g → ¬ g = T := fun g hg e => own_blk_ne h.ms.hx.ar.cells hc (by decide) (e ▸ hg)
  have hcl := fun g hg => (h.ms.hx.ar.cells.lt g hg).2
  refine ⟨h.ms.upd u (by omega) (by omega) (by omega) hcv, u.blk h.ob h.bT, hT, ?_, u.blk h.rb (by omega), h.bl, ?_, h.bel.trans (u.below (Nat.le_trans hN h.bel.size) (fun k e => by omega))⟩
  · intro x hx
    rcases hO x hx with rfl | h1
    · exact ⟨htl, fun e => hcv _ e rfl, fun e => h.bT e.symm⟩
    · have := h.rb.lt
      have := h.ob.lt
      exact ⟨by omega, fun e => by have := hcl x e; omega, by omega⟩
  · intro g t c hg ht
    exact u.blk (h.kp g t c hg ht) (by have := hg.lt; omega)
theorem NG.below {N : Nat} {w : World} {m H A B : Nat} {cv : Value} {cs : List Cell} {ps : List Int} {b T : Nat} {p1 kd at_ : Int} {As : List Ent} {O : Nat → Prop} {W W' : World} (h : NG N w m H A B cv cs ps b T p1 kd at_ As O W) (bb : Below W.heap.size W W') (hN : N ≤ W.heap.size) : NG N w m H A B cv cs ps b T p1 kd at_ As O W' :=
  ⟨h.ms.below bb, h.ob.below bb h.ob.lt, h.tab.below bb, h.ap, h.rb.below bb h.rb.lt, h.bl, h.kp.trans (Kp.of_below bb), h.bel.trans (bb.mono hN)⟩
theorem NG.fin {N : Nat} {w : World} {m H A B : Nat} {cv : Value} {cs : List Cell} {ps : List Int} {b T : Nat} {p1 kd at_ : Int} {As : List Ent} {O : Nat → Prop} {W : World} (h : NG N w m H A B cv cs ps b T p1 kd at_ As O W) (hN : N ≤ w.heap.size) (r : Int) :
    Ms N (((W.setCell ⟨w.heap.size, 0, none⟩ (.int .i64 9)).setCell ⟨w.heap.size, 1, none⟩ (.int .i64 r)).setCell ⟨w.heap.size, 2, none⟩ (.string ⟨#[]⟩)) m H A B cv cs ps ∧
    Blk (((W.setCell ⟨w.heap.size, 0, none⟩ (.int .i64 9)).setCell ⟨w.heap.size, 1, none⟩ (.int .i64 r)).setCell ⟨w.heap.size, 2, none⟩ (.string ⟨#[]⟩)) b 36 (objF 2 p1 false T nilS nilP nilP nilS kd at_) ∧
    TabA (((W.setCell ⟨w.heap.size, 0, none⟩ (.int .i64 9)).setCell ⟨w.heap.size, 1, none⟩ (.int .i64 r)).setCell ⟨w.heap.size, 2, none⟩ (.string ⟨#[]⟩)) T As [] O ∧
    (∀ x, O x → w.heap.size ≤ x ∧ cv.ownBlock ≠ some x ∧ x ≠ b) ∧ Kp w (((W.setCell ⟨w.heap.size, 0, none⟩ (.int .i64 9)).setCell ⟨w.heap.size, 1, none⟩ (.int .i64 r)).setCell ⟨w.heap.size, 2, none⟩ (.string ⟨#[]⟩)) ∧ w.heap.size ≤ b ∧
    Below N w (((W.setCell ⟨w.heap.size, 0, none⟩ (.int .i64 9)).setCell ⟨w.heap.size, 1, none⟩ (.int .i64 r)).setCell ⟨w.heap.size, 2, none⟩ (.string ⟨#[]⟩)) := by
  have u : Upd W (((W.setCell ⟨w.heap.size, 0, none⟩ (.int .i64 9)).setCell ⟨w.heap.size, 1, none⟩ (.int .i64 r)).setCell ⟨w.heap.size, 2, none⟩ (.string ⟨#[]⟩)) (fun k => k = w.heap.size) := (((Upd.refl W (fun k => k = w.heap.size)).set _ 0 _ rfl).set _ 1 _ rfl).set _ 2 _ rfl
  have hbl := h.bl
  refine ⟨h.ms.upd_val h.rb (Or.inr rfl) u, u.blk h.ob (by omega), h.tab.upd u (fun k hk e => by have := (h.ap k hk).1; omega), fun x hx => ⟨Nat.le_of_lt (h.ap x hx).1, (h.ap x hx).2⟩, ?_, by omega, h.bel.trans (u.below (Nat.le_trans hN h.bel.size) (fun k e => by omega))⟩
  exact fun g t c hg ht => u.blk (h.kp g t c hg ht) (by have := hg.lt; omega)
set_option maxRecDepth 100000 in
set_option maxHeartbeats 8000000 in
theorem native_any {N : Nat} {w : World} {m H A B : Nat} {cv : Value} {cs : List Cell} {ps : List Int} (h : Ms N w m H A B cv cs ps) (id : Int) (name : ByteArray) (mk : Bool) (hc : cs.length ≤ 4000) (hN : N ≤ w.heap.size) (hk : name.size ≤ 1000) :
    Calls Tryd.prog 17 #[.pointer (some ⟨m, 0, none⟩), .int .i64 id, .string name, .int .i64 0, .bool mk] w fun e w' => ∃ b T cv' O', e = .returned (VS 9 ((cs.length + 1 : Nat) : Int) ⟨#[]⟩) ∧
      Ms N w' m H A B cv' (cs ++ [(some (tObj, b), false)]) ps ∧ Blk w' b 36 (objF 2 (ps.getD 1 0) false T nilS nilP nilP nilS id (atB mk)) ∧ TabA w' T (ents2 0 name) [] O' ∧ (∀ x, O' x → w.heap.size ≤ x ∧ cv'.ownBlock ≠ some x ∧ x ≠ b) ∧ Kp w w' ∧ w.heap.size ≤ b ∧ Below N w w' := by
  have b0 : Below w.heap.size w (w.alloc (.cells VZ 26)) := (Below.refl _ _).alloc (Nat.le_refl _) _
  have h1 := h.below b0
  have x0 : (w.alloc (.cells VZ 26)).cell? ⟨m, 0, none⟩ = some (.pointer (some ⟨H, 0, none⟩)) := by rw [h1.mb.cell]; rfl
  have x1 : (w.alloc (.cells VZ 26)).cell? ⟨m, 2, none⟩ = some (.int .i64 (ps.getD 1 0)) := by rw [h1.mb.cell]; exact machC_get H ps h.pl 1 (by omega)
  have HI := Lib.hid (And.intro h1 (And.intro b0 (And.intro (Blk.new w 26 VZ) h)))
  have HN := Lib.hid hk
  have hl : m < w.heap.size ∧ H < w.heap.size ∧ A < w.heap.size := ⟨h.mb.lt, h.hx.hb.lt, h.hx.ar.blk.lt⟩
  clear h h1 b0 hk
  go_enter Tryd.func17, Tryd.ntmps17
  go_wp2_with (fail)
  generalize w.alloc (.cells VZ 26) = W1 at *
  refine wp_var0 (fun KV HKV => ?_)
  refine wp_region_till (m := 9) (S := (fun W => W.cell? ⟨m, 0, none⟩ = some (.pointer (some ⟨H, 0, none⟩)) ∧ W.cell? ⟨m, 2, none⟩ = some (.int .i64 (ps.getD 1 0)))) (by kernel_rfl) ?_
  have e4 : W1.drew = W1.drewN 1 := rfl
  rw [e4]
  have S0 : (W1.drewN 1).cell? ⟨m, 0, none⟩ = some (.pointer (some ⟨H, 0, none⟩)) ∧ (W1.drewN 1).cell? ⟨m, 2, none⟩ = some (.int .i64 (ps.getD 1 0)) := ⟨x0, x1⟩
  have HBD := Lib.hid (And.intro (HI.out.1.drewN 1) (And.intro (below_drw HI.out.2.1 1) (And.intro (HI.out.2.2.1.drewN 1) HI.out.2.2.2)))
  clear e4 x0 x1 HI
  generalize W1.drewN 1 = E1 at *
  change tillH _ _ _ _ _ _ 15 #[false, false, false, false, false, false, false, false, false, false, false, false, false, false, false] _ _
  refine tillH_takeAny (i := 0) (oi := ?oo1) (v := ?vv1) ?hi1 (by kernel_rfl) (by kernel_rfl) (by kernel_rfl) ?hq1 (by kernel_rfl) ?hy1 (fun _ => S0) ?hh1
  case hi1 => (simp only [List.getElem?_toArray, List.getElem?_cons_succ, List.getElem?_cons_zero]; rfl)
  case hq1 => exact fun _ _ _ h => h
  case hy1 => exact Or.inl ⟨by rfl, by (intro W; go_simp; (try with_reducible rfl))⟩
  (try simp only [Act.put, List.setIfInBounds_toArray, List.set_cons_zero, List.set_cons_succ])
  refine tillH_takeAny (i := 1) (oi := ?oo2) (v := ?vv2) ?hi2 (by kernel_rfl) (by kernel_rfl) (by kernel_rfl) ?hq2 (by kernel_rfl) ?hy2 (fun _ => S0) ?hh2
  case hi2 => (simp only [List.getElem?_toArray, List.getElem?_cons_succ, List.getElem?_cons_zero]; rfl)
  case hq2 => exact fun _ _ _ h => h
  case hy2 => exact Or.inl ⟨by rfl, by (intro W; go_simp; (try with_reducible rfl))⟩
  (try simp only [Act.put, List.setIfInBounds_toArray, List.set_cons_zero, List.set_cons_succ])
  refine tillH_takeAny (i := 2) (oi := ?oo3) (v := ?vv3) ?hi3 (by kernel_rfl) (by kernel_rfl) (by kernel_rfl) ?hq3 (by kernel_rfl) ?hy3 (fun _ => S0) ?hh3
  case hi3 => (simp only [List.getElem?_toArray, List.getElem?_cons_succ, List.getElem?_cons_zero]; rfl)
  case hq3 => exact fun _ _ _ h => h
  case hy3 => exact Or.inl ⟨by rfl, by (intro W; go_simp; (try with_reducible rfl))⟩
  (try simp only [Act.put, List.setIfInBounds_toArray, List.set_cons_zero, List.set_cons_succ])
  refine tillH_take (i := 3) (oi := ?oo4) (v := ?vv4) ?hi4 (by kernel_rfl) (by kernel_rfl) (by kernel_rfl) ?hq4 (by kernel_rfl) (by kernel_rfl) (by kernel_rfl) ?hy4 S0 ?hh4
  case hi4 => (simp only [List.getElem?_toArray, List.getElem?_cons_succ, List.getElem?_cons_zero]; rfl)
  case hq4 => exact fun _ _ _ h => h
  case hy4 => exact Or.inl ⟨by rfl, by (intro W hSw; (try obtain ⟨s0, s1⟩ := hSw); go_simp; (try with_reducible rfl))⟩
  (try simp only [Act.put, List.setIfInBounds_toArray, List.set_cons_zero, List.set_cons_succ])
  refine tillH_takeAny (i := 4) (oi := ?oo5) (v := ?vv5) ?hi5 (by kernel_rfl) (by kernel_rfl) (by kernel_rfl) ?hq5 (by kernel_rfl) ?hy5 (fun _ => S0) ?hh5
  case hi5 => (simp only [List.getElem?_toArray, List.getElem?_cons_succ, List.getElem?_cons_zero]; rfl)
  case hq5 => exact fun _ _ _ h => h
  case hy5 => exact Or.inl ⟨by rfl, by (intro W; go_simp; (try with_reducible rfl))⟩
  (try simp only [Act.put, List.setIfInBounds_toArray, List.set_cons_zero, List.set_cons_succ])
  refine tillH_takeAny (i := 5) (oi := ?oo6) (v := ?vv6) ?hi6 (by kernel_rfl) (by kernel_rfl) (by kernel_rfl) ?hq6 (by kernel_rfl) ?hy6 (fun _ => S0) ?hh6
  case hi6 => (simp only [List.getElem?_toArray, List.getElem?_cons_succ, List.getElem?_cons_zero]; rfl)
  case hq6 => exact fun _ _ _ h => h
  case hy6 => exact Or.inl ⟨by rfl, by (intro W; go_simp; (try with_reducible rfl))⟩
  (try simp only [Act.put, List.setIfInBounds_toArray, List.set_cons_zero, List.set_cons_succ])
  refine tillH_takeAny (i := 6) (oi := ?oo7) (v := ?vv7) ?hi7 (by kernel_rfl) (by kernel_rfl) (by kernel_rfl) ?hq7 (by kernel_rfl) ?hy7 (fun _ => S0) ?hh7
  case hi7 => (simp only [List.getElem?_toArray, List.getElem?_cons_succ, List.getElem?_cons_zero]; rfl)
  case hq7 => exact fun _ _ _ h => h
  case hy7 => exact Or.inl ⟨by rfl, by (intro W; go_simp; (try with_reducible rfl))⟩
  (try simp only [Act.put, List.setIfInBounds_toArray, List.set_cons_zero, List.set_cons_succ])
  refine tillH_takeAny (i := 7) (oi := ?oo8) (v := ?vv8) ?hi8 (by kernel_rfl) (by kernel_rfl) (by kernel_rfl) ?hq8 (by kernel_rfl) ?hy8 (fun _ => S0) ?hh8
  case hi8 => (simp only [List.getElem?_toArray, List.getElem?_cons_succ, List.getElem?_cons_zero]; rfl)
  case hq8 => exact fun _ _ _ h => h
  case hy8 => exact Or.inl ⟨by rfl, by (intro W; go_simp; (try with_reducible rfl))⟩
  (try simp only [Act.put, List.setIfInBounds_toArray, List.set_cons_zero, List.set_cons_succ])
  refine tillH_take (i := 8) (oi := ?oo9) (v := ?vv9) ?hi9 (by kernel_rfl) (by kernel_rfl) (by kernel_rfl) ?hq9 (by kernel_rfl) (by kernel_rfl) (by kernel_rfl) ?hy9 S0 ?hh9
  case hi9 => (simp only [List.getElem?_toArray, List.getElem?_cons_succ, List.getElem?_cons_zero]; rfl)
  case hq9 => exact fun _ _ _ h => h
  case hy9 => exact Or.inl ⟨by rfl, by (intro W hSw; (try obtain ⟨s0, s1⟩ := hSw); go_simp; (try with_reducible rfl))⟩
  (try simp only [Act.put, List.setIfInBounds_toArray, List.set_cons_zero, List.set_cons_succ])
  refine tillH_next (rs := [9]) (by kernel_rfl) (by simp) ?_
  refine NextH.cons rfl (fun K hK => ?_) NextH.nil
  go_simp
  refine (HBD.out.1.make 2 (ps.getD 1 0) hc (Nat.le_trans hN HBD.out.2.1.size)).mono ?_
  rintro e E2 ⟨b, T, cv2, rfl, hM, hB, hTab, h3, h4, hK, b6⟩
  have HP := Lib.hid (And.intro hM (And.intro hB (And.intro hTab (And.intro h3 (And.intro h4 (And.intro hK (And.intro b6 HBD.out)))))))
  clear hM hB hTab h3 h4 hK b6 HBD S0
  refine hK.out _ _ (fun h => absurd h (by simp)) ?_
  clear hK K
  (try simp only [Act.put, List.setIfInBounds_toArray, List.set_cons_zero, List.set_cons_succ])
  refine tillH_takeAny (i := 10) (oi := ?oo10) (v := ?vv10) ?hi10 (by kernel_rfl) (by kernel_rfl) (by kernel_rfl) ?hq10 (by kernel_rfl) ?hy10 (fun h => absurd h (by simp)) ?hh10
  case hi10 => (simp only [List.getElem?_toArray, List.getElem?_cons_succ, List.getElem?_cons_zero]; rfl)
  case hq10 => exact fun _ _ _ h => h
  case hy10 => exact Or.inl ⟨by rfl, by (intro W; go_simp; (try with_reducible rfl))⟩
  (try simp only [Act.put, List.setIfInBounds_toArray, List.set_cons_zero, List.set_cons_succ])
  refine tillH_takeAny (i := 11) (oi := ?oo11) (v := ?vv11) ?hi11 (by kernel_rfl) (by kernel_rfl) (by kernel_rfl) ?hq11 (by kernel_rfl) ?hy11 (fun h => absurd h (by simp)) ?hh11
  case hi11 => (simp only [List.getElem?_toArray, List.getElem?_cons_succ, List.getElem?_cons_zero]; rfl)
  case hq11 => exact fun _ _ _ h => h
  case hy11 => exact Or.inl ⟨by rfl, by (intro W; go_simp; (try with_reducible rfl))⟩
  (try simp only [Act.put, List.setIfInBounds_toArray, List.set_cons_zero, List.set_cons_succ])
  refine tillH_takeAny (i := 12) (oi := ?oo12) (v := ?vv12) ?hi12 (by kernel_rfl) (by kernel_rfl) (by kernel_rfl) ?hq12 (by kernel_rfl) ?hy12 (fun h => absurd h (by simp)) ?hh12
  case hi12 => (simp only [List.getElem?_toArray, List.getElem?_cons_succ, List.getElem?_cons_zero]; rfl)
  case hq12 => exact fun _ _ _ h => h
  case hy12 => exact Or.inl ⟨by rfl, by (intro W; go_simp; (try with_reducible rfl))⟩
  (try simp only [Act.put, List.setIfInBounds_toArray, List.set_cons_zero, List.set_cons_succ])
  refine tillH_takeAny (i := 13) (oi := ?oo13) (v := ?vv13) ?hi13 (by kernel_rfl) (by kernel_rfl) (by kernel_rfl) ?hq13 (by kernel_rfl) ?hy13 (fun h => absurd h (by simp)) ?hh13
  case hi13 => (simp only [List.getElem?_toArray, List.getElem?_cons_succ, List.getElem?_cons_zero]; rfl)
  case hq13 => exact fun _ _ _ h => h
  case hy13 => exact Or.inl ⟨by rfl, by (intro W; go_simp; (try with_reducible rfl))⟩
  (try simp only [Act.put, List.setIfInBounds_toArray, List.set_cons_zero, List.set_cons_succ])
  refine tillH_takeAny (i := 14) (oi := ?oo14) (v := ?vv14) ?hi14 (by kernel_rfl) (by kernel_rfl) (by kernel_rfl) ?hq14 (by kernel_rfl) ?hy14 (fun h => absurd h (by simp)) ?hh14
  case hi14 => (simp only [List.getElem?_toArray, List.getElem?_cons_succ, List.getElem?_cons_zero]; rfl)
  case hq14 => exact fun _ _ _ h => h
  case hy14 => exact Or.inl ⟨by rfl, by (intro W; go_simp; (try with_reducible rfl))⟩
  (try simp only [Act.put, List.setIfInBounds_toArray, List.set_cons_zero, List.set_cons_succ])
  refine tillH_done (by kernel_rfl) ?_ _
  refine HKV.out _ _ ?_
  have hb1 := HP.out.2.2.2.2.2.2.2.2.1
  have y0 : E2.frozen? ⟨b, 13, none⟩ = false := HP.out.2.1.frozen 13
  have y1 : E2.cell? ⟨b, 13, none⟩ = some (.int .i64 0) := by rw [HP.out.2.1.cell]; rfl
  clear hb1
  obtain ⟨r, hr⟩ : ∃ r : Int, ((cs.length + 1 : Nat) : Int) = r := ⟨_, rfl⟩
  have hr2 : ((cs.length : Nat) : Int) + 1 = r := by rw [← hr]; rfl
  have HRR := Lib.hid hr
  go_upto_region 3 with fail
  clear y0 y1
  simp only [hr2]
  clear hr hr2
  go_upto_if 30 with fail
  go_cut [30] (fun s30 wx => Hid (NF N w m H A B cv2 (cs ++ [(some (tObj, b), false)]) ps b T (ps.getD 1 0) id (atB mk) wx))
  case first =>
    have hNF := nf_of HP.out hN id
    have HNF := Lib.hid hNF
    have y0 : (E2.setCell ⟨b, 13, none⟩ (.int .i64 id)).frozen? ⟨b, 14, none⟩ = false := hNF.ob.frozen 14
    have y1 : (E2.setCell ⟨b, 13, none⟩ (.int .i64 id)).cell? ⟨b, 14, none⟩ = some (.int .i64 0) := by rw [hNF.ob.cell]; rfl
    clear hNF HP
    generalize E2.setCell ⟨b, 13, none⟩ (.int .i64 id) = E3 at *
    cases mk with
    | true =>
      go_wp2_with (fail)
      go_meet
      exact Lib.hid (HNF.out.at1 hN)
    | false =>
      go_wp2_with (fail)
      go_meet
      exact HNF
  case rest =>
  have HF := Lib.hid hcut.out
  clear HP hcut
  have HD := Lib.hid (describe_any (.pointer (some ⟨m, 0, none⟩)) b T name 0 [] (fun k => k = T) wc (by rw [HF.out.ob.cell]; rfl) HF.out.tab HF.out.bT HN.out (by simp))
  go_wp2_with (fail)
  refine HD.out.mono ?_
  rintro e w4 ⟨rfl, ⟨O2, hp1, hp3⟩, hp2⟩
  rw [ents2_eq] at hp1
  have HG := Lib.hid (HF.out.after hN hl.1 hl.2.1 hl.2.2 hp1 hp3 hp2)
  clear hp1 hp2 hp3 HD HF
  go_wp2_with (fail)
  refine (vobject_any _ _).mono ?_
  rintro e w5 ⟨rfl, b7⟩
  have HQ := Lib.hid (HG.out.below b7 (Nat.le_trans hN HG.out.bel.size))
  clear HG b7
  have z0 : w5.frozen? ⟨w.heap.size, 0, none⟩ = false := HQ.out.rb.frozen 0
  have z1 : w5.frozen? ⟨w.heap.size, 1, none⟩ = false := HQ.out.rb.frozen 1
  have z2 : w5.frozen? ⟨w.heap.size, 2, none⟩ = false := HQ.out.rb.frozen 2
  have y0 : w5.cell? ⟨w.heap.size, 0, none⟩ = some (.int .i64 0) := by rw [HQ.out.rb.cell]; rfl
  have y1 : w5.cell? ⟨w.heap.size, 1, none⟩ = some (.int .i64 0) := by rw [HQ.out.rb.cell]; rfl
  have y2 : w5.cell? ⟨w.heap.size, 2, none⟩ = some (.string ⟨#[]⟩) := by rw [HQ.out.rb.cell]; rfl
  have l5 : w.heap.size < w5.heap.size := HQ.out.rb.lt
  go_wp2
  refine bodyPost_ret (v := VS 9 r ⟨#[]⟩) (by simp [results, Tryd.results17, go_sem, y0, y1, y2, l5]) rfl ?_
  obtain ⟨h1, h2, h3, h4, h5, h6, h7⟩ := HQ.out.fin hN r
  exact ⟨b, T, cv2, O2, by rw [HRR.out], h1, h2, h3, h4, h5, h6, h7⟩
end Go.Proofs.YtdeboajjhpecbaaDoor.Hp

/- Show: Delete of a property that is there and may go. -/
set_option linter.unusedVariables false
set_option linter.unusedSimpArgs false
namespace Go.Proofs.YtdeboajjhpecbaaDoor.Hp
open Go.RowKit Go.Proofs.YtdeboajjhpecbaaDoor Go.Shelf
/-- What it comes to. -/
def DelE (T : Nat) (k : K3) (A : List Ent) (O : Nat → Prop) (w : World) (e : Ending) (w' : World) : Prop :=
  e = .returned (.bool true) ∧ (∃ O', TabA w' T (delA k A) [] O' ∧ ∀ x, O' x → O x ∨ w.heap.size ≤ x) ∧ Upd w w' O
theorem del_later {T : Nat} {A : List Ent} {O : Nat → Prop} {w w1 : World} (h : TabA w T A [] O) (hb : Below w.heap.size w w1) (k : K3) (hk : k.2.2.size ≤ 4000) (hA : A.length ≤ 4000) (hx : ∃ x ∈ A, isKey k x = true) :
    Calls Tryd.prog 41 #[.pointer (some ⟨T, 0, none⟩), VK k] w1 (DelE T k A O w) := by
  refine (delete_any T A [] O k w1 (h.below hb) hk (by omega) (by simp)).mono ?_
  rintro e w' (⟨rfl, h1, _⟩ | ⟨rfl, h1, h2, h3⟩)
  · obtain ⟨x, hx1, hx2⟩ := hx
    rw [h1 x hx1] at hx2; cases hx2
  · exact ⟨rfl, ⟨_, h2, fun x hx => by
      rcases hx with hx | hx
      · exact Or.inl hx
      · exact Or.inr (Nat.le_trans hb.size hx.1)⟩, (Upd.of_below_all hb).trans h3⟩
set_option maxRecDepth 100000 in
set_option maxHeartbeats 4000000 in
theorem objdel_any (b T : Nat) (cl pr : Int) (clo : Bool) (ev tb wk fa : Value) (kd at_ : Int) (A : List Ent) (O : Nat → Prop) (k v : K3) (w : World) (hB : Blk w b 36 (objF cl pr clo T ev tb wk fa kd at_)) (hT : TabA w T A [] O) (hk : k.2.2.size ≤ 4000) (hcl : cl ≠ 1) (hA : A.length ≤ 4000) (hx : ∃ x ∈ A, isKey k x = true)
    (hOw : ∀ W, Below w.heap.size w W → Calls Tryd.prog 39 #[.pointer (some ⟨b, 0, none⟩), VK k] W fun e W' => e = .returned (.tuple #[VK v, .int .i64 4, .bool true]) ∧ Below W.heap.size W W') :
    Calls Tryd.prog 19 #[.pointer (some ⟨b, 0, none⟩), VK k] w (DelE T k A O w) := by
  obtain ⟨k1, k2, k3⟩ := k
  obtain ⟨v1, v2, v3⟩ := v
  have b0 : Below w.heap.size w (w.alloc (.cells #[.int .i64 k1, .int .i64 k2, .string k3] 26)) := (Below.refl _ _).alloc (Nat.le_refl _) _
  have bx := Blk.new w 26 #[.int .i64 k1, .int .i64 k2, .string k3]
  have HP := Lib.hid (fun W (hW : Below w.heap.size w W) => del_later hT hW (k1, k2, k3) hk hA hx)
  have HW := Lib.hid hOw
  have HI := Lib.hid (fun W (hW : Below w.heap.size w W) => hindexF b T cl pr clo ev tb wk fa kd at_ (k1, k2, k3) W (hB.below hW hB.lt) hk)
  have hv : idxV cl (k1, k2, k3) = -1 := if_neg (fun h => hcl h.1)
  rw [hv] at HI
  have HV := Lib.hid hB
  have HB := Lib.hid (And.intro b0 bx)
  clear hB hT hk hcl hA hx hOw hv b0 bx
  go_enter Tryd.func19, Tryd.ntmps19
  go_wp2_with (fail)
  refine (HW.out _ HB.out.1).mono ?_
  rintro e w2 ⟨rfl, b2⟩
  have HB2 := Lib.hid (And.intro (HB.out.1.trans (b2.mono HB.out.1.size)) (HB.out.2.below b2 HB.out.2.lt))
  clear b2 HB
  have q0 : w2.cell? ⟨w.heap.size, 0, none⟩ = some (.int .i64 k1) := by rw [HB2.out.2.cell]; rfl
  have q1 : w2.cell? ⟨w.heap.size, 1, none⟩ = some (.int .i64 k2) := by rw [HB2.out.2.cell]; rfl
  have q2 : w2.cell? ⟨w.heap.size, 2, none⟩ = some (.string k3) := by rw [HB2.out.2.cell]; rfl
  have ql := HB2.out.2.lt
  go_wp2_with (fail)
  have ba := (Below.refl w2.heap.size w2).alloc (Nat.le_refl _) (.cells #[.int .i64 v1, .int .i64 v2, .string v3] 26)
  have HB3 := Lib.hid (And.intro (HB2.out.1.trans (ba.mono HB2.out.1.size)) (HB2.out.2.below ba HB2.out.2.lt))
  refine (HI.out _ HB3.out.1).mono ?_
  rintro e w3 ⟨rfl, b3⟩
  have HB4 := Lib.hid (And.intro (HB3.out.1.trans (b3.mono HB3.out.1.size)) (HB3.out.2.below b3 HB3.out.2.lt))
  clear q0 q1 q2 ql ba b3 HB2 HB3
  go_wp2_with (fail)
  refine wp_var0 (fun KV HKV => ?_)
  refine wp_region_till (m := 5) (S := (fun W => W.cell? ⟨b, 3, none⟩ = some (.pointer (some ⟨T, 0, none⟩)) ∧ W.cell? ⟨w.heap.size, 0, none⟩ = some (.int .i64 k1) ∧ W.cell? ⟨w.heap.size, 1, none⟩ = some (.int .i64 k2) ∧ W.cell? ⟨w.heap.size, 2, none⟩ = some (.string k3))) (by kernel_rfl) ?_
  have e4 : w3.drew = w3.drewN 1 := rfl
  rw [e4]
  have hX := (HV.out.below HB4.out.1 HV.out.lt).drewN 1
  have hY := HB4.out.2.drewN 1
  have S0 : (w3.drewN 1).cell? ⟨b, 3, none⟩ = some (.pointer (some ⟨T, 0, none⟩)) ∧ (w3.drewN 1).cell? ⟨w.heap.size, 0, none⟩ = some (.int .i64 k1) ∧ (w3.drewN 1).cell? ⟨w.heap.size, 1, none⟩ = some (.int .i64 k2) ∧ (w3.drewN 1).cell? ⟨w.heap.size, 2, none⟩ = some (.string k3) := ⟨by rw [hX.cell]; rfl, by rw [hY.cell]; rfl, by rw [hY.cell]; rfl, by rw [hY.cell]; rfl⟩
  have HBD := Lib.hid (below_drw HB4.out.1 1)
  clear e4 hX hY HB4
  generalize w3.drewN 1 = E1 at *
  change tillH _ _ _ _ _ _ 7 #[false, false, false, false, false, false, false] _ _
  refine tillH_takeAny (i := 0) (oi := ?oo1) (v := ?vv1) ?hi1 (by kernel_rfl) (by kernel_rfl) (by kernel_rfl) ?hq1 (by kernel_rfl) ?hy1 (fun _ => S0) ?hh1
  case hi1 => (simp only [List.getElem?_toArray, List.getElem?_cons_succ, List.getElem?_cons_zero]; rfl)
  case hq1 => exact fun _ _ _ h => h
  case hy1 => exact Or.inl ⟨by rfl, by (intro W; go_simp; (try with_reducible rfl))⟩
  (try simp only [Act.put, List.setIfInBounds_toArray, List.set_cons_zero, List.set_cons_succ])
  refine tillH_takeAny (i := 1) (oi := ?oo2) (v := ?vv2) ?hi2 (by kernel_rfl) (by kernel_rfl) (by kernel_rfl) ?hq2 (by kernel_rfl) ?hy2 (fun _ => S0) ?hh2
  case hi2 => (simp only [List.getElem?_toArray, List.getElem?_cons_succ, List.getElem?_cons_zero]; rfl)
  case hq2 => exact fun _ _ _ h => h
  case hy2 => exact Or.inl ⟨by rfl, by (intro W; go_simp; (try with_reducible rfl))⟩
  (try simp only [Act.put, List.setIfInBounds_toArray, List.set_cons_zero, List.set_cons_succ])
  refine tillH_takeAny (i := 2) (oi := ?oo3) (v := ?vv3) ?hi3 (by kernel_rfl) (by kernel_rfl) (by kernel_rfl) ?hq3 (by kernel_rfl) ?hy3 (fun _ => S0) ?hh3
  case hi3 => (simp only [List.getElem?_toArray, List.getElem?_cons_succ, List.getElem?_cons_zero]; rfl)
  case hq3 => exact fun _ _ _ h => h
  case hy3 => exact Or.inl ⟨by rfl, by (intro W; go_simp; (try with_reducible rfl))⟩
  (try simp only [Act.put, List.setIfInBounds_toArray, List.set_cons_zero, List.set_cons_succ])
  refine tillH_take (i := 3) (oi := ?oo4) (v := ?vv4) ?hi4 (by kernel_rfl) (by kernel_rfl) (by kernel_rfl) ?hq4 (by kernel_rfl) (by kernel_rfl) (by kernel_rfl) ?hy4 S0 ?hh4
  case hi4 => (simp only [List.getElem?_toArray, List.getElem?_cons_succ, List.getElem?_cons_zero]; rfl)
  case hq4 => exact fun _ _ _ h => h
  case hy4 => exact Or.inl ⟨by rfl, by (intro W hSw; (try obtain ⟨s0, s1, s2, s3⟩ := hSw); go_simp; (try with_reducible rfl))⟩
  (try simp only [Act.put, List.setIfInBounds_toArray, List.set_cons_zero, List.set_cons_succ])
  refine tillH_take (i := 4) (oi := ?oo5) (v := ?vv5) ?hi5 (by kernel_rfl) (by kernel_rfl) (by kernel_rfl) ?hq5 (by kernel_rfl) (by kernel_rfl) (by kernel_rfl) ?hy5 S0 ?hh5
  case hi5 => (simp only [List.getElem?_toArray, List.getElem?_cons_succ, List.getElem?_cons_zero]; rfl)
  case hq5 => exact fun _ _ _ h => h
  case hy5 => exact Or.inl ⟨by rfl, by (intro W hSw; (try obtain ⟨s0, s1, s2, s3⟩ := hSw); go_simp; (try with_reducible rfl))⟩
  (try simp only [Act.put, List.setIfInBounds_toArray, List.set_cons_zero, List.set_cons_succ])
  refine tillH_next (rs := [5]) (by kernel_rfl) (by simp) ?_
  refine NextH.cons rfl (fun K hK => ?_) NextH.nil
  go_simp
  refine (HP.out E1 HBD.out).mono ?_
  rintro e E3 ⟨rfl, hp1, hp2⟩
  have HQ := Lib.hid (And.intro hp1 hp2)
  clear hp1 hp2 S0
  refine hK.out _ _ (fun h => absurd h (by simp)) ?_
  clear hK K
  (try simp only [Act.put, List.setIfInBounds_toArray, List.set_cons_zero, List.set_cons_succ])
  refine tillH_takeAny (i := 6) (oi := ?oo6) (v := ?vv6) ?hi6 (by kernel_rfl) (by kernel_rfl) (by kernel_rfl) ?hq6 (by kernel_rfl) ?hy6 (fun h => absurd h (by simp)) ?hh6
  case hi6 => (simp only [List.getElem?_toArray, List.getElem?_cons_succ, List.getElem?_cons_zero]; rfl)
  case hq6 => exact fun _ _ _ h => h
  case hy6 => exact Or.inl ⟨by rfl, by (intro W; go_simp; (try with_reducible rfl))⟩
  (try simp only [Act.put, List.setIfInBounds_toArray, List.set_cons_zero, List.set_cons_succ])
  refine tillH_done (by kernel_rfl) ?_ _
  refine HKV.out _ _ ?_
  go_wp2
  go_ret
  exact ⟨rfl, HQ.out.1, HQ.out.2⟩
end Go.Proofs.YtdeboajjhpecbaaDoor.Hp
