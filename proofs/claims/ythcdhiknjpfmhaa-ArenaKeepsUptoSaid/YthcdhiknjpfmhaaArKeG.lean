/- ArenaKeeps: fill. -/
import Derived.Test.YthcdhiknjpfmhaaArKeF
set_option linter.unusedVariables false
set_option linter.unusedSimpArgs false
namespace Go.Proofs.Ythcdhiknjpfmhaa
open Go.RowKit
/-- A row in a copy of another world, beside the blocks of two nodes. -/
theorem row_beside {W W' : World} {B n s N M : Nat} {t : TypeId} {v : Value} {xs : List Value} {a b : Array Value} (h : W.ownsRow B t s v n xs) (u : Upd W W' (fun k => k = N ∨ k = M)) (hN : Blk W N 30 a) (hM : Blk W M 79 b) (h1 : t ≠ 30) (h2 : t ≠ 79) : W'.ownsRow B t s v n xs :=
  u.own h (fun g hg e => by
    rcases e with rfl | rfl
    · exact own_blk h hN h1 hg
    · exact own_blk h hM h2 hg)
/-- What fill leaves: the two nodes hold the step's rows, each its own copies. -/
structure Filled (w w' : World) (A N M : Nat) (s : StepV) (e1 e2 : Int) (tv bv fv tv2 bv2 fv2 : Value) : Prop where
  kN : Blk w' N 30 #[tv, bv, fv, .int .i64 e1]
  kM : Blk w' M 79 #[tv2, bv2, fv2, .int .i64 e2]
  t1 : w'.ownsRow A 3 1 tv s.tn (numCells s.tl)
  b1 : w'.ownsRow A 32 2 bv s.bn (prCells s.bl)
  f1 : w'.ownsRow A 3 1 fv s.fn (numCells s.fl)
  t2 : w'.ownsRow A 3 1 tv2 s.tn (numCells s.tl)
  b2 : w'.ownsRow A 32 2 bv2 s.bn (prCells s.bl)
  f2 : w'.ownsRow A 3 1 fv2 s.fn (numCells s.fl)
  upd : Upd w w' (fun k => k = N ∨ k = M)
  new : ∀ g, tv.ownBlock = some g ∨ fv.ownBlock = some g → w.heap.size ≤ g
  apart : ∀ g, tv.ownBlock = some g → fv.ownBlock ≠ some g
theorem prCells_len (l : List Pr) : (prCells l).length = l.length * 2 := by
  induction l with
  | nil => rfl
  | cons p l ih =>
    have e : prCells (p :: l) = .int .i64 p.1 :: .int .i64 p.2 :: prCells l := by simp [prCells]
    rw [e, List.length_cons, List.length_cons, ih, List.length_cons]; omega
theorem low_upd {w0 w W : World} {N M : Nat} (b : Below w0.heap.size w0 w) (u : Upd w W (fun k => k = N ∨ k = M)) (h1 : w0.heap.size ≤ N) (h2 : w0.heap.size ≤ M) : Below w0.heap.size w0 W :=
  b.trans (u.below b.size (fun k e => by
    rcases e with rfl | rfl
    · exact h1
    · exact h2))
set_option maxHeartbeats 4000000 in
set_option maxRecDepth 100000 in
theorem fill_any {w0 w : World} (r : Int) (A N M : Nat) (s : StepV) (e1 e2 : Int) (hs : StepR w0 s) (b0 : Below w0.heap.size w0 w) (hz : s.tn ≤ 100000 ∧ s.bn ≤ 100000 ∧ s.fn ≤ 100000) (hA : A ≤ w.heap.size) (hN : Blk w N 30 #[nil0, nil0, nil0, .int .i64 e1]) (hM : Blk w M 79 #[nil0, nil0, nil0, .int .i64 e2]) (hw0 : w0.heap.size ≤ N ∧ w0.heap.size ≤ M) :
    Calls Try.prog 31 #[.agg #[.int .i64 r, .pointer (some ⟨N, 0, none⟩), .pointer (some ⟨M, 0, none⟩)], .agg (stepC s).toArray] w fun e w' => (∃ v, e = .returned v) ∧ ∃ tv bv fv tv2 bv2 fv2, Filled w w' A N M s e1 e2 tv bv fv tv2 bv2 fv2 := by
  obtain ⟨i0, hi, hz0, hz1, hz2⟩ := info_parts infoInt
  obtain ⟨iP, hiP, hP0, hP1, hP2⟩ := info_parts infoPr
  have hNM : N ≠ M := hN.ne_ hM (by decide)
  have kP0 := (Blk.new w 81 #[.int .i64 r, .pointer (some ⟨N, 0, none⟩), .pointer (some ⟨M, 0, none⟩)]).alloc (.cells (stepC s).toArray 54)
  have kQ0 := Blk.new (w.alloc (.cells #[.int .i64 r, .pointer (some ⟨N, 0, none⟩), .pointer (some ⟨M, 0, none⟩)] 81)) 54 (stepC s).toArray
  have kN0 := (hN.alloc (.cells #[.int .i64 r, .pointer (some ⟨N, 0, none⟩), .pointer (some ⟨M, 0, none⟩)] 81)).alloc (.cells (stepC s).toArray 54)
  have kM0 := (hM.alloc (.cells #[.int .i64 r, .pointer (some ⟨N, 0, none⟩), .pointer (some ⟨M, 0, none⟩)] 81)).alloc (.cells (stepC s).toArray 54)
  have u0 : Upd w ((w.alloc (.cells #[.int .i64 r, .pointer (some ⟨N, 0, none⟩), .pointer (some ⟨M, 0, none⟩)] 81)).alloc (.cells (stepC s).toArray 54)) (fun k => k = N ∨ k = M) := ((Upd.refl w _).alloc _).alloc _
  rw [World.size_alloc] at kQ0
  have HS := Lib.hid (And.intro hs (And.intro b0 (And.intro hA hw0)))
  obtain ⟨hzt, hzb, hzf⟩ := hz
  clear hs b0 hN hM
  unfold stepC at *
  go_enter Try.func31, Try.ntmps31
  go_wp2_with fail
  obtain ⟨P, hP⟩ : ∃ P, w.heap.size = P := ⟨_, rfl⟩
  obtain ⟨Q, hQ⟩ : ∃ Q, P + 1 = Q := ⟨_, rfl⟩
  have hA' : A ≤ P := by omega
  rw [hP] at kP0 kQ0 ⊢
  rw [hQ] at kQ0 ⊢
  have HPQ := Lib.hid hP
  clear hQ hA hP
  obtain ⟨D, hD⟩ : ∃ D, (w.alloc (.cells #[.int .i64 r, .pointer (some ⟨N, 0, none⟩), .pointer (some ⟨M, 0, none⟩)] 81)).alloc (.cells #[.int .i64 s.kind, .slice s.ta s.tn s.tcap, .slice s.ba s.bn s.bcap, .slice s.fa s.fn s.fcap, .int .i64 s.n] 54) = D := ⟨_, rfl⟩
  rw [hD] at kP0 kQ0 kN0 kM0 u0 ⊢
  clear hD
  refine wp_region_till (m := 15) (S := (fun W => W.cell? ⟨P, 1, none⟩ = some (.pointer (some ⟨N, 0, none⟩)) ∧ W.cell? ⟨P, 2, none⟩ = some (.pointer (some ⟨M, 0, none⟩)) ∧ W.cell? ⟨Q, 1, none⟩ = some (.slice s.ta s.tn s.tcap))) (by kernel_rfl) ?_
  have kP1 : Blk D.drew P _ _ := kP0
  have kQ1 : Blk D.drew Q _ _ := kQ0
  have kN1 : Blk D.drew N _ _ := kN0
  have kM1 : Blk D.drew M _ _ := kM0
  have u1 : Upd w D.drew (fun k => k = N ∨ k = M) := u0.drew
  clear kP0 kQ0 kN0 kM0 u0 
  generalize D.drew = D at *
  have d0 : D.cell? ⟨P, 1, none⟩ = some (.pointer (some ⟨N, 0, none⟩)) := by rw [kP1.cell]; rfl
  have d1 : D.cell? ⟨P, 2, none⟩ = some (.pointer (some ⟨M, 0, none⟩)) := by rw [kP1.cell]; rfl
  have d2 : D.cell? ⟨Q, 1, none⟩ = some (.slice s.ta s.tn s.tcap) := by rw [kQ1.cell]; rfl
  have H1 := Lib.hid (And.intro kP1 (And.intro kQ1 (And.intro kN1 (And.intro kM1 u1))))
  clear kP1 kQ1 kN1 kM1 u1
  change tillH _ _ _ _ _ _ 16 #[false, false, false, false, false, false, false, false, false, false, false, false, false, false, false, false] _ _
  refine tillH_takeAny (i := 0) (oi := ?oo1) (v := ?vv1) ?hi1 (by kernel_rfl) (by kernel_rfl) (by kernel_rfl) ?hq1 (by kernel_rfl) ?hy1 (fun _ => ⟨d0, d1, d2⟩) ?hh1
  case hi1 => (simp only [List.getElem?_toArray, List.getElem?_cons_succ, List.getElem?_cons_zero]; rfl)
  case hq1 => exact fun _ _ _ h => h
  case hy1 => exact Or.inl ⟨by rfl, by (intro W; go_simp; (try with_reducible rfl))⟩
  (try simp only [Act.put, List.setIfInBounds_toArray, List.set_cons_zero, List.set_cons_succ])
  refine tillH_take (i := 1) (oi := ?oo2) (v := ?vv2) ?hi2 (by kernel_rfl) (by kernel_rfl) (by kernel_rfl) ?hq2 (by kernel_rfl) (by kernel_rfl) (by kernel_rfl) ?hy2 ⟨d0, d1, d2⟩ ?hh2
  case hi2 => (simp only [List.getElem?_toArray, List.getElem?_cons_succ, List.getElem?_cons_zero]; rfl)
  case hq2 => exact fun _ _ _ h => h
  case hy2 => exact Or.inl ⟨by rfl, by (intro W hSw; (try obtain ⟨s0, s1, s2⟩ := hSw); go_simp; (try with_reducible rfl))⟩
  (try simp only [Act.put, List.setIfInBounds_toArray, List.set_cons_zero, List.set_cons_succ])
  refine tillH_takeAny (i := 2) (oi := ?oo3) (v := ?vv3) ?hi3 (by kernel_rfl) (by kernel_rfl) (by kernel_rfl) ?hq3 (by kernel_rfl) ?hy3 (fun _ => ⟨d0, d1, d2⟩) ?hh3
  case hi3 => (simp only [List.getElem?_toArray, List.getElem?_cons_succ, List.getElem?_cons_zero]; rfl)
  case hq3 => exact fun _ _ _ h => h
  case hy3 => exact Or.inl ⟨by rfl, by (intro W; go_simp; (try with_reducible rfl))⟩
  (try simp only [Act.put, List.setIfInBounds_toArray, List.set_cons_zero, List.set_cons_succ])
  refine tillH_take (i := 3) (oi := ?oo4) (v := ?vv4) ?hi4 (by kernel_rfl) (by kernel_rfl) (by kernel_rfl) ?hq4 (by kernel_rfl) (by kernel_rfl) (by kernel_rfl) ?hy4 ⟨d0, d1, d2⟩ ?hh4
  case hi4 => (simp only [List.getElem?_toArray, List.getElem?_cons_succ, List.getElem?_cons_zero]; rfl)
  case hq4 => exact fun _ _ _ h => h
  case hy4 => exact Or.inl ⟨by rfl, by (intro W hSw; (try obtain ⟨s0, s1, s2⟩ := hSw); go_simp; (try with_reducible rfl))⟩
  (try simp only [Act.put, List.setIfInBounds_toArray, List.set_cons_zero, List.set_cons_succ])
  refine tillH_takeAny (i := 4) (oi := ?oo5) (v := ?vv5) ?hi5 (by kernel_rfl) (by kernel_rfl) (by kernel_rfl) ?hq5 (by kernel_rfl) ?hy5 (fun _ => ⟨d0, d1, d2⟩) ?hh5
  case hi5 => (simp only [List.getElem?_toArray, List.getElem?_cons_succ, List.getElem?_cons_zero]; rfl)
  case hq5 => exact fun _ _ _ h => h
  case hy5 => exact Or.inl ⟨by rfl, by (intro W; go_simp; (try with_reducible rfl))⟩
  (try simp only [Act.put, List.setIfInBounds_toArray, List.set_cons_zero, List.set_cons_succ])
  refine tillH_take (i := 5) (oi := ?oo6) (v := ?vv6) ?hi6 (by kernel_rfl) (by kernel_rfl) (by kernel_rfl) ?hq6 (by kernel_rfl) (by kernel_rfl) (by kernel_rfl) ?hy6 ⟨d0, d1, d2⟩ ?hh6
  case hi6 => (simp only [List.getElem?_toArray, List.getElem?_cons_succ, List.getElem?_cons_zero]; rfl)
  case hq6 => exact fun _ _ _ h => h
  case hy6 => exact Or.inl ⟨by rfl, by (intro W hSw; (try obtain ⟨s0, s1, s2⟩ := hSw); go_simp; (try with_reducible rfl))⟩
  (try simp only [Act.put, List.setIfInBounds_toArray, List.set_cons_zero, List.set_cons_succ])
  refine tillH_takeAny (i := 7) (oi := ?oo7) (v := ?vv7) ?hi7 (by kernel_rfl) (by kernel_rfl) (by kernel_rfl) ?hq7 (by kernel_rfl) ?hy7 (fun _ => ⟨d0, d1, d2⟩) ?hh7
  case hi7 => (simp only [List.getElem?_toArray, List.getElem?_cons_succ, List.getElem?_cons_zero]; rfl)
  case hq7 => exact fun _ _ _ h => h
  case hy7 => exact Or.inl ⟨by rfl, by (intro W; go_simp; (try with_reducible rfl))⟩
  (try simp only [Act.put, List.setIfInBounds_toArray, List.set_cons_zero, List.set_cons_succ])
  refine tillH_take (i := 8) (oi := ?oo8) (v := ?vv8) ?hi8 (by kernel_rfl) (by kernel_rfl) (by kernel_rfl) ?hq8 (by kernel_rfl) (by kernel_rfl) (by kernel_rfl) ?hy8 ⟨d0, d1, d2⟩ ?hh8
  case hi8 => (simp only [List.getElem?_toArray, List.getElem?_cons_succ, List.getElem?_cons_zero]; rfl)
  case hq8 => exact fun _ _ _ h => h
  case hy8 => exact Or.inl ⟨by rfl, by (intro W hSw; (try obtain ⟨s0, s1, s2⟩ := hSw); go_simp; (try with_reducible rfl))⟩
  (try simp only [Act.put, List.setIfInBounds_toArray, List.set_cons_zero, List.set_cons_succ])
  refine tillH_next (rs := [6]) (by kernel_rfl) (by simp) ?_
  refine NextH.cons rfl (fun K hK => ?_) NextH.nil
  have hb0 : Below w0.heap.size w0 D := low_upd HS.out.2.1 H1.out.2.2.2.2 HS.out.2.2.2.1 HS.out.2.2.2.2
  refine step_onto (by rfl) _ _ _ (by rfl) A 3 i0 (.int .i64 0) 1 8 Try.underlying22 hi hz0 hz1 hz2 rfl (by decide) nil0 0 [] (by rfl) (World.ownsRow_nil _ _ _ _) s.ta s.tn s.tcap (numCells s.tl) (by rfl) (by simp [numCells, HS.out.1.to_.1]) (argR_src HS.out.1.to_ hb0) (numCells_one _) (by unfold maxLen; omega) (by omega) (by have := H1.out.2.2.2.2.size; have := HPQ.out; omega) ?_
  intro va Wa ownva growva newva
  rw [Nat.zero_add, List.nil_append] at ownva
  obtain ⟨pva, cva, rfl, -⟩ := own_shape ownva
  have gva : Below D.heap.size D Wa := (Below.refl _ _).grown growva (Nat.le_refl _) (fun k hk => by simp [Value.ownBlock] at hk)
  have H2 := Lib.hid (And.intro (H1.out.1.below gva H1.out.1.lt) (And.intro (H1.out.2.1.below gva H1.out.2.1.lt) (And.intro (H1.out.2.2.1.below gva H1.out.2.2.1.lt) (And.intro (H1.out.2.2.2.1.below gva H1.out.2.2.2.1.lt) (H1.out.2.2.2.2.then_below gva)))))
  have dd0 : Wa.cell? ⟨P, 1, none⟩ = some (.pointer (some ⟨N, 0, none⟩)) := by rw [H2.out.1.cell]; rfl
  have dd1 : Wa.cell? ⟨P, 2, none⟩ = some (.pointer (some ⟨M, 0, none⟩)) := by rw [H2.out.1.cell]; rfl
  have dd2 : Wa.cell? ⟨Q, 1, none⟩ = some (.slice s.ta s.tn s.tcap) := by rw [H2.out.2.1.cell]; rfl
  refine hK.out _ _ (fun _ => ⟨dd0, dd1, dd2⟩) ?_
  clear hK K d0 d1 d2
  (try simp only [Act.put, List.setIfInBounds_toArray, List.set_cons_zero, List.set_cons_succ])
  have d0 := dd0
  have d1 := dd1
  have d2 := dd2
  clear dd0 dd1 dd2
  refine tillH_next (rs := [9]) (by kernel_rfl) (by simp) ?_
  refine NextH.cons rfl (fun K hK => ?_) NextH.nil
  have hb1 : Below w0.heap.size w0 Wa := low_upd HS.out.2.1 H2.out.2.2.2.2 HS.out.2.2.2.1 HS.out.2.2.2.2
  refine step_onto (by rfl) _ _ _ (by rfl) A 3 i0 (.int .i64 0) 1 8 Try.underlying22 hi hz0 hz1 hz2 rfl (by decide) nil0 0 [] (by rfl) (World.ownsRow_nil _ _ _ _) s.ta s.tn s.tcap (numCells s.tl) (by rfl) (by simp [numCells, HS.out.1.to_.1]) (argR_src HS.out.1.to_ hb1) (numCells_one _) (by unfold maxLen; omega) (by omega) (by have := H2.out.2.2.2.2.size; have := HPQ.out; omega) ?_
  intro vb Wb ownvb growvb newvb
  rw [Nat.zero_add, List.nil_append] at ownvb
  obtain ⟨pvb, cvb, rfl, -⟩ := own_shape ownvb
  have gvb : Below Wa.heap.size Wa Wb := (Below.refl _ _).grown growvb (Nat.le_refl _) (fun k hk => by simp [Value.ownBlock] at hk)
  have H3 := Lib.hid (And.intro (H2.out.1.below gvb H2.out.1.lt) (And.intro (H2.out.2.1.below gvb H2.out.2.1.lt) (And.intro (H2.out.2.2.1.below gvb H2.out.2.2.1.lt) (And.intro (H2.out.2.2.2.1.below gvb H2.out.2.2.2.1.lt) (H2.out.2.2.2.2.then_below gvb)))))
  have dd0 : Wb.cell? ⟨P, 1, none⟩ = some (.pointer (some ⟨N, 0, none⟩)) := by rw [H3.out.1.cell]; rfl
  have dd1 : Wb.cell? ⟨P, 2, none⟩ = some (.pointer (some ⟨M, 0, none⟩)) := by rw [H3.out.1.cell]; rfl
  have dd2 : Wb.cell? ⟨Q, 1, none⟩ = some (.slice s.ta s.tn s.tcap) := by rw [H3.out.2.1.cell]; rfl
  have ownva := own_below ownva gvb
  refine hK.out _ _ (fun _ => ⟨dd0, dd1, dd2⟩) ?_
  clear hK K d0 d1 d2
  (try simp only [Act.put, List.setIfInBounds_toArray, List.set_cons_zero, List.set_cons_succ])
  have d0 := dd0
  have d1 := dd1
  have d2 := dd2
  clear dd0 dd1 dd2
  refine tillH_takeAny (i := 10) (oi := ?oo9) (v := ?vv9) ?hi9 (by kernel_rfl) (by kernel_rfl) (by kernel_rfl) ?hq9 (by kernel_rfl) ?hy9 (fun _ => ⟨d0, d1, d2⟩) ?hh9
  case hi9 => (simp only [List.getElem?_toArray, List.getElem?_cons_succ, List.getElem?_cons_zero]; rfl)
  case hq9 => exact fun _ _ _ h => h
  case hy9 => exact Or.inl ⟨by rfl, by (intro W; go_simp; (try with_reducible rfl))⟩
  (try simp only [Act.put, List.setIfInBounds_toArray, List.set_cons_zero, List.set_cons_succ])
  refine tillH_takeAny (i := 11) (oi := ?oo10) (v := ?vv10) ?hi10 (by kernel_rfl) (by kernel_rfl) (by kernel_rfl) ?hq10 (by kernel_rfl) ?hy10 (fun _ => ⟨d0, d1, d2⟩) ?hh10
  case hi10 => (simp only [List.getElem?_toArray, List.getElem?_cons_succ, List.getElem?_cons_zero]; rfl)
  case hq10 => exact fun _ _ _ h => h
  case hy10 => exact Or.inl ⟨by rfl, by (intro W; go_simp; (try with_reducible rfl))⟩
  (try simp only [Act.put, List.setIfInBounds_toArray, List.set_cons_zero, List.set_cons_succ])
  have x0 : Wb.cell? ⟨N, 0, none⟩ = some (nil0) := by rw [H3.out.2.2.1.cell]; rfl
  have z0 := H3.out.2.2.1.frozen 0
  have l0 := H3.out.2.2.1.lt
  refine tillH_next (rs := [12]) (by kernel_rfl) (by simp) ?_
  refine NextH.cons rfl (fun K hK => ?_) NextH.nil
  go_simp
  have hPN : P ≠ N := H3.out.1.ne_ H3.out.2.2.1 (by decide)
  have hQN : Q ≠ N := H3.out.2.1.ne_ H3.out.2.2.1 (by decide)
  have hPM : P ≠ M := H3.out.1.ne_ H3.out.2.2.2.1 (by decide)
  have hQM : Q ≠ M := H3.out.2.1.ne_ H3.out.2.2.2.1 (by decide)
  have H4 := Lib.hid (And.intro (H3.out.1.far (p := ⟨N, 0, none⟩) hPN (Value.slice pva s.tn cva)) (And.intro (H3.out.2.1.far (p := ⟨N, 0, none⟩) hQN (Value.slice pva s.tn cva)) (And.intro (H3.out.2.2.1.set_ 0 (Value.slice pva s.tn cva)) (And.intro (H3.out.2.2.2.1.far (p := ⟨N, 0, none⟩) (fun e => hNM e.symm) (Value.slice pva s.tn cva)) (H3.out.2.2.2.2.set N 0 (Value.slice pva s.tn cva) (.inl rfl))))))
  have us4 : Upd Wb (Wb.setCell ⟨N, 0, none⟩ (Value.slice pva s.tn cva)) (fun k => k = N ∨ k = M) := (Upd.refl _ _).set N 0 (Value.slice pva s.tn cva) (.inl rfl)
  have ownva := row_beside ownva us4 H3.out.2.2.1 H3.out.2.2.2.1 (by decide) (by decide)
  have ownvb := row_beside ownvb us4 H3.out.2.2.1 H3.out.2.2.2.1 (by decide) (by decide)
  have dd0 : (Wb.setCell ⟨N, 0, none⟩ (Value.slice pva s.tn cva)).cell? ⟨P, 1, none⟩ = some (.pointer (some ⟨N, 0, none⟩)) := by rw [H4.out.1.cell]; rfl
  have dd1 : (Wb.setCell ⟨N, 0, none⟩ (Value.slice pva s.tn cva)).cell? ⟨P, 2, none⟩ = some (.pointer (some ⟨M, 0, none⟩)) := by rw [H4.out.1.cell]; rfl
  have dd2 : (Wb.setCell ⟨N, 0, none⟩ (Value.slice pva s.tn cva)).cell? ⟨Q, 1, none⟩ = some (.slice s.ta s.tn s.tcap) := by rw [H4.out.2.1.cell]; rfl
  refine hK.out _ _ (fun _ => ⟨dd0, dd1, dd2⟩) ?_
  clear hK K d0 d1 d2 x0 z0 l0 us4
  (try simp only [Act.put, List.setIfInBounds_toArray, List.set_cons_zero, List.set_cons_succ])
  generalize Wb.setCell ⟨N, 0, none⟩ (Value.slice pva s.tn cva) = Wc at *
  refine tillH_takeAny (i := 13) (oi := ?oo11) (v := ?vv11) ?hi11 (by kernel_rfl) (by kernel_rfl) (by kernel_rfl) ?hq11 (by kernel_rfl) ?hy11 (fun _ => ⟨dd0, dd1, dd2⟩) ?hh11
  case hi11 => (simp only [List.getElem?_toArray, List.getElem?_cons_succ, List.getElem?_cons_zero]; rfl)
  case hq11 => exact fun _ _ _ h => h
  case hy11 => exact Or.inl ⟨by rfl, by (intro W; go_simp; (try with_reducible rfl))⟩
  (try simp only [Act.put, List.setIfInBounds_toArray, List.set_cons_zero, List.set_cons_succ])
  refine tillH_takeAny (i := 14) (oi := ?oo12) (v := ?vv12) ?hi12 (by kernel_rfl) (by kernel_rfl) (by kernel_rfl) ?hq12 (by kernel_rfl) ?hy12 (fun _ => ⟨dd0, dd1, dd2⟩) ?hh12
  case hi12 => (simp only [List.getElem?_toArray, List.getElem?_cons_succ, List.getElem?_cons_zero]; rfl)
  case hq12 => exact fun _ _ _ h => h
  case hy12 => exact Or.inl ⟨by rfl, by (intro W; go_simp; (try with_reducible rfl))⟩
  (try simp only [Act.put, List.setIfInBounds_toArray, List.set_cons_zero, List.set_cons_succ])
  clear dd0 dd1 dd2
  have x0 : Wc.cell? ⟨M, 0, none⟩ = some (nil0) := by rw [H4.out.2.2.2.1.cell]; rfl
  have z0 := H4.out.2.2.2.1.frozen 0
  have l0 := H4.out.2.2.2.1.lt
  refine tillH_next (rs := [15]) (by kernel_rfl) (by simp) ?_
  refine NextH.cons rfl (fun K hK => ?_) NextH.nil
  go_simp
  have kP0 := H4.out.1.far (p := ⟨M, 0, none⟩) hPM (Value.slice pvb s.tn cvb)
  have kQ0 := H4.out.2.1.far (p := ⟨M, 0, none⟩) hQM (Value.slice pvb s.tn cvb)
  have kN0 := H4.out.2.2.1.far (p := ⟨M, 0, none⟩) hNM (Value.slice pvb s.tn cvb)
  have kM0 := H4.out.2.2.2.1.set_ 0 (Value.slice pvb s.tn cvb)
  have u0 := H4.out.2.2.2.2.set M 0 (Value.slice pvb s.tn cvb) (.inr rfl)
  have us5 : Upd Wc (Wc.setCell ⟨M, 0, none⟩ (Value.slice pvb s.tn cvb)) (fun k => k = N ∨ k = M) := (Upd.refl _ _).set M 0 (Value.slice pvb s.tn cvb) (.inr rfl)
  have own_ta := row_beside ownva us5 H4.out.2.2.1 H4.out.2.2.2.1 (by decide) (by decide)
  have own_tb := row_beside ownvb us5 H4.out.2.2.1 H4.out.2.2.2.1 (by decide) (by decide)
  refine hK.out _ _ (fun h => absurd h (by simp)) ?_
  clear hK K x0 z0 l0 us5 hPN hQN hPM hQM ownva ownvb 
  (try simp only [Act.put, List.setIfInBounds_toArray, List.set_cons_zero, List.set_cons_succ])
  refine tillH_done (by kernel_rfl) ?_ _
  generalize Wc.setCell ⟨M, 0, none⟩ (Value.slice pvb s.tn cvb) = D0 at *
  have Hlot : ∀ g, (Value.slice pva s.tn cva).ownBlock = some g → w.heap.size ≤ g := fun g hg => by
    have hs1 := H1.out.2.2.2.2.size
    rcases newva g hg with h | h
    · simp [Value.ownBlock] at h
    · omega
  clear newva newvb growva growvb gva gvb hb0 hb1 H1 H2 H3 H4
  generalize Value.slice pva s.tn cva = vta at *
  generalize Value.slice pvb s.tn cvb = vtb at *
  generalize D0 = D at *
  go_wp2_with fail
  refine wp_region_till (m := 15) (S := (fun W => W.cell? ⟨P, 1, none⟩ = some (.pointer (some ⟨N, 0, none⟩)) ∧ W.cell? ⟨P, 2, none⟩ = some (.pointer (some ⟨M, 0, none⟩)) ∧ W.cell? ⟨Q, 2, none⟩ = some (.slice s.ba s.bn s.bcap))) (by kernel_rfl) ?_
  have kP1 : Blk D.drew P _ _ := kP0
  have kQ1 : Blk D.drew Q _ _ := kQ0
  have kN1 : Blk D.drew N _ _ := kN0
  have kM1 : Blk D.drew M _ _ := kM0
  have u1 : Upd w D.drew (fun k => k = N ∨ k = M) := u0.drew
  have own_ta1 : D.drew.ownsRow A 3 1 vta s.tn (numCells s.tl) := own_ta
  have own_tb1 : D.drew.ownsRow A 3 1 vtb s.tn (numCells s.tl) := own_tb
  clear kP0 kQ0 kN0 kM0 u0 own_ta own_tb
  generalize D.drew = D at *
  have d0 : D.cell? ⟨P, 1, none⟩ = some (.pointer (some ⟨N, 0, none⟩)) := by rw [kP1.cell]; rfl
  have d1 : D.cell? ⟨P, 2, none⟩ = some (.pointer (some ⟨M, 0, none⟩)) := by rw [kP1.cell]; rfl
  have d2 : D.cell? ⟨Q, 2, none⟩ = some (.slice s.ba s.bn s.bcap) := by rw [kQ1.cell]; rfl
  have H1 := Lib.hid (And.intro kP1 (And.intro kQ1 (And.intro kN1 (And.intro kM1 u1))))
  clear kP1 kQ1 kN1 kM1 u1
  change tillH _ _ _ _ _ _ 16 #[false, false, false, false, false, false, false, false, false, false, false, false, false, false, false, false] _ _
  have Hown_ta := Lib.hid own_ta1
  clear own_ta1
  have Hown_tb := Lib.hid own_tb1
  clear own_tb1
  refine tillH_takeAny (i := 0) (oi := ?oo13) (v := ?vv13) ?hi13 (by kernel_rfl) (by kernel_rfl) (by kernel_rfl) ?hq13 (by kernel_rfl) ?hy13 (fun _ => ⟨d0, d1, d2⟩) ?hh13
  case hi13 => (simp only [List.getElem?_toArray, List.getElem?_cons_succ, List.getElem?_cons_zero]; rfl)
  case hq13 => exact fun _ _ _ h => h
  case hy13 => exact Or.inl ⟨by rfl, by (intro W; go_simp; (try with_reducible rfl))⟩
  (try simp only [Act.put, List.setIfInBounds_toArray, List.set_cons_zero, List.set_cons_succ])
  refine tillH_take (i := 1) (oi := ?oo14) (v := ?vv14) ?hi14 (by kernel_rfl) (by kernel_rfl) (by kernel_rfl) ?hq14 (by kernel_rfl) (by kernel_rfl) (by kernel_rfl) ?hy14 ⟨d0, d1, d2⟩ ?hh14
  case hi14 => (simp only [List.getElem?_toArray, List.getElem?_cons_succ, List.getElem?_cons_zero]; rfl)
  case hq14 => exact fun _ _ _ h => h
  case hy14 => exact Or.inl ⟨by rfl, by (intro W hSw; (try obtain ⟨s0, s1, s2⟩ := hSw); go_simp; (try with_reducible rfl))⟩
  (try simp only [Act.put, List.setIfInBounds_toArray, List.set_cons_zero, List.set_cons_succ])
  refine tillH_takeAny (i := 2) (oi := ?oo15) (v := ?vv15) ?hi15 (by kernel_rfl) (by kernel_rfl) (by kernel_rfl) ?hq15 (by kernel_rfl) ?hy15 (fun _ => ⟨d0, d1, d2⟩) ?hh15
  case hi15 => (simp only [List.getElem?_toArray, List.getElem?_cons_succ, List.getElem?_cons_zero]; rfl)
  case hq15 => exact fun _ _ _ h => h
  case hy15 => exact Or.inl ⟨by rfl, by (intro W; go_simp; (try with_reducible rfl))⟩
  (try simp only [Act.put, List.setIfInBounds_toArray, List.set_cons_zero, List.set_cons_succ])
  refine tillH_take (i := 3) (oi := ?oo16) (v := ?vv16) ?hi16 (by kernel_rfl) (by kernel_rfl) (by kernel_rfl) ?hq16 (by kernel_rfl) (by kernel_rfl) (by kernel_rfl) ?hy16 ⟨d0, d1, d2⟩ ?hh16
  case hi16 => (simp only [List.getElem?_toArray, List.getElem?_cons_succ, List.getElem?_cons_zero]; rfl)
  case hq16 => exact fun _ _ _ h => h
  case hy16 => exact Or.inl ⟨by rfl, by (intro W hSw; (try obtain ⟨s0, s1, s2⟩ := hSw); go_simp; (try with_reducible rfl))⟩
  (try simp only [Act.put, List.setIfInBounds_toArray, List.set_cons_zero, List.set_cons_succ])
  refine tillH_takeAny (i := 4) (oi := ?oo17) (v := ?vv17) ?hi17 (by kernel_rfl) (by kernel_rfl) (by kernel_rfl) ?hq17 (by kernel_rfl) ?hy17 (fun _ => ⟨d0, d1, d2⟩) ?hh17
  case hi17 => (simp only [List.getElem?_toArray, List.getElem?_cons_succ, List.getElem?_cons_zero]; rfl)
  case hq17 => exact fun _ _ _ h => h
  case hy17 => exact Or.inl ⟨by rfl, by (intro W; go_simp; (try with_reducible rfl))⟩
  (try simp only [Act.put, List.setIfInBounds_toArray, List.set_cons_zero, List.set_cons_succ])
  refine tillH_take (i := 5) (oi := ?oo18) (v := ?vv18) ?hi18 (by kernel_rfl) (by kernel_rfl) (by kernel_rfl) ?hq18 (by kernel_rfl) (by kernel_rfl) (by kernel_rfl) ?hy18 ⟨d0, d1, d2⟩ ?hh18
  case hi18 => (simp only [List.getElem?_toArray, List.getElem?_cons_succ, List.getElem?_cons_zero]; rfl)
  case hq18 => exact fun _ _ _ h => h
  case hy18 => exact Or.inl ⟨by rfl, by (intro W hSw; (try obtain ⟨s0, s1, s2⟩ := hSw); go_simp; (try with_reducible rfl))⟩
  (try simp only [Act.put, List.setIfInBounds_toArray, List.set_cons_zero, List.set_cons_succ])
  refine tillH_takeAny (i := 7) (oi := ?oo19) (v := ?vv19) ?hi19 (by kernel_rfl) (by kernel_rfl) (by kernel_rfl) ?hq19 (by kernel_rfl) ?hy19 (fun _ => ⟨d0, d1, d2⟩) ?hh19
  case hi19 => (simp only [List.getElem?_toArray, List.getElem?_cons_succ, List.getElem?_cons_zero]; rfl)
  case hq19 => exact fun _ _ _ h => h
  case hy19 => exact Or.inl ⟨by rfl, by (intro W; go_simp; (try with_reducible rfl))⟩
  (try simp only [Act.put, List.setIfInBounds_toArray, List.set_cons_zero, List.set_cons_succ])
  refine tillH_take (i := 8) (oi := ?oo20) (v := ?vv20) ?hi20 (by kernel_rfl) (by kernel_rfl) (by kernel_rfl) ?hq20 (by kernel_rfl) (by kernel_rfl) (by kernel_rfl) ?hy20 ⟨d0, d1, d2⟩ ?hh20
  case hi20 => (simp only [List.getElem?_toArray, List.getElem?_cons_succ, List.getElem?_cons_zero]; rfl)
  case hq20 => exact fun _ _ _ h => h
  case hy20 => exact Or.inl ⟨by rfl, by (intro W hSw; (try obtain ⟨s0, s1, s2⟩ := hSw); go_simp; (try with_reducible rfl))⟩
  (try simp only [Act.put, List.setIfInBounds_toArray, List.set_cons_zero, List.set_cons_succ])
  refine tillH_next (rs := [6]) (by kernel_rfl) (by simp) ?_
  refine NextH.cons rfl (fun K hK => ?_) NextH.nil
  have hb0 : Below w0.heap.size w0 D := low_upd HS.out.2.1 H1.out.2.2.2.2 HS.out.2.2.2.1 HS.out.2.2.2.2
  refine step_onto (by rfl) _ _ _ (by rfl) A 32 iP (.agg #[.int .i64 0, .int .i64 0]) 2 16 Try.underlying28 hiP hP0 hP1 hP2 rfl (by decide) nil0 0 [] (by rfl) (World.ownsRow_nil _ _ _ _) s.ba s.bn s.bcap (prCells s.bl) (by rfl) (by rw [prCells_len, HS.out.1.tab.1]) (argP_src HS.out.1.tab hb0) (prCells_one _) (by unfold maxLen; omega) (by omega) (by have := H1.out.2.2.2.2.size; have := HPQ.out; omega) ?_
  intro va Wa ownva growva newva
  rw [Nat.zero_add, List.nil_append] at ownva
  obtain ⟨pva, cva, rfl, -⟩ := own_shape ownva
  have gva : Below D.heap.size D Wa := (Below.refl _ _).grown growva (Nat.le_refl _) (fun k hk => by simp [Value.ownBlock] at hk)
  have H2 := Lib.hid (And.intro (H1.out.1.below gva H1.out.1.lt) (And.intro (H1.out.2.1.below gva H1.out.2.1.lt) (And.intro (H1.out.2.2.1.below gva H1.out.2.2.1.lt) (And.intro (H1.out.2.2.2.1.below gva H1.out.2.2.2.1.lt) (H1.out.2.2.2.2.then_below gva)))))
  have dd0 : Wa.cell? ⟨P, 1, none⟩ = some (.pointer (some ⟨N, 0, none⟩)) := by rw [H2.out.1.cell]; rfl
  have dd1 : Wa.cell? ⟨P, 2, none⟩ = some (.pointer (some ⟨M, 0, none⟩)) := by rw [H2.out.1.cell]; rfl
  have dd2 : Wa.cell? ⟨Q, 2, none⟩ = some (.slice s.ba s.bn s.bcap) := by rw [H2.out.2.1.cell]; rfl
  have Hown_ta := Lib.hid (own_below Hown_ta.out gva)
  have Hown_tb := Lib.hid (own_below Hown_tb.out gva)
  refine hK.out _ _ (fun _ => ⟨dd0, dd1, dd2⟩) ?_
  clear hK K d0 d1 d2
  (try simp only [Act.put, List.setIfInBounds_toArray, List.set_cons_zero, List.set_cons_succ])
  have d0 := dd0
  have d1 := dd1
  have d2 := dd2
  clear dd0 dd1 dd2
  refine tillH_next (rs := [9]) (by kernel_rfl) (by simp) ?_
  refine NextH.cons rfl (fun K hK => ?_) NextH.nil
  have hb1 : Below w0.heap.size w0 Wa := low_upd HS.out.2.1 H2.out.2.2.2.2 HS.out.2.2.2.1 HS.out.2.2.2.2
  refine step_onto (by rfl) _ _ _ (by rfl) A 32 iP (.agg #[.int .i64 0, .int .i64 0]) 2 16 Try.underlying28 hiP hP0 hP1 hP2 rfl (by decide) nil0 0 [] (by rfl) (World.ownsRow_nil _ _ _ _) s.ba s.bn s.bcap (prCells s.bl) (by rfl) (by rw [prCells_len, HS.out.1.tab.1]) (argP_src HS.out.1.tab hb1) (prCells_one _) (by unfold maxLen; omega) (by omega) (by have := H2.out.2.2.2.2.size; have := HPQ.out; omega) ?_
  intro vb Wb ownvb growvb newvb
  rw [Nat.zero_add, List.nil_append] at ownvb
  obtain ⟨pvb, cvb, rfl, -⟩ := own_shape ownvb
  have gvb : Below Wa.heap.size Wa Wb := (Below.refl _ _).grown growvb (Nat.le_refl _) (fun k hk => by simp [Value.ownBlock] at hk)
  have H3 := Lib.hid (And.intro (H2.out.1.below gvb H2.out.1.lt) (And.intro (H2.out.2.1.below gvb H2.out.2.1.lt) (And.intro (H2.out.2.2.1.below gvb H2.out.2.2.1.lt) (And.intro (H2.out.2.2.2.1.below gvb H2.out.2.2.2.1.lt) (H2.out.2.2.2.2.then_below gvb)))))
  have dd0 : Wb.cell? ⟨P, 1, none⟩ = some (.pointer (some ⟨N, 0, none⟩)) := by rw [H3.out.1.cell]; rfl
  have dd1 : Wb.cell? ⟨P, 2, none⟩ = some (.pointer (some ⟨M, 0, none⟩)) := by rw [H3.out.1.cell]; rfl
  have dd2 : Wb.cell? ⟨Q, 2, none⟩ = some (.slice s.ba s.bn s.bcap) := by rw [H3.out.2.1.cell]; rfl
  have Hown_ta := Lib.hid (own_below Hown_ta.out gvb)
  have Hown_tb := Lib.hid (own_below Hown_tb.out gvb)
  have ownva := own_below ownva gvb
  refine hK.out _ _ (fun _ => ⟨dd0, dd1, dd2⟩) ?_
  clear hK K d0 d1 d2
  (try simp only [Act.put, List.setIfInBounds_toArray, List.set_cons_zero, List.set_cons_succ])
  have d0 := dd0
  have d1 := dd1
  have d2 := dd2
  clear dd0 dd1 dd2
  refine tillH_takeAny (i := 10) (oi := ?oo21) (v := ?vv21) ?hi21 (by kernel_rfl) (by kernel_rfl) (by kernel_rfl) ?hq21 (by kernel_rfl) ?hy21 (fun _ => ⟨d0, d1, d2⟩) ?hh21
  case hi21 => (simp only [List.getElem?_toArray, List.getElem?_cons_succ, List.getElem?_cons_zero]; rfl)
  case hq21 => exact fun _ _ _ h => h
  case hy21 => exact Or.inl ⟨by rfl, by (intro W; go_simp; (try with_reducible rfl))⟩
  (try simp only [Act.put, List.setIfInBounds_toArray, List.set_cons_zero, List.set_cons_succ])
  refine tillH_takeAny (i := 11) (oi := ?oo22) (v := ?vv22) ?hi22 (by kernel_rfl) (by kernel_rfl) (by kernel_rfl) ?hq22 (by kernel_rfl) ?hy22 (fun _ => ⟨d0, d1, d2⟩) ?hh22
  case hi22 => (simp only [List.getElem?_toArray, List.getElem?_cons_succ, List.getElem?_cons_zero]; rfl)
  case hq22 => exact fun _ _ _ h => h
  case hy22 => exact Or.inl ⟨by rfl, by (intro W; go_simp; (try with_reducible rfl))⟩
  (try simp only [Act.put, List.setIfInBounds_toArray, List.set_cons_zero, List.set_cons_succ])
  have x0 : Wb.cell? ⟨N, 1, none⟩ = some (nil0) := by rw [H3.out.2.2.1.cell]; rfl
  have z0 := H3.out.2.2.1.frozen 1
  have l0 := H3.out.2.2.1.lt
  refine tillH_next (rs := [12]) (by kernel_rfl) (by simp) ?_
  refine NextH.cons rfl (fun K hK => ?_) NextH.nil
  go_simp
  have hPN : P ≠ N := H3.out.1.ne_ H3.out.2.2.1 (by decide)
  have hQN : Q ≠ N := H3.out.2.1.ne_ H3.out.2.2.1 (by decide)
  have hPM : P ≠ M := H3.out.1.ne_ H3.out.2.2.2.1 (by decide)
  have hQM : Q ≠ M := H3.out.2.1.ne_ H3.out.2.2.2.1 (by decide)
  have H4 := Lib.hid (And.intro (H3.out.1.far (p := ⟨N, 1, none⟩) hPN (Value.slice pva s.bn cva)) (And.intro (H3.out.2.1.far (p := ⟨N, 1, none⟩) hQN (Value.slice pva s.bn cva)) (And.intro (H3.out.2.2.1.set_ 1 (Value.slice pva s.bn cva)) (And.intro (H3.out.2.2.2.1.far (p := ⟨N, 1, none⟩) (fun e => hNM e.symm) (Value.slice pva s.bn cva)) (H3.out.2.2.2.2.set N 1 (Value.slice pva s.bn cva) (.inl rfl))))))
  have us4 : Upd Wb (Wb.setCell ⟨N, 1, none⟩ (Value.slice pva s.bn cva)) (fun k => k = N ∨ k = M) := (Upd.refl _ _).set N 1 (Value.slice pva s.bn cva) (.inl rfl)
  have ownva := row_beside ownva us4 H3.out.2.2.1 H3.out.2.2.2.1 (by decide) (by decide)
  have ownvb := row_beside ownvb us4 H3.out.2.2.1 H3.out.2.2.2.1 (by decide) (by decide)
  have Hown_ta := Lib.hid (row_beside Hown_ta.out us4 H3.out.2.2.1 H3.out.2.2.2.1 (by decide) (by decide))
  have Hown_tb := Lib.hid (row_beside Hown_tb.out us4 H3.out.2.2.1 H3.out.2.2.2.1 (by decide) (by decide))
  have dd0 : (Wb.setCell ⟨N, 1, none⟩ (Value.slice pva s.bn cva)).cell? ⟨P, 1, none⟩ = some (.pointer (some ⟨N, 0, none⟩)) := by rw [H4.out.1.cell]; rfl
  have dd1 : (Wb.setCell ⟨N, 1, none⟩ (Value.slice pva s.bn cva)).cell? ⟨P, 2, none⟩ = some (.pointer (some ⟨M, 0, none⟩)) := by rw [H4.out.1.cell]; rfl
  have dd2 : (Wb.setCell ⟨N, 1, none⟩ (Value.slice pva s.bn cva)).cell? ⟨Q, 2, none⟩ = some (.slice s.ba s.bn s.bcap) := by rw [H4.out.2.1.cell]; rfl
  refine hK.out _ _ (fun _ => ⟨dd0, dd1, dd2⟩) ?_
  clear hK K d0 d1 d2 x0 z0 l0 us4
  (try simp only [Act.put, List.setIfInBounds_toArray, List.set_cons_zero, List.set_cons_succ])
  generalize Wb.setCell ⟨N, 1, none⟩ (Value.slice pva s.bn cva) = Wc at *
  refine tillH_takeAny (i := 13) (oi := ?oo23) (v := ?vv23) ?hi23 (by kernel_rfl) (by kernel_rfl) (by kernel_rfl) ?hq23 (by kernel_rfl) ?hy23 (fun _ => ⟨dd0, dd1, dd2⟩) ?hh23
  case hi23 => (simp only [List.getElem?_toArray, List.getElem?_cons_succ, List.getElem?_cons_zero]; rfl)
  case hq23 => exact fun _ _ _ h => h
  case hy23 => exact Or.inl ⟨by rfl, by (intro W; go_simp; (try with_reducible rfl))⟩
  (try simp only [Act.put, List.setIfInBounds_toArray, List.set_cons_zero, List.set_cons_succ])
  refine tillH_takeAny (i := 14) (oi := ?oo24) (v := ?vv24) ?hi24 (by kernel_rfl) (by kernel_rfl) (by kernel_rfl) ?hq24 (by kernel_rfl) ?hy24 (fun _ => ⟨dd0, dd1, dd2⟩) ?hh24
  case hi24 => (simp only [List.getElem?_toArray, List.getElem?_cons_succ, List.getElem?_cons_zero]; rfl)
  case hq24 => exact fun _ _ _ h => h
  case hy24 => exact Or.inl ⟨by rfl, by (intro W; go_simp; (try with_reducible rfl))⟩
  (try simp only [Act.put, List.setIfInBounds_toArray, List.set_cons_zero, List.set_cons_succ])
  clear dd0 dd1 dd2
  have x0 : Wc.cell? ⟨M, 1, none⟩ = some (nil0) := by rw [H4.out.2.2.2.1.cell]; rfl
  have z0 := H4.out.2.2.2.1.frozen 1
  have l0 := H4.out.2.2.2.1.lt
  refine tillH_next (rs := [15]) (by kernel_rfl) (by simp) ?_
  refine NextH.cons rfl (fun K hK => ?_) NextH.nil
  go_simp
  have kP0 := H4.out.1.far (p := ⟨M, 1, none⟩) hPM (Value.slice pvb s.bn cvb)
  have kQ0 := H4.out.2.1.far (p := ⟨M, 1, none⟩) hQM (Value.slice pvb s.bn cvb)
  have kN0 := H4.out.2.2.1.far (p := ⟨M, 1, none⟩) hNM (Value.slice pvb s.bn cvb)
  have kM0 := H4.out.2.2.2.1.set_ 1 (Value.slice pvb s.bn cvb)
  have u0 := H4.out.2.2.2.2.set M 1 (Value.slice pvb s.bn cvb) (.inr rfl)
  have us5 : Upd Wc (Wc.setCell ⟨M, 1, none⟩ (Value.slice pvb s.bn cvb)) (fun k => k = N ∨ k = M) := (Upd.refl _ _).set M 1 (Value.slice pvb s.bn cvb) (.inr rfl)
  have own_ba := row_beside ownva us5 H4.out.2.2.1 H4.out.2.2.2.1 (by decide) (by decide)
  have own_bb := row_beside ownvb us5 H4.out.2.2.1 H4.out.2.2.2.1 (by decide) (by decide)
  have own_ta := row_beside Hown_ta.out us5 H4.out.2.2.1 H4.out.2.2.2.1 (by decide) (by decide)
  have own_tb := row_beside Hown_tb.out us5 H4.out.2.2.1 H4.out.2.2.2.1 (by decide) (by decide)
  refine hK.out _ _ (fun h => absurd h (by simp)) ?_
  clear hK K x0 z0 l0 us5 hPN hQN hPM hQM ownva ownvb Hown_ta Hown_tb
  (try simp only [Act.put, List.setIfInBounds_toArray, List.set_cons_zero, List.set_cons_succ])
  refine tillH_done (by kernel_rfl) ?_ _
  generalize Wc.setCell ⟨M, 1, none⟩ (Value.slice pvb s.bn cvb) = D1 at *
  have Hlob : ∀ g, (Value.slice pva s.bn cva).ownBlock = some g → w.heap.size ≤ g := fun g hg => by
    have hs1 := H1.out.2.2.2.2.size
    rcases newva g hg with h | h
    · simp [Value.ownBlock] at h
    · omega
  clear newva newvb growva growvb gva gvb hb0 hb1 H1 H2 H3 H4
  generalize Value.slice pva s.bn cva = vba at *
  generalize Value.slice pvb s.bn cvb = vbb at *
  generalize D1 = D at *
  go_wp2_with fail
  refine wp_region_till (m := 15) (S := (fun W => W.cell? ⟨P, 1, none⟩ = some (.pointer (some ⟨N, 0, none⟩)) ∧ W.cell? ⟨P, 2, none⟩ = some (.pointer (some ⟨M, 0, none⟩)) ∧ W.cell? ⟨Q, 3, none⟩ = some (.slice s.fa s.fn s.fcap))) (by kernel_rfl) ?_
  have kP1 : Blk D.drew P _ _ := kP0
  have kQ1 : Blk D.drew Q _ _ := kQ0
  have kN1 : Blk D.drew N _ _ := kN0
  have kM1 : Blk D.drew M _ _ := kM0
  have u1 : Upd w D.drew (fun k => k = N ∨ k = M) := u0.drew
  have own_ta1 : D.drew.ownsRow A 3 1 vta s.tn (numCells s.tl) := own_ta
  have own_tb1 : D.drew.ownsRow A 3 1 vtb s.tn (numCells s.tl) := own_tb
  have own_ba1 : D.drew.ownsRow A 32 2 vba s.bn (prCells s.bl) := own_ba
  have own_bb1 : D.drew.ownsRow A 32 2 vbb s.bn (prCells s.bl) := own_bb
  clear kP0 kQ0 kN0 kM0 u0 own_ta own_tb own_ba own_bb
  generalize D.drew = D at *
  have d0 : D.cell? ⟨P, 1, none⟩ = some (.pointer (some ⟨N, 0, none⟩)) := by rw [kP1.cell]; rfl
  have d1 : D.cell? ⟨P, 2, none⟩ = some (.pointer (some ⟨M, 0, none⟩)) := by rw [kP1.cell]; rfl
  have d2 : D.cell? ⟨Q, 3, none⟩ = some (.slice s.fa s.fn s.fcap) := by rw [kQ1.cell]; rfl
  have H1 := Lib.hid (And.intro kP1 (And.intro kQ1 (And.intro kN1 (And.intro kM1 u1))))
  clear kP1 kQ1 kN1 kM1 u1
  change tillH _ _ _ _ _ _ 16 #[false, false, false, false, false, false, false, false, false, false, false, false, false, false, false, false] _ _
  have Hap0 : ∀ g, vta.ownBlock = some g → g < D.heap.size := fun g h => (own_ta1.lt g h).2
  have Hown_ta := Lib.hid own_ta1
  clear own_ta1
  have Hown_tb := Lib.hid own_tb1
  clear own_tb1
  have Hown_ba := Lib.hid own_ba1
  clear own_ba1
  have Hown_bb := Lib.hid own_bb1
  clear own_bb1
  refine tillH_takeAny (i := 0) (oi := ?oo25) (v := ?vv25) ?hi25 (by kernel_rfl) (by kernel_rfl) (by kernel_rfl) ?hq25 (by kernel_rfl) ?hy25 (fun _ => ⟨d0, d1, d2⟩) ?hh25
  case hi25 => (simp only [List.getElem?_toArray, List.getElem?_cons_succ, List.getElem?_cons_zero]; rfl)
  case hq25 => exact fun _ _ _ h => h
  case hy25 => exact Or.inl ⟨by rfl, by (intro W; go_simp; (try with_reducible rfl))⟩
  (try simp only [Act.put, List.setIfInBounds_toArray, List.set_cons_zero, List.set_cons_succ])
  refine tillH_take (i := 1) (oi := ?oo26) (v := ?vv26) ?hi26 (by kernel_rfl) (by kernel_rfl) (by kernel_rfl) ?hq26 (by kernel_rfl) (by kernel_rfl) (by kernel_rfl) ?hy26 ⟨d0, d1, d2⟩ ?hh26
  case hi26 => (simp only [List.getElem?_toArray, List.getElem?_cons_succ, List.getElem?_cons_zero]; rfl)
  case hq26 => exact fun _ _ _ h => h
  case hy26 => exact Or.inl ⟨by rfl, by (intro W hSw; (try obtain ⟨s0, s1, s2⟩ := hSw); go_simp; (try with_reducible rfl))⟩
  (try simp only [Act.put, List.setIfInBounds_toArray, List.set_cons_zero, List.set_cons_succ])
  refine tillH_takeAny (i := 2) (oi := ?oo27) (v := ?vv27) ?hi27 (by kernel_rfl) (by kernel_rfl) (by kernel_rfl) ?hq27 (by kernel_rfl) ?hy27 (fun _ => ⟨d0, d1, d2⟩) ?hh27
  case hi27 => (simp only [List.getElem?_toArray, List.getElem?_cons_succ, List.getElem?_cons_zero]; rfl)
  case hq27 => exact fun _ _ _ h => h
  case hy27 => exact Or.inl ⟨by rfl, by (intro W; go_simp; (try with_reducible rfl))⟩
  (try simp only [Act.put, List.setIfInBounds_toArray, List.set_cons_zero, List.set_cons_succ])
  refine tillH_take (i := 3) (oi := ?oo28) (v := ?vv28) ?hi28 (by kernel_rfl) (by kernel_rfl) (by kernel_rfl) ?hq28 (by kernel_rfl) (by kernel_rfl) (by kernel_rfl) ?hy28 ⟨d0, d1, d2⟩ ?hh28
  case hi28 => (simp only [List.getElem?_toArray, List.getElem?_cons_succ, List.getElem?_cons_zero]; rfl)
  case hq28 => exact fun _ _ _ h => h
  case hy28 => exact Or.inl ⟨by rfl, by (intro W hSw; (try obtain ⟨s0, s1, s2⟩ := hSw); go_simp; (try with_reducible rfl))⟩
  (try simp only [Act.put, List.setIfInBounds_toArray, List.set_cons_zero, List.set_cons_succ])
  refine tillH_takeAny (i := 4) (oi := ?oo29) (v := ?vv29) ?hi29 (by kernel_rfl) (by kernel_rfl) (by kernel_rfl) ?hq29 (by kernel_rfl) ?hy29 (fun _ => ⟨d0, d1, d2⟩) ?hh29
  case hi29 => (simp only [List.getElem?_toArray, List.getElem?_cons_succ, List.getElem?_cons_zero]; rfl)
  case hq29 => exact fun _ _ _ h => h
  case hy29 => exact Or.inl ⟨by rfl, by (intro W; go_simp; (try with_reducible rfl))⟩
  (try simp only [Act.put, List.setIfInBounds_toArray, List.set_cons_zero, List.set_cons_succ])
  refine tillH_take (i := 5) (oi := ?oo30) (v := ?vv30) ?hi30 (by kernel_rfl) (by kernel_rfl) (by kernel_rfl) ?hq30 (by kernel_rfl) (by kernel_rfl) (by kernel_rfl) ?hy30 ⟨d0, d1, d2⟩ ?hh30
  case hi30 => (simp only [List.getElem?_toArray, List.getElem?_cons_succ, List.getElem?_cons_zero]; rfl)
  case hq30 => exact fun _ _ _ h => h
  case hy30 => exact Or.inl ⟨by rfl, by (intro W hSw; (try obtain ⟨s0, s1, s2⟩ := hSw); go_simp; (try with_reducible rfl))⟩
  (try simp only [Act.put, List.setIfInBounds_toArray, List.set_cons_zero, List.set_cons_succ])
  refine tillH_takeAny (i := 7) (oi := ?oo31) (v := ?vv31) ?hi31 (by kernel_rfl) (by kernel_rfl) (by kernel_rfl) ?hq31 (by kernel_rfl) ?hy31 (fun _ => ⟨d0, d1, d2⟩) ?hh31
  case hi31 => (simp only [List.getElem?_toArray, List.getElem?_cons_succ, List.getElem?_cons_zero]; rfl)
  case hq31 => exact fun _ _ _ h => h
  case hy31 => exact Or.inl ⟨by rfl, by (intro W; go_simp; (try with_reducible rfl))⟩
  (try simp only [Act.put, List.setIfInBounds_toArray, List.set_cons_zero, List.set_cons_succ])
  refine tillH_take (i := 8) (oi := ?oo32) (v := ?vv32) ?hi32 (by kernel_rfl) (by kernel_rfl) (by kernel_rfl) ?hq32 (by kernel_rfl) (by kernel_rfl) (by kernel_rfl) ?hy32 ⟨d0, d1, d2⟩ ?hh32
  case hi32 => (simp only [List.getElem?_toArray, List.getElem?_cons_succ, List.getElem?_cons_zero]; rfl)
  case hq32 => exact fun _ _ _ h => h
  case hy32 => exact Or.inl ⟨by rfl, by (intro W hSw; (try obtain ⟨s0, s1, s2⟩ := hSw); go_simp; (try with_reducible rfl))⟩
  (try simp only [Act.put, List.setIfInBounds_toArray, List.set_cons_zero, List.set_cons_succ])
  refine tillH_next (rs := [6]) (by kernel_rfl) (by simp) ?_
  refine NextH.cons rfl (fun K hK => ?_) NextH.nil
  have hb0 : Below w0.heap.size w0 D := low_upd HS.out.2.1 H1.out.2.2.2.2 HS.out.2.2.2.1 HS.out.2.2.2.2
  refine step_onto (by rfl) _ _ _ (by rfl) A 3 i0 (.int .i64 0) 1 8 Try.underlying22 hi hz0 hz1 hz2 rfl (by decide) nil0 0 [] (by rfl) (World.ownsRow_nil _ _ _ _) s.fa s.fn s.fcap (numCells s.fl) (by rfl) (by simp [numCells, HS.out.1.fnt.1]) (argR_src HS.out.1.fnt hb0) (numCells_one _) (by unfold maxLen; omega) (by omega) (by have := H1.out.2.2.2.2.size; have := HPQ.out; omega) ?_
  intro va Wa ownva growva newva
  rw [Nat.zero_add, List.nil_append] at ownva
  obtain ⟨pva, cva, rfl, -⟩ := own_shape ownva
  have gva : Below D.heap.size D Wa := (Below.refl _ _).grown growva (Nat.le_refl _) (fun k hk => by simp [Value.ownBlock] at hk)
  have H2 := Lib.hid (And.intro (H1.out.1.below gva H1.out.1.lt) (And.intro (H1.out.2.1.below gva H1.out.2.1.lt) (And.intro (H1.out.2.2.1.below gva H1.out.2.2.1.lt) (And.intro (H1.out.2.2.2.1.below gva H1.out.2.2.2.1.lt) (H1.out.2.2.2.2.then_below gva)))))
  have dd0 : Wa.cell? ⟨P, 1, none⟩ = some (.pointer (some ⟨N, 0, none⟩)) := by rw [H2.out.1.cell]; rfl
  have dd1 : Wa.cell? ⟨P, 2, none⟩ = some (.pointer (some ⟨M, 0, none⟩)) := by rw [H2.out.1.cell]; rfl
  have dd2 : Wa.cell? ⟨Q, 3, none⟩ = some (.slice s.fa s.fn s.fcap) := by rw [H2.out.2.1.cell]; rfl
  have Hown_ta := Lib.hid (own_below Hown_ta.out gva)
  have Hown_tb := Lib.hid (own_below Hown_tb.out gva)
  have Hown_ba := Lib.hid (own_below Hown_ba.out gva)
  have Hown_bb := Lib.hid (own_below Hown_bb.out gva)
  refine hK.out _ _ (fun _ => ⟨dd0, dd1, dd2⟩) ?_
  clear hK K d0 d1 d2
  (try simp only [Act.put, List.setIfInBounds_toArray, List.set_cons_zero, List.set_cons_succ])
  have d0 := dd0
  have d1 := dd1
  have d2 := dd2
  clear dd0 dd1 dd2
  refine tillH_next (rs := [9]) (by kernel_rfl) (by simp) ?_
  refine NextH.cons rfl (fun K hK => ?_) NextH.nil
  have hb1 : Below w0.heap.size w0 Wa := low_upd HS.out.2.1 H2.out.2.2.2.2 HS.out.2.2.2.1 HS.out.2.2.2.2
  refine step_onto (by rfl) _ _ _ (by rfl) A 3 i0 (.int .i64 0) 1 8 Try.underlying22 hi hz0 hz1 hz2 rfl (by decide) nil0 0 [] (by rfl) (World.ownsRow_nil _ _ _ _) s.fa s.fn s.fcap (numCells s.fl) (by rfl) (by simp [numCells, HS.out.1.fnt.1]) (argR_src HS.out.1.fnt hb1) (numCells_one _) (by unfold maxLen; omega) (by omega) (by have := H2.out.2.2.2.2.size; have := HPQ.out; omega) ?_
  intro vb Wb ownvb growvb newvb
  rw [Nat.zero_add, List.nil_append] at ownvb
  obtain ⟨pvb, cvb, rfl, -⟩ := own_shape ownvb
  have gvb : Below Wa.heap.size Wa Wb := (Below.refl _ _).grown growvb (Nat.le_refl _) (fun k hk => by simp [Value.ownBlock] at hk)
  have H3 := Lib.hid (And.intro (H2.out.1.below gvb H2.out.1.lt) (And.intro (H2.out.2.1.below gvb H2.out.2.1.lt) (And.intro (H2.out.2.2.1.below gvb H2.out.2.2.1.lt) (And.intro (H2.out.2.2.2.1.below gvb H2.out.2.2.2.1.lt) (H2.out.2.2.2.2.then_below gvb)))))
  have dd0 : Wb.cell? ⟨P, 1, none⟩ = some (.pointer (some ⟨N, 0, none⟩)) := by rw [H3.out.1.cell]; rfl
  have dd1 : Wb.cell? ⟨P, 2, none⟩ = some (.pointer (some ⟨M, 0, none⟩)) := by rw [H3.out.1.cell]; rfl
  have dd2 : Wb.cell? ⟨Q, 3, none⟩ = some (.slice s.fa s.fn s.fcap) := by rw [H3.out.2.1.cell]; rfl
  have Hown_ta := Lib.hid (own_below Hown_ta.out gvb)
  have Hown_tb := Lib.hid (own_below Hown_tb.out gvb)
  have Hown_ba := Lib.hid (own_below Hown_ba.out gvb)
  have Hown_bb := Lib.hid (own_below Hown_bb.out gvb)
  have ownva := own_below ownva gvb
  refine hK.out _ _ (fun _ => ⟨dd0, dd1, dd2⟩) ?_
  clear hK K d0 d1 d2
  (try simp only [Act.put, List.setIfInBounds_toArray, List.set_cons_zero, List.set_cons_succ])
  have d0 := dd0
  have d1 := dd1
  have d2 := dd2
  clear dd0 dd1 dd2
  refine tillH_takeAny (i := 10) (oi := ?oo33) (v := ?vv33) ?hi33 (by kernel_rfl) (by kernel_rfl) (by kernel_rfl) ?hq33 (by kernel_rfl) ?hy33 (fun _ => ⟨d0, d1, d2⟩) ?hh33
  case hi33 => (simp only [List.getElem?_toArray, List.getElem?_cons_succ, List.getElem?_cons_zero]; rfl)
  case hq33 => exact fun _ _ _ h => h
  case hy33 => exact Or.inl ⟨by rfl, by (intro W; go_simp; (try with_reducible rfl))⟩
  (try simp only [Act.put, List.setIfInBounds_toArray, List.set_cons_zero, List.set_cons_succ])
  refine tillH_takeAny (i := 11) (oi := ?oo34) (v := ?vv34) ?hi34 (by kernel_rfl) (by kernel_rfl) (by kernel_rfl) ?hq34 (by kernel_rfl) ?hy34 (fun _ => ⟨d0, d1, d2⟩) ?hh34
  case hi34 => (simp only [List.getElem?_toArray, List.getElem?_cons_succ, List.getElem?_cons_zero]; rfl)
  case hq34 => exact fun _ _ _ h => h
  case hy34 => exact Or.inl ⟨by rfl, by (intro W; go_simp; (try with_reducible rfl))⟩
  (try simp only [Act.put, List.setIfInBounds_toArray, List.set_cons_zero, List.set_cons_succ])
  have x0 : Wb.cell? ⟨N, 2, none⟩ = some (nil0) := by rw [H3.out.2.2.1.cell]; rfl
  have z0 := H3.out.2.2.1.frozen 2
  have l0 := H3.out.2.2.1.lt
  refine tillH_next (rs := [12]) (by kernel_rfl) (by simp) ?_
  refine NextH.cons rfl (fun K hK => ?_) NextH.nil
  go_simp
  have hPN : P ≠ N := H3.out.1.ne_ H3.out.2.2.1 (by decide)
  have hQN : Q ≠ N := H3.out.2.1.ne_ H3.out.2.2.1 (by decide)
  have hPM : P ≠ M := H3.out.1.ne_ H3.out.2.2.2.1 (by decide)
  have hQM : Q ≠ M := H3.out.2.1.ne_ H3.out.2.2.2.1 (by decide)
  have H4 := Lib.hid (And.intro (H3.out.1.far (p := ⟨N, 2, none⟩) hPN (Value.slice pva s.fn cva)) (And.intro (H3.out.2.1.far (p := ⟨N, 2, none⟩) hQN (Value.slice pva s.fn cva)) (And.intro (H3.out.2.2.1.set_ 2 (Value.slice pva s.fn cva)) (And.intro (H3.out.2.2.2.1.far (p := ⟨N, 2, none⟩) (fun e => hNM e.symm) (Value.slice pva s.fn cva)) (H3.out.2.2.2.2.set N 2 (Value.slice pva s.fn cva) (.inl rfl))))))
  have us4 : Upd Wb (Wb.setCell ⟨N, 2, none⟩ (Value.slice pva s.fn cva)) (fun k => k = N ∨ k = M) := (Upd.refl _ _).set N 2 (Value.slice pva s.fn cva) (.inl rfl)
  have ownva := row_beside ownva us4 H3.out.2.2.1 H3.out.2.2.2.1 (by decide) (by decide)
  have ownvb := row_beside ownvb us4 H3.out.2.2.1 H3.out.2.2.2.1 (by decide) (by decide)
  have Hown_ta := Lib.hid (row_beside Hown_ta.out us4 H3.out.2.2.1 H3.out.2.2.2.1 (by decide) (by decide))
  have Hown_tb := Lib.hid (row_beside Hown_tb.out us4 H3.out.2.2.1 H3.out.2.2.2.1 (by decide) (by decide))
  have Hown_ba := Lib.hid (row_beside Hown_ba.out us4 H3.out.2.2.1 H3.out.2.2.2.1 (by decide) (by decide))
  have Hown_bb := Lib.hid (row_beside Hown_bb.out us4 H3.out.2.2.1 H3.out.2.2.2.1 (by decide) (by decide))
  have dd0 : (Wb.setCell ⟨N, 2, none⟩ (Value.slice pva s.fn cva)).cell? ⟨P, 1, none⟩ = some (.pointer (some ⟨N, 0, none⟩)) := by rw [H4.out.1.cell]; rfl
  have dd1 : (Wb.setCell ⟨N, 2, none⟩ (Value.slice pva s.fn cva)).cell? ⟨P, 2, none⟩ = some (.pointer (some ⟨M, 0, none⟩)) := by rw [H4.out.1.cell]; rfl
  have dd2 : (Wb.setCell ⟨N, 2, none⟩ (Value.slice pva s.fn cva)).cell? ⟨Q, 3, none⟩ = some (.slice s.fa s.fn s.fcap) := by rw [H4.out.2.1.cell]; rfl
  refine hK.out _ _ (fun _ => ⟨dd0, dd1, dd2⟩) ?_
  clear hK K d0 d1 d2 x0 z0 l0 us4
  (try simp only [Act.put, List.setIfInBounds_toArray, List.set_cons_zero, List.set_cons_succ])
  generalize Wb.setCell ⟨N, 2, none⟩ (Value.slice pva s.fn cva) = Wc at *
  refine tillH_takeAny (i := 13) (oi := ?oo35) (v := ?vv35) ?hi35 (by kernel_rfl) (by kernel_rfl) (by kernel_rfl) ?hq35 (by kernel_rfl) ?hy35 (fun _ => ⟨dd0, dd1, dd2⟩) ?hh35
  case hi35 => (simp only [List.getElem?_toArray, List.getElem?_cons_succ, List.getElem?_cons_zero]; rfl)
  case hq35 => exact fun _ _ _ h => h
  case hy35 => exact Or.inl ⟨by rfl, by (intro W; go_simp; (try with_reducible rfl))⟩
  (try simp only [Act.put, List.setIfInBounds_toArray, List.set_cons_zero, List.set_cons_succ])
  refine tillH_takeAny (i := 14) (oi := ?oo36) (v := ?vv36) ?hi36 (by kernel_rfl) (by kernel_rfl) (by kernel_rfl) ?hq36 (by kernel_rfl) ?hy36 (fun _ => ⟨dd0, dd1, dd2⟩) ?hh36
  case hi36 => (simp only [List.getElem?_toArray, List.getElem?_cons_succ, List.getElem?_cons_zero]; rfl)
  case hq36 => exact fun _ _ _ h => h
  case hy36 => exact Or.inl ⟨by rfl, by (intro W; go_simp; (try with_reducible rfl))⟩
  (try simp only [Act.put, List.setIfInBounds_toArray, List.set_cons_zero, List.set_cons_succ])
  clear dd0 dd1 dd2
  have x0 : Wc.cell? ⟨M, 2, none⟩ = some (nil0) := by rw [H4.out.2.2.2.1.cell]; rfl
  have z0 := H4.out.2.2.2.1.frozen 2
  have l0 := H4.out.2.2.2.1.lt
  refine tillH_next (rs := [15]) (by kernel_rfl) (by simp) ?_
  refine NextH.cons rfl (fun K hK => ?_) NextH.nil
  go_simp
  have kP0 := H4.out.1.far (p := ⟨M, 2, none⟩) hPM (Value.slice pvb s.fn cvb)
  have kQ0 := H4.out.2.1.far (p := ⟨M, 2, none⟩) hQM (Value.slice pvb s.fn cvb)
  have kN0 := H4.out.2.2.1.far (p := ⟨M, 2, none⟩) hNM (Value.slice pvb s.fn cvb)
  have kM0 := H4.out.2.2.2.1.set_ 2 (Value.slice pvb s.fn cvb)
  have u0 := H4.out.2.2.2.2.set M 2 (Value.slice pvb s.fn cvb) (.inr rfl)
  have us5 : Upd Wc (Wc.setCell ⟨M, 2, none⟩ (Value.slice pvb s.fn cvb)) (fun k => k = N ∨ k = M) := (Upd.refl _ _).set M 2 (Value.slice pvb s.fn cvb) (.inr rfl)
  have own_fa := row_beside ownva us5 H4.out.2.2.1 H4.out.2.2.2.1 (by decide) (by decide)
  have own_fb := row_beside ownvb us5 H4.out.2.2.1 H4.out.2.2.2.1 (by decide) (by decide)
  have own_ta := row_beside Hown_ta.out us5 H4.out.2.2.1 H4.out.2.2.2.1 (by decide) (by decide)
  have own_tb := row_beside Hown_tb.out us5 H4.out.2.2.1 H4.out.2.2.2.1 (by decide) (by decide)
  have own_ba := row_beside Hown_ba.out us5 H4.out.2.2.1 H4.out.2.2.2.1 (by decide) (by decide)
  have own_bb := row_beside Hown_bb.out us5 H4.out.2.2.1 H4.out.2.2.2.1 (by decide) (by decide)
  refine hK.out _ _ (fun h => absurd h (by simp)) ?_
  clear hK K x0 z0 l0 us5 hPN hQN hPM hQM ownva ownvb Hown_ta Hown_tb Hown_ba Hown_bb
  (try simp only [Act.put, List.setIfInBounds_toArray, List.set_cons_zero, List.set_cons_succ])
  refine tillH_done (by kernel_rfl) ?_ _
  generalize Wc.setCell ⟨M, 2, none⟩ (Value.slice pvb s.fn cvb) = D2 at *
  have Hlof : ∀ g, (Value.slice pva s.fn cva).ownBlock = some g → w.heap.size ≤ g := fun g hg => by
    have hs1 := H1.out.2.2.2.2.size
    rcases newva g hg with h | h
    · simp [Value.ownBlock] at h
    · omega
  have Hap : ∀ g, vta.ownBlock = some g → (Value.slice pva s.fn cva).ownBlock ≠ some g := fun g h1 h2 => by
    rcases newva g h2 with h | h
    · simp [Value.ownBlock] at h
    · exact absurd (Hap0 g h1) (by omega)
  clear newva newvb growva growvb gva gvb hb0 hb1 H1 H2 H3 H4
  generalize Value.slice pva s.fn cva = vfa at *
  generalize Value.slice pvb s.fn cvb = vfb at *
  go_wp2_with fail
  go_end0
  refine ⟨⟨_, rfl⟩, vta, vba, vfa, vtb, vbb, vfb, ⟨kN0, kM0, own_ta, own_ba, own_fa, own_tb, own_bb, own_fb, u0, fun g hg => ?_, Hap⟩⟩
  rcases hg with h | h
  · exact Hlot g h
  · exact Hlof g h
end Go.Proofs.Ythcdhiknjpfmhaa
