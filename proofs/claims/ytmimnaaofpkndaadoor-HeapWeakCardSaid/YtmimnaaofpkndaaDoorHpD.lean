/- The heap: Define, of plain objects. -/
import Derived.Test.YtmimnaaofpkndaaDoorHpC
set_option linter.unusedVariables false
set_option linter.unusedSimpArgs false
namespace Go.Proofs.YtmimnaaofpkndaaDoor.Hp
open Go.RowKit Go.Proofs.YtmimnaaofpkndaaDoor

/-- Own of a plain object, by cases. -/
theorem own_cases {A : List Ent} {k : K3} {w : World} {e : Ending} {w' : World} (h : GetP A k w e w') : Below w.heap.size w w' ∧ ∃ gv gf gb, e = .returned (.tuple #[VK gv, .int .i64 gf, .bool gb]) ∧ ((gb = true ∧ ∃ x ∈ A, isKey k x = true ∧ gv = x.val ∧ gf = x.flags) ∨ (gb = false ∧ (∀ x ∈ A, isKey k x = false) ∧ gv = (0, 0, ⟨#[]⟩) ∧ gf = 0)) := by
  obtain ⟨b, h⟩ := h
  rcases h with ⟨x, hx, hk, he⟩ | ⟨hn, he⟩
  · exact ⟨b, _, _, _, he, .inl ⟨rfl, x, hx, hk, rfl, rfl⟩⟩
  · exact ⟨b, (0, 0, ⟨#[]⟩), _, _, he, .inr ⟨rfl, hn, rfl, rfl⟩⟩
set_option maxHeartbeats 2000000 in
/-- Define on an open plain object whose properties have all flags. -/
theorem define_plain (b T : Nat) (cl pr : Int) (ev tb wk fa : Value) (at_ : Int) (A : List Ent) (D : List (Nat × Nat)) (O : Nat → Prop) (k v : K3) (w : World) (h : Blk w b 51 (objA cl pr false T ev tb wk fa at_)) (hT : TabA w T A D O) (hk : k.2.2.size ≤ 4000) (hcl : cl ≠ 1)
    (hf : ∀ x ∈ A, x.flags = 7) (hA : A.length ≤ 4000) (hD : D.length ≤ 100000) (hO : ¬ O b) :
    Calls Tryd.prog 12 #[.pointer (some ⟨b, 0, none⟩), VK k, VK v, .int .i64 7] w fun e w' => e = .returned (.bool true) ∧ TabA w' T (putA k v 7 A) D (Og O w w') ∧ Upd w w' O := by
  have t1 : (cl == 1) = false := by simpa using hcl
  have H := Lib.hid h
  have HT := Lib.hid hT
  have HF := Lib.hid hf
  obtain ⟨k1, k2, k3⟩ := k
  obtain ⟨v1, v2, v3⟩ := v
  dsimp only at hk
  clear h hT hf
  go_enter Tryd.func12, Tryd.ntmps12
  go_wp2_with (fail)
  have bb : Below w.heap.size w ((w.alloc (.cells #[.int .i64 k1, .int .i64 k2, .string k3] 34)).alloc (.cells #[.int .i64 v1, .int .i64 v2, .string v3] 34)) := ((Below.refl _ _).alloc (Nat.le_refl _) _).alloc (by simp) _
  have kb : Blk ((w.alloc (.cells #[.int .i64 k1, .int .i64 k2, .string k3] 34)).alloc (.cells #[.int .i64 v1, .int .i64 v2, .string v3] 34)) w.heap.size 34 #[.int .i64 k1, .int .i64 k2, .string k3] := (Blk.new w _ _).alloc _
  have vb : Blk ((w.alloc (.cells #[.int .i64 k1, .int .i64 k2, .string k3] 34)).alloc (.cells #[.int .i64 v1, .int .i64 v2, .string v3] 34)) (w.heap.size + 1) 34 #[.int .i64 v1, .int .i64 v2, .string v3] := by
    have := Blk.new (w.alloc (.cells #[.int .i64 k1, .int .i64 k2, .string k3] 34)) 34 #[.int .i64 v1, .int .i64 v2, .string v3]
    rwa [World.size_alloc] at this
  have HB := Lib.hid (And.intro bb (And.intro kb vb))
  clear bb kb vb
  refine (own_plain b T cl pr false ev tb wk fa at_ A D O (k1, k2, k3) _ (H.out.below HB.out.1 H.out.lt) (HT.out.below HB.out.1) hk hcl).mono ?_
  rintro e w2 h2
  obtain ⟨b2, ⟨g1, g2, g3⟩, gf, gb, rfl, hor⟩ := own_cases h2
  have b02 := HB.out.1.trans (b2.mono HB.out.1.size)
  have hgf : Hid (gb = true → gf = 7) := Lib.hid (fun hb => by
    rcases hor with ⟨_, x, hx, _, _, rfl⟩ | ⟨h, _⟩
    · exact HF.out x hx
    · rw [h] at hb; cases hb)
  have kb2 := HB.out.2.1.below b2 HB.out.2.1.lt
  have vb2 := HB.out.2.2.below b2 HB.out.2.2.lt
  clear hor h2 HB b2
  have b23 : Below w2.heap.size w2 (w2.alloc (.cells #[.int .i64 g1, .int .i64 g2, .string g3] 34)) := (Below.refl _ _).alloc (Nat.le_refl _) _
  have b03 := b02.trans (b23.mono b02.size)
  have kb3 := kb2.below b23 kb2.lt
  have vb3 := vb2.below b23 vb2.lt
  clear b23 kb2 vb2 b02
  go_upto_region 2 with fail
  generalize (w2.alloc (.cells #[.int .i64 g1, .int .i64 g2, .string g3] 34)) = w3 at *
  generalize w2.heap.size = q2 at *
  have o3 := H.out.below b03 H.out.lt
  have c2 : w3.cell? ⟨b, 2, none⟩ = some (.bool false) := by rw [o3.cell]; rfl
  have d0 : w3.cell? ⟨w.heap.size, 0, none⟩ = some (.int .i64 k1) := by rw [kb3.cell]; rfl
  have d1 : w3.cell? ⟨w.heap.size, 1, none⟩ = some (.int .i64 k2) := by rw [kb3.cell]; rfl
  have d2 : w3.cell? ⟨w.heap.size, 2, none⟩ = some (.string k3) := by rw [kb3.cell]; rfl
  have lo := o3.lt
  have hi := hindex_any b T cl pr false ev tb wk fa at_ (k1, k2, k3) w3 o3 hk
  have hv : idxV cl (k1, k2, k3) = -1 := if_neg (fun h => hcl h.1)
  rw [hv] at hi
  have HI := Lib.hid hi
  have HB3 := Lib.hid (And.intro b03 (And.intro kb3 vb3))
  clear hi hv b03 kb3 vb3 o3
  have bt4 : bits .and .i64 7 4 = 4 := by decide
  have key : ∀ (Q : Prop), (gb = true → gf = 7 → Q) → (gb = false → Q) → Q := fun Q h1 h2 => by cases gb; exact h2 rfl; exact h1 rfl (hgf.out rfl)
  refine key _ (fun hb hg => ?_) (fun hb => ?_)
  · subst hb hg
    go_wp2_with (fail)
    refine HI.out.mono ?_
    rintro e w4 ⟨rfl, b4⟩
    have b04 := HB3.out.1.trans (b4.mono HB3.out.1.size)
    have o4 := H.out.below b04 H.out.lt
    have kb4 := HB3.out.2.1.below b4 HB3.out.2.1.lt
    have vb4 := HB3.out.2.2.below b4 HB3.out.2.2.lt
    have c0 : w4.cell? ⟨b, 0, none⟩ = some (.int .i64 cl) := by rw [o4.cell]; rfl
    have c3 : w4.cell? ⟨b, 3, none⟩ = some (.pointer (some ⟨T, 0, none⟩)) := by rw [o4.cell]; rfl
    have d0 : w4.cell? ⟨w.heap.size, 0, none⟩ = some (.int .i64 k1) := by rw [kb4.cell]; rfl
    have d1 : w4.cell? ⟨w.heap.size, 1, none⟩ = some (.int .i64 k2) := by rw [kb4.cell]; rfl
    have d2 : w4.cell? ⟨w.heap.size, 2, none⟩ = some (.string k3) := by rw [kb4.cell]; rfl
    have f0 : w4.cell? ⟨w.heap.size + 1, 0, none⟩ = some (.int .i64 v1) := by rw [vb4.cell]; rfl
    have f1 : w4.cell? ⟨w.heap.size + 1, 1, none⟩ = some (.int .i64 v2) := by rw [vb4.cell]; rfl
    have f2 : w4.cell? ⟨w.heap.size + 1, 2, none⟩ = some (.string v3) := by rw [vb4.cell]; rfl
    have lo4 := o4.lt
    have HB4 := Lib.hid b04
    clear b04 kb4 vb4 o4 b4
    go_upto_region 16 with fail
    refine wp_var0 (fun KV HKV => ?_)
    refine wp_region_till (m := 7) (S := (fun W => W.cell? ⟨b, 3, none⟩ = some (.pointer (some ⟨T, 0, none⟩)) ∧ (W.cell? ⟨w.heap.size, 0, none⟩ = some (.int .i64 k1) ∧ W.cell? ⟨w.heap.size, 1, none⟩ = some (.int .i64 k2) ∧ W.cell? ⟨w.heap.size, 2, none⟩ = some (.string k3)) ∧ (W.cell? ⟨w.heap.size + 1, 0, none⟩ = some (.int .i64 v1) ∧ W.cell? ⟨w.heap.size + 1, 1, none⟩ = some (.int .i64 v2) ∧ W.cell? ⟨w.heap.size + 1, 2, none⟩ = some (.string v3)))) (by kernel_rfl) ?_
    have e4 : w4.drew = w4.drewN 1 := rfl
    rw [e4]
    have S0 : (w4.drewN 1).cell? ⟨b, 3, none⟩ = some (.pointer (some ⟨T, 0, none⟩)) ∧ ((w4.drewN 1).cell? ⟨w.heap.size, 0, none⟩ = some (.int .i64 k1) ∧ (w4.drewN 1).cell? ⟨w.heap.size, 1, none⟩ = some (.int .i64 k2) ∧ (w4.drewN 1).cell? ⟨w.heap.size, 2, none⟩ = some (.string k3)) ∧ ((w4.drewN 1).cell? ⟨w.heap.size + 1, 0, none⟩ = some (.int .i64 v1) ∧ (w4.drewN 1).cell? ⟨w.heap.size + 1, 1, none⟩ = some (.int .i64 v2) ∧ (w4.drewN 1).cell? ⟨w.heap.size + 1, 2, none⟩ = some (.string v3)) := ⟨c3, ⟨d0, d1, d2⟩, ⟨f0, f1, f2⟩⟩
    have HBD := Lib.hid (below_drw HB4.out 1)
    clear c0 c3 d0 d1 d2 f0 f1 f2 lo4 HB4 e4
    generalize w4.drewN 1 = E at *
    change tillH _ _ _ _ _ _ 8 #[false, false, false, false, false, false, false, false] _ _
    refine tillH_takeAny (i := 0) (oi := ?oo1) (v := ?vv1) ?hi1 (by kernel_rfl) (by kernel_rfl) (by kernel_rfl) ?hq1 (by kernel_rfl) ?hy1 (fun _ => S0) ?hh1
    case hi1 => (simp only [List.getElem?_toArray, List.getElem?_cons_succ, List.getElem?_cons_zero]; rfl)
    case hq1 => exact fun _ _ _ h => h
    case hy1 => exact Or.inl ⟨by rfl, by (intro W; go_simp; (try with_reducible rfl))⟩
    (try simp only [Act.put, List.setIfInBounds_toArray, List.set_cons_zero, List.set_cons_succ])
    refine tillH_takeAny (i := 1) (oi := ?oo2) (v := ?vv2) ?hi2 (by kernel_rfl) (by kernel_rfl) (by kernel_rfl) ?hq2 (by kernel_rfl) ?hy2 (fun _ => S0) ?hh2
    case hi2 => (simp only [List.getElem?_toArray, List.getElem?_cons_succ, List.getElem?_cons_zero]; rfl)
    case hq2 => exact fun _ _ _ h => h
    case hy2 => exact Or.inl ⟨by rfl, by (intro W; go_simp; (try with_reducible rfl))⟩
    (try simp only [Act.put, List.setIfInBounds_toArray, List.set_cons_zero, List.set_cons_succ])
    refine tillH_takeAny (i := 2) (oi := ?oo3) (v := ?vv3) ?hi3 (by kernel_rfl) (by kernel_rfl) (by kernel_rfl) ?hq3 (by kernel_rfl) ?hy3 (fun _ => S0) ?hh3
    case hi3 => (simp only [List.getElem?_toArray, List.getElem?_cons_succ, List.getElem?_cons_zero]; rfl)
    case hq3 => exact fun _ _ _ h => h
    case hy3 => exact Or.inl ⟨by rfl, by (intro W; go_simp; (try with_reducible rfl))⟩
    (try simp only [Act.put, List.setIfInBounds_toArray, List.set_cons_zero, List.set_cons_succ])
    refine tillH_take (i := 3) (oi := ?oo4) (v := ?vv4) ?hi4 (by kernel_rfl) (by kernel_rfl) (by kernel_rfl) ?hq4 (by kernel_rfl) (by kernel_rfl) (by kernel_rfl) ?hy4 S0 ?hh4
    case hi4 => (simp only [List.getElem?_toArray, List.getElem?_cons_succ, List.getElem?_cons_zero]; rfl)
    case hq4 => exact fun _ _ _ h => h
    case hy4 => exact Or.inl ⟨by rfl, by (intro W hSw; (try obtain ⟨s0, ⟨s1, s2, s3⟩, ⟨s4, s5, s6⟩⟩ := hSw); go_simp; (try with_reducible rfl))⟩
    (try simp only [Act.put, List.setIfInBounds_toArray, List.set_cons_zero, List.set_cons_succ])
    refine tillH_take (i := 4) (oi := ?oo5) (v := ?vv5) ?hi5 (by kernel_rfl) (by kernel_rfl) (by kernel_rfl) ?hq5 (by kernel_rfl) (by kernel_rfl) (by kernel_rfl) ?hy5 S0 ?hh5
    case hi5 => (simp only [List.getElem?_toArray, List.getElem?_cons_succ, List.getElem?_cons_zero]; rfl)
    case hq5 => exact fun _ _ _ h => h
    case hy5 => exact Or.inl ⟨by rfl, by (intro W hSw; (try obtain ⟨s0, ⟨s1, s2, s3⟩, ⟨s4, s5, s6⟩⟩ := hSw); go_simp; (try with_reducible rfl))⟩
    (try simp only [Act.put, List.setIfInBounds_toArray, List.set_cons_zero, List.set_cons_succ])
    refine tillH_take (i := 5) (oi := ?oo6) (v := ?vv6) ?hi6 (by kernel_rfl) (by kernel_rfl) (by kernel_rfl) ?hq6 (by kernel_rfl) (by kernel_rfl) (by kernel_rfl) ?hy6 S0 ?hh6
    case hi6 => (simp only [List.getElem?_toArray, List.getElem?_cons_succ, List.getElem?_cons_zero]; rfl)
    case hq6 => exact fun _ _ _ h => h
    case hy6 => exact Or.inl ⟨by rfl, by (intro W hSw; (try obtain ⟨s0, ⟨s1, s2, s3⟩, ⟨s4, s5, s6⟩⟩ := hSw); go_simp; (try with_reducible rfl))⟩
    (try simp only [Act.put, List.setIfInBounds_toArray, List.set_cons_zero, List.set_cons_succ])
    refine tillH_takeAny (i := 6) (oi := ?oo7) (v := ?vv7) ?hi7 (by kernel_rfl) (by kernel_rfl) (by kernel_rfl) ?hq7 (by kernel_rfl) ?hy7 (fun _ => S0) ?hh7
    case hi7 => (simp only [List.getElem?_toArray, List.getElem?_cons_succ, List.getElem?_cons_zero]; rfl)
    case hq7 => exact fun _ _ _ h => h
    case hy7 => exact Or.inl ⟨by rfl, by (intro W; go_simp; (try with_reducible rfl))⟩
    (try simp only [Act.put, List.setIfInBounds_toArray, List.set_cons_zero, List.set_cons_succ])
    refine tillH_next (rs := [7]) (by kernel_rfl) (by simp) ?_
    refine NextH.cons rfl (fun K hK => ?_) NextH.nil
    go_simp
    refine (Go.Proofs.YtmimnaaofpkndaaDoor.put_any T A D O (k1, k2, k3) (v1, v2, v3) 7 E (HT.out.below HBD.out) hk hA hD).mono ?_
    rintro e w6 ⟨rfl, hT6, u6⟩
    have HF6 := Lib.hid (And.intro (hT6.widen (O' := Og O w w6) (fun k hk => hk.imp id (fun h => ⟨Nat.le_trans HBD.out.size h.1, h.2⟩)) (fun k hk => hk.elim (fun h => Nat.lt_of_lt_of_le (Nat.lt_of_lt_of_le (HT.out.lt k h) HBD.out.size) u6.size) And.right)) ((Upd.of_below_all HBD.out).trans u6))
    refine hK.out _ _ (fun h => absurd h (by simp)) ?_
    clear hK K
    (try simp only [Act.put, List.setIfInBounds_toArray, List.set_cons_zero, List.set_cons_succ])
    refine tillH_done (by kernel_rfl) ?_ _
    refine HKV.out _ _ ?_
    go_wp2
    go_ret
    exact ⟨rfl, HF6.out⟩
  · subst hb
    go_wp2_with (fail)
    refine HI.out.mono ?_
    rintro e w4 ⟨rfl, b4⟩
    have b04 := HB3.out.1.trans (b4.mono HB3.out.1.size)
    have o4 := H.out.below b04 H.out.lt
    have kb4 := HB3.out.2.1.below b4 HB3.out.2.1.lt
    have vb4 := HB3.out.2.2.below b4 HB3.out.2.2.lt
    have c0 : w4.cell? ⟨b, 0, none⟩ = some (.int .i64 cl) := by rw [o4.cell]; rfl
    have c3 : w4.cell? ⟨b, 3, none⟩ = some (.pointer (some ⟨T, 0, none⟩)) := by rw [o4.cell]; rfl
    have d0 : w4.cell? ⟨w.heap.size, 0, none⟩ = some (.int .i64 k1) := by rw [kb4.cell]; rfl
    have d1 : w4.cell? ⟨w.heap.size, 1, none⟩ = some (.int .i64 k2) := by rw [kb4.cell]; rfl
    have d2 : w4.cell? ⟨w.heap.size, 2, none⟩ = some (.string k3) := by rw [kb4.cell]; rfl
    have f0 : w4.cell? ⟨w.heap.size + 1, 0, none⟩ = some (.int .i64 v1) := by rw [vb4.cell]; rfl
    have f1 : w4.cell? ⟨w.heap.size + 1, 1, none⟩ = some (.int .i64 v2) := by rw [vb4.cell]; rfl
    have f2 : w4.cell? ⟨w.heap.size + 1, 2, none⟩ = some (.string v3) := by rw [vb4.cell]; rfl
    have lo4 := o4.lt
    have HB4 := Lib.hid b04
    clear b04 kb4 vb4 o4 b4
    go_upto_region 16 with fail
    refine wp_var0 (fun KV HKV => ?_)
    refine wp_region_till (m := 7) (S := (fun W => W.cell? ⟨b, 3, none⟩ = some (.pointer (some ⟨T, 0, none⟩)) ∧ (W.cell? ⟨w.heap.size, 0, none⟩ = some (.int .i64 k1) ∧ W.cell? ⟨w.heap.size, 1, none⟩ = some (.int .i64 k2) ∧ W.cell? ⟨w.heap.size, 2, none⟩ = some (.string k3)) ∧ (W.cell? ⟨w.heap.size + 1, 0, none⟩ = some (.int .i64 v1) ∧ W.cell? ⟨w.heap.size + 1, 1, none⟩ = some (.int .i64 v2) ∧ W.cell? ⟨w.heap.size + 1, 2, none⟩ = some (.string v3)))) (by kernel_rfl) ?_
    have e4 : w4.drew = w4.drewN 1 := rfl
    rw [e4]
    have S0 : (w4.drewN 1).cell? ⟨b, 3, none⟩ = some (.pointer (some ⟨T, 0, none⟩)) ∧ ((w4.drewN 1).cell? ⟨w.heap.size, 0, none⟩ = some (.int .i64 k1) ∧ (w4.drewN 1).cell? ⟨w.heap.size, 1, none⟩ = some (.int .i64 k2) ∧ (w4.drewN 1).cell? ⟨w.heap.size, 2, none⟩ = some (.string k3)) ∧ ((w4.drewN 1).cell? ⟨w.heap.size + 1, 0, none⟩ = some (.int .i64 v1) ∧ (w4.drewN 1).cell? ⟨w.heap.size + 1, 1, none⟩ = some (.int .i64 v2) ∧ (w4.drewN 1).cell? ⟨w.heap.size + 1, 2, none⟩ = some (.string v3)) := ⟨c3, ⟨d0, d1, d2⟩, ⟨f0, f1, f2⟩⟩
    have HBD := Lib.hid (below_drw HB4.out 1)
    clear c0 c3 d0 d1 d2 f0 f1 f2 lo4 HB4 e4
    generalize w4.drewN 1 = E at *
    change tillH _ _ _ _ _ _ 8 #[false, false, false, false, false, false, false, false] _ _
    refine tillH_takeAny (i := 0) (oi := ?oo8) (v := ?vv8) ?hi8 (by kernel_rfl) (by kernel_rfl) (by kernel_rfl) ?hq8 (by kernel_rfl) ?hy8 (fun _ => S0) ?hh8
    case hi8 => (simp only [List.getElem?_toArray, List.getElem?_cons_succ, List.getElem?_cons_zero]; rfl)
    case hq8 => exact fun _ _ _ h => h
    case hy8 => exact Or.inl ⟨by rfl, by (intro W; go_simp; (try with_reducible rfl))⟩
    (try simp only [Act.put, List.setIfInBounds_toArray, List.set_cons_zero, List.set_cons_succ])
    refine tillH_takeAny (i := 1) (oi := ?oo9) (v := ?vv9) ?hi9 (by kernel_rfl) (by kernel_rfl) (by kernel_rfl) ?hq9 (by kernel_rfl) ?hy9 (fun _ => S0) ?hh9
    case hi9 => (simp only [List.getElem?_toArray, List.getElem?_cons_succ, List.getElem?_cons_zero]; rfl)
    case hq9 => exact fun _ _ _ h => h
    case hy9 => exact Or.inl ⟨by rfl, by (intro W; go_simp; (try with_reducible rfl))⟩
    (try simp only [Act.put, List.setIfInBounds_toArray, List.set_cons_zero, List.set_cons_succ])
    refine tillH_takeAny (i := 2) (oi := ?oo10) (v := ?vv10) ?hi10 (by kernel_rfl) (by kernel_rfl) (by kernel_rfl) ?hq10 (by kernel_rfl) ?hy10 (fun _ => S0) ?hh10
    case hi10 => (simp only [List.getElem?_toArray, List.getElem?_cons_succ, List.getElem?_cons_zero]; rfl)
    case hq10 => exact fun _ _ _ h => h
    case hy10 => exact Or.inl ⟨by rfl, by (intro W; go_simp; (try with_reducible rfl))⟩
    (try simp only [Act.put, List.setIfInBounds_toArray, List.set_cons_zero, List.set_cons_succ])
    refine tillH_take (i := 3) (oi := ?oo11) (v := ?vv11) ?hi11 (by kernel_rfl) (by kernel_rfl) (by kernel_rfl) ?hq11 (by kernel_rfl) (by kernel_rfl) (by kernel_rfl) ?hy11 S0 ?hh11
    case hi11 => (simp only [List.getElem?_toArray, List.getElem?_cons_succ, List.getElem?_cons_zero]; rfl)
    case hq11 => exact fun _ _ _ h => h
    case hy11 => exact Or.inl ⟨by rfl, by (intro W hSw; (try obtain ⟨s0, ⟨s1, s2, s3⟩, ⟨s4, s5, s6⟩⟩ := hSw); go_simp; (try with_reducible rfl))⟩
    (try simp only [Act.put, List.setIfInBounds_toArray, List.set_cons_zero, List.set_cons_succ])
    refine tillH_take (i := 4) (oi := ?oo12) (v := ?vv12) ?hi12 (by kernel_rfl) (by kernel_rfl) (by kernel_rfl) ?hq12 (by kernel_rfl) (by kernel_rfl) (by kernel_rfl) ?hy12 S0 ?hh12
    case hi12 => (simp only [List.getElem?_toArray, List.getElem?_cons_succ, List.getElem?_cons_zero]; rfl)
    case hq12 => exact fun _ _ _ h => h
    case hy12 => exact Or.inl ⟨by rfl, by (intro W hSw; (try obtain ⟨s0, ⟨s1, s2, s3⟩, ⟨s4, s5, s6⟩⟩ := hSw); go_simp; (try with_reducible rfl))⟩
    (try simp only [Act.put, List.setIfInBounds_toArray, List.set_cons_zero, List.set_cons_succ])
    refine tillH_take (i := 5) (oi := ?oo13) (v := ?vv13) ?hi13 (by kernel_rfl) (by kernel_rfl) (by kernel_rfl) ?hq13 (by kernel_rfl) (by kernel_rfl) (by kernel_rfl) ?hy13 S0 ?hh13
    case hi13 => (simp only [List.getElem?_toArray, List.getElem?_cons_succ, List.getElem?_cons_zero]; rfl)
    case hq13 => exact fun _ _ _ h => h
    case hy13 => exact Or.inl ⟨by rfl, by (intro W hSw; (try obtain ⟨s0, ⟨s1, s2, s3⟩, ⟨s4, s5, s6⟩⟩ := hSw); go_simp; (try with_reducible rfl))⟩
    (try simp only [Act.put, List.setIfInBounds_toArray, List.set_cons_zero, List.set_cons_succ])
    refine tillH_takeAny (i := 6) (oi := ?oo14) (v := ?vv14) ?hi14 (by kernel_rfl) (by kernel_rfl) (by kernel_rfl) ?hq14 (by kernel_rfl) ?hy14 (fun _ => S0) ?hh14
    case hi14 => (simp only [List.getElem?_toArray, List.getElem?_cons_succ, List.getElem?_cons_zero]; rfl)
    case hq14 => exact fun _ _ _ h => h
    case hy14 => exact Or.inl ⟨by rfl, by (intro W; go_simp; (try with_reducible rfl))⟩
    (try simp only [Act.put, List.setIfInBounds_toArray, List.set_cons_zero, List.set_cons_succ])
    refine tillH_next (rs := [7]) (by kernel_rfl) (by simp) ?_
    refine NextH.cons rfl (fun K hK => ?_) NextH.nil
    go_simp
    refine (Go.Proofs.YtmimnaaofpkndaaDoor.put_any T A D O (k1, k2, k3) (v1, v2, v3) 7 E (HT.out.below HBD.out) hk hA hD).mono ?_
    rintro e w6 ⟨rfl, hT6, u6⟩
    have HF6 := Lib.hid (And.intro (hT6.widen (O' := Og O w w6) (fun k hk => hk.imp id (fun h => ⟨Nat.le_trans HBD.out.size h.1, h.2⟩)) (fun k hk => hk.elim (fun h => Nat.lt_of_lt_of_le (Nat.lt_of_lt_of_le (HT.out.lt k h) HBD.out.size) u6.size) And.right)) ((Upd.of_below_all HBD.out).trans u6))
    refine hK.out _ _ (fun h => absurd h (by simp)) ?_
    clear hK K
    (try simp only [Act.put, List.setIfInBounds_toArray, List.set_cons_zero, List.set_cons_succ])
    refine tillH_done (by kernel_rfl) ?_ _
    refine HKV.out _ _ ?_
    go_wp2
    go_ret
    exact ⟨rfl, HF6.out⟩
end Go.Proofs.YtmimnaaofpkndaaDoor.Hp
