/- HrF: several texts in one. -/
import Derived.Test.YtmimnaaofpkndaaDoorHrD
/- HeapRuns: Own of arrays, by the table. -/
set_option linter.unusedVariables false
set_option linter.unusedSimpArgs false
namespace Go.Proofs.YtmimnaaofpkndaaDoor.Hp.G
open Go.RowKit Go.Proofs.YtmimnaaofpkndaaDoor Go.Proofs.YtmimnaaofpkndaaDoor.Hp Go.Shelf
attribute [local go_sem] Oper.semAt_some
set_option maxRecDepth 100000 in
set_option maxHeartbeats 2000000 in
theorem own_sym (b T : Nat) (pr : Int) (clo : Bool) (ev tb wk fa : Value) (at_ : Int) (A : List Ent) (D : List (Nat × Nat)) (O : Nat → Prop) (k : K3) (w : World) (h : Blk w b 51 (objA 1 pr clo T ev tb wk fa at_)) (hT : TabA w T A D O) (hk : k.2.2.size ≤ 4000) (hv0 : plcV k = -1) (hLg : Lg w) (hk8 : k.1 = 8) :
    Calls Tryd.prog 18 #[.pointer (some ⟨b, 0, none⟩), VK k] w (GetP A k w) := by
  have HLG := Lib.hid hLg
  have h0 := hLg.lt
  have HH := Lib.hid (hk8)
  clear hLg hk8
  have H := Lib.hid h
  have HT := Lib.hid hT
  obtain ⟨k1, k2, k3⟩ := k
  dsimp only at hk
  clear h hT
  have bb : Below w.heap.size w ((w.alloc (.cells #[.int .i64 k1, .int .i64 k2, .string k3] 34)).alloc (.cells #[.int .i64 0, .int .i64 0, .string ⟨#[]⟩] 34)) := ((Below.refl _ _).alloc (Nat.le_refl _) _).alloc (by simp) _
  have h2 := H.out.below bb H.out.lt
  have kb : Blk ((w.alloc (.cells #[.int .i64 k1, .int .i64 k2, .string k3] 34)).alloc (.cells #[.int .i64 0, .int .i64 0, .string ⟨#[]⟩] 34)) w.heap.size 34 #[.int .i64 k1, .int .i64 k2, .string k3] := (Blk.new w _ _).alloc _
  have rb : Blk ((w.alloc (.cells #[.int .i64 k1, .int .i64 k2, .string k3] 34)).alloc (.cells #[.int .i64 0, .int .i64 0, .string ⟨#[]⟩] 34)) (w.heap.size + 1) 34 #[.int .i64 0, .int .i64 0, .string ⟨#[]⟩] := by
    have := Blk.new (w.alloc (.cells #[.int .i64 k1, .int .i64 k2, .string k3] 34)) 34 #[.int .i64 0, .int .i64 0, .string ⟨#[]⟩]
    rwa [World.size_alloc] at this
  have hi := hindex_any b T 1 pr clo ev tb wk fa at_ (k1, k2, k3) _ h2 hk
  have hv : idxV 1 (k1, k2, k3) = -1 := (idx_arr _).trans hv0
  rw [hv] at hi
  have HI := Lib.hid hi
  have HB := Lib.hid (And.intro bb (And.intro kb rb))
  clear hi hv hv0 bb h2 kb rb
  go_enter Tryd.func18, Tryd.ntmps18
  go_wp2_with (fail)
  refine HI.out.mono ?_
  rintro e w2 ⟨rfl, b2⟩
  obtain ⟨bb, kb, rb⟩ := HB.out
  have b02 := bb.trans (b2.mono bb.size)
  have o2 := H.out.below b02 H.out.lt
  have kb2 := kb.below b2 kb.lt
  have rb2 := rb.below b2 rb.lt
  have o0 : w2.cell? ⟨b, 0, none⟩ = some (.int .i64 1) := by rw [o2.cell]; rfl
  have o3 : w2.cell? ⟨b, 3, none⟩ = some (.pointer (some ⟨T, 0, none⟩)) := by rw [o2.cell]; rfl
  have q0 : w2.cell? ⟨w.heap.size, 0, none⟩ = some (.int .i64 k1) := by rw [kb2.cell]; rfl
  have q1 : w2.cell? ⟨w.heap.size, 1, none⟩ = some (.int .i64 k2) := by rw [kb2.cell]; rfl
  have q2 : w2.cell? ⟨w.heap.size, 2, none⟩ = some (.string k3) := by rw [kb2.cell]; rfl
  obtain ⟨l1, l2, l3, hl1, hl2, hl3⟩ : ∃ (l1 l2 : Int) (l3 : ByteArray), lenK.1 = l1 ∧ lenK.2.1 = l2 ∧ lenK.2.2 = l3 := ⟨_, _, _, rfl, rfl, rfl⟩
  have hlg := HLG.out.below b02
  have g0 : w2.cell? ⟨0, 0, none⟩ = some (.int .i64 l1) := by rw [← hl1]; exact hlg.1
  have g1 : w2.cell? ⟨0, 1, none⟩ = some (.int .i64 l2) := by rw [← hl2]; exact hlg.2.1
  have g2 : w2.cell? ⟨0, 2, none⟩ = some (.string l3) := by rw [← hl3]; exact hlg.2.2
  have t0 : (k1 == l1) = false := by
    rw [show k1 = 8 from HH.out, ← hl1]; rfl
  clear hlg hl1 hl2 hl3 HLG HH
  have lo := o2.lt
  have HG := Lib.hid (fun q : Nat => Go.Proofs.YtmimnaaofpkndaaDoor.get_any T A D O (k1, k2, k3) (w2.drewN q) ((HT.out.below b02).upd ((Upd.refl w2 (fun _ => False)).drewN q) (fun _ _ h => h)) hk)
  have HB2 := Lib.hid (And.intro b02 rb2)
  clear o2 kb2 rb2 bb kb rb b2 b02 HI HB
  go_wp2_with (fail)
  refine wp_var0 (fun KV HKV => ?_)
  refine wp_region_till (m := 5) (S := (fun W => W.cell? ⟨b, 3, none⟩ = some (.pointer (some ⟨T, 0, none⟩)) ∧ W.cell? ⟨w.heap.size, 0, none⟩ = some (.int .i64 k1) ∧ W.cell? ⟨w.heap.size, 1, none⟩ = some (.int .i64 k2) ∧ W.cell? ⟨w.heap.size, 2, none⟩ = some (.string k3))) (by kernel_rfl) ?_
  have HG1 := HG.out 1
  have HB3 : Below w.heap.size w (w2.drewN 1) ∧ Blk (w2.drewN 1) (w.heap.size + 1) 34 #[.int .i64 0, .int .i64 0, .string ⟨#[]⟩] := ⟨below_drw HB2.out.1 1, HB2.out.2.drewN 1⟩
  have e3 : w2.drew = w2.drewN 1 := rfl
  rw [e3]
  have S0 : (w2.drewN 1).cell? ⟨b, 3, none⟩ = some (.pointer (some ⟨T, 0, none⟩)) ∧ (w2.drewN 1).cell? ⟨w.heap.size, 0, none⟩ = some (.int .i64 k1) ∧ (w2.drewN 1).cell? ⟨w.heap.size, 1, none⟩ = some (.int .i64 k2) ∧ (w2.drewN 1).cell? ⟨w.heap.size, 2, none⟩ = some (.string k3) := ⟨o3, q0, q1, q2⟩
  have H3 := Lib.hid HB3
  have HG3 := Lib.hid HG1
  clear o0 o3 q0 q1 q2 lo HG HB2 e3 HB3 HG1
  generalize w2.drewN 1 = D at *
  change tillH _ _ _ _ _ _ 12 #[false, false, false, false, false, false, false, false, false, false, false, false] _ _
  refine tillH_takeAny (i := 0) (oi := ?oo1) (v := ?vv1) ?hi1 (by kernel_rfl) (by kernel_rfl) (by kernel_rfl) ?hq1 (by kernel_rfl) ?hy1 (fun _ => S0) ?hh1
  case hi1 => (simp only [List.getElem?_toArray, List.getElem?_cons_succ, List.getElem?_cons_zero]; rfl)
  case hq1 => exact fun _ _ _ h => h
  case hy1 => exact Or.inl ⟨by rfl, by (intro W; go_simp; (try with_reducible rfl))⟩
  (try simp only [Act.put, List.setIfInBounds_toArray, List.set_cons_zero, List.set_cons_succ])
  refine tillH_takeAny (i := 1) (oi := ?oo2) (v := ?vv2) ?hi2 (by kernel_rfl) (by kernel_rfl) (by kernel_rfl) ?hq2 (by kernel_rfl) ?hy2 (fun _ => S0) ?hh2
  case hi2 => (simp only [List.getElem?_toArray, List.getElem?_cons_succ, List.getElem?_cons_zero]; rfl)
  case hq2 => exact fun _ _ _ h => h
  case hy2 => exact Or.inl ⟨by rfl, by (intro W; go_simp; (try with_reducible rfl))⟩
  (try simp only [Act.put, List.setIfInBounds_toArray, List.set_cons_zero, List.set_cons_succ])
  refine tillH_takeAny (i := 2) (oi := ?oo3) (v := ?vv3) ?hi3 (by kernel_rfl) (by kernel_rfl) (by kernel_rfl) ?hq3 (by kernel_rfl) ?hy3 (fun _ => S0) ?hh3
  case hi3 => (simp only [List.getElem?_toArray, List.getElem?_cons_succ, List.getElem?_cons_zero]; rfl)
  case hq3 => exact fun _ _ _ h => h
  case hy3 => exact Or.inl ⟨by rfl, by (intro W; go_simp; (try with_reducible rfl))⟩
  (try simp only [Act.put, List.setIfInBounds_toArray, List.set_cons_zero, List.set_cons_succ])
  refine tillH_take (i := 3) (oi := ?oo4) (v := ?vv4) ?hi4 (by kernel_rfl) (by kernel_rfl) (by kernel_rfl) ?hq4 (by kernel_rfl) (by kernel_rfl) (by kernel_rfl) ?hy4 S0 ?hh4
  case hi4 => (simp only [List.getElem?_toArray, List.getElem?_cons_succ, List.getElem?_cons_zero]; rfl)
  case hq4 => exact fun _ _ _ h => h
  case hy4 => exact Or.inl ⟨by rfl, by (intro W hSw; (try obtain ⟨s0, s1, s2, s3⟩ := hSw); go_simp; (try with_reducible rfl))⟩
  (try simp only [Act.put, List.setIfInBounds_toArray, List.set_cons_zero, List.set_cons_succ])
  refine tillH_take (i := 4) (oi := ?oo5) (v := ?vv5) ?hi5 (by kernel_rfl) (by kernel_rfl) (by kernel_rfl) ?hq5 (by kernel_rfl) (by kernel_rfl) (by kernel_rfl) ?hy5 S0 ?hh5
  case hi5 => (simp only [List.getElem?_toArray, List.getElem?_cons_succ, List.getElem?_cons_zero]; rfl)
  case hq5 => exact fun _ _ _ h => h
  case hy5 => exact Or.inl ⟨by rfl, by (intro W hSw; (try obtain ⟨s0, s1, s2, s3⟩ := hSw); go_simp; (try with_reducible rfl))⟩
  (try simp only [Act.put, List.setIfInBounds_toArray, List.set_cons_zero, List.set_cons_succ])
  refine tillH_next (rs := [5]) (by kernel_rfl) (by simp) ?_
  refine NextH.cons rfl (fun K hK => ?_) NextH.nil
  go_simp
  refine HG3.out.mono ?_
  rintro e w5 ⟨b5, hor⟩
  have rb5 := H3.out.2.below b5 H3.out.2.lt
  have bel5 := H3.out.1.trans (b5.mono H3.out.1.size)
  have z0 := rb5.frozen 0
  have z1 := rb5.frozen 1
  have z2 := rb5.frozen 2
  have y0 : w5.cell? ⟨w.heap.size + 1, 0, none⟩ = some (.int .i64 0) := by rw [rb5.cell]; rfl
  have y1 : w5.cell? ⟨w.heap.size + 1, 1, none⟩ = some (.int .i64 0) := by rw [rb5.cell]; rfl
  have y2 : w5.cell? ⟨w.heap.size + 1, 2, none⟩ = some (.string ⟨#[]⟩) := by rw [rb5.cell]; rfl
  have lr := rb5.lt
  have HR5 := Lib.hid (And.intro rb5 bel5)
  clear rb5 bel5 S0
  have HGP : Hid (∃ gv gf gb, e = .returned (.tuple #[VK gv, .int .i64 gf, .bool gb]) ∧ ((∃ x ∈ A, isKey (k1, k2, k3) x = true ∧ gv = x.val ∧ gf = x.flags ∧ gb = true) ∨ ((∀ x ∈ A, isKey (k1, k2, k3) x = false) ∧ gv = (0, 0, ⟨#[]⟩) ∧ gf = 0 ∧ gb = false))) := Lib.hid (by rcases hor with ⟨x, hx, hk, rfl⟩ | ⟨hn, rfl⟩; exact ⟨x.val, x.flags, true, rfl, .inl ⟨x, hx, hk, rfl, rfl, rfl⟩⟩; exact ⟨(0, 0, ⟨#[]⟩), 0, false, rfl, .inr ⟨hn, rfl, rfl, rfl⟩⟩)
  clear hor
  obtain ⟨gv, gf, gb, rfl, hgp⟩ := HGP.out
  obtain ⟨v1, v2, v3⟩ := gv
  have HP := Lib.hid hgp
  clear hgp HGP
  refine hK.out _ _ (fun h => absurd h (by simp)) ?_
  clear hK K
  (try simp only [Act.put, List.setIfInBounds_toArray, List.set_cons_zero, List.set_cons_succ])
  refine tillH_takeAny (i := 6) (oi := ?oo6) (v := ?vv6) ?hi6 (by kernel_rfl) (by kernel_rfl) (by kernel_rfl) ?hq6 (by kernel_rfl) ?hy6 (fun h => absurd h (by simp)) ?hh6
  case hi6 => (simp only [List.getElem?_toArray, List.getElem?_cons_succ, List.getElem?_cons_zero]; rfl)
  case hq6 => exact fun _ _ _ h => h
  case hy6 => exact Or.inl ⟨by rfl, by (intro W; go_simp; (try with_reducible rfl))⟩
  (try simp only [Act.put, List.setIfInBounds_toArray, List.set_cons_zero, List.set_cons_succ])
  refine tillH_takeAny (i := 7) (oi := ?oo7) (v := ?vv7) ?hi7 (by kernel_rfl) (by kernel_rfl) (by kernel_rfl) ?hq7 (by kernel_rfl) ?hy7 (fun h => absurd h (by simp)) ?hh7
  case hi7 => (simp only [List.getElem?_toArray, List.getElem?_cons_succ, List.getElem?_cons_zero]; rfl)
  case hq7 => exact fun _ _ _ h => h
  case hy7 => exact Or.inl ⟨by rfl, by (intro W; go_simp; (try with_reducible rfl))⟩
  (try simp only [Act.put, List.setIfInBounds_toArray, List.set_cons_zero, List.set_cons_succ])
  refine tillH_takeAny (i := 8) (oi := ?oo8) (v := ?vv8) ?hi8 (by kernel_rfl) (by kernel_rfl) (by kernel_rfl) ?hq8 (by kernel_rfl) ?hy8 (fun h => absurd h (by simp)) ?hh8
  case hi8 => (simp only [List.getElem?_toArray, List.getElem?_cons_succ, List.getElem?_cons_zero]; rfl)
  case hq8 => exact fun _ _ _ h => h
  case hy8 => exact Or.inl ⟨by rfl, by (intro W; go_simp; (try with_reducible rfl))⟩
  (try simp only [Act.put, List.setIfInBounds_toArray, List.set_cons_zero, List.set_cons_succ])
  refine tillH_next (rs := [9]) (by kernel_rfl) (by simp) ?_
  refine NextH.cons rfl (fun K hK => ?_) NextH.nil
  go_simp
  refine hK.out _ _ (fun h => absurd h (by simp)) ?_
  clear hK K
  (try simp only [Act.put, List.setIfInBounds_toArray, List.set_cons_zero, List.set_cons_succ])
  refine tillH_takeAny (i := 10) (oi := ?oo9) (v := ?vv9) ?hi9 (by kernel_rfl) (by kernel_rfl) (by kernel_rfl) ?hq9 (by kernel_rfl) ?hy9 (fun h => absurd h (by simp)) ?hh9
  case hi9 => (simp only [List.getElem?_toArray, List.getElem?_cons_succ, List.getElem?_cons_zero]; rfl)
  case hq9 => exact fun _ _ _ h => h
  case hy9 => exact Or.inl ⟨by rfl, by (intro W; go_simp; (try with_reducible rfl))⟩
  (try simp only [Act.put, List.setIfInBounds_toArray, List.set_cons_zero, List.set_cons_succ])
  refine tillH_takeAny (i := 11) (oi := ?oo10) (v := ?vv10) ?hi10 (by kernel_rfl) (by kernel_rfl) (by kernel_rfl) ?hq10 (by kernel_rfl) ?hy10 (fun h => absurd h (by simp)) ?hh10
  case hi10 => (simp only [List.getElem?_toArray, List.getElem?_cons_succ, List.getElem?_cons_zero]; rfl)
  case hq10 => exact fun _ _ _ h => h
  case hy10 => exact Or.inl ⟨by rfl, by (intro W; go_simp; (try with_reducible rfl))⟩
  (try simp only [Act.put, List.setIfInBounds_toArray, List.set_cons_zero, List.set_cons_succ])
  refine tillH_done (by kernel_rfl) ?_ _
  refine HKV.out _ _ ?_
  go_wp2_with (fail)
  refine bodyPost_ret (v := .tuple #[VS v1 v2 v3, .int .i64 gf, .bool gb]) (by simp [results, Tryd.results18, go_sem, y0, y1, y2, z0, z1, z2, lr]) rfl ⟨?_, ?_⟩
  · exact ((HR5.out.2.setCell (p := ⟨w.heap.size + 1, 0, none⟩) (by simp) _).setCell (p := ⟨w.heap.size + 1, 1, none⟩) (by simp) _).setCell (p := ⟨w.heap.size + 1, 2, none⟩) (by simp) _
  · rcases HP.out with ⟨x, hx, hkx, h1, rfl, rfl⟩ | ⟨hn, h1, rfl, rfl⟩
    · exact .inl ⟨x, hx, hkx, by rw [← h1]⟩
    · obtain ⟨rfl, rfl, rfl⟩ : v1 = 0 ∧ v2 = 0 ∧ v3 = ⟨#[]⟩ := by simpa using h1
      exact .inr ⟨hn, rfl⟩
set_option maxRecDepth 100000 in
set_option maxHeartbeats 2000000 in
theorem own_str (b T : Nat) (pr : Int) (clo : Bool) (ev tb wk fa : Value) (at_ : Int) (A : List Ent) (D : List (Nat × Nat)) (O : Nat → Prop) (k : K3) (w : World) (h : Blk w b 51 (objA 1 pr clo T ev tb wk fa at_)) (hT : TabA w T A D O) (hk : k.2.2.size ≤ 4000) (hv0 : plcV k = -1) (hLg : Lg w) (h7 : k.1 = 7) (hz : k.2.1 = 0) (hne : k.2.2.toList ≠ lenK.2.2.toList) :
    Calls Tryd.prog 18 #[.pointer (some ⟨b, 0, none⟩), VK k] w (GetP A k w) := by
  have HLG := Lib.hid hLg
  have h0 := hLg.lt
  have HH := Lib.hid (And.intro h7 (And.intro hz hne))
  clear hLg h7 hz hne
  have H := Lib.hid h
  have HT := Lib.hid hT
  obtain ⟨k1, k2, k3⟩ := k
  dsimp only at hk
  clear h hT
  have bb : Below w.heap.size w ((w.alloc (.cells #[.int .i64 k1, .int .i64 k2, .string k3] 34)).alloc (.cells #[.int .i64 0, .int .i64 0, .string ⟨#[]⟩] 34)) := ((Below.refl _ _).alloc (Nat.le_refl _) _).alloc (by simp) _
  have h2 := H.out.below bb H.out.lt
  have kb : Blk ((w.alloc (.cells #[.int .i64 k1, .int .i64 k2, .string k3] 34)).alloc (.cells #[.int .i64 0, .int .i64 0, .string ⟨#[]⟩] 34)) w.heap.size 34 #[.int .i64 k1, .int .i64 k2, .string k3] := (Blk.new w _ _).alloc _
  have rb : Blk ((w.alloc (.cells #[.int .i64 k1, .int .i64 k2, .string k3] 34)).alloc (.cells #[.int .i64 0, .int .i64 0, .string ⟨#[]⟩] 34)) (w.heap.size + 1) 34 #[.int .i64 0, .int .i64 0, .string ⟨#[]⟩] := by
    have := Blk.new (w.alloc (.cells #[.int .i64 k1, .int .i64 k2, .string k3] 34)) 34 #[.int .i64 0, .int .i64 0, .string ⟨#[]⟩]
    rwa [World.size_alloc] at this
  have hi := hindex_any b T 1 pr clo ev tb wk fa at_ (k1, k2, k3) _ h2 hk
  have hv : idxV 1 (k1, k2, k3) = -1 := (idx_arr _).trans hv0
  rw [hv] at hi
  have HI := Lib.hid hi
  have HB := Lib.hid (And.intro bb (And.intro kb rb))
  clear hi hv hv0 bb h2 kb rb
  go_enter Tryd.func18, Tryd.ntmps18
  go_wp2_with (fail)
  refine HI.out.mono ?_
  rintro e w2 ⟨rfl, b2⟩
  obtain ⟨bb, kb, rb⟩ := HB.out
  have b02 := bb.trans (b2.mono bb.size)
  have o2 := H.out.below b02 H.out.lt
  have kb2 := kb.below b2 kb.lt
  have rb2 := rb.below b2 rb.lt
  have o0 : w2.cell? ⟨b, 0, none⟩ = some (.int .i64 1) := by rw [o2.cell]; rfl
  have o3 : w2.cell? ⟨b, 3, none⟩ = some (.pointer (some ⟨T, 0, none⟩)) := by rw [o2.cell]; rfl
  have q0 : w2.cell? ⟨w.heap.size, 0, none⟩ = some (.int .i64 k1) := by rw [kb2.cell]; rfl
  have q1 : w2.cell? ⟨w.heap.size, 1, none⟩ = some (.int .i64 k2) := by rw [kb2.cell]; rfl
  have q2 : w2.cell? ⟨w.heap.size, 2, none⟩ = some (.string k3) := by rw [kb2.cell]; rfl
  obtain ⟨l1, l2, l3, hl1, hl2, hl3⟩ : ∃ (l1 l2 : Int) (l3 : ByteArray), lenK.1 = l1 ∧ lenK.2.1 = l2 ∧ lenK.2.2 = l3 := ⟨_, _, _, rfl, rfl, rfl⟩
  have hlg := HLG.out.below b02
  have g0 : w2.cell? ⟨0, 0, none⟩ = some (.int .i64 l1) := by rw [← hl1]; exact hlg.1
  have g1 : w2.cell? ⟨0, 1, none⟩ = some (.int .i64 l2) := by rw [← hl2]; exact hlg.2.1
  have g2 : w2.cell? ⟨0, 2, none⟩ = some (.string l3) := by rw [← hl3]; exact hlg.2.2
  have t0 : (k1 == l1) = true := by
    rw [show k1 = 7 from HH.out.1, ← hl1]; rfl
  have t1 : (k2 == l2) = true := by
    rw [show k2 = 0 from HH.out.2.1, ← hl2]; rfl
  have t2 : (k3.toList == l3.toList) = false := by
    rw [← hl3]
    exact beq_false_of_ne HH.out.2.2
  clear hlg hl1 hl2 hl3 HLG HH
  have lo := o2.lt
  have HG := Lib.hid (fun q : Nat => Go.Proofs.YtmimnaaofpkndaaDoor.get_any T A D O (k1, k2, k3) (w2.drewN q) ((HT.out.below b02).upd ((Upd.refl w2 (fun _ => False)).drewN q) (fun _ _ h => h)) hk)
  have HB2 := Lib.hid (And.intro b02 rb2)
  clear o2 kb2 rb2 bb kb rb b2 b02 HI HB
  go_wp2_with (fail)
  refine wp_var0 (fun KV HKV => ?_)
  refine wp_region_till (m := 5) (S := (fun W => W.cell? ⟨b, 3, none⟩ = some (.pointer (some ⟨T, 0, none⟩)) ∧ W.cell? ⟨w.heap.size, 0, none⟩ = some (.int .i64 k1) ∧ W.cell? ⟨w.heap.size, 1, none⟩ = some (.int .i64 k2) ∧ W.cell? ⟨w.heap.size, 2, none⟩ = some (.string k3))) (by kernel_rfl) ?_
  have HG1 := HG.out 1
  have HB3 : Below w.heap.size w (w2.drewN 1) ∧ Blk (w2.drewN 1) (w.heap.size + 1) 34 #[.int .i64 0, .int .i64 0, .string ⟨#[]⟩] := ⟨below_drw HB2.out.1 1, HB2.out.2.drewN 1⟩
  have e3 : w2.drew = w2.drewN 1 := rfl
  rw [e3]
  have S0 : (w2.drewN 1).cell? ⟨b, 3, none⟩ = some (.pointer (some ⟨T, 0, none⟩)) ∧ (w2.drewN 1).cell? ⟨w.heap.size, 0, none⟩ = some (.int .i64 k1) ∧ (w2.drewN 1).cell? ⟨w.heap.size, 1, none⟩ = some (.int .i64 k2) ∧ (w2.drewN 1).cell? ⟨w.heap.size, 2, none⟩ = some (.string k3) := ⟨o3, q0, q1, q2⟩
  have H3 := Lib.hid HB3
  have HG3 := Lib.hid HG1
  clear o0 o3 q0 q1 q2 lo HG HB2 e3 HB3 HG1
  generalize w2.drewN 1 = D at *
  change tillH _ _ _ _ _ _ 12 #[false, false, false, false, false, false, false, false, false, false, false, false] _ _
  refine tillH_takeAny (i := 0) (oi := ?oo1) (v := ?vv1) ?hi1 (by kernel_rfl) (by kernel_rfl) (by kernel_rfl) ?hq1 (by kernel_rfl) ?hy1 (fun _ => S0) ?hh1
  case hi1 => (simp only [List.getElem?_toArray, List.getElem?_cons_succ, List.getElem?_cons_zero]; rfl)
  case hq1 => exact fun _ _ _ h => h
  case hy1 => exact Or.inl ⟨by rfl, by (intro W; go_simp; (try with_reducible rfl))⟩
  (try simp only [Act.put, List.setIfInBounds_toArray, List.set_cons_zero, List.set_cons_succ])
  refine tillH_takeAny (i := 1) (oi := ?oo2) (v := ?vv2) ?hi2 (by kernel_rfl) (by kernel_rfl) (by kernel_rfl) ?hq2 (by kernel_rfl) ?hy2 (fun _ => S0) ?hh2
  case hi2 => (simp only [List.getElem?_toArray, List.getElem?_cons_succ, List.getElem?_cons_zero]; rfl)
  case hq2 => exact fun _ _ _ h => h
  case hy2 => exact Or.inl ⟨by rfl, by (intro W; go_simp; (try with_reducible rfl))⟩
  (try simp only [Act.put, List.setIfInBounds_toArray, List.set_cons_zero, List.set_cons_succ])
  refine tillH_takeAny (i := 2) (oi := ?oo3) (v := ?vv3) ?hi3 (by kernel_rfl) (by kernel_rfl) (by kernel_rfl) ?hq3 (by kernel_rfl) ?hy3 (fun _ => S0) ?hh3
  case hi3 => (simp only [List.getElem?_toArray, List.getElem?_cons_succ, List.getElem?_cons_zero]; rfl)
  case hq3 => exact fun _ _ _ h => h
  case hy3 => exact Or.inl ⟨by rfl, by (intro W; go_simp; (try with_reducible rfl))⟩
  (try simp only [Act.put, List.setIfInBounds_toArray, List.set_cons_zero, List.set_cons_succ])
  refine tillH_take (i := 3) (oi := ?oo4) (v := ?vv4) ?hi4 (by kernel_rfl) (by kernel_rfl) (by kernel_rfl) ?hq4 (by kernel_rfl) (by kernel_rfl) (by kernel_rfl) ?hy4 S0 ?hh4
  case hi4 => (simp only [List.getElem?_toArray, List.getElem?_cons_succ, List.getElem?_cons_zero]; rfl)
  case hq4 => exact fun _ _ _ h => h
  case hy4 => exact Or.inl ⟨by rfl, by (intro W hSw; (try obtain ⟨s0, s1, s2, s3⟩ := hSw); go_simp; (try with_reducible rfl))⟩
  (try simp only [Act.put, List.setIfInBounds_toArray, List.set_cons_zero, List.set_cons_succ])
  refine tillH_take (i := 4) (oi := ?oo5) (v := ?vv5) ?hi5 (by kernel_rfl) (by kernel_rfl) (by kernel_rfl) ?hq5 (by kernel_rfl) (by kernel_rfl) (by kernel_rfl) ?hy5 S0 ?hh5
  case hi5 => (simp only [List.getElem?_toArray, List.getElem?_cons_succ, List.getElem?_cons_zero]; rfl)
  case hq5 => exact fun _ _ _ h => h
  case hy5 => exact Or.inl ⟨by rfl, by (intro W hSw; (try obtain ⟨s0, s1, s2, s3⟩ := hSw); go_simp; (try with_reducible rfl))⟩
  (try simp only [Act.put, List.setIfInBounds_toArray, List.set_cons_zero, List.set_cons_succ])
  refine tillH_next (rs := [5]) (by kernel_rfl) (by simp) ?_
  refine NextH.cons rfl (fun K hK => ?_) NextH.nil
  go_simp
  refine HG3.out.mono ?_
  rintro e w5 ⟨b5, hor⟩
  have rb5 := H3.out.2.below b5 H3.out.2.lt
  have bel5 := H3.out.1.trans (b5.mono H3.out.1.size)
  have z0 := rb5.frozen 0
  have z1 := rb5.frozen 1
  have z2 := rb5.frozen 2
  have y0 : w5.cell? ⟨w.heap.size + 1, 0, none⟩ = some (.int .i64 0) := by rw [rb5.cell]; rfl
  have y1 : w5.cell? ⟨w.heap.size + 1, 1, none⟩ = some (.int .i64 0) := by rw [rb5.cell]; rfl
  have y2 : w5.cell? ⟨w.heap.size + 1, 2, none⟩ = some (.string ⟨#[]⟩) := by rw [rb5.cell]; rfl
  have lr := rb5.lt
  have HR5 := Lib.hid (And.intro rb5 bel5)
  clear rb5 bel5 S0
  have HGP : Hid (∃ gv gf gb, e = .returned (.tuple #[VK gv, .int .i64 gf, .bool gb]) ∧ ((∃ x ∈ A, isKey (k1, k2, k3) x = true ∧ gv = x.val ∧ gf = x.flags ∧ gb = true) ∨ ((∀ x ∈ A, isKey (k1, k2, k3) x = false) ∧ gv = (0, 0, ⟨#[]⟩) ∧ gf = 0 ∧ gb = false))) := Lib.hid (by rcases hor with ⟨x, hx, hk, rfl⟩ | ⟨hn, rfl⟩; exact ⟨x.val, x.flags, true, rfl, .inl ⟨x, hx, hk, rfl, rfl, rfl⟩⟩; exact ⟨(0, 0, ⟨#[]⟩), 0, false, rfl, .inr ⟨hn, rfl, rfl, rfl⟩⟩)
  clear hor
  obtain ⟨gv, gf, gb, rfl, hgp⟩ := HGP.out
  obtain ⟨v1, v2, v3⟩ := gv
  have HP := Lib.hid hgp
  clear hgp HGP
  refine hK.out _ _ (fun h => absurd h (by simp)) ?_
  clear hK K
  (try simp only [Act.put, List.setIfInBounds_toArray, List.set_cons_zero, List.set_cons_succ])
  refine tillH_takeAny (i := 6) (oi := ?oo6) (v := ?vv6) ?hi6 (by kernel_rfl) (by kernel_rfl) (by kernel_rfl) ?hq6 (by kernel_rfl) ?hy6 (fun h => absurd h (by simp)) ?hh6
  case hi6 => (simp only [List.getElem?_toArray, List.getElem?_cons_succ, List.getElem?_cons_zero]; rfl)
  case hq6 => exact fun _ _ _ h => h
  case hy6 => exact Or.inl ⟨by rfl, by (intro W; go_simp; (try with_reducible rfl))⟩
  (try simp only [Act.put, List.setIfInBounds_toArray, List.set_cons_zero, List.set_cons_succ])
  refine tillH_takeAny (i := 7) (oi := ?oo7) (v := ?vv7) ?hi7 (by kernel_rfl) (by kernel_rfl) (by kernel_rfl) ?hq7 (by kernel_rfl) ?hy7 (fun h => absurd h (by simp)) ?hh7
  case hi7 => (simp only [List.getElem?_toArray, List.getElem?_cons_succ, List.getElem?_cons_zero]; rfl)
  case hq7 => exact fun _ _ _ h => h
  case hy7 => exact Or.inl ⟨by rfl, by (intro W; go_simp; (try with_reducible rfl))⟩
  (try simp only [Act.put, List.setIfInBounds_toArray, List.set_cons_zero, List.set_cons_succ])
  refine tillH_takeAny (i := 8) (oi := ?oo8) (v := ?vv8) ?hi8 (by kernel_rfl) (by kernel_rfl) (by kernel_rfl) ?hq8 (by kernel_rfl) ?hy8 (fun h => absurd h (by simp)) ?hh8
  case hi8 => (simp only [List.getElem?_toArray, List.getElem?_cons_succ, List.getElem?_cons_zero]; rfl)
  case hq8 => exact fun _ _ _ h => h
  case hy8 => exact Or.inl ⟨by rfl, by (intro W; go_simp; (try with_reducible rfl))⟩
  (try simp only [Act.put, List.setIfInBounds_toArray, List.set_cons_zero, List.set_cons_succ])
  refine tillH_next (rs := [9]) (by kernel_rfl) (by simp) ?_
  refine NextH.cons rfl (fun K hK => ?_) NextH.nil
  go_simp
  refine hK.out _ _ (fun h => absurd h (by simp)) ?_
  clear hK K
  (try simp only [Act.put, List.setIfInBounds_toArray, List.set_cons_zero, List.set_cons_succ])
  refine tillH_takeAny (i := 10) (oi := ?oo9) (v := ?vv9) ?hi9 (by kernel_rfl) (by kernel_rfl) (by kernel_rfl) ?hq9 (by kernel_rfl) ?hy9 (fun h => absurd h (by simp)) ?hh9
  case hi9 => (simp only [List.getElem?_toArray, List.getElem?_cons_succ, List.getElem?_cons_zero]; rfl)
  case hq9 => exact fun _ _ _ h => h
  case hy9 => exact Or.inl ⟨by rfl, by (intro W; go_simp; (try with_reducible rfl))⟩
  (try simp only [Act.put, List.setIfInBounds_toArray, List.set_cons_zero, List.set_cons_succ])
  refine tillH_takeAny (i := 11) (oi := ?oo10) (v := ?vv10) ?hi10 (by kernel_rfl) (by kernel_rfl) (by kernel_rfl) ?hq10 (by kernel_rfl) ?hy10 (fun h => absurd h (by simp)) ?hh10
  case hi10 => (simp only [List.getElem?_toArray, List.getElem?_cons_succ, List.getElem?_cons_zero]; rfl)
  case hq10 => exact fun _ _ _ h => h
  case hy10 => exact Or.inl ⟨by rfl, by (intro W; go_simp; (try with_reducible rfl))⟩
  (try simp only [Act.put, List.setIfInBounds_toArray, List.set_cons_zero, List.set_cons_succ])
  refine tillH_done (by kernel_rfl) ?_ _
  refine HKV.out _ _ ?_
  go_wp2_with (fail)
  refine bodyPost_ret (v := .tuple #[VS v1 v2 v3, .int .i64 gf, .bool gb]) (by simp [results, Tryd.results18, go_sem, y0, y1, y2, z0, z1, z2, lr]) rfl ⟨?_, ?_⟩
  · exact ((HR5.out.2.setCell (p := ⟨w.heap.size + 1, 0, none⟩) (by simp) _).setCell (p := ⟨w.heap.size + 1, 1, none⟩) (by simp) _).setCell (p := ⟨w.heap.size + 1, 2, none⟩) (by simp) _
  · rcases HP.out with ⟨x, hx, hkx, h1, rfl, rfl⟩ | ⟨hn, h1, rfl, rfl⟩
    · exact .inl ⟨x, hx, hkx, by rw [← h1]⟩
    · obtain ⟨rfl, rfl, rfl⟩ : v1 = 0 ∧ v2 = 0 ∧ v3 = ⟨#[]⟩ := by simpa using h1
      exact .inr ⟨hn, rfl⟩
end Go.Proofs.YtmimnaaofpkndaaDoor.Hp.G

/- HeapRuns: Own of any object of the law. -/
set_option linter.unusedVariables false
set_option linter.unusedSimpArgs false
namespace Go.Proofs.YtmimnaaofpkndaaDoor.Hp
open Go.RowKit Go.Proofs.YtmimnaaofpkndaaDoor Go.Shelf
theorem LieO.arrE {o : PO} {b T : Nat} {lv : Value} {Ot : Nat → Prop} {w : World} (h : LieO o b T lv Ot w) (ha : o.arr = true) : G.ArrE (o.pr : Int) o.clo w b T 1 lv o.L := by
  refine ⟨?_, h.row⟩
  have h1 := h.ob
  rw [show clV o = 1 from if_pos ha, show atV o = if o.clo = true then 1 else 0 by unfold atV; simp [ha]] at h1
  exact h1
theorem LieO.plain {o : PO} {b T : Nat} {lv : Value} {Ot : Nat → Prop} {w : World} (h : LieO o b T lv Ot w) (ha : o.arr = false) : Blk w b 51 (objA 0 (o.pr : Int) o.clo T lv nilP nilP nilS 0) := by
  have h1 := h.ob
  rw [show clV o = 0 from if_neg (by rw [ha]; decide), show atV o = 0 from if_neg (by rw [ha]; simp)] at h1
  exact h1
theorem getP_own {o : PO} (hO : o.Ok) {k : K3} {w : World} {e : Ending} {w' : World} (h : GetP o.A k w e w') : e = .returned (.tuple #[VK (getA o.A k).1, .int .i64 (getA o.A k).2.1, .bool (getA o.A k).2.2]) ∧ Below w.heap.size w w' := by
  obtain ⟨hb, hor⟩ := h
  refine ⟨?_, hb⟩
  rcases hor with ⟨x, hx, hk, he⟩ | ⟨hn, he⟩
  · rw [getA_some hO hx hk, he]
  · rw [getA_none hn, he]
theorem own_io {o : PO} {b T : Nat} {lv : Value} {Ot : Nat → Prop} {w : World} {k : K3} (h : LieO o b T lv Ot w) (hO : o.Ok) (hk : KS k) (hLg : Lg w) :
    Calls Tryd.prog 18 #[.pointer (some ⟨b, 0, none⟩), VK k] w fun e w' => e = .returned (.tuple #[VK (o.own k).1, .int .i64 (o.own k).2.1, .bool (o.own k).2.2]) ∧ Below w.heap.size w w' := by
  have hL := hO.le
  have hsz := ks_size hk
  cases ha : o.arr with
  | false =>
    have e : o.own k = getA o.A k := by unfold PO.own; rw [if_neg (by rw [ha]; decide)]
    rw [e]
    exact (own_plain b T 0 (o.pr : Int) o.clo lv nilP nilP nilS 0 o.A [] Ot k w (h.plain ha) h.tab hsz (by decide)).mono fun e w' hg => getP_own hO hg
  | true =>
    have hA := h.arrE ha
    rcases ks_plc hk with hv | ⟨i, hi, hki, hv⟩
    · have hn : ¬ 0 ≤ plcV k := by omega
      by_cases hl : k = lenK
      · have e : o.own k = ((3, (o.L.length : Int), ⟨#[]⟩), if o.clo then 0 else 1, true) := by unfold PO.own; rw [if_pos ha, if_neg hn, if_pos hl]
        rw [e, hl]
        exact G.own_len b T 1 lv o.L w hA hLg (by omega)
      · have e : o.own k = getA o.A k := by unfold PO.own; rw [if_pos ha, if_neg hn, if_neg hl]
        rw [e]
        rcases ks_other hk hl with h8 | ⟨h7, hz, hne⟩
        · exact (G.own_sym b T (o.pr : Int) o.clo lv nilP nilP nilS _ o.A [] Ot k w hA.ob h.tab hsz hv hLg h8).mono fun e w' hg => getP_own hO hg
        · exact (G.own_str b T (o.pr : Int) o.clo lv nilP nilP nilS _ o.A [] Ot k w hA.ob h.tab hsz hv hLg h7 hz hne).mono fun e w' hg => getP_own hO hg
    · have hp : 0 ≤ plcV k := by omega
      have ht : (plcV k).toNat = i := by omega
      have hidx : idxV 1 k = (i : Int) := by rw [idx_arr, hv]
      cases hx : o.L[i]? with
      | none =>
        have e : o.own k = (z3, 0, false) := by unfold PO.own; rw [if_pos ha, if_pos hp, ht, hx]
        rw [e]
        exact G.own_out b T 1 lv o.L i k w hA hidx (List.getElem?_eq_none_iff.1 hx) hsz (by omega)
      | some x =>
        by_cases h10 : x.1 = 10
        · have e : o.own k = (z3, 0, false) := by unfold PO.own; rw [if_pos ha, if_pos hp, ht, hx]; exact if_pos h10
          rw [e]
          exact G.own_hole b T 1 lv o.L i k x w hA hidx hx h10 hsz (by omega)
        · have e : o.own k = (x, if o.clo then 2 else 7, true) := by unfold PO.own; rw [if_pos ha, if_pos hp, ht, hx]; exact if_neg h10
          rw [e]
          exact G.own_at b T 1 lv o.L i k x w hA hidx hx h10 hsz (by omega)
end Go.Proofs.YtmimnaaofpkndaaDoor.Hp
