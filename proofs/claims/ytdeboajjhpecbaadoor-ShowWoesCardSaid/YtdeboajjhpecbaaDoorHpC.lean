/- The heap: own properties. -/
import Derived.Test.YtdeboajjhpecbaaDoorOtG
import Derived.Test.YtdeboajjhpecbaaDoorQir
import Derived.Test.YtdeboajjhpecbaaDoorHpB
import Derived.BigQuiet
import Derived.Test.YtdeboajjhpecbaaDoorOrd
set_option linter.unusedVariables false
set_option linter.unusedSimpArgs false
namespace Go.Proofs.YtdeboajjhpecbaaDoor.Hp
open Go.RowKit Go.Proofs.YtdeboajjhpecbaaDoor

theorem wp_var0 {P : Program} {c : Code} {Q : Exit → Act → World → Prop} {a : Act} {w : World} (h : ∀ K : Act → World → Prop, RowKit.Hid (∀ a w, Q .normal a w → K a w) → c.wp P (Exit.then K (fun _ _ _ => False)) a w) : c.wp P Q a w :=
  wp_mono (h (Q .normal) (Lib.hid fun _ _ h => h)) fun e a w hq => by
    cases e <;> first | exact hq | exact hq.elim
theorem below_drw {B : Nat} {w w' : World} (h : Below B w w') (q : Nat) : Below B w (w'.drewN q) := ⟨h.os, h.tape, h.output, h.size, h.block⟩
/-- The place that a key tells. -/
def idxV (cl : Int) (k : K3) : Int := if cl = 1 ∧ k.1 = 7 then Tx.indexOf k.2.2 else -1
set_option maxHeartbeats 1000000 in
theorem hindex_any (b T : Nat) (cl pr : Int) (clo : Bool) (ev tb wk fa : Value) (at_ : Int) (k : K3) (w : World) (h : Blk w b 36 (objA cl pr clo T ev tb wk fa at_)) (hk : k.2.2.size ≤ 4000) :
    Calls Tryd.prog 40 #[.pointer (some ⟨b, 0, none⟩), VK k] w fun e w' => e = .returned (.int .i64 (idxV cl k)) ∧ Below w.heap.size w w' := by
  obtain ⟨k1, k2, k3⟩ := k
  dsimp only at hk
  have bb : Below w.heap.size w (w.alloc (.cells #[.int .i64 k1, .int .i64 k2, .string k3] 26)) := (Below.refl _ _).alloc (Nat.le_refl _) _
  have h2 := h.below bb h.lt
  have c0 : (w.alloc (.cells #[.int .i64 k1, .int .i64 k2, .string k3] 26)).cell? ⟨b, 0, none⟩ = some (.int .i64 cl) := by rw [h2.cell]; rfl
  have lb := h2.lt
  unfold idxV
  dsimp only
  by_cases h1 : cl = 1
  · subst h1
    by_cases h7 : k1 = 7
    · subst h7
      rw [if_pos ⟨rfl, rfl⟩]
      go_enter Tryd.func40, Tryd.ntmps40
      go_wp2_with (fail)
      refine (Tx.index_any k3 _ (by omega)).mono ?_
      rintro e w2 ⟨rfl, q, rfl⟩
      go_wp2
      go_ret
      exact ⟨rfl, below_drw bb q⟩
    · have t2 : (k1 == 7) = false := by simpa using h7
      rw [if_neg (fun h => h7 h.2)]
      go_enter Tryd.func40, Tryd.ntmps40
      go_wp2
      go_ret
      exact ⟨rfl, bb⟩
  · have t1 : (cl == 1) = false := by simpa using h1
    rw [if_neg (fun h => h1 h.1)]
    go_enter Tryd.func40, Tryd.ntmps40
    go_wp2
    go_ret
    exact ⟨rfl, bb⟩
/-- Own, of an object that is no array: what the table has. -/
def OwnP (A : List Ent) (k : K3) (w : World) (e : Ending) (w' : World) : Prop := GetP A k w e w'
set_option maxHeartbeats 2000000 in
theorem own_plain (b T : Nat) (cl pr : Int) (clo : Bool) (ev tb wk fa : Value) (at_ : Int) (A : List Ent) (D : List (Nat × Nat)) (O : Nat → Prop) (k : K3) (w : World) (h : Blk w b 36 (objA cl pr clo T ev tb wk fa at_)) (hT : TabA w T A D O) (hk : k.2.2.size ≤ 4000) (hcl : cl ≠ 1) :
    Calls Tryd.prog 39 #[.pointer (some ⟨b, 0, none⟩), VK k] w (GetP A k w) := by
  have t1 : (cl == 1) = false := by simpa using hcl
  have H := Lib.hid h
  have HT := Lib.hid hT
  obtain ⟨k1, k2, k3⟩ := k
  dsimp only at hk
  clear h hT
  have bb : Below w.heap.size w ((w.alloc (.cells #[.int .i64 k1, .int .i64 k2, .string k3] 26)).alloc (.cells #[.int .i64 0, .int .i64 0, .string ⟨#[]⟩] 26)) := ((Below.refl _ _).alloc (Nat.le_refl _) _).alloc (by simp) _
  have h2 := H.out.below bb H.out.lt
  have kb : Blk ((w.alloc (.cells #[.int .i64 k1, .int .i64 k2, .string k3] 26)).alloc (.cells #[.int .i64 0, .int .i64 0, .string ⟨#[]⟩] 26)) w.heap.size 26 #[.int .i64 k1, .int .i64 k2, .string k3] := (Blk.new w _ _).alloc _
  have rb : Blk ((w.alloc (.cells #[.int .i64 k1, .int .i64 k2, .string k3] 26)).alloc (.cells #[.int .i64 0, .int .i64 0, .string ⟨#[]⟩] 26)) (w.heap.size + 1) 26 #[.int .i64 0, .int .i64 0, .string ⟨#[]⟩] := by
    have := Blk.new (w.alloc (.cells #[.int .i64 k1, .int .i64 k2, .string k3] 26)) 26 #[.int .i64 0, .int .i64 0, .string ⟨#[]⟩]
    rwa [World.size_alloc] at this
  have hi := hindex_any b T cl pr clo ev tb wk fa at_ (k1, k2, k3) _ h2 hk
  have hv : idxV cl (k1, k2, k3) = -1 := if_neg (fun h => hcl h.1)
  rw [hv] at hi
  have HI := Lib.hid hi
  have HB := Lib.hid (And.intro bb (And.intro kb rb))
  clear hi hv bb h2 kb rb
  go_enter Tryd.func39, Tryd.ntmps39
  go_wp2_with (fail)
  refine HI.out.mono ?_
  rintro e w2 ⟨rfl, b2⟩
  obtain ⟨bb, kb, rb⟩ := HB.out
  have b02 := bb.trans (b2.mono bb.size)
  have o2 := H.out.below b02 H.out.lt
  have kb2 := kb.below b2 kb.lt
  have rb2 := rb.below b2 rb.lt
  have o0 : w2.cell? ⟨b, 0, none⟩ = some (.int .i64 cl) := by rw [o2.cell]; rfl
  have o3 : w2.cell? ⟨b, 3, none⟩ = some (.pointer (some ⟨T, 0, none⟩)) := by rw [o2.cell]; rfl
  have q0 : w2.cell? ⟨w.heap.size, 0, none⟩ = some (.int .i64 k1) := by rw [kb2.cell]; rfl
  have q1 : w2.cell? ⟨w.heap.size, 1, none⟩ = some (.int .i64 k2) := by rw [kb2.cell]; rfl
  have q2 : w2.cell? ⟨w.heap.size, 2, none⟩ = some (.string k3) := by rw [kb2.cell]; rfl
  have lo := o2.lt
  have HG := Lib.hid (fun q : Nat => Go.Proofs.YtdeboajjhpecbaaDoor.get_any T A D O (k1, k2, k3) (w2.drewN q) ((HT.out.below b02).upd ((Upd.refl w2 (fun _ => False)).drewN q) (fun _ _ h => h)) hk)
  have HB2 := Lib.hid (And.intro b02 rb2)
  clear o2 kb2 rb2 bb kb rb b2 b02 HI HB
  go_wp2_with (fail)
  refine wp_var0 (fun KV HKV => ?_)
  refine wp_region_till (m := 5) (S := (fun W => W.cell? ⟨b, 3, none⟩ = some (.pointer (some ⟨T, 0, none⟩)) ∧ W.cell? ⟨w.heap.size, 0, none⟩ = some (.int .i64 k1) ∧ W.cell? ⟨w.heap.size, 1, none⟩ = some (.int .i64 k2) ∧ W.cell? ⟨w.heap.size, 2, none⟩ = some (.string k3))) (by kernel_rfl) ?_
  have HG1 := HG.out 1
  have HB3 : Below w.heap.size w (w2.drewN 1) ∧ Blk (w2.drewN 1) (w.heap.size + 1) 26 #[.int .i64 0, .int .i64 0, .string ⟨#[]⟩] := ⟨below_drw HB2.out.1 1, HB2.out.2.drewN 1⟩
  have e3 : w2.drew = w2.drewN 1 := rfl
  rw [e3]
  have S0 : (w2.drewN 1).cell? ⟨b, 3, none⟩ = some (.pointer (some ⟨T, 0, none⟩)) ∧ (w2.drewN 1).cell? ⟨w.heap.size, 0, none⟩ = some (.int .i64 k1) ∧ (w2.drewN 1).cell? ⟨w.heap.size, 1, none⟩ = some (.int .i64 k2) ∧ (w2.drewN 1).cell? ⟨w.heap.size, 2, none⟩ = some (.string k3) := ⟨o3, q0, q1, q2⟩
  have H3 := Lib.hid HB3
  have HG3 := Lib.hid HG1
  clear o0 o3 q0 q1 q2 lo HG HB2 e3 HB3 HG1
  generalize w2.drewN 1 = D at *
  change tillH _ _ _ _ _ _ 12 #[false, false, false, false, false, false, false, false, false, false, false, false] _ _
  refine tillH_takeAny (i := 0) (oi := ?oo1) (v := ?vv1) ?hi1 (by kernel_rfl) (by kernel_rfl) (by kernel_rfl) ?hq1 (by kernel_rfl) ?hy1 (fun _ => S0) ?hh1
  case hi1 => (simp only [List.getElem?_toArray, List.getElem?_cons_succ, List.getElem?_cons_zero]; rfl)
  case hq1 => exact fun _ _ _ h => h
  case hy1 => exact Or.inl ⟨by rfl, by (intro W; go_simp; (try with_reducible rfl))⟩
  (try simp only [Act.put, List.setIfInBounds_toArray, List.set_cons_zero, List.set_cons_succ])
  refine tillH_takeAny (i := 1) (oi := ?oo2) (v := ?vv2) ?hi2 (by kernel_rfl) (by kernel_rfl) (by kernel_rfl) ?hq2 (by kernel_rfl) ?hy2 (fun _ => S0) ?hh2
  case hi2 => (simp only [List.getElem?_toArray, List.getElem?_cons_succ, List.getElem?_cons_zero]; rfl)
  case hq2 => exact fun _ _ _ h => h
  case hy2 => exact Or.inl ⟨by rfl, by (intro W; go_simp; (try with_reducible rfl))⟩
  (try simp only [Act.put, List.setIfInBounds_toArray, List.set_cons_zero, List.set_cons_succ])
  refine tillH_takeAny (i := 2) (oi := ?oo3) (v := ?vv3) ?hi3 (by kernel_rfl) (by kernel_rfl) (by kernel_rfl) ?hq3 (by kernel_rfl) ?hy3 (fun _ => S0) ?hh3
  case hi3 => (simp only [List.getElem?_toArray, List.getElem?_cons_succ, List.getElem?_cons_zero]; rfl)
  case hq3 => exact fun _ _ _ h => h
  case hy3 => exact Or.inl ⟨by rfl, by (intro W; go_simp; (try with_reducible rfl))⟩
  (try simp only [Act.put, List.setIfInBounds_toArray, List.set_cons_zero, List.set_cons_succ])
  refine tillH_take (i := 3) (oi := ?oo4) (v := ?vv4) ?hi4 (by kernel_rfl) (by kernel_rfl) (by kernel_rfl) ?hq4 (by kernel_rfl) (by kernel_rfl) (by kernel_rfl) ?hy4 S0 ?hh4
  case hi4 => (simp only [List.getElem?_toArray, List.getElem?_cons_succ, List.getElem?_cons_zero]; rfl)
  case hq4 => exact fun _ _ _ h => h
  case hy4 => exact Or.inl ⟨by rfl, by (intro W hSw; (try obtain ⟨s0, s1, s2, s3⟩ := hSw); go_simp; (try with_reducible rfl))⟩
  (try simp only [Act.put, List.setIfInBounds_toArray, List.set_cons_zero, List.set_cons_succ])
  refine tillH_take (i := 4) (oi := ?oo5) (v := ?vv5) ?hi5 (by kernel_rfl) (by kernel_rfl) (by kernel_rfl) ?hq5 (by kernel_rfl) (by kernel_rfl) (by kernel_rfl) ?hy5 S0 ?hh5
  case hi5 => (simp only [List.getElem?_toArray, List.getElem?_cons_succ, List.getElem?_cons_zero]; rfl)
  case hq5 => exact fun _ _ _ h => h
  case hy5 => exact Or.inl ⟨by rfl, by (intro W hSw; (try obtain ⟨s0, s1, s2, s3⟩ := hSw); go_simp; (try with_reducible rfl))⟩
  (try simp only [Act.put, List.setIfInBounds_toArray, List.set_cons_zero, List.set_cons_succ])
  refine tillH_next (rs := [5]) (by kernel_rfl) (by simp) ?_
  refine NextH.cons rfl (fun K hK => ?_) NextH.nil
  go_simp
  refine HG3.out.mono ?_
  rintro e w5 ⟨b5, hor⟩
  have rb5 := H3.out.2.below b5 H3.out.2.lt
  have bel5 := H3.out.1.trans (b5.mono H3.out.1.size)
  have z0 := rb5.frozen 0
  have z1 := rb5.frozen 1
  have z2 := rb5.frozen 2
  have y0 : w5.cell? ⟨w.heap.size + 1, 0, none⟩ = some (.int .i64 0) := by rw [rb5.cell]; rfl
  have y1 : w5.cell? ⟨w.heap.size + 1, 1, none⟩ = some (.int .i64 0) := by rw [rb5.cell]; rfl
  have y2 : w5.cell? ⟨w.heap.size + 1, 2, none⟩ = some (.string ⟨#[]⟩) := by rw [rb5.cell]; rfl
  have lr := rb5.lt
  have HR5 := Lib.hid (And.intro rb5 bel5)
  clear rb5 bel5 S0
  have HGP : Hid (∃ gv gf gb, e = .returned (.tuple #[VK gv, .int .i64 gf, .bool gb]) ∧ ((∃ x ∈ A, isKey (k1, k2, k3) x = true ∧ gv = x.val ∧ gf = x.flags ∧ gb = true) ∨ ((∀ x ∈ A, isKey (k1, k2, k3) x = false) ∧ gv = (0, 0, ⟨#[]⟩) ∧ gf = 0 ∧ gb = false))) := Lib.hid (by rcases hor with ⟨x, hx, hk, rfl⟩ | ⟨hn, rfl⟩; exact ⟨x.val, x.flags, true, rfl, .inl ⟨x, hx, hk, rfl, rfl, rfl⟩⟩; exact ⟨(0, 0, ⟨#[]⟩), 0, false, rfl, .inr ⟨hn, rfl, rfl, rfl⟩⟩)
  clear hor
  obtain ⟨gv, gf, gb, rfl, hgp⟩ := HGP.out
  obtain ⟨v1, v2, v3⟩ := gv
  have HP := Lib.hid hgp
  clear hgp HGP
  refine hK.out _ _ (fun h => absurd h (by simp)) ?_
  clear hK K
  (try simp only [Act.put, List.setIfInBounds_toArray, List.set_cons_zero, List.set_cons_succ])
  refine tillH_takeAny (i := 6) (oi := ?oo6) (v := ?vv6) ?hi6 (by kernel_rfl) (by kernel_rfl) (by kernel_rfl) ?hq6 (by kernel_rfl) ?hy6 (fun h => absurd h (by simp)) ?hh6
  case hi6 => (simp only [List.getElem?_toArray, List.getElem?_cons_succ, List.getElem?_cons_zero]; rfl)
  case hq6 => exact fun _ _ _ h => h
  case hy6 => exact Or.inl ⟨by rfl, by (intro W; go_simp; (try with_reducible rfl))⟩
  (try simp only [Act.put, List.setIfInBounds_toArray, List.set_cons_zero, List.set_cons_succ])
  refine tillH_takeAny (i := 7) (oi := ?oo7) (v := ?vv7) ?hi7 (by kernel_rfl) (by kernel_rfl) (by kernel_rfl) ?hq7 (by kernel_rfl) ?hy7 (fun h => absurd h (by simp)) ?hh7
  case hi7 => (simp only [List.getElem?_toArray, List.getElem?_cons_succ, List.getElem?_cons_zero]; rfl)
  case hq7 => exact fun _ _ _ h => h
  case hy7 => exact Or.inl ⟨by rfl, by (intro W; go_simp; (try with_reducible rfl))⟩
  (try simp only [Act.put, List.setIfInBounds_toArray, List.set_cons_zero, List.set_cons_succ])
  refine tillH_takeAny (i := 8) (oi := ?oo8) (v := ?vv8) ?hi8 (by kernel_rfl) (by kernel_rfl) (by kernel_rfl) ?hq8 (by kernel_rfl) ?hy8 (fun h => absurd h (by simp)) ?hh8
  case hi8 => (simp only [List.getElem?_toArray, List.getElem?_cons_succ, List.getElem?_cons_zero]; rfl)
  case hq8 => exact fun _ _ _ h => h
  case hy8 => exact Or.inl ⟨by rfl, by (intro W; go_simp; (try with_reducible rfl))⟩
  (try simp only [Act.put, List.setIfInBounds_toArray, List.set_cons_zero, List.set_cons_succ])
  refine tillH_next (rs := [9]) (by kernel_rfl) (by simp) ?_
  refine NextH.cons rfl (fun K hK => ?_) NextH.nil
  go_simp
  refine hK.out _ _ (fun h => absurd h (by simp)) ?_
  clear hK K
  (try simp only [Act.put, List.setIfInBounds_toArray, List.set_cons_zero, List.set_cons_succ])
  refine tillH_takeAny (i := 10) (oi := ?oo9) (v := ?vv9) ?hi9 (by kernel_rfl) (by kernel_rfl) (by kernel_rfl) ?hq9 (by kernel_rfl) ?hy9 (fun h => absurd h (by simp)) ?hh9
  case hi9 => (simp only [List.getElem?_toArray, List.getElem?_cons_succ, List.getElem?_cons_zero]; rfl)
  case hq9 => exact fun _ _ _ h => h
  case hy9 => exact Or.inl ⟨by rfl, by (intro W; go_simp; (try with_reducible rfl))⟩
  (try simp only [Act.put, List.setIfInBounds_toArray, List.set_cons_zero, List.set_cons_succ])
  refine tillH_takeAny (i := 11) (oi := ?oo10) (v := ?vv10) ?hi10 (by kernel_rfl) (by kernel_rfl) (by kernel_rfl) ?hq10 (by kernel_rfl) ?hy10 (fun h => absurd h (by simp)) ?hh10
  case hi10 => (simp only [List.getElem?_toArray, List.getElem?_cons_succ, List.getElem?_cons_zero]; rfl)
  case hq10 => exact fun _ _ _ h => h
  case hy10 => exact Or.inl ⟨by rfl, by (intro W; go_simp; (try with_reducible rfl))⟩
  (try simp only [Act.put, List.setIfInBounds_toArray, List.set_cons_zero, List.set_cons_succ])
  refine tillH_done (by kernel_rfl) ?_ _
  refine HKV.out _ _ ?_
  go_wp2_with (fail)
  refine bodyPost_ret (v := .tuple #[VS v1 v2 v3, .int .i64 gf, .bool gb]) (by simp [results, Tryd.results39, go_sem, y0, y1, y2, z0, z1, z2, lr]) rfl ⟨?_, ?_⟩
  · exact ((HR5.out.2.setCell (p := ⟨w.heap.size + 1, 0, none⟩) (by simp) _).setCell (p := ⟨w.heap.size + 1, 1, none⟩) (by simp) _).setCell (p := ⟨w.heap.size + 1, 2, none⟩) (by simp) _
  · rcases HP.out with ⟨x, hx, hkx, h1, rfl, rfl⟩ | ⟨hn, h1, rfl, rfl⟩
    · exact .inl ⟨x, hx, hkx, by rw [← h1]⟩
    · obtain ⟨rfl, rfl, rfl⟩ : v1 = 0 ∧ v2 = 0 ∧ v3 = ⟨#[]⟩ := by simpa using h1
      exact .inr ⟨hn, rfl⟩
end Go.Proofs.YtdeboajjhpecbaaDoor.Hp
