/- HpF: several texts in one. -/
import Derived.Test.YtmimnaaofpkndaaDoorOtAl
import Derived.Test.YtmimnaaofpkndaaDoorRgs
import Derived.Test.YtmimnaaofpkndaaDoorHpB
import Derived.BigQuiet
import Derived.Test.YtmimnaaofpkndaaDoorOrdC
import Derived.Laws.BytesArg
/- The heap: own properties. -/
set_option linter.unusedVariables false
set_option linter.unusedSimpArgs false
namespace Go.Proofs.YtmimnaaofpkndaaDoor.Hp
open Go.RowKit Go.Proofs.YtmimnaaofpkndaaDoor
theorem wp_var0 {P : Program} {c : Code} {Q : Exit → Act → World → Prop} {a : Act} {w : World} (h : ∀ K : Act → World → Prop, RowKit.Hid (∀ a w, Q .normal a w → K a w) → c.wp P (Exit.then K (fun _ _ _ => False)) a w) : c.wp P Q a w :=
  wp_mono (h (Q .normal) (Lib.hid fun _ _ h => h)) fun e a w hq => by
    cases e <;> first | exact hq | exact hq.elim
theorem below_drw {B : Nat} {w w' : World} (h : Below B w w') (q : Nat) : Below B w (w'.drewN q) := ⟨h.os, h.tape, h.output, h.size, h.block⟩
/-- The place that a key tells. -/
def idxV (cl : Int) (k : K3) : Int := if cl = 1 ∧ k.1 = 7 then Tx.indexOf k.2.2 else -1
set_option maxHeartbeats 1000000 in
theorem hindex_any (b T : Nat) (cl pr : Int) (clo : Bool) (ev tb wk fa : Value) (at_ : Int) (k : K3) (w : World) (h : Blk w b 51 (objA cl pr clo T ev tb wk fa at_)) (hk : k.2.2.size ≤ 4000) :
    Calls Tryd.prog 42 #[.pointer (some ⟨b, 0, none⟩), VK k] w fun e w' => e = .returned (.int .i64 (idxV cl k)) ∧ Below w.heap.size w w' := by
  obtain ⟨k1, k2, k3⟩ := k
  dsimp only at hk
  have bb : Below w.heap.size w (w.alloc (.cells #[.int .i64 k1, .int .i64 k2, .string k3] 34)) := (Below.refl _ _).alloc (Nat.le_refl _) _
  have h2 := h.below bb h.lt
  have c0 : (w.alloc (.cells #[.int .i64 k1, .int .i64 k2, .string k3] 34)).cell? ⟨b, 0, none⟩ = some (.int .i64 cl) := by rw [h2.cell]; rfl
  have lb := h2.lt
  unfold idxV
  dsimp only
  by_cases h1 : cl = 1
  · subst h1
    by_cases h7 : k1 = 7
    · subst h7
      rw [if_pos ⟨rfl, rfl⟩]
      go_enter Tryd.func42, Tryd.ntmps42
      go_wp2_with (fail)
      refine (Tx.index_any k3 _ (by omega)).mono ?_
      rintro e w2 ⟨rfl, q, rfl⟩
      go_wp2
      go_ret
      exact ⟨rfl, below_drw bb q⟩
    · have t2 : (k1 == 7) = false := by simpa using h7
      rw [if_neg (fun h => h7 h.2)]
      go_enter Tryd.func42, Tryd.ntmps42
      go_wp2
      go_ret
      exact ⟨rfl, bb⟩
  · have t1 : (cl == 1) = false := by simpa using h1
    rw [if_neg (fun h => h1 h.1)]
    go_enter Tryd.func42, Tryd.ntmps42
    go_wp2
    go_ret
    exact ⟨rfl, bb⟩
set_option maxHeartbeats 2000000 in
theorem own_plain (b T : Nat) (cl pr : Int) (clo : Bool) (ev tb wk fa : Value) (at_ : Int) (A : List Ent) (D : List (Nat × Nat)) (O : Nat → Prop) (k : K3) (w : World) (h : Blk w b 51 (objA cl pr clo T ev tb wk fa at_)) (hT : TabA w T A D O) (hk : k.2.2.size ≤ 4000) (hcl : cl ≠ 1) :
    Calls Tryd.prog 18 #[.pointer (some ⟨b, 0, none⟩), VK k] w (GetP A k w) := by
  have t1 : (cl == 1) = false := by simpa using hcl
  have H := Lib.hid h
  have HT := Lib.hid hT
  obtain ⟨k1, k2, k3⟩ := k
  dsimp only at hk
  clear h hT
  have bb : Below w.heap.size w ((w.alloc (.cells #[.int .i64 k1, .int .i64 k2, .string k3] 34)).alloc (.cells #[.int .i64 0, .int .i64 0, .string ⟨#[]⟩] 34)) := ((Below.refl _ _).alloc (Nat.le_refl _) _).alloc (by simp) _
  have h2 := H.out.below bb H.out.lt
  have kb : Blk ((w.alloc (.cells #[.int .i64 k1, .int .i64 k2, .string k3] 34)).alloc (.cells #[.int .i64 0, .int .i64 0, .string ⟨#[]⟩] 34)) w.heap.size 34 #[.int .i64 k1, .int .i64 k2, .string k3] := (Blk.new w _ _).alloc _
  have rb : Blk ((w.alloc (.cells #[.int .i64 k1, .int .i64 k2, .string k3] 34)).alloc (.cells #[.int .i64 0, .int .i64 0, .string ⟨#[]⟩] 34)) (w.heap.size + 1) 34 #[.int .i64 0, .int .i64 0, .string ⟨#[]⟩] := by
    have := Blk.new (w.alloc (.cells #[.int .i64 k1, .int .i64 k2, .string k3] 34)) 34 #[.int .i64 0, .int .i64 0, .string ⟨#[]⟩]
    rwa [World.size_alloc] at this
  have hi := hindex_any b T cl pr clo ev tb wk fa at_ (k1, k2, k3) _ h2 hk
  have hv : idxV cl (k1, k2, k3) = -1 := if_neg (fun h => hcl h.1)
  rw [hv] at hi
  have HI := Lib.hid hi
  have HB := Lib.hid (And.intro bb (And.intro kb rb))
  clear hi hv bb h2 kb rb
  go_enter Tryd.func18, Tryd.ntmps18
  go_wp2_with (fail)
  refine HI.out.mono ?_
  rintro e w2 ⟨rfl, b2⟩
  obtain ⟨bb, kb, rb⟩ := HB.out
  have b02 := bb.trans (b2.mono bb.size)
  have o2 := H.out.below b02 H.out.lt
  have kb2 := kb.below b2 kb.lt
  have rb2 := rb.below b2 rb.lt
  have o0 : w2.cell? ⟨b, 0, none⟩ = some (.int .i64 cl) := by rw [o2.cell]; rfl
  have o3 : w2.cell? ⟨b, 3, none⟩ = some (.pointer (some ⟨T, 0, none⟩)) := by rw [o2.cell]; rfl
  have q0 : w2.cell? ⟨w.heap.size, 0, none⟩ = some (.int .i64 k1) := by rw [kb2.cell]; rfl
  have q1 : w2.cell? ⟨w.heap.size, 1, none⟩ = some (.int .i64 k2) := by rw [kb2.cell]; rfl
  have q2 : w2.cell? ⟨w.heap.size, 2, none⟩ = some (.string k3) := by rw [kb2.cell]; rfl
  have lo := o2.lt
  have HG := Lib.hid (fun q : Nat => Go.Proofs.YtmimnaaofpkndaaDoor.get_any T A D O (k1, k2, k3) (w2.drewN q) ((HT.out.below b02).upd ((Upd.refl w2 (fun _ => False)).drewN q) (fun _ _ h => h)) hk)
  have HB2 := Lib.hid (And.intro b02 rb2)
  clear o2 kb2 rb2 bb kb rb b2 b02 HI HB
  go_wp2_with (fail)
  refine wp_var0 (fun KV HKV => ?_)
  refine wp_region_till (m := 5) (S := (fun W => W.cell? ⟨b, 3, none⟩ = some (.pointer (some ⟨T, 0, none⟩)) ∧ W.cell? ⟨w.heap.size, 0, none⟩ = some (.int .i64 k1) ∧ W.cell? ⟨w.heap.size, 1, none⟩ = some (.int .i64 k2) ∧ W.cell? ⟨w.heap.size, 2, none⟩ = some (.string k3))) (by kernel_rfl) ?_
  have HG1 := HG.out 1
  have HB3 : Below w.heap.size w (w2.drewN 1) ∧ Blk (w2.drewN 1) (w.heap.size + 1) 34 #[.int .i64 0, .int .i64 0, .string ⟨#[]⟩] := ⟨below_drw HB2.out.1 1, HB2.out.2.drewN 1⟩
  have e3 : w2.drew = w2.drewN 1 := rfl
  rw [e3]
  have S0 : (w2.drewN 1).cell? ⟨b, 3, none⟩ = some (.pointer (some ⟨T, 0, none⟩)) ∧ (w2.drewN 1).cell? ⟨w.heap.size, 0, none⟩ = some (.int .i64 k1) ∧ (w2.drewN 1).cell? ⟨w.heap.size, 1, none⟩ = some (.int .i64 k2) ∧ (w2.drewN 1).cell? ⟨w.heap.size, 2, none⟩ = some (.string k3) := ⟨o3, q0, q1, q2⟩
  have H3 := Lib.hid HB3
  have HG3 := Lib.hid HG1
  clear o0 o3 q0 q1 q2 lo HG HB2 e3 HB3 HG1
  generalize w2.drewN 1 = D at *
  change tillH _ _ _ _ _ _ 12 #[false, false, false, false, false, false, false, false, false, false, false, false] _ _
  refine tillH_takeAny (i := 0) (oi := ?oo1) (v := ?vv1) ?hi1 (by kernel_rfl) (by kernel_rfl) (by kernel_rfl) ?hq1 (by kernel_rfl) ?hy1 (fun _ => S0) ?hh1
  case hi1 => (simp only [List.getElem?_toArray, List.getElem?_cons_succ, List.getElem?_cons_zero]; rfl)
  case hq1 => exact fun _ _ _ h => h
  case hy1 => exact Or.inl ⟨by rfl, by (intro W; go_simp; (try with_reducible rfl))⟩
  (try simp only [Act.put, List.setIfInBounds_toArray, List.set_cons_zero, List.set_cons_succ])
  refine tillH_takeAny (i := 1) (oi := ?oo2) (v := ?vv2) ?hi2 (by kernel_rfl) (by kernel_rfl) (by kernel_rfl) ?hq2 (by kernel_rfl) ?hy2 (fun _ => S0) ?hh2
  case hi2 => (simp only [List.getElem?_toArray, List.getElem?_cons_succ, List.getElem?_cons_zero]; rfl)
  case hq2 => exact fun _ _ _ h => h
  case hy2 => exact Or.inl ⟨by rfl, by (intro W; go_simp; (try with_reducible rfl))⟩
  (try simp only [Act.put, List.setIfInBounds_toArray, List.set_cons_zero, List.set_cons_succ])
  refine tillH_takeAny (i := 2) (oi := ?oo3) (v := ?vv3) ?hi3 (by kernel_rfl) (by kernel_rfl) (by kernel_rfl) ?hq3 (by kernel_rfl) ?hy3 (fun _ => S0) ?hh3
  case hi3 => (simp only [List.getElem?_toArray, List.getElem?_cons_succ, List.getElem?_cons_zero]; rfl)
  case hq3 => exact fun _ _ _ h => h
  case hy3 => exact Or.inl ⟨by rfl, by (intro W; go_simp; (try with_reducible rfl))⟩
  (try simp only [Act.put, List.setIfInBounds_toArray, List.set_cons_zero, List.set_cons_succ])
  refine tillH_take (i := 3) (oi := ?oo4) (v := ?vv4) ?hi4 (by kernel_rfl) (by kernel_rfl) (by kernel_rfl) ?hq4 (by kernel_rfl) (by kernel_rfl) (by kernel_rfl) ?hy4 S0 ?hh4
  case hi4 => (simp only [List.getElem?_toArray, List.getElem?_cons_succ, List.getElem?_cons_zero]; rfl)
  case hq4 => exact fun _ _ _ h => h
  case hy4 => exact Or.inl ⟨by rfl, by (intro W hSw; (try obtain ⟨s0, s1, s2, s3⟩ := hSw); go_simp; (try with_reducible rfl))⟩
  (try simp only [Act.put, List.setIfInBounds_toArray, List.set_cons_zero, List.set_cons_succ])
  refine tillH_take (i := 4) (oi := ?oo5) (v := ?vv5) ?hi5 (by kernel_rfl) (by kernel_rfl) (by kernel_rfl) ?hq5 (by kernel_rfl) (by kernel_rfl) (by kernel_rfl) ?hy5 S0 ?hh5
  case hi5 => (simp only [List.getElem?_toArray, List.getElem?_cons_succ, List.getElem?_cons_zero]; rfl)
  case hq5 => exact fun _ _ _ h => h
  case hy5 => exact Or.inl ⟨by rfl, by (intro W hSw; (try obtain ⟨s0, s1, s2, s3⟩ := hSw); go_simp; (try with_reducible rfl))⟩
  (try simp only [Act.put, List.setIfInBounds_toArray, List.set_cons_zero, List.set_cons_succ])
  refine tillH_next (rs := [5]) (by kernel_rfl) (by simp) ?_
  refine NextH.cons rfl (fun K hK => ?_) NextH.nil
  go_simp
  refine HG3.out.mono ?_
  rintro e w5 ⟨b5, hor⟩
  have rb5 := H3.out.2.below b5 H3.out.2.lt
  have bel5 := H3.out.1.trans (b5.mono H3.out.1.size)
  have z0 := rb5.frozen 0
  have z1 := rb5.frozen 1
  have z2 := rb5.frozen 2
  have y0 : w5.cell? ⟨w.heap.size + 1, 0, none⟩ = some (.int .i64 0) := by rw [rb5.cell]; rfl
  have y1 : w5.cell? ⟨w.heap.size + 1, 1, none⟩ = some (.int .i64 0) := by rw [rb5.cell]; rfl
  have y2 : w5.cell? ⟨w.heap.size + 1, 2, none⟩ = some (.string ⟨#[]⟩) := by rw [rb5.cell]; rfl
  have lr := rb5.lt
  have HR5 := Lib.hid (And.intro rb5 bel5)
  clear rb5 bel5 S0
  have HGP : Hid (∃ gv gf gb, e = .returned (.tuple #[VK gv, .int .i64 gf, .bool gb]) ∧ ((∃ x ∈ A, isKey (k1, k2, k3) x = true ∧ gv = x.val ∧ gf = x.flags ∧ gb = true) ∨ ((∀ x ∈ A, isKey (k1, k2, k3) x = false) ∧ gv = (0, 0, ⟨#[]⟩) ∧ gf = 0 ∧ gb = false))) := Lib.hid (by rcases hor with ⟨x, hx, hk, rfl⟩ | ⟨hn, rfl⟩; exact ⟨x.val, x.flags, true, rfl, .inl ⟨x, hx, hk, rfl, rfl, rfl⟩⟩; exact ⟨(0, 0, ⟨#[]⟩), 0, false, rfl, .inr ⟨hn, rfl, rfl, rfl⟩⟩)
  clear hor
  obtain ⟨gv, gf, gb, rfl, hgp⟩ := HGP.out
  obtain ⟨v1, v2, v3⟩ := gv
  have HP := Lib.hid hgp
  clear hgp HGP
  refine hK.out _ _ (fun h => absurd h (by simp)) ?_
  clear hK K
  (try simp only [Act.put, List.setIfInBounds_toArray, List.set_cons_zero, List.set_cons_succ])
  refine tillH_takeAny (i := 6) (oi := ?oo6) (v := ?vv6) ?hi6 (by kernel_rfl) (by kernel_rfl) (by kernel_rfl) ?hq6 (by kernel_rfl) ?hy6 (fun h => absurd h (by simp)) ?hh6
  case hi6 => (simp only [List.getElem?_toArray, List.getElem?_cons_succ, List.getElem?_cons_zero]; rfl)
  case hq6 => exact fun _ _ _ h => h
  case hy6 => exact Or.inl ⟨by rfl, by (intro W; go_simp; (try with_reducible rfl))⟩
  (try simp only [Act.put, List.setIfInBounds_toArray, List.set_cons_zero, List.set_cons_succ])
  refine tillH_takeAny (i := 7) (oi := ?oo7) (v := ?vv7) ?hi7 (by kernel_rfl) (by kernel_rfl) (by kernel_rfl) ?hq7 (by kernel_rfl) ?hy7 (fun h => absurd h (by simp)) ?hh7
  case hi7 => (simp only [List.getElem?_toArray, List.getElem?_cons_succ, List.getElem?_cons_zero]; rfl)
  case hq7 => exact fun _ _ _ h => h
  case hy7 => exact Or.inl ⟨by rfl, by (intro W; go_simp; (try with_reducible rfl))⟩
  (try simp only [Act.put, List.setIfInBounds_toArray, List.set_cons_zero, List.set_cons_succ])
  refine tillH_takeAny (i := 8) (oi := ?oo8) (v := ?vv8) ?hi8 (by kernel_rfl) (by kernel_rfl) (by kernel_rfl) ?hq8 (by kernel_rfl) ?hy8 (fun h => absurd h (by simp)) ?hh8
  case hi8 => (simp only [List.getElem?_toArray, List.getElem?_cons_succ, List.getElem?_cons_zero]; rfl)
  case hq8 => exact fun _ _ _ h => h
  case hy8 => exact Or.inl ⟨by rfl, by (intro W; go_simp; (try with_reducible rfl))⟩
  (try simp only [Act.put, List.setIfInBounds_toArray, List.set_cons_zero, List.set_cons_succ])
  refine tillH_next (rs := [9]) (by kernel_rfl) (by simp) ?_
  refine NextH.cons rfl (fun K hK => ?_) NextH.nil
  go_simp
  refine hK.out _ _ (fun h => absurd h (by simp)) ?_
  clear hK K
  (try simp only [Act.put, List.setIfInBounds_toArray, List.set_cons_zero, List.set_cons_succ])
  refine tillH_takeAny (i := 10) (oi := ?oo9) (v := ?vv9) ?hi9 (by kernel_rfl) (by kernel_rfl) (by kernel_rfl) ?hq9 (by kernel_rfl) ?hy9 (fun h => absurd h (by simp)) ?hh9
  case hi9 => (simp only [List.getElem?_toArray, List.getElem?_cons_succ, List.getElem?_cons_zero]; rfl)
  case hq9 => exact fun _ _ _ h => h
  case hy9 => exact Or.inl ⟨by rfl, by (intro W; go_simp; (try with_reducible rfl))⟩
  (try simp only [Act.put, List.setIfInBounds_toArray, List.set_cons_zero, List.set_cons_succ])
  refine tillH_takeAny (i := 11) (oi := ?oo10) (v := ?vv10) ?hi10 (by kernel_rfl) (by kernel_rfl) (by kernel_rfl) ?hq10 (by kernel_rfl) ?hy10 (fun h => absurd h (by simp)) ?hh10
  case hi10 => (simp only [List.getElem?_toArray, List.getElem?_cons_succ, List.getElem?_cons_zero]; rfl)
  case hq10 => exact fun _ _ _ h => h
  case hy10 => exact Or.inl ⟨by rfl, by (intro W; go_simp; (try with_reducible rfl))⟩
  (try simp only [Act.put, List.setIfInBounds_toArray, List.set_cons_zero, List.set_cons_succ])
  refine tillH_done (by kernel_rfl) ?_ _
  refine HKV.out _ _ ?_
  go_wp2_with (fail)
  refine bodyPost_ret (v := .tuple #[VS v1 v2 v3, .int .i64 gf, .bool gb]) (by simp [results, Tryd.results18, go_sem, y0, y1, y2, z0, z1, z2, lr]) rfl ⟨?_, ?_⟩
  · exact ((HR5.out.2.setCell (p := ⟨w.heap.size + 1, 0, none⟩) (by simp) _).setCell (p := ⟨w.heap.size + 1, 1, none⟩) (by simp) _).setCell (p := ⟨w.heap.size + 1, 2, none⟩) (by simp) _
  · rcases HP.out with ⟨x, hx, hkx, h1, rfl, rfl⟩ | ⟨hn, h1, rfl, rfl⟩
    · exact .inl ⟨x, hx, hkx, by rw [← h1]⟩
    · obtain ⟨rfl, rfl, rfl⟩ : v1 = 0 ∧ v2 = 0 ∧ v3 = ⟨#[]⟩ := by simpa using h1
      exact .inr ⟨hn, rfl⟩
end Go.Proofs.YtmimnaaofpkndaaDoor.Hp

/- The heap: digits, and values of strings of digits. -/
set_option linter.unusedVariables false
set_option linter.unusedSimpArgs false
namespace Go.Proofs.YtmimnaaofpkndaaDoor.Hp
open Go.RowKit Go.Proofs.YtmimnaaofpkndaaDoor Go.Shelf
theorem conv_one (W : World) (c : Int) : (convert 36 9 (.slice (some ⟨W.heap.size, 0, none⟩) 1 1)).run Tryd.prog (W.alloc (.cells #[.int .u8 c] 5)) = .ok (.string ⟨#[UInt8.ofNat c.toNat]⟩) (W.alloc (.cells #[.int .u8 c] 5)) := by
  have hc2 : ∀ i, i < 1 → (W.alloc (.cells #[.int .u8 c] 5)).cell? ⟨W.heap.size, 0 + i, none⟩ = some (.int .u8 ([c].getD i 0)) := by
    intro i hi
    obtain rfl : i = 0 := by omega
    rw [Lib.cell_of_heap (heap_alloc_new W _)]
    rfl
  rw [run_convert_bytes_arg _ 36 5 Tryd.underlying36 Tryd.underlying5 W.heap.size 0 1 1 [c] rfl hc2 9 Tryd.underlying9]
  rfl
theorem dig_step (n : Nat) (h : n < 12000) (h10 : 10 ≤ n) : Tx.decB n = Tx.decB (n / 10) ++ Tx.decB (n % 10) := by
  have e0 : Tx.decB (n % 10) = [Tx.dg n] := by
    rcases Tx.decB_cases (n % 10) (by omega) with ⟨_, e⟩ | ⟨h1, _⟩ | ⟨h1, _⟩ | ⟨h1, _⟩ | ⟨h1, _⟩
    · rw [e]; unfold Tx.dg; rw [Nat.mod_mod]
    all_goals omega
  rw [e0]
  have e1 : n / 10 / 10 = n / 100 := by omega
  have e2 : n / 10 / 100 = n / 1000 := by omega
  have e3 : n / 10 / 1000 = n / 10000 := by omega
  rcases Tx.decB_cases n h with ⟨h1, e⟩ | ⟨h1, h2, e⟩ | ⟨h1, h2, e⟩ | ⟨h1, h2, e⟩ | ⟨h1, e⟩ <;>
    rcases Tx.decB_cases (n / 10) (by omega) with ⟨g1, f⟩ | ⟨g1, g2, f⟩ | ⟨g1, g2, f⟩ | ⟨g1, g2, f⟩ | ⟨g1, f⟩ <;> first | omega | (rw [e, f]; (try simp only [e1, e2, e3]); rfl)
theorem dig_small (n : Nat) (h : n < 10) : Tx.decB n = [UInt8.ofNat (48 + n)] := by
  rcases Tx.decB_cases n (by omega) with ⟨_, e⟩ | ⟨h1, _⟩ | ⟨h1, _⟩ | ⟨h1, _⟩ | ⟨h1, _⟩
  · rw [e]; unfold Tx.dg; rw [Nat.mod_eq_of_lt h]
  all_goals omega
theorem decB_len (n : Nat) (h : n < 12000) : (Tx.decB n).length ≤ 5 := by
  rcases Tx.decB_cases n h with ⟨_, e⟩ | ⟨_, _, e⟩ | ⟨_, _, e⟩ | ⟨_, _, e⟩ | ⟨_, e⟩ <;> rw [e] <;> simp
set_option maxRecDepth 100000 in
set_option maxHeartbeats 2000000 in
theorem digits_any (n : Nat) (hn : n < 12000) (w : World) :
    Calls Tryd.prog 66 #[.int .i64 (n : Int)] w fun e w' => e = .returned (.string ⟨(Tx.decB n).toArray⟩) ∧ Below w.heap.size w w' := by
  induction n using Nat.strongRecOn generalizing w with
  | _ n ih =>
  by_cases h : n < 10
  · have t1 : decide ((n : Int) < 10) = true := by simp; omega
    have t3 : IntKind.i64.wrap (48 + (n : Int)) = 48 + (n : Int) := IntWalk.i64_in _ (by omega)
    have hcv := conv_one w (48 + (n : Int))
    rw [show (48 + (n : Int)).toNat = 48 + n by omega] at hcv
    rw [dig_small n h]
    obtain ⟨ch, hch⟩ : ∃ ch, UInt8.ofNat (48 + n) = ch := ⟨_, rfl⟩
    rw [hch] at hcv ⊢
    clear hch ih
    go_enter Tryd.func66, Tryd.ntmps66
    go_wp2
    go_ret
    exact ⟨rfl, (Below.refl _ _).alloc (Nat.le_refl _) _⟩
  · have t1 : decide ((n : Int) < 10) = false := by simp; omega
    have h1 := fun W => ih (n / 10) (by omega) (by omega) W
    have h2 := fun W => ih (n % 10) (by omega) (by omega) W
    rw [show ((n / 10 : Nat) : Int) = (n : Int) / 10 by omega] at h1
    rw [show ((n % 10 : Nat) : Int) = (n : Int) % 10 by omega] at h2
    have H1 := Lib.hid h1
    have H2 := Lib.hid h2
    have HS := Lib.hid (dig_step n hn (by omega))
    clear ih h1 h2
    go_enter Tryd.func66, Tryd.ntmps66
    go_wp2_with (fail)
    refine (H1.out w).mono ?_
    rintro e w1 ⟨rfl, b1⟩
    go_wp2_with (fail)
    refine (H2.out w1).mono ?_
    rintro e w2 ⟨rfl, b2⟩
    obtain ⟨L1, hL1⟩ : ∃ l, Tx.decB (n / 10) = l := ⟨_, rfl⟩
    obtain ⟨L2, hL2⟩ : ∃ l, Tx.decB (n % 10) = l := ⟨_, rfl⟩
    have hl1 : L1.length ≤ 5 := by rw [← hL1]; exact decB_len _ (by omega)
    have hl2 : L2.length ≤ 5 := by rw [← hL2]; exact decB_len _ (by omega)
    have hs : ¬ 9223372036854775807 < L1.length + L2.length := by omega
    have ea : (⟨L1.toArray⟩ ++ ⟨L2.toArray⟩ : ByteArray) = ⟨(L1 ++ L2).toArray⟩ := Tx.app_s L1 L2
    have HE := Lib.hid ea
    rw [hL1, hL2]
    go_wp2_with (fail)
    go_ret
    exact ⟨by rw [HS.out, hL1, hL2]; rfl, b1.trans (b2.mono b1.size)⟩
/-- The key of a string of ASCII bytes. -/
def keyL (l : List UInt8) : K3 := (7, 0, ⟨(Tx.ofB ⟨l.toArray⟩).toArray⟩)
theorem keyL_any (l : List UInt8) (hl : l.length ≤ 1000) (w : World) : Calls Tryd.prog 13 #[.string ⟨l.toArray⟩] w fun e w' => e = .returned (VK (keyL l)) ∧ Below w.heap.size w w' :=
  Tx.val_any ⟨l.toArray⟩ w (by show l.toArray.size ≤ _; simp; omega)
theorem keyL_size (l : List UInt8) (h : ∀ c, c ∈ l → c.toNat < 128) (hl : l.length ≤ 1000) : (keyL l).2.2.size ≤ 4000 := by
  show (Tx.ofB ⟨l.toArray⟩).toArray.size ≤ 4000
  rw [Tx.ofB_ascii l h, List.size_toArray, Tx.unitsB_length, List.length_map]
  omega
theorem keyL_idx (l : List UInt8) (h : ∀ c, c ∈ l → c.toNat < 128) : Tx.indexOf (keyL l).2.2 = Tx.idxL (l.map (·.toNat)) := Tx.indexOf_of_ascii l h
end Go.Proofs.YtmimnaaofpkndaaDoor.Hp

/- The heap: a range over an empty table; Keys of the example. -/
set_option linter.unusedVariables false
set_option linter.unusedSimpArgs false
namespace Go.Proofs.YtmimnaaofpkndaaDoor.Hp
open Go.RowKit Go.Proofs.YtmimnaaofpkndaaDoor Go.Shelf
theorem Upd.join {w W W' : World} {O : Nat → Prop} (h : Upd w W O) (u : Upd W W' (fun k => O k ∨ w.heap.size ≤ k)) : Upd w W' O :=
  ⟨u.os.trans h.os, u.tape.trans h.tape, u.output.trans h.output, Nat.le_trans h.size u.size, fun k hk hn => (u.block k (Nat.lt_of_lt_of_le hk h.size) (fun e => e.elim hn (fun e => by omega))).trans (h.block k hk hn)⟩
/-- A range over an empty table makes no round. -/
theorem range_empty {g : Operand} {ps : Array Tmp} (hps : ps.size = 2) {assign body : Code} {Q : Exit → Act → World → Prop} {a : Act} {w : World} (T b : Nat) (O : Nat → Prop) (hg : a.eval g = .func (.func 77) #[] #[.pointer (some ⟨b, 0, none⟩)])
    (hb : Blk w b 44 #[.pointer (some ⟨T, 0, none⟩)]) (hT : TabA w T [] [] O)
    (hQ : ∀ (D : Nat) (W : World) (O' : Nat → Prop), w.heap.size ≤ D → ¬ O' D → W.heap[D]? = some (.deferred (some [])) → TabA W T [] [] O' → (∀ k, O' k → O k ∨ w.heap.size ≤ k) → Upd w W O → Q .normal { a with defers := markD D :: a.defers } W) :
    (Code.rangeFunc g ps assign body).wp Tryd.prog Q a w := by
  have hOlt := hT.lt
  refine wpIn_wide.1 (wpIn_range_own (F := Fence.wide) (n := 9) rfl (by decide) (gf := 77) (argsOf := fun l => #[.func (.yield l) #[] #[], .pointer (some ⟨b, 0, none⟩)]) ?res (encs := fun x : Ent => #[VK x.key, VK x.val]) (fun _ => by rw [hps]; rfl) [] O hOlt (AllFin T [] []) ?seq (fun O1 W l o h hl => h.put hl o)
    (fun O1 pre W => Upd w W O ∧ ∀ k, O1 k → O k ∨ w.heap.size ≤ k) (fun O1 c pre W => False)
    (fun O1 pre W W' h u => ⟨Upd.join h.1 (u.mono (fun k _ hk => h.2 k hk)), h.2⟩) (fun O1 c pre W W' h u => h) (fun O1 pre W l o o' h hl hk ho => ⟨Upd.join h.1 ((Upd.put W l o').mono (fun k _ e => .inr (e ▸ hl))), h.2⟩) (fun O1 c pre W l o o' h hl hk ho => h) (fun O1 W u h1 => ⟨u, h1⟩)
    (fun x a' W => True) (fun x a' W l o o' h hl hk ho => trivial)
    (fun l O1 pre x W K h hpre => by simp at hpre) (fun l O1 pre x a' W h _ hpre => by simp at hpre) ?done (fun O1 D c pre W hD _ hF h => h.elim))
  case res => exact fun l W => ⟨({ target := .fn (.func 77) #[.pointer (some ⟨b, 0, none⟩)], args := #[.func (.yield l) #[] #[]] } : Deferred), by (simp only [resolve, hg]; simp [go_sem]), fun _ _ => trivial, by kernel_rfl⟩
  case seq => exact fun l W u => all_in 8 (by decide) l T [] [] O W b (u.blk hb (fun h => h)) (hT.upd u (fun _ _ h => h)) (by simp) (by simp)
  case done =>
    intro O1 D W hD hnD hF hI hk
    obtain ⟨D', O', h1, h2, h3, h4⟩ := hF
    have hD9 : D' = [] := List.length_eq_zero_iff.1 (by simpa using h4)
    subst hD9
    exact hQ D W O' hD (fun h => hnD (h2 D h)) hk h1 (fun k hk => hI.2 k (h2 k hk)) hI.1
theorem all_fn (T : Nat) (w : World) : Calls Tryd.prog 55 #[.pointer (some ⟨T, 0, none⟩)] w fun e w' => e = .returned (.func (.func 77) #[] #[.pointer (some ⟨w.heap.size, 0, none⟩)]) ∧ w' = w.alloc (.cells #[.pointer (some ⟨T, 0, none⟩)] 44) := by
  have hmf : ∀ (fn : Fn) (first cap : Array Value) (w : World), (Instr.makeFunc fn first cap).run Tryd.prog w = .ok (.func fn first cap) w := fun _ _ _ _ => rfl
  go_enter Tryd.func55, Tryd.ntmps55
  go_wp2
  go_ret
  exact ⟨rfl, rfl⟩
/-- The marks are taken, one by one: what holds whatever stands in their blocks. -/
theorem marksOf {F : Fence} {n : Nat} {P : Program} {fn : Func} {tmps : Array Value} {R : Ending → World → Prop} {I : World → Prop} (S : List Nat) (hI : ∀ W D o, I W → D ∈ S → I (W.putObj D o)) (hret : ∀ W, I W → LeavesIn F n P fn tmps R [] .returning W) :
    ∀ (Ds : List Nat) (W : World), (∀ D ∈ Ds, D ∈ S) → Ds.Nodup → (∀ D ∈ Ds, W.heap[D]? = some (.deferred (some []))) → I W → LeavesInM F n P fn tmps R (Ds.map markD) .returning W := by
  intro Ds
  induction Ds with
  | nil => exact fun W _ _ _ h => hret W h
  | cons D Ds ih =>
    intro W hS hn hd h
    have hD := hd D (List.mem_cons_self ..)
    refine ⟨by simp, .inl ⟨D, _, rfl, run_takeDeferred hD, ih _ (fun E hE => hS E (List.mem_cons_of_mem _ hE)) (List.nodup_cons.1 hn).2 (fun E hE => ?_) (hI _ _ _ h (hS D (List.mem_cons_self ..)))⟩⟩
    exact (World.putObj_heap_other (by rintro rfl; exact (List.nodup_cons.1 hn).1 hE)).trans (hd E (List.mem_cons_of_mem _ hE))
theorem infoVal : (Tryd.prog.info? 34).map (fun i => (i.zero, i.size, i.bytes)) = some (some (.agg #[.int .i64 0, .int .i64 0, .string ⟨#[]⟩]), 3, 32) := by kernel_rfl
/-- Values in a row. -/
def valsC (L : List K3) : List Value := L.flatMap fun k => [.int .i64 k.1, .int .i64 k.2.1, .string k.2.2]
theorem valsC_append (L M : List K3) : valsC (L ++ M) = valsC L ++ valsC M := by simp [valsC]
theorem valsC_get (L : List K3) (i j : Nat) (k : K3) (hk : L[i]? = some k) (hj : j < 3) : (valsC L)[i * 3 + j]? = ([.int .i64 k.1, .int .i64 k.2.1, .string k.2.2] : List Value)[j]? := by
  induction L generalizing i with
  | nil => simp at hk
  | cons d L ih =>
    have hc : valsC (d :: L) = .int .i64 d.1 :: .int .i64 d.2.1 :: .string d.2.2 :: valsC L := by simp [valsC]
    cases i with
    | zero =>
      simp at hk; subst hk
      rw [hc]
      match j, hj with
      | 0, _ => rfl
      | 1, _ => rfl
      | 2, _ => rfl
    | succ i =>
      rw [hc, show (i + 1) * 3 + j = i * 3 + j + 1 + 1 + 1 by omega]
      simp only [List.getElem?_cons_succ]
      exact ih i (by simpa using hk)
/-- What the package's variable 'length' holds. -/
def lenK : K3 := (7, 0, ⟨#[0, 108, 0, 101, 0, 110, 0, 103, 0, 116, 0, 104]⟩)
def Lg (w : World) : Prop := w.cell? ⟨0, 0, none⟩ = some (.int .i64 lenK.1) ∧ w.cell? ⟨0, 1, none⟩ = some (.int .i64 lenK.2.1) ∧ w.cell? ⟨0, 2, none⟩ = some (.string lenK.2.2)
theorem Lg.lt {w : World} (h : Lg w) : 0 < w.heap.size := World.block_lt_of_cell? w ⟨0, 0, none⟩ h.1
theorem Lg.upd {w w' : World} {M : Nat → Prop} (h : Lg w) (u : Upd w w' M) (hM : ¬ M 0) : Lg w' := ⟨u.cell h.1 hM, u.cell h.2.1 hM, u.cell h.2.2 hM⟩
theorem Lg.below {w w' : World} (h : Lg w) (b : Below w.heap.size w w') : Lg w' := h.upd (M := fun _ => False) (Upd.of_below_all b) (fun h => h)
end Go.Proofs.YtmimnaaofpkndaaDoor.Hp
