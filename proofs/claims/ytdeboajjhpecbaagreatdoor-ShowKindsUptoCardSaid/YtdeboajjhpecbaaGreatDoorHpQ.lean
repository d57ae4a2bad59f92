/- HpQ: several texts in one. -/
import Derived.Test.YtdeboajjhpecbaaGreatDoorOtG
import Derived.Test.YtdeboajjhpecbaaGreatDoorQir
import Derived.Test.YtdeboajjhpecbaaGreatDoorHpB
import Derived.BigQuiet
import Derived.Test.YtdeboajjhpecbaaGreatDoorOrdC
import Derived.Laws.BytesArg
import Derived.LaidEqlPtr
import Derived.Lib.QuietBelow
import Derived.WalkSmall
import Derived.OpenShut
import Derived.Deep.Slices
import Derived.StillTailTactics
/- The heap: own properties. -/
set_option linter.unusedVariables false
set_option linter.unusedSimpArgs false
namespace Go.Proofs.YtdeboajjhpecbaaGreatDoor.Hp
open Go.RowKit Go.Proofs.YtdeboajjhpecbaaGreatDoor

theorem wp_var0 {P : Program} {c : Code} {Q : Exit → Act → World → Prop} {a : Act} {w : World} (h : ∀ K : Act → World → Prop, RowKit.Hid (∀ a w, Q .normal a w → K a w) → c.wp P (Exit.then K (fun _ _ _ => False)) a w) : c.wp P Q a w :=
  wp_mono (h (Q .normal) (Lib.hid fun _ _ h => h)) fun e a w hq => by
    cases e <;> first | exact hq | exact hq.elim
theorem below_drw {B : Nat} {w w' : World} (h : Below B w w') (q : Nat) : Below B w (w'.drewN q) := ⟨h.os, h.tape, h.output, h.size, h.block⟩
/-- The place that a key tells. -/
def idxV (cl : Int) (k : K3) : Int := if cl = 1 ∧ k.1 = 7 then Tx.indexOf k.2.2 else -1
set_option maxHeartbeats 1000000 in
theorem hindex_any (b T : Nat) (cl pr : Int) (clo : Bool) (ev tb wk fa : Value) (at_ : Int) (k : K3) (w : World) (h : Blk w b 85 (objA cl pr clo T ev tb wk fa at_)) (hk : k.2.2.size ≤ 4000) :
    Calls Tryz.prog 66 #[.pointer (some ⟨b, 0, none⟩), VK k] w fun e w' => e = .returned (.int .i64 (idxV cl k)) ∧ Below w.heap.size w w' := by
  obtain ⟨k1, k2, k3⟩ := k
  dsimp only at hk
  have bb : Below w.heap.size w (w.alloc (.cells #[.int .i64 k1, .int .i64 k2, .string k3] 30)) := (Below.refl _ _).alloc (Nat.le_refl _) _
  have h2 := h.below bb h.lt
  have c0 : (w.alloc (.cells #[.int .i64 k1, .int .i64 k2, .string k3] 30)).cell? ⟨b, 0, none⟩ = some (.int .i64 cl) := by rw [h2.cell]; rfl
  have lb := h2.lt
  unfold idxV
  dsimp only
  by_cases h1 : cl = 1
  · subst h1
    by_cases h7 : k1 = 7
    · subst h7
      rw [if_pos ⟨rfl, rfl⟩]
      go_enter Tryz.func66, Tryz.ntmps66
      go_wp2_with (fail)
      refine (Tx.index_any k3 _ (by omega)).mono ?_
      rintro e w2 ⟨rfl, q, rfl⟩
      go_wp2
      go_ret
      exact ⟨rfl, below_drw bb q⟩
    · have t2 : (k1 == 7) = false := by simpa using h7
      rw [if_neg (fun h => h7 h.2)]
      go_enter Tryz.func66, Tryz.ntmps66
      go_wp2
      go_ret
      exact ⟨rfl, bb⟩
  · have t1 : (cl == 1) = false := by simpa using h1
    rw [if_neg (fun h => h1 h.1)]
    go_enter Tryz.func66, Tryz.ntmps66
    go_wp2
    go_ret
    exact ⟨rfl, bb⟩
/-- Own, of an object that is no array: what the table has. -/
def OwnP (A : List Ent) (k : K3) (w : World) (e : Ending) (w' : World) : Prop := GetP A k w e w'
set_option maxHeartbeats 2000000 in
theorem own_plain (b T : Nat) (cl pr : Int) (clo : Bool) (ev tb wk fa : Value) (at_ : Int) (A : List Ent) (D : List (Nat × Nat)) (O : Nat → Prop) (k : K3) (w : World) (h : Blk w b 85 (objA cl pr clo T ev tb wk fa at_)) (hT : TabA w T A D O) (hk : k.2.2.size ≤ 4000) (hcl : cl ≠ 1) :
    Calls Tryz.prog 48 #[.pointer (some ⟨b, 0, none⟩), VK k] w (GetP A k w) := by
  have t1 : (cl == 1) = false := by simpa using hcl
  have H := Lib.hid h
  have HT := Lib.hid hT
  obtain ⟨k1, k2, k3⟩ := k
  dsimp only at hk
  clear h hT
  have bb : Below w.heap.size w ((w.alloc (.cells #[.int .i64 k1, .int .i64 k2, .string k3] 30)).alloc (.cells #[.int .i64 0, .int .i64 0, .string ⟨#[]⟩] 30)) := ((Below.refl _ _).alloc (Nat.le_refl _) _).alloc (by simp) _
  have h2 := H.out.below bb H.out.lt
  have kb : Blk ((w.alloc (.cells #[.int .i64 k1, .int .i64 k2, .string k3] 30)).alloc (.cells #[.int .i64 0, .int .i64 0, .string ⟨#[]⟩] 30)) w.heap.size 30 #[.int .i64 k1, .int .i64 k2, .string k3] := (Blk.new w _ _).alloc _
  have rb : Blk ((w.alloc (.cells #[.int .i64 k1, .int .i64 k2, .string k3] 30)).alloc (.cells #[.int .i64 0, .int .i64 0, .string ⟨#[]⟩] 30)) (w.heap.size + 1) 30 #[.int .i64 0, .int .i64 0, .string ⟨#[]⟩] := by
    have := Blk.new (w.alloc (.cells #[.int .i64 k1, .int .i64 k2, .string k3] 30)) 30 #[.int .i64 0, .int .i64 0, .string ⟨#[]⟩]
    rwa [World.size_alloc] at this
  have hi := hindex_any b T cl pr clo ev tb wk fa at_ (k1, k2, k3) _ h2 hk
  have hv : idxV cl (k1, k2, k3) = -1 := if_neg (fun h => hcl h.1)
  rw [hv] at hi
  have HI := Lib.hid hi
  have HB := Lib.hid (And.intro bb (And.intro kb rb))
  clear hi hv bb h2 kb rb
  go_enter Tryz.func48, Tryz.ntmps48
  go_wp2_with (fail)
  refine HI.out.mono ?_
  rintro e w2 ⟨rfl, b2⟩
  obtain ⟨bb, kb, rb⟩ := HB.out
  have b02 := bb.trans (b2.mono bb.size)
  have o2 := H.out.below b02 H.out.lt
  have kb2 := kb.below b2 kb.lt
  have rb2 := rb.below b2 rb.lt
  have o0 : w2.cell? ⟨b, 0, none⟩ = some (.int .i64 cl) := by rw [o2.cell]; rfl
  have o3 : w2.cell? ⟨b, 3, none⟩ = some (.pointer (some ⟨T, 0, none⟩)) := by rw [o2.cell]; rfl
  have q0 : w2.cell? ⟨w.heap.size, 0, none⟩ = some (.int .i64 k1) := by rw [kb2.cell]; rfl
  have q1 : w2.cell? ⟨w.heap.size, 1, none⟩ = some (.int .i64 k2) := by rw [kb2.cell]; rfl
  have q2 : w2.cell? ⟨w.heap.size, 2, none⟩ = some (.string k3) := by rw [kb2.cell]; rfl
  have lo := o2.lt
  have HG := Lib.hid (fun q : Nat => Go.Proofs.YtdeboajjhpecbaaGreatDoor.get_any T A D O (k1, k2, k3) (w2.drewN q) ((HT.out.below b02).upd ((Upd.refl w2 (fun _ => False)).drewN q) (fun _ _ h => h)) hk)
  have HB2 := Lib.hid (And.intro b02 rb2)
  clear o2 kb2 rb2 bb kb rb b2 b02 HI HB
  go_wp2_with (fail)
  refine wp_var0 (fun KV HKV => ?_)
  refine wp_region_till (m := 5) (S := (fun W => W.cell? ⟨b, 3, none⟩ = some (.pointer (some ⟨T, 0, none⟩)) ∧ W.cell? ⟨w.heap.size, 0, none⟩ = some (.int .i64 k1) ∧ W.cell? ⟨w.heap.size, 1, none⟩ = some (.int .i64 k2) ∧ W.cell? ⟨w.heap.size, 2, none⟩ = some (.string k3))) (by kernel_rfl) ?_
  have HG1 := HG.out 1
  have HB3 : Below w.heap.size w (w2.drewN 1) ∧ Blk (w2.drewN 1) (w.heap.size + 1) 30 #[.int .i64 0, .int .i64 0, .string ⟨#[]⟩] := ⟨below_drw HB2.out.1 1, HB2.out.2.drewN 1⟩
  have e3 : w2.drew = w2.drewN 1 := rfl
  rw [e3]
  have S0 : (w2.drewN 1).cell? ⟨b, 3, none⟩ = some (.pointer (some ⟨T, 0, none⟩)) ∧ (w2.drewN 1).cell? ⟨w.heap.size, 0, none⟩ = some (.int .i64 k1) ∧ (w2.drewN 1).cell? ⟨w.heap.size, 1, none⟩ = some (.int .i64 k2) ∧ (w2.drewN 1).cell? ⟨w.heap.size, 2, none⟩ = some (.string k3) := ⟨o3, q0, q1, q2⟩
  have H3 := Lib.hid HB3
  have HG3 := Lib.hid HG1
  clear o0 o3 q0 q1 q2 lo HG HB2 e3 HB3 HG1
  generalize w2.drewN 1 = D at *
  change tillH _ _ _ _ _ _ 12 #[false, false, false, false, false, false, false, false, false, false, false, false] _ _
  refine tillH_takeAny (i := 0) (oi := ?oo1) (v := ?vv1) ?hi1 (by kernel_rfl) (by kernel_rfl) (by kernel_rfl) ?hq1 (by kernel_rfl) ?hy1 (fun _ => S0) ?hh1
  case hi1 => (simp only [List.getElem?_toArray, List.getElem?_cons_succ, List.getElem?_cons_zero]; rfl)
  case hq1 => exact fun _ _ _ h => h
  case hy1 => exact Or.inl ⟨by rfl, by (intro W; go_simp; (try with_reducible rfl))⟩
  (try simp only [Act.put, List.setIfInBounds_toArray, List.set_cons_zero, List.set_cons_succ])
  refine tillH_takeAny (i := 1) (oi := ?oo2) (v := ?vv2) ?hi2 (by kernel_rfl) (by kernel_rfl) (by kernel_rfl) ?hq2 (by kernel_rfl) ?hy2 (fun _ => S0) ?hh2
  case hi2 => (simp only [List.getElem?_toArray, List.getElem?_cons_succ, List.getElem?_cons_zero]; rfl)
  case hq2 => exact fun _ _ _ h => h
  case hy2 => exact Or.inl ⟨by rfl, by (intro W; go_simp; (try with_reducible rfl))⟩
  (try simp only [Act.put, List.setIfInBounds_toArray, List.set_cons_zero, List.set_cons_succ])
  refine tillH_takeAny (i := 2) (oi := ?oo3) (v := ?vv3) ?hi3 (by kernel_rfl) (by kernel_rfl) (by kernel_rfl) ?hq3 (by kernel_rfl) ?hy3 (fun _ => S0) ?hh3
  case hi3 => (simp only [List.getElem?_toArray, List.getElem?_cons_succ, List.getElem?_cons_zero]; rfl)
  case hq3 => exact fun _ _ _ h => h
  case hy3 => exact Or.inl ⟨by rfl, by (intro W; go_simp; (try with_reducible rfl))⟩
  (try simp only [Act.put, List.setIfInBounds_toArray, List.set_cons_zero, List.set_cons_succ])
  refine tillH_take (i := 3) (oi := ?oo4) (v := ?vv4) ?hi4 (by kernel_rfl) (by kernel_rfl) (by kernel_rfl) ?hq4 (by kernel_rfl) (by kernel_rfl) (by kernel_rfl) ?hy4 S0 ?hh4
  case hi4 => (simp only [List.getElem?_toArray, List.getElem?_cons_succ, List.getElem?_cons_zero]; rfl)
  case hq4 => exact fun _ _ _ h => h
  case hy4 => exact Or.inl ⟨by rfl, by (intro W hSw; (try obtain ⟨s0, s1, s2, s3⟩ := hSw); go_simp; (try with_reducible rfl))⟩
  (try simp only [Act.put, List.setIfInBounds_toArray, List.set_cons_zero, List.set_cons_succ])
  refine tillH_take (i := 4) (oi := ?oo5) (v := ?vv5) ?hi5 (by kernel_rfl) (by kernel_rfl) (by kernel_rfl) ?hq5 (by kernel_rfl) (by kernel_rfl) (by kernel_rfl) ?hy5 S0 ?hh5
  case hi5 => (simp only [List.getElem?_toArray, List.getElem?_cons_succ, List.getElem?_cons_zero]; rfl)
  case hq5 => exact fun _ _ _ h => h
  case hy5 => exact Or.inl ⟨by rfl, by (intro W hSw; (try obtain ⟨s0, s1, s2, s3⟩ := hSw); go_simp; (try with_reducible rfl))⟩
  (try simp only [Act.put, List.setIfInBounds_toArray, List.set_cons_zero, List.set_cons_succ])
  refine tillH_next (rs := [5]) (by kernel_rfl) (by simp) ?_
  refine NextH.cons rfl (fun K hK => ?_) NextH.nil
  go_simp
  refine HG3.out.mono ?_
  rintro e w5 ⟨b5, hor⟩
  have rb5 := H3.out.2.below b5 H3.out.2.lt
  have bel5 := H3.out.1.trans (b5.mono H3.out.1.size)
  have z0 := rb5.frozen 0
  have z1 := rb5.frozen 1
  have z2 := rb5.frozen 2
  have y0 : w5.cell? ⟨w.heap.size + 1, 0, none⟩ = some (.int .i64 0) := by rw [rb5.cell]; rfl
  have y1 : w5.cell? ⟨w.heap.size + 1, 1, none⟩ = some (.int .i64 0) := by rw [rb5.cell]; rfl
  have y2 : w5.cell? ⟨w.heap.size + 1, 2, none⟩ = some (.string ⟨#[]⟩) := by rw [rb5.cell]; rfl
  have lr := rb5.lt
  have HR5 := Lib.hid (And.intro rb5 bel5)
  clear rb5 bel5 S0
  have HGP : Hid (∃ gv gf gb, e = .returned (.tuple #[VK gv, .int .i64 gf, .bool gb]) ∧ ((∃ x ∈ A, isKey (k1, k2, k3) x = true ∧ gv = x.val ∧ gf = x.flags ∧ gb = true) ∨ ((∀ x ∈ A, isKey (k1, k2, k3) x = false) ∧ gv = (0, 0, ⟨#[]⟩) ∧ gf = 0 ∧ gb = false))) := Lib.hid (by rcases hor with ⟨x, hx, hk, rfl⟩ | ⟨hn, rfl⟩; exact ⟨x.val, x.flags, true, rfl, .inl ⟨x, hx, hk, rfl, rfl, rfl⟩⟩; exact ⟨(0, 0, ⟨#[]⟩), 0, false, rfl, .inr ⟨hn, rfl, rfl, rfl⟩⟩)
  clear hor
  obtain ⟨gv, gf, gb, rfl, hgp⟩ := HGP.out
  obtain ⟨v1, v2, v3⟩ := gv
  have HP := Lib.hid hgp
  clear hgp HGP
  refine hK.out _ _ (fun h => absurd h (by simp)) ?_
  clear hK K
  (try simp only [Act.put, List.setIfInBounds_toArray, List.set_cons_zero, List.set_cons_succ])
  refine tillH_takeAny (i := 6) (oi := ?oo6) (v := ?vv6) ?hi6 (by kernel_rfl) (by kernel_rfl) (by kernel_rfl) ?hq6 (by kernel_rfl) ?hy6 (fun h => absurd h (by simp)) ?hh6
  case hi6 => (simp only [List.getElem?_toArray, List.getElem?_cons_succ, List.getElem?_cons_zero]; rfl)
  case hq6 => exact fun _ _ _ h => h
  case hy6 => exact Or.inl ⟨by rfl, by (intro W; go_simp; (try with_reducible rfl))⟩
  (try simp only [Act.put, List.setIfInBounds_toArray, List.set_cons_zero, List.set_cons_succ])
  refine tillH_takeAny (i := 7) (oi := ?oo7) (v := ?vv7) ?hi7 (by kernel_rfl) (by kernel_rfl) (by kernel_rfl) ?hq7 (by kernel_rfl) ?hy7 (fun h => absurd h (by simp)) ?hh7
  case hi7 => (simp only [List.getElem?_toArray, List.getElem?_cons_succ, List.getElem?_cons_zero]; rfl)
  case hq7 => exact fun _ _ _ h => h
  case hy7 => exact Or.inl ⟨by rfl, by (intro W; go_simp; (try with_reducible rfl))⟩
  (try simp only [Act.put, List.setIfInBounds_toArray, List.set_cons_zero, List.set_cons_succ])
  refine tillH_takeAny (i := 8) (oi := ?oo8) (v := ?vv8) ?hi8 (by kernel_rfl) (by kernel_rfl) (by kernel_rfl) ?hq8 (by kernel_rfl) ?hy8 (fun h => absurd h (by simp)) ?hh8
  case hi8 => (simp only [List.getElem?_toArray, List.getElem?_cons_succ, List.getElem?_cons_zero]; rfl)
  case hq8 => exact fun _ _ _ h => h
  case hy8 => exact Or.inl ⟨by rfl, by (intro W; go_simp; (try with_reducible rfl))⟩
  (try simp only [Act.put, List.setIfInBounds_toArray, List.set_cons_zero, List.set_cons_succ])
  refine tillH_next (rs := [9]) (by kernel_rfl) (by simp) ?_
  refine NextH.cons rfl (fun K hK => ?_) NextH.nil
  go_simp
  refine hK.out _ _ (fun h => absurd h (by simp)) ?_
  clear hK K
  (try simp only [Act.put, List.setIfInBounds_toArray, List.set_cons_zero, List.set_cons_succ])
  refine tillH_takeAny (i := 10) (oi := ?oo9) (v := ?vv9) ?hi9 (by kernel_rfl) (by kernel_rfl) (by kernel_rfl) ?hq9 (by kernel_rfl) ?hy9 (fun h => absurd h (by simp)) ?hh9
  case hi9 => (simp only [List.getElem?_toArray, List.getElem?_cons_succ, List.getElem?_cons_zero]; rfl)
  case hq9 => exact fun _ _ _ h => h
  case hy9 => exact Or.inl ⟨by rfl, by (intro W; go_simp; (try with_reducible rfl))⟩
  (try simp only [Act.put, List.setIfInBounds_toArray, List.set_cons_zero, List.set_cons_succ])
  refine tillH_takeAny (i := 11) (oi := ?oo10) (v := ?vv10) ?hi10 (by kernel_rfl) (by kernel_rfl) (by kernel_rfl) ?hq10 (by kernel_rfl) ?hy10 (fun h => absurd h (by simp)) ?hh10
  case hi10 => (simp only [List.getElem?_toArray, List.getElem?_cons_succ, List.getElem?_cons_zero]; rfl)
  case hq10 => exact fun _ _ _ h => h
  case hy10 => exact Or.inl ⟨by rfl, by (intro W; go_simp; (try with_reducible rfl))⟩
  (try simp only [Act.put, List.setIfInBounds_toArray, List.set_cons_zero, List.set_cons_succ])
  refine tillH_done (by kernel_rfl) ?_ _
  refine HKV.out _ _ ?_
  go_wp2_with (fail)
  refine bodyPost_ret (v := .tuple #[VS v1 v2 v3, .int .i64 gf, .bool gb]) (by simp [results, Tryz.results48, go_sem, y0, y1, y2, z0, z1, z2, lr]) rfl ⟨?_, ?_⟩
  · exact ((HR5.out.2.setCell (p := ⟨w.heap.size + 1, 0, none⟩) (by simp) _).setCell (p := ⟨w.heap.size + 1, 1, none⟩) (by simp) _).setCell (p := ⟨w.heap.size + 1, 2, none⟩) (by simp) _
  · rcases HP.out with ⟨x, hx, hkx, h1, rfl, rfl⟩ | ⟨hn, h1, rfl, rfl⟩
    · exact .inl ⟨x, hx, hkx, by rw [← h1]⟩
    · obtain ⟨rfl, rfl, rfl⟩ : v1 = 0 ∧ v2 = 0 ∧ v3 = ⟨#[]⟩ := by simpa using h1
      exact .inr ⟨hn, rfl⟩
end Go.Proofs.YtdeboajjhpecbaaGreatDoor.Hp

/- The heap: digits, and values of strings of digits. -/
set_option linter.unusedVariables false
set_option linter.unusedSimpArgs false
namespace Go.Proofs.YtdeboajjhpecbaaGreatDoor.Hp
open Go.RowKit Go.Proofs.YtdeboajjhpecbaaGreatDoor Go.Shelf

theorem conv_one (W : World) (c : Int) : (convert 107 9 (.slice (some ⟨W.heap.size, 0, none⟩) 1 1)).run Tryz.prog (W.alloc (.cells #[.int .u8 c] 5)) = .ok (.string ⟨#[UInt8.ofNat c.toNat]⟩) (W.alloc (.cells #[.int .u8 c] 5)) := by
  have hc2 : ∀ i, i < 1 → (W.alloc (.cells #[.int .u8 c] 5)).cell? ⟨W.heap.size, 0 + i, none⟩ = some (.int .u8 ([c].getD i 0)) := by
    intro i hi
    obtain rfl : i = 0 := by omega
    rw [Lib.cell_of_heap (heap_alloc_new W _)]
    rfl
  rw [run_convert_bytes_arg _ 107 5 Tryz.underlying107 Tryz.underlying5 W.heap.size 0 1 1 [c] rfl hc2 9 Tryz.underlying9]
  rfl
theorem dig_step (n : Nat) (h : n < 12000) (h10 : 10 ≤ n) : Tx.decB n = Tx.decB (n / 10) ++ Tx.decB (n % 10) := by
  have e0 : Tx.decB (n % 10) = [Tx.dg n] := by
    rcases Tx.decB_cases (n % 10) (by omega) with ⟨_, e⟩ | ⟨h1, _⟩ | ⟨h1, _⟩ | ⟨h1, _⟩ | ⟨h1, _⟩
    · rw [e]; unfold Tx.dg; rw [Nat.mod_mod]
    all_goals omega
  rw [e0]
  have e1 : n / 10 / 10 = n / 100 := by omega
  have e2 : n / 10 / 100 = n / 1000 := by omega
  have e3 : n / 10 / 1000 = n / 10000 := by omega
  rcases Tx.decB_cases n h with ⟨h1, e⟩ | ⟨h1, h2, e⟩ | ⟨h1, h2, e⟩ | ⟨h1, h2, e⟩ | ⟨h1, e⟩ <;>
    rcases Tx.decB_cases (n / 10) (by omega) with ⟨g1, f⟩ | ⟨g1, g2, f⟩ | ⟨g1, g2, f⟩ | ⟨g1, g2, f⟩ | ⟨g1, f⟩ <;> first | omega | (rw [e, f]; (try simp only [e1, e2, e3]); rfl)
theorem dig_small (n : Nat) (h : n < 10) : Tx.decB n = [UInt8.ofNat (48 + n)] := by
  rcases Tx.decB_cases n (by omega) with ⟨_, e⟩ | ⟨h1, _⟩ | ⟨h1, _⟩ | ⟨h1, _⟩ | ⟨h1, _⟩
  · rw [e]; unfold Tx.dg; rw [Nat.mod_eq_of_lt h]
  all_goals omega
theorem decB_len (n : Nat) (h : n < 12000) : (Tx.decB n).length ≤ 5 := by
  rcases Tx.decB_cases n h with ⟨_, e⟩ | ⟨_, _, e⟩ | ⟨_, _, e⟩ | ⟨_, _, e⟩ | ⟨_, e⟩ <;> rw [e] <;> simp
/-- The key of a string of ASCII bytes. -/
def keyL (l : List UInt8) : K3 := (7, 0, ⟨(Tx.ofB ⟨l.toArray⟩).toArray⟩)
theorem keyL_any (l : List UInt8) (hl : l.length ≤ 1000) (w : World) : Calls Tryz.prog 12 #[.string ⟨l.toArray⟩] w fun e w' => e = .returned (VK (keyL l)) ∧ Below w.heap.size w w' :=
  Tx.val_any ⟨l.toArray⟩ w (by show l.toArray.size ≤ _; simp; omega)
theorem keyL_size (l : List UInt8) (h : ∀ c, c ∈ l → c.toNat < 128) (hl : l.length ≤ 1000) : (keyL l).2.2.size ≤ 4000 := by
  show (Tx.ofB ⟨l.toArray⟩).toArray.size ≤ 4000
  rw [Tx.ofB_ascii l h, List.size_toArray, Tx.unitsB_length, List.length_map]
  omega
theorem keyL_idx (l : List UInt8) (h : ∀ c, c ∈ l → c.toNat < 128) : Tx.indexOf (keyL l).2.2 = Tx.idxL (l.map (·.toNat)) := Tx.indexOf_of_ascii l h
end Go.Proofs.YtdeboajjhpecbaaGreatDoor.Hp

/- The heap: a range over an empty table; Keys of the example. -/
set_option linter.unusedVariables false
set_option linter.unusedSimpArgs false
namespace Go.Proofs.YtdeboajjhpecbaaGreatDoor.Hp
open Go.RowKit Go.Proofs.YtdeboajjhpecbaaGreatDoor Go.Shelf

theorem Upd.join {w W W' : World} {O : Nat → Prop} (h : Upd w W O) (u : Upd W W' (fun k => O k ∨ w.heap.size ≤ k)) : Upd w W' O :=
  ⟨u.os.trans h.os, u.tape.trans h.tape, u.output.trans h.output, Nat.le_trans h.size u.size, fun k hk hn => (u.block k (Nat.lt_of_lt_of_le hk h.size) (fun e => e.elim hn (fun e => by omega))).trans (h.block k hk hn)⟩
/-- The marks are taken, one by one: what holds whatever stands in their blocks. -/
theorem marksOf {F : Fence} {n : Nat} {P : Program} {fn : Func} {tmps : Array Value} {R : Ending → World → Prop} {I : World → Prop} (S : List Nat) (hI : ∀ W D o, I W → D ∈ S → I (W.putObj D o)) (hret : ∀ W, I W → LeavesIn F n P fn tmps R [] .returning W) :
    ∀ (Ds : List Nat) (W : World), (∀ D ∈ Ds, D ∈ S) → Ds.Nodup → (∀ D ∈ Ds, W.heap[D]? = some (.deferred (some []))) → I W → LeavesInM F n P fn tmps R (Ds.map markD) .returning W := by
  intro Ds
  induction Ds with
  | nil => exact fun W _ _ _ h => hret W h
  | cons D Ds ih =>
    intro W hS hn hd h
    have hD := hd D (List.mem_cons_self ..)
    refine ⟨by simp, .inl ⟨D, _, rfl, run_takeDeferred hD, ih _ (fun E hE => hS E (List.mem_cons_of_mem _ hE)) (List.nodup_cons.1 hn).2 (fun E hE => ?_) (hI _ _ _ h (hS D (List.mem_cons_self ..)))⟩⟩
    exact (World.putObj_heap_other (by rintro rfl; exact (List.nodup_cons.1 hn).1 hE)).trans (hd E (List.mem_cons_of_mem _ hE))
theorem infoVal : (Tryz.prog.info? 30).map (fun i => (i.zero, i.size, i.bytes)) = some (some (.agg #[.int .i64 0, .int .i64 0, .string ⟨#[]⟩]), 3, 32) := by kernel_rfl
/-- Values in a row. -/
def valsC (L : List K3) : List Value := L.flatMap fun k => [.int .i64 k.1, .int .i64 k.2.1, .string k.2.2]
theorem valsC_append (L M : List K3) : valsC (L ++ M) = valsC L ++ valsC M := by simp [valsC]
theorem valsC_get (L : List K3) (i j : Nat) (k : K3) (hk : L[i]? = some k) (hj : j < 3) : (valsC L)[i * 3 + j]? = ([.int .i64 k.1, .int .i64 k.2.1, .string k.2.2] : List Value)[j]? := by
  induction L generalizing i with
  | nil => simp at hk
  | cons d L ih =>
    have hc : valsC (d :: L) = .int .i64 d.1 :: .int .i64 d.2.1 :: .string d.2.2 :: valsC L := by simp [valsC]
    cases i with
    | zero =>
      simp at hk; subst hk
      rw [hc]
      match j, hj with
      | 0, _ => rfl
      | 1, _ => rfl
      | 2, _ => rfl
    | succ i =>
      rw [hc, show (i + 1) * 3 + j = i * 3 + j + 1 + 1 + 1 by omega]
      simp only [List.getElem?_cons_succ]
      exact ih i (by simpa using hk)
/-- What the package's variable 'length' holds. -/
def lenK : K3 := (7, 0, ⟨#[0, 108, 0, 101, 0, 110, 0, 103, 0, 116, 0, 104]⟩)
def Lg (w : World) : Prop := w.cell? ⟨0, 0, none⟩ = some (.int .i64 lenK.1) ∧ w.cell? ⟨0, 1, none⟩ = some (.int .i64 lenK.2.1) ∧ w.cell? ⟨0, 2, none⟩ = some (.string lenK.2.2)
theorem Lg.lt {w : World} (h : Lg w) : 0 < w.heap.size := World.block_lt_of_cell? w ⟨0, 0, none⟩ h.1
theorem Lg.upd {w w' : World} {M : Nat → Prop} (h : Lg w) (u : Upd w w' M) (hM : ¬ M 0) : Lg w' := ⟨u.cell h.1 hM, u.cell h.2.1 hM, u.cell h.2.2 hM⟩
theorem Lg.below {w w' : World} (h : Lg w) (b : Below w.heap.size w w') : Lg w' := h.upd (M := fun _ => False) (Upd.of_below_all b) (fun h => h)
end Go.Proofs.YtdeboajjhpecbaaGreatDoor.Hp

/- The heap: Keys of the example. -/
set_option linter.unusedVariables false
set_option linter.unusedSimpArgs false
namespace Go.Proofs.YtdeboajjhpecbaaGreatDoor.Hp
open Go.RowKit Go.Proofs.YtdeboajjhpecbaaGreatDoor Go.Shelf
attribute [local go_sem] Oper.semAt_some

def keyD (j : Nat) : K3 := keyL (Tx.decB j)
/-- Keys on its way. -/
structure KI (w W : World) (p b : Nat) (L : List K3) (lv : Value) : Prop where
  ob : Blk W p 70 #[.pointer (some ⟨b, 0, none⟩)]
  lb : Blk W (p + 1) 39 #[lv]
  row : W.ownsRow (p + 2) 30 3 lv L.length (valsC L)
theorem KI.upd {w W W' : World} {p b : Nat} {L : List K3} {lv : Value} {M : Nat → Prop} (h : KI w W p b L lv) (u : Upd W W' M) (h0 : ¬ M p) (h1 : ¬ M (p + 1)) (h2 : ∀ k, lv.ownBlock = some k → ¬ M k) : KI w W' p b L lv := ⟨u.blk h.ob h0, u.blk h.lb h1, u.own h.row h2⟩
theorem KI.below {w W W' : World} {p b : Nat} {L : List K3} {lv : Value} (h : KI w W p b L lv) (u : Below W.heap.size W W') : KI w W' p b L lv := h.upd (M := fun _ => False) (Upd.of_below_all u) (fun h => h) (fun h => h) (fun _ _ h => h)
/-- One more behind the others: what the append and the store leave. -/
theorem KI.more {w W w3 : World} {p b g cap : Nat} {L : List K3} {lv : Value} (k : K3) (h : KI w W p b L lv) (hown : w3.ownsRow (p + 2) 30 3 (.slice (some ⟨g, 0, none⟩) (L.length + 1) cap) (L.length + 1) (valsC L ++ [.int .i64 k.1, .int .i64 k.2.1, .string k.2.2]))
    (hgrow : W.grownBy w3 lv.ownBlock) : KI w (w3.setCell ⟨p + 1, 0, none⟩ (.slice (some ⟨g, 0, none⟩) (L.length + 1) cap)) p b (L ++ [k]) (.slice (some ⟨g, 0, none⟩) (L.length + 1) cap) := by
  have hn1 : lv.ownBlock ≠ some p := fun e => by have := (h.row.lt p e).1; omega
  have hn2 : lv.ownBlock ≠ some (p + 1) := fun e => by have := (h.row.lt _ e).1; omega
  have ob3 := h.ob.grown hgrow (fun e => hn1 e.symm)
  have lb3 := h.lb.grown hgrow (fun e => hn2 e.symm)
  refine ⟨ob3.far (by show p ≠ p + 1; omega) _, lb3.set_ 0 _, ?_⟩
  rw [List.length_append, valsC_append]
  exact own_set hown lb3 (by decide) _ _
theorem KI.more_upd {w W w3 : World} {p b g cap n : Nat} {L : List K3} {lv : Value} (h : KI w W p b L lv) (hgrow : W.grownBy w3 lv.ownBlock) : Upd W (w3.setCell ⟨p + 1, 0, none⟩ (.slice (some ⟨g, 0, none⟩) n cap)) (fun k => p ≤ k) :=
  ((Upd.refl W _).grown hgrow (fun k e => by have := (h.row.lt k e).1; omega)).set (p + 1) 0 _ (by omega)

/-- What Keys of the example comes to. -/
def KeyP (p T : Nat) (O : Nat → Prop) (w : World) (e : Ending) (w' : World) : Prop :=
  ∃ g cap O', e = .returned (.slice (some ⟨g, 0, none⟩) 3 cap) ∧ w'.ownsRow (p + 2) 30 3 (.slice (some ⟨g, 0, none⟩) 3 cap) 3 (valsC [keyD 0, keyD 1, lenK]) ∧ TabA w' T [] [] O' ∧ Upd w w' O
end Go.Proofs.YtdeboajjhpecbaaGreatDoor.Hp

/- The heap: the example (fit). -/
set_option linter.unusedVariables false
set_option linter.unusedSimpArgs false
namespace Go.Proofs.YtdeboajjhpecbaaGreatDoor.Hp
open Go.RowKit Go.Proofs.YtdeboajjhpecbaaGreatDoor Go.Shelf Go.Sort

theorem keyL_len : keyL [108, 101, 110, 103, 116, 104] = lenK := by
  unfold keyL lenK
  rw [Tx.ofB_ascii _ (by decide)]
  rfl
theorem keyD_1 : keyD 1 = keyL [49] := by
  unfold keyD
  rw [dig_small 1 (by decide)]
  rfl
theorem infoObj : ∃ i, Tryz.prog.info? 85 = some i := Option.isSome_iff_exists.1 (by kernel_rfl)
theorem obj_same (b : Nat) (w : World) : (binOp .eql tObj (.pointer (some ⟨b, 0, none⟩)) (.pointer (some ⟨b, 0, none⟩))).run Tryz.prog w = .ok (.bool true) w := by
  obtain ⟨i, hi⟩ := infoObj
  exact run_eql_ptr_same w ⟨b, 0, none⟩ Tryz.underlying70 hi
theorem objP_in {cs : List Cell} {i b : Nat} (h : cs[i]? = some (some (tObj, b), false)) : objP cs ((i : Int) + 1) = .pointer (some ⟨b, 0, none⟩) := by
  obtain ⟨hl, he⟩ := List.getElem?_eq_some_iff.1 h
  unfold objP
  rw [if_pos ⟨by omega, by omega⟩, show ((i : Int) + 1 - 1).toNat = i by omega, List.getD_eq_getElem?_getD, h]
  rfl
theorem objP_out {cs : List Cell} {r : Int} (h : r < 1 ∨ (cs.length : Int) < r) : objP cs r = .pointer none := by
  unfold objP
  rw [if_neg (by omega)]
end Go.Proofs.YtdeboajjhpecbaaGreatDoor.Hp

/- HeapRuns: words of the chapter's other laws that serve here. -/
set_option linter.unusedVariables false
set_option linter.unusedSimpArgs false
namespace Go.Proofs.YtdeboajjhpecbaaGreatDoor.Hp
open Go.RowKit Go.Proofs.YtdeboajjhpecbaaGreatDoor Go.Shelf Go.Sort
attribute [local go_sem] Oper.semAt_some

theorem norm_mod (n m : Int) (hm : 0 < m) (h9 : m < 1000000000) : ∃ N : Nat, (wrap64 (n.tmod m + m)).tmod m = (N : Int) ∧ (N : Int) < m := by
  have h1 := Int.tmod_lt_of_pos n hm
  have h2 := Int.lt_tmod_of_pos n hm
  rw [IntWalk.wrap64_in _ (by omega)]
  rw [Int.tmod_eq_emod_of_nonneg (by omega)]
  have h3 := Int.emod_nonneg (n.tmod m + m) (by omega : m ≠ 0)
  have h4 := Int.emod_lt_of_pos (n.tmod m + m) hm
  exact ⟨((n.tmod m + m) % m).toNat, by omega, by omega⟩
theorem and_to (x : Int) (m : Nat) (hm : m < 1000) : ∃ j : Nat, j ≤ m ∧ bits .and .i64 x (m : Int) = (j : Int) := by
  have h : ((BitVec.ofInt 64 x) &&& (BitVec.ofInt 64 (m : Int))).toNat ≤ m := by
    rw [BitVec.toNat_and]
    refine Nat.le_trans Nat.and_le_right ?_
    rw [BitVec.ofInt_natCast, BitVec.toNat_ofNat]
    exact Nat.mod_le _ _
  refine ⟨((BitVec.ofInt 64 x) &&& (BitVec.ofInt 64 (m : Int))).toNat, h, ?_⟩
  show IntKind.i64.wrap ((((BitVec.ofInt 64 x) &&& (BitVec.ofInt 64 (m : Int))).toNat : Nat) : Int) = _
  exact IntWalk.i64_in _ (by omega)
theorem own_cap {w : World} {B size n cap g : Nat} {t : TypeId} {xs : List Value} (h : w.ownsRow B t size (.slice (some ⟨g, 0, none⟩) n cap) n xs) : n ≤ cap ∧ cap ≤ maxLen := by
  rcases h.2 with ⟨h', _⟩ | ⟨g', cap', cur, h', hb, hg, hnc, hcm, hcs, htake⟩
  · simp at h'
  · simp only [Value.slice.injEq, Option.some.injEq, Addr.mk.injEq, and_true, true_and] at h'
    obtain ⟨rfl, rfl⟩ := h'
    exact ⟨hnc, hcm⟩
theorem still_tail {P : Program} {id : Nat} {Q : Exit → Act → World → Prop} {a : Act} {w : World} {l : List Oper} (n : Nat) (hm : P.follows .mixedOrders = true) (hB : Region.lexTailB .any l.toArray n = true)
    (h : ∀ W, W = w.drewN 1 → wpStill P l.toArray W (fun a' => wpList P l.toArray Q (l.drop n) a' W) (l.take n) a) : (Code.region id l.toArray true).wp P Q a w := wp_region_still_tail n hm hB (h _ rfl)
theorem valsC_take (L : List K3) (n : Nat) : (valsC L).take (n * 3) = valsC (L.take n) := by
  induction n generalizing L with
  | zero => simp [valsC]
  | succ n ih =>
    cases L with
    | nil => simp [valsC]
    | cons k L =>
      have h1 : valsC (k :: L) = .int .i64 k.1 :: .int .i64 k.2.1 :: .string k.2.2 :: valsC L := by simp [valsC]
      rw [h1, show (n + 1) * 3 = n * 3 + 1 + 1 + 1 by omega, List.take_succ_cons, List.take_succ_cons, List.take_succ_cons, ih, List.take_succ_cons]
      simp [valsC]
def E0 : K3 := (10, 0, ⟨#[]⟩)
def lenAt (b : Nat) (w : World) : Nat := match w.cell? ⟨b, 4, none⟩ with
  | some (.slice _ n _) => n
  | _ => 0
theorem lenAt_of {b n : Nat} {w : World} {a : Option Addr} {cap : Nat} (h : w.cell? ⟨b, 4, none⟩ = some (.slice a n cap)) : lenAt b w = n := by unfold lenAt; rw [h]
theorem valsC_length (L : List K3) : (valsC L).length = L.length * 3 := by
  induction L with
  | nil => rfl
  | cons k L ih =>
    have h1 : valsC (k :: L) = .int .i64 k.1 :: .int .i64 k.2.1 :: .string k.2.2 :: valsC L := by simp [valsC]
    rw [h1]; simp [ih]; omega
theorem own_elem {W : World} {B g n cap : Nat} {L : List K3} (h : W.ownsRow B 30 3 (.slice (some ⟨g, 0, none⟩) n cap) L.length (valsC L)) (i : Nat) (k : K3) (hk : L[i]? = some k) (j : Nat) (hj : j < 3) : W.cell? ⟨g, i * 3 + j, none⟩ = ([.int .i64 k.1, .int .i64 k.2.1, .string k.2.2] : List Value)[j]? := by
  have hi : i < L.length := (List.getElem?_eq_some_iff.1 hk).1
  obtain ⟨A, c, hA, _⟩ := own_shape h
  have hn : n = L.length := by injection hA
  rw [hn] at h
  rw [h.cellAt (i * 3 + j) (by omega), valsC_get L i j k hk hj]
theorem lenK_idx : idxV 1 lenK = -1 := by
  unfold idxV
  rw [if_pos ⟨rfl, rfl⟩, ← keyL_len, keyL_idx _ (by decide)]
  rfl
theorem valsC_set (L : List K3) (i : Nat) (v : K3) : (((valsC L).set (i * 3) (.int .i64 v.1)).set (i * 3 + 1) (.int .i64 v.2.1)).set (i * 3 + 2) (.string v.2.2) = if i < L.length then valsC (L.set i v) else (((valsC L).set (i * 3) (.int .i64 v.1)).set (i * 3 + 1) (.int .i64 v.2.1)).set (i * 3 + 2) (.string v.2.2) := by
  split
  · rename_i h
    induction L generalizing i with
    | nil => simp at h
    | cons k L ih =>
      have h1 : ∀ (k : K3) (L : List K3), valsC (k :: L) = .int .i64 k.1 :: .int .i64 k.2.1 :: .string k.2.2 :: valsC L := fun k L => by simp [valsC]
      cases i with
      | zero => simp [h1]
      | succ i =>
        have := ih i (by simpa using h)
        have s3 : ∀ (x y z u : Value) (l : List Value) (a : Nat), (x :: y :: z :: l).set (a + 3) u = x :: y :: z :: l.set a u := fun _ _ _ _ _ _ => rfl
        rw [h1, show (i + 1) * 3 = i * 3 + 3 by omega, show i * 3 + 3 + 1 = i * 3 + 1 + 3 by omega, show i * 3 + 3 + 2 = i * 3 + 2 + 3 by omega, s3, s3, s3, this, List.set_cons_succ, h1]
  · rfl
theorem keyD_idx (i : Nat) (hi : i < 1000) : idxV 1 (keyD i) = (i : Int) := by
  unfold idxV
  rw [if_pos ⟨rfl, rfl⟩]
  show Tx.indexOf (keyL (Tx.decB i)).2.2 = _
  rw [keyL_idx _ (Tx.decB_ascii i (by omega)), Tx.idxL_dec i (by omega), if_neg (by omega)]
theorem keyD_size (i : Nat) (hi : i < 1000) : (keyD i).2.2.size ≤ 4000 := keyL_size _ (Tx.decB_ascii i (by omega)) (by have := decB_len i (by omega); omega)
def Z0 : K3 := (0, 0, ⟨#[]⟩)
theorem valsC_setK (L : List K3) (i : Nat) (x : K3) (k : Int) (hx : L[i]? = some x) : (valsC L).set (i * 3) (.int .i64 k) = valsC (L.set i (k, x.2.1, x.2.2)) := by
  induction L generalizing i with
  | nil => simp at hx
  | cons d L ih =>
    have h1 : ∀ (k : K3) (L : List K3), valsC (k :: L) = .int .i64 k.1 :: .int .i64 k.2.1 :: .string k.2.2 :: valsC L := fun k L => by simp [valsC]
    cases i with
    | zero => simp at hx; subst hx; simp [h1]
    | succ i =>
      have s3 : ∀ (x y z u : Value) (l : List Value) (a : Nat), (x :: y :: z :: l).set (a + 3) u = x :: y :: z :: l.set a u := fun _ _ _ _ _ _ => rfl
      rw [h1, show (i + 1) * 3 = i * 3 + 3 by omega, s3, ih i (by simpa using hx), List.set_cons_succ, h1]
theorem made_vals (n : Nat) : (madeCells (Value.agg #[.int .i64 0, .int .i64 0, .string ⟨#[]⟩]).cells (n * 3)).toList = valsC (List.replicate n Z0) := by
  apply List.ext_getElem?
  intro j
  by_cases hj : j < n * 3
  · have h := valsC_get (List.replicate n Z0) (j / 3) (j % 3) Z0 (by rw [List.getElem?_replicate, if_pos (by omega)]) (Nat.mod_lt _ (by decide))
    rw [show j / 3 * 3 + j % 3 = j by omega] at h
    rw [h]
    have h3 : j % 3 = 0 ∨ j % 3 = 1 ∨ j % 3 = 2 := by omega
    rcases h3 with e | e | e <;> simp [madeCells, hj, e, Value.cells, Z0]
  · have : (valsC (List.replicate n Z0)).length ≤ j := by rw [valsC_length]; simp; omega
    rw [List.getElem?_eq_none this]
    simp [madeCells]; omega
theorem vsymbol_any (r : Int) (w : World) : Calls Tryz.prog 29 #[.int .i64 r] w (Ret (VS 8 r ⟨#[]⟩) w) := by
  go_enter Tryz.func29, Tryz.ntmps29
  go_wp2
  exact bodyPost_ret (v := VS 8 r ⟨#[]⟩) (by simp [results, Tryz.results29, go_sem]) rfl ⟨rfl, (Below.refl _ _).alloc (Nat.le_refl _) _⟩
end Go.Proofs.YtdeboajjhpecbaaGreatDoor.Hp
