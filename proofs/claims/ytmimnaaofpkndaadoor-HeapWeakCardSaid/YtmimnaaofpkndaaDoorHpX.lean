/- The heap: environments and symbols. -/
import Derived.Test.YtmimnaaofpkndaaDoorHpW
import Derived.Test.YtmimnaaofpkndaaDoorOrdC
set_option linter.unusedVariables false
set_option linter.unusedSimpArgs false
namespace Go.Proofs.YtmimnaaofpkndaaDoor.Hp
open Go.RowKit Go.Proofs.YtmimnaaofpkndaaDoor Go.Shelf
attribute [local go_sem] Oper.semAt_some

theorem getV_env (cs : List Cell) (i b : Nat) (h : cs[i]? = some (some (tEnv, b), false)) : getV cs ((i : Int) + 1) = .iface tEnv (.pointer (some ⟨b, 0, none⟩)) := by
  have hi : i < cs.length := (List.getElem?_eq_some_iff.1 h).1
  unfold getV
  rw [if_pos ⟨by omega, by omega⟩, show ((i : Int) + 1 - 1).toNat = i by omega, List.getD_eq_getElem?_getD, h]
  rfl
theorem isEnv (v : Value) (w : World) : (Instr.typeAssert (.iface tEnv v) 90 tEnv true).run Tryd.prog w = .ok (.tuple #[v, .bool true]) w := by kernel_rfl
set_option maxHeartbeats 1000000 in
theorem env_any {w : World} {H A B : Nat} {cv fv rv : Value} {cs : List Cell} {fr ro : List Int} {live : Int} (i b : Nat) (h : Hx w H A B cv fv rv cs fr ro live) (hl : cs.length ≤ 100000000) (hb : cs[i]? = some (some (tEnv, b), false)) :
    Calls Tryd.prog 22 #[.pointer (some ⟨H, 0, none⟩), .int .i64 ((i : Int) + 1)] w fun e w' => e = .returned (.pointer (some ⟨b, 0, none⟩)) ∧ ∃ q, w' = w.drewN q := by
  have y0 : w.cell? ⟨H, 0, none⟩ = some (.pointer (some ⟨A, 0, none⟩)) := by rw [h.hb.cell]; rfl
  have hg := getV_env cs i b hb
  have HX := Lib.hid h
  clear h hb
  obtain ⟨r, hr⟩ : ∃ r : Int, (i : Int) + 1 = r := ⟨_, rfl⟩
  rw [hr] at hg ⊢
  clear hr
  go_enter Tryd.func22, Tryd.ntmps22
  go_wp2_with (fail)
  refine (get_any r HX.out.ar hl).mono ?_
  rintro e w1 ⟨rfl, q, rfl⟩
  rw [hg]
  have ha := isEnv (.pointer (some ⟨b, 0, none⟩)) (w.drewN q)
  go_wp2
  go_ret
  exact ⟨rfl, q, rfl⟩
def Z0 : K3 := (0, 0, ⟨#[]⟩)
/-- A row whose first i places are Empty. -/
def rowZ (n i : Nat) : List K3 := List.replicate i E0 ++ List.replicate (n - i) Z0
theorem rowZ_len {n i : Nat} (h : i ≤ n) : (rowZ n i).length = n := by simp [rowZ]; omega
theorem rowZ_at {n i : Nat} (h : i < n) : (rowZ n i)[i]? = some Z0 := by
  unfold rowZ
  rw [List.getElem?_append_right (by simp), List.length_replicate, Nat.sub_self, List.getElem?_replicate, if_pos (by omega)]
theorem rowZ_set {n i : Nat} (h : i < n) : (rowZ n i).set i E0 = rowZ n (i + 1) := by
  unfold rowZ
  obtain ⟨d, hd⟩ : ∃ d, n - i = d + 1 := ⟨n - i - 1, by omega⟩
  rw [hd, show n - (i + 1) = d by omega, List.replicate_succ, List.set_append_right _ _ (by simp), List.length_replicate, Nat.sub_self, List.set_cons_zero, List.replicate_succ', List.append_assoc]
  rfl
theorem valsC_setK (L : List K3) (i : Nat) (x : K3) (k : Int) (hx : L[i]? = some x) : (valsC L).set (i * 3) (.int .i64 k) = valsC (L.set i (k, x.2.1, x.2.2)) := by
  induction L generalizing i with
  | nil => simp at hx
  | cons d L ih =>
    have h1 : ∀ (k : K3) (L : List K3), valsC (k :: L) = .int .i64 k.1 :: .int .i64 k.2.1 :: .string k.2.2 :: valsC L := fun k L => by simp [valsC]
    cases i with
    | zero => simp at hx; subst hx; simp [h1]
    | succ i =>
      have s3 : ∀ (x y z u : Value) (l : List Value) (a : Nat), (x :: y :: z :: l).set (a + 3) u = x :: y :: z :: l.set a u := fun _ _ _ _ _ _ => rfl
      rw [h1, show (i + 1) * 3 = i * 3 + 3 by omega, s3, ih i (by simpa using hx), List.set_cons_succ, h1]
theorem made_vals (n : Nat) : (madeCells (Value.agg #[.int .i64 0, .int .i64 0, .string ⟨#[]⟩]).cells (n * 3)).toList = valsC (List.replicate n Z0) := by
  apply List.ext_getElem?
  intro j
  by_cases hj : j < n * 3
  · have h := valsC_get (List.replicate n Z0) (j / 3) (j % 3) Z0 (by rw [List.getElem?_replicate, if_pos (by omega)]) (Nat.mod_lt _ (by decide))
    rw [show j / 3 * 3 + j % 3 = j by omega] at h
    rw [h]
    have h3 : j % 3 = 0 ∨ j % 3 = 1 ∨ j % 3 = 2 := by omega
    rcases h3 with e | e | e <;> simp [madeCells, hj, e, Value.cells, Z0]
  · have : (valsC (List.replicate n Z0)).length ≤ j := by rw [valsC_length]; simp; omega
    rw [List.getElem?_eq_none this]
    simp [madeCells]; omega
/-- What Scope leaves, before Make. -/
structure ScI (w W : World) (eb g n i : Nat) (up : Int) : Prop where
  eb_ : Blk W eb 57 #[.slice (some ⟨g, 0, none⟩) n n, .int .i64 up]
  row : W.ownsRow w.heap.size 34 3 (.slice (some ⟨g, 0, none⟩) n n) n (valsC (rowZ n i))
  bel : Below w.heap.size w W
  lo : w.heap.size ≤ g ∧ w.heap.size ≤ eb
theorem ScI.next {w W : World} {eb g n i : Nat} {up : Int} (h : ScI w W eb g n i up) (hi : i < n) : ScI w (W.setCell ⟨g, i * 3, none⟩ (.int .i64 10)) eb g n (i + 1) up := by
  have hne : eb ≠ g := fun e => own_blk_ne h.row h.eb_ (by decide) (by rw [e]; rfl)
  refine ⟨h.eb_.far hne _, ?_, h.bel.setCell (by exact h.lo.1) _, h.lo⟩
  have := (h.row.stored (i * 3) (.int .i64 10)).1
  rwa [valsC_setK _ i Z0 10 (rowZ_at hi), show ((10 : Int), Z0.2.1, Z0.2.2) = E0 from rfl, rowZ_set hi] at this
set_option maxRecDepth 100000 in
set_option maxHeartbeats 2000000 in
theorem scope_any {w : World} {H A B : Nat} {cv fv rv : Value} {cs : List Cell} {ro : List Int} {live : Int} (n : Nat) (up : Int) (h : Hx w H A B cv fv rv cs [] ro live) (hl : 0 ≤ live) (hl2 : live < 4194304) (hc : cs.length ≤ 100000000) (hB : B ≤ w.heap.size) (hn : n ≤ 1000) :
    Calls Tryd.prog 20 #[.pointer (some ⟨H, 0, none⟩), .int .i64 (n : Int), .int .i64 up] w fun e w' => e = .returned (.int .i64 ((cs.length + 1 : Nat) : Int)) ∧
      ∃ W eb g cv', ScI w W eb g n n up ∧ Hx W H A B cv fv rv cs [] ro live ∧ Hx w' H A B cv' fv rv (cs ++ [(some (tEnv, eb), false)]) [] ro (live + 1) ∧ Upd W w' (fun k => k = A ∨ cv.ownBlock = some k) ∧ (∀ g, cv'.ownBlock = some g → cv.ownBlock = some g ∨ W.heap.size ≤ g) := by
  obtain ⟨i0, hi, hz0, hz1, hz2⟩ := info_parts infoVal
  obtain ⟨w5, hrun, hown, hgr⟩ := run_make_full (P := Tryd.prog) w w.heap.size 45 34 i0 _ 3 Tryd.underlying45 hi hz0 hz1 .i64 .i64 n (by rw [hz2]; omega) (by unfold maxLen; omega) (Nat.le_refl _)
  rw [made_vals] at hown
  have b5 : Below w.heap.size w w5 := (Below.refl _ _).grown hgr (Nat.le_refl _) (fun k hk => by cases hk)
  have hg5 := hown.lt w.heap.size rfl
  have h0 : ScI w (w5.alloc (.cells #[.slice (some ⟨w.heap.size, 0, none⟩) n n, .int .i64 up] 57)) w5.heap.size w.heap.size n 0 up :=
    ⟨Blk.new _ _ _, by unfold rowZ; simpa using hown.alloc _, b5.alloc b5.size _, Nat.le_refl _, b5.size⟩
  have HX := Lib.hid h
  have HS := Lib.hid h0
  clear h h0 hown hgr
  go_enter Tryd.func20, Tryd.ntmps20
  go_wp2_with (fail)
  go_loopw [19] (fun v wr => ∃ i : Nat, i ≤ n ∧ v = .int .i64 (i : Int) ∧ Hid (ScI w wr w5.heap.size w.heap.size n i up)) (fun v _ => n - (intOf v).toNat)
  case atStart => exact ⟨0, Nat.zero_le _, rfl, HS⟩
  case round =>
    clear HS hrun
    obtain ⟨i, hi2, rfl, HS⟩ := hrel
    by_cases hlt : i < n
    · have t3 : decide ((i : Int) < (n : Int)) = true := by simp; omega
      have z0 : (0 : Int) ≤ (i : Int) := by omega
      have z1 : (i : Int) < (n : Int) := by omega
      have ac : IntKind.i64.wrap ((i : Int) + 1) = (i : Int) + 1 := IntWalk.i64_in _ (by omega)
      have x0 : wr.cell? ⟨w5.heap.size, 0, none⟩ = some (.slice (some ⟨w.heap.size, 0, none⟩) n n) := by rw [HS.out.eb_.cell]; rfl
      have e0 : wr.cell? ⟨w.heap.size, i * 3, none⟩ = some (.int .i64 0) := by
        rw [HS.out.row.cellAt (i * 3) (by omega)]
        exact valsC_get (rowZ n i) i 0 Z0 (rowZ_at hlt) (by decide)
      have f0 := HS.out.row.frozenAt (i * 3)
      have lg := World.block_lt_of_cell? wr _ e0
      have le := HS.out.eb_.lt
      have HN := Lib.hid (HS.out.next hlt)
      clear HS
      go_wp2_with (fail)
      go_roundw
      case rel => exact ⟨i + 1, by omega, rfl, HN⟩
      case measure => simp [intOf]; omega
    · have hin : i = n := by omega
      subst hin
      have t3 : decide ((i : Int) < (i : Int)) = false := by simp
      have hX := HX.out.below HS.out.bel
      have y0 : wr.cell? ⟨H, 0, none⟩ = some (.pointer (some ⟨A, 0, none⟩)) := by rw [hX.hb.cell]; rfl
      have hmk := make_new (tEnv, w5.heap.size) hX.ar hl hl2 hc (Nat.le_trans hB HS.out.bel.size)
      have HM := Lib.hid (And.intro hX hmk)
      clear hX hmk
      go_wp2_with (fail)
      refine HM.out.2.mono ?_
      rintro e w6 ⟨rfl, cv', hAr, u6, hcv⟩
      have hX6 : Hx w6 H A B cv' fv rv (cs ++ [(some (tEnv, w5.heap.size), false)]) [] ro (live + 1) := ⟨u6.blk HM.out.1.hb (fun h => h.elim (fun e => HM.out.1.hb.ne_ HM.out.1.ar.blk (by decide) e) (fun e => own_blk_ne HM.out.1.ar.cells HM.out.1.hb (by decide) e)), hAr⟩
      have HE := Lib.hid (And.intro hX6 (And.intro u6 hcv))
      clear hX6 u6 hcv hAr
      go_wp2
      go_ret
      exact ⟨rfl, wr, _, _, cv', HS.out, HM.out.1, HE.out⟩
theorem vsymbol_any (r : Int) (w : World) : Calls Tryd.prog 46 #[.int .i64 r] w (Ret (VS 8 r ⟨#[]⟩) w) := by
  go_enter Tryd.func46, Tryd.ntmps46
  go_wp2
  exact bodyPost_ret (v := VS 8 r ⟨#[]⟩) (by simp [results, Tryd.results46, go_sem]) rfl ⟨rfl, (Below.refl _ _).alloc (Nat.le_refl _) _⟩
set_option maxHeartbeats 2000000 in
theorem symbol_any {w : World} {H A B : Nat} {cv fv rv : Value} {cs : List Cell} {ro : List Int} {live : Int} (k : K3) (h : Hx w H A B cv fv rv cs [] ro live) (hl : 0 ≤ live) (hl2 : live < 4194304) (hc : cs.length ≤ 100000000) (hB : B ≤ w.heap.size) :
    Calls Tryd.prog 21 #[.pointer (some ⟨H, 0, none⟩), VK k] w fun e w' => e = .returned (VS 8 ((cs.length + 1 : Nat) : Int) ⟨#[]⟩) ∧
      ∃ mb cv', Blk w' mb 96 #[.int .i64 k.1, .int .i64 k.2.1, .string k.2.2] ∧ w.heap.size ≤ mb ∧ Hx w' H A B cv' fv rv (cs ++ [(some (tMark, mb), false)]) [] ro (live + 1) ∧ Upd w w' (fun k => k = A ∨ cv.ownBlock = some k) ∧ (∀ g, cv'.ownBlock = some g → cv.ownBlock = some g ∨ w.heap.size ≤ g) := by
  obtain ⟨k1, k2, k3⟩ := k
  have bb : Below w.heap.size w ((w.alloc (.cells #[.int .i64 k1, .int .i64 k2, .string k3] 34)).alloc (.cells #[.int .i64 0, .int .i64 0, .string ⟨#[]⟩] 34)) := ((Below.refl _ _).alloc (Nat.le_refl _) _).alloc (by simp) _
  have kb : Blk ((w.alloc (.cells #[.int .i64 k1, .int .i64 k2, .string k3] 34)).alloc (.cells #[.int .i64 0, .int .i64 0, .string ⟨#[]⟩] 34)) w.heap.size 34 #[.int .i64 k1, .int .i64 k2, .string k3] := (Blk.new w _ _).alloc _
  have rb : Blk ((w.alloc (.cells #[.int .i64 k1, .int .i64 k2, .string k3] 34)).alloc (.cells #[.int .i64 0, .int .i64 0, .string ⟨#[]⟩] 34)) (w.heap.size + 1) 34 #[.int .i64 0, .int .i64 0, .string ⟨#[]⟩] := by
    have := Blk.new (w.alloc (.cells #[.int .i64 k1, .int .i64 k2, .string k3] 34)) 34 #[.int .i64 0, .int .i64 0, .string ⟨#[]⟩]
    rwa [World.size_alloc] at this
  have hX := h.below bb
  have hAl := h.ar.blk.lt
  have hHl := h.hb.lt
  have hcl := h.ar.cells.lt
  have hfl := h.ar.free.lt
  have hrl := h.ar.roots.lt
  have hne1 := h.hb.ne_ h.ar.blk (by decide)
  have hne2 := own_blk_ne h.ar.cells h.hb (by decide)
  have HX := Lib.hid (And.intro hX (And.intro bb (And.intro kb rb)))
  clear h bb kb rb hX
  go_enter Tryd.func21, Tryd.ntmps21
  go_upto_region 1 with fail
  generalize ((w.alloc (.cells #[.int .i64 k1, .int .i64 k2, .string k3] 34)).alloc (.cells #[.int .i64 0, .int .i64 0, .string ⟨#[]⟩] 34)) = w2 at *
  have y0 : w2.cell? ⟨H, 0, none⟩ = some (.pointer (some ⟨A, 0, none⟩)) := by rw [HX.out.1.hb.cell]; rfl
  have p0 : w2.cell? ⟨w.heap.size, 0, none⟩ = some (.int .i64 k1) := by rw [HX.out.2.2.1.cell]; rfl
  have p1 : w2.cell? ⟨w.heap.size, 1, none⟩ = some (.int .i64 k2) := by rw [HX.out.2.2.1.cell]; rfl
  have p2 : w2.cell? ⟨w.heap.size, 2, none⟩ = some (.string k3) := by rw [HX.out.2.2.1.cell]; rfl
  refine wp_var0 (fun KV HKV => ?_)
  refine wp_region_till (m := 8) (S := (fun W => W.cell? ⟨H, 0, none⟩ = some (.pointer (some ⟨A, 0, none⟩)) ∧ W.cell? ⟨w.heap.size, 0, none⟩ = some (.int .i64 k1) ∧ W.cell? ⟨w.heap.size, 1, none⟩ = some (.int .i64 k2) ∧ W.cell? ⟨w.heap.size, 2, none⟩ = some (.string k3))) (by kernel_rfl) ?_
  have e4 : w2.drew = w2.drewN 1 := rfl
  rw [e4]
  have S0 : (w2.drewN 1).cell? ⟨H, 0, none⟩ = some (.pointer (some ⟨A, 0, none⟩)) ∧ (w2.drewN 1).cell? ⟨w.heap.size, 0, none⟩ = some (.int .i64 k1) ∧ (w2.drewN 1).cell? ⟨w.heap.size, 1, none⟩ = some (.int .i64 k2) ∧ (w2.drewN 1).cell? ⟨w.heap.size, 2, none⟩ = some (.string k3) := ⟨y0, p0, p1, p2⟩
  have HD := Lib.hid (And.intro (HX.out.1.below (below_drw (Below.refl _ _) 1)) (And.intro (HX.out.2.1.trans ((below_drw (Below.refl _ _) 1).mono HX.out.2.1.size)) (HX.out.2.2.2.drewN 1)))
  clear y0 p0 p1 p2 HX e4
  generalize w2.drewN 1 = D at *
  change tillH _ _ _ _ _ _ 11 #[false, false, false, false, false, false, false, false, false, false, false] _ _
  refine tillH_takeAny (i := 0) (oi := ?oo1) (v := ?vv1) ?hi1 (by kernel_rfl) (by kernel_rfl) (by kernel_rfl) ?hq1 (by kernel_rfl) ?hy1 (fun _ => S0) ?hh1
  case hi1 => (simp only [List.getElem?_toArray, List.getElem?_cons_succ, List.getElem?_cons_zero]; rfl)
  case hq1 => exact fun _ _ _ h => h
  case hy1 => exact Or.inl ⟨by rfl, by (intro W; go_simp; (try with_reducible rfl))⟩
  (try simp only [Act.put, List.setIfInBounds_toArray, List.set_cons_zero, List.set_cons_succ])
  refine tillH_takeAny (i := 1) (oi := ?oo2) (v := ?vv2) ?hi2 (by kernel_rfl) (by kernel_rfl) (by kernel_rfl) ?hq2 (by kernel_rfl) ?hy2 (fun _ => S0) ?hh2
  case hi2 => (simp only [List.getElem?_toArray, List.getElem?_cons_succ, List.getElem?_cons_zero]; rfl)
  case hq2 => exact fun _ _ _ h => h
  case hy2 => exact Or.inl ⟨by rfl, by (intro W; go_simp; (try with_reducible rfl))⟩
  (try simp only [Act.put, List.setIfInBounds_toArray, List.set_cons_zero, List.set_cons_succ])
  refine tillH_takeAny (i := 2) (oi := ?oo3) (v := ?vv3) ?hi3 (by kernel_rfl) (by kernel_rfl) (by kernel_rfl) ?hq3 (by kernel_rfl) ?hy3 (fun _ => S0) ?hh3
  case hi3 => (simp only [List.getElem?_toArray, List.getElem?_cons_succ, List.getElem?_cons_zero]; rfl)
  case hq3 => exact fun _ _ _ h => h
  case hy3 => exact Or.inl ⟨by rfl, by (intro W; go_simp; (try with_reducible rfl))⟩
  (try simp only [Act.put, List.setIfInBounds_toArray, List.set_cons_zero, List.set_cons_succ])
  refine tillH_take (i := 3) (oi := ?oo4) (v := ?vv4) ?hi4 (by kernel_rfl) (by kernel_rfl) (by kernel_rfl) ?hq4 (by kernel_rfl) (by kernel_rfl) (by kernel_rfl) ?hy4 S0 ?hh4
  case hi4 => (simp only [List.getElem?_toArray, List.getElem?_cons_succ, List.getElem?_cons_zero]; rfl)
  case hq4 => exact fun _ _ _ h => h
  case hy4 => exact Or.inl ⟨by rfl, by (intro W hSw; (try obtain ⟨s0, s1, s2, s3⟩ := hSw); go_simp; (try with_reducible rfl))⟩
  (try simp only [Act.put, List.setIfInBounds_toArray, List.set_cons_zero, List.set_cons_succ])
  refine tillH_takeC [7, 6, 5] (i := 4) (oi := ?oo5) (v := ?vv5) ?hi5 (by kernel_rfl) (by kernel_rfl) (by kernel_rfl) ?hq5 (by kernel_rfl) (by kernel_rfl) (by kernel_rfl) ?hy5 S0 ?hh5
  case hi5 => (simp only [List.getElem?_toArray, List.getElem?_cons_succ, List.getElem?_cons_zero]; rfl)
  case hq5 => exact fun _ _ _ h => h
  case hy5 => exact Or.inl ⟨by rfl, by (intro W hSw; (try obtain ⟨s0, s1, s2, s3⟩ := hSw); go_simp; (try with_reducible rfl))⟩
  (try simp only [Act.put, List.setIfInBounds_toArray, List.set_cons_zero, List.set_cons_succ])
  refine tillH_takeAny (i := 5) (oi := ?oo6) (v := ?vv6) ?hi6 (by kernel_rfl) (by kernel_rfl) (by kernel_rfl) ?hq6 (by kernel_rfl) ?hy6 (fun _ => S0) ?hh6
  case hi6 => (simp only [List.getElem?_toArray, List.getElem?_cons_succ, List.getElem?_cons_zero]; rfl)
  case hq6 => exact fun _ _ _ h => h
  case hy6 => exact Or.inl ⟨by rfl, by (intro W; go_simp; (try with_reducible rfl))⟩
  (try simp only [Act.put, List.setIfInBounds_toArray, List.set_cons_zero, List.set_cons_succ])
  refine tillH_next (rs := [6]) (by kernel_rfl) (by simp) ?_
  refine NextH.cons rfl (fun K hK => ?_) NextH.nil
  go_simp
  have ba : Below D.heap.size D (D.alloc (.cells #[.int .i64 k1, .int .i64 k2, .string k3] 96)) := (Below.refl _ _).alloc (Nat.le_refl _) _
  have mb := Blk.new D 96 #[.int .i64 k1, .int .i64 k2, .string k3]
  have hXD := HD.out.1.below ba
  have bD := HD.out.2.1.trans (ba.mono HD.out.2.1.size)
  have rbD := HD.out.2.2.below ba HD.out.2.2.lt
  have hDs := HD.out.2.1.size
  have hrD := HD.out.2.2.lt
  have S2 : (D.alloc (.cells #[.int .i64 k1, .int .i64 k2, .string k3] 96)).cell? ⟨H, 0, none⟩ = some (.pointer (some ⟨A, 0, none⟩)) ∧ (D.alloc (.cells #[.int .i64 k1, .int .i64 k2, .string k3] 96)).cell? ⟨w.heap.size, 0, none⟩ = some (.int .i64 k1) ∧ (D.alloc (.cells #[.int .i64 k1, .int .i64 k2, .string k3] 96)).cell? ⟨w.heap.size, 1, none⟩ = some (.int .i64 k2) ∧ (D.alloc (.cells #[.int .i64 k1, .int .i64 k2, .string k3] 96)).cell? ⟨w.heap.size, 2, none⟩ = some (.string k3) := by
    obtain ⟨s0, s1, s2, s3⟩ := S0
    exact ⟨(ba.cell (p := ⟨H, 0, none⟩) (by show H < _; exact HD.out.1.hb.lt)).trans s0, (ba.cell (p := ⟨w.heap.size, 0, none⟩) (by show w.heap.size < _; omega)).trans s1, (ba.cell (p := ⟨w.heap.size, 1, none⟩) (by show w.heap.size < _; omega)).trans s2, (ba.cell (p := ⟨w.heap.size, 2, none⟩) (by show w.heap.size < _; omega)).trans s3⟩
  refine hK.out _ _ (fun _ => S2) ?_
  clear hK K
  (try simp only [Act.put, List.setIfInBounds_toArray, List.set_cons_zero, List.set_cons_succ])
  have hsz : (D.alloc (.cells #[.int .i64 k1, .int .i64 k2, .string k3] 96)).heap.size = D.heap.size + 1 := by simp
  generalize D.alloc (.cells #[.int .i64 k1, .int .i64 k2, .string k3] 96) = E at *
  generalize hms : D.heap.size = ms at *
  clear ba HD S0
  have hmk := make_new (tMark, ms) hXD.ar hl hl2 hc (Nat.le_trans hB bD.size)
  have HM := Lib.hid (And.intro hXD (And.intro hmk (And.intro mb (And.intro bD rbD))))
  clear hXD hmk mb bD rbD
  refine tillH_takeAny (i := 7) (oi := ?oo7) (v := ?vv7) ?hi7 (by kernel_rfl) (by kernel_rfl) (by kernel_rfl) ?hq7 (by kernel_rfl) ?hy7 (fun _ => S2) ?hh7
  case hi7 => (simp only [List.getElem?_toArray, List.getElem?_cons_succ, List.getElem?_cons_zero]; rfl)
  case hq7 => exact fun _ _ _ h => h
  case hy7 => exact Or.inl ⟨by rfl, by (intro W; go_simp; (try with_reducible rfl))⟩
  (try simp only [Act.put, List.setIfInBounds_toArray, List.set_cons_zero, List.set_cons_succ])
  refine tillH_next (rs := [8]) (by kernel_rfl) (by simp) ?_
  refine NextH.cons rfl (fun K hK => ?_) NextH.nil
  go_simp
  refine HM.out.2.1.mono ?_
  rintro e F ⟨rfl, cv', hAr, u6, hcv⟩
  have HF := Lib.hid (And.intro hAr (And.intro u6 hcv))
  clear hAr u6 hcv
  refine hK.out _ _ (fun h => absurd h (by simp)) ?_
  clear hK K
  (try simp only [Act.put, List.setIfInBounds_toArray, List.set_cons_zero, List.set_cons_succ])
  refine tillH_next (rs := [9]) (by kernel_rfl) (by simp) ?_
  refine NextH.cons rfl (fun K hK => ?_) NextH.nil
  go_simp
  refine (vsymbol_any _ _).mono ?_
  rintro e F2 ⟨rfl, b7⟩
  refine hK.out _ _ (fun h => absurd h (by simp)) ?_
  clear hK K
  (try simp only [Act.put, List.setIfInBounds_toArray, List.set_cons_zero, List.set_cons_succ])
  have rbF : Blk F2 (w.heap.size + 1) 34 #[.int .i64 0, .int .i64 0, .string ⟨#[]⟩] := by
    have h1 := HF.out.2.1.blk HM.out.2.2.2.2 (fun e => e.elim (fun e => by omega) (fun e => by have := (hcl _ e).2; omega))
    exact h1.below b7 h1.lt
  have uF : Upd E F2 (fun k => k = A ∨ cv.ownBlock = some k) := HF.out.2.1.then_below b7
  have aF : Ar F2 A B cv' fv rv (cs ++ [(some (tMark, ms), false)]) [] ro (live + 1) := HF.out.1.below b7
  have z0 := rbF.frozen 0
  have z1 := rbF.frozen 1
  have z2 := rbF.frozen 2
  have y0 : F2.cell? ⟨w.heap.size + 1, 0, none⟩ = some (.int .i64 0) := by rw [rbF.cell]; rfl
  have y1 : F2.cell? ⟨w.heap.size + 1, 1, none⟩ = some (.int .i64 0) := by rw [rbF.cell]; rfl
  have y2 : F2.cell? ⟨w.heap.size + 1, 2, none⟩ = some (.string ⟨#[]⟩) := by rw [rbF.cell]; rfl
  have lr := rbF.lt
  have HG := Lib.hid (And.intro rbF (And.intro uF aF))
  clear rbF uF aF b7
  refine tillH_next (rs := [10]) (by kernel_rfl) (by simp) ?_
  refine NextH.cons rfl (fun K hK => ?_) NextH.nil
  go_simp
  refine hK.out _ _ (fun h => absurd h (by simp)) ?_
  clear hK K
  (try simp only [Act.put, List.setIfInBounds_toArray, List.set_cons_zero, List.set_cons_succ])
  refine tillH_done (by kernel_rfl) ?_ _
  refine HKV.out _ _ ?_
  have hsE := HM.out.2.2.2.1.size
  have nM : ∀ x, w.heap.size ≤ x → ¬ (x = A ∨ cv.ownBlock = some x) := fun x hx e => e.elim (fun e => by omega) (fun e => by have := (hcl _ e).2; omega)
  have u9 : Upd F2 (((F2.setCell ⟨w.heap.size + 1, 0, none⟩ (.int .i64 8)).setCell ⟨w.heap.size + 1, 1, none⟩ (.int .i64 ((cs.length : Int) + 1))).setCell ⟨w.heap.size + 1, 2, none⟩ (.string ⟨#[]⟩)) (fun x => x = w.heap.size + 1) := (((Upd.refl F2 _).set (w.heap.size + 1) 0 _ (by rfl)).set (w.heap.size + 1) 1 _ (by rfl)).set (w.heap.size + 1) 2 _ (by rfl)
  have hH9 := u9.blk (HG.out.2.1.blk HM.out.1.hb (fun e => e.elim hne1 hne2)) (fun e => by omega)
  have hM9 := u9.blk (HG.out.2.1.blk HM.out.2.2.1 (nM ms hDs)) (fun e => by omega)
  have hA9 := HG.out.2.2.upd u9 (fun e => by omega) (fun g hg e => by
    rcases HF.out.2.2 g hg with q | q
    · have := (hcl _ q).2; omega
    · omega) (fun g hg e => by have := (hfl _ hg).2; omega) (fun g hg e => by have := (hrl _ hg).2; omega)
  have uw : Upd w F2 (fun k => k = A ∨ cv.ownBlock = some k) := (Upd.of_below_all HM.out.2.2.2.1).trans HG.out.2.1
  have uw9 := ((uw.set_new (w.heap.size + 1) 0 (.int .i64 8) (by omega)).set_new (w.heap.size + 1) 1 (.int .i64 ((cs.length : Int) + 1)) (by omega)).set_new (w.heap.size + 1) 2 (.string ⟨#[]⟩) (by omega)
  have HZ := Lib.hid (And.intro hH9 (And.intro hM9 (And.intro hA9 uw9)))
  clear u9 hH9 hM9 hA9 uw uw9 nM hne1 hne2 hfl hrl hcl
  go_wp2
  refine bodyPost_ret (v := VS 8 ((cs.length + 1 : Nat) : Int) ⟨#[]⟩) (by simp [results, Tryd.results21, go_sem, y0, y1, y2, z0, z1, z2, lr]) rfl ⟨rfl, ms, cv', HZ.out.2.1, hDs, ⟨HZ.out.1, HZ.out.2.2.1⟩, HZ.out.2.2.2, fun g hg => (HF.out.2.2 g hg).imp id (fun q => by omega)⟩
end Go.Proofs.YtmimnaaofpkndaaDoor.Hp
