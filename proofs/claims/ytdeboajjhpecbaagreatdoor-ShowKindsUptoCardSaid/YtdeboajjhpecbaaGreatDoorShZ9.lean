/- Show: grow, of a symbol. -/
import Derived.Test.YtdeboajjhpecbaaGreatDoorShZ8
set_option linter.unusedVariables false
set_option linter.unusedSimpArgs false
namespace Go.Proofs.YtdeboajjhpecbaaGreatDoor.Hp
open Go.RowKit Go.Proofs.YtdeboajjhpecbaaGreatDoor Go.Shelf
/-- What grow comes to, out of the state. -/
theorem growR_of {N m H A B : Nat} {ps : List Int} {P : List PartV} {cv cv2 : Value} {cs ds : List Cell} {w W : World} {at_ : Nat} {v : K3} {wv : K4} {en : Nat} {t : Tr} {L : List BlkE} (h : Gs N m H A B ps w cv cv2 (cs ++ ds) L W) (hd : ds.length + at_ ≤ en)
    (h1 : Lies W (cs ++ ds) (fun x => x < w.heap.size) t v) (h2 : LiesR W (fun x => x < w.heap.size) t wv) (ok : OkT t) (hen : en ≤ P.length ∨ en = at_) (hun : unT t + suP P en ≤ suP P at_) : GrowR N m H A B ps P cv cs w at_ v wv en t W :=
  ⟨⟨cv2, ds, h.ms, hd, h.cvO, h1⟩, h2, ok, hen, hun, h.up⟩
set_option maxRecDepth 100000 in
set_option maxHeartbeats 8000000 in
theorem grow_sym {N m H A B : Nat} {ps : List Int} {P : List PartV} {cv : Value} {cs : List Cell} {w : World} {at_ pn pc : Nat} {pa : Option Addr} (hM : Ms N w m H A B cv cs ps) (hP : PlanR w pa pn P) (hpn : pn ≤ 600) (hlen : ∀ p ∈ P, p.len ≤ 600) (hcs : cs.length ≤ 4000) (deep : Int) (hat : at_ < pn) (p : PartV) (hp : P[at_]? = some p) (hk : (wrap64 (p.k.tmod 12 + 12)).tmod 12 = 8) : Calls Tryz.prog 8 #[.pointer (some ⟨m, 0, none⟩), .agg #[.slice pa pn pc], .int .i64 (at_ : Int), .int .i64 deep] w (GrowP N m H A B ps P cv cs w at_) := by
  have HK := Lib.hid hk
  have HLEN := Lib.hid (hlen p (List.mem_of_getElem? hp))
  obtain ⟨g, off, rfl, hgl, hcell⟩ := hP.2.1 (by omega)
  have y0 := hcell at_ p hp 0 (by decide)
  have y1 := hcell at_ p hp 1 (by decide)
  have y2 := hcell at_ p hp 2 (by decide)
  have y0' : (gW (some ⟨g, off, none⟩) pn pc w).cell? ⟨g, off + at_ * 3, none⟩ = some (.int .i64 p.k) := ((gb_of _ pn pc w).bel.cell (p := ⟨g, off + at_ * 3, none⟩) hgl).trans y0
  have y1' : (gW (some ⟨g, off, none⟩) pn pc w).cell? ⟨g, off + at_ * 3 + 1, none⟩ = some (.int .i64 p.n) := ((gb_of _ pn pc w).bel.cell (p := ⟨g, off + at_ * 3 + 1, none⟩) hgl).trans y1
  have y2' : (gW (some ⟨g, off, none⟩) pn pc w).cell? ⟨g, off + at_ * 3 + 2, none⟩ = some (.slice p.a p.len p.cap) := ((gb_of _ pn pc w).bel.cell (p := ⟨g, off + at_ * 3 + 2, none⟩) hgl).trans y2
  have HG := Lib.hid (gb_of (some ⟨g, off, none⟩) pn pc w)
  have HM := Lib.hid hM
  have HP := Lib.hid (And.intro hP hp)
  have hatn : at_ < pn := hat
  have t1 : decide ((at_ : Int) ≥ (pn : Int)) = false := by simp; omega
  have z0 : (0 : Int) ≤ (at_ : Int) := by omega
  have z1 : (at_ : Int) < (pn : Int) := by omega
  have ac : IntKind.i64.wrap ((at_ : Int) + 1) = (at_ : Int) + 1 := IntWalk.i64_in _ (by omega)
  obtain ⟨pk, pN, sa, sn, sc, sl⟩ := p
  dsimp only at y0' y1' y2'
  clear hcell y0 y1 y2 hP hM hp hat
  unfold gW at y0' y1' y2'
  clear hk hlen
  go_enter Tryz.func8, Tryz.ntmps8
  go_upto_region 1 with fail
  unfold gW at HG
  generalize (((w.alloc (.cells #[.slice (some ⟨g, off, none⟩) pn pc] 24)).alloc (.cells VZ 30)).alloc (.cells RZ 33)) = W at *
  have q0 : W.cell? ⟨w.heap.size, 0, none⟩ = some (.slice (some ⟨g, off, none⟩) pn pc) := by rw [HG.out.pb.cell]; rfl
  go_upto_region 5 with fail
  rw [HK.out]
  clear y0' y1' y2' q0
  have ba := (Below.refl W.heap.size W).alloc (Nat.le_refl _) (.cells #[.int .i64 pk, .int .i64 pN, .slice sa sn sc] 51)
  have HG := Lib.hid (And.intro (HG.out.below ba) (And.intro (Blk.new W 51 #[.int .i64 pk, .int .i64 pN, .slice sa sn sc]) HG.out.rb.lt))
  generalize W.alloc (.cells #[.int .i64 pk, .int .i64 pN, .slice sa sn sc] 51) = W2 at *
  generalize W.heap.size = X at *
  clear ba
  have HPR := Lib.hid (HP.out.1.2.2 _ (List.mem_of_getElem? HP.out.2))
  obtain ⟨r, hrr⟩ : ∃ r : Int, ((cs.length + 1 : Nat) : Int) = r := ⟨_, rfl⟩
  have p2 : W2.cell? ⟨X, 2, none⟩ = some (.slice sa sn sc) := by rw [HG.out.2.1.cell]; rfl
  have HS := Lib.hid (Gs.start HM.out HG.out.1)
  have HCS := Lib.hid hcs
  go_wp2_with (fail)
  refine (Tx.str14_any sa sn sc sl W2 (HPR.out.row.below HG.out.1.bel) HPR.out.fit (by have h1 : sn ≤ 600 := HLEN.out; omega)).mono ?_
  rintro e W3 ⟨rfl, b6⟩
  have HS := Lib.hid ((HS.out.below b6).new 30 #[.int .i64 7, .int .i64 0, .string (Tx.uS sl)] okTyVal)
  clear b6 p2
  go_upto_region 19 with fail
  generalize W3.alloc (.cells #[.int .i64 7, .int .i64 0, .string (Tx.uS sl)] 30) = W4 at *
  generalize W3.heap.size = Y at *
  refine wp_var0 (fun KV HKV => ?_)
  refine wp_region_till (m := 15) (S := (fun W => W.cell? ⟨m, 0, none⟩ = some (.pointer (some ⟨H, 0, none⟩)) ∧ W.cell? ⟨Y, 0, none⟩ = some (.int .i64 7) ∧ W.cell? ⟨Y, 1, none⟩ = some (.int .i64 0) ∧ W.cell? ⟨Y, 2, none⟩ = some (.string (Tx.uS sl)))) (by kernel_rfl) ?_
  have e4 : W4.drew = W4.drewN 1 := rfl
  rw [e4]
  have HS := Lib.hid (HS.out.below (below_drw (Below.refl W4.heap.size W4) 1))
  have S0 : (W4.drewN 1).cell? ⟨m, 0, none⟩ = some (.pointer (some ⟨H, 0, none⟩)) ∧ (W4.drewN 1).cell? ⟨Y, 0, none⟩ = some (.int .i64 7) ∧ (W4.drewN 1).cell? ⟨Y, 1, none⟩ = some (.int .i64 0) ∧ (W4.drewN 1).cell? ⟨Y, 2, none⟩ = some (.string (Tx.uS sl)) := ⟨by rw [HS.out.ms.mb.cell]; rfl, by rw [(HS.out.at (b := Y) (t := 30) (c := #[.int .i64 7, .int .i64 0, .string (Tx.uS sl)]) (by simp)).cell]; rfl, by rw [(HS.out.at (b := Y) (t := 30) (c := #[.int .i64 7, .int .i64 0, .string (Tx.uS sl)]) (by simp)).cell]; rfl, by rw [(HS.out.at (b := Y) (t := 30) (c := #[.int .i64 7, .int .i64 0, .string (Tx.uS sl)]) (by simp)).cell]; rfl⟩
  clear e4
  generalize W4.drewN 1 = E1 at *
  change tillH _ _ _ _ _ _ 17 #[false, false, false, false, false, false, false, false, false, false, false, false, false, false, false, false, false] _ _
  refine tillH_takeAny (i := 0) (oi := ?oo1) (v := ?vv1) ?hi1 (by kernel_rfl) (by kernel_rfl) (by kernel_rfl) ?hq1 (by kernel_rfl) ?hy1 (fun _ => S0) ?hh1
  case hi1 => (simp only [List.getElem?_toArray, List.getElem?_cons_succ, List.getElem?_cons_zero]; rfl)
  case hq1 => exact fun _ _ _ h => h
  case hy1 => exact Or.inl ⟨by rfl, by (intro W; go_simp; (try with_reducible rfl))⟩
  (try simp only [Act.put, List.setIfInBounds_toArray, List.set_cons_zero, List.set_cons_succ])
  refine tillH_takeAny (i := 1) (oi := ?oo2) (v := ?vv2) ?hi2 (by kernel_rfl) (by kernel_rfl) (by kernel_rfl) ?hq2 (by kernel_rfl) ?hy2 (fun _ => S0) ?hh2
  case hi2 => (simp only [List.getElem?_toArray, List.getElem?_cons_succ, List.getElem?_cons_zero]; rfl)
  case hq2 => exact fun _ _ _ h => h
  case hy2 => exact Or.inl ⟨by rfl, by (intro W; go_simp; (try with_reducible rfl))⟩
  (try simp only [Act.put, List.setIfInBounds_toArray, List.set_cons_zero, List.set_cons_succ])
  refine tillH_takeAny (i := 2) (oi := ?oo3) (v := ?vv3) ?hi3 (by kernel_rfl) (by kernel_rfl) (by kernel_rfl) ?hq3 (by kernel_rfl) ?hy3 (fun _ => S0) ?hh3
  case hi3 => (simp only [List.getElem?_toArray, List.getElem?_cons_succ, List.getElem?_cons_zero]; rfl)
  case hq3 => exact fun _ _ _ h => h
  case hy3 => exact Or.inl ⟨by rfl, by (intro W; go_simp; (try with_reducible rfl))⟩
  (try simp only [Act.put, List.setIfInBounds_toArray, List.set_cons_zero, List.set_cons_succ])
  refine tillH_takeC [14, 5] (i := 3) (oi := ?oo4) (v := ?vv4) ?hi4 (by kernel_rfl) (by kernel_rfl) (by kernel_rfl) ?hq4 (by kernel_rfl) (by kernel_rfl) (by kernel_rfl) ?hy4 S0 ?hh4
  case hi4 => (simp only [List.getElem?_toArray, List.getElem?_cons_succ, List.getElem?_cons_zero]; rfl)
  case hq4 => exact fun _ _ _ h => h
  case hy4 => exact Or.inl ⟨by rfl, by (intro W hSw; (try obtain ⟨s0, s1, s2, s3⟩ := hSw); go_simp; (try with_reducible rfl))⟩
  (try simp only [Act.put, List.setIfInBounds_toArray, List.set_cons_zero, List.set_cons_succ])
  refine tillH_takeC [14, 5] (i := 4) (oi := ?oo5) (v := ?vv5) ?hi5 (by kernel_rfl) (by kernel_rfl) (by kernel_rfl) ?hq5 (by kernel_rfl) (by kernel_rfl) (by kernel_rfl) ?hy5 S0 ?hh5
  case hi5 => (simp only [List.getElem?_toArray, List.getElem?_cons_succ, List.getElem?_cons_zero]; rfl)
  case hq5 => exact fun _ _ _ h => h
  case hy5 => exact Or.inl ⟨by rfl, by (intro W hSw; (try obtain ⟨s0, s1, s2, s3⟩ := hSw); go_simp; (try with_reducible rfl))⟩
  (try simp only [Act.put, List.setIfInBounds_toArray, List.set_cons_zero, List.set_cons_succ])
  refine tillH_takeAny (i := 6) (oi := ?oo6) (v := ?vv6) ?hi6 (by kernel_rfl) (by kernel_rfl) (by kernel_rfl) ?hq6 (by kernel_rfl) ?hy6 (fun _ => S0) ?hh6
  case hi6 => (simp only [List.getElem?_toArray, List.getElem?_cons_succ, List.getElem?_cons_zero]; rfl)
  case hq6 => exact fun _ _ _ h => h
  case hy6 => exact Or.inl ⟨by rfl, by (intro W; go_simp; (try with_reducible rfl))⟩
  (try simp only [Act.put, List.setIfInBounds_toArray, List.set_cons_zero, List.set_cons_succ])
  refine tillH_takeAny (i := 7) (oi := ?oo7) (v := ?vv7) ?hi7 (by kernel_rfl) (by kernel_rfl) (by kernel_rfl) ?hq7 (by kernel_rfl) ?hy7 (fun _ => S0) ?hh7
  case hi7 => (simp only [List.getElem?_toArray, List.getElem?_cons_succ, List.getElem?_cons_zero]; rfl)
  case hq7 => exact fun _ _ _ h => h
  case hy7 => exact Or.inl ⟨by rfl, by (intro W; go_simp; (try with_reducible rfl))⟩
  (try simp only [Act.put, List.setIfInBounds_toArray, List.set_cons_zero, List.set_cons_succ])
  refine tillH_takeC [12, 11, 10, 9] (i := 8) (oi := ?oo8) (v := ?vv8) ?hi8 (by kernel_rfl) (by kernel_rfl) (by kernel_rfl) ?hq8 (by kernel_rfl) (by kernel_rfl) (by kernel_rfl) ?hy8 S0 ?hh8
  case hi8 => (simp only [List.getElem?_toArray, List.getElem?_cons_succ, List.getElem?_cons_zero]; rfl)
  case hq8 => exact fun _ _ _ h => h
  case hy8 => exact Or.inl ⟨by rfl, by (intro W hSw; (try obtain ⟨s0, s1, s2, s3⟩ := hSw); go_simp; (try with_reducible rfl))⟩
  (try simp only [Act.put, List.setIfInBounds_toArray, List.set_cons_zero, List.set_cons_succ])
  refine tillH_takeAny (i := 9) (oi := ?oo9) (v := ?vv9) ?hi9 (by kernel_rfl) (by kernel_rfl) (by kernel_rfl) ?hq9 (by kernel_rfl) ?hy9 (fun _ => S0) ?hh9
  case hi9 => (simp only [List.getElem?_toArray, List.getElem?_cons_succ, List.getElem?_cons_zero]; rfl)
  case hq9 => exact fun _ _ _ h => h
  case hy9 => exact Or.inl ⟨by rfl, by (intro W; go_simp; (try with_reducible rfl))⟩
  (try simp only [Act.put, List.setIfInBounds_toArray, List.set_cons_zero, List.set_cons_succ])
  refine tillH_takeAny (i := 10) (oi := ?oo10) (v := ?vv10) ?hi10 (by kernel_rfl) (by kernel_rfl) (by kernel_rfl) ?hq10 (by kernel_rfl) ?hy10 (fun _ => S0) ?hh10
  case hi10 => (simp only [List.getElem?_toArray, List.getElem?_cons_succ, List.getElem?_cons_zero]; rfl)
  case hq10 => exact fun _ _ _ h => h
  case hy10 => exact Or.inl ⟨by rfl, by (intro W; go_simp; (try with_reducible rfl))⟩
  (try simp only [Act.put, List.setIfInBounds_toArray, List.set_cons_zero, List.set_cons_succ])
  refine tillH_takeAny (i := 13) (oi := ?oo11) (v := ?vv11) ?hi11 (by kernel_rfl) (by kernel_rfl) (by kernel_rfl) ?hq11 (by kernel_rfl) ?hy11 (fun _ => S0) ?hh11
  case hi11 => (simp only [List.getElem?_toArray, List.getElem?_cons_succ, List.getElem?_cons_zero]; rfl)
  case hq11 => exact fun _ _ _ h => h
  case hy11 => exact Or.inl ⟨by rfl, by (intro W; go_simp; (try with_reducible rfl))⟩
  (try simp only [Act.put, List.setIfInBounds_toArray, List.set_cons_zero, List.set_cons_succ])
  refine tillH_next (rs := [5, 11]) (by kernel_rfl) (by simp) ?_
  refine NextH.cons rfl (fun K hK => ?_) (NextH.cons rfl (fun K hK => ?_) NextH.nil)
  · go_simp
    refine (HS.out.ms.symbol (7, 0, Tx.uS sl) hcs (Nat.le_trans HS.out.ms.low.2.2.1 HS.out.ms.low.2.2.2)).mono ?_
    rintro e F1 ⟨mb, cv2, rfl, hM2, hmk, hmb, hU, hO⟩
    have HS := Lib.hid (HS.out.moreB (ds := [(some (tMark, mb), false)]) hM2 hU hO hmb hmk okTyM)
    dsimp only at HS
    clear hM2 hmk hmb hU hO
    rw [hrr]
    have S1 : F1.cell? ⟨m, 0, none⟩ = some (.pointer (some ⟨H, 0, none⟩)) ∧ F1.cell? ⟨Y, 0, none⟩ = some (.int .i64 7) ∧ F1.cell? ⟨Y, 1, none⟩ = some (.int .i64 0) ∧ F1.cell? ⟨Y, 2, none⟩ = some (.string (Tx.uS sl)) := ⟨by rw [HS.out.ms.mb.cell]; rfl, by rw [(HS.out.at (b := Y) (t := 30) (c := #[.int .i64 7, .int .i64 0, .string (Tx.uS sl)]) (by simp)).cell]; rfl, by rw [(HS.out.at (b := Y) (t := 30) (c := #[.int .i64 7, .int .i64 0, .string (Tx.uS sl)]) (by simp)).cell]; rfl, by rw [(HS.out.at (b := Y) (t := 30) (c := #[.int .i64 7, .int .i64 0, .string (Tx.uS sl)]) (by simp)).cell]; rfl⟩
    refine hK.out _ _ (fun _ => S1) ?_
    clear hK K
    (try simp only [Act.put, List.setIfInBounds_toArray, List.set_cons_zero, List.set_cons_succ])
    refine tillH_next (rs := [11, 14]) (by kernel_rfl) (by simp) ?_
    refine NextH.cons rfl (fun K hK => ?_) (NextH.cons rfl (fun K hK => ?_) NextH.nil)
    · go_simp
      have HS := Lib.hid (HS.out.new 46 (robC symS nilS 7 0 (Tx.uS sl)) okTyO)
      have S2 : (F1.alloc (.cells (robC symS nilS 7 0 (Tx.uS sl)) 46)).cell? ⟨m, 0, none⟩ = some (.pointer (some ⟨H, 0, none⟩)) ∧ (F1.alloc (.cells (robC symS nilS 7 0 (Tx.uS sl)) 46)).cell? ⟨Y, 0, none⟩ = some (.int .i64 7) ∧ (F1.alloc (.cells (robC symS nilS 7 0 (Tx.uS sl)) 46)).cell? ⟨Y, 1, none⟩ = some (.int .i64 0) ∧ (F1.alloc (.cells (robC symS nilS 7 0 (Tx.uS sl)) 46)).cell? ⟨Y, 2, none⟩ = some (.string (Tx.uS sl)) := ⟨by rw [HS.out.ms.mb.cell]; rfl, by rw [(HS.out.at (b := Y) (t := 30) (c := #[.int .i64 7, .int .i64 0, .string (Tx.uS sl)]) (by simp)).cell]; rfl, by rw [(HS.out.at (b := Y) (t := 30) (c := #[.int .i64 7, .int .i64 0, .string (Tx.uS sl)]) (by simp)).cell]; rfl, by rw [(HS.out.at (b := Y) (t := 30) (c := #[.int .i64 7, .int .i64 0, .string (Tx.uS sl)]) (by simp)).cell]; rfl⟩
      refine hK.out _ _ (fun _ => S2) ?_
      clear hK K
      (try simp only [Act.put, List.setIfInBounds_toArray, List.set_cons_zero, List.set_cons_succ])
      generalize F1.alloc (.cells (robC symS nilS 7 0 (Tx.uS sl)) 46) = F2 at *
      generalize F1.heap.size = q at *
      refine tillH_takeAny (i := 12) (oi := ?oo12) (v := ?vv12) ?hi12 (by kernel_rfl) (by kernel_rfl) (by kernel_rfl) ?hq12 (by kernel_rfl) ?hy12 (fun _ => S2) ?hh12
      case hi12 => (simp only [List.getElem?_toArray, List.getElem?_cons_succ, List.getElem?_cons_zero]; rfl)
      case hq12 => exact fun _ _ _ h => h
      case hy12 => exact Or.inl ⟨by rfl, by (intro W; go_simp; (try with_reducible rfl))⟩
      (try simp only [Act.put, List.setIfInBounds_toArray, List.set_cons_zero, List.set_cons_succ])
      refine tillH_next (rs := [14]) (by kernel_rfl) (by simp) ?_
      refine NextH.cons rfl (fun K hK => ?_) NextH.nil
      go_simp
      have vb := HS.out.at (b := w.heap.size + 1) (t := 30) (c := #[.int .i64 0, .int .i64 0, .string ⟨#[]⟩]) (by simp)
      have v0 : F2.cell? ⟨w.heap.size + 1, 0, none⟩ = some (.int .i64 0) := by rw [vb.cell]; rfl
      have vf0 : F2.frozen? ⟨w.heap.size + 1, 0, none⟩ = false := vb.frozen 0
      have v1 : F2.cell? ⟨w.heap.size + 1, 1, none⟩ = some (.int .i64 0) := by rw [vb.cell]; rfl
      have vf1 : F2.frozen? ⟨w.heap.size + 1, 1, none⟩ = false := vb.frozen 1
      have v2 : F2.cell? ⟨w.heap.size + 1, 2, none⟩ = some (.string ⟨#[]⟩) := by rw [vb.cell]; rfl
      have vf2 : F2.frozen? ⟨w.heap.size + 1, 2, none⟩ = false := vb.frozen 2
      go_simp
      have HS : Hid (Gs N m H A B ps w cv _ _ _ (((F2.setCell ⟨w.heap.size + 1, 0, none⟩ (.int .i64 8)).setCell ⟨w.heap.size + 1, 1, none⟩ (.int .i64 r)).setCell ⟨w.heap.size + 1, 2, none⟩ (.string ⟨#[]⟩))) := Lib.hid (HS.out.set (L1 := [(q, 46, robC symS nilS 7 0 (Tx.uS sl)), (mb, 99, #[.int .i64 7, .int .i64 0, .string (Tx.uS sl)]), (Y, 30, #[.int .i64 7, .int .i64 0, .string (Tx.uS sl)]), (w.heap.size, 24, #[.slice (some ⟨g, off, none⟩) pn pc])]) (L2 := [(w.heap.size + 1 + 1, 33, RZ)]) (upd3 F2 (w.heap.size + 1) (.int .i64 8) (.int .i64 r) (.string ⟨#[]⟩)) (((vb.set_ 0 (.int .i64 8)).set_ 1 (.int .i64 r)).set_ 2 (.string ⟨#[]⟩)))
      have S3 : (((F2.setCell ⟨w.heap.size + 1, 0, none⟩ (.int .i64 8)).setCell ⟨w.heap.size + 1, 1, none⟩ (.int .i64 r)).setCell ⟨w.heap.size + 1, 2, none⟩ (.string ⟨#[]⟩)).cell? ⟨m, 0, none⟩ = some (.pointer (some ⟨H, 0, none⟩)) ∧ (((F2.setCell ⟨w.heap.size + 1, 0, none⟩ (.int .i64 8)).setCell ⟨w.heap.size + 1, 1, none⟩ (.int .i64 r)).setCell ⟨w.heap.size + 1, 2, none⟩ (.string ⟨#[]⟩)).cell? ⟨Y, 0, none⟩ = some (.int .i64 7) ∧ (((F2.setCell ⟨w.heap.size + 1, 0, none⟩ (.int .i64 8)).setCell ⟨w.heap.size + 1, 1, none⟩ (.int .i64 r)).setCell ⟨w.heap.size + 1, 2, none⟩ (.string ⟨#[]⟩)).cell? ⟨Y, 1, none⟩ = some (.int .i64 0) ∧ (((F2.setCell ⟨w.heap.size + 1, 0, none⟩ (.int .i64 8)).setCell ⟨w.heap.size + 1, 1, none⟩ (.int .i64 r)).setCell ⟨w.heap.size + 1, 2, none⟩ (.string ⟨#[]⟩)).cell? ⟨Y, 2, none⟩ = some (.string (Tx.uS sl)) := ⟨by rw [HS.out.ms.mb.cell]; rfl, by rw [(HS.out.at (b := Y) (t := 30) (c := #[.int .i64 7, .int .i64 0, .string (Tx.uS sl)]) (by simp)).cell]; rfl, by rw [(HS.out.at (b := Y) (t := 30) (c := #[.int .i64 7, .int .i64 0, .string (Tx.uS sl)]) (by simp)).cell]; rfl, by rw [(HS.out.at (b := Y) (t := 30) (c := #[.int .i64 7, .int .i64 0, .string (Tx.uS sl)]) (by simp)).cell]; rfl⟩
      refine hK.out _ _ (fun _ => S3) ?_
      clear hK K vb v0 vf0 v1 vf1 v2 vf2
      (try simp only [Act.put, List.setIfInBounds_toArray, List.set_cons_zero, List.set_cons_succ])
      generalize ((F2.setCell ⟨w.heap.size + 1, 0, none⟩ (.int .i64 8)).setCell ⟨w.heap.size + 1, 1, none⟩ (.int .i64 r)).setCell ⟨w.heap.size + 1, 2, none⟩ (.string ⟨#[]⟩) = F3 at *
      refine tillH_next (rs := [15]) (by kernel_rfl) (by simp) ?_
      refine NextH.cons rfl (fun K hK => ?_) NextH.nil
      go_simp
      have vb := HS.out.at (b := w.heap.size + 1 + 1) (t := 33) (c := #[.int .i64 0, .int .i64 0, .string ⟨#[]⟩, nilP]) (by simp)
      have v0 : F3.cell? ⟨w.heap.size + 1 + 1, 0, none⟩ = some (.int .i64 0) := by rw [vb.cell]; rfl
      have vf0 : F3.frozen? ⟨w.heap.size + 1 + 1, 0, none⟩ = false := vb.frozen 0
      have v1 : F3.cell? ⟨w.heap.size + 1 + 1, 1, none⟩ = some (.int .i64 0) := by rw [vb.cell]; rfl
      have vf1 : F3.frozen? ⟨w.heap.size + 1 + 1, 1, none⟩ = false := vb.frozen 1
      have v2 : F3.cell? ⟨w.heap.size + 1 + 1, 2, none⟩ = some (.string ⟨#[]⟩) := by rw [vb.cell]; rfl
      have vf2 : F3.frozen? ⟨w.heap.size + 1 + 1, 2, none⟩ = false := vb.frozen 2
      have v3 : F3.cell? ⟨w.heap.size + 1 + 1, 3, none⟩ = some (nilP) := by rw [vb.cell]; rfl
      have vf3 : F3.frozen? ⟨w.heap.size + 1 + 1, 3, none⟩ = false := vb.frozen 3
      go_simp
      have HS : Hid (Gs N m H A B ps w cv _ _ _ ((((F3.setCell ⟨w.heap.size + 1 + 1, 0, none⟩ (.int .i64 8)).setCell ⟨w.heap.size + 1 + 1, 1, none⟩ (.int .i64 0)).setCell ⟨w.heap.size + 1 + 1, 2, none⟩ (.string ⟨#[]⟩)).setCell ⟨w.heap.size + 1 + 1, 3, none⟩ (.pointer (some ⟨q, 0, none⟩)))) := Lib.hid (HS.out.set (L1 := [(q, 46, robC symS nilS 7 0 (Tx.uS sl)), (mb, 99, #[.int .i64 7, .int .i64 0, .string (Tx.uS sl)]), (Y, 30, #[.int .i64 7, .int .i64 0, .string (Tx.uS sl)]), (w.heap.size, 24, #[.slice (some ⟨g, off, none⟩) pn pc]), (w.heap.size + 1, 30, #[.int .i64 8, .int .i64 r, .string ⟨#[]⟩])]) (L2 := []) (upd4 F3 (w.heap.size + 1 + 1) (.int .i64 8) (.int .i64 0) (.string ⟨#[]⟩) (.pointer (some ⟨q, 0, none⟩))) ((((vb.set_ 0 (.int .i64 8)).set_ 1 (.int .i64 0)).set_ 2 (.string ⟨#[]⟩)).set_ 3 (.pointer (some ⟨q, 0, none⟩))))
      refine hK.out _ _ (fun h => absurd h (by simp)) ?_
      clear hK K vb v0 vf0 v1 vf1 v2 vf2 v3 vf3
      (try simp only [Act.put, List.setIfInBounds_toArray, List.set_cons_zero, List.set_cons_succ])
      generalize (((F3.setCell ⟨w.heap.size + 1 + 1, 0, none⟩ (.int .i64 8)).setCell ⟨w.heap.size + 1 + 1, 1, none⟩ (.int .i64 0)).setCell ⟨w.heap.size + 1 + 1, 2, none⟩ (.string ⟨#[]⟩)).setCell ⟨w.heap.size + 1 + 1, 3, none⟩ (.pointer (some ⟨q, 0, none⟩)) = F4 at *
      have vb := HS.out.at (b := w.heap.size + 1) (t := 30) (c := #[.int .i64 8, .int .i64 r, .string ⟨#[]⟩]) (by simp)
      have rb := HS.out.at (b := w.heap.size + 1 + 1) (t := 33) (c := #[.int .i64 8, .int .i64 0, .string ⟨#[]⟩, .pointer (some ⟨q, 0, none⟩)]) (by simp)
      have v0 : F4.cell? ⟨w.heap.size + 1, 0, none⟩ = some (.int .i64 8) := by rw [vb.cell]; rfl
      have v1 : F4.cell? ⟨w.heap.size + 1, 1, none⟩ = some (.int .i64 r) := by rw [vb.cell]; rfl
      have v2 : F4.cell? ⟨w.heap.size + 1, 2, none⟩ = some (.string ⟨#[]⟩) := by rw [vb.cell]; rfl
      have r0 : F4.cell? ⟨w.heap.size + 1 + 1, 0, none⟩ = some (.int .i64 8) := by rw [rb.cell]; rfl
      have r1 : F4.cell? ⟨w.heap.size + 1 + 1, 1, none⟩ = some (.int .i64 0) := by rw [rb.cell]; rfl
      have r2 : F4.cell? ⟨w.heap.size + 1 + 1, 2, none⟩ = some (.string ⟨#[]⟩) := by rw [rb.cell]; rfl
      have r3 : F4.cell? ⟨w.heap.size + 1 + 1, 3, none⟩ = some (.pointer (some ⟨q, 0, none⟩)) := by rw [rb.cell]; rfl
      have vl := vb.lt
      have rl := rb.lt
      refine tillH_takeAny (i := 16) (oi := ?oo13) (v := ?vv13) ?hi13 (by kernel_rfl) (by kernel_rfl) (by kernel_rfl) ?hq13 (by kernel_rfl) ?hy13 (fun h => absurd h (by simp)) ?hh13
      case hi13 => (simp only [List.getElem?_toArray, List.getElem?_cons_succ, List.getElem?_cons_zero]; rfl)
      case hq13 => exact fun _ _ _ h => h
      case hy13 => exact Or.inl ⟨by rfl, by (intro W; go_simp; (try with_reducible rfl))⟩
      (try simp only [Act.put, List.setIfInBounds_toArray, List.set_cons_zero, List.set_cons_succ])
      refine tillH_done (by kernel_rfl) ?_ _
      refine HKV.out _ _ ?_
      go_wp2
      refine bodyPost_ret (v := .tuple #[VS 8 r ⟨#[]⟩, VR 8 0 ⟨#[]⟩ (.pointer (some ⟨q, 0, none⟩)), .int .i64 ((at_ + 1 : Nat) : Int)]) (by simp [results, Tryz.results8, go_sem, v0, v1, v2, r0, r1, r2, r3, vl, rl]) rfl ?_
      refine ⟨_, _, at_ + 1, .sy sl, rfl, growR_of HS.out (by simp; omega) ⟨r, mb, rfl, by rw [← hrr]; exact MarkAt.last cs mb, HS.out.at (by simp), Nat.not_lt.2 (HS.out.lo (t := 99) (c := #[.int .i64 7, .int .i64 0, .string (Tx.uS sl)]) (by simp))⟩ ⟨q, rfl, HS.out.at (by simp), Nat.not_lt.2 (HS.out.lo (t := 46) (c := robC symS nilS 7 0 (Tx.uS sl)) (by simp))⟩ ⟨HPR.out.fit, ?_⟩ (Or.inl (List.getElem?_eq_some_iff.1 HP.out.2).1) ?_⟩
      · have h1 : sn ≤ 600 := HLEN.out; have h2 : sl.length = sn := HPR.out.len; omega
      · rw [suP_step P at_ _ HP.out.2]; have h2 : sl.length = sn := HPR.out.len; show sl.length + suP P (at_ + 1) ≤ sn + suP P (at_ + 1); omega
    · go_simp
      have vb := HS.out.at (b := w.heap.size + 1) (t := 30) (c := #[.int .i64 0, .int .i64 0, .string ⟨#[]⟩]) (by simp)
      have v0 : F1.cell? ⟨w.heap.size + 1, 0, none⟩ = some (.int .i64 0) := by rw [vb.cell]; rfl
      have vf0 : F1.frozen? ⟨w.heap.size + 1, 0, none⟩ = false := vb.frozen 0
      have v1 : F1.cell? ⟨w.heap.size + 1, 1, none⟩ = some (.int .i64 0) := by rw [vb.cell]; rfl
      have vf1 : F1.frozen? ⟨w.heap.size + 1, 1, none⟩ = false := vb.frozen 1
      have v2 : F1.cell? ⟨w.heap.size + 1, 2, none⟩ = some (.string ⟨#[]⟩) := by rw [vb.cell]; rfl
      have vf2 : F1.frozen? ⟨w.heap.size + 1, 2, none⟩ = false := vb.frozen 2
      go_simp
      have HS : Hid (Gs N m H A B ps w cv _ _ _ (((F1.setCell ⟨w.heap.size + 1, 0, none⟩ (.int .i64 8)).setCell ⟨w.heap.size + 1, 1, none⟩ (.int .i64 r)).setCell ⟨w.heap.size + 1, 2, none⟩ (.string ⟨#[]⟩))) := Lib.hid (HS.out.set (L1 := [(mb, 99, #[.int .i64 7, .int .i64 0, .string (Tx.uS sl)]), (Y, 30, #[.int .i64 7, .int .i64 0, .string (Tx.uS sl)]), (w.heap.size, 24, #[.slice (some ⟨g, off, none⟩) pn pc])]) (L2 := [(w.heap.size + 1 + 1, 33, RZ)]) (upd3 F1 (w.heap.size + 1) (.int .i64 8) (.int .i64 r) (.string ⟨#[]⟩)) (((vb.set_ 0 (.int .i64 8)).set_ 1 (.int .i64 r)).set_ 2 (.string ⟨#[]⟩)))
      have S2 : (((F1.setCell ⟨w.heap.size + 1, 0, none⟩ (.int .i64 8)).setCell ⟨w.heap.size + 1, 1, none⟩ (.int .i64 r)).setCell ⟨w.heap.size + 1, 2, none⟩ (.string ⟨#[]⟩)).cell? ⟨m, 0, none⟩ = some (.pointer (some ⟨H, 0, none⟩)) ∧ (((F1.setCell ⟨w.heap.size + 1, 0, none⟩ (.int .i64 8)).setCell ⟨w.heap.size + 1, 1, none⟩ (.int .i64 r)).setCell ⟨w.heap.size + 1, 2, none⟩ (.string ⟨#[]⟩)).cell? ⟨Y, 0, none⟩ = some (.int .i64 7) ∧ (((F1.setCell ⟨w.heap.size + 1, 0, none⟩ (.int .i64 8)).setCell ⟨w.heap.size + 1, 1, none⟩ (.int .i64 r)).setCell ⟨w.heap.size + 1, 2, none⟩ (.string ⟨#[]⟩)).cell? ⟨Y, 1, none⟩ = some (.int .i64 0) ∧ (((F1.setCell ⟨w.heap.size + 1, 0, none⟩ (.int .i64 8)).setCell ⟨w.heap.size + 1, 1, none⟩ (.int .i64 r)).setCell ⟨w.heap.size + 1, 2, none⟩ (.string ⟨#[]⟩)).cell? ⟨Y, 2, none⟩ = some (.string (Tx.uS sl)) := ⟨by rw [HS.out.ms.mb.cell]; rfl, by rw [(HS.out.at (b := Y) (t := 30) (c := #[.int .i64 7, .int .i64 0, .string (Tx.uS sl)]) (by simp)).cell]; rfl, by rw [(HS.out.at (b := Y) (t := 30) (c := #[.int .i64 7, .int .i64 0, .string (Tx.uS sl)]) (by simp)).cell]; rfl, by rw [(HS.out.at (b := Y) (t := 30) (c := #[.int .i64 7, .int .i64 0, .string (Tx.uS sl)]) (by simp)).cell]; rfl⟩
      refine hK.out _ _ (fun _ => S2) ?_
      clear hK K vb v0 vf0 v1 vf1 v2 vf2
      (try simp only [Act.put, List.setIfInBounds_toArray, List.set_cons_zero, List.set_cons_succ])
      generalize ((F1.setCell ⟨w.heap.size + 1, 0, none⟩ (.int .i64 8)).setCell ⟨w.heap.size + 1, 1, none⟩ (.int .i64 r)).setCell ⟨w.heap.size + 1, 2, none⟩ (.string ⟨#[]⟩) = F2 at *
      refine tillH_next (rs := [11]) (by kernel_rfl) (by simp) ?_
      refine NextH.cons rfl (fun K hK => ?_) NextH.nil
      go_simp
      have HS := Lib.hid (HS.out.new 46 (robC symS nilS 7 0 (Tx.uS sl)) okTyO)
      have S3 : (F2.alloc (.cells (robC symS nilS 7 0 (Tx.uS sl)) 46)).cell? ⟨m, 0, none⟩ = some (.pointer (some ⟨H, 0, none⟩)) ∧ (F2.alloc (.cells (robC symS nilS 7 0 (Tx.uS sl)) 46)).cell? ⟨Y, 0, none⟩ = some (.int .i64 7) ∧ (F2.alloc (.cells (robC symS nilS 7 0 (Tx.uS sl)) 46)).cell? ⟨Y, 1, none⟩ = some (.int .i64 0) ∧ (F2.alloc (.cells (robC symS nilS 7 0 (Tx.uS sl)) 46)).cell? ⟨Y, 2, none⟩ = some (.string (Tx.uS sl)) := ⟨by rw [HS.out.ms.mb.cell]; rfl, by rw [(HS.out.at (b := Y) (t := 30) (c := #[.int .i64 7, .int .i64 0, .string (Tx.uS sl)]) (by simp)).cell]; rfl, by rw [(HS.out.at (b := Y) (t := 30) (c := #[.int .i64 7, .int .i64 0, .string (Tx.uS sl)]) (by simp)).cell]; rfl, by rw [(HS.out.at (b := Y) (t := 30) (c := #[.int .i64 7, .int .i64 0, .string (Tx.uS sl)]) (by simp)).cell]; rfl⟩
      refine hK.out _ _ (fun _ => S3) ?_
      clear hK K
      (try simp only [Act.put, List.setIfInBounds_toArray, List.set_cons_zero, List.set_cons_succ])
      generalize F2.alloc (.cells (robC symS nilS 7 0 (Tx.uS sl)) 46) = F3 at *
      generalize F2.heap.size = q at *
      refine tillH_takeAny (i := 12) (oi := ?oo14) (v := ?vv14) ?hi14 (by kernel_rfl) (by kernel_rfl) (by kernel_rfl) ?hq14 (by kernel_rfl) ?hy14 (fun _ => S3) ?hh14
      case hi14 => (simp only [List.getElem?_toArray, List.getElem?_cons_succ, List.getElem?_cons_zero]; rfl)
      case hq14 => exact fun _ _ _ h => h
      case hy14 => exact Or.inl ⟨by rfl, by (intro W; go_simp; (try with_reducible rfl))⟩
      (try simp only [Act.put, List.setIfInBounds_toArray, List.set_cons_zero, List.set_cons_succ])
      refine tillH_next (rs := [15]) (by kernel_rfl) (by simp) ?_
      refine NextH.cons rfl (fun K hK => ?_) NextH.nil
      go_simp
      have vb := HS.out.at (b := w.heap.size + 1 + 1) (t := 33) (c := #[.int .i64 0, .int .i64 0, .string ⟨#[]⟩, nilP]) (by simp)
      have v0 : F3.cell? ⟨w.heap.size + 1 + 1, 0, none⟩ = some (.int .i64 0) := by rw [vb.cell]; rfl
      have vf0 : F3.frozen? ⟨w.heap.size + 1 + 1, 0, none⟩ = false := vb.frozen 0
      have v1 : F3.cell? ⟨w.heap.size + 1 + 1, 1, none⟩ = some (.int .i64 0) := by rw [vb.cell]; rfl
      have vf1 : F3.frozen? ⟨w.heap.size + 1 + 1, 1, none⟩ = false := vb.frozen 1
      have v2 : F3.cell? ⟨w.heap.size + 1 + 1, 2, none⟩ = some (.string ⟨#[]⟩) := by rw [vb.cell]; rfl
      have vf2 : F3.frozen? ⟨w.heap.size + 1 + 1, 2, none⟩ = false := vb.frozen 2
      have v3 : F3.cell? ⟨w.heap.size + 1 + 1, 3, none⟩ = some (nilP) := by rw [vb.cell]; rfl
      have vf3 : F3.frozen? ⟨w.heap.size + 1 + 1, 3, none⟩ = false := vb.frozen 3
      go_simp
      have HS : Hid (Gs N m H A B ps w cv _ _ _ ((((F3.setCell ⟨w.heap.size + 1 + 1, 0, none⟩ (.int .i64 8)).setCell ⟨w.heap.size + 1 + 1, 1, none⟩ (.int .i64 0)).setCell ⟨w.heap.size + 1 + 1, 2, none⟩ (.string ⟨#[]⟩)).setCell ⟨w.heap.size + 1 + 1, 3, none⟩ (.pointer (some ⟨q, 0, none⟩)))) := Lib.hid (HS.out.set (L1 := [(q, 46, robC symS nilS 7 0 (Tx.uS sl)), (mb, 99, #[.int .i64 7, .int .i64 0, .string (Tx.uS sl)]), (Y, 30, #[.int .i64 7, .int .i64 0, .string (Tx.uS sl)]), (w.heap.size, 24, #[.slice (some ⟨g, off, none⟩) pn pc]), (w.heap.size + 1, 30, #[.int .i64 8, .int .i64 r, .string ⟨#[]⟩])]) (L2 := []) (upd4 F3 (w.heap.size + 1 + 1) (.int .i64 8) (.int .i64 0) (.string ⟨#[]⟩) (.pointer (some ⟨q, 0, none⟩))) ((((vb.set_ 0 (.int .i64 8)).set_ 1 (.int .i64 0)).set_ 2 (.string ⟨#[]⟩)).set_ 3 (.pointer (some ⟨q, 0, none⟩))))
      refine hK.out _ _ (fun h => absurd h (by simp)) ?_
      clear hK K vb v0 vf0 v1 vf1 v2 vf2 v3 vf3
      (try simp only [Act.put, List.setIfInBounds_toArray, List.set_cons_zero, List.set_cons_succ])
      generalize (((F3.setCell ⟨w.heap.size + 1 + 1, 0, none⟩ (.int .i64 8)).setCell ⟨w.heap.size + 1 + 1, 1, none⟩ (.int .i64 0)).setCell ⟨w.heap.size + 1 + 1, 2, none⟩ (.string ⟨#[]⟩)).setCell ⟨w.heap.size + 1 + 1, 3, none⟩ (.pointer (some ⟨q, 0, none⟩)) = F4 at *
      have vb := HS.out.at (b := w.heap.size + 1) (t := 30) (c := #[.int .i64 8, .int .i64 r, .string ⟨#[]⟩]) (by simp)
      have rb := HS.out.at (b := w.heap.size + 1 + 1) (t := 33) (c := #[.int .i64 8, .int .i64 0, .string ⟨#[]⟩, .pointer (some ⟨q, 0, none⟩)]) (by simp)
      have v0 : F4.cell? ⟨w.heap.size + 1, 0, none⟩ = some (.int .i64 8) := by rw [vb.cell]; rfl
      have v1 : F4.cell? ⟨w.heap.size + 1, 1, none⟩ = some (.int .i64 r) := by rw [vb.cell]; rfl
      have v2 : F4.cell? ⟨w.heap.size + 1, 2, none⟩ = some (.string ⟨#[]⟩) := by rw [vb.cell]; rfl
      have r0 : F4.cell? ⟨w.heap.size + 1 + 1, 0, none⟩ = some (.int .i64 8) := by rw [rb.cell]; rfl
      have r1 : F4.cell? ⟨w.heap.size + 1 + 1, 1, none⟩ = some (.int .i64 0) := by rw [rb.cell]; rfl
      have r2 : F4.cell? ⟨w.heap.size + 1 + 1, 2, none⟩ = some (.string ⟨#[]⟩) := by rw [rb.cell]; rfl
      have r3 : F4.cell? ⟨w.heap.size + 1 + 1, 3, none⟩ = some (.pointer (some ⟨q, 0, none⟩)) := by rw [rb.cell]; rfl
      have vl := vb.lt
      have rl := rb.lt
      refine tillH_takeAny (i := 16) (oi := ?oo15) (v := ?vv15) ?hi15 (by kernel_rfl) (by kernel_rfl) (by kernel_rfl) ?hq15 (by kernel_rfl) ?hy15 (fun h => absurd h (by simp)) ?hh15
      case hi15 => (simp only [List.getElem?_toArray, List.getElem?_cons_succ, List.getElem?_cons_zero]; rfl)
      case hq15 => exact fun _ _ _ h => h
      case hy15 => exact Or.inl ⟨by rfl, by (intro W; go_simp; (try with_reducible rfl))⟩
      (try simp only [Act.put, List.setIfInBounds_toArray, List.set_cons_zero, List.set_cons_succ])
      refine tillH_done (by kernel_rfl) ?_ _
      refine HKV.out _ _ ?_
      go_wp2
      refine bodyPost_ret (v := .tuple #[VS 8 r ⟨#[]⟩, VR 8 0 ⟨#[]⟩ (.pointer (some ⟨q, 0, none⟩)), .int .i64 ((at_ + 1 : Nat) : Int)]) (by simp [results, Tryz.results8, go_sem, v0, v1, v2, r0, r1, r2, r3, vl, rl]) rfl ?_
      refine ⟨_, _, at_ + 1, .sy sl, rfl, growR_of HS.out (by simp; omega) ⟨r, mb, rfl, by rw [← hrr]; exact MarkAt.last cs mb, HS.out.at (by simp), Nat.not_lt.2 (HS.out.lo (t := 99) (c := #[.int .i64 7, .int .i64 0, .string (Tx.uS sl)]) (by simp))⟩ ⟨q, rfl, HS.out.at (by simp), Nat.not_lt.2 (HS.out.lo (t := 46) (c := robC symS nilS 7 0 (Tx.uS sl)) (by simp))⟩ ⟨HPR.out.fit, ?_⟩ (Or.inl (List.getElem?_eq_some_iff.1 HP.out.2).1) ?_⟩
      · have h1 : sn ≤ 600 := HLEN.out; have h2 : sl.length = sn := HPR.out.len; omega
      · rw [suP_step P at_ _ HP.out.2]; have h2 : sl.length = sn := HPR.out.len; show sl.length + suP P (at_ + 1) ≤ sn + suP P (at_ + 1); omega
  · go_simp
    have HS := Lib.hid (HS.out.new 46 (robC symS nilS 7 0 (Tx.uS sl)) okTyO)
    have S1 : (E1.alloc (.cells (robC symS nilS 7 0 (Tx.uS sl)) 46)).cell? ⟨m, 0, none⟩ = some (.pointer (some ⟨H, 0, none⟩)) ∧ (E1.alloc (.cells (robC symS nilS 7 0 (Tx.uS sl)) 46)).cell? ⟨Y, 0, none⟩ = some (.int .i64 7) ∧ (E1.alloc (.cells (robC symS nilS 7 0 (Tx.uS sl)) 46)).cell? ⟨Y, 1, none⟩ = some (.int .i64 0) ∧ (E1.alloc (.cells (robC symS nilS 7 0 (Tx.uS sl)) 46)).cell? ⟨Y, 2, none⟩ = some (.string (Tx.uS sl)) := ⟨by rw [HS.out.ms.mb.cell]; rfl, by rw [(HS.out.at (b := Y) (t := 30) (c := #[.int .i64 7, .int .i64 0, .string (Tx.uS sl)]) (by simp)).cell]; rfl, by rw [(HS.out.at (b := Y) (t := 30) (c := #[.int .i64 7, .int .i64 0, .string (Tx.uS sl)]) (by simp)).cell]; rfl, by rw [(HS.out.at (b := Y) (t := 30) (c := #[.int .i64 7, .int .i64 0, .string (Tx.uS sl)]) (by simp)).cell]; rfl⟩
    refine hK.out _ _ (fun _ => S1) ?_
    clear hK K
    (try simp only [Act.put, List.setIfInBounds_toArray, List.set_cons_zero, List.set_cons_succ])
    generalize E1.alloc (.cells (robC symS nilS 7 0 (Tx.uS sl)) 46) = F1 at *
    generalize E1.heap.size = q at *
    refine tillH_takeAny (i := 12) (oi := ?oo16) (v := ?vv16) ?hi16 (by kernel_rfl) (by kernel_rfl) (by kernel_rfl) ?hq16 (by kernel_rfl) ?hy16 (fun _ => S1) ?hh16
    case hi16 => (simp only [List.getElem?_toArray, List.getElem?_cons_succ, List.getElem?_cons_zero]; rfl)
    case hq16 => exact fun _ _ _ h => h
    case hy16 => exact Or.inl ⟨by rfl, by (intro W; go_simp; (try with_reducible rfl))⟩
    (try simp only [Act.put, List.setIfInBounds_toArray, List.set_cons_zero, List.set_cons_succ])
    refine tillH_next (rs := [5]) (by kernel_rfl) (by simp) ?_
    refine NextH.cons rfl (fun K hK => ?_) NextH.nil
    go_simp
    refine (HS.out.ms.symbol (7, 0, Tx.uS sl) hcs (Nat.le_trans HS.out.ms.low.2.2.1 HS.out.ms.low.2.2.2)).mono ?_
    rintro e F2 ⟨mb, cv2, rfl, hM2, hmk, hmb, hU, hO⟩
    have HS := Lib.hid (HS.out.moreB (ds := [(some (tMark, mb), false)]) hM2 hU hO hmb hmk okTyM)
    dsimp only at HS
    clear hM2 hmk hmb hU hO
    rw [hrr]
    have S2 : F2.cell? ⟨m, 0, none⟩ = some (.pointer (some ⟨H, 0, none⟩)) ∧ F2.cell? ⟨Y, 0, none⟩ = some (.int .i64 7) ∧ F2.cell? ⟨Y, 1, none⟩ = some (.int .i64 0) ∧ F2.cell? ⟨Y, 2, none⟩ = some (.string (Tx.uS sl)) := ⟨by rw [HS.out.ms.mb.cell]; rfl, by rw [(HS.out.at (b := Y) (t := 30) (c := #[.int .i64 7, .int .i64 0, .string (Tx.uS sl)]) (by simp)).cell]; rfl, by rw [(HS.out.at (b := Y) (t := 30) (c := #[.int .i64 7, .int .i64 0, .string (Tx.uS sl)]) (by simp)).cell]; rfl, by rw [(HS.out.at (b := Y) (t := 30) (c := #[.int .i64 7, .int .i64 0, .string (Tx.uS sl)]) (by simp)).cell]; rfl⟩
    refine hK.out _ _ (fun _ => S2) ?_
    clear hK K
    (try simp only [Act.put, List.setIfInBounds_toArray, List.set_cons_zero, List.set_cons_succ])
    refine tillH_next (rs := [14]) (by kernel_rfl) (by simp) ?_
    refine NextH.cons rfl (fun K hK => ?_) NextH.nil
    go_simp
    have vb := HS.out.at (b := w.heap.size + 1) (t := 30) (c := #[.int .i64 0, .int .i64 0, .string ⟨#[]⟩]) (by simp)
    have v0 : F2.cell? ⟨w.heap.size + 1, 0, none⟩ = some (.int .i64 0) := by rw [vb.cell]; rfl
    have vf0 : F2.frozen? ⟨w.heap.size + 1, 0, none⟩ = false := vb.frozen 0
    have v1 : F2.cell? ⟨w.heap.size + 1, 1, none⟩ = some (.int .i64 0) := by rw [vb.cell]; rfl
    have vf1 : F2.frozen? ⟨w.heap.size + 1, 1, none⟩ = false := vb.frozen 1
    have v2 : F2.cell? ⟨w.heap.size + 1, 2, none⟩ = some (.string ⟨#[]⟩) := by rw [vb.cell]; rfl
    have vf2 : F2.frozen? ⟨w.heap.size + 1, 2, none⟩ = false := vb.frozen 2
    go_simp
    have HS : Hid (Gs N m H A B ps w cv _ _ _ (((F2.setCell ⟨w.heap.size + 1, 0, none⟩ (.int .i64 8)).setCell ⟨w.heap.size + 1, 1, none⟩ (.int .i64 r)).setCell ⟨w.heap.size + 1, 2, none⟩ (.string ⟨#[]⟩))) := Lib.hid (HS.out.set (L1 := [(mb, 99, #[.int .i64 7, .int .i64 0, .string (Tx.uS sl)]), (q, 46, robC symS nilS 7 0 (Tx.uS sl)), (Y, 30, #[.int .i64 7, .int .i64 0, .string (Tx.uS sl)]), (w.heap.size, 24, #[.slice (some ⟨g, off, none⟩) pn pc])]) (L2 := [(w.heap.size + 1 + 1, 33, RZ)]) (upd3 F2 (w.heap.size + 1) (.int .i64 8) (.int .i64 r) (.string ⟨#[]⟩)) (((vb.set_ 0 (.int .i64 8)).set_ 1 (.int .i64 r)).set_ 2 (.string ⟨#[]⟩)))
    have S3 : (((F2.setCell ⟨w.heap.size + 1, 0, none⟩ (.int .i64 8)).setCell ⟨w.heap.size + 1, 1, none⟩ (.int .i64 r)).setCell ⟨w.heap.size + 1, 2, none⟩ (.string ⟨#[]⟩)).cell? ⟨m, 0, none⟩ = some (.pointer (some ⟨H, 0, none⟩)) ∧ (((F2.setCell ⟨w.heap.size + 1, 0, none⟩ (.int .i64 8)).setCell ⟨w.heap.size + 1, 1, none⟩ (.int .i64 r)).setCell ⟨w.heap.size + 1, 2, none⟩ (.string ⟨#[]⟩)).cell? ⟨Y, 0, none⟩ = some (.int .i64 7) ∧ (((F2.setCell ⟨w.heap.size + 1, 0, none⟩ (.int .i64 8)).setCell ⟨w.heap.size + 1, 1, none⟩ (.int .i64 r)).setCell ⟨w.heap.size + 1, 2, none⟩ (.string ⟨#[]⟩)).cell? ⟨Y, 1, none⟩ = some (.int .i64 0) ∧ (((F2.setCell ⟨w.heap.size + 1, 0, none⟩ (.int .i64 8)).setCell ⟨w.heap.size + 1, 1, none⟩ (.int .i64 r)).setCell ⟨w.heap.size + 1, 2, none⟩ (.string ⟨#[]⟩)).cell? ⟨Y, 2, none⟩ = some (.string (Tx.uS sl)) := ⟨by rw [HS.out.ms.mb.cell]; rfl, by rw [(HS.out.at (b := Y) (t := 30) (c := #[.int .i64 7, .int .i64 0, .string (Tx.uS sl)]) (by simp)).cell]; rfl, by rw [(HS.out.at (b := Y) (t := 30) (c := #[.int .i64 7, .int .i64 0, .string (Tx.uS sl)]) (by simp)).cell]; rfl, by rw [(HS.out.at (b := Y) (t := 30) (c := #[.int .i64 7, .int .i64 0, .string (Tx.uS sl)]) (by simp)).cell]; rfl⟩
    refine hK.out _ _ (fun _ => S3) ?_
    clear hK K vb v0 vf0 v1 vf1 v2 vf2
    (try simp only [Act.put, List.setIfInBounds_toArray, List.set_cons_zero, List.set_cons_succ])
    generalize ((F2.setCell ⟨w.heap.size + 1, 0, none⟩ (.int .i64 8)).setCell ⟨w.heap.size + 1, 1, none⟩ (.int .i64 r)).setCell ⟨w.heap.size + 1, 2, none⟩ (.string ⟨#[]⟩) = F3 at *
    refine tillH_next (rs := [15]) (by kernel_rfl) (by simp) ?_
    refine NextH.cons rfl (fun K hK => ?_) NextH.nil
    go_simp
    have vb := HS.out.at (b := w.heap.size + 1 + 1) (t := 33) (c := #[.int .i64 0, .int .i64 0, .string ⟨#[]⟩, nilP]) (by simp)
    have v0 : F3.cell? ⟨w.heap.size + 1 + 1, 0, none⟩ = some (.int .i64 0) := by rw [vb.cell]; rfl
    have vf0 : F3.frozen? ⟨w.heap.size + 1 + 1, 0, none⟩ = false := vb.frozen 0
    have v1 : F3.cell? ⟨w.heap.size + 1 + 1, 1, none⟩ = some (.int .i64 0) := by rw [vb.cell]; rfl
    have vf1 : F3.frozen? ⟨w.heap.size + 1 + 1, 1, none⟩ = false := vb.frozen 1
    have v2 : F3.cell? ⟨w.heap.size + 1 + 1, 2, none⟩ = some (.string ⟨#[]⟩) := by rw [vb.cell]; rfl
    have vf2 : F3.frozen? ⟨w.heap.size + 1 + 1, 2, none⟩ = false := vb.frozen 2
    have v3 : F3.cell? ⟨w.heap.size + 1 + 1, 3, none⟩ = some (nilP) := by rw [vb.cell]; rfl
    have vf3 : F3.frozen? ⟨w.heap.size + 1 + 1, 3, none⟩ = false := vb.frozen 3
    go_simp
    have HS : Hid (Gs N m H A B ps w cv _ _ _ ((((F3.setCell ⟨w.heap.size + 1 + 1, 0, none⟩ (.int .i64 8)).setCell ⟨w.heap.size + 1 + 1, 1, none⟩ (.int .i64 0)).setCell ⟨w.heap.size + 1 + 1, 2, none⟩ (.string ⟨#[]⟩)).setCell ⟨w.heap.size + 1 + 1, 3, none⟩ (.pointer (some ⟨q, 0, none⟩)))) := Lib.hid (HS.out.set (L1 := [(mb, 99, #[.int .i64 7, .int .i64 0, .string (Tx.uS sl)]), (q, 46, robC symS nilS 7 0 (Tx.uS sl)), (Y, 30, #[.int .i64 7, .int .i64 0, .string (Tx.uS sl)]), (w.heap.size, 24, #[.slice (some ⟨g, off, none⟩) pn pc]), (w.heap.size + 1, 30, #[.int .i64 8, .int .i64 r, .string ⟨#[]⟩])]) (L2 := []) (upd4 F3 (w.heap.size + 1 + 1) (.int .i64 8) (.int .i64 0) (.string ⟨#[]⟩) (.pointer (some ⟨q, 0, none⟩))) ((((vb.set_ 0 (.int .i64 8)).set_ 1 (.int .i64 0)).set_ 2 (.string ⟨#[]⟩)).set_ 3 (.pointer (some ⟨q, 0, none⟩))))
    refine hK.out _ _ (fun h => absurd h (by simp)) ?_
    clear hK K vb v0 vf0 v1 vf1 v2 vf2 v3 vf3
    (try simp only [Act.put, List.setIfInBounds_toArray, List.set_cons_zero, List.set_cons_succ])
    generalize (((F3.setCell ⟨w.heap.size + 1 + 1, 0, none⟩ (.int .i64 8)).setCell ⟨w.heap.size + 1 + 1, 1, none⟩ (.int .i64 0)).setCell ⟨w.heap.size + 1 + 1, 2, none⟩ (.string ⟨#[]⟩)).setCell ⟨w.heap.size + 1 + 1, 3, none⟩ (.pointer (some ⟨q, 0, none⟩)) = F4 at *
    have vb := HS.out.at (b := w.heap.size + 1) (t := 30) (c := #[.int .i64 8, .int .i64 r, .string ⟨#[]⟩]) (by simp)
    have rb := HS.out.at (b := w.heap.size + 1 + 1) (t := 33) (c := #[.int .i64 8, .int .i64 0, .string ⟨#[]⟩, .pointer (some ⟨q, 0, none⟩)]) (by simp)
    have v0 : F4.cell? ⟨w.heap.size + 1, 0, none⟩ = some (.int .i64 8) := by rw [vb.cell]; rfl
    have v1 : F4.cell? ⟨w.heap.size + 1, 1, none⟩ = some (.int .i64 r) := by rw [vb.cell]; rfl
    have v2 : F4.cell? ⟨w.heap.size + 1, 2, none⟩ = some (.string ⟨#[]⟩) := by rw [vb.cell]; rfl
    have r0 : F4.cell? ⟨w.heap.size + 1 + 1, 0, none⟩ = some (.int .i64 8) := by rw [rb.cell]; rfl
    have r1 : F4.cell? ⟨w.heap.size + 1 + 1, 1, none⟩ = some (.int .i64 0) := by rw [rb.cell]; rfl
    have r2 : F4.cell? ⟨w.heap.size + 1 + 1, 2, none⟩ = some (.string ⟨#[]⟩) := by rw [rb.cell]; rfl
    have r3 : F4.cell? ⟨w.heap.size + 1 + 1, 3, none⟩ = some (.pointer (some ⟨q, 0, none⟩)) := by rw [rb.cell]; rfl
    have vl := vb.lt
    have rl := rb.lt
    refine tillH_takeAny (i := 16) (oi := ?oo17) (v := ?vv17) ?hi17 (by kernel_rfl) (by kernel_rfl) (by kernel_rfl) ?hq17 (by kernel_rfl) ?hy17 (fun h => absurd h (by simp)) ?hh17
    case hi17 => (simp only [List.getElem?_toArray, List.getElem?_cons_succ, List.getElem?_cons_zero]; rfl)
    case hq17 => exact fun _ _ _ h => h
    case hy17 => exact Or.inl ⟨by rfl, by (intro W; go_simp; (try with_reducible rfl))⟩
    (try simp only [Act.put, List.setIfInBounds_toArray, List.set_cons_zero, List.set_cons_succ])
    refine tillH_done (by kernel_rfl) ?_ _
    refine HKV.out _ _ ?_
    go_wp2
    refine bodyPost_ret (v := .tuple #[VS 8 r ⟨#[]⟩, VR 8 0 ⟨#[]⟩ (.pointer (some ⟨q, 0, none⟩)), .int .i64 ((at_ + 1 : Nat) : Int)]) (by simp [results, Tryz.results8, go_sem, v0, v1, v2, r0, r1, r2, r3, vl, rl]) rfl ?_
    refine ⟨_, _, at_ + 1, .sy sl, rfl, growR_of HS.out (by simp; omega) ⟨r, mb, rfl, by rw [← hrr]; exact MarkAt.last cs mb, HS.out.at (by simp), Nat.not_lt.2 (HS.out.lo (t := 99) (c := #[.int .i64 7, .int .i64 0, .string (Tx.uS sl)]) (by simp))⟩ ⟨q, rfl, HS.out.at (by simp), Nat.not_lt.2 (HS.out.lo (t := 46) (c := robC symS nilS 7 0 (Tx.uS sl)) (by simp))⟩ ⟨HPR.out.fit, ?_⟩ (Or.inl (List.getElem?_eq_some_iff.1 HP.out.2).1) ?_⟩
    · have h1 : sn ≤ 600 := HLEN.out; have h2 : sl.length = sn := HPR.out.len; omega
    · rw [suP_step P at_ _ HP.out.2]; have h2 : sl.length = sn := HPR.out.len; show sl.length + suP P (at_ + 1) ≤ sn + suP P (at_ + 1); omega
end Go.Proofs.YtdeboajjhpecbaaGreatDoor.Hp
