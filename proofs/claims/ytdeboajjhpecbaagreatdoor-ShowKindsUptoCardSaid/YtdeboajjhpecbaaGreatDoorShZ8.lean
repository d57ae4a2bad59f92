/- ShZ8: several texts in one. -/
import Derived.Test.YtdeboajjhpecbaaGreatDoorShZy
import Derived.Test.YtdeboajjhpecbaaGreatDoorShS
/- Show: grow, of a string, of a symbol. -/
set_option linter.unusedVariables false
set_option linter.unusedSimpArgs false
namespace Go.Proofs.YtdeboajjhpecbaaGreatDoor.Hp
open Go.RowKit Go.Proofs.YtdeboajjhpecbaaGreatDoor Go.Shelf
theorem ok_str (l : List Nat) (hf : Tx.Fits l) (hl : l.length ≤ 600) : OkLf 7 0 l :=
  ⟨⟨by decide, by decide, fun a b => by omega, fun h => absurd rfl h, fun h => by omega, ⟨l, hf, rfl, by omega⟩⟩, by decide, by decide, fun h => absurd rfl h, hf, hl⟩
set_option maxRecDepth 100000 in
set_option maxHeartbeats 8000000 in
theorem grow_str {N m H A B : Nat} {ps : List Int} {P : List PartV} {cv : Value} {cs : List Cell} {w : World} {at_ pn pc : Nat} {pa : Option Addr} (hM : Ms N w m H A B cv cs ps) (hP : PlanR w pa pn P) (hpn : pn ≤ 600) (hlen : ∀ p ∈ P, p.len ≤ 600) (deep : Int) (hat : at_ < pn) (p : PartV) (hp : P[at_]? = some p) (hk : (wrap64 (p.k.tmod 12 + 12)).tmod 12 = 7) : Calls Tryz.prog 8 #[.pointer (some ⟨m, 0, none⟩), .agg #[.slice pa pn pc], .int .i64 (at_ : Int), .int .i64 deep] w (GrowP N m H A B ps P cv cs w at_) := by
  have HK := Lib.hid hk
  have HLEN := Lib.hid (hlen p (List.mem_of_getElem? hp))
  obtain ⟨g, off, rfl, hgl, hcell⟩ := hP.2.1 (by omega)
  have y0 := hcell at_ p hp 0 (by decide)
  have y1 := hcell at_ p hp 1 (by decide)
  have y2 := hcell at_ p hp 2 (by decide)
  have y0' : (gW (some ⟨g, off, none⟩) pn pc w).cell? ⟨g, off + at_ * 3, none⟩ = some (.int .i64 p.k) := ((gb_of _ pn pc w).bel.cell (p := ⟨g, off + at_ * 3, none⟩) hgl).trans y0
  have y1' : (gW (some ⟨g, off, none⟩) pn pc w).cell? ⟨g, off + at_ * 3 + 1, none⟩ = some (.int .i64 p.n) := ((gb_of _ pn pc w).bel.cell (p := ⟨g, off + at_ * 3 + 1, none⟩) hgl).trans y1
  have y2' : (gW (some ⟨g, off, none⟩) pn pc w).cell? ⟨g, off + at_ * 3 + 2, none⟩ = some (.slice p.a p.len p.cap) := ((gb_of _ pn pc w).bel.cell (p := ⟨g, off + at_ * 3 + 2, none⟩) hgl).trans y2
  have HG := Lib.hid (gb_of (some ⟨g, off, none⟩) pn pc w)
  have HM := Lib.hid hM
  have HP := Lib.hid (And.intro hP hp)
  have hatn : at_ < pn := hat
  have t1 : decide ((at_ : Int) ≥ (pn : Int)) = false := by simp; omega
  have z0 : (0 : Int) ≤ (at_ : Int) := by omega
  have z1 : (at_ : Int) < (pn : Int) := by omega
  have ac : IntKind.i64.wrap ((at_ : Int) + 1) = (at_ : Int) + 1 := IntWalk.i64_in _ (by omega)
  obtain ⟨pk, pN, sa, sn, sc, sl⟩ := p
  dsimp only at y0' y1' y2'
  clear hcell y0 y1 y2 hP hM hp hat
  unfold gW at y0' y1' y2'
  clear hk hlen
  go_enter Tryz.func8, Tryz.ntmps8
  go_upto_region 1 with fail
  unfold gW at HG
  generalize (((w.alloc (.cells #[.slice (some ⟨g, off, none⟩) pn pc] 24)).alloc (.cells VZ 30)).alloc (.cells RZ 33)) = W at *
  have q0 : W.cell? ⟨w.heap.size, 0, none⟩ = some (.slice (some ⟨g, off, none⟩) pn pc) := by rw [HG.out.pb.cell]; rfl
  go_upto_region 5 with fail
  rw [HK.out]
  clear y0' y1' y2' q0
  have ba := (Below.refl W.heap.size W).alloc (Nat.le_refl _) (.cells #[.int .i64 pk, .int .i64 pN, .slice sa sn sc] 51)
  have HG := Lib.hid (And.intro (HG.out.below ba) (And.intro (Blk.new W 51 #[.int .i64 pk, .int .i64 pN, .slice sa sn sc]) HG.out.rb.lt))
  generalize W.alloc (.cells #[.int .i64 pk, .int .i64 pN, .slice sa sn sc] 51) = W2 at *
  generalize W.heap.size = X at *
  clear ba
  have HPR := Lib.hid (HP.out.1.2.2 _ (List.mem_of_getElem? HP.out.2))
  go_upto_region 16 with fail
  refine wp_var0 (fun KV HKV => ?_)
  refine wp_region_till (m := 8) (S := (fun W => W.cell? ⟨X, 2, none⟩ = some (.slice sa sn sc))) (by kernel_rfl) ?_
  have e4 : W2.drew = W2.drewN 1 := rfl
  rw [e4]
  have b6 := below_drw (Below.refl W2.heap.size W2) 1
  have HG := Lib.hid (And.intro (HG.out.1.below b6) (And.intro (HG.out.2.1.below b6 HG.out.2.1.lt) HG.out.2.2))
  have S0 : (W2.drewN 1).cell? ⟨X, 2, none⟩ = some (.slice sa sn sc) := by rw [HG.out.2.1.cell]; rfl
  clear e4 b6
  generalize W2.drewN 1 = E1 at *
  change tillH _ _ _ _ _ _ 14 #[false, false, false, false, false, false, false, false, false, false, false, false, false, false] _ _
  refine tillH_takeAny (i := 0) (oi := ?oo1) (v := ?vv1) ?hi1 (by kernel_rfl) (by kernel_rfl) (by kernel_rfl) ?hq1 (by kernel_rfl) ?hy1 (fun _ => S0) ?hh1
  case hi1 => (simp only [List.getElem?_toArray, List.getElem?_cons_succ, List.getElem?_cons_zero]; rfl)
  case hq1 => exact fun _ _ _ h => h
  case hy1 => exact Or.inl ⟨by rfl, by (intro W; go_simp; (try with_reducible rfl))⟩
  (try simp only [Act.put, List.setIfInBounds_toArray, List.set_cons_zero, List.set_cons_succ])
  refine tillH_takeAny (i := 1) (oi := ?oo2) (v := ?vv2) ?hi2 (by kernel_rfl) (by kernel_rfl) (by kernel_rfl) ?hq2 (by kernel_rfl) ?hy2 (fun _ => S0) ?hh2
  case hi2 => (simp only [List.getElem?_toArray, List.getElem?_cons_succ, List.getElem?_cons_zero]; rfl)
  case hq2 => exact fun _ _ _ h => h
  case hy2 => exact Or.inl ⟨by rfl, by (intro W; go_simp; (try with_reducible rfl))⟩
  (try simp only [Act.put, List.setIfInBounds_toArray, List.set_cons_zero, List.set_cons_succ])
  refine tillH_takeC [3] (i := 2) (oi := ?oo3) (v := ?vv3) ?hi3 (by kernel_rfl) (by kernel_rfl) (by kernel_rfl) ?hq3 (by kernel_rfl) (by kernel_rfl) (by kernel_rfl) ?hy3 S0 ?hh3
  case hi3 => (simp only [List.getElem?_toArray, List.getElem?_cons_succ, List.getElem?_cons_zero]; rfl)
  case hq3 => exact fun _ _ _ h => h
  case hy3 => exact Or.inl ⟨by rfl, by (intro W hSw; (try obtain s0 := hSw); go_simp; (try with_reducible rfl))⟩
  (try simp only [Act.put, List.setIfInBounds_toArray, List.set_cons_zero, List.set_cons_succ])
  refine tillH_takeAny (i := 5) (oi := ?oo4) (v := ?vv4) ?hi4 (by kernel_rfl) (by kernel_rfl) (by kernel_rfl) ?hq4 (by kernel_rfl) ?hy4 (fun _ => S0) ?hh4
  case hi4 => (simp only [List.getElem?_toArray, List.getElem?_cons_succ, List.getElem?_cons_zero]; rfl)
  case hq4 => exact fun _ _ _ h => h
  case hy4 => exact Or.inl ⟨by rfl, by (intro W; go_simp; (try with_reducible rfl))⟩
  (try simp only [Act.put, List.setIfInBounds_toArray, List.set_cons_zero, List.set_cons_succ])
  refine tillH_takeAny (i := 6) (oi := ?oo5) (v := ?vv5) ?hi5 (by kernel_rfl) (by kernel_rfl) (by kernel_rfl) ?hq5 (by kernel_rfl) ?hy5 (fun _ => S0) ?hh5
  case hi5 => (simp only [List.getElem?_toArray, List.getElem?_cons_succ, List.getElem?_cons_zero]; rfl)
  case hq5 => exact fun _ _ _ h => h
  case hy5 => exact Or.inl ⟨by rfl, by (intro W; go_simp; (try with_reducible rfl))⟩
  (try simp only [Act.put, List.setIfInBounds_toArray, List.set_cons_zero, List.set_cons_succ])
  refine tillH_take (i := 7) (oi := ?oo6) (v := ?vv6) ?hi6 (by kernel_rfl) (by kernel_rfl) (by kernel_rfl) ?hq6 (by kernel_rfl) (by kernel_rfl) (by kernel_rfl) ?hy6 S0 ?hh6
  case hi6 => (simp only [List.getElem?_toArray, List.getElem?_cons_succ, List.getElem?_cons_zero]; rfl)
  case hq6 => exact fun _ _ _ h => h
  case hy6 => exact Or.inl ⟨by rfl, by (intro W hSw; (try obtain s0 := hSw); go_simp; (try with_reducible rfl))⟩
  (try simp only [Act.put, List.setIfInBounds_toArray, List.set_cons_zero, List.set_cons_succ])
  refine tillH_takeAny (i := 10) (oi := ?oo7) (v := ?vv7) ?hi7 (by kernel_rfl) (by kernel_rfl) (by kernel_rfl) ?hq7 (by kernel_rfl) ?hy7 (fun _ => S0) ?hh7
  case hi7 => (simp only [List.getElem?_toArray, List.getElem?_cons_succ, List.getElem?_cons_zero]; rfl)
  case hq7 => exact fun _ _ _ h => h
  case hy7 => exact Or.inl ⟨by rfl, by (intro W; go_simp; (try with_reducible rfl))⟩
  (try simp only [Act.put, List.setIfInBounds_toArray, List.set_cons_zero, List.set_cons_succ])
  refine tillH_next (rs := [3]) (by kernel_rfl) (by simp) ?_
  refine NextH.cons rfl (fun K hK => ?_) NextH.nil
  go_simp
  refine (Tx.str14_any sa sn sc sl E1 (HPR.out.row.below HG.out.1.bel) HPR.out.fit (by have := HLEN.out; dsimp only at this; omega)).mono ?_
  rintro e E2 ⟨rfl, b6⟩
  have HG := Lib.hid (And.intro (HG.out.1.below b6) (And.intro (HG.out.2.1.below b6 HG.out.2.1.lt) HG.out.2.2))
  have S1 : E2.cell? ⟨X, 2, none⟩ = some (.slice sa sn sc) := by rw [HG.out.2.1.cell]; rfl
  clear b6
  refine hK.out _ _ (fun _ => S1) ?_
  clear hK K
  (try simp only [Act.put, List.setIfInBounds_toArray, List.set_cons_zero, List.set_cons_succ])
  refine tillH_takeAny (i := 4) (oi := ?oo8) (v := ?vv8) ?hi8 (by kernel_rfl) (by kernel_rfl) (by kernel_rfl) ?hq8 (by kernel_rfl) ?hy8 (fun _ => S1) ?hh8
  case hi8 => (simp only [List.getElem?_toArray, List.getElem?_cons_succ, List.getElem?_cons_zero]; rfl)
  case hq8 => exact fun _ _ _ h => h
  case hy8 => exact Or.inl ⟨by rfl, by (intro W; go_simp; (try with_reducible rfl))⟩
  (try simp only [Act.put, List.setIfInBounds_toArray, List.set_cons_zero, List.set_cons_succ])
  refine tillH_next (rs := [8]) (by kernel_rfl) (by simp) ?_
  refine NextH.cons rfl (fun K hK => ?_) NextH.nil
  go_simp
  refine (Tx.str14_any sa sn sc sl E2 (HPR.out.row.below HG.out.1.bel) HPR.out.fit (by have := HLEN.out; dsimp only at this; omega)).mono ?_
  rintro e E3 ⟨rfl, b6⟩
  have HG := Lib.hid (And.intro (HG.out.1.below b6) (And.intro (HG.out.2.1.below b6 HG.out.2.1.lt) HG.out.2.2))
  clear b6 S0 S1
  refine hK.out _ _ (fun h => absurd h (by simp)) ?_
  clear hK K
  (try simp only [Act.put, List.setIfInBounds_toArray, List.set_cons_zero, List.set_cons_succ])
  refine tillH_takeAny (i := 9) (oi := ?oo9) (v := ?vv9) ?hi9 (by kernel_rfl) (by kernel_rfl) (by kernel_rfl) ?hq9 (by kernel_rfl) ?hy9 (fun h => absurd h (by simp)) ?hh9
  case hi9 => (simp only [List.getElem?_toArray, List.getElem?_cons_succ, List.getElem?_cons_zero]; rfl)
  case hq9 => exact fun _ _ _ h => h
  case hy9 => exact Or.inl ⟨by rfl, by (intro W; go_simp; (try with_reducible rfl))⟩
  (try simp only [Act.put, List.setIfInBounds_toArray, List.set_cons_zero, List.set_cons_succ])
  have v0 : E3.cell? ⟨w.heap.size + 1, 0, none⟩ = some (.int .i64 0) := by rw [HG.out.1.vb.cell]; rfl
  have vf0 : E3.frozen? ⟨w.heap.size + 1, 0, none⟩ = false := HG.out.1.vb.frozen 0
  have v1 : E3.cell? ⟨w.heap.size + 1, 1, none⟩ = some (.int .i64 0) := by rw [HG.out.1.vb.cell]; rfl
  have vf1 : E3.frozen? ⟨w.heap.size + 1, 1, none⟩ = false := HG.out.1.vb.frozen 1
  have v2 : E3.cell? ⟨w.heap.size + 1, 2, none⟩ = some (.string ⟨#[]⟩) := by rw [HG.out.1.vb.cell]; rfl
  have vf2 : E3.frozen? ⟨w.heap.size + 1, 2, none⟩ = false := HG.out.1.vb.frozen 2
  have r0 : E3.cell? ⟨w.heap.size + 1 + 1, 0, none⟩ = some (.int .i64 0) := by rw [HG.out.1.rb.cell]; rfl
  have rf0 : E3.frozen? ⟨w.heap.size + 1 + 1, 0, none⟩ = false := HG.out.1.rb.frozen 0
  have r1 : E3.cell? ⟨w.heap.size + 1 + 1, 1, none⟩ = some (.int .i64 0) := by rw [HG.out.1.rb.cell]; rfl
  have rf1 : E3.frozen? ⟨w.heap.size + 1 + 1, 1, none⟩ = false := HG.out.1.rb.frozen 1
  have r2 : E3.cell? ⟨w.heap.size + 1 + 1, 2, none⟩ = some (.string ⟨#[]⟩) := by rw [HG.out.1.rb.cell]; rfl
  have rf2 : E3.frozen? ⟨w.heap.size + 1 + 1, 2, none⟩ = false := HG.out.1.rb.frozen 2
  have r3 : E3.cell? ⟨w.heap.size + 1 + 1, 3, none⟩ = some (nilP) := by rw [HG.out.1.rb.cell]; rfl
  have rf3 : E3.frozen? ⟨w.heap.size + 1 + 1, 3, none⟩ = false := HG.out.1.rb.frozen 3
  have vl := HG.out.1.vb.lt
  have rl := HG.out.1.rb.lt
  refine tillH_next (rs := [11]) (by kernel_rfl) (by simp) ?_
  refine NextH.cons rfl (fun K hK => ?_) NextH.nil
  go_simp
  refine hK.out _ _ (fun h => absurd h (by simp)) ?_
  clear hK K
  (try simp only [Act.put, List.setIfInBounds_toArray, List.set_cons_zero, List.set_cons_succ])
  refine tillH_next (rs := [12]) (by kernel_rfl) (by simp) ?_
  refine NextH.cons rfl (fun K hK => ?_) NextH.nil
  go_simp
  refine hK.out _ _ (fun h => absurd h (by simp)) ?_
  clear hK K
  (try simp only [Act.put, List.setIfInBounds_toArray, List.set_cons_zero, List.set_cons_succ])
  refine tillH_takeAny (i := 13) (oi := ?oo10) (v := ?vv10) ?hi10 (by kernel_rfl) (by kernel_rfl) (by kernel_rfl) ?hq10 (by kernel_rfl) ?hy10 (fun h => absurd h (by simp)) ?hh10
  case hi10 => (simp only [List.getElem?_toArray, List.getElem?_cons_succ, List.getElem?_cons_zero]; rfl)
  case hq10 => exact fun _ _ _ h => h
  case hy10 => exact Or.inl ⟨by rfl, by (intro W; go_simp; (try with_reducible rfl))⟩
  (try simp only [Act.put, List.setIfInBounds_toArray, List.set_cons_zero, List.set_cons_succ])
  refine tillH_done (by kernel_rfl) ?_ _
  refine HKV.out _ _ ?_
  go_wp2
  refine bodyPost_ret (v := .tuple #[VS 7 0 (Tx.uS sl), VR 7 0 (Tx.uS sl) nilP, .int .i64 ((at_ + 1 : Nat) : Int)]) (by simp [results, Tryz.results8, go_sem, v0, v1, v2, r0, r1, r2, r3, vl, rl]) rfl ?_
  exact ⟨_, _, at_ + 1, .lf 7 0 sl, rfl, growR_lf HM.out HG.out.1.bel (upd34 E3 (w.heap.size + 1) (w.heap.size + 1 + 1) (.int .i64 7) (.int .i64 0) (.string (Tx.uS sl)) (.int .i64 7) (.int .i64 0) (.string (Tx.uS sl)) nilP) HP.out.2 (ok_str sl HPR.out.fit (by have h1 := HLEN.out; have h2 := HPR.out.len; dsimp only at h1 h2; omega)) (Nat.le_of_eq HPR.out.len)⟩
end Go.Proofs.YtdeboajjhpecbaaGreatDoor.Hp

/- Show: the state within grow: the machine, and blocks of the call's own. -/
set_option linter.unusedVariables false
set_option linter.unusedSimpArgs false
namespace Go.Proofs.YtdeboajjhpecbaaGreatDoor.Hp
open Go.RowKit Go.Proofs.YtdeboajjhpecbaaGreatDoor Go.Shelf
/-- No type of the machine's own blocks. -/
def OkTy (t : TypeId) : Prop := t ≠ 69 ∧ t ≠ 90 ∧ t ≠ 120 ∧ t ≠ 122
abbrev BlkE := Nat × TypeId × Array Value
/-- From w on: a machine that may have new cells, and blocks of the call's own, each known whole. -/
structure Gs (N m H A B : Nat) (ps : List Int) (w : World) (cv cv2 : Value) (cs2 : List Cell) (L : List BlkE) (W : World) : Prop where
  ms : Ms N W m H A B cv2 cs2 ps
  up : Upd w W (fun k => k = A ∨ cv.ownBlock = some k)
  cvO : ∀ g, cv2.ownBlock = some g → cv.ownBlock = some g ∨ w.heap.size ≤ g
  blk : ∀ p ∈ L, w.heap.size ≤ p.1 ∧ Blk W p.1 p.2.1 p.2.2 ∧ OkTy p.2.1
  nd : (L.map (·.1)).Nodup
section
variable {N m H A B : Nat} {ps : List Int} {w W W' : World} {cv cv2 : Value} {cs2 : List Cell} {L : List BlkE}
theorem Gs.below (h : Gs N m H A B ps w cv cv2 cs2 L W) (b : Below W.heap.size W W') : Gs N m H A B ps w cv cv2 cs2 L W' :=
  ⟨h.ms.below b, h.up.trans (Upd.of_below_all b), h.cvO, fun p hp => ⟨(h.blk p hp).1, (h.blk p hp).2.1.below b (h.blk p hp).2.1.lt, (h.blk p hp).2.2⟩, h.nd⟩
theorem Gs.freshN (h : Gs N m H A B ps w cv cv2 cs2 L W) (b : Nat) (hb : W.heap.size ≤ b) (t : TypeId) (c : Array Value) : (((b, t, c) :: L).map (·.1)).Nodup := by
  rw [List.map_cons]
  refine List.nodup_cons.2 ⟨fun hm => ?_, h.nd⟩
  obtain ⟨p, hp, e⟩ := List.mem_map.1 hm
  have h1 := (h.blk p hp).2.1.lt
  dsimp only at e
  omega
theorem Gs.new (h : Gs N m H A B ps w cv cv2 cs2 L W) (t : TypeId) (c : Array Value) (ht : OkTy t) : Gs N m H A B ps w cv cv2 cs2 ((W.heap.size, t, c) :: L) (W.alloc (.cells c t)) := by
  have h2 := h.below ((Below.refl W.heap.size W).alloc (Nat.le_refl _) (.cells c t))
  refine ⟨h2.ms, h2.up, h2.cvO, fun p hp => ?_, h.freshN _ (Nat.le_refl _) t c⟩
  rcases List.mem_cons.1 hp with rfl | hp
  · exact ⟨h.up.size, Blk.new W t c, ht⟩
  · exact h2.blk p hp
theorem nodup_mid {L1 L2 : List BlkE} {e : BlkE} (h : ((L1 ++ e :: L2).map (·.1)).Nodup) : ∀ p, p ∈ L1 ++ L2 → p.1 ≠ e.1 := by
  intro p hp he
  rw [List.map_append, List.map_cons] at h
  have h1 := List.nodup_append.1 h
  rcases List.mem_append.1 hp with hp | hp
  · exact h1.2.2 p.1 (List.mem_map.2 ⟨p, hp, rfl⟩) e.1 (List.mem_cons_self ..) he
  · exact (List.nodup_cons.1 h1.2.1).1 (he ▸ List.mem_map.2 ⟨p, hp, rfl⟩)
theorem Gs.set {L1 L2 : List BlkE} {b : Nat} {t : TypeId} {c c' : Array Value} (h : Gs N m H A B ps w cv cv2 cs2 (L1 ++ (b, t, c) :: L2) W) (u : Upd W W' (fun k => k = b)) (hb : Blk W' b t c') : Gs N m H A B ps w cv cv2 cs2 (L1 ++ (b, t, c') :: L2) W' := by
  have hne := nodup_mid h.nd
  obtain ⟨h1, h2, h3, h4, h5, h6⟩ := h.blk (b, t, c) (by simp)
  refine ⟨h.ms.upd u (fun e => h.ms.mb.ne_ h2 (Ne.symm h3) e) (fun e => h.ms.hx.hb.ne_ h2 (Ne.symm h4) e) (fun e => h.ms.hx.ar.blk.ne_ h2 (Ne.symm h5) e) (fun g hg e => own_blk_ne h.ms.hx.ar.cells h2 (Ne.symm h6) (e ▸ hg)), ?_, h.cvO, fun p hp => ?_, ?_⟩
  · exact ((h.up.mono (M' := fun k => (k = A ∨ cv.ownBlock = some k) ∨ k = b) (fun k _ e => Or.inl e)).trans (u.mono (fun k _ e => Or.inr e))).mono (fun k hk e => e.elim id (fun e => by dsimp only at h1; omega))
  · rcases List.mem_append.1 hp with hp | hp
    · have := h.blk p (List.mem_append.2 (Or.inl hp))
      exact ⟨this.1, u.blk this.2.1 (hne p (List.mem_append.2 (Or.inl hp))), this.2.2⟩
    · rcases List.mem_cons.1 hp with rfl | hp
      · exact ⟨h1, hb, h3, h4, h5, h6⟩
      · have := h.blk p (List.mem_append.2 (Or.inr (List.mem_cons_of_mem _ hp)))
        exact ⟨this.1, u.blk this.2.1 (hne p (List.mem_append.2 (Or.inr hp))), this.2.2⟩
  · have := h.nd
    rw [List.map_append, List.map_cons] at this ⊢
    exact this
/-- Cells come to the machine. -/
theorem Gs.more {cv3 : Value} {ds : List Cell} (h : Gs N m H A B ps w cv cv2 cs2 L W) (hM : Ms N W' m H A B cv3 (cs2 ++ ds) ps) (u : Upd W W' (fun k => k = A ∨ cv2.ownBlock = some k)) (hO : ∀ g, cv3.ownBlock = some g → cv2.ownBlock = some g ∨ W.heap.size ≤ g) : Gs N m H A B ps w cv cv3 (cs2 ++ ds) L W' := by
  refine ⟨hM, ?_, fun g hg => ?_, fun p hp => ?_, ?_⟩
  · refine ⟨u.os.trans h.up.os, u.tape.trans h.up.tape, u.output.trans h.up.output, Nat.le_trans h.up.size u.size, fun k hk hn => ?_⟩
    refine (u.block k (Nat.lt_of_lt_of_le hk h.up.size) (fun e => hn ?_)).trans (h.up.block k hk hn)
    rcases e with e | e
    · exact Or.inl e
    · exact (h.cvO k e).elim Or.inr (fun e => by omega)
  · rcases hO g hg with e | e
    · exact h.cvO g e
    · exact Or.inr (Nat.le_trans h.up.size e)
  · have h1 := h.blk p hp
    exact ⟨h1.1, kp_upd h.ms u h1.2.1 h1.2.2.2.2.1 h1.2.2.2.2.2, h1.2.2⟩
  · exact h.nd
/-- And a block that is new. -/
theorem Gs.moreB {cv3 : Value} {ds : List Cell} {b : Nat} {t : TypeId} {c : Array Value} (h : Gs N m H A B ps w cv cv2 cs2 L W) (hM : Ms N W' m H A B cv3 (cs2 ++ ds) ps) (u : Upd W W' (fun k => k = A ∨ cv2.ownBlock = some k)) (hO : ∀ g, cv3.ownBlock = some g → cv2.ownBlock = some g ∨ W.heap.size ≤ g) (hb : W.heap.size ≤ b) (hB : Blk W' b t c) (ht : OkTy t) : Gs N m H A B ps w cv cv3 (cs2 ++ ds) ((b, t, c) :: L) W' := by
  have h2 := h.more hM u hO
  refine ⟨h2.ms, h2.up, h2.cvO, fun p hp => ?_, h.freshN b hb t c⟩
  rcases List.mem_cons.1 hp with rfl | hp
  · exact ⟨Nat.le_trans h.up.size hb, hB, ht⟩
  · exact h2.blk p hp
theorem Gs.at (h : Gs N m H A B ps w cv cv2 cs2 L W) {b : Nat} {t : TypeId} {c : Array Value} (hp : (b, t, c) ∈ L) : Blk W b t c := (h.blk _ hp).2.1
theorem Gs.lo (h : Gs N m H A B ps w cv cv2 cs2 L W) {b : Nat} {t : TypeId} {c : Array Value} (hp : (b, t, c) ∈ L) : w.heap.size ≤ b := (h.blk _ hp).1
theorem okTyVal : OkTy 30 := by unfold OkTy; decide
theorem okTyV : OkTy 33 := by unfold OkTy; decide
theorem okTyO : OkTy 46 := by unfold OkTy; decide
theorem okTyP : OkTy 24 := by unfold OkTy; decide
theorem okTyQ : OkTy 51 := by unfold OkTy; decide
theorem okTyM : OkTy 99 := by unfold OkTy; decide
theorem okTyB : OkTy 85 := by unfold OkTy; decide
theorem Gs.start {cs : List Cell} {pa : Option Addr} {pn pc : Nat} (hM : Ms N w m H A B cv cs ps) (h : GB pa pn pc w W) : Gs N m H A B ps w cv cv cs [(w.heap.size, 24, #[.slice pa pn pc]), (w.heap.size + 1, 30, VZ), (w.heap.size + 1 + 1, 33, RZ)] W := by
  refine ⟨hM.below h.bel, Upd.of_below_all h.bel, fun g hg => Or.inl hg, fun p hp => ?_, by simp; omega⟩
  simp only [List.mem_cons, List.not_mem_nil, or_false] at hp
  rcases hp with rfl | rfl | rfl
  · exact ⟨Nat.le_refl _, h.pb, okTyP⟩
  · exact ⟨by dsimp only; omega, h.vb, okTyVal⟩
  · exact ⟨by dsimp only; omega, h.rb, okTyV⟩
end
end Go.Proofs.YtdeboajjhpecbaaGreatDoor.Hp
