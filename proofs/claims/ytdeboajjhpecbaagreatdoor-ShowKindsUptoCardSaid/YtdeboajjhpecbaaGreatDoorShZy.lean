/- Show: grow, of plain parts. -/
import Derived.Test.YtdeboajjhpecbaaGreatDoorShZx
import Derived.BigRegion
import Derived.ChangeAlike
set_option linter.unusedVariables false
set_option linter.unusedSimpArgs false
namespace Go.Proofs.YtdeboajjhpecbaaGreatDoor.Hp
open Go.RowKit Go.Proofs.YtdeboajjhpecbaaGreatDoor Go.Shelf
abbrev RZ : Array Value := #[.int .i64 0, .int .i64 0, .string ⟨#[]⟩, nilP]
/-- grow's own boxes. -/
def gW (pa : Option Addr) (pn pc : Nat) (w : World) : World := ((w.alloc (.cells #[.slice pa pn pc] 24)).alloc (.cells VZ 30)).alloc (.cells RZ 33)
structure GB (pa : Option Addr) (pn pc : Nat) (w W : World) : Prop where
  bel : Below w.heap.size w W
  pb : Blk W w.heap.size 24 #[.slice pa pn pc]
  vb : Blk W (w.heap.size + 1) 30 VZ
  rb : Blk W (w.heap.size + 1 + 1) 33 RZ
theorem GB.below {pa : Option Addr} {pn pc : Nat} {w W W' : World} (h : GB pa pn pc w W) (b : Below W.heap.size W W') : GB pa pn pc w W' := ⟨h.bel.trans (b.mono h.bel.size), h.pb.below b h.pb.lt, h.vb.below b h.vb.lt, h.rb.below b h.rb.lt⟩
theorem gb_of (pa : Option Addr) (pn pc : Nat) (w : World) : GB pa pn pc w (gW pa pn pc w) := by
  unfold gW
  have b1 := (Below.refl w.heap.size w).alloc (Nat.le_refl _) (.cells #[.slice pa pn pc] 24)
  have b2 := b1.alloc b1.size (.cells VZ 30)
  have b3 := b2.alloc b2.size (.cells RZ 33)
  have v := Blk.new (w.alloc (.cells #[.slice pa pn pc] 24)) 30 VZ
  have r := Blk.new ((w.alloc (.cells #[.slice pa pn pc] 24)).alloc (.cells VZ 30)) 33 RZ
  rw [World.size_alloc] at v
  rw [World.size_alloc, World.size_alloc] at r
  exact ⟨b3, ((Blk.new w _ _).alloc _).alloc _, v.alloc _, r⟩
abbrev set3 (W : World) (b : Nat) (x y z : Value) : World := ((W.setCell ⟨b, 0, none⟩ x).setCell ⟨b, 1, none⟩ y).setCell ⟨b, 2, none⟩ z
abbrev set4 (W : World) (b : Nat) (x y z u : Value) : World := (((W.setCell ⟨b, 0, none⟩ x).setCell ⟨b, 1, none⟩ y).setCell ⟨b, 2, none⟩ z).setCell ⟨b, 3, none⟩ u
theorem upd3 (W : World) (b : Nat) (x y z : Value) : Upd W (set3 W b x y z) (fun k => k = b) := (((Upd.refl W (fun k => k = b)).set _ 0 _ rfl).set _ 1 _ rfl).set _ 2 _ rfl
theorem upd4 (W : World) (b : Nat) (x y z u : Value) : Upd W (set4 W b x y z u) (fun k => k = b) := ((((Upd.refl W (fun k => k = b)).set _ 0 _ rfl).set _ 1 _ rfl).set _ 2 _ rfl).set _ 3 _ rfl
/-- Both results are stored. -/
theorem upd34 (W : World) (b c : Nat) (x y z x' y' z' u' : Value) : Upd W (set4 (set3 W b x y z) c x' y' z' u') (fun k => k = b ∨ k = c) := ((upd3 W b x y z).mono (fun _ _ h => Or.inl h)).trans ((upd4 _ c x' y' z' u').mono (fun _ _ h => Or.inr h))
theorem ok_def {K : Int} (h : K = 0 ∨ K = 1 ∨ K = 4 ∨ K = 6 ∨ K = 10) : OkLf K 0 [] :=
  ⟨⟨by omega, by omega, fun a b => by unfold Vx.IsNum; omega, fun _ => rfl, fun h => by omega, ⟨[], (fun u hu => (by cases hu)), rfl, (by simp)⟩⟩, by simp; omega, by simp; omega, fun _ => rfl, (fun u hu => (by cases hu)), by simp⟩
theorem ok_int (n : Int) (h1 : -9007199254740991 ≤ n) (h2 : n ≤ 9007199254740991) : OkLf 3 n [] :=
  ⟨⟨by decide, by decide, fun a b => by unfold Vx.IsNum; omega, fun _ => rfl, fun h => by omega, ⟨[], (fun u hu => (by cases hu)), rfl, (by simp)⟩⟩, by decide, by decide, fun _ => rfl, (fun u hu => (by cases hu)), by simp⟩
theorem ok_inf (n : Int) (h : n = 1 ∨ n = -1) : OkLf 5 n [] :=
  ⟨⟨by decide, by decide, fun a b => by unfold Vx.IsNum; omega, fun _ => rfl, fun h => by omega, ⟨[], (fun u hu => (by cases hu)), rfl, (by simp)⟩⟩, by decide, by decide, fun _ => rfl, (fun u hu => (by cases hu)), by simp⟩
theorem ok_bool (n : Int) (h : 0 ≤ n ∧ n ≤ 1) : OkLf 2 n [] :=
  ⟨⟨by decide, by decide, fun a b => by omega, fun _ => rfl, fun _ => h, ⟨[], (fun u hu => (by cases hu)), rfl, (by simp)⟩⟩, by decide, by decide, fun _ => rfl, (fun u hu => (by cases hu)), by simp⟩
theorem tmod_lo (n : Int) : -9007199254740991 ≤ n.tmod 9007199254740992 := by have := Int.lt_tmod_of_pos n (show (0 : Int) < 9007199254740992 by decide); omega
theorem tmod_hi (n : Int) : n.tmod 9007199254740992 ≤ 9007199254740991 := by have := Int.tmod_lt_of_pos n (show (0 : Int) < 9007199254740992 by decide); omega
section
variable {N m H A B : Nat} {ps : List Int} {P : List PartV} {cv : Value} {cs : List Cell} {w : World} {at_ : Nat}
theorem growR_end {W W' : World} (hM : Ms N w m H A B cv cs ps) (hb : Below w.heap.size w W) (u : Upd W W' (fun x => x = w.heap.size + 1 ∨ x = w.heap.size + 1 + 1)) :
    GrowR N m H A B ps P cv cs w at_ (0, 0, ⟨#[]⟩) (0, 0, ⟨#[]⟩, nilP) at_ (.lf 0 0 []) W' := by
  have hw := ((Upd.of_below_all hb : Upd w W (fun x => w.heap.size ≤ x))).trans (u.mono (M' := fun x => w.heap.size ≤ x) (fun x _ h => by omega))
  have hup : Upd w W' (fun _ => False) := hw.mono (fun x hx h => by omega)
  refine ⟨⟨cv, [], ?_, by simp, fun g hg => Or.inl hg, rfl⟩, rfl, ok_def (Or.inl rfl), Or.inr rfl, Nat.le_of_eq (Nat.zero_add _), hup.mono (fun x hx h => h.elim)⟩
  rw [List.append_nil]
  exact hM.upd hup (fun h => h) (fun h => h) (fun h => h) (fun _ _ h => h)
/-- A plain part. -/
theorem growR_lf {W W' : World} {k n : Int} {l : List Nat} {p : PartV} (hM : Ms N w m H A B cv cs ps) (hb : Below w.heap.size w W) (u : Upd W W' (fun x => x = w.heap.size + 1 ∨ x = w.heap.size + 1 + 1)) (hp : P[at_]? = some p) (ok : OkLf k n l) (hl : l.length ≤ p.len) :
    GrowR N m H A B ps P cv cs w at_ (k, n, Tx.uS l) (k, n, Tx.uS l, nilP) (at_ + 1) (.lf k n l) W' := by
  have hw := ((Upd.of_below_all hb : Upd w W (fun x => w.heap.size ≤ x))).trans (u.mono (M' := fun x => w.heap.size ≤ x) (fun x _ h => by omega))
  have hup : Upd w W' (fun _ => False) := hw.mono (fun x hx h => by omega)
  have hi := (List.getElem?_eq_some_iff.1 hp).1
  refine ⟨⟨cv, [], ?_, by simp, fun g hg => Or.inl hg, rfl⟩, rfl, ok, Or.inl hi, ?_, hup.mono (fun x hx h => h.elim)⟩
  · rw [List.append_nil]
    exact hM.upd hup (fun h => h) (fun h => h) (fun h => h) (fun _ _ h => h)
  · rw [suP_step P at_ p hp]
    show l.length + _ ≤ _; omega
end
set_option maxRecDepth 100000 in
set_option maxHeartbeats 8000000 in
theorem grow_end {N m H A B : Nat} {ps : List Int} {P : List PartV} {cv : Value} {cs : List Cell} {w : World} {at_ pn pc : Nat} {pa : Option Addr} (hM : Ms N w m H A B cv cs ps) (hP : PlanR w pa pn P) (hpn : pn ≤ 600) (deep : Int) (hat : pn ≤ at_) : Calls Tryz.prog 8 #[.pointer (some ⟨m, 0, none⟩), .agg #[.slice pa pn pc], .int .i64 (at_ : Int), .int .i64 deep] w (GrowP N m H A B ps P cv cs w at_) := by
  have HG := Lib.hid (gb_of pa pn pc w)
  have HM := Lib.hid hM
  have t1 : decide ((at_ : Int) ≥ (pn : Int)) = true := by simp; omega
  go_enter Tryz.func8, Tryz.ntmps8
  go_upto_region 1 with fail
  unfold gW at HG
  generalize (((w.alloc (.cells #[.slice pa pn pc] 24)).alloc (.cells VZ 30)).alloc (.cells RZ 33)) = W at *
  have q0 : W.cell? ⟨w.heap.size, 0, none⟩ = some (.slice pa pn pc) := by rw [HG.out.pb.cell]; rfl
  have v0 : W.cell? ⟨w.heap.size + 1, 0, none⟩ = some (.int .i64 0) := by rw [HG.out.vb.cell]; rfl
  have vf0 : W.frozen? ⟨w.heap.size + 1, 0, none⟩ = false := HG.out.vb.frozen 0
  have v1 : W.cell? ⟨w.heap.size + 1, 1, none⟩ = some (.int .i64 0) := by rw [HG.out.vb.cell]; rfl
  have vf1 : W.frozen? ⟨w.heap.size + 1, 1, none⟩ = false := HG.out.vb.frozen 1
  have v2 : W.cell? ⟨w.heap.size + 1, 2, none⟩ = some (.string ⟨#[]⟩) := by rw [HG.out.vb.cell]; rfl
  have vf2 : W.frozen? ⟨w.heap.size + 1, 2, none⟩ = false := HG.out.vb.frozen 2
  have r0 : W.cell? ⟨w.heap.size + 1 + 1, 0, none⟩ = some (.int .i64 0) := by rw [HG.out.rb.cell]; rfl
  have rf0 : W.frozen? ⟨w.heap.size + 1 + 1, 0, none⟩ = false := HG.out.rb.frozen 0
  have r1 : W.cell? ⟨w.heap.size + 1 + 1, 1, none⟩ = some (.int .i64 0) := by rw [HG.out.rb.cell]; rfl
  have rf1 : W.frozen? ⟨w.heap.size + 1 + 1, 1, none⟩ = false := HG.out.rb.frozen 1
  have r2 : W.cell? ⟨w.heap.size + 1 + 1, 2, none⟩ = some (.string ⟨#[]⟩) := by rw [HG.out.rb.cell]; rfl
  have rf2 : W.frozen? ⟨w.heap.size + 1 + 1, 2, none⟩ = false := HG.out.rb.frozen 2
  have r3 : W.cell? ⟨w.heap.size + 1 + 1, 3, none⟩ = some (nilP) := by rw [HG.out.rb.cell]; rfl
  have rf3 : W.frozen? ⟨w.heap.size + 1 + 1, 3, none⟩ = false := HG.out.rb.frozen 3
  have vl := HG.out.vb.lt
  have rl := HG.out.rb.lt
  go_wp2
  refine bodyPost_ret (v := .tuple #[VS 0 0 ⟨#[]⟩, VR 0 0 ⟨#[]⟩ nilP, .int .i64 (at_ : Int)]) (by simp [results, Tryz.results8, go_sem, v0, v1, v2, r0, r1, r2, r3, vl, rl]) rfl ?_
  exact ⟨(0, 0, ⟨#[]⟩), (0, 0, ⟨#[]⟩, nilP), at_, .lf 0 0 [], rfl, growR_end HM.out HG.out.bel (upd34 _ _ _ _ _ _ _ _ _ _)⟩
set_option maxRecDepth 100000 in
set_option maxHeartbeats 8000000 in
theorem grow_def {N m H A B : Nat} {ps : List Int} {P : List PartV} {cv : Value} {cs : List Cell} {w : World} {at_ pn pc : Nat} {pa : Option Addr} (hM : Ms N w m H A B cv cs ps) (hP : PlanR w pa pn P) (hpn : pn ≤ 600) (deep : Int) (hat : at_ < pn) (p : PartV) (hp : P[at_]? = some p) (K : Int) (hk : (wrap64 (p.k.tmod 12 + 12)).tmod 12 = K) (hK : K = 0 ∨ K = 1 ∨ K = 4 ∨ K = 6 ∨ K = 10) : Calls Tryz.prog 8 #[.pointer (some ⟨m, 0, none⟩), .agg #[.slice pa pn pc], .int .i64 (at_ : Int), .int .i64 deep] w (GrowP N m H A B ps P cv cs w at_) := by
  have e2 : (K == 2) = false := by simp; omega
  have e3 : (K == 3) = false := by simp; omega
  have e5 : (K == 5) = false := by simp; omega
  have e7 : (K == 7) = false := by simp; omega
  have e8 : (K == 8) = false := by simp; omega
  have e9 : (K == 9) = false := by simp; omega
  have e11 : (K == 11) = false := by simp; omega
  have HK := Lib.hid (And.intro hk hK)
  obtain ⟨g, off, rfl, hgl, hcell⟩ := hP.2.1 (by omega)
  have y0 := hcell at_ p hp 0 (by decide)
  have y1 := hcell at_ p hp 1 (by decide)
  have y2 := hcell at_ p hp 2 (by decide)
  have y0' : (gW (some ⟨g, off, none⟩) pn pc w).cell? ⟨g, off + at_ * 3, none⟩ = some (.int .i64 p.k) := ((gb_of _ pn pc w).bel.cell (p := ⟨g, off + at_ * 3, none⟩) hgl).trans y0
  have y1' : (gW (some ⟨g, off, none⟩) pn pc w).cell? ⟨g, off + at_ * 3 + 1, none⟩ = some (.int .i64 p.n) := ((gb_of _ pn pc w).bel.cell (p := ⟨g, off + at_ * 3 + 1, none⟩) hgl).trans y1
  have y2' : (gW (some ⟨g, off, none⟩) pn pc w).cell? ⟨g, off + at_ * 3 + 2, none⟩ = some (.slice p.a p.len p.cap) := ((gb_of _ pn pc w).bel.cell (p := ⟨g, off + at_ * 3 + 2, none⟩) hgl).trans y2
  have HG := Lib.hid (gb_of (some ⟨g, off, none⟩) pn pc w)
  have HM := Lib.hid hM
  have HP := Lib.hid (And.intro hP hp)
  have hatn : at_ < pn := hat
  have t1 : decide ((at_ : Int) ≥ (pn : Int)) = false := by simp; omega
  have z0 : (0 : Int) ≤ (at_ : Int) := by omega
  have z1 : (at_ : Int) < (pn : Int) := by omega
  have ac : IntKind.i64.wrap ((at_ : Int) + 1) = (at_ : Int) + 1 := IntWalk.i64_in _ (by omega)
  obtain ⟨pk, pN, sa, sn, sc, sl⟩ := p
  dsimp only at y0' y1' y2'
  clear hcell y0 y1 y2 hP hM hp hat
  unfold gW at y0' y1' y2'
  clear hk hK
  go_enter Tryz.func8, Tryz.ntmps8
  go_upto_region 1 with fail
  unfold gW at HG
  generalize (((w.alloc (.cells #[.slice (some ⟨g, off, none⟩) pn pc] 24)).alloc (.cells VZ 30)).alloc (.cells RZ 33)) = W at *
  have q0 : W.cell? ⟨w.heap.size, 0, none⟩ = some (.slice (some ⟨g, off, none⟩) pn pc) := by rw [HG.out.pb.cell]; rfl
  go_upto_region 5 with fail
  rw [HK.out.1]
  clear y0' y1' y2' q0
  have ba := (Below.refl W.heap.size W).alloc (Nat.le_refl _) (.cells #[.int .i64 pk, .int .i64 pN, .slice sa sn sc] 51)
  have HG := Lib.hid (HG.out.below ba)
  generalize W.alloc (.cells #[.int .i64 pk, .int .i64 pN, .slice sa sn sc] 51) = W2 at *
  clear ba
  have v0 : W2.cell? ⟨w.heap.size + 1, 0, none⟩ = some (.int .i64 0) := by rw [HG.out.vb.cell]; rfl
  have vf0 : W2.frozen? ⟨w.heap.size + 1, 0, none⟩ = false := HG.out.vb.frozen 0
  have v1 : W2.cell? ⟨w.heap.size + 1, 1, none⟩ = some (.int .i64 0) := by rw [HG.out.vb.cell]; rfl
  have vf1 : W2.frozen? ⟨w.heap.size + 1, 1, none⟩ = false := HG.out.vb.frozen 1
  have v2 : W2.cell? ⟨w.heap.size + 1, 2, none⟩ = some (.string ⟨#[]⟩) := by rw [HG.out.vb.cell]; rfl
  have vf2 : W2.frozen? ⟨w.heap.size + 1, 2, none⟩ = false := HG.out.vb.frozen 2
  have r0 : W2.cell? ⟨w.heap.size + 1 + 1, 0, none⟩ = some (.int .i64 0) := by rw [HG.out.rb.cell]; rfl
  have rf0 : W2.frozen? ⟨w.heap.size + 1 + 1, 0, none⟩ = false := HG.out.rb.frozen 0
  have r1 : W2.cell? ⟨w.heap.size + 1 + 1, 1, none⟩ = some (.int .i64 0) := by rw [HG.out.rb.cell]; rfl
  have rf1 : W2.frozen? ⟨w.heap.size + 1 + 1, 1, none⟩ = false := HG.out.rb.frozen 1
  have r2 : W2.cell? ⟨w.heap.size + 1 + 1, 2, none⟩ = some (.string ⟨#[]⟩) := by rw [HG.out.rb.cell]; rfl
  have rf2 : W2.frozen? ⟨w.heap.size + 1 + 1, 2, none⟩ = false := HG.out.rb.frozen 2
  have r3 : W2.cell? ⟨w.heap.size + 1 + 1, 3, none⟩ = some (nilP) := by rw [HG.out.rb.cell]; rfl
  have rf3 : W2.frozen? ⟨w.heap.size + 1 + 1, 3, none⟩ = false := HG.out.rb.frozen 3
  have vl := HG.out.vb.lt
  have rl := HG.out.rb.lt
  go_wp2
  refine bodyPost_ret (v := .tuple #[VS K 0 ⟨#[]⟩, VR K 0 ⟨#[]⟩ nilP, .int .i64 ((at_ + 1 : Nat) : Int)]) (by simp [results, Tryz.results8, go_sem, v0, v1, v2, r0, r1, r2, r3, vl, rl]) rfl ?_
  exact ⟨(K, 0, ⟨#[]⟩), (K, 0, ⟨#[]⟩, nilP), at_ + 1, .lf K 0 [], rfl, growR_lf HM.out HG.out.bel (upd34 _ _ _ _ _ _ _ _ _ _) HP.out.2 (ok_def HK.out.2) (Nat.zero_le _)⟩
set_option maxRecDepth 100000 in
set_option maxHeartbeats 8000000 in
theorem grow_int {N m H A B : Nat} {ps : List Int} {P : List PartV} {cv : Value} {cs : List Cell} {w : World} {at_ pn pc : Nat} {pa : Option Addr} (hM : Ms N w m H A B cv cs ps) (hP : PlanR w pa pn P) (hpn : pn ≤ 600) (deep : Int) (hat : at_ < pn) (p : PartV) (hp : P[at_]? = some p) (hk : (wrap64 (p.k.tmod 12 + 12)).tmod 12 = 3) : Calls Tryz.prog 8 #[.pointer (some ⟨m, 0, none⟩), .agg #[.slice pa pn pc], .int .i64 (at_ : Int), .int .i64 deep] w (GrowP N m H A B ps P cv cs w at_) := by
  have HK := Lib.hid hk
  obtain ⟨g, off, rfl, hgl, hcell⟩ := hP.2.1 (by omega)
  have y0 := hcell at_ p hp 0 (by decide)
  have y1 := hcell at_ p hp 1 (by decide)
  have y2 := hcell at_ p hp 2 (by decide)
  have y0' : (gW (some ⟨g, off, none⟩) pn pc w).cell? ⟨g, off + at_ * 3, none⟩ = some (.int .i64 p.k) := ((gb_of _ pn pc w).bel.cell (p := ⟨g, off + at_ * 3, none⟩) hgl).trans y0
  have y1' : (gW (some ⟨g, off, none⟩) pn pc w).cell? ⟨g, off + at_ * 3 + 1, none⟩ = some (.int .i64 p.n) := ((gb_of _ pn pc w).bel.cell (p := ⟨g, off + at_ * 3 + 1, none⟩) hgl).trans y1
  have y2' : (gW (some ⟨g, off, none⟩) pn pc w).cell? ⟨g, off + at_ * 3 + 2, none⟩ = some (.slice p.a p.len p.cap) := ((gb_of _ pn pc w).bel.cell (p := ⟨g, off + at_ * 3 + 2, none⟩) hgl).trans y2
  have HG := Lib.hid (gb_of (some ⟨g, off, none⟩) pn pc w)
  have HM := Lib.hid hM
  have HP := Lib.hid (And.intro hP hp)
  have hatn : at_ < pn := hat
  have t1 : decide ((at_ : Int) ≥ (pn : Int)) = false := by simp; omega
  have z0 : (0 : Int) ≤ (at_ : Int) := by omega
  have z1 : (at_ : Int) < (pn : Int) := by omega
  have ac : IntKind.i64.wrap ((at_ : Int) + 1) = (at_ : Int) + 1 := IntWalk.i64_in _ (by omega)
  obtain ⟨pk, pN, sa, sn, sc, sl⟩ := p
  dsimp only at y0' y1' y2'
  clear hcell y0 y1 y2 hP hM hp hat
  unfold gW at y0' y1' y2'
  clear hk
  go_enter Tryz.func8, Tryz.ntmps8
  go_upto_region 1 with fail
  unfold gW at HG
  generalize (((w.alloc (.cells #[.slice (some ⟨g, off, none⟩) pn pc] 24)).alloc (.cells VZ 30)).alloc (.cells RZ 33)) = W at *
  have q0 : W.cell? ⟨w.heap.size, 0, none⟩ = some (.slice (some ⟨g, off, none⟩) pn pc) := by rw [HG.out.pb.cell]; rfl
  go_upto_region 5 with fail
  rw [HK.out]
  clear y0' y1' y2' q0
  have ba := (Below.refl W.heap.size W).alloc (Nat.le_refl _) (.cells #[.int .i64 pk, .int .i64 pN, .slice sa sn sc] 51)
  have HG := Lib.hid (And.intro (HG.out.below ba) (And.intro (Blk.new W 51 #[.int .i64 pk, .int .i64 pN, .slice sa sn sc]) HG.out.rb.lt))
  generalize W.alloc (.cells #[.int .i64 pk, .int .i64 pN, .slice sa sn sc] 51) = W2 at *
  generalize W.heap.size = X at *
  clear ba
  have p1 : W2.cell? ⟨X, 1, none⟩ = some (.int .i64 pN) := by rw [HG.out.2.1.cell]; rfl
  have v0 : W2.cell? ⟨w.heap.size + 1, 0, none⟩ = some (.int .i64 0) := by rw [HG.out.1.vb.cell]; rfl
  have vf0 : W2.frozen? ⟨w.heap.size + 1, 0, none⟩ = false := HG.out.1.vb.frozen 0
  have v1 : W2.cell? ⟨w.heap.size + 1, 1, none⟩ = some (.int .i64 0) := by rw [HG.out.1.vb.cell]; rfl
  have vf1 : W2.frozen? ⟨w.heap.size + 1, 1, none⟩ = false := HG.out.1.vb.frozen 1
  have v2 : W2.cell? ⟨w.heap.size + 1, 2, none⟩ = some (.string ⟨#[]⟩) := by rw [HG.out.1.vb.cell]; rfl
  have vf2 : W2.frozen? ⟨w.heap.size + 1, 2, none⟩ = false := HG.out.1.vb.frozen 2
  have r0 : W2.cell? ⟨w.heap.size + 1 + 1, 0, none⟩ = some (.int .i64 0) := by rw [HG.out.1.rb.cell]; rfl
  have rf0 : W2.frozen? ⟨w.heap.size + 1 + 1, 0, none⟩ = false := HG.out.1.rb.frozen 0
  have r1 : W2.cell? ⟨w.heap.size + 1 + 1, 1, none⟩ = some (.int .i64 0) := by rw [HG.out.1.rb.cell]; rfl
  have rf1 : W2.frozen? ⟨w.heap.size + 1 + 1, 1, none⟩ = false := HG.out.1.rb.frozen 1
  have r2 : W2.cell? ⟨w.heap.size + 1 + 1, 2, none⟩ = some (.string ⟨#[]⟩) := by rw [HG.out.1.rb.cell]; rfl
  have rf2 : W2.frozen? ⟨w.heap.size + 1 + 1, 2, none⟩ = false := HG.out.1.rb.frozen 2
  have r3 : W2.cell? ⟨w.heap.size + 1 + 1, 3, none⟩ = some (nilP) := by rw [HG.out.1.rb.cell]; rfl
  have rf3 : W2.frozen? ⟨w.heap.size + 1 + 1, 3, none⟩ = false := HG.out.1.rb.frozen 3
  have vl := HG.out.1.vb.lt
  have rl := HG.out.1.rb.lt
  have HNB := Lib.hid (HP.out.1.2.2 _ (List.mem_of_getElem? HP.out.2)).nb
  go_wp2
  refine bodyPost_ret (v := .tuple #[VS 3 (pN.tmod 9007199254740992) ⟨#[]⟩, VR 3 (pN.tmod 9007199254740992) ⟨#[]⟩ nilP, .int .i64 ((at_ + 1 : Nat) : Int)]) (by simp [results, Tryz.results8, go_sem, v0, v1, v2, r0, r1, r2, r3, vl, rl]) rfl ?_
  exact ⟨_, _, at_ + 1, .lf 3 (pN.tmod 9007199254740992) [], rfl, growR_lf HM.out HG.out.1.bel (upd34 _ _ _ _ _ _ _ _ _ _) HP.out.2 (ok_int _ (tmod_lo pN) (tmod_hi pN)) (Nat.zero_le _)⟩
set_option maxRecDepth 100000 in
set_option maxHeartbeats 8000000 in
theorem grow_inf {N m H A B : Nat} {ps : List Int} {P : List PartV} {cv : Value} {cs : List Cell} {w : World} {at_ pn pc : Nat} {pa : Option Addr} (hM : Ms N w m H A B cv cs ps) (hP : PlanR w pa pn P) (hpn : pn ≤ 600) (deep : Int) (hat : at_ < pn) (p : PartV) (hp : P[at_]? = some p) (hk : (wrap64 (p.k.tmod 12 + 12)).tmod 12 = 5) : Calls Tryz.prog 8 #[.pointer (some ⟨m, 0, none⟩), .agg #[.slice pa pn pc], .int .i64 (at_ : Int), .int .i64 deep] w (GrowP N m H A B ps P cv cs w at_) := by
  have HK := Lib.hid hk
  obtain ⟨g, off, rfl, hgl, hcell⟩ := hP.2.1 (by omega)
  have y0 := hcell at_ p hp 0 (by decide)
  have y1 := hcell at_ p hp 1 (by decide)
  have y2 := hcell at_ p hp 2 (by decide)
  have y0' : (gW (some ⟨g, off, none⟩) pn pc w).cell? ⟨g, off + at_ * 3, none⟩ = some (.int .i64 p.k) := ((gb_of _ pn pc w).bel.cell (p := ⟨g, off + at_ * 3, none⟩) hgl).trans y0
  have y1' : (gW (some ⟨g, off, none⟩) pn pc w).cell? ⟨g, off + at_ * 3 + 1, none⟩ = some (.int .i64 p.n) := ((gb_of _ pn pc w).bel.cell (p := ⟨g, off + at_ * 3 + 1, none⟩) hgl).trans y1
  have y2' : (gW (some ⟨g, off, none⟩) pn pc w).cell? ⟨g, off + at_ * 3 + 2, none⟩ = some (.slice p.a p.len p.cap) := ((gb_of _ pn pc w).bel.cell (p := ⟨g, off + at_ * 3 + 2, none⟩) hgl).trans y2
  have HG := Lib.hid (gb_of (some ⟨g, off, none⟩) pn pc w)
  have HM := Lib.hid hM
  have HP := Lib.hid (And.intro hP hp)
  have hatn : at_ < pn := hat
  have t1 : decide ((at_ : Int) ≥ (pn : Int)) = false := by simp; omega
  have z0 : (0 : Int) ≤ (at_ : Int) := by omega
  have z1 : (at_ : Int) < (pn : Int) := by omega
  have ac : IntKind.i64.wrap ((at_ : Int) + 1) = (at_ : Int) + 1 := IntWalk.i64_in _ (by omega)
  obtain ⟨pk, pN, sa, sn, sc, sl⟩ := p
  dsimp only at y0' y1' y2'
  clear hcell y0 y1 y2 hP hM hp hat
  unfold gW at y0' y1' y2'
  clear hk
  obtain ⟨j, hj, hjb⟩ := and_to pN 1 (by omega)
  have HJ := Lib.hid hjb
  clear hjb
  have hm : IntKind.i64.wrap (2 * (j : Int)) = 2 * (j : Int) := IntWalk.i64_in _ (by omega)
  have hm2 : IntKind.i64.wrap (1 - 2 * (j : Int)) = 1 - 2 * (j : Int) := IntWalk.i64_in _ (by omega)
  go_enter Tryz.func8, Tryz.ntmps8
  go_upto_region 1 with fail
  unfold gW at HG
  generalize (((w.alloc (.cells #[.slice (some ⟨g, off, none⟩) pn pc] 24)).alloc (.cells VZ 30)).alloc (.cells RZ 33)) = W at *
  have q0 : W.cell? ⟨w.heap.size, 0, none⟩ = some (.slice (some ⟨g, off, none⟩) pn pc) := by rw [HG.out.pb.cell]; rfl
  go_upto_region 5 with fail
  rw [HK.out]
  clear y0' y1' y2' q0
  have ba := (Below.refl W.heap.size W).alloc (Nat.le_refl _) (.cells #[.int .i64 pk, .int .i64 pN, .slice sa sn sc] 51)
  have HG := Lib.hid (And.intro (HG.out.below ba) (And.intro (Blk.new W 51 #[.int .i64 pk, .int .i64 pN, .slice sa sn sc]) HG.out.rb.lt))
  generalize W.alloc (.cells #[.int .i64 pk, .int .i64 pN, .slice sa sn sc] 51) = W2 at *
  generalize W.heap.size = X at *
  clear ba
  have p1 : W2.cell? ⟨X, 1, none⟩ = some (.int .i64 pN) := by rw [HG.out.2.1.cell]; rfl
  have v0 : W2.cell? ⟨w.heap.size + 1, 0, none⟩ = some (.int .i64 0) := by rw [HG.out.1.vb.cell]; rfl
  have vf0 : W2.frozen? ⟨w.heap.size + 1, 0, none⟩ = false := HG.out.1.vb.frozen 0
  have v1 : W2.cell? ⟨w.heap.size + 1, 1, none⟩ = some (.int .i64 0) := by rw [HG.out.1.vb.cell]; rfl
  have vf1 : W2.frozen? ⟨w.heap.size + 1, 1, none⟩ = false := HG.out.1.vb.frozen 1
  have v2 : W2.cell? ⟨w.heap.size + 1, 2, none⟩ = some (.string ⟨#[]⟩) := by rw [HG.out.1.vb.cell]; rfl
  have vf2 : W2.frozen? ⟨w.heap.size + 1, 2, none⟩ = false := HG.out.1.vb.frozen 2
  have r0 : W2.cell? ⟨w.heap.size + 1 + 1, 0, none⟩ = some (.int .i64 0) := by rw [HG.out.1.rb.cell]; rfl
  have rf0 : W2.frozen? ⟨w.heap.size + 1 + 1, 0, none⟩ = false := HG.out.1.rb.frozen 0
  have r1 : W2.cell? ⟨w.heap.size + 1 + 1, 1, none⟩ = some (.int .i64 0) := by rw [HG.out.1.rb.cell]; rfl
  have rf1 : W2.frozen? ⟨w.heap.size + 1 + 1, 1, none⟩ = false := HG.out.1.rb.frozen 1
  have r2 : W2.cell? ⟨w.heap.size + 1 + 1, 2, none⟩ = some (.string ⟨#[]⟩) := by rw [HG.out.1.rb.cell]; rfl
  have rf2 : W2.frozen? ⟨w.heap.size + 1 + 1, 2, none⟩ = false := HG.out.1.rb.frozen 2
  have r3 : W2.cell? ⟨w.heap.size + 1 + 1, 3, none⟩ = some (nilP) := by rw [HG.out.1.rb.cell]; rfl
  have rf3 : W2.frozen? ⟨w.heap.size + 1 + 1, 3, none⟩ = false := HG.out.1.rb.frozen 3
  have vl := HG.out.1.vb.lt
  have rl := HG.out.1.rb.lt
  go_upto_region 13 with fail
  have hjb : bits .and .i64 pN 1 = (j : Int) := HJ.out
  go_wp2
  refine bodyPost_ret (v := .tuple #[VS 5 (1 - 2 * (j : Int)) ⟨#[]⟩, VR 5 (1 - 2 * (j : Int)) ⟨#[]⟩ nilP, .int .i64 ((at_ + 1 : Nat) : Int)]) (by simp [results, Tryz.results8, go_sem, v0, v1, v2, r0, r1, r2, r3, vl, rl]) rfl ?_
  exact ⟨_, _, at_ + 1, .lf 5 (1 - 2 * (j : Int)) [], rfl, growR_lf HM.out HG.out.1.bel (upd34 _ _ _ _ _ _ _ _ _ _) HP.out.2 (ok_inf _ (by omega)) (Nat.zero_le _)⟩
set_option maxRecDepth 100000 in
set_option maxHeartbeats 8000000 in
theorem grow_bool {N m H A B : Nat} {ps : List Int} {P : List PartV} {cv : Value} {cs : List Cell} {w : World} {at_ pn pc : Nat} {pa : Option Addr} (hM : Ms N w m H A B cv cs ps) (hP : PlanR w pa pn P) (hpn : pn ≤ 600) (deep : Int) (hat : at_ < pn) (p : PartV) (hp : P[at_]? = some p) (hk : (wrap64 (p.k.tmod 12 + 12)).tmod 12 = 2) : Calls Tryz.prog 8 #[.pointer (some ⟨m, 0, none⟩), .agg #[.slice pa pn pc], .int .i64 (at_ : Int), .int .i64 deep] w (GrowP N m H A B ps P cv cs w at_) := by
  have HK := Lib.hid hk
  obtain ⟨g, off, rfl, hgl, hcell⟩ := hP.2.1 (by omega)
  have y0 := hcell at_ p hp 0 (by decide)
  have y1 := hcell at_ p hp 1 (by decide)
  have y2 := hcell at_ p hp 2 (by decide)
  have y0' : (gW (some ⟨g, off, none⟩) pn pc w).cell? ⟨g, off + at_ * 3, none⟩ = some (.int .i64 p.k) := ((gb_of _ pn pc w).bel.cell (p := ⟨g, off + at_ * 3, none⟩) hgl).trans y0
  have y1' : (gW (some ⟨g, off, none⟩) pn pc w).cell? ⟨g, off + at_ * 3 + 1, none⟩ = some (.int .i64 p.n) := ((gb_of _ pn pc w).bel.cell (p := ⟨g, off + at_ * 3 + 1, none⟩) hgl).trans y1
  have y2' : (gW (some ⟨g, off, none⟩) pn pc w).cell? ⟨g, off + at_ * 3 + 2, none⟩ = some (.slice p.a p.len p.cap) := ((gb_of _ pn pc w).bel.cell (p := ⟨g, off + at_ * 3 + 2, none⟩) hgl).trans y2
  have HG := Lib.hid (gb_of (some ⟨g, off, none⟩) pn pc w)
  have HM := Lib.hid hM
  have HP := Lib.hid (And.intro hP hp)
  have hatn : at_ < pn := hat
  have t1 : decide ((at_ : Int) ≥ (pn : Int)) = false := by simp; omega
  have z0 : (0 : Int) ≤ (at_ : Int) := by omega
  have z1 : (at_ : Int) < (pn : Int) := by omega
  have ac : IntKind.i64.wrap ((at_ : Int) + 1) = (at_ : Int) + 1 := IntWalk.i64_in _ (by omega)
  obtain ⟨pk, pN, sa, sn, sc, sl⟩ := p
  dsimp only at y0' y1' y2'
  clear hcell y0 y1 y2 hP hM hp hat
  unfold gW at y0' y1' y2'
  clear hk
  obtain ⟨j, hj, hjb⟩ := and_to pN 1 (by omega)
  have HJ := Lib.hid hjb
  clear hjb
  go_enter Tryz.func8, Tryz.ntmps8
  go_upto_region 1 with fail
  unfold gW at HG
  generalize (((w.alloc (.cells #[.slice (some ⟨g, off, none⟩) pn pc] 24)).alloc (.cells VZ 30)).alloc (.cells RZ 33)) = W at *
  have q0 : W.cell? ⟨w.heap.size, 0, none⟩ = some (.slice (some ⟨g, off, none⟩) pn pc) := by rw [HG.out.pb.cell]; rfl
  go_upto_region 5 with fail
  rw [HK.out]
  clear y0' y1' y2' q0
  have ba := (Below.refl W.heap.size W).alloc (Nat.le_refl _) (.cells #[.int .i64 pk, .int .i64 pN, .slice sa sn sc] 51)
  have HG := Lib.hid (And.intro (HG.out.below ba) (And.intro (Blk.new W 51 #[.int .i64 pk, .int .i64 pN, .slice sa sn sc]) HG.out.rb.lt))
  generalize W.alloc (.cells #[.int .i64 pk, .int .i64 pN, .slice sa sn sc] 51) = W2 at *
  generalize W.heap.size = X at *
  clear ba
  have p1 : W2.cell? ⟨X, 1, none⟩ = some (.int .i64 pN) := by rw [HG.out.2.1.cell]; rfl
  have v0 : W2.cell? ⟨w.heap.size + 1, 0, none⟩ = some (.int .i64 0) := by rw [HG.out.1.vb.cell]; rfl
  have vf0 : W2.frozen? ⟨w.heap.size + 1, 0, none⟩ = false := HG.out.1.vb.frozen 0
  have v1 : W2.cell? ⟨w.heap.size + 1, 1, none⟩ = some (.int .i64 0) := by rw [HG.out.1.vb.cell]; rfl
  have vf1 : W2.frozen? ⟨w.heap.size + 1, 1, none⟩ = false := HG.out.1.vb.frozen 1
  have v2 : W2.cell? ⟨w.heap.size + 1, 2, none⟩ = some (.string ⟨#[]⟩) := by rw [HG.out.1.vb.cell]; rfl
  have vf2 : W2.frozen? ⟨w.heap.size + 1, 2, none⟩ = false := HG.out.1.vb.frozen 2
  have r0 : W2.cell? ⟨w.heap.size + 1 + 1, 0, none⟩ = some (.int .i64 0) := by rw [HG.out.1.rb.cell]; rfl
  have rf0 : W2.frozen? ⟨w.heap.size + 1 + 1, 0, none⟩ = false := HG.out.1.rb.frozen 0
  have r1 : W2.cell? ⟨w.heap.size + 1 + 1, 1, none⟩ = some (.int .i64 0) := by rw [HG.out.1.rb.cell]; rfl
  have rf1 : W2.frozen? ⟨w.heap.size + 1 + 1, 1, none⟩ = false := HG.out.1.rb.frozen 1
  have r2 : W2.cell? ⟨w.heap.size + 1 + 1, 2, none⟩ = some (.string ⟨#[]⟩) := by rw [HG.out.1.rb.cell]; rfl
  have rf2 : W2.frozen? ⟨w.heap.size + 1 + 1, 2, none⟩ = false := HG.out.1.rb.frozen 2
  have r3 : W2.cell? ⟨w.heap.size + 1 + 1, 3, none⟩ = some (nilP) := by rw [HG.out.1.rb.cell]; rfl
  have rf3 : W2.frozen? ⟨w.heap.size + 1 + 1, 3, none⟩ = false := HG.out.1.rb.frozen 3
  have vl := HG.out.1.vb.lt
  have rl := HG.out.1.rb.lt
  go_upto_region 8 with fail
  have hjb : bits .and .i64 pN 1 = (j : Int) := HJ.out
  have hX1 : X ≠ w.heap.size + 1 := by have := HG.out.2.2; omega
  have hX2 : X ≠ w.heap.size + 1 + 1 := by have := HG.out.2.2; omega
  go_region
  go_wp2
  refine bodyPost_ret (v := .tuple #[VS 2 (j : Int) ⟨#[]⟩, VR 2 (j : Int) ⟨#[]⟩ nilP, .int .i64 ((at_ + 1 : Nat) : Int)]) (by simp [results, Tryz.results8, go_sem, v0, v1, v2, r0, r1, r2, r3, vl, rl]) rfl ?_
  exact ⟨_, _, at_ + 1, .lf 2 (j : Int) [], rfl, growR_lf HM.out HG.out.1.bel ((upd34 W2 (w.heap.size + 1) (w.heap.size + 1 + 1) (.int .i64 2) (.int .i64 (j : Int)) (.string ⟨#[]⟩) (.int .i64 2) (.int .i64 (j : Int)) (.string ⟨#[]⟩) nilP).drewN 1) HP.out.2 (ok_bool _ (by omega)) (Nat.zero_le _)⟩
end Go.Proofs.YtdeboajjhpecbaaGreatDoor.Hp
