/- The heap: a heap of one array; Put and Delete. -/
import Derived.Test.YtmimnaaofpkndaaDoorHpU
set_option linter.unusedVariables false
set_option linter.unusedSimpArgs false
namespace Go.Proofs.YtmimnaaofpkndaaDoor.Hp
open Go.RowKit Go.Proofs.YtmimnaaofpkndaaDoor Go.Shelf
attribute [local go_sem] Oper.semAt_some

/-- A heap with one object, an array. -/
structure HA (w : World) (H A B b T : Nat) (cv lv : Value) (L : List K3) : Prop where
  hx : Hx w H A B cv nilS nilS [(some (tObj, b), false)] [] [] 1
  ar : ArrE w b T 0 lv L
section
variable {w w' : World} {H A B b T : Nat} {cv lv lv' : Value} {L L' : List K3}
theorem HA.below (h : HA w H A B b T cv lv L) (u : Below w.heap.size w w') : HA w' H A B b T cv lv L := ⟨h.hx.below u, h.ar.below u⟩
theorem HA.step (h : HA w H A B b T cv lv L) (s : ArrS w w' b T 0 lv lv' L') : HA w' H A B b T cv lv' L' :=
  ⟨h.hx.upd s.up (fun e => e.elim (fun e => h.hx.hb.ne_ h.ar.ob (by decide) e) (fun e => own_blk_ne h.ar.row h.hx.hb (by decide) e)) (fun e => e.elim (fun e => h.hx.ar.blk.ne_ h.ar.ob (by decide) e) (fun e => own_blk_ne h.ar.row h.hx.ar.blk (by decide) e))
    (fun g hg e => e.elim (fun e => own_blk_ne h.hx.ar.cells h.ar.ob (by decide) (e ▸ hg)) (fun e => by
      rcases own_ne h.hx.ar.cells h.ar.row (by decide) with q | q
      · rw [q] at hg; cases hg
      · exact q (hg.trans e.symm)))
    (fun g hg => by simp [Value.ownBlock] at hg) (fun g hg => by simp [Value.ownBlock] at hg), s.ar⟩
theorem HA.obj (h : HA w H A B b T cv lv L) (r : Int) : Calls Tryd.prog 11 #[.pointer (some ⟨H, 0, none⟩), .int .i64 r] w fun e w' => e = .returned (objP [(some (tObj, b), false)] r) ∧ ∃ q, w' = w.drewN q := by
  refine obj_any r h.hx (by simp) (fun i n hn => ?_)
  cases i with
  | zero => simp at hn; rw [← hn]; exact .inl rfl
  | succ i => simp at hn
theorem HA.obj1 (h : HA w H A B b T cv lv L) : Calls Tryd.prog 11 #[.pointer (some ⟨H, 0, none⟩), .int .i64 1] w fun e w' => e = .returned (.pointer (some ⟨b, 0, none⟩)) ∧ Below w.heap.size w w' :=
  (h.obj 1).mono (by rintro e w' ⟨rfl, q, rfl⟩; exact ⟨rfl, below_drw (Below.refl _ _) q⟩)
theorem HA.obj0 (h : HA w H A B b T cv lv L) : Calls Tryd.prog 11 #[.pointer (some ⟨H, 0, none⟩), .int .i64 0] w fun e w' => e = .returned (.pointer none) ∧ Below w.heap.size w w' :=
  (h.obj 0).mono (by rintro e w' ⟨rfl, q, rfl⟩; exact ⟨by rw [objP_out (.inl (by decide))], below_drw (Below.refl _ _) q⟩)
set_option maxHeartbeats 2000000 in
theorem HA.find0 (h : HA w H A B b T cv lv L) (k : K3) : Calls Tryd.prog 14 #[.pointer (some ⟨H, 0, none⟩), .int .i64 0, VK k] w fun e w' => e = .returned (.tuple #[VK (0, 0, ⟨#[]⟩), .int .i64 0, .bool false]) ∧ Below w.heap.size w w' := by
  obtain ⟨k1, k2, k3⟩ := k
  have bb : Below w.heap.size w ((w.alloc (.cells #[.int .i64 k1, .int .i64 k2, .string k3] 34)).alloc (.cells #[.int .i64 0, .int .i64 0, .string ⟨#[]⟩] 34)) := ((Below.refl _ _).alloc (Nat.le_refl _) _).alloc (by simp) _
  have rb : Blk ((w.alloc (.cells #[.int .i64 k1, .int .i64 k2, .string k3] 34)).alloc (.cells #[.int .i64 0, .int .i64 0, .string ⟨#[]⟩] 34)) (w.heap.size + 1) 34 #[.int .i64 0, .int .i64 0, .string ⟨#[]⟩] := by
    have := Blk.new (w.alloc (.cells #[.int .i64 k1, .int .i64 k2, .string k3] 34)) 34 #[.int .i64 0, .int .i64 0, .string ⟨#[]⟩]
    rwa [World.size_alloc] at this
  have HO := Lib.hid (h.below bb).obj0
  have HB := Lib.hid (And.intro bb rb)
  clear h bb rb
  go_enter Tryd.func14, Tryd.ntmps14
  go_wp2_with (fail)
  refine HO.out.mono ?_
  rintro e w2 ⟨rfl, b2⟩
  have b02 := HB.out.1.trans (b2.mono HB.out.1.size)
  have rb2 := HB.out.2.below b2 HB.out.2.lt
  have q0 := rb2.frozen 0
  have q1 := rb2.frozen 1
  have q2 := rb2.frozen 2
  have y0 : w2.cell? ⟨w.heap.size + 1, 0, none⟩ = some (.int .i64 0) := by rw [rb2.cell]; rfl
  have y1 : w2.cell? ⟨w.heap.size + 1, 1, none⟩ = some (.int .i64 0) := by rw [rb2.cell]; rfl
  have y2 : w2.cell? ⟨w.heap.size + 1, 2, none⟩ = some (.string ⟨#[]⟩) := by rw [rb2.cell]; rfl
  have lr := rb2.lt
  have HB2 := Lib.hid b02
  clear b02 rb2 b2 HB HO
  go_wp2_with (fail)
  go_loopw [9] (fun v wr => wr = w2 ∧ v = .pointer none) (fun _ _ => 0)
  case atStart => exact ⟨rfl, rfl⟩
  case round =>
    obtain ⟨rfl, rfl⟩ := hrel
    go_wp2
    refine bodyPost_ret (v := .tuple #[VS 0 0 ⟨#[]⟩, .int .i64 0, .bool false]) (by simp [results, Tryd.results14, go_sem, y0, y1, y2, q0, q1, q2, lr]) rfl ⟨rfl, ?_⟩
    exact ((HB2.out.setCell (p := ⟨w.heap.size + 1, 0, none⟩) (by simp) _).setCell (p := ⟨w.heap.size + 1, 1, none⟩) (by simp) _).setCell (p := ⟨w.heap.size + 1, 2, none⟩) (by simp) _
end
set_option maxRecDepth 100000 in
set_option maxHeartbeats 4000000 in
theorem put_own {w : World} {H A B b T : Nat} {cv lv : Value} {L : List K3} (h : HA w H A B b T cv lv L) (k v : K3) (gv : K3) (gf : Int) (hgf : gf = 1 ∨ gf = 7) (R : Bool) (Post : World → Prop)
    (hown : ∀ W, Below w.heap.size w W → Calls Tryd.prog 18 #[.pointer (some ⟨b, 0, none⟩), VK k] W fun e w' => e = .returned (.tuple #[VK gv, .int .i64 gf, .bool true]) ∧ Below W.heap.size W w')
    (hdef : ∀ W, Below w.heap.size w W → Calls Tryd.prog 12 #[.pointer (some ⟨b, 0, none⟩), VK k, VK v, .int .i64 gf] W fun e w' => e = .returned (.bool R) ∧ Post w') :
    Calls Tryd.prog 16 #[.pointer (some ⟨H, 0, none⟩), .int .i64 1, VK k, VK v] w fun e w' => e = .returned (.bool R) ∧ Post w' := by
  obtain ⟨k1, k2, k3⟩ := k
  obtain ⟨v1, v2, v3⟩ := v
  obtain ⟨g1, g2, g3⟩ := gv
  have HH := Lib.hid h
  have HOD := Lib.hid (And.intro hown hdef)
  clear h hown hdef
  have bb : Below w.heap.size w ((w.alloc (.cells #[.int .i64 k1, .int .i64 k2, .string k3] 34)).alloc (.cells #[.int .i64 v1, .int .i64 v2, .string v3] 34)) := ((Below.refl _ _).alloc (Nat.le_refl _) _).alloc (by simp) _
  have kb : Blk ((w.alloc (.cells #[.int .i64 k1, .int .i64 k2, .string k3] 34)).alloc (.cells #[.int .i64 v1, .int .i64 v2, .string v3] 34)) w.heap.size 34 #[.int .i64 k1, .int .i64 k2, .string k3] := (Blk.new w _ _).alloc _
  have vb : Blk ((w.alloc (.cells #[.int .i64 k1, .int .i64 k2, .string k3] 34)).alloc (.cells #[.int .i64 v1, .int .i64 v2, .string v3] 34)) (w.heap.size + 1) 34 #[.int .i64 v1, .int .i64 v2, .string v3] := by
    have := Blk.new (w.alloc (.cells #[.int .i64 k1, .int .i64 k2, .string k3] 34)) 34 #[.int .i64 v1, .int .i64 v2, .string v3]
    rwa [World.size_alloc] at this
  have HO1 := Lib.hid (HH.out.below bb).obj1
  have HB := Lib.hid (And.intro bb (And.intro kb vb))
  clear bb kb vb
  go_enter Tryd.func16, Tryd.ntmps16
  go_wp2_with (fail)
  refine HO1.out.mono ?_
  rintro e w2 ⟨rfl, b2⟩
  obtain ⟨bb, kb, vb⟩ := HB.out
  have b02 := bb.trans (b2.mono bb.size)
  have kb2 := kb.below b2 kb.lt
  have vb2 := vb.below b2 vb.lt
  have p0 : w2.cell? ⟨w.heap.size, 0, none⟩ = some (.int .i64 k1) := by rw [kb2.cell]; rfl
  have p1 : w2.cell? ⟨w.heap.size, 1, none⟩ = some (.int .i64 k2) := by rw [kb2.cell]; rfl
  have p2 : w2.cell? ⟨w.heap.size, 2, none⟩ = some (.string k3) := by rw [kb2.cell]; rfl
  have HB2 := Lib.hid (And.intro b02 (And.intro kb2 vb2))
  clear bb kb vb b2 b02 kb2 vb2 HB HO1
  go_wp2_with (fail)
  refine (HOD.out.1 _ HB2.out.1).mono ?_
  rintro e w4 ⟨rfl, b4⟩
  obtain ⟨b02, kb2, vb2⟩ := HB2.out
  have b04 := b02.trans (b4.mono b02.size)
  have kb4 := kb2.below b4 kb2.lt
  have vb4 := vb2.below b4 vb2.lt
  have p0 : w4.cell? ⟨w.heap.size, 0, none⟩ = some (.int .i64 k1) := by rw [kb4.cell]; rfl
  have p1 : w4.cell? ⟨w.heap.size, 1, none⟩ = some (.int .i64 k2) := by rw [kb4.cell]; rfl
  have p2 : w4.cell? ⟨w.heap.size, 2, none⟩ = some (.string k3) := by rw [kb4.cell]; rfl
  have q0 : w4.cell? ⟨w.heap.size + 1, 0, none⟩ = some (.int .i64 v1) := by rw [vb4.cell]; rfl
  have q1 : w4.cell? ⟨w.heap.size + 1, 1, none⟩ = some (.int .i64 v2) := by rw [vb4.cell]; rfl
  have q2 : w4.cell? ⟨w.heap.size + 1, 2, none⟩ = some (.string v3) := by rw [vb4.cell]; rfl
  have pl := kb4.lt
  have ql := vb4.lt
  have b5 : Below w.heap.size w (w4.alloc (.cells #[.int .i64 g1, .int .i64 g2, .string g3] 34)) := b04.alloc b04.size _
  have kb5 := kb4.alloc (.cells #[.int .i64 g1, .int .i64 g2, .string g3] 34)
  have vb5 := vb4.alloc (.cells #[.int .i64 g1, .int .i64 g2, .string g3] 34)
  have HB5 := Lib.hid b5
  clear b02 kb2 vb2 b4 b04 kb4 vb4 HB2 b5 kb5 vb5 HH
  have a0 : bits .and .i64 1 1 = 1 := by decide
  have a1 : bits .and .i64 1 8 = 0 := by decide
  have a2 : bits .and .i64 7 1 = 1 := by decide
  have a3 : bits .and .i64 7 8 = 0 := by decide
  rcases hgf with rfl | rfl
  · go_wp2_with (fail)
    refine (HOD.out.2 _ HB5.out).mono ?_
    rintro e w6 ⟨rfl, hp⟩
    have HP := Lib.hid hp
    clear hp HOD
    cases R
    · go_wp2
      go_ret
      exact ⟨rfl, HP.out⟩
    · go_wp2
      go_ret
      exact ⟨rfl, HP.out⟩
  · go_wp2_with (fail)
    refine (HOD.out.2 _ HB5.out).mono ?_
    rintro e w6 ⟨rfl, hp⟩
    have HP := Lib.hid hp
    clear hp HOD
    cases R
    · go_wp2
      go_ret
      exact ⟨rfl, HP.out⟩
    · go_wp2
      go_ret
      exact ⟨rfl, HP.out⟩
set_option maxRecDepth 100000 in
set_option maxHeartbeats 4000000 in
theorem put_new {w : World} {H A B b T : Nat} {cv lv : Value} {L : List K3} (h : HA w H A B b T cv lv L) (k v : K3) (gv : K3) (R : Bool) (Post : World → Prop)
    (hown : ∀ W, Below w.heap.size w W → Calls Tryd.prog 18 #[.pointer (some ⟨b, 0, none⟩), VK k] W fun e w' => e = .returned (.tuple #[VK gv, .int .i64 0, .bool false]) ∧ Below W.heap.size W w')
    (hdef : ∀ W, Below w.heap.size w W → Calls Tryd.prog 12 #[.pointer (some ⟨b, 0, none⟩), VK k, VK v, .int .i64 7] W fun e w' => e = .returned (.bool R) ∧ Post w') :
    Calls Tryd.prog 16 #[.pointer (some ⟨H, 0, none⟩), .int .i64 1, VK k, VK v] w fun e w' => e = .returned (.bool R) ∧ Post w' := by
  obtain ⟨k1, k2, k3⟩ := k
  obtain ⟨v1, v2, v3⟩ := v
  obtain ⟨g1, g2, g3⟩ := gv
  have HH := Lib.hid h
  have HOD := Lib.hid (And.intro hown hdef)
  clear h hown hdef
  have bb : Below w.heap.size w ((w.alloc (.cells #[.int .i64 k1, .int .i64 k2, .string k3] 34)).alloc (.cells #[.int .i64 v1, .int .i64 v2, .string v3] 34)) := ((Below.refl _ _).alloc (Nat.le_refl _) _).alloc (by simp) _
  have kb : Blk ((w.alloc (.cells #[.int .i64 k1, .int .i64 k2, .string k3] 34)).alloc (.cells #[.int .i64 v1, .int .i64 v2, .string v3] 34)) w.heap.size 34 #[.int .i64 k1, .int .i64 k2, .string k3] := (Blk.new w _ _).alloc _
  have vb : Blk ((w.alloc (.cells #[.int .i64 k1, .int .i64 k2, .string k3] 34)).alloc (.cells #[.int .i64 v1, .int .i64 v2, .string v3] 34)) (w.heap.size + 1) 34 #[.int .i64 v1, .int .i64 v2, .string v3] := by
    have := Blk.new (w.alloc (.cells #[.int .i64 k1, .int .i64 k2, .string k3] 34)) 34 #[.int .i64 v1, .int .i64 v2, .string v3]
    rwa [World.size_alloc] at this
  have HO1 := Lib.hid (HH.out.below bb).obj1
  have HB := Lib.hid (And.intro bb (And.intro kb vb))
  clear bb kb vb
  go_enter Tryd.func16, Tryd.ntmps16
  go_wp2_with (fail)
  refine HO1.out.mono ?_
  rintro e w2 ⟨rfl, b2⟩
  obtain ⟨bb, kb, vb⟩ := HB.out
  have b02 := bb.trans (b2.mono bb.size)
  have kb2 := kb.below b2 kb.lt
  have vb2 := vb.below b2 vb.lt
  have p0 : w2.cell? ⟨w.heap.size, 0, none⟩ = some (.int .i64 k1) := by rw [kb2.cell]; rfl
  have p1 : w2.cell? ⟨w.heap.size, 1, none⟩ = some (.int .i64 k2) := by rw [kb2.cell]; rfl
  have p2 : w2.cell? ⟨w.heap.size, 2, none⟩ = some (.string k3) := by rw [kb2.cell]; rfl
  have HB2 := Lib.hid (And.intro b02 (And.intro kb2 vb2))
  clear bb kb vb b2 b02 kb2 vb2 HB HO1
  go_wp2_with (fail)
  refine (HOD.out.1 _ HB2.out.1).mono ?_
  rintro e w4 ⟨rfl, b4⟩
  obtain ⟨b02, kb2, vb2⟩ := HB2.out
  have b04 := b02.trans (b4.mono b02.size)
  have kb4 := kb2.below b4 kb2.lt
  have vb4 := vb2.below b4 vb2.lt
  have p0 : w4.cell? ⟨w.heap.size, 0, none⟩ = some (.int .i64 k1) := by rw [kb4.cell]; rfl
  have p1 : w4.cell? ⟨w.heap.size, 1, none⟩ = some (.int .i64 k2) := by rw [kb4.cell]; rfl
  have p2 : w4.cell? ⟨w.heap.size, 2, none⟩ = some (.string k3) := by rw [kb4.cell]; rfl
  have q0 : w4.cell? ⟨w.heap.size + 1, 0, none⟩ = some (.int .i64 v1) := by rw [vb4.cell]; rfl
  have q1 : w4.cell? ⟨w.heap.size + 1, 1, none⟩ = some (.int .i64 v2) := by rw [vb4.cell]; rfl
  have q2 : w4.cell? ⟨w.heap.size + 1, 2, none⟩ = some (.string v3) := by rw [vb4.cell]; rfl
  have pl := kb4.lt
  have ql := vb4.lt
  have b5 : Below w.heap.size w (w4.alloc (.cells #[.int .i64 g1, .int .i64 g2, .string g3] 34)) := b04.alloc b04.size _
  have kb5 := kb4.alloc (.cells #[.int .i64 g1, .int .i64 g2, .string g3] 34)
  have vb5 := vb4.alloc (.cells #[.int .i64 g1, .int .i64 g2, .string g3] 34)
  have h5 := HH.out.below b5
  have HB5 := Lib.hid (And.intro b5 (And.intro kb5 (And.intro vb5 h5)))
  clear b02 kb2 vb2 b4 b04 kb4 vb4 HB2 b5 kb5 vb5 HH h5
  go_upto_region 7 with fail
  clear p0 p1 p2 q0 q1 q2 pl ql
  generalize (w4.alloc (.cells #[.int .i64 g1, .int .i64 g2, .string g3] 34)) = w5 at *
  generalize w4.heap.size = r5 at *
  have o5 := HB5.out.2.2.2.ar.ob
  have p0 : w5.cell? ⟨w.heap.size, 0, none⟩ = some (.int .i64 k1) := by rw [HB5.out.2.1.cell]; rfl
  have p1 : w5.cell? ⟨w.heap.size, 1, none⟩ = some (.int .i64 k2) := by rw [HB5.out.2.1.cell]; rfl
  have p2 : w5.cell? ⟨w.heap.size, 2, none⟩ = some (.string k3) := by rw [HB5.out.2.1.cell]; rfl
  have o1 : w5.cell? ⟨b, 1, none⟩ = some (.int .i64 0) := by rw [o5.cell]; rfl
  have S0 : World → Prop := fun _ => True
  clear S0 o5
  refine wp_var0 (fun KV HKV => ?_)
  refine wp_region_till (m := 6) (S := (fun W => W.cell? ⟨b, 1, none⟩ = some (.int .i64 0) ∧ W.cell? ⟨w.heap.size, 0, none⟩ = some (.int .i64 k1) ∧ W.cell? ⟨w.heap.size, 1, none⟩ = some (.int .i64 k2) ∧ W.cell? ⟨w.heap.size, 2, none⟩ = some (.string k3))) (by kernel_rfl) ?_
  have e4 : w5.drew = w5.drewN 1 := rfl
  rw [e4]
  have S0 : (w5.drewN 1).cell? ⟨b, 1, none⟩ = some (.int .i64 0) ∧ (w5.drewN 1).cell? ⟨w.heap.size, 0, none⟩ = some (.int .i64 k1) ∧ (w5.drewN 1).cell? ⟨w.heap.size, 1, none⟩ = some (.int .i64 k2) ∧ (w5.drewN 1).cell? ⟨w.heap.size, 2, none⟩ = some (.string k3) := ⟨o1, p0, p1, p2⟩
  have HBD := Lib.hid (And.intro (HB5.out.1.trans ((below_drw (Below.refl _ _) 1).mono HB5.out.1.size)) (And.intro (HB5.out.2.1.drewN 1) (And.intro (HB5.out.2.2.1.drewN 1) (HB5.out.2.2.2.below (below_drw (Below.refl _ _) 1)))))
  clear o1 p0 p1 p2 HB5 e4
  generalize w5.drewN 1 = E at *
  change tillH _ _ _ _ _ _ 15 #[false, false, false, false, false, false, false, false, false, false, false, false, false, false, false] _ _
  refine tillH_takeAny (i := 0) (oi := ?oo1) (v := ?vv1) ?hi1 (by kernel_rfl) (by kernel_rfl) (by kernel_rfl) ?hq1 (by kernel_rfl) ?hy1 (fun _ => S0) ?hh1
  case hi1 => (simp only [List.getElem?_toArray, List.getElem?_cons_succ, List.getElem?_cons_zero]; rfl)
  case hq1 => exact fun _ _ _ h => h
  case hy1 => exact Or.inl ⟨by rfl, by (intro W; go_simp; (try with_reducible rfl))⟩
  (try simp only [Act.put, List.setIfInBounds_toArray, List.set_cons_zero, List.set_cons_succ])
  refine tillH_takeAny (i := 1) (oi := ?oo2) (v := ?vv2) ?hi2 (by kernel_rfl) (by kernel_rfl) (by kernel_rfl) ?hq2 (by kernel_rfl) ?hy2 (fun _ => S0) ?hh2
  case hi2 => (simp only [List.getElem?_toArray, List.getElem?_cons_succ, List.getElem?_cons_zero]; rfl)
  case hq2 => exact fun _ _ _ h => h
  case hy2 => exact Or.inl ⟨by rfl, by (intro W; go_simp; (try with_reducible rfl))⟩
  (try simp only [Act.put, List.setIfInBounds_toArray, List.set_cons_zero, List.set_cons_succ])
  refine tillH_takeAny (i := 2) (oi := ?oo3) (v := ?vv3) ?hi3 (by kernel_rfl) (by kernel_rfl) (by kernel_rfl) ?hq3 (by kernel_rfl) ?hy3 (fun _ => S0) ?hh3
  case hi3 => (simp only [List.getElem?_toArray, List.getElem?_cons_succ, List.getElem?_cons_zero]; rfl)
  case hq3 => exact fun _ _ _ h => h
  case hy3 => exact Or.inl ⟨by rfl, by (intro W; go_simp; (try with_reducible rfl))⟩
  (try simp only [Act.put, List.setIfInBounds_toArray, List.set_cons_zero, List.set_cons_succ])
  refine tillH_takeAny (i := 3) (oi := ?oo4) (v := ?vv4) ?hi4 (by kernel_rfl) (by kernel_rfl) (by kernel_rfl) ?hq4 (by kernel_rfl) ?hy4 (fun _ => S0) ?hh4
  case hi4 => (simp only [List.getElem?_toArray, List.getElem?_cons_succ, List.getElem?_cons_zero]; rfl)
  case hq4 => exact fun _ _ _ h => h
  case hy4 => exact Or.inl ⟨by rfl, by (intro W; go_simp; (try with_reducible rfl))⟩
  (try simp only [Act.put, List.setIfInBounds_toArray, List.set_cons_zero, List.set_cons_succ])
  refine tillH_take (i := 4) (oi := ?oo5) (v := ?vv5) ?hi5 (by kernel_rfl) (by kernel_rfl) (by kernel_rfl) ?hq5 (by kernel_rfl) (by kernel_rfl) (by kernel_rfl) ?hy5 S0 ?hh5
  case hi5 => (simp only [List.getElem?_toArray, List.getElem?_cons_succ, List.getElem?_cons_zero]; rfl)
  case hq5 => exact fun _ _ _ h => h
  case hy5 => exact Or.inl ⟨by rfl, by (intro W hSw; (try obtain ⟨s0, s1, s2, s3⟩ := hSw); go_simp; (try with_reducible rfl))⟩
  (try simp only [Act.put, List.setIfInBounds_toArray, List.set_cons_zero, List.set_cons_succ])
  refine tillH_take (i := 5) (oi := ?oo6) (v := ?vv6) ?hi6 (by kernel_rfl) (by kernel_rfl) (by kernel_rfl) ?hq6 (by kernel_rfl) (by kernel_rfl) (by kernel_rfl) ?hy6 S0 ?hh6
  case hi6 => (simp only [List.getElem?_toArray, List.getElem?_cons_succ, List.getElem?_cons_zero]; rfl)
  case hq6 => exact fun _ _ _ h => h
  case hy6 => exact Or.inl ⟨by rfl, by (intro W hSw; (try obtain ⟨s0, s1, s2, s3⟩ := hSw); go_simp; (try with_reducible rfl))⟩
  (try simp only [Act.put, List.setIfInBounds_toArray, List.set_cons_zero, List.set_cons_succ])
  refine tillH_next (rs := [6, 11]) (by kernel_rfl) (by simp) ?_
  refine NextH.cons rfl (fun K hK => ?_) (NextH.cons rfl (fun K hK => ?_) NextH.nil)
  · go_simp
    refine (HBD.out.2.2.2.find0 (k1, k2, k3)).mono ?_
    rintro e E16 ⟨rfl, b6⟩
    have HBD16 := Lib.hid (And.intro (HBD.out.1.trans (b6.mono HBD.out.1.size)) (And.intro (HBD.out.2.1.below b6 HBD.out.2.1.lt) (And.intro (HBD.out.2.2.1.below b6 HBD.out.2.2.1.lt) (HBD.out.2.2.2.below b6))))
    refine hK.out _ _ (fun h => absurd h (by simp)) ?_
    clear hK K
    (try simp only [Act.put, List.setIfInBounds_toArray, List.set_cons_zero, List.set_cons_succ])
    clear b6
    refine tillH_takeAny (i := 7) (oi := ?oo7) (v := ?vv7) ?hi7 (by kernel_rfl) (by kernel_rfl) (by kernel_rfl) ?hq7 (by kernel_rfl) ?hy7 (fun h => absurd h (by simp)) ?hh7
    case hi7 => (simp only [List.getElem?_toArray, List.getElem?_cons_succ, List.getElem?_cons_zero]; rfl)
    case hq7 => exact fun _ _ _ h => h
    case hy7 => exact Or.inl ⟨by rfl, by (intro W; go_simp; (try with_reducible rfl))⟩
    (try simp only [Act.put, List.setIfInBounds_toArray, List.set_cons_zero, List.set_cons_succ])
    refine tillH_takeAny (i := 8) (oi := ?oo8) (v := ?vv8) ?hi8 (by kernel_rfl) (by kernel_rfl) (by kernel_rfl) ?hq8 (by kernel_rfl) ?hy8 (fun h => absurd h (by simp)) ?hh8
    case hi8 => (simp only [List.getElem?_toArray, List.getElem?_cons_succ, List.getElem?_cons_zero]; rfl)
    case hq8 => exact fun _ _ _ h => h
    case hy8 => exact Or.inl ⟨by rfl, by (intro W; go_simp; (try with_reducible rfl))⟩
    (try simp only [Act.put, List.setIfInBounds_toArray, List.set_cons_zero, List.set_cons_succ])
    refine tillH_takeAny (i := 9) (oi := ?oo9) (v := ?vv9) ?hi9 (by kernel_rfl) (by kernel_rfl) (by kernel_rfl) ?hq9 (by kernel_rfl) ?hy9 (fun h => absurd h (by simp)) ?hh9
    case hi9 => (simp only [List.getElem?_toArray, List.getElem?_cons_succ, List.getElem?_cons_zero]; rfl)
    case hq9 => exact fun _ _ _ h => h
    case hy9 => exact Or.inl ⟨by rfl, by (intro W; go_simp; (try with_reducible rfl))⟩
    (try simp only [Act.put, List.setIfInBounds_toArray, List.set_cons_zero, List.set_cons_succ])
    refine tillH_takeAny (i := 10) (oi := ?oo10) (v := ?vv10) ?hi10 (by kernel_rfl) (by kernel_rfl) (by kernel_rfl) ?hq10 (by kernel_rfl) ?hy10 (fun h => absurd h (by simp)) ?hh10
    case hi10 => (simp only [List.getElem?_toArray, List.getElem?_cons_succ, List.getElem?_cons_zero]; rfl)
    case hq10 => exact fun _ _ _ h => h
    case hy10 => exact Or.inl ⟨by rfl, by (intro W; go_simp; (try with_reducible rfl))⟩
    (try simp only [Act.put, List.setIfInBounds_toArray, List.set_cons_zero, List.set_cons_succ])
    refine tillH_next (rs := [11]) (by kernel_rfl) (by simp) ?_
    refine NextH.cons rfl (fun K hK => ?_) NextH.nil
    go_simp
    have ba := (Below.refl E16.heap.size E16).alloc (Nat.le_refl _) (.cells #[.int .i64 0, .int .i64 0, .string ⟨#[]⟩] 34)
    have HBD1111 := Lib.hid (And.intro (HBD16.out.1.trans (ba.mono HBD16.out.1.size)) (And.intro (HBD16.out.2.1.below ba HBD16.out.2.1.lt) (And.intro (HBD16.out.2.2.1.below ba HBD16.out.2.2.1.lt) (And.intro (HBD16.out.2.2.2.below ba) (Blk.new E16 34 #[.int .i64 0, .int .i64 0, .string ⟨#[]⟩])))))
    have hrr : w.heap.size + 1 < E16.heap.size := HBD16.out.2.2.1.lt
    refine hK.out _ _ (fun h => absurd h (by simp)) ?_
    clear hK K
    (try simp only [Act.put, List.setIfInBounds_toArray, List.set_cons_zero, List.set_cons_succ])
    generalize E16.alloc (.cells #[.int .i64 0, .int .i64 0, .string ⟨#[]⟩] 34) = E1111 at *
    generalize E16.heap.size = rr at *
    clear ba
    have rb := HBD1111.out.2.2.2.2
    have z0 := rb.frozen 0
    have z1 := rb.frozen 1
    have z2 := rb.frozen 2
    have y0 : E1111.cell? ⟨rr, 0, none⟩ = some (.int .i64 0) := by rw [rb.cell]; rfl
    have y1 : E1111.cell? ⟨rr, 1, none⟩ = some (.int .i64 0) := by rw [rb.cell]; rfl
    have y2 : E1111.cell? ⟨rr, 2, none⟩ = some (.string ⟨#[]⟩) := by rw [rb.cell]; rfl
    have lr := rb.lt
    clear rb
    refine tillH_next (rs := [12]) (by kernel_rfl) (by simp) ?_
    refine NextH.cons rfl (fun K hK => ?_) NextH.nil
    go_simp
    refine hK.out _ _ (fun h => absurd h (by simp)) ?_
    clear hK K
    (try simp only [Act.put, List.setIfInBounds_toArray, List.set_cons_zero, List.set_cons_succ])
    refine tillH_takeAny (i := 13) (oi := ?oo11) (v := ?vv11) ?hi11 (by kernel_rfl) (by kernel_rfl) (by kernel_rfl) ?hq11 (by kernel_rfl) ?hy11 (fun h => absurd h (by simp)) ?hh11
    case hi11 => (simp only [List.getElem?_toArray, List.getElem?_cons_succ, List.getElem?_cons_zero]; rfl)
    case hq11 => exact fun _ _ _ h => h
    case hy11 => exact Or.inl ⟨by rfl, by (intro W; go_simp; (try with_reducible rfl))⟩
    (try simp only [Act.put, List.setIfInBounds_toArray, List.set_cons_zero, List.set_cons_succ])
    refine tillH_takeAny (i := 14) (oi := ?oo12) (v := ?vv12) ?hi12 (by kernel_rfl) (by kernel_rfl) (by kernel_rfl) ?hq12 (by kernel_rfl) ?hy12 (fun h => absurd h (by simp)) ?hh12
    case hi12 => (simp only [List.getElem?_toArray, List.getElem?_cons_succ, List.getElem?_cons_zero]; rfl)
    case hq12 => exact fun _ _ _ h => h
    case hy12 => exact Or.inl ⟨by rfl, by (intro W; go_simp; (try with_reducible rfl))⟩
    (try simp only [Act.put, List.setIfInBounds_toArray, List.set_cons_zero, List.set_cons_succ])
    refine tillH_done (by kernel_rfl) ?_ _
    refine HKV.out _ _ ?_
    have n0 : w.heap.size ≠ rr := by omega
    have n1 : w.heap.size + 1 ≠ rr := by omega
    have k9 : Blk (((E1111.setCell ⟨rr, 0, none⟩ (.int .i64 0)).setCell ⟨rr, 1, none⟩ (.int .i64 0)).setCell ⟨rr, 2, none⟩ (.string ⟨#[]⟩)) w.heap.size 34 #[.int .i64 k1, .int .i64 k2, .string k3] := ((HBD1111.out.2.1.far n0 _).far n0 _).far n0 _
    have v9 : Blk (((E1111.setCell ⟨rr, 0, none⟩ (.int .i64 0)).setCell ⟨rr, 1, none⟩ (.int .i64 0)).setCell ⟨rr, 2, none⟩ (.string ⟨#[]⟩)) (w.heap.size + 1) 34 #[.int .i64 v1, .int .i64 v2, .string v3] := ((HBD1111.out.2.2.1.far n1 _).far n1 _).far n1 _
    have b9 : Below w.heap.size w (((E1111.setCell ⟨rr, 0, none⟩ (.int .i64 0)).setCell ⟨rr, 1, none⟩ (.int .i64 0)).setCell ⟨rr, 2, none⟩ (.string ⟨#[]⟩)) := ((HBD1111.out.1.setCell (p := ⟨rr, 0, none⟩) (by show w.heap.size ≤ rr; omega) _).setCell (p := ⟨rr, 1, none⟩) (by show w.heap.size ≤ rr; omega) _).setCell (p := ⟨rr, 2, none⟩) (by show w.heap.size ≤ rr; omega) _
    generalize (((E1111.setCell ⟨rr, 0, none⟩ (.int .i64 0)).setCell ⟨rr, 1, none⟩ (.int .i64 0)).setCell ⟨rr, 2, none⟩ (.string ⟨#[]⟩)) = E9 at *
    have x0 : E9.cell? ⟨w.heap.size, 0, none⟩ = some (.int .i64 k1) := by rw [k9.cell]; rfl
    have x1 : E9.cell? ⟨w.heap.size, 1, none⟩ = some (.int .i64 k2) := by rw [k9.cell]; rfl
    have x2 : E9.cell? ⟨w.heap.size, 2, none⟩ = some (.string k3) := by rw [k9.cell]; rfl
    have u0 : E9.cell? ⟨w.heap.size + 1, 0, none⟩ = some (.int .i64 v1) := by rw [v9.cell]; rfl
    have u1 : E9.cell? ⟨w.heap.size + 1, 1, none⟩ = some (.int .i64 v2) := by rw [v9.cell]; rfl
    have u2 : E9.cell? ⟨w.heap.size + 1, 2, none⟩ = some (.string v3) := by rw [v9.cell]; rfl
    have HB9 := Lib.hid b9
    clear k9 v9 b9 n0 n1 HBD1111 z0 z1 z2 y0 y1 y2 lr HKV
    go_wp2_with (fail)
    refine (HOD.out.2 _ HB9.out).mono ?_
    rintro e w9 ⟨rfl, hp⟩
    have HP := Lib.hid hp
    clear hp HOD
    cases R
    · go_wp2
      go_ret
      exact ⟨rfl, HP.out⟩
    · go_wp2
      go_ret
      exact ⟨rfl, HP.out⟩
  · go_simp
    have ba := (Below.refl E.heap.size E).alloc (Nat.le_refl _) (.cells #[.int .i64 0, .int .i64 0, .string ⟨#[]⟩] 34)
    have HBD111 := Lib.hid (And.intro (HBD.out.1.trans (ba.mono HBD.out.1.size)) (And.intro (HBD.out.2.1.below ba HBD.out.2.1.lt) (And.intro (HBD.out.2.2.1.below ba HBD.out.2.2.1.lt) (And.intro (HBD.out.2.2.2.below ba) (Blk.new E 34 #[.int .i64 0, .int .i64 0, .string ⟨#[]⟩])))))
    have hrr : w.heap.size + 1 < E.heap.size := HBD.out.2.2.1.lt
    have lE := HBD.out.2.2.2.ar.ob.lt
    have lk := HBD.out.2.1.lt
    have S2 : (E.alloc (.cells #[.int .i64 0, .int .i64 0, .string ⟨#[]⟩] 34)).cell? ⟨b, 1, none⟩ = some (.int .i64 0) ∧ (E.alloc (.cells #[.int .i64 0, .int .i64 0, .string ⟨#[]⟩] 34)).cell? ⟨w.heap.size, 0, none⟩ = some (.int .i64 k1) ∧ (E.alloc (.cells #[.int .i64 0, .int .i64 0, .string ⟨#[]⟩] 34)).cell? ⟨w.heap.size, 1, none⟩ = some (.int .i64 k2) ∧ (E.alloc (.cells #[.int .i64 0, .int .i64 0, .string ⟨#[]⟩] 34)).cell? ⟨w.heap.size, 2, none⟩ = some (.string k3) := by
      refine ⟨?_, ?_, ?_, ?_⟩
      · rw [HBD111.out.2.2.2.1.ar.ob.cell]; rfl
      · rw [HBD111.out.2.1.cell]; rfl
      · rw [HBD111.out.2.1.cell]; rfl
      · rw [HBD111.out.2.1.cell]; rfl
    refine hK.out _ _ (fun _ => S2) ?_
    clear hK K
    (try simp only [Act.put, List.setIfInBounds_toArray, List.set_cons_zero, List.set_cons_succ])
    generalize E.alloc (.cells #[.int .i64 0, .int .i64 0, .string ⟨#[]⟩] 34) = E111 at *
    generalize E.heap.size = rr at *
    clear ba
    refine tillH_next (rs := [6]) (by kernel_rfl) (by simp) ?_
    refine NextH.cons rfl (fun K hK => ?_) NextH.nil
    go_simp
    refine (HBD111.out.2.2.2.1.find0 (k1, k2, k3)).mono ?_
    rintro e E126 ⟨rfl, b6⟩
    have HBD126 := Lib.hid (And.intro (HBD111.out.1.trans (b6.mono HBD111.out.1.size)) (And.intro (HBD111.out.2.1.below b6 HBD111.out.2.1.lt) (And.intro (HBD111.out.2.2.1.below b6 HBD111.out.2.2.1.lt) (And.intro (HBD111.out.2.2.2.1.below b6) (HBD111.out.2.2.2.2.below b6 HBD111.out.2.2.2.2.lt)))))
    refine hK.out _ _ (fun h => absurd h (by simp)) ?_
    clear hK K
    (try simp only [Act.put, List.setIfInBounds_toArray, List.set_cons_zero, List.set_cons_succ])
    clear b6
    refine tillH_takeAny (i := 7) (oi := ?oo13) (v := ?vv13) ?hi13 (by kernel_rfl) (by kernel_rfl) (by kernel_rfl) ?hq13 (by kernel_rfl) ?hy13 (fun h => absurd h (by simp)) ?hh13
    case hi13 => (simp only [List.getElem?_toArray, List.getElem?_cons_succ, List.getElem?_cons_zero]; rfl)
    case hq13 => exact fun _ _ _ h => h
    case hy13 => exact Or.inl ⟨by rfl, by (intro W; go_simp; (try with_reducible rfl))⟩
    (try simp only [Act.put, List.setIfInBounds_toArray, List.set_cons_zero, List.set_cons_succ])
    refine tillH_takeAny (i := 8) (oi := ?oo14) (v := ?vv14) ?hi14 (by kernel_rfl) (by kernel_rfl) (by kernel_rfl) ?hq14 (by kernel_rfl) ?hy14 (fun h => absurd h (by simp)) ?hh14
    case hi14 => (simp only [List.getElem?_toArray, List.getElem?_cons_succ, List.getElem?_cons_zero]; rfl)
    case hq14 => exact fun _ _ _ h => h
    case hy14 => exact Or.inl ⟨by rfl, by (intro W; go_simp; (try with_reducible rfl))⟩
    (try simp only [Act.put, List.setIfInBounds_toArray, List.set_cons_zero, List.set_cons_succ])
    refine tillH_takeAny (i := 9) (oi := ?oo15) (v := ?vv15) ?hi15 (by kernel_rfl) (by kernel_rfl) (by kernel_rfl) ?hq15 (by kernel_rfl) ?hy15 (fun h => absurd h (by simp)) ?hh15
    case hi15 => (simp only [List.getElem?_toArray, List.getElem?_cons_succ, List.getElem?_cons_zero]; rfl)
    case hq15 => exact fun _ _ _ h => h
    case hy15 => exact Or.inl ⟨by rfl, by (intro W; go_simp; (try with_reducible rfl))⟩
    (try simp only [Act.put, List.setIfInBounds_toArray, List.set_cons_zero, List.set_cons_succ])
    refine tillH_takeAny (i := 10) (oi := ?oo16) (v := ?vv16) ?hi16 (by kernel_rfl) (by kernel_rfl) (by kernel_rfl) ?hq16 (by kernel_rfl) ?hy16 (fun h => absurd h (by simp)) ?hh16
    case hi16 => (simp only [List.getElem?_toArray, List.getElem?_cons_succ, List.getElem?_cons_zero]; rfl)
    case hq16 => exact fun _ _ _ h => h
    case hy16 => exact Or.inl ⟨by rfl, by (intro W; go_simp; (try with_reducible rfl))⟩
    (try simp only [Act.put, List.setIfInBounds_toArray, List.set_cons_zero, List.set_cons_succ])
    have rb := HBD126.out.2.2.2.2
    have z0 := rb.frozen 0
    have z1 := rb.frozen 1
    have z2 := rb.frozen 2
    have y0 : E126.cell? ⟨rr, 0, none⟩ = some (.int .i64 0) := by rw [rb.cell]; rfl
    have y1 : E126.cell? ⟨rr, 1, none⟩ = some (.int .i64 0) := by rw [rb.cell]; rfl
    have y2 : E126.cell? ⟨rr, 2, none⟩ = some (.string ⟨#[]⟩) := by rw [rb.cell]; rfl
    have lr := rb.lt
    clear rb
    refine tillH_next (rs := [12]) (by kernel_rfl) (by simp) ?_
    refine NextH.cons rfl (fun K hK => ?_) NextH.nil
    go_simp
    refine hK.out _ _ (fun h => absurd h (by simp)) ?_
    clear hK K
    (try simp only [Act.put, List.setIfInBounds_toArray, List.set_cons_zero, List.set_cons_succ])
    refine tillH_takeAny (i := 13) (oi := ?oo17) (v := ?vv17) ?hi17 (by kernel_rfl) (by kernel_rfl) (by kernel_rfl) ?hq17 (by kernel_rfl) ?hy17 (fun h => absurd h (by simp)) ?hh17
    case hi17 => (simp only [List.getElem?_toArray, List.getElem?_cons_succ, List.getElem?_cons_zero]; rfl)
    case hq17 => exact fun _ _ _ h => h
    case hy17 => exact Or.inl ⟨by rfl, by (intro W; go_simp; (try with_reducible rfl))⟩
    (try simp only [Act.put, List.setIfInBounds_toArray, List.set_cons_zero, List.set_cons_succ])
    refine tillH_takeAny (i := 14) (oi := ?oo18) (v := ?vv18) ?hi18 (by kernel_rfl) (by kernel_rfl) (by kernel_rfl) ?hq18 (by kernel_rfl) ?hy18 (fun h => absurd h (by simp)) ?hh18
    case hi18 => (simp only [List.getElem?_toArray, List.getElem?_cons_succ, List.getElem?_cons_zero]; rfl)
    case hq18 => exact fun _ _ _ h => h
    case hy18 => exact Or.inl ⟨by rfl, by (intro W; go_simp; (try with_reducible rfl))⟩
    (try simp only [Act.put, List.setIfInBounds_toArray, List.set_cons_zero, List.set_cons_succ])
    refine tillH_done (by kernel_rfl) ?_ _
    refine HKV.out _ _ ?_
    have n0 : w.heap.size ≠ rr := by omega
    have n1 : w.heap.size + 1 ≠ rr := by omega
    have k9 : Blk (((E126.setCell ⟨rr, 0, none⟩ (.int .i64 0)).setCell ⟨rr, 1, none⟩ (.int .i64 0)).setCell ⟨rr, 2, none⟩ (.string ⟨#[]⟩)) w.heap.size 34 #[.int .i64 k1, .int .i64 k2, .string k3] := ((HBD126.out.2.1.far n0 _).far n0 _).far n0 _
    have v9 : Blk (((E126.setCell ⟨rr, 0, none⟩ (.int .i64 0)).setCell ⟨rr, 1, none⟩ (.int .i64 0)).setCell ⟨rr, 2, none⟩ (.string ⟨#[]⟩)) (w.heap.size + 1) 34 #[.int .i64 v1, .int .i64 v2, .string v3] := ((HBD126.out.2.2.1.far n1 _).far n1 _).far n1 _
    have b9 : Below w.heap.size w (((E126.setCell ⟨rr, 0, none⟩ (.int .i64 0)).setCell ⟨rr, 1, none⟩ (.int .i64 0)).setCell ⟨rr, 2, none⟩ (.string ⟨#[]⟩)) := ((HBD126.out.1.setCell (p := ⟨rr, 0, none⟩) (by show w.heap.size ≤ rr; omega) _).setCell (p := ⟨rr, 1, none⟩) (by show w.heap.size ≤ rr; omega) _).setCell (p := ⟨rr, 2, none⟩) (by show w.heap.size ≤ rr; omega) _
    generalize (((E126.setCell ⟨rr, 0, none⟩ (.int .i64 0)).setCell ⟨rr, 1, none⟩ (.int .i64 0)).setCell ⟨rr, 2, none⟩ (.string ⟨#[]⟩)) = E9 at *
    have x0 : E9.cell? ⟨w.heap.size, 0, none⟩ = some (.int .i64 k1) := by rw [k9.cell]; rfl
    have x1 : E9.cell? ⟨w.heap.size, 1, none⟩ = some (.int .i64 k2) := by rw [k9.cell]; rfl
    have x2 : E9.cell? ⟨w.heap.size, 2, none⟩ = some (.string k3) := by rw [k9.cell]; rfl
    have u0 : E9.cell? ⟨w.heap.size + 1, 0, none⟩ = some (.int .i64 v1) := by rw [v9.cell]; rfl
    have u1 : E9.cell? ⟨w.heap.size + 1, 1, none⟩ = some (.int .i64 v2) := by rw [v9.cell]; rfl
    have u2 : E9.cell? ⟨w.heap.size + 1, 2, none⟩ = some (.string v3) := by rw [v9.cell]; rfl
    have HB9 := Lib.hid b9
    clear k9 v9 b9 n0 n1 HBD126 z0 z1 z2 y0 y1 y2 lr HKV
    go_wp2_with (fail)
    refine (HOD.out.2 _ HB9.out).mono ?_
    rintro e w9 ⟨rfl, hp⟩
    have HP := Lib.hid hp
    clear hp HOD
    cases R
    · go_wp2
      go_ret
      exact ⟨rfl, HP.out⟩
    · go_wp2
      go_ret
      exact ⟨rfl, HP.out⟩
end Go.Proofs.YtmimnaaofpkndaaDoor.Hp
