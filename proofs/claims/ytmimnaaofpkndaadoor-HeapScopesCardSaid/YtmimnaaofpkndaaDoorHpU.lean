/- The heap: an element of an array is set. -/
import Derived.Test.YtmimnaaofpkndaaDoorHpT
set_option linter.unusedVariables false
set_option linter.unusedSimpArgs false
namespace Go.Proofs.YtmimnaaofpkndaaDoor.Hp
open Go.RowKit Go.Proofs.YtmimnaaofpkndaaDoor Go.Shelf
attribute [local go_sem] Oper.semAt_some

theorem valsC_set (L : List K3) (i : Nat) (v : K3) : (((valsC L).set (i * 3) (.int .i64 v.1)).set (i * 3 + 1) (.int .i64 v.2.1)).set (i * 3 + 2) (.string v.2.2) = if i < L.length then valsC (L.set i v) else (((valsC L).set (i * 3) (.int .i64 v.1)).set (i * 3 + 1) (.int .i64 v.2.1)).set (i * 3 + 2) (.string v.2.2) := by
  split
  · rename_i h
    induction L generalizing i with
    | nil => simp at h
    | cons k L ih =>
      have h1 : ∀ (k : K3) (L : List K3), valsC (k :: L) = .int .i64 k.1 :: .int .i64 k.2.1 :: .string k.2.2 :: valsC L := fun k L => by simp [valsC]
      cases i with
      | zero => simp [h1]
      | succ i =>
        have := ih i (by simpa using h)
        have s3 : ∀ (x y z u : Value) (l : List Value) (a : Nat), (x :: y :: z :: l).set (a + 3) u = x :: y :: z :: l.set a u := fun _ _ _ _ _ _ => rfl
        rw [h1, show (i + 1) * 3 = i * 3 + 3 by omega, show i * 3 + 3 + 1 = i * 3 + 1 + 3 by omega, show i * 3 + 3 + 2 = i * 3 + 2 + 3 by omega, s3, s3, s3, this, List.set_cons_succ, h1]
  · rfl
/-- Own of a place, whatever it has. -/
theorem own_place (b T B i : Nat) (lv : Value) (L : List K3) (k : K3) (w : World) (h : ArrE w b T B lv L) (hk : idxV 1 k = (i : Int)) (hsz : k.2.2.size ≤ 4000) (hL : L.length ≤ 1000) :
    Calls Tryd.prog 18 #[.pointer (some ⟨b, 0, none⟩), VK k] w fun e w' => (∃ gv : K3, ∃ gf gb, e = .returned (.tuple #[VK gv, .int .i64 gf, .bool gb]) ∧ (gb = true ∧ gf = 7 ∨ gb = false ∧ gf = 0)) ∧ Below w.heap.size w w' := by
  rcases Nat.lt_or_ge i L.length with hi | hi
  · obtain ⟨x, hx⟩ : ∃ x, L[i]? = some x := ⟨_, List.getElem?_eq_getElem hi⟩
    by_cases h10 : x.1 = 10
    · exact (own_hole b T B lv L i k x w h hk hx h10 hsz hL).mono (by rintro e w' ⟨rfl, b⟩; exact ⟨⟨_, _, _, rfl, .inr ⟨rfl, rfl⟩⟩, b⟩)
    · exact (own_at b T B lv L i k x w h hk hx h10 hsz hL).mono (by rintro e w' ⟨rfl, b⟩; exact ⟨⟨_, _, _, rfl, .inl ⟨rfl, rfl⟩⟩, b⟩)
  · exact (own_out b T B lv L i k w h hk hi hsz hL).mono (by rintro e w' ⟨rfl, b⟩; exact ⟨⟨_, _, _, rfl, .inr ⟨rfl, rfl⟩⟩, b⟩)
theorem ArrS.setE {W0 w : World} {b T B g n cap i : Nat} {lv0 : Value} {L : List K3} (v : K3) (h : ArrS W0 w b T B lv0 (.slice (some ⟨g, 0, none⟩) n cap) L) (hn : L.length = n) (hi : i < n) :
    ArrS W0 (((w.setCell ⟨g, i * 3, none⟩ (.int .i64 v.1)).setCell ⟨g, i * 3 + 1, none⟩ (.int .i64 v.2.1)).setCell ⟨g, i * 3 + 2, none⟩ (.string v.2.2)) b T B lv0 (.slice (some ⟨g, 0, none⟩) n cap) (L.set i v) := by
  have hr := h.ar.row
  rw [hn] at hr
  have h3 := ((((hr.stored (i * 3) (.int .i64 v.1)).1.stored (i * 3 + 1) (.int .i64 v.2.1)).1).stored (i * 3 + 2) (.string v.2.2)).1
  rw [valsC_set, if_pos (by omega)] at h3
  have hb : b ≠ g := fun e => h.ar.far (by rw [e]; rfl)
  have hMg : (fun x => (x = b ∨ lv0.ownBlock = some x) ∨ W0.heap.size ≤ x) g := by
    rcases h.nw g rfl with e | e
    · exact .inl (.inr e)
    · exact .inr e
  refine ⟨⟨((h.ar.ob.far hb _).far hb _).far hb _, by rw [List.length_set, hn]; exact h3⟩, Upd.join h.up ((((Upd.refl w _).set g _ _ hMg).set g _ _ hMg).set g _ _ hMg), h.nw⟩
set_option maxRecDepth 100000 in
set_option maxHeartbeats 4000000 in
theorem define_idx (b T B i : Nat) (lv : Value) (L : List K3) (k v : K3) (w : World) (h : ArrE w b T B lv L) (hk : idxV 1 k = (i : Int)) (hsz : k.2.2.size ≤ 4000) (hL : L.length ≤ 1000) (hi9 : i < 1000) (hB : B ≤ w.heap.size) :
    Calls Tryd.prog 12 #[.pointer (some ⟨b, 0, none⟩), VK k, VK v, .int .i64 7] w fun e w' => e = .returned (.bool true) ∧ ∃ lv', ArrS w w' b T B lv lv' ((L ++ List.replicate (i + 1 - L.length) E0).set i v) := by
  obtain ⟨i0, hi, hz0, hz1, hz2⟩ := info_parts infoVal
  have H := Lib.hid h
  have hown := fun W (bw : Below w.heap.size w W) => own_place b T B i lv L k W (h.below bw) hk hsz hL
  have hidx := fun W (bw : Below w.heap.size w W) => hindex_any b T 1 0 false lv nilP nilP nilS 0 k W (h.below bw).ob hsz
  rw [hk] at hidx
  obtain ⟨k1, k2, k3⟩ := k
  obtain ⟨v1, v2, v3⟩ := v
  have HOI := Lib.hid (And.intro hown hidx)
  have hbl0 := h.ob.lt
  have hrlt := h.row.lt
  clear h hown hidx hk hsz
  have b1 : Below w.heap.size w ((w.alloc (.cells #[.int .i64 k1, .int .i64 k2, .string k3] 34)).alloc (.cells #[.int .i64 v1, .int .i64 v2, .string v3] 34)) := ((Below.refl _ _).alloc (Nat.le_refl _) _).alloc (by simp) _
  have kb : Blk ((w.alloc (.cells #[.int .i64 k1, .int .i64 k2, .string k3] 34)).alloc (.cells #[.int .i64 v1, .int .i64 v2, .string v3] 34)) w.heap.size 34 #[.int .i64 k1, .int .i64 k2, .string k3] := (Blk.new w _ _).alloc _
  have vb : Blk ((w.alloc (.cells #[.int .i64 k1, .int .i64 k2, .string k3] 34)).alloc (.cells #[.int .i64 v1, .int .i64 v2, .string v3] 34)) (w.heap.size + 1) 34 #[.int .i64 v1, .int .i64 v2, .string v3] := by
    have := Blk.new (w.alloc (.cells #[.int .i64 k1, .int .i64 k2, .string k3] 34)) 34 #[.int .i64 v1, .int .i64 v2, .string v3]
    rwa [World.size_alloc] at this
  have HB := Lib.hid (And.intro b1 (And.intro kb vb))
  clear b1 kb vb
  go_enter Tryd.func12, Tryd.ntmps12
  go_wp2_with (fail)
  refine (HOI.out.1 _ HB.out.1).mono ?_
  rintro e w2 ⟨⟨⟨g1, g2, g3⟩, gf, gb, rfl, hgb⟩, b2⟩
  obtain ⟨b1, kb, vb⟩ := HB.out
  have b02 := b1.trans (b2.mono b1.size)
  have kb2 := kb.below b2 kb.lt
  have vb2 := vb.below b2 vb.lt
  have o2 := H.out.below b02
  have p0 : w2.cell? ⟨w.heap.size, 0, none⟩ = some (.int .i64 k1) := by rw [kb2.cell]; rfl
  have p1 : w2.cell? ⟨w.heap.size, 1, none⟩ = some (.int .i64 k2) := by rw [kb2.cell]; rfl
  have p2 : w2.cell? ⟨w.heap.size, 2, none⟩ = some (.string k3) := by rw [kb2.cell]; rfl
  have o22 : w2.cell? ⟨b, 2, none⟩ = some (.bool false) := by rw [o2.ob.cell]; rfl
  have ol := o2.ob.lt
  have pl := kb2.lt
  have b3 := b02.alloc b02.size (.cells #[.int .i64 g1, .int .i64 g2, .string g3] 34)
  have HB2 := Lib.hid (And.intro b3 (vb2.alloc (.cells #[.int .i64 g1, .int .i64 g2, .string g3] 34)))
  clear b1 kb vb b2 b02 kb2 vb2 b3 HB o2

  rcases hgb with ⟨rfl, rfl⟩ | ⟨rfl, rfl⟩
  · have a0 : bits .and .i64 7 4 = 4 := by decide
    go_wp2_with (fail)
    refine (HOI.out.2 _ HB2.out.1).mono ?_
    rintro e w4 ⟨rfl, b4⟩
    obtain ⟨b3, vb3⟩ := HB2.out
    have b04 := b3.trans (b4.mono b3.size)
    have vb4 := vb3.below b4 vb3.lt
    have hS0 := ArrS.refl (H.out.below b04)
    have t1 : decide ((0 : Int) ≤ (i : Int)) = true := by simp
    have hpw : w.heap.size + 1 < w4.heap.size := vb4.lt
    have HB4 := Lib.hid (And.intro b04 (And.intro vb4 hS0))
    clear b3 vb3 b4 b04 vb4 HB2 HOI H hS0 p0 p1 p2 o22 ol pl
    generalize hp : w.heap.size = p at *
    have hBp : B ≤ p := hB
    clear hB
    go_wp2_with (fail)
    go_loopw [] (fun wr => ∃ (m : Nat) (lv' : Value), m ≤ i + 1 - L.length ∧ Hid (ArrS w4 wr b T B lv lv' (L ++ List.replicate m E0))) (fun wr => i + 1 - lenAt b wr)
    case atStart => exact ⟨0, lv, Nat.zero_le _, Lib.hid (by simpa using HB4.out.2.2)⟩
    case round =>
      obtain ⟨m, lv', hm, HS⟩ := hrel
      obtain ⟨n, hn⟩ : ∃ n, (L ++ List.replicate m E0).length = n := ⟨_, rfl⟩
      have hnm : L.length + m = n := by rw [← hn]; simp
      have hrow := HS.out.ar.row
      obtain ⟨la, lcap, rfl, hla⟩ := own_shape hrow
      have x4 : wr.cell? ⟨b, 4, none⟩ = some (.slice la n lcap) := by rw [HS.out.ar.ob.cell, ← hn]; rfl
      have z4 := HS.out.ar.ob.frozen 4
      have hbl := HS.out.ar.ob.lt
      have hlen := lenAt_of x4
      have HS1 : Hid (ArrS w4 wr b T B lv (.slice la n lcap) (L ++ List.replicate m E0)) := Lib.hid (by rw [← hn]; exact HS.out)
      clear HS
      rw [hn] at hrow
      by_cases hlt : n ≤ i
      · have t3 : decide ((n : Int) ≤ (i : Int)) = true := by simp; omega
        have hBw : B ≤ wr.heap.size := by have := HS1.out.up.size; omega
        have HR := Lib.hid (And.intro hn (And.intro hnm (And.intro hlen hrow)))
        clear hn hla hlen
        go_wp2_with (at_builtin; refine wpList_append_lies _ rfl _ _ 45 rfl B 34 i0 _ 3 32 Tryd.underlying45 hi hz0 hz1 hz2 rfl (by decide) _ _ _ rfl (hrow.alloc _) ⟨wr.heap.size, 0, none⟩ 1 1 [.int .i64 10, .int .i64 0, .string ⟨#[]⟩] rfl rfl (World.news_of_block (cs := #[.int .i64 10, .int .i64 0, .string ⟨#[]⟩]) (t := 34) (fr := (0, 0)) (heap_alloc_new wr _)) (by simp [Value.oneCell']) (by decide) (by unfold maxLen; omega) (by omega) (by simp; omega) _ rfl ?_)
        intro gg capg w8 hown8 hgrow8 hat8 hlt8
        have hS8 := HS1.out.more E0 HR.out.1 hgrow8 hown8 (hat8.imp id (fun e => by omega))
        have hb8 := (HS1.out.ar.ob.alloc _).grown hgrow8 (fun e => HS1.out.ar.far e.symm)
        have x8 : w8.cell? ⟨b, 4, none⟩ = some (.slice la n lcap) := by rw [hb8.cell]; rfl
        have z8 := hb8.frozen 4
        have l8 := hb8.lt
        have HF := Lib.hid hS8
        clear hS8 hb8 hown8 hgrow8 hat8 hlt8 HS1 hrow z4 x4
        go_wp2_with fail
        go_roundw
        case rel => exact ⟨m + 1, _, by omega, Lib.hid (by rw [List.replicate_succ', ← List.append_assoc]; exact HF.out)⟩
        case measure =>
          have h1 : lenAt b (w8.setCell ⟨b, 4, none⟩ (.slice (some ⟨gg, 0, none⟩) (n + 1) capg)) = n + 1 := lenAt_of (by rw [HF.out.ar.ob.cell]; rfl)
          rw [h1, HR.out.2.2.1]
          omega
      · have t3 : decide ((n : Int) ≤ (i : Int)) = false := by simp; omega
        obtain rfl : m = i + 1 - L.length := by omega
        obtain ⟨g, rfl⟩ := hla (by omega)
        have hcp := own_cap hrow
        have z0 : (0 : Int) ≤ (i : Int) := by omega
        have z1 : (i : Int) < (n : Int) := by omega
        have hne : p + 1 ≠ g := fun e => by
          rcases HS1.out.nw g rfl with h | h
          · have := (hrlt g h).2; omega
          · omega
        have hfin : ∀ W, W = wr.drewN 1 → ArrS w4 (((W.setCell ⟨g, i * 3, none⟩ (.int .i64 v1)).setCell ⟨g, i * 3 + 1, none⟩ (.int .i64 v2)).setCell ⟨g, i * 3 + 2, none⟩ (.string v3)) b T B lv (.slice (some ⟨g, 0, none⟩) n lcap) ((L ++ List.replicate (i + 1 - L.length) E0).set i (v1, v2, v3)) := by
          rintro W rfl
          exact (HS1.out.below (below_drw (Below.refl _ _) 1)).setE (v1, v2, v3) hn (by omega)
        have hx : ∀ W, W = wr.drewN 1 → Blk W b 51 (objA 1 0 false T (.slice (some ⟨g, 0, none⟩) n lcap) nilP nilP nilS 0) ∧ Blk W (p + 1) 34 #[.int .i64 v1, .int .i64 v2, .string v3] ∧ W.ownsRow B 34 3 (.slice (some ⟨g, 0, none⟩) n lcap) n (valsC (L ++ List.replicate (i + 1 - L.length) E0)) := by
          rintro W rfl
          refine ⟨HS1.out.ar.ob, ?_, hrow⟩
          exact HS1.out.up.blk HB4.out.2.1 (fun e => e.elim (fun e => by omega) (fun e => by have := (hrlt _ e).2; omega))
        have HF := Lib.hid hfin
        have HX2 := Lib.hid hx
        have hlv : (valsC (L ++ List.replicate (i + 1 - L.length) E0)).length = n * 3 := by rw [valsC_length, hn]
        clear hfin hx z4 hlen hrow hla hcp HS1
        go_upto_region 12 with fail
        clear x4 hbl
        refine still_tail 7 (by kernel_rfl) (by kernel_rfl) (fun W2 hW2 => ?_)
        obtain ⟨hb2, hv2, hr2⟩ := HX2.out W2 hW2
        have HR := Lib.hid (HF.out W2 hW2)
        have x2 : W2.cell? ⟨b, 4, none⟩ = some (.slice (some ⟨g, 0, none⟩) n lcap) := by rw [hb2.cell]; rfl
        have l2 := hb2.lt
        have q0 : W2.cell? ⟨p + 1, 0, none⟩ = some (.int .i64 v1) := by rw [hv2.cell]; rfl
        have q1 : W2.cell? ⟨p + 1, 1, none⟩ = some (.int .i64 v2) := by rw [hv2.cell]; rfl
        have q2 : W2.cell? ⟨p + 1, 2, none⟩ = some (.string v3) := by rw [hv2.cell]; rfl
        obtain ⟨u0, e0⟩ : ∃ u, W2.cell? ⟨g, i * 3, none⟩ = some u := ⟨_, (hr2.cellAt (i * 3) (by omega)).trans (List.getElem?_eq_getElem (by rw [hlv]; omega))⟩
        obtain ⟨u1, e1⟩ : ∃ u, W2.cell? ⟨g, i * 3 + 1, none⟩ = some u := ⟨_, (hr2.cellAt (i * 3 + 1) (by omega)).trans (List.getElem?_eq_getElem (by rw [hlv]; omega))⟩
        obtain ⟨u2, e2⟩ : ∃ u, W2.cell? ⟨g, i * 3 + 2, none⟩ = some u := ⟨_, (hr2.cellAt (i * 3 + 2) (by omega)).trans (List.getElem?_eq_getElem (by rw [hlv]; omega))⟩
        have f0 := hr2.frozenAt (i * 3)
        have f1 := hr2.frozenAt (i * 3 + 1)
        have f2 := hr2.frozenAt (i * 3 + 2)
        have lg := World.block_lt_of_cell? W2 _ e0
        have HBB := Lib.hid HB4.out.1
        have HPP := Lib.hid hp
        clear hW2 hb2 hv2 hr2 HX2 HF hlv HB4 hp
        simp only [List.take_succ_cons, List.take_zero, List.drop_succ_cons, List.drop_zero]
        repeat still_step
        refine wpStill_nil ?_
        go_wp2
        go_ret
        exact ⟨rfl, _, HR.out.from (by rw [HPP.out]; exact HBB.out)⟩
  ·
    go_wp2_with (fail)
    refine (HOI.out.2 _ HB2.out.1).mono ?_
    rintro e w4 ⟨rfl, b4⟩
    obtain ⟨b3, vb3⟩ := HB2.out
    have b04 := b3.trans (b4.mono b3.size)
    have vb4 := vb3.below b4 vb3.lt
    have hS0 := ArrS.refl (H.out.below b04)
    have t1 : decide ((0 : Int) ≤ (i : Int)) = true := by simp
    have hpw : w.heap.size + 1 < w4.heap.size := vb4.lt
    have HB4 := Lib.hid (And.intro b04 (And.intro vb4 hS0))
    clear b3 vb3 b4 b04 vb4 HB2 HOI H hS0 p0 p1 p2 o22 ol pl
    generalize hp : w.heap.size = p at *
    have hBp : B ≤ p := hB
    clear hB
    go_wp2_with (fail)
    go_loopw [] (fun wr => ∃ (m : Nat) (lv' : Value), m ≤ i + 1 - L.length ∧ Hid (ArrS w4 wr b T B lv lv' (L ++ List.replicate m E0))) (fun wr => i + 1 - lenAt b wr)
    case atStart => exact ⟨0, lv, Nat.zero_le _, Lib.hid (by simpa using HB4.out.2.2)⟩
    case round =>
      obtain ⟨m, lv', hm, HS⟩ := hrel
      obtain ⟨n, hn⟩ : ∃ n, (L ++ List.replicate m E0).length = n := ⟨_, rfl⟩
      have hnm : L.length + m = n := by rw [← hn]; simp
      have hrow := HS.out.ar.row
      obtain ⟨la, lcap, rfl, hla⟩ := own_shape hrow
      have x4 : wr.cell? ⟨b, 4, none⟩ = some (.slice la n lcap) := by rw [HS.out.ar.ob.cell, ← hn]; rfl
      have z4 := HS.out.ar.ob.frozen 4
      have hbl := HS.out.ar.ob.lt
      have hlen := lenAt_of x4
      have HS1 : Hid (ArrS w4 wr b T B lv (.slice la n lcap) (L ++ List.replicate m E0)) := Lib.hid (by rw [← hn]; exact HS.out)
      clear HS
      rw [hn] at hrow
      by_cases hlt : n ≤ i
      · have t3 : decide ((n : Int) ≤ (i : Int)) = true := by simp; omega
        have hBw : B ≤ wr.heap.size := by have := HS1.out.up.size; omega
        have HR := Lib.hid (And.intro hn (And.intro hnm (And.intro hlen hrow)))
        clear hn hla hlen
        go_wp2_with (at_builtin; refine wpList_append_lies _ rfl _ _ 45 rfl B 34 i0 _ 3 32 Tryd.underlying45 hi hz0 hz1 hz2 rfl (by decide) _ _ _ rfl (hrow.alloc _) ⟨wr.heap.size, 0, none⟩ 1 1 [.int .i64 10, .int .i64 0, .string ⟨#[]⟩] rfl rfl (World.news_of_block (cs := #[.int .i64 10, .int .i64 0, .string ⟨#[]⟩]) (t := 34) (fr := (0, 0)) (heap_alloc_new wr _)) (by simp [Value.oneCell']) (by decide) (by unfold maxLen; omega) (by omega) (by simp; omega) _ rfl ?_)
        intro gg capg w8 hown8 hgrow8 hat8 hlt8
        have hS8 := HS1.out.more E0 HR.out.1 hgrow8 hown8 (hat8.imp id (fun e => by omega))
        have hb8 := (HS1.out.ar.ob.alloc _).grown hgrow8 (fun e => HS1.out.ar.far e.symm)
        have x8 : w8.cell? ⟨b, 4, none⟩ = some (.slice la n lcap) := by rw [hb8.cell]; rfl
        have z8 := hb8.frozen 4
        have l8 := hb8.lt
        have HF := Lib.hid hS8
        clear hS8 hb8 hown8 hgrow8 hat8 hlt8 HS1 hrow z4 x4
        go_wp2_with fail
        go_roundw
        case rel => exact ⟨m + 1, _, by omega, Lib.hid (by rw [List.replicate_succ', ← List.append_assoc]; exact HF.out)⟩
        case measure =>
          have h1 : lenAt b (w8.setCell ⟨b, 4, none⟩ (.slice (some ⟨gg, 0, none⟩) (n + 1) capg)) = n + 1 := lenAt_of (by rw [HF.out.ar.ob.cell]; rfl)
          rw [h1, HR.out.2.2.1]
          omega
      · have t3 : decide ((n : Int) ≤ (i : Int)) = false := by simp; omega
        obtain rfl : m = i + 1 - L.length := by omega
        obtain ⟨g, rfl⟩ := hla (by omega)
        have hcp := own_cap hrow
        have z0 : (0 : Int) ≤ (i : Int) := by omega
        have z1 : (i : Int) < (n : Int) := by omega
        have hne : p + 1 ≠ g := fun e => by
          rcases HS1.out.nw g rfl with h | h
          · have := (hrlt g h).2; omega
          · omega
        have hfin : ∀ W, W = wr.drewN 1 → ArrS w4 (((W.setCell ⟨g, i * 3, none⟩ (.int .i64 v1)).setCell ⟨g, i * 3 + 1, none⟩ (.int .i64 v2)).setCell ⟨g, i * 3 + 2, none⟩ (.string v3)) b T B lv (.slice (some ⟨g, 0, none⟩) n lcap) ((L ++ List.replicate (i + 1 - L.length) E0).set i (v1, v2, v3)) := by
          rintro W rfl
          exact (HS1.out.below (below_drw (Below.refl _ _) 1)).setE (v1, v2, v3) hn (by omega)
        have hx : ∀ W, W = wr.drewN 1 → Blk W b 51 (objA 1 0 false T (.slice (some ⟨g, 0, none⟩) n lcap) nilP nilP nilS 0) ∧ Blk W (p + 1) 34 #[.int .i64 v1, .int .i64 v2, .string v3] ∧ W.ownsRow B 34 3 (.slice (some ⟨g, 0, none⟩) n lcap) n (valsC (L ++ List.replicate (i + 1 - L.length) E0)) := by
          rintro W rfl
          refine ⟨HS1.out.ar.ob, ?_, hrow⟩
          exact HS1.out.up.blk HB4.out.2.1 (fun e => e.elim (fun e => by omega) (fun e => by have := (hrlt _ e).2; omega))
        have HF := Lib.hid hfin
        have HX2 := Lib.hid hx
        have hlv : (valsC (L ++ List.replicate (i + 1 - L.length) E0)).length = n * 3 := by rw [valsC_length, hn]
        clear hfin hx z4 hlen hrow hla hcp HS1
        go_upto_region 12 with fail
        clear x4 hbl
        refine still_tail 7 (by kernel_rfl) (by kernel_rfl) (fun W2 hW2 => ?_)
        obtain ⟨hb2, hv2, hr2⟩ := HX2.out W2 hW2
        have HR := Lib.hid (HF.out W2 hW2)
        have x2 : W2.cell? ⟨b, 4, none⟩ = some (.slice (some ⟨g, 0, none⟩) n lcap) := by rw [hb2.cell]; rfl
        have l2 := hb2.lt
        have q0 : W2.cell? ⟨p + 1, 0, none⟩ = some (.int .i64 v1) := by rw [hv2.cell]; rfl
        have q1 : W2.cell? ⟨p + 1, 1, none⟩ = some (.int .i64 v2) := by rw [hv2.cell]; rfl
        have q2 : W2.cell? ⟨p + 1, 2, none⟩ = some (.string v3) := by rw [hv2.cell]; rfl
        obtain ⟨u0, e0⟩ : ∃ u, W2.cell? ⟨g, i * 3, none⟩ = some u := ⟨_, (hr2.cellAt (i * 3) (by omega)).trans (List.getElem?_eq_getElem (by rw [hlv]; omega))⟩
        obtain ⟨u1, e1⟩ : ∃ u, W2.cell? ⟨g, i * 3 + 1, none⟩ = some u := ⟨_, (hr2.cellAt (i * 3 + 1) (by omega)).trans (List.getElem?_eq_getElem (by rw [hlv]; omega))⟩
        obtain ⟨u2, e2⟩ : ∃ u, W2.cell? ⟨g, i * 3 + 2, none⟩ = some u := ⟨_, (hr2.cellAt (i * 3 + 2) (by omega)).trans (List.getElem?_eq_getElem (by rw [hlv]; omega))⟩
        have f0 := hr2.frozenAt (i * 3)
        have f1 := hr2.frozenAt (i * 3 + 1)
        have f2 := hr2.frozenAt (i * 3 + 2)
        have lg := World.block_lt_of_cell? W2 _ e0
        have HBB := Lib.hid HB4.out.1
        have HPP := Lib.hid hp
        clear hW2 hb2 hv2 hr2 HX2 HF hlv HB4 hp
        simp only [List.take_succ_cons, List.take_zero, List.drop_succ_cons, List.drop_zero]
        repeat still_step
        refine wpStill_nil ?_
        go_wp2
        go_ret
        exact ⟨rfl, _, HR.out.from (by rw [HPP.out]; exact HBB.out)⟩
end Go.Proofs.YtmimnaaofpkndaaDoor.Hp
