/- HrD: several texts in one. -/
import Derived.Test.YtmimnaaofpkndaaDoorHrB
import Derived.StillTailTactics
/- HeapRuns: an array's elements, its length. -/
set_option linter.unusedVariables false
set_option linter.unusedSimpArgs false
namespace Go.Proofs.YtmimnaaofpkndaaDoor.Hp.G
open Go.RowKit Go.Proofs.YtmimnaaofpkndaaDoor Go.Proofs.YtmimnaaofpkndaaDoor.Hp Go.Shelf
attribute [local go_sem] Oper.semAt_some
/-- An array: its struct and its row of elements. -/
structure ArrE (pr : Int) (clo : Bool) (w : World) (b T B : Nat) (lv : Value) (L : List K3) : Prop where
  ob : Blk w b 51 (objA 1 pr clo T lv nilP nilP nilS (if clo = true then 1 else 0))
  row : w.ownsRow B 34 3 lv L.length (valsC L)
variable {pr : Int} {clo : Bool}
section
variable {w w' w1 W0 : World} {b T B : Nat} {lv lv0 : Value} {L L0 : List K3}
theorem ArrE.upd {M : Nat → Prop} (h : ArrE pr clo w b T B lv L) (u : Upd w w' M) (h0 : ¬ M b) (h1 : ∀ g, lv.ownBlock = some g → ¬ M g) : ArrE pr clo w' b T B lv L := ⟨u.blk h.ob h0, u.own h.row h1⟩
theorem ArrE.below (h : ArrE pr clo w b T B lv L) (u : Below w.heap.size w w') : ArrE pr clo w' b T B lv L := h.upd (M := fun _ => False) (Upd.of_below_all u) (fun h => h) (fun _ _ h => h)
theorem ArrE.far (h : ArrE pr clo w b T B lv L) : lv.ownBlock ≠ some b := own_blk_ne h.row h.ob (by decide)
theorem ArrE.more {g cap n : Nat} {o : Obj} (k : K3) (h : ArrE pr clo w b T B lv L) (hn : L.length = n) (hg : (w.alloc o).grownBy w1 lv.ownBlock)
    (hown : w1.ownsRow B 34 3 (.slice (some ⟨g, 0, none⟩) (n + 1) cap) (n + 1) (valsC L ++ [.int .i64 k.1, .int .i64 k.2.1, .string k.2.2])) :
    ArrE pr clo (w1.setCell ⟨b, 4, none⟩ (.slice (some ⟨g, 0, none⟩) (n + 1) cap)) b T B (.slice (some ⟨g, 0, none⟩) (n + 1) cap) (L ++ [k]) ∧ Upd w (w1.setCell ⟨b, 4, none⟩ (.slice (some ⟨g, 0, none⟩) (n + 1) cap)) (fun x => x = b ∨ lv.ownBlock = some x) := by
  have hb := (h.ob.alloc o).grown hg (fun e => h.far e.symm)
  refine ⟨⟨hb.set_ 4 _, ?_⟩, ((((Upd.refl w _).alloc _).grown hg (fun k e => .inr e)).set b 4 _ (.inl rfl))⟩
  rw [List.length_append, valsC_append, hn]
  exact own_set hown hb (by decide) _ _
/-- What steps on an array leave. -/
structure ArrS (pr : Int) (clo : Bool) (W0 w : World) (b T B : Nat) (lv0 lv : Value) (L : List K3) : Prop where
  ar : ArrE pr clo w b T B lv L
  up : Upd W0 w (fun x => x = b ∨ lv0.ownBlock = some x)
  nw : ∀ g, lv.ownBlock = some g → lv0.ownBlock = some g ∨ W0.heap.size ≤ g
theorem ArrS.refl (h : ArrE pr clo w b T B lv L) : ArrS pr clo w w b T B lv lv L := ⟨h, Upd.refl _ _, fun g hg => .inl hg⟩
theorem ArrS.below (h : ArrS pr clo W0 w b T B lv0 lv L) (u : Below w.heap.size w w') : ArrS pr clo W0 w' b T B lv0 lv L := ⟨h.ar.below u, h.up.then_below u, h.nw⟩
theorem ArrS.more {g cap n : Nat} {o : Obj} (k : K3) (h : ArrS pr clo W0 w b T B lv0 lv L) (hn : L.length = n) (hg : (w.alloc o).grownBy w1 lv.ownBlock)
    (hown : w1.ownsRow B 34 3 (.slice (some ⟨g, 0, none⟩) (n + 1) cap) (n + 1) (valsC L ++ [.int .i64 k.1, .int .i64 k.2.1, .string k.2.2])) (hat : lv.ownBlock = some g ∨ w.heap.size ≤ g) :
    ArrS pr clo W0 (w1.setCell ⟨b, 4, none⟩ (.slice (some ⟨g, 0, none⟩) (n + 1) cap)) b T B lv0 (.slice (some ⟨g, 0, none⟩) (n + 1) cap) (L ++ [k]) := by
  obtain ⟨h1, h2⟩ := h.ar.more k hn hg hown
  refine ⟨h1, Upd.join h.up (h2.mono fun x _ hx => ?_), fun x hx => ?_⟩
  · rcases hx with rfl | hx
    · exact .inl (.inl rfl)
    · exact (h.nw x hx).imp .inr id
  · have : g = x := by simpa [Value.ownBlock] using hx
    subst this
    rcases hat with e | e
    · exact h.nw g e
    · exact .inr (Nat.le_trans h.up.size e)
theorem ArrS.from (h : ArrS pr clo W0 w b T B lv0 lv L) (b0 : Below w'.heap.size w' W0) : ArrS pr clo w' w b T B lv0 lv L := ⟨h.ar, (Upd.of_below_all b0).trans h.up, fun g e => (h.nw g e).imp id (Nat.le_trans b0.size)⟩
theorem ArrS.put {v' : Value} {L' : List K3} (h : ArrS pr clo W0 w b T B lv0 lv L) (hr : w.ownsRow B 34 3 v' L'.length (valsC L')) (hg : ∀ g, v'.ownBlock = some g → lv.ownBlock = some g) : ArrS pr clo W0 (w.setCell ⟨b, 4, none⟩ v') b T B lv0 v' L' :=
  ⟨⟨h.ar.ob.set_ 4 _, own_set hr h.ar.ob (by decide) 4 _⟩, Upd.join h.up ((Upd.refl w _).set b 4 _ (.inl (.inl rfl))), fun g e => h.nw g (hg g e)⟩
end
set_option maxRecDepth 100000 in
set_option maxHeartbeats 2000000 in
theorem resize_any (b T B N : Nat) (lv : Value) (L : List K3) (s : ByteArray) (w : World) (h : ArrE pr clo w b T B lv L) (hL : L.length ≤ 1000) (hN : N ≤ 1000) (hB : B ≤ w.heap.size) :
    Calls Tryd.prog 43 #[.pointer (some ⟨b, 0, none⟩), VS 3 (N : Int) s] w fun e w' => e = .returned (.bool true) ∧ ∃ lv', ArrS pr clo w w' b T B lv lv' ((L ++ List.replicate (N - L.length) E0).take N) := by
  obtain ⟨i0, hi, hz0, hz1, hz2⟩ := info_parts infoVal
  have t1 : decide ((N : Int) < 0) = false := by simp
  have t2 : decide ((1000 : Int) < (N : Int)) = false := by simp; omega
  have b1 : Below w.heap.size w (w.alloc (.cells #[.int .i64 3, .int .i64 (N : Int), .string s] 34)) := (Below.refl _ _).alloc (Nat.le_refl _) _
  have bx := Blk.new w 34 #[.int .i64 3, .int .i64 (N : Int), .string s]
  have hlt : ∀ g, lv.ownBlock = some g → g ≠ w.heap.size := fun g hg e => by have := (h.row.lt g hg).2; omega
  have hbl : b ≠ w.heap.size := fun e => by have := h.ob.lt; omega
  have HS := Lib.hid (ArrS.refl (h.below b1))
  have hsz : (w.alloc (.cells #[.int .i64 3, .int .i64 (N : Int), .string s] 34)).heap.size = w.heap.size + 1 := by simp
  have bz := bx.frozen 1
  have bl := bx.lt
  go_enter Tryd.func43, Tryd.ntmps43
  go_wp2_with fail
  generalize (w.alloc (.cells #[.int .i64 3, .int .i64 (N : Int), .string s] 34)) = W0 at *
  generalize hp : w.heap.size = p at *
  have HB0 := Lib.hid (And.intro b1 (And.intro bx (And.intro hlt hbl)))
  have hBp : B ≤ p := hB
  clear b1 bx hlt hbl h bz bl hB
  go_loopw [] (fun wr => ∃ (m : Nat) (lv' : Value), m ≤ N - L.length ∧ Hid (ArrS pr clo W0 wr b T B lv lv' (L ++ List.replicate m E0))) (fun wr => N - lenAt b wr)
  case atStart => exact ⟨0, lv, Nat.zero_le _, Lib.hid (by simpa using HS.out)⟩
  case round =>
    clear HS
    obtain ⟨m, lv', hm, HS⟩ := hrel
    obtain ⟨n, hn⟩ : ∃ n, (L ++ List.replicate m E0).length = n := ⟨_, rfl⟩
    have hnm : L.length + m = n := by rw [← hn]; simp
    have hrow := HS.out.ar.row
    obtain ⟨la, lcap, rfl, hla⟩ := own_shape hrow
    have x4 : wr.cell? ⟨b, 4, none⟩ = some (.slice la n lcap) := by rw [HS.out.ar.ob.cell, ← hn]; rfl
    have hbx : Blk wr p 34 #[.int .i64 3, .int .i64 (N : Int), .string s] := HS.out.up.blk HB0.out.2.1 (fun e => e.elim (fun e => HB0.out.2.2.2 e.symm) (fun e => HB0.out.2.2.1 p e rfl))
    have x1 : wr.cell? ⟨p, 1, none⟩ = some (.int .i64 (N : Int)) := by rw [hbx.cell]; rfl
    have z4 := HS.out.ar.ob.frozen 4
    have hbl := HS.out.ar.ob.lt
    have hlen := lenAt_of x4
    rw [hn] at hrow
    by_cases hlt : n < N
    · have t3 : decide ((n : Int) < (N : Int)) = true := by simp; omega
      have hBw : B ≤ wr.heap.size := by have := HS.out.up.size; omega
      have HR := Lib.hid (And.intro hn (And.intro hnm (And.intro hlen hrow)))
      clear hn hbx hla hlen hrow
      go_upto_region 3 with fail
      go_quiet (fail)
      have HS1 : Hid (ArrS pr clo W0 (wr.drewN nq) b T B lv (.slice la n lcap) (L ++ List.replicate m E0)) := Lib.hid (by rw [← HR.out.1]; exact HS.out.below (below_drw (Below.refl _ _) nq))
      have x4' : (wr.drewN nq).cell? ⟨b, 4, none⟩ = some (.slice la n lcap) := x4
      have hbl' : b < (wr.drewN nq).heap.size := hbl
      have hBw' : B ≤ (wr.drewN nq).heap.size := hBw
      clear HS x1 x4 z4 hbl hBw
      have z4 := HS1.out.ar.ob.frozen 4
      have hrow := HS1.out.ar.row
      rw [HR.out.1] at hrow
      generalize wr.drewN nq = wq at *
      go_wp2_with (at_builtin; refine wpList_append_lies _ rfl _ _ 45 rfl B 34 i0 _ 3 32 Tryd.underlying45 hi hz0 hz1 hz2 rfl (by decide) _ _ _ rfl (hrow.alloc _) ⟨wq.heap.size, 0, none⟩ 1 1 [.int .i64 10, .int .i64 0, .string ⟨#[]⟩] rfl rfl (World.news_of_block (cs := #[.int .i64 10, .int .i64 0, .string ⟨#[]⟩]) (t := 34) (fr := (0, 0)) (heap_alloc_new wq _)) (by simp [Value.oneCell']) (by decide) (by unfold maxLen; omega) (by omega) (by simp; omega) _ rfl ?_)
      intro gg capg w8 hown8 hgrow8 hat8 hlt8
      have hS8 := HS1.out.more E0 HR.out.1 hgrow8 hown8 (hat8.imp id (fun e => by omega))
      have hb8 := (HS1.out.ar.ob.alloc _).grown hgrow8 (fun e => HS1.out.ar.far e.symm)
      have x8 : w8.cell? ⟨b, 4, none⟩ = some (.slice la n lcap) := by rw [hb8.cell]; rfl
      have z8 := hb8.frozen 4
      have l8 := hb8.lt
      have HF := Lib.hid hS8
      clear hS8 hb8 hown8 hgrow8 hat8 hlt8 HS1 hrow z4 x4'
      go_wp2_with fail
      go_roundw
      case rel => exact ⟨m + 1, _, by omega, Lib.hid (by rw [List.replicate_succ', ← List.append_assoc]; exact HF.out)⟩
      case measure =>
        have h1 : lenAt b (w8.setCell ⟨b, 4, none⟩ (.slice (some ⟨gg, 0, none⟩) (n + 1) capg)) = n + 1 := lenAt_of (by rw [HF.out.ar.ob.cell]; rfl)
        rw [h1, HR.out.2.2.1]
        omega
    · have t3 : decide ((n : Int) < (N : Int)) = false := by simp; omega
      obtain rfl : m = N - L.length := by omega
      have HR := Lib.hid (And.intro hn (And.intro hnm (And.intro hlen hrow)))
      clear hlen hbx hrow
      go_upto_region 3 with fail
      go_quiet (fail)
      have HS1 : Hid (ArrS pr clo W0 (wr.drewN nq) b T B lv (.slice la n lcap) (L ++ List.replicate (N - L.length) E0)) := Lib.hid (by rw [← HR.out.1]; exact HS.out.below (below_drw (Below.refl _ _) nq))
      have x1' : (wr.drewN nq).cell? ⟨p, 1, none⟩ = some (.int .i64 (N : Int)) := x1
      clear HS x1 x4 z4 hbl
      generalize wr.drewN nq = wq at *
      have hrow := HS1.out.ar.row
      have hnq := HR.out.1
      rw [hnq] at hrow
      generalize hX : L ++ List.replicate (N - L.length) E0 = X at *
      clear HR hn
      go_upto_region 5 with fail
      have hfin : ∀ W, W = wq.drewN 1 → ∀ v', wq.ownsRow B 34 3 v' N (valsC (X.take N)) → (∀ g, v'.ownBlock = some g → (Value.slice la n lcap).ownBlock = some g) → ArrS pr clo W0 (W.setCell ⟨b, 4, none⟩ v') b T B lv v' (X.take N) := by
        rintro W rfl v' hv hg
        exact (HS1.out.below (below_drw (Below.refl _ _) 1)).put (by rw [List.length_take, hnq, Nat.min_eq_left (by omega)]; exact hv) hg
      have hx : ∀ W, W = wq.drewN 1 → Blk W b 51 (objA 1 pr clo T (.slice la n lcap) nilP nilP nilS (if clo = true then 1 else 0)) ∧ W.cell? ⟨p, 1, none⟩ = some (.int .i64 (N : Int)) := by
        rintro W rfl
        exact ⟨HS1.out.ar.ob, x1'⟩
      have HF := Lib.hid hfin
      have HX2 := Lib.hid hx
      have b1 := HB0.out.1
      have HBE := Lib.hid b1
      have HXX := Lib.hid hX
      have hNn : N ≤ n := by omega
      clear hfin hx b1
      cases la with
      | none =>
        obtain ⟨hn0, hc0⟩ : n = 0 ∧ lcap = 0 := by
          rcases hrow.2 with ⟨e, e2⟩ | ⟨g, cap, cur, e, _⟩
          · cases e; exact ⟨rfl, rfl⟩
          · cases e
        subst hn0 hc0
        obtain rfl : N = 0 := by omega
        have hrow2 : wq.ownsRow B 34 3 (.slice none 0 0) 0 (valsC (X.take 0)) := World.ownsRow_nil _ _ _ _
        have HO := Lib.hid hrow2
        clear hrow hrow2 x1' hX hnq HS1 HB0
        refine still_tail 8 (by kernel_rfl) (by kernel_rfl) (fun W2 hW2 => ?_)
        have hb2 := HX2.out W2 hW2
        have HR := Lib.hid (HF.out W2 hW2 (.slice none 0 0) HO.out (fun g hg => by cases hg))
        have x2 : W2.cell? ⟨b, 4, none⟩ = some (.slice none 0 0) := by rw [hb2.1.cell]; rfl
        have x3 := hb2.2
        have z2 := hb2.1.frozen 4
        have l2 := hb2.1.lt
        clear hW2 hb2 HX2 HF
        simp only [List.take_succ_cons, List.take_zero, List.drop_succ_cons, List.drop_zero]
        repeat still_step
        refine wpStill_nil ?_
        go_wp2
        go_ret
        exact ⟨rfl, _, by rw [HXX.out]; exact HR.out.from (by rw [hp]; exact HBE.out)⟩
      | some q =>
        obtain ⟨g, rfl⟩ : ∃ g, q = ⟨g, 0, none⟩ := by
          rcases hrow.2 with ⟨e, _⟩ | ⟨g, cap, cur, e, _⟩
          · cases e
          · cases e; exact ⟨g, rfl⟩
        have hcp := (own_cap hrow).1
        have b6 : N ≤ lcap := by omega
        have b7 := (own_cap hrow).2
        have hrow2 : wq.ownsRow B 34 3 (.slice (some ⟨g, 0, none⟩) N lcap) N (valsC (X.take N)) := by
          have := own_take hrow N hNn
          rwa [valsC_take] at this
        have b11 : (0 : Int) ≤ N := by omega
        have b12 : (N : Int) ≤ lcap := by omega
        have b13 : (N : Int).toNat = N := by omega
        have HO := Lib.hid hrow2
        clear hrow hrow2 x1' hX hnq HS1 HB0
        refine still_tail 8 (by kernel_rfl) (by kernel_rfl) (fun W2 hW2 => ?_)
        have hb2 := HX2.out W2 hW2
        have HR := Lib.hid (HF.out W2 hW2 (.slice (some ⟨g, 0, none⟩) N lcap) HO.out (fun g hg => hg))
        have x2 : W2.cell? ⟨b, 4, none⟩ = some (.slice (some ⟨g, 0, none⟩) n lcap) := by rw [hb2.1.cell]; rfl
        have x3 := hb2.2
        have z2 := hb2.1.frozen 4
        have l2 := hb2.1.lt
        clear hW2 hb2 HX2 HF
        simp only [List.take_succ_cons, List.take_zero, List.drop_succ_cons, List.drop_zero]
        repeat still_step
        refine wpStill_nil ?_
        go_wp2
        go_ret
        exact ⟨rfl, _, by rw [HXX.out]; exact HR.out.from (by rw [hp]; exact HBE.out)⟩
set_option maxHeartbeats 1000000 in
theorem resize_no (b T B : Nat) (k1 k2 : Int) (lv : Value) (L : List K3) (s : ByteArray) (w : World) (h : ArrE pr clo w b T B lv L) (hno : k1 ≠ 3 ∨ k2 < 0 ∨ 1000 < k2) :
    Calls Tryd.prog 43 #[.pointer (some ⟨b, 0, none⟩), VS k1 k2 s] w fun e w' => e = .returned (.bool false) ∧ Below w.heap.size w w' := by
  have b1 : Below w.heap.size w (w.alloc (.cells #[.int .i64 k1, .int .i64 k2, .string s] 34)) := (Below.refl _ _).alloc (Nat.le_refl _) _
  by_cases h1 : k1 = 3
  · subst h1
    by_cases h2 : k2 < 0
    · have t1 : decide (k2 < 0) = true := by simpa using h2
      clear h
      go_enter Tryd.func43, Tryd.ntmps43
      go_wp2
      go_ret
      exact ⟨rfl, b1⟩
    · have t1 : decide (k2 < 0) = false := by simpa using h2
      have t2 : decide (1000 < k2) = true := by simp; omega
      clear h
      go_enter Tryd.func43, Tryd.ntmps43
      go_wp2
      go_ret
      exact ⟨rfl, b1⟩
  · have t1 : (k1 != 3) = true := by simpa using h1
    clear h
    go_enter Tryd.func43, Tryd.ntmps43
    go_wp2
    go_ret
    exact ⟨rfl, b1⟩
theorem ArrS.setE {W0 w : World} {b T B g n cap i : Nat} {lv0 : Value} {L : List K3} (v : K3) (h : ArrS pr clo W0 w b T B lv0 (.slice (some ⟨g, 0, none⟩) n cap) L) (hn : L.length = n) (hi : i < n) :
    ArrS pr clo W0 (((w.setCell ⟨g, i * 3, none⟩ (.int .i64 v.1)).setCell ⟨g, i * 3 + 1, none⟩ (.int .i64 v.2.1)).setCell ⟨g, i * 3 + 2, none⟩ (.string v.2.2)) b T B lv0 (.slice (some ⟨g, 0, none⟩) n cap) (L.set i v) := by
  have hr := h.ar.row
  rw [hn] at hr
  have h3 := ((((hr.stored (i * 3) (.int .i64 v.1)).1.stored (i * 3 + 1) (.int .i64 v.2.1)).1).stored (i * 3 + 2) (.string v.2.2)).1
  rw [valsC_set, if_pos (by omega)] at h3
  have hb : b ≠ g := fun e => h.ar.far (by rw [e]; rfl)
  have hMg : (fun x => (x = b ∨ lv0.ownBlock = some x) ∨ W0.heap.size ≤ x) g := by
    rcases h.nw g rfl with e | e
    · exact .inl (.inr e)
    · exact .inr e
  refine ⟨⟨((h.ar.ob.far hb _).far hb _).far hb _, by rw [List.length_set, hn]; exact h3⟩, Upd.join h.up ((((Upd.refl w _).set g _ _ hMg).set g _ _ hMg).set g _ _ hMg), h.nw⟩
end Go.Proofs.YtmimnaaofpkndaaDoor.Hp.G

/- HeapRuns: Own of arrays. -/
set_option linter.unusedVariables false
set_option linter.unusedSimpArgs false
namespace Go.Proofs.YtmimnaaofpkndaaDoor.Hp.G
open Go.RowKit Go.Proofs.YtmimnaaofpkndaaDoor Go.Proofs.YtmimnaaofpkndaaDoor.Hp Go.Shelf
attribute [local go_sem] Oper.semAt_some
variable {pr : Int} {clo : Bool}
set_option maxRecDepth 100000 in
set_option maxHeartbeats 2000000 in
theorem own_at (b T B : Nat) (lv : Value) (L : List K3) (i : Nat) (k x : K3) (w : World) (h : ArrE pr clo w b T B lv L) (hk : idxV 1 k = (i : Int)) (hx : L[i]? = some x) (h10 : x.1 ≠ 10) (hsz : k.2.2.size ≤ 4000) (hL : L.length ≤ 1000) :
    Calls Tryd.prog 18 #[.pointer (some ⟨b, 0, none⟩), VK k] w fun e w' => e = .returned (.tuple #[VK x, .int .i64 (if clo = true then 2 else 7), .bool true]) ∧ Below w.heap.size w w' := by
  have H := Lib.hid h
  obtain ⟨k1, k2, k3⟩ := k
  dsimp only at hsz
  clear h
  have bb : Below w.heap.size w ((w.alloc (.cells #[.int .i64 k1, .int .i64 k2, .string k3] 34)).alloc (.cells #[.int .i64 0, .int .i64 0, .string ⟨#[]⟩] 34)) := ((Below.refl _ _).alloc (Nat.le_refl _) _).alloc (by simp) _
  have h2 := H.out.below bb
  have kb : Blk ((w.alloc (.cells #[.int .i64 k1, .int .i64 k2, .string k3] 34)).alloc (.cells #[.int .i64 0, .int .i64 0, .string ⟨#[]⟩] 34)) w.heap.size 34 #[.int .i64 k1, .int .i64 k2, .string k3] := (Blk.new w _ _).alloc _
  have rb : Blk ((w.alloc (.cells #[.int .i64 k1, .int .i64 k2, .string k3] 34)).alloc (.cells #[.int .i64 0, .int .i64 0, .string ⟨#[]⟩] 34)) (w.heap.size + 1) 34 #[.int .i64 0, .int .i64 0, .string ⟨#[]⟩] := by
    have := Blk.new (w.alloc (.cells #[.int .i64 k1, .int .i64 k2, .string k3] 34)) 34 #[.int .i64 0, .int .i64 0, .string ⟨#[]⟩]
    rwa [World.size_alloc] at this
  have hi := hindex_any b T 1 pr clo lv nilP nilP nilS (if clo = true then 1 else 0) (k1, k2, k3) _ h2.ob hsz
  rw [hk] at hi
  have HI := Lib.hid hi
  have HB := Lib.hid (And.intro bb (And.intro rb kb))
  clear hi hk bb h2 rb kb
  go_enter Tryd.func18, Tryd.ntmps18
  go_wp2_with (fail)
  refine HI.out.mono ?_
  rintro e w2 ⟨rfl, b2⟩
  obtain ⟨bb, rb, kb⟩ := HB.out
  have b02 := bb.trans (b2.mono bb.size)
  have o2 := H.out.below b02
  have rb2 := rb.below b2 rb.lt
  have kb2 := kb.below b2 kb.lt
  obtain ⟨n, hn⟩ : ∃ n, L.length = n := ⟨_, rfl⟩
  have hrow := o2.row
  obtain ⟨la, lcap, rfl, hla⟩ := own_shape hrow
  have hi3 : i < L.length := (List.getElem?_eq_some_iff.1 hx).1
  obtain ⟨g, rfl⟩ := hla (by omega)
  have e0 : w2.cell? ⟨g, i * 3, none⟩ = some (.int .i64 x.1) := own_elem hrow i x hx 0 (by decide)
  have e1 : w2.cell? ⟨g, i * 3 + 1, none⟩ = some (.int .i64 x.2.1) := own_elem hrow i x hx 1 (by decide)
  have e2 : w2.cell? ⟨g, i * 3 + 2, none⟩ = some (.string x.2.2) := own_elem hrow i x hx 2 (by decide)
  obtain ⟨x1, x2, x3⟩ := x
  dsimp only at e0 e1 e2 h10
  have o20 : w2.cell? ⟨b, 0, none⟩ = some (.int .i64 1) := by rw [o2.ob.cell]; rfl
  have o22 : w2.cell? ⟨b, 2, none⟩ = some (.bool clo) := by rw [o2.ob.cell]; rfl
  have o214 : w2.cell? ⟨b, 14, none⟩ = some (.int .i64 (if clo = true then 1 else 0)) := by rw [o2.ob.cell]; rfl
  have o4 : w2.cell? ⟨b, 4, none⟩ = some (.slice (some ⟨g, 0, none⟩) n lcap) := by rw [o2.ob.cell, ← hn]; rfl
  have q0 := rb2.frozen 0
  have q1 := rb2.frozen 1
  have q2 := rb2.frozen 2
  have y0 : w2.cell? ⟨w.heap.size + 1, 0, none⟩ = some (.int .i64 0) := by rw [rb2.cell]; rfl
  have y1 : w2.cell? ⟨w.heap.size + 1, 1, none⟩ = some (.int .i64 0) := by rw [rb2.cell]; rfl
  have y2 : w2.cell? ⟨w.heap.size + 1, 2, none⟩ = some (.string ⟨#[]⟩) := by rw [rb2.cell]; rfl
  have lr := rb2.lt
  have t1 : decide ((0 : Int) ≤ (i : Int)) = true := by simp
  have t2 : decide ((i : Int) < (n : Int)) = true := by simp; omega
  have z0 : (0 : Int) ≤ (i : Int) := by omega
  have z1 : (i : Int) < (n : Int) := by omega
  have t3 : (x1 != 10) = true := by simpa using h10
  have HB2 := Lib.hid b02
  have HN := Lib.hid hn
  clear bb rb b2 b02 o2 rb2 hn hrow HB HI kb kb2 hla hi3 hx h10 hL
  cases clo with
  | false =>
    go_wp2
    refine bodyPost_ret (v := .tuple #[VS x1 x2 x3, .int .i64 7, .bool true]) (by simp [results, Tryd.results18, go_sem, y0, y1, y2, q0, q1, q2, lr]) rfl ⟨rfl, ?_⟩
    exact ((HB2.out.setCell (p := ⟨w.heap.size + 1, 0, none⟩) (by simp) _).setCell (p := ⟨w.heap.size + 1, 1, none⟩) (by simp) _).setCell (p := ⟨w.heap.size + 1, 2, none⟩) (by simp) _
  | true =>
    have o14 : w2.cell? ⟨b, 14, none⟩ = some (.int .i64 1) := o214
    clear o214
    go_wp2
    refine bodyPost_ret (v := .tuple #[VS x1 x2 x3, .int .i64 2, .bool true]) (by simp [results, Tryd.results18, go_sem, y0, y1, y2, q0, q1, q2, lr]) rfl ⟨rfl, ?_⟩
    exact ((HB2.out.setCell (p := ⟨w.heap.size + 1, 0, none⟩) (by simp) _).setCell (p := ⟨w.heap.size + 1, 1, none⟩) (by simp) _).setCell (p := ⟨w.heap.size + 1, 2, none⟩) (by simp) _
set_option maxRecDepth 100000 in
set_option maxHeartbeats 2000000 in
theorem own_hole (b T B : Nat) (lv : Value) (L : List K3) (i : Nat) (k x : K3) (w : World) (h : ArrE pr clo w b T B lv L) (hk : idxV 1 k = (i : Int)) (hx : L[i]? = some x) (h10 : x.1 = 10) (hsz : k.2.2.size ≤ 4000) (hL : L.length ≤ 1000) :
    Calls Tryd.prog 18 #[.pointer (some ⟨b, 0, none⟩), VK k] w fun e w' => e = .returned (.tuple #[VK (0, 0, ⟨#[]⟩), .int .i64 0, .bool false]) ∧ Below w.heap.size w w' := by
  have H := Lib.hid h
  obtain ⟨k1, k2, k3⟩ := k
  dsimp only at hsz
  clear h
  have bb : Below w.heap.size w ((w.alloc (.cells #[.int .i64 k1, .int .i64 k2, .string k3] 34)).alloc (.cells #[.int .i64 0, .int .i64 0, .string ⟨#[]⟩] 34)) := ((Below.refl _ _).alloc (Nat.le_refl _) _).alloc (by simp) _
  have h2 := H.out.below bb
  have kb : Blk ((w.alloc (.cells #[.int .i64 k1, .int .i64 k2, .string k3] 34)).alloc (.cells #[.int .i64 0, .int .i64 0, .string ⟨#[]⟩] 34)) w.heap.size 34 #[.int .i64 k1, .int .i64 k2, .string k3] := (Blk.new w _ _).alloc _
  have rb : Blk ((w.alloc (.cells #[.int .i64 k1, .int .i64 k2, .string k3] 34)).alloc (.cells #[.int .i64 0, .int .i64 0, .string ⟨#[]⟩] 34)) (w.heap.size + 1) 34 #[.int .i64 0, .int .i64 0, .string ⟨#[]⟩] := by
    have := Blk.new (w.alloc (.cells #[.int .i64 k1, .int .i64 k2, .string k3] 34)) 34 #[.int .i64 0, .int .i64 0, .string ⟨#[]⟩]
    rwa [World.size_alloc] at this
  have hi := hindex_any b T 1 pr clo lv nilP nilP nilS (if clo = true then 1 else 0) (k1, k2, k3) _ h2.ob hsz
  rw [hk] at hi
  have HI := Lib.hid hi
  have HB := Lib.hid (And.intro bb (And.intro rb kb))
  clear hi hk bb h2 rb kb
  go_enter Tryd.func18, Tryd.ntmps18
  go_wp2_with (fail)
  refine HI.out.mono ?_
  rintro e w2 ⟨rfl, b2⟩
  obtain ⟨bb, rb, kb⟩ := HB.out
  have b02 := bb.trans (b2.mono bb.size)
  have o2 := H.out.below b02
  have rb2 := rb.below b2 rb.lt
  have kb2 := kb.below b2 kb.lt
  obtain ⟨n, hn⟩ : ∃ n, L.length = n := ⟨_, rfl⟩
  have hrow := o2.row
  obtain ⟨la, lcap, rfl, hla⟩ := own_shape hrow
  have hi3 : i < L.length := (List.getElem?_eq_some_iff.1 hx).1
  obtain ⟨g, rfl⟩ := hla (by omega)
  have e0 : w2.cell? ⟨g, i * 3, none⟩ = some (.int .i64 x.1) := own_elem hrow i x hx 0 (by decide)
  have e1 : w2.cell? ⟨g, i * 3 + 1, none⟩ = some (.int .i64 x.2.1) := own_elem hrow i x hx 1 (by decide)
  have e2 : w2.cell? ⟨g, i * 3 + 2, none⟩ = some (.string x.2.2) := own_elem hrow i x hx 2 (by decide)
  obtain ⟨x1, x2, x3⟩ := x
  dsimp only at e0 e1 e2 h10
  have o20 : w2.cell? ⟨b, 0, none⟩ = some (.int .i64 1) := by rw [o2.ob.cell]; rfl
  have o22 : w2.cell? ⟨b, 2, none⟩ = some (.bool clo) := by rw [o2.ob.cell]; rfl
  have o214 : w2.cell? ⟨b, 14, none⟩ = some (.int .i64 (if clo = true then 1 else 0)) := by rw [o2.ob.cell]; rfl
  have o4 : w2.cell? ⟨b, 4, none⟩ = some (.slice (some ⟨g, 0, none⟩) n lcap) := by rw [o2.ob.cell, ← hn]; rfl
  have q0 := rb2.frozen 0
  have q1 := rb2.frozen 1
  have q2 := rb2.frozen 2
  have y0 : w2.cell? ⟨w.heap.size + 1, 0, none⟩ = some (.int .i64 0) := by rw [rb2.cell]; rfl
  have y1 : w2.cell? ⟨w.heap.size + 1, 1, none⟩ = some (.int .i64 0) := by rw [rb2.cell]; rfl
  have y2 : w2.cell? ⟨w.heap.size + 1, 2, none⟩ = some (.string ⟨#[]⟩) := by rw [rb2.cell]; rfl
  have lr := rb2.lt
  have t1 : decide ((0 : Int) ≤ (i : Int)) = true := by simp
  have t2 : decide ((i : Int) < (n : Int)) = true := by simp; omega
  have z0 : (0 : Int) ≤ (i : Int) := by omega
  have z1 : (i : Int) < (n : Int) := by omega
  subst h10
  have HB2 := Lib.hid b02
  have HN := Lib.hid hn
  clear bb rb b2 b02 o2 rb2 hn hrow HB HI kb kb2 hla hi3 hx hL
  go_wp2
  refine bodyPost_ret (v := .tuple #[VS 0 0 ⟨#[]⟩, .int .i64 0, .bool false]) (by simp [results, Tryd.results18, go_sem, y0, y1, y2, q0, q1, q2, lr]) rfl ⟨rfl, ?_⟩
  exact ((HB2.out.setCell (p := ⟨w.heap.size + 1, 0, none⟩) (by simp) _).setCell (p := ⟨w.heap.size + 1, 1, none⟩) (by simp) _).setCell (p := ⟨w.heap.size + 1, 2, none⟩) (by simp) _
set_option maxRecDepth 100000 in
set_option maxHeartbeats 2000000 in
theorem own_out (b T B : Nat) (lv : Value) (L : List K3) (i : Nat) (k : K3) (w : World) (h : ArrE pr clo w b T B lv L) (hk : idxV 1 k = (i : Int)) (hx : L.length ≤ i) (hsz : k.2.2.size ≤ 4000) (hL : L.length ≤ 1000) :
    Calls Tryd.prog 18 #[.pointer (some ⟨b, 0, none⟩), VK k] w fun e w' => e = .returned (.tuple #[VK (0, 0, ⟨#[]⟩), .int .i64 0, .bool false]) ∧ Below w.heap.size w w' := by
  have H := Lib.hid h
  obtain ⟨k1, k2, k3⟩ := k
  dsimp only at hsz
  clear h
  have bb : Below w.heap.size w ((w.alloc (.cells #[.int .i64 k1, .int .i64 k2, .string k3] 34)).alloc (.cells #[.int .i64 0, .int .i64 0, .string ⟨#[]⟩] 34)) := ((Below.refl _ _).alloc (Nat.le_refl _) _).alloc (by simp) _
  have h2 := H.out.below bb
  have kb : Blk ((w.alloc (.cells #[.int .i64 k1, .int .i64 k2, .string k3] 34)).alloc (.cells #[.int .i64 0, .int .i64 0, .string ⟨#[]⟩] 34)) w.heap.size 34 #[.int .i64 k1, .int .i64 k2, .string k3] := (Blk.new w _ _).alloc _
  have rb : Blk ((w.alloc (.cells #[.int .i64 k1, .int .i64 k2, .string k3] 34)).alloc (.cells #[.int .i64 0, .int .i64 0, .string ⟨#[]⟩] 34)) (w.heap.size + 1) 34 #[.int .i64 0, .int .i64 0, .string ⟨#[]⟩] := by
    have := Blk.new (w.alloc (.cells #[.int .i64 k1, .int .i64 k2, .string k3] 34)) 34 #[.int .i64 0, .int .i64 0, .string ⟨#[]⟩]
    rwa [World.size_alloc] at this
  have hi := hindex_any b T 1 pr clo lv nilP nilP nilS (if clo = true then 1 else 0) (k1, k2, k3) _ h2.ob hsz
  rw [hk] at hi
  have HI := Lib.hid hi
  have HB := Lib.hid (And.intro bb (And.intro rb kb))
  clear hi hk bb h2 rb kb
  go_enter Tryd.func18, Tryd.ntmps18
  go_wp2_with (fail)
  refine HI.out.mono ?_
  rintro e w2 ⟨rfl, b2⟩
  obtain ⟨bb, rb, kb⟩ := HB.out
  have b02 := bb.trans (b2.mono bb.size)
  have o2 := H.out.below b02
  have rb2 := rb.below b2 rb.lt
  have kb2 := kb.below b2 kb.lt
  obtain ⟨n, hn⟩ : ∃ n, L.length = n := ⟨_, rfl⟩
  have hrow := o2.row
  obtain ⟨la, lcap, rfl, hla⟩ := own_shape hrow
  have o20 : w2.cell? ⟨b, 0, none⟩ = some (.int .i64 1) := by rw [o2.ob.cell]; rfl
  have o22 : w2.cell? ⟨b, 2, none⟩ = some (.bool clo) := by rw [o2.ob.cell]; rfl
  have o214 : w2.cell? ⟨b, 14, none⟩ = some (.int .i64 (if clo = true then 1 else 0)) := by rw [o2.ob.cell]; rfl
  have o4 : w2.cell? ⟨b, 4, none⟩ = some (.slice la n lcap) := by rw [o2.ob.cell, ← hn]; rfl
  have q0 := rb2.frozen 0
  have q1 := rb2.frozen 1
  have q2 := rb2.frozen 2
  have y0 : w2.cell? ⟨w.heap.size + 1, 0, none⟩ = some (.int .i64 0) := by rw [rb2.cell]; rfl
  have y1 : w2.cell? ⟨w.heap.size + 1, 1, none⟩ = some (.int .i64 0) := by rw [rb2.cell]; rfl
  have y2 : w2.cell? ⟨w.heap.size + 1, 2, none⟩ = some (.string ⟨#[]⟩) := by rw [rb2.cell]; rfl
  have lr := rb2.lt
  have t1 : decide ((0 : Int) ≤ (i : Int)) = true := by simp
  have t2 : decide ((i : Int) < (n : Int)) = false := by simp; omega
  have t4 : ¬ i < n := by omega
  have HB2 := Lib.hid b02
  have HN := Lib.hid hn
  clear bb rb b2 b02 o2 rb2 hn hrow HB HI kb kb2 hla hx hL
  go_wp2
  refine bodyPost_ret (v := .tuple #[VS 0 0 ⟨#[]⟩, .int .i64 0, .bool false]) (by simp [results, Tryd.results18, go_sem, y0, y1, y2, q0, q1, q2, lr]) rfl ⟨rfl, ?_⟩
  exact ((HB2.out.setCell (p := ⟨w.heap.size + 1, 0, none⟩) (by simp) _).setCell (p := ⟨w.heap.size + 1, 1, none⟩) (by simp) _).setCell (p := ⟨w.heap.size + 1, 2, none⟩) (by simp) _
set_option maxRecDepth 100000 in
set_option maxHeartbeats 2000000 in
theorem own_len (b T B : Nat) (lv : Value) (L : List K3)  (w : World) (h : ArrE pr clo w b T B lv L) (hLg : Lg w) (hL : L.length ≤ 1000) :
    Calls Tryd.prog 18 #[.pointer (some ⟨b, 0, none⟩), VK lenK] w fun e w' => e = .returned (.tuple #[VK (3, (L.length : Int), ⟨#[]⟩), .int .i64 (if clo = true then 0 else 1), .bool true]) ∧ Below w.heap.size w w' := by
  obtain ⟨fl, hfl⟩ : ∃ fl : Int, (if clo = true then 0 else 1) = fl := ⟨_, rfl⟩
  rw [hfl]
  have HFL := Lib.hid hfl
  clear hfl
  have H := Lib.hid h
  have hk := lenK_idx
  have hsz : lenK.2.2.size ≤ 4000 := by decide
  have HL := Lib.hid hLg
  obtain ⟨ks, hks⟩ : ∃ s, (⟨#[0, 108, 0, 101, 0, 110, 0, 103, 0, 116, 0, 104]⟩ : ByteArray) = s := ⟨_, rfl⟩
  have hkk : lenK = (7, 0, ks) := by rw [← hks]; rfl
  rw [hkk] at hk hsz ⊢
  obtain ⟨k1, hk1⟩ : ∃ k : Int, k = 7 := ⟨_, rfl⟩
  obtain ⟨k2, hk2⟩ : ∃ k : Int, k = 0 := ⟨_, rfl⟩
  obtain ⟨k3, hk3⟩ : ∃ k, k = ks := ⟨_, rfl⟩
  rw [← hk1, ← hk2, ← hk3] at hk hsz ⊢
  rw [← hk1, ← hk2, ← hk3] at hkk
  have HKK := Lib.hid (And.intro hkk (And.intro hk1 (And.intro hk2 hk3)))
  clear hkk hk1 hk2 hk3 hLg hks
  dsimp only at hsz
  clear h
  have bb : Below w.heap.size w ((w.alloc (.cells #[.int .i64 k1, .int .i64 k2, .string k3] 34)).alloc (.cells #[.int .i64 0, .int .i64 0, .string ⟨#[]⟩] 34)) := ((Below.refl _ _).alloc (Nat.le_refl _) _).alloc (by simp) _
  have h2 := H.out.below bb
  have kb : Blk ((w.alloc (.cells #[.int .i64 k1, .int .i64 k2, .string k3] 34)).alloc (.cells #[.int .i64 0, .int .i64 0, .string ⟨#[]⟩] 34)) w.heap.size 34 #[.int .i64 k1, .int .i64 k2, .string k3] := (Blk.new w _ _).alloc _
  have rb : Blk ((w.alloc (.cells #[.int .i64 k1, .int .i64 k2, .string k3] 34)).alloc (.cells #[.int .i64 0, .int .i64 0, .string ⟨#[]⟩] 34)) (w.heap.size + 1) 34 #[.int .i64 0, .int .i64 0, .string ⟨#[]⟩] := by
    have := Blk.new (w.alloc (.cells #[.int .i64 k1, .int .i64 k2, .string k3] 34)) 34 #[.int .i64 0, .int .i64 0, .string ⟨#[]⟩]
    rwa [World.size_alloc] at this
  have hi := hindex_any b T 1 pr clo lv nilP nilP nilS (if clo = true then 1 else 0) (k1, k2, k3) _ h2.ob hsz
  rw [hk] at hi
  have HI := Lib.hid hi
  have HB := Lib.hid (And.intro bb (And.intro rb kb))
  clear hi hk bb h2 rb kb
  go_enter Tryd.func18, Tryd.ntmps18
  go_wp2_with (fail)
  refine HI.out.mono ?_
  rintro e w2 ⟨rfl, b2⟩
  obtain ⟨bb, rb, kb⟩ := HB.out
  have b02 := bb.trans (b2.mono bb.size)
  have o2 := H.out.below b02
  have rb2 := rb.below b2 rb.lt
  have kb2 := kb.below b2 kb.lt
  obtain ⟨n, hn⟩ : ∃ n, L.length = n := ⟨_, rfl⟩
  have hrow := o2.row
  obtain ⟨la, lcap, rfl, hla⟩ := own_shape hrow
  have o20 : w2.cell? ⟨b, 0, none⟩ = some (.int .i64 1) := by rw [o2.ob.cell]; rfl
  have o22 : w2.cell? ⟨b, 2, none⟩ = some (.bool clo) := by rw [o2.ob.cell]; rfl
  have o214 : w2.cell? ⟨b, 14, none⟩ = some (.int .i64 (if clo = true then 1 else 0)) := by rw [o2.ob.cell]; rfl
  have o4 : w2.cell? ⟨b, 4, none⟩ = some (.slice la n lcap) := by rw [o2.ob.cell, ← hn]; rfl
  have q0 := rb2.frozen 0
  have q1 := rb2.frozen 1
  have q2 := rb2.frozen 2
  have y0 : w2.cell? ⟨w.heap.size + 1, 0, none⟩ = some (.int .i64 0) := by rw [rb2.cell]; rfl
  have y1 : w2.cell? ⟨w.heap.size + 1, 1, none⟩ = some (.int .i64 0) := by rw [rb2.cell]; rfl
  have y2 : w2.cell? ⟨w.heap.size + 1, 2, none⟩ = some (.string ⟨#[]⟩) := by rw [rb2.cell]; rfl
  have lr := rb2.lt
  have hg2 := HL.out.below b02
  have g0 : w2.cell? ⟨0, 0, none⟩ = some (.int .i64 k1) := by rw [HKK.out.2.1]; exact hg2.1
  have g1 : w2.cell? ⟨0, 1, none⟩ = some (.int .i64 k2) := by rw [HKK.out.2.2.1]; exact hg2.2.1
  have g2 : w2.cell? ⟨0, 2, none⟩ = some (.string k3) := by rw [hg2.2.2, show lenK.2.2 = k3 from congrArg (·.2.2) HKK.out.1]
  have p0 : w2.cell? ⟨w.heap.size, 0, none⟩ = some (.int .i64 k1) := by rw [kb2.cell]; rfl
  have p1 : w2.cell? ⟨w.heap.size, 1, none⟩ = some (.int .i64 k2) := by rw [kb2.cell]; rfl
  have p2 : w2.cell? ⟨w.heap.size, 2, none⟩ = some (.string k3) := by rw [kb2.cell]; rfl
  have s0 : (k1 == k1) = true := by simp
  have s1 : (k2 == k2) = true := by simp
  have s2 : (k3.toList == k3.toList) = true := by simp
  clear hg2 HL HKK
  have HB2 := Lib.hid b02
  have HN := Lib.hid hn
  clear bb rb b2 b02 o2 rb2 hn hrow HB HI kb kb2 hla hL
  cases clo with
  | false =>
    obtain rfl : (1 : Int) = fl := HFL.out
    clear HFL
    go_wp2
    refine bodyPost_ret (v := .tuple #[VS 3 (n : Int) ⟨#[]⟩, .int .i64 1, .bool true]) (by simp [results, Tryd.results18, go_sem, y0, y1, y2, q0, q1, q2, lr]) rfl ⟨by rw [HN.out], ?_⟩
    exact ((HB2.out.setCell (p := ⟨w.heap.size + 1, 0, none⟩) (by simp) _).setCell (p := ⟨w.heap.size + 1, 1, none⟩) (by simp) _).setCell (p := ⟨w.heap.size + 1, 2, none⟩) (by simp) _
  | true =>
    have o14 : w2.cell? ⟨b, 14, none⟩ = some (.int .i64 1) := o214
    clear o214
    obtain rfl : (0 : Int) = fl := HFL.out
    clear HFL
    go_wp2
    refine bodyPost_ret (v := .tuple #[VS 3 (n : Int) ⟨#[]⟩, .int .i64 0, .bool true]) (by simp [results, Tryd.results18, go_sem, y0, y1, y2, q0, q1, q2, lr]) rfl ⟨by rw [HN.out], ?_⟩
    exact ((HB2.out.setCell (p := ⟨w.heap.size + 1, 0, none⟩) (by simp) _).setCell (p := ⟨w.heap.size + 1, 1, none⟩) (by simp) _).setCell (p := ⟨w.heap.size + 1, 2, none⟩) (by simp) _
end Go.Proofs.YtmimnaaofpkndaaDoor.Hp.G
