/- HpU: several texts in one. -/
import Derived.Test.YtmimnaaofpkndaaDoorHpO
import Derived.Test.YtmimnaaofpkndaaDoorHpL
import Derived.StillTailTactics
/- The heap: an array's length. -/
set_option linter.unusedVariables false
set_option linter.unusedSimpArgs false
namespace Go.Proofs.YtmimnaaofpkndaaDoor.Hp
open Go.RowKit Go.Proofs.YtmimnaaofpkndaaDoor Go.Shelf

attribute [local go_sem] Oper.semAt_some
theorem own_cap {w : World} {B size n cap g : Nat} {t : TypeId} {xs : List Value} (h : w.ownsRow B t size (.slice (some ⟨g, 0, none⟩) n cap) n xs) : n ≤ cap ∧ cap ≤ maxLen := by
  rcases h.2 with ⟨h', _⟩ | ⟨g', cap', cur, h', hb, hg, hnc, hcm, hcs, htake⟩
  · simp at h'
  · simp only [Value.slice.injEq, Option.some.injEq, Addr.mk.injEq, and_true, true_and] at h'
    obtain ⟨rfl, rfl⟩ := h'
    exact ⟨hnc, hcm⟩
theorem still_tail {P : Program} {id : Nat} {Q : Exit → Act → World → Prop} {a : Act} {w : World} {l : List Oper} (n : Nat) (hm : P.follows .mixedOrders = true) (hB : Region.lexTailB .any l.toArray n = true)
    (h : ∀ W, W = w.drewN 1 → wpStill P l.toArray W (fun a' => wpList P l.toArray Q (l.drop n) a' W) (l.take n) a) : (Code.region id l.toArray true).wp P Q a w := wp_region_still_tail n hm hB (h _ rfl)

/-- An array: its struct and its row of elements. -/
structure ArrE (w : World) (b T B : Nat) (lv : Value) (L : List K3) : Prop where
  ob : Blk w b 51 (objA 1 0 false T lv nilP nilP nilS 0)
  row : w.ownsRow B 34 3 lv L.length (valsC L)
section
variable {w w' w1 W0 : World} {b T B : Nat} {lv lv0 : Value} {L L0 : List K3}
theorem ArrE.upd {M : Nat → Prop} (h : ArrE w b T B lv L) (u : Upd w w' M) (h0 : ¬ M b) (h1 : ∀ g, lv.ownBlock = some g → ¬ M g) : ArrE w' b T B lv L := ⟨u.blk h.ob h0, u.own h.row h1⟩
theorem ArrE.below (h : ArrE w b T B lv L) (u : Below w.heap.size w w') : ArrE w' b T B lv L := h.upd (M := fun _ => False) (Upd.of_below_all u) (fun h => h) (fun _ _ h => h)
theorem ArrE.far (h : ArrE w b T B lv L) : lv.ownBlock ≠ some b := own_blk_ne h.row h.ob (by decide)
theorem ArrE.more {g cap n : Nat} {o : Obj} (k : K3) (h : ArrE w b T B lv L) (hn : L.length = n) (hg : (w.alloc o).grownBy w1 lv.ownBlock)
    (hown : w1.ownsRow B 34 3 (.slice (some ⟨g, 0, none⟩) (n + 1) cap) (n + 1) (valsC L ++ [.int .i64 k.1, .int .i64 k.2.1, .string k.2.2])) :
    ArrE (w1.setCell ⟨b, 4, none⟩ (.slice (some ⟨g, 0, none⟩) (n + 1) cap)) b T B (.slice (some ⟨g, 0, none⟩) (n + 1) cap) (L ++ [k]) ∧ Upd w (w1.setCell ⟨b, 4, none⟩ (.slice (some ⟨g, 0, none⟩) (n + 1) cap)) (fun x => x = b ∨ lv.ownBlock = some x) := by
  have hb := (h.ob.alloc o).grown hg (fun e => h.far e.symm)
  refine ⟨⟨hb.set_ 4 _, ?_⟩, ((((Upd.refl w _).alloc _).grown hg (fun k e => .inr e)).set b 4 _ (.inl rfl))⟩
  rw [List.length_append, valsC_append, hn]
  exact own_set hown hb (by decide) _ _
/-- What steps on an array leave. -/
structure ArrS (W0 w : World) (b T B : Nat) (lv0 lv : Value) (L : List K3) : Prop where
  ar : ArrE w b T B lv L
  up : Upd W0 w (fun x => x = b ∨ lv0.ownBlock = some x)
  nw : ∀ g, lv.ownBlock = some g → lv0.ownBlock = some g ∨ W0.heap.size ≤ g
theorem ArrS.refl (h : ArrE w b T B lv L) : ArrS w w b T B lv lv L := ⟨h, Upd.refl _ _, fun g hg => .inl hg⟩
theorem ArrS.below (h : ArrS W0 w b T B lv0 lv L) (u : Below w.heap.size w w') : ArrS W0 w' b T B lv0 lv L := ⟨h.ar.below u, h.up.then_below u, h.nw⟩
theorem ArrS.more {g cap n : Nat} {o : Obj} (k : K3) (h : ArrS W0 w b T B lv0 lv L) (hn : L.length = n) (hg : (w.alloc o).grownBy w1 lv.ownBlock)
    (hown : w1.ownsRow B 34 3 (.slice (some ⟨g, 0, none⟩) (n + 1) cap) (n + 1) (valsC L ++ [.int .i64 k.1, .int .i64 k.2.1, .string k.2.2])) (hat : lv.ownBlock = some g ∨ w.heap.size ≤ g) :
    ArrS W0 (w1.setCell ⟨b, 4, none⟩ (.slice (some ⟨g, 0, none⟩) (n + 1) cap)) b T B lv0 (.slice (some ⟨g, 0, none⟩) (n + 1) cap) (L ++ [k]) := by
  obtain ⟨h1, h2⟩ := h.ar.more k hn hg hown
  refine ⟨h1, Upd.join h.up (h2.mono fun x _ hx => ?_), fun x hx => ?_⟩
  · rcases hx with rfl | hx
    · exact .inl (.inl rfl)
    · exact (h.nw x hx).imp .inr id
  · have : g = x := by simpa [Value.ownBlock] using hx
    subst this
    rcases hat with e | e
    · exact h.nw g e
    · exact .inr (Nat.le_trans h.up.size e)
theorem ArrS.from (h : ArrS W0 w b T B lv0 lv L) (b0 : Below w'.heap.size w' W0) : ArrS w' w b T B lv0 lv L := ⟨h.ar, (Upd.of_below_all b0).trans h.up, fun g e => (h.nw g e).imp id (Nat.le_trans b0.size)⟩
theorem ArrS.put {v' : Value} {L' : List K3} (h : ArrS W0 w b T B lv0 lv L) (hr : w.ownsRow B 34 3 v' L'.length (valsC L')) (hg : ∀ g, v'.ownBlock = some g → lv.ownBlock = some g) : ArrS W0 (w.setCell ⟨b, 4, none⟩ v') b T B lv0 v' L' :=
  ⟨⟨h.ar.ob.set_ 4 _, own_set hr h.ar.ob (by decide) 4 _⟩, Upd.join h.up ((Upd.refl w _).set b 4 _ (.inl (.inl rfl))), fun g e => h.nw g (hg g e)⟩
end
theorem valsC_take (L : List K3) (n : Nat) : (valsC L).take (n * 3) = valsC (L.take n) := by
  induction n generalizing L with
  | zero => simp [valsC]
  | succ n ih =>
    cases L with
    | nil => simp [valsC]
    | cons k L =>
      have h1 : valsC (k :: L) = .int .i64 k.1 :: .int .i64 k.2.1 :: .string k.2.2 :: valsC L := by simp [valsC]
      rw [h1, show (n + 1) * 3 = n * 3 + 1 + 1 + 1 by omega, List.take_succ_cons, List.take_succ_cons, List.take_succ_cons, ih, List.take_succ_cons]
      simp [valsC]
def E0 : K3 := (10, 0, ⟨#[]⟩)
def lenAt (b : Nat) (w : World) : Nat := match w.cell? ⟨b, 4, none⟩ with
  | some (.slice _ n _) => n
  | _ => 0
theorem lenAt_of {b n : Nat} {w : World} {a : Option Addr} {cap : Nat} (h : w.cell? ⟨b, 4, none⟩ = some (.slice a n cap)) : lenAt b w = n := by unfold lenAt; rw [h]
set_option maxRecDepth 100000 in
set_option maxHeartbeats 2000000 in
theorem resize_any (b T B N : Nat) (lv : Value) (L : List K3) (s : ByteArray) (w : World) (h : ArrE w b T B lv L) (hL : L.length ≤ 1000) (hN : N ≤ 1000) (hB : B ≤ w.heap.size) :
    Calls Tryd.prog 43 #[.pointer (some ⟨b, 0, none⟩), VS 3 (N : Int) s] w fun e w' => e = .returned (.bool true) ∧ ∃ lv', ArrS w w' b T B lv lv' ((L ++ List.replicate (N - L.length) E0).take N) := by
  obtain ⟨i0, hi, hz0, hz1, hz2⟩ := info_parts infoVal
  have t1 : decide ((N : Int) < 0) = false := by simp
  have t2 : decide ((1000 : Int) < (N : Int)) = false := by simp; omega
  have b1 : Below w.heap.size w (w.alloc (.cells #[.int .i64 3, .int .i64 (N : Int), .string s] 34)) := (Below.refl _ _).alloc (Nat.le_refl _) _
  have bx := Blk.new w 34 #[.int .i64 3, .int .i64 (N : Int), .string s]
  have hlt : ∀ g, lv.ownBlock = some g → g ≠ w.heap.size := fun g hg e => by have := (h.row.lt g hg).2; omega
  have hbl : b ≠ w.heap.size := fun e => by have := h.ob.lt; omega
  have HS := Lib.hid (ArrS.refl (h.below b1))
  have hsz : (w.alloc (.cells #[.int .i64 3, .int .i64 (N : Int), .string s] 34)).heap.size = w.heap.size + 1 := by simp
  have bz := bx.frozen 1
  have bl := bx.lt
  go_enter Tryd.func43, Tryd.ntmps43
  go_wp2_with fail
  generalize (w.alloc (.cells #[.int .i64 3, .int .i64 (N : Int), .string s] 34)) = W0 at *
  generalize hp : w.heap.size = p at *
  have HB0 := Lib.hid (And.intro b1 (And.intro bx (And.intro hlt hbl)))
  have hBp : B ≤ p := hB
  clear b1 bx hlt hbl h bz bl hB
  go_loopw [] (fun wr => ∃ (m : Nat) (lv' : Value), m ≤ N - L.length ∧ Hid (ArrS W0 wr b T B lv lv' (L ++ List.replicate m E0))) (fun wr => N - lenAt b wr)
  case atStart => exact ⟨0, lv, Nat.zero_le _, Lib.hid (by simpa using HS.out)⟩
  case round =>
    clear HS
    obtain ⟨m, lv', hm, HS⟩ := hrel
    obtain ⟨n, hn⟩ : ∃ n, (L ++ List.replicate m E0).length = n := ⟨_, rfl⟩
    have hnm : L.length + m = n := by rw [← hn]; simp
    have hrow := HS.out.ar.row
    obtain ⟨la, lcap, rfl, hla⟩ := own_shape hrow
    have x4 : wr.cell? ⟨b, 4, none⟩ = some (.slice la n lcap) := by rw [HS.out.ar.ob.cell, ← hn]; rfl
    have hbx : Blk wr p 34 #[.int .i64 3, .int .i64 (N : Int), .string s] := HS.out.up.blk HB0.out.2.1 (fun e => e.elim (fun e => HB0.out.2.2.2 e.symm) (fun e => HB0.out.2.2.1 p e rfl))
    have x1 : wr.cell? ⟨p, 1, none⟩ = some (.int .i64 (N : Int)) := by rw [hbx.cell]; rfl
    have z4 := HS.out.ar.ob.frozen 4
    have hbl := HS.out.ar.ob.lt
    have hlen := lenAt_of x4
    rw [hn] at hrow
    by_cases hlt : n < N
    · have t3 : decide ((n : Int) < (N : Int)) = true := by simp; omega
      have hBw : B ≤ wr.heap.size := by have := HS.out.up.size; omega
      have HR := Lib.hid (And.intro hn (And.intro hnm (And.intro hlen hrow)))
      clear hn hbx hla hlen hrow
      go_upto_region 3 with fail
      go_quiet (fail)
      have HS1 : Hid (ArrS W0 (wr.drewN nq) b T B lv (.slice la n lcap) (L ++ List.replicate m E0)) := Lib.hid (by rw [← HR.out.1]; exact HS.out.below (below_drw (Below.refl _ _) nq))
      have x4' : (wr.drewN nq).cell? ⟨b, 4, none⟩ = some (.slice la n lcap) := x4
      have hbl' : b < (wr.drewN nq).heap.size := hbl
      have hBw' : B ≤ (wr.drewN nq).heap.size := hBw
      clear HS x1 x4 z4 hbl hBw
      have z4 := HS1.out.ar.ob.frozen 4
      have hrow := HS1.out.ar.row
      rw [HR.out.1] at hrow
      generalize wr.drewN nq = wq at *
      go_wp2_with (at_builtin; refine wpList_append_lies _ rfl _ _ 45 rfl B 34 i0 _ 3 32 Tryd.underlying45 hi hz0 hz1 hz2 rfl (by decide) _ _ _ rfl (hrow.alloc _) ⟨wq.heap.size, 0, none⟩ 1 1 [.int .i64 10, .int .i64 0, .string ⟨#[]⟩] rfl rfl (World.news_of_block (cs := #[.int .i64 10, .int .i64 0, .string ⟨#[]⟩]) (t := 34) (fr := (0, 0)) (heap_alloc_new wq _)) (by simp [Value.oneCell']) (by decide) (by unfold maxLen; omega) (by omega) (by simp; omega) _ rfl ?_)
      intro gg capg w8 hown8 hgrow8 hat8 hlt8
      have hS8 := HS1.out.more E0 HR.out.1 hgrow8 hown8 (hat8.imp id (fun e => by omega))
      have hb8 := (HS1.out.ar.ob.alloc _).grown hgrow8 (fun e => HS1.out.ar.far e.symm)
      have x8 : w8.cell? ⟨b, 4, none⟩ = some (.slice la n lcap) := by rw [hb8.cell]; rfl
      have z8 := hb8.frozen 4
      have l8 := hb8.lt
      have HF := Lib.hid hS8
      clear hS8 hb8 hown8 hgrow8 hat8 hlt8 HS1 hrow z4 x4'
      go_wp2_with fail
      go_roundw
      case rel => exact ⟨m + 1, _, by omega, Lib.hid (by rw [List.replicate_succ', ← List.append_assoc]; exact HF.out)⟩
      case measure =>
        have h1 : lenAt b (w8.setCell ⟨b, 4, none⟩ (.slice (some ⟨gg, 0, none⟩) (n + 1) capg)) = n + 1 := lenAt_of (by rw [HF.out.ar.ob.cell]; rfl)
        rw [h1, HR.out.2.2.1]
        omega
    · have t3 : decide ((n : Int) < (N : Int)) = false := by simp; omega
      obtain rfl : m = N - L.length := by omega
      have HR := Lib.hid (And.intro hn (And.intro hnm (And.intro hlen hrow)))
      clear hlen hbx hrow
      go_upto_region 3 with fail
      go_quiet (fail)
      have HS1 : Hid (ArrS W0 (wr.drewN nq) b T B lv (.slice la n lcap) (L ++ List.replicate (N - L.length) E0)) := Lib.hid (by rw [← HR.out.1]; exact HS.out.below (below_drw (Below.refl _ _) nq))
      have x1' : (wr.drewN nq).cell? ⟨p, 1, none⟩ = some (.int .i64 (N : Int)) := x1
      clear HS x1 x4 z4 hbl
      generalize wr.drewN nq = wq at *
      have hrow := HS1.out.ar.row
      have hnq := HR.out.1
      rw [hnq] at hrow
      generalize hX : L ++ List.replicate (N - L.length) E0 = X at *
      clear HR hn
      go_upto_region 5 with fail
      have hfin : ∀ W, W = wq.drewN 1 → ∀ v', wq.ownsRow B 34 3 v' N (valsC (X.take N)) → (∀ g, v'.ownBlock = some g → (Value.slice la n lcap).ownBlock = some g) → ArrS W0 (W.setCell ⟨b, 4, none⟩ v') b T B lv v' (X.take N) := by
        rintro W rfl v' hv hg
        exact (HS1.out.below (below_drw (Below.refl _ _) 1)).put (by rw [List.length_take, hnq, Nat.min_eq_left (by omega)]; exact hv) hg
      have hx : ∀ W, W = wq.drewN 1 → Blk W b 51 (objA 1 0 false T (.slice la n lcap) nilP nilP nilS 0) ∧ W.cell? ⟨p, 1, none⟩ = some (.int .i64 (N : Int)) := by
        rintro W rfl
        exact ⟨HS1.out.ar.ob, x1'⟩
      have HF := Lib.hid hfin
      have HX2 := Lib.hid hx
      have b1 := HB0.out.1
      have HBE := Lib.hid b1
      have HXX := Lib.hid hX
      have hNn : N ≤ n := by omega
      clear hfin hx b1
      cases la with
      | none =>
        obtain ⟨hn0, hc0⟩ : n = 0 ∧ lcap = 0 := by
          rcases hrow.2 with ⟨e, e2⟩ | ⟨g, cap, cur, e, _⟩
          · cases e; exact ⟨rfl, rfl⟩
          · cases e
        subst hn0 hc0
        obtain rfl : N = 0 := by omega
        have hrow2 : wq.ownsRow B 34 3 (.slice none 0 0) 0 (valsC (X.take 0)) := World.ownsRow_nil _ _ _ _
        have HO := Lib.hid hrow2
        clear hrow hrow2 x1' hX hnq HS1 HB0
        refine still_tail 8 (by kernel_rfl) (by kernel_rfl) (fun W2 hW2 => ?_)
        have hb2 := HX2.out W2 hW2
        have HR := Lib.hid (HF.out W2 hW2 (.slice none 0 0) HO.out (fun g hg => by cases hg))
        have x2 : W2.cell? ⟨b, 4, none⟩ = some (.slice none 0 0) := by rw [hb2.1.cell]; rfl
        have x3 := hb2.2
        have z2 := hb2.1.frozen 4
        have l2 := hb2.1.lt
        clear hW2 hb2 HX2 HF
        simp only [List.take_succ_cons, List.take_zero, List.drop_succ_cons, List.drop_zero]
        repeat still_step
        refine wpStill_nil ?_
        go_wp2
        go_ret
        exact ⟨rfl, _, by rw [HXX.out]; exact HR.out.from (by rw [hp]; exact HBE.out)⟩
      | some q =>
        obtain ⟨g, rfl⟩ : ∃ g, q = ⟨g, 0, none⟩ := by
          rcases hrow.2 with ⟨e, _⟩ | ⟨g, cap, cur, e, _⟩
          · cases e
          · cases e; exact ⟨g, rfl⟩
        have hcp := (own_cap hrow).1
        have b6 : N ≤ lcap := by omega
        have b7 := (own_cap hrow).2
        have hrow2 : wq.ownsRow B 34 3 (.slice (some ⟨g, 0, none⟩) N lcap) N (valsC (X.take N)) := by
          have := own_take hrow N hNn
          rwa [valsC_take] at this
        have b11 : (0 : Int) ≤ N := by omega
        have b12 : (N : Int) ≤ lcap := by omega
        have b13 : (N : Int).toNat = N := by omega
        have HO := Lib.hid hrow2
        clear hrow hrow2 x1' hX hnq HS1 HB0
        refine still_tail 8 (by kernel_rfl) (by kernel_rfl) (fun W2 hW2 => ?_)
        have hb2 := HX2.out W2 hW2
        have HR := Lib.hid (HF.out W2 hW2 (.slice (some ⟨g, 0, none⟩) N lcap) HO.out (fun g hg => hg))
        have x2 : W2.cell? ⟨b, 4, none⟩ = some (.slice (some ⟨g, 0, none⟩) n lcap) := by rw [hb2.1.cell]; rfl
        have x3 := hb2.2
        have z2 := hb2.1.frozen 4
        have l2 := hb2.1.lt
        clear hW2 hb2 HX2 HF
        simp only [List.take_succ_cons, List.take_zero, List.drop_succ_cons, List.drop_zero]
        repeat still_step
        refine wpStill_nil ?_
        go_wp2
        go_ret
        exact ⟨rfl, _, by rw [HXX.out]; exact HR.out.from (by rw [hp]; exact HBE.out)⟩
set_option maxHeartbeats 1000000 in
theorem resize_no (b T B : Nat) (k1 k2 : Int) (lv : Value) (L : List K3) (s : ByteArray) (w : World) (h : ArrE w b T B lv L) (hno : k1 ≠ 3 ∨ k2 < 0 ∨ 1000 < k2) :
    Calls Tryd.prog 43 #[.pointer (some ⟨b, 0, none⟩), VS k1 k2 s] w fun e w' => e = .returned (.bool false) ∧ Below w.heap.size w w' := by
  have b1 : Below w.heap.size w (w.alloc (.cells #[.int .i64 k1, .int .i64 k2, .string s] 34)) := (Below.refl _ _).alloc (Nat.le_refl _) _
  by_cases h1 : k1 = 3
  · subst h1
    by_cases h2 : k2 < 0
    · have t1 : decide (k2 < 0) = true := by simpa using h2
      clear h
      go_enter Tryd.func43, Tryd.ntmps43
      go_wp2
      go_ret
      exact ⟨rfl, b1⟩
    · have t1 : decide (k2 < 0) = false := by simpa using h2
      have t2 : decide (1000 < k2) = true := by simp; omega
      clear h
      go_enter Tryd.func43, Tryd.ntmps43
      go_wp2
      go_ret
      exact ⟨rfl, b1⟩
  · have t1 : (k1 != 3) = true := by simpa using h1
    clear h
    go_enter Tryd.func43, Tryd.ntmps43
    go_wp2
    go_ret
    exact ⟨rfl, b1⟩
end Go.Proofs.YtmimnaaofpkndaaDoor.Hp

/- The heap: an array's own properties. -/
set_option linter.unusedVariables false
set_option linter.unusedSimpArgs false
namespace Go.Proofs.YtmimnaaofpkndaaDoor.Hp
open Go.RowKit Go.Proofs.YtmimnaaofpkndaaDoor Go.Shelf

theorem valsC_length (L : List K3) : (valsC L).length = L.length * 3 := by
  induction L with
  | nil => rfl
  | cons k L ih =>
    have h1 : valsC (k :: L) = .int .i64 k.1 :: .int .i64 k.2.1 :: .string k.2.2 :: valsC L := by simp [valsC]
    rw [h1]; simp [ih]; omega
theorem own_elem {W : World} {B g n cap : Nat} {L : List K3} (h : W.ownsRow B 34 3 (.slice (some ⟨g, 0, none⟩) n cap) L.length (valsC L)) (i : Nat) (k : K3) (hk : L[i]? = some k) (j : Nat) (hj : j < 3) : W.cell? ⟨g, i * 3 + j, none⟩ = ([.int .i64 k.1, .int .i64 k.2.1, .string k.2.2] : List Value)[j]? := by
  have hi : i < L.length := (List.getElem?_eq_some_iff.1 hk).1
  obtain ⟨A, c, hA, _⟩ := own_shape h
  have hn : n = L.length := by injection hA
  rw [hn] at h
  rw [h.cellAt (i * 3 + j) (by omega), valsC_get L i j k hk hj]
theorem lenK_idx : idxV 1 lenK = -1 := by
  unfold idxV
  rw [if_pos ⟨rfl, rfl⟩, ← keyL_len, keyL_idx _ (by decide)]
  rfl

set_option maxRecDepth 100000 in
set_option maxHeartbeats 2000000 in
theorem own_at (b T B : Nat) (lv : Value) (L : List K3) (i : Nat) (k x : K3) (w : World) (h : ArrE w b T B lv L) (hk : idxV 1 k = (i : Int)) (hx : L[i]? = some x) (h10 : x.1 ≠ 10) (hsz : k.2.2.size ≤ 4000) (hL : L.length ≤ 1000) :
    Calls Tryd.prog 18 #[.pointer (some ⟨b, 0, none⟩), VK k] w fun e w' => e = .returned (.tuple #[VK x, .int .i64 7, .bool true]) ∧ Below w.heap.size w w' := by
  have H := Lib.hid h
  obtain ⟨k1, k2, k3⟩ := k
  dsimp only at hsz
  clear h
  have bb : Below w.heap.size w ((w.alloc (.cells #[.int .i64 k1, .int .i64 k2, .string k3] 34)).alloc (.cells #[.int .i64 0, .int .i64 0, .string ⟨#[]⟩] 34)) := ((Below.refl _ _).alloc (Nat.le_refl _) _).alloc (by simp) _
  have h2 := H.out.below bb
  have kb : Blk ((w.alloc (.cells #[.int .i64 k1, .int .i64 k2, .string k3] 34)).alloc (.cells #[.int .i64 0, .int .i64 0, .string ⟨#[]⟩] 34)) w.heap.size 34 #[.int .i64 k1, .int .i64 k2, .string k3] := (Blk.new w _ _).alloc _
  have rb : Blk ((w.alloc (.cells #[.int .i64 k1, .int .i64 k2, .string k3] 34)).alloc (.cells #[.int .i64 0, .int .i64 0, .string ⟨#[]⟩] 34)) (w.heap.size + 1) 34 #[.int .i64 0, .int .i64 0, .string ⟨#[]⟩] := by
    have := Blk.new (w.alloc (.cells #[.int .i64 k1, .int .i64 k2, .string k3] 34)) 34 #[.int .i64 0, .int .i64 0, .string ⟨#[]⟩]
    rwa [World.size_alloc] at this
  have hi := hindex_any b T 1 0 false lv nilP nilP nilS 0 (k1, k2, k3) _ h2.ob hsz
  rw [hk] at hi
  have HI := Lib.hid hi
  have HB := Lib.hid (And.intro bb (And.intro rb kb))
  clear hi hk bb h2 rb kb
  go_enter Tryd.func18, Tryd.ntmps18
  go_wp2_with (fail)
  refine HI.out.mono ?_
  rintro e w2 ⟨rfl, b2⟩
  obtain ⟨bb, rb, kb⟩ := HB.out
  have b02 := bb.trans (b2.mono bb.size)
  have o2 := H.out.below b02
  have rb2 := rb.below b2 rb.lt
  have kb2 := kb.below b2 kb.lt
  obtain ⟨n, hn⟩ : ∃ n, L.length = n := ⟨_, rfl⟩
  have hrow := o2.row
  obtain ⟨la, lcap, rfl, hla⟩ := own_shape hrow
  have hi3 : i < L.length := (List.getElem?_eq_some_iff.1 hx).1
  obtain ⟨g, rfl⟩ := hla (by omega)
  have e0 : w2.cell? ⟨g, i * 3, none⟩ = some (.int .i64 x.1) := own_elem hrow i x hx 0 (by decide)
  have e1 : w2.cell? ⟨g, i * 3 + 1, none⟩ = some (.int .i64 x.2.1) := own_elem hrow i x hx 1 (by decide)
  have e2 : w2.cell? ⟨g, i * 3 + 2, none⟩ = some (.string x.2.2) := own_elem hrow i x hx 2 (by decide)
  obtain ⟨x1, x2, x3⟩ := x
  dsimp only at e0 e1 e2 h10
  have o20 : w2.cell? ⟨b, 0, none⟩ = some (.int .i64 1) := by rw [o2.ob.cell]; rfl
  have o22 : w2.cell? ⟨b, 2, none⟩ = some (.bool false) := by rw [o2.ob.cell]; rfl
  have o4 : w2.cell? ⟨b, 4, none⟩ = some (.slice (some ⟨g, 0, none⟩) n lcap) := by rw [o2.ob.cell, ← hn]; rfl
  have q0 := rb2.frozen 0
  have q1 := rb2.frozen 1
  have q2 := rb2.frozen 2
  have y0 : w2.cell? ⟨w.heap.size + 1, 0, none⟩ = some (.int .i64 0) := by rw [rb2.cell]; rfl
  have y1 : w2.cell? ⟨w.heap.size + 1, 1, none⟩ = some (.int .i64 0) := by rw [rb2.cell]; rfl
  have y2 : w2.cell? ⟨w.heap.size + 1, 2, none⟩ = some (.string ⟨#[]⟩) := by rw [rb2.cell]; rfl
  have lr := rb2.lt
  have t1 : decide ((0 : Int) ≤ (i : Int)) = true := by simp
  have t2 : decide ((i : Int) < (n : Int)) = true := by simp; omega
  have z0 : (0 : Int) ≤ (i : Int) := by omega
  have z1 : (i : Int) < (n : Int) := by omega
  have t3 : (x1 != 10) = true := by simpa using h10
  have HB2 := Lib.hid b02
  have HN := Lib.hid hn
  clear bb rb b2 b02 o2 rb2 hn hrow HB HI kb kb2 hla hi3 hx h10 hL
  go_wp2
  refine bodyPost_ret (v := .tuple #[VS x1 x2 x3, .int .i64 7, .bool true]) (by simp [results, Tryd.results18, go_sem, y0, y1, y2, q0, q1, q2, lr]) rfl ⟨rfl, ?_⟩
  exact ((HB2.out.setCell (p := ⟨w.heap.size + 1, 0, none⟩) (by simp) _).setCell (p := ⟨w.heap.size + 1, 1, none⟩) (by simp) _).setCell (p := ⟨w.heap.size + 1, 2, none⟩) (by simp) _
set_option maxRecDepth 100000 in
set_option maxHeartbeats 2000000 in
theorem own_hole (b T B : Nat) (lv : Value) (L : List K3) (i : Nat) (k x : K3) (w : World) (h : ArrE w b T B lv L) (hk : idxV 1 k = (i : Int)) (hx : L[i]? = some x) (h10 : x.1 = 10) (hsz : k.2.2.size ≤ 4000) (hL : L.length ≤ 1000) :
    Calls Tryd.prog 18 #[.pointer (some ⟨b, 0, none⟩), VK k] w fun e w' => e = .returned (.tuple #[VK (0, 0, ⟨#[]⟩), .int .i64 0, .bool false]) ∧ Below w.heap.size w w' := by
  have H := Lib.hid h
  obtain ⟨k1, k2, k3⟩ := k
  dsimp only at hsz
  clear h
  have bb : Below w.heap.size w ((w.alloc (.cells #[.int .i64 k1, .int .i64 k2, .string k3] 34)).alloc (.cells #[.int .i64 0, .int .i64 0, .string ⟨#[]⟩] 34)) := ((Below.refl _ _).alloc (Nat.le_refl _) _).alloc (by simp) _
  have h2 := H.out.below bb
  have kb : Blk ((w.alloc (.cells #[.int .i64 k1, .int .i64 k2, .string k3] 34)).alloc (.cells #[.int .i64 0, .int .i64 0, .string ⟨#[]⟩] 34)) w.heap.size 34 #[.int .i64 k1, .int .i64 k2, .string k3] := (Blk.new w _ _).alloc _
  have rb : Blk ((w.alloc (.cells #[.int .i64 k1, .int .i64 k2, .string k3] 34)).alloc (.cells #[.int .i64 0, .int .i64 0, .string ⟨#[]⟩] 34)) (w.heap.size + 1) 34 #[.int .i64 0, .int .i64 0, .string ⟨#[]⟩] := by
    have := Blk.new (w.alloc (.cells #[.int .i64 k1, .int .i64 k2, .string k3] 34)) 34 #[.int .i64 0, .int .i64 0, .string ⟨#[]⟩]
    rwa [World.size_alloc] at this
  have hi := hindex_any b T 1 0 false lv nilP nilP nilS 0 (k1, k2, k3) _ h2.ob hsz
  rw [hk] at hi
  have HI := Lib.hid hi
  have HB := Lib.hid (And.intro bb (And.intro rb kb))
  clear hi hk bb h2 rb kb
  go_enter Tryd.func18, Tryd.ntmps18
  go_wp2_with (fail)
  refine HI.out.mono ?_
  rintro e w2 ⟨rfl, b2⟩
  obtain ⟨bb, rb, kb⟩ := HB.out
  have b02 := bb.trans (b2.mono bb.size)
  have o2 := H.out.below b02
  have rb2 := rb.below b2 rb.lt
  have kb2 := kb.below b2 kb.lt
  obtain ⟨n, hn⟩ : ∃ n, L.length = n := ⟨_, rfl⟩
  have hrow := o2.row
  obtain ⟨la, lcap, rfl, hla⟩ := own_shape hrow
  have hi3 : i < L.length := (List.getElem?_eq_some_iff.1 hx).1
  obtain ⟨g, rfl⟩ := hla (by omega)
  have e0 : w2.cell? ⟨g, i * 3, none⟩ = some (.int .i64 x.1) := own_elem hrow i x hx 0 (by decide)
  have e1 : w2.cell? ⟨g, i * 3 + 1, none⟩ = some (.int .i64 x.2.1) := own_elem hrow i x hx 1 (by decide)
  have e2 : w2.cell? ⟨g, i * 3 + 2, none⟩ = some (.string x.2.2) := own_elem hrow i x hx 2 (by decide)
  obtain ⟨x1, x2, x3⟩ := x
  dsimp only at e0 e1 e2 h10
  have o20 : w2.cell? ⟨b, 0, none⟩ = some (.int .i64 1) := by rw [o2.ob.cell]; rfl
  have o22 : w2.cell? ⟨b, 2, none⟩ = some (.bool false) := by rw [o2.ob.cell]; rfl
  have o4 : w2.cell? ⟨b, 4, none⟩ = some (.slice (some ⟨g, 0, none⟩) n lcap) := by rw [o2.ob.cell, ← hn]; rfl
  have q0 := rb2.frozen 0
  have q1 := rb2.frozen 1
  have q2 := rb2.frozen 2
  have y0 : w2.cell? ⟨w.heap.size + 1, 0, none⟩ = some (.int .i64 0) := by rw [rb2.cell]; rfl
  have y1 : w2.cell? ⟨w.heap.size + 1, 1, none⟩ = some (.int .i64 0) := by rw [rb2.cell]; rfl
  have y2 : w2.cell? ⟨w.heap.size + 1, 2, none⟩ = some (.string ⟨#[]⟩) := by rw [rb2.cell]; rfl
  have lr := rb2.lt
  have t1 : decide ((0 : Int) ≤ (i : Int)) = true := by simp
  have t2 : decide ((i : Int) < (n : Int)) = true := by simp; omega
  have z0 : (0 : Int) ≤ (i : Int) := by omega
  have z1 : (i : Int) < (n : Int) := by omega
  subst h10
  have HB2 := Lib.hid b02
  have HN := Lib.hid hn
  clear bb rb b2 b02 o2 rb2 hn hrow HB HI kb kb2 hla hi3 hx hL
  go_wp2
  refine bodyPost_ret (v := .tuple #[VS 0 0 ⟨#[]⟩, .int .i64 0, .bool false]) (by simp [results, Tryd.results18, go_sem, y0, y1, y2, q0, q1, q2, lr]) rfl ⟨rfl, ?_⟩
  exact ((HB2.out.setCell (p := ⟨w.heap.size + 1, 0, none⟩) (by simp) _).setCell (p := ⟨w.heap.size + 1, 1, none⟩) (by simp) _).setCell (p := ⟨w.heap.size + 1, 2, none⟩) (by simp) _
set_option maxRecDepth 100000 in
set_option maxHeartbeats 2000000 in
theorem own_out (b T B : Nat) (lv : Value) (L : List K3) (i : Nat) (k : K3) (w : World) (h : ArrE w b T B lv L) (hk : idxV 1 k = (i : Int)) (hx : L.length ≤ i) (hsz : k.2.2.size ≤ 4000) (hL : L.length ≤ 1000) :
    Calls Tryd.prog 18 #[.pointer (some ⟨b, 0, none⟩), VK k] w fun e w' => e = .returned (.tuple #[VK (0, 0, ⟨#[]⟩), .int .i64 0, .bool false]) ∧ Below w.heap.size w w' := by
  have H := Lib.hid h
  obtain ⟨k1, k2, k3⟩ := k
  dsimp only at hsz
  clear h
  have bb : Below w.heap.size w ((w.alloc (.cells #[.int .i64 k1, .int .i64 k2, .string k3] 34)).alloc (.cells #[.int .i64 0, .int .i64 0, .string ⟨#[]⟩] 34)) := ((Below.refl _ _).alloc (Nat.le_refl _) _).alloc (by simp) _
  have h2 := H.out.below bb
  have kb : Blk ((w.alloc (.cells #[.int .i64 k1, .int .i64 k2, .string k3] 34)).alloc (.cells #[.int .i64 0, .int .i64 0, .string ⟨#[]⟩] 34)) w.heap.size 34 #[.int .i64 k1, .int .i64 k2, .string k3] := (Blk.new w _ _).alloc _
  have rb : Blk ((w.alloc (.cells #[.int .i64 k1, .int .i64 k2, .string k3] 34)).alloc (.cells #[.int .i64 0, .int .i64 0, .string ⟨#[]⟩] 34)) (w.heap.size + 1) 34 #[.int .i64 0, .int .i64 0, .string ⟨#[]⟩] := by
    have := Blk.new (w.alloc (.cells #[.int .i64 k1, .int .i64 k2, .string k3] 34)) 34 #[.int .i64 0, .int .i64 0, .string ⟨#[]⟩]
    rwa [World.size_alloc] at this
  have hi := hindex_any b T 1 0 false lv nilP nilP nilS 0 (k1, k2, k3) _ h2.ob hsz
  rw [hk] at hi
  have HI := Lib.hid hi
  have HB := Lib.hid (And.intro bb (And.intro rb kb))
  clear hi hk bb h2 rb kb
  go_enter Tryd.func18, Tryd.ntmps18
  go_wp2_with (fail)
  refine HI.out.mono ?_
  rintro e w2 ⟨rfl, b2⟩
  obtain ⟨bb, rb, kb⟩ := HB.out
  have b02 := bb.trans (b2.mono bb.size)
  have o2 := H.out.below b02
  have rb2 := rb.below b2 rb.lt
  have kb2 := kb.below b2 kb.lt
  obtain ⟨n, hn⟩ : ∃ n, L.length = n := ⟨_, rfl⟩
  have hrow := o2.row
  obtain ⟨la, lcap, rfl, hla⟩ := own_shape hrow
  have o20 : w2.cell? ⟨b, 0, none⟩ = some (.int .i64 1) := by rw [o2.ob.cell]; rfl
  have o22 : w2.cell? ⟨b, 2, none⟩ = some (.bool false) := by rw [o2.ob.cell]; rfl
  have o4 : w2.cell? ⟨b, 4, none⟩ = some (.slice la n lcap) := by rw [o2.ob.cell, ← hn]; rfl
  have q0 := rb2.frozen 0
  have q1 := rb2.frozen 1
  have q2 := rb2.frozen 2
  have y0 : w2.cell? ⟨w.heap.size + 1, 0, none⟩ = some (.int .i64 0) := by rw [rb2.cell]; rfl
  have y1 : w2.cell? ⟨w.heap.size + 1, 1, none⟩ = some (.int .i64 0) := by rw [rb2.cell]; rfl
  have y2 : w2.cell? ⟨w.heap.size + 1, 2, none⟩ = some (.string ⟨#[]⟩) := by rw [rb2.cell]; rfl
  have lr := rb2.lt
  have t1 : decide ((0 : Int) ≤ (i : Int)) = true := by simp
  have t2 : decide ((i : Int) < (n : Int)) = false := by simp; omega
  have t4 : ¬ i < n := by omega
  have HB2 := Lib.hid b02
  have HN := Lib.hid hn
  clear bb rb b2 b02 o2 rb2 hn hrow HB HI kb kb2 hla hx hL
  go_wp2
  refine bodyPost_ret (v := .tuple #[VS 0 0 ⟨#[]⟩, .int .i64 0, .bool false]) (by simp [results, Tryd.results18, go_sem, y0, y1, y2, q0, q1, q2, lr]) rfl ⟨rfl, ?_⟩
  exact ((HB2.out.setCell (p := ⟨w.heap.size + 1, 0, none⟩) (by simp) _).setCell (p := ⟨w.heap.size + 1, 1, none⟩) (by simp) _).setCell (p := ⟨w.heap.size + 1, 2, none⟩) (by simp) _
set_option maxRecDepth 100000 in
set_option maxHeartbeats 2000000 in
theorem own_len (b T B : Nat) (lv : Value) (L : List K3)  (w : World) (h : ArrE w b T B lv L) (hLg : Lg w) (hL : L.length ≤ 1000) :
    Calls Tryd.prog 18 #[.pointer (some ⟨b, 0, none⟩), VK lenK] w fun e w' => e = .returned (.tuple #[VK (3, (L.length : Int), ⟨#[]⟩), .int .i64 1, .bool true]) ∧ Below w.heap.size w w' := by
  have H := Lib.hid h
  have hk := lenK_idx
  have hsz : lenK.2.2.size ≤ 4000 := by decide
  have HL := Lib.hid hLg
  obtain ⟨ks, hks⟩ : ∃ s, (⟨#[0, 108, 0, 101, 0, 110, 0, 103, 0, 116, 0, 104]⟩ : ByteArray) = s := ⟨_, rfl⟩
  have hkk : lenK = (7, 0, ks) := by rw [← hks]; rfl
  rw [hkk] at hk hsz ⊢
  obtain ⟨k1, hk1⟩ : ∃ k : Int, k = 7 := ⟨_, rfl⟩
  obtain ⟨k2, hk2⟩ : ∃ k : Int, k = 0 := ⟨_, rfl⟩
  obtain ⟨k3, hk3⟩ : ∃ k, k = ks := ⟨_, rfl⟩
  rw [← hk1, ← hk2, ← hk3] at hk hsz ⊢
  rw [← hk1, ← hk2, ← hk3] at hkk
  have HKK := Lib.hid (And.intro hkk (And.intro hk1 (And.intro hk2 hk3)))
  clear hkk hk1 hk2 hk3 hLg hks
  dsimp only at hsz
  clear h
  have bb : Below w.heap.size w ((w.alloc (.cells #[.int .i64 k1, .int .i64 k2, .string k3] 34)).alloc (.cells #[.int .i64 0, .int .i64 0, .string ⟨#[]⟩] 34)) := ((Below.refl _ _).alloc (Nat.le_refl _) _).alloc (by simp) _
  have h2 := H.out.below bb
  have kb : Blk ((w.alloc (.cells #[.int .i64 k1, .int .i64 k2, .string k3] 34)).alloc (.cells #[.int .i64 0, .int .i64 0, .string ⟨#[]⟩] 34)) w.heap.size 34 #[.int .i64 k1, .int .i64 k2, .string k3] := (Blk.new w _ _).alloc _
  have rb : Blk ((w.alloc (.cells #[.int .i64 k1, .int .i64 k2, .string k3] 34)).alloc (.cells #[.int .i64 0, .int .i64 0, .string ⟨#[]⟩] 34)) (w.heap.size + 1) 34 #[.int .i64 0, .int .i64 0, .string ⟨#[]⟩] := by
    have := Blk.new (w.alloc (.cells #[.int .i64 k1, .int .i64 k2, .string k3] 34)) 34 #[.int .i64 0, .int .i64 0, .string ⟨#[]⟩]
    rwa [World.size_alloc] at this
  have hi := hindex_any b T 1 0 false lv nilP nilP nilS 0 (k1, k2, k3) _ h2.ob hsz
  rw [hk] at hi
  have HI := Lib.hid hi
  have HB := Lib.hid (And.intro bb (And.intro rb kb))
  clear hi hk bb h2 rb kb
  go_enter Tryd.func18, Tryd.ntmps18
  go_wp2_with (fail)
  refine HI.out.mono ?_
  rintro e w2 ⟨rfl, b2⟩
  obtain ⟨bb, rb, kb⟩ := HB.out
  have b02 := bb.trans (b2.mono bb.size)
  have o2 := H.out.below b02
  have rb2 := rb.below b2 rb.lt
  have kb2 := kb.below b2 kb.lt
  obtain ⟨n, hn⟩ : ∃ n, L.length = n := ⟨_, rfl⟩
  have hrow := o2.row
  obtain ⟨la, lcap, rfl, hla⟩ := own_shape hrow
  have o20 : w2.cell? ⟨b, 0, none⟩ = some (.int .i64 1) := by rw [o2.ob.cell]; rfl
  have o22 : w2.cell? ⟨b, 2, none⟩ = some (.bool false) := by rw [o2.ob.cell]; rfl
  have o4 : w2.cell? ⟨b, 4, none⟩ = some (.slice la n lcap) := by rw [o2.ob.cell, ← hn]; rfl
  have q0 := rb2.frozen 0
  have q1 := rb2.frozen 1
  have q2 := rb2.frozen 2
  have y0 : w2.cell? ⟨w.heap.size + 1, 0, none⟩ = some (.int .i64 0) := by rw [rb2.cell]; rfl
  have y1 : w2.cell? ⟨w.heap.size + 1, 1, none⟩ = some (.int .i64 0) := by rw [rb2.cell]; rfl
  have y2 : w2.cell? ⟨w.heap.size + 1, 2, none⟩ = some (.string ⟨#[]⟩) := by rw [rb2.cell]; rfl
  have lr := rb2.lt
  have hg2 := HL.out.below b02
  have g0 : w2.cell? ⟨0, 0, none⟩ = some (.int .i64 k1) := by rw [HKK.out.2.1]; exact hg2.1
  have g1 : w2.cell? ⟨0, 1, none⟩ = some (.int .i64 k2) := by rw [HKK.out.2.2.1]; exact hg2.2.1
  have g2 : w2.cell? ⟨0, 2, none⟩ = some (.string k3) := by rw [hg2.2.2, show lenK.2.2 = k3 from congrArg (·.2.2) HKK.out.1]
  have p0 : w2.cell? ⟨w.heap.size, 0, none⟩ = some (.int .i64 k1) := by rw [kb2.cell]; rfl
  have p1 : w2.cell? ⟨w.heap.size, 1, none⟩ = some (.int .i64 k2) := by rw [kb2.cell]; rfl
  have p2 : w2.cell? ⟨w.heap.size, 2, none⟩ = some (.string k3) := by rw [kb2.cell]; rfl
  have s0 : (k1 == k1) = true := by simp
  have s1 : (k2 == k2) = true := by simp
  have s2 : (k3.toList == k3.toList) = true := by simp
  clear hg2 HL HKK
  have HB2 := Lib.hid b02
  have HN := Lib.hid hn
  clear bb rb b2 b02 o2 rb2 hn hrow HB HI kb kb2 hla hL
  go_wp2
  refine bodyPost_ret (v := .tuple #[VS 3 (n : Int) ⟨#[]⟩, .int .i64 1, .bool true]) (by simp [results, Tryd.results18, go_sem, y0, y1, y2, q0, q1, q2, lr]) rfl ⟨by rw [HN.out], ?_⟩
  exact ((HB2.out.setCell (p := ⟨w.heap.size + 1, 0, none⟩) (by simp) _).setCell (p := ⟨w.heap.size + 1, 1, none⟩) (by simp) _).setCell (p := ⟨w.heap.size + 1, 2, none⟩) (by simp) _
end Go.Proofs.YtmimnaaofpkndaaDoor.Hp

/- The heap: an array's own properties are set. -/
set_option linter.unusedVariables false
set_option linter.unusedSimpArgs false
namespace Go.Proofs.YtmimnaaofpkndaaDoor.Hp
open Go.RowKit Go.Proofs.YtmimnaaofpkndaaDoor Go.Shelf
attribute [local go_sem] Oper.semAt_some

set_option maxRecDepth 100000 in
set_option maxHeartbeats 4000000 in
theorem define_len (b T B : Nat) (lv : Value) (L : List K3) (v1 v2 : Int) (v3 : ByteArray) (w : World) (h : ArrE w b T B lv L) (hLg : Lg w) (hL : L.length ≤ 1000) (R : Bool) (Post : World → Prop)
    (hres : ∀ W, Below w.heap.size w W → Calls Tryd.prog 43 #[.pointer (some ⟨b, 0, none⟩), VS v1 v2 v3] W fun e w' => e = .returned (.bool R) ∧ Post w') :
    Calls Tryd.prog 12 #[.pointer (some ⟨b, 0, none⟩), VK lenK, VS v1 v2 v3, .int .i64 1] w fun e w' => e = .returned (.bool R) ∧ Post w' := by
  have H := Lib.hid h
  have HL := Lib.hid hLg
  have HRS := Lib.hid hres
  have hown := fun W (bw : Below w.heap.size w W) => own_len b T B lv L W (h.below bw) (hLg.below bw) hL
  have hidx := fun W (bw : Below w.heap.size w W) => hindex_any b T 1 0 false lv nilP nilP nilS 0 lenK W (h.below bw).ob (by decide)
  rw [lenK_idx] at hidx
  obtain ⟨ks, hks⟩ : ∃ s, (⟨#[0, 108, 0, 101, 0, 110, 0, 103, 0, 116, 0, 104]⟩ : ByteArray) = s := ⟨_, rfl⟩
  have hkk : lenK = (7, 0, ks) := by rw [← hks]; rfl
  rw [hkk] at hown hidx ⊢
  obtain ⟨k1, hk1⟩ : ∃ k : Int, k = 7 := ⟨_, rfl⟩
  obtain ⟨k2, hk2⟩ : ∃ k : Int, k = 0 := ⟨_, rfl⟩
  obtain ⟨k3, hk3⟩ : ∃ k, k = ks := ⟨_, rfl⟩
  rw [← hk1, ← hk2, ← hk3] at hown hidx ⊢
  rw [← hk1, ← hk2, ← hk3] at hkk
  have HKK := Lib.hid (And.intro hkk (And.intro hk1 (And.intro hk2 hk3)))
  have HOI := Lib.hid (And.intro hown hidx)
  clear hkk hk1 hk2 hk3 hLg hks h hown hidx hres
  have b1 : Below w.heap.size w ((w.alloc (.cells #[.int .i64 k1, .int .i64 k2, .string k3] 34)).alloc (.cells #[.int .i64 v1, .int .i64 v2, .string v3] 34)) := ((Below.refl _ _).alloc (Nat.le_refl _) _).alloc (by simp) _
  have kb : Blk ((w.alloc (.cells #[.int .i64 k1, .int .i64 k2, .string k3] 34)).alloc (.cells #[.int .i64 v1, .int .i64 v2, .string v3] 34)) w.heap.size 34 #[.int .i64 k1, .int .i64 k2, .string k3] := (Blk.new w _ _).alloc _
  have vb : Blk ((w.alloc (.cells #[.int .i64 k1, .int .i64 k2, .string k3] 34)).alloc (.cells #[.int .i64 v1, .int .i64 v2, .string v3] 34)) (w.heap.size + 1) 34 #[.int .i64 v1, .int .i64 v2, .string v3] := by
    have := Blk.new (w.alloc (.cells #[.int .i64 k1, .int .i64 k2, .string k3] 34)) 34 #[.int .i64 v1, .int .i64 v2, .string v3]
    rwa [World.size_alloc] at this
  have HB := Lib.hid (And.intro b1 (And.intro kb vb))
  clear b1 kb vb
  go_enter Tryd.func12, Tryd.ntmps12
  go_wp2_with (fail)
  refine (HOI.out.1 _ HB.out.1).mono ?_
  rintro e w2 ⟨rfl, b2⟩
  obtain ⟨b1, kb, vb⟩ := HB.out
  have b02 := b1.trans (b2.mono b1.size)
  have kb2 := kb.below b2 kb.lt
  have vb2 := vb.below b2 vb.lt
  obtain ⟨n, hn⟩ : ∃ n : Int, (L.length : Int) = n := ⟨_, rfl⟩
  rw [hn]
  have p0 : w2.cell? ⟨w.heap.size, 0, none⟩ = some (.int .i64 k1) := by rw [kb2.cell]; rfl
  have p1 : w2.cell? ⟨w.heap.size, 1, none⟩ = some (.int .i64 k2) := by rw [kb2.cell]; rfl
  have p2 : w2.cell? ⟨w.heap.size, 2, none⟩ = some (.string k3) := by rw [kb2.cell]; rfl
  have pl := kb2.lt
  have a0 : bits .and .i64 1 4 = 0 := by decide
  have a1 : bits .and .i64 1 1 = 1 := by decide
  have a2 : bits .andNot .i64 1 1 = 0 := by decide
  have b3 := b02.alloc b02.size (.cells #[.int .i64 3, .int .i64 n, .string ⟨#[]⟩] 34)
  have HB2 := Lib.hid (And.intro b3 (And.intro (kb2.alloc (.cells #[.int .i64 3, .int .i64 n, .string ⟨#[]⟩] 34)) (vb2.alloc (.cells #[.int .i64 3, .int .i64 n, .string ⟨#[]⟩] 34))))
  clear b1 kb vb b2 b02 kb2 vb2 b3 HB hn
  go_wp2_with (fail)
  refine (HOI.out.2 _ HB2.out.1).mono ?_
  rintro e w4 ⟨rfl, b4⟩
  obtain ⟨b3, kb3, vb3⟩ := HB2.out
  have b04 := b3.trans (b4.mono b3.size)
  have kb4 := kb3.below b4 kb3.lt
  have vb4 := vb3.below b4 vb3.lt
  have h4 := H.out.below b04
  have g4 := HL.out.below b04
  have p0 : w4.cell? ⟨w.heap.size, 0, none⟩ = some (.int .i64 k1) := by rw [kb4.cell]; rfl
  have p1 : w4.cell? ⟨w.heap.size, 1, none⟩ = some (.int .i64 k2) := by rw [kb4.cell]; rfl
  have p2 : w4.cell? ⟨w.heap.size, 2, none⟩ = some (.string k3) := by rw [kb4.cell]; rfl
  have q0 : w4.cell? ⟨w.heap.size + 1, 0, none⟩ = some (.int .i64 v1) := by rw [vb4.cell]; rfl
  have q1 : w4.cell? ⟨w.heap.size + 1, 1, none⟩ = some (.int .i64 v2) := by rw [vb4.cell]; rfl
  have q2 : w4.cell? ⟨w.heap.size + 1, 2, none⟩ = some (.string v3) := by rw [vb4.cell]; rfl
  have o0 : w4.cell? ⟨b, 0, none⟩ = some (.int .i64 1) := by rw [h4.ob.cell]; rfl
  have g0 : w4.cell? ⟨0, 0, none⟩ = some (.int .i64 k1) := by rw [HKK.out.2.1]; exact g4.1
  have g1 : w4.cell? ⟨0, 1, none⟩ = some (.int .i64 k2) := by rw [HKK.out.2.2.1]; exact g4.2.1
  have g2 : w4.cell? ⟨0, 2, none⟩ = some (.string k3) := by rw [g4.2.2, show lenK.2.2 = k3 from congrArg (·.2.2) HKK.out.1]
  have s0 : (k1 == k1) = true := by simp
  have s1 : (k2 == k2) = true := by simp
  have s2 : (k3.toList == k3.toList) = true := by simp
  have HB4 := Lib.hid b04
  clear b3 kb3 vb3 b4 b04 kb4 vb4 h4 g4 HB2 HOI HKK H HL
  go_wp2_with (fail)
  refine (HRS.out _ HB4.out).mono ?_
  rintro e w5 ⟨rfl, hp⟩
  have HP := Lib.hid hp
  clear hp HRS
  cases R
  · go_wp2
    go_ret
    exact ⟨rfl, HP.out⟩
  · go_wp2
    go_ret
    exact ⟨rfl, HP.out⟩
end Go.Proofs.YtmimnaaofpkndaaDoor.Hp

/- The heap: an element of an array is set. -/
set_option linter.unusedVariables false
set_option linter.unusedSimpArgs false
namespace Go.Proofs.YtmimnaaofpkndaaDoor.Hp
open Go.RowKit Go.Proofs.YtmimnaaofpkndaaDoor Go.Shelf
attribute [local go_sem] Oper.semAt_some

theorem valsC_set (L : List K3) (i : Nat) (v : K3) : (((valsC L).set (i * 3) (.int .i64 v.1)).set (i * 3 + 1) (.int .i64 v.2.1)).set (i * 3 + 2) (.string v.2.2) = if i < L.length then valsC (L.set i v) else (((valsC L).set (i * 3) (.int .i64 v.1)).set (i * 3 + 1) (.int .i64 v.2.1)).set (i * 3 + 2) (.string v.2.2) := by
  split
  · rename_i h
    induction L generalizing i with
    | nil => simp at h
    | cons k L ih =>
      have h1 : ∀ (k : K3) (L : List K3), valsC (k :: L) = .int .i64 k.1 :: .int .i64 k.2.1 :: .string k.2.2 :: valsC L := fun k L => by simp [valsC]
      cases i with
      | zero => simp [h1]
      | succ i =>
        have := ih i (by simpa using h)
        have s3 : ∀ (x y z u : Value) (l : List Value) (a : Nat), (x :: y :: z :: l).set (a + 3) u = x :: y :: z :: l.set a u := fun _ _ _ _ _ _ => rfl
        rw [h1, show (i + 1) * 3 = i * 3 + 3 by omega, show i * 3 + 3 + 1 = i * 3 + 1 + 3 by omega, show i * 3 + 3 + 2 = i * 3 + 2 + 3 by omega, s3, s3, s3, this, List.set_cons_succ, h1]
  · rfl
/-- Own of a place, whatever it has. -/
theorem own_place (b T B i : Nat) (lv : Value) (L : List K3) (k : K3) (w : World) (h : ArrE w b T B lv L) (hk : idxV 1 k = (i : Int)) (hsz : k.2.2.size ≤ 4000) (hL : L.length ≤ 1000) :
    Calls Tryd.prog 18 #[.pointer (some ⟨b, 0, none⟩), VK k] w fun e w' => (∃ gv : K3, ∃ gf gb, e = .returned (.tuple #[VK gv, .int .i64 gf, .bool gb]) ∧ (gb = true ∧ gf = 7 ∨ gb = false ∧ gf = 0)) ∧ Below w.heap.size w w' := by
  rcases Nat.lt_or_ge i L.length with hi | hi
  · obtain ⟨x, hx⟩ : ∃ x, L[i]? = some x := ⟨_, List.getElem?_eq_getElem hi⟩
    by_cases h10 : x.1 = 10
    · exact (own_hole b T B lv L i k x w h hk hx h10 hsz hL).mono (by rintro e w' ⟨rfl, b⟩; exact ⟨⟨_, _, _, rfl, .inr ⟨rfl, rfl⟩⟩, b⟩)
    · exact (own_at b T B lv L i k x w h hk hx h10 hsz hL).mono (by rintro e w' ⟨rfl, b⟩; exact ⟨⟨_, _, _, rfl, .inl ⟨rfl, rfl⟩⟩, b⟩)
  · exact (own_out b T B lv L i k w h hk hi hsz hL).mono (by rintro e w' ⟨rfl, b⟩; exact ⟨⟨_, _, _, rfl, .inr ⟨rfl, rfl⟩⟩, b⟩)
theorem ArrS.setE {W0 w : World} {b T B g n cap i : Nat} {lv0 : Value} {L : List K3} (v : K3) (h : ArrS W0 w b T B lv0 (.slice (some ⟨g, 0, none⟩) n cap) L) (hn : L.length = n) (hi : i < n) :
    ArrS W0 (((w.setCell ⟨g, i * 3, none⟩ (.int .i64 v.1)).setCell ⟨g, i * 3 + 1, none⟩ (.int .i64 v.2.1)).setCell ⟨g, i * 3 + 2, none⟩ (.string v.2.2)) b T B lv0 (.slice (some ⟨g, 0, none⟩) n cap) (L.set i v) := by
  have hr := h.ar.row
  rw [hn] at hr
  have h3 := ((((hr.stored (i * 3) (.int .i64 v.1)).1.stored (i * 3 + 1) (.int .i64 v.2.1)).1).stored (i * 3 + 2) (.string v.2.2)).1
  rw [valsC_set, if_pos (by omega)] at h3
  have hb : b ≠ g := fun e => h.ar.far (by rw [e]; rfl)
  have hMg : (fun x => (x = b ∨ lv0.ownBlock = some x) ∨ W0.heap.size ≤ x) g := by
    rcases h.nw g rfl with e | e
    · exact .inl (.inr e)
    · exact .inr e
  refine ⟨⟨((h.ar.ob.far hb _).far hb _).far hb _, by rw [List.length_set, hn]; exact h3⟩, Upd.join h.up ((((Upd.refl w _).set g _ _ hMg).set g _ _ hMg).set g _ _ hMg), h.nw⟩
set_option maxRecDepth 100000 in
set_option maxHeartbeats 4000000 in
theorem define_idx (b T B i : Nat) (lv : Value) (L : List K3) (k v : K3) (w : World) (h : ArrE w b T B lv L) (hk : idxV 1 k = (i : Int)) (hsz : k.2.2.size ≤ 4000) (hL : L.length ≤ 1000) (hi9 : i < 1000) (hB : B ≤ w.heap.size) :
    Calls Tryd.prog 12 #[.pointer (some ⟨b, 0, none⟩), VK k, VK v, .int .i64 7] w fun e w' => e = .returned (.bool true) ∧ ∃ lv', ArrS w w' b T B lv lv' ((L ++ List.replicate (i + 1 - L.length) E0).set i v) := by
  obtain ⟨i0, hi, hz0, hz1, hz2⟩ := info_parts infoVal
  have H := Lib.hid h
  have hown := fun W (bw : Below w.heap.size w W) => own_place b T B i lv L k W (h.below bw) hk hsz hL
  have hidx := fun W (bw : Below w.heap.size w W) => hindex_any b T 1 0 false lv nilP nilP nilS 0 k W (h.below bw).ob hsz
  rw [hk] at hidx
  obtain ⟨k1, k2, k3⟩ := k
  obtain ⟨v1, v2, v3⟩ := v
  have HOI := Lib.hid (And.intro hown hidx)
  have hbl0 := h.ob.lt
  have hrlt := h.row.lt
  clear h hown hidx hk hsz
  have b1 : Below w.heap.size w ((w.alloc (.cells #[.int .i64 k1, .int .i64 k2, .string k3] 34)).alloc (.cells #[.int .i64 v1, .int .i64 v2, .string v3] 34)) := ((Below.refl _ _).alloc (Nat.le_refl _) _).alloc (by simp) _
  have kb : Blk ((w.alloc (.cells #[.int .i64 k1, .int .i64 k2, .string k3] 34)).alloc (.cells #[.int .i64 v1, .int .i64 v2, .string v3] 34)) w.heap.size 34 #[.int .i64 k1, .int .i64 k2, .string k3] := (Blk.new w _ _).alloc _
  have vb : Blk ((w.alloc (.cells #[.int .i64 k1, .int .i64 k2, .string k3] 34)).alloc (.cells #[.int .i64 v1, .int .i64 v2, .string v3] 34)) (w.heap.size + 1) 34 #[.int .i64 v1, .int .i64 v2, .string v3] := by
    have := Blk.new (w.alloc (.cells #[.int .i64 k1, .int .i64 k2, .string k3] 34)) 34 #[.int .i64 v1, .int .i64 v2, .string v3]
    rwa [World.size_alloc] at this
  have HB := Lib.hid (And.intro b1 (And.intro kb vb))
  clear b1 kb vb
  go_enter Tryd.func12, Tryd.ntmps12
  go_wp2_with (fail)
  refine (HOI.out.1 _ HB.out.1).mono ?_
  rintro e w2 ⟨⟨⟨g1, g2, g3⟩, gf, gb, rfl, hgb⟩, b2⟩
  obtain ⟨b1, kb, vb⟩ := HB.out
  have b02 := b1.trans (b2.mono b1.size)
  have kb2 := kb.below b2 kb.lt
  have vb2 := vb.below b2 vb.lt
  have o2 := H.out.below b02
  have p0 : w2.cell? ⟨w.heap.size, 0, none⟩ = some (.int .i64 k1) := by rw [kb2.cell]; rfl
  have p1 : w2.cell? ⟨w.heap.size, 1, none⟩ = some (.int .i64 k2) := by rw [kb2.cell]; rfl
  have p2 : w2.cell? ⟨w.heap.size, 2, none⟩ = some (.string k3) := by rw [kb2.cell]; rfl
  have o22 : w2.cell? ⟨b, 2, none⟩ = some (.bool false) := by rw [o2.ob.cell]; rfl
  have ol := o2.ob.lt
  have pl := kb2.lt
  have b3 := b02.alloc b02.size (.cells #[.int .i64 g1, .int .i64 g2, .string g3] 34)
  have HB2 := Lib.hid (And.intro b3 (vb2.alloc (.cells #[.int .i64 g1, .int .i64 g2, .string g3] 34)))
  clear b1 kb vb b2 b02 kb2 vb2 b3 HB o2

  rcases hgb with ⟨rfl, rfl⟩ | ⟨rfl, rfl⟩
  · have a0 : bits .and .i64 7 4 = 4 := by decide
    go_wp2_with (fail)
    refine (HOI.out.2 _ HB2.out.1).mono ?_
    rintro e w4 ⟨rfl, b4⟩
    obtain ⟨b3, vb3⟩ := HB2.out
    have b04 := b3.trans (b4.mono b3.size)
    have vb4 := vb3.below b4 vb3.lt
    have hS0 := ArrS.refl (H.out.below b04)
    have t1 : decide ((0 : Int) ≤ (i : Int)) = true := by simp
    have hpw : w.heap.size + 1 < w4.heap.size := vb4.lt
    have HB4 := Lib.hid (And.intro b04 (And.intro vb4 hS0))
    clear b3 vb3 b4 b04 vb4 HB2 HOI H hS0 p0 p1 p2 o22 ol pl
    generalize hp : w.heap.size = p at *
    have hBp : B ≤ p := hB
    clear hB
    go_wp2_with (fail)
    go_loopw [] (fun wr => ∃ (m : Nat) (lv' : Value), m ≤ i + 1 - L.length ∧ Hid (ArrS w4 wr b T B lv lv' (L ++ List.replicate m E0))) (fun wr => i + 1 - lenAt b wr)
    case atStart => exact ⟨0, lv, Nat.zero_le _, Lib.hid (by simpa using HB4.out.2.2)⟩
    case round =>
      obtain ⟨m, lv', hm, HS⟩ := hrel
      obtain ⟨n, hn⟩ : ∃ n, (L ++ List.replicate m E0).length = n := ⟨_, rfl⟩
      have hnm : L.length + m = n := by rw [← hn]; simp
      have hrow := HS.out.ar.row
      obtain ⟨la, lcap, rfl, hla⟩ := own_shape hrow
      have x4 : wr.cell? ⟨b, 4, none⟩ = some (.slice la n lcap) := by rw [HS.out.ar.ob.cell, ← hn]; rfl
      have z4 := HS.out.ar.ob.frozen 4
      have hbl := HS.out.ar.ob.lt
      have hlen := lenAt_of x4
      have HS1 : Hid (ArrS w4 wr b T B lv (.slice la n lcap) (L ++ List.replicate m E0)) := Lib.hid (by rw [← hn]; exact HS.out)
      clear HS
      rw [hn] at hrow
      by_cases hlt : n ≤ i
      · have t3 : decide ((n : Int) ≤ (i : Int)) = true := by simp; omega
        have hBw : B ≤ wr.heap.size := by have := HS1.out.up.size; omega
        have HR := Lib.hid (And.intro hn (And.intro hnm (And.intro hlen hrow)))
        clear hn hla hlen
        go_wp2_with (at_builtin; refine wpList_append_lies _ rfl _ _ 45 rfl B 34 i0 _ 3 32 Tryd.underlying45 hi hz0 hz1 hz2 rfl (by decide) _ _ _ rfl (hrow.alloc _) ⟨wr.heap.size, 0, none⟩ 1 1 [.int .i64 10, .int .i64 0, .string ⟨#[]⟩] rfl rfl (World.news_of_block (cs := #[.int .i64 10, .int .i64 0, .string ⟨#[]⟩]) (t := 34) (fr := (0, 0)) (heap_alloc_new wr _)) (by simp [Value.oneCell']) (by decide) (by unfold maxLen; omega) (by omega) (by simp; omega) _ rfl ?_)
        intro gg capg w8 hown8 hgrow8 hat8 hlt8
        have hS8 := HS1.out.more E0 HR.out.1 hgrow8 hown8 (hat8.imp id (fun e => by omega))
        have hb8 := (HS1.out.ar.ob.alloc _).grown hgrow8 (fun e => HS1.out.ar.far e.symm)
        have x8 : w8.cell? ⟨b, 4, none⟩ = some (.slice la n lcap) := by rw [hb8.cell]; rfl
        have z8 := hb8.frozen 4
        have l8 := hb8.lt
        have HF := Lib.hid hS8
        clear hS8 hb8 hown8 hgrow8 hat8 hlt8 HS1 hrow z4 x4
        go_wp2_with fail
        go_roundw
        case rel => exact ⟨m + 1, _, by omega, Lib.hid (by rw [List.replicate_succ', ← List.append_assoc]; exact HF.out)⟩
        case measure =>
          have h1 : lenAt b (w8.setCell ⟨b, 4, none⟩ (.slice (some ⟨gg, 0, none⟩) (n + 1) capg)) = n + 1 := lenAt_of (by rw [HF.out.ar.ob.cell]; rfl)
          rw [h1, HR.out.2.2.1]
          omega
      · have t3 : decide ((n : Int) ≤ (i : Int)) = false := by simp; omega
        obtain rfl : m = i + 1 - L.length := by omega
        obtain ⟨g, rfl⟩ := hla (by omega)
        have hcp := own_cap hrow
        have z0 : (0 : Int) ≤ (i : Int) := by omega
        have z1 : (i : Int) < (n : Int) := by omega
        have hne : p + 1 ≠ g := fun e => by
          rcases HS1.out.nw g rfl with h | h
          · have := (hrlt g h).2; omega
          · omega
        have hfin : ∀ W, W = wr.drewN 1 → ArrS w4 (((W.setCell ⟨g, i * 3, none⟩ (.int .i64 v1)).setCell ⟨g, i * 3 + 1, none⟩ (.int .i64 v2)).setCell ⟨g, i * 3 + 2, none⟩ (.string v3)) b T B lv (.slice (some ⟨g, 0, none⟩) n lcap) ((L ++ List.replicate (i + 1 - L.length) E0).set i (v1, v2, v3)) := by
          rintro W rfl
          exact (HS1.out.below (below_drw (Below.refl _ _) 1)).setE (v1, v2, v3) hn (by omega)
        have hx : ∀ W, W = wr.drewN 1 → Blk W b 51 (objA 1 0 false T (.slice (some ⟨g, 0, none⟩) n lcap) nilP nilP nilS 0) ∧ Blk W (p + 1) 34 #[.int .i64 v1, .int .i64 v2, .string v3] ∧ W.ownsRow B 34 3 (.slice (some ⟨g, 0, none⟩) n lcap) n (valsC (L ++ List.replicate (i + 1 - L.length) E0)) := by
          rintro W rfl
          refine ⟨HS1.out.ar.ob, ?_, hrow⟩
          exact HS1.out.up.blk HB4.out.2.1 (fun e => e.elim (fun e => by omega) (fun e => by have := (hrlt _ e).2; omega))
        have HF := Lib.hid hfin
        have HX2 := Lib.hid hx
        have hlv : (valsC (L ++ List.replicate (i + 1 - L.length) E0)).length = n * 3 := by rw [valsC_length, hn]
        clear hfin hx z4 hlen hrow hla hcp HS1
        go_upto_region 12 with fail
        clear x4 hbl
        refine still_tail 7 (by kernel_rfl) (by kernel_rfl) (fun W2 hW2 => ?_)
        obtain ⟨hb2, hv2, hr2⟩ := HX2.out W2 hW2
        have HR := Lib.hid (HF.out W2 hW2)
        have x2 : W2.cell? ⟨b, 4, none⟩ = some (.slice (some ⟨g, 0, none⟩) n lcap) := by rw [hb2.cell]; rfl
        have l2 := hb2.lt
        have q0 : W2.cell? ⟨p + 1, 0, none⟩ = some (.int .i64 v1) := by rw [hv2.cell]; rfl
        have q1 : W2.cell? ⟨p + 1, 1, none⟩ = some (.int .i64 v2) := by rw [hv2.cell]; rfl
        have q2 : W2.cell? ⟨p + 1, 2, none⟩ = some (.string v3) := by rw [hv2.cell]; rfl
        obtain ⟨u0, e0⟩ : ∃ u, W2.cell? ⟨g, i * 3, none⟩ = some u := ⟨_, (hr2.cellAt (i * 3) (by omega)).trans (List.getElem?_eq_getElem (by rw [hlv]; omega))⟩
        obtain ⟨u1, e1⟩ : ∃ u, W2.cell? ⟨g, i * 3 + 1, none⟩ = some u := ⟨_, (hr2.cellAt (i * 3 + 1) (by omega)).trans (List.getElem?_eq_getElem (by rw [hlv]; omega))⟩
        obtain ⟨u2, e2⟩ : ∃ u, W2.cell? ⟨g, i * 3 + 2, none⟩ = some u := ⟨_, (hr2.cellAt (i * 3 + 2) (by omega)).trans (List.getElem?_eq_getElem (by rw [hlv]; omega))⟩
        have f0 := hr2.frozenAt (i * 3)
        have f1 := hr2.frozenAt (i * 3 + 1)
        have f2 := hr2.frozenAt (i * 3 + 2)
        have lg := World.block_lt_of_cell? W2 _ e0
        have HBB := Lib.hid HB4.out.1
        have HPP := Lib.hid hp
        clear hW2 hb2 hv2 hr2 HX2 HF hlv HB4 hp
        simp only [List.take_succ_cons, List.take_zero, List.drop_succ_cons, List.drop_zero]
        repeat still_step
        refine wpStill_nil ?_
        go_wp2
        go_ret
        exact ⟨rfl, _, HR.out.from (by rw [HPP.out]; exact HBB.out)⟩
  ·
    go_wp2_with (fail)
    refine (HOI.out.2 _ HB2.out.1).mono ?_
    rintro e w4 ⟨rfl, b4⟩
    obtain ⟨b3, vb3⟩ := HB2.out
    have b04 := b3.trans (b4.mono b3.size)
    have vb4 := vb3.below b4 vb3.lt
    have hS0 := ArrS.refl (H.out.below b04)
    have t1 : decide ((0 : Int) ≤ (i : Int)) = true := by simp
    have hpw : w.heap.size + 1 < w4.heap.size := vb4.lt
    have HB4 := Lib.hid (And.intro b04 (And.intro vb4 hS0))
    clear b3 vb3 b4 b04 vb4 HB2 HOI H hS0 p0 p1 p2 o22 ol pl
    generalize hp : w.heap.size = p at *
    have hBp : B ≤ p := hB
    clear hB
    go_wp2_with (fail)
    go_loopw [] (fun wr => ∃ (m : Nat) (lv' : Value), m ≤ i + 1 - L.length ∧ Hid (ArrS w4 wr b T B lv lv' (L ++ List.replicate m E0))) (fun wr => i + 1 - lenAt b wr)
    case atStart => exact ⟨0, lv, Nat.zero_le _, Lib.hid (by simpa using HB4.out.2.2)⟩
    case round =>
      obtain ⟨m, lv', hm, HS⟩ := hrel
      obtain ⟨n, hn⟩ : ∃ n, (L ++ List.replicate m E0).length = n := ⟨_, rfl⟩
      have hnm : L.length + m = n := by rw [← hn]; simp
      have hrow := HS.out.ar.row
      obtain ⟨la, lcap, rfl, hla⟩ := own_shape hrow
      have x4 : wr.cell? ⟨b, 4, none⟩ = some (.slice la n lcap) := by rw [HS.out.ar.ob.cell, ← hn]; rfl
      have z4 := HS.out.ar.ob.frozen 4
      have hbl := HS.out.ar.ob.lt
      have hlen := lenAt_of x4
      have HS1 : Hid (ArrS w4 wr b T B lv (.slice la n lcap) (L ++ List.replicate m E0)) := Lib.hid (by rw [← hn]; exact HS.out)
      clear HS
      rw [hn] at hrow
      by_cases hlt : n ≤ i
      · have t3 : decide ((n : Int) ≤ (i : Int)) = true := by simp; omega
        have hBw : B ≤ wr.heap.size := by have := HS1.out.up.size; omega
        have HR := Lib.hid (And.intro hn (And.intro hnm (And.intro hlen hrow)))
        clear hn hla hlen
        go_wp2_with (at_builtin; refine wpList_append_lies _ rfl _ _ 45 rfl B 34 i0 _ 3 32 Tryd.underlying45 hi hz0 hz1 hz2 rfl (by decide) _ _ _ rfl (hrow.alloc _) ⟨wr.heap.size, 0, none⟩ 1 1 [.int .i64 10, .int .i64 0, .string ⟨#[]⟩] rfl rfl (World.news_of_block (cs := #[.int .i64 10, .int .i64 0, .string ⟨#[]⟩]) (t := 34) (fr := (0, 0)) (heap_alloc_new wr _)) (by simp [Value.oneCell']) (by decide) (by unfold maxLen; omega) (by omega) (by simp; omega) _ rfl ?_)
        intro gg capg w8 hown8 hgrow8 hat8 hlt8
        have hS8 := HS1.out.more E0 HR.out.1 hgrow8 hown8 (hat8.imp id (fun e => by omega))
        have hb8 := (HS1.out.ar.ob.alloc _).grown hgrow8 (fun e => HS1.out.ar.far e.symm)
        have x8 : w8.cell? ⟨b, 4, none⟩ = some (.slice la n lcap) := by rw [hb8.cell]; rfl
        have z8 := hb8.frozen 4
        have l8 := hb8.lt
        have HF := Lib.hid hS8
        clear hS8 hb8 hown8 hgrow8 hat8 hlt8 HS1 hrow z4 x4
        go_wp2_with fail
        go_roundw
        case rel => exact ⟨m + 1, _, by omega, Lib.hid (by rw [List.replicate_succ', ← List.append_assoc]; exact HF.out)⟩
        case measure =>
          have h1 : lenAt b (w8.setCell ⟨b, 4, none⟩ (.slice (some ⟨gg, 0, none⟩) (n + 1) capg)) = n + 1 := lenAt_of (by rw [HF.out.ar.ob.cell]; rfl)
          rw [h1, HR.out.2.2.1]
          omega
      · have t3 : decide ((n : Int) ≤ (i : Int)) = false := by simp; omega
        obtain rfl : m = i + 1 - L.length := by omega
        obtain ⟨g, rfl⟩ := hla (by omega)
        have hcp := own_cap hrow
        have z0 : (0 : Int) ≤ (i : Int) := by omega
        have z1 : (i : Int) < (n : Int) := by omega
        have hne : p + 1 ≠ g := fun e => by
          rcases HS1.out.nw g rfl with h | h
          · have := (hrlt g h).2; omega
          · omega
        have hfin : ∀ W, W = wr.drewN 1 → ArrS w4 (((W.setCell ⟨g, i * 3, none⟩ (.int .i64 v1)).setCell ⟨g, i * 3 + 1, none⟩ (.int .i64 v2)).setCell ⟨g, i * 3 + 2, none⟩ (.string v3)) b T B lv (.slice (some ⟨g, 0, none⟩) n lcap) ((L ++ List.replicate (i + 1 - L.length) E0).set i (v1, v2, v3)) := by
          rintro W rfl
          exact (HS1.out.below (below_drw (Below.refl _ _) 1)).setE (v1, v2, v3) hn (by omega)
        have hx : ∀ W, W = wr.drewN 1 → Blk W b 51 (objA 1 0 false T (.slice (some ⟨g, 0, none⟩) n lcap) nilP nilP nilS 0) ∧ Blk W (p + 1) 34 #[.int .i64 v1, .int .i64 v2, .string v3] ∧ W.ownsRow B 34 3 (.slice (some ⟨g, 0, none⟩) n lcap) n (valsC (L ++ List.replicate (i + 1 - L.length) E0)) := by
          rintro W rfl
          refine ⟨HS1.out.ar.ob, ?_, hrow⟩
          exact HS1.out.up.blk HB4.out.2.1 (fun e => e.elim (fun e => by omega) (fun e => by have := (hrlt _ e).2; omega))
        have HF := Lib.hid hfin
        have HX2 := Lib.hid hx
        have hlv : (valsC (L ++ List.replicate (i + 1 - L.length) E0)).length = n * 3 := by rw [valsC_length, hn]
        clear hfin hx z4 hlen hrow hla hcp HS1
        go_upto_region 12 with fail
        clear x4 hbl
        refine still_tail 7 (by kernel_rfl) (by kernel_rfl) (fun W2 hW2 => ?_)
        obtain ⟨hb2, hv2, hr2⟩ := HX2.out W2 hW2
        have HR := Lib.hid (HF.out W2 hW2)
        have x2 : W2.cell? ⟨b, 4, none⟩ = some (.slice (some ⟨g, 0, none⟩) n lcap) := by rw [hb2.cell]; rfl
        have l2 := hb2.lt
        have q0 : W2.cell? ⟨p + 1, 0, none⟩ = some (.int .i64 v1) := by rw [hv2.cell]; rfl
        have q1 : W2.cell? ⟨p + 1, 1, none⟩ = some (.int .i64 v2) := by rw [hv2.cell]; rfl
        have q2 : W2.cell? ⟨p + 1, 2, none⟩ = some (.string v3) := by rw [hv2.cell]; rfl
        obtain ⟨u0, e0⟩ : ∃ u, W2.cell? ⟨g, i * 3, none⟩ = some u := ⟨_, (hr2.cellAt (i * 3) (by omega)).trans (List.getElem?_eq_getElem (by rw [hlv]; omega))⟩
        obtain ⟨u1, e1⟩ : ∃ u, W2.cell? ⟨g, i * 3 + 1, none⟩ = some u := ⟨_, (hr2.cellAt (i * 3 + 1) (by omega)).trans (List.getElem?_eq_getElem (by rw [hlv]; omega))⟩
        obtain ⟨u2, e2⟩ : ∃ u, W2.cell? ⟨g, i * 3 + 2, none⟩ = some u := ⟨_, (hr2.cellAt (i * 3 + 2) (by omega)).trans (List.getElem?_eq_getElem (by rw [hlv]; omega))⟩
        have f0 := hr2.frozenAt (i * 3)
        have f1 := hr2.frozenAt (i * 3 + 1)
        have f2 := hr2.frozenAt (i * 3 + 2)
        have lg := World.block_lt_of_cell? W2 _ e0
        have HBB := Lib.hid HB4.out.1
        have HPP := Lib.hid hp
        clear hW2 hb2 hv2 hr2 HX2 HF hlv HB4 hp
        simp only [List.take_succ_cons, List.take_zero, List.drop_succ_cons, List.drop_zero]
        repeat still_step
        refine wpStill_nil ?_
        go_wp2
        go_ret
        exact ⟨rfl, _, HR.out.from (by rw [HPP.out]; exact HBB.out)⟩
end Go.Proofs.YtmimnaaofpkndaaDoor.Hp
