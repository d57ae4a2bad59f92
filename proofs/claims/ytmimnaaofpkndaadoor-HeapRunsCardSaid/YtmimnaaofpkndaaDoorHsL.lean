/- HsL: several texts in one. -/
import Derived.Test.YtmimnaaofpkndaaDoorHsH
import Derived.StillTailTactics
/- HeapRuns: the document's elements: one more, one set. -/
set_option linter.unusedVariables false
set_option linter.unusedSimpArgs false
namespace Go.Proofs.YtmimnaaofpkndaaDoor.Hp
open Go.RowKit Go.Proofs.YtmimnaaofpkndaaDoor Go.Shelf Go.Sort
attribute [local go_sem] Oper.semAt_some
/-- The document's elements on their way. -/
structure ROS (o : PO) (q : Nat) (pv ev : Value) (W0 : World) (ev' : Value) (L : List K3) (w : World) : Prop where
  ro : RO { o with L := L } q pv ev' w
  up : Upd W0 w (roB q pv ev)
  nw : ∀ g, ev'.ownBlock = some g → ev.ownBlock = some g ∨ W0.heap.size ≤ g
theorem LeftR.of' {o o' : PO} {q : Nat} {pv ev pv' ev' : Value} {w W W' : World} (hb : Below w.heap.size w W) (u : Upd W W' (roB q pv ev)) (h : RO o' q pv' ev' W') (hn : ∀ k, roB q pv' ev' k → roB q pv ev k ∨ W.heap.size ≤ k) : LeftR o q pv ev w o' W' :=
  ⟨(Upd.of_below_all (M := roB q pv ev) hb).trans u, pv', ev', h, fun k hk => (hn k hk).imp id (fun e => Nat.le_trans hb.size e)⟩
section
variable {o : PO} {q : Nat} {pv ev ev' : Value} {W0 w w' w1 : World} {L : List K3}
theorem ROS.refl (h : RO o q pv ev w) : ROS o q pv ev w ev o.L w := ⟨h, Upd.refl _ _, fun g hg => .inl hg⟩
theorem ROS.below (h : ROS o q pv ev W0 ev' L w) (u : Below w.heap.size w w') : ROS o q pv ev W0 ev' L w' := ⟨h.ro.below u, h.up.then_below u, h.nw⟩
theorem ROS.np (h : ROS o q pv ev W0 ev' L w) (hp : ∀ g, pv.ownBlock = some g → g < W0.heap.size) (g : Nat) (hg : ev'.ownBlock = some g) : pv.ownBlock ≠ some g := fun e => h.ro.sep g e hg
theorem ROS.more {g cap n : Nat} {ob : Obj} (k : K3) (h : ROS o q pv ev W0 ev' L w) (hn : L.length = n) (hp : ∀ g, pv.ownBlock = some g → g < W0.heap.size) (hsz : W0.heap.size ≤ w.heap.size) (hg : (w.alloc ob).grownBy w1 ev'.ownBlock)
    (hown : w1.ownsRow 1 34 3 (.slice (some ⟨g, 0, none⟩) (n + 1) cap) (n + 1) (valsC L ++ [.int .i64 k.1, .int .i64 k.2.1, .string k.2.2])) (hat : ev'.ownBlock = some g ∨ w.heap.size ≤ g) :
    ROS o q pv ev W0 (.slice (some ⟨g, 0, none⟩) (n + 1) cap) (L ++ [k]) (w1.setCell ⟨q, 5, none⟩ (.slice (some ⟨g, 0, none⟩) (n + 1) cap)) := by
  have hb := (h.ro.ob.alloc ob).grown hg (fun e => h.ro.ne e.symm)
  have u : Upd w (w1.setCell ⟨q, 5, none⟩ (.slice (some ⟨g, 0, none⟩) (n + 1) cap)) (fun k => k = q ∨ ev'.ownBlock = some k) := (((Upd.refl w _).alloc ob).grown hg (fun k e => .inr e)).set q 5 _ (.inl rfl)
  refine ⟨⟨hb.set_ 5 _, u.own h.ro.rp (fun k hk e => ?_), ?_, fun g' hg' e => ?_⟩, ?_, fun g' hg' => ?_⟩
  · rcases e with e | e
    · subst e; exact h.ro.np hk
    · exact h.ro.sep k hk e
  · have h2 := own_set hown hb (by decide) 5 (.slice (some ⟨g, 0, none⟩) (n + 1) cap)
    show World.ownsRow _ 1 _ 3 _ (L ++ [k]).length (valsC (L ++ [k]))
    rw [List.length_append, hn, show valsC (L ++ [k]) = valsC L ++ [.int .i64 k.1, .int .i64 k.2.1, .string k.2.2] by simp [valsC]]
    exact h2
  · obtain rfl : g = g' := by simpa [Value.ownBlock] using e
    rcases hat with e2 | e2
    · exact h.ro.sep g hg' e2
    · have := hp g hg'; omega
  · refine Upd.join h.up (u.mono (fun k _ e => ?_))
    rcases e with e | e
    · exact .inl (.inl e)
    · exact (h.nw k e).imp (fun e => .inr (.inr e)) id
  · obtain rfl : g = g' := by simpa [Value.ownBlock] using hg'
    rcases hat with e2 | e2
    · exact h.nw g e2
    · exact .inr (Nat.le_trans hsz e2)
theorem ROS.setE {g n cap i : Nat} (v : K3) (h : ROS o q pv ev W0 (.slice (some ⟨g, 0, none⟩) n cap) L w) (hn : L.length = n) (hi : i < n) :
    ROS o q pv ev W0 (.slice (some ⟨g, 0, none⟩) n cap) (L.set i v) (((w.setCell ⟨g, i * 3, none⟩ (.int .i64 v.1)).setCell ⟨g, i * 3 + 1, none⟩ (.int .i64 v.2.1)).setCell ⟨g, i * 3 + 2, none⟩ (.string v.2.2)) := by
  have hr : w.ownsRow 1 34 3 (.slice (some ⟨g, 0, none⟩) n cap) L.length (valsC L) := h.ro.re
  rw [hn] at hr
  have h3 := ((((hr.stored (i * 3) (.int .i64 v.1)).1.stored (i * 3 + 1) (.int .i64 v.2.1)).1).stored (i * 3 + 2) (.string v.2.2)).1
  rw [valsC_set, if_pos (by omega)] at h3
  have hb : q ≠ g := fun e => h.ro.ne (by rw [e]; rfl)
  have u : Upd w (((w.setCell ⟨g, i * 3, none⟩ (.int .i64 v.1)).setCell ⟨g, i * 3 + 1, none⟩ (.int .i64 v.2.1)).setCell ⟨g, i * 3 + 2, none⟩ (.string v.2.2)) (fun k => k = g) := (((Upd.refl w (fun k => k = g)).set g _ _ rfl).set g _ _ rfl).set g _ _ rfl
  refine ⟨⟨((h.ro.ob.far hb _).far hb _).far hb _, u.own h.ro.rp (fun k hk e => h.ro.sep k hk (by rw [e]; rfl)), ?_, h.ro.sep⟩, Upd.join h.up (u.mono (fun k _ e => ?_)), h.nw⟩
  · show World.ownsRow _ 1 _ 3 _ (L.set i v).length (valsC (L.set i v))
    rw [List.length_set, hn]; exact h3
  · rw [e]
    exact (h.nw g rfl).imp (fun e => .inr (.inr e)) id
theorem ROS.left {L' : List K3} (hb : Below w.heap.size w W0) (h : ROS o q pv ev W0 ev' L' w') : LeftR o q pv ev w { o with L := L' } w' :=
  LeftR.of' hb h.up h.ro (fun k hk => by
    rcases hk with e | e | e
    · exact .inl (.inl e)
    · exact .inl (.inr (.inl e))
    · exact (h.nw k e).imp (fun e => .inr (.inr e)) id)
end
def lenR (q : Nat) (w : World) : Nat := match w.cell? ⟨q, 5, none⟩ with
  | some (.slice _ n _) => n
  | _ => 0
theorem lenR_of {q n : Nat} {w : World} {a : Option Addr} {cap : Nat} (h : w.cell? ⟨q, 5, none⟩ = some (.slice a n cap)) : lenR q w = n := by unfold lenR; rw [h]
end Go.Proofs.YtmimnaaofpkndaaDoor.Hp

/- HeapRuns: the document's Define, of a place of an array. -/
set_option linter.unusedVariables false
set_option linter.unusedSimpArgs false
namespace Go.Proofs.YtmimnaaofpkndaaDoor.Hp
open Go.RowKit Go.Proofs.YtmimnaaofpkndaaDoor Go.Shelf Go.Sort
attribute [local go_sem] Oper.semAt_some
set_option maxRecDepth 100000 in
set_option maxHeartbeats 16000000 in
/-- Define, of a place of an array. -/
theorem rdefine_plc {o : PO} {q : Nat} {pv ev : Value} {w : World} {k v : K3} {f : Int} (h : RO o q pv ev w) (hO : o.Ok) (hk : KS k) (hG : LG w) (hA : o.A.length ≤ 4000) (hf0 : 0 ≤ f) (hf1 : f < 16) (i : Nat) (hno : (((!(o.own k).2.2) && o.clo) || ((o.own k).2.2 && refuse (o.own k).2.1 f)) = false) (ha : o.arr = true) (hp : plcV k = (i : Int)) (hi13 : i < 13) :
    Calls Tryd.prog 60 #[.pointer (some ⟨q, 0, none⟩), VK k, VK v, .int .i64 f] w fun e w' => (f = 7 ∧ e = .returned (.bool true) ∧ LeftR o q pv ev w { o with L := (o.L ++ List.replicate (i + 1 - o.L.length) E0).set i v } w') ∨ (f ≠ 7 ∧ e = .returned (.bool false) ∧ Below w.heap.size w w') := by
  obtain ⟨i0, hi, hz0, hz1, hz2⟩ := info_parts infoVal
  have HZ := Lib.hid (And.intro hi (And.intro hz0 (And.intro hz1 hz2)))
  have HNO := Lib.hid hno
  have HA := Lib.hid (And.intro ha hp)
  have hL := hO.le
  clear hno ha hp hi hz0 hz1 hz2
  have HRO := Lib.hid (And.intro h (And.intro hO (And.intro hk (And.intro hG (And.intro hA (And.intro hf0 hf1))))))
  obtain ⟨gv, gf, gb, hg⟩ : ∃ (gv : K3) (gf : Int) (gb : Bool), o.own k = (gv, gf, gb) := ⟨_, _, _, rfl⟩
  obtain ⟨⟨r1, r2, r3⟩, hrk⟩ : ∃ x, rkey o k = x := ⟨_, rfl⟩
  obtain ⟨g1, g2, g3⟩ := gv
  have hown : ∀ W, Below w.heap.size w W → Calls Tryd.prog 62 #[.pointer (some ⟨q, 0, none⟩), VK k] W fun e w' => e = .returned (.tuple #[PV (r1, r2, r3) (g1, g2, g3) gf, .bool gb]) ∧ Below W.heap.size W w' := fun W bW => by
    have := rown_any (HRO.out.1.below bW) HRO.out.2.1 HRO.out.2.2.1 (HRO.out.2.2.2.1.below bW) HRO.out.2.2.2.2.1
    rw [hg, hrk] at this
    exact this
  have HOW := Lib.hid hown
  have HG := Lib.hid hg
  have hgf := own_flags hO k
  rw [hg] at hgf
  have HGF := Lib.hid (refuse_ref hgf.1 hgf.2 hf0 hf1)
  obtain ⟨k1, k2, k3⟩ := k
  obtain ⟨v1, v2, v3⟩ := v
  have HB := Lib.hid (two_boxes w k1 k2 k3 v1 v2 v3)
  clear h hO hk hG hown hg hA hf0 hf1 hrk hgf
  go_enter Tryd.func60, Tryd.ntmps60
  go_wp2_with (fail)
  refine (HOW.out _ HB.out.1).mono ?_
  rintro e w2 ⟨rfl, b2⟩
  obtain ⟨b1, kb, vb⟩ := HB.out
  have b23 : Below w2.heap.size w2 (w2.alloc (.cells #[.int .i64 r1, .int .i64 r2, .string r3, .int .i64 g1, .int .i64 g2, .string g3, .int .i64 gf] 127)) := (Below.refl _ _).alloc (Nat.le_refl _) _
  have HB3 := Lib.hid (And.intro ((b1.trans (b2.mono b1.size)).trans (b23.mono (Nat.le_trans b1.size b2.size))) (And.intro ((kb.below b2 kb.lt).below b23 (Nat.lt_of_lt_of_le kb.lt b2.size)) (And.intro ((vb.below b2 vb.lt).below b23 (Nat.lt_of_lt_of_le vb.lt b2.size)) (Blk.new w2 127 #[.int .i64 r1, .int .i64 r2, .string r3, .int .i64 g1, .int .i64 g2, .string g3, .int .i64 gf]))))
  clear b1 kb vb b2 b23 HB HOW
  go_upto_region 2 with fail
  generalize (w2.alloc (.cells #[.int .i64 r1, .int .i64 r2, .string r3, .int .i64 g1, .int .i64 g2, .string g3, .int .i64 gf] 127)) = w3 at *
  generalize w2.heap.size = q2 at *
  have c2 : w3.cell? ⟨q, 1, none⟩ = some (.bool o.clo) := by rw [(HRO.out.1.below HB3.out.1).ob.cell]; rfl
  have lo := (HRO.out.1.below HB3.out.1).ob.lt
  have cf : w3.cell? ⟨q2, 6, none⟩ = some (.int .i64 gf) := by rw [HB3.out.2.2.2.cell]; rfl
  have lf := HB3.out.2.2.2.lt
  obtain ⟨cl, hcl⟩ : ∃ c, o.clo = c := ⟨_, rfl⟩
  rw [hcl] at c2
  have HCL := Lib.hid hcl
  clear hcl
  go_cut [28] (fun s28 wx => s28 = .bool (!gb && cl) ∧ w3 = wx)
  case first =>
    cases gb with
    | true =>
      go_wp2_with fail
      go_meet
      exact ⟨rfl, rfl⟩
    | false =>
      go_wp2_with fail
      go_meet
      exact ⟨rfl, rfl⟩
  case rest =>
  obtain ⟨rfl, rfl⟩ := hcut
  have hno := HNO.out
  rw [HG.out, HCL.out] at hno
  dsimp only at hno
  have hx : (!gb && cl) = false := by cases gb <;> cases cl <;> simp at hno ⊢
  have HNN := Lib.hid hno
  clear hno HNO c2
  rw [hx]
  clear hx
  obtain ⟨c1, hc1⟩ : ∃ c, (bits .and .i64 gf 4 == 0) = c := ⟨_, rfl⟩
  obtain ⟨c2', hc2⟩ : ∃ c, (bits .and .i64 gf 1 == 0) = c := ⟨_, rfl⟩
  obtain ⟨c3, hc3⟩ : ∃ c, (bits .or .i64 f 1 != bits .or .i64 gf 1) = c := ⟨_, rfl⟩
  have hrf : refuse gf f = (c1 && (c2' || c3)) := by rw [HGF.out]; unfold refuseR; rw [hc1, hc2, hc3]
  have HRF := Lib.hid hrf
  clear hrf
  go_upto_region 4 with fail
  go_cut [35] (fun s35 wx => s35 = .bool (gb && c1) ∧ w3 = wx)
  case first =>
    clear hc2 hc3
    cases gb with
    | false =>
      clear hc1
      go_wp2_with fail
      go_meet
      exact ⟨rfl, rfl⟩
    | true =>
      go_wp2_with fail
      go_meet
      exact ⟨rfl, rfl⟩
  case rest =>
  obtain ⟨rfl, rfl⟩ := hcut
  clear hc1
  have hy2 : (gb && c1) = false ∨ ((gb && c1) = true ∧ c2' = false ∧ c3 = false) := by
    have := HNN.out
    rw [HRF.out] at this
    cases gb <;> cases c1 <;> simp at this ⊢
    exact this
  clear HNN HRF
  obtain ⟨pl, hpl⟩ : ∃ x, plcV (k1, k2, k3) = x := ⟨_, rfl⟩
  have hP : ∀ W, Calls Tryd.prog 72 #[VK (k1, k2, k3)] W fun e w' => e = .returned (.int .i64 pl) ∧ Below W.heap.size W w' := fun W => by
    have := place_any HRO.out.2.2.1 W
    rwa [hpl] at this
  have HP := Lib.hid hP
  have HPL := Lib.hid hpl
  clear hP hpl
  have p0 : w3.cell? ⟨w.heap.size, 0, none⟩ = some (.int .i64 k1) := by rw [HB3.out.2.1.cell]; rfl
  have p1 : w3.cell? ⟨w.heap.size, 1, none⟩ = some (.int .i64 k2) := by rw [HB3.out.2.1.cell]; rfl
  have p2 : w3.cell? ⟨w.heap.size, 2, none⟩ = some (.string k3) := by rw [HB3.out.2.1.cell]; rfl
  have lk := HB3.out.2.1.lt
  rcases hy2 with hy2 | ⟨hy2, rfl, rfl⟩
  ·
    rw [hy2]
    clear hy2
    go_upto_region 7 with fail
    go_wp2_with fail
    refine (HP.out w3).mono ?_
    rintro e w4 ⟨rfl, b4⟩
    have HB4 := Lib.hid (And.intro (HB3.out.1.trans (b4.mono HB3.out.1.size)) (And.intro (HB3.out.2.1.below b4 HB3.out.2.1.lt) (HB3.out.2.2.1.below b4 HB3.out.2.2.1.lt)))
    clear HB3 b4 HP p0 p1 p2 lk lo cf lf
    try clear hc2 hc3
    go_upto_region 8 with fail
    have hR := HRO.out.1.below HB4.out.1
    obtain ⟨ar, har⟩ : ∃ a, o.arr = a := ⟨_, rfl⟩
    have x0 : w4.cell? ⟨q, 0, none⟩ = some (.bool ar) := by rw [hR.ob.cell, ← har]; rfl
    have lo := hR.ob.lt
    have HR := Lib.hid hR
    have HAR := Lib.hid har
    clear hR har
    obtain rfl : (i : Int) = pl := by rw [← HPL.out]; exact HA.out.2.symm
    obtain rfl : true = ar := by rw [← HAR.out]; exact HA.out.1.symm
    have t1 : decide ((0 : Int) ≤ (i : Int)) = true := by simp
    by_cases h7 : f = 7
    · obtain rfl := h7
      have hS0 := ROS.refl HR.out
      obtain ⟨b04, _, vb4⟩ := HB4.out
      have hpw : w.heap.size + 1 < w4.heap.size := vb4.lt
      have hplt : ∀ g, pv.ownBlock = some g → g < w4.heap.size := fun g hg => (HR.out.rp.lt g hg).2
      have HRP := Lib.hid (fun (g : Nat) (hg : pv.ownBlock = some g) => (HRO.out.1.rp.lt g hg).2)
      have helt : ∀ g, ev.ownBlock = some g → g < w.heap.size := fun g hg => (HRO.out.1.re.lt g hg).2
      have hqlt : q < w.heap.size := HRO.out.1.ob.lt
      have HS0 := Lib.hid hS0
      obtain ⟨hi, hz0, hz1, hz2⟩ := HZ.out
      have HB5 := Lib.hid (And.intro b04 vb4)
      clear vb4 HB4 hS0 HZ b04 HR HPL HAR HRO HG HGF HCL HA lo
      generalize hp : w.heap.size = p at *
      go_wp2_with (fail)
      clear x0
      go_loopw [] (fun wr => ∃ (m : Nat) (ev' : Value), m ≤ i + 1 - o.L.length ∧ Hid (ROS o q pv ev w4 ev' (o.L ++ List.replicate m E0) wr)) (fun wr => i + 1 - lenR q wr)
      case atStart => exact ⟨0, ev, Nat.zero_le _, Lib.hid (by simpa using HS0.out)⟩
      case round =>
        obtain ⟨m, ev', hm, HS⟩ := hrel
        obtain ⟨n, hn⟩ : ∃ n, (o.L ++ List.replicate m E0).length = n := ⟨_, rfl⟩
        have hnm : o.L.length + m = n := by rw [← hn]; simp
        have hrow : wr.ownsRow 1 34 3 ev' (o.L ++ List.replicate m E0).length (valsC (o.L ++ List.replicate m E0)) := HS.out.ro.re
        obtain ⟨la, lcap, rfl, hla⟩ := own_shape hrow
        have x5 : wr.cell? ⟨q, 5, none⟩ = some (.slice la n lcap) := by rw [HS.out.ro.ob.cell, ← hn]; rfl
        have z5 := HS.out.ro.ob.frozen 5
        have hbl := HS.out.ro.ob.lt
        have hlen := lenR_of x5
        have HS1 : Hid (ROS o q pv ev w4 (.slice la n lcap) (o.L ++ List.replicate m E0) wr) := Lib.hid (by rw [← hn]; exact HS.out)
        clear HS
        rw [hn] at hrow
        by_cases hlt : n ≤ i
        · have t3 : decide ((n : Int) ≤ (i : Int)) = true := by simp; omega
          have hsz := HS1.out.up.size
          have HRW := Lib.hid (And.intro hn (And.intro hnm (And.intro hlen hrow)))
          clear hn hla hlen
          go_wp2_with (at_builtin; refine wpList_append_lies _ rfl _ _ 45 rfl 1 34 i0 _ 3 32 Tryd.underlying45 hi hz0 hz1 hz2 rfl (by decide) _ _ _ rfl (hrow.alloc _) ⟨wr.heap.size, 0, none⟩ 1 1 [.int .i64 10, .int .i64 0, .string ⟨#[]⟩] rfl rfl (World.news_of_block (cs := #[.int .i64 10, .int .i64 0, .string ⟨#[]⟩]) (t := 34) (fr := (0, 0)) (heap_alloc_new wr _)) (by simp [Value.oneCell']) (by decide) (by unfold maxLen; omega) (by omega) (by first | (simp; done) | (simp; omega)) _ rfl ?_)
          intro gg capg w8 hown8 hgrow8 hat8 hlt8
          have hS8 := HS1.out.more E0 HRW.out.1 hplt hsz hgrow8 hown8 (hat8.imp id (fun e => by omega))
          have hb8 := (HS1.out.ro.ob.alloc _).grown hgrow8 (fun e => HS1.out.ro.ne e.symm)
          have x8 : w8.cell? ⟨q, 5, none⟩ = some (.slice la n lcap) := by rw [hb8.cell]; rfl
          have z8 := hb8.frozen 5
          have l8 := hb8.lt
          have HF := Lib.hid hS8
          clear hS8 hb8 hown8 hgrow8 hat8 hlt8 HS1 hrow z5 x5
          go_wp2_with fail
          go_roundw
          case rel => exact ⟨m + 1, _, by omega, Lib.hid (by rw [List.replicate_succ', ← List.append_assoc]; exact HF.out)⟩
          case measure =>
            have h1 : lenR q (w8.setCell ⟨q, 5, none⟩ (.slice (some ⟨gg, 0, none⟩) (n + 1) capg)) = n + 1 := lenR_of (by rw [HF.out.ro.ob.cell]; rfl)
            rw [h1, HRW.out.2.2.1]
            omega
        · have t3 : decide ((n : Int) ≤ (i : Int)) = false := by simp; omega
          obtain rfl : m = i + 1 - o.L.length := by omega
          obtain ⟨g, rfl⟩ := hla (by omega)
          have z0 : (0 : Int) ≤ (i : Int) := by omega
          have z1 : (i : Int) < (n : Int) := by omega
          have hne : p + 1 ≠ g := fun e => by
            rcases HS1.out.nw g rfl with h | h
            · have := helt g h; omega
            · omega
          have hfin : ∀ W, W = wr.drewN 1 → ROS o q pv ev w4 (.slice (some ⟨g, 0, none⟩) n lcap) ((o.L ++ List.replicate (i + 1 - o.L.length) E0).set i (v1, v2, v3)) (((W.setCell ⟨g, i * 3, none⟩ (.int .i64 v1)).setCell ⟨g, i * 3 + 1, none⟩ (.int .i64 v2)).setCell ⟨g, i * 3 + 2, none⟩ (.string v3)) := by
            rintro W rfl
            exact (HS1.out.below (below_drw (Below.refl _ _) 1)).setE (v1, v2, v3) hn (by omega)
          have hx : ∀ W, W = wr.drewN 1 → Blk W q 133 #[.bool o.arr, .bool o.clo, .bool o.clo, .int .i64 (o.pr : Int), pv, .slice (some ⟨g, 0, none⟩) n lcap] ∧ Blk W (p + 1) 34 #[.int .i64 v1, .int .i64 v2, .string v3] ∧ W.ownsRow 1 34 3 (.slice (some ⟨g, 0, none⟩) n lcap) n (valsC (o.L ++ List.replicate (i + 1 - o.L.length) E0)) := by
            rintro W rfl
            refine ⟨HS1.out.ro.ob, ?_, hrow⟩
            refine HS1.out.up.blk HB5.out.2 (fun e => ?_)
            rcases e with e | e | e
            · omega
            · have := (HS0.out.ro.rp.lt _ e).2
              have hpp := HRP.out _ e
              omega
            · have := helt _ e; omega
          have HF := Lib.hid hfin
          have HX2 := Lib.hid hx
          have hlv : (valsC (o.L ++ List.replicate (i + 1 - o.L.length) E0)).length = n * 3 := by rw [valsC_length, hn]
          clear hfin hx z5 hlen hrow hla HS1
          go_upto_region 13 with fail
          clear x5 hbl
          refine still_tail 7 (by as_aux_lemma => kernel_rfl) (by as_aux_lemma => kernel_rfl) (fun W2 hW2 => ?_)
          obtain ⟨hb2, hv2, hr2⟩ := HX2.out W2 hW2
          have HRR := Lib.hid (HF.out W2 hW2)
          have x2 : W2.cell? ⟨q, 5, none⟩ = some (.slice (some ⟨g, 0, none⟩) n lcap) := by rw [hb2.cell]; rfl
          have l2 := hb2.lt
          have q0 : W2.cell? ⟨p + 1, 0, none⟩ = some (.int .i64 v1) := by rw [hv2.cell]; rfl
          have q1 : W2.cell? ⟨p + 1, 1, none⟩ = some (.int .i64 v2) := by rw [hv2.cell]; rfl
          have q2' : W2.cell? ⟨p + 1, 2, none⟩ = some (.string v3) := by rw [hv2.cell]; rfl
          obtain ⟨u0, e0⟩ : ∃ u, W2.cell? ⟨g, i * 3, none⟩ = some u := ⟨_, (hr2.cellAt (i * 3) (by omega)).trans (List.getElem?_eq_getElem (by rw [hlv]; omega))⟩
          obtain ⟨u1, e1⟩ : ∃ u, W2.cell? ⟨g, i * 3 + 1, none⟩ = some u := ⟨_, (hr2.cellAt (i * 3 + 1) (by omega)).trans (List.getElem?_eq_getElem (by rw [hlv]; omega))⟩
          obtain ⟨u2, e2⟩ : ∃ u, W2.cell? ⟨g, i * 3 + 2, none⟩ = some u := ⟨_, (hr2.cellAt (i * 3 + 2) (by omega)).trans (List.getElem?_eq_getElem (by rw [hlv]; omega))⟩
          have fa0 := hr2.frozenAt (i * 3)
          have fa1 := hr2.frozenAt (i * 3 + 1)
          have fa2 := hr2.frozenAt (i * 3 + 2)
          have lg := World.block_lt_of_cell? W2 _ e0
          have HPP := Lib.hid hp
          clear hW2 hb2 hv2 hr2 HX2 HF hlv hp HS0
          simp only [List.take_succ_cons, List.take_zero, List.drop_succ_cons, List.drop_zero]
          repeat still_step
          refine wpStill_nil ?_
          go_wp2
          go_ret
          exact ⟨rfl, ROS.left (by rw [HPP.out]; exact HB5.out.1) HRR.out⟩
    · have t7 : (f != 7) = true := by simpa using h7
      have HF := Lib.hid h7
      clear h7
      go_wp2
      go_ret
      exact .inr ⟨HF.out, rfl, HB4.out.1⟩
  ·
    rw [hy2]
    clear hy2
    go_upto_region 7 with fail
    go_wp2_with fail
    refine (HP.out w3).mono ?_
    rintro e w4 ⟨rfl, b4⟩
    have HB4 := Lib.hid (And.intro (HB3.out.1.trans (b4.mono HB3.out.1.size)) (And.intro (HB3.out.2.1.below b4 HB3.out.2.1.lt) (HB3.out.2.2.1.below b4 HB3.out.2.2.1.lt)))
    clear HB3 b4 HP p0 p1 p2 lk lo cf lf
    try clear hc2 hc3
    go_upto_region 8 with fail
    have hR := HRO.out.1.below HB4.out.1
    obtain ⟨ar, har⟩ : ∃ a, o.arr = a := ⟨_, rfl⟩
    have x0 : w4.cell? ⟨q, 0, none⟩ = some (.bool ar) := by rw [hR.ob.cell, ← har]; rfl
    have lo := hR.ob.lt
    have HR := Lib.hid hR
    have HAR := Lib.hid har
    clear hR har
    obtain rfl : (i : Int) = pl := by rw [← HPL.out]; exact HA.out.2.symm
    obtain rfl : true = ar := by rw [← HAR.out]; exact HA.out.1.symm
    have t1 : decide ((0 : Int) ≤ (i : Int)) = true := by simp
    by_cases h7 : f = 7
    · obtain rfl := h7
      have hS0 := ROS.refl HR.out
      obtain ⟨b04, _, vb4⟩ := HB4.out
      have hpw : w.heap.size + 1 < w4.heap.size := vb4.lt
      have hplt : ∀ g, pv.ownBlock = some g → g < w4.heap.size := fun g hg => (HR.out.rp.lt g hg).2
      have HRP := Lib.hid (fun (g : Nat) (hg : pv.ownBlock = some g) => (HRO.out.1.rp.lt g hg).2)
      have helt : ∀ g, ev.ownBlock = some g → g < w.heap.size := fun g hg => (HRO.out.1.re.lt g hg).2
      have hqlt : q < w.heap.size := HRO.out.1.ob.lt
      have HS0 := Lib.hid hS0
      obtain ⟨hi, hz0, hz1, hz2⟩ := HZ.out
      have HB5 := Lib.hid (And.intro b04 vb4)
      clear vb4 HB4 hS0 HZ b04 HR HPL HAR HRO HG HGF HCL HA lo
      generalize hp : w.heap.size = p at *
      go_wp2_with (fail)
      clear x0
      go_loopw [] (fun wr => ∃ (m : Nat) (ev' : Value), m ≤ i + 1 - o.L.length ∧ Hid (ROS o q pv ev w4 ev' (o.L ++ List.replicate m E0) wr)) (fun wr => i + 1 - lenR q wr)
      case atStart => exact ⟨0, ev, Nat.zero_le _, Lib.hid (by simpa using HS0.out)⟩
      case round =>
        obtain ⟨m, ev', hm, HS⟩ := hrel
        obtain ⟨n, hn⟩ : ∃ n, (o.L ++ List.replicate m E0).length = n := ⟨_, rfl⟩
        have hnm : o.L.length + m = n := by rw [← hn]; simp
        have hrow : wr.ownsRow 1 34 3 ev' (o.L ++ List.replicate m E0).length (valsC (o.L ++ List.replicate m E0)) := HS.out.ro.re
        obtain ⟨la, lcap, rfl, hla⟩ := own_shape hrow
        have x5 : wr.cell? ⟨q, 5, none⟩ = some (.slice la n lcap) := by rw [HS.out.ro.ob.cell, ← hn]; rfl
        have z5 := HS.out.ro.ob.frozen 5
        have hbl := HS.out.ro.ob.lt
        have hlen := lenR_of x5
        have HS1 : Hid (ROS o q pv ev w4 (.slice la n lcap) (o.L ++ List.replicate m E0) wr) := Lib.hid (by rw [← hn]; exact HS.out)
        clear HS
        rw [hn] at hrow
        by_cases hlt : n ≤ i
        · have t3 : decide ((n : Int) ≤ (i : Int)) = true := by simp; omega
          have hsz := HS1.out.up.size
          have HRW := Lib.hid (And.intro hn (And.intro hnm (And.intro hlen hrow)))
          clear hn hla hlen
          go_wp2_with (at_builtin; refine wpList_append_lies _ rfl _ _ 45 rfl 1 34 i0 _ 3 32 Tryd.underlying45 hi hz0 hz1 hz2 rfl (by decide) _ _ _ rfl (hrow.alloc _) ⟨wr.heap.size, 0, none⟩ 1 1 [.int .i64 10, .int .i64 0, .string ⟨#[]⟩] rfl rfl (World.news_of_block (cs := #[.int .i64 10, .int .i64 0, .string ⟨#[]⟩]) (t := 34) (fr := (0, 0)) (heap_alloc_new wr _)) (by simp [Value.oneCell']) (by decide) (by unfold maxLen; omega) (by omega) (by first | (simp; done) | (simp; omega)) _ rfl ?_)
          intro gg capg w8 hown8 hgrow8 hat8 hlt8
          have hS8 := HS1.out.more E0 HRW.out.1 hplt hsz hgrow8 hown8 (hat8.imp id (fun e => by omega))
          have hb8 := (HS1.out.ro.ob.alloc _).grown hgrow8 (fun e => HS1.out.ro.ne e.symm)
          have x8 : w8.cell? ⟨q, 5, none⟩ = some (.slice la n lcap) := by rw [hb8.cell]; rfl
          have z8 := hb8.frozen 5
          have l8 := hb8.lt
          have HF := Lib.hid hS8
          clear hS8 hb8 hown8 hgrow8 hat8 hlt8 HS1 hrow z5 x5
          go_wp2_with fail
          go_roundw
          case rel => exact ⟨m + 1, _, by omega, Lib.hid (by rw [List.replicate_succ', ← List.append_assoc]; exact HF.out)⟩
          case measure =>
            have h1 : lenR q (w8.setCell ⟨q, 5, none⟩ (.slice (some ⟨gg, 0, none⟩) (n + 1) capg)) = n + 1 := lenR_of (by rw [HF.out.ro.ob.cell]; rfl)
            rw [h1, HRW.out.2.2.1]
            omega
        · have t3 : decide ((n : Int) ≤ (i : Int)) = false := by simp; omega
          obtain rfl : m = i + 1 - o.L.length := by omega
          obtain ⟨g, rfl⟩ := hla (by omega)
          have z0 : (0 : Int) ≤ (i : Int) := by omega
          have z1 : (i : Int) < (n : Int) := by omega
          have hne : p + 1 ≠ g := fun e => by
            rcases HS1.out.nw g rfl with h | h
            · have := helt g h; omega
            · omega
          have hfin : ∀ W, W = wr.drewN 1 → ROS o q pv ev w4 (.slice (some ⟨g, 0, none⟩) n lcap) ((o.L ++ List.replicate (i + 1 - o.L.length) E0).set i (v1, v2, v3)) (((W.setCell ⟨g, i * 3, none⟩ (.int .i64 v1)).setCell ⟨g, i * 3 + 1, none⟩ (.int .i64 v2)).setCell ⟨g, i * 3 + 2, none⟩ (.string v3)) := by
            rintro W rfl
            exact (HS1.out.below (below_drw (Below.refl _ _) 1)).setE (v1, v2, v3) hn (by omega)
          have hx : ∀ W, W = wr.drewN 1 → Blk W q 133 #[.bool o.arr, .bool o.clo, .bool o.clo, .int .i64 (o.pr : Int), pv, .slice (some ⟨g, 0, none⟩) n lcap] ∧ Blk W (p + 1) 34 #[.int .i64 v1, .int .i64 v2, .string v3] ∧ W.ownsRow 1 34 3 (.slice (some ⟨g, 0, none⟩) n lcap) n (valsC (o.L ++ List.replicate (i + 1 - o.L.length) E0)) := by
            rintro W rfl
            refine ⟨HS1.out.ro.ob, ?_, hrow⟩
            refine HS1.out.up.blk HB5.out.2 (fun e => ?_)
            rcases e with e | e | e
            · omega
            · have := (HS0.out.ro.rp.lt _ e).2
              have hpp := HRP.out _ e
              omega
            · have := helt _ e; omega
          have HF := Lib.hid hfin
          have HX2 := Lib.hid hx
          have hlv : (valsC (o.L ++ List.replicate (i + 1 - o.L.length) E0)).length = n * 3 := by rw [valsC_length, hn]
          clear hfin hx z5 hlen hrow hla HS1
          go_upto_region 13 with fail
          clear x5 hbl
          refine still_tail 7 (by as_aux_lemma => kernel_rfl) (by as_aux_lemma => kernel_rfl) (fun W2 hW2 => ?_)
          obtain ⟨hb2, hv2, hr2⟩ := HX2.out W2 hW2
          have HRR := Lib.hid (HF.out W2 hW2)
          have x2 : W2.cell? ⟨q, 5, none⟩ = some (.slice (some ⟨g, 0, none⟩) n lcap) := by rw [hb2.cell]; rfl
          have l2 := hb2.lt
          have q0 : W2.cell? ⟨p + 1, 0, none⟩ = some (.int .i64 v1) := by rw [hv2.cell]; rfl
          have q1 : W2.cell? ⟨p + 1, 1, none⟩ = some (.int .i64 v2) := by rw [hv2.cell]; rfl
          have q2' : W2.cell? ⟨p + 1, 2, none⟩ = some (.string v3) := by rw [hv2.cell]; rfl
          obtain ⟨u0, e0⟩ : ∃ u, W2.cell? ⟨g, i * 3, none⟩ = some u := ⟨_, (hr2.cellAt (i * 3) (by omega)).trans (List.getElem?_eq_getElem (by rw [hlv]; omega))⟩
          obtain ⟨u1, e1⟩ : ∃ u, W2.cell? ⟨g, i * 3 + 1, none⟩ = some u := ⟨_, (hr2.cellAt (i * 3 + 1) (by omega)).trans (List.getElem?_eq_getElem (by rw [hlv]; omega))⟩
          obtain ⟨u2, e2⟩ : ∃ u, W2.cell? ⟨g, i * 3 + 2, none⟩ = some u := ⟨_, (hr2.cellAt (i * 3 + 2) (by omega)).trans (List.getElem?_eq_getElem (by rw [hlv]; omega))⟩
          have fa0 := hr2.frozenAt (i * 3)
          have fa1 := hr2.frozenAt (i * 3 + 1)
          have fa2 := hr2.frozenAt (i * 3 + 2)
          have lg := World.block_lt_of_cell? W2 _ e0
          have HPP := Lib.hid hp
          clear hW2 hb2 hv2 hr2 HX2 HF hlv hp HS0
          simp only [List.take_succ_cons, List.take_zero, List.drop_succ_cons, List.drop_zero]
          repeat still_step
          refine wpStill_nil ?_
          go_wp2
          go_ret
          exact ⟨rfl, ROS.left (by rw [HPP.out]; exact HB5.out.1) HRR.out⟩
    · have t7 : (f != 7) = true := by simpa using h7
      have HF := Lib.hid h7
      clear h7
      go_wp2
      go_ret
      exact .inr ⟨HF.out, rfl, HB4.out.1⟩
end Go.Proofs.YtmimnaaofpkndaaDoor.Hp
