/- HuV: several texts in one. -/
import Derived.Test.YtmimnaaofpkndaaDoorHuP
import Derived.Test.YtmimnaaofpkndaaDoorProg
import Derived.Lib.SmallJoins
import Derived.Deep.Slices
import Derived.OpenShut
import Derived.ProofKit
import Derived.Below
import Derived.WalkKit
import Derived.Test.YtmimnaaofpkndaaDoorHpL
import Derived.Test.YtmimnaaofpkndaaDoorRows
import Derived.Lib.LaidU8
import Derived.MakeChecks
import Derived.ChangeSame
import Derived.Lib.LaidU8T
import Derived.Lib.LaidTab
import Derived.PinnedBridge
/- HeapRuns: a call of play, whatever it is; the beginning. -/
set_option linter.unusedVariables false
set_option linter.unusedSimpArgs false
namespace Go.Proofs.YtmimnaaofpkndaaDoor.Hp
open Go.RowKit Go.Proofs.YtmimnaaofpkndaaDoor Go.Shelf Go.Sort
/-- Both, as they stand behind so many calls. -/
def Stand (w1 : World) (H Q j : Nat) (W : World) : Prop := ∃ s, RSt w1 s W ∧ s.od = s.oi ∧ RP s.oi j ∧ s.H = H ∧ s.Q = Q ∧ s.ks = []
theorem Stand.below {w1 W W' : World} {H Q j : Nat} (h : Stand w1 H Q j W) (b : Below W.heap.size W W') : Stand w1 H Q j W' := by
  obtain ⟨s, h1, h2⟩ := h
  exact ⟨s, h1.below b, h2⟩
theorem Stand.bel {w1 W : World} {H Q j : Nat} (h : Stand w1 H Q j W) : Below w1.heap.size w1 W := by
  obtain ⟨s, h1, h2⟩ := h
  exact h1.bel
theorem stand_play {w1 W : World} {H Q j : Nat} (h : Stand w1 H Q j W) (hj : j ≤ 4000) (hG : LG w1) (hP : PG w1) (kd rr ky vl fl : Int) :
    Calls Tryd.prog 34 #[.pointer (some ⟨H, 0, none⟩), .pointer (some ⟨Q, 0, none⟩), .agg #[.int .i64 kd, .int .i64 rr, .int .i64 ky, .int .i64 vl, .int .i64 fl]] W fun e w' => e = .returned (.bool true) ∧ Stand w1 H Q (j + 1) w' := by
  obtain ⟨s, hR, hs, hp, rfl, rfl, hk0⟩ := h
  refine (play_any hR hs hp hj hG hP hk0 kd rr ky vl fl).mono ?_
  rintro e w' ⟨rfl, s', h1, h2, h3, h4, h5, h6⟩
  exact ⟨rfl, s', h1, h2, h3, h4, h5, h6⟩
theorem stand_new (w1 : World) : Stand w1 (w1.heap.size + 1) (w1.heap.size + 2) 0 ((newW w1).alloc (.cells #[.slice none 0 0] 78)) := by
  have hx := newW_hx w1
  have b0 := newW_below w1
  have hsz : (newW w1).heap.size = w1.heap.size + 2 := by unfold newW; simp
  have b1 := b0.alloc b0.size (.cells #[.slice none 0 0] 78)
  have ba : Below (newW w1).heap.size (newW w1) ((newW w1).alloc (.cells #[.slice none 0 0] 78)) := (Below.refl _ _).alloc (Nat.le_refl _) _
  have kq := Blk.new (newW w1) 78 #[.slice none 0 0]
  rw [hsz] at kq
  obtain ⟨W, hW⟩ : ∃ W, (newW w1).alloc (.cells #[.slice none 0 0] 78) = W := ⟨_, rfl⟩
  rw [hW] at b1 ba kq ⊢
  have hx2 := hx.below ba
  have hq : RHp W (w1.heap.size + 2) (.slice none 0 0) [] := ⟨kq, World.ownsRow_nil _ _ _ _⟩
  obtain ⟨O2, hO2⟩ : ∃ O2 : Nat → Prop, ∀ k, O2 k ↔ k = w1.heap.size + 1 ∨ k = w1.heap.size ∨ nilS.ownBlock = some k ∨ nilS.ownBlock = some k ∨ nilS.ownBlock = some k := ⟨_, fun k => Iff.rfl⟩
  obtain ⟨O3, hO3⟩ : ∃ O3 : Nat → Prop, ∀ k, O3 k ↔ k = w1.heap.size + 2 ∨ (Value.slice none 0 0).ownBlock = some k := ⟨_, fun k => Iff.rfl⟩
  have n2 : ∀ k, O2 k → k = w1.heap.size + 1 ∨ k = w1.heap.size := fun k hk => by
    rcases (hO2 k).1 hk with e | e | e | e | e
    · exact .inl e
    · exact .inr e
    · simp [Value.ownBlock] at e
    · simp [Value.ownBlock] at e
    · simp [Value.ownBlock] at e
  have n3 : ∀ k, O3 k → k = w1.heap.size + 2 := fun k hk => by
    rcases (hO3 k).1 hk with e | e
    · exact e
    · simp [Value.ownBlock] at e
  have hWs : w1.heap.size + 2 < W.heap.size := kq.lt
  refine ⟨⟨[], [], [], [], w1.heap.size + 1, w1.heap.size, w1.heap.size + 2, []⟩, ⟨⟨fun i k => if i.1 = 2 then O2 k else O3 k, ⟨fun i hi => ?_, fun i hi k hk => ?_, fun i j hi hj hne k hk hk' => ?_⟩, fun i hi k hk => ?_⟩, b1, rfl, rfl⟩, rfl, ⟨fun o ho => (List.not_mem_nil ho).elim, fun o ho => (List.not_mem_nil ho).elim, fun r hr => ⟨[], by have : r ≤ 0 := hr; show r = 0; omega⟩, Nat.zero_le _⟩, rfl, rfl, rfl⟩
  · obtain ⟨a, c⟩ := i
    match a, hi with
    | 0, hi => exact absurd hi (Nat.not_lt_zero _)
    | 1, hi => exact absurd hi (Nat.not_lt_zero _)
    | 2, _ => exact ⟨nilS, nilS, nilS, hx2, fun k => by simpa using hO2 k⟩
    | 3, _ => exact ⟨.slice none 0 0, hq, fun k => by simpa using hO3 k⟩
    | 4, hi => exact absurd hi (Nat.not_lt_zero _)
    | _ + 5, hi => exact hi.elim
  · obtain ⟨a, c⟩ := i
    match a, hi with
    | 0, hi => exact absurd hi (Nat.not_lt_zero _)
    | 1, hi => exact absurd hi (Nat.not_lt_zero _)
    | 2, _ =>
      have hk2 : O2 k := by simpa using hk
      have := n2 k hk2
      omega
    | 3, _ =>
      have hk2 : O3 k := by simpa using hk
      have := n3 k hk2
      omega
    | 4, hi => exact absurd hi (Nat.not_lt_zero _)
    | _ + 5, hi => exact hi.elim
  · obtain ⟨a, c⟩ := i
    obtain ⟨a', c'⟩ := j
    match a, a', hi, hj with
    | 2, 2, hi, hj =>
      obtain rfl : c = 0 := hi
      obtain rfl : c' = 0 := hj
      exact absurd rfl hne
    | 3, 3, hi, hj =>
      obtain rfl : c = 0 := hi
      obtain rfl : c' = 0 := hj
      exact absurd rfl hne
    | 2, 3, _, _ =>
      have h1 := n2 k (by simpa using hk)
      have h2 := n3 k (by simpa using hk')
      omega
    | 3, 2, _, _ =>
      have h1 := n3 k (by simpa using hk)
      have h2 := n2 k (by simpa using hk')
      omega
    | 0, _, hi, _ => exact absurd hi (Nat.not_lt_zero _)
    | 1, _, hi, _ => exact absurd hi (Nat.not_lt_zero _)
    | 4, _, hi, _ => exact absurd hi (Nat.not_lt_zero _)
    | _ + 5, _, hi, _ => exact hi.elim
    | 2, 0, _, hj => exact absurd hj (Nat.not_lt_zero _)
    | 2, 1, _, hj => exact absurd hj (Nat.not_lt_zero _)
    | 2, 4, _, hj => exact absurd hj (Nat.not_lt_zero _)
    | 2, _ + 5, _, hj => exact hj.elim
    | 3, 0, _, hj => exact absurd hj (Nat.not_lt_zero _)
    | 3, 1, _, hj => exact absurd hj (Nat.not_lt_zero _)
    | 3, 4, _, hj => exact absurd hj (Nat.not_lt_zero _)
    | 3, _ + 5, _, hj => exact hj.elim
  · obtain ⟨a, c⟩ := i
    match a, hi with
    | 0, hi => exact absurd hi (Nat.not_lt_zero _)
    | 1, hi => exact absurd hi (Nat.not_lt_zero _)
    | 2, _ =>
      have := n2 k (by simpa using hk)
      omega
    | 3, _ =>
      have := n3 k (by simpa using hk)
      omega
    | 4, hi => exact absurd hi (Nat.not_lt_zero _)
    | _ + 5, hi => exact hi.elim
end Go.Proofs.YtmimnaaofpkndaaDoor.Hp

/- HeapRuns: how an argument that is a slice of calls reads: five numbers each. -/
set_option linter.unusedVariables false
set_option linter.unusedSimpArgs false
namespace Go.Proofs.YtmimnaaofpkndaaDoor
open Go.ChangeShapes Go.WideShapes Go.ChangeAt Go.RowKit Go.Joins Go.Deep
structure CallV where
  kd : Int
  rr : Int
  ky : Int
  vl : Int
  fl : Int
def callC (c : CallV) : List Value := [.int .i64 c.kd, .int .i64 c.rr, .int .i64 c.ky, .int .i64 c.vl, .int .i64 c.fl]
/-- A slice of calls, as it reads. -/
def CallsR (w : World) (a : Option Addr) (len : Nat) (l : List CallV) : Prop :=
  l.length = len ∧ (0 < len → ∃ b off, a = some ⟨b, off, none⟩ ∧ b < w.heap.size ∧ ∀ i c, l[i]? = some c → ∀ j, j < 5 → w.cell? ⟨b, off + i * 5 + j, none⟩ = (callC c)[j]?)
section
variable {H : Type} {enc : TypeId × Value → H} {w : World} {base : Nat} {held : Bool}
theorem trod_struct5 {P : Program} {spare : Nat → Bool} {t : TypeId} {f0 f1 f2 f3 f4 : Field} {fuel : Nat} {cs : List Value} {x : DataW H × List MemPlace} (ht : P.underlying t = some (.struct #[f0, f1, f2, f3, f4])) (h : DataW.trod enc P w base spare held fuel t cs = some x) :
    ∃ y0 y1 y2 y3 y4 n, cs.length = P.cellsOf t ∧ DataW.trod enc P w base spare held n f0.type ((cs.drop f0.offset).take (P.cellsOf f0.type)) = some y0 ∧
      DataW.trod enc P w base spare held n f1.type ((cs.drop f1.offset).take (P.cellsOf f1.type)) = some y1 ∧ DataW.trod enc P w base spare held n f2.type ((cs.drop f2.offset).take (P.cellsOf f2.type)) = some y2 ∧
      DataW.trod enc P w base spare held n f3.type ((cs.drop f3.offset).take (P.cellsOf f3.type)) = some y3 ∧ DataW.trod enc P w base spare held n f4.type ((cs.drop f4.offset).take (P.cellsOf f4.type)) = some y4 := by
  obtain ⟨xs, n, _, rfl, hl, hlen, hf⟩ := DataW.trod_struct ht h
  match xs, hlen with
  | [y0, y1, y2, y3, y4], _ => exact ⟨y0, y1, y2, y3, y4, n, hl, by simpa using hf 0 f0 rfl, by simpa using hf 1 f1 rfl, by simpa using hf 2 f2 rfl, by simpa using hf 3 f3 rfl, by simpa using hf 4 f4 rfl⟩
set_option maxRecDepth 100000 in
theorem open_callC {fuel : Nat} {cs : List Value} {x : DataW H × List MemPlace} (h : DataW.trod enc Tryd.prog w base (fun _ => true) held fuel 80 cs = some x) : ∃ c : CallV, cs = callC c := by
  obtain ⟨y0, y1, y2, y3, y4, n, hl, h0, h1, h2, h3, h4⟩ := trod_struct5 Tryd.underlying80 h
  have hl5 : cs.length = 5 := hl.trans (show Tryd.prog.cellsOf 80 = 5 by kernel_rfl)
  obtain ⟨c0, c1, c2, c3, c4, rfl⟩ : ∃ a b c d e, cs = [a, b, c, d, e] := by
    match cs, hl5 with
    | [a, b, c, d, e], _ => exact ⟨a, b, c, d, e, rfl⟩
  obtain ⟨k0, e0, _, _⟩ := DataW.trod_int Tryd.underlying3 h0
  obtain ⟨k1, e1, _, _⟩ := DataW.trod_int Tryd.underlying3 h1
  obtain ⟨k2, e2, _, _⟩ := DataW.trod_int Tryd.underlying3 h2
  obtain ⟨k3, e3, _, _⟩ := DataW.trod_int Tryd.underlying2 h3
  obtain ⟨k4, e4, _, _⟩ := DataW.trod_int Tryd.underlying3 h4
  have e0' : [c0] = [.int .i64 k0] := e0
  have e1' : [c1] = [.int .i64 k1] := e1
  have e2' : [c2] = [.int .i64 k2] := e2
  have e3' : [c3] = [.int .i64 k3] := e3
  have e4' : [c4] = [.int .i64 k4] := e4
  injection e0' with e0'
  injection e1' with e1'
  injection e2' with e2'
  injection e3' with e3'
  injection e4' with e4'
  subst e0' e1' e2' e3' e4'
  exact ⟨⟨k0, k1, k2, k3, k4⟩, rfl⟩
set_option maxRecDepth 100000 in
theorem open_calls {fuel : Nat} {cs : List Value} {x : DataW H × List MemPlace} (h : DataW.trod enc Tryd.prog w base (fun _ => true) held fuel 74 cs = some x) :
    ∃ a len cap l, cs = [.slice a len cap] ∧ CallsR w a len l := by
  rcases open_slice Tryd.underlying74 h with ⟨rfl, _⟩ | ⟨a, len, cap, m, n, D, Pl, rfl, _, hl, hm, hmm, _, hi⟩
  · exact ⟨none, 0, 0, [], rfl, rfl, fun h => absurd h (by decide)⟩
  · simp only [if_true] at hmm
    subst hmm
    have hce : Tryd.prog.cellsOf 80 = 5 := by kernel_rfl
    rw [hce] at hi
    have key : ∀ p, p < len → ∃ c : CallV, ∀ j, j < 5 → w.cell? ((a.add (p * 5)).add j) = (callC c)[j]? := by
      intro p hp
      obtain ⟨cs', hc, ht'⟩ := hi p (by omega)
      obtain ⟨_, _, hat⟩ := World.cells?_some hc
      obtain ⟨c, rfl⟩ := open_callC ht'
      exact ⟨c, hat⟩
    let g : Nat → CallV := fun p => if h : p < len then Classical.choose (key p h) else ⟨0, 0, 0, 0, 0⟩
    have hg : ∀ p, p < len → ∀ j, j < 5 → w.cell? ((a.add (p * 5)).add j) = (callC (g p))[j]? := by
      intro p hp
      show _
      simp only [g, hp, dif_pos]
      exact Classical.choose_spec (key p hp)
    refine ⟨some a, len, m, (List.range len).map g, rfl, by simp, fun hn => ?_⟩
    obtain ⟨b, off, spot⟩ := a
    have h0 := hg 0 hn 0 (by decide)
    rw [Go.Deep.add_add] at h0
    have hspot : spot = none := by
      have h00 : w.cell? (Addr.add ⟨b, off, spot⟩ (0 * 5 + 0)) = some (.int .i64 (g 0).kd) := h0
      simpa [Addr.add] using World.cell?_spot h00
    subst hspot
    refine ⟨b, off, rfl, ?_, fun i c hc j hj => ?_⟩
    · have h00 : w.cell? (Addr.add ⟨b, off, none⟩ (0 * 5 + 0)) = some (.int .i64 (g 0).kd) := h0
      rw [Go.WideShapes.add_plain] at h00
      exact World.block_lt_of_cell? w ⟨b, off + (0 * 5 + 0), none⟩ h00
    · rw [List.getElem?_map] at hc
      have hil : i < len := by
        rcases Nat.lt_or_ge i len with h | h
        · exact h
        · rw [List.getElem?_eq_none (by simpa using h)] at hc; cases hc
      rw [List.getElem?_range hil] at hc
      obtain rfl : g i = c := by simpa using hc
      have := hg i hil j hj
      rw [Go.Deep.add_add, Go.WideShapes.add_plain] at this
      rw [Nat.add_assoc]; exact this
end
end Go.Proofs.YtmimnaaofpkndaaDoor

/- The walk of the statement HeapRuns. -/
set_option linter.unusedVariables false
set_option linter.unusedSimpArgs false
namespace Go.Proofs.YtmimnaaofpkndaaDoor.Hp
open Go.RowKit Go.Proofs.YtmimnaaofpkndaaDoor Go.Shelf Go.Sort
attribute [local go_sem] Oper.semAt_some
set_option maxRecDepth 100000 in
set_option maxHeartbeats 16000000 in
theorem runs_walk (a : Option Addr) (m cap : Nat) (cs : List CallV) (w : World) (hr : CallsR w a m cs) (hG : LG w) (hP : PG w) :
    Calls Tryd.prog 7 #[.slice a m cap] w fun e w' => e = .returned (.bool true) ∧ Below w.heap.size w w' := by
  have HX := Lib.hid (And.intro hr (And.intro hG hP))
  have HFT := Lib.hid (Hp.fit_any w hG.lg)
  clear hr hG hP
  go_enter Tryd.func7, Tryd.ntmps7
  go_wp2_with fail
  refine HFT.out.mono ?_
  rintro e w1 ⟨rfl, b1⟩
  have HB1 := Lib.hid b1
  clear b1 HFT
  by_cases hm : 300 < m
  · have t1 : decide ((300 : Int) < (m : Int)) = true := by rw [decide_eq_true_eq]; omega
    go_wp2_with fail
    go_ret
    exact ⟨rfl, HB1.out⟩
  have t1 : decide ((300 : Int) < (m : Int)) = false := by rw [decide_eq_false_iff_not]; omega
  have hG1 : LG w1 := HX.out.2.1.below HB1.out
  have hP1 : PG w1 := HX.out.2.2.below HB1.out
  have hst0 := stand_new w1
  have hsz : (newW w1).heap.size = w1.heap.size + 2 := by unfold newW; simp
  obtain ⟨H, hH⟩ : ∃ H, w1.heap.size + 1 = H := ⟨_, rfl⟩
  obtain ⟨Q, hQ⟩ : ∃ Q, w1.heap.size + 2 = Q := ⟨_, rfl⟩
  rw [hH, hQ] at hst0
  have HS := Lib.hid (And.intro hst0 (And.intro hG1 hP1))
  have hnw := hnew_any w1
  rw [hH] at hnw
  have HNW := Lib.hid hnw
  obtain ⟨W0, hW0⟩ : ∃ W0, (newW w1).alloc (.cells #[.slice none 0 0] 78) = W0 := ⟨_, rfl⟩
  have HW0 := Lib.hid (And.intro hW0 (And.intro hsz hQ))
  clear hst0 hG1 hP1 hnw hsz hW0 hH hQ
  go_wp2_with fail
  refine HNW.out.mono ?_
  rintro e w2 ⟨rfl, hw2⟩
  have hs2 : w2.heap.size = Q := by rw [hw2, HW0.out.2.1, HW0.out.2.2]
  have hw3 : w2.alloc (.cells #[.slice none 0 0] 78) = W0 := by rw [hw2]; exact HW0.out.1
  rw [HW0.out.1] at HS
  clear HW0 HNW hw2
  go_upto_region 6 with fail
  try rw [hw3]
  clear hw3 hs2
  obtain ⟨hcl, hca⟩ := HX.out.1
  have HCA := Lib.hid (And.intro hcl hca)
  clear hcl hca
  go_wp2_with fail
  go_loopw [6, 18] (fun v6 i wr => ∃ j : Nat, j ≤ m ∧ i = .int .i64 (j : Int) ∧ Hid (Stand w1 H Q j wr)) (fun _ i _ => m - (intOf i).toNat)
  case atStart => exact ⟨0, Nat.zero_le _, rfl, Lib.hid HS.out.1⟩
  case round =>
  obtain ⟨j, hj, rfl, HJ⟩ := hrel
  by_cases hlt : j < m
  · obtain ⟨b, off, rfl, hbl, hc⟩ := HCA.out.2 (by omega)
    obtain ⟨c, hcj⟩ : ∃ c, cs[j]? = some c := ⟨_, List.getElem?_eq_getElem (by rw [HCA.out.1]; exact hlt)⟩
    have hbw : Below w.heap.size w wr := HB1.out.trans (HJ.out.bel.mono HB1.out.size)
    have hcell : ∀ x, wr.cell? ⟨b, x, none⟩ = w.cell? ⟨b, x, none⟩ := fun x => hbw.cell (p := ⟨b, x, none⟩) hbl
    obtain ⟨kd, rr, ky, vl, fl⟩ := c
    have c0 : wr.cell? ⟨b, off + j * 5, none⟩ = some (.int .i64 kd) := (hcell _).trans (hc j _ hcj 0 (by decide))
    have c1 : wr.cell? ⟨b, off + j * 5 + 1, none⟩ = some (.int .i64 rr) := (hcell _).trans (hc j _ hcj 1 (by decide))
    have c2 : wr.cell? ⟨b, off + j * 5 + 2, none⟩ = some (.int .i64 ky) := (hcell _).trans (hc j _ hcj 2 (by decide))
    have c3 : wr.cell? ⟨b, off + j * 5 + 3, none⟩ = some (.int .i64 vl) := (hcell _).trans (hc j _ hcj 3 (by decide))
    have c4 : wr.cell? ⟨b, off + j * 5 + 4, none⟩ = some (.int .i64 fl) := (hcell _).trans (hc j _ hcj 4 (by decide))
    have t2 : decide ((j : Int) < (m : Int)) = true := by rw [decide_eq_true_eq]; omega
    have z0 : (0 : Int) ≤ (j : Int) := by omega
    have z1 : (j : Int) < (m : Int) := by omega
    have aw : IntKind.i64.wrap ((j : Int) + 1) = ((j + 1 : Nat) : Int) := by rw [IntWalk.i64_in _ (by omega)]; rfl
    have b2 := (Below.refl wr.heap.size wr).alloc (Nat.le_refl _) (.cells #[.int .i64 kd, .int .i64 rr, .int .i64 ky, .int .i64 vl, .int .i64 fl] 80)
    have HK := Lib.hid (And.intro (HJ.out.below b2) (Blk.new wr 80 #[.int .i64 kd, .int .i64 rr, .int .i64 ky, .int .i64 vl, .int .i64 fl]))
    clear hbl hc hcj hbw hcell b2 HJ
    go_upto_region 9 with fail
    generalize wr.alloc (.cells #[.int .i64 kd, .int .i64 rr, .int .i64 ky, .int .i64 vl, .int .i64 fl] 80) = W2 at *
    generalize wr.heap.size = q2 at *
    clear c0 c1 c2 c3 c4
    have d0 : W2.cell? ⟨q2, 0, none⟩ = some (.int .i64 kd) := by rw [HK.out.2.cell]; rfl
    have d1 : W2.cell? ⟨q2, 1, none⟩ = some (.int .i64 rr) := by rw [HK.out.2.cell]; rfl
    have d2 : W2.cell? ⟨q2, 2, none⟩ = some (.int .i64 ky) := by rw [HK.out.2.cell]; rfl
    have d3 : W2.cell? ⟨q2, 3, none⟩ = some (.int .i64 vl) := by rw [HK.out.2.cell]; rfl
    have d4 : W2.cell? ⟨q2, 4, none⟩ = some (.int .i64 fl) := by rw [HK.out.2.cell]; rfl
    go_wp2_with fail
    refine (stand_play HK.out.1 (by omega) HS.out.2.1 HS.out.2.2 kd rr ky vl fl).mono ?_
    rintro e W3 ⟨rfl, hst⟩
    have HE := Lib.hid hst
    clear hst HK d0 d1 d2 d3 d4
    go_wp2_with fail
    go_roundw
    case rel => exact ⟨j + 1, by omega, rfl, HE⟩
    case measure => simp only [intOf]; omega
  · obtain rfl : j = m := by omega
    have t2 : decide ((j : Int) < (j : Int)) = false := by simp
    obtain ⟨s, hR, hs, hp, hsH, hsQ, hk0⟩ := HJ.out
    obtain ⟨n, hn⟩ : ∃ n, s.oi.length = n := ⟨_, rfl⟩
    have hnd : s.od.length = n := by rw [hs, hn]
    have hn12 : n ≤ 12 := hn ▸ hp.le
    have hqW : ∀ W, RSt w1 s W → ∃ la lcap, W.cell? ⟨Q, 0, none⟩ = some (.slice la n lcap) ∧ Q < W.heap.size := fun W h => by
      obtain ⟨lv, hx⟩ := h.rhp
      have hrw := hx.row
      rw [h.nq, hnd] at hrw
      obtain ⟨la, lcap, e, -⟩ := own_shape hrw
      have hb := hx.hb
      rw [hsQ, e] at hb
      exact ⟨la, lcap, by rw [hb.cell]; rfl, hb.lt⟩
    obtain ⟨la, lcap, hq0, lq⟩ := hqW wr hR
    have HR := Lib.hid hR
    have HP := Lib.hid (And.intro hp (And.intro hs (And.intro hsH (And.intro hsQ (And.intro hn hnd)))))
    clear hR hs hp hsH hsQ hk0 hn hnd hqW HJ
    go_wp2_with fail
    clear hq0 lq
    go_loopw [7, 33] (fun v7 i wx => ∃ i' : Nat, i' ≤ n ∧ i = .int .i64 (i' : Int) ∧ Hid (RSt w1 s wx)) (fun _ i _ => n - (intOf i).toNat)
    case atStart => exact ⟨0, Nat.zero_le _, rfl, HR⟩
    case round =>
    clear HR
    obtain ⟨i, hi, rfl, HR⟩ := hrel
    by_cases hlt2 : i < n
    · have t3 : decide ((i : Int) < (n : Int)) = true := by rw [decide_eq_true_eq]; omega
      have ai : IntKind.i64.wrap ((i : Int) + 1) = (i : Int) + 1 := IntWalk.i64_in _ (by omega)
      obtain ⟨o, ho⟩ : ∃ o, s.oi[i]? = some o := ⟨_, List.getElem?_eq_getElem (by rw [HP.out.2.2.2.2.1]; exact hlt2)⟩
      have hod : s.od[i]? = some o := by rw [HP.out.2.1]; exact ho
      have HO := Lib.hid (And.intro ho hod)
      obtain ⟨bi, hbi⟩ : ∃ b, s.bl i = b := ⟨_, rfl⟩
      obtain ⟨qi, hqi⟩ : ∃ q, s.ql i = q := ⟨_, rfl⟩
      have HBQ := Lib.hid (And.intro hbi hqi)
      have hc1 := HR.out.hobj (by have := HP.out.1.le; omega) ((i : Int) + 1)
      rw [objB_at (HR.out.bAt ho), hbi, HP.out.2.2.1] at hc1
      have HC1 := Lib.hid hc1
      clear ho hod hc1 hbi hqi
      go_wp2_with fail
      refine HC1.out.mono ?_
      rintro e W1 ⟨rfl, b1⟩
      have hR1 := HR.out.below b1
      have hc2 := hR1.keys HS.out.2.1 HP.out.1 (by omega) HO.out.1
      rw [HBQ.out.1] at hc2
      have HC2 := Lib.hid hc2
      clear b1 hR1 hc2 HC1
      go_wp2_with fail
      refine HC2.out.mono ?_
      rintro e W2 ⟨rv, rfl, hrow, hR2⟩
      have hc3 := hR2.rob (by have := HP.out.1.le; rw [HP.out.2.1]; omega) ((i : Int) + 1)
      rw [robjV_at (hR2.qAt HO.out.2), HBQ.out.2, HP.out.2.2.2.1] at hc3
      have HC3 := Lib.hid (And.intro hc3 (And.intro hrow hR2))
      clear hc3 hrow hR2 HC2
      go_wp2_with fail
      refine HC3.out.1.mono ?_
      rintro e W3 ⟨rfl, b3⟩
      have hrow3 := (Upd.of_below_all (M := fun _ => False) b3).own HC3.out.2.1 (fun _ _ e => e)
      have hR3 := HC3.out.2.2.below b3
      have hc4 := hR3.rkeys HS.out.2.1 HS.out.2.2 (by rw [HP.out.2.1]; exact HP.out.1) (by omega) HO.out.2
      rw [HBQ.out.2] at hc4
      have HC4 := Lib.hid (And.intro hc4 (And.intro hrow3 hR3))
      clear hc4 hrow3 hR3 b3 HC3
      go_wp2_with fail
      refine HC4.out.1.mono ?_
      rintro e W4 ⟨rv2, rfl, hrow4, b4⟩
      have hrow5 := (Upd.of_below_all (M := fun _ => False) b4).own HC4.out.2.1 (fun _ _ e => e)
      have hR4 := HC4.out.2.2.below b4
      have hle : o.keys.length ≤ 1000000 := Nat.le_trans (keys_len (HP.out.1.ok o (List.mem_of_getElem? HO.out.1)) (Nat.le_trans (HP.out.1.len o (List.mem_of_getElem? HO.out.1)) (by omega))) (by decide)
      have HC5 := Lib.hid (And.intro (same_keys hrow5 hrow4 hle) hR4)
      clear hrow4 hrow5 hR4 b4 hle HC4
      go_wp2_with fail
      refine HC5.out.1.mono ?_
      rintro e W5 ⟨rfl, b5⟩
      have HE := Lib.hid (HC5.out.2.below b5)
      clear b5 HC5
      go_wp2_with fail
      go_roundw
      case rel => exact ⟨i + 1, by omega, by go_num, HE⟩
      case measure => simp only [intOf]; omega
    · obtain rfl : i = n := by omega
      have t3 : decide ((i : Int) < (i : Int)) = false := by simp
      have HE := Lib.hid (HB1.out.trans (HR.out.bel.mono HB1.out.size))
      go_wp2_with fail
      go_ret
      exact ⟨rfl, HE.out⟩
end Go.Proofs.YtmimnaaofpkndaaDoor.Hp

/- What the package's variable 'length' holds, out of what is laid. -/
set_option linter.unusedVariables false
set_option linter.unusedSimpArgs false
namespace Go.Proofs.YtmimnaaofpkndaaDoor.Hp
open Go.RowKit Go.Proofs.YtmimnaaofpkndaaDoor
set_option maxRecDepth 100000 in
theorem lg_of (w : World) (h3 : Lib.VarReads Tryd.prog w "ossuary/heap.length" Rows.laid_ossuary_heap_length) : Lg w := by
  obtain ⟨g', t', cs, fuel, p, hg', hty', hvar, hd⟩ := h3
  obtain rfl := Option.some.inj ((show Tryd.prog.globalNamed "ossuary/heap.length" = some 0 by kernel_rfl).symm.trans hg')
  obtain rfl := Option.some.inj ((show (Tryd.prog.globals[0]?).map (·.type) = some 34 by kernel_rfl).symm.trans hty')
  obtain ⟨xs, n, _, hx, hl, hlen, hf⟩ := DataW.trod_struct Tryd.underlying34 hd
  have hl3 : cs.toList.length = 3 := hl.trans (show Tryd.prog.cellsOf 34 = 3 by kernel_rfl)
  obtain ⟨c0, c1, c2, hcs⟩ : ∃ a b c, cs.toList = [a, b, c] := by
    match cs.toList, hl3 with
    | [a, b, c], _ => exact ⟨a, b, c, rfl⟩
  rw [hcs] at hf
  have hcs' : cs = #[c0, c1, c2] := by rw [← Array.toList_inj, hcs]
  match xs, hlen with
  | [y0, y1, y2], _ =>
    have f0 := hf 0 _ rfl
    have f1 := hf 1 _ rfl
    have f2 := hf 2 _ rfl
    obtain ⟨n0, e0, x0, _⟩ := DataW.trod_int (k := .i64) Tryd.underlying3 f0
    obtain ⟨n1, e1, x1, _⟩ := DataW.trod_int (k := .i64) Tryd.underlying2 f1
    obtain ⟨s2, e2, x2, _⟩ := DataW.trod_string Tryd.underlying9 f2
    have e0' : [c0] = [.int .i64 n0] := e0
    have e1' : [c1] = [.int .i64 n1] := e1
    have e2' : [c2] = [.string s2] := e2
    injection e0' with e0'
    injection e1' with e1'
    injection e2' with e2'
    have hx1 := congrArg Prod.fst hx
    have hx2 : Rows.laid_ossuary_heap_length (H := Unit) = .agg [y0.1, y1.1, y2.1] := hx1
    have z0 : y0.1 = .lit (.int .i64 n0) := by rw [x0]
    have z1 : y1.1 = .lit (.int .i64 n1) := by rw [x1]
    have z2 : y2.1 = .lit (.string s2.data.toList) := by rw [x2]
    rw [z0, z1, z2] at hx2
    unfold Rows.laid_ossuary_heap_length at hx2
    injection hx2 with hx2
    injection hx2 with q0 hx2
    injection hx2 with q1 hx2
    injection hx2 with q2 hx2
    injection q0 with q0
    injection q1 with q1
    injection q2 with q2
    injection q0 with _ q0
    injection q1 with _ q1
    injection q2 with q2
    subst q0 q1 e0' e1' e2'
    have hs : s2 = ⟨#[0, 108, 0, 101, 0, 110, 0, 103, 0, 116, 0, 104]⟩ := by
      cases s2 with
      | mk d =>
        congr 1
        rw [← Array.toList_inj, ← q2]
    subst hs
    have hv := hvar
    unfold World.var? at hv
    rw [hg'] at hv
    simp only [Option.bind_some] at hv
    have hcell : ∀ i, w.cell? ⟨0, i, none⟩ = (#[.int .i64 7, .int .i64 0, .string ⟨#[0, 108, 0, 101, 0, 110, 0, 103, 0, 116, 0, 104]⟩] : Array Value)[i]? := by
      intro i
      split at hv
      · next cs' _ _ hh =>
        injection hv with hv
        rw [Lib.cell_of_heap hh, hv, hcs']
      · cases hv
    exact ⟨hcell 0, hcell 1, hcell 2⟩
end Go.Proofs.YtmimnaaofpkndaaDoor.Hp

/- The statement HeapRuns, from its walk: the package's variable and the library's tables out of what is laid. -/
set_option linter.unusedVariables false
set_option linter.unusedSimpArgs false
namespace Go.Proofs.YtmimnaaofpkndaaDoor
open Go.RowKit
theorem tabs_runs (w : World) (hL : laidMet Tryd.prog Rows.heapRunsRow.laid w) : Lib.Utf8Tabs 1 2 w := by
  have h3 : Lib.VarReads Tryd.prog w "unicode/utf8.first" Lib.firstData := by
    rw [← Pinned.utf8First_eq]
    exact Lib.laidMet.reads hL (.tail _ (.tail _ (.tail _ (.tail _ (.tail _ (.head _))))))
  have h4 : Lib.VarReads Tryd.prog w "unicode/utf8.acceptRanges" Lib.acceptData := by
    rw [show Lib.acceptData = Rows.laid_unicode_utf8_acceptRanges by kernel_rfl]
    exact Lib.laidMet.reads hL (.tail _ (.tail _ (.tail _ (.head _))))
  exact utf8Tabs_of_readsT (U8Types.of260 Tryd.lays260) ⟨by kernel_rfl, by kernel_rfl, by kernel_rfl, by kernel_rfl, by kernel_rfl, by kernel_rfl, by kernel_rfl⟩ h3 h4
theorem pows_runs (w : World) (hL : laidMet Tryd.prog Rows.heapRunsRow.laid w) : Hp.PG w := by
  have h3 : Lib.VarReads Tryd.prog w "internal/strconv.uint64pow10" (Lib.tabData .u64 Lib.pow10Tab) := by
    rw [show Lib.tabData .u64 Lib.pow10Tab = Rows.laid_internal_strconv_uint64pow10 by kernel_rfl]
    exact Lib.laidMet.reads hL (.tail _ (.tail _ (.head _)))
  obtain ⟨g', t', cs, fuel, p, hg', hty', hvar, hd⟩ := h3
  obtain rfl := Option.some.inj ((show Tryd.prog.globalNamed "internal/strconv.uint64pow10" = some 3 by kernel_rfl).symm.trans hg')
  obtain rfl := Option.some.inj ((show (Tryd.prog.globals[3]?).map (·.type) = some 181 by kernel_rfl).symm.trans hty')
  unfold Hp.PG Lib.TabIs
  rw [hvar, ← Lib.cells_of_tab Tryd.underlying181 Tryd.underlying164 (by kernel_rfl) (by kernel_rfl) hd]
theorem runs_said (a : Option Addr) (m cap : Nat) (cs : List CallV) (w : World) (hr : CallsR w a m cs) (hL : laidMetH Tryd.prog Rows.heapRunsRow.laid w) :
    Calls Tryd.prog 7 #[.slice a m cap] w fun e w' => e = .returned (.bool true) ∧ Below w.heap.size w w' := by
  rw [Go.MakeChecks.laidMetH_plain _ _ _ (by kernel_rfl)] at hL
  have hT := tabs_runs w hL
  have hz : 2 < w.heap.size := World.block_lt_of_cell? w ⟨2, _, none⟩ (hT.2 0 (by decide)).1
  exact Hp.runs_walk a m cap cs w hr ⟨Hp.lg_of w (Lib.laidMet.reads hL (.tail _ (.tail _ (.tail _ (.tail _ (.head _)))))), hT, hz⟩ (pows_runs w hL)
end Go.Proofs.YtmimnaaofpkndaaDoor
