/- The statement ArenaChains: its walk. -/
import Derived.Test.YthcdhiknjpfmhaaArZ
import Derived.BigRegion
import Derived.Test.YthcdhiknjpfmhaaOrd
import Derived.Test.YthcdhiknjpfmhaaArChP
set_option linter.unusedVariables false
set_option linter.unusedSimpArgs false
namespace Go.Proofs.Ythcdhiknjpfmhaa
open Go.RowKit

/-- k empty nodes, and their numbers. -/
structure Ch1 (w1 W : World) (A k : Nat) (v8 cv : Value) : Prop where
  blt : Built True W A cv nil0 nil0 (List.replicate k ([], [])) []
  keys : W.ownsRow A 3 1 v8 k (numCells (upto k))
  bel : Below A w1 W
/-- The keys are made; turn holds l. -/
structure Ch2 (w1 W : World) (A m tg : Nat) (v8 cv : Value) (l : List Int) : Prop where
  blt : Built True W A cv nil0 nil0 (List.replicate (m + 1) ([], [])) []
  keys : W.ownsRow A 3 1 v8 (m + 1) (numCells (upto (m + 1)))
  turn : W.ownsRow A 3 1 (.slice (some ⟨tg, 0, none⟩) m m) m (numCells l)
  ne : v8.ownBlock ≠ some tg
  bel : Below A w1 W
theorem numCells_set (l : List Int) (j : Nat) (x : Int) : (numCells l).set j (.int .i64 x) = numCells (l.set j x) := by simp [numCells]
theorem Ch2.set {w1 W : World} {A m tg : Nat} {v8 cv : Value} {l : List Int} (h : Ch2 w1 W A m tg v8 cv l) (j : Nat) (x : Int) : Ch2 w1 (W.setCell ⟨tg, j, none⟩ (.int .i64 x)) A m tg v8 cv (l.set j x) := by
  have u := set_upd W tg j (.int .i64 x)
  have hst := (h.turn.stored j (.int .i64 x)).1
  rw [numCells_set] at hst
  have u2 : Upd W (W.setCell ⟨tg, j, none⟩ (.int .i64 x)) (fun k => (Value.slice (some ⟨tg, 0, none⟩) m m).ownBlock = some k) := u.mono fun k _ e => by rw [e]; rfl
  refine ⟨h.blt.row h.turn u2 (fun g _ => ⟨by simp [Value.ownBlock], by simp [Value.ownBlock]⟩), u.own h.keys (fun g hg e => h.ne (by rw [hg, e])), hst, h.ne, h.bel.trans (u.below ?_ (fun k e => ?_))⟩
  · have := h.turn.lt tg rfl; omega
  · rw [e]; exact (h.turn.lt tg rfl).1
theorem Ch2.upd {w1 W W' : World} {A m tg : Nat} {v8 cv : Value} {l : List Int} (h : Ch2 w1 W A m tg v8 cv l) (b : Below W.heap.size W W') : Ch2 w1 W' A m tg v8 cv l :=
  ⟨h.blt.below b, own_below h.keys b, own_below h.turn b, h.ne, h.bel.trans (b.mono (Nat.le_of_lt (Nat.lt_of_le_of_lt (h.turn.lt tg rfl).1 (h.turn.lt tg rfl).2)))⟩
theorem swap_mem (l : List Int) (x y : Nat) (hx : x < l.length) (hy : y < l.length) : ∀ v, v ∈ (l.set x (l.getD y 0)).set y (l.getD x 0) ↔ v ∈ l := by
  have ex : l.getD x 0 = l[x] := by rw [List.getD_eq_getElem?_getD, List.getElem?_eq_getElem hx]; rfl
  have ey : l.getD y 0 = l[y] := by rw [List.getD_eq_getElem?_getD, List.getElem?_eq_getElem hy]; rfl
  rw [ex, ey]
  intro v
  constructor
  · intro hv
    rcases List.mem_or_eq_of_mem_set hv with hv | rfl
    · rcases List.mem_or_eq_of_mem_set hv with hv | rfl
      · exact hv
      · exact List.getElem_mem _
    · exact List.getElem_mem _
  · intro hv
    obtain ⟨k, hk, rfl⟩ := List.getElem_of_mem hv
    by_cases h1 : k = x
    · subst h1
      exact List.mem_iff_getElem.2 ⟨y, by simpa using hy, by simp⟩
    · by_cases h2 : k = y
      · subst h2
        exact List.mem_iff_getElem.2 ⟨x, by simpa using hx, by rw [List.getElem_set_ne (fun e => h1 e), List.getElem_set_self]⟩
      · exact List.mem_iff_getElem.2 ⟨k, by simpa using hk, by rw [List.getElem_set_ne (fun e => h2 e.symm), List.getElem_set_ne (fun e => h1 e.symm)]⟩
/-- The tables are being made, each a root. -/
structure Ch3 (w1 W : World) (A m tg : Nat) (v8 cv rv : Value) (l : List Int) (ds : List De) (ro : List Int) : Prop where
  blt : Built True W A cv nil0 rv ds ro
  keys : W.ownsRow A 3 1 v8 (m + 1) (numCells (upto (m + 1)))
  turn : W.ownsRow A 3 1 (.slice (some ⟨tg, 0, none⟩) m m) m (numCells l)
  ne : v8.ownBlock ≠ some tg
  ne2 : ∀ g, rv.ownBlock = some g → g ≠ tg ∧ v8.ownBlock ≠ some g
  bel : Below A w1 W
theorem Ch3.upd {w1 W W' : World} {A m tg : Nat} {v8 cv rv : Value} {l : List Int} {ds : List De} {ro : List Int} (h : Ch3 w1 W A m tg v8 cv rv l ds ro) (b : Below W.heap.size W W') : Ch3 w1 W' A m tg v8 cv rv l ds ro :=
  ⟨h.blt.below b, own_below h.keys b, own_below h.turn b, h.ne, h.ne2, h.bel.trans (b.mono (Nat.le_of_lt (Nat.lt_of_le_of_lt (h.turn.lt tg rfl).1 (h.turn.lt tg rfl).2)))⟩
theorem Ch3.made {w1 W W' : World} {A m tg : Nat} {v8 cv cv' rv : Value} {l : List Int} {ds ds' : List De} {ro : List Int} (h : Ch3 w1 W A m tg v8 cv rv l ds ro) (hB : Built True W' A cv' nil0 rv ds' ro) (u : Upd W W' (fun k => k = A ∨ cv.ownBlock = some k)) (hc : ∀ g, cv.ownBlock = some g → A ≤ g ∧ ∃ c fz, W.heap[g]? = some (.cells c 66 fz)) : Ch3 w1 W' A m tg v8 cv' rv l ds' ro := by
  obtain ⟨cA, hbA⟩ := h.blt.blkA
  have far : ∀ {n : Nat} {v : Value} {xs : List Value}, W.ownsRow A 3 1 v n xs → W'.ownsRow A 3 1 v n xs := fun hv => u.own hv (fun g hg e => by
    rcases e with rfl | e
    · exact own_blk hv hbA (by decide) hg
    · exact ne_cells hv (hc g e).2 (by decide) hg)
  exact ⟨hB, far h.keys, far h.turn, h.ne, h.ne2, h.bel.trans (u.below (Nat.le_of_lt hbA.lt) (fun k e => by
    rcases e with rfl | e
    · exact Nat.le_refl _
    · exact (hc k e).1))⟩
theorem Ch3.pushed {w1 W W' : World} {A m tg : Nat} {v8 cv rv rv' : Value} {l : List Int} {ds : List De} {ro ro' : List Int} (h : Ch3 w1 W A m tg v8 cv rv l ds ro) (hB : Built True W' A cv nil0 rv' ds ro') (u : Upd W W' (fun k => k = A ∨ rv.ownBlock = some k)) (hr : ∀ g, rv'.ownBlock = some g → rv.ownBlock = some g ∨ W.heap.size ≤ g) : Ch3 w1 W' A m tg v8 cv rv' l ds ro' := by
  obtain ⟨cA, hbA⟩ := h.blt.blkA
  obtain ⟨cs, nd, hA, _⟩ := h.blt
  refine ⟨hB, u.own h.keys (fun g hg e => ?_), u.own h.turn (fun g hg e => ?_), h.ne, fun g hg => ?_, h.bel.trans (u.below (Nat.le_of_lt hbA.lt) (fun k e => ?_))⟩
  · rcases e with rfl | e
    · exact own_blk h.keys hbA (by decide) hg
    · exact (h.ne2 g e).2 hg
  · obtain rfl : tg = g := by simpa [Value.ownBlock] using hg
    rcases e with e | e
    · exact own_blk h.turn hbA (by decide) (by rw [← e]; rfl)
    · exact (h.ne2 tg e).1 rfl
  · rcases hr g hg with q | q
    · exact h.ne2 g q
    · exact ⟨fun e => by have := (h.turn.lt tg rfl).2; omega, fun e => by have := (h.keys.lt g e).2; omega⟩
  · rcases e with rfl | e
    · exact Nat.le_refl _
    · exact (hA.ar.roots.lt k e).1
set_option maxHeartbeats 4000000 in
set_option maxRecDepth 100000 in
theorem chains_walk (n : Int) (oa : Option Addr) (on ocap : Nat) (ol : List Int) (held : Bool) (w : World) (ho : ArgR w oa on ol) (hn0 : -9223372036854775808 ≤ n) (hn1 : n ≤ 9223372036854775807) :
    Calls Try.prog 3 #[.int .i64 n, .slice oa on ocap, .bool held] w fun e w' => e = .returned (.bool true) ∧ Below w.heap.size w w' := by
  obtain ⟨i0, hi, hz0, hz1, hz2⟩ := info_parts infoInt
  obtain ⟨p, hp, p1⟩ := norm_mod n 30 (by decide) (by decide)
  obtain ⟨m, hm⟩ : ∃ m : Nat, p + 1 = m := ⟨_, rfl⟩
  have t2 : wrap64 ((p : Int) + 1) = (m : Int) := by rw [IntWalk.wrap64_in _ (by omega), ← hm]; rfl
  have t2b : IntKind.i64.wrap ((p : Int) + 1) = (m : Int) := by rw [IntWalk.i64_in _ (by omega), ← hm]; rfl
  have t3b : wrap64 ((m : Int) + 1) = (m : Int) + 1 := IntWalk.wrap64_in _ (by omega)
  have t3 : IntKind.i64.wrap ((m : Int) + 1) = (m : Int) + 1 := IntWalk.i64_in _ (by omega)
  have hm1 : 1 ≤ m := by omega
  have hm2 : m ≤ 30 := by omega
  clear hn0 hn1 hm p1
  have HA := Lib.hid ho
  clear ho
  go_enter Try.func3, Try.ntmps3
  go_wp2_with fail
  refine (fit_any _).mono ?_
  rintro e w1 ⟨rfl, b1⟩
  by_cases hol : on ≤ 100
  · have L0 : decide ((100 : Int) < (on : Int)) = false := by rw [decide_eq_false_iff_not]; omega
    go_wp2_with fail
    refine (new_any w1).mono ?_
    rintro e w2 ⟨rfl, rfl⟩
    have hst : Ch1 w1 (w1.alloc (.cells #[nil0, nil0, nil0, .int .i64 0] 64)) w1.heap.size 0 nil0 nil0 := ⟨built_new True w1, World.ownsRow_nil _ _ _ _, (Below.refl _ _).alloc (Nat.le_refl _) _⟩
    obtain ⟨A, hA⟩ : ∃ A, w1.heap.size = A := ⟨_, rfl⟩
    rw [hA] at hst ⊢
    have HB := Lib.hid (And.intro b1 hA)
    clear b1 hA hp t2 t2b
    generalize w1.alloc (.cells #[nil0, nil0, nil0, .int .i64 0] 64) = w2 at *
    go_wp2_with fail
    go_loopw [8, 31] (fun v8 v wr => ∃ k : Nat, k ≤ m + 1 ∧ v = .int .i64 k ∧ ∃ cv, Ch1 w1 wr A k v8 cv) (fun _ v _ => (m + 1) - (intOf v).toNat)
    case atStart => exact ⟨0, by omega, rfl, nil0, hst⟩
    case round =>
      obtain ⟨k, hk, rfl, cv, hC⟩ := hrel
      by_cases hlt : k < m + 1
      · have L1 : decide ((k : Int) < (m : Int) + 1) = true := by rw [decide_eq_true_eq]; omega
        have a1 : IntKind.i64.wrap ((k : Int) + 1) = ((k + 1 : Nat) : Int) := by rw [IntWalk.i64_in _ (by omega)]; rfl
        have hmk := built_make hC.blt ((Below.refl _ _).alloc (Nat.le_refl _) (.cells (ndC nil0 nil0 nil0 0) 30)) wr.heap.size nil0 [] (Blk.new wr _ _) (World.ownsRow_nil _ _ _ _) (Nat.le_refl _) (by simp; omega)
        rw [List.length_replicate] at hmk
        have hown := hC.keys
        have HC := Lib.hid hC
        clear hC
        go_wp2_with fail
        refine hmk.mono ?_
        rintro e W3 ⟨rfl, cv3, hB3, hu3, hc3⟩
        obtain ⟨cA, hbA⟩ := HC.out.blt.blkA
        have own3 := hu3.own (hown.alloc (.cells (ndC nil0 nil0 nil0 0) 30)) (fun g hg e => by
          rcases e with rfl | e
          · exact own_blk hown hbA (by decide) hg
          · exact ne_cells (hown.alloc (.cells (ndC nil0 nil0 nil0 0) 30)) (hc3 g e).2 (by decide) hg)
        have bel3 : Below A w1 W3 := (HC.out.bel.alloc (Nat.le_of_lt hbA.lt) (.cells (ndC nil0 nil0 nil0 0) 30)).trans (hu3.below (by simp; have := hbA.lt; omega) (fun k e => by
          rcases e with rfl | e
          · exact Nat.le_refl _
          · exact (hc3 k e).1))
        have hAl3 : A ≤ W3.heap.size := Nat.le_trans (Nat.le_of_lt hbA.lt) (by have := hu3.size; simp at this; omega)
        have hnews := World.news_of_block (cs := #[.int .i64 ((k + 1 : Nat) : Int)]) (t := 3) (fr := (0, 0)) (heap_alloc_new W3 (.cells #[.int .i64 ((k + 1 : Nat) : Int)] 3))
        have H3 := Lib.hid (And.intro hB3 bel3)
        clear hB3 bel3 hu3 hc3 hmk hbA hown
        go_wp2_with (at_builtin; refine wpList_append_lies _ rfl _ _ 22 rfl A 3 i0 _ 1 8 Try.underlying22 hi hz0 hz1 hz2 rfl (by decide) _ _ _ rfl (own3.alloc _) ⟨W3.heap.size, 0, none⟩ 1 1 [.int .i64 ((k + 1 : Nat) : Int)] rfl rfl hnews (by simp [Value.oneCell']) (by decide) (by unfold maxLen; omega) (by omega) (by simp; omega) _ rfl ?_)
        intro gq capq W4 hown4 hgrow4 hat4 hlt4
        have hU4 : Upd W3 W4 (fun j => u8.ownBlock = some j) := ((Upd.refl W3 _).alloc _).grown hgrow4 (fun j e => e)
        have hFin : ∃ cv, Ch1 w1 W4 A (k + 1) (.slice (some ⟨gq, 0, none⟩) (k + 1) capq) cv := by
          refine ⟨cv3, ?_, ?_, H3.out.2.trans (hU4.below hAl3 (fun j e => (own3.lt j e).1))⟩
          · rw [List.replicate_succ']
            exact H3.out.1.row own3 hU4 (fun g _ => ⟨by simp [Value.ownBlock], by simp [Value.ownBlock]⟩)
          · rw [upto_succ, numCells_append]
            exact hown4
        have HF := Lib.hid hFin
        clear hFin hU4 hown4 hgrow4 hat4 hlt4 hnews own3
        go_wp2
        go_roundw
        case rel => exact ⟨k + 1, by omega, by first | rfl | rw [Int.natCast_add], HF.out⟩
        case measure => simp only [intOf]; omega
      · obtain rfl : k = m + 1 := by omega
        have L1 : decide (((m + 1 : Nat) : Int) < (m : Int) + 1) = false := by rw [decide_eq_false_iff_not]; omega
        have L1b : decide ((m : Int) + 1 < (m : Int) + 1) = false := by simp
        have HC := Lib.hid hC
        clear hC hst
        have hAw : A ≤ wr.heap.size := by
          obtain ⟨c, hb⟩ := HC.out.blt.blkA
          exact Nat.le_of_lt hb.lt
        go_wp2_with (at_make; refine wpList_make_full _ rfl _ _ 22 rfl A 3 i0 (.int .i64 0) 1 Try.underlying22 hi hz0 hz1 .i64 .i64 _ _ m rfl rfl (by first | rfl | omega) (by first | rfl | omega) (by rw [hz2]; omega) (by unfold maxLen; omega) hAw ?_)
        intro W3 hown3 hg3
        have hb3 : Below wr.heap.size wr W3 := (Below.refl wr.heap.size wr).grown hg3 (Nat.le_refl _) (fun k hk => by cases hk)
        have hC2 : Ch2 w1 W3 A m wr.heap.size u8 cv (idx 0 ++ List.replicate m 0) := by
          refine ⟨HC.out.blt.below hb3, own_below HC.out.keys hb3, ?_, fun e => ?_, HC.out.bel.trans (hb3.mono hAw)⟩
          · have e : numCells (idx 0 ++ List.replicate m 0) = (madeCells #[.int .i64 0] m).toList := by
              rw [toList_madeCells_one]; simp [idx, numCells]
            rw [e]; exact hown3
          · exact absurd (HC.out.keys.lt _ e).2 (Nat.lt_irrefl _)
        obtain ⟨tg, htg⟩ : ∃ tg, wr.heap.size = tg := ⟨_, rfl⟩
        rw [htg] at hC2 ⊢
        clear hown3 hg3 hb3 hAw htg
        go_wp2_with fail
        go_loopw [46] (fun v wr => ∃ k : Nat, k ≤ m ∧ v = .int .i64 k ∧ Ch2 w1 wr A m tg u8 cv (idx k ++ List.replicate (m - k) 0)) (fun v _ => m - (intOf v).toNat)
        case atStart => exact ⟨0, by omega, rfl, hC2⟩
        case round =>
          obtain ⟨k, hk, rfl, hC⟩ := hrel
          by_cases hlt : k < m
          · have L1 : decide ((k : Int) < (m : Int)) = true := by rw [decide_eq_true_eq]; omega
            have a1 : IntKind.i64.wrap ((k : Int) + 1) = ((k + 1 : Nat) : Int) := by rw [IntWalk.i64_in _ (by omega)]; rfl
            have z0 : (0 : Int) ≤ k := by omega
            have z1 : (k : Int) < m := by omega
            have z2 : (k : Int).toNat = k := by omega
            have c0 := (hC.turn.cellAt k (show k < m * 1 by omega)).trans (numCells_get _ k (by simp [idx]; omega))
            have fz := hC.turn.frozenAt k
            have hgl := (hC.turn.lt tg rfl).2
            have hset := hC.set k (k : Int)
            have he : (idx k ++ List.replicate (m - k) 0).set k (k : Int) = idx (k + 1) ++ List.replicate (m - (k + 1)) 0 := by
              rw [List.set_append_right _ _ (by rw [idx_len]; exact Nat.le_refl _), idx_len, Nat.sub_self, show m - k = (m - (k + 1)) + 1 by omega, List.replicate_succ, List.set_cons_zero, idx_succ, List.append_assoc]
              rfl
            rw [he] at hset
            have HF := Lib.hid hset
            clear hset he hC
            go_wp2
            go_roundw
            case rel => exact ⟨k + 1, by omega, by first | rfl | rw [Int.natCast_add], HF.out⟩
            case measure => simp only [intOf]; omega
          · obtain rfl : m = k := by omega
            have L1 : decide ((m : Int) < (m : Int)) = false := by simp
            rw [Nat.sub_self, List.replicate_zero, List.append_nil] at hC
            have HC2 := Lib.hid hC
            clear hC hC2 HC
            go_wp2_with fail
            go_loopw [56] (fun v wr => ∃ k : Nat, k ≤ on ∧ v = .int .i64 k ∧ ∃ l, l.length = m ∧ (∀ x, x ∈ l ↔ x ∈ idx m) ∧ Ch2 w1 wr A m tg u8 cv l) (fun v _ => on - (intOf v).toNat)
            case atStart => exact ⟨0, by omega, rfl, idx m, idx_len m, fun x => Iff.rfl, HC2.out⟩
            case round =>
              obtain ⟨k, hk, rfl, l, hl, hmem, hC⟩ := hrel
              by_cases hlt : k < on
              · have L1 : decide ((k : Int) < (on : Int)) = true := by rw [decide_eq_true_eq]; omega
                have a1 : IntKind.i64.wrap ((k : Int) + 1) = ((k + 1 : Nat) : Int) := by rw [IntWalk.i64_in _ (by omega)]; rfl
                obtain ⟨ob, off, rfl, hob, hoc⟩ := HA.out.2.2 (by omega)
                have c0 : wr.cell? ⟨ob, off + k, none⟩ = some (.int .i64 (ol.getD k 0)) := by
                  have h1 := HB.out.1.cell (p := ⟨ob, off + k, none⟩) hob
                  have h2 := hC.bel.cell (p := ⟨ob, off + k, none⟩) (by have := HB.out.1.size; have := HB.out.2; show ob < A; omega)
                  rw [h2, h1, hoc k hlt]
                generalize ol.getD k 0 = o at *
                obtain ⟨y, hy, hy2⟩ := norm_mod o m (by omega) (by omega)
                obtain ⟨x, hx, hx2⟩ : ∃ x : Nat, (k : Int).tmod m = x ∧ (x : Int) < m := by
                  rw [Int.tmod_eq_emod_of_nonneg (by omega)]
                  have h3 := Int.emod_nonneg (k : Int) (by omega : (m : Int) ≠ 0)
                  have h4 := Int.emod_lt_of_pos (k : Int) (by omega : (0 : Int) < m)
                  exact ⟨((k : Int) % m).toNat, by omega, by omega⟩
                have z0 : (0 : Int) ≤ k := by omega
                have z1 : (k : Int) < on := by omega
                have z2 : (k : Int).toNat = k := by omega
                have m0 : ¬ (m : Int) = 0 := by omega
                have m0' : ((m : Int) == 0) = false := by rw [beq_eq_false_iff_ne]; omega
                have hy3 : (IntKind.i64.wrap (o.tmod m + m)).tmod m = (y : Int) := by
                  rw [IntWalk.i64_in _ (by have := Int.tmod_lt_of_pos o (show (0 : Int) < m by omega); have := Int.lt_tmod_of_pos o (show (0 : Int) < m by omega); omega)]
                  rw [IntWalk.wrap64_in _ (by have := Int.tmod_lt_of_pos o (show (0 : Int) < m by omega); have := Int.lt_tmod_of_pos o (show (0 : Int) < m by omega); omega)] at hy
                  exact hy
                have HC := Lib.hid (And.intro hl (And.intro hmem hC))
                clear hl hmem hC hoc
                go_wp2_with fail
                go_quiet (fail)
                go_wp2_with fail
                have hC3 := HC.out.2.2.upd (below_drewN (Below.refl _ _) nq)
                obtain ⟨W4, hW4⟩ : ∃ W4, wr.drewN nq = W4 := ⟨_, rfl⟩
                rw [hW4] at hC3 ⊢
                clear hW4 c0 hy hy3 hx
                have hl4 := HC.out.1
                have cx := (hC3.turn.cellAt x (show x < m * 1 by omega)).trans (numCells_get _ x (by omega))
                have cy := (hC3.turn.cellAt y (show y < m * 1 by omega)).trans (numCells_get _ y (by omega))
                have fx := hC3.turn.frozenAt x
                have fy := hC3.turn.frozenAt y
                have hgl := (hC3.turn.lt tg rfl).2
                have x0 : (0 : Int) ≤ x := by omega
                have x1 : (x : Int).toNat = x := by omega
                have y0 : (0 : Int) ≤ y := by omega
                have y1 : (y : Int).toNat = y := by omega
                have hsm := swap_mem l x y (by omega) (by omega)
                obtain ⟨X, hX⟩ : ∃ X, l.getD x 0 = X := ⟨_, rfl⟩
                obtain ⟨Y, hY⟩ : ∃ Y, l.getD y 0 = Y := ⟨_, rfl⟩
                rw [hX] at cx hsm
                rw [hY] at cy hsm
                have hC5 := hC3.set x Y
                have cy2 := (hC5.turn.cellAt y (show y < m * 1 by omega)).trans (numCells_get _ y (by rw [List.length_set]; omega))
                have fy2 := hC5.turn.frozenAt y
                have hC6 := ((hC3.upd (below_drewN (Below.refl _ _) 1)).set x Y).set y X
                generalize (l.set x Y).getD y 0 = Z at *
                have H6 := Lib.hid (And.intro hC6 (And.intro hsm hl4))
                clear hl4 hC3 hC5 hC6 hsm hX hY
                go_region
                all_goals
                  go_wp2_with fail
                  go_roundw
                  case rel => exact ⟨k + 1, by omega, by first | rfl | rw [Int.natCast_add], _, by rw [List.length_set, List.length_set]; exact H6.out.2.2, fun v => (H6.out.2.1 v).trans (HC.out.2.1 v), H6.out.1⟩
                  case measure => simp only [intOf]; omega
              · obtain rfl : on = k := by omega
                have L1 : decide ((on : Int) < (on : Int)) = false := by simp
                have HC3 := Lib.hid (And.intro hl (And.intro hmem hC))
                have c9 : True := trivial
                clear hl hmem hC HC2
                go_wp2_with fail
                go_loopw [88] (fun v wr => ∃ k : Nat, k ≤ m ∧ v = .int .i64 k ∧ ∃ cv rv, Ch3 w1 wr A m tg u8 cv rv l (List.replicate (m + 1) ([], []) ++ tabs (l.take k)) (rts m k)) (fun v _ => m - (intOf v).toNat)
                case atStart => exact ⟨0, by omega, rfl, cv, nil0, ⟨by simpa [tabs, rts] using HC3.out.2.2.blt, HC3.out.2.2.keys, HC3.out.2.2.turn, HC3.out.2.2.ne, fun g hg => by simp [Value.ownBlock] at hg, HC3.out.2.2.bel⟩⟩
                case round =>
                  obtain ⟨k, hk, rfl, cv2, rv2, hC⟩ := hrel
                  by_cases hlt : k < m
                  · have L1 : decide ((k : Int) < (m : Int)) = true := by rw [decide_eq_true_eq]; omega
                    have a1 : IntKind.i64.wrap ((k : Int) + 1) = ((k + 1 : Nat) : Int) := by rw [IntWalk.i64_in _ (by omega)]; rfl
                    have z0 : (0 : Int) ≤ k := by omega
                    have z1 : (k : Int) < m := by omega
                    have z2 : (k : Int).toNat = k := by omega
                    have hkl : k < l.length := by rw [HC3.out.1]; exact hlt
                    have c0 := (hC.turn.cellAt k (show k < m * 1 by omega)).trans (numCells_get l k hkl)
                    have htk : l.take (k + 1) = l.take k ++ [l.getD k 0] := by rw [List.take_succ_eq_append_getElem hkl, List.getD_eq_getElem?_getD, List.getElem?_eq_getElem hkl]; rfl
                    obtain ⟨i, hiM, hlk⟩ : ∃ i : Nat, i < m ∧ l.getD k 0 = i := by
                      have h1 : l.getD k 0 ∈ l := by rw [List.getD_eq_getElem?_getD, List.getElem?_eq_getElem hkl]; exact List.getElem_mem _
                      obtain ⟨i, hi, e⟩ := List.mem_map.1 ((HC3.out.2.1 _).1 h1)
                      exact ⟨i, List.mem_range.1 hi, e.symm⟩
                    rw [hlk] at c0 htk
                    have HC := Lib.hid (And.intro hC htk)
                    have hsz := hC.turn.lt tg rfl
                    clear hC htk hlk
                    have i0' : (0 : Int) ≤ i := by omega
                    have i1 : (i : Int) < ((m + 1 : Nat) : Int) := by omega
                    have i1' : (i : Int) < (m : Int) + 1 := by omega
                    have i2 : (i : Int).toNat = i := by omega
                    have i3 : IntKind.i64.wrap ((i : Int) + 1) = ((i + 1 : Nat) : Int) := by rw [IntWalk.i64_in _ (by omega)]; rfl
                    have i4 : (0 : Int) ≤ ((i + 1 : Nat) : Int) := by omega
                    have i5 : ((i + 1 : Nat) : Int) < ((m + 1 : Nat) : Int) := by omega
                    have i5' : (i : Int) + 1 < (m : Int) + 1 := by omega
                    have i6 : ((i + 1 : Nat) : Int).toNat = i + 1 := by omega
                    have i6' : ((i : Int) + 1).toNat = i + 1 := by omega
                    have i7 : (0 : Int) ≤ (i : Int) + 1 := by omega
                    go_wp2_with fail
                    obtain ⟨ka, kcap, rfl, hka⟩ := own_shape HC.out.1.keys
                    obtain ⟨kg, rfl⟩ := hka (by omega)
                    refine wp_region_till (m := 12) (S := (fun W => W.cell? ⟨kg, i, none⟩ = some (.int .i64 ((i : Int) + 1)) ∧ W.cell? ⟨kg, i + 1, none⟩ = some (.int .i64 ((i : Int) + 2)))) (by kernel_rfl) ?_
                    have hC2 := HC.out.1.upd (below_drewN (Below.refl _ _) 1)
                    have eW : wr.drewN 1 = wr.drew := rfl
                    rw [eW] at hC2
                    clear c0 eW
                    obtain ⟨D, hD⟩ : ∃ D, wr.drew = D := ⟨_, rfl⟩
                    have hsD : D.heap.size = wr.heap.size := by rw [← hD]; rfl
                    rw [hD] at hC2 ⊢
                    clear hD
                    have d0 := (hC2.keys.cellAt i (show i < (m + 1) * 1 by omega)).trans (numCells_get _ i (by rw [upto_len]; omega))
                    have d1 := (hC2.keys.cellAt (i + 1) (show i + 1 < (m + 1) * 1 by omega)).trans (numCells_get _ (i + 1) (by rw [upto_len]; omega))
                    rw [show (upto (m + 1)).getD i 0 = (i : Int) + 1 by simp [upto, List.getD_eq_getElem?_getD, List.getElem?_range (show i < m + 1 by omega)]] at d0
                    rw [show (upto (m + 1)).getD (i + 1) 0 = (i : Int) + 2 by simp [upto, List.getD_eq_getElem?_getD, List.getElem?_range (show i + 1 < m + 1 by omega)]; omega] at d1
                    have H2 := Lib.hid hC2
                    clear hC2
                    change tillH _ _ _ _ _ _ 19 #[false, false, false, false, false, false, false, false, false, false, false, false, false, false, false, false, false, false, false] _ _
                    refine tillH_takeAny (i := 0) (oi := ?oo1) (v := ?vv1) ?hi1 (by kernel_rfl) (by kernel_rfl) (by kernel_rfl) ?hq1 (by kernel_rfl) ?hy1 (fun _ => ⟨d0, d1⟩) ?hh1
                    case hi1 => (simp only [List.getElem?_toArray, List.getElem?_cons_succ, List.getElem?_cons_zero]; rfl)
                    case hq1 => exact fun _ _ _ h => h
                    case hy1 => exact Or.inl ⟨by rfl, by (intro W; go_simp; (try with_reducible rfl))⟩
                    (try simp only [Act.put, List.setIfInBounds_toArray, List.set_cons_zero, List.set_cons_succ])
                    refine tillH_takeAny (i := 1) (oi := ?oo2) (v := ?vv2) ?hi2 (by kernel_rfl) (by kernel_rfl) (by kernel_rfl) ?hq2 (by kernel_rfl) ?hy2 (fun _ => ⟨d0, d1⟩) ?hh2
                    case hi2 => (simp only [List.getElem?_toArray, List.getElem?_cons_succ, List.getElem?_cons_zero]; rfl)
                    case hq2 => exact fun _ _ _ h => h
                    case hy2 => exact Or.inl ⟨by rfl, by (intro W; go_simp; (try with_reducible rfl))⟩
                    (try simp only [Act.put, List.setIfInBounds_toArray, List.set_cons_zero, List.set_cons_succ])
                    refine tillH_takeAny (i := 2) (oi := ?oo3) (v := ?vv3) ?hi3 (by kernel_rfl) (by kernel_rfl) (by kernel_rfl) ?hq3 (by kernel_rfl) ?hy3 (fun _ => ⟨d0, d1⟩) ?hh3
                    case hi3 => (simp only [List.getElem?_toArray, List.getElem?_cons_succ, List.getElem?_cons_zero]; rfl)
                    case hq3 => exact fun _ _ _ h => h
                    case hy3 => exact Or.inl ⟨by rfl, by (intro W; go_simp; (try with_reducible rfl))⟩
                    (try simp only [Act.put, List.setIfInBounds_toArray, List.set_cons_zero, List.set_cons_succ])
                    refine tillH_takeAny (i := 3) (oi := ?oo4) (v := ?vv4) ?hi4 (by kernel_rfl) (by kernel_rfl) (by kernel_rfl) ?hq4 (by kernel_rfl) ?hy4 (fun _ => ⟨d0, d1⟩) ?hh4
                    case hi4 => (simp only [List.getElem?_toArray, List.getElem?_cons_succ, List.getElem?_cons_zero]; rfl)
                    case hq4 => exact fun _ _ _ h => h
                    case hy4 => exact Or.inl ⟨by rfl, by (intro W; go_simp; (try with_reducible rfl))⟩
                    (try simp only [Act.put, List.setIfInBounds_toArray, List.set_cons_zero, List.set_cons_succ])
                    refine tillH_takeAny (i := 4) (oi := ?oo5) (v := ?vv5) ?hi5 (by kernel_rfl) (by kernel_rfl) (by kernel_rfl) ?hq5 (by kernel_rfl) ?hy5 (fun _ => ⟨d0, d1⟩) ?hh5
                    case hi5 => (simp only [List.getElem?_toArray, List.getElem?_cons_succ, List.getElem?_cons_zero]; rfl)
                    case hq5 => exact fun _ _ _ h => h
                    case hy5 => exact Or.inl ⟨by rfl, by (intro W; go_simp; (try with_reducible rfl))⟩
                    (try simp only [Act.put, List.setIfInBounds_toArray, List.set_cons_zero, List.set_cons_succ])
                    refine tillH_take2 11 (i := 5) (oi := ?oo6) (v := ?vv6) ?hi6 (by kernel_rfl) (by kernel_rfl) (by kernel_rfl) ?hq6 (by kernel_rfl) (by kernel_rfl) (by kernel_rfl) ?hy6 ⟨d0, d1⟩ ?hh6
                    case hi6 => (simp only [List.getElem?_toArray, List.getElem?_cons_succ, List.getElem?_cons_zero]; rfl)
                    case hq6 => exact fun _ _ _ h => h
                    case hy6 => exact Or.inl ⟨by rfl, by (intro W hSw; (try obtain ⟨s0, s1⟩ := hSw); go_simp; (try with_reducible rfl))⟩
                    (try simp only [Act.put, List.setIfInBounds_toArray, List.set_cons_zero, List.set_cons_succ])
                    refine tillH_takeAny (i := 6) (oi := ?oo7) (v := ?vv7) ?hi7 (by kernel_rfl) (by kernel_rfl) (by kernel_rfl) ?hq7 (by kernel_rfl) ?hy7 (fun _ => ⟨d0, d1⟩) ?hh7
                    case hi7 => (simp only [List.getElem?_toArray, List.getElem?_cons_succ, List.getElem?_cons_zero]; rfl)
                    case hq7 => exact fun _ _ _ h => h
                    case hy7 => exact Or.inl ⟨by rfl, by (intro W; go_simp; (try with_reducible rfl))⟩
                    (try simp only [Act.put, List.setIfInBounds_toArray, List.set_cons_zero, List.set_cons_succ])
                    refine tillH_takeAny (i := 7) (oi := ?oo8) (v := ?vv8) ?hi8 (by kernel_rfl) (by kernel_rfl) (by kernel_rfl) ?hq8 (by kernel_rfl) ?hy8 (fun _ => ⟨d0, d1⟩) ?hh8
                    case hi8 => (simp only [List.getElem?_toArray, List.getElem?_cons_succ, List.getElem?_cons_zero]; rfl)
                    case hq8 => exact fun _ _ _ h => h
                    case hy8 => exact Or.inl ⟨by rfl, by (intro W; go_simp; (try with_reducible rfl))⟩
                    (try simp only [Act.put, List.setIfInBounds_toArray, List.set_cons_zero, List.set_cons_succ])
                    refine tillH_takeAny (i := 8) (oi := ?oo9) (v := ?vv9) ?hi9 (by kernel_rfl) (by kernel_rfl) (by kernel_rfl) ?hq9 (by kernel_rfl) ?hy9 (fun _ => ⟨d0, d1⟩) ?hh9
                    case hi9 => (simp only [List.getElem?_toArray, List.getElem?_cons_succ, List.getElem?_cons_zero]; rfl)
                    case hq9 => exact fun _ _ _ h => h
                    case hy9 => exact Or.inl ⟨by rfl, by (intro W; go_simp; (try with_reducible rfl))⟩
                    (try simp only [Act.put, List.setIfInBounds_toArray, List.set_cons_zero, List.set_cons_succ])
                    refine tillH_takeAny (i := 9) (oi := ?oo10) (v := ?vv10) ?hi10 (by kernel_rfl) (by kernel_rfl) (by kernel_rfl) ?hq10 (by kernel_rfl) ?hy10 (fun _ => ⟨d0, d1⟩) ?hh10
                    case hi10 => (simp only [List.getElem?_toArray, List.getElem?_cons_succ, List.getElem?_cons_zero]; rfl)
                    case hq10 => exact fun _ _ _ h => h
                    case hy10 => exact Or.inl ⟨by rfl, by (intro W; go_simp; (try with_reducible rfl))⟩
                    (try simp only [Act.put, List.setIfInBounds_toArray, List.set_cons_zero, List.set_cons_succ])
                    refine tillH_take2 11 (i := 10) (oi := ?oo11) (v := ?vv11) ?hi11 (by kernel_rfl) (by kernel_rfl) (by kernel_rfl) ?hq11 (by kernel_rfl) (by kernel_rfl) (by kernel_rfl) ?hy11 ⟨d0, d1⟩ ?hh11
                    case hi11 => (simp only [List.getElem?_toArray, List.getElem?_cons_succ, List.getElem?_cons_zero]; rfl)
                    case hq11 => exact fun _ _ _ h => h
                    case hy11 => exact Or.inl ⟨by rfl, by (intro W hSw; (try obtain ⟨s0, s1⟩ := hSw); go_simp; (try with_reducible rfl))⟩
                    (try simp only [Act.put, List.setIfInBounds_toArray, List.set_cons_zero, List.set_cons_succ])
                    refine tillH_takeAny (i := 11) (oi := ?oo12) (v := ?vv12) ?hi12 (by kernel_rfl) (by kernel_rfl) (by kernel_rfl) ?hq12 (by kernel_rfl) ?hy12 (fun _ => ⟨d0, d1⟩) ?hh12
                    case hi12 => (simp only [List.getElem?_toArray, List.getElem?_cons_succ, List.getElem?_cons_zero]; rfl)
                    case hq12 => exact fun _ _ _ h => h
                    case hy12 => exact Or.inl ⟨by rfl, by (intro W; go_simp; (try with_reducible rfl))⟩
                    (try simp only [Act.put, List.setIfInBounds_toArray, List.set_cons_zero, List.set_cons_succ])
                    clear d0 d1
                    refine tillH_next (rs := [12]) (by kernel_rfl) (by simp) ?_
                    refine NextH.cons rfl (fun K hK => ?_) NextH.nil
                    go_simp
                    refine hK.out _ _ (fun h => absurd h (by simp)) ?_
                    clear hK K
                    (try simp only [Act.put, List.setIfInBounds_toArray, List.set_cons_zero, List.set_cons_succ])
                    refine tillH_next (rs := [13]) (by kernel_rfl) (by simp) ?_
                    refine NextH.cons rfl (fun K hK => ?_) NextH.nil
                    go_simp
                    refine hK.out _ _ (fun h => absurd h (by simp)) ?_
                    clear hK K
                    (try simp only [Act.put, List.setIfInBounds_toArray, List.set_cons_zero, List.set_cons_succ])
                    refine tillH_next (rs := [14]) (by kernel_rfl) (by simp) ?_
                    refine NextH.cons rfl (fun K hK => ?_) NextH.nil
                    go_simp
                    refine hK.out _ _ (fun h => absurd h (by simp)) ?_
                    clear hK K
                    (try simp only [Act.put, List.setIfInBounds_toArray, List.set_cons_zero, List.set_cons_succ])
                    refine tillH_next (rs := [15]) (by kernel_rfl) (by simp) ?_
                    refine NextH.cons rfl (fun K hK => ?_) NextH.nil
                    go_simp
                    refine hK.out _ _ (fun h => absurd h (by simp)) ?_
                    clear hK K
                    (try simp only [Act.put, List.setIfInBounds_toArray, List.set_cons_zero, List.set_cons_succ])
                    refine tillH_next (rs := [16]) (by kernel_rfl) (by simp) ?_
                    refine NextH.cons rfl (fun K hK => ?_) NextH.nil
                    go_simp
                    have hsz2 : wr.heap.size = D.heap.size := hsD.symm
                    rw [hsz2]
                    have bD := ((Below.refl D.heap.size D).alloc (Nat.le_refl _) (.cells #[.int .i64 ((i : Int) + 1), .int .i64 ((i : Int) + 2)] 32)).alloc (by simp) (.cells (ndC nil0 (.slice (some ⟨D.heap.size, 0, none⟩) 1 1) nil0 0) 30)
                    have hrow := (World.ownsRow_lit (base := A) (size := 2) (e := 32) D #[.int .i64 ((i : Int) + 1), .int .i64 ((i : Int) + 2)] 1 (by omega) (by decide) rfl).alloc (.cells (ndC nil0 (.slice (some ⟨D.heap.size, 0, none⟩) 1 1) nil0 0) 30)
                    have hblk := Blk.new (D.alloc (.cells #[.int .i64 ((i : Int) + 1), .int .i64 ((i : Int) + 2)] 32)) 30 (ndC nil0 (.slice (some ⟨D.heap.size, 0, none⟩) 1 1) nil0 0)
                    rw [World.size_alloc] at hblk
                    have hmk := built_make H2.out.blt bD (D.heap.size + 1) (.slice (some ⟨D.heap.size, 0, none⟩) 1 1) [((i : Int) + 1, (i : Int) + 2)] hblk hrow (by omega) (by rw [List.length_append, List.length_replicate]; simp [tabs]; omega)
                    have hlen : (List.replicate (m + 1) (([], []) : De) ++ tabs (l.take k)).length = m + 1 + k := by rw [List.length_append, List.length_replicate]; simp [tabs]; omega
                    rw [hlen] at hmk
                    refine hmk.mono ?_
                    rintro e W5 ⟨rfl, cv5, hB5, hu5, hc5⟩
                    have hC5 := (H2.out.upd bD).made hB5 hu5 hc5
                    have H5 := Lib.hid hC5
                    clear hB5 hu5 hc5 hC5 hmk hblk hrow bD hsD hsz2 hlen
                    refine hK.out _ _ (fun h => absurd h (by simp)) ?_
                    clear hK K
                    (try simp only [Act.put, List.setIfInBounds_toArray, List.set_cons_zero, List.set_cons_succ])
                    refine tillH_next (rs := [17]) (by kernel_rfl) (by simp) ?_
                    refine NextH.cons rfl (fun K hK => ?_) NextH.nil
                    go_simp
                    refine hK.out _ _ (fun h => absurd h (by simp)) ?_
                    clear hK K
                    (try simp only [Act.put, List.setIfInBounds_toArray, List.set_cons_zero, List.set_cons_succ])
                    refine tillH_next (rs := [18]) (by kernel_rfl) (by simp) ?_
                    refine NextH.cons rfl (fun K hK => ?_) NextH.nil
                    go_simp
                    have hC5 := H5.out.upd ((Below.refl _ _).alloc (Nat.le_refl _) (.cells #[.int .i64 ((m : Int) + 1 + (k : Int) + 1)] 3))
                    have hpu := built_push hC5.blt ((m : Int) + 1 + (k : Int) + 1) ⟨W5.heap.size, 0, none⟩ 1 (by
                      have := Blk.new W5 3 #[.int .i64 ((m : Int) + 1 + (k : Int) + 1)]
                      show (W5.alloc _).cell? ⟨W5.heap.size, 0, none⟩ = _
                      rw [this.cell]; rfl) (by rw [rts_len]; omega)
                    have H5b := Lib.hid hC5
                    clear hC5
                    refine hpu.mono ?_
                    rintro e W6 ⟨⟨v6, rfl⟩, rv6, hB6, hu6, hr6⟩
                    have hC6 := H5b.out.pushed hB6 hu6 hr6
                    have hFin : Ch3 w1 W6 A m tg (.slice (some ⟨kg, 0, none⟩) (m + 1) kcap) cv5 rv6 l (List.replicate (m + 1) ([], []) ++ tabs (l.take (k + 1))) (rts m (k + 1)) := by
                      rw [HC.out.2, rts_succ]
                      have e1 : tabs (l.take k ++ [(i : Int)]) = tabs (l.take k) ++ [([], [((i : Int) + 1, (i : Int) + 2)])] := by simp [tabs]
                      have e2 : ((m + 2 + k : Nat) : Int) = (m : Int) + 1 + (k : Int) + 1 := by omega
                      rw [e1, e2, ← List.append_assoc]
                      exact hC6
                    have HF := Lib.hid hFin
                    clear hFin hC6 hB6 hu6 hr6 hpu
                    refine hK.out _ _ (fun h => absurd h (by simp)) ?_
                    clear hK K
                    (try simp only [Act.put, List.setIfInBounds_toArray, List.set_cons_zero, List.set_cons_succ])
                    refine tillH_done (by kernel_rfl) ?_ _
                    go_wp2_with fail
                    go_roundw
                    case rel => exact ⟨k + 1, by omega, by first | rfl | rw [Int.natCast_add], cv5, rv6, HF.out⟩
                    case measure => simp only [intOf]; omega
                  · obtain rfl : m = k := by omega
                    have L1 : decide ((m : Int) < (m : Int)) = false := by simp
                    have hlt2 : l.take m = l := List.take_of_length_le (by rw [HC3.out.1]; exact Nat.le_refl _)
                    rw [hlt2] at hC
                    have HC := Lib.hid hC
                    clear hC hlt2
                    have hds : (List.replicate (m + 1) (([], []) : De) ++ tabs l) = chainDs m l := rfl
                    have hlen := chainDs_len HC3.out.1
                    have hsm : ∀ d ∈ chainDs m l, d.1.length ≤ 100000 ∧ d.2.length ≤ 100000 := by
                      intro d hd
                      rcases List.mem_append.1 hd with q | q
                      · rw [List.eq_of_mem_replicate q]; simp
                      · obtain ⟨x, _, rfl⟩ := List.mem_map.1 q
                        simp
                    have b2 : IntKind.i64.wrap (2 * (m : Int)) = 2 * (m : Int) := IntWalk.i64_in _ (by omega)
                    have b3 : IntKind.i64.wrap (2 * (m : Int) + 1) = 2 * (m : Int) + 1 := IntWalk.i64_in _ (by omega)
                    have b4 : (2 * (m : Int) + 1 == 2 * (m : Int) + 1) = true := by simp
                    have b5 : ((m : Int) == (m : Int)) = true := by simp
                    have HL := Lib.hid (And.intro hlen (And.intro hsm hds))
                    clear hlen hsm hds
                    cases held with
                    | true =>
                      obtain ⟨ka, kcap, rfl, hka⟩ := own_shape HC.out.keys
                      obtain ⟨kg, rfl⟩ := hka (by omega)
                      have d0 := (HC.out.keys.cellAt 0 (show 0 < (m + 1) * 1 by omega)).trans (numCells_get _ 0 (by rw [upto_len]; omega))
                      rw [show (upto (m + 1)).getD 0 0 = 1 by simp [upto, List.getD_eq_getElem?_getD]] at d0
                      have z0 : (0 : Int) < ((m + 1 : Nat) : Int) := by omega
                      have z1 : (0 : Int) < (m : Int) + 1 := by omega
                      have hC7 := HC.out.upd ((Below.refl _ _).alloc (Nat.le_refl _) (.cells #[.int .i64 1] 3))
                      have hpu := built_push hC7.blt 1 ⟨wr.heap.size, 0, none⟩ 1 (by
                        have := Blk.new wr 3 #[.int .i64 1]
                        show (wr.alloc _).cell? ⟨wr.heap.size, 0, none⟩ = _
                        rw [this.cell]; rfl) (by rw [rts_len]; omega)
                      have H7 := Lib.hid hC7
                      clear hC7
                      go_wp2_with fail
                      refine hpu.mono ?_
                      rintro e W7 ⟨⟨v7, rfl⟩, rv7, hB7, hu7, hr7⟩
                      have hC8 := H7.out.pushed hB7 hu7 hr7
                      have hco := built_collect hC8.blt (by rw [HL.out.2.2, HL.out.1]; omega) (by rw [List.length_append, rts_len]; simp; omega) (by rw [HL.out.2.2]; exact HL.out.2.1)
                      have H8 := Lib.hid hC8
                      clear hC8 hB7 hu7 hr7 hpu d0 H7
                      go_wp2_with fail
                      refine hco.mono ?_
                      rintro e W6 ⟨ms, vg, fv', cs', nd', hM, rfl, hvg, hu, hA, hcl, _⟩
                      rw [HL.out.2.2] at hM hA
                      have hg := chain_held HC3.out.1 HC3.out.2.1 hM
                      rw [hg] at hvg hA
                      obtain ⟨ga, gcap, rfl, _⟩ := own_shape hvg
                      have hcn := count_any hA.ar
                      rw [HL.out.1] at hcn
                      have e1 : (((2 * m + 1 : Nat) : Int) - (([] : List Int).length : Nat)) = 2 * (m : Int) + 1 := by simp
                      rw [e1] at hcn
                      have hbel := H8.out.blt.col_below H8.out.bel hu
                      have HF := Lib.hid hbel
                      clear hco hM hvg hu hA hcl hg hbel e1
                      go_wp2_with (go_at_call 13; (with_reducible refine hcn.mono ?_); rintro e w' ⟨rfl, rfl⟩)
                      go_ret
                      exact ⟨rfl, HB.out.1.trans (HF.out.mono (by rw [← HB.out.2]; exact HB.out.1.size))⟩
                    | false =>
                      have hco := built_collect HC.out.blt (by rw [HL.out.2.2, HL.out.1]; omega) (by rw [rts_len]; omega) (by rw [HL.out.2.2]; exact HL.out.2.1)
                      go_wp2_with fail
                      refine hco.mono ?_
                      rintro e W6 ⟨ms, vg, fv', cs', nd', hM, rfl, hvg, hu, hA, hcl, _⟩
                      rw [HL.out.2.2] at hM hA
                      have hg := chain_free HC3.out.1 HC3.out.2.1 hM
                      rw [hg] at hvg hA
                      rw [HL.out.1, upto_len] at hA
                      have e1 : (((2 * m + 1 : Nat) : Int) - ((m + 1 : Nat) : Int)) = (m : Int) := by omega
                      rw [e1] at hA
                      have hbel := HC.out.blt.col_below HC.out.bel hu
                      have hkr := col_row HC.out.keys hu HC.out.blt.blkA HC.out.blt.cells_kind (fun g _ e => by cases e)
                      have hns := nums_same (upto (m + 1)) (NumR.of hvg) (NumR.of (by rw [upto_len]; exact hkr)) (by rw [upto_len]; omega)
                      have HF := Lib.hid (And.intro hbel hA)
                      clear hco hM hvg hu hA hcl hg hbel e1 hkr
                      go_wp2_with fail
                      refine hns.mono ?_
                      rintro e W8 ⟨rfl, q, rfl⟩
                      have hcn := count_any (w := W6.drewN q) (A := A) (B := A) ⟨HF.out.2.ar.blk, HF.out.2.ar.cells, HF.out.2.ar.free, HF.out.2.ar.roots, HF.out.2.ar.apart⟩
                      go_wp2_with (go_at_call 13; (with_reducible refine hcn.mono ?_); rintro e w' ⟨rfl, rfl⟩)
                      go_ret
                      exact ⟨rfl, HB.out.1.trans ((below_drewN HF.out.1 q).mono (by rw [← HB.out.2]; exact HB.out.1.size))⟩
  · have L0 : decide ((100 : Int) < (on : Int)) = true := by rw [decide_eq_true_eq]; omega
    go_wp2
    go_ret
    exact ⟨rfl, b1⟩
end Go.Proofs.Ythcdhiknjpfmhaa
