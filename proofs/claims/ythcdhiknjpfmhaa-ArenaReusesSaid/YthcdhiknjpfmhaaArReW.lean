/- The statement ArenaReuses: its walk. -/
import Derived.Test.YthcdhiknjpfmhaaArReP
set_option linter.unusedVariables false
set_option linter.unusedSimpArgs false
namespace Go.Proofs.Ythcdhiknjpfmhaa
open Go.RowKit

/-- k empty nodes. -/
structure Re1 (w1 W : World) (A k : Nat) (cv : Value) : Prop where
  blt : Built True W A cv nil0 nil0 (List.replicate k ([], [])) []
  bel : Below A w1 W
/-- n empty nodes; the roots, the free ones so far. -/
structure Re2 (w1 W : World) (A n : Nat) (cv rv vf : Value) (kl : List Bool) : Prop where
  blt : Built True W A cv nil0 rv (List.replicate n ([], [])) (keepB 0 kl)
  free : W.ownsRow A 3 1 vf (goneB 0 kl).length (numCells (goneB 0 kl))
  ne : ∀ g, rv.ownBlock = some g → vf.ownBlock ≠ some g
  bel : Below A w1 W
theorem keepB_snoc (l : List Bool) (b : Bool) : keepB 0 (l ++ [b]) = if b then keepB 0 l ++ [(l.length : Int) + 1] else keepB 0 l := by
  rw [keepB_append, Nat.zero_add]
  cases b <;> simp [keepB]
theorem goneB_snoc (l : List Bool) (b : Bool) : goneB 0 (l ++ [b]) = if b then goneB 0 l else goneB 0 l ++ [(l.length : Int) + 1] := by
  rw [goneB_append, Nat.zero_add]
  cases b <;> simp [goneB]
theorem Re2.upd {w1 W W' : World} {A n : Nat} {cv rv vf : Value} {kl : List Bool} (h : Re2 w1 W A n cv rv vf kl) (b : Below W.heap.size W W') : Re2 w1 W' A n cv rv vf kl := by
  obtain ⟨c, hb⟩ := h.blt.blkA
  exact ⟨h.blt.below b, own_below h.free b, h.ne, h.bel.trans (b.mono (Nat.le_of_lt hb.lt))⟩
theorem Re2.keep {w1 W W' : World} {A n : Nat} {cv rv rv' vf : Value} {kl : List Bool} (h : Re2 w1 W A n cv rv vf kl) (hB : Built True W' A cv nil0 rv' (List.replicate n ([], [])) (keepB 0 kl ++ [(kl.length : Int) + 1])) (u : Upd W W' (fun k => k = A ∨ rv.ownBlock = some k)) (hr : ∀ g, rv'.ownBlock = some g → rv.ownBlock = some g ∨ W.heap.size ≤ g) : Re2 w1 W' A n cv rv' vf (kl ++ [true]) := by
  obtain ⟨cA, hbA⟩ := h.blt.blkA
  obtain ⟨cs, nd, hA, _, _⟩ := h.blt
  refine ⟨by rw [keepB_snoc, if_pos rfl]; exact hB, ?_, fun g hg e => ?_, h.bel.trans (u.below (Nat.le_of_lt hbA.lt) (fun k e => ?_))⟩
  · rw [goneB_snoc, if_pos rfl]
    refine u.own h.free (fun g hg e => ?_)
    rcases e with rfl | e
    · exact own_blk h.free hbA (by decide) hg
    · exact h.ne g e hg
  · rcases hr g hg with q | q
    · exact h.ne g q e
    · have := (h.free.lt g e).2; omega
  · rcases e with rfl | e
    · exact Nat.le_refl _
    · exact (hA.ar.roots.lt k e).1
/-- After the collection, i cells made again: G: the numbers that were free. -/
structure Re3 (w1 W : World) (A n : Nat) (rv vf : Value) (G ro : List Int) (i : Nat) (cv fv : Value) (cs : List Cell) (nd : Nat → Nod) : Prop where
  arn : ArN W A A cv fv rv cs (G.drop i).reverse ro ((n : Int) - G.length + i) nd
  len : cs.length = n + (i - G.length)
  free : W.ownsRow A 3 1 vf G.length (numCells G)
  bel : Below A w1 W
theorem Re3.made {w1 W W' : World} {A n i : Nat} {rv vf cv cv' fv fv' : Value} {G ro : List Int} {cs cs' : List Cell} {nd nd' : Nat → Nod} {live : Int} (h : Re3 w1 W A n rv vf G ro i cv fv cs nd) (hA : ArN W' A A cv' fv' rv cs' (G.drop (i + 1)).reverse ro live nd') (hl : live = (n : Int) - G.length + i + 1) (hc : cs'.length = n + (i + 1 - G.length)) {W0 : World} (b : Below W.heap.size W W0) (u : Upd W0 W' (fun k => k = A ∨ cv.ownBlock = some k)) : Re3 w1 W' A n rv vf G ro (i + 1) cv' fv' cs' nd' := by
  have hfr := own_below h.free b
  have hA0 := h.arn.below b
  have hAl := hA0.ar.blk.lt
  refine ⟨by rw [show (n : Int) - G.length + ((i + 1 : Nat) : Int) = live by rw [hl]; omega]; exact hA, hc, u.own hfr (fun g hg e => ?_), (h.bel.trans (b.mono (Nat.le_of_lt h.arn.ar.blk.lt))).trans (u.below (Nat.le_of_lt hAl) (fun k e => ?_))⟩
  · rcases e with rfl | e
    · exact own_blk hfr hA0.ar.blk (by decide) hg
    · rcases own_ne hfr hA0.ar.cells (by decide) with q | q
      · rw [q] at hg; cases hg
      · exact q (by rw [hg, e])
  · rcases e with rfl | e
    · exact Nat.le_refl _
    · exact (hA0.ar.cells.lt k e).1
set_option maxHeartbeats 4000000 in
set_option maxRecDepth 100000 in
theorem reuses_walk (ka : Option Addr) (kn kcap : Nat) (kl : List Bool) (more : Int) (w : World) (hk : BoolR w ka kn kl) :
    Calls Try.prog 4 #[.slice ka kn kcap, .int .i64 more] w fun e w' => e = .returned (.bool true) ∧ Below w.heap.size w w' := by
  obtain ⟨i0, hi, hz0, hz1, hz2⟩ := info_parts infoInt
  obtain ⟨p, hp, p1⟩ := norm_mod more 20 (by decide) (by decide)
  have HA := Lib.hid hk
  have HP := Lib.hid p1
  clear hk p1
  go_enter Try.func4, Try.ntmps4
  go_wp2_with fail
  refine (fit_any _).mono ?_
  rintro e w1 ⟨rfl, b1⟩
  by_cases hol : kn ≤ 100
  · have L0 : decide ((100 : Int) < (kn : Int)) = false := by rw [decide_eq_false_iff_not]; omega
    go_wp2_with fail
    refine (new_any w1).mono ?_
    rintro e w2 ⟨rfl, rfl⟩
    have hst : Re1 w1 (w1.alloc (.cells #[nil0, nil0, nil0, .int .i64 0] 64)) w1.heap.size 0 nil0 := ⟨built_new True w1, (Below.refl _ _).alloc (Nat.le_refl _) _⟩
    obtain ⟨A, hA⟩ : ∃ A, w1.heap.size = A := ⟨_, rfl⟩
    rw [hA] at hst ⊢
    have HB := Lib.hid (And.intro b1 hA)
    clear b1 hA hp
    generalize w1.alloc (.cells #[nil0, nil0, nil0, .int .i64 0] 64) = w2 at *
    go_wp2_with fail
    go_loopw [23] (fun v wr => ∃ k : Nat, k ≤ kn ∧ v = .int .i64 k ∧ ∃ cv, Re1 w1 wr A k cv) (fun v _ => kn - (intOf v).toNat)
    case atStart => exact ⟨0, by omega, rfl, nil0, hst⟩
    case round =>
      obtain ⟨k, hk, rfl, cv, hC⟩ := hrel
      by_cases hlt : k < kn
      · have L1 : decide ((k : Int) < (kn : Int)) = true := by rw [decide_eq_true_eq]; omega
        have a1 : IntKind.i64.wrap ((k : Int) + 1) = ((k + 1 : Nat) : Int) := by rw [IntWalk.i64_in _ (by omega)]; rfl
        have hmk := built_make hC.blt ((Below.refl _ _).alloc (Nat.le_refl _) (.cells (ndC nil0 nil0 nil0 0) 30)) wr.heap.size nil0 [] (Blk.new wr _ _) (World.ownsRow_nil _ _ _ _) (Nat.le_refl _) (by simp; omega)
        have HC := Lib.hid hC
        clear hC
        go_wp2_with fail
        refine hmk.mono ?_
        rintro e W3 ⟨rfl, cv3, hB3, hu3, hc3⟩
        obtain ⟨cA, hbA⟩ := HC.out.blt.blkA
        have bel3 : Below A w1 W3 := (HC.out.bel.alloc (Nat.le_of_lt hbA.lt) (.cells (ndC nil0 nil0 nil0 0) 30)).trans (hu3.below (by simp; have := hbA.lt; omega) (fun k e => by
          rcases e with rfl | e
          · exact Nat.le_refl _
          · exact (hc3 k e).1))
        have hFin : Re1 w1 W3 A (k + 1) cv3 := ⟨by rw [List.replicate_succ']; exact hB3, bel3⟩
        have HF := Lib.hid hFin
        clear hFin hB3 bel3 hu3 hc3 hmk hbA
        go_wp2_with fail
        go_roundw
        case rel => exact ⟨k + 1, by omega, by first | rfl | rw [Int.natCast_add], cv3, HF.out⟩
        case measure => simp only [intOf]; omega
      · obtain rfl : kn = k := by omega
        have L1 : decide ((kn : Int) < (kn : Int)) = false := by simp
        have hst2 : Re2 w1 wr A kn cv nil0 nil0 (kl.take 0) := ⟨hC.blt, World.ownsRow_nil _ _ _ _, fun g hg => by simp [Value.ownBlock] at hg, hC.bel⟩
        have HC := Lib.hid hst2
        clear hC hst2 hst
        go_wp2_with fail
        go_loopw [6, 33] (fun vf v wr => ∃ k : Nat, k ≤ kn ∧ v = .int .i64 k ∧ ∃ rv, Re2 w1 wr A kn cv rv vf (kl.take k)) (fun _ v _ => kn - (intOf v).toNat)
        case atStart => exact ⟨0, by omega, rfl, nil0, HC.out⟩
        case round =>
          obtain ⟨k, hk, rfl, rv, hC⟩ := hrel
          by_cases hlt : k < kn
          · have L1 : decide ((k : Int) < (kn : Int)) = true := by rw [decide_eq_true_eq]; omega
            have a1 : IntKind.i64.wrap ((k : Int) + 1) = ((k + 1 : Nat) : Int) := by rw [IntWalk.i64_in _ (by omega)]; rfl
            obtain ⟨kb, off, rfl, hob, hoc⟩ := HA.out.2 (by omega)
            have c0 : wr.cell? ⟨kb, off + k, none⟩ = some (.bool (kl.getD k false)) := by
              have h1 := HB.out.1.cell (p := ⟨kb, off + k, none⟩) hob
              have h2 := hC.bel.cell (p := ⟨kb, off + k, none⟩) (by have := HB.out.1.size; have := HB.out.2; show kb < A; omega)
              rw [h2, h1, hoc k hlt]
            have hkl : k < kl.length := by rw [HA.out.1]; exact hlt
            have htk : kl.take (k + 1) = kl.take k ++ [kl.getD k false] := by rw [List.take_succ_eq_append_getElem hkl, List.getD_eq_getElem?_getD, List.getElem?_eq_getElem hkl]; rfl
            have hlen : (kl.take k).length = k := by rw [List.length_take]; omega
            have hgl := goneB_le 0 (kl.take k)
            have hkp := keepB_le 0 (kl.take k)
            rw [hlen] at hgl hkp
            have z0 : (0 : Int) ≤ k := by omega
            have z1 : (k : Int) < kn := by omega
            have z2 : (k : Int).toNat = k := by omega
            generalize kl.getD k false = b at *
            obtain ⟨gl, hgl2⟩ : ∃ gl, (goneB 0 (kl.take k)).length = gl := ⟨_, rfl⟩
            have hfr := hC.free
            rw [hgl2] at hfr hgl
            have HC := Lib.hid (And.intro hC (And.intro htk (And.intro hlen (And.intro hgl2 hkp))))
            clear hC htk hlen hoc hgl2 hkp
            cases b with
            | true =>
              have hC2 := HC.out.1.upd ((Below.refl _ _).alloc (Nat.le_refl _) (.cells #[.int .i64 ((k : Int) + 1)] 3))
              have hpu := built_push hC2.blt ((k : Int) + 1) ⟨wr.heap.size, 0, none⟩ 1 (by
                have := Blk.new wr 3 #[.int .i64 ((k : Int) + 1)]
                show (wr.alloc _).cell? ⟨wr.heap.size, 0, none⟩ = _
                rw [this.cell]; rfl) (by have := HC.out.2.2.2.2; omega)
              have H2 := Lib.hid hC2
              clear hC2
              go_wp2_with fail
              refine hpu.mono ?_
              rintro e W6 ⟨⟨v6, rfl⟩, rv6, hB6, hu6, hr6⟩
              have hFin := H2.out.keep (by rw [HC.out.2.2.1]; exact hB6) hu6 hr6
              rw [← HC.out.2.1] at hFin
              have HF := Lib.hid hFin
              clear hFin hB6 hu6 hr6 hpu
              go_wp2_with fail
              go_roundw
              case rel => exact ⟨k + 1, by omega, by first | rfl | rw [Int.natCast_add], rv6, HF.out⟩
              case measure => simp only [intOf]; omega
            | false =>
              have hAw : A ≤ wr.heap.size := by
                obtain ⟨c, hb⟩ := HC.out.1.blt.blkA
                exact Nat.le_of_lt hb.lt
              have hnews := World.news_of_block (cs := #[.int .i64 ((k + 1 : Nat) : Int)]) (t := 3) (fr := (0, 0)) (heap_alloc_new wr (.cells #[.int .i64 ((k + 1 : Nat) : Int)] 3))
              go_wp2_with (at_builtin; refine wpList_append_lies _ rfl _ _ 22 rfl A 3 i0 _ 1 8 Try.underlying22 hi hz0 hz1 hz2 rfl (by decide) _ _ _ rfl (hfr.alloc _) ⟨wr.heap.size, 0, none⟩ 1 1 [.int .i64 ((k + 1 : Nat) : Int)] rfl rfl hnews (by simp [Value.oneCell']) (by decide) (by unfold maxLen; omega) (by omega) (by simp; omega) _ rfl ?_)
              intro gq capq W4 hown4 hgrow4 hat4 hlt4
              have hU4 : Upd wr W4 (fun j => u6.ownBlock = some j) := ((Upd.refl wr _).alloc _).grown hgrow4 (fun j e => e)
              have hFin : Re2 w1 W4 A kn cv rv (.slice (some ⟨gq, 0, none⟩) (gl + 1) capq) (kl.take (k + 1)) := by
                rw [HC.out.2.1]
                refine ⟨?_, ?_, fun g hg e => ?_, HC.out.1.bel.trans (hU4.below hAw (fun j e => (hfr.lt j e).1))⟩
                · rw [keepB_snoc, if_neg (by decide)]
                  exact HC.out.1.blt.row hfr hU4 (fun g hg => ⟨by simp [Value.ownBlock], fun e => HC.out.1.ne g e hg⟩)
                · rw [goneB_snoc, if_neg (by decide), List.length_append, HC.out.2.2.2.1, HC.out.2.2.1, numCells_append]
                  exact hown4
                · obtain rfl : gq = g := by simpa [Value.ownBlock] using e
                  rcases hat4 with q | q
                  · exact HC.out.1.ne gq hg q
                  · obtain ⟨cs, nd, hA, _, _⟩ := HC.out.1.blt
                    have := (hA.ar.roots.lt gq hg).2
                    omega
              have HF := Lib.hid hFin
              clear hFin hU4 hown4 hgrow4 hat4 hlt4 hnews hfr
              go_wp2
              go_roundw
              case rel => exact ⟨k + 1, by omega, by first | rfl | rw [Int.natCast_add], rv, HF.out⟩
              case measure => simp only [intOf]; omega
          · obtain rfl : kn = k := by omega
            have L1 : decide ((kn : Int) < (kn : Int)) = false := by simp
            rw [List.take_of_length_le (by rw [HA.out.1]; exact Nat.le_refl _)] at hC
            have hco := built_collect hC.blt (by simp; omega) (by have := keepB_le 0 kl; rw [HA.out.1] at this; omega) (by intro d hd; rw [List.eq_of_mem_replicate hd]; simp)
            have HC2 := Lib.hid hC
            clear hC HC
            go_wp2_with fail
            refine hco.mono ?_
            rintro e W6 ⟨ms, vg, fv', cs', nd', hM, rfl, hvg, hu, hA2, hcl, _⟩
            have hms := plain_marks HA.out.1 hM
            subst hms
            obtain ⟨G, hG⟩ : ∃ G, goneB 0 ms = G := ⟨_, rfl⟩
            have hGl := goneB_le 0 ms
            have hGx := goneB_ix 0 ms
            have hfr := col_row HC2.out.free hu HC2.out.blt.blkA HC2.out.blt.cells_kind (fun g _ e => by cases e)
            have hbel := HC2.out.blt.col_below HC2.out.bel hu
            rw [hG] at hvg hA2 hGl hGx hfr
            rw [HA.out.1] at hGl hGx
            rw [List.length_replicate] at hA2 hcl
            have hR3 : Re3 w1 W6 A kn rv u6 G (keepB 0 ms) 0 cv fv' cs' nd' := ⟨by simpa using hA2, by rw [hcl]; omega, hfr, hbel⟩
            have hns := nums_same G (NumR.of hvg) (NumR.of hfr) (by omega)
            have H3 := Lib.hid (And.intro hR3 hGx)
            clear hR3 hGx hfr hbel hvg hu hA2 hcl hco hG hM
            go_wp2_with fail
            refine hns.mono ?_
            rintro e W8 ⟨rfl, q, rfl⟩
            have hR4 : Re3 w1 (W6.drewN q) A kn rv u6 G (keepB 0 ms) 0 cv fv' cs' nd' := ⟨H3.out.1.arn.below (below_drewN (Below.refl _ _) q), H3.out.1.len, H3.out.1.free, below_drewN H3.out.1.bel q⟩
            obtain ⟨F, hF⟩ : ∃ F, G.length = F := ⟨_, rfl⟩
            obtain ⟨fa, fcap, rfl, hfa⟩ := own_shape hR4.free
            rw [hF] at hfa hGl ⊢
            have HF := Lib.hid hF
            have H4 := Lib.hid hR4
            have hp20 : p < 20 := by have := HP.out; omega
            have b1 : IntKind.i64.wrap ((F : Int) + p) = ((F + p : Nat) : Int) := by rw [IntWalk.i64_in _ (by omega)]; rfl
            clear hF hR4 hns
            generalize W6.drewN q = W8 at *
            go_wp2_with fail
            go_loopw [59] (fun v wr => ∃ i : Nat, i ≤ F + p ∧ v = .int .i64 i ∧ ∃ cv fv cs nd, Re3 w1 wr A kn rv (.slice fa F fcap) G (keepB 0 ms) i cv fv cs nd) (fun v _ => (F + p) - (intOf v).toNat)
            case atStart => exact ⟨0, by omega, rfl, _, _, _, _, by rw [← HF.out]; exact H4.out⟩
            case round =>
              obtain ⟨i, hi2, rfl, cv2, fv2, cs2, nd2, hC⟩ := hrel
              have hlen2 := hC.len
              rw [HF.out] at hlen2
              by_cases hlt : i < F + p
              · have L1 : decide ((i : Int) < ((F + p : Nat) : Int)) = true := by rw [decide_eq_true_eq]; omega
                have L1b : decide ((i : Int) < (F : Int) + (p : Int)) = true := by rw [decide_eq_true_eq]; omega
                have a1 : IntKind.i64.wrap ((i : Int) + 1) = ((i + 1 : Nat) : Int) := by rw [IntWalk.i64_in _ (by omega)]; rfl
                have w1' : IntKind.i64.wrap ((kn : Int) + 1) = (kn : Int) + 1 := IntWalk.i64_in _ (by omega)
                have w2' : IntKind.i64.wrap ((kn : Int) + 1 + i) = (kn : Int) + 1 + i := IntWalk.i64_in _ (by omega)
                obtain ⟨Wn, hWn, hWn2⟩ : ∃ Wn : Int, IntKind.i64.wrap ((kn : Int) + 1 + i - F) = Wn ∧ Wn = (kn : Int) + 1 + i - F := ⟨_, rfl, IntWalk.i64_in _ (by omega)⟩
                have z0 : (0 : Int) ≤ i := by omega
                have z2 : (i : Int).toNat = i := by omega
                have bD := (Below.refl wr.heap.size wr).alloc (Nat.le_refl _) (.cells (ndC nil0 nil0 nil0 0) 30)
                by_cases hiF : i < F
                · have L2 : decide ((i : Int) < (F : Int)) = true := by rw [decide_eq_true_eq]; omega
                  have z1 : (i : Int) < (F : Int) := by omega
                  obtain ⟨fg, rfl⟩ := hfa (by omega)
                  have hiG : i < G.length := by rw [HF.out]; exact hiF
                  have hfr := hC.free
                  rw [HF.out] at hfr
                  have c0 := (hfr.cellAt i (show i < F * 1 by omega)).trans (numCells_get G i hiG)
                  obtain ⟨j, hj, _, hj2⟩ := H3.out.2 (G.getD i 0) (by rw [List.getD_eq_getElem?_getD, List.getElem?_eq_getElem hiG]; exact List.getElem_mem _)
                  have hdr : (G.drop i).reverse = (G.drop (i + 1)).reverse ++ [(j : Int) + 1] := by
                    rw [List.drop_eq_getElem_cons hiG, List.reverse_cons]
                    rw [List.getD_eq_getElem?_getD, List.getElem?_eq_getElem hiG] at hj
                    have hj' : G[i] = (j : Int) + 1 := hj
                    rw [hj']
                  rw [hj] at c0
                  have hA2 := hC.arn
                  rw [hdr] at hA2
                  have hmk := make_again j hA2 (by omega) bD (Nat.le_refl _) (Blk.new wr _ _) (by rw [HF.out]; omega) (by omega) (by rw [List.length_reverse, List.length_drop, HF.out]; omega)
                  have e1 : ((j : Int) + 1 == (j : Int) + 1) = true := by simp
                  have HC := Lib.hid (And.intro hC bD)
                  clear hC hA2 hdr hj hfr bD
                  go_wp2_with fail
                  refine hmk.mono ?_
                  rintro e W9 ⟨rfl, fv9, nd9, hA9, hu9⟩
                  have hR := HC.out.1.made hA9 (by rfl) (by rw [List.length_set, hlen2, HF.out]; omega) HC.out.2 hu9
                  have HR := Lib.hid hR
                  clear hR hA9 hu9 hmk c0
                  go_wp2_with fail
                  go_roundw
                  case rel => exact ⟨i + 1, by omega, by first | rfl | rw [Int.natCast_add], _, _, _, _, HR.out⟩
                  case measure => simp only [intOf]; omega
                · have L2 : decide ((i : Int) < (F : Int)) = false := by rw [decide_eq_false_iff_not]; omega
                  have hA2 := hC.arn
                  have hdr : (G.drop i).reverse = [] := by rw [List.drop_of_length_le (by rw [HF.out]; omega)]; rfl
                  rw [hdr] at hA2
                  have hmk := make_fresh hA2 bD (Nat.le_refl _) (Blk.new wr _ _) (by rw [HF.out]; omega) (by omega)
                  rw [show ((cs2.length + 1 : Nat) : Int) = Wn by rw [hWn2, hlen2]; omega] at hmk
                  have e1 : (Wn == Wn) = true := by simp
                  have HC := Lib.hid (And.intro hC bD)
                  clear hC hA2 hdr bD hWn2
                  go_wp2_with fail
                  refine hmk.mono ?_
                  rintro e W9 ⟨rfl, cv9, nd9, hA9, hu9⟩
                  have hdr2 : (G.drop (i + 1)).reverse = [] := by rw [List.drop_of_length_le (by rw [HF.out]; omega)]; rfl
                  rw [← hdr2] at hA9
                  have hR := HC.out.1.made hA9 (by rfl) (by rw [List.length_append, hlen2, HF.out]; simp; omega) HC.out.2 hu9
                  have HR := Lib.hid hR
                  clear hR hA9 hu9 hmk hdr2
                  go_wp2_with fail
                  go_roundw
                  case rel => exact ⟨i + 1, by omega, by first | rfl | rw [Int.natCast_add], _, _, _, _, HR.out⟩
                  case measure => simp only [intOf]; omega
              · obtain rfl : i = F + p := by omega
                have L1 : decide (((F + p : Nat) : Int) < ((F + p : Nat) : Int)) = false := by simp
                have L1b : decide (((F + p : Nat) : Int) < (F : Int) + (p : Int)) = false := by rw [decide_eq_false_iff_not]; omega
                have L1c : decide ((F : Int) + (p : Int) < (F : Int) + (p : Int)) = false := by simp
                have hA2 := hC.arn
                have hcn := count_any hA2.ar
                rw [show (kn : Int) - (G.length : Nat) + ((F + p : Nat) : Int) = (kn : Int) + p by rw [HF.out]; omega] at hcn
                have w3 : IntKind.i64.wrap ((kn : Int) + p) = (kn : Int) + p := IntWalk.i64_in _ (by omega)
                have e1 : ((kn : Int) + p == (kn : Int) + p) = true := by simp
                have HC := Lib.hid hC
                clear hC hA2
                go_wp2_with (go_at_call 13; (with_reducible refine hcn.mono ?_); rintro e w' ⟨rfl, rfl⟩)
                go_ret
                exact ⟨rfl, HB.out.1.trans (HC.out.bel.mono (by rw [← HB.out.2]; exact HB.out.1.size))⟩
  · have L0 : decide ((100 : Int) < (kn : Int)) = true := by rw [decide_eq_true_eq]; omega
    go_wp2
    go_ret
    exact ⟨rfl, b1⟩
end Go.Proofs.Ythcdhiknjpfmhaa
