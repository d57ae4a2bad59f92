/- The arena: sweep's walk. -/
import Derived.Test.YthcdhiknjpfmhaaArC
set_option linter.unusedVariables false
set_option linter.unusedSimpArgs false
namespace Go.Proofs.Ythcdhiknjpfmhaa
open Go.RowKit

theorem swI_start {w : World} {A B : Nat} {cv fv rv : Value} {cs : List Cell} {fr ro : List Int} {live : Int} {nd : Nat → NodeF} (h : Ar w A B cv fv rv cs fr ro live) (hN : ∀ N, N ∈ bodies cs → Blk w N 30 (ndA (nd N))) :
    SwI w w A B cv fv rv cs fr ro live nd 0 (.slice none 0 0) :=
  ⟨by simpa [swL, goneL] using h, World.ownsRow_nil _ _ _ _, fun N hm => by simpa [ndAt, freed] using hN N hm, Upd.refl _ _⟩
theorem methodGone (a : Addr) (w : World) : (method 207 27 (.pointer (some a)) "Gone").run Try.prog w = .ok (25, .pointer (some a)) w := by kernel_rfl
/-- What sweep leaves. -/
def SwP (w : World) (A B : Nat) (cv fv rv : Value) (cs : List Cell) (fr ro : List Int) (live : Int) (nd : Nat → NodeF) (e : Ending) (w' : World) : Prop :=
  ∃ vg fv', e = .returned vg ∧ w'.ownsRow w.heap.size 3 1 vg (goneL 0 cs).length (numCells (goneL 0 cs)) ∧
    Ar w' A B cv fv' rv (swL cs) (fr ++ (goneL 0 cs).reverse) ro (live - (goneL 0 cs).length) ∧ (∀ N, N ∈ bodies cs → Blk w' N 30 (ndA (ndAt cs nd N))) ∧
    Upd w w' (fun k => k = A ∨ cv.ownBlock = some k ∨ fv.ownBlock = some k ∨ k ∈ bodies cs ∨ w.heap.size ≤ k) ∧ (∀ g, fv'.ownBlock = some g → fv.ownBlock = some g ∨ w.heap.size ≤ g) ∧ (∀ g, vg.ownBlock = some g → fv'.ownBlock ≠ some g ∧ w.heap.size ≤ g)

set_option maxHeartbeats 4000000 in
set_option maxRecDepth 100000 in
theorem sweep_any {w : World} {A B : Nat} {cv fv rv : Value} {cs : List Cell} {fr ro : List Int} {live : Int} (nd : Nat → NodeF) (h : Ar w A B cv fv rv cs fr ro live) (hN : ∀ N, N ∈ bodies cs → Blk w N 30 (ndA (nd N)))
    (hnd : (bodies cs).Nodup) (he : ∀ N, N ∈ bodies cs → 0 ≤ (nd N).2.2.2 ∧ (nd N).2.2.2 ≤ 1000000000) (hl : cs.length ≤ 1000000) (hfl : fr.length ≤ 1000000) (hlv : 0 ≤ live ∧ live ≤ 1000000000) (hB : B ≤ w.heap.size) :
    Calls Try.prog 30 #[.pointer (some ⟨A, 0, none⟩)] w (SwP w A B cv fv rv cs fr ro live nd) := by
  obtain ⟨i0, hi, hz0, hz1, hz2⟩ := info_parts infoInt
  have hst := swI_start h hN
  have hfw : ∀ g, fv.ownBlock = some g → g < w.heap.size := fun g hg => (h.free.lt g hg).2
  have hrw : ∀ g, rv.ownBlock = some g → g < w.heap.size := fun g hg => (h.roots.lt g hg).2
  have hNw : ∀ N ∈ bodies cs, N < w.heap.size := fun N hm => (hN N hm).lt
  have hcw : ∀ g, cv.ownBlock = some g → g < w.heap.size := fun g hg => (h.cells.lt g hg).2
  have hAw := h.blk.lt
  obtain ⟨ca, ccap, rfl, hca⟩ := own_shape h.cells
  have x0 : w.cell? ⟨A, 0, none⟩ = some (.slice ca cs.length ccap) := by rw [h.blk.cell]; rfl
  obtain ⟨n, hn⟩ : ∃ n, cs.length = n := ⟨_, rfl⟩
  rw [hn] at x0 hl hst hca hcw ⊢
  have HH := Lib.hid h
  have HN := Lib.hid hn
  have HW := Lib.hid (And.intro hfw (And.intro hrw (And.intro hNw (And.intro hAw (And.intro hnd (And.intro he hcw))))))
  clear h hN hfw hrw hNw hn hnd he hcw
  go_enter Try.func30, Try.ntmps30
  go_wp2_with fail
  go_loopw [3, 14] (fun vg vi wr => ∃ i : Nat, i ≤ n ∧ vi = .int .i64 i ∧ SwI w wr A B (.slice ca n ccap) fv rv cs fr ro live nd i vg) (fun _ vi _ => n - (intOf vi).toNat)
  case atStart => exact ⟨0, by omega, rfl, hst⟩
  case round =>
    obtain ⟨i, hin, rfl, hI⟩ := hrel
    by_cases hlt : i < n
    · have L1 : decide ((i : Int) < (n : Int)) = true := by simp; omega
      obtain ⟨gc, rfl⟩ := hca (by omega)
      have hiL : i < cs.length := by rw [HN.out]; exact hlt
      have y0 : (0 : Int) ≤ i := by omega
      have y1 : (i : Int) < n := by omega
      have y2 : (i : Int).toNat = i := by omega
      have a1 : IntKind.i64.wrap ((i : Int) + 1) = ((i + 1 : Nat) : Int) := by rw [IntWalk.i64_in _ (by omega)]; rfl
      have hml := mid_len cs i (Nat.le_of_lt hiL)
      have hcell' : wr.ownsRow B 66 2 (.slice (some ⟨gc, 0, none⟩) n ccap) n (clCells (swL (cs.take i) ++ cs.drop i)) := by
        have h1 := hI.ar.cells
        rw [hml, HN.out] at h1
        exact h1
      have hg := clCells_get (swL (cs.take i) ++ cs.drop i) i (by rw [hml]; exact hiL)
      rw [mid_get cs i hiL] at hg
      have c0 := (hcell'.cellAt (i * 2) (by omega)).trans hg.1
      have c1 := (hcell'.cellAt (i * 2 + 1) (by omega)).trans hg.2
      have fz0 := hcell'.frozenAt (i * 2)
      have fz1 := hcell'.frozenAt (i * 2 + 1)
      have xa : wr.cell? ⟨A, 0, none⟩ = some (.slice (some ⟨gc, 0, none⟩) n ccap) := by rw [hI.ar.blk.cell]; rfl
      have hgl := (hcell'.lt gc rfl).2
      have HI := Lib.hid hI
      obtain ⟨c, hc⟩ : ∃ c, cs[i] = c := ⟨_, rfl⟩
      rw [hc] at c0 c1
      have HC := Lib.hid hc
      obtain ⟨ob, mk⟩ := c
      simp only at c0 c1
      clear hg hcell' hml hI hc
      by_cases hgo : goes (ob, mk) = false
      · have hsk := SwI.skip HN.out HI.out hiL (by rw [HC.out]; exact hgo)
        have HSK := Lib.hid hsk
        clear hsk
        cases ob with
        | none =>
          simp only [bodyV] at c0
          go_wp2
          go_roundw
          case rel => exact ⟨i + 1, by omega, by first | rfl | rw [Int.natCast_add], HSK.out⟩
          case measure => simp only [intOf]; omega
        | some N =>
          cases mk with
          | false => simp [goes] at hgo
          | true =>
            simp only [bodyV] at c0
            go_wp2
            go_roundw
            case rel => exact ⟨i + 1, by omega, by first | rfl | rw [Int.natCast_add], HSK.out⟩
            case measure => simp only [intOf]; omega
      · obtain ⟨N, rfl, rfl⟩ : ∃ N, ob = some N ∧ mk = false := by
          cases ob <;> cases mk <;> simp [goes] at hgo ⊢
        simp only [bodyV] at c0
        have hGo := isGoner
        have hNb : N ∈ bodies cs := by
          unfold bodies
          rw [List.mem_filterMap]
          exact ⟨cs[i], List.getElem_mem _, by rw [HC.out]⟩
        have hMe := methodGone
        have hNf : N ∉ freed (cs.take i) := by
          have hnd := HW.out.2.2.2.2.1
          intro hm
          have h1 := freed_sub _ _ hm
          have h2 : bodies cs = bodies (cs.take i) ++ bodies (cs.drop i) := by
            conv => lhs; rw [← List.take_append_drop i cs]
            unfold bodies; rw [List.filterMap_append]
          have h3 : N ∈ bodies (cs.drop i) := by
            rw [List.drop_eq_getElem_cons hiL, HC.out]
            unfold bodies; simp
          rw [h2, List.nodup_append] at hnd
          exact hnd.2.2 N h1 N h3 rfl
        have hbN : Blk wr N 30 (ndA (nd N)) := by
          have := HI.out.nodes N hNb
          unfold ndAt at this
          rwa [if_neg hNf] at this
        have heN := HW.out.2.2.2.2.2.1 N hNb
        obtain ⟨m, hm⟩ : ∃ m, (goneL 0 (cs.take i)).length = m := ⟨_, rfl⟩
        have hmi : m ≤ i := by rw [← hm]; exact Nat.le_trans (goneL_le _ _) (List.length_take_le _ _)
        have hA := HI.out.ar.blk
        rw [hm] at hA
        have hAg : A ≠ gc := fun e => own_blk HI.out.ar.cells hA (by decide) (by rw [← e]; rfl)
        have hNg : N ≠ gc := fun e => own_blk HI.out.ar.cells hbN (by decide) (by rw [← e]; rfl)
        have hNA : N ≠ A := hbN.ne_ hA (by decide)
        have u1 := set_upd wr N 3 (.int .i64 ((nd N).2.2.2 + 1))
        have hA1 := u1.blk hA (fun e => hNA e.symm)
        have hcell1 : (wr.setCell ⟨N, 3, none⟩ (.int .i64 ((nd N).2.2.2 + 1))).ownsRow B 66 2 (.slice (some ⟨gc, 0, none⟩) n ccap) (swL (cs.take i) ++ cs.drop i).length (clCells (swL (cs.take i) ++ cs.drop i)) := u1.own HI.out.ar.cells (fun k hk e => hNg (by have hk' : some gc = some k := hk; cases hk'; exact e.symm))
        have hgone1 := u1.own HI.out.gone (fun k hk e => own_blk HI.out.gone hbN (by decide) (by rw [hk, e]))
        have u2 := set_upd (wr.setCell ⟨N, 3, none⟩ (.int .i64 ((nd N).2.2.2 + 1))) gc (i * 2) .nilIface
        have hA2 := u2.blk hA1 hAg
        have hgone2 := u2.own hgone1 (fun k hk e => by
          rcases own_ne hgone1 hcell1 (by decide) with h1 | h1
          · rw [h1] at hk; cases hk
          · exact h1 (by rw [hk, e]; rfl))
        have e0 : (wr.setCell ⟨N, 3, none⟩ (.int .i64 ((nd N).2.2.2 + 1))).cell? ⟨gc, i * 2, none⟩ = some (.iface 27 (.pointer (some ⟨N, 0, none⟩))) := u1.cell c0 (fun e => hNg e.symm)
        have f0 : (wr.setCell ⟨N, 3, none⟩ (.int .i64 ((nd N).2.2.2 + 1))).frozen? ⟨gc, i * 2, none⟩ = false := by
          rw [World.frozen?_of_block (w := wr) (u1.block gc hgl (fun e => hNg e.symm))]; exact fz0
        have hcs2 := (show (wr.setCell ⟨N, 3, none⟩ (.int .i64 ((nd N).2.2.2 + 1))).ownsRow B 66 2 (.slice (some ⟨gc, 0, none⟩) n ccap) n (clCells (swL (cs.take i) ++ cs.drop i)) by
          have h1 := hcell1
          rw [mid_len cs i (Nat.le_of_lt hiL), HN.out] at h1
          exact h1).stored (i * 2) .nilIface
        have hq1 : ((clCells (swL (cs.take i) ++ cs.drop i)).set (i * 2) Value.nilIface)[i * 2 + 1]? = some (.bool false) := by
          rw [List.getElem?_set_ne (by omega)]
          have hg := clCells_get (swL (cs.take i) ++ cs.drop i) i (by rw [mid_len cs i (Nat.le_of_lt hiL)]; exact hiL)
          rw [mid_get cs i hiL, HC.out] at hg
          exact hg.2
        have HQ := Lib.hid hq1
        have HS2 := Lib.hid hcs2.1
        have HG2 := Lib.hid hgone2
        clear hcs2 hq1
        have HB := Lib.hid (And.intro hbN heN)
        have HM := Lib.hid hm
        rw [hm] at hgone2
        have hgz1 : gc < (wr.setCell ⟨N, 3, none⟩ (.int .i64 ((nd N).2.2.2 + 1))).heap.size := Nat.lt_of_lt_of_le hgl u1.size
        have hsz := HI.out.upd.size
        have hsz2 : w.heap.size ≤ ((wr.setCell ⟨N, 3, none⟩ (.int .i64 ((nd N).2.2.2 + 1))).setCell ⟨gc, i * 2, none⟩ .nilIface).heap.size := Nat.le_trans hsz (Nat.le_trans u1.size u2.size)
        clear hbN heN hm hNf u1 hgone1 hcell1 hA1
        have hnews := World.news_of_block (cs := #[.int .i64 ((i : Int) + 1)]) (t := 3) (fr := (0, 0)) (heap_alloc_new ((wr.setCell ⟨N, 3, none⟩ (.int .i64 ((nd N).2.2.2 + 1))).setCell ⟨gc, i * 2, none⟩ .nilIface) (.cells #[.int .i64 ((i : Int) + 1)] 3))
        have hsz3 : ((wr.setCell ⟨N, 3, none⟩ (.int .i64 ((nd N).2.2.2 + 1))).setCell ⟨gc, i * 2, none⟩ .nilIface).heap.size = wr.heap.size := by simp
        rw [hsz3] at hnews
        go_wp2_with (first
          | (go_at_call 25; refine (gone_any N (nd N) wr HB.out.1 HB.out.2.1 HB.out.2.2).mono ?_; rintro e w' ⟨⟨v, rfl⟩, rfl⟩)
          | (at_builtin; refine wpList_append_lies _ rfl _ _ 22 rfl w.heap.size 3 i0 (.int .i64 0) 1 8 Try.underlying22 hi hz0 hz1 hz2 rfl (by decide) _ _ _ rfl (hgone2.alloc _) ⟨wr.heap.size, 0, none⟩ 1 1 [.int .i64 ((i : Int) + 1)] rfl rfl hnews (by simp [Value.oneCell']) (by decide) (by unfold maxLen; omega) (by omega) (by simp; omega) _ rfl ?_))
        intro g3 cap3 w3 hown3 hgrow3 hat3 hlt3
        have hA3 : Blk w3 A 64 #[.slice (some ⟨gc, 0, none⟩) n ccap, fv, rv, .int .i64 (live - (m : Int))] := Blk.grown (hA2.alloc _) hgrow3 (fun e => own_blk_ne hgone2 hA2 (by decide) e.symm)
        have hcs3 := (HS2.out.alloc (.cells #[.int .i64 ((i : Int) + 1)] 3)).kept hgrow3 (own_ne HS2.out HG2.out (by decide))
        have hcs4 := own_set hcs3 hA3 (by decide) 3 (.int .i64 (live - (m : Int) - 1))
        have x3 : w3.cell? ⟨A, 3, none⟩ = some (.int .i64 (live - (m : Int))) := by rw [hA3.cell]; rfl
        have z3 := hA3.frozen 3
        have hAl := hA3.lt
        have hlv2 := hlv
        have wl : IntKind.i64.wrap (live - (m : Int) - 1) = live - (m : Int) - 1 := IntWalk.i64_in _ (by omega)
        have d1 := (hcs4.cellAt (i * 2 + 1) (by omega)).trans HQ.out
        have fd1 := hcs4.frozenAt (i * 2 + 1)
        have hgl4 := (hcs4.lt gc rfl).2
        have hgo := SwI.go (o := .cells #[.int .i64 ((i : Int) + 1)] 3) HN.out HW.out.2.2.2.2.1 HI.out hiL HC.out HW.out.1 HW.out.2.1 HW.out.2.2.1 (HW.out.2.2.2.2.2.2 gc rfl) HW.out.2.2.2.1 hgrow3 (by rw [HM.out]; exact hown3)
        rw [HM.out] at hgo
        have HG := Lib.hid hgo
        clear hgo hcs3 hcs4 hA3 hA2 hgrow3 hown3 hat3 hlt3 hgone2 hnews c0 c1 fz0 fz1 xa hGo hMe e0 f0 hgz1 hsz hsz2 hsz3
        go_wp2
        go_roundw
        case rel => exact ⟨i + 1, by omega, by first | rfl | rw [Int.natCast_add], HG.out⟩
        case measure => simp only [intOf]; omega
    · obtain rfl : i = n := by omega
      have L1 : decide ((i : Int) < (i : Int)) = false := by simp
      rw [show (i : Nat) = cs.length from HN.out.symm] at hI
      have hJ0 : SwJ w wr A B (.slice ca cs.length ccap) fv rv u3 cs fr ro live nd 0 fv := by
        obtain ⟨h1, h2, h3, h4⟩ := hI
        rw [List.take_length] at h1 h2 h3
        rw [List.drop_length, List.append_nil] at h1
        exact ⟨by rw [List.take_zero, List.append_nil]; exact h1, h2, h3, h4.mono fun k _ e => by
          rcases e with e | e | e | e
          · exact .inl e
          · exact .inr (.inl e)
          · exact .inr (.inr (.inr (.inl e)))
          · exact .inr (.inr (.inr (.inr e))), fun g hg => .inl hg, fun g hg e => by have := (h2.lt g hg).1; have := HW.out.1 g e; omega⟩
      obtain ⟨ga, gcap, rfl, hga⟩ := own_shape hJ0.gone
      obtain ⟨m, hm⟩ : ∃ m, (goneL 0 cs).length = m := ⟨_, rfl⟩
      have hmn := goneL_le 0 cs
      have hnn := HN.out
      have HJ := Lib.hid hJ0
      have HM := Lib.hid hm
      rw [hm] at hga hmn ⊢
      have w1 : IntKind.i64.wrap ((m : Int) - 1) = (m : Int) - 1 := IntWalk.i64_in _ (by omega)
      clear hI hJ0 hm hst hca
      obtain ⟨wA, hwA⟩ : ∃ x, x = wr := ⟨_, rfl⟩
      subst hwA
      go_wp2_with fail
      go_loopw [8] (fun vi wr => ∃ (j : Nat) (fv' : Value), j ≤ m ∧ vi = .int .i64 ((m : Int) - 1 - j) ∧ SwJ w wr A B (.slice ca cs.length ccap) fv rv (.slice ga (goneL 0 cs).length gcap) cs fr ro live nd j fv') (fun vi _ => (intOf vi + 1).toNat)
      case atStart => exact ⟨0, fv, by omega, by simp, HJ.out⟩
      case round =>
        obtain ⟨j, fv', hjm, rfl, hJ⟩ := hrel
        by_cases hlt2 : j < m
        · have L2 : decide ((0 : Int) ≤ (m : Int) - 1 - (j : Int)) = true := by simp; omega
          obtain ⟨gg, rfl⟩ := hga (by omega)
          obtain ⟨fa, fcap, rfl, _⟩ := own_shape hJ.ar.free
          obtain ⟨nf, hnf⟩ : ∃ nf, (fr ++ (goneL 0 cs).reverse.take j).length = nf := ⟨_, rfl⟩
          have hnfb : nf ≤ 2000000 := by
            rw [← hnf, List.length_append]
            have := List.length_take_le j (goneL 0 cs).reverse
            omega
          have hfree := hJ.ar.free
          have x1 : wr.cell? ⟨A, 1, none⟩ = some (.slice fa (fr ++ (goneL 0 cs).reverse.take j).length fcap) := by rw [hJ.ar.blk.cell]; rfl
          rw [hnf] at x1 hfree
          have z1 := hJ.ar.blk.frozen 1
          have hAl := hJ.ar.blk.lt
          obtain ⟨idx, hidx⟩ : ∃ k : Nat, m - 1 - j = k := ⟨_, rfl⟩
          have e1 : (m : Int) - 1 - (j : Int) = (idx : Int) := by omega
          obtain ⟨gv, hgv⟩ : ∃ gv, (goneL 0 cs).getD idx 0 = gv := ⟨_, rfl⟩
          have gc1 : wr.cell? ⟨gg, idx, none⟩ = some (.int .i64 gv) := by
            rw [hJ.gone.cellAt idx (by rw [HM.out]; omega), numCells_get _ _ (by rw [HM.out]; omega), hgv]
          have hggA : gg ≠ A := fun e => own_blk hJ.gone hJ.ar.blk (by decide) (by rw [← e]; rfl)
          have y0 : (0 : Int) ≤ (idx : Int) := by omega
          have y1 : (idx : Int) < (m : Int) := by omega
          have y2 : ((idx : Int)).toNat = idx := by omega
          have w2 : IntKind.i64.wrap ((idx : Int) - 1) = (idx : Int) - 1 := IntWalk.i64_in _ (by omega)
          have hsz := hJ.upd.size
          rw [HM.out, e1]
          rw [e1] at L2
          have HJ2 := Lib.hid (And.intro hJ hnf)
          have HF2 := Lib.hid hfree
          clear hJ hnf
          go_upto_region 18 with fail
          go_region_law ((refine step_append_lies _ (by rfl) _ _ _ (by rfl) B 3 i0 _ 1 8 Try.underlying22 hi hz0 hz1 hz2 rfl (by omega) (.slice fa nf fcap) nf (numCells (fr ++ (goneL 0 cs).reverse.take j)) (by rfl) ((HF2.out.alloc _).drew) ⟨wr.heap.size, 0, none⟩ 1 1 [.int .i64 gv] (by rfl) (by rfl) (World.news_of_block (cs := #[.int .i64 gv]) (t := 3) (fr := (0, 0)) (heap_alloc_new wr _)) (by simp [Value.oneCell']) (by omega) (by unfold maxLen; omega) (by omega) (by simp; omega) (wr.heap.size + 1) (by simp) ?_; intro gq capq w1 hown1 hgrow hat hlt; have hA1 := HJ2.out.1.mid (by rw [HJ2.out.2]; exact hgrow); have d1 : w1.cell? ⟨A, 1, none⟩ = some (.slice fa nf fcap) := (by rw [hA1.cell]; simp [HJ2.out.2]); have e1 := hA1.frozen 1; have f1 := hA1.lt))
          all_goals
            have hst := HJ2.out.1.step (o := .cells #[.int .i64 gv] 3) (by rw [HM.out]; exact hlt2) HJ2.out.2 (by rw [HJ2.out.2]; exact hgrow) (by rw [HM.out, hidx, hgv]; exact hown1) (by rw [HJ2.out.2]; exact hat)
            have HS := Lib.hid hst
            clear hst hown1 hgrow hat hlt hA1 d1 e1 f1 x1 z1 gc1
            go_wp2
            go_roundw
            case rel =>
              refine ⟨j + 1, .slice (some ⟨gq, 0, none⟩) (nf + 1) capq, by omega, by congr 1; omega, ?_⟩
              have hh := HS.out
              rw [HM.out] at hh
              exact hh
            case measure => simp only [intOf]; omega
        · obtain rfl : j = m := by omega
          have L2 : decide ((0 : Int) ≤ (j : Int) - 1 - (j : Int)) = false := by rw [decide_eq_false_iff_not]; omega
          have HJ2 := Lib.hid hJ
          clear hJ
          go_wp2
          have hJ := HJ2.out
          have hlen : (goneL 0 cs).length = j := HM.out
          rw [hlen] at hJ
          refine bodyPost_ret (v := .slice ga j gcap) (by simp [results, Try.results30, go_sem]) rfl ?_
          have h1 := hJ.ar
          have h2 := hJ.gone
          rw [List.take_of_length_le (by rw [List.length_reverse]; omega)] at h1
          rw [hlen] at h2
          refine ⟨_, fv', rfl, by rw [hlen]; exact h2, ?_, hJ.nodes, ?_, hJ.new, fun g hg => ⟨hJ.far g hg, (h2.lt g hg).1⟩⟩
          · rw [← HN.out]; exact h1
          · rw [← HN.out]; exact hJ.upd
end Go.Proofs.Ythcdhiknjpfmhaa
